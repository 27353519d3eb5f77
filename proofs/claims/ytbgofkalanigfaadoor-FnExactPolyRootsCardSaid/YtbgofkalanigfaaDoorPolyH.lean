/-
  THE WALKS: division with remainder on both sides.
-/
import Derived.Test.YtbgofkalanigfaaDoorPolyG
namespace Go.Proofs.YtbgofkalanigfaaDoor
open Go.RowKit

/-- What a division leaves: two new slices of ints, apart. -/
def RetII (w : World) (q r : List Int) (e : Ending) (w' : World) : Prop :=
  ∃ A c B d, e = .returned (.tuple #[.slice A q.length c, .slice B r.length d]) ∧ IS w' A c q ∧ IS w' B d r ∧ Fresh w.heap.size A ∧ Fresh w.heap.size B ∧ (∀ b, b ∈ fpA A → b ∈ fpA B → False) ∧ Below w.heap.size w w'

/-- Quotient and remainder, trimmed. -/
def qrM (p : Int) (f g : List Int) : List Int × List Int := if f.length < g.length then ([], f) else (trimZ (divM p f g).1, trimZ (divM p f g).2)
theorem qrM_lt {p : Int} {f g : List Int} (h : f.length < g.length) : qrM p f g = ([], f) := if_pos h
theorem qrM_ge {p : Int} {f g : List Int} (h : ¬ f.length < g.length) : qrM p f g = (trimZ (divM p f g).1, trimZ (divM p f g).2) := if_neg h
theorem divM_ge {p : Int} {f g : List Int} (h : ¬ f.length < g.length) : divM p f g = divFrom p g (invM p (g.getD (g.length - 1) 0)) (f.length - g.length + 1) (List.replicate (f.length - g.length + 1) 0) f := if_neg h

theorem IS.drewN {w : World} {A : Option Addr} {c : Nat} {l : List Int} (h : IS w A c l) (n : Nat) : IS (w.drewN n) A c l := h

theorem RdI.lastD {w : World} {A : Option Addr} {l : List Int} (h : RdI w A l) (hl : 0 < l.length) : ∃ ad, A = some ad ∧ w.cell? (ad.add (l.length - 1)) = some (.int .i64 (l.getD (l.length - 1) 0)) := by
  obtain ⟨ad, x, hA, hx, hc⟩ := h.at_ (j := l.length - 1) (by omega)
  exact ⟨ad, hA, by rw [getD_of_some hx]; exact hc⟩

set_option maxHeartbeats 2000000 in
theorem poDiv_any (p : Int) (A B : Option Addr) (ca cb : Nat) (f g : List Int) (w : World) (hA : RdI w A f) (hB : RdI w B g) (hfl : f.length ≤ 1048576) (hgl : g.length ≤ 1048576)
    (hp : fieldB p = true) (hf : Res p f) (hg : Res p g) (hfl0 : f.getLast? ≠ some 0) (hgl0 : g.getLast? ≠ some 0) (hgp : 0 < g.length) :
    Calls Tryd.prog 41 #[.int .i64 p, .slice A f.length ca, .slice B g.length cb] w (RetII w (qrM p f g).1 (qrM p f g).2) := by
  have hpb := fieldB_bounds hp
  have hlc := last_res hp hg hgl0 hgp
  have hinv := invM_spec hp hlc.1 hlc.2
  obtain ⟨bd, hBe, hcl⟩ := hB.lastD hgp
  obtain ⟨lc, hlcE⟩ : ∃ lc, lc = g.getD (g.length - 1) 0 := ⟨_, rfl⟩
  rw [← hlcE] at hlc hinv hcl
  obtain ⟨iv, hivE⟩ : ∃ iv, iv = invM p lc := ⟨_, rfl⟩
  have hI := fun W => fdInv_any p lc W hp hlc.1 hlc.2
  rw [← hivE] at hI
  have HI := Lib.hid hI
  have HLC := Lib.hid hlcE
  have HIV := Lib.hid hivE
  rw [← hivE] at hinv
  subst hBe
  clear hlcE hivE hI
  by_cases hlt : f.length < g.length
  · rw [qrM_lt hlt]
    have hge : ¬ (g.length : Int) ≤ (f.length : Int) := by omega
    go_enter Tryd.func41, Tryd.ntmps41
    go_wp2_with (fail)
    refine (l1Own_any A ca f w hA (by omega)).mono ?_
    rintro e w1 ⟨A1, c1, rfl, h1, hf1, hb1⟩
    have hcl1 := (hb1.cell (World.block_lt_of_cell? w _ hcl)).trans hcl
    go_wp2_with (fail)
    refine (HI.out _).mono ?_
    rintro e w' ⟨rfl, rfl⟩
    go_wp2_with (fail)
    have hneg : ¬ (0 : Int) ≤ -1 := by omega
    refine wp_loop_rounds 1 ?_
    rw [rounds_succ]
    go_wp2_with (fail)
    have hnil : IS w1 none 0 [] := Sl.nil _ _ _
    refine (poTrim_any none 0 [] w1 hnil (by simp)).mono ?_
    rintro e w2 ⟨A2, c2, rfl, h2, hf2, hb2⟩
    go_wp2_with (fail)
    refine (poTrim_any A1 c1 f w2 (h1.below hb2) (by omega)).mono ?_
    rw [trimZ_of_last hfl0]
    rintro e w3 ⟨A3, c3, rfl, h3, hf3, hb3⟩
    go_wp2_with (fail)
    go_ret2
    refine ⟨A2, c2, A3, c3, rfl, h2.below hb3, h3, hf2.mono hb1.size, hf3.mono (Nat.le_trans hb1.size hb2.size), ?_, below_trans hb1 (below_trans hb2 hb3 hb2.size) hb1.size⟩
    intro b hb hb'
    have := h2.lt b hb
    have := hf3 b hb'
    omega
  · rw [qrM_ge hlt, divM_ge hlt]
    obtain ⟨N, hN⟩ : ∃ N, N = f.length - g.length + 1 := ⟨_, rfl⟩
    have hNn : N + g.length = f.length + 1 := by omega
    rw [← hN, ← HLC.out, ← HIV.out]
    obtain ⟨D, hD⟩ : ∃ D, D = divFrom p g iv N (List.replicate N 0) f := ⟨_, rfl⟩
    rw [← hD]
    have HD := Lib.hid hD
    have HN := Lib.hid hN
    have HNn := Lib.hid hNn
    have hNl : N ≤ 1048576 := by omega
    have hNf : N ≤ f.length := by omega
    have hge : (g.length : Int) ≤ (f.length : Int) := by omega
    clear hD hN hNn hlt
    go_enter Tryd.func41, Tryd.ntmps41
    go_wp2_with (fail)
    refine (l1Own_any A ca f w hA (by omega)).mono ?_
    rintro e w1 ⟨A1, c1, rfl, h1, hf1, hb1⟩
    go_wp2_with (at_make; refine wpList_make_Sl _ rfl _ _ _ rfl 3 Tryd.underlying22 info_int N N rfl rfl (by have := HNn.out; omega) (by have := HNn.out; omega) (Nat.le_refl _) (by omega) (by unfold maxLen; omega) ?_; intro G w2 hs hG hb2; have hcl2 := ((below_trans hb1 hb2 hb1.size).cell (World.block_lt_of_cell? w _ hcl)).trans hcl)
    have hq0 : IS w2 (some G) N (List.replicate N 0) := by unfold IS; rw [← madeZeros]; simpa using hs
    clear hs
    have hb02 := below_trans hb1 hb2 hb1.size
    have hB2 := hB.below hb02
    have hr0 := h1.below hb2
    have hG1 : ∀ b, b ∈ fpA A1 → b ≠ G.block := by
      intro b hb e
      have := h1.lt b hb
      omega
    have hBlt : ∀ b, b ∈ fpA (some bd) → b < w.heap.size := by
      obtain ⟨ad, x, hA', hx, hc⟩ := hB.at_ hgp
      exact hB.block_lt hx
    clear hcl2
    have hBd : ∀ b, b ∈ fpA (some bd) → ¬ (b = G.block ∨ b ∈ fpA A1) := by
      intro b hb e
      have := hBlt b hb
      rcases e with e | e
      · have := hb1.size; omega
      · have := hf1 b e; omega
    refine (HI.out _).mono ?_
    rintro e w' ⟨rfl, rfl⟩
    go_wp2_with (fail)
    go_loopw [11] (fun v wr => ∃ (i : Nat) (q r : List Int), i ≤ N ∧ v = .int .i64 ((i : Int) - 1) ∧ q.length = N ∧ r.length = f.length ∧ Res p q ∧ Res p r ∧ IS wr (some G) N q ∧ IS wr A1 c1 r ∧ Keeps (fun b => b = G.block ∨ b ∈ fpA A1) w2 wr ∧ divFrom p g iv i q r = D)
      (fun v _ => (intOf v + 1).toNat)
    case atStart => exact ⟨N, _, _, Nat.le_refl _, rfl, by simp, rfl, Res.replicate (by omega) _, hf, hq0, hr0, Keeps.refl _ _, HD.out.symm⟩
    case round =>
      obtain ⟨i, q, r, hiN, rfl, hql, hrl, hqr, hrr, hqs, hrs, hk, hd⟩ := hrel
      rcases i with _ | i
      · have hdd : (q, r) = D := hd
        subst hdd
        have HQL := Lib.hid hql
        have HRL := Lib.hid hrl
        clear hd hql hrl
        have t1 := poTrim_any (some G) N q wr hqs (by rw [HQL.out]; omega)
        rw [HQL.out] at t1
        have T1 := Lib.hid t1
        clear t1
        go_wp2_with (fail)
        refine T1.out.mono ?_
        rintro e w3 ⟨A3, c3, rfl, h3, hf3, hb3⟩
        have t2 := poTrim_any A1 c1 r w3 (hrs.below hb3) (by rw [HRL.out]; omega)
        rw [HRL.out] at t2
        have T2 := Lib.hid t2
        clear t2
        go_wp2_with (fail)
        refine T2.out.mono ?_
        rintro e w4 ⟨A4, c4, rfl, h4, hf4, hb4⟩
        go_wp2_with (fail)
        go_ret2
        have hsz : w.heap.size ≤ wr.heap.size := Nat.le_trans hb02.size hk.size
        refine ⟨A3, c3, A4, c4, rfl, h3.below hb4, h4, hf3.mono hsz, hf4.mono (Nat.le_trans hsz hb3.size), ?_, below_trans (below_keeps hb02 hk hb02.size ?_) (below_trans hb3 hb4 hb3.size) hsz⟩
        · intro b hb hb'
          have := h3.lt b hb
          have := hf4 b hb'
          omega
        · intro b hb
          rcases hb with rfl | hb
          · exact Nat.le_trans hb1.size hG
          · exact hf1 b hb
      · have hkb : 0 ≤ r.getD (i + g.length - 1) 0 * iv % p ∧ r.getD (i + g.length - 1) 0 * iv % p < p := ⟨Int.emod_nonneg _ (by omega), Int.emod_lt_of_pos _ (by omega)⟩
        obtain ⟨rd, z0, hA1e, hz0, _, hrc, _⟩ := hrs.at_ (j := i + g.length - 1) (by have := HNn.out; omega)
        have hz0b := hrr z0 (List.mem_of_getElem? hz0)
        rw [divFrom] at hd
        rw [getD_of_some hz0] at hkb hd
        obtain ⟨kk, hkk⟩ : ∃ kk, kk = z0 * iv % p := ⟨_, rfl⟩
        rw [← hkk] at hkb hd
        obtain ⟨gd, y0, hGe, _, _, hgc, hgf⟩ := hqs.at_ (j := i) (by omega)
        obtain rfl := Option.some.inj hGe
        have hqf := hgf i
        have hq1 := hqs.set (ad := G) rfl (j := i) kk (by omega)
        have hw0 : Below w.heap.size w wr := below_keeps hb02 hk hb02.size (fun b hb => by
          rcases hb with rfl | hb
          · exact Nat.le_trans hb1.size hG
          · exact hf1 b hb)
        have hr1 : IS (wr.setCell (G.add i) (.int .i64 kk)) A1 c1 r := hrs.keeps (S := fun b => b = G.block) ((Keeps.refl _ wr).setCell (by rw [block_of_add]) _) (fun b hb e => hG1 b hb e)
        have hk1 : Keeps (fun b => b = G.block ∨ b ∈ fpA A1) w2 (wr.setCell (G.add i) (.int .i64 kk)) := hk.setCell (by left; rw [block_of_add]) _
        have HKK := Lib.hid hkk
        have HQL := Lib.hid hql
        have HRL := Lib.hid hrl
        have HDD := Lib.hid hd
        have HQ1 := Lib.hid hq1
        have HR1 := Lib.hid hr1
        have HK1 := Lib.hid hk1
        have b1 : (0 : Int) ≤ (i : Int) + (g.length : Int) - 1 := by omega
        have b2 : (i : Int) + (g.length : Int) - 1 < (f.length : Int) := by have := HNn.out; omega
        have b3 : ((i : Int) + (g.length : Int) - 1).toNat = i + g.length - 1 := by omega
        have b4 : (i : Int) < (N : Int) := by omega
        have cm : ∀ W, Calls Tryd.prog 51 #[.int .i64 p, .int .i64 z0, .int .i64 iv] W fun e w' => e = .returned (.int .i64 kk) ∧ W = w' := by
          intro W; rw [HKK.out]; exact fdMul_any p z0 iv W (by omega) hz0b.1 (by omega) (by omega) (by omega)
        have CM := Lib.hid cm
        subst hA1e
        clear hkk hql hrl hd hq1 hr1 hk1 hz0 cm hgf hqs hrs hk hGe
        go_wp2_with (fail)
        refine (CM.out _).mono ?_
        rintro e w' ⟨rfl, rfl⟩
        go_wp2_with (fail)
        obtain ⟨w5, hw5⟩ : ∃ w5, w5 = wr.setCell (G.add i) (.int .i64 kk) := ⟨_, rfl⟩
        rw [← hw5] at HQ1 HR1 HK1
        rw [← hw5]
        clear hw5 hrc hgc hqf
        have hDl : (r.drop i).length = f.length - i := by rw [List.length_drop, HRL.out]
        have hTl : (r.take i).length = i := by rw [List.length_take, HRL.out]; omega
        have HDL := Lib.hid hDl
        have HTL := Lib.hid hTl
        have hin : i + g.length ≤ f.length := by have := HNn.out; omega
        have hrG : rd.block ≠ G.block := hG1 _ (by simp)
        clear hDl hTl
        go_loopw [61] (fun v wr => ∃ j : Nat, j ≤ g.length ∧ v = .int .i64 j ∧ IS wr (some rd) c1 (r.take i ++ ((addT p (r.drop i) (-kk) g).take j ++ (r.drop i).drop j)) ∧ IS wr (some G) N (q.set i kk) ∧ Keeps (fun b => b = G.block ∨ b ∈ fpA (some rd)) w2 wr) (fun v _ => g.length - (intOf v).toNat)
        case atStart => exact ⟨0, Nat.zero_le _, rfl, by have := HR1.out; simpa using this, HQ1.out, HK1.out⟩
        case round =>
          obtain ⟨j, hj, rfl, his, hqs, hks⟩ := hrel
          have hll : (r.take i ++ ((addT p (r.drop i) (-kk) g).take j ++ (r.drop i).drop j)).length = f.length := by
            rw [List.length_append, len_take_drop (by simp) (by rw [HDL.out]; omega), HTL.out, HDL.out]; omega
          by_cases hltj : j < g.length
          · obtain ⟨bd', y, hB', hy, hcb⟩ := (hB2.keeps hks hBd).at_ hltj
            obtain rfl := Option.some.inj hB'
            obtain ⟨ad', z, hG', hz, _, hcg, hf'⟩ := his.at_ (j := i + j) (by omega)
            obtain rfl := Option.some.inj hG'
            rw [List.getElem?_append_right (by rw [HTL.out]; omega), HTL.out, Nat.add_sub_cancel_left, get_take_drop (by simp) (by rw [HDL.out]; omega)] at hz
            have hfz := hf' (i + j)
            have hyb := hg y (List.mem_of_getElem? hy)
            have hzb := (hrr.drop i) z (List.mem_of_getElem? hz)
            have his3 := his.set (ad := rd) rfl (j := i + j) ((z - kk * y) % p) (by omega)
            have q1 := Int.emod_nonneg (kk * y) (show p ≠ 0 by omega)
            have q2 := Int.emod_lt_of_pos (kk * y) (show 0 < p by omega)
            rw [set_append_mid HTL.out, take_append_step (by simp) (by rw [addT_get hz hy, Int.neg_mul, ← Int.sub_eq_add_neg])] at his3
            have hqs3 : IS (wr.setCell (rd.add (i + j)) (.int .i64 ((z - kk * y) % p))) (some G) N (q.set i kk) := hqs.keeps (S := fun b => b = rd.block) ((Keeps.refl _ wr).setCell (by rw [block_of_add]) _) (fun b hb e => by simp at hb; omega)
            have hks3 := hks.setCell (p := rd.add (i + j)) (by right; rw [block_of_add]; simp) (.int .i64 ((z - kk * y) % p))
            have HI3 := Lib.hid his3
            have HQ3 := Lib.hid hqs3
            have HK3 := Lib.hid hks3
            have c1 := stillC (fdMul_any p kk y wr.drew (by omega) hkb.1 (by omega) hyb.1 (by omega))
            have c2 := stillC (fdSub_any p z (kk * y % p) wr.drew (by omega) (by omega) (by omega) (by omega) (by omega) (by omega))
            have C1 := Lib.hid c1
            have C2 := Lib.hid c2
            have d1 : (0 : Int) ≤ (i : Int) + (j : Int) := by omega
            have d2 : (i : Int) + (j : Int) < (f.length : Int) := by omega
            have d3 : ((i : Int) + (j : Int)).toNat = i + j := by omega
            clear his3 hqs3 hks3 c1 c2 his hqs hks hll hf' hz hy hG' hB'
            go_wp2_with (fail)
            refine wp_region_still_tail 17 (by kernel_rfl) (by kernel_rfl) ?_
            simp only [List.take_succ_cons, List.take_zero, List.drop_succ_cons, List.drop_zero]
            change wpStill _ _ wr.drew (fun a' => wpList _ _ _ _ a' wr.drew) _ _
            have ws : IntKind.i64.wrap ((i : Int) + (j : Int)) = (i : Int) + (j : Int) := IntWalk.i64_in _ (by omega)
            repeat still_step
            still_call C1.out
            repeat still_step
            still_call C2.out
            repeat still_step
            refine wpStill_nil ?_
            clear ws
            go_wp2_with (fail)
            go_roundw
            case rel => exact ⟨j + 1, by omega, by go_num, HI3.out.drewN 1, HQ3.out.drewN 1, HK3.out.drew⟩
            case measure => simp [intOf]; omega
          · obtain rfl : j = g.length := by omega
            rw [addT_take_end (by rw [HDL.out]; omega)] at his
            have hd' : divFrom p g iv i (q.set i kk) (addAt p r i (-kk) g) = D := HDD.out
            have hl2 : (addAt p r i (-kk) g).length = f.length := by rw [addAt_length _ _ _ _ _ (by rw [HRL.out]; omega), HRL.out]
            have hi2 : IS wr (some rd) c1 (addAt p r i (-kk) g) := his
            clear his hll
            go_wp2_with (fail)
            go_roundw
            case rel => exact ⟨i, q.set i kk, addAt p r i (-kk) g, by omega, by go_num, by rw [List.length_set]; exact HQL.out, hl2, hqr.set hkb i, hrr.addAt (by omega), hqs, hi2, hks, hd'⟩
            case measure => simp [intOf]

set_option maxHeartbeats 2000000 in
theorem polyDivide_any (p : Int) (A B : Option Addr) (ca cb : Nat) (f g : List Int) (w : World) (hA : RdI w A f) (hB : RdI w B g) (hfl : f.length ≤ 1048576) (hgl : g.length ≤ 1048576)
    (hp : fieldB p = true) (hf : Res p f) (hg : Res p g) (hgl0 : g.getLast? ≠ some 0) (hgp : 0 < g.length) :
    Calls Tryd.prog 42 #[.int .i64 p, .slice A f.length ca, .slice B g.length cb] w (RetII w (qrM p f g).1 (qrM p f g).2) := by
  have hpb := fieldB_bounds hp
  have hlc := last_res hp hg hgl0 hgp
  have hinv := invM_spec hp hlc.1 hlc.2
  obtain ⟨bd, hBe, hcl⟩ := hB.lastD hgp
  obtain ⟨lc, hlcE⟩ : ∃ lc, lc = g.getD (g.length - 1) 0 := ⟨_, rfl⟩
  rw [← hlcE] at hlc hinv hcl
  obtain ⟨iv, hivE⟩ : ∃ iv, iv = invM p lc := ⟨_, rfl⟩
  have hI := fun W => inverse_any p lc W (by omega) (by omega) (by omega) hlc.2
  rw [← hivE] at hI
  have HI := Lib.hid hI
  have HLC := Lib.hid hlcE
  have HIV := Lib.hid hivE
  rw [← hivE] at hinv
  subst hBe
  clear hlcE hivE hI
  by_cases hlt : f.length < g.length
  · rw [qrM_lt hlt]
    have hge : (f.length : Int) < (g.length : Int) := by omega
    go_enter Tryd.func42, Tryd.ntmps42
    go_wp2_with (fail)
    refine (clone_any A ca f w hA (by omega)).mono ?_
    rintro e w1 ⟨A1, c1, rfl, h1, hf1, hb1⟩
    have hlit := Sl.laid w1 3 1 0 #[] (Nat.zero_le _) rfl
    have hb2 : Below w1.heap.size w1 (w1.alloc (.cells #[] 3)) := (Below.refl _ _).alloc (Nat.le_refl _) _
    go_wp2_with (fail)
    go_ret2
    refine ⟨some ⟨w1.heap.size, 0, none⟩, 0, A1, c1, rfl, hlit, h1.below hb2, fun b hb => by simp at hb; have := hb1.size; omega, hf1, ?_, below_trans hb1 hb2 hb1.size⟩
    intro b hb hb'
    simp at hb
    have := h1.lt b hb'
    omega
  · rw [qrM_ge hlt, divM_ge hlt]
    obtain ⟨N, hN⟩ : ∃ N, N = f.length - g.length + 1 := ⟨_, rfl⟩
    have hNn : N + g.length = f.length + 1 := by omega
    rw [← hN, ← HLC.out, ← HIV.out]
    obtain ⟨D, hD⟩ : ∃ D, D = divFrom p g iv N (List.replicate N 0) f := ⟨_, rfl⟩
    rw [← hD]
    have HD := Lib.hid hD
    have HN := Lib.hid hN
    have HNn := Lib.hid hNn
    have hNl : N ≤ 1048576 := by omega
    have hNf : N ≤ f.length := by omega
    have hge : ¬ (f.length : Int) < (g.length : Int) := by omega
    have hge' : (g.length : Int) ≤ (f.length : Int) := by omega
    have z1 := fun W => zeros_any N W (by omega)
    have z2 : ∀ W, Calls Tryd.prog 55 #[.int .i64 ((f.length : Int) - (g.length : Int) + 1)] W (RetI W (List.replicate N 0)) := by
      intro W; rw [show (f.length : Int) - (g.length : Int) + 1 = (N : Int) by omega]; exact z1 W
    have HZ := Lib.hid z2
    clear hD hN hNn hlt z1 z2
    go_enter Tryd.func42, Tryd.ntmps42
    go_wp2_with (fail)
    refine (clone_any A ca f w hA (by omega)).mono ?_
    rintro e w1 ⟨A1, c1, rfl, h1, hf1, hb1⟩
    go_wp2_with (fail)
    refine (HZ.out _).mono ?_
    rintro e w2 ⟨AG, cG, rfl, hq0, hfG, hb2⟩
    rw [List.length_replicate]
    have hcl2 := ((below_trans hb1 hb2 hb1.size).cell (World.block_lt_of_cell? w _ hcl)).trans hcl
    have hb02 := below_trans hb1 hb2 hb1.size
    have hB2 := hB.below hb02
    have hr0 := h1.below hb2
    have hG1 : ∀ b, b ∈ fpA A1 → ¬ b ∈ fpA AG := by
      intro b hb e
      have := h1.lt b hb
      have := hfG b e
      omega
    have hBlt : ∀ b, b ∈ fpA (some bd) → b < w.heap.size := by
      obtain ⟨ad, x, hA', hx, hc⟩ := hB.at_ hgp
      exact hB.block_lt hx
    have hBd : ∀ b, b ∈ fpA (some bd) → ¬ (b ∈ fpA AG ∨ b ∈ fpA A1) := by
      intro b hb e
      have := hBlt b hb
      rcases e with e | e
      · have := hfG b e; have := hb1.size; omega
      · have := hf1 b e; omega
    go_wp2_with (fail)
    refine (HI.out _).mono ?_
    rintro e w' ⟨rfl, rfl⟩
    clear hcl2
    go_wp2_with (fail)
    go_loopw [11] (fun v wr => ∃ (i : Nat) (q r : List Int), i ≤ N ∧ v = .int .i64 ((i : Int) - 1) ∧ q.length = N ∧ r.length = f.length ∧ Res p q ∧ Res p r ∧ IS wr AG cG q ∧ IS wr A1 c1 r ∧ Keeps (fun b => b ∈ fpA AG ∨ b ∈ fpA A1) w2 wr ∧ divFrom p g iv i q r = D)
      (fun v _ => (intOf v + 1).toNat)
    case atStart => exact ⟨N, _, _, Nat.le_refl _, rfl, by simp, rfl, Res.replicate (by omega) _, hf, hq0, hr0, Keeps.refl _ _, HD.out.symm⟩
    case round =>
      obtain ⟨i, q, r, hiN, rfl, hql, hrl, hqr, hrr, hqs, hrs, hk, hd⟩ := hrel
      rcases i with _ | i
      · have hdd : (q, r) = D := hd
        subst hdd
        have HQL := Lib.hid hql
        have HRL := Lib.hid hrl
        clear hd hql hrl
        have t1 := trimmed_any AG cG q wr hqs (by rw [HQL.out]; omega)
        rw [HQL.out] at t1
        have T1 := Lib.hid t1
        have t2 := trimmed_any A1 c1 r wr hrs (by rw [HRL.out]; omega)
        rw [HRL.out] at t2
        have T2 := Lib.hid t2
        clear t1 t2
        go_wp2_with (fail)
        refine T1.out.mono ?_
        rintro e w3 ⟨⟨A3, c3, rfl, h3, hfp3⟩, rfl⟩
        go_wp2_with (fail)
        refine T2.out.mono ?_
        rintro e w4 ⟨⟨A4, c4, rfl, h4, hfp4⟩, rfl⟩
        go_wp2_with (fail)
        go_ret2
        refine ⟨A3, c3, A4, c4, rfl, h3, h4, fun b hb => Nat.le_trans hb1.size (hfG b (hfp3 b hb)), fun b hb => hf1 b (hfp4 b hb), fun b hb hb' => hG1 b (hfp4 b hb') (hfp3 b hb), below_keeps hb02 hk hb02.size ?_⟩
        intro b hb
        rcases hb with hb | hb
        · exact Nat.le_trans hb1.size (hfG b hb)
        · exact hf1 b hb
      · have hkb : 0 ≤ r.getD (i + g.length - 1) 0 * iv % p ∧ r.getD (i + g.length - 1) 0 * iv % p < p := ⟨Int.emod_nonneg _ (by omega), Int.emod_lt_of_pos _ (by omega)⟩
        obtain ⟨rd, z0, hA1e, hz0, _, hrc, _⟩ := hrs.at_ (j := i + g.length - 1) (by have := HNn.out; omega)
        have hz0b := hrr z0 (List.mem_of_getElem? hz0)
        rw [divFrom] at hd
        rw [getD_of_some hz0] at hkb hd
        obtain ⟨kk, hkk⟩ : ∃ kk, kk = z0 * iv % p := ⟨_, rfl⟩
        rw [← hkk] at hkb hd
        obtain ⟨gd, y0, hGe, _, _, hgc, hgf⟩ := hqs.at_ (j := i) (by omega)
        have hqf := hgf i
        have hq1 := hqs.set hGe (j := i) kk (by omega)
        have hw0 : Below w.heap.size w wr := below_keeps hb02 hk hb02.size (fun b hb => by
          rcases hb with hb | hb
          · exact Nat.le_trans hb1.size (hfG b hb)
          · exact hf1 b hb)
        have hr1 : IS (wr.setCell (gd.add i) (.int .i64 kk)) A1 c1 r := hrs.keeps (S := fun b => b ∈ fpA AG) ((Keeps.refl _ wr).setCell (by rw [block_of_add, hGe]; simp) _) (fun b hb e => hG1 b hb e)
        have hk1 : Keeps (fun b => b ∈ fpA AG ∨ b ∈ fpA A1) w2 (wr.setCell (gd.add i) (.int .i64 kk)) := hk.setCell (by left; rw [block_of_add, hGe]; simp) _
        have HKK := Lib.hid hkk
        have HQL := Lib.hid hql
        have HRL := Lib.hid hrl
        have HDD := Lib.hid hd
        have HQ1 := Lib.hid hq1
        have HR1 := Lib.hid hr1
        have HK1 := Lib.hid hk1
        have b1 : (0 : Int) ≤ (i : Int) + (g.length : Int) - 1 := by omega
        have b2 : (i : Int) + (g.length : Int) - 1 < (f.length : Int) := by have := HNn.out; omega
        have b3 : ((i : Int) + (g.length : Int) - 1).toNat = i + g.length - 1 := by omega
        have b4 : (i : Int) < (N : Int) := by omega
        have hgc1 := (hq1.at_ (j := i) (by rw [List.length_set]; omega))
        obtain ⟨gd2, y2, hGe2, hy2, _, hgc2, _⟩ := hgc1
        rw [hGe] at hGe2
        obtain rfl := Option.some.inj hGe2
        rw [List.getElem?_set_self (by omega)] at hy2
        obtain rfl := Option.some.inj hy2
        obtain ⟨m1, m2⟩ := mul_bound (a := z0) (b := iv) hz0b.1 (by omega) (by omega) (by omega)
        have hc1 : f.length ≤ c1 := by have := hrs.2.1; omega
        subst hA1e
        subst hGe
        clear hql hrl hd hq1 hr1 hk1 hz0 hgf hqs hrs hk
        have hkk' := HKK.out
        have hkr : z0 * iv % p = kk := hkk'.symm
        clear hkk hkk'
        go_wp2_with (fail)
        obtain ⟨w5, hw5⟩ : ∃ w5, w5 = wr.setCell (gd.add i) (.int .i64 kk) := ⟨_, rfl⟩
        rw [← hw5] at HQ1 HR1 HK1 hgc2
        rw [← hw5]
        clear hw5 hrc hgc hqf hkr hw0
        have hin : i + g.length ≤ f.length := by have := HNn.out; omega
        have hcut := (HR1.out).cut (l := i) (hgh := f.length) (m := c1) (by omega) (by rw [HRL.out]; exact Nat.le_refl _) hc1 (Nat.le_refl _)
        have hne : ¬ c1 = i := by omega
        rw [if_neg hne] at hcut
        obtain ⟨hcs, hcf, _⟩ := hcut
        have hdl : (r.drop i).length = f.length - i := by rw [List.length_drop, HRL.out]
        have hcs' : IS w5 (some (rd.add i)) (c1 - i) (r.drop i) := by
          unfold IS; rw [hdl]
          simp only [Nat.mul_one, Option.map_some] at hcs
          rw [List.take_of_length_le (by simp [HRL.out])] at hcs
          simpa [ints, List.map_drop] using hcs
        have hB5 := hB2.keeps HK1.out hBd
        have H := addTimes_any p (-kk) (some (rd.add i)) (some bd) (c1 - i) cb (r.drop i) g w5.drew hcs' hB5 (fun _ b hb hb2 => hBd b hb (.inr (hcf b (by simpa using hb2)))) (by omega) (by omega) (by omega) (by omega) (hrr.drop i) hg (by omega) (by omega)
        rw [hdl] at H
        have hE : ints (r.take i) ++ ints (addT p (r.drop i) (-kk) g) = ints (addAt p r i (-kk) g) := by simp [addAt, ints]
        have HH := Lib.hid H
        have HCS := Lib.hid hcs'
        have HCF := Lib.hid hcf
        have HDL := Lib.hid hdl
        have HE := Lib.hid hE
        have d2 : (i : Int) < (f.length : Int) := by omega
        have d3 : (i : Int) ≤ (f.length : Int) := by omega
        clear H hcs hcs' hcf hdl hB5 hE
        go_wp2_with (fail)
        refine wp_region_still_tail 10 (by kernel_rfl) (by kernel_rfl) ?_
        simp only [List.take_succ_cons, List.take_zero, List.drop_succ_cons, List.drop_zero]
        change wpStill _ _ w5.drew (fun a' => wpList _ _ _ _ a' w5.drew) _ _
        repeat still_step
        refine wpStill_nil ?_
        go_wp2_with (fail)
        refine HH.out.mono ?_
        rintro e w6 ⟨rfl, hw6⟩
        have hrs5 : Sl w5.drew 3 1 (some rd) f.length c1 (ints r) := by have := HR1.out; unfold IS at this; rw [HRL.out] at this; exact this
        have hsup := Wr.super hrs5 (HCS.out) (k := i) (new := ints (addT p (r.drop i) (-kk) g)) (by intro _; simp) (fun b hb => HCF.out b (by simpa using hb)) hw6 (by rw [ints_length, addT_length, HDL.out]; omega)
        have hnew : (ints r).take i ++ (ints (addT p (r.drop i) (-kk) g) ++ (ints r).drop (i + (ints (addT p (r.drop i) (-kk) g)).length)) = ints (addAt p r i (-kk) g) := by
          have e : (ints r).drop (i + (ints (addT p (r.drop i) (-kk) g)).length) = [] := List.drop_of_length_le (by rw [ints_length, ints_length, addT_length, HDL.out, HRL.out]; omega)
          rw [e, List.append_nil, ← HE.out]; simp [ints, List.map_take]
        rw [hnew] at hsup
        have hl2 : (addAt p r i (-kk) g).length = f.length := by rw [addAt_length _ _ _ _ _ (by rw [HRL.out]; omega), HRL.out]
        have hr6 : IS w6 (some rd) c1 (addAt p r i (-kk) g) := by
          have := hsup.sl hrs5 (by rw [ints_length, hl2]; omega)
          unfold IS; rw [hl2]; exact this
        have hq6 : IS w6 (some gd) cG (q.set i kk) := (HQ1.out.drewN 1).keeps hw6.1 (fun b hb hb2 => hG1 b (HCF.out b (by simpa using hb2)) hb)
        have hk6 : Keeps (fun b => b ∈ fpA (some gd) ∨ b ∈ fpA (some rd)) w2 w6 := HK1.out.drew.trans (hw6.1.mono (fun b _ hb => .inr (HCF.out b (by simpa using hb))))
        have HD6 : divFrom p g iv i (q.set i kk) (addAt p r i (-kk) g) = D := HDD.out
        clear hsup hnew hw6 hrs5
        have HD7 := Lib.hid HD6
        have HL2 := Lib.hid hl2
        clear HD6 hl2
        go_wp2_with (fail)
        go_roundw
        case rel => exact ⟨i, q.set i kk, addAt p r i (-kk) g, by omega, by go_num, by rw [List.length_set]; exact HQL.out, HL2.out, hqr.set hkb i, hrr.addAt (by omega), hq6, hr6, hk6, HD7.out⟩
        case measure => simp [intOf]
end Go.Proofs.YtbgofkalanigfaaDoor
