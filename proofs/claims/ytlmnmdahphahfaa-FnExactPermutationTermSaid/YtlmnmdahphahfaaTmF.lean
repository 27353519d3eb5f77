/-
  THE WALKS: SubtermAt, both sides.
-/
import Derived.Test.YtlmnmdahphahfaaTmE
namespace Go.Proofs.Ytlmnmdahphahfaa
open Go.RowKit

/-- A term of the call's own and a flag. -/
def Ret2Tm (M : List Nd × Bool) (w : World) (e : Ending) (w' : World) : Prop := ∃ v' fp, e = .returned (.tuple #[v', .bool M.2]) ∧ OwTm w' v' M.1 fp ∧ FreshL w.heap.size fp ∧ Below w.heap.size w w'
theorem Ret2Tm.no {w w' : World} {M : List Nd × Bool} (hM : M = ([], false)) (hb : Below w.heap.size w w') : Ret2Tm M w (.returned (.tuple #[.agg #[.slice none 0 0], .bool false])) w' := by
  subst hM
  exact ⟨_, [], rfl, ⟨none, 0, rfl, Sl.nil _ _ _, rfl⟩, (fun b h => by cases h), hb⟩
/-- A slice expression s[a:b] runs in every world. -/
theorem run_cut {P : Program} {t e : TypeId} {z : Option Value} {sz bytes : Nat} (ht : P.underlying t = some (.slice e)) (hinfo : (P.info? e).map (fun i => (i.zero, i.size, i.bytes)) = some (z, sz, bytes))
    (A : Option Addr) (n c a b : Nat) (x y : Int) (hx : x = (a : Int)) (hy : y = (b : Int)) (h1 : a ≤ b) (h2 : b ≤ c) (W : World) :
    (Instr.sliceAt t (.slice A n c) (some (.int .i64 x)) (some (.int .i64 y)) none).run P W = .ok (.slice (if c = a then A else A.map (·.add (a * sz))) (b - a) (c - a)) W := by
  subst hx hy
  obtain ⟨i, hi', hzz⟩ := Option.map_eq_some_iff.1 hinfo
  simp only [Prod.mk.injEq] at hzz
  have hb : ∀ (k : IntKind) (j y : Nat) (code : BoundsCode), j ≤ y → (Instr.sliceBound (.int k (j : Int)) y code).run P W = .ok j W := by
    intro k j y code hj
    rw [run_sliceBound W k _ y code (by omega) (by omega)]; simp
  have hsb : (Instr.sliceBounds true n c (some (.int .i64 (a : Int))) (some (.int .i64 (b : Int))) none).run P W = .ok (a, b, c) W := by
    unfold Instr.sliceBounds
    simp [hb _ a b _ h1, hb _ b c .sliceAcap h2]
  have hrun : (Instr.slice t (.slice A n c) (some (.int .i64 (a : Int))) (some (.int .i64 (b : Int))) none).run P W = .ok (.slice (if c = a then A else A.map (·.add (a * sz))) (b - a) (c - a)) W := by
    simp only [Instr.slice, Sem.run_bind, run_underlying ht, Result.andThen_ok, hsb]
    simp [sizeOf, typeInfo, hi', hzz.2.1]
  simp [Instr.sliceAt, run_underlying ht, hrun]
/-- The nodes a..b of a list. -/
theorem RdN.cut {w : World} {ad : Addr} {l : List Nd} (h : RdN w (some ad) l) (a b : Nat) : RdN w (some (ad.add (a * 3))) ((l.take b).drop a) := fun j u hj => by
  rw [ncs_drop, ncs_take, List.getElem?_drop, List.getElem?_take] at hj
  split at hj
  · obtain ⟨ad', e, hc⟩ := h _ _ hj
    cases e
    exact ⟨_, rfl, by rw [← hc, add_of_add]⟩
  · cases hj
theorem len_cut {l : List Nd} {a b : Nat} (h : b ≤ l.length) : ((l.take b).drop a).length = b - a := by
  rw [List.length_drop, List.length_take]; omega
theorem keeps_at {w w' : World} {S : Nat → Prop} (hk : Keeps S w w') {a : Addr} {u : Value} (h : w.cell? a = some u) (hS : ¬ S a.block) : w'.cell? a = some u := by
  have hl := World.block_lt_of_cell? w _ h
  have := hk.block a.block hl hS
  unfold World.cell? at h ⊢
  rw [this]; exact h
theorem set1 {w : World} {B : Nat} {t : TypeId} {x : Value} (h : w.heap[B]? = some (.cells #[x] t)) (y : Value) : (w.setCell ⟨B, 0, none⟩ y).heap[B]? = some (.cells #[y] t) ∧ Keeps (· = B) w (w.setCell ⟨B, 0, none⟩ y) :=
  ⟨by simp [World.setCell, Array.getElem?_modify, h], Keeps.setCell (S := fun k => k = B) (Keeps.refl _ w) (p := ⟨B, 0, none⟩) rfl _⟩

set_option maxRecDepth 8000 in
set_option maxHeartbeats 2000000 in
theorem sSubtermAt_any {v : Value} {l : List Nd} {fp : List Nat} {w : World} (a : Int) (h : OwTm w v l fp) :
    Calls Try.prog 26 #[v, .int .i64 a] w (Ret2Tm (subM l a) w) := by
  obtain ⟨A, c, rfl, hN, rfl⟩ := h
  obtain ⟨W, hW⟩ : ∃ W, W = (w.alloc (.cells #[.slice A l.length c] tTerm)).alloc (.cells #[.slice none 0 0] tTerm) := ⟨_, rfl⟩
  obtain ⟨b0, k0, k1, hz⟩ := two_boxes w (.cells #[.slice A l.length c] tTerm) (.cells #[.slice none 0 0] tTerm)
  rw [← hW] at b0 k0 k1 hz
  have hr : RdN W A l := hN.rd.below b0
  have hC := tmScan_any (v := .agg #[.slice A l.length c]) (l := l) (w := W) ⟨A, c, rfl, hr⟩
  have hc := hN.2.1
  obtain ⟨m, hm⟩ : ∃ m, m = l.length := ⟨_, rfl⟩
  rw [← hm] at hC hW k0 hc ⊢
  obtain ⟨M, hM⟩ : ∃ M, M = subM l a := ⟨_, rfl⟩
  rw [← hM]
  clear hN
  have b0_h := Lib.hid b0
  have k0_h := Lib.hid k0
  have k1_h := Lib.hid k1
  have hz_h := Lib.hid hz
  have hr_h := Lib.hid hr
  have hC_h := Lib.hid hC
  have hm_h := Lib.hid hm
  have hM_h := Lib.hid hM
  clear b0 k0 k1 hz hr hC hm hM
  go_enter Try.func26, Try.ntmps26
  go_wp2_with (fail)
  rw [← hW]
  clear hW
  refine (hC_h.out).mono ?_
  rintro e w1 ⟨A0, A1, A2, d0, d1, d2, n0, n1, n2, b, rfl, hb, ht, hb1⟩
  obtain ⟨W2, hW2⟩ : ∃ W2, W2 = w1.alloc (.cells #[.slice A0 n0 d0, .slice A1 n1 d1, .slice A2 n2 d2] tInfo) := ⟨_, rfl⟩
  have hb2 : Below w1.heap.size w1 W2 := by rw [hW2]; exact below_alloc _ _
  have k2 : W2.heap[w1.heap.size]? = some (.cells #[.slice A0 n0 d0, .slice A1 n1 d1, .slice A2 n2 d2] tInfo) := by rw [hW2]; exact heap_alloc_new _ _
  have hB := below_trans (below_trans b0_h.out hb1 b0_h.out.size) hb2 (Nat.le_trans b0_h.out.size hb1.size)
  have q0 := box_below (box_below k0_h.out hb1) hb2
  have q1 := box_below (box_below k1_h.out hb1) hb2
  obtain ⟨s1, s2⟩ := set1 q1 (.slice none 0 0)
  have hz1 := box_lt q1
  have hBs := below_keeps hB s2 hB.size (fun k hk => by omega)
  cases b
  · have hN : treeM l = none := by cases h : treeM l with | none => rfl | some t => rw [h] at hb; cases hb
    have hM0 : M = ([], false) := by rw [hM_h.out]; exact subM_no (.inl hN)
    obtain ⟨c0, f0⟩ := box1 q0
    obtain ⟨c1, f1⟩ := box1 q1
    have hb_h := Lib.hid hb
    have ht_h := Lib.hid ht
    have hb1_h := Lib.hid hb1
    have hN_h := Lib.hid hN
    have hM0_h := Lib.hid hM0
    have hB_h := Lib.hid hB
    have q0_h := Lib.hid q0
    have q1_h := Lib.hid q1
    have s1_h := Lib.hid s1
    have s2_h := Lib.hid s2
    have hBs_h := Lib.hid hBs
    have hb2_h := Lib.hid hb2
    have k2_h := Lib.hid k2
    clear hb ht hb1 hN hM0 hB q0 q1 s1 s2 hBs hb2 k2
    go_upto_region 2 with (fail)
    rw [← hW2]
    clear hW2
    go_wp2_with (fail)
    refine bodyPost_ret (results_cell_tmp rfl _ _ (w.heap.size + 1) _ _ (0, 0) _ rfl s1_h.out Try.underlying30 rfl (by kernel_rfl)) rfl ?_
    exact Ret2Tm.no hM0_h.out hBs_h.out
  · obtain ⟨t, hN⟩ : ∃ t, treeM l = some t := by cases h : treeM l with | none => rw [h] at hb; cases hb | some t => exact ⟨t, rfl⟩
    have hml : m ≤ 400 := by
      obtain ⟨e1, -, e2⟩ := treeM_some hN
      have : m = sz t := by rw [hm_h.out, e1]; rfl
      omega
    have hwm : IntKind.i64.wrap ((m : Int) - 1) = (m : Int) - 1 := IntWalk.i64_in _ (by omega)
    by_cases hin : 0 ≤ a ∧ a ≤ (m : Int) - 1
    · obtain ⟨k, rfl⟩ : ∃ k : Nat, a = (k : Int) := ⟨a.toNat, by omega⟩
      have hI : inB (k : Int) 0 ((m : Int) - 1) = true := decide_eq_true hin
      have hkm : k < m := by omega
      have hkl : k < l.length := by have := hm_h.out; omega
      obtain ⟨P, hP⟩ : ∃ P, P = (l.take (k + 1)).drop (subS l k) := ⟨_, rfl⟩
      have hM1 : M = (P, true) := by rw [hM_h.out, hP]; exact subM_yes hN hkl
      obtain ⟨-, -, hsk, -, -, -, hfr, -, -, -⟩ := sub_at hN hkl
      obtain ⟨s, hs⟩ : ∃ s, s = subS l k := ⟨_, rfl⟩
      rw [← hs] at hP hsk hfr
      obtain ⟨a1, -, -, a4, -, -, a7⟩ := ht t hN
      obtain ⟨ad0, rfl, x0⟩ := a4 k _ (ints_get hfr)
      have hlb := a7 ad0.block (.inl (by simp [fpA]))
      have x2 : W2.cell? (ad0.add k) = some (.int .i64 (s : Int)) := (hb2.cell (World.block_lt_of_cell? w1 _ x0)).trans x0
      have hmt : n0 = m := by rw [a1, hm_h.out, (treeM_some hN).1]; rfl
      subst hmt
      obtain ⟨ad, -, -, -, rfl, -, -⟩ := hr_h.out.at_ (j := 0) (by omega)
      have hrP : RdN W2 (some (ad.add (s * 3))) P := by rw [hP]; exact ((hr_h.out.below hb1).below hb2).cut s (k + 1)
      have hPl : k + 1 - s = P.length := by rw [hP, len_cut (by omega)]
      have hs1 : s ≤ k + 1 := by omega
      have hs2 : ¬ c = s := by omega
      have hs3 : (0 : Int) ≤ (k : Int) + 1 := by omega
      have hs4 : (k : Int) + 1 ≤ (c : Int) := by omega
      have hwk : IntKind.i64.wrap ((k : Int) + 1) = (k : Int) + 1 := IntWalk.i64_in _ (by omega)
      have hk0 : (0 : Int) ≤ (k : Int) := by omega
      have hkc : (k : Int) < (n0 : Int) := by omega
      obtain ⟨c0, f0⟩ := box1 q0
      have hS : W2.heap[w.heap.size]? = some (.cells #[.slice (some ad) n0 c] tTerm) ∧ W2.heap[w1.heap.size]? = some (.cells #[.slice (some ad0) n0 d0, .slice A1 n1 d1, .slice A2 n2 d2] tInfo) ∧ W2.cell? (ad0.add k) = some (.int .i64 (s : Int)) := ⟨q0, k2, x2⟩
      have hb_h := Lib.hid hb
      have ht_h := Lib.hid ht
      have hb1_h := Lib.hid hb1
      have hN_h := Lib.hid hN
      have hB_h := Lib.hid hB
      have q0_h := Lib.hid q0
      have q1_h := Lib.hid q1
      have s1_h := Lib.hid s1
      have s2_h := Lib.hid s2
      have hBs_h := Lib.hid hBs
      have hb2_h := Lib.hid hb2
      have k2_h := Lib.hid k2
      have hP_h := Lib.hid hP
      have hM1_h := Lib.hid hM1
      have hsk_h := Lib.hid hsk
      have hfr_h := Lib.hid hfr
      have a1_h := Lib.hid a1
      have a4_h := Lib.hid a4
      have a7_h := Lib.hid a7
      have x0_h := Lib.hid x0
      have x2_h := Lib.hid x2
      have hrP_h := Lib.hid hrP
      have hPl_h := Lib.hid hPl
      have hS_h := Lib.hid hS
      have hs_h := Lib.hid hs
      clear hb ht hb1 hN hB q0 q1 s1 s2 hBs hb2 k2 hP hM1 hsk hfr a1 a4 a7 x0 x2 hrP hPl hS hs
      go_upto_region 2 with (fail)
      rw [← hW2]
      clear hW2
      go_wp2_with (fail)
      refine (l1In_any _ _ _ _).mono ?_
      rintro e w3 ⟨rfl, rfl⟩
      rw [hI]
      go_wp2_with (fail)
      refine beginH (fun w' => w'.heap[w.heap.size]? = some (.cells #[.slice (some ad) n0 c] tTerm) ∧ w'.heap[w1.heap.size]? = some (.cells #[.slice (some ad0) n0 d0, .slice A1 n1 d1, .slice A2 n2 d2] tInfo) ∧ w'.cell? (ad0.add k) = some (.int .i64 (s : Int))) (by kernel_rfl) ?_
      refine takeH 0 (v := ?_) rfl (by kernel_rfl) (by kernel_rfl) (by kernel_rfl) (fun _ _ _ h => h) hS_h.out (by rfl) (fun W' hW' => ?_) ?_; rotate_left; · (obtain ⟨y0, y1⟩ := box1 hW'.1; obtain ⟨⟨y2, y3, y4⟩, y5, y6, y7⟩ := box3 hW'.2.1; have y8 := hW'.2.2; clear hW'; go_simp; first | done | with_reducible rfl)
      simp only [Act.put, List.setIfInBounds_toArray, List.set_cons_zero, List.set_cons_succ]
      refine takeH 1 (v := ?_) rfl (by kernel_rfl) (by kernel_rfl) (by kernel_rfl) (fun _ _ _ h => h) hS_h.out (by rfl) (fun W' hW' => ?_) ?_; rotate_left; · (obtain ⟨y0, y1⟩ := box1 hW'.1; obtain ⟨⟨y2, y3, y4⟩, y5, y6, y7⟩ := box3 hW'.2.1; have y8 := hW'.2.2; clear hW'; go_simp; first | done | with_reducible rfl)
      simp only [Act.put, List.setIfInBounds_toArray, List.set_cons_zero, List.set_cons_succ]
      refine takeH 2 (v := ?_) rfl (by kernel_rfl) (by kernel_rfl) (by kernel_rfl) (fun _ _ _ h => h) hS_h.out (by rfl) (fun W' hW' => ?_) ?_; rotate_left; · (obtain ⟨y0, y1⟩ := box1 hW'.1; obtain ⟨⟨y2, y3, y4⟩, y5, y6, y7⟩ := box3 hW'.2.1; have y8 := hW'.2.2; clear hW'; go_simp; first | done | with_reducible rfl)
      simp only [Act.put, List.setIfInBounds_toArray, List.set_cons_zero, List.set_cons_succ]
      refine takeH 3 (v := ?_) rfl (by kernel_rfl) (by kernel_rfl) (by kernel_rfl) (fun _ _ _ h => h) hS_h.out (by rfl) (fun W' hW' => ?_) ?_; rotate_left; · (obtain ⟨y0, y1⟩ := box1 hW'.1; obtain ⟨⟨y2, y3, y4⟩, y5, y6, y7⟩ := box3 hW'.2.1; have y8 := hW'.2.2; clear hW'; go_simp; first | done | with_reducible rfl)
      simp only [Act.put, List.setIfInBounds_toArray, List.set_cons_zero, List.set_cons_succ]
      refine takeH 4 (v := ?_) rfl (by kernel_rfl) (by kernel_rfl) (by kernel_rfl) (fun _ _ _ h => h) hS_h.out (by rfl) (fun W' hW' => ?_) ?_; rotate_left; · (obtain ⟨y0, y1⟩ := box1 hW'.1; obtain ⟨⟨y2, y3, y4⟩, y5, y6, y7⟩ := box3 hW'.2.1; have y8 := hW'.2.2; clear hW'; go_simp; first | done | with_reducible rfl)
      simp only [Act.put, List.setIfInBounds_toArray, List.set_cons_zero, List.set_cons_succ]
      refine takeH 5 (v := ?_) rfl (by kernel_rfl) (by kernel_rfl) (by kernel_rfl) (fun _ _ _ h => h) hS_h.out (by rfl) (fun W' hW' => ?_) ?_; rotate_left; · (obtain ⟨y0, y1⟩ := box1 hW'.1; obtain ⟨⟨y2, y3, y4⟩, y5, y6, y7⟩ := box3 hW'.2.1; have y8 := hW'.2.2; clear hW'; go_simp; first | done | with_reducible rfl)
      simp only [Act.put, List.setIfInBounds_toArray, List.set_cons_zero, List.set_cons_succ]
      refine takeH 6 (v := ?_) rfl (by kernel_rfl) (by kernel_rfl) (by kernel_rfl) (fun _ _ _ h => h) hS_h.out (by rfl) (fun W' hW' => ?_) ?_; rotate_left; · (obtain ⟨y0, y1⟩ := box1 hW'.1; obtain ⟨⟨y2, y3, y4⟩, y5, y6, y7⟩ := box3 hW'.2.1; have y8 := hW'.2.2; clear hW'; go_simp; first | done | with_reducible rfl)
      simp only [Act.put, List.setIfInBounds_toArray, List.set_cons_zero, List.set_cons_succ]
      refine takeH 7 (v := ?_) rfl (by kernel_rfl) (by kernel_rfl) (by kernel_rfl) (fun _ _ _ h => h) hS_h.out (by rfl) (fun W' hW' => ?_) ?_; rotate_left; · (obtain ⟨y0, y1⟩ := box1 hW'.1; obtain ⟨⟨y2, y3, y4⟩, y5, y6, y7⟩ := box3 hW'.2.1; have y8 := hW'.2.2; clear hW'; go_simp; first | done | with_reducible rfl)
      simp only [Act.put, List.setIfInBounds_toArray, List.set_cons_zero, List.set_cons_succ]
      refine takeH 8 (v := ?_) rfl (by kernel_rfl) (by kernel_rfl) (by kernel_rfl) (fun _ _ _ h => h) hS_h.out (by rfl) (fun W' hW' => ?_) ?_; rotate_left; · (obtain ⟨y0, y1⟩ := box1 hW'.1; obtain ⟨⟨y2, y3, y4⟩, y5, y6, y7⟩ := box3 hW'.2.1; have y8 := hW'.2.2; clear hW'; go_simp; first | done | with_reducible rfl)
      simp only [Act.put, List.setIfInBounds_toArray, List.set_cons_zero, List.set_cons_succ]
      refine takeH 9 (v := ?_) rfl (by kernel_rfl) (by kernel_rfl) (by kernel_rfl) (fun _ _ _ h => h) hS_h.out (by rfl) (fun W' hW' => ?_) ?_; rotate_left; · (obtain ⟨y0, y1⟩ := box1 hW'.1; obtain ⟨⟨y2, y3, y4⟩, y5, y6, y7⟩ := box3 hW'.2.1; have y8 := hW'.2.2; clear hW'; go_simp; first | done | with_reducible rfl)
      simp only [Act.put, List.setIfInBounds_toArray, List.set_cons_zero, List.set_cons_succ]
      refine' callH 10 (f := _) (args := _) rfl (by kernel_rfl) (by rfl) ?_ ?_; rotate_left 2; · (go_simp; first | done | with_reducible rfl | (constructor <;> with_reducible rfl))
      refine (tmOwn_any (some (ad.add (s * 3))) (k + 1 - s) (c - s) P w3.drew hrP_h.out hPl_h.out (by have := hPl_h.out; omega)).mono ?_
      rintro e w4 ⟨v4, fp4, rfl, ⟨A4, c4, rfl, hN4, rfl⟩, hF4, hb4⟩
      have p0 := box_below (w := w3.drew) q0_h.out hb4
      have p1 := box_below (w := w3.drew) q1_h.out hb4
      have p2 := box_below (w := w3.drew) k2_h.out hb4
      have p3 : w4.cell? (ad0.add k) = some (.int .i64 (s : Int)) := (hb4.cell (World.block_lt_of_cell? w3.drew _ x2_h.out)).trans x2_h.out
      obtain ⟨r1, r2⟩ := set1 p1 (.slice A4 P.length c4)
      have hwz := hb1_h.out.size
      have hz2 := hz_h.out
      have hbz : w3.heap.size = w3.drew.heap.size := rfl
      have hB4 : Below w.heap.size w w4 := below_trans (below_drew hB_h.out) hb4 (by have := hB_h.out.size; omega)
      have hB5 := below_keeps hB4 r2 hB4.size (fun k hk => by omega)
      have hN5 := Sl.keeps hN4 r2 (fun b hb e => by have := hF4 b hb; omega)
      have hF5 : FreshL w.heap.size (fpA A4) := fun b hb => by have := hF4 b hb; have := hB_h.out.size; omega
      have hSa := And.intro p0 (And.intro p2 p3)
      have hSb := And.intro (box_keeps p0 r2 (by omega)) (And.intro (box_keeps p2 r2 (by omega)) (keeps_at r2 p3 (by rw [block_of_add]; omega)))
      obtain ⟨z0, z1⟩ := box1 p1
      refine ⟨_, rfl, hSa, ?_⟩
      have p0_h := Lib.hid p0
      have p1_h := Lib.hid p1
      have p2_h := Lib.hid p2
      have p3_h := Lib.hid p3
      have r1_h := Lib.hid r1
      have r2_h := Lib.hid r2
      have hB4_h := Lib.hid hB4
      have hB5_h := Lib.hid hB5
      have hN5_h := Lib.hid hN5
      have hF5_h := Lib.hid hF5
      have hSa_h := Lib.hid hSa
      have hSb_h := Lib.hid hSb
      have hN4_h := Lib.hid hN4
      have hF4_h := Lib.hid hF4
      have hb4_h := Lib.hid hb4
      clear p0 p1 p2 p3 r1 r2 hB4 hB5 hN5 hF5 hSa hSb hN4 hF4 hb4
      clear hM_h hbz
      simp only [Act.put, List.setIfInBounds_toArray, List.set_cons_zero, List.set_cons_succ]
      refine oneH 11 rfl (by kernel_rfl) (by rfl) (fun K hK => ?_)
      go_simp
      refine hK _ _ hSb_h.out ?_
      clear hK K
      refine takeH 12 (v := ?_) rfl (by kernel_rfl) (by kernel_rfl) (by kernel_rfl) (fun _ _ _ h => h) hSb_h.out (by rfl) (fun W' hW' => ?_) ?_; rotate_left; · (skip; clear hW'; go_simp; first | done | with_reducible rfl)
      simp only [Act.put, List.setIfInBounds_toArray, List.set_cons_zero, List.set_cons_succ]
      refine doneH (by kernel_rfl) ?_
      go_wp2_with (fail)
      refine bodyPost_ret (results_cell_tmp rfl _ _ (w.heap.size + 1) _ _ (0, 0) _ rfl r1_h.out Try.underlying30 rfl (by kernel_rfl)) rfl ?_
      rw [hM1_h.out]
      exact ⟨_, fpA A4, rfl, ⟨A4, c4, rfl, hN5_h.out, rfl⟩, hF5_h.out, hB5_h.out⟩
    · have hI : inB a 0 ((m : Int) - 1) = false := decide_eq_false hin
      have hM0 : M = ([], false) := by rw [hM_h.out]; exact subM_no (.inr (by rw [← hm_h.out]; omega))
      obtain ⟨c0, f0⟩ := box1 q0
      obtain ⟨c1, f1⟩ := box1 q1
      have hb_h := Lib.hid hb
      have ht_h := Lib.hid ht
      have hb1_h := Lib.hid hb1
      have hN_h := Lib.hid hN
      have hM0_h := Lib.hid hM0
      have hB_h := Lib.hid hB
      have q0_h := Lib.hid q0
      have q1_h := Lib.hid q1
      have s1_h := Lib.hid s1
      have s2_h := Lib.hid s2
      have hBs_h := Lib.hid hBs
      have hb2_h := Lib.hid hb2
      have k2_h := Lib.hid k2
      clear hb ht hb1 hN hM0 hB q0 q1 s1 s2 hBs hb2 k2
      go_upto_region 2 with (fail)
      rw [← hW2]
      clear hW2
      go_wp2_with (fail)
      refine (l1In_any _ _ _ _).mono ?_
      rintro e w3 ⟨rfl, rfl⟩
      rw [hI]
      go_wp2_with (fail)
      refine bodyPost_ret (results_cell_tmp rfl _ _ (w.heap.size + 1) _ _ (0, 0) _ rfl s1_h.out Try.underlying30 rfl (by kernel_rfl)) rfl ?_
      exact Ret2Tm.no hM0_h.out hBs_h.out

set_option maxRecDepth 8000 in
set_option maxHeartbeats 2000000 in
theorem iSubtermAt_any {v : Value} {l : List Nd} {fp : List Nat} {w : World} (a : Int) (h : OwTm w v l fp) :
    Calls Try.prog 27 #[v, .int .i64 a] w (Ret2Tm (subM l a) w) := by
  obtain ⟨A, c, rfl, hN, rfl⟩ := h
  obtain ⟨W, hW⟩ : ∃ W, W = (w.alloc (.cells #[.slice A l.length c] tTerm)).alloc (.cells #[.slice none 0 0] tTerm) := ⟨_, rfl⟩
  obtain ⟨b0, k0, k1, hz⟩ := two_boxes w (.cells #[.slice A l.length c] tTerm) (.cells #[.slice none 0 0] tTerm)
  rw [← hW] at b0 k0 k1 hz
  have hr : RdN W A l := hN.rd.below b0
  have hC := isValid_any (v := .agg #[.slice A l.length c]) (l := l) (w := W) ⟨A, c, rfl, hr⟩
  have hc := hN.2.1
  obtain ⟨m, hm⟩ : ∃ m, m = l.length := ⟨_, rfl⟩
  rw [← hm] at hC hW k0 hc ⊢
  obtain ⟨M, hM⟩ : ∃ M, M = subM l a := ⟨_, rfl⟩
  rw [← hM]
  clear hN
  have b0_h := Lib.hid b0
  have k0_h := Lib.hid k0
  have k1_h := Lib.hid k1
  have hz_h := Lib.hid hz
  have hr_h := Lib.hid hr
  have hC_h := Lib.hid hC
  have hm_h := Lib.hid hm
  have hM_h := Lib.hid hM
  clear b0 k0 k1 hz hr hC hm hM
  go_enter Try.func27, Try.ntmps27
  go_upto_region 1 with (fail)
  rw [← hW]
  clear hW
  obtain ⟨y0, y1⟩ := box1 k0_h.out
  go_wp2_with (fail)
  refine (hC_h.out).mono ?_
  rintro e W2 ⟨b, rfl, hb, hb1⟩
  have hB := below_trans b0_h.out hb1 b0_h.out.size
  have q0 := box_below k0_h.out hb1
  have q1 := box_below k1_h.out hb1
  obtain ⟨s1, s2⟩ := set1 q1 (.slice none 0 0)
  have hz1 := box_lt q1
  have hBs := below_keeps hB s2 hB.size (fun k hk => by omega)
  obtain ⟨c0, f0⟩ := box1 q0
  obtain ⟨c1, f1⟩ := box1 q1
  clear y0 y1
  cases b
  · have hN : treeM l = none := by cases h : treeM l with | none => rfl | some t => rw [h] at hb; cases hb
    have hM0 : M = ([], false) := by rw [hM_h.out]; exact subM_no (.inl hN)
    have hb_h := Lib.hid hb
    have hb1_h := Lib.hid hb1
    have hN_h := Lib.hid hN
    have hM0_h := Lib.hid hM0
    have hB_h := Lib.hid hB
    have q0_h := Lib.hid q0
    have q1_h := Lib.hid q1
    have s1_h := Lib.hid s1
    have s2_h := Lib.hid s2
    have hBs_h := Lib.hid hBs
    clear hb hb1 hN hM0 hB q0 q1 s1 s2 hBs
    go_wp2_with (fail)
    refine bodyPost_ret (results_cell_tmp rfl _ _ (w.heap.size + 1) _ _ (0, 0) _ rfl s1_h.out Try.underlying30 rfl (by kernel_rfl)) rfl ?_
    exact Ret2Tm.no hM0_h.out hBs_h.out
  · obtain ⟨t, hN⟩ : ∃ t, treeM l = some t := by cases h : treeM l with | none => rw [h] at hb; cases hb | some t => exact ⟨t, rfl⟩
    have hml : m ≤ 400 := by
      obtain ⟨e1, -, e2⟩ := treeM_some hN
      have : m = sz t := by rw [hm_h.out, e1]; rfl
      omega
    have hwm : IntKind.i64.wrap ((m : Int) - 1) = (m : Int) - 1 := IntWalk.i64_in _ (by omega)
    by_cases hin : 0 ≤ a ∧ a ≤ (m : Int) - 1
    · obtain ⟨k, rfl⟩ : ∃ k : Nat, a = (k : Int) := ⟨a.toNat, by omega⟩
      have hI : inB (k : Int) 0 ((m : Int) - 1) = true := decide_eq_true hin
      have hkm : k < m := by omega
      have hkl : k < l.length := by have := hm_h.out; omega
      obtain ⟨P, hP⟩ : ∃ P, P = (l.take (k + 1)).drop (subS l k) := ⟨_, rfl⟩
      have hM1 : M = (P, true) := by rw [hM_h.out, hP]; exact subM_yes hN hkl
      obtain ⟨-, -, hsk, -, -, hrc, -, -, -, -⟩ := sub_at hN hkl
      obtain ⟨s, hs⟩ : ∃ s, s = subS l k := ⟨_, rfl⟩
      have hPS := fun W' (hW' : RdN W' A l) => partStart_any A m c l k W' hW' hm_h.out (by have := hm_h.out; omega) hkl hrc
      rw [← hs] at hP hsk hPS
      obtain ⟨ad, -, -, -, rfl, -, -⟩ := hr_h.out.at_ (j := 0) (by omega)
      have hr2 : RdN W2 (some ad) l := hr_h.out.below hb1
      have hPl : k + 1 - s = P.length := by rw [hP, len_cut (by omega)]
      have hs1 : s ≤ k + 1 := by omega
      have hs2 : ¬ c = s := by omega
      have hs3 : (0 : Int) ≤ (k : Int) + 1 := by omega
      have hs4 : (k : Int) + 1 ≤ (c : Int) := by omega
      have hwk : IntKind.i64.wrap ((k : Int) + 1) = (k : Int) + 1 := IntWalk.i64_in _ (by omega)
      have hk0 : (0 : Int) ≤ (k : Int) := by omega
      have hkc : (k : Int) < (m : Int) := by omega
      have hb_h := Lib.hid hb
      have hb1_h := Lib.hid hb1
      have hN_h := Lib.hid hN
      have hB_h := Lib.hid hB
      have q0_h := Lib.hid q0
      have q1_h := Lib.hid q1
      have s1_h := Lib.hid s1
      have s2_h := Lib.hid s2
      have hBs_h := Lib.hid hBs
      have hP_h := Lib.hid hP
      have hM1_h := Lib.hid hM1
      have hsk_h := Lib.hid hsk
      have hrc_h := Lib.hid hrc
      have hPl_h := Lib.hid hPl
      have hs_h := Lib.hid hs
      have hr2_h := Lib.hid hr2
      have hPS_h := Lib.hid hPS
      clear hb hb1 hN hB q0 q1 s1 s2 hBs hP hM1 hsk hrc hPl hs hr2 hPS
      go_wp2_with (fail)
      refine (within_any _ _ _ _).mono ?_
      rintro e w3 ⟨rfl, rfl⟩
      rw [hI]
      go_wp2_with (fail)
      refine beginH (fun w' => w'.heap[w.heap.size]? = some (.cells #[.slice (some ad) m c] tTerm)) (by kernel_rfl) ?_
      refine takeH 0 (v := ?_) rfl (by kernel_rfl) (by kernel_rfl) (by kernel_rfl) (fun _ _ _ h => h) q0_h.out (by rfl) (fun W' hW' => ?_) ?_; rotate_left; · (obtain ⟨y0, y1⟩ := box1 hW'; clear hW'; go_simp; first | done | with_reducible rfl)
      simp only [Act.put, List.setIfInBounds_toArray, List.set_cons_zero, List.set_cons_succ]
      refine takeH 1 (v := ?_) rfl (by kernel_rfl) (by kernel_rfl) (by kernel_rfl) (fun _ _ _ h => h) q0_h.out (by rfl) (fun W' hW' => ?_) ?_; rotate_left; · (obtain ⟨y0, y1⟩ := box1 hW'; clear hW'; go_simp; first | done | with_reducible rfl)
      simp only [Act.put, List.setIfInBounds_toArray, List.set_cons_zero, List.set_cons_succ]
      refine takeH 2 (v := ?_) rfl (by kernel_rfl) (by kernel_rfl) (by kernel_rfl) (fun _ _ _ h => h) q0_h.out (by rfl) (fun W' hW' => ?_) ?_; rotate_left; · (obtain ⟨y0, y1⟩ := box1 hW'; clear hW'; go_simp; first | done | with_reducible rfl)
      simp only [Act.put, List.setIfInBounds_toArray, List.set_cons_zero, List.set_cons_succ]
      refine takeH 3 (v := ?_) rfl (by kernel_rfl) (by kernel_rfl) (by kernel_rfl) (fun _ _ _ h => h) q0_h.out (by rfl) (fun W' hW' => ?_) ?_; rotate_left; · (obtain ⟨y0, y1⟩ := box1 hW'; clear hW'; go_simp; first | done | with_reducible rfl)
      simp only [Act.put, List.setIfInBounds_toArray, List.set_cons_zero, List.set_cons_succ]
      refine takeH 4 (v := ?_) rfl (by kernel_rfl) (by kernel_rfl) (by kernel_rfl) (fun _ _ _ h => h) q0_h.out (by rfl) (fun W' hW' => ?_) ?_; rotate_left; · (obtain ⟨y0, y1⟩ := box1 hW'; clear hW'; go_simp; first | done | with_reducible rfl)
      simp only [Act.put, List.setIfInBounds_toArray, List.set_cons_zero, List.set_cons_succ]
      refine takeH 6 (v := ?_) rfl (by kernel_rfl) (by kernel_rfl) (by kernel_rfl) (fun _ _ _ h => h) q0_h.out (by rfl) (fun W' hW' => ?_) ?_; rotate_left; · (skip; clear hW'; go_simp; first | done | with_reducible rfl)
      simp only [Act.put, List.setIfInBounds_toArray, List.set_cons_zero, List.set_cons_succ]
      refine takeH 7 (v := ?_) rfl (by kernel_rfl) (by kernel_rfl) (by kernel_rfl) (fun _ _ _ h => h) q0_h.out (by rfl) (fun W' hW' => ?_) ?_; rotate_left; · (skip; clear hW'; go_simp; first | done | with_reducible rfl)
      simp only [Act.put, List.setIfInBounds_toArray, List.set_cons_zero, List.set_cons_succ]
      refine' callH 5 (f := _) (args := _) rfl (by kernel_rfl) (by rfl) ?_ ?_; rotate_left 2; · (go_simp; first | done | with_reducible rfl | (constructor <;> with_reducible rfl))
      refine (hPS_h.out w3.drew hr2_h.out).mono ?_
      rintro e w4 ⟨rfl, hb4⟩
      have p0 := box_below (w := w3.drew) q0_h.out hb4
      have p1 := box_below (w := w3.drew) q1_h.out hb4
      have hrP : RdN w4 (some (ad.add (s * 3))) P := by rw [hP_h.out]; exact (RdN.below (w := w3.drew) hr2_h.out hb4).cut s (k + 1)
      have hbz : w3.heap.size = w3.drew.heap.size := rfl
      have hB4 : Below w.heap.size w w4 := below_trans (below_drew hB_h.out) hb4 (by have := hB_h.out.size; omega)
      refine ⟨_, rfl, p0, ?_⟩
      have p0_h := Lib.hid p0
      have p1_h := Lib.hid p1
      have hrP_h := Lib.hid hrP
      have hB4_h := Lib.hid hB4
      have hb4_h := Lib.hid hb4
      clear p0 p1 hrP hB4 hb4
      clear hbz
      simp only [Act.put, List.setIfInBounds_toArray, List.set_cons_zero, List.set_cons_succ]
      refine takeH 8 (v := ?_) rfl (by kernel_rfl) (by kernel_rfl) (by kernel_rfl) (fun _ _ _ h => h) p0_h.out (by rfl) (fun W' hW' => ?_) ?_; rotate_left; · (skip; clear hW'; go_simp; first | done | with_reducible rfl)
      simp only [Act.put, List.setIfInBounds_toArray, List.set_cons_zero, List.set_cons_succ]
      refine' callH 9 (f := _) (args := _) rfl (by kernel_rfl) (by rfl) ?_ ?_; rotate_left 2; · (go_simp; first | done | with_reducible rfl | (constructor <;> with_reducible rfl))
      refine (cloneN_any (some (ad.add (s * 3))) (k + 1 - s) (c - s) P w4 hrP_h.out hPl_h.out (by have := hsk_h.out; omega) (by have := hPl_h.out; omega)).mono ?_
      rintro e w5 ⟨A4, c4, rfl, hN4, hF4, hb5⟩
      have p2 := box_below p0_h.out hb5
      have p3 := box_below p1_h.out hb5
      obtain ⟨z0, z1⟩ := box1 p3
      obtain ⟨r1, r2⟩ := set1 p3 (.slice A4 (k + 1 - s) c4)
      have hwz := hb1_h.out.size
      have hz2 := hz_h.out
      have hbz4 := hB4_h.out.size
      have hbz5 := box_lt p1_h.out
      have hB5 : Below w.heap.size w w5 := below_trans hB4_h.out hb5 hbz4
      have hB6 := below_keeps hB5 r2 hB5.size (fun k hk => by omega)
      have hN5 := Sl.keeps hN4 r2 (fun b hb e => by have := hF4 b hb; omega)
      have hF5 : FreshL w.heap.size (fpA A4) := fun b hb => by have := hF4 b hb; omega
      have hSb := box_keeps p2 r2 (by omega)
      refine ⟨_, rfl, p2, ?_⟩
      have p2_h := Lib.hid p2
      have p3_h := Lib.hid p3
      have r1_h := Lib.hid r1
      have r2_h := Lib.hid r2
      have hB5_h := Lib.hid hB5
      have hB6_h := Lib.hid hB6
      have hN5_h := Lib.hid hN5
      have hF5_h := Lib.hid hF5
      have hSb_h := Lib.hid hSb
      have hN4_h := Lib.hid hN4
      have hF4_h := Lib.hid hF4
      have hb5_h := Lib.hid hb5
      have hwz_h := Lib.hid hwz
      have hz2_h := Lib.hid hz2
      have hbz4_h := Lib.hid hbz4
      have hbz5_h := Lib.hid hbz5
      clear p2 p3 r1 r2 hB5 hB6 hN5 hF5 hSb hN4 hF4 hb5 hwz hz2 hbz4 hbz5
      clear hM_h
      simp only [Act.put, List.setIfInBounds_toArray, List.set_cons_zero, List.set_cons_succ]
      refine takeH 10 (v := ?_) rfl (by kernel_rfl) (by kernel_rfl) (by kernel_rfl) (fun _ _ _ h => h) p2_h.out (by rfl) (fun W' hW' => ?_) ?_; rotate_left; · (skip; clear hW'; go_simp; first | done | with_reducible rfl)
      simp only [Act.put, List.setIfInBounds_toArray, List.set_cons_zero, List.set_cons_succ]
      refine oneH 11 rfl (by kernel_rfl) (by rfl) (fun K hK => ?_)
      go_simp
      refine hK _ _ hSb_h.out ?_
      clear hK K
      refine takeH 12 (v := ?_) rfl (by kernel_rfl) (by kernel_rfl) (by kernel_rfl) (fun _ _ _ h => h) hSb_h.out (by rfl) (fun W' hW' => ?_) ?_; rotate_left; · (skip; clear hW'; go_simp; first | done | with_reducible rfl)
      simp only [Act.put, List.setIfInBounds_toArray, List.set_cons_zero, List.set_cons_succ]
      refine doneH (by kernel_rfl) ?_
      go_wp2_with (fail)
      refine bodyPost_ret (results_cell_tmp rfl _ _ (w.heap.size + 1) _ _ (0, 0) _ rfl r1_h.out Try.underlying30 rfl (by kernel_rfl)) rfl ?_
      rw [hM1_h.out]
      exact ⟨_, fpA A4, rfl, ⟨A4, c4, by rw [hPl_h.out], hN5_h.out, rfl⟩, hF5_h.out, hB6_h.out⟩
    · have hI : inB a 0 ((m : Int) - 1) = false := decide_eq_false hin
      have hM0 : M = ([], false) := by rw [hM_h.out]; exact subM_no (.inr (by rw [← hm_h.out]; omega))
      have hb_h := Lib.hid hb
      have hb1_h := Lib.hid hb1
      have hN_h := Lib.hid hN
      have hM0_h := Lib.hid hM0
      have hB_h := Lib.hid hB
      have q0_h := Lib.hid q0
      have q1_h := Lib.hid q1
      have s1_h := Lib.hid s1
      have s2_h := Lib.hid s2
      have hBs_h := Lib.hid hBs
      clear hb hb1 hN hM0 hB q0 q1 s1 s2 hBs
      go_wp2_with (fail)
      refine (within_any _ _ _ _).mono ?_
      rintro e w3 ⟨rfl, rfl⟩
      rw [hI]
      go_wp2_with (fail)
      refine bodyPost_ret (results_cell_tmp rfl _ _ (w.heap.size + 1) _ _ (0, 0) _ rfl s1_h.out Try.underlying30 rfl (by kernel_rfl)) rfl ?_
      exact Ret2Tm.no hM0_h.out hBs_h.out

theorem subM_ok {l : List Nd} (a : Int) (h : OkN l) : OkN (subM l a).1 := by
  have h1 := h.1
  unfold subM
  split
  · exact .of (by rw [List.length_drop, List.length_take]; omega)
  · exact .of (by simp)
theorem sSubtermAt_law (a : Int) {v : Value} {l : List Nd} {fp : List Nat} {w : World} (h : OwTm w v l fp) (_ok : OkN l) :
    Calls Try.prog 26 #[v, .int .i64 a] w fun e w' => ∃ v' fp, e = .returned (.tuple #[v', .bool (subM l a).2]) ∧ OwTm w' v' (subM l a).1 fp ∧ FreshL w.heap.size fp ∧ Below w.heap.size w w' := sSubtermAt_any a h
theorem iSubtermAt_law (a : Int) {v : Value} {l : List Nd} {fp : List Nat} {w : World} (h : OwTm w v l fp) (_ok : OkN l) :
    Calls Try.prog 27 #[v, .int .i64 a] w fun e w' => ∃ v' fp, e = .returned (.tuple #[v', .bool (subM l a).2]) ∧ OwTm w' v' (subM l a).1 fp ∧ FreshL w.heap.size fp ∧ Below w.heap.size w w' := iSubtermAt_any a h
end Go.Proofs.Ytlmnmdahphahfaa
