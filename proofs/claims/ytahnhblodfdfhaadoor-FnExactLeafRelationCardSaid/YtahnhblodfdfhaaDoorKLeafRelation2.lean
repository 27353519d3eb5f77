/-
  What the texts above it need, part 2.
-/
import Derived.Test.YtahnhblodfdfhaaDoorKLeafRelation1
import Derived.StillTailTactics
import Derived.Deep.RegionHeld
import Derived.IntWalk
import Derived.BigQuiet
import Derived.Test.YtahnhblodfdfhaaDoorRows
import Derived.Outline
import Derived.Deep.QuietTactic
namespace Go.Proofs.YtahnhblodfdfhaaDoor
open Go.RowKit
theorem box4 {w : World} {B : Nat} {x y z u : Value} {t : TypeId} (h : w.heap[B]? = some (.cells #[x, y, z, u] t)) :
    (w.cell? ⟨B, 0, none⟩ = some x ∧ w.cell? ⟨B, 1, none⟩ = some y ∧ w.cell? ⟨B, 2, none⟩ = some z ∧ w.cell? ⟨B, 3, none⟩ = some u) ∧ (w.frozen? ⟨B, 0, none⟩ = false ∧ w.frozen? ⟨B, 1, none⟩ = false ∧ w.frozen? ⟨B, 2, none⟩ = false ∧ w.frozen? ⟨B, 3, none⟩ = false) := by
  refine ⟨⟨?_, ?_, ?_, ?_⟩, ?_, ?_, ?_, ?_⟩ <;> simp [World.cell?, World.frozen?, h]
abbrev tOp : TypeId := 194
set_option maxRecDepth 8000 in
set_option maxHeartbeats 2000000 in
theorem applyX_any (p : Int) (r q m : Nat) (A : Option Addr) (cap : Nat) (L : List (List Int)) (fp : List Nat) (w : World) (h : RwF w A cap L fp) (hm : L.length = m) (hr : r < m) (hq : q < m) (_hml : m ≤ 1048576) :
    Calls Tryd.prog 182 #[.agg #[.int .i64 0, .int .i64 r, .int .i64 q, .int .i64 0], .int .i64 p, .slice A m cap] w fun e w' => e = .returned (.tuple #[]) ∧ RwF w' A cap (swapL L r q) fp ∧ Keeps (· ∈ fp) w w' := by
  have hbw : Below w.heap.size w (w.alloc (.cells #[.int .i64 0, .int .i64 r, .int .i64 q, .int .i64 0] tOp)) := (Below.refl _ _).alloc (Nat.le_refl _) _
  obtain ⟨W, hW⟩ : ∃ W, W = w.alloc (.cells #[.int .i64 0, .int .i64 r, .int .i64 q, .int .i64 0] tOp) := ⟨_, rfl⟩
  have hk : W.heap[w.heap.size]? = some (.cells #[.int .i64 0, .int .i64 r, .int .i64 q, .int .i64 0] tOp) := by rw [hW]; exact heap_alloc_new w _
  obtain ⟨⟨c0, c1, c2, c3⟩, f0, f1, f2, f3⟩ := box4 hk
  rw [← hW] at hbw
  have hR := h.below hbw
  obtain ⟨ad0, _, _, hA0, hc0, _⟩ := h.get (i := r) (by omega)
  have hlt := World.block_lt_of_cell? w _ hc0
  rw [block_of_add] at hlt
  obtain ⟨ad, B, c, hA, hcr, hfr, _⟩ := hR.get (i := r) (by omega)
  rw [hA] at hA0
  obtain rfl := Option.some.inj hA0
  subst hA
  obtain ⟨ad', C, d, hA', hcq, hfq, _⟩ := hR.get (i := q) (by omega)
  obtain rfl := Option.some.inj hA'
  obtain ⟨nr, hnr⟩ : ∃ nr, nr = (L.getD r []).length := ⟨_, rfl⟩
  obtain ⟨nq, hnq⟩ : ∃ nq, nq = (L.getD q []).length := ⟨_, rfl⟩
  rw [← hnr] at hcr
  rw [← hnq] at hcq
  have hsw := hR.drew.swap (r := r) (k := q) (by omega) (by omega) rfl (V := .slice C nq d) (U := .slice B nr c) hcq hcr
  have HSW := Lib.hid hsw; have HB := Lib.hid hbw
  have hrI : (r : Int) < (m : Int) := by omega
  have hqI : (q : Int) < (m : Int) := by omega
  have hdc1 : W.drew.cell? (ad.add r) = some (.slice B nr c) := hcr
  have hdc2 : W.drew.cell? (ad.add q) = some (.slice C nq d) := hcq
  have hdf1 : W.drew.frozen? (ad.add r) = false := hfr
  have hdf2 : W.drew.frozen? (ad.add q) = false := hfq
  have e1 : W.drew.cell? ⟨w.heap.size, 1, none⟩ = some (.int .i64 r) := c1
  have e2 : W.drew.cell? ⟨w.heap.size, 2, none⟩ = some (.int .i64 q) := c2
  have hst1 : (W.drew.setCell (ad.add r) (.slice C nq d)).cell? ⟨w.heap.size, 1, none⟩ = some (.int .i64 r) := (World.cell?_setCell_far _ _ _ _ (by rw [block_of_add]; show ad.block ≠ w.heap.size; omega)).trans c1
  have hst2 : (W.drew.setCell (ad.add r) (.slice C nq d)).cell? ⟨w.heap.size, 2, none⟩ = some (.int .i64 q) := (World.cell?_setCell_far _ _ _ _ (by rw [block_of_add]; show ad.block ≠ w.heap.size; omega)).trans c2
  have hst3 : ((W.drew.setCell (ad.add r) (.slice C nq d)).setCell (ad.add q) (.slice B nr c)).cell? ⟨w.heap.size, 1, none⟩ = some (.int .i64 r) := (World.cell?_setCell_far _ _ _ _ (by rw [block_of_add]; show ad.block ≠ w.heap.size; omega)).trans hst1
  have hst4 : ((W.drew.setCell (ad.add r) (.slice C nq d)).setCell (ad.add q) (.slice B nr c)).cell? ⟨w.heap.size, 2, none⟩ = some (.int .i64 q) := (World.cell?_setCell_far _ _ _ _ (by rw [block_of_add]; show ad.block ≠ w.heap.size; omega)).trans hst2
  have hcq2 : ((W.setCell (ad.add r) (.slice C nq d)).cell? (ad.add q)).isSome = true := by
    by_cases e : ad.add r = ad.add q
    · rw [e, World.cell?_setCell_same' _ _ _ (by rw [hcq]; rfl)]; rfl
    · rw [World.cell?_setCell_other _ _ _ _ e, hcq]; rfl
  obtain ⟨V2, hcq2⟩ := Option.isSome_iff_exists.1 hcq2
  clear hk hR h hsw hnr hnq hc0 hbw
  go_enter Tryd.func182, Tryd.ntmps182
  go_wp2_with (fail)
  rw [← hW]
  clear hW
  refine beginH (fun w' => w'.cell? ⟨w.heap.size, 1, none⟩ = some (.int .i64 r) ∧ w'.cell? ⟨w.heap.size, 2, none⟩ = some (.int .i64 q)) (by kernel_rfl) ?_
  refine takeH 0 (v := ?_) rfl (by kernel_rfl) (by kernel_rfl) (by kernel_rfl) (fun _ _ _ h => h) ⟨c1, c2⟩ (by rfl) (fun W' hW' => ?_) ?_; rotate_left; · (obtain ⟨c1, c2⟩ := hW'; go_simp; first | done | with_reducible rfl)
  simp only [Act.put, nS1, nS2, nS3]
  refine takeH 1 (v := ?_) rfl (by kernel_rfl) (by kernel_rfl) (by kernel_rfl) (fun _ _ _ h => h) ⟨c1, c2⟩ (by rfl) (fun W' hW' => ?_) ?_; rotate_left; · (obtain ⟨c1, c2⟩ := hW'; go_simp; first | done | with_reducible rfl)
  simp only [Act.put, nS1, nS2, nS3]
  refine takeH 2 (v := ?_) rfl (by kernel_rfl) (by kernel_rfl) (by kernel_rfl) (fun _ _ _ h => h) ⟨c1, c2⟩ (by rfl) (fun W' hW' => ?_) ?_; rotate_left; · (obtain ⟨c1, c2⟩ := hW'; go_simp; first | done | with_reducible rfl)
  simp only [Act.put, nS1, nS2, nS3]
  refine takeH 3 (v := ?_) rfl (by kernel_rfl) (by kernel_rfl) (by kernel_rfl) (fun _ _ _ h => h) ⟨c1, c2⟩ (by rfl) (fun W' hW' => ?_) ?_; rotate_left; · (obtain ⟨c1, c2⟩ := hW'; go_simp; first | done | with_reducible rfl)
  simp only [Act.put, nS1, nS2, nS3]
  refine takeH 4 (v := ?_) rfl (by kernel_rfl) (by kernel_rfl) (by kernel_rfl) (fun _ _ _ h => h) ⟨c1, c2⟩ (by rfl) (fun W' hW' => ?_) ?_; rotate_left; · (obtain ⟨c1, c2⟩ := hW'; go_simp; first | done | with_reducible rfl)
  simp only [Act.put, nS1, nS2, nS3]
  refine takeH 5 (v := ?_) rfl (by kernel_rfl) (by kernel_rfl) (by kernel_rfl) (fun _ _ _ h => h) ⟨c1, c2⟩ (by rfl) (fun W' hW' => ?_) ?_; rotate_left; · (obtain ⟨c1, c2⟩ := hW'; go_simp; first | done | with_reducible rfl)
  simp only [Act.put, nS1, nS2, nS3]
  refine takeH 6 (v := ?_) rfl (by kernel_rfl) (by kernel_rfl) (by kernel_rfl) (fun _ _ _ h => h) ⟨c1, c2⟩ (by rfl) (fun W' hW' => ?_) ?_; rotate_left; · (obtain ⟨c1, c2⟩ := hW'; go_simp; first | done | with_reducible rfl)
  simp only [Act.put, nS1, nS2, nS3]
  refine takeH 7 (v := ?_) rfl (by kernel_rfl) (by kernel_rfl) (by kernel_rfl) (fun _ _ _ h => h) ⟨c1, c2⟩ (by rfl) (fun W' hW' => ?_) ?_; rotate_left; · (obtain ⟨c1, c2⟩ := hW'; go_simp; first | done | with_reducible rfl)
  simp only [Act.put, nS1, nS2, nS3]
  refine takeH 8 (v := ?_) rfl (by kernel_rfl) (by kernel_rfl) (by kernel_rfl) (fun _ _ _ h => h) ⟨c1, c2⟩ (by rfl) (fun W' hW' => ?_) ?_; rotate_left; · (obtain ⟨c1, c2⟩ := hW'; go_simp; first | done | with_reducible rfl)
  simp only [Act.put, nS1, nS2, nS3]
  refine takeH 9 (v := ?_) rfl (by kernel_rfl) (by kernel_rfl) (by kernel_rfl) (fun _ _ _ h => h) ⟨c1, c2⟩ (by rfl) (fun W' hW' => ?_) ?_; rotate_left; · (obtain ⟨c1, c2⟩ := hW'; go_simp; first | done | with_reducible rfl)
  simp only [Act.put, nS1, nS2, nS3]
  refine takeH 11 (v := ?_) rfl (by kernel_rfl) (by kernel_rfl) (by kernel_rfl) (fun _ _ _ h => h) ⟨c1, c2⟩ (by rfl) (fun W' hW' => ?_) ?_; rotate_left; · (obtain ⟨c1, c2⟩ := hW'; go_simp; first | done | with_reducible rfl)
  simp only [Act.put, nS1, nS2, nS3]
  refine takeH 12 (v := ?_) rfl (by kernel_rfl) (by kernel_rfl) (by kernel_rfl) (fun _ _ _ h => h) ⟨c1, c2⟩ (by rfl) (fun W' hW' => ?_) ?_; rotate_left; · (obtain ⟨c1, c2⟩ := hW'; go_simp; first | done | with_reducible rfl)
  simp only [Act.put, nS1, nS2, nS3]
  refine takeH 13 (v := ?_) rfl (by kernel_rfl) (by kernel_rfl) (by kernel_rfl) (fun _ _ _ h => h) ⟨c1, c2⟩ (by rfl) (fun W' hW' => ?_) ?_; rotate_left; · (obtain ⟨c1, c2⟩ := hW'; go_simp; first | done | with_reducible rfl)
  simp only [Act.put, nS1, nS2, nS3]
  refine takeH 14 (v := ?_) rfl (by kernel_rfl) (by kernel_rfl) (by kernel_rfl) (fun _ _ _ h => h) ⟨c1, c2⟩ (by rfl) (fun W' hW' => ?_) ?_; rotate_left; · (obtain ⟨c1, c2⟩ := hW'; go_simp; first | done | with_reducible rfl)
  simp only [Act.put, nS1, nS2, nS3]
  refine twoValH 10 15 (vi := .slice C nq d) (vj := .slice B nr c) rfl rfl (by decide) (by kernel_rfl) (by kernel_rfl) (by kernel_rfl) (by kernel_rfl) (by kernel_rfl) (by rfl) (by rfl) (by go_simp; first | done | with_reducible rfl) (by go_simp; first | done | with_reducible rfl) ⟨e1, e2⟩ ?_
  simp only [Act.put, nS1, nS2, nS3]
  refine oneH 16 rfl (by kernel_rfl) (by rfl) (fun K hK => ?_)
  go_simp
  refine hK _ _ ⟨e1, e2⟩ ?_
  clear hK K
  refine oneH 17 rfl (by kernel_rfl) (by rfl) (fun K hK => ?_)
  go_simp
  refine hK _ _ ⟨hst1, hst2⟩ ?_
  clear hK K
  refine oneH 18 rfl (by kernel_rfl) (by rfl) (fun K hK => ?_)
  go_simp
  refine hK _ _ ⟨hst1, hst2⟩ ?_
  clear hK K
  refine oneH 19 rfl (by kernel_rfl) (by rfl) (fun K hK => ?_)
  go_simp
  refine hK _ _ ⟨hst3, hst4⟩ ?_
  clear hK K
  refine doneH (by kernel_rfl) ?_
  go_wp2_with (fail)
  go_end0
  exact ⟨rfl, HSW.out.1, (Keeps.of_below HB.out _).trans ((Keeps.refl _ _).drew.trans HSW.out.2)⟩
set_option maxRecDepth 8000 in
set_option maxHeartbeats 2000000 in
theorem applyD_any (p by_ : Int) (r m nn : Nat) (A : Option Addr) (cap : Nat) (L : List (List Int)) (fp : List Nat) (w : World) (h : RwF w A cap L fp) (hm : Mat p m nn L) (hr : r < m) (_hml : m ≤ 1048576) (hnl : nn ≤ 1048576) (h2 : 2 ≤ p) (h97 : p ≤ 97) (hb0 : 0 ≤ by_) (hb1 : by_ < p) (hi0 : 0 ≤ invM p by_) (hi1 : invM p by_ < p) :
    Calls Tryd.prog 182 #[.agg #[.int .i64 1, .int .i64 r, .int .i64 0, .int .i64 by_], .int .i64 p, .slice A m cap] w fun e w' => e = .returned (.tuple #[]) ∧ RwF w' A cap (scaleL p r (invM p by_) L) fp ∧ Keeps (· ∈ fp) w w' := by
  obtain ⟨fq, h, hlt, hsub⟩ := h.lt
  have hml' := hm.len
  have hbw : Below w.heap.size w (w.alloc (.cells #[.int .i64 1, .int .i64 r, .int .i64 0, .int .i64 by_] tOp)) := (Below.refl _ _).alloc (Nat.le_refl _) _
  obtain ⟨W, hW⟩ : ∃ W, W = w.alloc (.cells #[.int .i64 1, .int .i64 r, .int .i64 0, .int .i64 by_] tOp) := ⟨_, rfl⟩
  have hk : W.heap[w.heap.size]? = some (.cells #[.int .i64 1, .int .i64 r, .int .i64 0, .int .i64 by_] tOp) := by rw [hW]; exact heap_alloc_new w _
  obtain ⟨⟨c0, c1, c2, c3⟩, f0, f1, f2, f3⟩ := box4 hk
  rw [← hW] at hbw
  have hR := h.below hbw
  obtain ⟨ad, B, c, hA, hcr, hfr, _, _⟩ := hR.get (i := r) (by omega)
  obtain ⟨V, hV⟩ : ∃ V, V = L.getD r [] := ⟨_, rfl⟩
  have hVl : V.length = nn := by rw [hV]; exact (hm.get hr).1
  have hVr : Res p V := by rw [hV]; exact (hm.get hr).2
  rw [← hV, hVl] at hcr
  subst hA
  have hout := hR.outer (i := r) (by omega) rfl hcr
  obtain ⟨iv, hiv⟩ : ∃ iv, iv = invM p by_ := ⟨_, rfl⟩
  have hI := fun w => inverse_any p by_ w h2 h97 hb0 hb1
  rw [← hiv] at hI hi0 hi1
  have HI := Lib.hid hI; have HV := Lib.hid hV; have HVl := Lib.hid hVl; have HIV := Lib.hid hiv; have HM := Lib.hid hml'; have HB := Lib.hid hbw; have HLT := Lib.hid hlt; have HSUB := Lib.hid hsub; have HOUT := Lib.hid hout
  have hrI : (r : Int) < (m : Int) := by omega
  clear hk h hV hVl hiv hI hml' hbw hlt hsub hout
  go_enter Tryd.func182, Tryd.ntmps182
  go_wp2_with (fail)
  rw [← hW]
  clear hW
  refine (HI.out _).mono ?_
  rintro e w' ⟨rfl, rfl⟩
  go_wp2_with (fail)
  go_loopw [43] (fun i wr => ∃ j : Nat, j ≤ nn ∧ i = .int .i64 j ∧ RwF wr (some ad) cap (L.set r ((scaleV p iv V).take j ++ V.drop j)) fq ∧ Keeps (· ∈ fq) W wr ∧ wr.cell? (ad.add r) = some (.slice B nn c)) (fun i _ => nn - (intOf i).toNat)
  case atStart => exact ⟨0, Nat.zero_le _, rfl, by rw [List.take_zero, List.nil_append, List.drop_zero, HV.out, set_getD]; exact hR, Keeps.refl _ _, hcr⟩
  case round =>
    obtain ⟨j, hj, rfl, hOj, hkp, hcj⟩ := hrel
    clear hR hcr hfr
    have hlc : ((scaleV p iv V).take j ++ V.drop j).length = nn := by rw [len_take_drop (by rw [scaleV_length]) (by rw [HVl.out]; exact hj)]; exact HVl.out
    have hm' := HM.out
    by_cases hjn : j < nn
    · obtain ⟨ad4, B4, c4, hA4, hc4, hf4, hI4, _⟩ := hOj.get (i := r) (by rw [List.length_set]; omega)
      obtain rfl := Option.some.inj hA4
      rw [getD_set_self (by omega)] at hc4 hI4
      rw [hlc, hcj] at hc4
      injection hc4 with hc4
      injection hc4 with e1 e2 e3
      subst e1 e3
      obtain ⟨bd, z, hB, hz, hbl, hcz, hfz'⟩ := hI4.at_ (j := j) (by rw [hlc]; exact hjn)
      rw [get_take_drop (by rw [scaleV_length]) (by rw [HVl.out]; exact hjn)] at hz
      have hfz := hfz' j
      have hzb := hVr z (List.mem_of_getElem? hz)
      subst hB
      have hd1 : wr.cell? ⟨w.heap.size, 1, none⟩ = some (.int .i64 r) := keeps_cell hkp c1 (fun hh => by have := HLT.out _ hh; exact absurd this (Nat.lt_irrefl _))
      obtain ⟨hset, hks⟩ := hOj.set (i := r) (by rw [List.length_set]; omega) rfl hcj (j := j) (by rw [getD_set_self (by omega), hlc]; exact hjn) (z * iv % p)
      have hsz : (scaleV p iv V)[j]? = some (z * iv % p) := by simp [scaleV, hz]
      rw [getD_set_self (by omega), List.set_set, take_append_step (by rw [scaleV_length]) hsz] at hset
      have hcn : (wr.setCell (bd.add j) (.int .i64 (z * iv % p))).cell? (ad.add r) = some (.slice (some bd) nn c) := (World.cell?_setCell_far _ _ _ _ (by rw [block_of_add, block_of_add]; exact HOUT.out _ (by simp))).trans hcj
      have HST := Lib.hid (And.intro hset.drew (And.intro (hkp.trans hks).drew hcn))
      have hjI : (j : Int) < (nn : Int) := by omega
      obtain ⟨x1, x2⟩ := mul_bound (a := z) (b := iv) hzb.1 (by omega) hi0 (by omega)
      have hp0 : (p == 0) = false := by rw [beq_eq_false_iff_ne]; omega
      clear hset hsz hz hI4 hfz' hlc hOj hm' hkp hks hcn
      go_wp2_with (fail)
      refine wp_region_still_tail 11 (by kernel_rfl) (by kernel_rfl) ?_
      simp only [List.take_succ_cons, List.take_zero, List.drop_succ_cons, List.drop_zero]
      change wpStill _ _ wr.drew (fun a' => wpList _ _ _ _ a' wr.drew) _ _
      have q1 := Int.emod_nonneg (z * iv) (show p ≠ 0 by omega)
      have q2 := Int.emod_lt_of_pos (z * iv) (show 0 < p by omega)
      have ws : IntKind.i64.wrap (z * iv) = z * iv := IntWalk.i64_in _ (by omega)
      have ws2 : IntKind.i64.wrap (z * iv % p) = z * iv % p := IntWalk.i64_in _ (by omega)
      have tm : (z * iv).tmod p = z * iv % p := Int.tmod_eq_emod_of_nonneg x1
      have hpz : ¬ p = 0 := by omega
      repeat still_step
      refine wpStill_nil ?_
      clear ws ws2 tm hpz
      go_wp2_with (fail)
      go_roundw
      case rel => exact ⟨j + 1, by omega, by go_num, HST.out.1, HST.out.2.1, HST.out.2.2⟩
      case measure => simp [intOf]; omega
    · obtain rfl : nn = j := by omega
      have hO2 : RwF wr (some ad) cap (scaleL p r (invM p by_) L) fp := by
        have := hOj
        rw [List.take_of_length_le (by rw [scaleV_length, HVl.out]; omega), List.drop_of_length_le (by rw [HVl.out]; omega), List.append_nil, HV.out, HIV.out] at this
        obtain ⟨hs, e1, e2, e3⟩ := this
        exact ⟨hs, e1, e2, fun b hb => HSUB.out b (e3 b hb)⟩
      have hkk : Keeps (· ∈ fp) w wr := (Keeps.of_below HB.out _).trans (hkp.mono fun b _ hb => HSUB.out b hb)
      clear hOj hlc hm'
      go_wp2_with (fail)
      go_end0
      exact ⟨rfl, hO2, hkk⟩
set_option maxRecDepth 8000 in
set_option maxHeartbeats 2000000 in
theorem applyS_any (p by_ : Int) (i r m nn : Nat) (A : Option Addr) (cap : Nat) (L : List (List Int)) (fp : List Nat) (w : World) (h : RwF w A cap L fp) (hm : Mat p m nn L) (hi : i < m) (hr : r < m) (hne : i ≠ r) (_hml : m ≤ 1048576) (hnl : nn ≤ 1048576) (h2 : 2 ≤ p) (h97 : p ≤ 97) (hb0 : 0 ≤ by_) (hb1 : by_ < p) :
    Calls Tryd.prog 182 #[.agg #[.int .i64 2, .int .i64 i, .int .i64 r, .int .i64 by_], .int .i64 p, .slice A m cap] w fun e w' => e = .returned (.tuple #[]) ∧ RwF w' A cap (L.set i (addT p (L.getD i []) (-by_) (L.getD r []))) fp ∧ Keeps (· ∈ fp) w w' := by
  have hml' := hm.len
  have hbw : Below w.heap.size w (w.alloc (.cells #[.int .i64 2, .int .i64 i, .int .i64 r, .int .i64 by_] tOp)) := (Below.refl _ _).alloc (Nat.le_refl _) _
  obtain ⟨W, hW⟩ : ∃ W, W = w.alloc (.cells #[.int .i64 2, .int .i64 i, .int .i64 r, .int .i64 by_] tOp) := ⟨_, rfl⟩
  have hk : W.heap[w.heap.size]? = some (.cells #[.int .i64 2, .int .i64 i, .int .i64 r, .int .i64 by_] tOp) := by rw [hW]; exact heap_alloc_new w _
  obtain ⟨⟨c0, c1, c2, c3⟩, f0, f1, f2, f3⟩ := box4 hk
  rw [← hW] at hbw
  have hR := h.below hbw
  obtain ⟨ad, B, c, hA, hci, hfi, hIi, _⟩ := hR.get (i := i) (by omega)
  subst hA
  obtain ⟨ad', C, d, hA', hcr, hfr, hIr, _⟩ := hR.get (i := r) (by omega)
  obtain rfl := Option.some.inj hA'
  have hap := hR.apart (i := r) (k := i) (by omega) (by omega) (Ne.symm hne) rfl hcr hci
  have hli := (hm.get hi).1
  have hlr := (hm.get hr).1
  have hC := addTimes_any p (-by_) B C c d (L.getD i []) (L.getD r []) W.drew hIi hIr.rd (fun _ b hb => hap b hb) (by omega) (by omega) (by omega) h97 (hm.get hi).2 (hm.get hr).2 (by omega) (by omega)
  rw [hli, hlr] at hC
  rw [hli] at hci
  rw [hlr] at hcr
  have HW := Lib.hid (fun (w' : World) (hw : Wr W.drew w' B (ints (addT p (L.getD i []) (-by_) (L.getD r [])))) => hR.drew.wr (i := i) (by omega) rfl hci (l' := addT p (L.getD i []) (-by_) (L.getD r [])) (by rw [addT_length]) hw)
  have HC := Lib.hid hC; have HB := Lib.hid hbw
  have hrI : (r : Int) < (m : Int) := by omega
  have hiI : (i : Int) < (m : Int) := by omega
  clear hk h hC hml' hbw hR hIi hIr hap hli hlr hfi hfr
  go_enter Tryd.func182, Tryd.ntmps182
  go_wp2_with (fail)
  rw [← hW]
  clear hW
  refine wp_region_still_tail 14 (by kernel_rfl) (by kernel_rfl) ?_
  simp only [List.take_succ_cons, List.take_zero, List.drop_succ_cons, List.drop_zero]
  change wpStill _ _ W.drew (fun a' => wpList _ _ _ _ a' W.drew) _ _
  repeat still_step
  refine wpStill_nil ?_
  go_wp2_with (fail)
  refine HC.out.mono ?_
  rintro e w' ⟨rfl, hw⟩
  obtain ⟨h1, h2⟩ := HW.out w' hw
  go_wp2_with (fail)
  go_end0
  exact ⟨rfl, h1, (Keeps.of_below HB.out _).trans ((Keeps.refl _ _).drew.trans h2)⟩
end Go.Proofs.YtahnhblodfdfhaaDoor
namespace Go.Proofs.YtahnhblodfdfhaaDoor
open Go.RowKit
structure Cap (w : World) (p : Int) (P4 P5 P7 : Nat) (A : Option Addr) (cap : Nat) (L : List (List Int)) (fp : List Nat) (A' : Option Addr) (cap' : Nat) (K : List (List Int)) (fp' : List Nat) (m : Nat) : Prop where
  c4 : w.cell? ⟨P4, 0, none⟩ = some (.int .i64 p)
  c5 : w.cell? ⟨P5, 0, none⟩ = some (.slice A m cap)
  c7 : w.cell? ⟨P7, 0, none⟩ = some (.slice A' m cap')
  rows : RwF w A cap L fp
  also : RwF w A' cap' K fp'
  ap : ∀ b, b ∈ fp → ¬ b ∈ fp'
  n4 : ¬ P4 ∈ fp ∧ ¬ P4 ∈ fp'
  n5 : ¬ P5 ∈ fp ∧ ¬ P5 ∈ fp'
  n7 : ¬ P7 ∈ fp ∧ ¬ P7 ∈ fp'
section
variable {w w' : World} {p : Int} {P4 P5 P7 : Nat} {A : Option Addr} {cap : Nat} {L L' : List (List Int)} {fp : List Nat} {A' : Option Addr} {cap' : Nat} {K K' : List (List Int)} {fp' : List Nat} {m : Nat}
theorem Cap.below (h : Cap w p P4 P5 P7 A cap L fp A' cap' K fp' m) (hb : Below w.heap.size w w') : Cap w' p P4 P5 P7 A cap L fp A' cap' K fp' m :=
  ⟨(hb.cell (World.block_lt_of_cell? _ _ h.c4)).trans h.c4, (hb.cell (World.block_lt_of_cell? _ _ h.c5)).trans h.c5, (hb.cell (World.block_lt_of_cell? _ _ h.c7)).trans h.c7, h.rows.below hb, h.also.below hb, h.ap, h.n4, h.n5, h.n7⟩
theorem Cap.first (h : Cap w p P4 P5 P7 A cap L fp A' cap' K fp' m) (hR : RwF w' A cap L' fp) (hk : Keeps (· ∈ fp) w w') : Cap w' p P4 P5 P7 A cap L' fp A' cap' K fp' m :=
  ⟨keeps_cell hk h.c4 h.n4.1, keeps_cell hk h.c5 h.n5.1, keeps_cell hk h.c7 h.n7.1, hR, h.also.keeps hk fun b hb hb' => h.ap b hb' hb, h.ap, h.n4, h.n5, h.n7⟩
theorem Cap.second (h : Cap w p P4 P5 P7 A cap L fp A' cap' K fp' m) (hR : RwF w' A' cap' K' fp') (hk : Keeps (· ∈ fp') w w') : Cap w' p P4 P5 P7 A cap L fp A' cap' K' fp' m :=
  ⟨keeps_cell hk h.c4 h.n4.2, keeps_cell hk h.c5 h.n5.2, keeps_cell hk h.c7 h.n7.2, h.rows.keeps hk fun b hb hb' => h.ap b hb hb', hR, h.ap, h.n4, h.n5, h.n7⟩
end
theorem swapL_self (L : List (List Int)) (r : Nat) : swapL L r r = L := by
  unfold swapL; rw [set_getD, set_getD]
set_option maxRecDepth 8000 in
set_option maxHeartbeats 2000000 in
theorem stepX_any (p : Int) (r q m : Nat) (P4 P5 P7 : Nat) (A : Option Addr) (cap : Nat) (L : List (List Int)) (fp : List Nat) (A' : Option Addr) (cap' : Nat) (K : List (List Int)) (fp' : List Nat) (w : World)
    (h : Cap w p P4 P5 P7 A cap L fp A' cap' K fp' m) (hL : L.length = m) (hK : K.length = m) (hr : r < m) (hq : q < m) (hm : m ≤ 1048576) (hnf : ¬ w.heap.size ∈ fp) :
    Calls Tryd.prog 181 #[.agg #[.int .i64 0, .int .i64 r, .int .i64 q, .int .i64 0], .pointer (some ⟨P4, 0, none⟩), .pointer (some ⟨P5, 0, none⟩), .pointer (some ⟨P7, 0, none⟩)] w
      fun e w' => e = .returned (.tuple #[]) ∧ Cap w' p P4 P5 P7 A cap (swapL L r q) fp A' cap' (swapL K r q) fp' m ∧ Keeps (fun b => b ∈ fp ∨ b ∈ fp') w w' := by
  have hbw : Below w.heap.size w (w.alloc (.cells #[.int .i64 0, .int .i64 r, .int .i64 q, .int .i64 0] tOp)) := (Below.refl _ _).alloc (Nat.le_refl _) _
  by_cases hrq : r = q
  · subst hrq
    go_enter Tryd.func181, Tryd.ntmps181
    go_wp2_with (fail)
    refine bodyPost_ret (results_none rfl _ _ _) rfl ?_
    refine ⟨rfl, ?_, Keeps.of_below hbw _⟩
    rw [swapL_self, swapL_self]
    exact h.below hbw
  · have hne : ((q : Int) == (r : Int)) = false := by rw [beq_eq_false_iff_ne]; omega
    have hne2 : ((r : Int) == (q : Int)) = false := by rw [beq_eq_false_iff_ne]; omega
    clear hbw
    have hbw : Below w.heap.size w (w.alloc (.cells #[.int .i64 0, .int .i64 r, .int .i64 q, .int .i64 0] tOp)) := (Below.refl _ _).alloc (Nat.le_refl _) _
    have hW := h.below hbw
    have HB := Lib.hid hbw; have HC := Lib.hid hW
    have d4 := hW.c4
    have d5 := hW.c5
    have d7 := hW.c7
    clear hbw hW h
    go_enter Tryd.func181, Tryd.ntmps181
    go_wp2_with (fail)
    refine (applyX_any p r q m A cap L fp _ HC.out.rows hL hr hq hm).mono ?_
    rintro e w1 ⟨rfl, h1, k1⟩
    have hF := HC.out.first h1 k1
    have HF := Lib.hid hF
    have e4 := hF.c4
    have e5 := hF.c5
    have e7 := hF.c7
    obtain ⟨g0, g1, g2, g3⟩ : w1.cell? ⟨w.heap.size, 0, none⟩ = some (.int .i64 0) ∧ w1.cell? ⟨w.heap.size, 1, none⟩ = some (.int .i64 r) ∧ w1.cell? ⟨w.heap.size, 2, none⟩ = some (.int .i64 q) ∧ w1.cell? ⟨w.heap.size, 3, none⟩ = some (.int .i64 0) := by
      obtain ⟨⟨a0, a1, a2, a3⟩, _⟩ := box4 (heap_alloc_new w (.cells #[.int .i64 0, .int .i64 r, .int .i64 q, .int .i64 0] tOp))
      exact ⟨keeps_cell k1 a0 hnf, keeps_cell k1 a1 hnf, keeps_cell k1 a2 hnf, keeps_cell k1 a3 hnf⟩
    clear d4 d5 d7 hF h1
    go_wp2_with (fail)
    refine (applyX_any p r q m A' cap' K fp' _ HF.out.also hK hr hq hm).mono ?_
    rintro e w2 ⟨rfl, h2, k2⟩
    go_wp2_with (fail)
    go_end0
    exact ⟨rfl, HF.out.second h2 k2, (Keeps.of_below HB.out _).trans ((k1.mono fun b _ hb => .inl hb).trans (k2.mono fun b _ hb => .inr hb))⟩
set_option maxRecDepth 8000 in
set_option maxHeartbeats 2000000 in
theorem stepD_any (p by_ : Int) (r : Nat) (m nn n2 : Nat) (P4 P5 P7 : Nat) (A : Option Addr) (cap : Nat) (L : List (List Int)) (fp : List Nat) (A' : Option Addr) (cap' : Nat) (K : List (List Int)) (fp' : List Nat) (w : World)
    (h : Cap w p P4 P5 P7 A cap L fp A' cap' K fp' m) (hL : Mat p m nn L) (hK : Mat p m n2 K) (hr : r < m) (hm : m ≤ 1048576) (hnl : nn ≤ 1048576) (hn2 : n2 ≤ 1048576) (h2 : 2 ≤ p) (h97 : p ≤ 97) (hb0 : 0 ≤ by_) (hb1 : by_ < p) (hi0 : 0 ≤ invM p by_) (hi1 : invM p by_ < p) (hnf : ¬ w.heap.size ∈ fp) :
    Calls Tryd.prog 181 #[.agg #[.int .i64 1, .int .i64 r, .int .i64 0, .int .i64 by_], .pointer (some ⟨P4, 0, none⟩), .pointer (some ⟨P5, 0, none⟩), .pointer (some ⟨P7, 0, none⟩)] w
      fun e w' => e = .returned (.tuple #[]) ∧ Cap w' p P4 P5 P7 A cap (scaleL p r (invM p by_) L) fp A' cap' (scaleL p r (invM p by_) K) fp' m ∧ Keeps (fun b => b ∈ fp ∨ b ∈ fp') w w' := by
  have hbw : Below w.heap.size w (w.alloc (.cells #[.int .i64 1, .int .i64 r, .int .i64 0, .int .i64 by_] tOp)) := (Below.refl _ _).alloc (Nat.le_refl _) _
  have hW := h.below hbw
  have HB := Lib.hid hbw; have HC := Lib.hid hW
  have d4 := hW.c4
  have d5 := hW.c5
  have d7 := hW.c7
  clear hbw hW h
  go_enter Tryd.func181, Tryd.ntmps181
  go_wp2_with (fail)
  refine (applyD_any p by_ r m nn A cap L fp _ HC.out.rows hL hr hm hnl h2 h97 hb0 hb1 hi0 hi1).mono ?_
  rintro e w1 ⟨rfl, h1, k1⟩
  have hF := HC.out.first h1 k1
  have HF := Lib.hid hF
  have e4 := hF.c4
  have e5 := hF.c5
  have e7 := hF.c7
  obtain ⟨g0, g1, g2, g3⟩ : w1.cell? ⟨w.heap.size, 0, none⟩ = some (.int .i64 1) ∧ w1.cell? ⟨w.heap.size, 1, none⟩ = some (.int .i64 r) ∧ w1.cell? ⟨w.heap.size, 2, none⟩ = some (.int .i64 0) ∧ w1.cell? ⟨w.heap.size, 3, none⟩ = some (.int .i64 by_) := by
    obtain ⟨⟨a0, a1, a2, a3⟩, _⟩ := box4 (heap_alloc_new w (.cells #[.int .i64 1, .int .i64 r, .int .i64 0, .int .i64 by_] tOp))
    exact ⟨keeps_cell k1 a0 hnf, keeps_cell k1 a1 hnf, keeps_cell k1 a2 hnf, keeps_cell k1 a3 hnf⟩
  clear d4 d5 d7 hF h1
  go_wp2_with (fail)
  refine (applyD_any p by_ r m n2 A' cap' K fp' _ HF.out.also hK hr hm hn2 h2 h97 hb0 hb1 hi0 hi1).mono ?_
  rintro e w2 ⟨rfl, h2, k2⟩
  go_wp2_with (fail)
  go_end0
  exact ⟨rfl, HF.out.second h2 k2, (Keeps.of_below HB.out _).trans ((k1.mono fun b _ hb => .inl hb).trans (k2.mono fun b _ hb => .inr hb))⟩
set_option maxRecDepth 8000 in
set_option maxHeartbeats 2000000 in
theorem stepS_any (p by_ : Int) (i r : Nat) (m nn n2 : Nat) (P4 P5 P7 : Nat) (A : Option Addr) (cap : Nat) (L : List (List Int)) (fp : List Nat) (A' : Option Addr) (cap' : Nat) (K : List (List Int)) (fp' : List Nat) (w : World)
    (h : Cap w p P4 P5 P7 A cap L fp A' cap' K fp' m) (hL : Mat p m nn L) (hK : Mat p m n2 K) (hi : i < m) (hr : r < m) (hne : i ≠ r) (hm : m ≤ 1048576) (hnl : nn ≤ 1048576) (hn2 : n2 ≤ 1048576) (h2 : 2 ≤ p) (h97 : p ≤ 97) (hb0 : 0 ≤ by_) (hb1 : by_ < p) (hnf : ¬ w.heap.size ∈ fp) :
    Calls Tryd.prog 181 #[.agg #[.int .i64 2, .int .i64 i, .int .i64 r, .int .i64 by_], .pointer (some ⟨P4, 0, none⟩), .pointer (some ⟨P5, 0, none⟩), .pointer (some ⟨P7, 0, none⟩)] w
      fun e w' => e = .returned (.tuple #[]) ∧ Cap w' p P4 P5 P7 A cap (L.set i (addT p (L.getD i []) (-by_) (L.getD r []))) fp A' cap' (K.set i (addT p (K.getD i []) (-by_) (K.getD r []))) fp' m ∧ Keeps (fun b => b ∈ fp ∨ b ∈ fp') w w' := by
  have hbw : Below w.heap.size w (w.alloc (.cells #[.int .i64 2, .int .i64 i, .int .i64 r, .int .i64 by_] tOp)) := (Below.refl _ _).alloc (Nat.le_refl _) _
  have hW := h.below hbw
  have HB := Lib.hid hbw; have HC := Lib.hid hW
  have d4 := hW.c4
  have d5 := hW.c5
  have d7 := hW.c7
  clear hbw hW h
  go_enter Tryd.func181, Tryd.ntmps181
  go_wp2_with (fail)
  refine (applyS_any p by_ i r m nn A cap L fp _ HC.out.rows hL hi hr hne hm hnl h2 h97 hb0 hb1).mono ?_
  rintro e w1 ⟨rfl, h1, k1⟩
  have hF := HC.out.first h1 k1
  have HF := Lib.hid hF
  have e4 := hF.c4
  have e5 := hF.c5
  have e7 := hF.c7
  obtain ⟨g0, g1, g2, g3⟩ : w1.cell? ⟨w.heap.size, 0, none⟩ = some (.int .i64 2) ∧ w1.cell? ⟨w.heap.size, 1, none⟩ = some (.int .i64 i) ∧ w1.cell? ⟨w.heap.size, 2, none⟩ = some (.int .i64 r) ∧ w1.cell? ⟨w.heap.size, 3, none⟩ = some (.int .i64 by_) := by
    obtain ⟨⟨a0, a1, a2, a3⟩, _⟩ := box4 (heap_alloc_new w (.cells #[.int .i64 2, .int .i64 i, .int .i64 r, .int .i64 by_] tOp))
    exact ⟨keeps_cell k1 a0 hnf, keeps_cell k1 a1 hnf, keeps_cell k1 a2 hnf, keeps_cell k1 a3 hnf⟩
  clear d4 d5 d7 hF h1
  go_wp2_with (fail)
  refine (applyS_any p by_ i r m n2 A' cap' K fp' _ HF.out.also hK hi hr hne hm hn2 h2 h97 hb0 hb1).mono ?_
  rintro e w2 ⟨rfl, h2, k2⟩
  go_wp2_with (fail)
  go_end0
  exact ⟨rfl, HF.out.second h2 k2, (Keeps.of_below HB.out _).trans ((k1.mono fun b _ hb => .inl hb).trans (k2.mono fun b _ hb => .inr hb))⟩
end Go.Proofs.YtahnhblodfdfhaaDoor
namespace Go.Proofs.YtahnhblodfdfhaaDoor
open Go.RowKit
theorem box1 {w : World} {B : Nat} {x : Value} {t : TypeId} (h : w.heap[B]? = some (.cells #[x] t)) : w.cell? ⟨B, 0, none⟩ = some x := by simp [World.cell?, h]
theorem pair_of {α β γ : Type} {x : α × β × γ} {a : α} {b : β} {c : γ} (h1 : x.1 = a) (h2 : x.2.1 = b) (h3 : x.2.2 = c) : x = (a, b, c) := by
  obtain ⟨x1, x2, x3⟩ := x; subst h1 h2 h3; rfl
set_option maxRecDepth 100000 in
set_option maxHeartbeats 4000000 in
theorem reduction_any (p : Int) (n m n2 : Nat) (A : Option Addr) (cap : Nat) (L : List (List Int)) (fp : List Nat) (A' : Option Addr) (cap' : Nat) (K : List (List Int)) (fp' : List Nat) (w : World) (hRL : RwF w A cap L fp) (hRK : RwF w A' cap' K fp') (hap : ∀ b, b ∈ fp → ¬ b ∈ fp')
    (hlf : LtL w.heap.size fp) (hlf' : LtL w.heap.size fp') (hp : fieldB p = true) (hmL : Mat p m n L) (hmK : Mat p m n2 K) (hm : m ≤ 1048576) (hn : n ≤ 1048576) (hn2 : n2 ≤ 1048576) :
    Calls Tryd.prog 158 #[.int .i64 p, .slice A m cap, .int .i64 n, .slice A' m cap'] w fun e w' => e = .returned (.int .i64 ((redTo p L K n).1 : Nat)) ∧ RwF w' A cap (redTo p L K n).2.1 fp ∧ RwF w' A' cap' (redTo p L K n).2.2 fp' ∧ Keeps (fun b => b ∈ fp ∨ b ∈ fp') w w' := by
  have hmf : ∀ (fn : Fn) (first cap : Array Value) (w : World), (Instr.makeFunc fn first cap).run Tryd.prog w = .ok (.func fn first cap) w := fun _ _ _ _ => rfl
  have hpb := fieldB_bounds hp
  have HP := Lib.hid hp; have HML := Lib.hid hmL; have HMK := Lib.hid hmK
  obtain ⟨W, hW⟩ : ∃ W, W = ((w.alloc (.cells #[.int .i64 p] 3)).alloc (.cells #[.slice A m cap] 22)).alloc (.cells #[.slice A' m cap'] 22) := ⟨_, rfl⟩
  have hBW : Below w.heap.size w W := by rw [hW]; exact (((Below.refl _ _).alloc (Nat.le_refl _) _).alloc (by simp) _).alloc (by simp; omega) _
  have hCap : Cap W p w.heap.size (w.heap.size + 1) (w.heap.size + 1 + 1) A cap L fp A' cap' K fp' m := by
    refine ⟨?_, ?_, ?_, hRL.below hBW, hRK.below hBW, hap, ⟨fun h => absurd (hlf _ h) (by omega), fun h => absurd (hlf' _ h) (by omega)⟩, ⟨fun h => absurd (hlf _ h) (by omega), fun h => absurd (hlf' _ h) (by omega)⟩, ⟨fun h => absurd (hlf _ h) (by omega), fun h => absurd (hlf' _ h) (by omega)⟩⟩
    · rw [hW, World.cell?_alloc_lt _ _ _ (by simp; omega), World.cell?_alloc_lt _ _ _ (by simp)]
      exact box1 (heap_alloc_new w _)
    · rw [hW, World.cell?_alloc_lt _ _ _ (by simp)]
      have := heap_alloc_new (w.alloc (.cells #[.int .i64 p] 3)) (.cells #[.slice A m cap] 22)
      rw [World.size_alloc] at this
      exact box1 this
    · rw [hW]
      have := heap_alloc_new ((w.alloc (.cells #[.int .i64 p] 3)).alloc (.cells #[.slice A m cap] 22)) (.cells #[.slice A' m cap'] 22)
      rw [World.size_alloc, World.size_alloc] at this
      exact box1 this
  have hnf : ∀ wr : World, Keeps (fun b => b ∈ fp ∨ b ∈ fp') W wr → ¬ wr.heap.size ∈ fp := fun wr hk hh => by
    have := hlf _ hh; have := hk.size; have := hBW.size; omega
  have HNF := Lib.hid hnf; have HBW := Lib.hid hBW; have HCap := Lib.hid hCap; clear hRL hRK hap hlf hlf' hp hmL hmK hBW hCap hnf
  go_enter Tryd.func158, Tryd.ntmps158
  go_wp2_with (fail)
  rw [← hW]
  clear hW
  go_loopw [11, 9] (fun ci ri wr => ∃ (col R : Nat) (M K1 : List (List Int)), col ≤ n ∧ ci = .int .i64 col ∧ ri = .int .i64 R ∧ redTo p L K col = (R, M, K1) ∧ Mat p m n2 K1 ∧ Cap wr p w.heap.size (w.heap.size + 1) (w.heap.size + 1 + 1) A cap M fp A' cap' K1 fp' m ∧ Keeps (fun b => b ∈ fp ∨ b ∈ fp') W wr) (fun ci _ _ => n - (intOf ci).toNat)
  case atStart => exact ⟨0, 0, L, K, Nat.zero_le _, rfl, rfl, rfl, HMK.out, HCap.out, Keeps.refl _ _⟩
  case round =>
    obtain ⟨col, R, M, K1, hcol, rfl, rfl, hrt, hmK1, hC, hkp⟩ := hrel
    obtain ⟨hMm, hRm⟩ := redTo_mat HP.out HML.out K hcol
    rw [hrt] at hMm hRm
    have hMm : Mat p m n M := hMm
    have hRm : R ≤ m := hRm
    have HRT := Lib.hid hrt; have HMm := Lib.hid hMm; have HMl := Lib.hid hMm.len; have HMK1 := Lib.hid hmK1
    have d5 := hC.c5
    have HC := Lib.hid hC; have HKP := Lib.hid hkp; clear hrt hMm hC hkp hmK1 HCap
    by_cases hgo : col < n ∧ R < m
    case neg =>
      have hend : redTo p L K n = (R, M, K1) := by
        by_cases hc : col < n
        · have hs := redTo_stable (p := p) (L := L) (A := K) (c := col) (by rw [HRT.out]; show M.length ≤ R; rw [HMl.out]; omega) (n - col)
          rw [show col + (n - col) = n by omega] at hs
          rw [hs, HRT.out]
        · obtain rfl : n = col := by omega
          exact HRT.out
      have HE := Lib.hid hend; clear hend
      by_cases hc : col < n
      · have hRk : ¬ ((R : Int) < (m : Int)) := by omega
        go_wp2_with (fail)
        go_ret
        rw [HE.out]
        exact ⟨rfl, HC.out.rows, HC.out.also, (Keeps.of_below HBW.out _).trans HKP.out⟩
      · have hcI : ¬ ((col : Int) < (n : Int)) := by omega
        go_wp2_with (fail)
        go_ret
        rw [HE.out]
        exact ⟨rfl, HC.out.rows, HC.out.also, (Keeps.of_below HBW.out _).trans HKP.out⟩
    case pos =>
      obtain ⟨hcn, hRk⟩ := hgo
      have hcI : (col : Int) < (n : Int) := by omega
      have hRI : (R : Int) < (m : Int) := by omega
      go_wp2_with (fail)
      go_loop [12] (fun v => ∃ q : Nat, R ≤ q ∧ q ≤ m ∧ v = .int .i64 q ∧ pvFrom M col (m - q) q = pvFrom M col (m - R) R) (fun v => m - (intOf v).toNat)
      case atStart => exact ⟨R, Nat.le_refl _, by omega, rfl, rfl⟩
      case round =>
        obtain ⟨q, hRq, hqk, rfl, hpv⟩ := hrel
        have HPV := Lib.hid hpv; clear hpv
        by_cases hlt : q < m
        · obtain ⟨ad, B, d, hA', hcq, hfq, hIq, _⟩ := HC.out.rows.get (i := q) (by rw [HMl.out]; exact hlt)
          have hrl := (HMm.out.get hlt).1
          obtain ⟨bd, x, hB, hx, _, hcx, _⟩ := hIq.at_ (j := col) (by rw [hrl]; exact hcn)
          have hxe : x = en M q col := by unfold en; simp [List.getD] at hx ⊢; rw [hx]; rfl
          have hxb := HMm.out.en (by omega) hlt col
          rw [← hxe] at hxb
          rw [hrl] at hcq
          have HXE := Lib.hid hxe
          have hqI : (q : Int) < (m : Int) := by omega
          subst hA'
          subst hB
          by_cases hx0 : x = 0
          · subst hx0
            have hpn := pvFrom_eq hlt HXE.out.symm
            have HPN := Lib.hid hpn; clear hpn hxe hIq hrl hx hfq
            go_wp2_with (fail)
            go_round
            case rel => exact ⟨q + 1, by omega, by omega, by go_num, by rw [← HPN.out]; exact HPV.out⟩
            case measure => simp [intOf]; omega
          · have hx1 : (x == 0) = false := by rw [beq_eq_false_iff_ne]; exact hx0
            have hpn : pvFrom M col (m - R) R = q := by rw [← HPV.out]; exact pvFrom_hit hlt (by rw [← HXE.out]; exact hx0)
            have HPN := Lib.hid hpn
            have hX := stepX_any p R q m w.heap.size (w.heap.size + 1) (w.heap.size + 1 + 1) (some ad) cap M fp A' cap' K1 fp' wr HC.out HMl.out HMK1.out.len hRk hlt hm (HNF.out wr HKP.out)
            have HX := Lib.hid hX; clear hX hpn HPV hxe hIq hrl hx hfq
            go_wp2_with (fail)
            refine HX.out.mono ?_
            clear HX
            rintro e w1 ⟨rfl, hC1, hk1⟩
            obtain ⟨S, hS⟩ : ∃ S, S = swapL M R q := ⟨_, rfl⟩
            obtain ⟨S1, hS1⟩ : ∃ S1, S1 = swapL K1 R q := ⟨_, rfl⟩
            rw [← hS, ← hS1] at hC1
            have hSm : Mat p m n S := by rw [hS]; exact HMm.out.swap hRk hlt
            have hS1m : Mat p m n2 S1 := by rw [hS1]; exact HMK1.out.swap hRk hlt
            have hSx : en S R col = x := by
              rw [HXE.out, hS]; unfold en
              rw [swapL_get (by rw [HMl.out]; omega) (by rw [HMl.out]; omega)]
              by_cases e : R = q
              · rw [if_pos e, e]
              · rw [if_neg e, if_pos rfl]
            have hk01 := HKP.out.trans hk1
            obtain ⟨ad3, B3, c3, hA3, hc3, hf3, hI3, _⟩ := hC1.rows.get (i := R) (by rw [hSm.len]; omega)
            obtain rfl := Option.some.inj hA3
            have hl3 := (hSm.get (show R < m by omega)).1
            obtain ⟨b3, y, hB3, hy, _, hcy, _⟩ := hI3.at_ (j := col) (by rw [hl3]; exact hcn)
            have hyx : y = x := by rw [← hSx]; unfold en; simp [List.getD] at hy ⊢; rw [hy]; rfl
            subst hyx
            subst hB3
            rw [hl3] at hc3
            have hy1 : 1 ≤ y := by omega
            have hy2 : y < p := hxb.2
            have hinv := invM_spec HP.out hy1 hy2
            have e5 := hC1.c5
            have hD := stepD_any p y R m n n2 w.heap.size (w.heap.size + 1) (w.heap.size + 1 + 1) (some ad) cap S fp A' cap' S1 fp' w1 hC1 hSm hS1m hRk hm hn hn2 (by omega) (by omega) (by omega) hy2 (by have := hinv.2.1; omega) hinv.2.2 (HNF.out w1 hk01)
            have HD := Lib.hid hD; have HS := Lib.hid hS; have HS1 := Lib.hid hS1; have HSm := Lib.hid hSm; have HS1m := Lib.hid hS1m; have HK01 := Lib.hid hk01; clear hD hS hS1 hSm hS1m hSx hk01 hI3 hl3 hy hC1 hk1 hinv hcq hcx hf3
            go_wp2_with (fail)
            refine HD.out.mono ?_
            clear HD hc3 hcy e5
            rintro e w2 ⟨rfl, hC2, hk2⟩
            obtain ⟨iv, hiv⟩ : ∃ iv, iv = invM p y := ⟨_, rfl⟩
            obtain ⟨M2, hM2⟩ : ∃ M2, M2 = scaleL p R iv S := ⟨_, rfl⟩
            obtain ⟨K2, hK2⟩ : ∃ K2, K2 = scaleL p R iv S1 := ⟨_, rfl⟩
            rw [← hiv, ← hM2, ← hK2] at hC2
            have hm2 : Mat p m n M2 := by rw [hM2]; exact HSm.out.scale (by omega) hRk iv
            have hkm2 : Mat p m n2 K2 := by rw [hK2]; exact HS1m.out.scale (by omega) hRk iv
            have hk02 := HK01.out.trans hk2
            have e5 := hC2.c5
            have HC2 := Lib.hid hC2; have Hm2 := Lib.hid hm2; have Hkm2 := Lib.hid hkm2; have HIV := Lib.hid hiv; have HM2 := Lib.hid hM2; have HK2 := Lib.hid hK2; have HK02 := Lib.hid hk02; clear hiv hM2 hK2 hm2 hkm2 hk02 hC2 hk2
            go_wp2_with (fail)
            clear e5
            go_loopw [65] (fun i wr5 => ∃ g : Nat, g ≤ m ∧ i = .int .i64 g ∧ Cap wr5 p w.heap.size (w.heap.size + 1) (w.heap.size + 1 + 1) (some ad) cap (elimTo p R (fun i => en M2 i col) M2 g) fp A' cap' (elimTo p R (fun i => en M2 i col) K2 g) fp' m ∧ Keeps (fun b => b ∈ fp ∨ b ∈ fp') W wr5) (fun i _ => m - (intOf i).toNat)
            case atStart => exact ⟨0, Nat.zero_le _, rfl, by rw [elimTo_zero, elimTo_zero]; exact HC2.out, HK02.out⟩
            case round =>
              obtain ⟨g, hg, rfl, hCg, hkg⟩ := hrel
              have hEm := Hm2.out.elim (r := R) (q := g) (f := fun i => en M2 i col) (by omega)
              have hEk := Hkm2.out.elim (r := R) (q := g) (f := fun i => en M2 i col) (by omega)
              have e5 := hCg.c5
              have hml2 := Hm2.out.len
              have hkl2 := Hkm2.out.len
              by_cases hgk : g < m
              · have hgI : (g : Int) < (m : Int) := by omega
                by_cases hgR : g = R
                · have hb : ((g : Int) != (R : Int)) = false := by simp; omega
                  have hsk := elimTo_skip (p := p) (L := M2) (f := fun i => en M2 i col) (.inl hgR)
                  have hsk2 := elimTo_skip (p := p) (L := K2) (f := fun i => en M2 i col) (.inl hgR)
                  have HR := Lib.hid (show Cap wr p w.heap.size (w.heap.size + 1) (w.heap.size + 1 + 1) (some ad) cap (elimTo p R (fun i => en M2 i col) M2 (g + 1)) fp A' cap' (elimTo p R (fun i => en M2 i col) K2 (g + 1)) fp' m by rw [hsk, hsk2]; exact hCg)
                  have HGR := Lib.hid hgR; have HKG := Lib.hid hkg; clear hsk hsk2 hgR hEm hEk hml2 hkl2 hCg hkg
                  go_wp2_with (fail)
                  go_roundw
                  case rel => exact ⟨g + 1, by omega, by go_num, HR.out, HKG.out⟩
                  case measure => simp [intOf]; omega
                · have hb : ((g : Int) != (R : Int)) = true := by simp; omega
                  obtain ⟨ad4, B4, c4, hA4, hc4, hf4, hI4, _⟩ := hCg.rows.get (i := g) (by rw [elimTo_length, hml2]; exact hgk)
                  obtain rfl := Option.some.inj hA4
                  rw [elimTo_at (by rw [hml2]; exact hgk)] at hc4 hI4
                  have hgl := (Hm2.out.get hgk).1
                  rw [hgl] at hc4
                  obtain ⟨b4, x2, hB4, hx2, _, hcx2, _⟩ := hI4.at_ (j := col) (by rw [hgl]; exact hcn)
                  have hx2e : x2 = en M2 g col := by unfold en; simp [List.getD] at hx2 ⊢; rw [hx2]; rfl
                  have hx2b := Hm2.out.en (by omega) hgk col
                  rw [← hx2e] at hx2b
                  subst hB4
                  by_cases hx20 : x2 = 0
                  · subst hx20
                    have hsk := elimTo_skip (p := p) (r := R) (q := g) (L := M2) (f := fun i => en M2 i col) (.inr hx2e.symm)
                    have hsk2 := elimTo_skip (p := p) (r := R) (q := g) (L := K2) (f := fun i => en M2 i col) (.inr hx2e.symm)
                    have HR := Lib.hid (show Cap wr p w.heap.size (w.heap.size + 1) (w.heap.size + 1 + 1) (some ad) cap (elimTo p R (fun i => en M2 i col) M2 (g + 1)) fp A' cap' (elimTo p R (fun i => en M2 i col) K2 (g + 1)) fp' m by rw [hsk, hsk2]; exact hCg)
                    have HKG := Lib.hid hkg; clear hsk hsk2 hEm hEk hml2 hkl2 hCg hkg hI4 hx2 hx2e hgl hf4
                    go_wp2_with (fail)
                    go_roundw
                    case rel => exact ⟨g + 1, by omega, by go_num, HR.out, HKG.out⟩
                    case measure => simp [intOf]; omega
                  · have hx21 : (x2 != 0) = true := by simp; exact hx20
                    have hst := elimTo_step (p := p) (r := R) (q := g) (L := M2) (f := fun i => en M2 i col) (by rw [hml2]; exact hgk) hgR (by rw [← hx2e]; exact hx20)
                    have hst2 := elimTo_step (p := p) (r := R) (q := g) (L := K2) (f := fun i => en M2 i col) (by rw [hkl2]; exact hgk) hgR (by rw [← hx2e]; exact hx20)
                    have hSt := stepS_any p x2 g R m n n2 w.heap.size (w.heap.size + 1) (w.heap.size + 1 + 1) (some ad) cap _ fp A' cap' _ fp' wr hCg hEm hEk hgk hRk hgR hm hn hn2 (by omega) (by omega) hx2b.1 hx2b.2 (HNF.out wr hkg)
                    rw [elimTo_at (by rw [hml2]; exact hgk), elimTo_piv (by rw [hml2]; exact hRk), elimTo_at (by rw [hkl2]; exact hgk), elimTo_piv (by rw [hkl2]; exact hRk)] at hSt
                    rw [show -x2 = -(fun i => en M2 i col) g by rw [hx2e]] at hSt
                    rw [← hst, ← hst2] at hSt
                    have HSt := Lib.hid hSt; have HKG := Lib.hid hkg; clear hst hst2 hSt hEm hEk hml2 hkl2 hCg hkg hI4 hx2 hx2e hgl hf4 hgR
                    go_wp2_with (fail)
                    refine HSt.out.mono ?_
                    clear HSt e5 hc4 hcx2
                    rintro e w4 ⟨rfl, hC4, hk4⟩
                    have HR := Lib.hid hC4
                    have HKG2 := Lib.hid (HKG.out.trans hk4)
                    clear hC4 hk4
                    go_wp2_with (fail)
                    go_roundw
                    case rel => exact ⟨g + 1, by omega, by go_num, HR.out, HKG2.out⟩
                    case measure => simp [intOf]; omega
              · obtain rfl : m = g := by omega
                obtain ⟨e1, e2, e3⟩ := redTo_some (p := p) (L := L) (A := K) (c := col) (k := q) (by rw [HRT.out]; show pvFrom M col (M.length - R) R = q; rw [HMl.out]; exact HPN.out) (by rw [HRT.out]; show q < M.length; rw [HMl.out]; omega) (M := M2) (by rw [HRT.out, HM2.out, HS.out, HIV.out, HXE.out])
                rw [HRT.out] at e1 e2 e3
                have e1 : (redTo p L K (col + 1)).1 = R + 1 := e1
                have e2 : (redTo p L K (col + 1)).2.1 = elimTo p R (fun i => en M2 i col) M2 m := by rw [e2, hml2]
                have e3 : (redTo p L K (col + 1)).2.2 = elimTo p R (fun i => en M2 i col) K2 m := by
                  rw [e3]
                  show elimTo p R (fun i => en M2 i col) (scaleL p R (invM p (en M q col)) (swapL K1 R q)) K1.length = _
                  rw [HMK1.out.len, HK2.out, HS1.out, HIV.out, HXE.out]
                have HE := Lib.hid (pair_of e1 e2 e3)
                have HCG := Lib.hid hCg; have HKG := Lib.hid hkg; have HEK := Lib.hid hEk; clear e1 e2 e3 hEm hEk hml2 hkl2 hCg hkg
                go_wp2_with (fail)
                go_roundw
                case rel => exact ⟨col + 1, R + 1, _, _, by omega, by go_num, by go_num, HE.out, HEK.out, HCG.out, HKG.out⟩
                case measure => simp [intOf]; omega
        · obtain rfl : m = q := by omega
          have hpn : ¬ pvFrom M col (M.length - R) R < M.length := by rw [HMl.out, ← HPV.out, pvFrom_end]; omega
          have hred := redTo_none (p := p) (L := L) (A := K) (c := col) (by rw [HRT.out]; exact hpn)
          have HRD := Lib.hid hred; clear hpn hred
          go_wp2_with (fail)
          go_roundw
          case rel => exact ⟨col + 1, R, M, K1, by omega, by go_num, rfl, by rw [HRD.out]; exact HRT.out, HMK1.out, HC.out, HKP.out⟩
          case measure => simp [intOf]; omega
end Go.Proofs.YtahnhblodfdfhaaDoor
namespace Go.Proofs.YtahnhblodfdfhaaDoor
open Go.RowKit
set_option maxHeartbeats 1000000 in
theorem clones_any (A : Option Addr) (c : Nat) (hs : List Hd) (w : World) (h : RdR w A hs) (hl : hs.length ≤ 1048576) (hr : ∀ x, x ∈ hs → x.2.2.length ≤ 1048576) :
    Calls Tryd.prog 105 #[.slice A hs.length c] w (RetSS w (hs.map fun h : Hd => h.2.2)) := by
  obtain ⟨L, hLh⟩ : ∃ L, L = hs.map fun h : Hd => h.2.2 := ⟨_, rfl⟩
  rw [← hLh]
  obtain ⟨m, hmm⟩ : ∃ m, m = hs.length := ⟨_, rfl⟩
  rw [← hmm] at hl ⊢
  have HLh := Lib.hid hLh; have HM := Lib.hid hmm
  have hLen := Lib.hid (show L.length = m by rw [hLh, List.length_map, hmm])
  clear hLh hmm
  go_enter Tryd.func105, Tryd.ntmps105
  go_wp2_with (at_make; refine wpList_make_Sl _ rfl _ _ _ rfl 33 Tryd.underlying22 info_ints 0 m rfl rfl rfl rfl (Nat.zero_le _) (by omega) (by unfold maxLen; omega) ?_; intro G w1 hs1 hG hb1)
  have hOM0 : OM w w1 (some G) m [] := by
    refine ⟨[], rfl, ⟨by simpa using hs1, fun h hh => (by cases hh), .nil, fun h hh => (by cases hh)⟩, fun b hb => ?_, hb1⟩
    have : b = G.block := by simpa [fpR] using hb
    subst this; exact hG
  clear hs1
  go_loopw [11, 3] (fun i v wr => ∃ (k : Nat) (A' : Option Addr) (c' : Nat), k ≤ m ∧ i = .int .i64 k ∧ v = .slice A' k c' ∧ OM w wr A' c' (L.take k)) (fun i _ _ => m - (intOf i).toNat)
  case atStart => exact ⟨0, some G, m, Nat.zero_le _, rfl, rfl, hOM0⟩
  case round =>
    clear hOM0
    obtain ⟨k, A', c', hk, rfl, rfl, hOM⟩ := hrel
    by_cases hlt : k < m
    · obtain ⟨ad, B, d, l, rfl, hx, hc, hri⟩ := (h.below hOM.below_).at_ (k := k) (by rw [← HM.out]; exact hlt)
      have hlx : L[k]? = some l := by rw [HLh.out, List.getElem?_map, hx]; rfl
      have hll : l.length ≤ 1048576 := hr _ (List.mem_of_getElem? hx)
      obtain ⟨gs, hLg, hO, hf, h0⟩ := hOM
      have hgl : gs.length = k := by
        have := congrArg List.length hLg
        rw [List.length_take, hLen.out, List.length_map] at this
        omega
      have HX := Lib.hid hlx; have HG := Lib.hid hLg; have HGL := Lib.hid hgl
      have hkI : (k : Int) < (m : Int) := by omega
      have hC := clone_any B d l wr hri (by omega)
      have HC := Lib.hid hC; clear hx hlx hLg hgl hC h hr
      go_wp2_with (fail)
      refine HC.out.mono ?_
      rintro e w1 ⟨B1, c1, rfl, hi1, hf1, hb1⟩
      have hsl : Sl (w1.alloc (.cells #[.slice B1 l.length c1] 33)) 33 1 A' k c' (gs.map Hd.val) := by
        have := (hO.sl.below hb1).alloc (.cells #[.slice B1 l.length c1] 33)
        rwa [HGL.out] at this
      go_wp2_with (at_builtin; refine wpList_append_Sl _ rfl _ _ _ rfl 33 Tryd.underlying22 info_ints rfl (by omega) rfl hsl rfl (news := [.slice B1 l.length c1]) rfl (Sl.rdc (Sl.laid w1 33 1 1 #[.slice B1 l.length c1] (by unfold maxLen; omega) rfl)) (by intro u hu; simp at hu; subst hu; rfl) (by unfold maxLen; omega) (by omega) ?_; intro A2 c2 w2 hs2 hA2 hk2)
      have hal : Below w1.heap.size w1 (w1.alloc (.cells #[.slice B1 l.length c1] 33)) := (Below.refl _ _).alloc (Nat.le_refl _) _
      have hOM2 := OM.snoc (w1 := w1.alloc (.cells #[.slice B1 l.length c1] 33)) HG.out hO hf h0 (below_trans hb1 hal hb1.size) (hi1.below hal) hf1 (by rw [HGL.out]) hs2 hA2 hk2
      have HO := Lib.hid hOM2; clear hOM2 hs2 hsl hO hf
      go_roundw
      case rel => exact ⟨k + 1, A2, c2, by omega, by go_num, rfl, by rw [List.take_add_one, HX.out]; exact HO.out⟩
      case measure => simp [intOf]; omega
    · obtain rfl : m = k := by omega
      have hOM' : OM w wr A' c' L := by have := hOM; rwa [List.take_of_length_le (by rw [hLen.out]; omega)] at this
      clear hOM h hr
      go_wp2_with (fail)
      go_ret
      have := hOM'.ret
      rw [hLen.out] at this
      exact this
theorem nils_rw {w1 : World} {G : Addr} {m : Nat} (hs : Sl w1 33 1 (some G) m m ((List.replicate m nilHd).map Hd.val)) : RwF w1 (some G) m (List.replicate m []) [G.block] := by
  refine ⟨List.replicate m nilHd, by simp [nilHd], ⟨by simpa using hs, fun h hh => ?_, ?_, fun h hh b hb => ?_⟩, fun b hb => ?_⟩
  · obtain rfl := (List.mem_replicate.1 hh).2
    exact Sl.nil _ _ _
  · refine List.pairwise_iff_getElem.2 fun i j hi hj _ b hb => ?_
    simp [nilHd] at hb
  · obtain rfl := (List.mem_replicate.1 hh).2
    simp [nilHd] at hb
  · rcases List.mem_append.1 hb with hb | hb
    · simpa using hb
    · obtain ⟨x, hx, hb⟩ := mem_fpR.1 hb
      obtain rfl := (List.mem_replicate.1 hx).2
      simp [nilHd] at hb
set_option maxHeartbeats 1000000 in
theorem reduced_any (p : Int) (n : Nat) (A : Option Addr) (c : Nat) (hs : List Hd) (w : World) (h : RdR w A hs) (hp : fieldB p = true) (hm : Mat p hs.length n (hs.map fun h : Hd => h.2.2)) (hl : hs.length ≤ 1048576) (hn : n ≤ 1048576) :
    Calls Tryd.prog 118 #[.int .i64 p, .slice A hs.length c, .int .i64 n] w (RetSS w (redM p n (hs.map fun h : Hd => h.2.2))) := by
  have hC := clones_any A c hs w h hl (fun x hx => by have := (hm.row _ (List.mem_map_of_mem hx)).1; omega)
  obtain ⟨L, hLh⟩ : ∃ L, L = hs.map fun h : Hd => h.2.2 := ⟨_, rfl⟩
  rw [← hLh] at hm hC ⊢
  obtain ⟨m, hmm⟩ : ∃ m, m = hs.length := ⟨_, rfl⟩
  rw [← hmm] at hl hm hC ⊢
  have hpb := fieldB_bounds hp
  have HC := Lib.hid hC; have HMat := Lib.hid hm; have HL := Lib.hid hm.len; clear hC hLh hmm hm h
  go_enter Tryd.func118, Tryd.ntmps118
  go_wp2_with (fail)
  refine HC.out.mono ?_
  rintro e w1 hret
  obtain ⟨A1, c1, rfl, hO1⟩ := hret.om
  rw [HL.out]
  clear hret
  go_wp2_with (at_make; refine wpList_make_Sl _ rfl _ _ _ rfl 33 Tryd.underlying22 info_ints m m rfl rfl rfl rfl (Nat.le_refl _) (by omega) (by unfold maxLen; omega) ?_; intro G w2 hs2 hG hb2)
  have hs2' : Sl w2 33 1 (some G) m m ((List.replicate m nilHd).map Hd.val) := by rw [← madeNils]; simpa using hs2
  have hK := nils_rw hs2'
  have hGl : G.block < w2.heap.size := hs2'.lt G.block (by simp)
  obtain ⟨fp, hR1, hfr, hlt⟩ := hO1.rw_
  have hR2 := hR1.below hb2
  have hmK : Mat p m 0 (List.replicate m []) := ⟨by simp, fun v hv => by obtain rfl := (List.mem_replicate.1 hv).2; exact ⟨rfl, fun x hx => by cases hx⟩⟩
  have hRd := reduction_any p n m 0 A1 c1 L fp (some G) m (List.replicate m []) [G.block] w2 hR2 hK (fun b hb hb' => by
    have := hlt b hb
    have e : b = G.block := by simpa using hb'
    omega) (fun b hb => Nat.lt_of_lt_of_le (hlt b hb) hb2.size) (fun b hb => by have e : b = G.block := by simpa using hb
                                                                                omega) hp HMat.out hmK hl hn (by omega)
  obtain ⟨e1, e2⟩ := redTo_fst p L (List.replicate m []) [] n
  rw [e1, e2] at hRd
  have hB2 : Below w.heap.size w w2 := below_trans hO1.below_ hb2 hO1.below_.size
  have hres : redM p n L = (redTo p L [] n).2.1.take (redTo p L [] n).1 := rfl
  obtain ⟨hMt, hRm⟩ := redTo_mat hp HMat.out [] (Nat.le_refl n)
  obtain ⟨R, hR⟩ : ∃ R, R = (redTo p L [] n).1 := ⟨_, rfl⟩
  obtain ⟨M, hM⟩ : ∃ M, M = (redTo p L [] n).2.1 := ⟨_, rfl⟩
  rw [← hR, ← hM] at hRd hres
  rw [← hM] at hMt
  rw [← hR] at hRm
  have HRd := Lib.hid hRd; have HRES := Lib.hid hres; have HML := Lib.hid hMt.len; have HP := Lib.hid hp; have HFR := Lib.hid hfr
  have hGw : w.heap.size ≤ G.block := Nat.le_trans hO1.below_.size hG
  clear hRd hres hMt hs2 hs2' hK hR1 hR2 hmK e1 e2 hO1 hR hM hp hfr hlt
  go_wp2_with (fail)
  refine HRd.out.mono ?_
  rintro e w3 ⟨rfl, h1, _, hk3⟩
  have hB3 : Below w.heap.size w w3 := below_keeps hB2 hk3 hB2.size fun b hb => by
    rcases hb with hb | hb
    · exact HFR.out b hb
    · have e : b = G.block := by simpa using hb
      omega
  obtain ⟨gs, hLg, hO, hf, h0⟩ := h1.om (w0 := w) HFR.out hB3
  have hgl : gs.length = m := by
    have := congrArg List.length hLg
    rw [HML.out, List.length_map] at this; omega
  have HG := Lib.hid hLg; have HGL := Lib.hid hgl
  have hsl : Sl w3 33 1 A1 m c1 (gs.map Hd.val) := by have := hO.sl; rwa [hgl] at this
  clear hLg hgl h1
  go_wp2_with (refine wpList_slice_Sl rfl (.tmp 20) none (some (.tmp 21)) (some (.tmp 22)) 22 rfl 33 Tryd.underlying22 info_ints rfl hsl 0 R R (optNone rfl) (optSome (by omega)) (optSome (by omega)) (by omega) (by omega) (Nat.le_refl _) (by have := hsl.2.1; omega) ?_; intro A2 hcut hfp _)
  go_ret
  have hT := OM.take (k := R) (m := R) (A' := A2) HG.out hO hf h0 (by rw [HGL.out]; omega) (by rw [List.map_take]; simpa using hcut) hfp
  have hlen : (M.take R).length = R := by rw [List.length_take, HML.out]; omega
  have hr := hT.ret
  rw [hlen] at hr
  rw [HRES.out]
  exact hr
end Go.Proofs.YtahnhblodfdfhaaDoor
namespace Go.Proofs.YtahnhblodfdfhaaDoor
open Go.RowKit
abbrev tRel : TypeId := 43
abbrev tSpc : TypeId := 139
theorem alloc_box (w : World) (o : Obj) : ∃ W, W = w.alloc o ∧ Below w.heap.size w W ∧ W.heap[w.heap.size]? = some o := ⟨_, rfl, (Below.refl _ _).alloc (Nat.le_refl _) _, heap_alloc_new w o⟩
end Go.Proofs.YtahnhblodfdfhaaDoor
namespace Go.Proofs.YtahnhblodfdfhaaDoor
open Go.RowKit
def rangeI (n : Nat) : List Int := (List.range n).map fun i => ((i : Nat) : Int)
@[simp] theorem rangeI_length (n : Nat) : (rangeI n).length = n := by simp [rangeI]
structure OI (w0 w : World) (A : Option Addr) (cap : Nat) (l : List Int) : Prop where
  is : IS w A cap l
  new : Fresh w0.heap.size A
  below_ : Below w0.heap.size w0 w
theorem OI.snoc {w0 w w2 : World} {A : Option Addr} {cap : Nat} {l : List Int} (h : OI w0 w A cap l) {o : Obj} {x : Int} {A' : Option Addr} {cap' n : Nat} (hn : n = l.length + 1) (hs' : Sl w2 tInt 1 A' n cap' (ints l ++ [.int .i64 x])) (hA' : ∀ b, b ∈ fpA A' → b ∈ fpA A ∨ (w.alloc o).heap.size ≤ b) (hk : Keeps (· ∈ fpA A) (w.alloc o) w2) : OI w0 w2 A' cap' (l ++ [x]) := by
  subst hn
  have hb := below_trans h.below_ ((Below.refl w.heap.size w).alloc (Nat.le_refl _) o) h.below_.size
  refine ⟨?_, fun b hb' => ?_, below_keeps hb hk hb.size h.new⟩
  · unfold IS
    have : ints (l ++ [x]) = ints l ++ [.int .i64 x] := by simp [ints]
    rw [this, List.length_append]; exact hs'
  · rcases hA' b hb' with h1 | h1
    · exact h.new b h1
    · have := hb.size; omega
set_option maxHeartbeats 400000 in
theorem unit_any (n i : Nat) (w : World) (hn : n ≤ 1048576) (hi : i < n) :
    Calls Tryd.prog 138 #[.int .i64 n, .int .i64 i] w (RetI w (unitV n i)) := by
  have hC := zeros_any n w (by omega)
  have he : (List.replicate n (0 : Int)).set i 1 = unitV n i := by
    apply List.ext_getElem?
    intro k
    by_cases hk : k < n
    · unfold unitV
      rw [List.getElem?_set, List.getElem?_map, List.getElem?_range hk]
      by_cases h : i = k
      · subst h; simp [hk]
      · simp [h, hk]; intro e; exact absurd e.symm h
    · unfold unitV
      rw [List.getElem?_eq_none (by simpa using hk), List.getElem?_eq_none (by simpa using hk)]
  have HC := Lib.hid hC; have HE := Lib.hid he
  have hul := Lib.hid (show (unitV n i).length = n by simp [unitV])
  have hiI : (i : Int) < (n : Int) := by omega
  clear hC he
  go_enter Tryd.func138, Tryd.ntmps138
  go_wp2_with (fail)
  refine HC.out.mono ?_
  rintro e w1 ⟨A, c, rfl, his, hf, hb1⟩
  rw [List.length_replicate]
  obtain ⟨ad, y, hA, hy, _, hc', hf'⟩ := his.at_ (j := i) (by simpa using hi)
  subst hA
  have hfz := hf' i
  have his' := his.set (ad := ad) rfl (j := i) 1 (by simpa using hi)
  rw [HE.out] at his'
  have HI := Lib.hid his'
  have hb' := Lib.hid (hb1.setCell (p := ad.add i) (by rw [block_of_add]; exact hf _ (by simp)) (.int .i64 1))
  clear his' hf' his hy hb1
  go_wp2_with (fail)
  go_ret
  exact ⟨some ad, c, by rw [hul.out]; rfl, HI.out, hf, hb'.out⟩
set_option maxHeartbeats 1000000 in
theorem identityRows_any (n : Nat) (w : World) (hn : n ≤ 1048576) :
    Calls Tryd.prog 161 #[.int .i64 n] w (RetSS w (idM n)) := by
  have hOM0 : OM w (w.alloc (.cells #[] 33)) (some ⟨w.heap.size, 0, none⟩) 0 [] := by
    refine ⟨[], rfl, ⟨by simpa using Sl.laid w 33 1 0 #[] (Nat.zero_le _) rfl, fun h hh => (by cases hh), .nil, fun h hh => (by cases hh)⟩, fun b hb => ?_, (Below.refl _ _).alloc (Nat.le_refl _) _⟩
    have : b = w.heap.size := by simpa [fpR] using hb
    subst this; exact Nat.le_refl _
  have hil := Lib.hid (show (idM n).length = n by simp [idM])
  go_enter Tryd.func161, Tryd.ntmps161
  go_wp2_with (fail)
  go_loopw [7, 3] (fun i v wr => ∃ (k : Nat) (A' : Option Addr) (c' : Nat), k ≤ n ∧ i = .int .i64 k ∧ v = .slice A' k c' ∧ OM w wr A' c' ((idM n).take k)) (fun i _ _ => n - (intOf i).toNat)
  case atStart => exact ⟨0, _, 0, Nat.zero_le _, rfl, rfl, hOM0⟩
  case round =>
    clear hOM0
    obtain ⟨k, A', c', hk, rfl, rfl, hOM⟩ := hrel
    by_cases hlt : k < n
    · have hC := unit_any n k wr hn hlt
      obtain ⟨gs, hLg, hO, hf, h0⟩ := hOM
      have hgl : gs.length = k := by
        have := congrArg List.length hLg
        rw [List.length_take, hil.out, List.length_map] at this
        omega
      have hpl : (unitV n k).length = n := by simp [unitV]
      have hidk : (idM n)[k]? = some (unitV n k) := by simp [idM, hlt]
      have HX := Lib.hid hidk; have HG := Lib.hid hLg; have HGL := Lib.hid hgl; have HPL := Lib.hid hpl
      have hkI : (k : Int) < (n : Int) := by omega
      have HC := Lib.hid hC; clear hLg hgl hC hpl hidk
      go_wp2_with (fail)
      refine HC.out.mono ?_
      rintro e w1 ⟨B1, c1, rfl, hi1, hf1, hb1⟩
      rw [HPL.out]
      have hsl : Sl (w1.alloc (.cells #[.slice B1 n c1] 33)) 33 1 A' k c' (gs.map Hd.val) := by
        have := (hO.sl.below hb1).alloc (.cells #[.slice B1 n c1] 33)
        rwa [HGL.out] at this
      go_wp2_with (at_builtin; refine wpList_append_Sl _ rfl _ _ _ rfl 33 Tryd.underlying22 info_ints rfl (by omega) rfl hsl rfl (news := [.slice B1 n c1]) rfl (Sl.rdc (Sl.laid w1 33 1 1 #[.slice B1 n c1] (by unfold maxLen; omega) rfl)) (by intro u hu; simp at hu; subst hu; rfl) (by unfold maxLen; omega) (by omega) ?_; intro A2 c2 w2 hs2 hA2 hk2)
      have hal2 : Below w1.heap.size w1 (w1.alloc (.cells #[.slice B1 n c1] 33)) := (Below.refl _ _).alloc (Nat.le_refl _) _
      have hOM2 := OM.snoc (w1 := w1.alloc (.cells #[.slice B1 n c1] 33)) HG.out hO hf h0 (below_trans hb1 hal2 hb1.size) (hi1.below hal2) hf1 (by rw [HGL.out]) (by rw [HPL.out]; exact hs2) hA2 hk2
      have HO := Lib.hid hOM2; clear hOM2 hs2 hsl hO hf
      go_roundw
      case rel => exact ⟨k + 1, A2, c2, by omega, by go_num, rfl, by rw [List.take_add_one, HX.out]; exact HO.out⟩
      case measure => simp [intOf]; omega
    · obtain rfl : n = k := by omega
      have hOM' : OM w wr A' c' (idM n) := by have := hOM; rwa [List.take_of_length_le (by rw [hil.out]; omega)] at this
      clear hOM
      go_wp2_with (fail)
      go_ret
      have := hOM'.ret
      rw [hil.out] at this
      exact this
end Go.Proofs.YtahnhblodfdfhaaDoor
namespace Go.Proofs.YtahnhblodfdfhaaDoor
open Go.RowKit
theorem OM.put {w0 w w1 : World} {A : Option Addr} {cap : Nat} {L : List (List Int)} (h : OM w0 w A cap L) {i : Nat} (hi : i < L.length) {ad : Addr} (hA : A = some ad) (hb : Below w.heap.size w w1) {B : Option Addr} {c : Nat} {l : List Int} (hx : IS w1 B c l) (hf1 : Fresh w.heap.size B) :
    OM w0 (w1.setCell (ad.add i) (.slice B l.length c)) A cap (L.set i l) := by
  subst hA
  obtain ⟨hs, rfl, hO, hf, h0⟩ := h
  have hi' : i < hs.length := by simpa using hi
  have hAl : ∀ b, b ∈ fpA (some ad) → b < w.heap.size := fun b hb' => hO.sl.lt b hb'
  have hRl : ∀ y, y ∈ hs → (∀ b, b ∈ fpA y.1 → b < w.heap.size) := fun y hy b hb' => (hO.rows y hy).lt b hb'
  have hk : Keeps (· ∈ fpA (some ad)) w1 (w1.setCell (ad.add i) (.slice B l.length c)) := (Keeps.refl _ w1).setCell (p := ad.add i) (by rw [block_of_add]; simp) _
  have hget : ∀ (k : Nat) (x : Hd), (hs.set i (B, c, l))[k]? = some x → (k = i ∧ x = (B, c, l)) ∨ (k ≠ i ∧ hs[k]? = some x) := by
    intro k x hx
    rw [List.getElem?_set] at hx
    split at hx
    · rename_i hk; subst hk
      simp at hx
      exact .inl ⟨rfl, hx.symm⟩
    · rename_i hk; exact .inr ⟨fun e => hk e.symm, hx⟩
  have hsz := h0.size
  have hbs := hb.size
  refine ⟨hs.set i (B, c, l), by rw [List.map_set], ⟨?_, fun x hx' => ?_, ?_, fun x hx' b hb1 hb2 => ?_⟩, fun b hb' => ?_, ?_⟩
  · have := (hO.sl.below hb).set (ad := ad) rfl i (Hd.val (B, c, l)) (by simpa using hi')
    rw [← List.map_set] at this
    rw [List.length_set]; exact this
  · rcases List.mem_or_eq_of_mem_set hx' with hx' | hx'
    · exact ((hO.rows x hx').below hb).keeps hk fun b hb' => hO.outer x hx' b hb'
    · subst hx'
      exact hx.keeps hk fun b hb' hb'' => by
        have := hf1 b hb'
        have := hAl b hb''
        omega
  · refine List.pairwise_iff_getElem.2 fun a b ha hb' hab c' h1 h2 => ?_
    rcases hget a _ (List.getElem?_eq_getElem ha) with ⟨ea, e1⟩ | ⟨ea, e1⟩ <;> rcases hget b _ (List.getElem?_eq_getElem hb') with ⟨eb, e2⟩ | ⟨eb, e2⟩
    · omega
    · rw [e1] at h1
      have := hf1 c' h1
      have := hRl _ (List.mem_of_getElem? e2) c' h2
      omega
    · rw [e2] at h2
      have := hf1 c' h2
      have := hRl _ (List.mem_of_getElem? e1) c' h1
      omega
    · exact hO.apart_get e1 e2 (by omega) c' h1 h2
  · rcases List.mem_or_eq_of_mem_set hx' with hx' | hx'
    · exact hO.outer x hx' b hb1 hb2
    · subst hx'
      have := hf1 b hb1
      have := hAl b hb2
      omega
  · rcases List.mem_append.1 hb' with hb' | hb'
    · exact hf b (List.mem_append_left _ hb')
    · obtain ⟨y, hy, hb'⟩ := mem_fpR.1 hb'
      rcases List.mem_or_eq_of_mem_set hy with hy | hy
      · exact hf b (List.mem_append_right _ (mem_fpR.2 ⟨_, hy, hb'⟩))
      · subst hy
        have := hf1 b hb'
        omega
  · exact below_keeps (below_trans h0 hb hsz) hk (by omega) fun b hb' => hf b (List.mem_append_left _ hb')
end Go.Proofs.YtahnhblodfdfhaaDoor
namespace Go.Proofs.YtahnhblodfdfhaaDoor
open Go.RowKit
theorem redTo_mat3 {p : Int} (hp : fieldB p = true) {m n : Nat} {L A : List (List Int)} (hm : Mat p m n L) (hA : Mat p m m A) : ∀ c, c ≤ n → Mat p m m (redTo p L A c).2.2
  | 0, _ => hA
  | c + 1, hc => by
    have hpb := fieldB_bounds hp
    obtain ⟨ld, hR⟩ := redTo_inv hp hm A c (by omega)
    have h1 := redTo_mat3 hp hm hA c (by omega)
    rw [redTo]
    obtain ⟨s, hs⟩ : ∃ s, s = redTo p L A c := ⟨_, rfl⟩
    rw [← hs] at hR h1 ⊢
    rcases colStep_cases hp (show c < n by omega) hR.mat hR.inv.le with ⟨e, _⟩ | ⟨k, iv, k1, k2, k3, _, _, k6, k7, k8⟩
    · rw [e]; exact h1
    · rw [k7]
      have hr : s.1 < m := by omega
      have hse := step_en (p := p) (by omega) h1 hr k2 iv (fun i => en (scaleL p s.1 iv (swapL s.2.1 s.1 k)) i c)
      rw [h1.len]
      exact hse.1
theorem Mat.drop {p : Int} {m n r : Nat} {L : List (List Int)} (h : Mat p m n L) : Mat p (m - r) n (L.drop r) :=
  ⟨by rw [List.length_drop, h.len], fun v hv => h.row v (List.mem_of_mem_drop hv)⟩
theorem RdR.cut {w : World} {A A' : Option Addr} {n : Nat} {hs : List Hd} (h : RdR w A hs) {r c : Nat} (hsl : Sl w 33 1 A' n c ((hs.drop r).map Hd.val)) : RdR w A' (hs.drop r) := by
  refine ⟨fun i x hx => ?_, fun x hx => h.2 x (List.mem_of_mem_drop hx)⟩
  obtain ⟨ad, hA, _, hc, _⟩ := hsl.cell (j := i) (u := x.val) (by rw [List.getElem?_map, hx]; rfl)
  exact ⟨ad, hA, hc⟩
set_option maxRecDepth 100000 in
theorem kernel_any (p : Int) (n : Nat) (A : Option Addr) (c : Nat) (hs : List Hd) (w : World) (h : RdR w A hs) (hp : fieldB p = true) (hm : Mat p hs.length n (hs.map fun h : Hd => h.2.2)) (hl : hs.length ≤ 1048576) (hn : n ≤ 1048576) :
    Calls Tryd.prog 127 #[.int .i64 p, .slice A hs.length c, .int .i64 n] w (RetSS w (kerM p n (hs.map fun h : Hd => h.2.2))) := by
  have hC := clones_any A c hs w h hl (fun x hx => by have := (hm.row _ (List.mem_map_of_mem hx)).1; omega)
  obtain ⟨L, hLh⟩ : ∃ L, L = hs.map fun h : Hd => h.2.2 := ⟨_, rfl⟩
  rw [← hLh] at hm hC ⊢
  obtain ⟨m, hmm⟩ : ∃ m, m = hs.length := ⟨_, rfl⟩
  rw [← hmm] at hl hm hC ⊢
  have hpb := fieldB_bounds hp
  have HC := Lib.hid hC; have HMat := Lib.hid hm; have HL := Lib.hid hm.len; clear hC hLh hmm hm h
  go_enter Tryd.func127, Tryd.ntmps127
  go_wp2_with (fail)
  refine HC.out.mono ?_
  rintro e w1 hret
  obtain ⟨A1, c1, rfl, hO1⟩ := hret.om
  rw [HL.out]
  have hI := Lib.hid (identityRows_any m w1 hl)
  clear hret
  go_wp2_with (fail)
  refine hI.out.mono ?_
  rintro e w2 hret
  obtain ⟨A2, c2, rfl, hO2⟩ := hret.om
  rw [show (idM m).length = m by simp [idM]]
  clear hret
  obtain ⟨fp, hR1, hfr, hlt⟩ := hO1.rw_
  have hR2 := hR1.below hO2.below_
  obtain ⟨fp2, hK, hfr2, hlt2⟩ := hO2.rw_
  have hmI : Mat p m m (idM m) := idM_mat (by omega) m
  have hRd := reduction_any p n m m A1 c1 L fp A2 c2 (idM m) fp2 w2 hR2 hK (fun b hb hb' => by
    have := hlt b hb
    have := hfr2 b hb'
    omega) (fun b hb => Nat.lt_of_lt_of_le (hlt b hb) hO2.size) hlt2 hp HMat.out hmI hl hn hl
  have hB2 : Below w.heap.size w w2 := below_trans hO1.below_ hO2.below_ hO1.below_.size
  have hres : kerM p n L = redM p m ((redTo p L (idM m) n).2.2.drop (redTo p L (idM m) n).1) := by unfold kerM; rw [HL.out]
  have hM3 := redTo_mat3 hp HMat.out hmI n (Nat.le_refl n)
  have hRm := (redTo_mat hp HMat.out (idM m) (Nat.le_refl n)).2
  obtain ⟨R, hR⟩ : ∃ R, R = (redTo p L (idM m) n).1 := ⟨_, rfl⟩
  obtain ⟨M, hM⟩ : ∃ M, M = (redTo p L (idM m) n).2.2 := ⟨_, rfl⟩
  rw [← hR, ← hM] at hRd hres
  rw [← hM] at hM3
  rw [← hR] at hRm
  have HRd := Lib.hid hRd; have HRES := Lib.hid hres; have HM3 := Lib.hid hM3; have HP := Lib.hid hp; have HFR := Lib.hid hfr
  have HFR2 := Lib.hid (hfr2.mono hO1.size)
  clear hRd hres hK hR1 hR2 hmI hO1 hO2 hR hM hp hfr hfr2 hlt hlt2 hM3
  go_wp2_with (fail)
  refine HRd.out.mono ?_
  rintro e w3 ⟨rfl, _, h2, hk3⟩
  have hB3 : Below w.heap.size w w3 := below_keeps hB2 hk3 hB2.size fun b hb => by
    rcases hb with hb | hb
    · exact HFR.out b hb
    · exact HFR2.out b hb
  obtain ⟨gs, hLg, hO, hf, h0⟩ := h2.om (w0 := w) HFR2.out hB3
  have hgl : gs.length = m := by
    have := congrArg List.length hLg
    rw [HM3.out.len, List.length_map] at this; omega
  have hsl : Sl w3 33 1 A2 m c2 (gs.map Hd.val) := by have := hO.sl; rwa [hgl] at this
  have hRd3 := Lib.hid hO.rd; have HG := Lib.hid hLg; have HGL := Lib.hid hgl
  have hmc := hsl.2.1
  clear hLg hgl h2 hO hf
  go_wp2_with (refine wpList_slice_Sl rfl (.tmp 21) (some (.tmp 22)) none none 22 rfl 33 Tryd.underlying22 info_ints rfl hsl R m c2 (optSome (by omega)) (optNone ⟨rfl, rfl⟩) (optNone rfl) (by omega) (Nat.le_refl _) (by omega) (Nat.le_refl _) ?_; intro A3 hcut hfp _)
  have hcut' : Sl w3 33 1 A3 (m - R) (c2 - R) ((gs.drop R).map Hd.val) := by
    have := hcut
    simp only [Nat.mul_one] at this
    rw [List.take_of_length_le (by simp [HGL.out]), ← List.map_drop] at this
    exact this
  have hdl : (gs.drop R).length = m - R := by rw [List.length_drop, HGL.out]
  have hmd : Mat p (gs.drop R).length m ((gs.drop R).map fun h : Hd => h.2.2) := by
    rw [hdl, List.map_drop, ← HG.out]; exact HM3.out.drop
  have hC3 := reduced_any p m A3 (c2 - R) (gs.drop R) w3 (RdR.cut hRd3.out hcut') HP.out hmd (by omega) hl
  rw [hdl, List.map_drop, ← HG.out, ← HRES.out] at hC3
  have HC3 := Lib.hid hC3; clear hC3 hmd hdl hcut' hcut hsl
  go_wp2_with (fail)
  refine HC3.out.mono ?_
  rintro e w4 hret
  obtain ⟨A4, c4, rfl, hO4⟩ := hret.om
  go_wp2_with (fail)
  go_ret
  exact hret.mono hB3
end Go.Proofs.YtahnhblodfdfhaaDoor
namespace Go.Proofs.YtahnhblodfdfhaaDoor
open Go.RowKit
theorem results_cell_tmp {P : Program} {fn : Func} {p u : Tmp} {ty : TypeId} (h : fn.results = #[.cell p ty, .tmp u]) (tmps : Array Value) (w : World) (g : Nat) (t : TypeId) (cs : Array Value) (fr : Nat × Nat) (d : TypeDesc)
    (hp : tmps.getD p undef = .pointer (some ⟨g, 0, none⟩)) (hg : w.heap[g]? = some (.cells cs t fr))
    (hu : P.underlying ty = some d) (hd : (match d with | .struct _ | .array _ _ => true | _ => false) = true) (hi : (P.info? ty).map (·.size) = some cs.size) :
    (results fn tmps).run P w = .ok (.tuple #[.agg cs, tmps.getD u undef]) w := by
  have hp' : tmps[p]?.getD undef = .pointer (some ⟨g, 0, none⟩) := by simpa using hp
  simp [results, h, hp', asAddr, run_loadVar_row w g t ty cs fr d hg hu hd hi]
section
variable {w : World} {B : Nat} {t : TypeId} {x y z a b c : Value}
theorem set3 (h : w.heap[B]? = some (.cells #[x, y, z] t)) : (((w.setCell ⟨B, 0, none⟩ a).setCell ⟨B, 1, none⟩ b).setCell ⟨B, 2, none⟩ c).heap[B]? = some (.cells #[a, b, c] t) ∧ Keeps (· = B) w (((w.setCell ⟨B, 0, none⟩ a).setCell ⟨B, 1, none⟩ b).setCell ⟨B, 2, none⟩ c) := by
  refine ⟨by simp [World.setCell, Array.getElem?_modify, h], ?_⟩
  exact ((((Keeps.refl (fun x => x = B) w).setCell (p := ⟨B, 0, none⟩) rfl _).setCell (p := ⟨B, 1, none⟩) rfl _).setCell (p := ⟨B, 2, none⟩) rfl _)
end
theorem OwSys.zero (w : World) (a b : Int) : OwSys w (.agg #[.int .i64 a, .int .i64 b, .slice none 0 0]) (a, b, []) [] := ⟨none, 0, [], rfl, rfl, OwR.nil w, by simp [fpR]⟩
theorem OwMt.zero (w : World) (a : Int) : OwMt w (.agg #[.int .i64 a, .slice none 0 0]) (a, []) [] := ⟨none, 0, [], rfl, rfl, OwR.nil w, by simp [fpR]⟩
theorem FreshL.nil (B : Nat) : FreshL B [] := fun b hb => (by cases hb)
theorem okR_nil : OkR [] := ⟨by simp, fun x hx => (by cases hx), by simp [cntR]⟩
theorem OwSys.of_ret {w0 w : World} {L : List (List Int)} {A : Option Addr} {c : Nat} {a b : Int} (h : OM w0 w A c L) {w' : World} {S : Nat → Prop} (hk : Keeps S w w') (hS : ∀ k, S k → k < w0.heap.size) {n : Nat} (hn : L.length = n) : ∃ fp, OwSys w' (.agg #[.int .i64 a, .int .i64 b, .slice A n c]) (a, b, L) fp ∧ FreshL w0.heap.size fp := by
  subst hn
  obtain ⟨fp, h1, h2⟩ := OwSys.of_om (a := a) (b := b) h
  exact ⟨fp, h1.keeps hk fun k hk' hs => by have := h2 k hk'; have := hS k hs; omega, h2⟩
end Go.Proofs.YtahnhblodfdfhaaDoor
namespace Go.Proofs.YtahnhblodfdfhaaDoor
open Go.RowKit
end Go.Proofs.YtahnhblodfdfhaaDoor
namespace Go.Proofs.YtahnhblodfdfhaaDoor
open Go.RowKit
end Go.Proofs.YtahnhblodfdfhaaDoor
namespace Go.Proofs.YtahnhblodfdfhaaDoor
open Go.RowKit
theorem cntR_le {L : List (List Int)} {k : Nat} (h : ∀ x, x ∈ L → x.length ≤ k) : cntR L ≤ L.length * k := by
  induction L with
  | nil => simp [cntR]
  | cons a L ih =>
    have h1 := ih fun x hx => h x (List.mem_cons_of_mem _ hx)
    have h2 := h a (List.mem_cons_self ..)
    rw [cntR, List.length_cons, Nat.succ_mul]; omega
theorem okR_mat {p : Int} {m n : Nat} {L : List (List Int)} (h : Mat p m n L) (hm : m ≤ 1000) (hn : n ≤ 1000) : OkR L := by
  have h1 := cntR_le (L := L) (k := n) fun x hx => Nat.le_of_eq (h.row x hx).1
  rw [h.len] at h1
  refine ⟨by rw [h.len]; omega, fun x hx => by rw [(h.row x hx).1]; omega, Nat.le_trans h1 ?_⟩
  have : m * n ≤ 1000 * 1000 := Nat.mul_le_mul hm hn
  omega
end Go.Proofs.YtahnhblodfdfhaaDoor
namespace Go.Proofs.YtahnhblodfdfhaaDoor
open Go.RowKit
set_option maxRecDepth 100000 in
set_option maxHeartbeats 1000000 in
theorem rlOf_any (p a b : Int) (n : Nat) (A : Option Addr) (c : Nat) (hs : List Hd) (w : World) (h : RdR w A hs) (hp : fieldB p = true) (hn : a + b = (n : Int)) (hm : Mat p hs.length n (hs.map fun h : Hd => h.2.2)) (hl : hs.length ≤ 1048576) (hn' : n ≤ 1048576) :
    Calls Tryd.prog 122 #[.int .i64 p, .int .i64 a, .int .i64 b, .slice A hs.length c] w fun e w' => ∃ v' fp, e = .returned v' ∧ OwSys w' v' (a, b, redM p n (hs.map fun h : Hd => h.2.2)) fp ∧ FreshL w.heap.size fp ∧ Below w.heap.size w w' := by
  obtain ⟨W, hW⟩ : ∃ W, W = w.alloc (.cells #[.int .i64 0, .int .i64 0, .slice none 0 0] 43) := ⟨_, rfl⟩
  have hB0 : Below w.heap.size w W := by rw [hW]; exact (Below.refl _ _).alloc (Nat.le_refl _) _
  have k0 : W.heap[w.heap.size]? = some (.cells #[.int .i64 0, .int .i64 0, .slice none 0 0] 43) := by rw [hW]; exact heap_alloc_new w _
  have hC := spReduce_any p n A c hs W (h.below hB0) hp hm hl hn'
  obtain ⟨R, hR⟩ : ∃ R, R = redM p n (hs.map fun h : Hd => h.2.2) := ⟨_, rfl⟩
  rw [← hR] at hC ⊢
  have hC' : Calls Tryd.prog 113 #[.int .i64 p, .int .i64 (a + b), .slice A hs.length c] W (RetSS W R) := by rw [hn]; exact hC
  have hwr : IntKind.i64.wrap (a + b) = a + b := IntWalk.i64_in _ (by omega)
  have HC := Lib.hid hC'; have HB := Lib.hid hB0; have K0 := Lib.hid k0; clear hC hC' hR hB0 k0 h hm hp hn
  go_enter Tryd.func122, Tryd.ntmps122
  go_wp2_with (fail)
  rw [← hW]
  clear hW
  go_wp2_with (fail)
  refine HC.out.mono ?_
  rintro e w1 hret
  obtain ⟨A1, c1, rfl, hO1⟩ := hret.om
  have k1 := box_below K0.out hO1.below_
  have hB1 := below_trans HB.out hO1.below_ HB.out.size
  obtain ⟨⟨d0, d1, d2⟩, g0, g1, g2⟩ := box3 k1
  obtain ⟨s1, s2⟩ := set3 (a := .int .i64 a) (b := .int .i64 b) (c := .slice A1 R.length c1) k1
  have S1 := Lib.hid s1; have HO1 := Lib.hid hO1; have S2 := Lib.hid s2
  have hw0 := (Array.getElem?_eq_some_iff.1 K0.out).1
  have hB3 := Lib.hid (below_keeps hB1 s2 hB1.size (fun k hk => by omega))
  have hBs := HB.out.size
  clear HC hret K0 k1 hO1 s1 s2 hB1
  go_wp2_with (fail)
  refine bodyPost_ret (results_cell_row rfl _ _ w.heap.size _ _ (0, 0) _ rfl S1.out Tryd.underlying43 rfl (by kernel_rfl)) rfl ?_
  obtain ⟨fp, h1, h2⟩ := OwSys.of_ret (a := a) (b := b) HO1.out S2.out (fun k hk => by omega) rfl
  exact ⟨_, fp, rfl, h1, h2.mono hBs, hB3.out⟩
end Go.Proofs.YtahnhblodfdfhaaDoor
namespace Go.Proofs.YtahnhblodfdfhaaDoor
open Go.RowKit
def fromI (a : Int) (n : Nat) : List Int := (List.range n).map fun i => ((i : Nat) : Int) + a
@[simp] theorem fromI_length (a : Int) (n : Nat) : (fromI a n).length = n := by simp [fromI]
theorem OI.join {w0 w w2 : World} {A : Option Addr} {cap : Nat} {l v : List Int} (h : OI w0 w A cap l) {A' : Option Addr} {cap' n : Nat} (hn : n = l.length + v.length) (hs' : Sl w2 tInt 1 A' n cap' (ints l ++ ints v)) (hA' : ∀ b, b ∈ fpA A' → b ∈ fpA A ∨ w.heap.size ≤ b) (hk : Keeps (· ∈ fpA A) w w2) : OI w0 w2 A' cap' (l ++ v) := by
  subst hn
  refine ⟨?_, fun b hb' => ?_, below_keeps h.below_ hk h.below_.size h.new⟩
  · unfold IS
    have : ints (l ++ v) = ints l ++ ints v := by simp [ints]
    rw [this, List.length_append]; exact hs'
  · rcases hA' b hb' with h1 | h1
    · exact h.new b h1
    · have := h.below_.size; omega
theorem flat_take_le {L : List (List Int)} {k : Nat} {N : Nat} (h : L.flatten.length ≤ N) : (L.take k).flatten.length ≤ N := by
  have e : L.flatten.length = (L.take k).flatten.length + (L.drop k).flatten.length := by
    have := congrArg (fun x => x.flatten.length) (List.take_append_drop k L)
    simp only [List.flatten_append, List.length_append] at this; omega
  omega
set_option maxHeartbeats 1000000 in
theorem joined_any (A : Option Addr) (c : Nat) (hs : List Hd) (w : World) (h : RdR w A hs) (hl : hs.length ≤ 1048576) (hN : (hs.map fun h : Hd => h.2.2).flatten.length ≤ 1048576) :
    Calls Tryd.prog 129 #[.slice A hs.length c] w (RetI w (hs.map fun h : Hd => h.2.2).flatten) := by
  obtain ⟨L, hLh⟩ : ∃ L, L = hs.map fun h : Hd => h.2.2 := ⟨_, rfl⟩
  rw [← hLh] at hN ⊢
  obtain ⟨m, hmm⟩ : ∃ m, m = hs.length := ⟨_, rfl⟩
  rw [← hmm] at hl ⊢
  have HLh := Lib.hid hLh; have HM := Lib.hid hmm
  have hLen := Lib.hid (show L.length = m by rw [hLh, List.length_map, hmm])
  clear hLh hmm
  have hO0 : OI w (w.alloc (.cells #[] 3)) (some ⟨w.heap.size, 0, none⟩) 0 [] := by
    refine ⟨by unfold IS; simpa [ints] using Sl.laid w 3 1 0 #[] (Nat.zero_le _) rfl, fun b hb => ?_, (Below.refl _ _).alloc (Nat.le_refl _) _⟩
    have : b = w.heap.size := by simpa using hb
    subst this; exact Nat.le_refl _
  go_enter Tryd.func129, Tryd.ntmps129
  go_wp2_with (fail)
  go_loopw [9, 3] (fun i v wr => ∃ (k : Nat) (A' : Option Addr) (c' n : Nat), k ≤ m ∧ i = .int .i64 k ∧ v = .slice A' n c' ∧ n = ((L.take k).flatten).length ∧ OI w wr A' c' (L.take k).flatten) (fun i _ _ => m - (intOf i).toNat)
  case atStart => exact ⟨0, _, 0, 0, Nat.zero_le _, rfl, rfl, rfl, by simpa using hO0⟩
  case round =>
    clear hO0
    obtain ⟨k, A', c', n, hk, rfl, rfl, hn, hO⟩ := hrel
    by_cases hlt : k < m
    · obtain ⟨ad, C, d, l, rfl, hx, hc, hri⟩ := (h.below hO.below_).at_ (k := k) (by rw [← HM.out]; exact hlt)
      have hlx : L[k]? = some l := by rw [HLh.out, List.getElem?_map, hx]; rfl
      have hnx : (L.take (k + 1)).flatten = (L.take k).flatten ++ l := by rw [List.take_add_one, hlx]; simp
      have hb1 := flat_take_le (k := k + 1) hN
      rw [hnx, List.length_append] at hb1
      have hsl : Sl wr 3 1 A' n c' (ints (L.take k).flatten) := by rw [hn]; exact hO.is
      obtain ⟨q, hq⟩ : ∃ q, q = l.length := ⟨_, rfl⟩
      rw [← hq] at hc hb1
      rw [← hn] at hb1
      have hil : (ints l).length = q * 1 := by rw [ints_length, hq, Nat.mul_one]
      have HNX := Lib.hid hnx; have HQ := Lib.hid hq; have HN := Lib.hid hn; have HIL := Lib.hid hil
      have hkI : (k : Int) < (m : Int) := by omega
      clear hx hlx hnx hq hn hil h
      go_wp2_with (at_builtin; refine wpList_append_Sl _ rfl _ _ _ rfl 3 Tryd.underlying33 info_int rfl (by omega) rfl hsl rfl HIL.out hri.rdc (ints_one l) (by unfold maxLen; omega) (by omega) ?_; intro A3 c3 w3 hs3 hA3 hk3)
      have hO2 := Lib.hid (hO.join (v := l) (by rw [← HN.out, ← HQ.out]) hs3 hA3 hk3)
      clear hs3 hO hsl
      go_roundw
      case rel => exact ⟨k + 1, A3, c3, n + q, by omega, by go_num, rfl, by rw [HNX.out, List.length_append, HN.out, HQ.out], by rw [HNX.out]; exact hO2.out⟩
      case measure => simp [intOf]; omega
    · obtain rfl : m = k := by omega
      have hO2 : OI w wr A' c' L.flatten := by have := hO; rwa [List.take_of_length_le (by rw [hLen.out]; omega)] at this
      have hn2 : n = L.flatten.length := by rw [hn, List.take_of_length_le (by rw [hLen.out]; omega)]
      have HN2 := Lib.hid hn2; clear hO h hn hn2
      go_wp2_with (fail)
      go_ret
      exact ⟨A', c', by rw [← HN2.out]; rfl, hO2.is, hO2.new, hO2.below_⟩
def placeTo (n : Nat) (at_ : List Nat) (v : List Int) : Nat → List Int
  | 0 => List.replicate n 0
  | i + 1 => (placeTo n at_ v i).set (at_.getD i 0) (v.getD i 0)
@[simp] theorem placeTo_length (n : Nat) (at_ : List Nat) (v : List Int) : ∀ i, (placeTo n at_ v i).length = n
  | 0 => by simp [placeTo]
  | i + 1 => by rw [placeTo, List.length_set]; exact placeTo_length n at_ v i
end Go.Proofs.YtahnhblodfdfhaaDoor
namespace Go.Proofs.YtahnhblodfdfhaaDoor
open Go.RowKit
theorem first_any (na : Nat) (b : Int) (x : Value) (_hx : x.oneCell' = true) (B : Option Addr) (cc n : Nat) (u : List Int) (w : World) (h : Sl w 3 1 B n cc (ints u)) (hna : na ≤ n) :
    Calls Tryd.prog 126 #[.agg #[.int .i64 na, .int .i64 b, x], .slice B n cc] w fun e w' => ∃ B', e = .returned (.slice B' na cc) ∧ Sl w' 3 1 B' na cc (ints (u.take na)) ∧ (∀ y, y ∈ fpA B' → y ∈ fpA B) ∧ Below w.heap.size w w' := by
  obtain ⟨W, hW, b0, k0⟩ := alloc_box w (.cells #[.int .i64 na, .int .i64 b, x] tRel)
  obtain ⟨⟨c0, c1, c2⟩, f0, f1, f2⟩ := box3 k0
  have hS := h.below b0
  have hcap := hS.2.1
  have hmx := hS.2.2.1
  have k0_h := Lib.hid k0; have b0_h := Lib.hid b0; clear k0 b0
  go_enter Tryd.func126, Tryd.ntmps126
  go_upto_region 1 with (fail)
  rw [← hW]
  clear hW
  go_wp2_with (refine wpList_slice_Sl rfl (.tmp 5) none (some (.tmp 7)) none 33 rfl 3 Tryd.underlying33 info_int rfl hS 0 na cc (optNone rfl) (optSome rfl) (optNone rfl) (Nat.zero_le _) hna (by omega) (Nat.le_refl _) ?_; intro B' hS' hf' _)
  go_ret
  refine ⟨B', rfl, ?_, hf', b0_h.out⟩
  have e : ((ints u).drop (0 * 1)).take ((na - 0) * 1) = ints (u.take na) := by simp [ints, List.map_take]
  rw [e] at hS'
  exact hS'
theorem second_any (na : Nat) (b : Int) (x : Value) (_hx : x.oneCell' = true) (B : Option Addr) (cc n r : Nat) (u : List Int) (w : World) (h : Sl w 3 1 B n cc (ints u)) (hna : n = na + r) :
    Calls Tryd.prog 125 #[.agg #[.int .i64 na, .int .i64 b, x], .slice B n cc] w fun e w' => ∃ B' c', e = .returned (.slice B' r c') ∧ Sl w' 3 1 B' r c' (ints (u.drop na)) ∧ (∀ y, y ∈ fpA B' → y ∈ fpA B) ∧ Below w.heap.size w w' := by
  obtain ⟨W, hW, b0, k0⟩ := alloc_box w (.cells #[.int .i64 na, .int .i64 b, x] tRel)
  obtain ⟨⟨c0, c1, c2⟩, f0, f1, f2⟩ := box3 k0
  have hS := h.below b0
  have hcap := hS.2.1
  have hmx := hS.2.2.1
  have hul : (ints u).length = n := by rw [hS.1]; omega
  have hle : na ≤ n := by omega
  have k0_h := Lib.hid k0; have b0_h := Lib.hid b0; have hul_h := Lib.hid hul; have hna_h := Lib.hid hna; clear k0 b0 hul hna
  go_enter Tryd.func125, Tryd.ntmps125
  go_upto_region 1 with (fail)
  rw [← hW]
  clear hW
  go_wp2_with (refine wpList_slice_Sl rfl (.tmp 5) (some (.tmp 7)) none none 33 rfl 3 Tryd.underlying33 info_int rfl hS na n cc (optSome rfl) (optNone ⟨rfl, rfl⟩) (optNone rfl) hle (Nat.le_refl _) hcap (Nat.le_refl _) ?_; intro B' hS' hf' _)
  have er : n - na = r := by have := hna_h.out; omega
  rw [er] at hS' ⊢
  go_wp2_with (fail)
  go_ret
  refine ⟨B', cc - na, rfl, ?_, hf', b0_h.out⟩
  have e : ((ints u).drop (na * 1)).take (r * 1) = ints (u.drop na) := by
    rw [List.take_of_length_le (by rw [List.length_drop, hul_h.out]; omega)]
    simp [ints, List.map_drop]
  rw [e] at hS'
  exact hS'
end Go.Proofs.YtahnhblodfdfhaaDoor
namespace Go.Proofs.YtahnhblodfdfhaaDoor
open Go.RowKit
end Go.Proofs.YtahnhblodfdfhaaDoor
namespace Go.Proofs.YtahnhblodfdfhaaDoor
open Go.RowKit
structure RdO (w0 w : World) (A : Option Addr) (cap : Nat) (hs : List Hd) : Prop where
  sl : Sl w 33 1 A hs.length cap (hs.map Hd.val)
  rows : ∀ h, h ∈ hs → IS w h.1 h.2.1 h.2.2
  outer : ∀ h, h ∈ hs → ∀ b, b ∈ fpA h.1 → ¬ b ∈ fpA A
  new : ∀ b, b ∈ fpA A → w0.heap.size ≤ b
  below_ : Below w0.heap.size w0 w
section
variable {w0 w w' : World} {A : Option Addr} {cap : Nat} {hs : List Hd}
theorem RdO.below (h : RdO w0 w A cap hs) (hb : Below w.heap.size w w') : RdO w0 w' A cap hs := ⟨h.sl.below hb, fun x hx => (h.rows x hx).below hb, h.outer, h.new, below_trans h.below_ hb h.below_.size⟩
theorem RdO.rdr (h : RdO w0 w A cap hs) : RdR w A hs := by
  refine ⟨fun i x hx => ?_, fun x hx => (h.rows x hx).rd⟩
  obtain ⟨ad, hA, _, hc, _⟩ := h.sl.cell (j := i) (u := x.val) (by simp [hx])
  exact ⟨ad, hA, hc⟩
theorem RdO.snoc {w1 w2 : World} (h : RdO w0 w A cap hs) (hb : Below w.heap.size w w1) {x : Hd} (hx : IS w1 x.1 x.2.1 x.2.2) (hxo : ∀ b, b ∈ fpA x.1 → ¬ b ∈ fpA A) {A' : Option Addr} {cap' n : Nat} (hn : n = hs.length + 1) (hs' : Sl w2 33 1 A' n cap' (hs.map Hd.val ++ [x.val])) (hA' : ∀ b, b ∈ fpA A' → b ∈ fpA A ∨ w1.heap.size ≤ b) (hk : Keeps (· ∈ fpA A) w1 w2) : RdO w0 w2 A' cap' (hs ++ [x]) := by
  subst hn
  have hbw := below_trans h.below_ hb h.below_.size
  refine ⟨by simpa using hs', fun y hy => ?_, fun y hy b hb1 hb2 => ?_, fun b hb' => ?_, below_keeps hbw hk hbw.size h.new⟩
  · rcases List.mem_append.1 hy with hy | hy
    · exact ((h.rows y hy).below hb).keeps hk (h.outer y hy)
    · obtain rfl := List.mem_singleton.1 hy; exact hx.keeps hk hxo
  · rcases List.mem_append.1 hy with hy | hy
    · rcases hA' b hb2 with h1 | h1
      · exact h.outer y hy b hb1 h1
      · have := (h.rows y hy).lt b hb1; have := hb.size; omega
    · obtain rfl := List.mem_singleton.1 hy
      rcases hA' b hb2 with h1 | h1
      · exact hxo b hb1 h1
      · have := hx.lt b hb1; omega
  · rcases hA' b hb' with h1 | h1
    · exact h.new b h1
    · have := hbw.size; omega
theorem RdO.start (w W : World) (hb : Below w.heap.size w W) : RdO w (W.alloc (.cells #[] 33)) (some ⟨W.heap.size, 0, none⟩) 0 [] := by
  refine ⟨by simpa using Sl.laid W 33 1 0 #[] (Nat.zero_le _) rfl, fun x hx => (by cases hx), fun x hx => (by cases hx), fun b hb' => ?_, below_trans hb (below_alloc _ _) hb.size⟩
  simp at hb'; subst hb'; exact hb.size
end
set_option maxRecDepth 8000 in
set_option maxHeartbeats 1000000 in
theorem each_any (F : FuncId) (first cap : Array Value) (g : List Int → List Int) (a b : Int) (A : Option Addr) (c : Nat) (hs : List Hd) (w : World) (hR : RdR w A hs) (hI : ∀ x, x ∈ hs → IS w x.1 x.2.1 x.2.2) (hl : hs.length ≤ 1048576) (hE : ∀ (args : Array Value) (w : World), (callFunc F args).run Tryd.prog w = .ok (.enter F args) w)
    (hF : ∀ x, x ∈ hs → ∀ W', Below w.heap.size w W' → Calls Tryd.prog F (first.push (.slice x.1 x.2.2.length x.2.1) ++ cap) W' fun e w'' => ∃ B c', e = .returned (.slice B (g x.2.2).length c') ∧ IS w'' B c' (g x.2.2) ∧ (∀ b, b ∈ fpA B → b ∈ fpA x.1 ∨ W'.heap.size ≤ b) ∧ Below W'.heap.size W' w'') :
    Calls Tryd.prog 124 #[.agg #[.int .i64 a, .int .i64 b, .slice A hs.length c], .func (.func F) first cap] w fun e w' => ∃ A' c' gs, e = .returned (.slice A' hs.length c') ∧ gs.map (fun h : Hd => h.2.2) = hs.map (fun h : Hd => g h.2.2) ∧ RdO w w' A' c' gs := by
  obtain ⟨m, hm⟩ : ∃ m, m = hs.length := ⟨_, rfl⟩
  rw [← hm] at hl ⊢
  obtain ⟨W, hW, b0, k0⟩ := alloc_box w (.cells #[.int .i64 a, .int .i64 b, .slice A m c] tRel)
  obtain ⟨⟨c0, c1, c2⟩, f0, f1, f2⟩ := box3 k0
  have hO0 := RdO.start w W b0
  have hz0 := (Array.getElem?_eq_some_iff.1 k0).1
  have hm_h := Lib.hid hm; have hF_h := Lib.hid hF; have hI_h := Lib.hid hI; have hR_h := Lib.hid hR; have k0_h := Lib.hid k0; have b0_h := Lib.hid b0; have hO0_h := Lib.hid hO0; have hE_h := Lib.hid hE; clear hm hF hI hR k0 b0 hO0 hE
  go_enter Tryd.func124, Tryd.ntmps124
  go_upto_region 1 with (fail)
  rw [← hW]
  clear hW
  go_wp2_with (fail)
  clear c0 c1 c2 f0 f1 f2
  go_loopw [12, 5] (fun i v wr => ∃ (k : Nat) (A' : Option Addr) (c' : Nat) (gs : List Hd), k ≤ m ∧ i = .int .i64 k ∧ v = .slice A' k c' ∧ gs.length = k ∧ gs.map (fun h : Hd => h.2.2) = (hs.take k).map (fun h : Hd => g h.2.2) ∧ RdO w wr A' c' gs) (fun i _ _ => m - (intOf i).toNat)
  case atStart => exact ⟨0, _, 0, [], Nat.zero_le _, rfl, rfl, rfl, rfl, hO0_h.out⟩
  case round =>
    obtain ⟨k, A', c', gs, hk, rfl, rfl, hgl, hgm, hO⟩ := hrel
    by_cases hlt : k < m
    · obtain ⟨x, hx⟩ : ∃ x, hs[k]? = some x := ⟨_, List.getElem?_eq_getElem (by rw [← hm_h.out]; exact hlt)⟩
      obtain ⟨ad, rfl, hc⟩ := (hR_h.out.below hO.below_).1 k x hx
      obtain ⟨B, d, l⟩ := x
      have hxm := List.mem_of_getElem? hx
      have hC := hF_h.out _ hxm wr hO.below_
      have hBlt := (hI_h.out _ hxm).lt
      have hc' : wr.cell? (ad.add k) = some (.slice B l.length d) := hc
      obtain ⟨q, hq⟩ : ∃ q, q = l.length := ⟨_, rfl⟩
      obtain ⟨r, hr⟩ : ∃ r, r = (g l).length := ⟨_, rfl⟩
      simp only [← hq, ← hr] at hC
      rw [← hq] at hc'
      have hkI : (k : Int) < (m : Int) := by omega
      clear hc hxm; have hgl_h := Lib.hid hgl; have hgm_h := Lib.hid hgm; have hO_h := Lib.hid hO; have hC_h := Lib.hid hC; have hq_h := Lib.hid hq; have hr_h := Lib.hid hr; have hx_h := Lib.hid hx; have hBlt_h := Lib.hid hBlt; clear hgl hgm hO hC hq hr hx hBlt
      have hE1 := hE_h.out (first.push (.slice B q d) ++ cap) wr
      go_wp2_with (fail)
      refine (hC_h.out).mono ?_
      rintro e w1 ⟨B1, d1, rfl, hI1, hfp1, hb1⟩
      have hsl : Sl (w1.alloc (.cells #[.slice B1 r d1] 33)) 33 1 A' k c' (gs.map Hd.val) := by
        have := (hO_h.out.sl.below hb1).alloc (.cells #[.slice B1 r d1] 33)
        rwa [hgl_h.out] at this
      clear hc' hE1; have hI1_h := Lib.hid hI1; have hfp1_h := Lib.hid hfp1; have hb1_h := Lib.hid hb1; have hsl_h := Lib.hid hsl; clear hI1 hfp1 hb1 hsl
      go_wp2_with (at_builtin; refine wpList_append_Sl _ rfl _ _ _ rfl 33 Tryd.underlying22 info_ints rfl (by omega) rfl (hsl_h.out) rfl (news := [.slice B1 r d1]) rfl (Sl.rdc (Sl.laid w1 33 1 1 #[.slice B1 r d1] (by unfold maxLen; omega) rfl)) (by intro u hu; simp at hu; subst hu; rfl) (by unfold maxLen; omega) (by omega) ?_; intro A3 c3 w3 hsA3 hA3 hkA3)
      have hal : Below w1.heap.size w1 (w1.alloc (.cells #[.slice B1 r d1] 33)) := below_alloc _ _
      have hO2 := hO_h.out.snoc (w1 := w1.alloc (.cells #[.slice B1 r d1] 33)) (below_trans hb1_h.out hal hb1_h.out.size) (x := (B1, d1, g l)) (hI1_h.out.below hal) (fun b hb hb' => by
        have h1 := hO_h.out.sl.lt b hb'
        have h2 := hO_h.out.new b hb'
        rcases hfp1_h.out b hb with h3 | h3
        · have := hBlt_h.out b h3; omega
        · omega) (by rw [hgl_h.out]) (by show Sl w3 _ 1 A3 (k + 1) c3 (gs.map Hd.val ++ [.slice B1 (g l).length d1]); rw [← hr_h.out]; exact hsA3) hA3 hkA3
      clear hsA3 hA3 hkA3; have hO2_h := Lib.hid hO2; clear hO2
      go_roundw
      case rel => exact ⟨k + 1, A3, c3, gs ++ [(B1, d1, g l)], by omega, by go_num, rfl, by rw [List.length_append, hgl_h.out]; rfl, by rw [List.map_append, hgm_h.out, List.take_add_one, hx_h.out]; simp, hO2_h.out⟩
      case measure => simp [intOf]; omega
    · obtain rfl : k = m := by omega
      have hgm2 : gs.map (fun h : Hd => h.2.2) = hs.map (fun h : Hd => g h.2.2) := by rw [hgm, List.take_of_length_le (by rw [← hm_h.out]; exact Nat.le_refl _)]
      clear hgm; have hgl_h := Lib.hid hgl; have hgm2_h := Lib.hid hgm2; have hO_h := Lib.hid hO; clear hgl hgm2 hO
      go_wp2_with (fail)
      go_ret
      exact ⟨A', c', gs, rfl, hgm2_h.out, hO_h.out⟩
set_option maxRecDepth 100000 in
set_option maxHeartbeats 1000000 in
theorem relation_any (p a b : Int) (n : Nat) (A : Option Addr) (c : Nat) (hs : List Hd) (w : World) (h : RdR w A hs) (hp : fieldB p = true) (hn : a + b = (n : Int)) (hm : Mat p hs.length n (hs.map fun h : Hd => h.2.2)) (hl : hs.length ≤ 1048576) (hn' : n ≤ 1048576) :
    Calls Tryd.prog 130 #[.int .i64 p, .int .i64 a, .int .i64 b, .slice A hs.length c] w fun e w' => ∃ v' fp, e = .returned v' ∧ OwSys w' v' (a, b, redM p n (hs.map fun h : Hd => h.2.2)) fp ∧ FreshL w.heap.size fp ∧ Below w.heap.size w w' := by
  obtain ⟨W, hW, hB0, k0⟩ := alloc_box w (.cells #[.int .i64 0, .int .i64 0, .slice none 0 0] tRel)
  have hC := reduced_any p n A c hs W (h.below hB0) hp hm hl hn'
  obtain ⟨R, hR⟩ : ∃ R, R = redM p n (hs.map fun h : Hd => h.2.2) := ⟨_, rfl⟩
  rw [← hR] at hC ⊢
  rw [← hn] at hC
  have hwr : IntKind.i64.wrap (a + b) = a + b := IntWalk.i64_in _ (by omega)
  clear h hm hp hn; have hC_h := Lib.hid hC; have hB0_h := Lib.hid hB0; have k0_h := Lib.hid k0; have hR_h := Lib.hid hR; clear hC hB0 k0 hR
  go_enter Tryd.func130, Tryd.ntmps130
  go_upto_region 1 with (fail)
  rw [← hW]
  clear hW
  go_wp2_with (fail)
  refine (hC_h.out).mono ?_
  rintro e w1 hret
  obtain ⟨A1, c1, rfl, hO1⟩ := hret.om
  have k1 := box_below k0_h.out hO1.below_
  have hB1 := below_trans hB0_h.out hO1.below_ hB0_h.out.size
  obtain ⟨⟨d0, d1, d2⟩, g0, g1, g2⟩ := box3 k1
  obtain ⟨s1, s2⟩ := set3 (a := .int .i64 a) (b := .int .i64 b) (c := .slice A1 R.length c1) k1
  have hw0 := (Array.getElem?_eq_some_iff.1 k0_h.out).1
  have hB3 := below_keeps hB1 s2 hB1.size (fun k hk => by omega)
  have hBs := hB0_h.out.size
  clear hret k1 hB1; have s1_h := Lib.hid s1; have s2_h := Lib.hid s2; have hO1_h := Lib.hid hO1; have hB3_h := Lib.hid hB3; clear s1 s2 hO1 hB3
  go_wp2_with (fail)
  refine bodyPost_ret (results_cell_row rfl _ _ w.heap.size _ _ (0, 0) _ rfl s1_h.out Tryd.underlying43 rfl (by kernel_rfl)) rfl ?_
  obtain ⟨fp, h1, h2⟩ := OwSys.of_ret (a := a) (b := b) hO1_h.out s2_h.out (fun k hk => by omega) rfl
  exact ⟨_, fp, rfl, h1, h2.mono hBs, hB3_h.out⟩
theorem OwMt.of_ret {w0 w : World} {L : List (List Int)} {A : Option Addr} {c : Nat} {a : Int} (h : OM w0 w A c L) {w' : World} {S : Nat → Prop} (hk : Keeps S w w') (hS : ∀ k, S k → k < w0.heap.size) {n : Nat} (hn : L.length = n) : ∃ fp, OwMt w' (.agg #[.int .i64 a, .slice A n c]) (a, L) fp ∧ FreshL w0.heap.size fp := by
  subst hn
  obtain ⟨fp, h1, h2⟩ := OwMt.of_om (a := a) h
  exact ⟨fp, h1.keeps hk fun k hk' hs => by have := h2 k hk'; have := hS k hs; omega, h2⟩
end Go.Proofs.YtahnhblodfdfhaaDoor
namespace Go.Proofs.YtahnhblodfdfhaaDoor
open Go.RowKit
theorem alloc2 (w : World) (o o' : Obj) : ∃ W, W = (w.alloc o).alloc o' ∧ Below w.heap.size w W ∧ W.heap[w.heap.size]? = some o ∧ W.heap[w.heap.size + 1]? = some o' := by
  refine ⟨_, rfl, ((Below.refl _ _).alloc (Nat.le_refl _) _).alloc (by simp) _, box_below (heap_alloc_new w _) (below_alloc _ _), ?_⟩
  have := heap_alloc_new (w.alloc o) o'
  rwa [World.size_alloc] at this
theorem RdO.nil (w W : World) (hb : Below w.heap.size w W) : RdO w W none 0 [] := ⟨Sl.nil _ _ _, fun x hx => (by cases hx), fun x hx => (by cases hx), fun b hb' => (by simp at hb'), hb⟩
def partV (f r : Nat) (u : List Int) : List Int := (u.drop f).take r
theorem part_first {p : Int} {s : Sys} (_h : RelOk p s) : s.2.2.map (partV 0 s.1.toNat) = firstM s := by
  unfold firstM partV; simp
theorem part_second {p : Int} {s : Sys} (h : RelOk p s) : s.2.2.map (partV s.1.toNat s.2.1.toNat) = secondM s := by
  unfold secondM
  refine List.map_congr_left fun v hv => ?_
  have := (h.row hv).1
  have h1 := h.lo
  have h2 := h.hi
  unfold partV
  rw [List.take_of_length_le (by rw [List.length_drop]; omega)]
theorem first_each {na n : Nat} {b : Int} {V : Value} (hV : V.oneCell' = true) {w : World} {x : Hd} (hx : IS w x.1 x.2.1 x.2.2) (hl : x.2.2.length = n) (hn : na ≤ n) : ∀ W', Below w.heap.size w W' → Calls Tryd.prog 126 (#[Value.agg #[.int .i64 na, .int .i64 b, V]].push (.slice x.1 x.2.2.length x.2.1) ++ #[]) W' fun e w'' => ∃ B c', e = .returned (.slice B (partV 0 na x.2.2).length c') ∧ IS w'' B c' (partV 0 na x.2.2) ∧ (∀ b, b ∈ fpA B → b ∈ fpA x.1 ∨ W'.heap.size ≤ b) ∧ Below W'.heap.size W' w'' := by
  intro W' hb
  have h0 : Sl W' 3 1 x.1 x.2.2.length x.2.1 (ints x.2.2) := hx.below hb
  have hp : partV 0 na x.2.2 = x.2.2.take na := by simp [partV]
  have hp2 : (x.2.2.take na).length = na := by rw [List.length_take]; omega
  have := first_any na b V hV x.1 x.2.1 x.2.2.length x.2.2 W' h0 (by omega)
  refine Calls.mono ?_ (fun e w'' h => h)
  simp only [List.push_toArray, List.cons_append, List.nil_append, Array.append_empty]
  refine this.mono ?_
  rintro e w2 ⟨B', rfl, hS, hf, hb2⟩
  exact ⟨B', x.2.1, by rw [hp, hp2], by unfold IS; rw [hp, hp2]; exact hS, fun b hb => .inl (hf b hb), hb2⟩
theorem second_each {na r n : Nat} {b : Int} {V : Value} (hV : V.oneCell' = true) {w : World} {x : Hd} (hx : IS w x.1 x.2.1 x.2.2) (hl : x.2.2.length = n) (hn : n = na + r) : ∀ W', Below w.heap.size w W' → Calls Tryd.prog 125 (#[Value.agg #[.int .i64 na, .int .i64 b, V]].push (.slice x.1 x.2.2.length x.2.1) ++ #[]) W' fun e w'' => ∃ B c', e = .returned (.slice B (partV na r x.2.2).length c') ∧ IS w'' B c' (partV na r x.2.2) ∧ (∀ b, b ∈ fpA B → b ∈ fpA x.1 ∨ W'.heap.size ≤ b) ∧ Below W'.heap.size W' w'' := by
  intro W' hb
  have h0 : Sl W' 3 1 x.1 x.2.2.length x.2.1 (ints x.2.2) := hx.below hb
  have hp : partV na r x.2.2 = x.2.2.drop na := by unfold partV; rw [List.take_of_length_le (by rw [List.length_drop]; omega)]
  have hp2 : (x.2.2.drop na).length = r := by rw [List.length_drop]; omega
  have := second_any na b V hV x.1 x.2.1 x.2.2.length r x.2.2 W' h0 (by omega)
  refine Calls.mono ?_ (fun e w'' h => h)
  simp only [List.push_toArray, List.cons_append, List.nil_append, Array.append_empty]
  refine this.mono ?_
  rintro e w2 ⟨B', c', rfl, hS, hf, hb2⟩
  exact ⟨B', c', by rw [hp, hp2], by unfold IS; rw [hp, hp2]; exact hS, fun b hb => .inl (hf b hb), hb2⟩
end Go.Proofs.YtahnhblodfdfhaaDoor
namespace Go.Proofs.YtahnhblodfdfhaaDoor
open Go.RowKit
end Go.Proofs.YtahnhblodfdfhaaDoor
namespace Go.Proofs.YtahnhblodfdfhaaDoor
open Go.RowKit
set_option maxRecDepth 8000 in
theorem eachFirst_any (p : Int) {v : Value} {s : Sys} {fp : List Nat} (w : World) (h : OwSys w v s fp) (hs : RelOk p s) :
    Calls Tryd.prog 124 #[v, .func (.func 126) #[v] #[]] w fun e w' => ∃ A' c' gs n, e = .returned (.slice A' n c') ∧ gs.length = n ∧ n ≤ 24 ∧ gs.map (fun h : Hd => h.2.2) = firstM s ∧ RdO w w' A' c' gs := by
  have hpf := part_first hs
  obtain ⟨A, c, gs, rfl, hL, hO, rfl⟩ := h
  obtain ⟨a, b, L⟩ := s
  have h0 : 0 ≤ a := hs.lo
  have h1 : 0 ≤ b := hs.hi
  have h2 : a + b ≤ 24 := hs.sum
  have hfld : fieldB p = true := hs.fld
  have hrow : ∀ u, u ∈ L → (u.length : Int) = a + b ∧ Res p u := fun u hu => hs.row hu
  have hlen : (L.length : Int) ≤ a + b := hs.len
  clear hs
  obtain ⟨na, rfl⟩ : ∃ na : Nat, a = (na : Int) := ⟨a.toNat, by omega⟩
  obtain ⟨nb, rfl⟩ : ∃ nb : Nat, b = (nb : Int) := ⟨b.toNat, by omega⟩
  have hL' : L = gs.map (fun h : Hd => h.2.2) := hL
  clear hL
  obtain ⟨m, hm⟩ : ∃ m, m = gs.length := ⟨_, rfl⟩
  have hLm : L.length = m := by rw [hL', List.length_map, hm]
  have hm24 : (m : Int) ≤ 24 := by have := hlen; rw [hLm] at this; omega
  have hgr : ∀ x, x ∈ gs → x.2.2.length = na + nb := fun x hx => by have := (hrow _ (by rw [hL']; exact List.mem_map_of_mem hx)).1; omega
  have hE := each_any 126 #[.agg #[.int .i64 (na : Int), .int .i64 (nb : Int), .slice A gs.length c]] #[] (partV 0 na) (na : Int) (nb : Int) A c gs w hO.rd hO.rows (by omega) (fun _ _ => rfl) (fun x hx => first_each rfl (hO.rows x hx) (hgr x hx) (by omega))
  refine hE.mono ?_
  rintro e w' ⟨A', c', g1, rfl, hg1, hO1⟩
  have hgl : g1.length = gs.length := by have := congrArg List.length hg1; rwa [List.length_map, List.length_map] at this
  refine ⟨A', c', g1, gs.length, rfl, hgl, by omega, ?_, hO1⟩
  rw [hg1, ← hpf]
  show _ = L.map _
  rw [hL', List.map_map]; rfl
set_option maxRecDepth 8000 in
theorem eachSecond_any (p : Int) {v : Value} {s : Sys} {fp : List Nat} (w : World) (h : OwSys w v s fp) (hs : RelOk p s) :
    Calls Tryd.prog 124 #[v, .func (.func 125) #[v] #[]] w fun e w' => ∃ A' c' gs n, e = .returned (.slice A' n c') ∧ gs.length = n ∧ n ≤ 24 ∧ gs.map (fun h : Hd => h.2.2) = secondM s ∧ RdO w w' A' c' gs := by
  have hpf := part_second hs
  obtain ⟨A, c, gs, rfl, hL, hO, rfl⟩ := h
  obtain ⟨a, b, L⟩ := s
  have h0 : 0 ≤ a := hs.lo
  have h1 : 0 ≤ b := hs.hi
  have h2 : a + b ≤ 24 := hs.sum
  have hfld : fieldB p = true := hs.fld
  have hrow : ∀ u, u ∈ L → (u.length : Int) = a + b ∧ Res p u := fun u hu => hs.row hu
  have hlen : (L.length : Int) ≤ a + b := hs.len
  clear hs
  obtain ⟨na, rfl⟩ : ∃ na : Nat, a = (na : Int) := ⟨a.toNat, by omega⟩
  obtain ⟨nb, rfl⟩ : ∃ nb : Nat, b = (nb : Int) := ⟨b.toNat, by omega⟩
  have hL' : L = gs.map (fun h : Hd => h.2.2) := hL
  clear hL
  obtain ⟨m, hm⟩ : ∃ m, m = gs.length := ⟨_, rfl⟩
  have hLm : L.length = m := by rw [hL', List.length_map, hm]
  have hm24 : (m : Int) ≤ 24 := by have := hlen; rw [hLm] at this; omega
  have hgr : ∀ x, x ∈ gs → x.2.2.length = na + nb := fun x hx => by have := (hrow _ (by rw [hL']; exact List.mem_map_of_mem hx)).1; omega
  have hE := each_any 125 #[.agg #[.int .i64 (na : Int), .int .i64 (nb : Int), .slice A gs.length c]] #[] (partV na nb) (na : Int) (nb : Int) A c gs w hO.rd hO.rows (by omega) (fun _ _ => rfl) (fun x hx => second_each rfl (hO.rows x hx) (hgr x hx) (by omega))
  refine hE.mono ?_
  rintro e w' ⟨A', c', g1, rfl, hg1, hO1⟩
  have hgl : g1.length = gs.length := by have := congrArg List.length hg1; rwa [List.length_map, List.length_map] at this
  refine ⟨A', c', g1, gs.length, rfl, hgl, by omega, ?_, hO1⟩
  rw [hg1, ← hpf]
  show _ = L.map _
  rw [hL', List.map_map]; rfl
end Go.Proofs.YtahnhblodfdfhaaDoor
namespace Go.Proofs.YtahnhblodfdfhaaDoor
open Go.RowKit
section
variable {P : Program} {w : World} {e : TypeId} {sz n cap : Nat} {A : Option Addr} {xs : List Value}
theorem Sl.sliced (hs : Sl w e sz A n cap xs) (t : TypeId) {z : Option Value} {bytes : Nat} (ht : P.underlying t = some (.slice e)) (hinfo : (P.info? e).map (fun i => (i.zero, i.size, i.bytes)) = some (z, sz, bytes))
    (lo hi mx : Option Value) (l hgh m : Nat) (hlo : OptIs lo l (l = 0)) (hhi : OptIs hi hgh (hgh = n ∧ mx = none)) (hmx : OptIs mx m (m = cap)) (h1 : l ≤ hgh) (h2 : hgh ≤ n) (h3 : hgh ≤ m) (h4 : m ≤ cap) :
    ∃ A', (∀ w', (Instr.sliceAt t (.slice A n cap) lo hi mx).run P w' = .ok (.slice A' (hgh - l) (m - l)) w') ∧ Sl w e sz A' (hgh - l) (m - l) ((xs.drop (l * sz)).take ((hgh - l) * sz)) ∧ (∀ b, b ∈ fpA A' → b ∈ fpA A) := by
  obtain ⟨hcut, hfp, hsub⟩ := hs.cut h1 h2 h3 h4
  refine ⟨_, fun w => ?_, hcut, hfp⟩
  unfold OptIs at hlo hhi hmx
  obtain ⟨i, hi', hzz⟩ := Option.map_eq_some_iff.1 hinfo
  simp only [Prod.mk.injEq] at hzz
  have hb : ∀ (k : IntKind) (i : Int) (j y : Nat) (code : BoundsCode), i = (j : Int) → j ≤ y → (Instr.sliceBound (.int k i) y code).run P w = .ok j w := by
    intro k i j y code e hj
    subst e
    rw [run_sliceBound w k _ y code (by omega) (by omega)]; simp
  have hsb : (Instr.sliceBounds true n cap lo hi mx).run P w = .ok (l, hgh, m) w := by
    unfold Instr.sliceBounds
    cases mx with
    | none =>
      subst hmx
      cases hi with
      | none =>
        obtain ⟨rfl, _⟩ := hhi
        cases lo with
        | none => subst hlo; simp
        | some v => obtain ⟨k, L, rfl, hL⟩ := hlo; simp [hb k L l _ _ hL h1]
      | some v =>
        obtain ⟨k, L, rfl, hL⟩ := hhi
        have hb1 := hb k L hgh m .sliceAcap hL h3
        cases lo with
        | none => subst hlo; simp [hb1]
        | some v => obtain ⟨k', L', rfl, hL'⟩ := hlo; simp [hb1, hb k' L' l _ _ hL' h1]
    | some vm =>
      obtain ⟨km, M, rfl, hM⟩ := hmx
      have hb0 := hb km M m cap .slice3Acap hM h4
      cases hi with
      | none => obtain ⟨_, h0⟩ := hhi; cases h0
      | some v =>
        obtain ⟨k, L, rfl, hL⟩ := hhi
        have hb1 := hb k L hgh m .slice3B hL h3
        cases lo with
        | none => subst hlo; simp [hb0, hb1]
        | some v => obtain ⟨k', L', rfl, hL'⟩ := hlo; simp [hb0, hb1, hb k' L' l _ _ hL' h1]
  have hrun : (Instr.slice t (.slice A n cap) lo hi mx).run P w = .ok (.slice (if m = l then A else A.map (·.add (l * sz))) (hgh - l) (m - l)) w := by
    simp only [Instr.slice, Sem.run_bind, run_underlying ht, Result.andThen_ok, hsb]
    simp [sizeOf, typeInfo, hi', hzz.2.1]
  simp [Instr.sliceAt, run_underlying ht, hrun]
theorem xop_sliceW {ρ : Operand → Value} {o : Oper} {w w' : World} {t : TypeId} {x : Operand} {lo hi mx : Option Operand} {v : Value} (ho : o.op = .slice t x lo hi mx) (hr : (Instr.sliceAt t (ρ x) (lo.map ρ) (hi.map ρ) (mx.map ρ)).run P w = .ok v w') : (execOp ρ o).run P w = .ok (.value v) w' := by
  simp [execOp, ho, hr, Result.andThen]
end
theorem laid_rdr {w : World} (hs : List Hd) (h : ∀ x, x ∈ hs → RdI w x.1 x.2.2) (hl : hs.length ≤ maxLen) : RdR (w.alloc (.cells (hs.map Hd.val).toArray 33)) (some ⟨w.heap.size, 0, none⟩) hs := by
  have hs1 := Sl.laid w 33 1 hs.length (hs.map Hd.val).toArray hl (by simp)
  refine ⟨fun i x hx => ?_, fun x hx => (h x hx).below (below_alloc _ _)⟩
  obtain ⟨ad, hA, _, hc, _⟩ := hs1.cell (j := i) (u := x.val) (by simp [hx])
  exact ⟨ad, hA, hc⟩
def swapV (a : Nat) (u : List Int) : List Int := u.drop a ++ u.take a
theorem swapV_len (a : Nat) (u : List Int) : (swapV a u).length = u.length := by unfold swapV; rw [List.length_append, List.length_drop, List.length_take]; omega
theorem swapV_res {p : Int} {a : Nat} {u : List Int} (h : Res p u) : Res p (swapV a u) := fun x hx => by
  rcases List.mem_append.1 hx with hx | hx
  · exact h x (List.mem_of_mem_drop hx)
  · exact h x (List.mem_of_mem_take hx)
def convM (p : Int) (s : Sys) : Sys := (s.2.1, s.1, redM p (s.1 + s.2.1).toNat (s.2.2.map (swapV s.1.toNat)))
set_option maxRecDepth 8000 in
set_option maxHeartbeats 2000000 in
theorem conv1_any (g na nb : Nat) (V : Value) (hV : V.oneCell' = true) (B : Option Addr) (d n : Nat) (u : List Int) (w : World) (h : Sl w 3 1 B n d (ints u)) (hn : n = na + nb) (hn2 : n ≤ 1000) (hg : w.heap[g]? = some (.cells #[.int .i64 na, .int .i64 nb, V] tRel)) :
    Calls Tryd.prog 189 #[.slice B n d, .pointer (some ⟨g, 0, none⟩)] w (RetI w (swapV na u)) := by
  have hul : u.length = n := by have := h.1; rw [ints_length] at this; omega
  have hl2 : (u.drop na).length = nb := by rw [List.length_drop]; omega
  have hl3 : (u.take na).length = na := by rw [List.length_take]; omega
  have hn_h := Lib.hid hn; have hg_h := Lib.hid hg; have h_h := Lib.hid h; have hul_h := Lib.hid hul; have hl2_h := Lib.hid hl2; have hl3_h := Lib.hid hl3; clear hn hg h hul hl2 hl3
  go_enter Tryd.func189, Tryd.ntmps189
  go_wp2_with (fail)
  have hbd : Below w.heap.size w w.drew := below_drewN (Below.refl _ _) 1
  refine beginH (fun w' => w'.heap[g]? = some (.cells #[.int .i64 na, .int .i64 nb, V] tRel)) (by kernel_rfl) ?_
  generalize w.drew = W1 at hbd ⊢
  replace hg_h := Lib.hid (box_below hg_h.out hbd)
  have h1 := h_h.out.below hbd
  have h1_h := Lib.hid h1; have hbd_h := Lib.hid hbd; clear h1 hbd
  refine takeH 0 (v := ?_) rfl (by kernel_rfl) (by kernel_rfl) (by kernel_rfl) (fun _ _ _ h => h) hg_h.out (by rfl) (fun W' hW' => ?_) ?_; rotate_left; · (obtain ⟨⟨y0, y1, y2⟩, y3, y4, y5⟩ := box3 hW'; clear hW'; go_simp; first | done | with_reducible rfl)
  simp only [Act.put, nS1, nS2, nS3]
  refine takeH 1 (v := ?_) rfl (by kernel_rfl) (by kernel_rfl) (by kernel_rfl) (fun _ _ _ h => h) hg_h.out (by rfl) (fun W' hW' => ?_) ?_; rotate_left; · (obtain ⟨⟨y0, y1, y2⟩, y3, y4, y5⟩ := box3 hW'; clear hW'; go_simp; first | done | with_reducible rfl)
  simp only [Act.put, nS1, nS2, nS3]
  refine takeH 3 (v := ?_) rfl (by kernel_rfl) (by kernel_rfl) (by kernel_rfl) (fun _ _ _ h => h) hg_h.out (by rfl) (fun W' hW' => ?_) ?_; rotate_left; · (obtain ⟨⟨y0, y1, y2⟩, y3, y4, y5⟩ := box3 hW'; clear hW'; go_simp; first | done | with_reducible rfl)
  simp only [Act.put, nS1, nS2, nS3]
  refine takeH 4 (v := ?_) rfl (by kernel_rfl) (by kernel_rfl) (by kernel_rfl) (fun _ _ _ h => h) hg_h.out (by rfl) (fun W' hW' => ?_) ?_; rotate_left; · (obtain ⟨⟨y0, y1, y2⟩, y3, y4, y5⟩ := box3 hW'; clear hW'; go_simp; first | done | with_reducible rfl)
  simp only [Act.put, nS1, nS2, nS3]
  refine' callH 2 (f := _) (args := _) rfl (by kernel_rfl) (by rfl) ?_ ?_; rotate_left 2; · (go_simp; first | done | with_reducible rfl | (constructor <;> with_reducible rfl))
  refine (second_any na (nb : Int) V hV B d n nb u W1 h1_h.out hn_h.out).mono ?_
  rintro e w2 ⟨B2, c2, rfl, hS2, hf2, hb2⟩
  replace hg_h := Lib.hid (box_below hg_h.out hb2)
  refine ⟨_, rfl, hg_h.out, ?_⟩
  simp only [Act.put, nS1, nS2, nS3]
  have h2 := h1_h.out.below hb2
  have h2_h := Lib.hid h2; have hS2_h := Lib.hid hS2; have hf2_h := Lib.hid hf2; have hb2_h := Lib.hid hb2; clear h2 hS2 hf2 hb2
  refine' callH 5 (f := _) (args := _) rfl (by kernel_rfl) (by rfl) ?_ ?_; rotate_left 2; · (go_simp; first | done | with_reducible rfl | (constructor <;> with_reducible rfl))
  refine (first_any na (nb : Int) V hV B d n u w2 h2_h.out (by have := hn_h.out; omega)).mono ?_
  rintro e w3 ⟨B3, rfl, hS3, hf3, hb3⟩
  replace hg_h := Lib.hid (box_below hg_h.out hb3)
  refine ⟨_, rfl, hg_h.out, ?_⟩
  simp only [Act.put, nS1, nS2, nS3]
  have hS2' := hS2_h.out.below hb3
  have hr2 : RdI w3 B2 (u.drop na) := fun j x hj => by
    obtain ⟨ad, hA, _, hc, _⟩ := hS2'.cell (ints_get hj)
    exact ⟨ad, hA, hc⟩
  have hr3 : RdI w3 B3 (u.take na) := fun j x hj => by
    obtain ⟨ad, hA, _, hc, _⟩ := hS3.cell (ints_get hj)
    exact ⟨ad, hA, hc⟩
  have hlr := laid_rdr (w := w3) [(B2, c2, u.drop na), (B3, d, u.take na)] (fun x hx => by
    rcases List.mem_cons.1 hx with rfl | hx
    · exact hr2
    · obtain rfl := List.mem_singleton.1 hx; exact hr3) (by unfold maxLen; simp)
  have e : (([(B2, c2, u.drop na), (B3, d, u.take na)] : List Hd).map Hd.val).toArray = #[.slice B2 nb c2, .slice B3 na d] := by
    simp [Hd.val, hl2_h.out, hl3_h.out]
  rw [e] at hlr
  have hgn := box_below hg_h.out (below_alloc w3 (.cells #[.slice B2 nb c2, .slice B3 na d] 33))
  have hJ := joined_any (some ⟨w3.heap.size, 0, none⟩) 2 [(B2, c2, u.drop na), (B3, d, u.take na)] _ hlr (by simp) (by simp; have := hul_h.out; omega)
  have e2 : (([(B2, c2, u.drop na), (B3, d, u.take na)] : List Hd).map fun h : Hd => h.2.2).flatten = swapV na u := by simp [swapV]
  rw [e2] at hJ
  have hB3 := below_trans (below_trans hbd_h.out hb2_h.out hbd_h.out.size) hb3 (Nat.le_trans hbd_h.out.size hb2_h.out.size)
  have hB4 := below_trans hB3 (below_alloc w3 (.cells #[.slice B2 nb c2, .slice B3 na d] 33)) hB3.size
  clear hlr e e2 hr2 hr3 hS2' hS3 hf3 hb3 hB3; have hgn_h := Lib.hid hgn; have hJ_h := Lib.hid hJ; have hB4_h := Lib.hid hB4; clear hgn hJ hB4
  refine oneH 6 rfl (by kernel_rfl) (by rfl) (fun K hK => ?_)
  go_simp
  refine hK _ _ hgn_h.out ?_
  clear hK K
  refine' callH 7 (f := _) (args := _) rfl (by kernel_rfl) (by rfl) ?_ ?_; rotate_left 2; · (go_simp; first | done | with_reducible rfl | (constructor <;> with_reducible rfl))
  refine (hJ_h.out).mono ?_
  rintro e w4 ⟨A4, c4, rfl, hi4, hf4, hb4⟩
  replace hgn_h := Lib.hid (box_below hgn_h.out hb4)
  refine ⟨_, rfl, hgn_h.out, ?_⟩
  simp only [Act.put, nS1, nS2, nS3]
  have hres : RetI w (swapV na u) (.returned (.slice A4 (swapV na u).length c4)) w4 := ⟨A4, c4, rfl, hi4, hf4.mono hB4_h.out.size, below_trans hB4_h.out hb4 hB4_h.out.size⟩
  clear hi4 hf4 hb4; have hres_h := Lib.hid hres; clear hres
  refine takeH 8 (v := ?_) rfl (by kernel_rfl) (by kernel_rfl) (by kernel_rfl) (fun _ _ _ h => h) hgn_h.out (by rfl) (fun W' hW' => ?_) ?_; rotate_left; · (skip; clear hW'; go_simp; first | done | with_reducible rfl)
  simp only [Act.put, nS1, nS2, nS3]
  refine doneH (by kernel_rfl) ?_
  go_wp2_with (fail)
  go_ret
  exact hres_h.out
set_option maxRecDepth 8000 in
set_option maxHeartbeats 2000000 in
theorem converse_any (p : Int) {v : Value} {s : Sys} {fp : List Nat} (w : World) (h : OwSys w v s fp) (hs : RelOk p s) :
    Calls Tryd.prog 170 #[.int .i64 p, v] w fun e w' => ∃ v' fp', e = .returned v' ∧ OwSys w' v' (convM p s) fp' ∧ FreshL w.heap.size fp' ∧ Below w.heap.size w w' := by
  have hmat0 := hs.mat.map (f := swapV s.1.toNat) fun v hv hr => ⟨(swapV_len _ v).trans hv, swapV_res hr⟩
  obtain ⟨A, c, gs, rfl, hL, hO, rfl⟩ := h
  obtain ⟨a, b, L⟩ := s
  have h0 : 0 ≤ a := hs.lo
  have h1 : 0 ≤ b := hs.hi
  have h2 : a + b ≤ 24 := hs.sum
  have hfld : fieldB p = true := hs.fld
  have hrow : ∀ u, u ∈ L → (u.length : Int) = a + b ∧ Res p u := fun u hu => hs.row hu
  have hlen : (L.length : Int) ≤ a + b := hs.len
  clear hs
  obtain ⟨na, rfl⟩ : ∃ na : Nat, a = (na : Int) := ⟨a.toNat, by omega⟩
  obtain ⟨nb, rfl⟩ : ∃ nb : Nat, b = (nb : Int) := ⟨b.toNat, by omega⟩
  have hL' : L = gs.map (fun h : Hd => h.2.2) := hL
  clear hL
  obtain ⟨m, hm⟩ : ∃ m, m = gs.length := ⟨_, rfl⟩
  have hLm : L.length = m := by rw [hL', List.length_map, hm]
  have hm24 : (m : Int) ≤ 24 := by have := hlen; rw [hLm] at this; omega
  have hgr : ∀ x, x ∈ gs → x.2.2.length = na + nb := fun x hx => by have := (hrow _ (by rw [hL']; exact List.mem_map_of_mem hx)).1; omega
  obtain ⟨n, hn⟩ : ∃ n, n = na + nb := ⟨_, rfl⟩
  obtain ⟨X, hX⟩ : ∃ X, X = L.map (swapV na) := ⟨_, rfl⟩
  have hmat : Mat p X.length n X := by rw [hX, hn, List.length_map]; exact hmat0
  obtain ⟨R, hR⟩ : ∃ R, R = redM p n X := ⟨_, rfl⟩
  have hgoal : convM p ((na : Int), (nb : Int), L) = ((nb : Int), (na : Int), R) := by
    rw [hR, hX, hn]; rfl
  rw [hgoal]
  show Calls Tryd.prog _ #[.int .i64 p, .agg #[.int .i64 (na : Int), .int .i64 (nb : Int), .slice A gs.length c]] w _
  rw [← hm]
  have hEa := fun (W' : World) (hb : Below w.heap.size w W') (hg : W'.heap[w.heap.size]? = some (.cells #[.int .i64 (na : Int), .int .i64 (nb : Int), .slice A m c] tRel)) => each_any 189 #[] #[.pointer (some ⟨w.heap.size, 0, none⟩)] (swapV na) (na : Int) (nb : Int) A c gs W' (hO.below hb).rd (hO.below hb).rows (by omega) (fun _ _ => rfl) (fun x hx W2 hb2 => by
    have hI : Sl W2 3 1 x.1 x.2.2.length x.2.1 (ints x.2.2) := ((hO.below hb).rows x hx).below hb2
    have hl := hgr x hx
    have := conv1_any w.heap.size na nb (.slice A m c) rfl x.1 x.2.1 x.2.2.length x.2.2 W2 hI (by omega) (by omega) (box_below hg hb2)
    refine this.mono ?_
    rintro e w4 ⟨A4, c4, rfl, hi4, hf4, hb4⟩
    exact ⟨A4, c4, rfl, hi4, fun b hb => .inr (hf4 b hb), hb4⟩)
  simp only [← hm] at hEa
  obtain ⟨W, hW, b0, k0, k1⟩ := alloc2 w (.cells #[.int .i64 (na : Int), .int .i64 (nb : Int), .slice A m c] tRel) (.cells #[.int .i64 0, .int .i64 0, .slice none 0 0] tRel)
  have hmf : ∀ (fn : Fn) (first cap : Array Value) (w : World), (Instr.makeFunc fn first cap).run Tryd.prog w = .ok (.func fn first cap) w := fun _ _ _ _ => rfl
  clear hO hmat0 hgoal hgr; have hL'_h := Lib.hid hL'; have hm_h := Lib.hid hm; have hLm_h := Lib.hid hLm; have k0_h := Lib.hid k0; have k1_h := Lib.hid k1; have b0_h := Lib.hid b0; have hrow_h := Lib.hid hrow; have hlen_h := Lib.hid hlen; have hfld_h := Lib.hid hfld; have hmat_h := Lib.hid hmat; have hX_h := Lib.hid hX; have hR_h := Lib.hid hR; have hEa_h := Lib.hid hEa; have hn_h := Lib.hid hn; clear hL' hm hLm k0 k1 b0 hrow hlen hfld hmat hX hR hEa hn
  go_enter Tryd.func170, Tryd.ntmps170
  go_wp2_with (fail)
  rw [← hW]
  clear hW
  have hbd : Below W.heap.size W W.drew := below_drewN (Below.refl _ _) 1
  refine beginH (fun w' => w'.heap[w.heap.size]? = some (.cells #[.int .i64 (na : Int), .int .i64 (nb : Int), .slice A m c] tRel)) (by kernel_rfl) ?_
  generalize W.drew = W1 at hbd ⊢
  replace k0_h := Lib.hid (box_below k0_h.out hbd)
  replace k1_h := Lib.hid (box_below k1_h.out hbd)
  have hB1 := below_trans b0_h.out hbd b0_h.out.size
  have hw1 : w.heap.size + 1 < W1.heap.size := (Array.getElem?_eq_some_iff.1 k1_h.out).1
  have hbd_h := Lib.hid hbd; have hB1_h := Lib.hid hB1; clear hbd hB1
  refine takeH 0 (v := ?_) rfl (by kernel_rfl) (by kernel_rfl) (by kernel_rfl) (fun _ _ _ h => h) k0_h.out (by rfl) (fun W' hW' => ?_) ?_; rotate_left; · (obtain ⟨⟨y0, y1, y2⟩, y3, y4, y5⟩ := box3 hW'; clear hW'; go_simp; first | done | with_reducible rfl)
  simp only [Act.put, nS1, nS2, nS3]
  refine takeH 1 (v := ?_) rfl (by kernel_rfl) (by kernel_rfl) (by kernel_rfl) (fun _ _ _ h => h) k0_h.out (by rfl) (fun W' hW' => ?_) ?_; rotate_left; · (obtain ⟨⟨y0, y1, y2⟩, y3, y4, y5⟩ := box3 hW'; clear hW'; go_simp; first | done | with_reducible rfl)
  simp only [Act.put, nS1, nS2, nS3]
  refine takeH 2 (v := ?_) rfl (by kernel_rfl) (by kernel_rfl) (by kernel_rfl) (fun _ _ _ h => h) k0_h.out (by rfl) (fun W' hW' => ?_) ?_; rotate_left; · (obtain ⟨⟨y0, y1, y2⟩, y3, y4, y5⟩ := box3 hW'; clear hW'; go_simp; first | done | with_reducible rfl)
  simp only [Act.put, nS1, nS2, nS3]
  refine takeH 3 (v := ?_) rfl (by kernel_rfl) (by kernel_rfl) (by kernel_rfl) (fun _ _ _ h => h) k0_h.out (by rfl) (fun W' hW' => ?_) ?_; rotate_left; · (obtain ⟨⟨y0, y1, y2⟩, y3, y4, y5⟩ := box3 hW'; clear hW'; go_simp; first | done | with_reducible rfl)
  simp only [Act.put, nS1, nS2, nS3]
  refine takeH 4 (v := ?_) rfl (by kernel_rfl) (by kernel_rfl) (by kernel_rfl) (fun _ _ _ h => h) k0_h.out (by rfl) (fun W' hW' => ?_) ?_; rotate_left; · (obtain ⟨⟨y0, y1, y2⟩, y3, y4, y5⟩ := box3 hW'; clear hW'; go_simp; first | done | with_reducible rfl)
  simp only [Act.put, nS1, nS2, nS3]
  refine takeH 5 (v := ?_) rfl (by kernel_rfl) (by kernel_rfl) (by kernel_rfl) (fun _ _ _ h => h) k0_h.out (by rfl) (fun W' hW' => ?_) ?_; rotate_left; · (obtain ⟨⟨y0, y1, y2⟩, y3, y4, y5⟩ := box3 hW'; clear hW'; go_simp; first | done | with_reducible rfl)
  simp only [Act.put, nS1, nS2, nS3]
  refine takeH 6 (v := ?_) rfl (by kernel_rfl) (by kernel_rfl) (by kernel_rfl) (fun _ _ _ h => h) k0_h.out (by rfl) (fun W' hW' => ?_) ?_; rotate_left; · (skip; clear hW'; go_simp; first | done | with_reducible rfl)
  simp only [Act.put, nS1, nS2, nS3]
  refine' callH 7 (f := _) (args := _) rfl (by kernel_rfl) (by rfl) ?_ ?_; rotate_left 2; · (go_simp; first | done | with_reducible rfl | (constructor <;> with_reducible rfl))
  refine (hEa_h.out W1 hB1_h.out k0_h.out).mono ?_
  rintro e w2 ⟨A1, c1, g1, rfl, hg1, hO1⟩
  replace k0_h := Lib.hid (box_below k0_h.out hO1.below_)
  replace k1_h := Lib.hid (box_below k1_h.out hO1.below_)
  have hz2 := box_lt k1_h.out
  refine ⟨_, rfl, k0_h.out, ?_⟩
  simp only [Act.put, nS1, nS2, nS3]
  have hg2 : g1.map (fun h : Hd => h.2.2) = X := by rw [hg1, hX_h.out, hL'_h.out, List.map_map]; rfl
  have hgl : g1.length = m := by have := congrArg List.length hg2; rwa [List.length_map, hX_h.out, List.length_map, hLm_h.out] at this
  have hXl : X.length = m := by rw [hX_h.out, List.length_map, hLm_h.out]
  have hC := relation_any p (nb : Int) (na : Int) n A1 c1 g1 w2 hO1.rdr hfld_h.out (by have := hn_h.out; omega) (by rw [hg2, hgl, ← hXl]; exact hmat_h.out) (by omega) (by have := hn_h.out; omega)
  rw [hg2, ← hR_h.out, hgl] at hC
  have hB2 := below_trans hB1_h.out hO1.below_ hB1_h.out.size
  clear hg1 hg2 hgl hXl hO1; have hC_h := Lib.hid hC; have hB2_h := Lib.hid hB2; clear hC hB2
  refine' callH 8 (f := _) (args := _) rfl (by kernel_rfl) (by rfl) ?_ ?_; rotate_left 2; · (go_simp; first | done | with_reducible rfl | (constructor <;> with_reducible rfl))
  refine (hC_h.out).mono ?_
  rintro e w3 ⟨v3, fp3, rfl, hO3, hf3, hb3⟩
  replace k0_h := Lib.hid (box_below k0_h.out hb3)
  replace k1_h := Lib.hid (box_below k1_h.out hb3)
  refine ⟨_, rfl, k0_h.out, ?_⟩
  simp only [Act.put, nS1, nS2, nS3]
  obtain ⟨A3, n3, c3, rfl⟩ := hO3.shape
  have hB3 := below_trans hB2_h.out hb3 hB2_h.out.size
  have hBs := hB2_h.out.size
  have hz3 : w.heap.size + 1 < w3.heap.size := (Array.getElem?_eq_some_iff.1 k1_h.out).1
  obtain ⟨⟨d0, d1, d2⟩, g0, g1', g2'⟩ := box3 k1_h.out
  obtain ⟨s1, s2⟩ := set3 (a := .int .i64 (nb : Int)) (b := .int .i64 (na : Int)) (c := .slice A3 n3 c3) k1_h.out
  have k0' := box_keeps k0_h.out s2 (by omega)
  have hO4 := hO3.keeps s2 (fun k hk e => by have := hf3 k hk; omega)
  have hB4 := below_keeps hB3 s2 hB3.size (fun k hk => by omega)
  have hf4 := hf3.mono hBs
  clear hO3 hf3 hb3 hB3; have s1_h := Lib.hid s1; have s2_h := Lib.hid s2; have k0'_h := Lib.hid k0'; have hO4_h := Lib.hid hO4; have hB4_h := Lib.hid hB4; have hf4_h := Lib.hid hf4; clear s1 s2 k0' hO4 hB4 hf4
  refine oneH 9 rfl (by kernel_rfl) (by rfl) (fun K hK => ?_)
  go_simp
  refine hK _ _ k0'_h.out ?_
  clear hK K
  refine doneH (by kernel_rfl) ?_
  go_wp2_with (fail)
  refine bodyPost_ret (results_cell_row rfl _ _ (w.heap.size + 1) _ _ (0, 0) _ rfl s1_h.out Tryd.underlying43 rfl (by kernel_rfl)) rfl ?_
  exact ⟨_, rfl, fp3, hO4_h.out, hf4_h.out, hB4_h.out⟩
end Go.Proofs.YtahnhblodfdfhaaDoor
namespace Go.Proofs.YtahnhblodfdfhaaDoor
open Go.RowKit
def negTo (p : Int) (a : Nat) (u : List Int) (k : Nat) : List Int := u.mapIdx fun j x => if a ≤ j ∧ j < k then -x % p else x
def negV (p : Int) (a : Nat) (u : List Int) : List Int := negTo p a u u.length
@[simp] theorem negTo_length (p : Int) (a : Nat) (u : List Int) (k : Nat) : (negTo p a u k).length = u.length := by simp [negTo]
@[simp] theorem negV_length (p : Int) (a : Nat) (u : List Int) : (negV p a u).length = u.length := negTo_length _ _ _ _
theorem alloc3 (w : World) (o o' o'' : Obj) : ∃ W, W = ((w.alloc o).alloc o').alloc o'' ∧ Below w.heap.size w W ∧ W.heap[w.heap.size]? = some o ∧ W.heap[w.heap.size + 1]? = some o' ∧ W.heap[w.heap.size + 1 + 1]? = some o'' := by
  obtain ⟨W, hW, b0, k0, k1⟩ := alloc2 w o o'
  refine ⟨_, rfl, ?_, ?_, ?_, ?_⟩
  · rw [← hW]; exact below_trans b0 (below_alloc _ _) b0.size
  · rw [← hW]; exact box_below k0 (below_alloc _ _)
  · rw [← hW]; exact box_below k1 (below_alloc _ _)
  · have := heap_alloc_new ((w.alloc o).alloc o') o''
    rwa [World.size_alloc, World.size_alloc] at this
end Go.Proofs.YtahnhblodfdfhaaDoor
namespace Go.Proofs.YtahnhblodfdfhaaDoor
open Go.RowKit
def layTo (n : Nat) (f : Nat → Nat) (v : List Int) : Nat → List Int
  | 0 => List.replicate n 0
  | k + 1 => (layTo n f v k).set (f k) (v.getD k 0)
@[simp] theorem layTo_length (n : Nat) (f : Nat → Nat) (v : List Int) : ∀ k, (layTo n f v k).length = n
  | 0 => by simp [layTo]
  | k + 1 => by rw [layTo, List.length_set]; exact layTo_length n f v k
theorem layTo_hit {n : Nat} {f : Nat → Nat} {v : List Int} : ∀ {k j : Nat}, j < k → f j < n → (∀ i, i < k → j < i → f i ≠ f j) → (layTo n f v k).getD (f j) 0 = v.getD j 0
  | 0, j, h, _, _ => by omega
  | k + 1, j, h, hn, hi => by
    rw [layTo]
    by_cases e : j = k
    · subst e; rw [getD_set_self (by rw [layTo_length]; exact hn)]
    · rw [getD_set_ne' (hi k (by omega) (by omega))]
      exact layTo_hit (by omega) hn fun i h1 h2 => hi i (by omega) h2
theorem layTo_miss {n : Nat} {f : Nat → Nat} {v : List Int} {i : Nat} : ∀ {k : Nat}, (∀ j, j < k → f j ≠ i) → (layTo n f v k).getD i 0 = 0
  | 0, _ => by simp [layTo, List.getD, List.getElem?_replicate]; split <;> rfl
  | k + 1, h => by
    rw [layTo, getD_set_ne' (h k (by omega))]
    exact layTo_miss fun j hj => h j (by omega)
theorem layTo_res {p : Int} (hp : 0 < p) {n : Nat} {f : Nat → Nat} {v : List Int} (h : Res p v) : ∀ k, Res p (layTo n f v k)
  | 0 => fun x hx => by have := List.eq_of_mem_replicate hx; omega
  | k + 1 => fun x hx => by
    rw [layTo] at hx
    rcases List.mem_or_eq_of_mem_set hx with hx | rfl
    · exact layTo_res hp h k x hx
    · exact h.getD hp k
theorem ext_getD {xs ys : List Int} (hl : xs.length = ys.length) (h : ∀ i, i < xs.length → xs.getD i 0 = ys.getD i 0) : xs = ys := by
  apply List.ext_getElem hl
  intro i h1 h2
  have := h i h1
  rwa [getD_lt h1, getD_lt h2] at this
theorem getD_app (xs ys : List Int) (i : Nat) : (xs ++ ys).getD i 0 = if i < xs.length then xs.getD i 0 else ys.getD (i - xs.length) 0 := by
  simp only [List.getD, List.getElem?_append]
  split <;> rfl
theorem getD_take (xs : List Int) (a i : Nat) : (xs.take a).getD i 0 = if i < a then xs.getD i 0 else 0 := by
  simp only [List.getD, List.getElem?_take]
  split <;> rfl
theorem getD_drop (xs : List Int) (a i : Nat) : (xs.drop a).getD i 0 = xs.getD (a + i) 0 := by
  simp only [List.getD, List.getElem?_drop]
theorem getD_zeros (n i : Nat) : (List.replicate n (0 : Int)).getD i 0 = 0 := by
  simp [List.getD, List.getElem?_replicate]; split <;> rfl
def tA (a1 b1 j : Nat) : Nat := if j < a1 then j else b1 + j
def tB (a1 a2 b1 j : Nat) : Nat := if j < b1 then a1 + j else a1 + a2 + j
theorem tA_mono {a1 b1 i j : Nat} (h : i < j) : tA a1 b1 i < tA a1 b1 j := by unfold tA; split <;> split <;> omega
theorem tB_mono {a1 a2 b1 i j : Nat} (h : i < j) : tB a1 a2 b1 i < tB a1 a2 b1 j := by unfold tB; split <;> split <;> omega
def pA (a1 a2 b1 b2 : Nat) (u : List Int) : List Int := layTo (a1 + a2 + b1 + b2) (tA a1 b1) u (a1 + a2)
def pB (a1 a2 b1 b2 : Nat) (u : List Int) : List Int := layTo (a1 + a2 + b1 + b2) (tB a1 a2 b1) u (b1 + b2)
theorem pA_join {a1 a2 b1 b2 : Nat} {u : List Int} (hu : u.length = a1 + a2) : pA a1 a2 b1 b2 u = u.take a1 ++ (List.replicate b1 0 ++ (u.drop a1 ++ List.replicate b2 0)) := by
  unfold pA
  refine ext_getD (by simp; omega) fun i hi => ?_
  rw [layTo_length] at hi
  rw [getD_app, getD_app, getD_app, getD_take, getD_drop, getD_zeros, getD_zeros]
  simp only [List.length_take, List.length_drop, List.length_replicate, hu, show min a1 (a1 + a2) = a1 by omega, show a1 + a2 - a1 = a2 by omega]
  by_cases h1 : i < a1
  · have := layTo_hit (n := a1 + a2 + b1 + b2) (f := tA a1 b1) (v := u) (k := a1 + a2) (j := i) (by omega) (by unfold tA; split <;> omega) (fun j h2 h3 => by have := tA_mono (a1 := a1) (b1 := b1) h3; omega)
    rw [show tA a1 b1 i = i by unfold tA; rw [if_pos h1]] at this
    rw [this]; simp [h1]
  · by_cases h2 : i < a1 + b1
    · rw [layTo_miss (fun j hj => by unfold tA; split <;> omega)]
      simp [h1]; intro h3; omega
    · by_cases h3 : i < a1 + b1 + a2
      · have := layTo_hit (n := a1 + a2 + b1 + b2) (f := tA a1 b1) (v := u) (k := a1 + a2) (j := i - b1) (by omega) (by unfold tA; split <;> omega) (fun j h2 h3 => by have := tA_mono (a1 := a1) (b1 := b1) h3; omega)
        rw [show tA a1 b1 (i - b1) = i by unfold tA; rw [if_neg (by omega)]; omega] at this
        rw [this, if_neg h1, if_neg (by omega), if_pos (by omega)]
        congr 1; omega
      · rw [layTo_miss (fun j hj => by unfold tA; split <;> omega), if_neg h1, if_neg (by omega), if_neg (by omega)]
theorem pB_join {a1 a2 b1 b2 : Nat} {u : List Int} (hu : u.length = b1 + b2) : pB a1 a2 b1 b2 u = List.replicate a1 0 ++ (u.take b1 ++ (List.replicate a2 0 ++ u.drop b1)) := by
  unfold pB
  refine ext_getD (by simp; omega) fun i hi => ?_
  rw [layTo_length] at hi
  rw [getD_app, getD_app, getD_app, getD_take, getD_drop, getD_zeros, getD_zeros]
  simp only [List.length_take, List.length_replicate, hu, show min b1 (b1 + b2) = b1 by omega]
  by_cases h1 : i < a1
  · rw [layTo_miss (fun j hj => by unfold tB; split <;> omega), if_pos h1]
  · by_cases h2 : i < a1 + b1
    · have := layTo_hit (n := a1 + a2 + b1 + b2) (f := tB a1 a2 b1) (v := u) (k := b1 + b2) (j := i - a1) (by omega) (by unfold tB; split <;> omega) (fun j h2 h3 => by have := tB_mono (a1 := a1) (a2 := a2) (b1 := b1) h3; omega)
      rw [show tB a1 a2 b1 (i - a1) = i by unfold tB; rw [if_pos (by omega)]; omega] at this
      rw [this, if_neg h1, if_pos (by omega), if_pos (by omega)]
    · by_cases h3 : i < a1 + b1 + a2
      · rw [layTo_miss (fun j hj => by unfold tB; split <;> omega), if_neg h1, if_neg (by omega), if_pos (by omega)]
      · have := layTo_hit (n := a1 + a2 + b1 + b2) (f := tB a1 a2 b1) (v := u) (k := b1 + b2) (j := i - a1 - a2) (by omega) (by unfold tB; split <;> omega) (fun j h2 h3 => by have := tB_mono (a1 := a1) (a2 := a2) (b1 := b1) h3; omega)
        rw [show tB a1 a2 b1 (i - a1 - a2) = i by unfold tB; rw [if_neg (by omega)]; omega] at this
        rw [this, if_neg h1, if_neg (by omega), if_neg (by omega)]
        congr 1; omega
def tenRows (s t : Sys) : List (List Int) := s.2.2.map (pA s.1.toNat s.2.1.toNat t.1.toNat t.2.1.toNat) ++ t.2.2.map (pB s.1.toNat s.2.1.toNat t.1.toNat t.2.1.toNat)
def tenV (p : Int) (s t : Sys) : Sys := (s.1 + t.1, s.2.1 + t.2.1, redM p (s.1.toNat + s.2.1.toNat + t.1.toNat + t.2.1.toNat) (tenRows s t))
theorem ten_mat {p : Int} {s t : Sys} (hs : RelOk p s) (ht : RelOk p t) : Mat p (tenRows s t).length (s.1.toNat + s.2.1.toNat + t.1.toNat + t.2.1.toNat) (tenRows s t) := by
  have hpb := fieldB_bounds hs.fld
  refine ⟨rfl, fun v hv => ?_⟩
  rcases List.mem_append.1 hv with hv | hv
  · obtain ⟨u, hu, rfl⟩ := List.mem_map.1 hv
    exact ⟨layTo_length _ _ _ _, layTo_res (by omega) (hs.row hu).2 _⟩
  · obtain ⟨u, hu, rfl⟩ := List.mem_map.1 hv
    exact ⟨layTo_length _ _ _ _, layTo_res (by omega) (ht.row hu).2 _⟩
theorem tenRows_len (s t : Sys) : (tenRows s t).length = s.2.2.length + t.2.2.length := by unfold tenRows; rw [List.length_append, List.length_map, List.length_map]
set_option maxRecDepth 8000 in
set_option maxHeartbeats 2000000 in
theorem tensor1_any (ga gb a1 a2 b1 b2 : Nat) (U V : Value) (hU : U.oneCell' = true) (_hV : V.oneCell' = true) (B : Option Addr) (d n : Nat) (u : List Int) (w : World) (h : Sl w 3 1 B n d (ints u)) (hn : n = a1 + a2) (hn2 : a1 + a2 + b1 + b2 ≤ 1000) (hga : w.heap[ga]? = some (.cells #[.int .i64 a1, .int .i64 a2, U] tRel)) (hgb : w.heap[gb]? = some (.cells #[.int .i64 b1, .int .i64 b2, V] tRel)) :
    Calls Tryd.prog 179 #[.slice B n d, .pointer (some ⟨ga, 0, none⟩), .pointer (some ⟨gb, 0, none⟩)] w (RetI w (pA a1 a2 b1 b2 u)) := by
  have hul : u.length = n := by have := h.1; rw [ints_length] at this; omega
  have hres := pA_join (a1 := a1) (a2 := a2) (b1 := b1) (b2 := b2) (u := u) (by omega)
  have hl1 : (u.take a1).length = a1 := by rw [List.length_take]; omega
  have hl2 : (u.drop a1).length = a2 := by rw [List.length_drop]; omega
  have hF := And.intro hga hgb
  clear hga hgb; have hn_h := Lib.hid hn; have hF_h := Lib.hid hF; have h_h := Lib.hid h; have hul_h := Lib.hid hul; have hl1_h := Lib.hid hl1; have hl2_h := Lib.hid hl2; have hres_h := Lib.hid hres; clear hn hF h hul hl1 hl2 hres
  go_enter Tryd.func179, Tryd.ntmps179
  go_wp2_with (fail)
  have hbd : Below w.heap.size w w.drew := below_drewN (Below.refl _ _) 1
  refine beginH (fun w' => w'.heap[ga]? = some (.cells #[.int .i64 a1, .int .i64 a2, U] tRel) ∧ w'.heap[gb]? = some (.cells #[.int .i64 b1, .int .i64 b2, V] tRel)) (by kernel_rfl) ?_
  generalize w.drew = W0 at hbd ⊢
  have hF0 := And.intro (box_below hF_h.out.1 hbd) (box_below hF_h.out.2 hbd)
  have h0 := h_h.out.below hbd
  have hB0 := hbd
  clear hF_h h_h hbd; have hF0_h := Lib.hid hF0; have h0_h := Lib.hid h0; have hB0_h := Lib.hid hB0; clear hF0 h0 hB0
  refine takeH 0 (v := ?_) rfl (by kernel_rfl) (by kernel_rfl) (by kernel_rfl) (fun _ _ _ h => h) hF0_h.out (by rfl) (fun W' hW' => ?_) ?_; rotate_left; · (obtain ⟨⟨y0, y1, y2⟩, y3, y4, y5⟩ := box3 hW'.1; obtain ⟨⟨x0, x1, x2⟩, x3, x4, x5⟩ := box3 hW'.2; clear hW'; go_simp; first | done | with_reducible rfl)
  simp only [Act.put, nS1, nS2, nS3]
  refine takeH 1 (v := ?_) rfl (by kernel_rfl) (by kernel_rfl) (by kernel_rfl) (fun _ _ _ h => h) hF0_h.out (by rfl) (fun W' hW' => ?_) ?_; rotate_left; · (obtain ⟨⟨y0, y1, y2⟩, y3, y4, y5⟩ := box3 hW'.1; obtain ⟨⟨x0, x1, x2⟩, x3, x4, x5⟩ := box3 hW'.2; clear hW'; go_simp; first | done | with_reducible rfl)
  simp only [Act.put, nS1, nS2, nS3]
  refine takeH 3 (v := ?_) rfl (by kernel_rfl) (by kernel_rfl) (by kernel_rfl) (fun _ _ _ h => h) hF0_h.out (by rfl) (fun W' hW' => ?_) ?_; rotate_left; · (obtain ⟨⟨y0, y1, y2⟩, y3, y4, y5⟩ := box3 hW'.1; obtain ⟨⟨x0, x1, x2⟩, x3, x4, x5⟩ := box3 hW'.2; clear hW'; go_simp; first | done | with_reducible rfl)
  simp only [Act.put, nS1, nS2, nS3]
  refine takeH 4 (v := ?_) rfl (by kernel_rfl) (by kernel_rfl) (by kernel_rfl) (fun _ _ _ h => h) hF0_h.out (by rfl) (fun W' hW' => ?_) ?_; rotate_left; · (obtain ⟨⟨y0, y1, y2⟩, y3, y4, y5⟩ := box3 hW'.1; obtain ⟨⟨x0, x1, x2⟩, x3, x4, x5⟩ := box3 hW'.2; clear hW'; go_simp; first | done | with_reducible rfl)
  simp only [Act.put, nS1, nS2, nS3]
  refine takeH 6 (v := ?_) rfl (by kernel_rfl) (by kernel_rfl) (by kernel_rfl) (fun _ _ _ h => h) hF0_h.out (by rfl) (fun W' hW' => ?_) ?_; rotate_left; · (obtain ⟨⟨y0, y1, y2⟩, y3, y4, y5⟩ := box3 hW'.1; obtain ⟨⟨x0, x1, x2⟩, x3, x4, x5⟩ := box3 hW'.2; clear hW'; go_simp; first | done | with_reducible rfl)
  simp only [Act.put, nS1, nS2, nS3]
  refine takeH 7 (v := ?_) rfl (by kernel_rfl) (by kernel_rfl) (by kernel_rfl) (fun _ _ _ h => h) hF0_h.out (by rfl) (fun W' hW' => ?_) ?_; rotate_left; · (obtain ⟨⟨y0, y1, y2⟩, y3, y4, y5⟩ := box3 hW'.1; obtain ⟨⟨x0, x1, x2⟩, x3, x4, x5⟩ := box3 hW'.2; clear hW'; go_simp; first | done | with_reducible rfl)
  simp only [Act.put, nS1, nS2, nS3]
  refine takeH 9 (v := ?_) rfl (by kernel_rfl) (by kernel_rfl) (by kernel_rfl) (fun _ _ _ h => h) hF0_h.out (by rfl) (fun W' hW' => ?_) ?_; rotate_left; · (obtain ⟨⟨y0, y1, y2⟩, y3, y4, y5⟩ := box3 hW'.1; obtain ⟨⟨x0, x1, x2⟩, x3, x4, x5⟩ := box3 hW'.2; clear hW'; go_simp; first | done | with_reducible rfl)
  simp only [Act.put, nS1, nS2, nS3]
  refine takeH 10 (v := ?_) rfl (by kernel_rfl) (by kernel_rfl) (by kernel_rfl) (fun _ _ _ h => h) hF0_h.out (by rfl) (fun W' hW' => ?_) ?_; rotate_left; · (obtain ⟨⟨y0, y1, y2⟩, y3, y4, y5⟩ := box3 hW'.1; obtain ⟨⟨x0, x1, x2⟩, x3, x4, x5⟩ := box3 hW'.2; clear hW'; go_simp; first | done | with_reducible rfl)
  simp only [Act.put, nS1, nS2, nS3]
  refine' callH 2 (f := _) (args := _) rfl (by kernel_rfl) (by rfl) ?_ ?_; rotate_left 2; · (go_simp; first | done | with_reducible rfl | (constructor <;> with_reducible rfl))
  refine (first_any a1 (a2 : Int) U hU B d n u W0 h0_h.out (by have := hn_h.out; omega)).mono ?_
  rintro e W1 ⟨B0, rfl, hi0, hf0, hb0⟩
  have hF1 := And.intro (box_below hF0_h.out.1 hb0) (box_below hF0_h.out.2 hb0)
  refine ⟨_, rfl, hF1, ?_⟩
  simp only [Act.put, nS1, nS2, nS3]
  have h1 := h0_h.out.below hb0
  have hB1 := below_trans hB0_h.out hb0 hB0_h.out.size
  clear hf0 hb0; have hF1_h := Lib.hid hF1; have h1_h := Lib.hid h1; have hB1_h := Lib.hid hB1; have hi0_h := Lib.hid hi0; clear hF1 h1 hB1 hi0
  refine' callH 5 (f := _) (args := _) rfl (by kernel_rfl) (by rfl) ?_ ?_; rotate_left 2; · (go_simp; first | done | with_reducible rfl | (constructor <;> with_reducible rfl))
  refine (zeros_any b1 W1 (by omega)).mono ?_
  rintro e W2 ⟨B1, c1, rfl, hi1, hf1, hb1⟩
  rw [List.length_replicate]
  have hF2 := And.intro (box_below hF1_h.out.1 hb1) (box_below hF1_h.out.2 hb1)
  refine ⟨_, rfl, hF2, ?_⟩
  simp only [Act.put, nS1, nS2, nS3]
  have h2 := h1_h.out.below hb1
  have hB2 := below_trans hB1_h.out hb1 hB1_h.out.size
  have hi0 := hi0_h.out.below hb1
  clear hi0_h; clear hf1 hb1; have hF2_h := Lib.hid hF2; have h2_h := Lib.hid h2; have hB2_h := Lib.hid hB2; have hi0_h := Lib.hid hi0; have hi1_h := Lib.hid hi1; clear hF2 h2 hB2 hi0 hi1
  refine' callH 8 (f := _) (args := _) rfl (by kernel_rfl) (by rfl) ?_ ?_; rotate_left 2; · (go_simp; first | done | with_reducible rfl | (constructor <;> with_reducible rfl))
  refine (second_any a1 (a2 : Int) U hU B d n a2 u W2 h2_h.out (by have := hn_h.out; omega)).mono ?_
  rintro e W3 ⟨B2, c2, rfl, hi2, hf2, hb2⟩
  have hF3 := And.intro (box_below hF2_h.out.1 hb2) (box_below hF2_h.out.2 hb2)
  refine ⟨_, rfl, hF3, ?_⟩
  simp only [Act.put, nS1, nS2, nS3]
  have h3 := h2_h.out.below hb2
  have hB3 := below_trans hB2_h.out hb2 hB2_h.out.size
  have hi0 := hi0_h.out.below hb2
  clear hi0_h
  have hi1 := hi1_h.out.below hb2
  clear hi1_h; clear hf2 hb2; have hF3_h := Lib.hid hF3; have h3_h := Lib.hid h3; have hB3_h := Lib.hid hB3; have hi0_h := Lib.hid hi0; have hi1_h := Lib.hid hi1; have hi2_h := Lib.hid hi2; clear hF3 h3 hB3 hi0 hi1 hi2
  refine' callH 11 (f := _) (args := _) rfl (by kernel_rfl) (by rfl) ?_ ?_; rotate_left 2; · (go_simp; first | done | with_reducible rfl | (constructor <;> with_reducible rfl))
  refine (zeros_any b2 W3 (by omega)).mono ?_
  rintro e W4 ⟨B3, c3, rfl, hi3, hf3, hb3⟩
  rw [List.length_replicate]
  have hF4 := And.intro (box_below hF3_h.out.1 hb3) (box_below hF3_h.out.2 hb3)
  refine ⟨_, rfl, hF4, ?_⟩
  simp only [Act.put, nS1, nS2, nS3]
  have h4 := h3_h.out.below hb3
  have hB4 := below_trans hB3_h.out hb3 hB3_h.out.size
  have hi0 := hi0_h.out.below hb3
  clear hi0_h
  have hi1 := hi1_h.out.below hb3
  clear hi1_h
  have hi2 := hi2_h.out.below hb3
  clear hi2_h; clear hf3 hb3; have hF4_h := Lib.hid hF4; have h4_h := Lib.hid h4; have hB4_h := Lib.hid hB4; have hi0_h := Lib.hid hi0; have hi1_h := Lib.hid hi1; have hi2_h := Lib.hid hi2; have hi3_h := Lib.hid hi3; clear hF4 h4 hB4 hi0 hi1 hi2 hi3
  have hr0 : RdI W4 B0 (u.take a1) := fun j x hj => by
    obtain ⟨ad, hA, _, hc, _⟩ := hi0_h.out.cell (ints_get hj)
    exact ⟨ad, hA, hc⟩
  have hr1 : RdI W4 B1 (List.replicate b1 0) := hi1_h.out.rd
  have hr2 : RdI W4 B2 (u.drop a1) := fun j x hj => by
    obtain ⟨ad, hA, _, hc, _⟩ := hi2_h.out.cell (ints_get hj)
    exact ⟨ad, hA, hc⟩
  have hr3 : RdI W4 B3 (List.replicate b2 0) := hi3_h.out.rd
  have hlr := laid_rdr (w := W4) [(B0, d, u.take a1), (B1, c1, List.replicate b1 0), (B2, c2, u.drop a1), (B3, c3, List.replicate b2 0)] (fun x hx => by
    simp only [List.mem_cons, List.not_mem_nil, or_false] at hx
    rcases hx with rfl | rfl | rfl | rfl
    · exact hr0
    · exact hr1
    · exact hr2
    · exact hr3) (by unfold maxLen; simp)
  have e : (([(B0, d, u.take a1), (B1, c1, List.replicate b1 0), (B2, c2, u.drop a1), (B3, c3, List.replicate b2 0)] : List Hd).map Hd.val).toArray = #[.slice B0 a1 d, .slice B1 b1 c1, .slice B2 a2 c2, .slice B3 b2 c3] := by
    simp [Hd.val, hl1_h.out, hl2_h.out]
  rw [e] at hlr
  have hFn := And.intro (box_below hF4_h.out.1 (below_alloc W4 (.cells #[.slice B0 a1 d, .slice B1 b1 c1, .slice B2 a2 c2, .slice B3 b2 c3] 33))) (box_below hF4_h.out.2 (below_alloc W4 (.cells #[.slice B0 a1 d, .slice B1 b1 c1, .slice B2 a2 c2, .slice B3 b2 c3] 33)))
  have e2 : (([(B0, d, u.take a1), (B1, c1, List.replicate b1 0), (B2, c2, u.drop a1), (B3, c3, List.replicate b2 0)] : List Hd).map fun h : Hd => h.2.2).flatten = pA a1 a2 b1 b2 u := by rw [hres_h.out]; simp
  have hJ := joined_any (some ⟨W4.heap.size, 0, none⟩) 4 [(B0, d, u.take a1), (B1, c1, List.replicate b1 0), (B2, c2, u.drop a1), (B3, c3, List.replicate b2 0)] _ hlr (by simp) (by rw [e2, hres_h.out]; simp only [List.length_append, List.length_replicate, hl1_h.out, hl2_h.out]; omega)
  rw [e2] at hJ
  have hBn := below_trans hB4_h.out (below_alloc W4 (.cells #[.slice B0 a1 d, .slice B1 b1 c1, .slice B2 a2 c2, .slice B3 b2 c3] 33)) hB4_h.out.size
  clear hlr e e2 hr0 hr1 hr2 hr3; have hFn_h := Lib.hid hFn; have hJ_h := Lib.hid hJ; have hBn_h := Lib.hid hBn; clear hFn hJ hBn
  refine oneH 12 rfl (by kernel_rfl) (by rfl) (fun K hK => ?_)
  go_simp
  refine hK _ _ hFn_h.out ?_
  clear hK K
  refine' callH 13 (f := _) (args := _) rfl (by kernel_rfl) (by rfl) ?_ ?_; rotate_left 2; · (go_simp; first | done | with_reducible rfl | (constructor <;> with_reducible rfl))
  refine (hJ_h.out).mono ?_
  rintro e w4 ⟨A4, c4, rfl, hi4, hf4, hb4⟩
  have hFm := And.intro (box_below hFn_h.out.1 hb4) (box_below hFn_h.out.2 hb4)
  refine ⟨_, rfl, hFm, ?_⟩
  simp only [Act.put, nS1, nS2, nS3]
  have hret : RetI w (pA a1 a2 b1 b2 u) (.returned (.slice A4 (pA a1 a2 b1 b2 u).length c4)) w4 := ⟨A4, c4, rfl, hi4, hf4.mono hBn_h.out.size, below_trans hBn_h.out hb4 hBn_h.out.size⟩
  clear hi4 hf4 hb4; have hret_h := Lib.hid hret; have hFm_h := Lib.hid hFm; clear hret hFm
  refine takeH 14 (v := ?_) rfl (by kernel_rfl) (by kernel_rfl) (by kernel_rfl) (fun _ _ _ h => h) hFm_h.out (by rfl) (fun W' hW' => ?_) ?_; rotate_left; · (skip; clear hW'; go_simp; first | done | with_reducible rfl)
  simp only [Act.put, nS1, nS2, nS3]
  refine doneH (by kernel_rfl) ?_
  go_wp2_with (fail)
  go_ret
  exact hret_h.out
set_option maxRecDepth 8000 in
set_option maxHeartbeats 2000000 in
theorem tensor2_any (ga gb a1 a2 b1 b2 : Nat) (U V : Value) (_hU : U.oneCell' = true) (hV : V.oneCell' = true) (B : Option Addr) (d n : Nat) (u : List Int) (w : World) (h : Sl w 3 1 B n d (ints u)) (hn : n = b1 + b2) (hn2 : a1 + a2 + b1 + b2 ≤ 1000) (hga : w.heap[ga]? = some (.cells #[.int .i64 a1, .int .i64 a2, U] tRel)) (hgb : w.heap[gb]? = some (.cells #[.int .i64 b1, .int .i64 b2, V] tRel)) :
    Calls Tryd.prog 180 #[.slice B n d, .pointer (some ⟨ga, 0, none⟩), .pointer (some ⟨gb, 0, none⟩)] w (RetI w (pB a1 a2 b1 b2 u)) := by
  have hul : u.length = n := by have := h.1; rw [ints_length] at this; omega
  have hres := pB_join (a1 := a1) (a2 := a2) (b1 := b1) (b2 := b2) (u := u) (by omega)
  have hl1 : (u.take b1).length = b1 := by rw [List.length_take]; omega
  have hl2 : (u.drop b1).length = b2 := by rw [List.length_drop]; omega
  have hF := And.intro hga hgb
  clear hga hgb; have hn_h := Lib.hid hn; have hF_h := Lib.hid hF; have h_h := Lib.hid h; have hul_h := Lib.hid hul; have hl1_h := Lib.hid hl1; have hl2_h := Lib.hid hl2; have hres_h := Lib.hid hres; clear hn hF h hul hl1 hl2 hres
  go_enter Tryd.func180, Tryd.ntmps180
  go_wp2_with (fail)
  have hbd : Below w.heap.size w w.drew := below_drewN (Below.refl _ _) 1
  refine beginH (fun w' => w'.heap[ga]? = some (.cells #[.int .i64 a1, .int .i64 a2, U] tRel) ∧ w'.heap[gb]? = some (.cells #[.int .i64 b1, .int .i64 b2, V] tRel)) (by kernel_rfl) ?_
  generalize w.drew = W0 at hbd ⊢
  have hF0 := And.intro (box_below hF_h.out.1 hbd) (box_below hF_h.out.2 hbd)
  have h0 := h_h.out.below hbd
  have hB0 := hbd
  clear hF_h h_h hbd; have hF0_h := Lib.hid hF0; have h0_h := Lib.hid h0; have hB0_h := Lib.hid hB0; clear hF0 h0 hB0
  refine takeH 0 (v := ?_) rfl (by kernel_rfl) (by kernel_rfl) (by kernel_rfl) (fun _ _ _ h => h) hF0_h.out (by rfl) (fun W' hW' => ?_) ?_; rotate_left; · (obtain ⟨⟨y0, y1, y2⟩, y3, y4, y5⟩ := box3 hW'.1; obtain ⟨⟨x0, x1, x2⟩, x3, x4, x5⟩ := box3 hW'.2; clear hW'; go_simp; first | done | with_reducible rfl)
  simp only [Act.put, nS1, nS2, nS3]
  refine takeH 1 (v := ?_) rfl (by kernel_rfl) (by kernel_rfl) (by kernel_rfl) (fun _ _ _ h => h) hF0_h.out (by rfl) (fun W' hW' => ?_) ?_; rotate_left; · (obtain ⟨⟨y0, y1, y2⟩, y3, y4, y5⟩ := box3 hW'.1; obtain ⟨⟨x0, x1, x2⟩, x3, x4, x5⟩ := box3 hW'.2; clear hW'; go_simp; first | done | with_reducible rfl)
  simp only [Act.put, nS1, nS2, nS3]
  refine takeH 3 (v := ?_) rfl (by kernel_rfl) (by kernel_rfl) (by kernel_rfl) (fun _ _ _ h => h) hF0_h.out (by rfl) (fun W' hW' => ?_) ?_; rotate_left; · (obtain ⟨⟨y0, y1, y2⟩, y3, y4, y5⟩ := box3 hW'.1; obtain ⟨⟨x0, x1, x2⟩, x3, x4, x5⟩ := box3 hW'.2; clear hW'; go_simp; first | done | with_reducible rfl)
  simp only [Act.put, nS1, nS2, nS3]
  refine takeH 4 (v := ?_) rfl (by kernel_rfl) (by kernel_rfl) (by kernel_rfl) (fun _ _ _ h => h) hF0_h.out (by rfl) (fun W' hW' => ?_) ?_; rotate_left; · (obtain ⟨⟨y0, y1, y2⟩, y3, y4, y5⟩ := box3 hW'.1; obtain ⟨⟨x0, x1, x2⟩, x3, x4, x5⟩ := box3 hW'.2; clear hW'; go_simp; first | done | with_reducible rfl)
  simp only [Act.put, nS1, nS2, nS3]
  refine takeH 6 (v := ?_) rfl (by kernel_rfl) (by kernel_rfl) (by kernel_rfl) (fun _ _ _ h => h) hF0_h.out (by rfl) (fun W' hW' => ?_) ?_; rotate_left; · (obtain ⟨⟨y0, y1, y2⟩, y3, y4, y5⟩ := box3 hW'.1; obtain ⟨⟨x0, x1, x2⟩, x3, x4, x5⟩ := box3 hW'.2; clear hW'; go_simp; first | done | with_reducible rfl)
  simp only [Act.put, nS1, nS2, nS3]
  refine takeH 7 (v := ?_) rfl (by kernel_rfl) (by kernel_rfl) (by kernel_rfl) (fun _ _ _ h => h) hF0_h.out (by rfl) (fun W' hW' => ?_) ?_; rotate_left; · (obtain ⟨⟨y0, y1, y2⟩, y3, y4, y5⟩ := box3 hW'.1; obtain ⟨⟨x0, x1, x2⟩, x3, x4, x5⟩ := box3 hW'.2; clear hW'; go_simp; first | done | with_reducible rfl)
  simp only [Act.put, nS1, nS2, nS3]
  refine takeH 9 (v := ?_) rfl (by kernel_rfl) (by kernel_rfl) (by kernel_rfl) (fun _ _ _ h => h) hF0_h.out (by rfl) (fun W' hW' => ?_) ?_; rotate_left; · (obtain ⟨⟨y0, y1, y2⟩, y3, y4, y5⟩ := box3 hW'.1; obtain ⟨⟨x0, x1, x2⟩, x3, x4, x5⟩ := box3 hW'.2; clear hW'; go_simp; first | done | with_reducible rfl)
  simp only [Act.put, nS1, nS2, nS3]
  refine takeH 10 (v := ?_) rfl (by kernel_rfl) (by kernel_rfl) (by kernel_rfl) (fun _ _ _ h => h) hF0_h.out (by rfl) (fun W' hW' => ?_) ?_; rotate_left; · (obtain ⟨⟨y0, y1, y2⟩, y3, y4, y5⟩ := box3 hW'.1; obtain ⟨⟨x0, x1, x2⟩, x3, x4, x5⟩ := box3 hW'.2; clear hW'; go_simp; first | done | with_reducible rfl)
  simp only [Act.put, nS1, nS2, nS3]
  refine' callH 2 (f := _) (args := _) rfl (by kernel_rfl) (by rfl) ?_ ?_; rotate_left 2; · (go_simp; first | done | with_reducible rfl | (constructor <;> with_reducible rfl))
  refine (zeros_any a1 W0 (by omega)).mono ?_
  rintro e W1 ⟨B0, c0, rfl, hi0, hf0, hb0⟩
  rw [List.length_replicate]
  have hF1 := And.intro (box_below hF0_h.out.1 hb0) (box_below hF0_h.out.2 hb0)
  refine ⟨_, rfl, hF1, ?_⟩
  simp only [Act.put, nS1, nS2, nS3]
  have h1 := h0_h.out.below hb0
  have hB1 := below_trans hB0_h.out hb0 hB0_h.out.size
  clear hf0 hb0; have hF1_h := Lib.hid hF1; have h1_h := Lib.hid h1; have hB1_h := Lib.hid hB1; have hi0_h := Lib.hid hi0; clear hF1 h1 hB1 hi0
  refine' callH 5 (f := _) (args := _) rfl (by kernel_rfl) (by rfl) ?_ ?_; rotate_left 2; · (go_simp; first | done | with_reducible rfl | (constructor <;> with_reducible rfl))
  refine (first_any b1 (b2 : Int) V hV B d n u W1 h1_h.out (by have := hn_h.out; omega)).mono ?_
  rintro e W2 ⟨B1, rfl, hi1, hf1, hb1⟩
  have hF2 := And.intro (box_below hF1_h.out.1 hb1) (box_below hF1_h.out.2 hb1)
  refine ⟨_, rfl, hF2, ?_⟩
  simp only [Act.put, nS1, nS2, nS3]
  have h2 := h1_h.out.below hb1
  have hB2 := below_trans hB1_h.out hb1 hB1_h.out.size
  have hi0 := hi0_h.out.below hb1
  clear hi0_h; clear hf1 hb1; have hF2_h := Lib.hid hF2; have h2_h := Lib.hid h2; have hB2_h := Lib.hid hB2; have hi0_h := Lib.hid hi0; have hi1_h := Lib.hid hi1; clear hF2 h2 hB2 hi0 hi1
  refine' callH 8 (f := _) (args := _) rfl (by kernel_rfl) (by rfl) ?_ ?_; rotate_left 2; · (go_simp; first | done | with_reducible rfl | (constructor <;> with_reducible rfl))
  refine (zeros_any a2 W2 (by omega)).mono ?_
  rintro e W3 ⟨B2, c2, rfl, hi2, hf2, hb2⟩
  rw [List.length_replicate]
  have hF3 := And.intro (box_below hF2_h.out.1 hb2) (box_below hF2_h.out.2 hb2)
  refine ⟨_, rfl, hF3, ?_⟩
  simp only [Act.put, nS1, nS2, nS3]
  have h3 := h2_h.out.below hb2
  have hB3 := below_trans hB2_h.out hb2 hB2_h.out.size
  have hi0 := hi0_h.out.below hb2
  clear hi0_h
  have hi1 := hi1_h.out.below hb2
  clear hi1_h; clear hf2 hb2; have hF3_h := Lib.hid hF3; have h3_h := Lib.hid h3; have hB3_h := Lib.hid hB3; have hi0_h := Lib.hid hi0; have hi1_h := Lib.hid hi1; have hi2_h := Lib.hid hi2; clear hF3 h3 hB3 hi0 hi1 hi2
  refine' callH 11 (f := _) (args := _) rfl (by kernel_rfl) (by rfl) ?_ ?_; rotate_left 2; · (go_simp; first | done | with_reducible rfl | (constructor <;> with_reducible rfl))
  refine (second_any b1 (b2 : Int) V hV B d n b2 u W3 h3_h.out (by have := hn_h.out; omega)).mono ?_
  rintro e W4 ⟨B3, c3, rfl, hi3, hf3, hb3⟩
  have hF4 := And.intro (box_below hF3_h.out.1 hb3) (box_below hF3_h.out.2 hb3)
  refine ⟨_, rfl, hF4, ?_⟩
  simp only [Act.put, nS1, nS2, nS3]
  have h4 := h3_h.out.below hb3
  have hB4 := below_trans hB3_h.out hb3 hB3_h.out.size
  have hi0 := hi0_h.out.below hb3
  clear hi0_h
  have hi1 := hi1_h.out.below hb3
  clear hi1_h
  have hi2 := hi2_h.out.below hb3
  clear hi2_h; clear hf3 hb3; have hF4_h := Lib.hid hF4; have h4_h := Lib.hid h4; have hB4_h := Lib.hid hB4; have hi0_h := Lib.hid hi0; have hi1_h := Lib.hid hi1; have hi2_h := Lib.hid hi2; have hi3_h := Lib.hid hi3; clear hF4 h4 hB4 hi0 hi1 hi2 hi3
  have hr0 : RdI W4 B0 (List.replicate a1 0) := hi0_h.out.rd
  have hr1 : RdI W4 B1 (u.take b1) := fun j x hj => by
    obtain ⟨ad, hA, _, hc, _⟩ := hi1_h.out.cell (ints_get hj)
    exact ⟨ad, hA, hc⟩
  have hr2 : RdI W4 B2 (List.replicate a2 0) := hi2_h.out.rd
  have hr3 : RdI W4 B3 (u.drop b1) := fun j x hj => by
    obtain ⟨ad, hA, _, hc, _⟩ := hi3_h.out.cell (ints_get hj)
    exact ⟨ad, hA, hc⟩
  have hlr := laid_rdr (w := W4) [(B0, c0, List.replicate a1 0), (B1, d, u.take b1), (B2, c2, List.replicate a2 0), (B3, c3, u.drop b1)] (fun x hx => by
    simp only [List.mem_cons, List.not_mem_nil, or_false] at hx
    rcases hx with rfl | rfl | rfl | rfl
    · exact hr0
    · exact hr1
    · exact hr2
    · exact hr3) (by unfold maxLen; simp)
  have e : (([(B0, c0, List.replicate a1 0), (B1, d, u.take b1), (B2, c2, List.replicate a2 0), (B3, c3, u.drop b1)] : List Hd).map Hd.val).toArray = #[.slice B0 a1 c0, .slice B1 b1 d, .slice B2 a2 c2, .slice B3 b2 c3] := by
    simp [Hd.val, hl1_h.out, hl2_h.out]
  rw [e] at hlr
  have hFn := And.intro (box_below hF4_h.out.1 (below_alloc W4 (.cells #[.slice B0 a1 c0, .slice B1 b1 d, .slice B2 a2 c2, .slice B3 b2 c3] 33))) (box_below hF4_h.out.2 (below_alloc W4 (.cells #[.slice B0 a1 c0, .slice B1 b1 d, .slice B2 a2 c2, .slice B3 b2 c3] 33)))
  have e2 : (([(B0, c0, List.replicate a1 0), (B1, d, u.take b1), (B2, c2, List.replicate a2 0), (B3, c3, u.drop b1)] : List Hd).map fun h : Hd => h.2.2).flatten = pB a1 a2 b1 b2 u := by rw [hres_h.out]; simp
  have hJ := joined_any (some ⟨W4.heap.size, 0, none⟩) 4 [(B0, c0, List.replicate a1 0), (B1, d, u.take b1), (B2, c2, List.replicate a2 0), (B3, c3, u.drop b1)] _ hlr (by simp) (by rw [e2, hres_h.out]; simp only [List.length_append, List.length_replicate, hl1_h.out, hl2_h.out]; omega)
  rw [e2] at hJ
  have hBn := below_trans hB4_h.out (below_alloc W4 (.cells #[.slice B0 a1 c0, .slice B1 b1 d, .slice B2 a2 c2, .slice B3 b2 c3] 33)) hB4_h.out.size
  clear hlr e e2 hr0 hr1 hr2 hr3; have hFn_h := Lib.hid hFn; have hJ_h := Lib.hid hJ; have hBn_h := Lib.hid hBn; clear hFn hJ hBn
  refine oneH 12 rfl (by kernel_rfl) (by rfl) (fun K hK => ?_)
  go_simp
  refine hK _ _ hFn_h.out ?_
  clear hK K
  refine' callH 13 (f := _) (args := _) rfl (by kernel_rfl) (by rfl) ?_ ?_; rotate_left 2; · (go_simp; first | done | with_reducible rfl | (constructor <;> with_reducible rfl))
  refine (hJ_h.out).mono ?_
  rintro e w4 ⟨A4, c4, rfl, hi4, hf4, hb4⟩
  have hFm := And.intro (box_below hFn_h.out.1 hb4) (box_below hFn_h.out.2 hb4)
  refine ⟨_, rfl, hFm, ?_⟩
  simp only [Act.put, nS1, nS2, nS3]
  have hret : RetI w (pB a1 a2 b1 b2 u) (.returned (.slice A4 (pB a1 a2 b1 b2 u).length c4)) w4 := ⟨A4, c4, rfl, hi4, hf4.mono hBn_h.out.size, below_trans hBn_h.out hb4 hBn_h.out.size⟩
  clear hi4 hf4 hb4; have hret_h := Lib.hid hret; have hFm_h := Lib.hid hFm; clear hret hFm
  refine takeH 14 (v := ?_) rfl (by kernel_rfl) (by kernel_rfl) (by kernel_rfl) (fun _ _ _ h => h) hFm_h.out (by rfl) (fun W' hW' => ?_) ?_; rotate_left; · (skip; clear hW'; go_simp; first | done | with_reducible rfl)
  simp only [Act.put, nS1, nS2, nS3]
  refine doneH (by kernel_rfl) ?_
  go_wp2_with (fail)
  go_ret
  exact hret_h.out
set_option maxRecDepth 8000 in
set_option maxHeartbeats 1000000 in
theorem each2_any (F : FuncId) (first cap : Array Value) (g : List Int → List Int) (a b : Int) (A : Option Addr) (c : Nat) (hs : List Hd) (w : World) (hR : RdR w A hs) (hI : ∀ x, x ∈ hs → IS w x.1 x.2.1 x.2.2) (hl : hs.length ≤ 1048576) (hE : ∀ (args : Array Value) (w : World), (callFunc F args).run Tryd.prog w = .ok (.enter F args) w)
    (hF : ∀ x, x ∈ hs → ∀ W', Below w.heap.size w W' → Calls Tryd.prog F (first.push (.slice x.1 x.2.2.length x.2.1) ++ cap) W' fun e w'' => ∃ B c', e = .returned (.slice B (g x.2.2).length c') ∧ IS w'' B c' (g x.2.2) ∧ (∀ b, b ∈ fpA B → b ∈ fpA x.1 ∨ W'.heap.size ≤ b) ∧ Below W'.heap.size W' w'') :
    Calls Tryd.prog 124 #[.agg #[.int .i64 a, .int .i64 b, .slice A hs.length c], .func (.func F) first cap] w fun e w' => ∃ A' c' gs, e = .returned (.slice A' hs.length c') ∧ gs.map (fun h : Hd => h.2.2) = hs.map (fun h : Hd => g h.2.2) ∧ RdO w w' A' c' gs ∧ (∀ x, x ∈ gs → ∀ b, b ∈ fpA x.1 → b ∈ fpR hs ∨ w.heap.size ≤ b) := by
  obtain ⟨m, hm⟩ : ∃ m, m = hs.length := ⟨_, rfl⟩
  rw [← hm] at hl ⊢
  obtain ⟨W, hW, b0, k0⟩ := alloc_box w (.cells #[.int .i64 a, .int .i64 b, .slice A m c] tRel)
  obtain ⟨⟨c0, c1, c2⟩, f0, f1, f2⟩ := box3 k0
  have hO0 := RdO.start w W b0
  have hz0 := (Array.getElem?_eq_some_iff.1 k0).1
  have hm_h := Lib.hid hm; have hF_h := Lib.hid hF; have hI_h := Lib.hid hI; have hR_h := Lib.hid hR; have k0_h := Lib.hid k0; have b0_h := Lib.hid b0; have hO0_h := Lib.hid hO0; have hE_h := Lib.hid hE; clear hm hF hI hR k0 b0 hO0 hE
  go_enter Tryd.func124, Tryd.ntmps124
  go_upto_region 1 with (fail)
  rw [← hW]
  clear hW
  go_wp2_with (fail)
  clear c0 c1 c2 f0 f1 f2
  go_loopw [12, 5] (fun i v wr => ∃ (k : Nat) (A' : Option Addr) (c' : Nat) (gs : List Hd), k ≤ m ∧ i = .int .i64 k ∧ v = .slice A' k c' ∧ gs.length = k ∧ gs.map (fun h : Hd => h.2.2) = (hs.take k).map (fun h : Hd => g h.2.2) ∧ RdO w wr A' c' gs ∧ (∀ x, x ∈ gs → ∀ b, b ∈ fpA x.1 → b ∈ fpR hs ∨ w.heap.size ≤ b)) (fun i _ _ => m - (intOf i).toNat)
  case atStart => exact ⟨0, _, 0, [], Nat.zero_le _, rfl, rfl, rfl, rfl, hO0_h.out, fun x hx => (by cases hx)⟩
  case round =>
    obtain ⟨k, A', c', gs, hk, rfl, rfl, hgl, hgm, hO, hext⟩ := hrel
    by_cases hlt : k < m
    · obtain ⟨x, hx⟩ : ∃ x, hs[k]? = some x := ⟨_, List.getElem?_eq_getElem (by rw [← hm_h.out]; exact hlt)⟩
      obtain ⟨ad, rfl, hc⟩ := (hR_h.out.below hO.below_).1 k x hx
      obtain ⟨B, d, l⟩ := x
      have hxm := List.mem_of_getElem? hx
      have hC := hF_h.out _ hxm wr hO.below_
      have hBlt := (hI_h.out _ hxm).lt
      have hc' : wr.cell? (ad.add k) = some (.slice B l.length d) := hc
      obtain ⟨q, hq⟩ : ∃ q, q = l.length := ⟨_, rfl⟩
      obtain ⟨r, hr⟩ : ∃ r, r = (g l).length := ⟨_, rfl⟩
      simp only [← hq, ← hr] at hC
      rw [← hq] at hc'
      have hkI : (k : Int) < (m : Int) := by omega
      clear hc hxm; have hgl_h := Lib.hid hgl; have hgm_h := Lib.hid hgm; have hO_h := Lib.hid hO; have hC_h := Lib.hid hC; have hq_h := Lib.hid hq; have hr_h := Lib.hid hr; have hx_h := Lib.hid hx; have hBlt_h := Lib.hid hBlt; have hext_h := Lib.hid hext; clear hgl hgm hO hC hq hr hx hBlt hext
      have hE1 := hE_h.out (first.push (.slice B q d) ++ cap) wr
      go_wp2_with (fail)
      refine (hC_h.out).mono ?_
      rintro e w1 ⟨B1, d1, rfl, hI1, hfp1, hb1⟩
      have hsl : Sl (w1.alloc (.cells #[.slice B1 r d1] 33)) 33 1 A' k c' (gs.map Hd.val) := by
        have := (hO_h.out.sl.below hb1).alloc (.cells #[.slice B1 r d1] 33)
        rwa [hgl_h.out] at this
      clear hc' hE1; have hI1_h := Lib.hid hI1; have hfp1_h := Lib.hid hfp1; have hb1_h := Lib.hid hb1; have hsl_h := Lib.hid hsl; clear hI1 hfp1 hb1 hsl
      go_wp2_with (at_builtin; refine wpList_append_Sl _ rfl _ _ _ rfl 33 Tryd.underlying22 info_ints rfl (by omega) rfl (hsl_h.out) rfl (news := [.slice B1 r d1]) rfl (Sl.rdc (Sl.laid w1 33 1 1 #[.slice B1 r d1] (by unfold maxLen; omega) rfl)) (by intro u hu; simp at hu; subst hu; rfl) (by unfold maxLen; omega) (by omega) ?_; intro A3 c3 w3 hsA3 hA3 hkA3)
      have hal : Below w1.heap.size w1 (w1.alloc (.cells #[.slice B1 r d1] 33)) := below_alloc _ _
      have hO2 := hO_h.out.snoc (w1 := w1.alloc (.cells #[.slice B1 r d1] 33)) (below_trans hb1_h.out hal hb1_h.out.size) (x := (B1, d1, g l)) (hI1_h.out.below hal) (fun b hb hb' => by
        have h1 := hO_h.out.sl.lt b hb'
        have h2 := hO_h.out.new b hb'
        rcases hfp1_h.out b hb with h3 | h3
        · have := hBlt_h.out b h3; omega
        · omega) (by rw [hgl_h.out]) (by show Sl w3 _ 1 A3 (k + 1) c3 (gs.map Hd.val ++ [.slice B1 (g l).length d1]); rw [← hr_h.out]; exact hsA3) hA3 hkA3
      clear hsA3 hA3 hkA3
      have hxm2 := List.mem_of_getElem? hx_h.out
      have hext2 : ∀ x, x ∈ gs ++ [((B1, d1, g l) : Hd)] → ∀ b, b ∈ fpA x.1 → b ∈ fpR hs ∨ w.heap.size ≤ b := fun x hx b hb => by
        rcases List.mem_append.1 hx with hx | hx
        · exact hext_h.out x hx b hb
        · obtain rfl := List.mem_singleton.1 hx
          rcases hfp1_h.out b hb with h3 | h3
          · exact .inl (mem_fpR.2 ⟨_, hxm2, h3⟩)
          · right; have := hO_h.out.below_.size; omega
      have hext2_h := Lib.hid hext2; clear hext2 hxm2; have hO2_h := Lib.hid hO2; clear hO2
      go_roundw
      case rel => exact ⟨k + 1, A3, c3, gs ++ [(B1, d1, g l)], by omega, by go_num, rfl, by rw [List.length_append, hgl_h.out]; rfl, by rw [List.map_append, hgm_h.out, List.take_add_one, hx_h.out]; simp, hO2_h.out, hext2_h.out⟩
      case measure => simp [intOf]; omega
    · obtain rfl : k = m := by omega
      have hgm2 : gs.map (fun h : Hd => h.2.2) = hs.map (fun h : Hd => g h.2.2) := by rw [hgm, List.take_of_length_le (by rw [← hm_h.out]; exact Nat.le_refl _)]
      clear hgm; have hgl_h := Lib.hid hgl; have hgm2_h := Lib.hid hgm2; have hO_h := Lib.hid hO; have hext_h := Lib.hid hext; clear hgl hgm2 hO hext
      go_wp2_with (fail)
      go_ret
      exact ⟨A', c', gs, rfl, hgm2_h.out, hO_h.out, hext_h.out⟩
set_option maxRecDepth 100000 in
set_option maxHeartbeats 8000000 in
theorem tensor_any (p : Int) {v v' : Value} {s t : Sys} {fp fp' : List Nat} (w : World) (ha : OwSys w v s fp) (hb : OwSys w v' t fp') (hs : RelOk p s) (ht : RelOk p t) (hsum : s.1 + t.1 + s.2.1 + t.2.1 ≤ 24) :
    Calls Tryd.prog 151 #[.int .i64 p, v, v'] w fun e w' => ∃ v' fp', e = .returned v' ∧ OwSys w' v' (tenV p s t) fp' ∧ FreshL w.heap.size fp' ∧ Below w.heap.size w w' := by
  have hmat0 := ten_mat hs ht
  have htl := tenRows_len s t
  obtain ⟨Aa, ca, ga, rfl, hLa0, hOa, rfl⟩ := ha
  obtain ⟨ia, ja, La⟩ := s
  have ha0 : 0 ≤ ia := hs.lo
  have ha1 : 0 ≤ ja := hs.hi
  have ha2 : ia + ja ≤ 24 := hs.sum
  have hflda : fieldB p = true := hs.fld
  have hrowa : ∀ u, u ∈ La → (u.length : Int) = ia + ja ∧ Res p u := fun u hu => hs.row hu
  have hlena : (La.length : Int) ≤ ia + ja := hs.len
  clear hs
  obtain ⟨a1, rfl⟩ : ∃ n : Nat, ia = (n : Int) := ⟨ia.toNat, by omega⟩
  obtain ⟨a2, rfl⟩ : ∃ n : Nat, ja = (n : Int) := ⟨ja.toNat, by omega⟩
  have hLa : La = ga.map (fun h : Hd => h.2.2) := hLa0
  clear hLa0
  obtain ⟨ma, hma⟩ : ∃ m, m = ga.length := ⟨_, rfl⟩
  have hLma : La.length = ma := by rw [hLa, List.length_map, hma]
  have hma24 : (ma : Int) ≤ 24 := by have := hlena; rw [hLma] at this; omega
  obtain ⟨Ab, cb, gb, rfl, hLb0, hOb, rfl⟩ := hb
  obtain ⟨ib, jb, Lb⟩ := t
  have hb0 : 0 ≤ ib := ht.lo
  have hb1 : 0 ≤ jb := ht.hi
  have hb2 : ib + jb ≤ 24 := ht.sum
  have hfldb : fieldB p = true := ht.fld
  have hrowb : ∀ u, u ∈ Lb → (u.length : Int) = ib + jb ∧ Res p u := fun u hu => ht.row hu
  have hlenb : (Lb.length : Int) ≤ ib + jb := ht.len
  clear ht
  obtain ⟨b1, rfl⟩ : ∃ n : Nat, ib = (n : Int) := ⟨ib.toNat, by omega⟩
  obtain ⟨b2, rfl⟩ : ∃ n : Nat, jb = (n : Int) := ⟨jb.toNat, by omega⟩
  have hLb : Lb = gb.map (fun h : Hd => h.2.2) := hLb0
  clear hLb0
  obtain ⟨mb, hmb⟩ : ∃ m, m = gb.length := ⟨_, rfl⟩
  have hLmb : Lb.length = mb := by rw [hLb, List.length_map, hmb]
  have hmb24 : (mb : Int) ≤ 24 := by have := hlenb; rw [hLmb] at this; omega
  obtain ⟨N, hN⟩ : ∃ N, N = a1 + a2 + b1 + b2 := ⟨_, rfl⟩
  obtain ⟨lf, hlf0⟩ : ∃ lf, lf = a1 + b1 := ⟨_, rfl⟩
  obtain ⟨rt, hrt0⟩ : ∃ rt, rt = a2 + b2 := ⟨_, rfl⟩
  obtain ⟨X, hX⟩ : ∃ X, X = La.map (pA a1 a2 b1 b2) ++ Lb.map (pB a1 a2 b1 b2) := ⟨_, rfl⟩
  have hmat : Mat p X.length N X := by rw [hX, hN]; exact hmat0
  obtain ⟨R, hR⟩ : ∃ R, R = redM p N X := ⟨_, rfl⟩
  have hsum' : (a1 : Int) + (b1 : Int) + (a2 : Int) + (b2 : Int) ≤ 24 := hsum
  have hlf : (a1 : Int) + (b1 : Int) = (lf : Int) := by omega
  have hrt : (a2 : Int) + (b2 : Int) = (rt : Int) := by omega
  have hNI : (lf : Int) + (rt : Int) = (N : Int) := by omega
  have hgoal : tenV p ((a1 : Int), (a2 : Int), La) ((b1 : Int), (b2 : Int), Lb) = ((lf : Int), (rt : Int), R) := by
    rw [← hlf, ← hrt, hR, hX, hN]; rfl
  rw [hgoal]
  have hN24 : N ≤ 24 := by omega
  have hlf24 : (lf : Int) ≤ 24 := by omega
  have hrt24 : (rt : Int) ≤ 24 := by omega
  have hb24a : (a1 : Int) ≤ 24 := by omega
  have hb24b : (a2 : Int) ≤ 24 := by omega
  have hb24c : (b1 : Int) ≤ 24 := by omega
  show Calls Tryd.prog _ #[.int .i64 p, .agg #[.int .i64 (a1 : Int), .int .i64 (a2 : Int), .slice Aa ga.length ca], .agg #[.int .i64 (b1 : Int), .int .i64 (b2 : Int), .slice Ab gb.length cb]] w _
  rw [← hma, ← hmb]
  obtain ⟨W, hW, bW, k0, k1, k2⟩ := alloc3 w (.cells #[.int .i64 (a1 : Int), .int .i64 (a2 : Int), .slice Aa ma ca] tRel) (.cells #[.int .i64 (b1 : Int), .int .i64 (b2 : Int), .slice Ab mb cb] tRel) (.cells #[.int .i64 0, .int .i64 0, .slice none 0 0] tRel)
  have hOa := hOa.below bW
  have hOb := hOb.below bW
  obtain ⟨⟨c0, c1, c2⟩, f0, f1, f2⟩ := box3 k0
  have hga : ∀ x, x ∈ ga → x.2.2.length = a1 + a2 := fun x hx => by have := (hrowa _ (by rw [hLa]; exact List.mem_map_of_mem hx)).1; omega
  have hgb : ∀ x, x ∈ gb → x.2.2.length = b1 + b2 := fun x hx => by have := (hrowb _ (by rw [hLb]; exact List.mem_map_of_mem hx)).1; omega
  have hEa := fun (W' : World) (hb : Below W.heap.size W W') (hk0 : W'.heap[w.heap.size]? = some (.cells #[.int .i64 (a1 : Int), .int .i64 (a2 : Int), .slice Aa ma ca] tRel)) (hk1 : W'.heap[w.heap.size + 1]? = some (.cells #[.int .i64 (b1 : Int), .int .i64 (b2 : Int), .slice Ab mb cb] tRel)) => each2_any 179 #[] #[.pointer (some ⟨w.heap.size, 0, none⟩), .pointer (some ⟨w.heap.size + 1, 0, none⟩)] (pA a1 a2 b1 b2) (a1 : Int) (a2 : Int) Aa ca ga W' (hOa.below hb).rd (hOa.below hb).rows (by omega) (fun _ _ => rfl) (fun x hx W2 hb2 => by
    have hI : Sl W2 3 1 x.1 x.2.2.length x.2.1 (ints x.2.2) := ((hOa.below hb).rows x hx).below hb2
    have := tensor1_any w.heap.size (w.heap.size + 1) a1 a2 b1 b2 (.slice Aa ma ca) (.slice Ab mb cb) rfl rfl x.1 x.2.1 x.2.2.length x.2.2 W2 hI (hga x hx) (by omega) (box_below hk0 hb2) (box_below hk1 hb2)
    refine this.mono ?_
    rintro e w4 ⟨A4, c4, rfl, hi4, hf4, hb4⟩
    exact ⟨A4, c4, rfl, hi4, fun b hb => .inr (hf4 b hb), hb4⟩)
  have hEb := fun (W' : World) (hb : Below W.heap.size W W') (hk0 : W'.heap[w.heap.size]? = some (.cells #[.int .i64 (a1 : Int), .int .i64 (a2 : Int), .slice Aa ma ca] tRel)) (hk1 : W'.heap[w.heap.size + 1]? = some (.cells #[.int .i64 (b1 : Int), .int .i64 (b2 : Int), .slice Ab mb cb] tRel)) => each2_any 180 #[] #[.pointer (some ⟨w.heap.size, 0, none⟩), .pointer (some ⟨w.heap.size + 1, 0, none⟩)] (pB a1 a2 b1 b2) (b1 : Int) (b2 : Int) Ab cb gb W' (hOb.below hb).rd (hOb.below hb).rows (by omega) (fun _ _ => rfl) (fun x hx W2 hb2 => by
    have hI : Sl W2 3 1 x.1 x.2.2.length x.2.1 (ints x.2.2) := ((hOb.below hb).rows x hx).below hb2
    have := tensor2_any w.heap.size (w.heap.size + 1) a1 a2 b1 b2 (.slice Aa ma ca) (.slice Ab mb cb) rfl rfl x.1 x.2.1 x.2.2.length x.2.2 W2 hI (hgb x hx) (by omega) (box_below hk0 hb2) (box_below hk1 hb2)
    refine this.mono ?_
    rintro e w4 ⟨A4, c4, rfl, hi4, hf4, hb4⟩
    exact ⟨A4, c4, rfl, hi4, fun b hb => .inr (hf4 b hb), hb4⟩)
  have hltb : ∀ b, b ∈ fpR gb → b < W.heap.size := fun b hb => hOb.lt b (List.mem_append_right _ hb)
  simp only [← hma] at hEa
  simp only [← hmb] at hEb
  have hmf : ∀ (fn : Fn) (first cap : Array Value) (w : World), (Instr.makeFunc fn first cap).run Tryd.prog w = .ok (.func fn first cap) w := fun _ _ _ _ => rfl
  have hXl : X.length = ma + mb := by rw [hX, List.length_append, List.length_map, List.length_map, hLma, hLmb]
  clear hmat0 hgoal htl hsum hlf0 hrt0 hga hgb; have hLa_h := Lib.hid hLa; have hLb_h := Lib.hid hLb; have hma_h := Lib.hid hma; have hmb_h := Lib.hid hmb; have hLma_h := Lib.hid hLma; have hLmb_h := Lib.hid hLmb; have bW_h := Lib.hid bW; have k0_h := Lib.hid k0; have k1_h := Lib.hid k1; have k2_h := Lib.hid k2; have hOa_h := Lib.hid hOa; have hOb_h := Lib.hid hOb; have hrowa_h := Lib.hid hrowa; have hrowb_h := Lib.hid hrowb; have hlena_h := Lib.hid hlena; have hlenb_h := Lib.hid hlenb; have hflda_h := Lib.hid hflda; have hfldb_h := Lib.hid hfldb; have hmat_h := Lib.hid hmat; have hX_h := Lib.hid hX; have hR_h := Lib.hid hR; have hN_h := Lib.hid hN; have hNI_h := Lib.hid hNI; have hEa_h := Lib.hid hEa; have hEb_h := Lib.hid hEb; have hltb_h := Lib.hid hltb; have hXl_h := Lib.hid hXl; clear hLa hLb hma hmb hLma hLmb bW k0 k1 k2 hOa hOb hrowa hrowb hlena hlenb hflda hfldb hmat hX hR hN hNI hEa hEb hltb hXl
  have k0W := k0_h.out
  have k1W := k1_h.out
  have k2W := k2_h.out
  have k0W_h := Lib.hid k0W; have k1W_h := Lib.hid k1W; have k2W_h := Lib.hid k2W; clear k0W k1W k2W
  have hE1 := hEa_h.out W (Below.refl _ _) k0_h.out k1_h.out
  have hE1_h := Lib.hid hE1; clear hE1
  go_enter Tryd.func151, Tryd.ntmps151
  go_upto_region 1 with (fail)
  rw [← hW]
  clear hW
  go_wp2_with (fail)
  refine (hE1_h.out).mono ?_
  rintro e w1 ⟨A1, c1', g1, rfl, hg1, hO1, -⟩
  clear c0 c1 c2 f0 f1 f2
  have hb1 := hO1.below_
  replace k0_h := Lib.hid (box_below k0_h.out hb1)
  replace k1_h := Lib.hid (box_below k1_h.out hb1)
  replace k2_h := Lib.hid (box_below k2_h.out hb1)
  have hE2 := hEb_h.out w1 hb1 k0_h.out k1_h.out
  have hgl1 : g1.length = ma := by have := congrArg List.length hg1; rwa [List.length_map, List.length_map, ← hma_h.out] at this
  have hz1 := hb1.size
  obtain ⟨⟨c0, c1, c2⟩, f0, f1, f2⟩ := box3 k1_h.out
  have hE2_h := Lib.hid hE2; have hO1_h := Lib.hid hO1; have hg1_h := Lib.hid hg1; have hgl1_h := Lib.hid hgl1; have hb1_h := Lib.hid hb1; clear hE2 hO1 hg1 hgl1 hb1
  go_wp2_with (fail)
  refine (hE2_h.out).mono ?_
  rintro e w2 ⟨A2, c2', g2, rfl, hg2, hO2, hext⟩
  clear c0 c1 c2 f0 f1 f2
  have hb2 := hO2.below_
  replace k0_h := Lib.hid (box_below k0_h.out hb2)
  replace k1_h := Lib.hid (box_below k1_h.out hb2)
  replace k2_h := Lib.hid (box_below k2_h.out hb2)
  have hgl2 : g2.length = mb := by have := congrArg List.length hg2; rwa [List.length_map, List.length_map, ← hmb_h.out] at this
  have hO1' := hO1_h.out.below hb2
  have hB2 := below_trans (below_trans bW_h.out hb1_h.out bW_h.out.size) hb2 (Nat.le_trans bW_h.out.size hb1_h.out.size)
  have hs1 : Sl w2 33 1 A1 ma c1' (g1.map Hd.val) := by have := hO1'.sl; rwa [hgl1_h.out] at this
  have hnl : (g2.map Hd.val).length = mb * 1 := by rw [List.length_map, hgl2, Nat.mul_one]
  have hnr : RdC w2 A2 (g2.map Hd.val) := hO2.sl.rdc
  have hn1 : ∀ u ∈ g2.map Hd.val, u.oneCell' = true := fun u hu => by
    obtain ⟨x, _, rfl⟩ := List.mem_map.1 hu
    rfl
  have hAlt := hO1_h.out.sl.lt
  have hz2 := box_lt k2_h.out
  obtain ⟨⟨c0, c1, c2⟩, f0, f1, f2⟩ := box3 k0_h.out
  obtain ⟨⟨d0, d1, d2⟩, e0, e1, e2⟩ := box3 k1_h.out
  have hs1_h := Lib.hid hs1; have hnl_h := Lib.hid hnl; have hnr_h := Lib.hid hnr; have hn1_h := Lib.hid hn1; have hO1'_h := Lib.hid hO1'; have hO2_h := Lib.hid hO2; have hext_h := Lib.hid hext; have hg2_h := Lib.hid hg2; have hgl2_h := Lib.hid hgl2; have hB2_h := Lib.hid hB2; have hb2_h := Lib.hid hb2; have hAlt_h := Lib.hid hAlt; clear hs1 hnl hnr hn1 hO1' hO2 hext hg2 hgl2 hB2 hb2 hAlt
  go_upto_region 3 with (at_builtin; refine wpList_append_Sl _ rfl _ _ _ rfl 33 Tryd.underlying22 info_ints rfl (by omega) rfl hs1_h.out rfl hnl_h.out hnr_h.out hn1_h.out (by unfold maxLen; omega) (by omega) ?_; intro A3 c3 w3 hs3 hA3 hk3)
  have hapart : ∀ x, x ∈ g2 → ∀ b, b ∈ fpA x.1 → ¬ b ∈ fpA A1 := fun x hx b hb hb' => by
    have h1 := hAlt_h.out b hb'
    have h2 := hO1_h.out.new b hb'
    rcases hext_h.out x hx b hb with h3 | h3
    · have := hltb_h.out b h3; omega
    · omega
  have hrd3 : RdR w3 A3 (g1 ++ g2) := by
    rw [← List.map_append] at hs3
    refine ⟨fun i x hx => ?_, fun x hx => ?_⟩
    · obtain ⟨ad, hA, _, hc, _⟩ := hs3.cell (j := i) (u := x.val) (by rw [List.getElem?_map, hx]; rfl)
      exact ⟨ad, hA, hc⟩
    · rcases List.mem_append.1 hx with hx | hx
      · exact ((hO1'_h.out.rows x hx).keeps hk3 (hO1'_h.out.outer x hx)).rd
      · exact ((hO2_h.out.rows x hx).keeps hk3 (hapart x hx)).rd
  have hgX : (g1 ++ g2).map (fun h : Hd => h.2.2) = X := by
    rw [List.map_append, hg1_h.out, hg2_h.out, hX_h.out, hLa_h.out, hLb_h.out, List.map_map, List.map_map]; rfl
  have hgl : (g1 ++ g2).length = ma + mb := by rw [List.length_append, hgl1_h.out, hgl2_h.out]
  have hC := relation_any p (lf : Int) (rt : Int) N A3 c3 (g1 ++ g2) w3 hrd3 hflda_h.out (by have := hNI_h.out; omega) (by rw [hgX, hgl, ← hXl_h.out]; exact hmat_h.out) (by rw [hgl]; omega) (by omega)
  rw [hgX, ← hR_h.out, hgl] at hC
  have hnew : ∀ b, b ∈ fpA A1 → W.heap.size ≤ b := hO1_h.out.new
  have hB3 := below_keeps hB2_h.out hk3 hB2_h.out.size (fun b hb => Nat.le_trans bW_h.out.size (hnew b hb))
  have hzW := bW_h.out.size
  have hzk := hk3.size
  have k0s := box_keeps k0_h.out hk3 (fun h => by have := hnew _ h; have := box_lt k0W_h.out; omega)
  have k1s := box_keeps k1_h.out hk3 (fun h => by have := hnew _ h; have := box_lt k1W_h.out; omega)
  have k2s := box_keeps k2_h.out hk3 (fun h => by have := hnew _ h; have := box_lt k2W_h.out; omega)
  clear c0 c1 c2 f0 f1 f2 d0 d1 d2 e0 e1 e2 hs3 hA3 hk3 hapart hrd3 hgX hgl hnew
  obtain ⟨⟨c0, c1, c2⟩, f0, f1, f2⟩ := box3 k0s
  obtain ⟨⟨d0, d1, d2⟩, e0, e1, e2⟩ := box3 k1s
  have hlf := hlf
  have hrt := hrt
  clear k0s k1s; have hC_h := Lib.hid hC; have hB3_h := Lib.hid hB3; have k2s_h := Lib.hid k2s; clear hC hB3 k2s
  go_wp2_with (fail)
  refine (hC_h.out).mono ?_
  rintro e w4 ⟨v1, fp1, rfl, hO4, hf4, hb4⟩
  obtain ⟨A5, n5, c5, rfl⟩ := hO4.shape
  have k2' := box_below k2s_h.out hb4
  have hB4 := below_trans hB3_h.out hb4 hB3_h.out.size
  clear c0 c1 c2 f0 f1 f2 d0 d1 d2 e0 e1 e2
  obtain ⟨⟨d0, d1, d2⟩, e0, e1, e2⟩ := box3 k2'
  obtain ⟨s1, s2⟩ := set3 (a := .int .i64 (lf : Int)) (b := .int .i64 (rt : Int)) (c := .slice A5 n5 c5) k2'
  have hB5 := below_keeps hB4 s2 hB4.size (fun k hk => by omega)
  have hO5 := hO4.keeps s2 (fun k hk e => by have := hf4 k hk; omega)
  have hf5 := hf4.mono hB3_h.out.size
  clear k2' hB4 hO4 hf4; have s1_h := Lib.hid s1; have s2_h := Lib.hid s2; have hO5_h := Lib.hid hO5; have hf5_h := Lib.hid hf5; have hB5_h := Lib.hid hB5; clear s1 s2 hO5 hf5 hB5
  go_wp2_with (fail)
  refine bodyPost_ret (results_cell_row rfl _ _ (w.heap.size + 1 + 1) _ _ (0, 0) _ rfl s1_h.out Tryd.underlying43 rfl (by kernel_rfl)) rfl ?_
  exact ⟨_, fp1, rfl, hO5_h.out, hf5_h.out, hB5_h.out⟩
end Go.Proofs.YtahnhblodfdfhaaDoor
namespace Go.Proofs.YtahnhblodfdfhaaDoor
def cmbTo (p : Int) (n : Nat) (x : List Int) (L : List (List Int)) : Nat → List Int
  | 0 => List.replicate n 0
  | k + 1 => addT p (cmbTo p n x L k) (x.getD k 0) (L.getD k [])
@[simp] theorem cmbTo_length (p : Int) (n : Nat) (x : List Int) (L : List (List Int)) : ∀ k, (cmbTo p n x L k).length = n
  | 0 => by simp [cmbTo]
  | k + 1 => by simp [cmbTo, cmbTo_length p n x L k]
theorem cmbTo_res {p : Int} (hp : 0 < p) (n : Nat) (x : List Int) (L : List (List Int)) : ∀ k, Res p (cmbTo p n x L k)
  | 0 => fun y hy => by
    obtain ⟨_, rfl⟩ := List.mem_replicate.1 hy
    omega
  | k + 1 => addT_bounds hp (cmbTo_res hp n x L k)
theorem extG {l m : List Int} (h : l.length = m.length) (hg : ∀ k, k < l.length → l.getD k 0 = m.getD k 0) : l = m := by
  refine List.ext_getElem h fun i h1 h2 => ?_
  have := hg i h1
  rwa [List.getD_eq_getElem?_getD, List.getD_eq_getElem?_getD, List.getElem?_eq_getElem h1, List.getElem?_eq_getElem h2] at this
theorem getD_takeG (l : List Int) {a k : Nat} (h : k < a) : (l.take a).getD k 0 = l.getD k 0 := by
  rw [List.getD_eq_getElem?_getD, List.getD_eq_getElem?_getD, List.getElem?_take, if_pos h]
theorem getD_dropG (l : List Int) (a k : Nat) : (l.drop a).getD k 0 = l.getD (a + k) 0 := by
  rw [List.getD_eq_getElem?_getD, List.getD_eq_getElem?_getD, List.getElem?_drop]
theorem addT_take {p c : Int} {v w : List Int} {a : Nat} (h : v.length = w.length) (ha : a ≤ v.length) : (addT p v c w).take a = addT p (v.take a) c (w.take a) := by
  refine extG (by simp) fun k hk => ?_
  have hk' : k < a := by rw [List.length_take] at hk; omega
  rw [getD_takeG _ hk', addT_getD, addT_getD, getD_takeG _ hk', getD_takeG _ hk', List.length_take, List.length_take, if_pos (by omega), if_pos (by omega), if_pos (by omega), if_pos (by omega)]
theorem addT_drop' {p c : Int} {v w : List Int} {a : Nat} (h : v.length = w.length) : (addT p v c w).drop a = addT p (v.drop a) c (w.drop a) := by
  refine extG (by simp) fun k hk => ?_
  have hk' : a + k < v.length := by rw [List.length_drop, addT_length] at hk; omega
  rw [getD_dropG, addT_getD, addT_getD, getD_dropG, getD_dropG, List.length_drop, List.length_drop, if_pos hk', if_pos (by omega), if_pos (by omega), if_pos (by omega)]
theorem cmbTo_take {p : Int} {m a : Nat} {x : List Int} {L : List (List Int)} (hm : ∀ v, v ∈ L → v.length = m) (ha : a ≤ m) : ∀ k, k ≤ L.length → (cmbTo p m x L k).take a = cmbTo p a x (L.map fun v => v.take a) k
  | 0, _ => by simp only [cmbTo, List.take_replicate]; congr 1; omega
  | k + 1, hk => by
    have hl : (L.getD k []).length = m := by
      rw [List.getD_eq_getElem?_getD, List.getElem?_eq_getElem (by omega)]
      exact hm _ (List.getElem_mem (by omega))
    rw [cmbTo, cmbTo, addT_take (by rw [cmbTo_length, hl]) (by rw [cmbTo_length]; exact ha), cmbTo_take hm ha k (by omega)]
    congr 1
    rw [List.getD_eq_getElem?_getD, List.getD_eq_getElem?_getD, List.getElem?_map, List.getElem?_eq_getElem (by omega)]
    rfl
theorem cmbTo_drop {p : Int} {m a : Nat} {x : List Int} {L : List (List Int)} (hm : ∀ v, v ∈ L → v.length = m) : ∀ k, k ≤ L.length → (cmbTo p m x L k).drop a = cmbTo p (m - a) x (L.map fun v => v.drop a) k
  | 0, _ => by simp only [cmbTo, List.drop_replicate]
  | k + 1, hk => by
    have hl : (L.getD k []).length = m := by
      rw [List.getD_eq_getElem?_getD, List.getElem?_eq_getElem (by omega)]
      exact hm _ (List.getElem_mem (by omega))
    rw [cmbTo, cmbTo, addT_drop' (by rw [cmbTo_length, hl]), cmbTo_drop hm k (by omega)]
    congr 1
    rw [List.getD_eq_getElem?_getD, List.getD_eq_getElem?_getD, List.getElem?_map, List.getElem?_eq_getElem (by omega)]
    rfl
def ngV (p : Int) (v : List Int) : List Int := v.map fun a => (-a) % p
@[simp] theorem ngV_length (p : Int) (v : List Int) : (ngV p v).length = v.length := by simp [ngV]
theorem ngV_res {p : Int} (hp : 0 < p) (v : List Int) : Res p (ngV p v) := fun x hx => by
  obtain ⟨a, _, rfl⟩ := List.mem_map.1 hx
  exact ⟨Int.emod_nonneg _ (by omega), Int.emod_lt_of_pos _ hp⟩
theorem ngV_add {p : Int} (y : List Int) : addT p (List.replicate y.length 0) (-1) y = ngV p y := by
  refine extG (by simp) fun k hk => ?_
  rw [addT_length, List.length_replicate] at hk
  rw [addT_getD, List.length_replicate, if_pos hk, if_pos hk]
  have e1 : (List.replicate y.length (0 : Int)).getD k 0 = 0 := by rw [List.getD_eq_getElem?_getD, List.getElem?_replicate, if_pos hk]; rfl
  have e2 : (ngV p y).getD k 0 = (-(y.getD k 0)) % p := by
    unfold ngV
    rw [List.getD_eq_getElem?_getD, List.getElem?_map, List.getD_eq_getElem?_getD, List.getElem?_eq_getElem hk]; rfl
  rw [e1, e2, Int.zero_add, Int.neg_one_mul]
theorem ngV_getD {p : Int} {y : List Int} {k : Nat} (hk : k < y.length) : (ngV p y).getD k 0 = (-(y.getD k 0)) % p := by
  unfold ngV
  rw [List.getD_eq_getElem?_getD, List.getElem?_map, List.getD_eq_getElem?_getD, List.getElem?_eq_getElem hk]; rfl
def midR (p : Int) (s t : Sys) : List (List Int) := secondM s ++ (firstM t).map (ngV p)
def pairV (p : Int) (s t : Sys) (k : List Int) : List Int := cmbTo p s.1.toNat (k.take s.2.2.length) (firstM s) s.2.2.length ++ cmbTo p t.2.1.toNat (k.drop s.2.2.length) (secondM t) t.2.2.length
def pairsM (p : Int) (s t : Sys) : List (List Int) := (kerM p s.2.1.toNat (midR p s t)).map (pairV p s t)
def cmpV (p : Int) (s t : Sys) : Sys := (s.1, t.2.1, redM p (s.1 + t.2.1).toNat (pairsM p s t))
section
variable {p : Int} {s t : Sys}
theorem pairV_length (k : List Int) : (pairV p s t k).length = s.1.toNat + t.2.1.toNat := by simp [pairV]
theorem pairV_res (hp : 0 < p) (k : List Int) : Res p (pairV p s t k) := fun x hx => by
  rcases List.mem_append.1 hx with h | h
  · exact cmbTo_res hp _ _ _ _ x h
  · exact cmbTo_res hp _ _ _ _ x h
theorem pairs_mat (hs : RelOk p s) (ht : RelOk p t) : Mat p (pairsM p s t).length (s.1 + t.2.1).toNat (pairsM p s t) := by
  have hp := (fieldB_bounds hs.fld).1
  have h1 := hs.lo
  have h2 := ht.hi
  refine ⟨rfl, fun v hv => ?_⟩
  obtain ⟨k, _, rfl⟩ := List.mem_map.1 hv
  exact ⟨by rw [pairV_length]; omega, pairV_res (by omega) k⟩
theorem mid_mat (hs : RelOk p s) (ht : RelOk p t) (hm : s.2.1 = t.1) : Mat p (s.2.2.length + t.2.2.length) s.2.1.toNat (midR p s t) := by
  have hp := (fieldB_bounds hs.fld).1
  have h1 := secondM_mat hs
  have h2 := firstM_mat ht
  refine ⟨by unfold midR; rw [List.length_append, List.length_map, h1.len, h2.len], fun v hv => ?_⟩
  rcases List.mem_append.1 hv with h | h
  · exact h1.row v h
  · obtain ⟨y, hy, rfl⟩ := List.mem_map.1 h
    have := h2.row y hy
    exact ⟨by rw [ngV_length, this.1, hm], ngV_res (by omega) y⟩
theorem transM_transM {m n : Nat} {L : List (List Int)} (h : Mat p m n L) : transM (transM L n) m = L := by
  refine List.ext_getElem (by simp [transM, h.len]) fun i h1 h2 => ?_
  have hi : i < m := by rw [← h.len]; exact h2
  have hl := (h.row _ (List.getElem_mem h2)).1
  simp only [transM, List.getElem_map, List.getElem_range]
  refine extG (by simp [hl]) fun k hk => ?_
  have hk' : k < n := by simpa using hk
  rw [List.getD_eq_getElem?_getD, List.getElem?_map, List.getElem?_map, List.getElem?_range hk']
  simp only [Option.map_some, Option.getD_some]
  rw [List.getD_eq_getElem?_getD, List.getElem?_map, List.getElem?_eq_getElem h2]
  rfl
theorem mid_null (hs : RelOk p s) (ht : RelOk p t) (hm : s.2.1 = t.1) : nullM p (s.2.2.length + t.2.2.length) (transM (midR p s t) s.2.1.toNat) = kerM p s.2.1.toNat (midR p s t) := by
  have hp := (fieldB_bounds hs.fld).1
  have hM := mid_mat hs ht hm
  have hT := transM_mat (by omega) hM
  have hl : (transM (midR p s t) s.2.1.toNat).length = s.2.1.toNat := hT.len
  rw [null_eq_perp hs.fld (by rw [hl]; exact hT)]
  unfold perpM
  rw [transM_transM hM, hl]
def midC (p : Int) (s t : Sys) (j : Nat) : List Int := s.2.2.map (fun r => r.getD (s.1.toNat + j) 0) ++ t.2.2.map fun r => (-(r.getD j 0)) % p
theorem mid_trans (ht : RelOk p t) (hm : s.2.1 = t.1) : transM (midR p s t) s.2.1.toNat = (List.range s.2.1.toNat).map (midC p s t) := by
  unfold transM
  refine List.map_congr_left fun j hj => ?_
  have hj' := List.mem_range.1 hj
  unfold midR midC secondM firstM
  rw [List.map_append, List.map_map, List.map_map, List.map_map]
  congr 1
  · refine List.map_congr_left fun r _ => ?_
    exact getD_dropG r _ _
  · refine List.map_congr_left fun r hr => ?_
    have h1 := (ht.row hr).1
    have h2 := ht.hi
    have h3 := ht.lo
    show (ngV p (r.take t.1.toNat)).getD j 0 = _
    rw [ngV_getD (by rw [List.length_take]; omega), getD_takeG _ (by omega)]
theorem pair_ref (hs : RelOk p s) (ht : RelOk p t) (hm : s.2.1 = t.1) (k : List Int) :
    (cmbTo p (s.1.toNat + s.2.1.toNat) (k.take s.2.2.length) s.2.2 s.2.2.length).take s.1.toNat ++ (cmbTo p (s.2.1.toNat + t.2.1.toNat) (k.drop s.2.2.length) t.2.2 t.2.2.length).drop s.2.1.toNat = pairV p s t k := by
  have h1 := hs.lo
  have h2 := hs.hi
  have h3 := ht.lo
  have h4 := ht.hi
  unfold pairV firstM secondM
  rw [cmbTo_take (fun v hv => by have := (hs.row hv).1; omega) (by omega) _ (Nat.le_refl _), cmbTo_drop (fun v hv => by have := (ht.row hv).1; omega) _ (Nat.le_refl _)]
  rw [show s.2.1.toNat + t.2.1.toNat - s.2.1.toNat = t.2.1.toNat by omega, show s.2.1.toNat = t.1.toNat by rw [hm]]
theorem kerM_len {n : Nat} {L : List (List Int)} (hp : fieldB p = true) (hm : Mat p L.length n L) : (kerM p n L).length ≤ L.length ∧ Mat p (kerM p n L).length L.length (kerM p n L) := by
  have hpb := fieldB_bounds hp
  have h3 := (redTo_mat3 hp hm (idM_mat (by omega) L.length) n (Nat.le_refl _)).drop (r := (redTo p L (idM L.length) n).1)
  have h4 := redM_spec hp (n := L.length) (L := (redTo p L (idM L.length) n).2.2.drop (redTo p L (idM L.length) n).1) (by rw [h3.len]; exact h3)
  have h5 := h3.len
  have h6 := h4.2.2
  exact ⟨by unfold kerM; omega, h4.1.1⟩
end
end Go.Proofs.YtahnhblodfdfhaaDoor
namespace Go.Proofs.YtahnhblodfdfhaaDoor
abbrev Nd := Int × Int × ByteArray
def noName : ByteArray := ⟨#[]⟩
inductive Tr where
  | leaf (n : Nd)
  | node (p : Bool) (a b : Tr)
def kd (p : Bool) : Int := if p then 16 else 15
def joinNd (p : Bool) : Nd := (kd p, 0, noName)
def flat : Tr → List Nd
  | .leaf n => [n]
  | .node p a b => flat a ++ (flat b ++ [joinNd p])
def sz (t : Tr) : Nat := (flat t).length
def kindTy (k : Int) : Int × Int :=
  if k = 2 then (2, 2) else if k = 3 ∨ k = 11 then (1, 2) else if k = 4 ∨ k = 12 then (1, 0) else if k = 5 ∨ k = 9 then (2, 1) else if k = 6 ∨ k = 10 then (0, 1) else (1, 1)
def leafTy (n : Nd) : Int × Int := if n.1 = 1 then (n.2.1, n.2.1) else kindTy n.1
def leafB (n : Nd) : Bool := decide (n.2.2 = noName ∧ ((n.1 = 1 ∧ 0 ≤ n.2.1 ∧ n.2.1 ≤ 12) ∨ ((n.1 = 7 ∨ n.1 = 13) ∧ 0 ≤ n.2.1 ∧ n.2.1 ≤ 96) ∨ (2 ≤ n.1 ∧ n.1 ≤ 14 ∧ n.1 ≠ 7 ∧ n.1 ≠ 13 ∧ n.2.1 = 0)))
def joinTy (p : Bool) (a b : Int × Int) : Int × Int := if p then (a.1 + b.1, a.2 + b.2) else (a.1, b.2)
def joinB (p : Bool) (a b : Int × Int) : Bool := if p then decide (a.1 + b.1 ≤ 12 ∧ a.2 + b.2 ≤ 12) else decide (a.2 = b.1)
def ty : Tr → Int × Int
  | .leaf n => leafTy n
  | .node p a b => joinTy p (ty a) (ty b)
def wt : Tr → Prop
  | .leaf n => leafB n = true
  | .node p a b => wt a ∧ wt b ∧ joinB p (ty a) (ty b) = true
theorem flat_ne (t : Tr) : flat t ≠ [] := by cases t <;> simp [flat]
theorem sz_pos (t : Tr) : 0 < sz t := by
  have := flat_ne t
  unfold sz
  cases h : flat t with
  | nil => exact absurd h this
  | cons _ _ => simp
theorem sz_node (p : Bool) (a b : Tr) : sz (.node p a b) = sz a + sz b + 1 := by simp [sz, flat]; omega
theorem leaf_fit {n : Nd} (h : leafB n = true) : 0 ≤ (leafTy n).1 ∧ (leafTy n).1 ≤ 12 ∧ 0 ≤ (leafTy n).2 ∧ (leafTy n).2 ≤ 12 := by
  unfold leafB at h
  simp only [decide_eq_true_eq] at h
  unfold leafTy kindTy
  obtain ⟨_, h⟩ := h
  by_cases h1 : n.1 = 1
  · simp only [h1, if_true]; omega
  · simp only [h1, if_false]
    repeat' split
    all_goals simp
theorem wt_fit : ∀ {t : Tr}, wt t → 0 ≤ (ty t).1 ∧ (ty t).1 ≤ 12 ∧ 0 ≤ (ty t).2 ∧ (ty t).2 ≤ 12
  | .leaf _, h => leaf_fit h
  | .node p a b, h => by
    obtain ⟨ha, hb, hj⟩ := h
    have h1 := wt_fit ha
    have h2 := wt_fit hb
    cases p
    · simp [ty, joinTy]; omega
    · simp [joinB] at hj
      simp [ty, joinTy]; omega
def isJoin (n : Nd) : Prop := n.1 = 15 ∨ n.1 = 16
instance (n : Nd) : Decidable (isJoin n) := by unfold isJoin; exact inferInstance
def stepT (st : List Tr) (n : Nd) : Option (List Tr) :=
  if isJoin n then
    match st with
    | b :: a :: r => if n.2.1 = 0 ∧ n.2.2 = noName ∧ joinB (decide (n.1 = 16)) (ty a) (ty b) = true then some (.node (decide (n.1 = 16)) a b :: r) else none
    | _ => none
  else if leafB n = true then some (.leaf n :: st) else none
def parse (st : List Tr) : List Nd → Option (List Tr)
  | [] => some st
  | n :: r => (stepT st n).bind fun st' => parse st' r
theorem parse_append (l m : List Nd) : ∀ st, parse st (l ++ m) = (parse st l).bind fun st' => parse st' m := by
  induction l with
  | nil => intro st; rfl
  | cons n r ih =>
    intro st
    simp only [List.cons_append, parse]
    cases h : stepT st n with
    | none => rfl
    | some s => simp only [Option.bind_some]; exact ih s
theorem parse_snoc (l : List Nd) (n : Nd) (st : List Tr) : parse st (l ++ [n]) = (parse st l).bind fun st' => stepT st' n := by
  rw [parse_append]
  cases parse st l with
  | none => rfl
  | some s => simp only [Option.bind_some, parse]; cases stepT s n <;> rfl
theorem leafB_kind {n : Nd} (h : leafB n = true) : ¬ isJoin n := by
  unfold leafB at h
  simp only [decide_eq_true_eq] at h
  unfold isJoin
  omega
theorem joinNd_kd (p : Bool) : decide ((joinNd p).1 = 16) = p := by cases p <;> rfl
theorem joinNd_is (p : Bool) : isJoin (joinNd p) := by cases p <;> simp [isJoin, joinNd, kd]
theorem isJoin_eq {n : Nd} (h : isJoin n) (h1 : n.2.1 = 0) (h2 : n.2.2 = noName) : n = joinNd (decide (n.1 = 16)) := by
  obtain ⟨a, b, c⟩ := n
  simp only at h1 h2
  subst h1 h2
  rcases h with h | h
  · simp only at h; subst h; rfl
  · simp only at h; subst h; rfl
def flats : List Tr → List Nd
  | [] => []
  | t :: r => flats r ++ flat t
def wts : List Tr → Prop
  | [] => True
  | t :: r => wt t ∧ wts r
theorem step_spec {st st' : List Tr} {n : Nd} (h : stepT st n = some st') (hw : wts st) : wts st' ∧ flats st' = flats st ++ [n] := by
  unfold stepT at h
  by_cases hj : isJoin n
  · rw [if_pos hj] at h
    match st, h, hw with
    | [], h, _ => cases h
    | [_], h, _ => cases h
    | b :: a :: r, h, hw =>
      simp only at h
      split at h
      · rename_i hc
        obtain ⟨h1, h2, h3⟩ := hc
        obtain rfl := Option.some.inj h
        obtain ⟨hb, ha, hr⟩ := hw
        refine ⟨⟨⟨ha, hb, h3⟩, hr⟩, ?_⟩
        have := isJoin_eq hj h1 h2
        simp only [flats, flat, List.append_assoc]
        rw [← this]
      · cases h
  · rw [if_neg hj] at h
    split at h
    · rename_i hc
      obtain rfl := Option.some.inj h
      exact ⟨⟨hc, hw⟩, rfl⟩
    · cases h
theorem parse_spec : ∀ (l : List Nd) {st st' : List Tr}, parse st l = some st' → wts st → wts st' ∧ flats st' = flats st ++ l
  | [], st, st', h, hw => by obtain rfl := Option.some.inj h; exact ⟨hw, by simp⟩
  | n :: r, st, st', h, hw => by
    simp only [parse, Option.bind_eq_some_iff] at h
    obtain ⟨s, h1, h2⟩ := h
    obtain ⟨hw1, hf1⟩ := step_spec h1 hw
    obtain ⟨hw2, hf2⟩ := parse_spec r h2 hw1
    exact ⟨hw2, by rw [hf2, hf1]; simp⟩
def treeM (l : List Nd) : Option Tr := if 1 ≤ l.length ∧ l.length ≤ 400 then (match parse [] l with | some [t] => some t | _ => none) else none
theorem treeM_some {l : List Nd} {t : Tr} (h : treeM l = some t) : l = flat t ∧ wt t ∧ sz t ≤ 400 := by
  unfold treeM at h
  split at h
  · rename_i hl
    split at h
    · rename_i t' hp
      obtain rfl := Option.some.inj h
      obtain ⟨hw, hf⟩ := parse_spec l hp trivial
      have : l = flat t' := by simpa [flats] using hf.symm
      exact ⟨this, hw.1, by unfold sz; rw [← this]; exact hl.2⟩
    · cases h
  · cases h
def info : Tr → Nat → List (Nat × (Int × Int))
  | .leaf n, o => [(o, leafTy n)]
  | .node p a b, o => info a o ++ (info b (o + sz a) ++ [(o, joinTy p (ty a) (ty b))])
def infos : List Tr → List (Nat × (Int × Int))
  | [] => []
  | t :: r => infos r ++ info t (flats r).length
theorem info_length : ∀ (t : Tr) (o : Nat), (info t o).length = sz t
  | .leaf _, _ => rfl
  | .node p a b, o => by simp only [info, List.length_append, info_length a, info_length b, sz_node, List.length_cons, List.length_nil]; omega
theorem infos_length : ∀ (st : List Tr), (infos st).length = (flats st).length
  | [] => rfl
  | t :: r => by simp [infos, flats, infos_length r, info_length, sz]
theorem info_last (t : Tr) (o : Nat) : ∃ r, info t o = r ++ [(o, ty t)] ∧ r.length + 1 = sz t := by
  cases t with
  | leaf n => exact ⟨[], rfl, rfl⟩
  | node p a b =>
    refine ⟨info a o ++ info b (o + sz a), by simp [info, ty], ?_⟩
    rw [List.length_append, info_length, info_length, sz_node]
theorem infos_last (t : Tr) (r : List Tr) : (infos (t :: r))[(flats (t :: r)).length - 1]? = some ((flats r).length, ty t) := by
  obtain ⟨q, h, hl⟩ := info_last t (flats r).length
  simp only [infos, h]
  have hp := sz_pos t
  have e : (flats (t :: r)).length - 1 = (infos r ++ q).length := by
    simp only [flats, List.length_append, infos_length]
    have : (flat t).length = sz t := rfl
    omega
  rw [e, ← List.append_assoc, List.getElem?_append_right (Nat.le_refl _)]
  simp
theorem infos_last2 (b a : Tr) (r : List Tr) : (infos (b :: a :: r))[(flats (a :: r)).length - 1]? = some ((flats r).length, ty a) := by
  have h := infos_last a r
  have hlt := (List.getElem?_eq_some_iff.1 h).1
  show (infos (a :: r) ++ info b _)[_]? = _
  rw [List.getElem?_append_left hlt]
  exact h
theorem infos_leaf (n : Nd) (st : List Tr) : infos (.leaf n :: st) = infos st ++ [((flats st).length, leafTy n)] := rfl
theorem infos_node (p : Bool) (a b : Tr) (r : List Tr) : infos (.node p a b :: r) = infos (b :: a :: r) ++ [((flats r).length, joinTy p (ty a) (ty b))] := by
  simp only [infos, info, flats, List.length_append, List.append_assoc]
  rfl
end Go.Proofs.YtahnhblodfdfhaaDoor
namespace Go.Proofs.YtahnhblodfdfhaaDoor
open Go.RowKit
theorem nul0 {p : Int} {n : Nat} {x : Nat → Int} : NulL p n [] x ↔ True := ⟨fun _ => trivial, fun _ i hi => by simp at hi⟩
theorem nul1 {p : Int} {n : Nat} {a : List Int} {x : Nat → Int} : NulL p n [a] x ↔ p ∣ sm n fun j => a.getD j 0 * x j :=
  ⟨fun h => h 0 (by simp), fun h i hi => by
    obtain rfl : i = 0 := by simpa using hi
    exact h⟩
theorem nul2 {p : Int} {n : Nat} {a b : List Int} {x : Nat → Int} : NulL p n [a, b] x ↔ (p ∣ sm n fun j => a.getD j 0 * x j) ∧ p ∣ sm n fun j => b.getD j 0 * x j :=
  ⟨fun h => ⟨h 0 (by simp), h 1 (by simp)⟩, fun h i hi => by
    rcases i with _ | _ | i
    · exact h.1
    · exact h.2
    · exact absurd hi (by simp)⟩
theorem genL_of {p : Int} {n : Nat} {E K : List (List Int)} (hm : ∀ v, v ∈ K → v.length = n ∧ Res p v) (h1 : ∀ v, v ∈ K → NulL p n E fun j => v.getD j 0) (h2 : ∀ x, NulL p n K x → ∀ y, NulL p n E y → p ∣ sm n fun j => x j * y j) : GenL p n (NulL p n E) K :=
  ⟨⟨rfl, hm⟩, fun k hk => by
    have : K.getD k [] = K[k] := by simp [List.getD, hk]
    have h := h1 _ (List.getElem_mem hk)
    rw [← this] at h; exact h, h2⟩
def leafEq (p k v : Int) : List (List Int) :=
  if k = 3 then [[p - 1, 1, 0], [p - 1, 0, 1]] else if k = 5 then [[p - 1, p - 1, 1]] else if k = 6 then [[1]] else if k = 7 then [[(-v) % p, 1]]
  else if k = 9 then [[1, 0, p - 1], [0, 1, p - 1]] else if k = 11 then [[1, p - 1, p - 1]] else if k = 12 then [[1]] else if k = 13 then [[1, (-v) % p]] else []
def leafRows (k v : Int) : List (List Int) :=
  if k = 3 ∨ k = 9 then [[1, 1, 1]] else if k = 4 ∨ k = 10 then [[1]] else if k = 5 then [[1, 0, 1], [0, 1, 1]] else if k = 7 then [[1, v]]
  else if k = 11 then [[1, 1, 0], [1, 0, 1]] else if k = 13 then [[v, 1]] else []
def kdN (k : Int) : Nat := (kindTy k).1.toNat + (kindTy k).2.toNat
def genB (k : Int) : Prop := k = 3 ∨ k = 4 ∨ k = 5 ∨ k = 6 ∨ k = 7 ∨ k = 9 ∨ k = 10 ∨ k = 11 ∨ k = 12 ∨ k = 13
theorem leaf_gen {p k v : Int} (hp : 2 ≤ p) (hk : genB k) (hv : 0 ≤ v ∧ v < p) : GenL p (kdN k) (NulL p (kdN k) (leafEq p k v)) (leafRows k v) := by
  obtain ⟨q, hq⟩ : ∃ q, (-v) % p = -v + p * q := ⟨-((-v) / p), by have := Int.emod_add_mul_ediv (-v) p; rw [Int.mul_neg]; omega⟩
  rcases hk with rfl | rfl | rfl | rfl | rfl | rfl | rfl | rfl | rfl | rfl
  · refine genL_of (K := [[1, 1, 1]]) (E := [[p - 1, 1, 0], [p - 1, 0, 1]]) (n := 3) (fun u hu => ?_) (fun u hu => ?_) fun x hx y hy => ?_
    · simp only [List.mem_cons, List.not_mem_nil, or_false] at hu
      subst hu
      exact ⟨rfl, fun a ha => by simp at ha; subst ha; omega⟩
    · simp only [List.mem_cons, List.not_mem_nil, or_false] at hu
      subst hu
      rw [nul2]; simp [sm]
    · rw [nul1] at hx
      rw [nul2] at hy
      simp [sm] at hx hy ⊢
      obtain ⟨a, ha⟩ := hx
      obtain ⟨⟨b, hb⟩, c, hc⟩ := hy
      exact ⟨a * y 0 + x 1 * (b - y 0) + x 2 * (c - y 0), by grind⟩
  · refine genL_of (K := [[1]]) (E := []) (n := 1) (fun u hu => ?_) (fun u hu => ?_) fun x hx y hy => ?_
    · simp only [List.mem_cons, List.not_mem_nil, or_false] at hu
      subst hu
      exact ⟨rfl, fun a ha => by simp at ha; subst ha; omega⟩
    · rw [nul0]; trivial
    · rw [nul1] at hx
      simp [sm] at hx ⊢
      obtain ⟨a, ha⟩ := hx
      exact ⟨a * y 0, by grind⟩
  · refine genL_of (K := [[1, 0, 1], [0, 1, 1]]) (E := [[p - 1, p - 1, 1]]) (n := 3) (fun u hu => ?_) (fun u hu => ?_) fun x hx y hy => ?_
    · simp only [List.mem_cons, List.not_mem_nil, or_false] at hu
      rcases hu with rfl | rfl <;> exact ⟨rfl, fun a ha => by simp at ha; omega⟩
    · simp only [List.mem_cons, List.not_mem_nil, or_false] at hu
      rw [nul1]; rcases hu with rfl | rfl <;> simp [sm]
    · rw [nul2] at hx
      rw [nul1] at hy
      simp [sm] at hx hy ⊢
      obtain ⟨c, hc⟩ := hy
      obtain ⟨⟨a, ha⟩, b, hb⟩ := hx
      exact ⟨a * y 0 + b * y 1 + x 2 * (c - y 0 - y 1), by grind⟩
  · refine genL_of (K := []) (E := [[1]]) (n := 1) (fun u hu => by cases hu) (fun u hu => by cases hu) fun x hx y hy => ?_
    rw [nul1] at hy
    simp [sm] at hy ⊢
    obtain ⟨c, hc⟩ := hy
    exact ⟨x 0 * c, by grind⟩
  · refine genL_of (K := [[1, v]]) (E := [[(-v) % p, 1]]) (n := 2) (fun u hu => ?_) (fun u hu => ?_) fun x hx y hy => ?_
    · simp only [List.mem_cons, List.not_mem_nil, or_false] at hu
      subst hu
      exact ⟨rfl, fun a ha => by simp at ha; omega⟩
    · simp only [List.mem_cons, List.not_mem_nil, or_false] at hu
      subst hu
      rw [nul1]; simp [sm]
      exact ⟨q, by omega⟩
    · rw [nul1] at hx hy
      simp [sm] at hx hy ⊢
      obtain ⟨c, hc⟩ := hy
      obtain ⟨a, ha⟩ := hx
      exact ⟨a * y 0 + x 1 * (c - q * y 0), by grind⟩
  · refine genL_of (K := [[1, 1, 1]]) (E := [[1, 0, p - 1], [0, 1, p - 1]]) (n := 3) (fun u hu => ?_) (fun u hu => ?_) fun x hx y hy => ?_
    · simp only [List.mem_cons, List.not_mem_nil, or_false] at hu
      subst hu
      exact ⟨rfl, fun a ha => by simp at ha; subst ha; omega⟩
    · simp only [List.mem_cons, List.not_mem_nil, or_false] at hu
      subst hu
      rw [nul2]
      refine ⟨⟨1, ?_⟩, ⟨1, ?_⟩⟩ <;> simp [sm] <;> omega
    · rw [nul1] at hx
      rw [nul2] at hy
      simp [sm] at hx hy ⊢
      obtain ⟨a, ha⟩ := hx
      obtain ⟨⟨b, hb⟩, c, hc⟩ := hy
      exact ⟨a * y 2 + x 0 * (b - y 2) + x 1 * (c - y 2), by grind⟩
  · refine genL_of (K := [[1]]) (E := []) (n := 1) (fun u hu => ?_) (fun u hu => ?_) fun x hx y hy => ?_
    · simp only [List.mem_cons, List.not_mem_nil, or_false] at hu
      subst hu
      exact ⟨rfl, fun a ha => by simp at ha; subst ha; omega⟩
    · rw [nul0]; trivial
    · rw [nul1] at hx
      simp [sm] at hx ⊢
      obtain ⟨a, ha⟩ := hx
      exact ⟨a * y 0, by grind⟩
  · refine genL_of (K := [[1, 1, 0], [1, 0, 1]]) (E := [[1, p - 1, p - 1]]) (n := 3) (fun u hu => ?_) (fun u hu => ?_) fun x hx y hy => ?_
    · simp only [List.mem_cons, List.not_mem_nil, or_false] at hu
      rcases hu with rfl | rfl <;> exact ⟨rfl, fun a ha => by simp at ha; omega⟩
    · simp only [List.mem_cons, List.not_mem_nil, or_false] at hu
      rw [nul1]; rcases hu with rfl | rfl <;> simp [sm]
      · exact ⟨1, by omega⟩
      · exact ⟨1, by omega⟩
    · rw [nul2] at hx
      rw [nul1] at hy
      simp [sm] at hx hy ⊢
      obtain ⟨c, hc⟩ := hy
      obtain ⟨⟨a, ha⟩, b, hb⟩ := hx
      exact ⟨a * y 1 + b * y 2 + x 0 * (c - y 1 - y 2), by grind⟩
  · refine genL_of (K := []) (E := [[1]]) (n := 1) (fun u hu => by cases hu) (fun u hu => by cases hu) fun x hx y hy => ?_
    rw [nul1] at hy
    simp [sm] at hy ⊢
    obtain ⟨c, hc⟩ := hy
    exact ⟨x 0 * c, by grind⟩
  · refine genL_of (K := [[v, 1]]) (E := [[1, (-v) % p]]) (n := 2) (fun u hu => ?_) (fun u hu => ?_) fun x hx y hy => ?_
    · simp only [List.mem_cons, List.not_mem_nil, or_false] at hu
      subst hu
      exact ⟨rfl, fun a ha => by simp at ha; omega⟩
    · simp only [List.mem_cons, List.not_mem_nil, or_false] at hu
      subst hu
      rw [nul1]; simp [sm]
      exact ⟨q, by omega⟩
    · rw [nul1] at hx hy
      simp [sm] at hx hy ⊢
      obtain ⟨c, hc⟩ := hy
      obtain ⟨a, ha⟩ := hx
      exact ⟨a * y 1 + x 0 * (c - q * y 1), by grind⟩
theorem leafEq_mat {p k v : Int} (hp : 2 ≤ p) (hk : genB k) : Mat p (leafEq p k v).length (kdN k) (leafEq p k v) := by
  have hq : 0 ≤ (-v) % p ∧ (-v) % p < p := ⟨Int.emod_nonneg _ (by omega), Int.emod_lt_of_pos _ (by omega)⟩
  refine ⟨rfl, fun u hu => ?_⟩
  rcases hk with rfl | rfl | rfl | rfl | rfl | rfl | rfl | rfl | rfl | rfl
  all_goals
    simp only [leafEq, if_pos, reduceIte, Int.reduceEq, List.mem_cons, List.not_mem_nil, or_false] at hu
  · rcases hu with rfl | rfl <;> exact ⟨rfl, fun a ha => by simp at ha; omega⟩
  · subst hu; exact ⟨rfl, fun a ha => by simp at ha; omega⟩
  · subst hu; exact ⟨rfl, fun a ha => by simp at ha; omega⟩
  · subst hu; exact ⟨rfl, fun a ha => by simp at ha; omega⟩
  · rcases hu with rfl | rfl <;> exact ⟨rfl, fun a ha => by simp at ha; omega⟩
  · subst hu; exact ⟨rfl, fun a ha => by simp at ha; omega⟩
  · subst hu; exact ⟨rfl, fun a ha => by simp at ha; omega⟩
  · subst hu; exact ⟨rfl, fun a ha => by simp at ha; omega⟩
theorem redM_self {p : Int} (hp : fieldB p = true) {n : Nat} {R : List (List Int)} (h : RedL p n R) : redM p n R = R := by
  have hpb := fieldB_bounds hp
  have h2 := redM_spec hp h.1
  exact RedL.unique (by omega) h2.1 h h2.2.1
theorem redM_idem {p : Int} (hp : fieldB p = true) {n : Nat} {L : List (List Int)} (hm : Mat p L.length n L) : redM p n (redM p n L) = redM p n L := redM_self hp (redM_spec hp hm).1
theorem null_of_gen {p : Int} (hp : fieldB p = true) {n : Nat} {E K : List (List Int)} (hE : Mat p E.length n E) (hK : GenL p n (NulL p n E) K) : redM p n K = nullM p n E := by
  have hpb := fieldB_bounds hp
  have hr := redM_spec hp hE
  unfold nullM
  exact gen_unique hp hK ((nvecs_gen (by omega) hr.1).congr hr.2.1)
theorem leaf_null {p k v : Int} (hp : fieldB p = true) (hk : genB k) (hv : 0 ≤ v ∧ v < p) : redM p (kdN k) (leafRows k v) = nullM p (kdN k) (leafEq p k v) := by
  have hpb := fieldB_bounds hp
  exact null_of_gen hp (leafEq_mat (by omega) hk) (leaf_gen (by omega) hk hv)
theorem leafRows_mat {p k v : Int} (hp : 2 ≤ p) (hk : genB k) (hv : 0 ≤ v ∧ v < p) : Mat p (leafRows k v).length (kdN k) (leafRows k v) := (leaf_gen hp hk hv).1
theorem RelOk.mk_red {p a b : Int} {n : Nat} {L : List (List Int)} (hf : fieldB p = true) (ha : 0 ≤ a) (hb : 0 ≤ b) (hn : a + b = (n : Int)) (h24 : n ≤ 24) (hm : Mat p L.length n L) : RelOk p (a, b, redM p n L) := by
  have h1 := redM_spec hf hm
  have h2 := red_len h1.1
  have e : (a + b).toNat = n := by omega
  exact ⟨ha, hb, by show a + b ≤ 24; omega, hf, by show ((redM p n L).length : Int) ≤ a + b; omega, by show Mat p _ (a + b).toNat _; rw [e]; exact h1.1.1, by show redM p (a + b).toNat (redM p n L) = redM p n L; rw [e]; exact redM_idem hf hm⟩
theorem kindTy_nn (k : Int) : 0 ≤ (kindTy k).1 ∧ 0 ≤ (kindTy k).2 ∧ (kindTy k).1 + (kindTy k).2 = (kdN k : Int) ∧ kdN k ≤ 4 := by
  unfold kdN kindTy
  repeat' split
  all_goals simp
def idRows (n : Nat) : List (List Int) := (List.range n).map fun i => unitV n i ++ unitV n i
def swapRows : List (List Int) := [[1, 0, 0, 1], [0, 1, 1, 0]]
def leafV (p : Int) (n : Nd) : Sys :=
  if n.1 = 1 then (n.2.1, n.2.1, idRows n.2.1.toNat) else if n.1 = 2 then (2, 2, redM p 4 swapRows)
  else ((kindTy n.1).1, (kindTy n.1).2, nullM p (kdN n.1) (leafEq p n.1 n.2.1))
def den (p : Int) : Tr → Sys
  | .leaf n => leafV p n
  | .node q a b => if q then tenV p (den p a) (den p b) else cmpV p (den p a) (den p b)
@[simp] theorem unitV_length (n i : Nat) : (unitV n i).length = n := by simp [unitV]
theorem unitV_getD {n i j : Nat} (hj : j < n) : (unitV n i).getD j 0 = if j = i then 1 else 0 := by simp [unitV, List.getD, hj]
theorem idRows_len (n : Nat) : (idRows n).length = n := by simp [idRows]
theorem idRows_en {n i j : Nat} (hi : i < n) (hj : j < n + n) : en (idRows n) i j = if j = i ∨ j = n + i then 1 else 0 := by
  have e : (idRows n).getD i [] = unitV n i ++ unitV n i := by simp [idRows, List.getD, hi]
  unfold en
  rw [e, getD_app, unitV_length]
  by_cases h : j < n
  · rw [if_pos h, unitV_getD h]
    by_cases h2 : j = i
    · rw [if_pos h2, if_pos (.inl h2)]
    · rw [if_neg h2, if_neg (by omega)]
  · rw [if_neg h, unitV_getD (by omega)]
    by_cases h2 : j - n = i
    · rw [if_pos h2, if_pos (by omega)]
    · rw [if_neg h2, if_neg (by omega)]
theorem idRows_mat {p : Int} (hp : 1 < p) (n : Nat) : Mat p n (n + n) (idRows n) := by
  refine Mat.of_get (idRows_len n) fun i hi => ?_
  have e : (idRows n).getD i [] = unitV n i ++ unitV n i := by simp [idRows, List.getD, hi]
  have hu : Res p (unitV n i) := fun x hx => by
    simp only [unitV, List.mem_map] at hx
    obtain ⟨j, _, rfl⟩ := hx
    split <;> omega
  rw [e]
  refine ⟨by simp, fun x hx => ?_⟩
  rcases List.mem_append.1 hx with h | h <;> exact hu x h
theorem idRows_red {p : Int} (hp : 1 < p) (n : Nat) : RedL p (n + n) (idRows n) := by
  have hm := idRows_mat hp n
  refine ⟨by rw [idRows_len]; exact hm, id, ?_⟩
  rw [idRows_len]
  refine ⟨fun i hi => by show i < n + n; omega, fun i hi => ?_, fun i k hi hk hne => ?_, fun i j hi hj => ?_, fun i k h _ => h, fun i j hi hj => ?_⟩
  · rw [idRows_en hi (by show i < n + n; omega), if_pos (.inl rfl)]
  · rw [idRows_en hk (by show i < n + n; omega), if_neg (by show ¬ (i = k ∨ i = n + k); omega)]
  · have hj' : j < i := hj
    rw [idRows_en hi (by omega), if_neg (by omega)]
  · rw [idRows_en hi hj]; split <;> omega
theorem swapRows_mat {p : Int} (hp : 2 ≤ p) : Mat p 2 4 swapRows := ⟨rfl, fun u hu => by
  simp only [swapRows, List.mem_cons, List.not_mem_nil, or_false] at hu
  rcases hu with rfl | rfl <;> exact ⟨rfl, fun a ha => by simp at ha; omega⟩⟩
theorem gen_of_leaf {n : Nd} (hl : leafB n = true) (h1 : n.1 ≠ 1) (h2 : n.1 ≠ 2) (h8 : n.1 ≠ 8) (h14 : n.1 ≠ 14) : genB n.1 := by
  unfold leafB at hl
  simp only [decide_eq_true_eq] at hl
  unfold genB
  omega
def okLf (p : Int) (n : Nd) : Prop := leafB n = true ∧ n.1 ≠ 8 ∧ n.1 ≠ 14 ∧ ((n.1 = 7 ∨ n.1 = 13) → n.2.1 < p)
theorem okLf.val {p : Int} {n : Nd} (hp : 2 ≤ p) (h : okLf p n) (h1 : n.1 ≠ 1) : 0 ≤ n.2.1 ∧ n.2.1 < p := by
  obtain ⟨hl, _, _, h4⟩ := h
  unfold leafB at hl
  simp only [decide_eq_true_eq] at hl
  omega
theorem leafV_ty {p : Int} {n : Nd} : (leafV p n).1 = (leafTy n).1 ∧ (leafV p n).2.1 = (leafTy n).2 := by
  unfold leafV leafTy
  by_cases h1 : n.1 = 1
  · rw [if_pos h1, if_pos h1]; exact ⟨rfl, rfl⟩
  · rw [if_neg h1, if_neg h1]
    by_cases h2 : n.1 = 2
    · rw [if_pos h2, h2]; exact ⟨rfl, rfl⟩
    · rw [if_neg h2]; exact ⟨rfl, rfl⟩
theorem leafV_ok {p : Int} {n : Nd} (hf : fieldB p = true) (h : okLf p n) : RelOk p (leafV p n) := by
  have hpb := fieldB_bounds hf
  have hfit := leaf_fit h.1
  unfold leafV
  by_cases h1 : n.1 = 1
  · rw [if_pos h1]
    unfold leafTy at hfit
    rw [if_pos h1] at hfit
    have hr := idRows_red (p := p) (by omega) n.2.1.toNat
    have e : (n.2.1 + n.2.1).toNat = n.2.1.toNat + n.2.1.toNat := by omega
    refine ⟨by show 0 ≤ n.2.1; omega, by show 0 ≤ n.2.1; omega, by show n.2.1 + n.2.1 ≤ 24; omega, hf, ?_, ?_, ?_⟩
    · show ((idRows n.2.1.toNat).length : Int) ≤ n.2.1 + n.2.1
      rw [idRows_len]; omega
    · show Mat p _ (n.2.1 + n.2.1).toNat _
      rw [e]; exact hr.1
    · show redM p (n.2.1 + n.2.1).toNat (idRows n.2.1.toNat) = _
      rw [e]; exact redM_self hf hr
  · rw [if_neg h1]
    by_cases h2 : n.1 = 2
    · rw [if_pos h2]
      exact RelOk.mk_red (n := 4) hf (by omega) (by omega) (by omega) (by omega) (swapRows_mat (by omega))
    · rw [if_neg h2]
      have hk := gen_of_leaf h.1 h1 h2 h.2.1 h.2.2.1
      have hv := h.val (by omega) h1
      rw [← leaf_null hf hk hv]
      obtain ⟨a, b, c, d⟩ := kindTy_nn n.1
      exact RelOk.mk_red hf a b c (by omega) (leafRows_mat (by omega) hk hv)
theorem cmpV_ok {p : Int} {s t : Sys} (hs : RelOk p s) (ht : RelOk p t) (_hm : s.2.1 = t.1) (h : s.1 + t.2.1 ≤ 24) : RelOk p (cmpV p s t) := by
  have h1 := hs.lo
  have h2 := ht.hi
  unfold cmpV
  exact RelOk.mk_red (n := (s.1 + t.2.1).toNat) hs.fld h1 h2 (by omega) (by omega) (pairs_mat hs ht)
theorem tenV_ok {p : Int} {s t : Sys} (hs : RelOk p s) (ht : RelOk p t) (h : s.1 + t.1 + s.2.1 + t.2.1 ≤ 24) : RelOk p (tenV p s t) := by
  have h1 := hs.lo; have h2 := ht.hi; have h3 := hs.hi; have h4 := ht.lo
  unfold tenV
  exact RelOk.mk_red hs.fld (by omega) (by omega) (by omega) (by omega) (ten_mat hs ht)
def okTr (p : Int) : Tr → Prop
  | .leaf n => okLf p n
  | .node _ a b => okTr p a ∧ okTr p b
theorem den_ok {p : Int} (hf : fieldB p = true) : ∀ {t : Tr}, wt t → okTr p t → RelOk p (den p t) ∧ (den p t).1 = (ty t).1 ∧ (den p t).2.1 = (ty t).2
  | .leaf n, _, h => ⟨leafV_ok hf h, leafV_ty.1, leafV_ty.2⟩
  | .node q a b, hw, h => by
    obtain ⟨h1, h2, h3⟩ := den_ok hf hw.1 h.1
    obtain ⟨g1, g2, g3⟩ := den_ok hf hw.2.1 h.2
    have f1 := wt_fit hw.1
    have f2 := wt_fit hw.2.1
    have hj := hw.2.2
    cases q
    · simp only [joinB, Bool.false_eq_true, if_false, decide_eq_true_eq] at hj
      simp only [den, Bool.false_eq_true, if_false, ty, joinTy]
      exact ⟨cmpV_ok h1 g1 (by omega) (by omega), by unfold cmpV; exact h2, by unfold cmpV; exact g3⟩
    · simp only [joinB, if_true, decide_eq_true_eq] at hj
      simp only [den, if_true, ty, joinTy]
      exact ⟨tenV_ok h1 g1 (by omega), by unfold tenV; show _ + _ = _; omega, by unfold tenV; show _ + _ = _; omega⟩
theorem base_red {p k v : Int} (hp : 2 ≤ p) (hk : k = 3 ∨ k = 4 ∨ k = 5 ∨ k = 6 ∨ k = 7) (hv : 0 ≤ v ∧ v < p) : RedL p (kdN k) (leafRows k v) := by
  have hg : genB k := by unfold genB; omega
  refine ⟨leafRows_mat hp hg hv, id, ?_⟩
  rcases hk with rfl | rfl | rfl | rfl | rfl
  · have e : ∀ i, i < 1 → i = 0 := fun i h => by omega
    refine ⟨fun i hi => ?_, fun i hi => ?_, fun i k hi hk hne => ?_, fun i j hi hj => ?_, fun i k h hk => h, fun i j hi hj => ?_⟩
    · obtain rfl := e i hi; decide
    · obtain rfl := e i hi; rfl
    · have := e i hi; have := e k hk; omega
    · have := e i hi; have : j < i := hj; omega
    · obtain rfl := e i hi
      have : j = 0 ∨ j = 1 ∨ j = 2 := by have : j < 3 := hj; omega
      rcases this with rfl | rfl | rfl <;> exact ⟨by show (0 : Int) ≤ 1; omega, by show (1 : Int) < p; omega⟩
  · have e : ∀ i, i < 1 → i = 0 := fun i h => by omega
    refine ⟨fun i hi => ?_, fun i hi => ?_, fun i k hi hk hne => ?_, fun i j hi hj => ?_, fun i k h hk => h, fun i j hi hj => ?_⟩
    · obtain rfl := e i hi; decide
    · obtain rfl := e i hi; rfl
    · have := e i hi; have := e k hk; omega
    · have := e i hi; have : j < i := hj; omega
    · obtain rfl := e i hi
      obtain rfl : j = 0 := by have : j < 1 := hj; omega
      exact ⟨by show (0 : Int) ≤ 1; omega, by show (1 : Int) < p; omega⟩
  · have e : ∀ i, i < 2 → i = 0 ∨ i = 1 := fun i h => by omega
    refine ⟨fun i hi => ?_, fun i hi => ?_, fun i k hi hk hne => ?_, fun i j hi hj => ?_, fun i k h hk => h, fun i j hi hj => ?_⟩
    · rcases e i hi with rfl | rfl <;> decide
    · rcases e i hi with rfl | rfl <;> rfl
    · rcases e i hi with rfl | rfl <;> rcases e k hk with rfl | rfl <;> first | rfl | omega
    · have hj' : j < i := hj
      rcases e i hi with rfl | rfl
      · omega
      · obtain rfl : j = 0 := by omega
        rfl
    · have : j = 0 ∨ j = 1 ∨ j = 2 := by have : j < 3 := hj; omega
      rcases e i hi with rfl | rfl <;> rcases this with rfl | rfl | rfl <;> first | exact ⟨by show (0 : Int) ≤ 1; omega, by show (1 : Int) < p; omega⟩ | exact ⟨by show (0 : Int) ≤ 0; omega, by show (0 : Int) < p; omega⟩
  · refine ⟨fun i hi => ?_, fun i hi => ?_, fun i k hi hk hne => ?_, fun i j hi hj => ?_, fun i k h hk => h, fun i j hi hj => ?_⟩ <;> exact absurd hi (Nat.not_lt_zero i)
  · have e : ∀ i, i < 1 → i = 0 := fun i h => by omega
    refine ⟨fun i hi => ?_, fun i hi => ?_, fun i k hi hk hne => ?_, fun i j hi hj => ?_, fun i k h hk => h, fun i j hi hj => ?_⟩
    · obtain rfl := e i hi; decide
    · obtain rfl := e i hi; rfl
    · have := e i hi; have := e k hk; omega
    · have := e i hi; have : j < i := hj; omega
    · obtain rfl := e i hi
      have : j = 0 ∨ j = 1 := by have : j < 2 := hj; omega
      rcases this with rfl | rfl
      · exact ⟨by show (0 : Int) ≤ 1; omega, by show (1 : Int) < p; omega⟩
      · exact hv
theorem conv_leaf {p k v : Int} (hf : fieldB p = true) (hk : k = 9 ∨ k = 10 ∨ k = 11 ∨ k = 12 ∨ k = 13) (hv : 0 ≤ v ∧ v < p) :
    convM p ((kindTy (k - 6)).1, (kindTy (k - 6)).2, redM p (kdN (k - 6)) (leafRows (k - 6) v)) = ((kindTy k).1, (kindTy k).2, nullM p (kdN k) (leafEq p k v)) := by
  have hpb := fieldB_bounds hf
  have hg : genB k := by unfold genB; omega
  rw [redM_self hf (base_red (by omega) (by omega) hv), ← leaf_null hf hg hv]
  rcases hk with rfl | rfl | rfl | rfl | rfl <;> rfl
end Go.Proofs.YtahnhblodfdfhaaDoor
namespace Go.Proofs.YtahnhblodfdfhaaDoor
open Go.RowKit
abbrev tNd : TypeId := 69
def nc (n : Nd) : List Value := [.int .i64 n.1, .int .i64 n.2.1, .string n.2.2]
def ncs : List Nd → List Value
  | [] => []
  | n :: r => nc n ++ ncs r
@[simp] theorem ncs_length (l : List Nd) : (ncs l).length = l.length * 3 := by
  induction l with
  | nil => rfl
  | cons n r ih => simp only [ncs, nc, List.length_append, List.length_cons, List.length_nil, ih]; omega
theorem ncs_get {l : List Nd} {j : Nat} {n : Nd} (h : l[j]? = some n) : (ncs l)[j * 3]? = some (.int .i64 n.1) ∧ (ncs l)[j * 3 + 1]? = some (.int .i64 n.2.1) ∧ (ncs l)[j * 3 + 2]? = some (.string n.2.2) := by
  induction l generalizing j with
  | nil => simp at h
  | cons a r ih =>
    cases j with
    | zero =>
      obtain rfl : a = n := by simpa using h
      simp [ncs, nc]
    | succ j =>
      have := ih (j := j) (by simpa using h)
      have hl : (nc a).length = 3 := rfl
      simp only [ncs]
      rw [List.getElem?_append_right (by omega), List.getElem?_append_right (by omega), List.getElem?_append_right (by omega), hl]
      rw [show (j + 1) * 3 - 3 = j * 3 by omega, show (j + 1) * 3 + 1 - 3 = j * 3 + 1 by omega, show (j + 1) * 3 + 2 - 3 = j * 3 + 2 by omega]
      exact this
theorem ncs_set {l : List Nd} {j : Nat} (n : Nd) (h : j < l.length) : (((ncs l).set (j * 3) (.int .i64 n.1)).set (j * 3 + 1) (.int .i64 n.2.1)).set (j * 3 + 2) (.string n.2.2) = ncs (l.set j n) := by
  induction l generalizing j with
  | nil => simp at h
  | cons a r ih =>
    cases j with
    | zero => simp [ncs, nc]
    | succ j =>
      have := ih (j := j) (by simpa using h)
      have hl : (nc a).length = 3 := rfl
      simp only [ncs, nS3]
      rw [List.set_append_right _ _ (by omega), List.set_append_right _ _ (by omega), List.set_append_right _ _ (by omega), hl]
      rw [show (j + 1) * 3 - 3 = j * 3 by omega, show (j + 1) * 3 + 1 - 3 = j * 3 + 1 by omega, show (j + 1) * 3 + 2 - 3 = j * 3 + 2 by omega]
      rw [this]
def RdN (w : World) (A : Option Addr) (l : List Nd) : Prop := RdC w A (ncs l)
def NS (w : World) (A : Option Addr) (cap : Nat) (l : List Nd) : Prop := Sl w tNd 3 A l.length cap (ncs l)
section
variable {w w' : World} {A : Option Addr} {cap : Nat} {l : List Nd}
theorem add_next (ad : Addr) (n i : Nat) (hi : 0 < i) : ad.add (n + i) = ⟨(ad.add n).block, (ad.add n).off + i, none⟩ := by
  unfold Addr.add
  have : ¬ n + i = 0 := by omega
  rw [if_neg this]
  by_cases h : n = 0 <;> simp [h, Nat.add_assoc]
theorem RdN.at_ (h : RdN w A l) {j : Nat} (hj : j < l.length) : ∃ ad k v s, A = some ad ∧ l[j]? = some (k, v, s) ∧ w.cell? (ad.add (j * 3)) = some (.int .i64 k) ∧ w.cell? ⟨(ad.add (j * 3)).block, (ad.add (j * 3)).off + 1, none⟩ = some (.int .i64 v) ∧ w.cell? ⟨(ad.add (j * 3)).block, (ad.add (j * 3)).off + 2, none⟩ = some (.string s) := by
  obtain ⟨n, hn⟩ : ∃ n, l[j]? = some n := ⟨_, List.getElem?_eq_getElem hj⟩
  obtain ⟨h0, h1, h2⟩ := ncs_get hn
  obtain ⟨ad, hA, c0⟩ := h _ _ h0
  obtain ⟨ad1, hA1, c1⟩ := h _ _ h1
  obtain ⟨ad2, hA2, c2⟩ := h _ _ h2
  rw [hA] at hA1 hA2
  obtain rfl := Option.some.inj hA1
  obtain rfl := Option.some.inj hA2
  obtain ⟨k, v, s⟩ := n
  rw [add_next _ _ 1 (by omega)] at c1
  rw [add_next _ _ 2 (by omega)] at c2
  exact ⟨ad, k, v, s, hA, hn, c0, c1, c2⟩
theorem RdN.below (h : RdN w A l) (hb : Below w.heap.size w w') : RdN w' A l := RdC.below h hb
theorem RdN.nil (w : World) (A : Option Addr) : RdN w A [] := RdC.nil w A
theorem NS.rd (h : NS w A cap l) : RdN w A l := Sl.rdc h
theorem NS.below (h : NS w A cap l) (hb : Below w.heap.size w w') : NS w' A cap l := Sl.below h hb
theorem NS.keeps (h : NS w A cap l) {S : Nat → Prop} (hk : Keeps S w w') (hS : ∀ b, b ∈ fpA A → ¬ S b) : NS w' A cap l := Sl.keeps h hk hS
theorem NS.lt (h : NS w A cap l) : ∀ b, b ∈ fpA A → b < w.heap.size := Sl.lt h
theorem NS.at_ (h : NS w A cap l) {j : Nat} (hj : j < l.length) : ∃ ad, A = some ad ∧ ad.block < w.heap.size ∧ ∀ k, w.frozen? (ad.add k) = false := by
  obtain ⟨n, hn⟩ : ∃ n, l[j]? = some n := ⟨_, List.getElem?_eq_getElem hj⟩
  obtain ⟨ad, hA, hb, _, hf⟩ := Sl.cell h (ncs_get hn).1
  exact ⟨ad, hA, hb, hf⟩
end
def RdTm (w : World) (v : Value) (l : List Nd) : Prop := ∃ A cap, v = .agg #[.slice A l.length cap] ∧ RdN w A l
def OwTm (w : World) (v : Value) (l : List Nd) (fp : List Nat) : Prop := ∃ A cap, v = .agg #[.slice A l.length cap] ∧ NS w A cap l ∧ fp = fpA A
section
variable {w w' : World} {v : Value} {l : List Nd} {fp : List Nat}
theorem RdTm.below (h : RdTm w v l) (hb : Below w.heap.size w w') : RdTm w' v l := by obtain ⟨A, c, rfl, h⟩ := h; exact ⟨A, c, rfl, h.below hb⟩
theorem OwTm.rd (h : OwTm w v l fp) : RdTm w v l := by obtain ⟨A, c, rfl, h, _⟩ := h; exact ⟨A, c, rfl, h.rd⟩
theorem OwTm.below (h : OwTm w v l fp) (hb : Below w.heap.size w w') : OwTm w' v l fp := by obtain ⟨A, c, rfl, h, e⟩ := h; exact ⟨A, c, rfl, h.below hb, e⟩
theorem OwTm.keeps (h : OwTm w v l fp) {S : Nat → Prop} (hk : Keeps S w w') (hS : ∀ b, b ∈ fp → ¬ S b) : OwTm w' v l fp := by
  obtain ⟨A, c, rfl, h, rfl⟩ := h; exact ⟨A, c, rfl, h.keeps hk hS, rfl⟩
theorem OwTm.lt (h : OwTm w v l fp) : LtL w.heap.size fp := by obtain ⟨A, c, rfl, h, rfl⟩ := h; exact h.lt
end
end Go.Proofs.YtahnhblodfdfhaaDoor
namespace Go.Proofs.YtahnhblodfdfhaaDoor
open Go.RowKit
def t_inB (n lo hi : Int) : Bool := decide (lo ≤ n ∧ n ≤ hi)
def hvB (k : Int) : Bool := decide (k = 7 ∨ k = 13)
def gvB (k v : Int) : Bool := if hvB k then t_inB v 0 96 else decide (v = 0)
theorem t_within_any (n lo hi : Int) (w : World) :
    Calls Tryd.prog 102 #[.int .i64 n, .int .i64 lo, .int .i64 hi] w fun e w' => e = .returned (.bool (t_inB n lo hi)) ∧ w' = w := by
  go_enter Tryd.func102, Tryd.ntmps102
  go_wp2
  all_goals go_ret
  all_goals (refine ⟨ret_bool ?_, rfl⟩; unfold t_inB; simp; try omega)
theorem t_l1In_any (n lo hi : Int) (w : World) :
    Calls Tryd.prog 96 #[.int .i64 n, .int .i64 lo, .int .i64 hi] w fun e w' => e = .returned (.bool (t_inB n lo hi)) ∧ w' = w := by
  go_enter Tryd.func96, Tryd.ntmps96
  go_wp2
  all_goals go_ret
  all_goals (refine ⟨ret_bool ?_, rfl⟩; unfold t_inB; simp; try omega)
theorem hasValue_any (k : Int) (w : World) :
    Calls Tryd.prog 165 #[.int .i64 k] w fun e w' => e = .returned (.bool (hvB k)) ∧ w' = w := by
  go_enter Tryd.func165, Tryd.ntmps165
  go_wp2
  all_goals go_ret
  all_goals (refine ⟨ret_bool ?_, rfl⟩; unfold hvB; by_cases h7 : k = 7 <;> by_cases h13 : k = 13 <;> simp_all)
theorem isGenerator_any (k : Int) (w : World) :
    Calls Tryd.prog 194 #[.int .i64 k] w fun e w' => e = .returned (.bool (t_inB k 3 14)) ∧ w' = w := by
  go_enter Tryd.func194, Tryd.ntmps194
  go_wp2_with (fail)
  refine (t_within_any _ _ _ _).mono ?_
  rintro e w' ⟨rfl, rfl⟩
  go_wp2_with (fail)
  go_ret
  exact ⟨rfl, rfl⟩
theorem isGeneratorValue_any (k v : Int) (w : World) :
    Calls Tryd.prog 195 #[.int .i64 k, .int .i64 v] w fun e w' => e = .returned (.bool (gvB k v)) ∧ w' = w := by
  have hb := hasValue_any k w
  unfold gvB
  cases hk : hvB k
  · rw [hk] at hb
    have HB := Lib.hid hb; clear hb hk
    go_enter Tryd.func195, Tryd.ntmps195
    go_wp2_with (fail)
    refine HB.out.mono ?_
    rintro e w' ⟨rfl, rfl⟩
    go_wp2_with (fail)
    go_ret
    exact ⟨rfl, rfl⟩
  · rw [hk] at hb
    have HB := Lib.hid hb; clear hb hk
    go_enter Tryd.func195, Tryd.ntmps195
    go_wp2_with (fail)
    refine HB.out.mono ?_
    rintro e w' ⟨rfl, rfl⟩
    go_wp2_with (fail)
    refine (t_within_any _ _ _ _).mono ?_
    rintro e w' ⟨rfl, rfl⟩
    go_wp2_with (fail)
    go_ret
    exact ⟨rfl, rfl⟩
end Go.Proofs.YtahnhblodfdfhaaDoor
namespace Go.Proofs.YtahnhblodfdfhaaDoor
open Go.RowKit
set_option maxHeartbeats 1600000 in
theorem generatorWires_any (k : Int) (w : World) (h1 : 3 ≤ k) (h2 : k ≤ 14) :
    Calls Tryd.prog 169 #[.int .i64 k] w fun e w' => e = .returned (.agg #[.int .i64 (kindTy k).1, .int .i64 (kindTy k).2]) ∧ Below w.heap.size w w' := by
  have hc : k = 3 ∨ k = 4 ∨ k = 5 ∨ k = 6 ∨ k = 7 ∨ k = 8 ∨ k = 9 ∨ k = 10 ∨ k = 11 ∨ k = 12 ∨ k = 13 ∨ k = 14 := by omega
  rcases hc with rfl | rfl | rfl | rfl | rfl | rfl | rfl | rfl | rfl | rfl | rfl | rfl
  all_goals
    clear h1 h2
    go_enter Tryd.func169, Tryd.ntmps169
    go_wp2_with (fail)
    refine bodyPost_ret (v := .agg #[.int .i64 (kindTy _).1, .int .i64 (kindTy _).2]) (by simp [results, Tryd.results169, go_sem]; exact ⟨rfl, rfl⟩) rfl ⟨rfl, ?_⟩
    first
    | exact ((Below.refl _ _).alloc (Nat.le_refl _) _).alloc (by simp) _
    | exact (((Below.refl _ _).alloc (Nat.le_refl _) _).alloc (by simp) _).alloc (by simp; omega) _
end Go.Proofs.YtahnhblodfdfhaaDoor
namespace Go.Proofs.YtahnhblodfdfhaaDoor
open Go.RowKit
theorem name_yes {s : ByteArray} (h : (!s.toList.isEmpty) = false) : s = noName := by
  have h1 : s.toList = [] := by simpa using h
  have h2 : s.data.toList = [] := by rw [← h1]; exact (ByteArray.toList_eq s).symm ▸ rfl
  have h3 : s.data = #[] := by simpa using h2
  cases s; simp_all [noName]
theorem name_no {s : ByteArray} (h : (!s.toList.isEmpty) = true) : s ≠ noName := by
  rintro rfl
  have e : noName.toList = [] := by rw [ByteArray.toList_eq]; rfl
  rw [e] at h
  cases h
theorem t_box2 {w : World} {B : Nat} {x y : Value} {t : TypeId} (h : w.heap[B]? = some (.cells #[x, y] t)) :
    (w.cell? ⟨B, 0, none⟩ = some x ∧ w.cell? ⟨B, 1, none⟩ = some y) ∧ (w.frozen? ⟨B, 0, none⟩ = false ∧ w.frozen? ⟨B, 1, none⟩ = false) := by
  refine ⟨⟨?_, ?_⟩, ?_, ?_⟩ <;> simp [World.cell?, World.frozen?, h]
theorem t_box3 {w : World} {B : Nat} {x y z : Value} {t : TypeId} (h : w.heap[B]? = some (.cells #[x, y, z] t)) :
    (w.cell? ⟨B, 0, none⟩ = some x ∧ w.cell? ⟨B, 1, none⟩ = some y ∧ w.cell? ⟨B, 2, none⟩ = some z) ∧ (w.frozen? ⟨B, 0, none⟩ = false ∧ w.frozen? ⟨B, 1, none⟩ = false ∧ w.frozen? ⟨B, 2, none⟩ = false) := by
  refine ⟨⟨?_, ?_, ?_⟩, ?_, ?_, ?_⟩ <;> simp [World.cell?, World.frozen?, h]
theorem t_below_alloc (w : World) (o : Obj) : Below w.heap.size w (w.alloc o) := (Below.refl _ _).alloc (Nat.le_refl _) _
theorem below_drew {B : Nat} {a w : World} (h : Below B a w) : Below B a w.drew := below_drewN h 1
theorem t_box_below {w w' : World} {B : Nat} {o : Obj} (h : w.heap[B]? = some o) (hb : Below w.heap.size w w') : w'.heap[B]? = some o := (hb.block B (Array.getElem?_eq_some_iff.1 h).1).trans h
theorem t_box_keeps {w w' : World} {S : Nat → Prop} {B : Nat} {o : Obj} (h : w.heap[B]? = some o) (hk : Keeps S w w') (hS : ¬ S B) : w'.heap[B]? = some o := (hk.block B (Array.getElem?_eq_some_iff.1 h).1 hS).trans h
theorem t_box_lt {w : World} {B : Nat} {o : Obj} (h : w.heap[B]? = some o) : B < w.heap.size := (Array.getElem?_eq_some_iff.1 h).1
theorem two_boxes (w : World) (o o' : Obj) : Below w.heap.size w ((w.alloc o).alloc o') ∧ ((w.alloc o).alloc o').heap[w.heap.size]? = some o ∧ ((w.alloc o).alloc o').heap[w.heap.size + 1]? = some o' ∧ ((w.alloc o).alloc o').heap.size = w.heap.size + 2 := by
  refine ⟨((Below.refl _ _).alloc (Nat.le_refl _) _).alloc (by simp) _, t_box_below (heap_alloc_new w o) (t_below_alloc _ _), ?_, by simp⟩
  have := heap_alloc_new (w.alloc o) o'
  rwa [World.size_alloc] at this
theorem t_set2 {w : World} {B : Nat} {t : TypeId} {x y a b : Value} (h : w.heap[B]? = some (.cells #[x, y] t)) : ((w.setCell ⟨B, 0, none⟩ a).setCell ⟨B, 1, none⟩ b).heap[B]? = some (.cells #[a, b] t) ∧ Keeps (· = B) w ((w.setCell ⟨B, 0, none⟩ a).setCell ⟨B, 1, none⟩ b) := by
  refine ⟨by simp [World.setCell, Array.getElem?_modify, h], ?_⟩
  exact (((Keeps.refl (fun x => x = B) w).setCell (p := ⟨B, 0, none⟩) rfl _).setCell (p := ⟨B, 1, none⟩) rfl _)
theorem t_results_cell_tmp {P : Program} {fn : Func} {p u : Tmp} {ty : TypeId} (h : fn.results = #[.cell p ty, .tmp u]) (tmps : Array Value) (w : World) (g : Nat) (t : TypeId) (cs : Array Value) (fr : Nat × Nat) (d : TypeDesc)
    (hp : tmps.getD p undef = .pointer (some ⟨g, 0, none⟩)) (hg : w.heap[g]? = some (.cells cs t fr))
    (hu : P.underlying ty = some d) (hd : (match d with | .struct _ | .array _ _ => true | _ => false) = true) (hi : (P.info? ty).map (·.size) = some cs.size) :
    (results fn tmps).run P w = .ok (.tuple #[.agg cs, tmps.getD u undef]) w := by
  have hp' : tmps[p]?.getD undef = .pointer (some ⟨g, 0, none⟩) := by simpa using hp
  simp [results, h, hp', asAddr, run_loadVar_row w g t ty cs fr d hg hu hd hi]
abbrev tWires : TypeId := 182
def LfA (k v : Int) (s : ByteArray) (w : World) (e : Ending) (w' : World) : Prop :=
  ∃ (i o : Int) (b : Bool), e = .returned (.tuple #[.agg #[.int .i64 i, .int .i64 o], .bool b]) ∧ b = leafB (k, v, s) ∧ (b = true → (i, o) = leafTy (k, v, s)) ∧ Below w.heap.size w w'
set_option maxRecDepth 8000 in
set_option maxHeartbeats 1000000 in
theorem leafWires_any (k v : Int) (s : ByteArray) (w : World) :
    Calls Tryd.prog 197 #[.agg #[.int .i64 k, .int .i64 v, .string s]] w (LfA k v s w) := by
  go_enter Tryd.func197, Tryd.ntmps197
  go_wp2_with (fail)
  · refine bodyPost_ret (v := .tuple #[.agg #[.int .i64 0, .int .i64 0], .bool false]) (by simp [results, Tryd.results197, go_sem]) rfl ⟨_, _, _, rfl, ?_, fun h => (by cases h), ((Below.refl _ _).alloc (Nat.le_refl _) _).alloc (by simp) _⟩
    have hn := name_no ‹_›
    simp [leafB, hn]
  · have hn := name_yes ‹_›
    have hk : k = 1 := by simpa using (‹(k == 1) = true›)
    subst hk hn
    refine tailD 8 (by kernel_rfl) (by kernel_rfl) ?_
    simp only [List.take_succ_cons, List.take_zero, List.drop_succ_cons, List.drop_zero]
    repeat still_step
    still_call (t_within_any _ _ _ _)
    refine wpStill_nil ?_
    go_wp2_with (fail)
    refine bodyPost_ret (v := .tuple #[.agg #[.int .i64 v, .int .i64 v], .bool (t_inB v 0 12)]) (by simp [results, Tryd.results197, go_sem]) rfl ⟨_, _, _, rfl, ?_, fun h => rfl, below_drew (((Below.refl _ _).alloc (Nat.le_refl _) _).alloc (by simp) _)⟩
    simp [leafB, t_inB]
  · have hn := name_yes ‹_›
    have hk : k = 2 := by simpa using (‹(k == 2) = true›)
    subst hk hn
    obtain ⟨W, hW⟩ : ∃ W, W = (w.alloc (.cells #[.int .i64 2, .int .i64 v, .string noName] 69)).alloc (.cells #[.int .i64 0, .int .i64 0] tWires) := ⟨_, rfl⟩
    obtain ⟨b0, k0, k1, hz⟩ := two_boxes w (.cells #[.int .i64 2, .int .i64 v, .string noName] 69) (.cells #[.int .i64 0, .int .i64 0] tWires)
    rw [← hW] at b0 k0 k1 hz ⊢
    clear hW
    have k0d : W.drew.heap[w.heap.size]? = some (.cells #[.int .i64 2, .int .i64 v, .string noName] 69) := k0
    have k1d : W.drew.heap[w.heap.size + 1]? = some (.cells #[.int .i64 0, .int .i64 0] tWires) := k1
    have b0d := below_drew b0
    refine beginH (fun w' => w'.heap[w.heap.size]? = some (.cells #[.int .i64 2, .int .i64 v, .string noName] 69)) (by kernel_rfl) ?_
    clear b0 k0 k1 hz
    generalize W.drew = W1 at k0d k1d b0d ⊢
    obtain ⟨s1, s2⟩ := t_set2 (a := .int .i64 2) (b := .int .i64 2) k1d
    have k0s := t_box_keeps k0d s2 (by omega)
    have hB2 := below_keeps b0d s2 b0d.size (fun k hk => by omega)
    obtain ⟨⟨c0, c1⟩, f0, f1⟩ := t_box2 k1d
    have k0d_h := Lib.hid k0d; have k1d_h := Lib.hid k1d; have s1_h := Lib.hid s1; have s2_h := Lib.hid s2; have k0s_h := Lib.hid k0s; have hB2_h := Lib.hid hB2; clear k0d k1d s1 s2 k0s hB2
    refine takeH 0 (v := ?_) rfl (by kernel_rfl) (by kernel_rfl) (by kernel_rfl) (fun _ _ _ h => h) k0d_h.out (by rfl) (fun W' hW' => ?_) ?_; rotate_left; · (obtain ⟨⟨c0, c1, c2⟩, f0, f1, f2⟩ := t_box3 hW'; clear hW'; go_simp; first | done | with_reducible rfl)
    simp only [Act.put, nS1, nS2, nS3]
    refine takeH 1 (v := ?_) rfl (by kernel_rfl) (by kernel_rfl) (by kernel_rfl) (fun _ _ _ h => h) k0d_h.out (by rfl) (fun W' hW' => ?_) ?_; rotate_left; · (obtain ⟨⟨c0, c1, c2⟩, f0, f1, f2⟩ := t_box3 hW'; clear hW'; go_simp; first | done | with_reducible rfl)
    simp only [Act.put, nS1, nS2, nS3]
    refine takeH 2 (v := ?_) rfl (by kernel_rfl) (by kernel_rfl) (by kernel_rfl) (fun _ _ _ h => h) k0d_h.out (by rfl) (fun W' hW' => ?_) ?_; rotate_left; · (obtain ⟨⟨c0, c1, c2⟩, f0, f1, f2⟩ := t_box3 hW'; clear hW'; go_simp; first | done | with_reducible rfl)
    simp only [Act.put, nS1, nS2, nS3]
    refine takeH 3 (v := ?_) rfl (by kernel_rfl) (by kernel_rfl) (by kernel_rfl) (fun _ _ _ h => h) k0d_h.out (by rfl) (fun W' hW' => ?_) ?_; rotate_left; · (obtain ⟨⟨c0, c1, c2⟩, f0, f1, f2⟩ := t_box3 hW'; clear hW'; go_simp; first | done | with_reducible rfl)
    simp only [Act.put, nS1, nS2, nS3]
    refine oneH 4 rfl (by kernel_rfl) (by rfl) (fun K hK => ?_)
    go_simp
    refine hK _ _ k0s_h.out ?_
    clear hK K
    refine takeH 5 (v := ?_) rfl (by kernel_rfl) (by kernel_rfl) (by kernel_rfl) (fun _ _ _ h => h) k0s_h.out (by rfl) (fun W' hW' => ?_) ?_; rotate_left; · (skip; clear hW'; go_simp; first | done | with_reducible rfl)
    simp only [Act.put, nS1, nS2, nS3]
    refine doneH (by kernel_rfl) ?_
    go_wp2_with (fail)
    refine bodyPost_ret (t_results_cell_tmp rfl _ _ (w.heap.size + 1) _ _ (0, 0) _ rfl s1_h.out Tryd.underlying182 rfl (by kernel_rfl)) rfl ?_
    refine ⟨_, _, (v == 0), rfl, ?_, fun _ => rfl, hB2_h.out⟩
    by_cases h0 : v = 0 <;> simp [leafB, h0]
  · have hn := name_yes ‹_›
    have h1 : ¬ k = 1 := by simpa using (‹(k == 1) = false›)
    have h2 : ¬ k = 2 := by simpa using (‹(k == 2) = false›)
    subst hn
    refine (isGenerator_any _ _).mono ?_
    rintro e w' ⟨rfl, rfl⟩
    cases hg : t_inB k 3 14
    · have HG := Lib.hid hg
      clear hg
      go_wp2_with (fail)
      refine bodyPost_ret (v := .tuple #[.agg #[.int .i64 0, .int .i64 0], .bool false]) (by simp [results, Tryd.results197, go_sem]) rfl ⟨_, _, _, rfl, ?_, fun h => (by cases h), ((Below.refl _ _).alloc (Nat.le_refl _) _).alloc (by simp) _⟩
      have : ¬ (3 ≤ k ∧ k ≤ 14) := by simpa [t_inB] using HG.out
      simp [leafB]
      omega
    · have hgb : 3 ≤ k ∧ k ≤ 14 := by simpa [t_inB] using hg
      have hG := generatorWires_any k
      have HG := Lib.hid (fun w => hG w hgb.1 hgb.2)
      have hg_h := Lib.hid hg; have h1_h := Lib.hid h1; have h2_h := Lib.hid h2; have hgb_h := Lib.hid hgb; clear hg h1 h2 hgb; clear hG
      go_wp2_with (fail)
      obtain ⟨W, hW⟩ : ∃ W, W = (w.alloc (.cells #[.int .i64 k, .int .i64 v, .string noName] 69)).alloc (.cells #[.int .i64 0, .int .i64 0] tWires) := ⟨_, rfl⟩
      obtain ⟨b0, k0, k1, hz⟩ := two_boxes w (.cells #[.int .i64 k, .int .i64 v, .string noName] 69) (.cells #[.int .i64 0, .int .i64 0] tWires)
      rw [← hW] at b0 k0 k1 hz ⊢
      clear hW
      have k0d : W.drew.heap[w.heap.size]? = some (.cells #[.int .i64 k, .int .i64 v, .string noName] 69) := k0
      have b0_h := Lib.hid b0; have k1_h := Lib.hid k1; have hz_h := Lib.hid hz; have k0_h := Lib.hid k0; have k0d_h := Lib.hid k0d; clear b0 k1 hz k0 k0d
      refine beginH (fun w' => w'.heap[w.heap.size]? = some (.cells #[.int .i64 k, .int .i64 v, .string noName] 69)) (by kernel_rfl) ?_
      refine takeH 0 (v := ?_) rfl (by kernel_rfl) (by kernel_rfl) (by kernel_rfl) (fun _ _ _ h => h) k0d_h.out (by rfl) (fun W' hW' => ?_) ?_; rotate_left; · (obtain ⟨⟨c0, c1, c2⟩, f0, f1, f2⟩ := t_box3 hW'; clear hW'; go_simp; first | done | with_reducible rfl)
      simp only [Act.put, nS1, nS2, nS3]
      refine takeH 1 (v := ?_) rfl (by kernel_rfl) (by kernel_rfl) (by kernel_rfl) (fun _ _ _ h => h) k0d_h.out (by rfl) (fun W' hW' => ?_) ?_; rotate_left; · (obtain ⟨⟨c0, c1, c2⟩, f0, f1, f2⟩ := t_box3 hW'; clear hW'; go_simp; first | done | with_reducible rfl)
      simp only [Act.put, nS1, nS2, nS3]
      refine takeH 3 (v := ?_) rfl (by kernel_rfl) (by kernel_rfl) (by kernel_rfl) (fun _ _ _ h => h) k0d_h.out (by rfl) (fun W' hW' => ?_) ?_; rotate_left; · (obtain ⟨⟨c0, c1, c2⟩, f0, f1, f2⟩ := t_box3 hW'; clear hW'; go_simp; first | done | with_reducible rfl)
      simp only [Act.put, nS1, nS2, nS3]
      refine takeH 4 (v := ?_) rfl (by kernel_rfl) (by kernel_rfl) (by kernel_rfl) (fun _ _ _ h => h) k0d_h.out (by rfl) (fun W' hW' => ?_) ?_; rotate_left; · (obtain ⟨⟨c0, c1, c2⟩, f0, f1, f2⟩ := t_box3 hW'; clear hW'; go_simp; first | done | with_reducible rfl)
      simp only [Act.put, nS1, nS2, nS3]
      refine takeH 5 (v := ?_) rfl (by kernel_rfl) (by kernel_rfl) (by kernel_rfl) (fun _ _ _ h => h) k0d_h.out (by rfl) (fun W' hW' => ?_) ?_; rotate_left; · (obtain ⟨⟨c0, c1, c2⟩, f0, f1, f2⟩ := t_box3 hW'; clear hW'; go_simp; first | done | with_reducible rfl)
      simp only [Act.put, nS1, nS2, nS3]
      refine takeH 6 (v := ?_) rfl (by kernel_rfl) (by kernel_rfl) (by kernel_rfl) (fun _ _ _ h => h) k0d_h.out (by rfl) (fun W' hW' => ?_) ?_; rotate_left; · (obtain ⟨⟨c0, c1, c2⟩, f0, f1, f2⟩ := t_box3 hW'; clear hW'; go_simp; first | done | with_reducible rfl)
      simp only [Act.put, nS1, nS2, nS3]
      refine' callH 2 (f := _) (args := _) rfl (by kernel_rfl) (by rfl) ?_ ?_; rotate_left 2; · (go_simp; first | done | with_reducible rfl | (constructor <;> with_reducible rfl))
      refine (HG.out _).mono ?_
      rintro e w' ⟨rfl, hb1⟩
      have hb1' : Below W.heap.size W w' := below_trans (below_drew (Below.refl _ _)) hb1 (Nat.le_refl _)
      have k0' := t_box_below k0_h.out hb1'
      have k1' := t_box_below k1_h.out hb1'
      refine ⟨_, rfl, k0', ?_⟩
      have hB1 := below_trans b0_h.out hb1' b0_h.out.size
      obtain ⟨s1, s2⟩ := t_set2 (a := .int .i64 (kindTy k).1) (b := .int .i64 (kindTy k).2) k1'
      have k0s := t_box_keeps k0' s2 (by omega)
      have hB2 := below_keeps hB1 s2 hB1.size (fun k hk => by omega)
      obtain ⟨⟨c0, c1⟩, f0, f1⟩ := t_box2 k1'
      have k0'_h := Lib.hid k0'; have k1'_h := Lib.hid k1'; have hB1_h := Lib.hid hB1; have s1_h := Lib.hid s1; have s2_h := Lib.hid s2; have k0s_h := Lib.hid k0s; have hB2_h := Lib.hid hB2; have hb1_h := Lib.hid hb1; have hb1'_h := Lib.hid hb1'; clear k0' k1' hB1 s1 s2 k0s hB2 hb1 hb1'
      simp only [Act.put, nS1, nS2, nS3]
      refine' callH 7 (f := _) (args := _) rfl (by kernel_rfl) (by rfl) ?_ ?_; rotate_left 2; · (go_simp; first | done | with_reducible rfl | (constructor <;> with_reducible rfl))
      refine (isGeneratorValue_any _ _ _).mono ?_
      rintro e w' ⟨rfl, rfl⟩
      refine ⟨_, rfl, k0'_h.out, ?_⟩
      simp only [Act.put, nS1, nS2, nS3]
      refine oneH 8 rfl (by kernel_rfl) (by rfl) (fun K hK => ?_)
      go_simp
      refine hK _ _ k0s_h.out ?_
      clear hK K
      refine takeH 9 (v := ?_) rfl (by kernel_rfl) (by kernel_rfl) (by kernel_rfl) (fun _ _ _ h => h) k0s_h.out (by rfl) (fun W' hW' => ?_) ?_; rotate_left; · (skip; clear hW'; go_simp; first | done | with_reducible rfl)
      simp only [Act.put, nS1, nS2, nS3]
      refine doneH (by kernel_rfl) ?_
      go_wp2_with (fail)
      refine bodyPost_ret (t_results_cell_tmp rfl _ _ (w.heap.size + 1) _ _ (0, 0) _ rfl s1_h.out Tryd.underlying182 rfl (by kernel_rfl)) rfl ?_
      refine ⟨_, _, _, rfl, ?_, fun _ => ?_, hB2_h.out⟩
      · have a1 := h1_h.out
        have a2 := h2_h.out
        have a3 := hgb_h.out
        show gvB k v = leafB (k, v, noName)
        rw [Bool.eq_iff_iff]
        simp only [gvB, hvB, t_inB, leafB, decide_eq_true_eq]
        by_cases h7 : k = 7 ∨ k = 13
        · simp only [h7, if_true, decide_eq_true_eq, true_and]; omega
        · simp only [h7, if_false, decide_eq_true_eq, true_and, false_and, false_or]; omega
      · have := h1_h.out
        simp [leafTy, this]
end Go.Proofs.YtahnhblodfdfhaaDoor
namespace Go.Proofs.YtahnhblodfdfhaaDoor
open Go.RowKit
abbrev tEd : TypeId := 148
abbrev tGr : TypeId := 57
abbrev Eg := Int × Int × List Int × List Int
abbrev EHd := Int × Int × Hd × Hd
abbrev Gr := Int × List Eg × List Int × List Int
instance decEg : DecidableEq Eg := inferInstance
instance decEgs : DecidableEq (List Eg) := inferInstance
instance decGr : DecidableEq Gr := inferInstance
def egOf (h : EHd) : Eg := (h.1, h.2.1, h.2.2.1.2.2, h.2.2.2.2.2)
def ec (h : EHd) : List Value := [.int .i64 h.1, .int .i64 h.2.1, Hd.val h.2.2.1, Hd.val h.2.2.2]
def ecs : List EHd → List Value
  | [] => []
  | h :: r => ec h ++ ecs r
@[simp] theorem ecs_length (l : List EHd) : (ecs l).length = l.length * 4 := by
  induction l with
  | nil => rfl
  | cons n r ih => simp only [ecs, ec, List.length_append, List.length_cons, List.length_nil, ih]; omega
theorem ecs_get {l : List EHd} {j : Nat} {n : EHd} (h : l[j]? = some n) : (ecs l)[j * 4]? = some (.int .i64 n.1) ∧ (ecs l)[j * 4 + 1]? = some (.int .i64 n.2.1) ∧ (ecs l)[j * 4 + 2]? = some (Hd.val n.2.2.1) ∧ (ecs l)[j * 4 + 3]? = some (Hd.val n.2.2.2) := by
  induction l generalizing j with
  | nil => simp at h
  | cons a r ih =>
    cases j with
    | zero =>
      obtain rfl : a = n := by simpa using h
      simp [ecs, ec]
    | succ j =>
      have := ih (j := j) (by simpa using h)
      have hl : (ec a).length = 4 := rfl
      simp only [ecs]
      rw [List.getElem?_append_right (by omega), List.getElem?_append_right (by omega), List.getElem?_append_right (by omega), List.getElem?_append_right (by omega), hl]
      rw [show (j + 1) * 4 - 4 = j * 4 by omega, show (j + 1) * 4 + 1 - 4 = j * 4 + 1 by omega, show (j + 1) * 4 + 2 - 4 = j * 4 + 2 by omega, show (j + 1) * 4 + 3 - 4 = j * 4 + 3 by omega]
      exact this
theorem ecs_set {l : List EHd} {j : Nat} (n : EHd) (h : j < l.length) : ((((ecs l).set (j * 4) (.int .i64 n.1)).set (j * 4 + 1) (.int .i64 n.2.1)).set (j * 4 + 2) (Hd.val n.2.2.1)).set (j * 4 + 3) (Hd.val n.2.2.2) = ecs (l.set j n) := by
  induction l generalizing j with
  | nil => simp at h
  | cons a r ih =>
    cases j with
    | zero => simp [ecs, ec]
    | succ j =>
      have := ih (j := j) (by simpa using h)
      have hl : (ec a).length = 4 := rfl
      simp only [ecs, nS3]
      rw [List.set_append_right _ _ (by omega), List.set_append_right _ _ (by omega), List.set_append_right _ _ (by omega), List.set_append_right _ _ (by omega), hl]
      rw [show (j + 1) * 4 - 4 = j * 4 by omega, show (j + 1) * 4 + 1 - 4 = j * 4 + 1 by omega, show (j + 1) * 4 + 2 - 4 = j * 4 + 2 by omega, show (j + 1) * 4 + 3 - 4 = j * 4 + 3 by omega]
      rw [this]
def eh : List EHd → List Hd
  | [] => []
  | h :: r => h.2.2.1 :: h.2.2.2 :: eh r
theorem mem_eh {l : List EHd} {x : Hd} : x ∈ eh l ↔ ∃ h, h ∈ l ∧ (x = h.2.2.1 ∨ x = h.2.2.2) := by
  induction l with
  | nil => simp [eh]
  | cons n r ih =>
    simp only [eh, List.mem_cons, ih]
    constructor
    · rintro (h | h | ⟨y, hy, h⟩)
      · exact ⟨n, .inl rfl, .inl h⟩
      · exact ⟨n, .inl rfl, .inr h⟩
      · exact ⟨y, .inr hy, h⟩
    · rintro ⟨y, rfl | hy, h⟩
      · rcases h with h | h
        · exact .inl h
        · exact .inr (.inl h)
      · exact .inr (.inr ⟨y, hy, h⟩)
def RdE (w : World) (A : Option Addr) (hs : List EHd) : Prop := RdC w A (ecs hs) ∧ ∀ h, h ∈ hs → RdI w h.2.2.1.1 h.2.2.1.2.2 ∧ RdI w h.2.2.2.1 h.2.2.2.2.2
structure OwLs (w : World) (fp : List Nat) (ls : List Hd) : Prop where
  rows : ∀ h, h ∈ ls → IS w h.1 h.2.1 h.2.2
  apart : ls.Pairwise fun h h' => ∀ b, b ∈ fpA h.1 → ¬ b ∈ fpA h'.1
  outer : ∀ h, h ∈ ls → ∀ b, b ∈ fpA h.1 → ¬ b ∈ fp
section
variable {w w' : World} {A : Option Addr} {cap : Nat} {hs : List EHd} {fp : List Nat} {ls : List Hd}
theorem OwLs.below (h : OwLs w fp ls) (hb : Below w.heap.size w w') : OwLs w' fp ls := ⟨fun x hx => (h.rows x hx).below hb, h.apart, h.outer⟩
theorem OwLs.keeps (h : OwLs w fp ls) {S : Nat → Prop} (hk : Keeps S w w') (hS : ∀ b, b ∈ fpR ls → ¬ S b) : OwLs w' fp ls :=
  ⟨fun x hx => (h.rows x hx).keeps hk fun b hb => hS b (mem_fpR.2 ⟨x, hx, hb⟩), h.apart, h.outer⟩
theorem OwLs.lt (h : OwLs w fp ls) : ∀ b, b ∈ fpR ls → b < w.heap.size := fun b hb => by
  obtain ⟨x, hx, hb⟩ := mem_fpR.1 hb; exact (h.rows x hx).lt b hb
theorem OwLs.nil (w : World) (fp : List Nat) : OwLs w fp [] := ⟨fun h hh => (by cases hh), .nil, fun h hh => (by cases hh)⟩
theorem OwLs.app (h : OwLs w fp ls) (hb : Below w.heap.size w w') {ms : List Hd} (hm : OwLs w' [] ms) (hf : FreshL w.heap.size (fpR ms)) (hlt : ∀ b, b ∈ fp → b < w.heap.size) : OwLs w' fp (ls ++ ms) := by
  refine ⟨fun y hy => ?_, ?_, fun y hy b hb1 hb2 => ?_⟩
  · rcases List.mem_append.1 hy with hy | hy
    · exact (h.rows y hy).below hb
    · exact hm.rows y hy
  · refine List.pairwise_append.2 ⟨h.apart, hm.apart, fun y hy z hz b hb1 hb2 => ?_⟩
    have := (h.rows y hy).lt b hb1
    have := hf b (mem_fpR.2 ⟨z, hz, hb2⟩)
    omega
  · rcases List.mem_append.1 hy with hy | hy
    · exact h.outer y hy b hb1 hb2
    · have := hf b (mem_fpR.2 ⟨y, hy, hb1⟩); have := hlt b hb2; omega
theorem OwLs.one {x : Hd} (hx : IS w x.1 x.2.1 x.2.2) : OwLs w [] [x] := ⟨fun y hy => by obtain rfl := List.mem_singleton.1 hy; exact hx, List.pairwise_singleton _ _, fun y _ b _ hb => by cases hb⟩
theorem OwLs.two {x y : Hd} (hx : IS w x.1 x.2.1 x.2.2) (hb : Below w.heap.size w w') (hy : IS w' y.1 y.2.1 y.2.2) (hf : Fresh w.heap.size y.1) : OwLs w' [] [x, y] :=
  (OwLs.one hx).app (ms := [y]) hb (OwLs.one hy) (fun b hb' => hf b (by simpa [fpR] using hb')) (fun b hb' => by cases hb')
theorem OwLs.cons (h : OwLs w fp ls) (hb : Below w.heap.size w w') {x : Hd} (hx : IS w' x.1 x.2.1 x.2.2) (hf : Fresh w.heap.size x.1) (hlt : ∀ b, b ∈ fp → b < w.heap.size) : OwLs w' fp (x :: ls) := by
  refine ⟨fun y hy => ?_, ?_, fun y hy b hb1 hb2 => ?_⟩
  · rcases List.mem_cons.1 hy with rfl | hy
    · exact hx
    · exact (h.rows y hy).below hb
  · refine List.pairwise_cons.2 ⟨fun y hy b hb1 hb2 => ?_, h.apart⟩
    have := (h.rows y hy).lt b hb2
    have := hf b hb1
    omega
  · rcases List.mem_cons.1 hy with rfl | hy
    · have := hf b hb1; have := hlt b hb2; omega
    · exact h.outer y hy b hb1 hb2
theorem RdE.below (h : RdE w A hs) (hb : Below w.heap.size w w') : RdE w' A hs := ⟨RdC.below h.1 hb, fun x hx => ⟨(h.2 x hx).1.below hb, (h.2 x hx).2.below hb⟩⟩
theorem RdE.nil (w : World) (A : Option Addr) : RdE w A [] := ⟨RdC.nil w A, fun x hx => by cases hx⟩
theorem RdE.at_ (h : RdE w A hs) {j : Nat} (hj : j < hs.length) : ∃ ad k v B b l C c m, A = some ad ∧ hs[j]? = some (k, v, (B, b, l), (C, c, m)) ∧
    (w.cell? (ad.add (j * 4)) = some (.int .i64 k) ∧ w.cell? ⟨(ad.add (j * 4)).block, (ad.add (j * 4)).off + 1, none⟩ = some (.int .i64 v) ∧ w.cell? ⟨(ad.add (j * 4)).block, (ad.add (j * 4)).off + 2, none⟩ = some (.slice B l.length b) ∧ w.cell? ⟨(ad.add (j * 4)).block, (ad.add (j * 4)).off + 3, none⟩ = some (.slice C m.length c)) ∧ RdI w B l ∧ RdI w C m := by
  obtain ⟨n, hn⟩ : ∃ n, hs[j]? = some n := ⟨_, List.getElem?_eq_getElem hj⟩
  obtain ⟨h0, h1, h2, h3⟩ := ecs_get hn
  obtain ⟨ad, hA, c0⟩ := h.1 _ _ h0
  obtain ⟨ad1, hA1, c1⟩ := h.1 _ _ h1
  obtain ⟨ad2, hA2, c2⟩ := h.1 _ _ h2
  obtain ⟨ad3, hA3, c3⟩ := h.1 _ _ h3
  rw [hA] at hA1 hA2 hA3
  obtain rfl := Option.some.inj hA1
  obtain rfl := Option.some.inj hA2
  obtain rfl := Option.some.inj hA3
  obtain ⟨k, v, ⟨B, b, l⟩, ⟨C, c, m⟩⟩ := n
  have hr := h.2 _ (List.mem_of_getElem? hn)
  rw [add_next _ _ 1 (by omega)] at c1
  rw [add_next _ _ 2 (by omega)] at c2
  rw [add_next _ _ 3 (by omega)] at c3
  exact ⟨ad, k, v, B, b, l, C, c, m, hA, hn, ⟨c0, c1, c2, c3⟩, hr.1, hr.2⟩
end
def RdGr (w : World) (v : Value) (g : Gr) : Prop := ∃ (A : Option Addr) (cap : Nat) (hs : List EHd) (a b : Hd), v = .agg #[.int .i64 g.1, .slice A hs.length cap, .slice a.1 a.2.2.length a.2.1, .slice b.1 b.2.2.length b.2.1] ∧ g.2.1 = hs.map egOf ∧ a.2.2 = g.2.2.1 ∧ b.2.2 = g.2.2.2 ∧ RdE w A hs ∧ RdI w a.1 a.2.2 ∧ RdI w b.1 b.2.2
def OwGr (w : World) (v : Value) (g : Gr) (fp : List Nat) : Prop := ∃ (A : Option Addr) (cap : Nat) (hs : List EHd) (a b : Hd), v = .agg #[.int .i64 g.1, .slice A hs.length cap, .slice a.1 a.2.2.length a.2.1, .slice b.1 b.2.2.length b.2.1] ∧ g.2.1 = hs.map egOf ∧ a.2.2 = g.2.2.1 ∧ b.2.2 = g.2.2.2 ∧ Sl w tEd 4 A hs.length cap (ecs hs) ∧ OwLs w (fpA A) (a :: b :: eh hs) ∧ fp = fpA A ++ fpR (a :: b :: eh hs)
section
variable {w w' : World} {v : Value} {g : Gr} {fp : List Nat}
theorem RdGr.below (h : RdGr w v g) (hb : Below w.heap.size w w') : RdGr w' v g := by
  obtain ⟨A, c, hs, a, b, rfl, e1, e2, e3, h1, h2, h3⟩ := h; exact ⟨A, c, hs, a, b, rfl, e1, e2, e3, h1.below hb, h2.below hb, h3.below hb⟩
theorem OwGr.rd (h : OwGr w v g fp) : RdGr w v g := by
  obtain ⟨A, c, hs, a, b, rfl, e1, e2, e3, h1, h2, _⟩ := h
  refine ⟨A, c, hs, a, b, rfl, e1, e2, e3, ⟨Sl.rdc h1, fun x hx => ⟨(h2.rows _ ?_).rd, (h2.rows _ ?_).rd⟩⟩, (h2.rows a (by simp)).rd, (h2.rows b (by simp)).rd⟩
  · exact List.mem_cons_of_mem _ (List.mem_cons_of_mem _ (mem_eh.2 ⟨x, hx, .inl rfl⟩))
  · exact List.mem_cons_of_mem _ (List.mem_cons_of_mem _ (mem_eh.2 ⟨x, hx, .inr rfl⟩))
theorem OwGr.below (h : OwGr w v g fp) (hb : Below w.heap.size w w') : OwGr w' v g fp := by
  obtain ⟨A, c, hs, a, b, rfl, e1, e2, e3, h1, h2, e⟩ := h; exact ⟨A, c, hs, a, b, rfl, e1, e2, e3, h1.below hb, h2.below hb, e⟩
theorem OwGr.keeps (h : OwGr w v g fp) {S : Nat → Prop} (hk : Keeps S w w') (hS : ∀ b, b ∈ fp → ¬ S b) : OwGr w' v g fp := by
  obtain ⟨A, c, hs, a, b, rfl, e1, e2, e3, h1, h2, rfl⟩ := h
  exact ⟨A, c, hs, a, b, rfl, e1, e2, e3, h1.keeps hk fun x hx => hS x (List.mem_append_left _ hx), h2.keeps hk fun x hx => hS x (List.mem_append_right _ hx), rfl⟩
theorem OwGr.lt (h : OwGr w v g fp) : LtL w.heap.size fp := by
  obtain ⟨A, c, hs, a, b, rfl, e1, e2, e3, h1, h2, rfl⟩ := h
  intro x hx
  rcases List.mem_append.1 hx with hx | hx
  · exact h1.lt x hx
  · exact h2.lt x hx
theorem RdGr.shape (h : RdGr w v g) : ∃ A n c B m d C k e, v = .agg #[.int .i64 g.1, .slice A n c, .slice B m d, .slice C k e] := by
  obtain ⟨A, c, hs, a, b, rfl, _⟩ := h; exact ⟨_, _, _, _, _, _, _, _, _, rfl⟩
theorem OwGr.shape (h : OwGr w v g fp) : ∃ A n c B m d C k e, v = .agg #[.int .i64 g.1, .slice A n c, .slice B m d, .slice C k e] := h.rd.shape
theorem OwGr.zero (w : World) : OwGr w (.agg #[.int .i64 0, .slice none 0 0, .slice none 0 0, .slice none 0 0]) (0, [], [], []) [] :=
  ⟨none, 0, [], (none, 0, []), (none, 0, []), rfl, rfl, rfl, rfl, Sl.nil _ _ _, ⟨fun x hx => by
    simp [eh] at hx; subst hx; exact Sl.nil _ _ _, by simp [eh], fun x hx b hb => by simp [eh] at hx; subst hx; simp at hb⟩, rfl⟩
theorem t_box4 {B : Nat} {x y z u : Value} {t : TypeId} (h : w.heap[B]? = some (.cells #[x, y, z, u] t)) :
    (w.cell? ⟨B, 0, none⟩ = some x ∧ w.cell? ⟨B, 1, none⟩ = some y ∧ w.cell? ⟨B, 2, none⟩ = some z ∧ w.cell? ⟨B, 3, none⟩ = some u) ∧ w.frozen? ⟨B, 0, none⟩ = false ∧ w.frozen? ⟨B, 1, none⟩ = false ∧ w.frozen? ⟨B, 2, none⟩ = false ∧ w.frozen? ⟨B, 3, none⟩ = false := by
  simp [World.cell?, World.frozen?, h]
end
def cntE : List Eg → Nat
  | [] => 0
  | e :: r => 2 + e.2.2.1.length + e.2.2.2.length + cntE r
def cntG (g : Gr) : Nat := cntE g.2.1 + g.2.2.1.length + g.2.2.2.length
def OkG (g : Gr) : Prop := (g.2.1.length ≤ 1048576 ∧ g.2.2.1.length ≤ 1048576 ∧ g.2.2.2.length ≤ 1048576) ∧ (∀ e, e ∈ g.2.1 → e.2.2.1.length ≤ 1048576 ∧ e.2.2.2.length ≤ 1048576) ∧ cntG g ≤ 8388608
def marksE : Nat → List Eg → List Eg
  | _, [] => []
  | k, e :: r => ((k : Int), ((k + 1 : Nat) : Int), marks (k + 2) e.2.2.1.length, marks (k + 2 + e.2.2.1.length) e.2.2.2.length) :: marksE (k + 2 + e.2.2.1.length + e.2.2.2.length) r
def marksG (k : Nat) (g : Gr) : Gr := (g.1, marksE k g.2.1, marks (k + cntE g.2.1) g.2.2.1.length, marks (k + cntE g.2.1 + g.2.2.1.length) g.2.2.2.length)
def HeGr (w : World) (v : Value) (g : Gr) (k : Nat) (fp : List Nat) : Prop := OwGr w v (marksG k g) fp
theorem HeGr.below {w w' : World} {v : Value} {g : Gr} {k : Nat} {fp : List Nat} (h : HeGr w v g k fp) (hb : Below w.heap.size w w') : HeGr w' v g k fp := OwGr.below h hb
theorem HeGr.keeps {w w' : World} {v : Value} {g : Gr} {k : Nat} {fp : List Nat} (h : HeGr w v g k fp) {S : Nat → Prop} (hk : Keeps S w w') (hS : ∀ b, b ∈ fp → ¬ S b) : HeGr w' v g k fp := OwGr.keeps h hk hS
end Go.Proofs.YtahnhblodfdfhaaDoor
namespace Go.Proofs.YtahnhblodfdfhaaDoor
open Go.RowKit
def egB (e : Eg) : Bool := t_inB e.1 3 14 && (gvB e.1 e.2.1 && decide (((e.2.2.1.length : Int), (e.2.2.2.length : Int)) = kindTy e.1))
def inW (n : Int) (l : List Int) : Bool := l.all fun x => t_inB x 0 (n - 1)
def edW : List Eg → List Int
  | [] => []
  | e :: r => e.2.2.1 ++ (e.2.2.2 ++ edW r)
def t_allW (g : Gr) : List Int := g.2.2.1 ++ (g.2.2.2 ++ edW g.2.1)
def fullW (n : Int) (l : List Int) : Bool := (List.range n.toNat).all fun w : Nat => l.contains (w : Int)
def grB (g : Gr) : Bool := (t_inB g.1 0 100 && (decide (g.2.1.length ≤ 60) && (decide (g.2.2.1.length ≤ 12) && decide (g.2.2.2.length ≤ 12)))) && (g.2.1.all egB && (inW g.1 (t_allW g) && fullW g.1 (t_allW g)))
theorem inW_append (n : Int) (l m : List Int) : inW n (l ++ m) = (inW n l && inW n m) := by simp [inW]
theorem inW_iff {n : Int} {l : List Int} : inW n l = true ↔ ∀ x, x ∈ l → 0 ≤ x ∧ x < n := by
  unfold inW
  rw [List.all_eq_true]
  constructor
  · intro h x hx
    have := h x hx
    unfold t_inB at this
    have := of_decide_eq_true this
    omega
  · intro h x hx
    have := h x hx
    unfold t_inB
    exact decide_eq_true (by omega)
theorem inW_sub {n : Int} {l m : List Int} (h : inW n l = true) (hs : ∀ x, x ∈ m → x ∈ l) : inW n m = true := inW_iff.2 fun x hx => inW_iff.1 h x (hs x hx)
def seenM (n : Nat) (l : List Int) : List Bool := (List.range n).map fun w : Nat => l.contains (w : Int)
@[simp] theorem seenM_length (n : Nat) (l : List Int) : (seenM n l).length = n := by simp [seenM]
def cntM (n : Nat) (l : List Int) : List Int := (List.range n).map fun w : Nat => (l.count (w : Int) : Int)
@[simp] theorem cntM_length (n : Nat) (l : List Int) : (cntM n l).length = n := by simp [cntM]
theorem cntM_get {n : Nat} {l : List Int} {w : Nat} (h : w < n) : (cntM n l)[w]? = some (l.count (w : Int) : Int) := by simp [cntM, h]
theorem cntM_nil (n : Nat) : cntM n [] = List.replicate n 0 := by
  apply List.ext_getElem?
  intro w
  by_cases h : w < n
  · rw [cntM_get h, List.getElem?_replicate, if_pos h]; rfl
  · rw [List.getElem?_eq_none (by simp; omega), List.getElem?_eq_none (by simp; omega)]
theorem cntM_step {n w : Nat} {l : List Int} (h : w < n) : cntM n (l ++ [(w : Int)]) = (cntM n l).set w ((l.count (w : Int) : Int) + 1) := by
  apply List.ext_getElem?
  intro i
  rw [List.getElem?_set]
  by_cases hi : i < n
  · rw [cntM_get hi, List.count_append]
    by_cases hw : w = i
    · subst hw; simp [hi]
    · rw [if_neg hw, cntM_get hi]
      have : List.count (i : Int) [(w : Int)] = 0 := List.count_eq_zero.2 fun hm => by
        have := List.mem_singleton.1 hm; omega
      rw [this, Nat.add_zero]
  · rw [List.getElem?_eq_none (by simp; omega)]
    split
    · rename_i h2; omega
    · rw [List.getElem?_eq_none (by simp; omega)]
theorem count_le (l : List Int) (x : Int) : l.count x ≤ l.length := List.count_le_length
def outW : List Eg → List Int
  | [] => []
  | e :: r => e.2.2.2 ++ outW r
def inpW : List Eg → List Int
  | [] => []
  | e :: r => e.2.2.1 ++ inpW r
def orgW (g : Gr) : List Int := g.2.2.1 ++ outW g.2.1
def dstW (g : Gr) : List Int := g.2.2.2 ++ inpW g.2.1
theorem mem_edW {l : List Eg} {x : Int} : x ∈ edW l ↔ x ∈ outW l ∨ x ∈ inpW l := by
  induction l with
  | nil => simp [edW, outW, inpW]
  | cons e r ih => simp only [edW, outW, inpW, List.mem_append, ih]; exact ⟨fun h => by rcases h with h | h | h | h <;> simp [h], fun h => by rcases h with (h | h) | (h | h) <;> simp [h]⟩
theorem mem_allW {g : Gr} {x : Int} : x ∈ t_allW g ↔ x ∈ orgW g ∨ x ∈ dstW g := by
  simp only [t_allW, orgW, dstW, List.mem_append, mem_edW]
  exact ⟨fun h => by rcases h with h | h | h | h <;> simp [h], fun h => by rcases h with (h | h) | (h | h) <;> simp [h]⟩
theorem outW_append (l m : List Eg) : outW (l ++ m) = outW l ++ outW m := by
  induction l with
  | nil => rfl
  | cons e r ih => simp [outW, ih]
theorem inpW_append (l m : List Eg) : inpW (l ++ m) = inpW l ++ inpW m := by
  induction l with
  | nil => rfl
  | cons e r ih => simp [inpW, ih]
def hgB (n : Int) (e : Eg) : Bool := egB e && (inW n e.2.2.1 && inW n e.2.2.2)
theorem hgB_all (n : Int) (l : List Eg) : l.all (hgB n) = (l.all egB && inW n (edW l)) := by
  induction l with
  | nil => rfl
  | cons e r ih =>
    rw [List.all_cons, List.all_cons, ih, edW, inW_append, inW_append, hgB]
    cases egB e <;> cases inW n e.2.2.1 <;> cases inW n e.2.2.2 <;> cases r.all egB <;> rfl
end Go.Proofs.YtahnhblodfdfhaaDoor
namespace Go.Proofs.YtahnhblodfdfhaaDoor
def cnt (a : Int) : List Int → Nat
  | [] => 0
  | b :: r => (if b < a then 1 else 0) + cnt a r
def inv : List Int → Nat
  | [] => 0
  | a :: r => cnt a r + inv r
end Go.Proofs.YtahnhblodfdfhaaDoor
namespace Go.Proofs.YtahnhblodfdfhaaDoor
open Go.RowKit
def mapL (tw : List Int) (l : List Int) : List Int := l.map fun w => tw.getD w.toNat 0
@[simp] theorem mapL_length (tw l : List Int) : (mapL tw l).length = l.length := by simp [mapL]
theorem mapL_take_step {tw l : List Int} {k : Nat} {x : Int} (h : l[k]? = some x) : mapL tw (l.take (k + 1)) = mapL tw (l.take k) ++ [tw.getD x.toNat 0] := by
  rw [List.take_add_one, h]; simp [mapL]
def lay {α : Type} (d : α) (p : List Int) (xs : List α) : Nat → List α
  | 0 => List.replicate xs.length d
  | k + 1 => (lay d p xs k).set (p.getD k 0).toNat (xs.getD k d)
section
variable {α β : Type} {d : α} {p : List Int} {xs : List α}
@[simp] theorem lay_length : ∀ k, (lay d p xs k).length = xs.length
  | 0 => by simp [lay]
  | k + 1 => by simp [lay, lay_length k]
end
end Go.Proofs.YtahnhblodfdfhaaDoor
namespace Go.Proofs.YtahnhblodfdfhaaDoor
open Go.RowKit
section
variable {P : Program} {ops : Array Oper} {Q : Exit → Act → World → Prop} {md : Region.Mode} {S : World → Prop}
def putZ (a : Act) (Z : List (Nat × Tmp)) (xs : Tmp → Value) : Act := Z.foldl (fun a z => a.put (some z.2) (xs z.2)) a
def updZ (xs : Tmp → Value) (d : Tmp) (v : Value) : Tmp → Value := fun t => if t = d then v else xs t
theorem put_put (a : Act) (d : Tmp) (x v : Value) : (a.put (some d) x).put (some d) v = a.put (some d) v := by
  simp [Act.put, Array.setIfInBounds_setIfInBounds]
theorem putZ_put (Z : List (Nat × Tmp)) (xs : Tmp → Value) (d : Tmp) (v : Value) : ∀ (a : Act), (∀ z ∈ Z, z.2 ≠ d) → (putZ a Z xs).put (some d) v = putZ (a.put (some d) v) Z xs := by
  induction Z with
  | nil => intro a _; rfl
  | cons z r ih =>
    intro a h
    show (putZ (a.put _ _) r xs).put _ _ = putZ ((a.put _ _).put _ _) r xs
    rw [ih _ (fun y hy => h y (List.mem_cons_of_mem _ hy)), Act.put_comm a _ _ (fun e he => by obtain rfl := Option.some.inj he; intro h2; exact h z (by simp) (Option.some.inj h2).symm)]
theorem putZ_congr (Z : List (Nat × Tmp)) {xs ys : Tmp → Value} : ∀ (a : Act), (∀ z ∈ Z, xs z.2 = ys z.2) → putZ a Z xs = putZ a Z ys := by
  induction Z with
  | nil => intro a _; rfl
  | cons z r ih =>
    intro a h
    show putZ (a.put _ _) r xs = putZ (a.put _ _) r ys
    rw [h z (by simp)]
    exact ih _ fun y hy => h y (List.mem_cons_of_mem _ hy)
theorem putZ_upd (Z : List (Nat × Tmp)) (xs : Tmp → Value) (d : Tmp) (v : Value) : ∀ (a : Act), (Z.map (·.2)).Nodup → d ∈ Z.map (·.2) → putZ a Z (updZ xs d v) = (putZ a Z xs).put (some d) v := by
  induction Z with
  | nil => intro a _ h; cases h
  | cons z r ih =>
    intro a hn h
    simp only [List.map_cons, List.nodup_cons, List.mem_map, not_exists, not_and] at hn
    show putZ (a.put _ _) r _ = (putZ (a.put _ _) r xs).put _ _
    by_cases e : z.2 = d
    · have hne : ∀ y ∈ r, y.2 ≠ d := fun y hy h2 => hn.1 y hy (h2.trans e.symm)
      rw [putZ_put r xs d v _ hne, putZ_congr r _ (ys := xs) (fun y hy => by unfold updZ; rw [if_neg (hne y hy)]), e]
      have : updZ xs d v d = v := by unfold updZ; rw [if_pos rfl]
      rw [this, put_put]
    · have : updZ xs d v z.2 = xs z.2 := by unfold updZ; rw [if_neg e]
      rw [this]
      refine ih _ hn.2 ?_
      rcases List.mem_cons.1 h with h | h
      · exact absurd h.symm e
      · exact h
def chkZ (md : Region.Mode) (ops : Array Oper) (L0 : Array Bool) (Z : List (Nat × Tmp)) (deps : Nat → List Tmp) : Bool :=
  ((List.range ops.size).all fun i => L0.getD i true || Z.any fun z => z.1 == i) &&
  ((List.range ops.size).all fun i => ((ops[i]?).map fun o => o.after.all fun e => decide (e.on < i)).getD true) &&
  (Z.all fun z => decide (z.1 < L0.size) && ((ops[z.1]?).map fun o => (o.dst == some z.2) && o.guard.isNone && (deps z.1).all fun d => Z.any fun y => y.2 == d && o.after.any fun e => Region.binds md e && e.on == y.1).getD false) &&
  decide ((Z.map (·.1)).Nodup) && decide ((Z.map (·.2)).Nodup)
theorem wp_callZ {o : Oper} {a : Act} {w : World} {f : FuncId} {args : Array Value} {K : Act → World → Prop} (hr : (execOp a.eval o).run P w = .ok (.enter f args) w) (h : Calls P f args w fun e w' => ∃ v, e = .returned v ∧ K (a.put o.dst v) w') : o.wp P a w K Q := by
  unfold Oper.wp
  rw [hr]
  exact Calls.mono h fun e w' ⟨v, he, hK⟩ => by subst he; exact hK
theorem wpAnyH_rel {Z : List (Nat × Tmp)} {L0 : Array Bool} {deps : Nat → List Tmp} {a0 : Act} {w0 : World} (R : Tmp → Value → World → Prop) (hz : chkZ md ops L0 Z deps = true)
    (hstab : ∀ d v w w', R d v w → Below w.heap.size w w' → R d v w') (hS : ∀ w', Below w0.heap.size w0 w' → S w')
    (hstep : ∀ z ∈ Z, ∀ o, ops[z.1]? = some o → ∀ xs w, Below w0.heap.size w0 w → (∀ d ∈ deps z.1, R d (xs d) w) → ∀ K, (∀ v w', Below w.heap.size w w' → R z.2 v w' → K ((putZ a0 Z xs).put (some z.2) v) w') → o.wp P (putZ a0 Z xs) w K Q)
    (hend : ∀ xs w, Below w0.heap.size w0 w → (∀ z ∈ Z, R z.2 (xs z.2) w) → Q .normal (putZ a0 Z xs) w) :
    ∀ (fuel : Nat) (L : Array Bool) (xs : Tmp → Value) (w : World), L.size = L0.size → (∀ i, (∀ z ∈ Z, z.1 ≠ i) → L.getD i true = L0.getD i true) → (Z.filter fun z => !L.getD z.1 true).length ≤ fuel → Below w0.heap.size w0 w →
      (∀ z ∈ Z, L.getD z.1 true = true → R z.2 (xs z.2) w) → wpAnyH P md ops Q S fuel L (putZ a0 Z xs) w := by
  unfold chkZ at hz
  simp only [Bool.and_eq_true, List.all_eq_true, List.mem_range, Bool.or_eq_true, List.any_eq_true, beq_iff_eq, decide_eq_true_eq] at hz
  obtain ⟨⟨⟨⟨hcov, hback⟩, hops⟩, hnd1⟩, hnd2⟩ := hz
  have hdone : ∀ (L : Array Bool), (∀ i, (∀ z ∈ Z, z.1 ≠ i) → L.getD i true = L0.getD i true) → (∀ z ∈ Z, L.getD z.1 true = true) → Region.ready md ops L = [] := by
    intro L hL hall
    refine List.eq_nil_iff_forall_not_mem.2 fun j hj => ?_
    obtain ⟨hjun, oj, hoj, _⟩ := mem_ready.1 hj
    have hjs : j < ops.size := (Array.getElem?_eq_some_iff.1 hoj).1
    rcases hcov j hjs with h | ⟨z, hz, rfl⟩
    · by_cases hm : ∀ z ∈ Z, z.1 ≠ j
      · rw [hL j hm, h] at hjun; cases hjun
      · have ⟨z, hz, e⟩ : ∃ z ∈ Z, z.1 = j := Classical.byContradiction fun hno => hm fun z hz e => hno ⟨z, hz, e⟩
        rw [← e, hall z hz] at hjun; cases hjun
    · rw [hall z hz] at hjun; cases hjun
  have hlive : ∀ (L : Array Bool), L.size = L0.size → (∀ i, (∀ z ∈ Z, z.1 ≠ i) → L.getD i true = L0.getD i true) → Region.ready md ops L = [] → ∀ i, i < ops.size → L.getD i true = true := by
    intro L hsz hL hr i
    induction i using Nat.strongRecOn with
    | ind i ih =>
      intro hi
      cases hx : L.getD i true with
      | true => rfl
      | false =>
        exfalso
        have hmem : i ∈ Region.ready md ops L := by
          refine mem_ready.2 ⟨hx, ops[i], Array.getElem?_eq_getElem hi, fun e he _ => ?_⟩
          have hb := hback i hi
          rw [Array.getElem?_eq_getElem hi] at hb
          simp only [Option.map_some, Option.getD_some, Array.all_eq_true_iff_forall_mem, decide_eq_true_eq] at hb
          have hlt := hb e he
          have h2 := ih e.on hlt (by omega)
          rcases Nat.lt_or_ge e.on L.size with h3 | h3
          · simp only [Array.getD_eq_getD_getElem?, Array.getElem?_eq_getElem h3, Option.getD_some] at h2 ⊢; exact h2
          · have hil : i < L.size := by
              rcases Nat.lt_or_ge i L.size with h4 | h4
              · exact h4
              · simp [Array.getElem?_eq_none h4] at hx
            omega
        rw [hr] at hmem; cases hmem
  intro fuel
  induction fuel with
  | zero =>
    intro L xs w hsz hL hc hb hR
    have hall : ∀ z ∈ Z, L.getD z.1 true = true := fun z hz => by
      cases hx : L.getD z.1 true with
      | true => rfl
      | false =>
        exfalso
        have : z ∈ Z.filter fun z => !L.getD z.1 true := List.mem_filter.2 ⟨hz, by rw [hx]; rfl⟩
        have := List.length_pos_of_mem this
        omega
    exact ⟨hdone L hL hall, hend xs w hb fun z hz => hR z hz (hall z hz)⟩
  | succ fuel ih =>
    intro L xs w hsz hL hc hb hR
    refine ⟨fun hr => ?_, fun j hj => ?_⟩
    · have hall := hlive L hsz hL hr
      refine hend xs w hb fun z hz => hR z hz ?_
      obtain ⟨hzl, ho⟩ := hops z hz
      cases hoz : ops[z.1]? with
      | none => rw [hoz] at ho; cases ho
      | some o => exact hall z.1 (Array.getElem?_eq_some_iff.1 hoz).1
    · obtain ⟨hjun, oj, hoj, hdeps⟩ := mem_ready.1 hj
      have hjs : j < ops.size := (Array.getElem?_eq_some_iff.1 hoj).1
      have ⟨z, hz, hzj⟩ : ∃ z ∈ Z, z.1 = j := by
        rcases hcov j hjs with h | h
        · refine Classical.byContradiction fun hno => ?_
          rw [hL j fun z hz e => hno ⟨z, hz, e⟩, h] at hjun; cases hjun
        · exact h
      subst hzj
      obtain ⟨hzl, ho⟩ := hops z hz
      rw [hoj] at ho
      simp only [Option.map_some, Option.getD_some, Bool.and_eq_true, beq_iff_eq, Option.isNone_iff_eq_none, List.all_eq_true, List.any_eq_true] at ho
      obtain ⟨⟨hdst, hg⟩, hdp⟩ := ho
      have hw : Region.wanted oj (yielded ops (putZ a0 Z xs).tmps) = true := by unfold Region.wanted; rw [hg]
      unfold wpOp
      simp only [hoj, hw, if_true]
      refine .inl ?_
      refine hstep z hz oj hoj xs w hb (fun d hd => ?_) _ fun v w' hb' hRv => ?_
      · obtain ⟨y, hy, rfl, he⟩ := hdp d hd
        obtain ⟨i, hi, he⟩ := Array.any_eq_true.1 he
        simp only [Bool.and_eq_true, beq_iff_eq] at he
        obtain ⟨hbi, hon⟩ := he
        obtain ⟨e, hee⟩ : ∃ e, e = oj.after[i] := ⟨_, rfl⟩
        have he : e ∈ oj.after := by rw [hee]; exact Array.getElem_mem hi
        rw [← hee] at hbi hon
        have h2 := hdeps e he hbi
        rw [hon] at h2
        refine hR y hy ?_
        rcases Nat.lt_or_ge y.1 L.size with h3 | h3
        · simp only [Array.getD_eq_getD_getElem?, Array.getElem?_eq_getElem h3, Option.getD_some] at h2 ⊢; exact h2
        · simp [Array.getElem?_eq_none h3] at h2
      · have hb2 := below_trans hb hb' hb.size
        refine ⟨hS _ hb2, ?_⟩
        rw [← putZ_upd Z xs z.2 v a0 hnd2 (List.mem_map.2 ⟨z, hz, rfl⟩)]
        have hset : ∀ i, (L.setIfInBounds z.1 true).getD i true = if i = z.1 then true else L.getD i true := fun i => by
          simp only [Array.getD_eq_getD_getElem?, Array.getElem?_setIfInBounds]
          by_cases e : z.1 = i
          · subst e
            simp [hsz, hzl]
          · rw [if_neg e, if_neg (fun h => e h.symm)]
        refine ih _ _ w' (by simp [hsz]) (fun i hi => ?_) ?_ hb2 fun y hy hl => ?_
        · rw [hset, if_neg (fun e => hi z hz e.symm)]; exact hL i hi
        · have hlt : (Z.filter fun y => !(L.setIfInBounds z.1 true).getD y.1 true).length < (Z.filter fun y => !L.getD y.1 true).length := by
            have hsub : (Z.filter fun y => !(L.setIfInBounds z.1 true).getD y.1 true) = (Z.filter fun y => !L.getD y.1 true).filter fun y => !decide (y.1 = z.1) := by
              rw [List.filter_filter]
              refine List.filter_congr fun y _ => ?_
              rw [hset]
              by_cases e : y.1 = z.1 <;> simp [e]
            rw [hsub]
            refine List.length_filter_lt_length_iff_exists.2 ⟨z, List.mem_filter.2 ⟨hz, by rw [hjun]; rfl⟩, by simp⟩
          omega
        · rw [hset] at hl
          unfold updZ
          by_cases e : y.2 = z.2
          · rw [if_pos e, e]; exact hRv
          · rw [if_neg e]
            have hne : y.1 ≠ z.1 := fun h => by
              have : y = z := by
                obtain ⟨i, hi, rfl⟩ := List.getElem_of_mem hy
                obtain ⟨k, hk, rfl⟩ := List.getElem_of_mem hz
                have hpw := List.pairwise_iff_getElem.1 hnd1
                rcases Nat.lt_trichotomy i k with h1 | h1 | h1
                · exact absurd (by rw [List.getElem_map, List.getElem_map]; exact h) (hpw i k (by simpa using hi) (by simpa using hk) h1)
                · subst h1; rfl
                · exact absurd (by rw [List.getElem_map, List.getElem_map]; exact h.symm) (hpw k i (by simpa using hk) (by simpa using hi) h1)
              exact e (by rw [this])
            rw [if_neg hne] at hl
            exact hstab _ _ _ _ (hR y hy hl) hb'
theorem putZ_self (Z : List (Nat × Tmp)) : ∀ (a : Act), putZ a Z (fun t => a.tmps.getD t undef) = a := by
  have h1 : ∀ (a : Act) (d : Tmp), a.put (some d) (a.tmps.getD d undef) = a := fun a d => by
    unfold Act.put
    have : a.tmps.setIfInBounds d (a.tmps.getD d undef) = a.tmps := by
      refine Array.ext_getElem? fun i => ?_
      rw [Array.getElem?_setIfInBounds]
      by_cases e : d = i
      · subst e
        rw [if_pos rfl]
        by_cases h : d < a.tmps.size
        · rw [if_pos h, Array.getElem?_eq_getElem h, Array.getD_eq_getD_getElem?, Array.getElem?_eq_getElem h]; rfl
        · rw [if_neg h, Array.getElem?_eq_none (Nat.le_of_not_lt h)]
      · rw [if_neg e]
    simp only [this]
  induction Z with
  | nil => intro a; rfl
  | cons z r ih =>
    intro a
    show putZ (a.put (some z.2) (a.tmps.getD z.2 undef)) r (fun t => a.tmps.getD t undef) = a
    rw [h1]; exact ih a
def Stb (p : Value → World → Prop) : Prop := ∀ v w w', p v w → Below w.heap.size w w' → p v w'
theorem Stb.ite {c : Prop} [Decidable c] {p q : Value → World → Prop} (hp : Stb p) (hq : Stb q) : Stb fun v w => if c then p v w else q v w := by
  intro v w w' h hb
  by_cases e : c
  · simp only [if_pos e] at h ⊢; exact hp v w w' h hb
  · simp only [if_neg e] at h ⊢; exact hq v w w' h hb
theorem Stb.true : Stb fun _ _ => True := fun _ _ _ h _ => h
def stepsZ (P : Program) (ops : Array Oper) (Q : Exit → Act → World → Prop) (a0 : Act) (w0 : World) (Z : List (Nat × Tmp)) (deps : Nat → List Tmp) (R : Tmp → Value → World → Prop) : List (Nat × Tmp) → Prop
  | [] => True
  | z :: r => (∃ o, ops[z.1]? = some o ∧ ∀ xs w, Below w0.heap.size w0 w → (∀ d ∈ deps z.1, R d (xs d) w) → ∀ K : Act → World → Prop, (∀ v w', Below w.heap.size w w' → R z.2 v w' → K ((putZ a0 Z xs).put (some z.2) v) w') → o.wp P (putZ a0 Z xs) w K Q) ∧ stepsZ P ops Q a0 w0 Z deps R r
theorem stepsZ_get {a0 : Act} {w0 : World} {Z : List (Nat × Tmp)} {deps : Nat → List Tmp} {R : Tmp → Value → World → Prop} : ∀ {Y : List (Nat × Tmp)}, stepsZ P ops Q a0 w0 Z deps R Y → ∀ z ∈ Y, ∀ o, ops[z.1]? = some o → ∀ xs w, Below w0.heap.size w0 w → (∀ d ∈ deps z.1, R d (xs d) w) → ∀ K : Act → World → Prop, (∀ v w', Below w.heap.size w w' → R z.2 v w' → K ((putZ a0 Z xs).put (some z.2) v) w') → o.wp P (putZ a0 Z xs) w K Q
  | y :: r, h, z, hz, o, ho => by
    rcases List.mem_cons.1 hz with rfl | hz
    · obtain ⟨o', ho', hh⟩ := h.1
      rw [ho] at ho'
      obtain rfl := Option.some.inj ho'
      exact hh
    · exact stepsZ_get h.2 z hz o ho
theorem relZ (Z : List (Nat × Tmp)) (deps : Nat → List Tmp) (R : Tmp → Value → World → Prop) {fuel : Nat} {L : Array Bool} {a : Act} {w : World} (hz : (chkZ md ops L Z deps && decide (Z.length ≤ fuel) && Z.all fun z => !L.getD z.1 true) = true)
    (hstab : ∀ d, Stb (R d)) (hS : ∀ w', Below w.heap.size w w' → S w') (hstep : stepsZ P ops Q a w Z deps R Z)
    (hend : ∀ xs w', Below w.heap.size w w' → (∀ z ∈ Z, R z.2 (xs z.2) w') → Q .normal (putZ a Z xs) w') : wpAnyH P md ops Q S fuel L a w := by
  simp only [Bool.and_eq_true, decide_eq_true_eq, List.all_eq_true, Bool.not_eq_true'] at hz
  obtain ⟨⟨h1, h2⟩, h3⟩ := hz
  have h := wpAnyH_rel (P := P) (Q := Q) (S := S) (a0 := a) (w0 := w) R h1 (fun d v w w' => hstab d v w w') hS (fun z hz o ho xs w hb hd K hK => stepsZ_get hstep z hz o ho xs w hb hd K hK) hend fuel L (fun t => a.tmps.getD t undef) w rfl (fun _ _ => rfl) (Nat.le_trans (List.length_filter_le _ _) h2) (Below.refl _ _) (fun z hz hl => by rw [h3 z hz] at hl; cases hl)
  rw [putZ_self] at h
  exact h
end
end Go.Proofs.YtahnhblodfdfhaaDoor
namespace Go.Proofs.YtahnhblodfdfhaaDoor
open Go.RowKit
set_option maxHeartbeats 400000 in
theorem fdAdd_any (p a b : Int) (w : World) (h0 : 0 < p) (ha : 0 ≤ a) (ha' : a ≤ 1000000000) (hb : 0 ≤ b) (hb' : b ≤ 1000000000) :
    Calls Tryd.prog 163 #[.int .i64 p, .int .i64 a, .int .i64 b] w fun e w' => e = .returned (.int .i64 ((a + b) % p)) ∧ w = w' := by
  have hz : (p == 0) = false := by rw [beq_eq_false_iff_ne]; omega
  go_enter Tryd.func163, Tryd.ntmps163
  go_wp2_with (fail)
  go_ret
  exact ⟨rfl, rfl⟩
end Go.Proofs.YtahnhblodfdfhaaDoor
