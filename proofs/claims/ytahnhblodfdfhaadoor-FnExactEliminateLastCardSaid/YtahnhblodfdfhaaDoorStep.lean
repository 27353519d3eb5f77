/-
  THE WALK: the closure of impl.reduction that makes a row operation in both lists of rows.

  THE WALK: a row operation of the program's ((rowOperation).apply): exchange, division, subtraction.
-/
import Derived.Test.YtahnhblodfdfhaaDoorRw
import Derived.Test.YtahnhblodfdfhaaDoorRegH
import Derived.StillTailTactics
import Derived.Deep.RegionHeld
import Derived.IntWalk
namespace Go.Proofs.YtahnhblodfdfhaaDoor
open Go.RowKit

theorem box4 {w : World} {B : Nat} {x y z u : Value} {t : TypeId} (h : w.heap[B]? = some (.cells #[x, y, z, u] t)) :
    (w.cell? ⟨B, 0, none⟩ = some x ∧ w.cell? ⟨B, 1, none⟩ = some y ∧ w.cell? ⟨B, 2, none⟩ = some z ∧ w.cell? ⟨B, 3, none⟩ = some u) ∧ (w.frozen? ⟨B, 0, none⟩ = false ∧ w.frozen? ⟨B, 1, none⟩ = false ∧ w.frozen? ⟨B, 2, none⟩ = false ∧ w.frozen? ⟨B, 3, none⟩ = false) := by
  refine ⟨⟨?_, ?_, ?_, ?_⟩, ?_, ?_, ?_, ?_⟩ <;> simp [World.cell?, World.frozen?, h]
abbrev tOp : TypeId := 194

set_option maxRecDepth 8000 in
set_option maxHeartbeats 2000000 in
theorem applyX_any (p : Int) (r q m : Nat) (A : Option Addr) (cap : Nat) (L : List (List Int)) (fp : List Nat) (w : World) (h : RwF w A cap L fp) (hm : L.length = m) (hr : r < m) (hq : q < m) (_hml : m ≤ 1048576) :
    Calls Tryd.prog 182 #[.agg #[.int .i64 0, .int .i64 r, .int .i64 q, .int .i64 0], .int .i64 p, .slice A m cap] w fun e w' => e = .returned (.tuple #[]) ∧ RwF w' A cap (swapL L r q) fp ∧ Keeps (· ∈ fp) w w' := by
  have hbw : Below w.heap.size w (w.alloc (.cells #[.int .i64 0, .int .i64 r, .int .i64 q, .int .i64 0] tOp)) := (Below.refl _ _).alloc (Nat.le_refl _) _
  obtain ⟨W, hW⟩ : ∃ W, W = w.alloc (.cells #[.int .i64 0, .int .i64 r, .int .i64 q, .int .i64 0] tOp) := ⟨_, rfl⟩
  have hk : W.heap[w.heap.size]? = some (.cells #[.int .i64 0, .int .i64 r, .int .i64 q, .int .i64 0] tOp) := by rw [hW]; exact heap_alloc_new w _
  obtain ⟨⟨c0, c1, c2, c3⟩, f0, f1, f2, f3⟩ := box4 hk
  rw [← hW] at hbw
  have hR := h.below hbw
  obtain ⟨ad0, _, _, hA0, hc0, _⟩ := h.get (i := r) (by omega)
  have hlt := World.block_lt_of_cell? w _ hc0
  rw [block_of_add] at hlt
  obtain ⟨ad, B, c, hA, hcr, hfr, _⟩ := hR.get (i := r) (by omega)
  rw [hA] at hA0
  obtain rfl := Option.some.inj hA0
  subst hA
  obtain ⟨ad', C, d, hA', hcq, hfq, _⟩ := hR.get (i := q) (by omega)
  obtain rfl := Option.some.inj hA'
  obtain ⟨nr, hnr⟩ : ∃ nr, nr = (L.getD r []).length := ⟨_, rfl⟩
  obtain ⟨nq, hnq⟩ : ∃ nq, nq = (L.getD q []).length := ⟨_, rfl⟩
  rw [← hnr] at hcr
  rw [← hnq] at hcq
  have hsw := hR.drew.swap (r := r) (k := q) (by omega) (by omega) rfl (V := .slice C nq d) (U := .slice B nr c) hcq hcr
  have HSW := Lib.hid hsw
  have HB := Lib.hid hbw
  have hrI : (r : Int) < (m : Int) := by omega
  have hqI : (q : Int) < (m : Int) := by omega
  have hdc1 : W.drew.cell? (ad.add r) = some (.slice B nr c) := hcr
  have hdc2 : W.drew.cell? (ad.add q) = some (.slice C nq d) := hcq
  have hdf1 : W.drew.frozen? (ad.add r) = false := hfr
  have hdf2 : W.drew.frozen? (ad.add q) = false := hfq
  have e1 : W.drew.cell? ⟨w.heap.size, 1, none⟩ = some (.int .i64 r) := c1
  have e2 : W.drew.cell? ⟨w.heap.size, 2, none⟩ = some (.int .i64 q) := c2
  have hst1 : (W.drew.setCell (ad.add r) (.slice C nq d)).cell? ⟨w.heap.size, 1, none⟩ = some (.int .i64 r) := (World.cell?_setCell_far _ _ _ _ (by rw [block_of_add]; show ad.block ≠ w.heap.size; omega)).trans c1
  have hst2 : (W.drew.setCell (ad.add r) (.slice C nq d)).cell? ⟨w.heap.size, 2, none⟩ = some (.int .i64 q) := (World.cell?_setCell_far _ _ _ _ (by rw [block_of_add]; show ad.block ≠ w.heap.size; omega)).trans c2
  have hst3 : ((W.drew.setCell (ad.add r) (.slice C nq d)).setCell (ad.add q) (.slice B nr c)).cell? ⟨w.heap.size, 1, none⟩ = some (.int .i64 r) := (World.cell?_setCell_far _ _ _ _ (by rw [block_of_add]; show ad.block ≠ w.heap.size; omega)).trans hst1
  have hst4 : ((W.drew.setCell (ad.add r) (.slice C nq d)).setCell (ad.add q) (.slice B nr c)).cell? ⟨w.heap.size, 2, none⟩ = some (.int .i64 q) := (World.cell?_setCell_far _ _ _ _ (by rw [block_of_add]; show ad.block ≠ w.heap.size; omega)).trans hst2
  have hcq2 : ((W.setCell (ad.add r) (.slice C nq d)).cell? (ad.add q)).isSome = true := by
    by_cases e : ad.add r = ad.add q
    · rw [e, World.cell?_setCell_same' _ _ _ (by rw [hcq]; rfl)]; rfl
    · rw [World.cell?_setCell_other _ _ _ _ e, hcq]; rfl
  obtain ⟨V2, hcq2⟩ := Option.isSome_iff_exists.1 hcq2
  clear hk hR h hsw hnr hnq hc0 hbw
  go_enter Tryd.func182, Tryd.ntmps182
  go_wp2_with (fail)
  rw [← hW]
  clear hW
  refine beginH (fun w' => w'.cell? ⟨w.heap.size, 1, none⟩ = some (.int .i64 r) ∧ w'.cell? ⟨w.heap.size, 2, none⟩ = some (.int .i64 q)) (by kernel_rfl) ?_
  refine takeH 0 (v := ?_) rfl (by kernel_rfl) (by kernel_rfl) (by kernel_rfl) (fun _ _ _ h => h) ⟨c1, c2⟩ (by rfl) (fun W' hW' => ?_) ?_; rotate_left; · (obtain ⟨c1, c2⟩ := hW'; go_simp; first | done | with_reducible rfl)
  simp only [Act.put, List.setIfInBounds_toArray, List.set_cons_zero, List.set_cons_succ]
  refine takeH 1 (v := ?_) rfl (by kernel_rfl) (by kernel_rfl) (by kernel_rfl) (fun _ _ _ h => h) ⟨c1, c2⟩ (by rfl) (fun W' hW' => ?_) ?_; rotate_left; · (obtain ⟨c1, c2⟩ := hW'; go_simp; first | done | with_reducible rfl)
  simp only [Act.put, List.setIfInBounds_toArray, List.set_cons_zero, List.set_cons_succ]
  refine takeH 2 (v := ?_) rfl (by kernel_rfl) (by kernel_rfl) (by kernel_rfl) (fun _ _ _ h => h) ⟨c1, c2⟩ (by rfl) (fun W' hW' => ?_) ?_; rotate_left; · (obtain ⟨c1, c2⟩ := hW'; go_simp; first | done | with_reducible rfl)
  simp only [Act.put, List.setIfInBounds_toArray, List.set_cons_zero, List.set_cons_succ]
  refine takeH 3 (v := ?_) rfl (by kernel_rfl) (by kernel_rfl) (by kernel_rfl) (fun _ _ _ h => h) ⟨c1, c2⟩ (by rfl) (fun W' hW' => ?_) ?_; rotate_left; · (obtain ⟨c1, c2⟩ := hW'; go_simp; first | done | with_reducible rfl)
  simp only [Act.put, List.setIfInBounds_toArray, List.set_cons_zero, List.set_cons_succ]
  refine takeH 4 (v := ?_) rfl (by kernel_rfl) (by kernel_rfl) (by kernel_rfl) (fun _ _ _ h => h) ⟨c1, c2⟩ (by rfl) (fun W' hW' => ?_) ?_; rotate_left; · (obtain ⟨c1, c2⟩ := hW'; go_simp; first | done | with_reducible rfl)
  simp only [Act.put, List.setIfInBounds_toArray, List.set_cons_zero, List.set_cons_succ]
  refine takeH 5 (v := ?_) rfl (by kernel_rfl) (by kernel_rfl) (by kernel_rfl) (fun _ _ _ h => h) ⟨c1, c2⟩ (by rfl) (fun W' hW' => ?_) ?_; rotate_left; · (obtain ⟨c1, c2⟩ := hW'; go_simp; first | done | with_reducible rfl)
  simp only [Act.put, List.setIfInBounds_toArray, List.set_cons_zero, List.set_cons_succ]
  refine takeH 6 (v := ?_) rfl (by kernel_rfl) (by kernel_rfl) (by kernel_rfl) (fun _ _ _ h => h) ⟨c1, c2⟩ (by rfl) (fun W' hW' => ?_) ?_; rotate_left; · (obtain ⟨c1, c2⟩ := hW'; go_simp; first | done | with_reducible rfl)
  simp only [Act.put, List.setIfInBounds_toArray, List.set_cons_zero, List.set_cons_succ]
  refine takeH 7 (v := ?_) rfl (by kernel_rfl) (by kernel_rfl) (by kernel_rfl) (fun _ _ _ h => h) ⟨c1, c2⟩ (by rfl) (fun W' hW' => ?_) ?_; rotate_left; · (obtain ⟨c1, c2⟩ := hW'; go_simp; first | done | with_reducible rfl)
  simp only [Act.put, List.setIfInBounds_toArray, List.set_cons_zero, List.set_cons_succ]
  refine takeH 8 (v := ?_) rfl (by kernel_rfl) (by kernel_rfl) (by kernel_rfl) (fun _ _ _ h => h) ⟨c1, c2⟩ (by rfl) (fun W' hW' => ?_) ?_; rotate_left; · (obtain ⟨c1, c2⟩ := hW'; go_simp; first | done | with_reducible rfl)
  simp only [Act.put, List.setIfInBounds_toArray, List.set_cons_zero, List.set_cons_succ]
  refine takeH 9 (v := ?_) rfl (by kernel_rfl) (by kernel_rfl) (by kernel_rfl) (fun _ _ _ h => h) ⟨c1, c2⟩ (by rfl) (fun W' hW' => ?_) ?_; rotate_left; · (obtain ⟨c1, c2⟩ := hW'; go_simp; first | done | with_reducible rfl)
  simp only [Act.put, List.setIfInBounds_toArray, List.set_cons_zero, List.set_cons_succ]
  refine takeH 11 (v := ?_) rfl (by kernel_rfl) (by kernel_rfl) (by kernel_rfl) (fun _ _ _ h => h) ⟨c1, c2⟩ (by rfl) (fun W' hW' => ?_) ?_; rotate_left; · (obtain ⟨c1, c2⟩ := hW'; go_simp; first | done | with_reducible rfl)
  simp only [Act.put, List.setIfInBounds_toArray, List.set_cons_zero, List.set_cons_succ]
  refine takeH 12 (v := ?_) rfl (by kernel_rfl) (by kernel_rfl) (by kernel_rfl) (fun _ _ _ h => h) ⟨c1, c2⟩ (by rfl) (fun W' hW' => ?_) ?_; rotate_left; · (obtain ⟨c1, c2⟩ := hW'; go_simp; first | done | with_reducible rfl)
  simp only [Act.put, List.setIfInBounds_toArray, List.set_cons_zero, List.set_cons_succ]
  refine takeH 13 (v := ?_) rfl (by kernel_rfl) (by kernel_rfl) (by kernel_rfl) (fun _ _ _ h => h) ⟨c1, c2⟩ (by rfl) (fun W' hW' => ?_) ?_; rotate_left; · (obtain ⟨c1, c2⟩ := hW'; go_simp; first | done | with_reducible rfl)
  simp only [Act.put, List.setIfInBounds_toArray, List.set_cons_zero, List.set_cons_succ]
  refine takeH 14 (v := ?_) rfl (by kernel_rfl) (by kernel_rfl) (by kernel_rfl) (fun _ _ _ h => h) ⟨c1, c2⟩ (by rfl) (fun W' hW' => ?_) ?_; rotate_left; · (obtain ⟨c1, c2⟩ := hW'; go_simp; first | done | with_reducible rfl)
  simp only [Act.put, List.setIfInBounds_toArray, List.set_cons_zero, List.set_cons_succ]
  refine twoValH 10 15 (vi := .slice C nq d) (vj := .slice B nr c) rfl rfl (by decide) (by kernel_rfl) (by kernel_rfl) (by kernel_rfl) (by kernel_rfl) (by kernel_rfl) (by rfl) (by rfl) (by go_simp; first | done | with_reducible rfl) (by go_simp; first | done | with_reducible rfl) ⟨e1, e2⟩ ?_
  simp only [Act.put, List.setIfInBounds_toArray, List.set_cons_zero, List.set_cons_succ]
  refine oneH 16 rfl (by kernel_rfl) (by rfl) (fun K hK => ?_)
  go_simp
  refine hK _ _ ⟨e1, e2⟩ ?_
  clear hK K
  refine oneH 17 rfl (by kernel_rfl) (by rfl) (fun K hK => ?_)
  go_simp
  refine hK _ _ ⟨hst1, hst2⟩ ?_
  clear hK K
  refine oneH 18 rfl (by kernel_rfl) (by rfl) (fun K hK => ?_)
  go_simp
  refine hK _ _ ⟨hst1, hst2⟩ ?_
  clear hK K
  refine oneH 19 rfl (by kernel_rfl) (by rfl) (fun K hK => ?_)
  go_simp
  refine hK _ _ ⟨hst3, hst4⟩ ?_
  clear hK K
  refine doneH (by kernel_rfl) ?_
  go_wp2_with (fail)
  go_end0
  exact ⟨rfl, HSW.out.1, (Keeps.of_below HB.out _).trans ((Keeps.refl _ _).drew.trans HSW.out.2)⟩
set_option maxRecDepth 8000 in
set_option maxHeartbeats 2000000 in
theorem applyD_any (p by_ : Int) (r m nn : Nat) (A : Option Addr) (cap : Nat) (L : List (List Int)) (fp : List Nat) (w : World) (h : RwF w A cap L fp) (hm : Mat p m nn L) (hr : r < m) (_hml : m ≤ 1048576) (hnl : nn ≤ 1048576) (h2 : 2 ≤ p) (h97 : p ≤ 97) (hb0 : 0 ≤ by_) (hb1 : by_ < p) (hi0 : 0 ≤ invM p by_) (hi1 : invM p by_ < p) :
    Calls Tryd.prog 182 #[.agg #[.int .i64 1, .int .i64 r, .int .i64 0, .int .i64 by_], .int .i64 p, .slice A m cap] w fun e w' => e = .returned (.tuple #[]) ∧ RwF w' A cap (scaleL p r (invM p by_) L) fp ∧ Keeps (· ∈ fp) w w' := by
  obtain ⟨fq, h, hlt, hsub⟩ := h.lt
  have hml' := hm.len
  have hbw : Below w.heap.size w (w.alloc (.cells #[.int .i64 1, .int .i64 r, .int .i64 0, .int .i64 by_] tOp)) := (Below.refl _ _).alloc (Nat.le_refl _) _
  obtain ⟨W, hW⟩ : ∃ W, W = w.alloc (.cells #[.int .i64 1, .int .i64 r, .int .i64 0, .int .i64 by_] tOp) := ⟨_, rfl⟩
  have hk : W.heap[w.heap.size]? = some (.cells #[.int .i64 1, .int .i64 r, .int .i64 0, .int .i64 by_] tOp) := by rw [hW]; exact heap_alloc_new w _
  obtain ⟨⟨c0, c1, c2, c3⟩, f0, f1, f2, f3⟩ := box4 hk
  rw [← hW] at hbw
  have hR := h.below hbw
  obtain ⟨ad, B, c, hA, hcr, hfr, _, _⟩ := hR.get (i := r) (by omega)
  obtain ⟨V, hV⟩ : ∃ V, V = L.getD r [] := ⟨_, rfl⟩
  have hVl : V.length = nn := by rw [hV]; exact (hm.get hr).1
  have hVr : Res p V := by rw [hV]; exact (hm.get hr).2
  rw [← hV, hVl] at hcr
  subst hA
  have hout := hR.outer (i := r) (by omega) rfl hcr
  obtain ⟨iv, hiv⟩ : ∃ iv, iv = invM p by_ := ⟨_, rfl⟩
  have hI := fun w => inverse_any p by_ w h2 h97 hb0 hb1
  rw [← hiv] at hI hi0 hi1
  have HI := Lib.hid hI
  have HV := Lib.hid hV
  have HVl := Lib.hid hVl
  have HIV := Lib.hid hiv
  have HM := Lib.hid hml'
  have HB := Lib.hid hbw
  have HLT := Lib.hid hlt
  have HSUB := Lib.hid hsub
  have HOUT := Lib.hid hout
  have hrI : (r : Int) < (m : Int) := by omega
  clear hk h hV hVl hiv hI hml' hbw hlt hsub hout
  go_enter Tryd.func182, Tryd.ntmps182
  go_wp2_with (fail)
  rw [← hW]
  clear hW
  refine (HI.out _).mono ?_
  rintro e w' ⟨rfl, rfl⟩
  go_wp2_with (fail)
  go_loopw [43] (fun i wr => ∃ j : Nat, j ≤ nn ∧ i = .int .i64 j ∧ RwF wr (some ad) cap (L.set r ((scaleV p iv V).take j ++ V.drop j)) fq ∧ Keeps (· ∈ fq) W wr ∧ wr.cell? (ad.add r) = some (.slice B nn c)) (fun i _ => nn - (intOf i).toNat)
  case atStart => exact ⟨0, Nat.zero_le _, rfl, by rw [List.take_zero, List.nil_append, List.drop_zero, HV.out, set_getD]; exact hR, Keeps.refl _ _, hcr⟩
  case round =>
    obtain ⟨j, hj, rfl, hOj, hkp, hcj⟩ := hrel
    clear hR hcr hfr
    have hlc : ((scaleV p iv V).take j ++ V.drop j).length = nn := by rw [len_take_drop (by rw [scaleV_length]) (by rw [HVl.out]; exact hj)]; exact HVl.out
    have hm' := HM.out
    by_cases hjn : j < nn
    · obtain ⟨ad4, B4, c4, hA4, hc4, hf4, hI4, _⟩ := hOj.get (i := r) (by rw [List.length_set]; omega)
      obtain rfl := Option.some.inj hA4
      rw [getD_set_self (by omega)] at hc4 hI4
      rw [hlc, hcj] at hc4
      injection hc4 with hc4
      injection hc4 with e1 e2 e3
      subst e1 e3
      obtain ⟨bd, z, hB, hz, hbl, hcz, hfz'⟩ := hI4.at_ (j := j) (by rw [hlc]; exact hjn)
      rw [get_take_drop (by rw [scaleV_length]) (by rw [HVl.out]; exact hjn)] at hz
      have hfz := hfz' j
      have hzb := hVr z (List.mem_of_getElem? hz)
      subst hB
      have hd1 : wr.cell? ⟨w.heap.size, 1, none⟩ = some (.int .i64 r) := keeps_cell hkp c1 (fun hh => by have := HLT.out _ hh; exact absurd this (Nat.lt_irrefl _))
      obtain ⟨hset, hks⟩ := hOj.set (i := r) (by rw [List.length_set]; omega) rfl hcj (j := j) (by rw [getD_set_self (by omega), hlc]; exact hjn) (z * iv % p)
      have hsz : (scaleV p iv V)[j]? = some (z * iv % p) := by simp [scaleV, hz]
      rw [getD_set_self (by omega), List.set_set, take_append_step (by rw [scaleV_length]) hsz] at hset
      have hcn : (wr.setCell (bd.add j) (.int .i64 (z * iv % p))).cell? (ad.add r) = some (.slice (some bd) nn c) := (World.cell?_setCell_far _ _ _ _ (by rw [block_of_add, block_of_add]; exact HOUT.out _ (by simp))).trans hcj
      have HST := Lib.hid (And.intro hset.drew (And.intro (hkp.trans hks).drew hcn))
      have hjI : (j : Int) < (nn : Int) := by omega
      obtain ⟨x1, x2⟩ := mul_bound (a := z) (b := iv) hzb.1 (by omega) hi0 (by omega)
      have hp0 : (p == 0) = false := by rw [beq_eq_false_iff_ne]; omega
      clear hset hsz hz hI4 hfz' hlc hOj hm' hkp hks hcn
      go_wp2_with (fail)
      refine wp_region_still_tail 11 (by kernel_rfl) (by kernel_rfl) ?_
      simp only [List.take_succ_cons, List.take_zero, List.drop_succ_cons, List.drop_zero]
      change wpStill _ _ wr.drew (fun a' => wpList _ _ _ _ a' wr.drew) _ _
      have q1 := Int.emod_nonneg (z * iv) (show p ≠ 0 by omega)
      have q2 := Int.emod_lt_of_pos (z * iv) (show 0 < p by omega)
      have ws : IntKind.i64.wrap (z * iv) = z * iv := IntWalk.i64_in _ (by omega)
      have ws2 : IntKind.i64.wrap (z * iv % p) = z * iv % p := IntWalk.i64_in _ (by omega)
      have tm : (z * iv).tmod p = z * iv % p := Int.tmod_eq_emod_of_nonneg x1
      have hpz : ¬ p = 0 := by omega
      repeat still_step
      refine wpStill_nil ?_
      clear ws ws2 tm hpz
      go_wp2_with (fail)
      go_roundw
      case rel => exact ⟨j + 1, by omega, by go_num, HST.out.1, HST.out.2.1, HST.out.2.2⟩
      case measure => simp [intOf]; omega
    · obtain rfl : nn = j := by omega
      have hO2 : RwF wr (some ad) cap (scaleL p r (invM p by_) L) fp := by
        have := hOj
        rw [List.take_of_length_le (by rw [scaleV_length, HVl.out]; omega), List.drop_of_length_le (by rw [HVl.out]; omega), List.append_nil, HV.out, HIV.out] at this
        obtain ⟨hs, e1, e2, e3⟩ := this
        exact ⟨hs, e1, e2, fun b hb => HSUB.out b (e3 b hb)⟩
      have hkk : Keeps (· ∈ fp) w wr := (Keeps.of_below HB.out _).trans (hkp.mono fun b _ hb => HSUB.out b hb)
      clear hOj hlc hm'
      go_wp2_with (fail)
      go_end0
      exact ⟨rfl, hO2, hkk⟩

set_option maxRecDepth 8000 in
set_option maxHeartbeats 2000000 in
theorem applyS_any (p by_ : Int) (i r m nn : Nat) (A : Option Addr) (cap : Nat) (L : List (List Int)) (fp : List Nat) (w : World) (h : RwF w A cap L fp) (hm : Mat p m nn L) (hi : i < m) (hr : r < m) (hne : i ≠ r) (_hml : m ≤ 1048576) (hnl : nn ≤ 1048576) (h2 : 2 ≤ p) (h97 : p ≤ 97) (hb0 : 0 ≤ by_) (hb1 : by_ < p) :
    Calls Tryd.prog 182 #[.agg #[.int .i64 2, .int .i64 i, .int .i64 r, .int .i64 by_], .int .i64 p, .slice A m cap] w fun e w' => e = .returned (.tuple #[]) ∧ RwF w' A cap (L.set i (addT p (L.getD i []) (-by_) (L.getD r []))) fp ∧ Keeps (· ∈ fp) w w' := by
  have hml' := hm.len
  have hbw : Below w.heap.size w (w.alloc (.cells #[.int .i64 2, .int .i64 i, .int .i64 r, .int .i64 by_] tOp)) := (Below.refl _ _).alloc (Nat.le_refl _) _
  obtain ⟨W, hW⟩ : ∃ W, W = w.alloc (.cells #[.int .i64 2, .int .i64 i, .int .i64 r, .int .i64 by_] tOp) := ⟨_, rfl⟩
  have hk : W.heap[w.heap.size]? = some (.cells #[.int .i64 2, .int .i64 i, .int .i64 r, .int .i64 by_] tOp) := by rw [hW]; exact heap_alloc_new w _
  obtain ⟨⟨c0, c1, c2, c3⟩, f0, f1, f2, f3⟩ := box4 hk
  rw [← hW] at hbw
  have hR := h.below hbw
  obtain ⟨ad, B, c, hA, hci, hfi, hIi, _⟩ := hR.get (i := i) (by omega)
  subst hA
  obtain ⟨ad', C, d, hA', hcr, hfr, hIr, _⟩ := hR.get (i := r) (by omega)
  obtain rfl := Option.some.inj hA'
  have hap := hR.apart (i := r) (k := i) (by omega) (by omega) (Ne.symm hne) rfl hcr hci
  have hli := (hm.get hi).1
  have hlr := (hm.get hr).1
  have hC := addTimes_any p (-by_) B C c d (L.getD i []) (L.getD r []) W.drew hIi hIr.rd (fun _ b hb => hap b hb) (by omega) (by omega) (by omega) h97 (hm.get hi).2 (hm.get hr).2 (by omega) (by omega)
  rw [hli, hlr] at hC
  rw [hli] at hci
  rw [hlr] at hcr
  have HW := Lib.hid (fun (w' : World) (hw : Wr W.drew w' B (ints (addT p (L.getD i []) (-by_) (L.getD r [])))) => hR.drew.wr (i := i) (by omega) rfl hci (l' := addT p (L.getD i []) (-by_) (L.getD r [])) (by rw [addT_length]) hw)
  have HC := Lib.hid hC
  have HB := Lib.hid hbw
  have hrI : (r : Int) < (m : Int) := by omega
  have hiI : (i : Int) < (m : Int) := by omega
  clear hk h hC hml' hbw hR hIi hIr hap hli hlr hfi hfr
  go_enter Tryd.func182, Tryd.ntmps182
  go_wp2_with (fail)
  rw [← hW]
  clear hW
  refine wp_region_still_tail 14 (by kernel_rfl) (by kernel_rfl) ?_
  simp only [List.take_succ_cons, List.take_zero, List.drop_succ_cons, List.drop_zero]
  change wpStill _ _ W.drew (fun a' => wpList _ _ _ _ a' W.drew) _ _
  repeat still_step
  refine wpStill_nil ?_
  go_wp2_with (fail)
  refine HC.out.mono ?_
  rintro e w' ⟨rfl, hw⟩
  obtain ⟨h1, h2⟩ := HW.out w' hw
  go_wp2_with (fail)
  go_end0
  exact ⟨rfl, h1, (Keeps.of_below HB.out _).trans ((Keeps.refl _ _).drew.trans h2)⟩
end Go.Proofs.YtahnhblodfdfhaaDoor
namespace Go.Proofs.YtahnhblodfdfhaaDoor
open Go.RowKit

/-- What the closure has captured, and the two lists of rows. -/
structure Cap (w : World) (p : Int) (P4 P5 P7 : Nat) (A : Option Addr) (cap : Nat) (L : List (List Int)) (fp : List Nat) (A' : Option Addr) (cap' : Nat) (K : List (List Int)) (fp' : List Nat) (m : Nat) : Prop where
  c4 : w.cell? ⟨P4, 0, none⟩ = some (.int .i64 p)
  c5 : w.cell? ⟨P5, 0, none⟩ = some (.slice A m cap)
  c7 : w.cell? ⟨P7, 0, none⟩ = some (.slice A' m cap')
  rows : RwF w A cap L fp
  also : RwF w A' cap' K fp'
  ap : ∀ b, b ∈ fp → ¬ b ∈ fp'
  n4 : ¬ P4 ∈ fp ∧ ¬ P4 ∈ fp'
  n5 : ¬ P5 ∈ fp ∧ ¬ P5 ∈ fp'
  n7 : ¬ P7 ∈ fp ∧ ¬ P7 ∈ fp'
section
variable {w w' : World} {p : Int} {P4 P5 P7 : Nat} {A : Option Addr} {cap : Nat} {L L' : List (List Int)} {fp : List Nat} {A' : Option Addr} {cap' : Nat} {K K' : List (List Int)} {fp' : List Nat} {m : Nat}
theorem Cap.below (h : Cap w p P4 P5 P7 A cap L fp A' cap' K fp' m) (hb : Below w.heap.size w w') : Cap w' p P4 P5 P7 A cap L fp A' cap' K fp' m :=
  ⟨(hb.cell (World.block_lt_of_cell? _ _ h.c4)).trans h.c4, (hb.cell (World.block_lt_of_cell? _ _ h.c5)).trans h.c5, (hb.cell (World.block_lt_of_cell? _ _ h.c7)).trans h.c7, h.rows.below hb, h.also.below hb, h.ap, h.n4, h.n5, h.n7⟩
theorem Cap.first (h : Cap w p P4 P5 P7 A cap L fp A' cap' K fp' m) (hR : RwF w' A cap L' fp) (hk : Keeps (· ∈ fp) w w') : Cap w' p P4 P5 P7 A cap L' fp A' cap' K fp' m :=
  ⟨keeps_cell hk h.c4 h.n4.1, keeps_cell hk h.c5 h.n5.1, keeps_cell hk h.c7 h.n7.1, hR, h.also.keeps hk fun b hb hb' => h.ap b hb' hb, h.ap, h.n4, h.n5, h.n7⟩
theorem Cap.second (h : Cap w p P4 P5 P7 A cap L fp A' cap' K fp' m) (hR : RwF w' A' cap' K' fp') (hk : Keeps (· ∈ fp') w w') : Cap w' p P4 P5 P7 A cap L fp A' cap' K' fp' m :=
  ⟨keeps_cell hk h.c4 h.n4.2, keeps_cell hk h.c5 h.n5.2, keeps_cell hk h.c7 h.n7.2, h.rows.keeps hk fun b hb hb' => h.ap b hb hb', hR, h.ap, h.n4, h.n5, h.n7⟩
end

theorem swapL_self (L : List (List Int)) (r : Nat) : swapL L r r = L := by
  unfold swapL; rw [set_getD, set_getD]

set_option maxRecDepth 8000 in
set_option maxHeartbeats 2000000 in
theorem stepX_any (p : Int) (r q m : Nat) (P4 P5 P7 : Nat) (A : Option Addr) (cap : Nat) (L : List (List Int)) (fp : List Nat) (A' : Option Addr) (cap' : Nat) (K : List (List Int)) (fp' : List Nat) (w : World)
    (h : Cap w p P4 P5 P7 A cap L fp A' cap' K fp' m) (hL : L.length = m) (hK : K.length = m) (hr : r < m) (hq : q < m) (hm : m ≤ 1048576) (hnf : ¬ w.heap.size ∈ fp) :
    Calls Tryd.prog 181 #[.agg #[.int .i64 0, .int .i64 r, .int .i64 q, .int .i64 0], .pointer (some ⟨P4, 0, none⟩), .pointer (some ⟨P5, 0, none⟩), .pointer (some ⟨P7, 0, none⟩)] w
      fun e w' => e = .returned (.tuple #[]) ∧ Cap w' p P4 P5 P7 A cap (swapL L r q) fp A' cap' (swapL K r q) fp' m ∧ Keeps (fun b => b ∈ fp ∨ b ∈ fp') w w' := by
  have hbw : Below w.heap.size w (w.alloc (.cells #[.int .i64 0, .int .i64 r, .int .i64 q, .int .i64 0] tOp)) := (Below.refl _ _).alloc (Nat.le_refl _) _
  by_cases hrq : r = q
  · subst hrq
    go_enter Tryd.func181, Tryd.ntmps181
    go_wp2_with (fail)
    refine bodyPost_ret (results_none rfl _ _ _) rfl ?_
    refine ⟨rfl, ?_, Keeps.of_below hbw _⟩
    rw [swapL_self, swapL_self]
    exact h.below hbw
  · have hne : ((q : Int) == (r : Int)) = false := by rw [beq_eq_false_iff_ne]; omega
    have hne2 : ((r : Int) == (q : Int)) = false := by rw [beq_eq_false_iff_ne]; omega
    clear hbw
    have hbw : Below w.heap.size w (w.alloc (.cells #[.int .i64 0, .int .i64 r, .int .i64 q, .int .i64 0] tOp)) := (Below.refl _ _).alloc (Nat.le_refl _) _
    have hW := h.below hbw
    have HB := Lib.hid hbw
    have HC := Lib.hid hW
    have d4 := hW.c4
    have d5 := hW.c5
    have d7 := hW.c7
    clear hbw hW h
    go_enter Tryd.func181, Tryd.ntmps181
    go_wp2_with (fail)
    refine (applyX_any p r q m A cap L fp _ HC.out.rows hL hr hq hm).mono ?_
    rintro e w1 ⟨rfl, h1, k1⟩
    have hF := HC.out.first h1 k1
    have HF := Lib.hid hF
    have e4 := hF.c4
    have e5 := hF.c5
    have e7 := hF.c7
    obtain ⟨g0, g1, g2, g3⟩ : w1.cell? ⟨w.heap.size, 0, none⟩ = some (.int .i64 0) ∧ w1.cell? ⟨w.heap.size, 1, none⟩ = some (.int .i64 r) ∧ w1.cell? ⟨w.heap.size, 2, none⟩ = some (.int .i64 q) ∧ w1.cell? ⟨w.heap.size, 3, none⟩ = some (.int .i64 0) := by
      obtain ⟨⟨a0, a1, a2, a3⟩, _⟩ := box4 (heap_alloc_new w (.cells #[.int .i64 0, .int .i64 r, .int .i64 q, .int .i64 0] tOp))
      exact ⟨keeps_cell k1 a0 hnf, keeps_cell k1 a1 hnf, keeps_cell k1 a2 hnf, keeps_cell k1 a3 hnf⟩
    clear d4 d5 d7 hF h1
    go_wp2_with (fail)
    refine (applyX_any p r q m A' cap' K fp' _ HF.out.also hK hr hq hm).mono ?_
    rintro e w2 ⟨rfl, h2, k2⟩
    go_wp2_with (fail)
    go_end0
    exact ⟨rfl, HF.out.second h2 k2, (Keeps.of_below HB.out _).trans ((k1.mono fun b _ hb => .inl hb).trans (k2.mono fun b _ hb => .inr hb))⟩

set_option maxRecDepth 8000 in
set_option maxHeartbeats 2000000 in
theorem stepD_any (p by_ : Int) (r : Nat) (m nn n2 : Nat) (P4 P5 P7 : Nat) (A : Option Addr) (cap : Nat) (L : List (List Int)) (fp : List Nat) (A' : Option Addr) (cap' : Nat) (K : List (List Int)) (fp' : List Nat) (w : World)
    (h : Cap w p P4 P5 P7 A cap L fp A' cap' K fp' m) (hL : Mat p m nn L) (hK : Mat p m n2 K) (hr : r < m) (hm : m ≤ 1048576) (hnl : nn ≤ 1048576) (hn2 : n2 ≤ 1048576) (h2 : 2 ≤ p) (h97 : p ≤ 97) (hb0 : 0 ≤ by_) (hb1 : by_ < p) (hi0 : 0 ≤ invM p by_) (hi1 : invM p by_ < p) (hnf : ¬ w.heap.size ∈ fp) :
    Calls Tryd.prog 181 #[.agg #[.int .i64 1, .int .i64 r, .int .i64 0, .int .i64 by_], .pointer (some ⟨P4, 0, none⟩), .pointer (some ⟨P5, 0, none⟩), .pointer (some ⟨P7, 0, none⟩)] w
      fun e w' => e = .returned (.tuple #[]) ∧ Cap w' p P4 P5 P7 A cap (scaleL p r (invM p by_) L) fp A' cap' (scaleL p r (invM p by_) K) fp' m ∧ Keeps (fun b => b ∈ fp ∨ b ∈ fp') w w' := by
  have hbw : Below w.heap.size w (w.alloc (.cells #[.int .i64 1, .int .i64 r, .int .i64 0, .int .i64 by_] tOp)) := (Below.refl _ _).alloc (Nat.le_refl _) _
  have hW := h.below hbw
  have HB := Lib.hid hbw
  have HC := Lib.hid hW
  have d4 := hW.c4
  have d5 := hW.c5
  have d7 := hW.c7
  clear hbw hW h
  go_enter Tryd.func181, Tryd.ntmps181
  go_wp2_with (fail)
  refine (applyD_any p by_ r m nn A cap L fp _ HC.out.rows hL hr hm hnl h2 h97 hb0 hb1 hi0 hi1).mono ?_
  rintro e w1 ⟨rfl, h1, k1⟩
  have hF := HC.out.first h1 k1
  have HF := Lib.hid hF
  have e4 := hF.c4
  have e5 := hF.c5
  have e7 := hF.c7
  obtain ⟨g0, g1, g2, g3⟩ : w1.cell? ⟨w.heap.size, 0, none⟩ = some (.int .i64 1) ∧ w1.cell? ⟨w.heap.size, 1, none⟩ = some (.int .i64 r) ∧ w1.cell? ⟨w.heap.size, 2, none⟩ = some (.int .i64 0) ∧ w1.cell? ⟨w.heap.size, 3, none⟩ = some (.int .i64 by_) := by
    obtain ⟨⟨a0, a1, a2, a3⟩, _⟩ := box4 (heap_alloc_new w (.cells #[.int .i64 1, .int .i64 r, .int .i64 0, .int .i64 by_] tOp))
    exact ⟨keeps_cell k1 a0 hnf, keeps_cell k1 a1 hnf, keeps_cell k1 a2 hnf, keeps_cell k1 a3 hnf⟩
  clear d4 d5 d7 hF h1
  go_wp2_with (fail)
  refine (applyD_any p by_ r m n2 A' cap' K fp' _ HF.out.also hK hr hm hn2 h2 h97 hb0 hb1 hi0 hi1).mono ?_
  rintro e w2 ⟨rfl, h2, k2⟩
  go_wp2_with (fail)
  go_end0
  exact ⟨rfl, HF.out.second h2 k2, (Keeps.of_below HB.out _).trans ((k1.mono fun b _ hb => .inl hb).trans (k2.mono fun b _ hb => .inr hb))⟩

set_option maxRecDepth 8000 in
set_option maxHeartbeats 2000000 in
theorem stepS_any (p by_ : Int) (i r : Nat) (m nn n2 : Nat) (P4 P5 P7 : Nat) (A : Option Addr) (cap : Nat) (L : List (List Int)) (fp : List Nat) (A' : Option Addr) (cap' : Nat) (K : List (List Int)) (fp' : List Nat) (w : World)
    (h : Cap w p P4 P5 P7 A cap L fp A' cap' K fp' m) (hL : Mat p m nn L) (hK : Mat p m n2 K) (hi : i < m) (hr : r < m) (hne : i ≠ r) (hm : m ≤ 1048576) (hnl : nn ≤ 1048576) (hn2 : n2 ≤ 1048576) (h2 : 2 ≤ p) (h97 : p ≤ 97) (hb0 : 0 ≤ by_) (hb1 : by_ < p) (hnf : ¬ w.heap.size ∈ fp) :
    Calls Tryd.prog 181 #[.agg #[.int .i64 2, .int .i64 i, .int .i64 r, .int .i64 by_], .pointer (some ⟨P4, 0, none⟩), .pointer (some ⟨P5, 0, none⟩), .pointer (some ⟨P7, 0, none⟩)] w
      fun e w' => e = .returned (.tuple #[]) ∧ Cap w' p P4 P5 P7 A cap (L.set i (addT p (L.getD i []) (-by_) (L.getD r []))) fp A' cap' (K.set i (addT p (K.getD i []) (-by_) (K.getD r []))) fp' m ∧ Keeps (fun b => b ∈ fp ∨ b ∈ fp') w w' := by
  have hbw : Below w.heap.size w (w.alloc (.cells #[.int .i64 2, .int .i64 i, .int .i64 r, .int .i64 by_] tOp)) := (Below.refl _ _).alloc (Nat.le_refl _) _
  have hW := h.below hbw
  have HB := Lib.hid hbw
  have HC := Lib.hid hW
  have d4 := hW.c4
  have d5 := hW.c5
  have d7 := hW.c7
  clear hbw hW h
  go_enter Tryd.func181, Tryd.ntmps181
  go_wp2_with (fail)
  refine (applyS_any p by_ i r m nn A cap L fp _ HC.out.rows hL hi hr hne hm hnl h2 h97 hb0 hb1).mono ?_
  rintro e w1 ⟨rfl, h1, k1⟩
  have hF := HC.out.first h1 k1
  have HF := Lib.hid hF
  have e4 := hF.c4
  have e5 := hF.c5
  have e7 := hF.c7
  obtain ⟨g0, g1, g2, g3⟩ : w1.cell? ⟨w.heap.size, 0, none⟩ = some (.int .i64 2) ∧ w1.cell? ⟨w.heap.size, 1, none⟩ = some (.int .i64 i) ∧ w1.cell? ⟨w.heap.size, 2, none⟩ = some (.int .i64 r) ∧ w1.cell? ⟨w.heap.size, 3, none⟩ = some (.int .i64 by_) := by
    obtain ⟨⟨a0, a1, a2, a3⟩, _⟩ := box4 (heap_alloc_new w (.cells #[.int .i64 2, .int .i64 i, .int .i64 r, .int .i64 by_] tOp))
    exact ⟨keeps_cell k1 a0 hnf, keeps_cell k1 a1 hnf, keeps_cell k1 a2 hnf, keeps_cell k1 a3 hnf⟩
  clear d4 d5 d7 hF h1
  go_wp2_with (fail)
  refine (applyS_any p by_ i r m n2 A' cap' K fp' _ HF.out.also hK hi hr hne hm hn2 h2 h97 hb0 hb1).mono ?_
  rintro e w2 ⟨rfl, h2, k2⟩
  go_wp2_with (fail)
  go_end0
  exact ⟨rfl, HF.out.second h2 k2, (Keeps.of_below HB.out _).trans ((k1.mono fun b _ hb => .inl hb).trans (k2.mono fun b _ hb => .inr hb))⟩
end Go.Proofs.YtahnhblodfdfhaaDoor
