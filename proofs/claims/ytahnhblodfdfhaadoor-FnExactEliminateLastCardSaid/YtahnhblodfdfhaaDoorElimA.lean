/-
  THE WALK: impl.eliminateLast.
-/
import Derived.Test.YtahnhblodfdfhaaDoorCanon
import Derived.Test.YtahnhblodfdfhaaDoorDel
import Derived.Test.YtahnhblodfdfhaaDoorElimM
import Derived.Test.YtahnhblodfdfhaaDoorRlY
import Derived.IntWalk
namespace Go.Proofs.YtahnhblodfdfhaaDoor
open Go.RowKit

section
variable {P : Program} {ops : Array Oper} {w : World}
theorem still_val {Q : Act → Prop} {a : Act} {o : Oper} {rest : List Oper} {v : Value} (hw : Region.wanted o (yielded ops a.tmps) = true) (hrun : (execOp a.eval o).run P w = .ok (.value v) w) (h : wpStill P ops w Q rest (a.put o.dst v)) : wpStill P ops w Q (o :: rest) a := by
  unfold wpStill
  rw [if_pos hw]
  unfold Oper.still
  rw [hrun, Oper.stillUpon_value]
  exact h
end
theorem pvI_ne {L : List (List Int)} {c : Nat} (h : pvI L c < L.length) : (L.getD (pvI L c) []).getD c 0 ≠ 0 := by
  have h2 := List.findIdx_getElem (xs := L) (p := fun v : List Int => v.getD c 0 != 0) (w := h)
  have e : L.getD (pvI L c) [] = L[pvI L c] := by rw [List.getD_eq_getElem?_getD, List.getElem?_eq_getElem h]; rfl
  rw [e]
  have h3 : (L[pvI L c].getD c 0 != 0) = true := h2
  simpa using h3
theorem cut_take {L : List (List Int)} {c k : Nat} {v : List Int} (h : L[k]? = some v) : ((L.take k).map (fun v => v.take c) ++ L.drop k).set k (v.take c) = (L.take (k + 1)).map (fun v => v.take c) ++ L.drop (k + 1) := by
  have hk : k < L.length := (List.getElem?_eq_some_iff.1 h).1
  have hl : ((L.take k).map (fun v : List Int => v.take c)).length = k := by simp; omega
  rw [List.set_append_right _ _ (by omega), hl, Nat.sub_self, List.drop_eq_getElem_cons hk, List.set_cons_zero, List.take_add_one, h]
  simp
theorem cut_get {L : List (List Int)} {c k : Nat} (h : k < L.length) : ((L.take k).map (fun v => v.take c) ++ L.drop k).getD k [] = L.getD k [] := by
  have hl : ((L.take k).map (fun v : List Int => v.take c)).length = k := by simp; omega
  rw [List.getD_eq_getElem?_getD, List.getD_eq_getElem?_getD, List.getElem?_append_right (by omega), hl, Nat.sub_self, List.getElem?_drop, Nat.add_zero]
theorem Wr.of_drew {w w' : World} {A : Option Addr} {new : List Value} (h : Wr w.drew w' A new) : Wr w w' A new := ⟨⟨h.1.os, h.1.tape, h.1.output, h.1.size, h.1.block⟩, h.2⟩
theorem mul96 {x y : Int} (hx : 0 ≤ x ∧ x ≤ 96) (hy : 0 ≤ y ∧ y ≤ 96) : 0 ≤ x * y ∧ x * y ≤ 9216 := ⟨Int.mul_nonneg hx.1 hy.1, Int.le_trans (Int.mul_le_mul hx.2 hy.2 hy.1 (by omega)) (by omega)⟩

set_option maxRecDepth 100000 in
set_option maxHeartbeats 2000000 in
theorem eliminateLast_any (p : Int) {v : Value} {s : Sys} (c : Nat) (w : World) (h : RdSysV w v s) (hs : SysOk p s) (hc : s.1 + s.2.1 = (c : Int) + 1) (hb : 1 ≤ s.2.1) :
    Calls Tryd.prog 52 #[.int .i64 p, v] w fun e w' => ∃ v' fp, e = .returned v' ∧ OwSys w' v' (s.1, s.2.1 - 1, elimM p c s.2.2) fp ∧ FreshL w.heap.size fp ∧ Below w.heap.size w w' := by
  obtain ⟨A, cp, gs, rfl, hL, hR⟩ := h
  obtain ⟨a, b, L⟩ := s
  have hL' : L = gs.map (fun h : Hd => h.2.2) := hL
  subst hL'
  have hva : 0 ≤ a ∧ a ≤ 24 := hs.vis
  have hvb : 0 ≤ b ∧ b ≤ 100 := hs.hid
  have hcc : a + b = (c : Int) + 1 := hc
  have hb1' : 1 ≤ b := hb
  have hc124 : c ≤ 124 := by omega
  have hgl : gs.length ≤ 160 := by have := hs.len; simpa using this
  have hmat : Mat p gs.length (c + 1) (gs.map fun h : Hd => h.2.2) := by
    have := hs.mat
    rw [List.length_map] at this
    have e : ((a, b, gs.map fun h : Hd => h.2.2) : Sys).1 + ((a, b, gs.map fun h : Hd => h.2.2) : Sys).2.1 = ((c + 1 : Nat) : Int) := by show a + b = _; omega
    rw [e] at this; exact this
  obtain ⟨L, hL⟩ : ∃ L, L = gs.map fun h : Hd => h.2.2 := ⟨_, rfl⟩
  have hl0 : ∀ x, x ∈ gs → x.2.2.length ≤ 1048576 := fun x hx => by rw [(hmat.row _ (List.mem_map_of_mem hx)).1]; omega
  obtain ⟨W, hW⟩ : ∃ W, W = (w.alloc (.cells #[.int .i64 a, .int .i64 b, .slice A gs.length cp] 26)).alloc (.cells #[.int .i64 0, .int .i64 0, .slice none 0 0] 26) := ⟨_, rfl⟩
  have hB0 : Below w.heap.size w W := by rw [hW]; exact ((Below.refl _ _).alloc (Nat.le_refl _) _).alloc (by simp) _
  have k0 : W.heap[w.heap.size]? = some (.cells #[.int .i64 a, .int .i64 b, .slice A gs.length cp] 26) := by
    rw [hW]; exact box_below (heap_alloc_new w _) (below_alloc _ _)
  have k1 : W.heap[w.heap.size + 1]? = some (.cells #[.int .i64 0, .int .i64 0, .slice none 0 0] 26) := by
    rw [hW]
    have := heap_alloc_new (w.alloc (.cells #[.int .i64 a, .int .i64 b, .slice A gs.length cp] 26)) (.cells #[.int .i64 0, .int .i64 0, .slice none 0 0] 26)
    rwa [World.size_alloc] at this
  have hS := sizeV_any (v := .agg #[.int .i64 a, .int .i64 b, .slice A gs.length cp]) (s := (a, b, gs.map fun h : Hd => h.2.2)) W ⟨A, cp, gs, rfl, rfl, hR.below hB0⟩ (by show 0 ≤ a ∧ a ≤ 1000; omega) (by show 0 ≤ b ∧ b ≤ 1000; omega)
  have hS' : Calls Tryd.prog 104 #[.agg #[.int .i64 a, .int .i64 b, .slice A gs.length cp]] W fun e w' => e = .returned (.int .i64 ((c : Int) + 1)) ∧ Below W.heap.size W w' := by rw [← hcc]; exact hS
  have HS := Lib.hid hS'
  have HB := Lib.hid hB0
  have K0 := Lib.hid k0
  have K1 := Lib.hid k1
  have HR := Lib.hid (hR.below hB0)
  have HMAT := Lib.hid hmat
  have HFLD := Lib.hid hs.fld
  have HL := Lib.hid hL
  have HL0 := Lib.hid hl0
  obtain ⟨⟨c0, c1, c2⟩, f0, f1, f2⟩ := box3 k0
  show Calls Tryd.prog _ _ _ fun e w' => ∃ v' fp, e = .returned v' ∧ OwSys w' v' (a, b - 1, elimM p c (gs.map fun h : Hd => h.2.2)) fp ∧ FreshL w.heap.size fp ∧ Below w.heap.size w w'
  rw [← hL]
  have hwc : IntKind.i64.wrap ((c : Int) + 1 - 1) = (c : Int) := by rw [show (c : Int) + 1 - 1 = (c : Int) by omega]; exact IntWalk.i64_in _ (by omega)
  have hwc2 : IntKind.i64.wrap (c : Int) = (c : Int) := IntWalk.i64_in _ (by omega)
  clear hS hS' hB0 k0 k1 hR hmat hs hc hcc hL hl0
  go_enter Tryd.func52, Tryd.ntmps52
  go_wp2_with (fail)
  rw [← hW]
  clear hW
  go_wp2_with (fail)
  refine HS.out.mono ?_
  rintro e w1 ⟨rfl, hb1⟩
  clear c0 c1 c2 f0 f1 f2
  obtain ⟨W2, hW2⟩ : ∃ W2, W2 = w1.alloc (.cells #[.int .i64 (c : Int)] 3) := ⟨_, rfl⟩
  have hb2 : Below w1.heap.size w1 W2 := by rw [hW2]; exact below_alloc _ _
  have k5 : W2.heap[w1.heap.size]? = some (.cells #[.int .i64 (c : Int)] 3) := by rw [hW2]; exact heap_alloc_new w1 _
  have hB1 := below_trans HB.out hb1 HB.out.size
  have hB2 := below_trans hB1 hb2 hB1.size
  have k0' := box_below (box_below K0.out hb1) hb2
  have k1' := box_below (box_below K1.out hb1) hb2
  have hR2 := (HR.out.below hb1).below hb2
  obtain ⟨⟨c0, c1, c2⟩, f0, f1, f2⟩ := box3 k0'
  have HC := Lib.hid (clones_any A cp gs W2 hR2 (by omega) HL0.out)
  have K0' := Lib.hid k0'
  have K1' := Lib.hid k1'
  have K5 := Lib.hid k5
  have HB2 := Lib.hid hB2
  rw [hW2] at c0 c1 c2 f0 f1 f2
  clear k0' k1' k5 hR2 hB1 hB2 hb1 HB K0 K1 HR HS
  go_wp2_with (fail)
  rw [← hW2]
  clear c0 c1 c2 f0 f1 f2 hW2 hb2
  refine HC.out.mono ?_
  rintro e w3 hret
  rw [← HL.out] at hret
  obtain ⟨A3, c3, rfl, hO3⟩ := hret.om
  have hll : L.length = gs.length := by rw [HL.out, List.length_map]
  rw [hll]
  obtain ⟨m, hm⟩ : ∃ m, m = gs.length := ⟨_, rfl⟩
  rw [← hm] at hll hgl ⊢
  have hB3 := Lib.hid (below_trans HB2.out hO3.below_ HB2.out.size)
  have k5' := box_below K5.out hO3.below_
  have hg : w3.cell? ⟨w1.heap.size, 0, none⟩ = some (.int .i64 (c : Int)) := by simp [World.cell?, k5']
  have hg' : w3.frozen? ⟨w1.heap.size, 0, none⟩ = false := by simp [World.frozen?, k5']
  obtain ⟨hs3, hL3, hrd3⟩ := hO3.rdr
  have hl3 : hs3.length = m := by rw [← hll, hL3, List.length_map]
  have hI := indexFunc_any A3 c3 (c + 1) c w1.heap.size hs3 w3 hrd3 (fun x hx => (HMAT.out.row _ (by rw [← HL.out, hL3]; exact List.mem_map_of_mem hx)).1) (by omega) hg (by omega)
  rw [← hL3, hl3] at hI
  obtain ⟨r, hr⟩ : ∃ r : Int, r = if pvI L c < m then (pvI L c : Int) else -1 := ⟨_, rfl⟩
  rw [← hr] at hI
  have HI := Lib.hid hI
  have HR := Lib.hid hr
  have HM := Lib.hid hm
  have HLL := Lib.hid hll
  have hmf : ∀ (fn : Fn) (first cap : Array Value) (w : World), (Instr.makeFunc fn first cap).run Tryd.prog w = .ok (.func fn first cap) w := fun _ _ _ _ => rfl
  clear hret hI hr hm hll hL3 hrd3 hl3 k5' HC
  go_wp2_with (fail)
  refine HI.out.mono ?_
  rintro e w4 ⟨rfl, rfl⟩
  have HO3 := Lib.hid hO3
  clear HI hO3
  go_upto_if 20 with (fail)
  go_cut [6] (fun v wx => ∃ (n' : Nat) (X : List (List Int)), v = .slice A3 n' c3 ∧ X.length = n' ∧ n' ≤ m ∧ (∀ u, u ∈ X → u.length = c + 1) ∧ X.map (fun v => v.take c) = elimM p c L ∧ OM W2 wx A3 c3 X)
  case first =>
    by_cases hp : pvI L c < m
    · obtain ⟨pv, hpv⟩ : ∃ pv, pv = pvI L c := ⟨_, rfl⟩
      have hr1 : r = (pv : Int) := by rw [HR.out, if_pos hp, hpv]
      subst hr1
      rw [← hpv] at hp
      have HPV := Lib.hid hpv
      have hpI : (pv : Int) < (m : Int) := by omega
      have hMl : Mat p L.length (c + 1) L := by
        have := HMAT.out
        rw [← HL.out, ← HM.out, ← HLL.out] at this
        exact this
      have hfb := fieldB_bounds HFLD.out
      have hpne := pvI_ne (L := L) (c := c) (by rw [← hpv, HLL.out]; exact hp)
      rw [← hpv] at hpne
      have HML := Lib.hid hMl
      have HNE := Lib.hid hpne
      have hd1 : decide ((0 : Int) ≤ (pv : Int)) = true := decide_eq_true (by omega)
      have hd2 : decide ((pv : Int) ≥ 0) = true := decide_eq_true (by omega)
      have hd3 : ¬ ((pv : Int) < 0) := by omega
      clear hpv HR hMl hpne
      go_wp2_with (fail)
      go_loopw [23] (fun i wr => ∃ k : Nat, k ≤ m ∧ i = .int .i64 k ∧ OM W2 wr A3 c3 (elimTo p pv (facF p c pv L) L k)) (fun i _ => m - (intOf i).toNat)
      case atStart => exact ⟨0, Nat.zero_le _, rfl, by rw [elimTo_zero]; exact HO3.out⟩
      case round =>
        clear HO3
        obtain ⟨k, hk, rfl, hOM⟩ := hrel
        have hlen : (elimTo p pv (facF p c pv L) L k).length = m := by simp [elimTo, HLL.out]
        by_cases hlt : k < m
        · have hkI : (k : Int) < (m : Int) := by omega
          by_cases hkp : k = pv
          · have hkb : ((k : Int) != (pv : Int)) = false := by rw [hkp]; simp
            have hst : OM W2 wr A3 c3 (elimTo p pv (facF p c pv L) L (k + 1)) := by rw [elimTo_skip (.inl hkp)]; exact hOM
            have HST := Lib.hid hst
            clear hst hOM hlen hkp
            go_wp2_with (fail)
            go_roundw
            case rel => exact ⟨k + 1, by omega, by go_num, HST.out⟩
            case measure => simp [intOf]; omega
          · have hkb : ((k : Int) != (pv : Int)) = true := by simp; omega
            obtain ⟨fpw, hRw, _, _⟩ := hOM.rw_
            obtain ⟨ad, B, cB, hA, hcB, hfB, hIB⟩ := hOM.get (i := k) (by rw [hlen]; exact hlt)
            obtain ⟨ad', C, cC, hA', hcC, _, hIC⟩ := hOM.get (i := pv) (by rw [hlen]; exact hp)
            rw [hA] at hA'
            obtain rfl := Option.some.inj hA'
            have hap := hRw.apart (i := pv) (k := k) (by rw [hlen]; exact hp) (by rw [hlen]; exact hlt) (fun e => hkp e.symm) hA hcC hcB
            have hgk : (elimTo p pv (facF p c pv L) L k).getD k [] = L.getD k [] := elimTo_at (by rw [HLL.out]; exact hlt)
            have hgp : (elimTo p pv (facF p c pv L) L k).getD pv [] = L.getD pv [] := elimTo_piv (by rw [HLL.out]; exact hp)
            have hmk := HML.out.get (i := k) (by rw [HLL.out]; exact hlt)
            have hmp := HML.out.get (i := pv) (by rw [HLL.out]; exact hp)
            have hcB0 := hcB
            rw [hgk] at hcB hIB
            rw [hgp] at hcC hIC
            have hwr := fun (w' : World) (hw : Wr wr w' B (ints (eV p c (L.getD pv []) (L.getD k [])))) => hOM.wr (i := k) (by rw [hlen]; exact hlt) hA (l' := eV p c (L.getD pv []) (L.getD k [])) hcB0 (by rw [hgk, eV_length]) hw
            rw [← elim_step HML.out (by rw [HLL.out]; exact hlt) hkp] at hwr
            obtain ⟨bd, x, rfl, hx, hcx⟩ := hIB.rd.at_ (j := c) (by rw [hmk.1]; omega)
            obtain ⟨cd, y, rfl, hy, hcy⟩ := hIC.rd.at_ (j := c) (by rw [hmp.1]; omega)
            have hxe : (L.getD k []).getD c 0 = x := by show ((L.getD k [])[c]?).getD 0 = x; rw [hx]; rfl
            have hye : (L.getD pv []).getD c 0 = y := by show ((L.getD pv [])[c]?).getD 0 = y; rw [hy]; rfl
            have hxb := hmk.2 x (List.mem_of_getElem? hx)
            have hyb := hmp.2 y (List.mem_of_getElem? hy)
            have hyn : y ≠ 0 := by rw [← hye]; exact HNE.out
            obtain ⟨i1, i2, i3⟩ := invM_spec HFLD.out (a := y) (by omega) hyb.2
            obtain ⟨iv, hiv⟩ : ∃ iv, iv = invM p y := ⟨_, rfl⟩
            rw [← hiv] at i1 i2 i3
            have hmul := mul96 (x := x) (y := iv) (by omega) (by omega)
            have hC1 := inverse_any p y wr.drew hfb.1 hfb.2 hyb.1 hyb.2
            rw [← hiv] at hC1
            have hAT := addTimes_any p (-x * iv) (some bd) (some cd) cB cC (L.getD k []) (L.getD pv []) wr.drew hIB hIC.rd (fun _ => hap) (by rw [hmk.1, hmp.1]; exact Nat.le_refl _) (by rw [hmk.1]; omega) (by omega) hfb.2 hmk.2 hmp.2 (by rw [Int.neg_mul]; omega) (by rw [Int.neg_mul]; omega)
            rw [show addT p (L.getD k []) (-x * iv) (L.getD pv []) = eV p c (L.getD pv []) (L.getD k []) by rw [← eV_impl, hxe, hye, hiv], hmk.1, hmp.1] at hAT
            rw [hmk.1] at hcB
            rw [hmp.1] at hcC
            have hw1 : IntKind.i64.wrap (-x) = -x := IntWalk.i64_in _ (by omega)
            have hw2 : IntKind.i64.wrap (-x * iv) = -x * iv := IntWalk.i64_in _ (by rw [Int.neg_mul]; omega)
            have k5 : wr.cell? ⟨w1.heap.size, 0, none⟩ = some (.int .i64 (c : Int)) := by have := box_below K5.out hOM.below_; simp [World.cell?, this]
            have C1 := Lib.hid (stillC2 hC1)
            obtain ⟨cl, hcl⟩ : ∃ cl, cl = c + 1 := ⟨_, rfl⟩
            rw [← hcl] at hcB hcC hAT
            have hccl : (c : Int) < (cl : Int) := by omega
            subst hA
            have HAT := Lib.hid hAT
            have HWR := Lib.hid hwr
            clear hcB0 hAT hwr hC1 hOM hRw hap hIB hIC hgk hgp hmk hmp hx hy hxe hye hiv i1 i2 i3 hmul hlen hkp hcl hxb hyb hyn
            go_wp2_with (fail)
            refine wp_region_still_tail 27 (by kernel_rfl) (by kernel_rfl) ?_
            simp only [List.take_succ_cons, List.take_zero, List.drop_succ_cons, List.drop_zero]
            change wpStill _ _ wr.drew (fun a' => wpList _ _ _ _ a' wr.drew) _ _
            have d1 : wr.drew.cell? (ad.add k) = some (.slice (some bd) cl cB) := hcB
            have d2 : wr.drew.cell? (ad.add pv) = some (.slice (some cd) cl cC) := hcC
            have d3 : wr.drew.cell? (bd.add c) = some (.int .i64 x) := hcx
            have d4 : wr.drew.cell? (cd.add c) = some (.int .i64 y) := hcy
            have d5 : wr.drew.cell? ⟨w1.heap.size, 0, none⟩ = some (.int .i64 c) := k5
            clear hcB hcC hcx hcy k5
            repeat still_step
            still_call C1.out
            repeat still_step
            refine wpStill_nil ?_
            go_wp2_with (fail)
            refine (HAT.out).mono ?_
            rintro e w5 ⟨rfl, hw5⟩
            have hst := HWR.out w5 (Wr.of_drew hw5)
            have HST := Lib.hid hst
            clear hst hw5 d1 d2 d3 d4 d5
            go_wp2_with (fail)
            go_roundw
            case rel => exact ⟨k + 1, by omega, by go_num, HST.out⟩
            case measure => simp [intOf]; omega
        · obtain rfl : m = k := by omega
          have hD := deleteOM_any hOM hlen hp (by omega)
          have hfin := elim_done (p := p) (c := c) HML.out (by rw [← HPV.out, HLL.out]; exact hp)
          rw [← HPV.out, HLL.out] at hfin
          have hX : ∀ u, u ∈ (elimTo p pv (facF p c pv L) L m).eraseIdx pv → u.length = c + 1 := fun u hu => by
            obtain ⟨i, hi, rfl⟩ := List.getElem_of_mem (List.mem_of_mem_eraseIdx hu)
            have e1 : (elimTo p pv (facF p c pv L) L m)[i] = (elimTo p pv (facF p c pv L) L m).getD i [] := by rw [List.getD_eq_getElem?_getD, List.getElem?_eq_getElem hi]; rfl
            have hiL : i < L.length := by rw [HLL.out, ← hlen]; exact hi
            have h2 := (HML.out.get (i := i) hiL).1
            rw [e1, elimTo_get hiL]
            split
            · rw [addT_length]; exact h2
            · exact h2
          have hXl : ((elimTo p pv (facF p c pv L) L m).eraseIdx pv).length = m - 1 := by rw [List.length_eraseIdx_of_lt (by rw [hlen]; exact hp), hlen]
          have hD_h := Lib.hid hD
          have hfin_h := Lib.hid hfin
          have hX_h := Lib.hid hX
          have hXl_h := Lib.hid hXl
          clear hD hfin hX hXl
          clear hOM hlen
          go_wp2_with (fail)
          refine (hD_h.out).mono ?_
          rintro e w5 ⟨rfl, hO5⟩
          go_wp2_with (fail)
          go_meet
          exact ⟨m - 1, _, rfl, hXl_h.out, by omega, hX_h.out, hfin_h.out, hO5⟩
    · have hr1 : r = -1 := by rw [HR.out, if_neg hp]
      subst hr1
      have hfin : L.map (fun v => v.take c) = elimM p c L := by unfold elimM; rw [HLL.out, if_neg hp]
      have hX : ∀ u, u ∈ L → u.length = c + 1 := fun u hu => (HMAT.out.row u (by rw [← HL.out]; exact hu)).1
      have hfin_h := Lib.hid hfin
      have hX_h := Lib.hid hX
      clear hfin hX
      clear hp HR
      go_wp2_with (fail)
      go_meet
      exact ⟨m, L, rfl, HLL.out, Nat.le_refl _, hX_h.out, hfin_h.out, HO3.out⟩
  case rest =>
    obtain ⟨n', X, rfl, hXl, hnm, hX, hfin, hO⟩ := hcut
    obtain ⟨w5, rfl⟩ : ∃ x, x = wc := ⟨_, rfl⟩
    have hst0 : OM W2 w5 A3 c3 ((X.take 0).map (fun v => v.take c) ++ X.drop 0) := by simpa using hO
    have hXl_h := Lib.hid hXl
    have hX_h := Lib.hid hX
    have hfin_h := Lib.hid hfin
    have hst0_h := Lib.hid hst0
    clear hXl hX hfin hst0
    clear hO HO3 HR
    go_wp2_with (fail)
    go_loopw [65] (fun i wr => ∃ k : Nat, k ≤ n' ∧ i = .int .i64 k ∧ OM W2 wr A3 c3 ((X.take k).map (fun v => v.take c) ++ X.drop k)) (fun i _ => n' - (intOf i).toNat)
    case atStart => exact ⟨0, Nat.zero_le _, rfl, hst0_h.out⟩
    case round =>
      clear hst0_h
      obtain ⟨k, hk, rfl, hOM⟩ := hrel
      have hlen : ((X.take k).map (fun v : List Int => v.take c) ++ X.drop k).length = n' := by rw [List.length_append, List.length_map, List.length_take, List.length_drop, hXl_h.out]; omega
      by_cases hlt : k < n'
      · have hkI : (k : Int) < (n' : Int) := by omega
        obtain ⟨ad, B, cB, hA, hcB, hfB, hIB⟩ := hOM.get (i := k) (by rw [hlen]; exact hlt)
        have hgk : ((X.take k).map (fun v : List Int => v.take c) ++ X.drop k).getD k [] = X.getD k [] := cut_get (by rw [hXl_h.out]; exact hlt)
        rw [hgk] at hcB hIB
        have hxk : X[k]? = some (X.getD k []) := getElem?_getD (by rw [hXl_h.out]; exact hlt)
        have hul := hX_h.out _ (List.mem_of_getElem? hxk)
        have hI := hIB
        unfold IS at hI
        rw [hul] at hI hcB
        have hcap : c + 1 ≤ cB := hI.2.1
        obtain ⟨A2, hr2, hS2, hf2⟩ := hI.sliced (P := Tryd.prog) 33 Tryd.underlying33 info_int none (some (.int .i64 (c : Int))) (some (.int .i64 (c : Int))) 0 c c (optNone rfl) (optSome rfl) (optSome rfl) (Nat.zero_le _) (by omega) (Nat.le_refl _) (by omega)
        rw [Nat.sub_zero] at hr2
        have hS3 : IS wr A2 c ((X.getD k []).take c) := by
          unfold IS
          have e : (ints (X.getD k [])).take c = ints ((X.getD k []).take c) := by unfold ints; rw [List.map_take]
          have := hS2
          simp only [Nat.sub_zero, List.drop_zero, Nat.mul_one, e] at this
          rw [List.length_take, hul, Nat.min_eq_left (by omega)]
          exact this
        have hcut2 := hOM.cutRow (i := k) (by rw [hlen]; exact hlt) hA hcB hS3 hf2
        rw [cut_take hxk] at hcut2
        rw [show ((X.getD k []).take c).length = c by rw [List.length_take, hul]; omega] at hcut2
        have hcut3 := hcut2.drew
        have k5 : wr.cell? ⟨w1.heap.size, 0, none⟩ = some (.int .i64 (c : Int)) := by have := box_below K5.out hOM.below_; simp [World.cell?, this]
        obtain ⟨cl, hcl⟩ : ∃ cl, cl = c + 1 := ⟨_, rfl⟩
        rw [← hcl] at hcB hr2
        subst hA
        have hcut3_h := Lib.hid hcut3
        have hr2_h := Lib.hid hr2
        clear hcut3 hr2
        clear hcut2 hS2 hS3 hf2 hI hIB hgk hxk hul hlen hOM hcap hcl
        go_wp2_with (fail)
        refine wp_region_still_tail 10 (by kernel_rfl) (by kernel_rfl) ?_
        simp only [List.take_succ_cons, List.take_zero, List.drop_succ_cons, List.drop_zero]
        change wpStill _ _ wr.drew (fun a' => wpList _ _ _ _ a' wr.drew) _ _
        have d1 : wr.drew.cell? (ad.add k) = some (.slice B cl cB) := hcB
        have d2 : wr.drew.frozen? (ad.add k) = false := hfB
        have d5 : wr.drew.cell? ⟨w1.heap.size, 0, none⟩ = some (.int .i64 c) := k5
        clear hcB hfB k5
        iterate 8 still_step
        refine still_val (v := .slice A2 c c) (by rfl) (xop_sliceW rfl (hr2_h.out _)) ?_
        simp only [Act.put, List.setIfInBounds_toArray, List.set_cons_zero, List.set_cons_succ]
        still_step
        refine wpStill_nil ?_
        go_wp2_with (fail)
        go_roundw
        case rel => exact ⟨k + 1, by omega, by go_num, hcut3_h.out⟩
        case measure => simp [intOf]; omega
      · obtain rfl : n' = k := by omega
        have hO2 : OM W2 wr A3 c3 (elimM p c L) := by
          rw [← hfin_h.out]
          have := hOM
          rwa [List.take_of_length_le (by rw [hXl_h.out]; exact Nat.le_refl _), List.drop_of_length_le (by rw [hXl_h.out]; exact Nat.le_refl _), List.append_nil] at this
        have hel : (elimM p c L).length = n' := by rw [← hfin_h.out, List.length_map, hXl_h.out]
        have k0 := box_below K0'.out hOM.below_
        have k1 := box_below K1'.out hOM.below_
        have hw1 := box_lt K1'.out
        obtain ⟨⟨x0, x1, x2⟩, x3, x4, x5⟩ := box3 k0
        obtain ⟨⟨y0, y1, y2⟩, y3, y4, y5⟩ := box3 k1
        obtain ⟨s1, s2⟩ := set3 (a := .int .i64 a) (b := .int .i64 (b - 1)) (c := .slice A3 n' c3) k1
        have hb9 := below_keeps (below_trans HB2.out hO2.below_ HB2.out.size) s2 (Nat.le_trans HB2.out.size hO2.size) (fun k hk => by omega)
        obtain ⟨fp, h1, h2⟩ := OwSys.of_ret (a := a) (b := b - 1) hO2 s2 (fun k hk => by omega) hel
        have h3 := h2.mono HB2.out.size
        have wb : IntKind.i64.wrap (b - 1) = b - 1 := IntWalk.i64_in _ (by omega)
        clear hOM hO2 hel h2 k0 k1 s2 hlen
        have s1_h := Lib.hid s1
        have h1_h := Lib.hid h1
        have h3_h := Lib.hid h3
        have hb9_h := Lib.hid hb9
        clear s1 h1 h3 hb9
        go_wp2_with (fail)
        refine bodyPost_ret (results_cell_row rfl _ _ (w.heap.size + 1) _ _ (0, 0) _ rfl s1_h.out Tryd.underlying26 rfl (by kernel_rfl)) rfl ?_
        exact ⟨_, fp, rfl, h1_h.out, h3_h.out, hb9_h.out⟩
end Go.Proofs.YtahnhblodfdfhaaDoor
