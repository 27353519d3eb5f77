/-
  THE WALKS: domain, isTotal, rlTotal; the contracts of DomainOf, RangeOf, IsTotal.
-/
import Derived.Test.YtpfidjegdpkhdaaDoorRlV
namespace Go.Proofs.YtpfidjegdpkhdaaDoor
open Go.RowKit

set_option maxRecDepth 8000 in
set_option maxHeartbeats 2000000 in
theorem domain_any (p : Int) {v : Value} {s : Sys} {fp : List Nat} (w : World) (h : OwSys w v s fp) (hs : RelOk p s) :
    Calls Tryd.prog 98 #[.int .i64 p, v] w fun e w' => ∃ v' fp', e = .returned v' ∧ OwMt w' v' (s.1, redM p s.1.toNat (firstM s)) fp' ∧ FreshL w.heap.size fp' ∧ Below w.heap.size w w' := by
  have hpf := part_first hs
  have hmat0 := partV_mat (f := 0) (r := s.1.toNat) hs.mat (by have := hs.lo; have := hs.hi; omega)
  obtain ⟨A, c, gs, rfl, hL, hO, rfl⟩ := h
  obtain ⟨a, b, L⟩ := s
  have h0 : 0 ≤ a := hs.lo
  have h1 : 0 ≤ b := hs.hi
  have h2 : a + b ≤ 24 := hs.sum
  have hfld : fieldB p = true := hs.fld
  have hrow : ∀ u, u ∈ L → (u.length : Int) = a + b ∧ Res p u := fun u hu => hs.row hu
  have hlen : (L.length : Int) ≤ a + b := hs.len
  clear hs
  obtain ⟨na, rfl⟩ : ∃ na : Nat, a = (na : Int) := ⟨a.toNat, by omega⟩
  obtain ⟨nb, rfl⟩ : ∃ nb : Nat, b = (nb : Int) := ⟨b.toNat, by omega⟩
  have hL' : L = gs.map (fun h : Hd => h.2.2) := hL
  clear hL
  obtain ⟨m, hm⟩ : ∃ m, m = gs.length := ⟨_, rfl⟩
  have hLm : L.length = m := by rw [hL', List.length_map, hm]
  have hm24 : (m : Int) ≤ 24 := by have := hlen; rw [hLm] at this; omega
  have hgr : ∀ x, x ∈ gs → x.2.2.length = na + nb := fun x hx => by have := (hrow _ (by rw [hL']; exact List.mem_map_of_mem hx)).1; omega
  obtain ⟨X, hX⟩ : ∃ X, X = L.map (partV 0 na) := ⟨_, rfl⟩
  have hmat : Mat p X.length na X := by rw [hX, List.length_map]; exact hmat0
  have hgoal : firstM ((na : Int), (nb : Int), L) = X := by rw [hX]; exact hpf.symm
  obtain ⟨R, hR⟩ : ∃ R, R = redM p na X := ⟨_, rfl⟩
  show Calls Tryd.prog _ #[.int .i64 p, .agg #[.int .i64 (na : Int), .int .i64 (nb : Int), .slice A gs.length c]] w fun e w' => ∃ v' fp', e = .returned v' ∧ OwMt w' v' ((na : Int), redM p na (firstM ((na : Int), (nb : Int), L))) fp' ∧ FreshL w.heap.size fp' ∧ Below w.heap.size w w'
  rw [hgoal, ← hR, ← hm]
  have hEa := fun (W' : World) (hb : Below w.heap.size w W') => each_any 137 #[.agg #[.int .i64 (na : Int), .int .i64 (nb : Int), .slice A m c]] #[] (partV 0 na) (na : Int) (nb : Int) A c gs W' (hO.below hb).rd (hO.below hb).rows (by omega) (fun _ _ => rfl) (fun x hx => first_each rfl ((hO.below hb).rows x hx) (hgr x hx) (by omega))
  simp only [← hm] at hEa
  obtain ⟨W, hW, b0, k0, k1⟩ := alloc2 w (.cells #[.int .i64 (na : Int), .int .i64 (nb : Int), .slice A m c] tRel) (.cells #[.int .i64 0, .slice none 0 0] tSpc)
  clear hO hmat0 hgoal hpf hgr
  have hmf : ∀ (fn : Fn) (first cap : Array Value) (w : World), (Instr.makeFunc fn first cap).run Tryd.prog w = .ok (.func fn first cap) w := fun _ _ _ _ => rfl
  have hL'_h := Lib.hid hL'
  have hm_h := Lib.hid hm
  have hLm_h := Lib.hid hLm
  have k0_h := Lib.hid k0
  have k1_h := Lib.hid k1
  have b0_h := Lib.hid b0
  have hrow_h := Lib.hid hrow
  have hlen_h := Lib.hid hlen
  have hfld_h := Lib.hid hfld
  have hmat_h := Lib.hid hmat
  have hX_h := Lib.hid hX
  have hR_h := Lib.hid hR
  have hEa_h := Lib.hid hEa
  clear hL' hm hLm k0 k1 b0 hrow hlen hfld hmat hX hR hEa
  go_enter Tryd.func98, Tryd.ntmps98
  go_wp2_with (fail)
  rw [← hW]
  clear hW
  have hbd : Below W.heap.size W W.drew := below_drewN (Below.refl _ _) 1
  refine beginH (fun w' => w'.heap[w.heap.size]? = some (.cells #[.int .i64 (na : Int), .int .i64 (nb : Int), .slice A m c] tRel)) (by kernel_rfl) ?_
  generalize W.drew = W1 at hbd ⊢
  replace k0_h := Lib.hid (box_below k0_h.out hbd)
  replace k1_h := Lib.hid (box_below k1_h.out hbd)
  have hB1 := below_trans b0_h.out hbd b0_h.out.size
  have hw1 : w.heap.size + 1 < W1.heap.size := (Array.getElem?_eq_some_iff.1 k1_h.out).1
  have hbd_h := Lib.hid hbd
  have hB1_h := Lib.hid hB1
  clear hbd hB1
  refine takeH 0 (v := ?_) rfl (by kernel_rfl) (by kernel_rfl) (by kernel_rfl) (fun _ _ _ h => h) k0_h.out (by rfl) (fun W' hW' => ?_) ?_; rotate_left; · (obtain ⟨⟨y0, y1, y2⟩, y3, y4, y5⟩ := box3 hW'; clear hW'; go_simp; first | done | with_reducible rfl)
  simp only [Act.put, List.setIfInBounds_toArray, List.set_cons_zero, List.set_cons_succ]
  refine takeH 1 (v := ?_) rfl (by kernel_rfl) (by kernel_rfl) (by kernel_rfl) (fun _ _ _ h => h) k0_h.out (by rfl) (fun W' hW' => ?_) ?_; rotate_left; · (obtain ⟨⟨y0, y1, y2⟩, y3, y4, y5⟩ := box3 hW'; clear hW'; go_simp; first | done | with_reducible rfl)
  simp only [Act.put, List.setIfInBounds_toArray, List.set_cons_zero, List.set_cons_succ]
  refine takeH 2 (v := ?_) rfl (by kernel_rfl) (by kernel_rfl) (by kernel_rfl) (fun _ _ _ h => h) k0_h.out (by rfl) (fun W' hW' => ?_) ?_; rotate_left; · (obtain ⟨⟨y0, y1, y2⟩, y3, y4, y5⟩ := box3 hW'; clear hW'; go_simp; first | done | with_reducible rfl)
  simp only [Act.put, List.setIfInBounds_toArray, List.set_cons_zero, List.set_cons_succ]
  refine takeH 3 (v := ?_) rfl (by kernel_rfl) (by kernel_rfl) (by kernel_rfl) (fun _ _ _ h => h) k0_h.out (by rfl) (fun W' hW' => ?_) ?_; rotate_left; · (obtain ⟨⟨y0, y1, y2⟩, y3, y4, y5⟩ := box3 hW'; clear hW'; go_simp; first | done | with_reducible rfl)
  simp only [Act.put, List.setIfInBounds_toArray, List.set_cons_zero, List.set_cons_succ]
  refine takeH 4 (v := ?_) rfl (by kernel_rfl) (by kernel_rfl) (by kernel_rfl) (fun _ _ _ h => h) k0_h.out (by rfl) (fun W' hW' => ?_) ?_; rotate_left; · (obtain ⟨⟨y0, y1, y2⟩, y3, y4, y5⟩ := box3 hW'; clear hW'; go_simp; first | done | with_reducible rfl)
  simp only [Act.put, List.setIfInBounds_toArray, List.set_cons_zero, List.set_cons_succ]
  refine takeH 5 (v := ?_) rfl (by kernel_rfl) (by kernel_rfl) (by kernel_rfl) (fun _ _ _ h => h) k0_h.out (by rfl) (fun W' hW' => ?_) ?_; rotate_left; · (skip; clear hW'; go_simp; first | done | with_reducible rfl)
  simp only [Act.put, List.setIfInBounds_toArray, List.set_cons_zero, List.set_cons_succ]
  refine' callH 6 (f := _) (args := _) rfl (by kernel_rfl) (by rfl) ?_ ?_; rotate_left 2; · (go_simp; first | done | with_reducible rfl | (constructor <;> with_reducible rfl))
  refine (hEa_h.out W1 hB1_h.out).mono ?_
  rintro e w2 ⟨A1, c1, g1, rfl, hg1, hO1⟩
  replace k0_h := Lib.hid (box_below k0_h.out hO1.below_)
  replace k1_h := Lib.hid (box_below k1_h.out hO1.below_)
  have hz2 := box_lt k1_h.out
  refine ⟨_, rfl, k0_h.out, ?_⟩
  simp only [Act.put, List.setIfInBounds_toArray, List.set_cons_zero, List.set_cons_succ]
  have hg2 : g1.map (fun h : Hd => h.2.2) = X := by rw [hg1, hX_h.out, hL'_h.out, List.map_map]; rfl
  have hgl : g1.length = m := by have := congrArg List.length hg2; rwa [List.length_map, hX_h.out, List.length_map, hLm_h.out] at this
  have hXl : X.length = m := by rw [hX_h.out, List.length_map, hLm_h.out]
  have hC := span_any p na A1 c1 g1 w2 hO1.rdr hfld_h.out (by rw [hg2, hgl, ← hXl]; exact hmat_h.out) (by omega) (by omega)
  rw [hg2, ← hR_h.out, hgl] at hC
  have hB2 := below_trans hB1_h.out hO1.below_ hB1_h.out.size
  clear hg1 hg2 hgl hXl hO1
  have hC_h := Lib.hid hC
  have hB2_h := Lib.hid hB2
  clear hC hB2
  refine' callH 7 (f := _) (args := _) rfl (by kernel_rfl) (by rfl) ?_ ?_; rotate_left 2; · (go_simp; first | done | with_reducible rfl | (constructor <;> with_reducible rfl))
  refine (hC_h.out).mono ?_
  rintro e w3 ⟨v3, fp3, rfl, hO3, hf3, hb3⟩
  replace k0_h := Lib.hid (box_below k0_h.out hb3)
  replace k1_h := Lib.hid (box_below k1_h.out hb3)
  refine ⟨_, rfl, k0_h.out, ?_⟩
  simp only [Act.put, List.setIfInBounds_toArray, List.set_cons_zero, List.set_cons_succ]
  obtain ⟨A3, n3, c3, rfl⟩ := hO3.shape
  have hB3 := below_trans hB2_h.out hb3 hB2_h.out.size
  have hBs := hB2_h.out.size
  have hw0 := hB1_h.out.size
  have hw2 := hb3.size
  have hz3 : w.heap.size + 1 < w3.heap.size := (Array.getElem?_eq_some_iff.1 k1_h.out).1
  obtain ⟨⟨d0, d1⟩, g0, g1'⟩ := box2 k1_h.out
  obtain ⟨s1, s2⟩ := set2 (a := .int .i64 (na : Int)) (b := .slice A3 n3 c3) k1_h.out
  have k0' := box_keeps k0_h.out s2 (by omega)
  have hO4 := hO3.keeps s2 (fun k hk e => by have := hf3 k hk; omega)
  have hB4 := below_keeps hB3 s2 hB3.size (fun k hk => by omega)
  have hf4 := hf3.mono hBs
  clear hO3 hf3 hb3 hB3
  have s1_h := Lib.hid s1
  have s2_h := Lib.hid s2
  have k0'_h := Lib.hid k0'
  have hO4_h := Lib.hid hO4
  have hB4_h := Lib.hid hB4
  have hf4_h := Lib.hid hf4
  clear s1 s2 k0' hO4 hB4 hf4
  refine oneH 8 rfl (by kernel_rfl) (by rfl) (fun K hK => ?_)
  go_simp
  refine hK _ _ k0'_h.out ?_
  clear hK K
  refine doneH (by kernel_rfl) ?_
  go_wp2_with (fail)
  refine bodyPost_ret (results_cell_row rfl _ _ (w.heap.size + 1) _ _ (0, 0) _ rfl s1_h.out Tryd.underlying48 rfl (by kernel_rfl)) rfl ?_
  exact ⟨_, rfl, fp3, hO4_h.out, hf4_h.out, hB4_h.out⟩

theorem rlPartF_any (p : Int) {v : Value} {s : Sys} {fp : List Nat} (w : World) (h : OwSys w v s fp) (hs : RelOk p s) :
    Calls Tryd.prog 93 #[.int .i64 p, v, .int .i64 0, .int .i64 s.1] w fun e w' => ∃ v' fp', e = .returned v' ∧ OwMt w' v' (s.1, redM p s.1.toNat (firstM s)) fp' ∧ FreshL w.heap.size fp' ∧ Below w.heap.size w w' := by
  have h0 := hs.lo
  have h1 := hs.hi
  have := rlPart_any p 0 s.1.toNat s.1.toNat w h hs (by omega) (by omega)
  rw [part_first hs] at this
  have e : ((s.1.toNat : Nat) : Int) = s.1 := by omega
  rw [e] at this
  exact this
theorem rlPartS_any (p : Int) {v : Value} {s : Sys} {fp : List Nat} (w : World) (h : OwSys w v s fp) (hs : RelOk p s) :
    Calls Tryd.prog 93 #[.int .i64 p, v, .int .i64 s.1, .int .i64 (s.1 + s.2.1)] w fun e w' => ∃ v' fp', e = .returned v' ∧ OwMt w' v' (s.2.1, redM p s.2.1.toNat (secondM s)) fp' ∧ FreshL w.heap.size fp' ∧ Below w.heap.size w w' := by
  have h0 := hs.lo
  have h1 := hs.hi
  have := rlPart_any p s.1.toNat (s.1.toNat + s.2.1.toNat) s.2.1.toNat w h hs (by omega) (by omega)
  rw [part_second hs] at this
  have e : ((s.1.toNat : Nat) : Int) = s.1 := by omega
  have e2 : ((s.1.toNat + s.2.1.toNat : Nat) : Int) = s.1 + s.2.1 := by omega
  have e3 : ((s.2.1.toNat : Nat) : Int) = s.2.1 := by omega
  rw [e, e2, e3] at this
  exact this
set_option maxRecDepth 8000 in
set_option maxHeartbeats 2000000 in
theorem rlTotal_any (p : Int) {v : Value} {s : Sys} {fp : List Nat} (w : World) (h : OwSys w v s fp) (hs : RelOk p s) :
    Calls Tryd.prog 99 #[.int .i64 p, v] w fun e w' => e = .returned (.bool (totB p s)) ∧ Below w.heap.size w w' := by
  obtain ⟨A, n, c, rfl⟩ := h.shape
  obtain ⟨F, hF⟩ : ∃ F, F = totB p s := ⟨_, rfl⟩
  rw [← hF]
  unfold totB at hF
  have h0 := hs.lo
  have h2 := hs.sum
  have h1 := hs.hi
  obtain ⟨W, hW, b0, k0⟩ := alloc_box w (.cells #[.int .i64 s.1, .int .i64 s.2.1, .slice A n c] tRel)
  have hC := fun (W' : World) (hb : Below W.heap.size W W') => rlPartF_any p W' ((h.below b0).below hb) hs
  have hfd : ∀ (x y : Value) (W : World), (Instr.field tSpc (.agg #[x, y]) 1).run Tryd.prog W = .ok y W := fun _ _ _ => by kernel_rfl
  obtain ⟨R, hR⟩ : ∃ R, R = redM p s.1.toNat (firstM s) := ⟨_, rfl⟩
  rw [← hR] at hF
  simp only [← hR] at hC
  clear h hs
  have hF_h := Lib.hid hF
  have hC_h := Lib.hid hC
  have k0_h := Lib.hid k0
  have b0_h := Lib.hid b0
  have hR_h := Lib.hid hR
  clear hF hC k0 b0 hR
  go_enter Tryd.func99, Tryd.ntmps99
  go_upto_region 1 with (fail)
  rw [← hW]
  clear hW
  go_wp2_with (fail)
  have hbd : Below W.heap.size W W.drew := below_drewN (Below.refl _ _) 1
  refine beginH (fun w' => w'.heap[w.heap.size]? = some (.cells #[.int .i64 s.1, .int .i64 s.2.1, .slice A n c] tRel)) (by kernel_rfl) ?_
  generalize W.drew = W1 at hbd ⊢
  replace k0_h := Lib.hid (box_below k0_h.out hbd)
  have hbd_h := Lib.hid hbd
  clear hbd
  refine takeH 0 (v := ?_) rfl (by kernel_rfl) (by kernel_rfl) (by kernel_rfl) (fun _ _ _ h => h) k0_h.out (by rfl) (fun W' hW' => ?_) ?_; rotate_left; · (obtain ⟨⟨y0, y1, y2⟩, y3, y4, y5⟩ := box3 hW'; clear hW'; go_simp; first | done | with_reducible rfl)
  simp only [Act.put, List.setIfInBounds_toArray, List.set_cons_zero, List.set_cons_succ]
  refine takeH 1 (v := ?_) rfl (by kernel_rfl) (by kernel_rfl) (by kernel_rfl) (fun _ _ _ h => h) k0_h.out (by rfl) (fun W' hW' => ?_) ?_; rotate_left; · (obtain ⟨⟨y0, y1, y2⟩, y3, y4, y5⟩ := box3 hW'; clear hW'; go_simp; first | done | with_reducible rfl)
  simp only [Act.put, List.setIfInBounds_toArray, List.set_cons_zero, List.set_cons_succ]
  refine takeH 2 (v := ?_) rfl (by kernel_rfl) (by kernel_rfl) (by kernel_rfl) (fun _ _ _ h => h) k0_h.out (by rfl) (fun W' hW' => ?_) ?_; rotate_left; · (obtain ⟨⟨y0, y1, y2⟩, y3, y4, y5⟩ := box3 hW'; clear hW'; go_simp; first | done | with_reducible rfl)
  simp only [Act.put, List.setIfInBounds_toArray, List.set_cons_zero, List.set_cons_succ]
  refine takeH 3 (v := ?_) rfl (by kernel_rfl) (by kernel_rfl) (by kernel_rfl) (fun _ _ _ h => h) k0_h.out (by rfl) (fun W' hW' => ?_) ?_; rotate_left; · (obtain ⟨⟨y0, y1, y2⟩, y3, y4, y5⟩ := box3 hW'; clear hW'; go_simp; first | done | with_reducible rfl)
  simp only [Act.put, List.setIfInBounds_toArray, List.set_cons_zero, List.set_cons_succ]
  refine takeH 7 (v := ?_) rfl (by kernel_rfl) (by kernel_rfl) (by kernel_rfl) (fun _ _ _ h => h) k0_h.out (by rfl) (fun W' hW' => ?_) ?_; rotate_left; · (obtain ⟨⟨y0, y1, y2⟩, y3, y4, y5⟩ := box3 hW'; clear hW'; go_simp; first | done | with_reducible rfl)
  simp only [Act.put, List.setIfInBounds_toArray, List.set_cons_zero, List.set_cons_succ]
  refine takeH 8 (v := ?_) rfl (by kernel_rfl) (by kernel_rfl) (by kernel_rfl) (fun _ _ _ h => h) k0_h.out (by rfl) (fun W' hW' => ?_) ?_; rotate_left; · (obtain ⟨⟨y0, y1, y2⟩, y3, y4, y5⟩ := box3 hW'; clear hW'; go_simp; first | done | with_reducible rfl)
  simp only [Act.put, List.setIfInBounds_toArray, List.set_cons_zero, List.set_cons_succ]
  refine' callH 4 (f := _) (args := _) rfl (by kernel_rfl) (by rfl) ?_ ?_; rotate_left 2; · (go_simp; first | done | with_reducible rfl | (constructor <;> with_reducible rfl))
  refine (hC_h.out W1 hbd_h.out).mono ?_
  rintro e w2 ⟨v2, fp2, rfl, hO2, -, hb2⟩
  replace k0_h := Lib.hid (box_below k0_h.out hb2)
  refine ⟨_, rfl, k0_h.out, ?_⟩
  simp only [Act.put, List.setIfInBounds_toArray, List.set_cons_zero, List.set_cons_succ]
  obtain ⟨A3, c3, hs3, rfl, hL3, -, -⟩ := hO2
  have hB2 := below_trans (below_trans b0_h.out hbd_h.out b0_h.out.size) hb2 (Nat.le_trans b0_h.out.size hbd_h.out.size)
  have hRl : R.length = hs3.length := by have := congrArg List.length hL3; rwa [List.length_map] at this
  have hfin : F = ((hs3.length : Int) == s.1) := by
    rw [hF_h.out, hRl, Bool.eq_iff_iff]; simp
  obtain ⟨n3, hn3⟩ : ∃ n3, n3 = hs3.length := ⟨_, rfl⟩
  rw [← hn3] at hfin ⊢
  clear hL3 hb2 hRl hn3
  have hB2_h := Lib.hid hB2
  have hfin_h := Lib.hid hfin
  clear hB2 hfin
  refine takeH 5 (v := ?_) rfl (by kernel_rfl) (by kernel_rfl) (by kernel_rfl) (fun _ _ _ h => h) k0_h.out (by rfl) (fun W' hW' => ?_) ?_; rotate_left; · (skip; clear hW'; go_simp; first | done | with_reducible rfl)
  simp only [Act.put, List.setIfInBounds_toArray, List.set_cons_zero, List.set_cons_succ]
  refine takeH 6 (v := ?_) rfl (by kernel_rfl) (by kernel_rfl) (by kernel_rfl) (fun _ _ _ h => h) k0_h.out (by rfl) (fun W' hW' => ?_) ?_; rotate_left; · (skip; clear hW'; go_simp; first | done | with_reducible rfl)
  simp only [Act.put, List.setIfInBounds_toArray, List.set_cons_zero, List.set_cons_succ]
  refine takeH 9 (v := ?_) rfl (by kernel_rfl) (by kernel_rfl) (by kernel_rfl) (fun _ _ _ h => h) k0_h.out (by rfl) (fun W' hW' => ?_) ?_; rotate_left; · (skip; clear hW'; go_simp; first | done | with_reducible rfl)
  simp only [Act.put, List.setIfInBounds_toArray, List.set_cons_zero, List.set_cons_succ]
  refine takeH 10 (v := ?_) rfl (by kernel_rfl) (by kernel_rfl) (by kernel_rfl) (fun _ _ _ h => h) k0_h.out (by rfl) (fun W' hW' => ?_) ?_; rotate_left; · (skip; clear hW'; go_simp; first | done | with_reducible rfl)
  simp only [Act.put, List.setIfInBounds_toArray, List.set_cons_zero, List.set_cons_succ]
  refine doneH (by kernel_rfl) ?_
  go_wp2_with (fail)
  go_ret
  exact ⟨ret_bool hfin_h.out.symm, hB2_h.out⟩
set_option maxRecDepth 8000 in
set_option maxHeartbeats 2000000 in
theorem isTotal_any (p : Int) {v : Value} {s : Sys} {fp : List Nat} (w : World) (h : OwSys w v s fp) (hs : RelOk p s) :
    Calls Tryd.prog 100 #[.int .i64 p, v] w fun e w' => e = .returned (.bool (totB p s)) ∧ Below w.heap.size w w' := by
  obtain ⟨A, n, c, rfl⟩ := h.shape
  obtain ⟨F, hF⟩ : ∃ F, F = totB p s := ⟨_, rfl⟩
  rw [← hF]
  unfold totB at hF
  have h0 := hs.lo
  have h2 := hs.sum
  have h1 := hs.hi
  obtain ⟨W, hW, b0, k0⟩ := alloc_box w (.cells #[.int .i64 s.1, .int .i64 s.2.1, .slice A n c] tRel)
  have hC := fun (W' : World) (hb : Below W.heap.size W W') => domain_any p W' ((h.below b0).below hb) hs
  have hfd : ∀ (x y : Value) (W : World), (Instr.field tSpc (.agg #[x, y]) 1).run Tryd.prog W = .ok y W := fun _ _ _ => by kernel_rfl
  obtain ⟨R, hR⟩ : ∃ R, R = redM p s.1.toNat (firstM s) := ⟨_, rfl⟩
  rw [← hR] at hF
  simp only [← hR] at hC
  clear h hs
  have hF_h := Lib.hid hF
  have hC_h := Lib.hid hC
  have k0_h := Lib.hid k0
  have b0_h := Lib.hid b0
  have hR_h := Lib.hid hR
  clear hF hC k0 b0 hR
  go_enter Tryd.func100, Tryd.ntmps100
  go_upto_region 1 with (fail)
  rw [← hW]
  clear hW
  go_wp2_with (fail)
  have hbd : Below W.heap.size W W.drew := below_drewN (Below.refl _ _) 1
  refine beginH (fun w' => w'.heap[w.heap.size]? = some (.cells #[.int .i64 s.1, .int .i64 s.2.1, .slice A n c] tRel)) (by kernel_rfl) ?_
  generalize W.drew = W1 at hbd ⊢
  replace k0_h := Lib.hid (box_below k0_h.out hbd)
  have hbd_h := Lib.hid hbd
  clear hbd
  refine takeH 0 (v := ?_) rfl (by kernel_rfl) (by kernel_rfl) (by kernel_rfl) (fun _ _ _ h => h) k0_h.out (by rfl) (fun W' hW' => ?_) ?_; rotate_left; · (obtain ⟨⟨y0, y1, y2⟩, y3, y4, y5⟩ := box3 hW'; clear hW'; go_simp; first | done | with_reducible rfl)
  simp only [Act.put, List.setIfInBounds_toArray, List.set_cons_zero, List.set_cons_succ]
  refine takeH 1 (v := ?_) rfl (by kernel_rfl) (by kernel_rfl) (by kernel_rfl) (fun _ _ _ h => h) k0_h.out (by rfl) (fun W' hW' => ?_) ?_; rotate_left; · (obtain ⟨⟨y0, y1, y2⟩, y3, y4, y5⟩ := box3 hW'; clear hW'; go_simp; first | done | with_reducible rfl)
  simp only [Act.put, List.setIfInBounds_toArray, List.set_cons_zero, List.set_cons_succ]
  refine takeH 5 (v := ?_) rfl (by kernel_rfl) (by kernel_rfl) (by kernel_rfl) (fun _ _ _ h => h) k0_h.out (by rfl) (fun W' hW' => ?_) ?_; rotate_left; · (obtain ⟨⟨y0, y1, y2⟩, y3, y4, y5⟩ := box3 hW'; clear hW'; go_simp; first | done | with_reducible rfl)
  simp only [Act.put, List.setIfInBounds_toArray, List.set_cons_zero, List.set_cons_succ]
  refine takeH 6 (v := ?_) rfl (by kernel_rfl) (by kernel_rfl) (by kernel_rfl) (fun _ _ _ h => h) k0_h.out (by rfl) (fun W' hW' => ?_) ?_; rotate_left; · (obtain ⟨⟨y0, y1, y2⟩, y3, y4, y5⟩ := box3 hW'; clear hW'; go_simp; first | done | with_reducible rfl)
  simp only [Act.put, List.setIfInBounds_toArray, List.set_cons_zero, List.set_cons_succ]
  refine' callH 2 (f := _) (args := _) rfl (by kernel_rfl) (by rfl) ?_ ?_; rotate_left 2; · (go_simp; first | done | with_reducible rfl | (constructor <;> with_reducible rfl))
  refine (hC_h.out W1 hbd_h.out).mono ?_
  rintro e w2 ⟨v2, fp2, rfl, hO2, -, hb2⟩
  replace k0_h := Lib.hid (box_below k0_h.out hb2)
  refine ⟨_, rfl, k0_h.out, ?_⟩
  simp only [Act.put, List.setIfInBounds_toArray, List.set_cons_zero, List.set_cons_succ]
  obtain ⟨A3, c3, hs3, rfl, hL3, -, -⟩ := hO2
  have hB2 := below_trans (below_trans b0_h.out hbd_h.out b0_h.out.size) hb2 (Nat.le_trans b0_h.out.size hbd_h.out.size)
  have hRl : R.length = hs3.length := by have := congrArg List.length hL3; rwa [List.length_map] at this
  have hfin : F = ((hs3.length : Int) == s.1) := by
    rw [hF_h.out, hRl, Bool.eq_iff_iff]; simp
  obtain ⟨n3, hn3⟩ : ∃ n3, n3 = hs3.length := ⟨_, rfl⟩
  rw [← hn3] at hfin ⊢
  clear hL3 hb2 hRl hn3
  have hB2_h := Lib.hid hB2
  have hfin_h := Lib.hid hfin
  clear hB2 hfin
  refine takeH 3 (v := ?_) rfl (by kernel_rfl) (by kernel_rfl) (by kernel_rfl) (fun _ _ _ h => h) k0_h.out (by rfl) (fun W' hW' => ?_) ?_; rotate_left; · (skip; clear hW'; go_simp; first | done | with_reducible rfl)
  simp only [Act.put, List.setIfInBounds_toArray, List.set_cons_zero, List.set_cons_succ]
  refine takeH 4 (v := ?_) rfl (by kernel_rfl) (by kernel_rfl) (by kernel_rfl) (fun _ _ _ h => h) k0_h.out (by rfl) (fun W' hW' => ?_) ?_; rotate_left; · (skip; clear hW'; go_simp; first | done | with_reducible rfl)
  simp only [Act.put, List.setIfInBounds_toArray, List.set_cons_zero, List.set_cons_succ]
  refine takeH 7 (v := ?_) rfl (by kernel_rfl) (by kernel_rfl) (by kernel_rfl) (fun _ _ _ h => h) k0_h.out (by rfl) (fun W' hW' => ?_) ?_; rotate_left; · (skip; clear hW'; go_simp; first | done | with_reducible rfl)
  simp only [Act.put, List.setIfInBounds_toArray, List.set_cons_zero, List.set_cons_succ]
  refine takeH 8 (v := ?_) rfl (by kernel_rfl) (by kernel_rfl) (by kernel_rfl) (fun _ _ _ h => h) k0_h.out (by rfl) (fun W' hW' => ?_) ?_; rotate_left; · (skip; clear hW'; go_simp; first | done | with_reducible rfl)
  simp only [Act.put, List.setIfInBounds_toArray, List.set_cons_zero, List.set_cons_succ]
  refine doneH (by kernel_rfl) ?_
  go_wp2_with (fail)
  go_ret
  exact ⟨ret_bool hfin_h.out.symm, hB2_h.out⟩
set_option maxRecDepth 100000 in
set_option maxHeartbeats 2000000 in
theorem sDomainOf_law (p : Int) {v : Value} {s : Sys} {fp : List Nat} {w : World} (h : OwSys w v s fp) (ok : OkR s.2.2) :
    Calls Tryd.prog 41 #[.int .i64 p, v] w fun e w' => ∃ v' fp', e = .returned (.tuple #[v', .bool (domM p s).2]) ∧ OwMt w' v' (domM p s).1 fp' ∧ FreshL w.heap.size fp' ∧ Below w.heap.size w w' := by
  obtain ⟨C, hC0⟩ : ∃ C, C = domM p s := ⟨_, rfl⟩
  rw [← hC0]
  have hcan : ∀ b, relB p s = b → domM p s = if b then ((s.1, redM p s.1.toNat (firstM s)), true) else ((0, []), false) := fun b hb => by unfold domM; rw [hb]
  obtain ⟨A, n, c, rfl⟩ := h.shape
  obtain ⟨W, hW, b0, k0, k1⟩ := alloc2 w (.cells #[.int .i64 s.1, .int .i64 s.2.1, .slice A n c] tRel) (.cells #[.int .i64 0, .slice none 0 0] tSpc)
  have hG := rlGood_any p W (h.rd.below b0) ok.1 ok.2.1
  have hF := fun W' (hb : Below W.heap.size W W') (hs : RelOk p s) => rlPartF_any p W' ((h.below b0).below hb) hs
  obtain ⟨⟨c0, c1, c2⟩, f0, f1, f2⟩ := box3 k0
  by_cases hb : relB p s = true
  · rw [hb] at hG
    have hof := RelOk.of hb
    have hb' := hcan true hb
    rw [if_pos rfl] at hb'
    rw [hb'] at hC0
    subst hC0
    clear h ok hb hb' hcan
    have hG_h := Lib.hid hG
    have hF_h := Lib.hid hF
    have k0_h := Lib.hid k0
    have k1_h := Lib.hid k1
    have b0_h := Lib.hid b0
    have hof_h := Lib.hid hof
    clear hG hF k0 k1 b0 hof
    go_enter Tryd.func41, Tryd.ntmps41
    go_upto_region 1 with (fail)
    rw [← hW]
    clear hW
    go_wp2_with (fail)
    refine (hG_h.out).mono ?_
    rintro e w1 ⟨rfl, hb1⟩
    clear c0 c1 c2 f0 f1 f2
    replace k0_h := Lib.hid (box_below k0_h.out hb1)
    replace k1_h := Lib.hid (box_below k1_h.out hb1)
    obtain ⟨⟨c0, c1, c2⟩, f0, f1, f2⟩ := box3 k0_h.out
    obtain ⟨⟨d0, d1⟩, g0, g1⟩ := box2 k1_h.out
    have hB1 := below_trans b0_h.out hb1 b0_h.out.size
    have hw1 : w.heap.size + 1 < w1.heap.size := (Array.getElem?_eq_some_iff.1 k1_h.out).1
    have hF1 := hF_h.out w1 hb1 hof_h.out
    have hF1_h := Lib.hid hF1
    have hB1_h := Lib.hid hB1
    have hb1_h := Lib.hid hb1
    clear hF1 hB1 hb1
    go_wp2_with (fail)
    refine (hF1_h.out).mono ?_
    rintro e w2 ⟨v2, fp2, rfl, hO2, hf2, hb2⟩
    obtain ⟨A2, n2, c2', rfl⟩ := hO2.shape
    have k1' := box_below k1_h.out hb2
    clear d0 d1 g0 g1
    obtain ⟨⟨d0, d1⟩, g0, g1⟩ := box2 k1'
    obtain ⟨s1, s2⟩ := set2 (a := .int .i64 (s.1, redM p s.1.toNat (firstM s)).1) (b := .slice A2 n2 c2') k1'
    have hB2 := below_trans hB1_h.out hb2 hB1_h.out.size
    have hB3 := below_keeps hB2 s2 hB2.size (fun k hk => by omega)
    have hO3 := hO2.keeps s2 (fun k hk e => by have := hf2 k hk; omega)
    have hf3 := hf2.mono hB1_h.out.size
    clear hB2 hO2 hf2 hb2 k1'
    have s1_h := Lib.hid s1
    have s2_h := Lib.hid s2
    have hB3_h := Lib.hid hB3
    have hO3_h := Lib.hid hO3
    have hf3_h := Lib.hid hf3
    clear s1 s2 hB3 hO3 hf3
    go_wp2_with (fail)
    refine bodyPost_ret (results_cell_tmp rfl _ _ (w.heap.size + 1) _ _ (0, 0) _ rfl s1_h.out Tryd.underlying48 rfl (by kernel_rfl)) rfl ?_
    exact ⟨_, fp2, rfl, hO3_h.out, hf3_h.out, hB3_h.out⟩
  · have hb' : relB p s = false := by simpa using hb
    rw [hb'] at hG
    have hb2 := hcan false hb'
    rw [if_neg (by simp)] at hb2
    rw [hb2] at hC0
    subst hC0
    clear h ok hb hb' hb2 hcan hF
    have hG_h := Lib.hid hG
    have k0_h := Lib.hid k0
    have k1_h := Lib.hid k1
    have b0_h := Lib.hid b0
    clear hG k0 k1 b0
    go_enter Tryd.func41, Tryd.ntmps41
    go_upto_region 1 with (fail)
    rw [← hW]
    clear hW
    go_wp2_with (fail)
    refine (hG_h.out).mono ?_
    rintro e w1 ⟨rfl, hb1⟩
    clear c0 c1 c2 f0 f1 f2
    have k1' := box_below k1_h.out hb1
    have hB1 := below_trans b0_h.out hb1 b0_h.out.size
    have hw1 : w.heap.size + 1 < w1.heap.size := (Array.getElem?_eq_some_iff.1 k1').1
    obtain ⟨⟨d0, d1⟩, g0, g1⟩ := box2 k1'
    obtain ⟨s1, s2⟩ := set2 (a := .int .i64 0) (b := .slice none 0 0) k1'
    have hB3 := below_keeps hB1 s2 hB1.size (fun k hk => by omega)
    clear hB1 hb1 k1'
    have s1_h := Lib.hid s1
    have s2_h := Lib.hid s2
    have hB3_h := Lib.hid hB3
    clear s1 s2 hB3
    go_wp2_with (fail)
    refine bodyPost_ret (results_cell_tmp rfl _ _ (w.heap.size + 1) _ _ (0, 0) _ rfl s1_h.out Tryd.underlying48 rfl (by kernel_rfl)) rfl ?_
    exact ⟨_, [], rfl, OwMt.zero _ 0, FreshL.nil _, hB3_h.out⟩
set_option maxRecDepth 100000 in
set_option maxHeartbeats 2000000 in
theorem iDomainOf_law (p : Int) {v : Value} {s : Sys} {fp : List Nat} {w : World} (h : OwSys w v s fp) (ok : OkR s.2.2) (hT : Tab w) :
    Calls Tryd.prog 42 #[.int .i64 p, v] w fun e w' => ∃ v' fp', e = .returned (.tuple #[v', .bool (domM p s).2]) ∧ OwMt w' v' (domM p s).1 fp' ∧ FreshL w.heap.size fp' ∧ Below w.heap.size w w' := by
  obtain ⟨C, hC0⟩ : ∃ C, C = domM p s := ⟨_, rfl⟩
  rw [← hC0]
  have hcan : ∀ b, relB p s = b → domM p s = if b then ((s.1, redM p s.1.toNat (firstM s)), true) else ((0, []), false) := fun b hb => by unfold domM; rw [hb]
  obtain ⟨A, n, c, rfl⟩ := h.shape
  obtain ⟨W, hW, b0, k0, k1⟩ := alloc2 w (.cells #[.int .i64 s.1, .int .i64 s.2.1, .slice A n c] tRel) (.cells #[.int .i64 0, .slice none 0 0] tSpc)
  have hG := isRelation_any p W (h.rd.below b0) (hT.below b0 hT.lt) ok.1 ok.2.1
  have hF := fun W' (hb : Below W.heap.size W W') (hs : RelOk p s) => domain_any p W' ((h.below b0).below hb) hs
  obtain ⟨⟨c0, c1, c2⟩, f0, f1, f2⟩ := box3 k0
  by_cases hb : relB p s = true
  · rw [hb] at hG
    have hof := RelOk.of hb
    have hb' := hcan true hb
    rw [if_pos rfl] at hb'
    rw [hb'] at hC0
    subst hC0
    clear h ok hb hb' hcan hT
    have hG_h := Lib.hid hG
    have hF_h := Lib.hid hF
    have k0_h := Lib.hid k0
    have k1_h := Lib.hid k1
    have b0_h := Lib.hid b0
    have hof_h := Lib.hid hof
    clear hG hF k0 k1 b0 hof
    go_enter Tryd.func42, Tryd.ntmps42
    go_upto_region 1 with (fail)
    rw [← hW]
    clear hW
    go_wp2_with (fail)
    refine (hG_h.out).mono ?_
    rintro e w1 ⟨rfl, hb1⟩
    clear c0 c1 c2 f0 f1 f2
    replace k0_h := Lib.hid (box_below k0_h.out hb1)
    replace k1_h := Lib.hid (box_below k1_h.out hb1)
    obtain ⟨⟨c0, c1, c2⟩, f0, f1, f2⟩ := box3 k0_h.out
    obtain ⟨⟨d0, d1⟩, g0, g1⟩ := box2 k1_h.out
    have hB1 := below_trans b0_h.out hb1 b0_h.out.size
    have hw1 : w.heap.size + 1 < w1.heap.size := (Array.getElem?_eq_some_iff.1 k1_h.out).1
    have hF1 := hF_h.out w1 hb1 hof_h.out
    have hF1_h := Lib.hid hF1
    have hB1_h := Lib.hid hB1
    have hb1_h := Lib.hid hb1
    clear hF1 hB1 hb1
    go_wp2_with (fail)
    refine (hF1_h.out).mono ?_
    rintro e w2 ⟨v2, fp2, rfl, hO2, hf2, hb2⟩
    obtain ⟨A2, n2, c2', rfl⟩ := hO2.shape
    have k1' := box_below k1_h.out hb2
    clear d0 d1 g0 g1
    obtain ⟨⟨d0, d1⟩, g0, g1⟩ := box2 k1'
    obtain ⟨s1, s2⟩ := set2 (a := .int .i64 (s.1, redM p s.1.toNat (firstM s)).1) (b := .slice A2 n2 c2') k1'
    have hB2 := below_trans hB1_h.out hb2 hB1_h.out.size
    have hB3 := below_keeps hB2 s2 hB2.size (fun k hk => by omega)
    have hO3 := hO2.keeps s2 (fun k hk e => by have := hf2 k hk; omega)
    have hf3 := hf2.mono hB1_h.out.size
    clear hB2 hO2 hf2 hb2 k1'
    have s1_h := Lib.hid s1
    have s2_h := Lib.hid s2
    have hB3_h := Lib.hid hB3
    have hO3_h := Lib.hid hO3
    have hf3_h := Lib.hid hf3
    clear s1 s2 hB3 hO3 hf3
    go_wp2_with (fail)
    refine bodyPost_ret (results_cell_tmp rfl _ _ (w.heap.size + 1) _ _ (0, 0) _ rfl s1_h.out Tryd.underlying48 rfl (by kernel_rfl)) rfl ?_
    exact ⟨_, fp2, rfl, hO3_h.out, hf3_h.out, hB3_h.out⟩
  · have hb' : relB p s = false := by simpa using hb
    rw [hb'] at hG
    have hb2 := hcan false hb'
    rw [if_neg (by simp)] at hb2
    rw [hb2] at hC0
    subst hC0
    clear h ok hb hb' hb2 hcan hF hT
    have hG_h := Lib.hid hG
    have k0_h := Lib.hid k0
    have k1_h := Lib.hid k1
    have b0_h := Lib.hid b0
    clear hG k0 k1 b0
    go_enter Tryd.func42, Tryd.ntmps42
    go_upto_region 1 with (fail)
    rw [← hW]
    clear hW
    go_wp2_with (fail)
    refine (hG_h.out).mono ?_
    rintro e w1 ⟨rfl, hb1⟩
    clear c0 c1 c2 f0 f1 f2
    have k1' := box_below k1_h.out hb1
    have hB1 := below_trans b0_h.out hb1 b0_h.out.size
    have hw1 : w.heap.size + 1 < w1.heap.size := (Array.getElem?_eq_some_iff.1 k1').1
    obtain ⟨⟨d0, d1⟩, g0, g1⟩ := box2 k1'
    obtain ⟨s1, s2⟩ := set2 (a := .int .i64 0) (b := .slice none 0 0) k1'
    have hB3 := below_keeps hB1 s2 hB1.size (fun k hk => by omega)
    clear hB1 hb1 k1'
    have s1_h := Lib.hid s1
    have s2_h := Lib.hid s2
    have hB3_h := Lib.hid hB3
    clear s1 s2 hB3
    go_wp2_with (fail)
    refine bodyPost_ret (results_cell_tmp rfl _ _ (w.heap.size + 1) _ _ (0, 0) _ rfl s1_h.out Tryd.underlying48 rfl (by kernel_rfl)) rfl ?_
    exact ⟨_, [], rfl, OwMt.zero _ 0, FreshL.nil _, hB3_h.out⟩
set_option maxRecDepth 100000 in
set_option maxHeartbeats 2000000 in
theorem sRangeOf_law (p : Int) {v : Value} {s : Sys} {fp : List Nat} {w : World} (h : OwSys w v s fp) (ok : OkR s.2.2) :
    Calls Tryd.prog 33 #[.int .i64 p, v] w fun e w' => ∃ v' fp', e = .returned (.tuple #[v', .bool (ranM p s).2]) ∧ OwMt w' v' (ranM p s).1 fp' ∧ FreshL w.heap.size fp' ∧ Below w.heap.size w w' := by
  obtain ⟨C, hC0⟩ : ∃ C, C = ranM p s := ⟨_, rfl⟩
  rw [← hC0]
  have hcan : ∀ b, relB p s = b → ranM p s = if b then ((s.2.1, redM p s.2.1.toNat (secondM s)), true) else ((0, []), false) := fun b hb => by unfold ranM; rw [hb]
  obtain ⟨A, n, c, rfl⟩ := h.shape
  obtain ⟨W, hW, b0, k0, k1⟩ := alloc2 w (.cells #[.int .i64 s.1, .int .i64 s.2.1, .slice A n c] tRel) (.cells #[.int .i64 0, .slice none 0 0] tSpc)
  have hG := rlGood_any p W (h.rd.below b0) ok.1 ok.2.1
  have hF := fun W' (hb : Below W.heap.size W W') (hs : RelOk p s) => rlPartS_any p W' ((h.below b0).below hb) hs
  obtain ⟨⟨c0, c1, c2⟩, f0, f1, f2⟩ := box3 k0
  by_cases hb : relB p s = true
  · rw [hb] at hG
    have hof := RelOk.of hb
    have hb' := hcan true hb
    rw [if_pos rfl] at hb'
    rw [hb'] at hC0
    subst hC0
    clear h ok hb hb' hcan
    have hG_h := Lib.hid hG
    have hF_h := Lib.hid hF
    have k0_h := Lib.hid k0
    have k1_h := Lib.hid k1
    have b0_h := Lib.hid b0
    have hof_h := Lib.hid hof
    clear hG hF k0 k1 b0 hof
    go_enter Tryd.func33, Tryd.ntmps33
    go_upto_region 1 with (fail)
    rw [← hW]
    clear hW
    go_wp2_with (fail)
    refine (hG_h.out).mono ?_
    rintro e w1 ⟨rfl, hb1⟩
    clear c0 c1 c2 f0 f1 f2
    replace k0_h := Lib.hid (box_below k0_h.out hb1)
    replace k1_h := Lib.hid (box_below k1_h.out hb1)
    obtain ⟨⟨c0, c1, c2⟩, f0, f1, f2⟩ := box3 k0_h.out
    obtain ⟨⟨d0, d1⟩, g0, g1⟩ := box2 k1_h.out
    have hB1 := below_trans b0_h.out hb1 b0_h.out.size
    have hw1 : w.heap.size + 1 < w1.heap.size := (Array.getElem?_eq_some_iff.1 k1_h.out).1
    have hwr : IntKind.i64.wrap (s.1 + s.2.1) = s.1 + s.2.1 := IntWalk.i64_in _ (by have := hof_h.out.lo; have := hof_h.out.hi; have := hof_h.out.sum; omega)
    have hF1 := hF_h.out w1 hb1 hof_h.out
    have hF1_h := Lib.hid hF1
    have hB1_h := Lib.hid hB1
    have hb1_h := Lib.hid hb1
    clear hF1 hB1 hb1
    go_wp2_with (fail)
    refine (hF1_h.out).mono ?_
    rintro e w2 ⟨v2, fp2, rfl, hO2, hf2, hb2⟩
    obtain ⟨A2, n2, c2', rfl⟩ := hO2.shape
    have k1' := box_below k1_h.out hb2
    clear d0 d1 g0 g1
    obtain ⟨⟨d0, d1⟩, g0, g1⟩ := box2 k1'
    obtain ⟨s1, s2⟩ := set2 (a := .int .i64 (s.2.1, redM p s.2.1.toNat (secondM s)).1) (b := .slice A2 n2 c2') k1'
    have hB2 := below_trans hB1_h.out hb2 hB1_h.out.size
    have hB3 := below_keeps hB2 s2 hB2.size (fun k hk => by omega)
    have hO3 := hO2.keeps s2 (fun k hk e => by have := hf2 k hk; omega)
    have hf3 := hf2.mono hB1_h.out.size
    clear hB2 hO2 hf2 hb2 k1'
    have s1_h := Lib.hid s1
    have s2_h := Lib.hid s2
    have hB3_h := Lib.hid hB3
    have hO3_h := Lib.hid hO3
    have hf3_h := Lib.hid hf3
    clear s1 s2 hB3 hO3 hf3
    go_wp2_with (fail)
    refine bodyPost_ret (results_cell_tmp rfl _ _ (w.heap.size + 1) _ _ (0, 0) _ rfl s1_h.out Tryd.underlying48 rfl (by kernel_rfl)) rfl ?_
    exact ⟨_, fp2, rfl, hO3_h.out, hf3_h.out, hB3_h.out⟩
  · have hb' : relB p s = false := by simpa using hb
    rw [hb'] at hG
    have hb2 := hcan false hb'
    rw [if_neg (by simp)] at hb2
    rw [hb2] at hC0
    subst hC0
    clear h ok hb hb' hb2 hcan hF
    have hG_h := Lib.hid hG
    have k0_h := Lib.hid k0
    have k1_h := Lib.hid k1
    have b0_h := Lib.hid b0
    clear hG k0 k1 b0
    go_enter Tryd.func33, Tryd.ntmps33
    go_upto_region 1 with (fail)
    rw [← hW]
    clear hW
    go_wp2_with (fail)
    refine (hG_h.out).mono ?_
    rintro e w1 ⟨rfl, hb1⟩
    clear c0 c1 c2 f0 f1 f2
    have k1' := box_below k1_h.out hb1
    have hB1 := below_trans b0_h.out hb1 b0_h.out.size
    have hw1 : w.heap.size + 1 < w1.heap.size := (Array.getElem?_eq_some_iff.1 k1').1
    obtain ⟨⟨d0, d1⟩, g0, g1⟩ := box2 k1'
    obtain ⟨s1, s2⟩ := set2 (a := .int .i64 0) (b := .slice none 0 0) k1'
    have hB3 := below_keeps hB1 s2 hB1.size (fun k hk => by omega)
    clear hB1 hb1 k1'
    have s1_h := Lib.hid s1
    have s2_h := Lib.hid s2
    have hB3_h := Lib.hid hB3
    clear s1 s2 hB3
    go_wp2_with (fail)
    refine bodyPost_ret (results_cell_tmp rfl _ _ (w.heap.size + 1) _ _ (0, 0) _ rfl s1_h.out Tryd.underlying48 rfl (by kernel_rfl)) rfl ?_
    exact ⟨_, [], rfl, OwMt.zero _ 0, FreshL.nil _, hB3_h.out⟩
set_option maxRecDepth 100000 in
set_option maxHeartbeats 2000000 in
theorem sIsTotal_law (p : Int) {v : Value} {s : Sys} {fp : List Nat} {w : World} (h : OwSys w v s fp) (ok : OkR s.2.2) :
    Calls Tryd.prog 43 #[.int .i64 p, v] w fun e w' => e = .returned (.tuple #[.bool (totM p s).1, .bool (totM p s).2]) ∧ Below w.heap.size w w' := by
  obtain ⟨C, hC0⟩ : ∃ C, C = totM p s := ⟨_, rfl⟩
  rw [← hC0]
  have hcan : ∀ b, relB p s = b → totM p s = if b then (totB p s, true) else (false, false) := fun b hb => by unfold totM; rw [hb]
  obtain ⟨A, n, c, rfl⟩ := h.shape
  obtain ⟨W, hW, b0, k0⟩ := alloc_box w (.cells #[.int .i64 s.1, .int .i64 s.2.1, .slice A n c] tRel)
  have hG := rlGood_any p W (h.rd.below b0) ok.1 ok.2.1
  have hF := fun W' (hb : Below W.heap.size W W') (hs : RelOk p s) => rlTotal_any p W' ((h.below b0).below hb) hs
  obtain ⟨V, hV⟩ : ∃ V, V = totB p s := ⟨_, rfl⟩
  rw [← hV] at hF
  obtain ⟨⟨c0, c1, c2⟩, f0, f1, f2⟩ := box3 k0
  by_cases hb : relB p s = true
  · rw [hb] at hG
    have hof := RelOk.of hb
    have hb' := hcan true hb
    rw [if_pos rfl, ← hV] at hb'
    rw [hb'] at hC0
    subst hC0
    clear h ok hb hb' hcan
    have hG_h := Lib.hid hG
    have hF_h := Lib.hid hF
    have k0_h := Lib.hid k0
    have b0_h := Lib.hid b0
    have hof_h := Lib.hid hof
    have hV_h := Lib.hid hV
    clear hG hF k0 b0 hof hV
    go_enter Tryd.func43, Tryd.ntmps43
    go_upto_region 1 with (fail)
    rw [← hW]
    clear hW
    go_wp2_with (fail)
    refine (hG_h.out).mono ?_
    rintro e w1 ⟨rfl, hb1⟩
    clear c0 c1 c2 f0 f1 f2
    replace k0_h := Lib.hid (box_below k0_h.out hb1)
    obtain ⟨⟨c0, c1, c2⟩, f0, f1, f2⟩ := box3 k0_h.out
    have hB1 := below_trans b0_h.out hb1 b0_h.out.size
    have hF1 := hF_h.out w1 hb1 hof_h.out
    have hF1_h := Lib.hid hF1
    have hB1_h := Lib.hid hB1
    have hb1_h := Lib.hid hb1
    clear hF1 hB1 hb1
    go_wp2_with (fail)
    refine (hF1_h.out).mono ?_
    rintro e w2 ⟨rfl, hb2⟩
    go_wp2_with (fail)
    go_ret2
    exact ⟨rfl, below_trans hB1_h.out hb2 hB1_h.out.size⟩
  · have hb' : relB p s = false := by simpa using hb
    rw [hb'] at hG
    have hb2 := hcan false hb'
    rw [if_neg (by simp)] at hb2
    rw [hb2] at hC0
    subst hC0
    clear h ok hb hb' hb2 hcan hF hV
    have hG_h := Lib.hid hG
    have k0_h := Lib.hid k0
    have b0_h := Lib.hid b0
    clear hG k0 b0
    go_enter Tryd.func43, Tryd.ntmps43
    go_upto_region 1 with (fail)
    rw [← hW]
    clear hW
    go_wp2_with (fail)
    refine (hG_h.out).mono ?_
    rintro e w1 ⟨rfl, hb1⟩
    go_wp2_with (fail)
    go_ret2
    exact ⟨rfl, below_trans b0_h.out hb1 b0_h.out.size⟩
set_option maxRecDepth 100000 in
set_option maxHeartbeats 2000000 in
theorem iIsTotal_law (p : Int) {v : Value} {s : Sys} {fp : List Nat} {w : World} (h : OwSys w v s fp) (ok : OkR s.2.2) (hT : Tab w) :
    Calls Tryd.prog 44 #[.int .i64 p, v] w fun e w' => e = .returned (.tuple #[.bool (totM p s).1, .bool (totM p s).2]) ∧ Below w.heap.size w w' := by
  obtain ⟨C, hC0⟩ : ∃ C, C = totM p s := ⟨_, rfl⟩
  rw [← hC0]
  have hcan : ∀ b, relB p s = b → totM p s = if b then (totB p s, true) else (false, false) := fun b hb => by unfold totM; rw [hb]
  obtain ⟨A, n, c, rfl⟩ := h.shape
  obtain ⟨W, hW, b0, k0⟩ := alloc_box w (.cells #[.int .i64 s.1, .int .i64 s.2.1, .slice A n c] tRel)
  have hG := isRelation_any p W (h.rd.below b0) (hT.below b0 hT.lt) ok.1 ok.2.1
  have hF := fun W' (hb : Below W.heap.size W W') (hs : RelOk p s) => isTotal_any p W' ((h.below b0).below hb) hs
  obtain ⟨V, hV⟩ : ∃ V, V = totB p s := ⟨_, rfl⟩
  rw [← hV] at hF
  obtain ⟨⟨c0, c1, c2⟩, f0, f1, f2⟩ := box3 k0
  by_cases hb : relB p s = true
  · rw [hb] at hG
    have hof := RelOk.of hb
    have hb' := hcan true hb
    rw [if_pos rfl, ← hV] at hb'
    rw [hb'] at hC0
    subst hC0
    clear h ok hb hb' hcan hT
    have hG_h := Lib.hid hG
    have hF_h := Lib.hid hF
    have k0_h := Lib.hid k0
    have b0_h := Lib.hid b0
    have hof_h := Lib.hid hof
    have hV_h := Lib.hid hV
    clear hG hF k0 b0 hof hV
    go_enter Tryd.func44, Tryd.ntmps44
    go_upto_region 1 with (fail)
    rw [← hW]
    clear hW
    go_wp2_with (fail)
    refine (hG_h.out).mono ?_
    rintro e w1 ⟨rfl, hb1⟩
    clear c0 c1 c2 f0 f1 f2
    replace k0_h := Lib.hid (box_below k0_h.out hb1)
    obtain ⟨⟨c0, c1, c2⟩, f0, f1, f2⟩ := box3 k0_h.out
    have hB1 := below_trans b0_h.out hb1 b0_h.out.size
    have hF1 := hF_h.out w1 hb1 hof_h.out
    have hF1_h := Lib.hid hF1
    have hB1_h := Lib.hid hB1
    have hb1_h := Lib.hid hb1
    clear hF1 hB1 hb1
    go_wp2_with (fail)
    refine (hF1_h.out).mono ?_
    rintro e w2 ⟨rfl, hb2⟩
    go_wp2_with (fail)
    go_ret2
    exact ⟨rfl, below_trans hB1_h.out hb2 hB1_h.out.size⟩
  · have hb' : relB p s = false := by simpa using hb
    rw [hb'] at hG
    have hb2 := hcan false hb'
    rw [if_neg (by simp)] at hb2
    rw [hb2] at hC0
    subst hC0
    clear h ok hb hb' hb2 hcan hF hV hT
    have hG_h := Lib.hid hG
    have k0_h := Lib.hid k0
    have b0_h := Lib.hid b0
    clear hG k0 b0
    go_enter Tryd.func44, Tryd.ntmps44
    go_upto_region 1 with (fail)
    rw [← hW]
    clear hW
    go_wp2_with (fail)
    refine (hG_h.out).mono ?_
    rintro e w1 ⟨rfl, hb1⟩
    go_wp2_with (fail)
    go_ret2
    exact ⟨rfl, below_trans b0_h.out hb1 b0_h.out.size⟩
end Go.Proofs.YtpfidjegdpkhdaaDoor
