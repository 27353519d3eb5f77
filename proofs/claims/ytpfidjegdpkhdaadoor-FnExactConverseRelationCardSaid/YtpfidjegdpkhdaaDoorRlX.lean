/-
  THE WALKS: each with first, second; RangeOf of the program; what is owned of the answers.
-/
import Derived.Test.YtpfidjegdpkhdaaDoorRlW
namespace Go.Proofs.YtpfidjegdpkhdaaDoor
open Go.RowKit

set_option maxRecDepth 8000 in
theorem eachFirst_any (p : Int) {v : Value} {s : Sys} {fp : List Nat} (w : World) (h : OwSys w v s fp) (hs : RelOk p s) :
    Calls Tryd.prog 96 #[v, .func (.func 137) #[v] #[]] w fun e w' => ∃ A' c' gs n, e = .returned (.slice A' n c') ∧ gs.length = n ∧ n ≤ 24 ∧ gs.map (fun h : Hd => h.2.2) = firstM s ∧ RdO w w' A' c' gs := by
  have hpf := part_first hs
  obtain ⟨A, c, gs, rfl, hL, hO, rfl⟩ := h
  obtain ⟨a, b, L⟩ := s
  have h0 : 0 ≤ a := hs.lo
  have h1 : 0 ≤ b := hs.hi
  have h2 : a + b ≤ 24 := hs.sum
  have hfld : fieldB p = true := hs.fld
  have hrow : ∀ u, u ∈ L → (u.length : Int) = a + b ∧ Res p u := fun u hu => hs.row hu
  have hlen : (L.length : Int) ≤ a + b := hs.len
  clear hs
  obtain ⟨na, rfl⟩ : ∃ na : Nat, a = (na : Int) := ⟨a.toNat, by omega⟩
  obtain ⟨nb, rfl⟩ : ∃ nb : Nat, b = (nb : Int) := ⟨b.toNat, by omega⟩
  have hL' : L = gs.map (fun h : Hd => h.2.2) := hL
  clear hL
  obtain ⟨m, hm⟩ : ∃ m, m = gs.length := ⟨_, rfl⟩
  have hLm : L.length = m := by rw [hL', List.length_map, hm]
  have hm24 : (m : Int) ≤ 24 := by have := hlen; rw [hLm] at this; omega
  have hgr : ∀ x, x ∈ gs → x.2.2.length = na + nb := fun x hx => by have := (hrow _ (by rw [hL']; exact List.mem_map_of_mem hx)).1; omega
  have hE := each_any 137 #[.agg #[.int .i64 (na : Int), .int .i64 (nb : Int), .slice A gs.length c]] #[] (partV 0 na) (na : Int) (nb : Int) A c gs w hO.rd hO.rows (by omega) (fun _ _ => rfl) (fun x hx => first_each rfl (hO.rows x hx) (hgr x hx) (by omega))
  refine hE.mono ?_
  rintro e w' ⟨A', c', g1, rfl, hg1, hO1⟩
  have hgl : g1.length = gs.length := by have := congrArg List.length hg1; rwa [List.length_map, List.length_map] at this
  refine ⟨A', c', g1, gs.length, rfl, hgl, by omega, ?_, hO1⟩
  rw [hg1, ← hpf]
  show _ = L.map _
  rw [hL', List.map_map]; rfl
set_option maxRecDepth 8000 in
theorem eachSecond_any (p : Int) {v : Value} {s : Sys} {fp : List Nat} (w : World) (h : OwSys w v s fp) (hs : RelOk p s) :
    Calls Tryd.prog 96 #[v, .func (.func 97) #[v] #[]] w fun e w' => ∃ A' c' gs n, e = .returned (.slice A' n c') ∧ gs.length = n ∧ n ≤ 24 ∧ gs.map (fun h : Hd => h.2.2) = secondM s ∧ RdO w w' A' c' gs := by
  have hpf := part_second hs
  obtain ⟨A, c, gs, rfl, hL, hO, rfl⟩ := h
  obtain ⟨a, b, L⟩ := s
  have h0 : 0 ≤ a := hs.lo
  have h1 : 0 ≤ b := hs.hi
  have h2 : a + b ≤ 24 := hs.sum
  have hfld : fieldB p = true := hs.fld
  have hrow : ∀ u, u ∈ L → (u.length : Int) = a + b ∧ Res p u := fun u hu => hs.row hu
  have hlen : (L.length : Int) ≤ a + b := hs.len
  clear hs
  obtain ⟨na, rfl⟩ : ∃ na : Nat, a = (na : Int) := ⟨a.toNat, by omega⟩
  obtain ⟨nb, rfl⟩ : ∃ nb : Nat, b = (nb : Int) := ⟨b.toNat, by omega⟩
  have hL' : L = gs.map (fun h : Hd => h.2.2) := hL
  clear hL
  obtain ⟨m, hm⟩ : ∃ m, m = gs.length := ⟨_, rfl⟩
  have hLm : L.length = m := by rw [hL', List.length_map, hm]
  have hm24 : (m : Int) ≤ 24 := by have := hlen; rw [hLm] at this; omega
  have hgr : ∀ x, x ∈ gs → x.2.2.length = na + nb := fun x hx => by have := (hrow _ (by rw [hL']; exact List.mem_map_of_mem hx)).1; omega
  have hE := each_any 97 #[.agg #[.int .i64 (na : Int), .int .i64 (nb : Int), .slice A gs.length c]] #[] (partV na nb) (na : Int) (nb : Int) A c gs w hO.rd hO.rows (by omega) (fun _ _ => rfl) (fun x hx => second_each rfl (hO.rows x hx) (hgr x hx) (by omega))
  refine hE.mono ?_
  rintro e w' ⟨A', c', g1, rfl, hg1, hO1⟩
  have hgl : g1.length = gs.length := by have := congrArg List.length hg1; rwa [List.length_map, List.length_map] at this
  refine ⟨A', c', g1, gs.length, rfl, hgl, by omega, ?_, hO1⟩
  rw [hg1, ← hpf]
  show _ = L.map _
  rw [hL', List.map_map]; rfl
set_option maxRecDepth 100000 in
set_option maxHeartbeats 2000000 in
theorem iRangeOf_law (p : Int) {v : Value} {s : Sys} {fp : List Nat} {w : World} (h : OwSys w v s fp) (ok : OkR s.2.2) (hT : Tab w) :
    Calls Tryd.prog 35 #[.int .i64 p, v] w fun e w' => ∃ v' fp', e = .returned (.tuple #[v', .bool (ranM p s).2]) ∧ OwMt w' v' (ranM p s).1 fp' ∧ FreshL w.heap.size fp' ∧ Below w.heap.size w w' := by
  obtain ⟨C, hC0⟩ : ∃ C, C = ranM p s := ⟨_, rfl⟩
  rw [← hC0]
  have hcan : ∀ b, relB p s = b → ranM p s = if b then ((s.2.1, redM p s.2.1.toNat (secondM s)), true) else ((0, []), false) := fun b hb => by unfold ranM; rw [hb]
  obtain ⟨A, n, c, rfl⟩ := h.shape
  obtain ⟨W, hW, b0, k0, k1⟩ := alloc2 w (.cells #[.int .i64 s.1, .int .i64 s.2.1, .slice A n c] tRel) (.cells #[.int .i64 0, .slice none 0 0] tSpc)
  have hG := isRelation_any p W (h.rd.below b0) (hT.below b0 hT.lt) ok.1 ok.2.1
  have hF := fun W' (hb : Below W.heap.size W W') (hs : RelOk p s) => eachSecond_any p W' ((h.below b0).below hb) hs
  obtain ⟨⟨c0, c1, c2⟩, f0, f1, f2⟩ := box3 k0
  by_cases hb : relB p s = true
  · rw [hb] at hG
    have hof := RelOk.of hb
    have hb' := hcan true hb
    rw [if_pos rfl] at hb'
    rw [hb'] at hC0
    subst hC0
    clear h ok hb hb' hcan hT
    have hG_h := Lib.hid hG
    have hF_h := Lib.hid hF
    have k0_h := Lib.hid k0
    have k1_h := Lib.hid k1
    have b0_h := Lib.hid b0
    have hof_h := Lib.hid hof
    clear hG hF k0 k1 b0 hof
    go_enter Tryd.func35, Tryd.ntmps35
    go_upto_region 1 with (fail)
    rw [← hW]
    clear hW
    go_wp2_with (fail)
    refine (hG_h.out).mono ?_
    rintro e w1 ⟨rfl, hb1⟩
    clear c0 c1 c2 f0 f1 f2
    replace k0_h := Lib.hid (box_below k0_h.out hb1)
    replace k1_h := Lib.hid (box_below k1_h.out hb1)
    obtain ⟨⟨c0, c1, c2⟩, f0, f1, f2⟩ := box3 k0_h.out
    obtain ⟨⟨d0, d1⟩, g0, g1⟩ := box2 k1_h.out
    have hB1 := below_trans b0_h.out hb1 b0_h.out.size
    have hw1 : w.heap.size + 1 < w1.heap.size := (Array.getElem?_eq_some_iff.1 k1_h.out).1
    have hmf : ∀ (fn : Fn) (first cap : Array Value) (w : World), (Instr.makeFunc fn first cap).run Tryd.prog w = .ok (.func fn first cap) w := fun _ _ _ _ => rfl
    have hbd : Below w1.heap.size w1 w1.drew := below_drewN (Below.refl _ _) 1
    have hF1 := hF_h.out w1.drew (below_trans hb1 hbd hb1.size) hof_h.out
    have hms := secondM_mat hof_h.out
    have hfld := hof_h.out.fld
    have hb0 := hof_h.out.hi
    have hb2 := hof_h.out.sum
    have hb3 := hof_h.out.lo
    obtain ⟨X, hX⟩ : ∃ X, X = secondM s := ⟨_, rfl⟩
    obtain ⟨R, hR⟩ : ∃ R, R = redM p s.2.1.toNat X := ⟨_, rfl⟩
    have hXl : X.length = s.2.2.length := by rw [hX]; unfold secondM; rw [List.length_map]
    rw [← hX] at hms hF1
    rw [← hXl] at hms
    clear c0 c1 c2 f0 f1 f2 d0 d1 g0 g1
    have hF1_h := Lib.hid hF1
    have hms_h := Lib.hid hms
    have hfld_h := Lib.hid hfld
    have hX_h := Lib.hid hX
    have hR_h := Lib.hid hR
    have hXl_h := Lib.hid hXl
    clear hF1 hms hfld hX hR hXl
    go_wp2_with (fail)
    refine beginH (fun w' => w'.heap[w.heap.size]? = some (.cells #[.int .i64 s.1, .int .i64 s.2.1, .slice A n c] tRel)) (by kernel_rfl) ?_
    generalize w1.drew = W1 at hbd hF1_h ⊢
    have hB1' := below_trans hB1 hbd hB1.size
    replace k0_h := Lib.hid (box_below k0_h.out hbd)
    replace k1_h := Lib.hid (box_below k1_h.out hbd)
    have hw2 : w.heap.size + 1 < W1.heap.size := (Array.getElem?_eq_some_iff.1 k1_h.out).1
    clear hB1 hbd hb1
    have hB1'_h := Lib.hid hB1'
    clear hB1'
    refine takeH 0 (v := ?_) rfl (by kernel_rfl) (by kernel_rfl) (by kernel_rfl) (fun _ _ _ h => h) k0_h.out (by rfl) (fun W' hW' => ?_) ?_; rotate_left; · (obtain ⟨⟨y0, y1, y2⟩, y3, y4, y5⟩ := box3 hW'; clear hW'; go_simp; first | done | with_reducible rfl)
    simp only [Act.put, List.setIfInBounds_toArray, List.set_cons_zero, List.set_cons_succ]
    refine takeH 1 (v := ?_) rfl (by kernel_rfl) (by kernel_rfl) (by kernel_rfl) (fun _ _ _ h => h) k0_h.out (by rfl) (fun W' hW' => ?_) ?_; rotate_left; · (obtain ⟨⟨y0, y1, y2⟩, y3, y4, y5⟩ := box3 hW'; clear hW'; go_simp; first | done | with_reducible rfl)
    simp only [Act.put, List.setIfInBounds_toArray, List.set_cons_zero, List.set_cons_succ]
    refine takeH 2 (v := ?_) rfl (by kernel_rfl) (by kernel_rfl) (by kernel_rfl) (fun _ _ _ h => h) k0_h.out (by rfl) (fun W' hW' => ?_) ?_; rotate_left; · (obtain ⟨⟨y0, y1, y2⟩, y3, y4, y5⟩ := box3 hW'; clear hW'; go_simp; first | done | with_reducible rfl)
    simp only [Act.put, List.setIfInBounds_toArray, List.set_cons_zero, List.set_cons_succ]
    refine takeH 3 (v := ?_) rfl (by kernel_rfl) (by kernel_rfl) (by kernel_rfl) (fun _ _ _ h => h) k0_h.out (by rfl) (fun W' hW' => ?_) ?_; rotate_left; · (obtain ⟨⟨y0, y1, y2⟩, y3, y4, y5⟩ := box3 hW'; clear hW'; go_simp; first | done | with_reducible rfl)
    simp only [Act.put, List.setIfInBounds_toArray, List.set_cons_zero, List.set_cons_succ]
    refine takeH 4 (v := ?_) rfl (by kernel_rfl) (by kernel_rfl) (by kernel_rfl) (fun _ _ _ h => h) k0_h.out (by rfl) (fun W' hW' => ?_) ?_; rotate_left; · (obtain ⟨⟨y0, y1, y2⟩, y3, y4, y5⟩ := box3 hW'; clear hW'; go_simp; first | done | with_reducible rfl)
    simp only [Act.put, List.setIfInBounds_toArray, List.set_cons_zero, List.set_cons_succ]
    refine takeH 5 (v := ?_) rfl (by kernel_rfl) (by kernel_rfl) (by kernel_rfl) (fun _ _ _ h => h) k0_h.out (by rfl) (fun W' hW' => ?_) ?_; rotate_left; · (skip; clear hW'; go_simp; first | done | with_reducible rfl)
    simp only [Act.put, List.setIfInBounds_toArray, List.set_cons_zero, List.set_cons_succ]
    refine' callH 6 (f := _) (args := _) rfl (by kernel_rfl) (by rfl) ?_ ?_; rotate_left 2; · (go_simp; first | done | with_reducible rfl | (constructor <;> with_reducible rfl))
    refine (hF1_h.out).mono ?_
    rintro e w2 ⟨A1, c1, g1, m, rfl, hgl, hm24, hgm, hO1⟩
    replace k0_h := Lib.hid (box_below k0_h.out hO1.below_)
    replace k1_h := Lib.hid (box_below k1_h.out hO1.below_)
    have hz2 := box_lt k1_h.out
    refine ⟨_, rfl, k0_h.out, ?_⟩
    simp only [Act.put, List.setIfInBounds_toArray, List.set_cons_zero, List.set_cons_succ]
    have hXm : X.length = m := by rw [← hgm, List.length_map, hgl]
    have e1 : ((s.2.1.toNat : Nat) : Int) = s.2.1 := by omega
    have hC := span_any p s.2.1.toNat A1 c1 g1 w2 hO1.rdr hfld_h.out (by rw [hgm, hgl, ← hXm]; exact hms_h.out) (by omega) (by omega)
    rw [hgm, ← hR_h.out, hgl, e1] at hC
    have hB2 := below_trans hB1'_h.out hO1.below_ hB1'_h.out.size
    clear hgl hgm hO1 hXm e1
    have hC_h := Lib.hid hC
    have hB2_h := Lib.hid hB2
    clear hC hB2
    refine' callH 7 (f := _) (args := _) rfl (by kernel_rfl) (by rfl) ?_ ?_; rotate_left 2; · (go_simp; first | done | with_reducible rfl | (constructor <;> with_reducible rfl))
    refine (hC_h.out).mono ?_
    rintro e w3 ⟨v3, fp3, rfl, hO3, hf3, hb3⟩
    replace k0_h := Lib.hid (box_below k0_h.out hb3)
    replace k1_h := Lib.hid (box_below k1_h.out hb3)
    refine ⟨_, rfl, k0_h.out, ?_⟩
    simp only [Act.put, List.setIfInBounds_toArray, List.set_cons_zero, List.set_cons_succ]
    obtain ⟨A3, n3, c3, rfl⟩ := hO3.shape
    have hB3 := below_trans hB2_h.out hb3 hB2_h.out.size
    have hBs := hB2_h.out.size
    have hz3 : w.heap.size + 1 < w3.heap.size := (Array.getElem?_eq_some_iff.1 k1_h.out).1
    obtain ⟨⟨d0, d1⟩, g0, g1'⟩ := box2 k1_h.out
    obtain ⟨s1, s2⟩ := set2 (a := .int .i64 s.2.1) (b := .slice A3 n3 c3) k1_h.out
    have k0' := box_keeps k0_h.out s2 (by omega)
    have hO4 := hO3.keeps s2 (fun k hk e => by have := hf3 k hk; omega)
    have hB4 := below_keeps hB3 s2 hB3.size (fun k hk => by omega)
    have hf4 := hf3.mono hBs
    clear hO3 hf3 hb3 hB3
    have s1_h := Lib.hid s1
    have s2_h := Lib.hid s2
    have k0'_h := Lib.hid k0'
    have hO4_h := Lib.hid hO4
    have hB4_h := Lib.hid hB4
    have hf4_h := Lib.hid hf4
    clear s1 s2 k0' hO4 hB4 hf4
    refine oneH 8 rfl (by kernel_rfl) (by rfl) (fun K hK => ?_)
    go_simp
    refine hK _ _ k0'_h.out ?_
    clear hK K
    refine takeH 9 (v := ?_) rfl (by kernel_rfl) (by kernel_rfl) (by kernel_rfl) (fun _ _ _ h => h) k0'_h.out (by rfl) (fun W' hW' => ?_) ?_; rotate_left; · (skip; clear hW'; go_simp; first | done | with_reducible rfl)
    simp only [Act.put, List.setIfInBounds_toArray, List.set_cons_zero, List.set_cons_succ]
    refine doneH (by kernel_rfl) ?_
    go_wp2_with (fail)
    refine bodyPost_ret (results_cell_tmp rfl _ _ (w.heap.size + 1) _ _ (0, 0) _ rfl s1_h.out Tryd.underlying48 rfl (by kernel_rfl)) rfl ?_
    exact ⟨_, rfl, fp3, by have := hO4_h.out; rw [hR_h.out, hX_h.out] at this; exact this, hf4_h.out, hB4_h.out⟩
  · have hb' : relB p s = false := by simpa using hb
    rw [hb'] at hG
    have hb2 := hcan false hb'
    rw [if_neg (by simp)] at hb2
    rw [hb2] at hC0
    subst hC0
    clear h ok hb hb' hb2 hcan hF hT
    have hG_h := Lib.hid hG
    have k0_h := Lib.hid k0
    have k1_h := Lib.hid k1
    have b0_h := Lib.hid b0
    clear hG k0 k1 b0
    go_enter Tryd.func35, Tryd.ntmps35
    go_upto_region 1 with (fail)
    rw [← hW]
    clear hW
    go_wp2_with (fail)
    refine (hG_h.out).mono ?_
    rintro e w1 ⟨rfl, hb1⟩
    clear c0 c1 c2 f0 f1 f2
    have k1' := box_below k1_h.out hb1
    have hB1 := below_trans b0_h.out hb1 b0_h.out.size
    have hw1 : w.heap.size + 1 < w1.heap.size := (Array.getElem?_eq_some_iff.1 k1').1
    obtain ⟨⟨d0, d1⟩, g0, g1⟩ := box2 k1'
    obtain ⟨s1, s2⟩ := set2 (a := .int .i64 0) (b := .slice none 0 0) k1'
    have hB3 := below_keeps hB1 s2 hB1.size (fun k hk => by omega)
    clear hB1 hb1 k1'
    have s1_h := Lib.hid s1
    have s2_h := Lib.hid s2
    have hB3_h := Lib.hid hB3
    clear s1 s2 hB3
    go_wp2_with (fail)
    refine bodyPost_ret (results_cell_tmp rfl _ _ (w.heap.size + 1) _ _ (0, 0) _ rfl s1_h.out Tryd.underlying48 rfl (by kernel_rfl)) rfl ?_
    exact ⟨_, [], rfl, OwMt.zero _ 0, FreshL.nil _, hB3_h.out⟩

theorem domM_ok {p : Int} {s : Sys} : OkR (domM p s).1.2 := by
  unfold domM
  split
  · rename_i h
    have hs := RelOk.of h
    have hm := firstM_mat hs
    have hl : (firstM s).length = s.2.2.length := by unfold firstM; rw [List.length_map]
    rw [← hl] at hm
    have hr := redM_spec hs.fld hm
    have := hs.len; have := hs.sum; have := hs.hi; have := hs.lo
    exact okR_mat hr.1.1 (by have := hr.2.2; omega) (by omega)
  · exact okR_nil
theorem ranM_ok {p : Int} {s : Sys} : OkR (ranM p s).1.2 := by
  unfold ranM
  split
  · rename_i h
    have hs := RelOk.of h
    have hm := secondM_mat hs
    have hl : (secondM s).length = s.2.2.length := by unfold secondM; rw [List.length_map]
    rw [← hl] at hm
    have hr := redM_spec hs.fld hm
    have := hs.len; have := hs.sum; have := hs.hi; have := hs.lo
    exact okR_mat hr.1.1 (by have := hr.2.2; omega) (by omega)
  · exact okR_nil
end Go.Proofs.YtpfidjegdpkhdaaDoor
