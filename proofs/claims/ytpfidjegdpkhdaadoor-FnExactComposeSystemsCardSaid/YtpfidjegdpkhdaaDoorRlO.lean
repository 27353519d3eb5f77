/-
  THE WALKS: OrthogonalRelation.
-/
import Derived.Test.YtpfidjegdpkhdaaDoorRlY
namespace Go.Proofs.YtpfidjegdpkhdaaDoor
open Go.RowKit

/-- A row whose elements from a to k are negated. -/
def negTo (p : Int) (a : Nat) (u : List Int) (k : Nat) : List Int := u.mapIdx fun j x => if a ≤ j ∧ j < k then -x % p else x
def negV (p : Int) (a : Nat) (u : List Int) : List Int := negTo p a u u.length
@[simp] theorem negTo_length (p : Int) (a : Nat) (u : List Int) (k : Nat) : (negTo p a u k).length = u.length := by simp [negTo]
theorem negTo_start (p : Int) (a : Nat) (u : List Int) : negTo p a u a = u := by
  unfold negTo
  apply List.ext_getElem?
  intro i
  rw [List.getElem?_mapIdx]
  cases u[i]? with
  | none => rfl
  | some x => simp; omega
theorem negTo_get {p : Int} {a k : Nat} {u : List Int} : (negTo p a u k)[k]? = u[k]? := by
  unfold negTo
  rw [List.getElem?_mapIdx]
  cases u[k]? with
  | none => rfl
  | some x => simp
theorem negTo_step {p : Int} {a k : Nat} {u : List Int} {x : Int} (h : u[k]? = some x) (ha : a ≤ k) : (negTo p a u k).set k (-x % p) = negTo p a u (k + 1) := by
  unfold negTo
  have hk := (List.getElem?_eq_some_iff.1 h).1
  apply List.ext_getElem?
  intro i
  rw [List.getElem?_set, List.getElem?_mapIdx, List.getElem?_mapIdx, List.length_mapIdx]
  by_cases e : k = i
  · subst e
    rw [h]; simp [hk, ha]
  · rw [if_neg e]
    cases u[i]? with
    | none => rfl
    | some y =>
      have : (a ≤ i ∧ i < k) ↔ (a ≤ i ∧ i < k + 1) := by omega
      simp only [Option.map_some, this]
theorem negTo_end {p : Int} {a : Nat} {u : List Int} : negTo p a u u.length = negV p a u := rfl
@[simp] theorem negV_length (p : Int) (a : Nat) (u : List Int) : (negV p a u).length = u.length := negTo_length _ _ _ _
theorem negV_res {p : Int} (hp : 0 < p) {a : Nat} {u : List Int} (h : Res p u) : Res p (negV p a u) := fun x hx => by
  unfold negV negTo at hx
  obtain ⟨i, hi, rfl⟩ := List.mem_mapIdx.1 hx
  split
  · exact ⟨Int.emod_nonneg _ (by omega), Int.emod_lt_of_pos _ hp⟩
  · exact h _ (List.getElem_mem hi)
def orthM (p : Int) (s : Sys) : Sys := (s.1, s.2.1, nullM p (s.1 + s.2.1).toNat (s.2.2.map (negV p s.1.toNat)))
def orM (p : Int) (s : Sys) : Sys × Bool := if relB p s then (orthM p s, true) else ((0, 0, []), false)
theorem neg_mat {p : Int} {s : Sys} (hs : RelOk p s) : Mat p (s.2.2.map (negV p s.1.toNat)).length (s.1 + s.2.1).toNat (s.2.2.map (negV p s.1.toNat)) := by
  have hpb := fieldB_bounds hs.fld
  rw [List.length_map]
  exact hs.mat.map (f := negV p s.1.toNat) fun v hv hr => ⟨(negV_length _ _ v).trans hv, negV_res (by omega) hr⟩
theorem orM_ok {p : Int} {s : Sys} : OkR (orM p s).1.2.2 := by
  unfold orM
  split
  · rename_i h
    have hs := RelOk.of h
    have hr := nullM_red hs.fld (s.1 + s.2.1).toNat (s.2.2.map (negV p s.1.toNat))
    have := red_len hr
    have := hs.sum; have := hs.hi; have := hs.lo
    exact okR_mat hr.1 (by omega) (by omega)
  · exact okR_nil

theorem alloc3 (w : World) (o o' o'' : Obj) : ∃ W, W = ((w.alloc o).alloc o').alloc o'' ∧ Below w.heap.size w W ∧ W.heap[w.heap.size]? = some o ∧ W.heap[w.heap.size + 1]? = some o' ∧ W.heap[w.heap.size + 1 + 1]? = some o'' := by
  obtain ⟨W, hW, b0, k0, k1⟩ := alloc2 w o o'
  refine ⟨_, rfl, ?_, ?_, ?_, ?_⟩
  · rw [← hW]; exact below_trans b0 (below_alloc _ _) b0.size
  · rw [← hW]; exact box_below k0 (below_alloc _ _)
  · rw [← hW]; exact box_below k1 (below_alloc _ _)
  · have := heap_alloc_new ((w.alloc o).alloc o') o''
    rwa [World.size_alloc, World.size_alloc] at this
theorem relSize_any (a b : Int) (V : Value) (_hV : V.oneCell' = true) (w : World) (ha : 0 ≤ a ∧ a ≤ 1000) (hb : 0 ≤ b ∧ b ≤ 1000) :
    Calls Tryd.prog 106 #[.agg #[.int .i64 a, .int .i64 b, V]] w fun e w' => e = .returned (.int .i64 (a + b)) ∧ Below w.heap.size w w' := by
  obtain ⟨W, hW, b0, k0⟩ := alloc_box w (.cells #[.int .i64 a, .int .i64 b, V] tRel)
  obtain ⟨⟨c0, c1, c2⟩, f0, f1, f2⟩ := box3 k0
  have hwr : IntKind.i64.wrap (a + b) = a + b := IntWalk.i64_in _ (by omega)
  have k0_h := Lib.hid k0
  have b0_h := Lib.hid b0
  clear k0 b0
  go_enter Tryd.func106, Tryd.ntmps106
  go_upto_region 1 with (fail)
  rw [← hW]
  clear hW
  go_wp2_with (fail)
  go_ret
  exact ⟨rfl, b0_h.out⟩

set_option maxRecDepth 8000 in
set_option maxHeartbeats 2000000 in
theorem orth1_any (p : Int) (g gp na nb : Nat) (V : Value) (B : Option Addr) (d n : Nat) (u : List Int) (w : World) (h : Sl w 3 1 B n d (ints u)) (hn : n = na + nb) (hn2 : n ≤ 1000) (hr : Res p u) (hp : 0 < p) (hp97 : p ≤ 97) (hg : w.heap[g]? = some (.cells #[.int .i64 na, .int .i64 nb, V] tRel)) (hgp : w.heap[gp]? = some (.cells #[.int .i64 p] 3)) :
    Calls Tryd.prog 110 #[.slice B n d, .pointer (some ⟨g, 0, none⟩), .pointer (some ⟨gp, 0, none⟩)] w (RetI w (negV p na u)) := by
  have hul : u.length = n := by have := h.1; rw [ints_length] at this; omega
  have hrd : RdI w B u := fun j x hj => by
    obtain ⟨ad, hA, _, hc, _⟩ := h.cell (ints_get hj)
    exact ⟨ad, hA, hc⟩
  have hC := clone_any B d u w hrd (by omega)
  rw [hul] at hC
  clear hrd
  have hn_h := Lib.hid hn
  have hg_h := Lib.hid hg
  have hgp_h := Lib.hid hgp
  have h_h := Lib.hid h
  have hul_h := Lib.hid hul
  have hC_h := Lib.hid hC
  have hr_h := Lib.hid hr
  clear hn hg hgp h hul hC hr
  go_enter Tryd.func110, Tryd.ntmps110
  go_wp2_with (fail)
  refine (hC_h.out).mono ?_
  rintro e w1 ⟨A1, c1, rfl, hi1, hf1, hb1⟩
  rw [hul_h.out]
  obtain ⟨⟨y0, y1, y2⟩, y3, y4, y5⟩ := box3 (box_below hg_h.out hb1)
  have hi1_h := Lib.hid hi1
  have hf1_h := Lib.hid hf1
  have hb1_h := Lib.hid hb1
  clear hi1 hf1 hb1
  go_wp2_with (fail)
  clear y0 y1 y2 y3 y4 y5
  have hna : na ≤ n := by have := hn_h.out; omega
  have hbd0 : ∀ wr : World, Below wr.heap.size wr wr.drew := fun wr => below_drewN (Below.refl _ _) 1
  go_loopw [6] (fun i wr => ∃ k : Nat, na ≤ k ∧ k ≤ n ∧ i = .int .i64 k ∧ IS wr A1 c1 (negTo p na u k) ∧ Below w.heap.size w wr) (fun i _ => n - (intOf i).toNat)
  case atStart => exact ⟨na, Nat.le_refl _, hna, rfl, by rw [negTo_start]; exact hi1_h.out, hb1_h.out⟩
  case round =>
    obtain ⟨k, hk1, hk, rfl, his, hbr⟩ := hrel
    by_cases hlt : k < n
    · obtain ⟨x, hx⟩ : ∃ x, u[k]? = some x := ⟨_, List.getElem?_eq_getElem (by rw [hul_h.out]; exact hlt)⟩
      have hxr := hr_h.out x (List.mem_of_getElem? hx)
      have hkl : k < (negTo p na u k).length := by rw [negTo_length, hul_h.out]; exact hlt
      obtain ⟨ad, y, hA, hy, hblt, hc, hf⟩ := his.at_ hkl
      rw [negTo_get, hx] at hy
      obtain rfl := Option.some.inj hy
      have hset := his.set hA (-x % p) hkl
      rw [negTo_step hx hk1] at hset
      have hbs := hbr.setCell (p := ad.add k) (by rw [block_of_add]; exact hf1_h.out _ (by rw [hA]; simp)) (.int .i64 (-x % p))
      subst hA
      have hkI : (k : Int) < (n : Int) := by omega
      have g1 : wr.drew.cell? ⟨gp, 0, none⟩ = some (.int .i64 p) := by have := box_below hgp_h.out hbr; show wr.cell? _ = _; simp [World.cell?, this]
      have hcd : wr.drew.cell? (ad.add k) = some (.int .i64 x) := hc
      have hfz := hf k
      have hwn : IntKind.i64.wrap (-x) = -x := IntWalk.i64_in _ (by omega)
      have C1 := stillC2 (mod_any p (-x) wr.drew hp hp97 (by omega) (by omega))
      have hset' : IS (wr.drew.setCell (ad.add k) (.int .i64 (-x % p))) (some ad) c1 (negTo p na u (k + 1)) := hset
      have hbs' : Below w.heap.size w (wr.drew.setCell (ad.add k) (.int .i64 (-x % p))) := below_trans hbr (hbd0 wr) hbr.size |>.setCell (by rw [block_of_add]; exact hf1_h.out _ (by simp)) _
      clear hset hbs hf hx his hkl hc hbr
      have C1_h := Lib.hid C1
      have hset'_h := Lib.hid hset'
      have hbs'_h := Lib.hid hbs'
      clear C1 hset' hbs'
      go_wp2_with (fail)
      refine wp_region_still_tail 10 (by kernel_rfl) (by kernel_rfl) ?_
      simp only [List.take_succ_cons, List.take_zero, List.drop_succ_cons, List.drop_zero]
      change wpStill _ _ wr.drew (fun a' => wpList _ _ _ _ a' wr.drew) _ _
      repeat still_step
      still_call C1_h.out
      repeat still_step
      refine wpStill_nil ?_
      go_wp2_with (fail)
      go_roundw
      case rel => exact ⟨k + 1, by omega, by omega, by go_num, hset'_h.out, hbs'_h.out⟩
      case measure => simp [intOf]; omega
    · obtain rfl : k = n := by omega
      have his2 : IS wr A1 c1 (negV p na u) := by unfold negV; rw [hul_h.out]; exact his
      clear his
      have his2_h := Lib.hid his2
      have hbr_h := Lib.hid hbr
      clear his2 hbr
      go_wp2_with (fail)
      go_ret
      exact ⟨A1, c1, by rw [negV_length, hul_h.out]; rfl, his2_h.out, hf1_h.out, hbr_h.out⟩

set_option maxRecDepth 100000 in
set_option maxHeartbeats 4000000 in
theorem sOrthogonalRelation_law (p : Int) {v : Value} {s : Sys} {fp : List Nat} {w : World} (h : OwSys w v s fp) (ok : OkR s.2.2) :
    Calls Tryd.prog 57 #[.int .i64 p, v] w fun e w' => ∃ v' fp', e = .returned (.tuple #[v', .bool (orM p s).2]) ∧ OwSys w' v' (orM p s).1 fp' ∧ FreshL w.heap.size fp' ∧ Below w.heap.size w w' := by
  obtain ⟨C, hC0⟩ : ∃ C, C = orM p s := ⟨_, rfl⟩
  rw [← hC0]
  unfold orM at hC0
  by_cases hb : relB p s = true
  · have hs := RelOk.of hb
    have hmat0 := neg_mat hs
    rw [hb, if_pos rfl] at hC0
    have hG0 := fun W (hb' : Below w.heap.size w W) => rlGood_any p W (h.rd.below hb') ok.1 ok.2.1
    simp only [hb] at hG0
    clear ok hb
    obtain ⟨A, c, gs, rfl, hL, hO, rfl⟩ := h
    obtain ⟨a, b, L⟩ := s
    have h0 : 0 ≤ a := hs.lo
    have h1 : 0 ≤ b := hs.hi
    have h2 : a + b ≤ 24 := hs.sum
    have hfld : fieldB p = true := hs.fld
    have hrow : ∀ u, u ∈ L → (u.length : Int) = a + b ∧ Res p u := fun u hu => hs.row hu
    have hlen : (L.length : Int) ≤ a + b := hs.len
    clear hs
    obtain ⟨na, rfl⟩ : ∃ na : Nat, a = (na : Int) := ⟨a.toNat, by omega⟩
    obtain ⟨nb, rfl⟩ : ∃ nb : Nat, b = (nb : Int) := ⟨b.toNat, by omega⟩
    have hL' : L = gs.map (fun h : Hd => h.2.2) := hL
    clear hL
    obtain ⟨m, hm⟩ : ∃ m, m = gs.length := ⟨_, rfl⟩
    have hLm : L.length = m := by rw [hL', List.length_map, hm]
    have hm24 : (m : Int) ≤ 24 := by have := hlen; rw [hLm] at this; omega
    obtain ⟨n, hn⟩ : ∃ n, n = na + nb := ⟨_, rfl⟩
    obtain ⟨X, hX⟩ : ∃ X, X = L.map (negV p na) := ⟨_, rfl⟩
    have hmat : Mat p X.length n X := by rw [hX, hn]; exact hmat0
    obtain ⟨R, hR⟩ : ∃ R, R = nullM p n X := ⟨_, rfl⟩
    have hC1 : C = (((na : Int), (nb : Int), R), true) := by rw [hR, hX, hn]; exact hC0
    subst hC1
    have hXl : X.length = m := by rw [hX, List.length_map, hLm]
    have hn24 : n ≤ 24 := by omega
    have hna : na ≤ n := by omega
    clear hC0 hmat0
    obtain ⟨W, hW, b0, k0, k1⟩ := alloc2 w (.cells #[.int .i64 (na : Int), .int .i64 (nb : Int), .slice A m c] tRel) (.cells #[.int .i64 0, .int .i64 0, .slice none 0 0] tRel)
    have hG := hG0 W b0
    simp only [← hm] at hG ⊢
    have hO0 := hO.below b0
    obtain ⟨⟨c0, c1, c2⟩, f0, f1, f2⟩ := box3 k0
    clear hO hG0
    have hL'_h := Lib.hid hL'
    have hm_h := Lib.hid hm
    have hLm_h := Lib.hid hLm
    have b0_h := Lib.hid b0
    have k0_h := Lib.hid k0
    have k1_h := Lib.hid k1
    have hO0_h := Lib.hid hO0
    have hrow_h := Lib.hid hrow
    have hlen_h := Lib.hid hlen
    have hfld_h := Lib.hid hfld
    have hmat_h := Lib.hid hmat
    have hX_h := Lib.hid hX
    have hR_h := Lib.hid hR
    have hn_h := Lib.hid hn
    have hG_h := Lib.hid hG
    have hXl_h := Lib.hid hXl
    clear hL' hm hLm b0 k0 k1 hO0 hrow hlen hfld hmat hX hR hn hG hXl
    go_enter Tryd.func57, Tryd.ntmps57
    go_upto_region 1 with (fail)
    rw [← hW]
    clear hW
    go_wp2_with (fail)
    refine (hG_h.out).mono ?_
    rintro e w1 ⟨rfl, hb1⟩
    clear c0 c1 c2 f0 f1 f2
    replace k0_h := Lib.hid (box_below k0_h.out hb1)
    replace k1_h := Lib.hid (box_below k1_h.out hb1)
    have hO1 := hO0_h.out.below hb1
    have hB1 := below_trans b0_h.out hb1 b0_h.out.size
    have hN0 := RdO.nil w1 w1 (Below.refl _ _)
    have hz1 := box_lt k1_h.out
    have hpb := fieldB_bounds hfld_h.out
    obtain ⟨⟨c0, c1, c2⟩, f0, f1, f2⟩ := box3 k0_h.out
    have hO1_h := Lib.hid hO1
    have hB1_h := Lib.hid hB1
    have hb1_h := Lib.hid hb1
    have hN0_h := Lib.hid hN0
    clear hO1 hB1 hb1 hN0
    go_wp2_with (fail)
    clear c0 c1 c2 f0 f1 f2
    go_loopw [19, 6] (fun i v wr => ∃ (k : Nat) (A' : Option Addr) (c' : Nat) (ys : List Hd), k ≤ m ∧ i = .int .i64 k ∧ v = .slice A' k c' ∧ ys.length = k ∧ ys.map (fun h : Hd => h.2.2) = (L.take k).map (negV p na) ∧ RdO w1 wr A' c' ys) (fun i _ _ => m - (intOf i).toNat)
    case atStart => exact ⟨0, none, 0, [], Nat.zero_le _, rfl, rfl, rfl, rfl, hN0_h.out⟩
    case round =>
      clear hN0_h
      obtain ⟨k, A', c', ys, hk, rfl, rfl, hyl, hym, hO⟩ := hrel
      have k0r := box_below k0_h.out hO.below_
      by_cases hlt : k < m
      · have hOr := hO1_h.out.below hO.below_
        obtain ⟨ad, B, d, u, rfl, hx, hc, hrd⟩ := hOr.rd.at_ (k := k) (by rw [← hm_h.out]; exact hlt)
        have hyL : L[k]? = some u := by rw [hL'_h.out, List.getElem?_map, hx]; rfl
        have hul : u.length = n := by have := (hrow_h.out _ (List.mem_of_getElem? hyL)).1; have := hn_h.out; omega
        have hres := (hrow_h.out _ (List.mem_of_getElem? hyL)).2
        rw [hul] at hc
        have hC := l1Own_any B d u wr hrd (by omega)
        rw [hul] at hC
        have hkI : (k : Int) < (m : Int) := by omega
        have hbd0 : ∀ wr : World, Below wr.heap.size wr wr.drew := fun wr => below_drewN (Below.refl _ _) 1
        clear hOr hx hrd
        have hyL_h := Lib.hid hyL
        have hul_h := Lib.hid hul
        have hyl_h := Lib.hid hyl
        have hym_h := Lib.hid hym
        have hO_h := Lib.hid hO
        have hres_h := Lib.hid hres
        have hC_h := Lib.hid hC
        have k0r_h := Lib.hid k0r
        have hbd0_h := Lib.hid hbd0
        clear hyL hul hyl hym hO hres hC k0r hbd0
        go_wp2_with (fail)
        refine (hC_h.out).mono ?_
        rintro e w2 ⟨B2, c2, rfl, hi2, hf2, hb2⟩
        rw [hul_h.out]
        clear hc
        replace k0r_h := Lib.hid (box_below k0r_h.out hb2)
        obtain ⟨⟨c0, c1, c2'⟩, f0, f1, f2⟩ := box3 k0r_h.out
        have hi2_h := Lib.hid hi2
        have hf2_h := Lib.hid hf2
        have hb2_h := Lib.hid hb2
        clear hi2 hf2 hb2
        go_wp2_with (fail)
        clear c0 c1 c2' f0 f1 f2
        obtain ⟨wo, rfl⟩ : ∃ x, x = wr := ⟨_, rfl⟩
        go_loopw [10] (fun i wr => ∃ j : Nat, na ≤ j ∧ j ≤ n ∧ i = .int .i64 j ∧ IS wr B2 c2 (negTo p na u j) ∧ Below wo.heap.size wo wr) (fun i _ => n - (intOf i).toNat)
        case atStart => exact ⟨na, Nat.le_refl _, hna, rfl, by rw [negTo_start]; exact hi2_h.out, hb2_h.out⟩
        case round =>
          clear hi2_h hb2_h
          obtain ⟨j, hj1, hj, rfl, his, hbr⟩ := hrel
          by_cases hlt2 : j < n
          · obtain ⟨x, hx⟩ : ∃ x, u[j]? = some x := ⟨_, List.getElem?_eq_getElem (by rw [hul_h.out]; exact hlt2)⟩
            have hxr := hres_h.out x (List.mem_of_getElem? hx)
            have hkl : j < (negTo p na u j).length := by rw [negTo_length, hul_h.out]; exact hlt2
            obtain ⟨bd, y, hA, hy, hblt, hc, hf⟩ := his.at_ hkl
            rw [negTo_get, hx] at hy
            obtain rfl := Option.some.inj hy
            have hset := his.set hA (-x % p) hkl
            rw [negTo_step hx hj1] at hset
            have hbs := hbr.setCell (p := bd.add j) (by rw [block_of_add]; exact hf2_h.out _ (by rw [hA]; simp)) (.int .i64 (-x % p))
            subst hA
            have hfz := hf j
            have hC1 := fdNeg_any p x wr (by omega) (by omega) hxr.1 hxr.2
            have hjI : (j : Int) < (n : Int) := by omega
            clear his hx hkl hf hbr
            have hset_h := Lib.hid hset
            have hbs_h := Lib.hid hbs
            have hC1_h := Lib.hid hC1
            clear hset hbs hC1
            go_wp2_with (fail)
            refine (hC1_h.out).mono ?_
            rintro e w3 ⟨rfl, rfl⟩
            go_wp2_with (fail)
            go_roundw
            case rel => exact ⟨j + 1, by omega, by omega, by go_num, hset_h.out, hbs_h.out⟩
            case measure => simp [intOf]; omega
          · obtain rfl : j = n := by omega
            have hi3 : IS wr B2 c2 (negV p na u) := by unfold negV; rw [hul_h.out]; exact his
            have hsl : Sl (wr.alloc (.cells #[.slice B2 j c2] 37)) 37 1 A' k c' (ys.map Hd.val) := by
              have := (hO_h.out.sl.below hbr).alloc (.cells #[.slice B2 j c2] 37)
              rwa [hyl_h.out] at this
            clear his
            have hi3_h := Lib.hid hi3
            have hsl_h := Lib.hid hsl
            have hbr_h := Lib.hid hbr
            clear hi3 hsl hbr
            go_wp2_with (at_builtin; refine wpList_append_Sl _ rfl _ _ _ rfl 37 Tryd.underlying22 info_ints rfl (by omega) rfl (hsl_h.out) rfl (news := [.slice B2 j c2]) rfl (Sl.rdc (Sl.laid wr 37 1 1 #[.slice B2 j c2] (by unfold maxLen; omega) rfl)) (by intro u hu; simp at hu; subst hu; rfl) (by unfold maxLen; omega) (by omega) ?_; intro A3 c3 w3 hsA3 hA3 hkA3)
            have hal : Below wr.heap.size wr (wr.alloc (.cells #[.slice B2 j c2] 37)) := below_alloc _ _
            have hO2 := hO_h.out.snoc (w1 := wr.alloc (.cells #[.slice B2 j c2] 37)) (below_trans hbr_h.out hal hbr_h.out.size) (x := (B2, c2, negV p na u)) (hi3_h.out.below hal) (fun b hb hb' => by
              have h1 := hO_h.out.sl.lt b hb'
              have h2 := hf2_h.out b hb
              omega) (by rw [hyl_h.out]) (by show Sl w3 _ 1 A3 (k + 1) c3 (ys.map Hd.val ++ [.slice B2 (negV p na u).length c2]); rw [negV_length, hul_h.out]; exact hsA3) hA3 hkA3
            clear hsA3 hA3 hkA3
            have hO2_h := Lib.hid hO2
            clear hO2
            go_roundw
            case rel => exact ⟨k + 1, A3, c3, ys ++ [(B2, c2, negV p na u)], by omega, by go_num, rfl, by rw [List.length_append, hyl_h.out]; rfl, by rw [List.map_append, hym_h.out, List.take_add_one, hyL_h.out]; simp, hO2_h.out⟩
            case measure => simp [intOf]; omega
      · obtain rfl : m = k := by omega
        have hym2 : ys.map (fun h : Hd => h.2.2) = X := by rw [hym, List.take_of_length_le (by rw [hLm_h.out]; exact Nat.le_refl _), hX_h.out]
        have hbd : Below wr.heap.size wr wr.drew := below_drewN (Below.refl _ _) 1
        have hC := spNull_any p n A' c' ys wr.drew (hO.below hbd).rdr hfld_h.out (by rw [hym2]; have := hmat_h.out; rwa [show X.length = ys.length by rw [← hym2, List.length_map]] at this) (by omega) (by omega)
        have hnI : ((n : Nat) : Int) = (na : Int) + (nb : Int) := by have := hn_h.out; omega
        rw [hym2, ← hR_h.out, hyl, hnI] at hC
        have hwr : IntKind.i64.wrap ((na : Int) + (nb : Int)) = (na : Int) + (nb : Int) := IntWalk.i64_in _ (by omega)
        have k1r := box_below k1_h.out hO.below_
        have hBr := below_trans hB1_h.out hO.below_ hB1_h.out.size
        have hzr := hO.below_.size
        clear hym hym2 hyl hO hnI
        have hC_h := Lib.hid hC
        have k1r_h := Lib.hid k1r
        have hBr_h := Lib.hid hBr
        have k0r_h := Lib.hid k0r
        clear hC k1r hBr k0r
        go_wp2_with (fail)
        refine beginH (fun w' => w'.heap[w.heap.size]? = some (.cells #[.int .i64 (na : Int), .int .i64 (nb : Int), .slice A m c] tRel)) (by kernel_rfl) ?_
        generalize wr.drew = W1 at hbd hC_h ⊢
        replace k0r_h := Lib.hid (box_below k0r_h.out hbd)
        replace k1r_h := Lib.hid (box_below k1r_h.out hbd)
        have hB2 := below_trans hBr_h.out hbd hBr_h.out.size
        have hzd := hbd.size
        clear hbd
        have hB2_h := Lib.hid hB2
        clear hB2
        refine takeH 0 (v := ?_) rfl (by kernel_rfl) (by kernel_rfl) (by kernel_rfl) (fun _ _ _ h => h) k0r_h.out (by rfl) (fun W' hW' => ?_) ?_; rotate_left; · (obtain ⟨⟨y0, y1, y2⟩, y3, y4, y5⟩ := box3 hW'; clear hW'; go_simp; first | done | with_reducible rfl)
        simp only [Act.put, List.setIfInBounds_toArray, List.set_cons_zero, List.set_cons_succ]
        refine takeH 1 (v := ?_) rfl (by kernel_rfl) (by kernel_rfl) (by kernel_rfl) (fun _ _ _ h => h) k0r_h.out (by rfl) (fun W' hW' => ?_) ?_; rotate_left; · (obtain ⟨⟨y0, y1, y2⟩, y3, y4, y5⟩ := box3 hW'; clear hW'; go_simp; first | done | with_reducible rfl)
        simp only [Act.put, List.setIfInBounds_toArray, List.set_cons_zero, List.set_cons_succ]
        refine takeH 2 (v := ?_) rfl (by kernel_rfl) (by kernel_rfl) (by kernel_rfl) (fun _ _ _ h => h) k0r_h.out (by rfl) (fun W' hW' => ?_) ?_; rotate_left; · (obtain ⟨⟨y0, y1, y2⟩, y3, y4, y5⟩ := box3 hW'; clear hW'; go_simp; first | done | with_reducible rfl)
        simp only [Act.put, List.setIfInBounds_toArray, List.set_cons_zero, List.set_cons_succ]
        refine takeH 3 (v := ?_) rfl (by kernel_rfl) (by kernel_rfl) (by kernel_rfl) (fun _ _ _ h => h) k0r_h.out (by rfl) (fun W' hW' => ?_) ?_; rotate_left; · (obtain ⟨⟨y0, y1, y2⟩, y3, y4, y5⟩ := box3 hW'; clear hW'; go_simp; first | done | with_reducible rfl)
        simp only [Act.put, List.setIfInBounds_toArray, List.set_cons_zero, List.set_cons_succ]
        refine takeH 4 (v := ?_) rfl (by kernel_rfl) (by kernel_rfl) (by kernel_rfl) (fun _ _ _ h => h) k0r_h.out (by rfl) (fun W' hW' => ?_) ?_; rotate_left; · (obtain ⟨⟨y0, y1, y2⟩, y3, y4, y5⟩ := box3 hW'; clear hW'; go_simp; first | done | with_reducible rfl)
        simp only [Act.put, List.setIfInBounds_toArray, List.set_cons_zero, List.set_cons_succ]
        refine takeH 5 (v := ?_) rfl (by kernel_rfl) (by kernel_rfl) (by kernel_rfl) (fun _ _ _ h => h) k0r_h.out (by rfl) (fun W' hW' => ?_) ?_; rotate_left; · (obtain ⟨⟨y0, y1, y2⟩, y3, y4, y5⟩ := box3 hW'; clear hW'; go_simp; first | done | with_reducible rfl)
        simp only [Act.put, List.setIfInBounds_toArray, List.set_cons_zero, List.set_cons_succ]
        refine takeH 6 (v := ?_) rfl (by kernel_rfl) (by kernel_rfl) (by kernel_rfl) (fun _ _ _ h => h) k0r_h.out (by rfl) (fun W' hW' => ?_) ?_; rotate_left; · (obtain ⟨⟨y0, y1, y2⟩, y3, y4, y5⟩ := box3 hW'; clear hW'; go_simp; first | done | with_reducible rfl)
        simp only [Act.put, List.setIfInBounds_toArray, List.set_cons_zero, List.set_cons_succ]
        refine takeH 7 (v := ?_) rfl (by kernel_rfl) (by kernel_rfl) (by kernel_rfl) (fun _ _ _ h => h) k0r_h.out (by rfl) (fun W' hW' => ?_) ?_; rotate_left; · (obtain ⟨⟨y0, y1, y2⟩, y3, y4, y5⟩ := box3 hW'; clear hW'; go_simp; first | done | with_reducible rfl)
        simp only [Act.put, List.setIfInBounds_toArray, List.set_cons_zero, List.set_cons_succ]
        refine takeH 8 (v := ?_) rfl (by kernel_rfl) (by kernel_rfl) (by kernel_rfl) (fun _ _ _ h => h) k0r_h.out (by rfl) (fun W' hW' => ?_) ?_; rotate_left; · (obtain ⟨⟨y0, y1, y2⟩, y3, y4, y5⟩ := box3 hW'; clear hW'; go_simp; first | done | with_reducible rfl)
        simp only [Act.put, List.setIfInBounds_toArray, List.set_cons_zero, List.set_cons_succ]
        refine takeH 9 (v := ?_) rfl (by kernel_rfl) (by kernel_rfl) (by kernel_rfl) (fun _ _ _ h => h) k0r_h.out (by rfl) (fun W' hW' => ?_) ?_; rotate_left; · (obtain ⟨⟨y0, y1, y2⟩, y3, y4, y5⟩ := box3 hW'; clear hW'; go_simp; first | done | with_reducible rfl)
        simp only [Act.put, List.setIfInBounds_toArray, List.set_cons_zero, List.set_cons_succ]
        refine takeH 10 (v := ?_) rfl (by kernel_rfl) (by kernel_rfl) (by kernel_rfl) (fun _ _ _ h => h) k0r_h.out (by rfl) (fun W' hW' => ?_) ?_; rotate_left; · (obtain ⟨⟨y0, y1, y2⟩, y3, y4, y5⟩ := box3 hW'; clear hW'; go_simp; first | done | with_reducible rfl)
        simp only [Act.put, List.setIfInBounds_toArray, List.set_cons_zero, List.set_cons_succ]
        refine' callH 11 (f := _) (args := _) rfl (by kernel_rfl) (by rfl) ?_ ?_; rotate_left 2; · (go_simp; first | done | with_reducible rfl | (constructor <;> with_reducible rfl))
        refine (hC_h.out).mono ?_
        rintro e w2 hret
        obtain ⟨A1, c1, rfl, hO3⟩ := hret.om
        replace k0r_h := Lib.hid (box_below k0r_h.out hO3.below_)
        replace k1r_h := Lib.hid (box_below k1r_h.out hO3.below_)
        refine ⟨_, rfl, k0r_h.out, ?_⟩
        simp only [Act.put, List.setIfInBounds_toArray, List.set_cons_zero, List.set_cons_succ]
        have hB3 := below_trans hB2_h.out hO3.below_ hB2_h.out.size
        obtain ⟨⟨d0, d1, d2⟩, g0, g1, g2⟩ := box3 k1r_h.out
        obtain ⟨s1, s2⟩ := set3 (a := .int .i64 (na : Int)) (b := .int .i64 (nb : Int)) (c := .slice A1 R.length c1) k1r_h.out
        have k0s := box_keeps k0r_h.out s2 (by omega)
        obtain ⟨fp3, h1', h2'⟩ := OwSys.of_ret (a := (na : Int)) (b := (nb : Int)) hO3 s2 (fun k hk => by omega) rfl
        have hB4 := below_keeps hB3 s2 hB3.size (fun k hk => by omega)
        have hf4 := h2'.mono hB2_h.out.size
        clear hret hO3 hB3 s2 h2'
        have s1_h := Lib.hid s1
        have k0s_h := Lib.hid k0s
        have h1'_h := Lib.hid h1'
        have hB4_h := Lib.hid hB4
        have hf4_h := Lib.hid hf4
        clear s1 k0s h1' hB4 hf4
        refine takeH 12 (v := ?_) rfl (by kernel_rfl) (by kernel_rfl) (by kernel_rfl) (fun _ _ _ h => h) k0r_h.out (by rfl) (fun W' hW' => ?_) ?_; rotate_left; · (skip; clear hW'; go_simp; first | done | with_reducible rfl)
        simp only [Act.put, List.setIfInBounds_toArray, List.set_cons_zero, List.set_cons_succ]
        refine oneH 13 rfl (by kernel_rfl) (by rfl) (fun K hK => ?_)
        go_simp
        refine hK _ _ k0s_h.out ?_
        clear hK K
        refine takeH 14 (v := ?_) rfl (by kernel_rfl) (by kernel_rfl) (by kernel_rfl) (fun _ _ _ h => h) k0s_h.out (by rfl) (fun W' hW' => ?_) ?_; rotate_left; · (skip; clear hW'; go_simp; first | done | with_reducible rfl)
        simp only [Act.put, List.setIfInBounds_toArray, List.set_cons_zero, List.set_cons_succ]
        refine doneH (by kernel_rfl) ?_
        go_wp2_with (fail)
        refine bodyPost_ret (results_cell_tmp rfl _ _ (w.heap.size + 1) _ _ (0, 0) _ rfl s1_h.out Tryd.underlying51 rfl (by kernel_rfl)) rfl ?_
        exact ⟨_, fp3, rfl, h1'_h.out, hf4_h.out, hB4_h.out⟩
  · have hb' : relB p s = false := by simpa using hb
    rw [hb', if_neg (by simp)] at hC0
    subst hC0
    obtain ⟨A, n, c, rfl⟩ := h.shape
    obtain ⟨W, hW, b0, k0, k1⟩ := alloc2 w (.cells #[.int .i64 s.1, .int .i64 s.2.1, .slice A n c] tRel) (.cells #[.int .i64 0, .int .i64 0, .slice none 0 0] tRel)
    have hG := rlGood_any p W (h.rd.below b0) ok.1 ok.2.1
    rw [hb'] at hG
    obtain ⟨⟨c0, c1, c2⟩, f0, f1, f2⟩ := box3 k0
    clear h ok hb hb'
    have hG_h := Lib.hid hG
    have k0_h := Lib.hid k0
    have k1_h := Lib.hid k1
    have b0_h := Lib.hid b0
    clear hG k0 k1 b0
    go_enter Tryd.func57, Tryd.ntmps57
    go_upto_region 1 with (fail)
    rw [← hW]
    clear hW
    go_wp2_with (fail)
    refine (hG_h.out).mono ?_
    rintro e w1 ⟨rfl, hb1⟩
    clear c0 c1 c2 f0 f1 f2
    replace k0_h := Lib.hid (box_below k0_h.out hb1)
    replace k1_h := Lib.hid (box_below k1_h.out hb1)
    have hB1 := below_trans b0_h.out hb1 b0_h.out.size
    have hB1_h := Lib.hid hB1
    have hb1_h := Lib.hid hb1
    clear hB1 hb1
    have hzr := box_lt k1_h.out
    obtain ⟨⟨d0, d1, d2⟩, g0, g1, g2⟩ := box3 k1_h.out
    obtain ⟨s1, s2⟩ := set3 (a := .int .i64 0) (b := .int .i64 0) (c := .slice none 0 0) k1_h.out
    have hB3 := below_keeps hB1_h.out s2 (hB1_h.out).size (fun k hk => by omega)
    have s1_h := Lib.hid s1
    have s2_h := Lib.hid s2
    have hB3_h := Lib.hid hB3
    clear s1 s2 hB3
    go_wp2_with (fail)
    refine bodyPost_ret (results_cell_tmp rfl _ _ (w.heap.size + 1) _ _ (0, 0) _ rfl s1_h.out Tryd.underlying51 rfl (by kernel_rfl)) rfl ?_
    exact ⟨_, [], rfl, OwSys.zero _ 0 0, FreshL.nil _, hB3_h.out⟩
set_option maxRecDepth 100000 in
set_option maxHeartbeats 4000000 in
theorem iOrthogonalRelation_law (p : Int) {v : Value} {s : Sys} {fp : List Nat} {w : World} (h : OwSys w v s fp) (ok : OkR s.2.2) (hT : Tab w) :
    Calls Tryd.prog 58 #[.int .i64 p, v] w fun e w' => ∃ v' fp', e = .returned (.tuple #[v', .bool (orM p s).2]) ∧ OwSys w' v' (orM p s).1 fp' ∧ FreshL w.heap.size fp' ∧ Below w.heap.size w w' := by
  obtain ⟨C, hC0⟩ : ∃ C, C = orM p s := ⟨_, rfl⟩
  rw [← hC0]
  unfold orM at hC0
  by_cases hb : relB p s = true
  · have hs := RelOk.of hb
    have hmat0 := neg_mat hs
    rw [hb, if_pos rfl] at hC0
    have hG0 := fun W (hb' : Below w.heap.size w W) => isRelation_any p W (h.rd.below hb') (hT.below hb' hT.lt) ok.1 ok.2.1
    simp only [hb] at hG0
    clear ok hb hT
    obtain ⟨A, c, gs, rfl, hL, hO, rfl⟩ := h
    obtain ⟨a, b, L⟩ := s
    have h0 : 0 ≤ a := hs.lo
    have h1 : 0 ≤ b := hs.hi
    have h2 : a + b ≤ 24 := hs.sum
    have hfld : fieldB p = true := hs.fld
    have hrow : ∀ u, u ∈ L → (u.length : Int) = a + b ∧ Res p u := fun u hu => hs.row hu
    have hlen : (L.length : Int) ≤ a + b := hs.len
    clear hs
    obtain ⟨na, rfl⟩ : ∃ na : Nat, a = (na : Int) := ⟨a.toNat, by omega⟩
    obtain ⟨nb, rfl⟩ : ∃ nb : Nat, b = (nb : Int) := ⟨b.toNat, by omega⟩
    have hL' : L = gs.map (fun h : Hd => h.2.2) := hL
    clear hL
    obtain ⟨m, hm⟩ : ∃ m, m = gs.length := ⟨_, rfl⟩
    have hLm : L.length = m := by rw [hL', List.length_map, hm]
    have hm24 : (m : Int) ≤ 24 := by have := hlen; rw [hLm] at this; omega
    obtain ⟨n, hn⟩ : ∃ n, n = na + nb := ⟨_, rfl⟩
    obtain ⟨X, hX⟩ : ∃ X, X = L.map (negV p na) := ⟨_, rfl⟩
    have hmat : Mat p X.length n X := by rw [hX, hn]; exact hmat0
    obtain ⟨R, hR⟩ : ∃ R, R = nullM p n X := ⟨_, rfl⟩
    have hC1 : C = (((na : Int), (nb : Int), R), true) := by rw [hR, hX, hn]; exact hC0
    subst hC1
    have hXl : X.length = m := by rw [hX, List.length_map, hLm]
    have hn24 : n ≤ 24 := by omega
    have hna : na ≤ n := by omega
    clear hC0 hmat0
    obtain ⟨W, hW, b0, k0, k1, k2⟩ := alloc3 w (.cells #[.int .i64 p] 3) (.cells #[.int .i64 (na : Int), .int .i64 (nb : Int), .slice A m c] tRel) (.cells #[.int .i64 0, .int .i64 0, .slice none 0 0] tRel)
    have hG := hG0 W b0
    simp only [← hm] at hG ⊢
    have hO0 := hO.below b0
    have hpb := fieldB_bounds hfld
    have hgr : ∀ x, x ∈ gs → x.2.2.length = na + nb ∧ Res p x.2.2 := fun x hx => by have := hrow x.2.2 (by rw [hL']; exact List.mem_map_of_mem hx); exact ⟨by omega, this.2⟩
    have hEa := fun (W' : World) (hb : Below W.heap.size W W') (hgp : W'.heap[w.heap.size]? = some (.cells #[.int .i64 p] 3)) (hg : W'.heap[w.heap.size + 1]? = some (.cells #[.int .i64 (na : Int), .int .i64 (nb : Int), .slice A m c] tRel)) => each_any 110 #[] #[.pointer (some ⟨w.heap.size + 1, 0, none⟩), .pointer (some ⟨w.heap.size, 0, none⟩)] (negV p na) (na : Int) (nb : Int) A c gs W' (hO0.below hb).rd (hO0.below hb).rows (by omega) (fun _ _ => rfl) (fun x hx W2 hb2 => by
      have hI : Sl W2 3 1 x.1 x.2.2.length x.2.1 (ints x.2.2) := ((hO0.below hb).rows x hx).below hb2
      have hl := hgr x hx
      have := orth1_any p (w.heap.size + 1) w.heap.size na nb (.slice A m c) x.1 x.2.1 x.2.2.length x.2.2 W2 hI hl.1 (by omega) hl.2 (by omega) (by omega) (box_below hg hb2) (box_below hgp hb2)
      refine this.mono ?_
      rintro e w4 ⟨A4, c4, rfl, hi4, hf4, hb4⟩
      exact ⟨A4, c4, rfl, hi4, fun b hb => .inr (hf4 b hb), hb4⟩)
    simp only [← hm] at hEa
    obtain ⟨⟨c0, c1, c2⟩, f0, f1, f2⟩ := box3 k1
    have e0 := box1 k0
    have hmf : ∀ (fn : Fn) (first cap : Array Value) (w : World), (Instr.makeFunc fn first cap).run Tryd.prog w = .ok (.func fn first cap) w := fun _ _ _ _ => rfl
    have hpn : perpM p n X = R := by rw [hR]; exact (null_eq_perp hfld hmat).symm
    clear hO hG0 hgr
    have hL'_h := Lib.hid hL'
    have hm_h := Lib.hid hm
    have hLm_h := Lib.hid hLm
    have b0_h := Lib.hid b0
    have k0_h := Lib.hid k0
    have k1_h := Lib.hid k1
    have k2_h := Lib.hid k2
    have hO0_h := Lib.hid hO0
    have hrow_h := Lib.hid hrow
    have hlen_h := Lib.hid hlen
    have hfld_h := Lib.hid hfld
    have hmat_h := Lib.hid hmat
    have hX_h := Lib.hid hX
    have hR_h := Lib.hid hR
    have hn_h := Lib.hid hn
    have hG_h := Lib.hid hG
    have hXl_h := Lib.hid hXl
    have hEa_h := Lib.hid hEa
    have hpn_h := Lib.hid hpn
    clear hL' hm hLm b0 k0 k1 k2 hO0 hrow hlen hfld hmat hX hR hn hG hXl hEa hpn
    go_enter Tryd.func58, Tryd.ntmps58
    go_upto_region 1 with (fail)
    rw [← hW]
    clear hW
    go_wp2_with (fail)
    refine (hG_h.out).mono ?_
    rintro e w1 ⟨rfl, hb1⟩
    clear c0 c1 c2 f0 f1 f2 e0
    replace k0_h := Lib.hid (box_below k0_h.out hb1)
    replace k1_h := Lib.hid (box_below k1_h.out hb1)
    replace k2_h := Lib.hid (box_below k2_h.out hb1)
    have hB1 := below_trans b0_h.out hb1 b0_h.out.size
    have hE1 := hEa_h.out w1 hb1 k0_h.out k1_h.out
    obtain ⟨⟨c0, c1, c2⟩, f0, f1, f2⟩ := box3 k1_h.out
    have hE1_h := Lib.hid hE1
    have hB1_h := Lib.hid hB1
    have hb1_h := Lib.hid hb1
    clear hE1 hB1 hb1
    go_wp2_with (fail)
    refine (hE1_h.out).mono ?_
    rintro e w2 ⟨A1, c1', g1, rfl, hg1, hO1⟩
    clear c0 c1 c2 f0 f1 f2
    replace k0_h := Lib.hid (box_below k0_h.out hO1.below_)
    replace k1_h := Lib.hid (box_below k1_h.out hO1.below_)
    replace k2_h := Lib.hid (box_below k2_h.out hO1.below_)
    have hz2 := box_lt k2_h.out
    have hg2 : g1.map (fun h : Hd => h.2.2) = X := by rw [hg1, hX_h.out, hL'_h.out, List.map_map]; rfl
    have hgl : g1.length = m := by have := congrArg List.length hg2; rwa [List.length_map, hXl_h.out] at this
    have hB2 := below_trans hB1_h.out hO1.below_ hB1_h.out.size
    have hrd := hO1.rdr
    have hS := fun W' => relSize_any (na : Int) (nb : Int) (.slice A m c) rfl W' (by omega) (by omega)
    clear hg1 hO1
    have hg2_h := Lib.hid hg2
    have hgl_h := Lib.hid hgl
    have hB2_h := Lib.hid hB2
    have hrd_h := Lib.hid hrd
    have hS_h := Lib.hid hS
    clear hg2 hgl hB2 hrd hS
    go_wp2_with (fail)
    have hbd : Below w2.heap.size w2 w2.drew := below_drewN (Below.refl _ _) 1
    refine beginH (fun w' => w'.heap[w.heap.size]? = some (.cells #[.int .i64 p] 3) ∧ w'.heap[w.heap.size + 1]? = some (.cells #[.int .i64 (na : Int), .int .i64 (nb : Int), .slice A m c] tRel)) (by kernel_rfl) ?_
    generalize w2.drew = W1 at hbd ⊢
    replace k0_h := Lib.hid (box_below k0_h.out hbd)
    replace k1_h := Lib.hid (box_below k1_h.out hbd)
    replace k2_h := Lib.hid (box_below k2_h.out hbd)
    have hF := And.intro k0_h.out k1_h.out
    have hB3 := below_trans hB2_h.out hbd hB2_h.out.size
    have hrd3 := hrd_h.out.below hbd
    have hF_h := Lib.hid hF
    have hB3_h := Lib.hid hB3
    have hrd3_h := Lib.hid hrd3
    have hbd_h := Lib.hid hbd
    clear hF hB3 hrd3 hbd
    refine takeH 0 (v := ?_) rfl (by kernel_rfl) (by kernel_rfl) (by kernel_rfl) (fun _ _ _ h => h) hF_h.out (by rfl) (fun W' hW' => ?_) ?_; rotate_left; · (have e0 := box1 hW'.1; obtain ⟨⟨y0, y1, y2⟩, y3, y4, y5⟩ := box3 hW'.2; clear hW'; go_simp; first | done | with_reducible rfl)
    simp only [Act.put, List.setIfInBounds_toArray, List.set_cons_zero, List.set_cons_succ]
    refine takeH 1 (v := ?_) rfl (by kernel_rfl) (by kernel_rfl) (by kernel_rfl) (fun _ _ _ h => h) hF_h.out (by rfl) (fun W' hW' => ?_) ?_; rotate_left; · (have e0 := box1 hW'.1; obtain ⟨⟨y0, y1, y2⟩, y3, y4, y5⟩ := box3 hW'.2; clear hW'; go_simp; first | done | with_reducible rfl)
    simp only [Act.put, List.setIfInBounds_toArray, List.set_cons_zero, List.set_cons_succ]
    refine takeH 2 (v := ?_) rfl (by kernel_rfl) (by kernel_rfl) (by kernel_rfl) (fun _ _ _ h => h) hF_h.out (by rfl) (fun W' hW' => ?_) ?_; rotate_left; · (have e0 := box1 hW'.1; obtain ⟨⟨y0, y1, y2⟩, y3, y4, y5⟩ := box3 hW'.2; clear hW'; go_simp; first | done | with_reducible rfl)
    simp only [Act.put, List.setIfInBounds_toArray, List.set_cons_zero, List.set_cons_succ]
    refine takeH 3 (v := ?_) rfl (by kernel_rfl) (by kernel_rfl) (by kernel_rfl) (fun _ _ _ h => h) hF_h.out (by rfl) (fun W' hW' => ?_) ?_; rotate_left; · (have e0 := box1 hW'.1; obtain ⟨⟨y0, y1, y2⟩, y3, y4, y5⟩ := box3 hW'.2; clear hW'; go_simp; first | done | with_reducible rfl)
    simp only [Act.put, List.setIfInBounds_toArray, List.set_cons_zero, List.set_cons_succ]
    refine takeH 4 (v := ?_) rfl (by kernel_rfl) (by kernel_rfl) (by kernel_rfl) (fun _ _ _ h => h) hF_h.out (by rfl) (fun W' hW' => ?_) ?_; rotate_left; · (have e0 := box1 hW'.1; obtain ⟨⟨y0, y1, y2⟩, y3, y4, y5⟩ := box3 hW'.2; clear hW'; go_simp; first | done | with_reducible rfl)
    simp only [Act.put, List.setIfInBounds_toArray, List.set_cons_zero, List.set_cons_succ]
    refine takeH 5 (v := ?_) rfl (by kernel_rfl) (by kernel_rfl) (by kernel_rfl) (fun _ _ _ h => h) hF_h.out (by rfl) (fun W' hW' => ?_) ?_; rotate_left; · (have e0 := box1 hW'.1; obtain ⟨⟨y0, y1, y2⟩, y3, y4, y5⟩ := box3 hW'.2; clear hW'; go_simp; first | done | with_reducible rfl)
    simp only [Act.put, List.setIfInBounds_toArray, List.set_cons_zero, List.set_cons_succ]
    refine takeH 6 (v := ?_) rfl (by kernel_rfl) (by kernel_rfl) (by kernel_rfl) (fun _ _ _ h => h) hF_h.out (by rfl) (fun W' hW' => ?_) ?_; rotate_left; · (have e0 := box1 hW'.1; obtain ⟨⟨y0, y1, y2⟩, y3, y4, y5⟩ := box3 hW'.2; clear hW'; go_simp; first | done | with_reducible rfl)
    simp only [Act.put, List.setIfInBounds_toArray, List.set_cons_zero, List.set_cons_succ]
    refine' callH 7 (f := _) (args := _) rfl (by kernel_rfl) (by rfl) ?_ ?_; rotate_left 2; · (go_simp; first | done | with_reducible rfl | (constructor <;> with_reducible rfl))
    refine (hS_h.out W1).mono ?_
    rintro e w3 ⟨rfl, hb3⟩
    have hF3 := And.intro (box_below hF_h.out.1 hb3) (box_below hF_h.out.2 hb3)
    refine ⟨_, rfl, hF3, ?_⟩
    simp only [Act.put, List.setIfInBounds_toArray, List.set_cons_zero, List.set_cons_succ]
    replace k2_h := Lib.hid (box_below k2_h.out hb3)
    have hrd4 := hrd3_h.out.below hb3
    have hC := orthogonal_any p n A1 c1' g1 w3 hrd4 hfld_h.out (by rw [hg2_h.out, hgl_h.out, ← hXl_h.out]; exact hmat_h.out) (by rw [hgl_h.out]; omega) (by omega)
    have hnI : ((n : Nat) : Int) = (na : Int) + (nb : Int) := by have := hn_h.out; omega
    rw [hg2_h.out, hgl_h.out, hpn_h.out, hnI] at hC
    have hB4 := below_trans hB3_h.out hb3 hB3_h.out.size
    have hz3 := box_lt k2_h.out
    clear hnI hrd4
    have hC_h := Lib.hid hC
    have hF3_h := Lib.hid hF3
    have hB4_h := Lib.hid hB4
    have hb3_h := Lib.hid hb3
    clear hC hF3 hB4 hb3
    refine' callH 8 (f := _) (args := _) rfl (by kernel_rfl) (by rfl) ?_ ?_; rotate_left 2; · (go_simp; first | done | with_reducible rfl | (constructor <;> with_reducible rfl))
    refine (hC_h.out).mono ?_
    rintro e w4 hret
    obtain ⟨A2, c2', rfl, hO3⟩ := hret.om
    have hF4 := And.intro (box_below hF3_h.out.1 hO3.below_) (box_below hF3_h.out.2 hO3.below_)
    refine ⟨_, rfl, hF4, ?_⟩
    simp only [Act.put, List.setIfInBounds_toArray, List.set_cons_zero, List.set_cons_succ]
    replace k2_h := Lib.hid (box_below k2_h.out hO3.below_)
    have hB5 := below_trans hB4_h.out hO3.below_ hB4_h.out.size
    obtain ⟨⟨d0, d1, d2⟩, g0, g1', g2⟩ := box3 k2_h.out
    obtain ⟨s1, s2⟩ := set3 (a := .int .i64 (na : Int)) (b := .int .i64 (nb : Int)) (c := .slice A2 R.length c2') k2_h.out
    have hF5 := And.intro (box_keeps hF4.1 s2 (by omega)) (box_keeps hF4.2 s2 (by omega))
    obtain ⟨fp3, h1', h2'⟩ := OwSys.of_ret (a := (na : Int)) (b := (nb : Int)) hO3 s2 (fun k hk => by omega) rfl
    have hB6 := below_keeps hB5 s2 hB5.size (fun k hk => by omega)
    have hf4 := h2'.mono hB4_h.out.size
    clear hret hO3 hB5 s2 h2'
    have s1_h := Lib.hid s1
    have hF4_h := Lib.hid hF4
    have hF5_h := Lib.hid hF5
    have h1'_h := Lib.hid h1'
    have hB6_h := Lib.hid hB6
    have hf4_h := Lib.hid hf4
    clear s1 hF4 hF5 h1' hB6 hf4
    refine takeH 9 (v := ?_) rfl (by kernel_rfl) (by kernel_rfl) (by kernel_rfl) (fun _ _ _ h => h) hF4_h.out (by rfl) (fun W' hW' => ?_) ?_; rotate_left; · (skip; clear hW'; go_simp; first | done | with_reducible rfl)
    simp only [Act.put, List.setIfInBounds_toArray, List.set_cons_zero, List.set_cons_succ]
    refine oneH 10 rfl (by kernel_rfl) (by rfl) (fun K hK => ?_)
    go_simp
    refine hK _ _ hF5_h.out ?_
    clear hK K
    refine takeH 11 (v := ?_) rfl (by kernel_rfl) (by kernel_rfl) (by kernel_rfl) (fun _ _ _ h => h) hF5_h.out (by rfl) (fun W' hW' => ?_) ?_; rotate_left; · (skip; clear hW'; go_simp; first | done | with_reducible rfl)
    simp only [Act.put, List.setIfInBounds_toArray, List.set_cons_zero, List.set_cons_succ]
    refine doneH (by kernel_rfl) ?_
    go_wp2_with (fail)
    refine bodyPost_ret (results_cell_tmp rfl _ _ (w.heap.size + 1 + 1) _ _ (0, 0) _ rfl s1_h.out Tryd.underlying51 rfl (by kernel_rfl)) rfl ?_
    exact ⟨_, fp3, rfl, h1'_h.out, hf4_h.out, hB6_h.out⟩
  · have hb' : relB p s = false := by simpa using hb
    rw [hb', if_neg (by simp)] at hC0
    subst hC0
    obtain ⟨A, n, c, rfl⟩ := h.shape
    obtain ⟨W, hW, b0, k0, k2, k1⟩ := alloc3 w (.cells #[.int .i64 p] 3) (.cells #[.int .i64 s.1, .int .i64 s.2.1, .slice A n c] tRel) (.cells #[.int .i64 0, .int .i64 0, .slice none 0 0] tRel)
    have hG := isRelation_any p W (h.rd.below b0) (hT.below b0 hT.lt) ok.1 ok.2.1
    rw [hb'] at hG
    obtain ⟨⟨c0, c1, c2⟩, f0, f1, f2⟩ := box3 k2
    have e0 := box1 k0
    clear h ok hb hb' hT
    have hG_h := Lib.hid hG
    have k0_h := Lib.hid k0
    have k1_h := Lib.hid k1
    have k2_h := Lib.hid k2
    have b0_h := Lib.hid b0
    clear hG k0 k1 k2 b0
    go_enter Tryd.func58, Tryd.ntmps58
    go_upto_region 1 with (fail)
    rw [← hW]
    clear hW
    go_wp2_with (fail)
    refine (hG_h.out).mono ?_
    rintro e w1 ⟨rfl, hb1⟩
    clear c0 c1 c2 f0 f1 f2 e0
    replace k0_h := Lib.hid (box_below k0_h.out hb1)
    replace k1_h := Lib.hid (box_below k1_h.out hb1)
    have hB1 := below_trans b0_h.out hb1 b0_h.out.size
    have hB1_h := Lib.hid hB1
    have hb1_h := Lib.hid hb1
    clear hB1 hb1
    have hzr := box_lt k1_h.out
    obtain ⟨⟨d0, d1, d2⟩, g0, g1, g2⟩ := box3 k1_h.out
    obtain ⟨s1, s2⟩ := set3 (a := .int .i64 0) (b := .int .i64 0) (c := .slice none 0 0) k1_h.out
    have hB3 := below_keeps hB1_h.out s2 (hB1_h.out).size (fun k hk => by omega)
    have s1_h := Lib.hid s1
    have s2_h := Lib.hid s2
    have hB3_h := Lib.hid hB3
    clear s1 s2 hB3
    go_wp2_with (fail)
    refine bodyPost_ret (results_cell_tmp rfl _ _ (w.heap.size + 1 + 1) _ _ (0, 0) _ rfl s1_h.out Tryd.underlying51 rfl (by kernel_rfl)) rfl ?_
    exact ⟨_, [], rfl, OwSys.zero _ 0 0, FreshL.nil _, hB3_h.out⟩
end Go.Proofs.YtpfidjegdpkhdaaDoor
