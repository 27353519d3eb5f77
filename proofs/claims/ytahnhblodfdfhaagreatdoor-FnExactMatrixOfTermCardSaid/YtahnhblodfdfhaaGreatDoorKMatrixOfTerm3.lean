/-
  What the texts above it need, part 3.
-/
import Derived.Test.YtahnhblodfdfhaaGreatDoorKMatrixOfTerm2
import Derived.Test.YtahnhblodfdfhaaGreatDoorRows
import Derived.StillTailTactics
import Derived.IntWalk
import Derived.Outline
import Derived.Deep.QuietTactic
import Derived.BigQuiet
namespace Go.Proofs.YtahnhblodfdfhaaGreatDoor
open Go.RowKit
def layTo (n : Nat) (f : Nat → Nat) (v : List Int) : Nat → List Int
 | 0 => List.replicate n 0
 | k + 1 => (layTo n f v k).set (f k) (v.getD k 0)
@[simp] theorem layTo_length (n : Nat) (f : Nat → Nat) (v : List Int) : ∀ k, (layTo n f v k).length = n
  | 0 => by simp [layTo]
  | k + 1 => by rw [layTo, List.length_set]; exact layTo_length n f v k
theorem layTo_hit {n : Nat} {f : Nat → Nat} {v : List Int} : ∀ {k j : Nat}, j < k → f j < n → (∀ i, i < k → j < i → f i ≠ f j) → (layTo n f v k).getD (f j) 0 = v.getD j 0
 | 0, j, h, _, _ => by omega
 | k + 1, j, h, hn, hi => by
   rw [layTo]
   by_cases e : j = k
   · subst e; rw [getD_set_self (by rw [layTo_length]; exact hn)]
   · rw [getD_set_ne' (hi k (by omega) (by omega))]
     exact layTo_hit (by omega) hn fun i h1 h2 => hi i (by omega) h2
theorem layTo_miss {n : Nat} {f : Nat → Nat} {v : List Int} {i : Nat} : ∀ {k : Nat}, (∀ j, j < k → f j ≠ i) → (layTo n f v k).getD i 0 = 0
 | 0, _ => by simp [layTo, List.getD, List.getElem?_replicate]; split <;> rfl
 | k + 1, h => by
   rw [layTo, getD_set_ne' (h k (by omega))]
   exact layTo_miss fun j hj => h j (by omega)
theorem layTo_res {p : Int} (hp : 0 < p) {n : Nat} {f : Nat → Nat} {v : List Int} (h : Res p v) : ∀ k, Res p (layTo n f v k)
 | 0 => fun x hx => by have := List.eq_of_mem_replicate hx; omega
 | k + 1 => fun x hx => by
   rw [layTo] at hx
   rcases List.mem_or_eq_of_mem_set hx with hx | rfl
   · exact layTo_res hp h k x hx
   · exact h.getD hp k
theorem ext_getD {xs ys : List Int} (hl : xs.length = ys.length) (h : ∀ i, i < xs.length → xs.getD i 0 = ys.getD i 0) : xs = ys := by
 apply List.ext_getElem hl
 intro i h1 h2
 have := h i h1
 rwa [getD_lt h1, getD_lt h2] at this
theorem getD_app (xs ys : List Int) (i : Nat) : (xs ++ ys).getD i 0 = if i < xs.length then xs.getD i 0 else ys.getD (i - xs.length) 0 := by
 simp only [List.getD, List.getElem?_append]
 split <;> rfl
theorem getD_take (xs : List Int) (a i : Nat) : (xs.take a).getD i 0 = if i < a then xs.getD i 0 else 0 := by
 simp only [List.getD, List.getElem?_take]
 split <;> rfl
theorem getD_drop (xs : List Int) (a i : Nat) : (xs.drop a).getD i 0 = xs.getD (a + i) 0 := by
 simp only [List.getD, List.getElem?_drop]
theorem getD_zeros (n i : Nat) : (List.replicate n (0 : Int)).getD i 0 = 0 := by
 simp [List.getD, List.getElem?_replicate]; split <;> rfl
def tA (a1 b1 j : Nat) : Nat := if j < a1 then j else b1 + j
def tB (a1 a2 b1 j : Nat) : Nat := if j < b1 then a1 + j else a1 + a2 + j
theorem tA_mono {a1 b1 i j : Nat} (h : i < j) : tA a1 b1 i < tA a1 b1 j := by unfold tA; split <;> split <;> omega
theorem tB_mono {a1 a2 b1 i j : Nat} (h : i < j) : tB a1 a2 b1 i < tB a1 a2 b1 j := by unfold tB; split <;> split <;> omega
def pA (a1 a2 b1 b2 : Nat) (u : List Int) : List Int := layTo (a1 + a2 + b1 + b2) (tA a1 b1) u (a1 + a2)
def pB (a1 a2 b1 b2 : Nat) (u : List Int) : List Int := layTo (a1 + a2 + b1 + b2) (tB a1 a2 b1) u (b1 + b2)
theorem pA_join {a1 a2 b1 b2 : Nat} {u : List Int} (hu : u.length = a1 + a2) : pA a1 a2 b1 b2 u = u.take a1 ++ (List.replicate b1 0 ++ (u.drop a1 ++ List.replicate b2 0)) := by
 unfold pA
 refine ext_getD (by simp; omega) fun i hi => ?_
 rw [layTo_length] at hi
 rw [getD_app, getD_app, getD_app, getD_take, getD_drop, getD_zeros, getD_zeros]
 simp only [List.length_take, List.length_drop, List.length_replicate, hu, show min a1 (a1 + a2) = a1 by omega, show a1 + a2 - a1 = a2 by omega]
 by_cases h1 : i < a1
 · have := layTo_hit (n := a1 + a2 + b1 + b2) (f := tA a1 b1) (v := u) (k := a1 + a2) (j := i) (by omega) (by unfold tA; split <;> omega) (fun j h2 h3 => by have := tA_mono (a1 := a1) (b1 := b1) h3; omega)
   rw [show tA a1 b1 i = i by unfold tA; rw [if_pos h1]] at this
   rw [this]; simp [h1]
 · by_cases h2 : i < a1 + b1
   · rw [layTo_miss (fun j hj => by unfold tA; split <;> omega)]
     simp [h1]; intro h3; omega
   · by_cases h3 : i < a1 + b1 + a2
     · have := layTo_hit (n := a1 + a2 + b1 + b2) (f := tA a1 b1) (v := u) (k := a1 + a2) (j := i - b1) (by omega) (by unfold tA; split <;> omega) (fun j h2 h3 => by have := tA_mono (a1 := a1) (b1 := b1) h3; omega)
       rw [show tA a1 b1 (i - b1) = i by unfold tA; rw [if_neg (by omega)]; omega] at this
       rw [this, if_neg h1, if_neg (by omega), if_pos (by omega)]
       congr 1; omega
     · rw [layTo_miss (fun j hj => by unfold tA; split <;> omega), if_neg h1, if_neg (by omega), if_neg (by omega)]
theorem pB_join {a1 a2 b1 b2 : Nat} {u : List Int} (hu : u.length = b1 + b2) : pB a1 a2 b1 b2 u = List.replicate a1 0 ++ (u.take b1 ++ (List.replicate a2 0 ++ u.drop b1)) := by
 unfold pB
 refine ext_getD (by simp; omega) fun i hi => ?_
 rw [layTo_length] at hi
 rw [getD_app, getD_app, getD_app, getD_take, getD_drop, getD_zeros, getD_zeros]
 simp only [List.length_take, List.length_replicate, hu, show min b1 (b1 + b2) = b1 by omega]
 by_cases h1 : i < a1
 · rw [layTo_miss (fun j hj => by unfold tB; split <;> omega), if_pos h1]
 · by_cases h2 : i < a1 + b1
   · have := layTo_hit (n := a1 + a2 + b1 + b2) (f := tB a1 a2 b1) (v := u) (k := b1 + b2) (j := i - a1) (by omega) (by unfold tB; split <;> omega) (fun j h2 h3 => by have := tB_mono (a1 := a1) (a2 := a2) (b1 := b1) h3; omega)
     rw [show tB a1 a2 b1 (i - a1) = i by unfold tB; rw [if_pos (by omega)]; omega] at this
     rw [this, if_neg h1, if_pos (by omega), if_pos (by omega)]
   · by_cases h3 : i < a1 + b1 + a2
     · rw [layTo_miss (fun j hj => by unfold tB; split <;> omega), if_neg h1, if_neg (by omega), if_pos (by omega)]
     · have := layTo_hit (n := a1 + a2 + b1 + b2) (f := tB a1 a2 b1) (v := u) (k := b1 + b2) (j := i - a1 - a2) (by omega) (by unfold tB; split <;> omega) (fun j h2 h3 => by have := tB_mono (a1 := a1) (a2 := a2) (b1 := b1) h3; omega)
       rw [show tB a1 a2 b1 (i - a1 - a2) = i by unfold tB; rw [if_neg (by omega)]; omega] at this
       rw [this, if_neg h1, if_neg (by omega), if_neg (by omega)]
       congr 1; omega
def tenRows (s t : Sys) : List (List Int) := s.2.2.map (pA s.1.toNat s.2.1.toNat t.1.toNat t.2.1.toNat) ++ t.2.2.map (pB s.1.toNat s.2.1.toNat t.1.toNat t.2.1.toNat)
def tenV (p : Int) (s t : Sys) : Sys := (s.1 + t.1, s.2.1 + t.2.1, redM p (s.1.toNat + s.2.1.toNat + t.1.toNat + t.2.1.toNat) (tenRows s t))
theorem ten_mat {p : Int} {s t : Sys} (hs : RelOk p s) (ht : RelOk p t) : Mat p (tenRows s t).length (s.1.toNat + s.2.1.toNat + t.1.toNat + t.2.1.toNat) (tenRows s t) := by
 have hpb := fieldB_bounds hs.fld
 refine ⟨rfl, fun v hv => ?_⟩
 rcases List.mem_append.1 hv with hv | hv
 · obtain ⟨u, hu, rfl⟩ := List.mem_map.1 hv
   exact ⟨layTo_length _ _ _ _, layTo_res (by omega) (hs.row hu).2 _⟩
 · obtain ⟨u, hu, rfl⟩ := List.mem_map.1 hv
   exact ⟨layTo_length _ _ _ _, layTo_res (by omega) (ht.row hu).2 _⟩
theorem tenRows_len (s t : Sys) : (tenRows s t).length = s.2.2.length + t.2.2.length := by unfold tenRows; rw [List.length_append, List.length_map, List.length_map]
set_option maxRecDepth 100000 in
set_option maxHeartbeats 8000000 in
theorem rlTensor_any (p : Int) {v v' : Value} {s t : Sys} {fp fp' : List Nat} (w : World) (ha : OwSys w v s fp) (hb : OwSys w v' t fp') (hs : RelOk p s) (ht : RelOk p t) (hsum : s.1 + t.1 + s.2.1 + t.2.1 ≤ 24) :
  Calls Tryz.prog 90 #[.int .i64 p, v, v'] w fun e w' => ∃ v' fp', e = .returned v' ∧ OwSys w' v' (tenV p s t) fp' ∧ FreshL w.heap.size fp' ∧ Below w.heap.size w w' := by
 have hmat0 := ten_mat hs ht
 have htl := tenRows_len s t
 obtain ⟨Aa, ca, ga, rfl, hLa0, hOa, rfl⟩ := ha
 obtain ⟨ia, ja, La⟩ := s
 have ha0 : 0 ≤ ia := hs.lo
 have ha1 : 0 ≤ ja := hs.hi
 have ha2 : ia + ja ≤ 24 := hs.sum
 have hflda : fieldB p = true := hs.fld
 have hrowa : ∀ u, u ∈ La → (u.length : Int) = ia + ja ∧ Res p u := fun u hu => hs.row hu
 have hlena : (La.length : Int) ≤ ia + ja := hs.len
 clear hs
 obtain ⟨a1, rfl⟩ : ∃ n : Nat, ia = (n : Int) := ⟨ia.toNat, by omega⟩
 obtain ⟨a2, rfl⟩ : ∃ n : Nat, ja = (n : Int) := ⟨ja.toNat, by omega⟩
 have hLa : La = ga.map (fun h : Hd => h.2.2) := hLa0
 clear hLa0
 obtain ⟨ma, hma⟩ : ∃ m, m = ga.length := ⟨_, rfl⟩
 have hLma : La.length = ma := by rw [hLa, List.length_map, hma]
 have hma24 : (ma : Int) ≤ 24 := by have := hlena; rw [hLma] at this; omega
 obtain ⟨Ab, cb, gb, rfl, hLb0, hOb, rfl⟩ := hb
 obtain ⟨ib, jb, Lb⟩ := t
 have hb0 : 0 ≤ ib := ht.lo
 have hb1 : 0 ≤ jb := ht.hi
 have hb2 : ib + jb ≤ 24 := ht.sum
 have hfldb : fieldB p = true := ht.fld
 have hrowb : ∀ u, u ∈ Lb → (u.length : Int) = ib + jb ∧ Res p u := fun u hu => ht.row hu
 have hlenb : (Lb.length : Int) ≤ ib + jb := ht.len
 clear ht
 obtain ⟨b1, rfl⟩ : ∃ n : Nat, ib = (n : Int) := ⟨ib.toNat, by omega⟩
 obtain ⟨b2, rfl⟩ : ∃ n : Nat, jb = (n : Int) := ⟨jb.toNat, by omega⟩
 have hLb : Lb = gb.map (fun h : Hd => h.2.2) := hLb0
 clear hLb0
 obtain ⟨mb, hmb⟩ : ∃ m, m = gb.length := ⟨_, rfl⟩
 have hLmb : Lb.length = mb := by rw [hLb, List.length_map, hmb]
 have hmb24 : (mb : Int) ≤ 24 := by have := hlenb; rw [hLmb] at this; omega
 obtain ⟨N, hN⟩ : ∃ N, N = a1 + a2 + b1 + b2 := ⟨_, rfl⟩
 obtain ⟨lf, hlf0⟩ : ∃ lf, lf = a1 + b1 := ⟨_, rfl⟩
 obtain ⟨rt, hrt0⟩ : ∃ rt, rt = a2 + b2 := ⟨_, rfl⟩
 obtain ⟨X, hX⟩ : ∃ X, X = La.map (pA a1 a2 b1 b2) ++ Lb.map (pB a1 a2 b1 b2) := ⟨_, rfl⟩
 have hmat : Mat p X.length N X := by rw [hX, hN]; exact hmat0
 obtain ⟨R, hR⟩ : ∃ R, R = redM p N X := ⟨_, rfl⟩
 have hsum' : (a1 : Int) + (b1 : Int) + (a2 : Int) + (b2 : Int) ≤ 24 := hsum
 have hlf : (a1 : Int) + (b1 : Int) = (lf : Int) := by omega
 have hrt : (a2 : Int) + (b2 : Int) = (rt : Int) := by omega
 have hNI : (lf : Int) + (rt : Int) = (N : Int) := by omega
 have hgoal : tenV p ((a1 : Int), (a2 : Int), La) ((b1 : Int), (b2 : Int), Lb) = ((lf : Int), (rt : Int), R) := by
  rw [← hlf, ← hrt, hR, hX, hN]; rfl
 rw [hgoal]
 have hN24 : N ≤ 24 := by omega
 have hlf24 : (lf : Int) ≤ 24 := by omega
 have hrt24 : (rt : Int) ≤ 24 := by omega
 have hb24a : (a1 : Int) ≤ 24 := by omega
 have hb24b : (a2 : Int) ≤ 24 := by omega
 have hb24c : (b1 : Int) ≤ 24 := by omega
 show Calls Tryz.prog _ #[.int .i64 p, .agg #[.int .i64 (a1 : Int), .int .i64 (a2 : Int), .slice Aa ga.length ca], .agg #[.int .i64 (b1 : Int), .int .i64 (b2 : Int), .slice Ab gb.length cb]] w _
 rw [← hma, ← hmb]
 obtain ⟨W, hW, bW, k0, k1, k2⟩ := alloc3 w (.cells #[.int .i64 (a1 : Int), .int .i64 (a2 : Int), .slice Aa ma ca] tRel) (.cells #[.int .i64 (b1 : Int), .int .i64 (b2 : Int), .slice Ab mb cb] tRel) (.cells #[.int .i64 0, .int .i64 0, .slice none 0 0] tRel)
 have hOa := hOa.below bW
 have hOb := hOb.below bW
 obtain ⟨⟨c0, c1, c2⟩, f0, f1, f2⟩ := box3 k0
 obtain ⟨⟨d0, d1, d2⟩, g0, g1, g2⟩ := box3 k1
 clear hmat0 hgoal htl hsum hlf0 hrt0; have hLa_h := lH hLa; have hLb_h := lH hLb; have hma_h := lH hma; have hmb_h := lH hmb; have hLma_h := lH hLma; have hLmb_h := lH hLmb; have bW_h := lH bW; have k0_h := lH k0; have k1_h := lH k1; have k2_h := lH k2; have hOa_h := lH hOa; have hOb_h := lH hOb; have hrowa_h := lH hrowa; have hrowb_h := lH hrowb; have hlena_h := lH hlena; have hlenb_h := lH hlenb; have hflda_h := lH hflda; have hfldb_h := lH hfldb; have hmat_h := lH hmat; have hX_h := lH hX; have hR_h := lH hR; have hN_h := lH hN; have hNI_h := lH hNI; clear hLa hLb hma hmb hLma hLmb bW k0 k1 k2 hOa hOb hrowa hrowb hlena hlenb hflda hfldb hmat hX hR hN hNI
 go_enter Tryz.func90, Tryz.ntmps90
 go_upto_region 1 with (fail)
 rw [← hW]
 clear hW
 have hlw : IntKind.i64.wrap ((a1 : Int) + (b1 : Int)) = (a1 : Int) + (b1 : Int) := IntWalk.i64_in _ (by omega)
 have hrw : IntKind.i64.wrap ((a2 : Int) + (b2 : Int)) = (a2 : Int) + (b2 : Int) := IntWalk.i64_in _ (by omega)
 go_quiet (fail)
 obtain ⟨Wd, hWd⟩ : ∃ Wd, Wd = W.drewN nq := ⟨_, rfl⟩
 have hbd : Below W.heap.size W Wd := by rw [hWd]; exact below_drewN (Below.refl _ _) nq
 rw [← hWd]
 clear hWd c0 c1 c2 f0 f1 f2 d0 d1 d2 g0 g1 g2 hlw hrw
 replace k0_h := lH (box_below k0_h.out hbd)
 replace k1_h := lH (box_below k1_h.out hbd)
 replace k2_h := lH (box_below k2_h.out hbd)
 have hBd := below_trans bW_h.out hbd bW_h.out.size
 have hOa := hOa_h.out.below hbd
 have hOb := hOb_h.out.below hbd
 have hz2 := box_lt k2_h.out
 clear hOa_h hOb_h
 have hN0 := RdO.nil Wd Wd (Below.refl _ _)
 obtain ⟨⟨c0, c1, c2⟩, f0, f1, f2⟩ := box3 k0_h.out
 have hOa_h := lH hOa; have hOb_h := lH hOb; have hBd_h := lH hBd; have hbd_h := lH hbd; have hN0_h := lH hN0; have hlf_h := lH hlf; have hrt_h := lH hrt; clear hOa hOb hBd hbd hN0 hlf hrt
 go_wp2_with (fail)
 clear c0 c1 c2 f0 f1 f2
 go_loopw [33, 9] (fun i v wr => ∃ (k : Nat) (A' : Option Addr) (c' : Nat) (ys : List Hd) (q : Nat), k ≤ ma ∧ i = .int .i64 k ∧ q = k ∧ v = .slice A' q c' ∧ ys.length = q ∧ ys.map (fun h : Hd => h.2.2) = (La.take k).map (pA a1 a2 b1 b2) ∧ RdO Wd wr A' c' ys) (fun i _ _ => ma - (intOf i).toNat)
 case atStart => exact ⟨0, none, 0, [], 0, Nat.zero_le _, rfl, rfl, rfl, rfl, rfl, hN0_h.out⟩
 case round =>
  obtain ⟨k, A', c', ys, q0, hk, rfl, hq0, rfl, hyl, hym, hO⟩ := hrel
  have k0r := box_below k0_h.out hO.below_
  have k1r := box_below k1_h.out hO.below_
  by_cases hlt : k < ma
  · have hOr := hOa_h.out.below hO.below_
    obtain ⟨ad, B, d, u, rfl, hx, hc, hrd⟩ := hOr.rd.at_ (k := k) (by rw [← hma_h.out]; exact hlt)
    have hyL : La[k]? = some u := by rw [hLa_h.out, List.getElem?_map, hx]; rfl
    have hul : u.length = a1 + a2 := by have := (hrowa_h.out _ (List.mem_of_getElem? hyL)).1; omega
    rw [hul] at hc
    have hkI : (k : Int) < (ma : Int) := by omega
    have hq24 : q0 ≤ 48 := by omega
    obtain ⟨wo, rfl⟩ : ∃ x, x = wr := ⟨_, rfl⟩
    have hNI : (lf : Int) + (rt : Int) = (N : Int) := hNI_h.out
    clear hOr hx; have hyL_h := lH hyL; have hul_h := lH hul; have hyl_h := lH hyl; have hym_h := lH hym; have hO_h := lH hO; have hrd_h := lH hrd; have k0r_h := lH k0r; have k1r_h := lH k1r; have hq0_h := lH hq0; clear hyL hul hyl hym hO hrd k0r k1r hq0
    go_wp2_with (at_make; refine wpList_make_Sl _ rfl _ _ _ rfl 3 Tryz.underlying23 info_int N N rfl rfl rfl rfl (Nat.le_refl _) (by omega) (by unfold maxLen; omega) ?_; intro G w2 hs2 hG hb2)
    have hi2 : IS w2 (some G) N (List.replicate N 0) := by unfold IS; rw [← madeZeros]; simpa using hs2
    clear hs2 hc hNI; have hi2_h := lH hi2; have hG_h := lH hG; have hb2_h := lH hb2; clear hi2 hG hb2
    go_loopw [43] (fun i wr => ∃ j : Nat, j ≤ a1 + a2 ∧ i = .int .i64 j ∧ IS wr (some G) N (layTo N (tA a1 b1) u j) ∧ Below wo.heap.size wo wr) (fun i _ => a1 + a2 - (intOf i).toNat)
    case atStart => exact ⟨0, Nat.zero_le _, rfl, hi2_h.out, hb2_h.out⟩
    case round =>
     clear hi2_h hb2_h
     obtain ⟨j, hj, rfl, his, hbr⟩ := hrel
     have k0i := box_below k0r_h.out hbr
     have k1i := box_below k1r_h.out hbr
     by_cases hlt2 : j < a1 + a2
     · obtain ⟨bd, x, rfl, hx, hcx⟩ := (hrd_h.out.below hbr).at_ (j := j) (by rw [hul_h.out]; exact hlt2)
       have hgx : u.getD j 0 = x := by simp [List.getD, hx]
       have hjI : (j : Int) < (a1 + a2 : Int) := by omega
       by_cases hja : j < a1
       · obtain ⟨q, hq⟩ : ∃ q, q = j := ⟨_, rfl⟩
         have hfq : (tA a1 b1) j = q := by rw [hq]; first | exact if_pos hja | exact if_neg hja
         have hqN : q < N := by rw [hq]; have := hN_h.out; omega
         have hkl : q < (layTo N (tA a1 b1) u j).length := by rw [layTo_length]; exact hqN
         obtain ⟨gd, y, hA, hy, hblt, hc, hf⟩ := his.at_ hkl
         obtain rfl := Option.some.inj hA
         have hset := his.set rfl x hkl
         rw [← hfq, ← hgx] at hset
         have hset2 : IS _ (some G) N (layTo N (tA a1 b1) u (j + 1)) := hset
         rw [hfq, hgx] at hset2
         have hbs := hbr.setCell (p := G.add q) (by rw [block_of_add]; exact hG_h.out) (.int .i64 x)
         have hfz := hf q
         have hqI : (q : Int) < (N : Int) := by omega
         have hlt3 : (j : Int) < (a1 : Int) := by omega
         obtain rfl : j = q := hq.symm
         have hq : j = j := rfl
         obtain ⟨⟨c0, c1, c2⟩, f0, f1, f2⟩ := box3 k0i
         obtain ⟨⟨d0, d1, d2⟩, g0, g1, g2⟩ := box3 k1i
         clear his hy hkl hf hbr hset hfq k0i k1i hgx hx; have hset2_h := lH hset2; have hbs_h := lH hbs; have hq_h := lH hq; clear hset2 hbs hq
         go_wp2_with (fail)
         go_roundw
         case rel => exact ⟨j + 1, by omega, by go_num, hset2_h.out, hbs_h.out⟩
         case measure => simp [intOf]; omega
       · obtain ⟨q, hq⟩ : ∃ q, q = b1 + j := ⟨_, rfl⟩
         have hfq : (tA a1 b1) j = q := by rw [hq]; first | exact if_pos hja | exact if_neg hja
         have hqN : q < N := by rw [hq]; have := hN_h.out; omega
         have hkl : q < (layTo N (tA a1 b1) u j).length := by rw [layTo_length]; exact hqN
         obtain ⟨gd, y, hA, hy, hblt, hc, hf⟩ := his.at_ hkl
         obtain rfl := Option.some.inj hA
         have hset := his.set rfl x hkl
         rw [← hfq, ← hgx] at hset
         have hset2 : IS _ (some G) N (layTo N (tA a1 b1) u (j + 1)) := hset
         rw [hfq, hgx] at hset2
         have hbs := hbr.setCell (p := G.add q) (by rw [block_of_add]; exact hG_h.out) (.int .i64 x)
         have hfz := hf q
         have hqI : (q : Int) < (N : Int) := by omega
         have hle : ¬ (j : Int) < (a1 : Int) := by omega
         have e1 : IntKind.i64.wrap ((lf : Int) + (j : Int)) = (lf : Int) + (j : Int) := IntWalk.i64_in _ (by omega)
         have e2 : (lf : Int) + (j : Int) - (a1 : Int) = (q : Int) := by rw [hq]; have := hlf_h.out; omega
         obtain ⟨⟨c0, c1, c2⟩, f0, f1, f2⟩ := box3 k0i
         obtain ⟨⟨d0, d1, d2⟩, g0, g1, g2⟩ := box3 k1i
         clear his hy hkl hf hbr hset hfq k0i k1i hgx hx; have hset2_h := lH hset2; have hbs_h := lH hbs; have hq_h := lH hq; clear hset2 hbs hq
         go_wp2_with (fail)
         go_roundw
         case rel => exact ⟨j + 1, by omega, by go_num, hset2_h.out, hbs_h.out⟩
         case measure => simp [intOf]; omega
     · have hje : j = a1 + a2 := by omega
       subst hje
       have hi3 : IS wr (some G) N (pA a1 a2 b1 b2 u) := by unfold pA; rw [← hN_h.out]; exact his
       have hsl : Sl (wr.alloc (.cells #[.slice (some G) N N] 23)) 23 1 A' q0 c' (ys.map Hd.val) := by
        have := (hO_h.out.sl.below hbr).alloc (.cells #[.slice (some G) N N] 23)
        rwa [hyl_h.out] at this
       have hpl : (pA a1 a2 b1 b2 u).length = N := by unfold pA; rw [layTo_length, hN_h.out]
       clear his k0i k1i; have hi3_h := lH hi3; have hsl_h := lH hsl; have hbr_h := lH hbr; have hpl_h := lH hpl; clear hi3 hsl hbr hpl
       go_wp2_with (at_builtin; refine wpList_append_Sl _ rfl _ _ _ rfl 23 Tryz.underlying27 info_ints rfl (by omega) rfl (hsl_h.out) rfl (news := [.slice (some G) N N]) rfl (Sl.rdc (Sl.laid wr 23 1 1 #[.slice (some G) N N] (by unfold maxLen; omega) rfl)) (by intro u hu; simp at hu; subst hu; rfl) (by unfold maxLen; omega) (by omega) ?_; intro A3 c3 w3 hsA3 hA3 hkA3)
       have hal : Below wr.heap.size wr (wr.alloc (.cells #[.slice (some G) N N] 23)) := below_alloc _ _
       have hO2 := hO_h.out.snoc (w1 := wr.alloc (.cells #[.slice (some G) N N] 23)) (below_trans hbr_h.out hal hbr_h.out.size) (x := (some G, N, pA a1 a2 b1 b2 u)) (hi3_h.out.below hal) (fun b hb hb' => by
        have h1 := hO_h.out.sl.lt b hb'
        have h2 := hG_h.out
        obtain rfl : b = G.block := by simpa using hb
        omega) (by rw [hyl_h.out]) (by show Sl w3 _ 1 A3 (q0 + 1) c3 (ys.map Hd.val ++ [.slice (some G) (pA a1 a2 b1 b2 u).length N]); rw [hpl_h.out]; exact hsA3) hA3 hkA3
       clear hsA3 hA3 hkA3; have hO2_h := lH hO2; clear hO2
       go_roundw
       case rel => exact ⟨k + 1, A3, c3, ys ++ [(some G, N, pA a1 a2 b1 b2 u)], q0 + 1, by omega, by go_num, by have := hq0_h.out; omega, rfl, by rw [List.length_append, hyl_h.out]; rfl, by rw [List.map_append, hym_h.out, List.take_add_one, hyL_h.out]; simp, hO2_h.out⟩
       case measure => simp [intOf]; omega
  · obtain rfl : ma = k := by omega
    have hym2 : ys.map (fun h : Hd => h.2.2) = La.map (pA a1 a2 b1 b2) := by rw [hym, List.take_of_length_le (by rw [hLma_h.out]; exact Nat.le_refl _)]
    have hq1 : q0 ≤ 24 := by omega
    obtain ⟨⟨c0, c1, c2⟩, f0, f1, f2⟩ := box3 k1r
    clear hym hq0; have hym2_h := lH hym2; have hyl_h := lH hyl; have hO_h := lH hO; have k0r_h := lH k0r; have k1r_h := lH k1r; clear hym2 hyl hO k0r k1r
    go_wp2_with (fail)
    clear c0 c1 c2 f0 f1 f2
    go_loopw [74, 9] (fun i v wr => ∃ (k : Nat) (A' : Option Addr) (c' : Nat) (ys : List Hd) (q : Nat), k ≤ mb ∧ i = .int .i64 k ∧ q = q0 + k ∧ v = .slice A' q c' ∧ ys.length = q ∧ ys.map (fun h : Hd => h.2.2) = La.map (pA a1 a2 b1 b2) ++ (Lb.take k).map (pB a1 a2 b1 b2) ∧ RdO Wd wr A' c' ys) (fun i _ _ => mb - (intOf i).toNat)
    case atStart => exact ⟨0, A', c', ys, q0, Nat.zero_le _, rfl, rfl, rfl, hyl_h.out, by simpa using hym2_h.out, hO_h.out⟩
    case round =>
     clear hyl_h hO_h hym2_h k0r_h k1r_h
     obtain ⟨k, A', c', ys, q1, hk, rfl, hq0, rfl, hyl, hym, hO⟩ := hrel
     have k0r := box_below k0_h.out hO.below_
     have k1r := box_below k1_h.out hO.below_
     by_cases hlt : k < mb
     · have hOr := hOb_h.out.below hO.below_
       obtain ⟨ad, B, d, u, rfl, hx, hc, hrd⟩ := hOr.rd.at_ (k := k) (by rw [← hmb_h.out]; exact hlt)
       have hyL : Lb[k]? = some u := by rw [hLb_h.out, List.getElem?_map, hx]; rfl
       have hul : u.length = b1 + b2 := by have := (hrowb_h.out _ (List.mem_of_getElem? hyL)).1; omega
       rw [hul] at hc
       have hkI : (k : Int) < (mb : Int) := by omega
       have hq24 : q1 ≤ 48 := by omega
       obtain ⟨wo, rfl⟩ : ∃ x, x = wr := ⟨_, rfl⟩
       have hNI : (lf : Int) + (rt : Int) = (N : Int) := hNI_h.out
       clear hOr hx; have hyL_h := lH hyL; have hul_h := lH hul; have hyl_h := lH hyl; have hym_h := lH hym; have hO_h := lH hO; have hrd_h := lH hrd; have k0r_h := lH k0r; have k1r_h := lH k1r; have hq0_h := lH hq0; clear hyL hul hyl hym hO hrd k0r k1r hq0
       go_wp2_with (at_make; refine wpList_make_Sl _ rfl _ _ _ rfl 3 Tryz.underlying23 info_int N N rfl rfl rfl rfl (Nat.le_refl _) (by omega) (by unfold maxLen; omega) ?_; intro G w2 hs2 hG hb2)
       have hi2 : IS w2 (some G) N (List.replicate N 0) := by unfold IS; rw [← madeZeros]; simpa using hs2
       clear hs2 hc hNI; have hi2_h := lH hi2; have hG_h := lH hG; have hb2_h := lH hb2; clear hi2 hG hb2
       go_loopw [84] (fun i wr => ∃ j : Nat, j ≤ b1 + b2 ∧ i = .int .i64 j ∧ IS wr (some G) N (layTo N (tB a1 a2 b1) u j) ∧ Below wo.heap.size wo wr) (fun i _ => b1 + b2 - (intOf i).toNat)
       case atStart => exact ⟨0, Nat.zero_le _, rfl, hi2_h.out, hb2_h.out⟩
       case round =>
        clear hi2_h hb2_h
        obtain ⟨j, hj, rfl, his, hbr⟩ := hrel
        have k0i := box_below k0r_h.out hbr
        have k1i := box_below k1r_h.out hbr
        by_cases hlt2 : j < b1 + b2
        · obtain ⟨bd, x, rfl, hx, hcx⟩ := (hrd_h.out.below hbr).at_ (j := j) (by rw [hul_h.out]; exact hlt2)
          have hgx : u.getD j 0 = x := by simp [List.getD, hx]
          have hjI : (j : Int) < (b1 + b2 : Int) := by omega
          by_cases hja : j < b1
          · obtain ⟨q, hq⟩ : ∃ q, q = a1 + j := ⟨_, rfl⟩
            have hfq : (tB a1 a2 b1) j = q := by rw [hq]; first | exact if_pos hja | exact if_neg hja
            have hqN : q < N := by rw [hq]; have := hN_h.out; omega
            have hkl : q < (layTo N (tB a1 a2 b1) u j).length := by rw [layTo_length]; exact hqN
            obtain ⟨gd, y, hA, hy, hblt, hc, hf⟩ := his.at_ hkl
            obtain rfl := Option.some.inj hA
            have hset := his.set rfl x hkl
            rw [← hfq, ← hgx] at hset
            have hset2 : IS _ (some G) N (layTo N (tB a1 a2 b1) u (j + 1)) := hset
            rw [hfq, hgx] at hset2
            have hbs := hbr.setCell (p := G.add q) (by rw [block_of_add]; exact hG_h.out) (.int .i64 x)
            have hfz := hf q
            have hqI : (q : Int) < (N : Int) := by omega
            have hlt3 : (j : Int) < (b1 : Int) := by omega
            have e2 : (a1 : Int) + (j : Int) = (q : Int) := by rw [hq]; omega
            obtain ⟨⟨c0, c1, c2⟩, f0, f1, f2⟩ := box3 k0i
            obtain ⟨⟨d0, d1, d2⟩, g0, g1, g2⟩ := box3 k1i
            clear his hy hkl hf hbr hset hfq k0i k1i hgx hx; have hset2_h := lH hset2; have hbs_h := lH hbs; have hq_h := lH hq; clear hset2 hbs hq
            go_wp2_with (fail)
            go_roundw
            case rel => exact ⟨j + 1, by omega, by go_num, hset2_h.out, hbs_h.out⟩
            case measure => simp [intOf]; omega
          · obtain ⟨q, hq⟩ : ∃ q, q = a1 + a2 + j := ⟨_, rfl⟩
            have hfq : (tB a1 a2 b1) j = q := by rw [hq]; first | exact if_pos hja | exact if_neg hja
            have hqN : q < N := by rw [hq]; have := hN_h.out; omega
            have hkl : q < (layTo N (tB a1 a2 b1) u j).length := by rw [layTo_length]; exact hqN
            obtain ⟨gd, y, hA, hy, hblt, hc, hf⟩ := his.at_ hkl
            obtain rfl := Option.some.inj hA
            have hset := his.set rfl x hkl
            rw [← hfq, ← hgx] at hset
            have hset2 : IS _ (some G) N (layTo N (tB a1 a2 b1) u (j + 1)) := hset
            rw [hfq, hgx] at hset2
            have hbs := hbr.setCell (p := G.add q) (by rw [block_of_add]; exact hG_h.out) (.int .i64 x)
            have hfz := hf q
            have hqI : (q : Int) < (N : Int) := by omega
            have hle : ¬ (j : Int) < (b1 : Int) := by omega
            have e2 : (lf : Int) + (a2 : Int) + (j : Int) - (b1 : Int) = (q : Int) := by rw [hq]; have := hlf_h.out; omega
            obtain ⟨⟨c0, c1, c2⟩, f0, f1, f2⟩ := box3 k0i
            obtain ⟨⟨d0, d1, d2⟩, g0, g1, g2⟩ := box3 k1i
            clear his hy hkl hf hbr hset hfq k0i k1i hgx hx; have hset2_h := lH hset2; have hbs_h := lH hbs; have hq_h := lH hq; clear hset2 hbs hq
            go_wp2_with (fail)
            go_roundw
            case rel => exact ⟨j + 1, by omega, by go_num, hset2_h.out, hbs_h.out⟩
            case measure => simp [intOf]; omega
        · have hje : j = b1 + b2 := by omega
          subst hje
          have hi3 : IS wr (some G) N (pB a1 a2 b1 b2 u) := by unfold pB; rw [← hN_h.out]; exact his
          have hsl : Sl (wr.alloc (.cells #[.slice (some G) N N] 23)) 23 1 A' q1 c' (ys.map Hd.val) := by
           have := (hO_h.out.sl.below hbr).alloc (.cells #[.slice (some G) N N] 23)
           rwa [hyl_h.out] at this
          have hpl : (pB a1 a2 b1 b2 u).length = N := by unfold pB; rw [layTo_length, hN_h.out]
          clear his k0i k1i; have hi3_h := lH hi3; have hsl_h := lH hsl; have hbr_h := lH hbr; have hpl_h := lH hpl; clear hi3 hsl hbr hpl
          go_wp2_with (at_builtin; refine wpList_append_Sl _ rfl _ _ _ rfl 23 Tryz.underlying27 info_ints rfl (by omega) rfl (hsl_h.out) rfl (news := [.slice (some G) N N]) rfl (Sl.rdc (Sl.laid wr 23 1 1 #[.slice (some G) N N] (by unfold maxLen; omega) rfl)) (by intro u hu; simp at hu; subst hu; rfl) (by unfold maxLen; omega) (by omega) ?_; intro A3 c3 w3 hsA3 hA3 hkA3)
          have hal : Below wr.heap.size wr (wr.alloc (.cells #[.slice (some G) N N] 23)) := below_alloc _ _
          have hO2 := hO_h.out.snoc (w1 := wr.alloc (.cells #[.slice (some G) N N] 23)) (below_trans hbr_h.out hal hbr_h.out.size) (x := (some G, N, pB a1 a2 b1 b2 u)) (hi3_h.out.below hal) (fun b hb hb' => by
           have h1 := hO_h.out.sl.lt b hb'
           have h2 := hG_h.out
           obtain rfl : b = G.block := by simpa using hb
           omega) (by rw [hyl_h.out]) (by show Sl w3 _ 1 A3 (q1 + 1) c3 (ys.map Hd.val ++ [.slice (some G) (pB a1 a2 b1 b2 u).length N]); rw [hpl_h.out]; exact hsA3) hA3 hkA3
          clear hsA3 hA3 hkA3; have hO2_h := lH hO2; clear hO2
          go_roundw
          case rel => exact ⟨k + 1, A3, c3, ys ++ [(some G, N, pB a1 a2 b1 b2 u)], q1 + 1, by omega, by go_num, by have := hq0_h.out; omega, rfl, by rw [List.length_append, hyl_h.out]; rfl, by rw [List.map_append, hym_h.out, List.take_add_one, hyL_h.out]; simp, hO2_h.out⟩
          case measure => simp [intOf]; omega
     · obtain rfl : mb = k := by omega
       have hym2 : ys.map (fun h : Hd => h.2.2) = X := by rw [hym, List.take_of_length_le (by rw [hLmb_h.out]; exact Nat.le_refl _), hX_h.out]
       have hC := rlOf_any p (lf : Int) (rt : Int) N A' c' ys wr hO.rdr hflda_h.out (by have := hNI_h.out; omega) (by rw [hym2]; have := hmat_h.out; rwa [show X.length = ys.length by rw [← hym2, List.length_map]] at this) (by omega) (by omega)
       rw [hym2, ← hR_h.out, hyl] at hC
       have k2r := box_below k2_h.out hO.below_
       have hBr := below_trans hBd_h.out hO.below_ hBd_h.out.size
       have hzr := hO.below_.size
       clear hym hym2 hyl hO; have hC_h := lH hC; have k2r_h := lH k2r; have hBr_h := lH hBr; have k0r_h := lH k0r; have k1r_h := lH k1r; have hq0_h := lH hq0; clear hC k2r hBr k0r k1r hq0
       go_wp2_with (fail)
       refine (hC_h.out).mono ?_
       rintro e w1 ⟨v1, fp1, rfl, hO1, hf1, hb1⟩
       obtain ⟨A1, n1, c1', rfl⟩ := hO1.shape
       have k2' := box_below k2r_h.out hb1
       have hB1 := below_trans hBr_h.out hb1 hBr_h.out.size
       obtain ⟨⟨d0, d1, d2⟩, g0, g1, g2⟩ := box3 k2'
       obtain ⟨s1, s2⟩ := set3 (a := .int .i64 (lf : Int)) (b := .int .i64 (rt : Int)) (c := .slice A1 n1 c1') k2'
       have hB3 := below_keeps hB1 s2 hB1.size (fun k hk => by omega)
       have hBs := hBr_h.out.size
       have hO3 := hO1.keeps s2 (fun k hk e => by have := hf1 k hk; omega)
       have hf3 := hf1.mono hBs
       clear k2' hB1 hO1 hf1; have s1_h := lH s1; have s2_h := lH s2; have hO3_h := lH hO3; have hf3_h := lH hf3; have hB3_h := lH hB3; clear s1 s2 hO3 hf3 hB3
       go_wp2_with (fail)
       refine bodyPost_ret (results_cell_row rfl _ _ (w.heap.size + 1 + 1) _ _ (0, 0) _ rfl s1_h.out Tryz.underlying29 rfl (by kernel_rfl)) rfl ?_
       exact ⟨_, fp1, rfl, hO3_h.out, hf3_h.out, hB3_h.out⟩
set_option maxRecDepth 8000 in
set_option maxHeartbeats 2000000 in
theorem tensor1_any (ga gb a1 a2 b1 b2 : Nat) (U V : Value) (hU : U.oneCell' = true) (_hV : V.oneCell' = true) (B : Option Addr) (d n : Nat) (u : List Int) (w : World) (h : Sl w 3 1 B n d (ints u)) (hn : n = a1 + a2) (hn2 : a1 + a2 + b1 + b2 ≤ 1000) (hga : w.heap[ga]? = some (.cells #[.int .i64 a1, .int .i64 a2, U] tRel)) (hgb : w.heap[gb]? = some (.cells #[.int .i64 b1, .int .i64 b2, V] tRel)) :
  Calls Tryz.prog 136 #[.slice B n d, .pointer (some ⟨ga, 0, none⟩), .pointer (some ⟨gb, 0, none⟩)] w (RetI w (pA a1 a2 b1 b2 u)) := by
 have hul : u.length = n := by have := h.1; rw [ints_length] at this; omega
 have hres := pA_join (a1 := a1) (a2 := a2) (b1 := b1) (b2 := b2) (u := u) (by omega)
 have hl1 : (u.take a1).length = a1 := by rw [List.length_take]; omega
 have hl2 : (u.drop a1).length = a2 := by rw [List.length_drop]; omega
 have hF := And.intro hga hgb
 clear hga hgb; have hn_h := lH hn; have hF_h := lH hF; have h_h := lH h; have hul_h := lH hul; have hl1_h := lH hl1; have hl2_h := lH hl2; have hres_h := lH hres; clear hn hF h hul hl1 hl2 hres
 go_enter Tryz.func136, Tryz.ntmps136
 go_wp2_with (fail)
 have hbd : Below w.heap.size w w.drew := below_drewN (Below.refl _ _) 1
 refine beginH (fun w' => w'.heap[ga]? = some (.cells #[.int .i64 a1, .int .i64 a2, U] tRel) ∧ w'.heap[gb]? = some (.cells #[.int .i64 b1, .int .i64 b2, V] tRel)) (by kernel_rfl) ?_
 generalize w.drew = W0 at hbd ⊢
 have hF0 := And.intro (box_below hF_h.out.1 hbd) (box_below hF_h.out.2 hbd)
 have h0 := h_h.out.below hbd
 have hB0 := hbd
 clear hF_h h_h hbd; have hF0_h := lH hF0; have h0_h := lH h0; have hB0_h := lH hB0; clear hF0 h0 hB0
 refine tkH 0 ?_ rfl hF0_h.out (fun W' hW' => ?_) ?_; rotate_left; · (obtain ⟨⟨y0, y1, y2⟩, y3, y4, y5⟩ := box3 hW'.1; obtain ⟨⟨x0, x1, x2⟩, x3, x4, x5⟩ := box3 hW'.2; clear hW'; go_simp; first | done | with_reducible rfl)
 simp only [Act.put, nS]
 refine tkH 1 ?_ rfl hF0_h.out (fun W' hW' => ?_) ?_; rotate_left; · (obtain ⟨⟨y0, y1, y2⟩, y3, y4, y5⟩ := box3 hW'.1; obtain ⟨⟨x0, x1, x2⟩, x3, x4, x5⟩ := box3 hW'.2; clear hW'; go_simp; first | done | with_reducible rfl)
 simp only [Act.put, nS]
 refine tkH 3 ?_ rfl hF0_h.out (fun W' hW' => ?_) ?_; rotate_left; · (obtain ⟨⟨y0, y1, y2⟩, y3, y4, y5⟩ := box3 hW'.1; obtain ⟨⟨x0, x1, x2⟩, x3, x4, x5⟩ := box3 hW'.2; clear hW'; go_simp; first | done | with_reducible rfl)
 simp only [Act.put, nS]
 refine tkH 4 ?_ rfl hF0_h.out (fun W' hW' => ?_) ?_; rotate_left; · (obtain ⟨⟨y0, y1, y2⟩, y3, y4, y5⟩ := box3 hW'.1; obtain ⟨⟨x0, x1, x2⟩, x3, x4, x5⟩ := box3 hW'.2; clear hW'; go_simp; first | done | with_reducible rfl)
 simp only [Act.put, nS]
 refine tkH 6 ?_ rfl hF0_h.out (fun W' hW' => ?_) ?_; rotate_left; · (obtain ⟨⟨y0, y1, y2⟩, y3, y4, y5⟩ := box3 hW'.1; obtain ⟨⟨x0, x1, x2⟩, x3, x4, x5⟩ := box3 hW'.2; clear hW'; go_simp; first | done | with_reducible rfl)
 simp only [Act.put, nS]
 refine tkH 7 ?_ rfl hF0_h.out (fun W' hW' => ?_) ?_; rotate_left; · (obtain ⟨⟨y0, y1, y2⟩, y3, y4, y5⟩ := box3 hW'.1; obtain ⟨⟨x0, x1, x2⟩, x3, x4, x5⟩ := box3 hW'.2; clear hW'; go_simp; first | done | with_reducible rfl)
 simp only [Act.put, nS]
 refine tkH 9 ?_ rfl hF0_h.out (fun W' hW' => ?_) ?_; rotate_left; · (obtain ⟨⟨y0, y1, y2⟩, y3, y4, y5⟩ := box3 hW'.1; obtain ⟨⟨x0, x1, x2⟩, x3, x4, x5⟩ := box3 hW'.2; clear hW'; go_simp; first | done | with_reducible rfl)
 simp only [Act.put, nS]
 refine tkH 10 ?_ rfl hF0_h.out (fun W' hW' => ?_) ?_; rotate_left; · (obtain ⟨⟨y0, y1, y2⟩, y3, y4, y5⟩ := box3 hW'.1; obtain ⟨⟨x0, x1, x2⟩, x3, x4, x5⟩ := box3 hW'.2; clear hW'; go_simp; first | done | with_reducible rfl)
 simp only [Act.put, nS]
 refine' callH 2 (f := _) (args := _) rfl (by kernel_rfl) (by rfl) ?_ ?_; rotate_left 2; · (go_simp; first | done | with_reducible rfl | (constructor <;> with_reducible rfl))
 refine (first_any a1 (a2 : Int) U hU B d n u W0 h0_h.out (by have := hn_h.out; omega)).mono ?_
 rintro e W1 ⟨B0, rfl, hi0, hf0, hb0⟩
 have hF1 := And.intro (box_below hF0_h.out.1 hb0) (box_below hF0_h.out.2 hb0)
 refine ⟨_, rfl, hF1, ?_⟩
 simp only [Act.put, nS]
 have h1 := h0_h.out.below hb0
 have hB1 := below_trans hB0_h.out hb0 hB0_h.out.size
 clear hf0 hb0; have hF1_h := lH hF1; have h1_h := lH h1; have hB1_h := lH hB1; have hi0_h := lH hi0; clear hF1 h1 hB1 hi0
 refine' callH 5 (f := _) (args := _) rfl (by kernel_rfl) (by rfl) ?_ ?_; rotate_left 2; · (go_simp; first | done | with_reducible rfl | (constructor <;> with_reducible rfl))
 refine (zeros_any b1 W1 (by omega)).mono ?_
 rintro e W2 ⟨B1, c1, rfl, hi1, hf1, hb1⟩
 rw [List.length_replicate]
 have hF2 := And.intro (box_below hF1_h.out.1 hb1) (box_below hF1_h.out.2 hb1)
 refine ⟨_, rfl, hF2, ?_⟩
 simp only [Act.put, nS]
 have h2 := h1_h.out.below hb1
 have hB2 := below_trans hB1_h.out hb1 hB1_h.out.size
 have hi0 := hi0_h.out.below hb1
 clear hi0_h; clear hf1 hb1; have hF2_h := lH hF2; have h2_h := lH h2; have hB2_h := lH hB2; have hi0_h := lH hi0; have hi1_h := lH hi1; clear hF2 h2 hB2 hi0 hi1
 refine' callH 8 (f := _) (args := _) rfl (by kernel_rfl) (by rfl) ?_ ?_; rotate_left 2; · (go_simp; first | done | with_reducible rfl | (constructor <;> with_reducible rfl))
 refine (second_any a1 (a2 : Int) U hU B d n a2 u W2 h2_h.out (by have := hn_h.out; omega)).mono ?_
 rintro e W3 ⟨B2, c2, rfl, hi2, hf2, hb2⟩
 have hF3 := And.intro (box_below hF2_h.out.1 hb2) (box_below hF2_h.out.2 hb2)
 refine ⟨_, rfl, hF3, ?_⟩
 simp only [Act.put, nS]
 have h3 := h2_h.out.below hb2
 have hB3 := below_trans hB2_h.out hb2 hB2_h.out.size
 have hi0 := hi0_h.out.below hb2
 clear hi0_h
 have hi1 := hi1_h.out.below hb2
 clear hi1_h; clear hf2 hb2; have hF3_h := lH hF3; have h3_h := lH h3; have hB3_h := lH hB3; have hi0_h := lH hi0; have hi1_h := lH hi1; have hi2_h := lH hi2; clear hF3 h3 hB3 hi0 hi1 hi2
 refine' callH 11 (f := _) (args := _) rfl (by kernel_rfl) (by rfl) ?_ ?_; rotate_left 2; · (go_simp; first | done | with_reducible rfl | (constructor <;> with_reducible rfl))
 refine (zeros_any b2 W3 (by omega)).mono ?_
 rintro e W4 ⟨B3, c3, rfl, hi3, hf3, hb3⟩
 rw [List.length_replicate]
 have hF4 := And.intro (box_below hF3_h.out.1 hb3) (box_below hF3_h.out.2 hb3)
 refine ⟨_, rfl, hF4, ?_⟩
 simp only [Act.put, nS]
 have h4 := h3_h.out.below hb3
 have hB4 := below_trans hB3_h.out hb3 hB3_h.out.size
 have hi0 := hi0_h.out.below hb3
 clear hi0_h
 have hi1 := hi1_h.out.below hb3
 clear hi1_h
 have hi2 := hi2_h.out.below hb3
 clear hi2_h; clear hf3 hb3; have hF4_h := lH hF4; have h4_h := lH h4; have hB4_h := lH hB4; have hi0_h := lH hi0; have hi1_h := lH hi1; have hi2_h := lH hi2; have hi3_h := lH hi3; clear hF4 h4 hB4 hi0 hi1 hi2 hi3
 have hr0 : RdI W4 B0 (u.take a1) := fun j x hj => by
  obtain ⟨ad, hA, _, hc, _⟩ := hi0_h.out.cell (ints_get hj)
  exact ⟨ad, hA, hc⟩
 have hr1 : RdI W4 B1 (List.replicate b1 0) := hi1_h.out.rd
 have hr2 : RdI W4 B2 (u.drop a1) := fun j x hj => by
  obtain ⟨ad, hA, _, hc, _⟩ := hi2_h.out.cell (ints_get hj)
  exact ⟨ad, hA, hc⟩
 have hr3 : RdI W4 B3 (List.replicate b2 0) := hi3_h.out.rd
 have hlr := laid_rdr (w := W4) [(B0, d, u.take a1), (B1, c1, List.replicate b1 0), (B2, c2, u.drop a1), (B3, c3, List.replicate b2 0)] (fun x hx => by
  simp only [List.mem_cons, List.not_mem_nil, or_false] at hx
  rcases hx with rfl | rfl | rfl | rfl
  · exact hr0
  · exact hr1
  · exact hr2
  · exact hr3) (by unfold maxLen; simp)
 have e : (([(B0, d, u.take a1), (B1, c1, List.replicate b1 0), (B2, c2, u.drop a1), (B3, c3, List.replicate b2 0)] : List Hd).map Hd.val).toArray = #[.slice B0 a1 d, .slice B1 b1 c1, .slice B2 a2 c2, .slice B3 b2 c3] := by
  simp [Hd.val, hl1_h.out, hl2_h.out]
 rw [e] at hlr
 have hFn := And.intro (box_below hF4_h.out.1 (below_alloc W4 (.cells #[.slice B0 a1 d, .slice B1 b1 c1, .slice B2 a2 c2, .slice B3 b2 c3] 23))) (box_below hF4_h.out.2 (below_alloc W4 (.cells #[.slice B0 a1 d, .slice B1 b1 c1, .slice B2 a2 c2, .slice B3 b2 c3] 23)))
 have e2 : (([(B0, d, u.take a1), (B1, c1, List.replicate b1 0), (B2, c2, u.drop a1), (B3, c3, List.replicate b2 0)] : List Hd).map fun h : Hd => h.2.2).flatten = pA a1 a2 b1 b2 u := by rw [hres_h.out]; simp
 have hJ := joined_any (some ⟨W4.heap.size, 0, none⟩) 4 [(B0, d, u.take a1), (B1, c1, List.replicate b1 0), (B2, c2, u.drop a1), (B3, c3, List.replicate b2 0)] _ hlr (by simp) (by rw [e2, hres_h.out]; simp only [List.length_append, List.length_replicate, hl1_h.out, hl2_h.out]; omega)
 rw [e2] at hJ
 have hBn := below_trans hB4_h.out (below_alloc W4 (.cells #[.slice B0 a1 d, .slice B1 b1 c1, .slice B2 a2 c2, .slice B3 b2 c3] 23)) hB4_h.out.size
 clear hlr e e2 hr0 hr1 hr2 hr3; have hFn_h := lH hFn; have hJ_h := lH hJ; have hBn_h := lH hBn; clear hFn hJ hBn
 refine oneH 12 rfl (by kernel_rfl) (by rfl) (fun K hK => ?_)
 go_simp
 refine hK _ _ hFn_h.out ?_
 clear hK K
 refine' callH 13 (f := _) (args := _) rfl (by kernel_rfl) (by rfl) ?_ ?_; rotate_left 2; · (go_simp; first | done | with_reducible rfl | (constructor <;> with_reducible rfl))
 refine (hJ_h.out).mono ?_
 rintro e w4 ⟨A4, c4, rfl, hi4, hf4, hb4⟩
 have hFm := And.intro (box_below hFn_h.out.1 hb4) (box_below hFn_h.out.2 hb4)
 refine ⟨_, rfl, hFm, ?_⟩
 simp only [Act.put, nS]
 have hret : RetI w (pA a1 a2 b1 b2 u) (.returned (.slice A4 (pA a1 a2 b1 b2 u).length c4)) w4 := ⟨A4, c4, rfl, hi4, hf4.mono hBn_h.out.size, below_trans hBn_h.out hb4 hBn_h.out.size⟩
 clear hi4 hf4 hb4; have hret_h := lH hret; have hFm_h := lH hFm; clear hret hFm
 refine tkH 14 ?_ rfl hFm_h.out (fun W' hW' => ?_) ?_; rotate_left; · (skip; clear hW'; go_simp; first | done | with_reducible rfl)
 simp only [Act.put, nS]
 refine doneH (by kernel_rfl) ?_
 go_wp2_with (fail)
 go_ret
 exact hret_h.out
set_option maxRecDepth 8000 in
set_option maxHeartbeats 2000000 in
theorem tensor2_any (ga gb a1 a2 b1 b2 : Nat) (U V : Value) (_hU : U.oneCell' = true) (hV : V.oneCell' = true) (B : Option Addr) (d n : Nat) (u : List Int) (w : World) (h : Sl w 3 1 B n d (ints u)) (hn : n = b1 + b2) (hn2 : a1 + a2 + b1 + b2 ≤ 1000) (hga : w.heap[ga]? = some (.cells #[.int .i64 a1, .int .i64 a2, U] tRel)) (hgb : w.heap[gb]? = some (.cells #[.int .i64 b1, .int .i64 b2, V] tRel)) :
  Calls Tryz.prog 137 #[.slice B n d, .pointer (some ⟨ga, 0, none⟩), .pointer (some ⟨gb, 0, none⟩)] w (RetI w (pB a1 a2 b1 b2 u)) := by
 have hul : u.length = n := by have := h.1; rw [ints_length] at this; omega
 have hres := pB_join (a1 := a1) (a2 := a2) (b1 := b1) (b2 := b2) (u := u) (by omega)
 have hl1 : (u.take b1).length = b1 := by rw [List.length_take]; omega
 have hl2 : (u.drop b1).length = b2 := by rw [List.length_drop]; omega
 have hF := And.intro hga hgb
 clear hga hgb; have hn_h := lH hn; have hF_h := lH hF; have h_h := lH h; have hul_h := lH hul; have hl1_h := lH hl1; have hl2_h := lH hl2; have hres_h := lH hres; clear hn hF h hul hl1 hl2 hres
 go_enter Tryz.func137, Tryz.ntmps137
 go_wp2_with (fail)
 have hbd : Below w.heap.size w w.drew := below_drewN (Below.refl _ _) 1
 refine beginH (fun w' => w'.heap[ga]? = some (.cells #[.int .i64 a1, .int .i64 a2, U] tRel) ∧ w'.heap[gb]? = some (.cells #[.int .i64 b1, .int .i64 b2, V] tRel)) (by kernel_rfl) ?_
 generalize w.drew = W0 at hbd ⊢
 have hF0 := And.intro (box_below hF_h.out.1 hbd) (box_below hF_h.out.2 hbd)
 have h0 := h_h.out.below hbd
 have hB0 := hbd
 clear hF_h h_h hbd; have hF0_h := lH hF0; have h0_h := lH h0; have hB0_h := lH hB0; clear hF0 h0 hB0
 refine tkH 0 ?_ rfl hF0_h.out (fun W' hW' => ?_) ?_; rotate_left; · (obtain ⟨⟨y0, y1, y2⟩, y3, y4, y5⟩ := box3 hW'.1; obtain ⟨⟨x0, x1, x2⟩, x3, x4, x5⟩ := box3 hW'.2; clear hW'; go_simp; first | done | with_reducible rfl)
 simp only [Act.put, nS]
 refine tkH 1 ?_ rfl hF0_h.out (fun W' hW' => ?_) ?_; rotate_left; · (obtain ⟨⟨y0, y1, y2⟩, y3, y4, y5⟩ := box3 hW'.1; obtain ⟨⟨x0, x1, x2⟩, x3, x4, x5⟩ := box3 hW'.2; clear hW'; go_simp; first | done | with_reducible rfl)
 simp only [Act.put, nS]
 refine tkH 3 ?_ rfl hF0_h.out (fun W' hW' => ?_) ?_; rotate_left; · (obtain ⟨⟨y0, y1, y2⟩, y3, y4, y5⟩ := box3 hW'.1; obtain ⟨⟨x0, x1, x2⟩, x3, x4, x5⟩ := box3 hW'.2; clear hW'; go_simp; first | done | with_reducible rfl)
 simp only [Act.put, nS]
 refine tkH 4 ?_ rfl hF0_h.out (fun W' hW' => ?_) ?_; rotate_left; · (obtain ⟨⟨y0, y1, y2⟩, y3, y4, y5⟩ := box3 hW'.1; obtain ⟨⟨x0, x1, x2⟩, x3, x4, x5⟩ := box3 hW'.2; clear hW'; go_simp; first | done | with_reducible rfl)
 simp only [Act.put, nS]
 refine tkH 6 ?_ rfl hF0_h.out (fun W' hW' => ?_) ?_; rotate_left; · (obtain ⟨⟨y0, y1, y2⟩, y3, y4, y5⟩ := box3 hW'.1; obtain ⟨⟨x0, x1, x2⟩, x3, x4, x5⟩ := box3 hW'.2; clear hW'; go_simp; first | done | with_reducible rfl)
 simp only [Act.put, nS]
 refine tkH 7 ?_ rfl hF0_h.out (fun W' hW' => ?_) ?_; rotate_left; · (obtain ⟨⟨y0, y1, y2⟩, y3, y4, y5⟩ := box3 hW'.1; obtain ⟨⟨x0, x1, x2⟩, x3, x4, x5⟩ := box3 hW'.2; clear hW'; go_simp; first | done | with_reducible rfl)
 simp only [Act.put, nS]
 refine tkH 9 ?_ rfl hF0_h.out (fun W' hW' => ?_) ?_; rotate_left; · (obtain ⟨⟨y0, y1, y2⟩, y3, y4, y5⟩ := box3 hW'.1; obtain ⟨⟨x0, x1, x2⟩, x3, x4, x5⟩ := box3 hW'.2; clear hW'; go_simp; first | done | with_reducible rfl)
 simp only [Act.put, nS]
 refine tkH 10 ?_ rfl hF0_h.out (fun W' hW' => ?_) ?_; rotate_left; · (obtain ⟨⟨y0, y1, y2⟩, y3, y4, y5⟩ := box3 hW'.1; obtain ⟨⟨x0, x1, x2⟩, x3, x4, x5⟩ := box3 hW'.2; clear hW'; go_simp; first | done | with_reducible rfl)
 simp only [Act.put, nS]
 refine' callH 2 (f := _) (args := _) rfl (by kernel_rfl) (by rfl) ?_ ?_; rotate_left 2; · (go_simp; first | done | with_reducible rfl | (constructor <;> with_reducible rfl))
 refine (zeros_any a1 W0 (by omega)).mono ?_
 rintro e W1 ⟨B0, c0, rfl, hi0, hf0, hb0⟩
 rw [List.length_replicate]
 have hF1 := And.intro (box_below hF0_h.out.1 hb0) (box_below hF0_h.out.2 hb0)
 refine ⟨_, rfl, hF1, ?_⟩
 simp only [Act.put, nS]
 have h1 := h0_h.out.below hb0
 have hB1 := below_trans hB0_h.out hb0 hB0_h.out.size
 clear hf0 hb0; have hF1_h := lH hF1; have h1_h := lH h1; have hB1_h := lH hB1; have hi0_h := lH hi0; clear hF1 h1 hB1 hi0
 refine' callH 5 (f := _) (args := _) rfl (by kernel_rfl) (by rfl) ?_ ?_; rotate_left 2; · (go_simp; first | done | with_reducible rfl | (constructor <;> with_reducible rfl))
 refine (first_any b1 (b2 : Int) V hV B d n u W1 h1_h.out (by have := hn_h.out; omega)).mono ?_
 rintro e W2 ⟨B1, rfl, hi1, hf1, hb1⟩
 have hF2 := And.intro (box_below hF1_h.out.1 hb1) (box_below hF1_h.out.2 hb1)
 refine ⟨_, rfl, hF2, ?_⟩
 simp only [Act.put, nS]
 have h2 := h1_h.out.below hb1
 have hB2 := below_trans hB1_h.out hb1 hB1_h.out.size
 have hi0 := hi0_h.out.below hb1
 clear hi0_h; clear hf1 hb1; have hF2_h := lH hF2; have h2_h := lH h2; have hB2_h := lH hB2; have hi0_h := lH hi0; have hi1_h := lH hi1; clear hF2 h2 hB2 hi0 hi1
 refine' callH 8 (f := _) (args := _) rfl (by kernel_rfl) (by rfl) ?_ ?_; rotate_left 2; · (go_simp; first | done | with_reducible rfl | (constructor <;> with_reducible rfl))
 refine (zeros_any a2 W2 (by omega)).mono ?_
 rintro e W3 ⟨B2, c2, rfl, hi2, hf2, hb2⟩
 rw [List.length_replicate]
 have hF3 := And.intro (box_below hF2_h.out.1 hb2) (box_below hF2_h.out.2 hb2)
 refine ⟨_, rfl, hF3, ?_⟩
 simp only [Act.put, nS]
 have h3 := h2_h.out.below hb2
 have hB3 := below_trans hB2_h.out hb2 hB2_h.out.size
 have hi0 := hi0_h.out.below hb2
 clear hi0_h
 have hi1 := hi1_h.out.below hb2
 clear hi1_h; clear hf2 hb2; have hF3_h := lH hF3; have h3_h := lH h3; have hB3_h := lH hB3; have hi0_h := lH hi0; have hi1_h := lH hi1; have hi2_h := lH hi2; clear hF3 h3 hB3 hi0 hi1 hi2
 refine' callH 11 (f := _) (args := _) rfl (by kernel_rfl) (by rfl) ?_ ?_; rotate_left 2; · (go_simp; first | done | with_reducible rfl | (constructor <;> with_reducible rfl))
 refine (second_any b1 (b2 : Int) V hV B d n b2 u W3 h3_h.out (by have := hn_h.out; omega)).mono ?_
 rintro e W4 ⟨B3, c3, rfl, hi3, hf3, hb3⟩
 have hF4 := And.intro (box_below hF3_h.out.1 hb3) (box_below hF3_h.out.2 hb3)
 refine ⟨_, rfl, hF4, ?_⟩
 simp only [Act.put, nS]
 have h4 := h3_h.out.below hb3
 have hB4 := below_trans hB3_h.out hb3 hB3_h.out.size
 have hi0 := hi0_h.out.below hb3
 clear hi0_h
 have hi1 := hi1_h.out.below hb3
 clear hi1_h
 have hi2 := hi2_h.out.below hb3
 clear hi2_h; clear hf3 hb3; have hF4_h := lH hF4; have h4_h := lH h4; have hB4_h := lH hB4; have hi0_h := lH hi0; have hi1_h := lH hi1; have hi2_h := lH hi2; have hi3_h := lH hi3; clear hF4 h4 hB4 hi0 hi1 hi2 hi3
 have hr0 : RdI W4 B0 (List.replicate a1 0) := hi0_h.out.rd
 have hr1 : RdI W4 B1 (u.take b1) := fun j x hj => by
  obtain ⟨ad, hA, _, hc, _⟩ := hi1_h.out.cell (ints_get hj)
  exact ⟨ad, hA, hc⟩
 have hr2 : RdI W4 B2 (List.replicate a2 0) := hi2_h.out.rd
 have hr3 : RdI W4 B3 (u.drop b1) := fun j x hj => by
  obtain ⟨ad, hA, _, hc, _⟩ := hi3_h.out.cell (ints_get hj)
  exact ⟨ad, hA, hc⟩
 have hlr := laid_rdr (w := W4) [(B0, c0, List.replicate a1 0), (B1, d, u.take b1), (B2, c2, List.replicate a2 0), (B3, c3, u.drop b1)] (fun x hx => by
  simp only [List.mem_cons, List.not_mem_nil, or_false] at hx
  rcases hx with rfl | rfl | rfl | rfl
  · exact hr0
  · exact hr1
  · exact hr2
  · exact hr3) (by unfold maxLen; simp)
 have e : (([(B0, c0, List.replicate a1 0), (B1, d, u.take b1), (B2, c2, List.replicate a2 0), (B3, c3, u.drop b1)] : List Hd).map Hd.val).toArray = #[.slice B0 a1 c0, .slice B1 b1 d, .slice B2 a2 c2, .slice B3 b2 c3] := by
  simp [Hd.val, hl1_h.out, hl2_h.out]
 rw [e] at hlr
 have hFn := And.intro (box_below hF4_h.out.1 (below_alloc W4 (.cells #[.slice B0 a1 c0, .slice B1 b1 d, .slice B2 a2 c2, .slice B3 b2 c3] 23))) (box_below hF4_h.out.2 (below_alloc W4 (.cells #[.slice B0 a1 c0, .slice B1 b1 d, .slice B2 a2 c2, .slice B3 b2 c3] 23)))
 have e2 : (([(B0, c0, List.replicate a1 0), (B1, d, u.take b1), (B2, c2, List.replicate a2 0), (B3, c3, u.drop b1)] : List Hd).map fun h : Hd => h.2.2).flatten = pB a1 a2 b1 b2 u := by rw [hres_h.out]; simp
 have hJ := joined_any (some ⟨W4.heap.size, 0, none⟩) 4 [(B0, c0, List.replicate a1 0), (B1, d, u.take b1), (B2, c2, List.replicate a2 0), (B3, c3, u.drop b1)] _ hlr (by simp) (by rw [e2, hres_h.out]; simp only [List.length_append, List.length_replicate, hl1_h.out, hl2_h.out]; omega)
 rw [e2] at hJ
 have hBn := below_trans hB4_h.out (below_alloc W4 (.cells #[.slice B0 a1 c0, .slice B1 b1 d, .slice B2 a2 c2, .slice B3 b2 c3] 23)) hB4_h.out.size
 clear hlr e e2 hr0 hr1 hr2 hr3; have hFn_h := lH hFn; have hJ_h := lH hJ; have hBn_h := lH hBn; clear hFn hJ hBn
 refine oneH 12 rfl (by kernel_rfl) (by rfl) (fun K hK => ?_)
 go_simp
 refine hK _ _ hFn_h.out ?_
 clear hK K
 refine' callH 13 (f := _) (args := _) rfl (by kernel_rfl) (by rfl) ?_ ?_; rotate_left 2; · (go_simp; first | done | with_reducible rfl | (constructor <;> with_reducible rfl))
 refine (hJ_h.out).mono ?_
 rintro e w4 ⟨A4, c4, rfl, hi4, hf4, hb4⟩
 have hFm := And.intro (box_below hFn_h.out.1 hb4) (box_below hFn_h.out.2 hb4)
 refine ⟨_, rfl, hFm, ?_⟩
 simp only [Act.put, nS]
 have hret : RetI w (pB a1 a2 b1 b2 u) (.returned (.slice A4 (pB a1 a2 b1 b2 u).length c4)) w4 := ⟨A4, c4, rfl, hi4, hf4.mono hBn_h.out.size, below_trans hBn_h.out hb4 hBn_h.out.size⟩
 clear hi4 hf4 hb4; have hret_h := lH hret; have hFm_h := lH hFm; clear hret hFm
 refine tkH 14 ?_ rfl hFm_h.out (fun W' hW' => ?_) ?_; rotate_left; · (skip; clear hW'; go_simp; first | done | with_reducible rfl)
 simp only [Act.put, nS]
 refine doneH (by kernel_rfl) ?_
 go_wp2_with (fail)
 go_ret
 exact hret_h.out
set_option maxRecDepth 8000 in
set_option maxHeartbeats 1000000 in
theorem each2_any (F : FuncId) (first cap : Array Value) (g : List Int → List Int) (a b : Int) (A : Option Addr) (c : Nat) (hs : List Hd) (w : World) (hR : RdR w A hs) (hI : ∀ x, x ∈ hs → IS w x.1 x.2.1 x.2.2) (hl : hs.length ≤ 1048576) (hE : ∀ (args : Array Value) (w : World), (callFunc F args).run Tryz.prog w = .ok (.enter F args) w)
  (hF : ∀ x, x ∈ hs → ∀ W', Below w.heap.size w W' → Calls Tryz.prog F (first.push (.slice x.1 x.2.2.length x.2.1) ++ cap) W' fun e w'' => ∃ B c', e = .returned (.slice B (g x.2.2).length c') ∧ IS w'' B c' (g x.2.2) ∧ (∀ b, b ∈ fpA B → b ∈ fpA x.1 ∨ W'.heap.size ≤ b) ∧ Below W'.heap.size W' w'') :
  Calls Tryz.prog 104 #[.agg #[.int .i64 a, .int .i64 b, .slice A hs.length c], .func (.func F) first cap] w fun e w' => ∃ A' c' gs, e = .returned (.slice A' hs.length c') ∧ gs.map (fun h : Hd => h.2.2) = hs.map (fun h : Hd => g h.2.2) ∧ RdO w w' A' c' gs ∧ (∀ x, x ∈ gs → ∀ b, b ∈ fpA x.1 → b ∈ fpR hs ∨ w.heap.size ≤ b) := by
 obtain ⟨m, hm⟩ : ∃ m, m = hs.length := ⟨_, rfl⟩
 rw [← hm] at hl ⊢
 obtain ⟨W, hW, b0, k0⟩ := alloc_box w (.cells #[.int .i64 a, .int .i64 b, .slice A m c] tRel)
 obtain ⟨⟨c0, c1, c2⟩, f0, f1, f2⟩ := box3 k0
 have hO0 := RdO.start w W b0
 have hz0 := (Array.getElem?_eq_some_iff.1 k0).1
 have hm_h := lH hm; have hF_h := lH hF; have hI_h := lH hI; have hR_h := lH hR; have k0_h := lH k0; have b0_h := lH b0; have hO0_h := lH hO0; have hE_h := lH hE; clear hm hF hI hR k0 b0 hO0 hE
 go_enter Tryz.func104, Tryz.ntmps104
 go_upto_region 1 with (fail)
 rw [← hW]
 clear hW
 go_wp2_with (fail)
 clear c0 c1 c2 f0 f1 f2
 go_loopw [12, 5] (fun i v wr => ∃ (k : Nat) (A' : Option Addr) (c' : Nat) (gs : List Hd), k ≤ m ∧ i = .int .i64 k ∧ v = .slice A' k c' ∧ gs.length = k ∧ gs.map (fun h : Hd => h.2.2) = (hs.take k).map (fun h : Hd => g h.2.2) ∧ RdO w wr A' c' gs ∧ (∀ x, x ∈ gs → ∀ b, b ∈ fpA x.1 → b ∈ fpR hs ∨ w.heap.size ≤ b)) (fun i _ _ => m - (intOf i).toNat)
 case atStart => exact ⟨0, _, 0, [], Nat.zero_le _, rfl, rfl, rfl, rfl, hO0_h.out, fun x hx => (by cases hx)⟩
 case round =>
  obtain ⟨k, A', c', gs, hk, rfl, rfl, hgl, hgm, hO, hext⟩ := hrel
  by_cases hlt : k < m
  · obtain ⟨x, hx⟩ : ∃ x, hs[k]? = some x := ⟨_, List.getElem?_eq_getElem (by rw [← hm_h.out]; exact hlt)⟩
    obtain ⟨ad, rfl, hc⟩ := (hR_h.out.below hO.below_).1 k x hx
    obtain ⟨B, d, l⟩ := x
    have hxm := List.mem_of_getElem? hx
    have hC := hF_h.out _ hxm wr hO.below_
    have hBlt := (hI_h.out _ hxm).lt
    have hc' : wr.cell? (ad.add k) = some (.slice B l.length d) := hc
    obtain ⟨q, hq⟩ : ∃ q, q = l.length := ⟨_, rfl⟩
    obtain ⟨r, hr⟩ : ∃ r, r = (g l).length := ⟨_, rfl⟩
    simp only [← hq, ← hr] at hC
    rw [← hq] at hc'
    have hkI : (k : Int) < (m : Int) := by omega
    clear hc hxm; have hgl_h := lH hgl; have hgm_h := lH hgm; have hO_h := lH hO; have hC_h := lH hC; have hq_h := lH hq; have hr_h := lH hr; have hx_h := lH hx; have hBlt_h := lH hBlt; have hext_h := lH hext; clear hgl hgm hO hC hq hr hx hBlt hext
    have hE1 := hE_h.out (first.push (.slice B q d) ++ cap) wr
    go_wp2_with (fail)
    refine (hC_h.out).mono ?_
    rintro e w1 ⟨B1, d1, rfl, hI1, hfp1, hb1⟩
    have hsl : Sl (w1.alloc (.cells #[.slice B1 r d1] 23)) 23 1 A' k c' (gs.map Hd.val) := by
     have := (hO_h.out.sl.below hb1).alloc (.cells #[.slice B1 r d1] 23)
     rwa [hgl_h.out] at this
    clear hc' hE1; have hI1_h := lH hI1; have hfp1_h := lH hfp1; have hb1_h := lH hb1; have hsl_h := lH hsl; clear hI1 hfp1 hb1 hsl
    go_wp2_with (at_builtin; refine wpList_append_Sl _ rfl _ _ _ rfl 23 Tryz.underlying27 info_ints rfl (by omega) rfl (hsl_h.out) rfl (news := [.slice B1 r d1]) rfl (Sl.rdc (Sl.laid w1 23 1 1 #[.slice B1 r d1] (by unfold maxLen; omega) rfl)) (by intro u hu; simp at hu; subst hu; rfl) (by unfold maxLen; omega) (by omega) ?_; intro A3 c3 w3 hsA3 hA3 hkA3)
    have hal : Below w1.heap.size w1 (w1.alloc (.cells #[.slice B1 r d1] 23)) := below_alloc _ _
    have hO2 := hO_h.out.snoc (w1 := w1.alloc (.cells #[.slice B1 r d1] 23)) (below_trans hb1_h.out hal hb1_h.out.size) (x := (B1, d1, g l)) (hI1_h.out.below hal) (fun b hb hb' => by
     have h1 := hO_h.out.sl.lt b hb'
     have h2 := hO_h.out.new b hb'
     rcases hfp1_h.out b hb with h3 | h3
     · have := hBlt_h.out b h3; omega
     · omega) (by rw [hgl_h.out]) (by show Sl w3 _ 1 A3 (k + 1) c3 (gs.map Hd.val ++ [.slice B1 (g l).length d1]); rw [← hr_h.out]; exact hsA3) hA3 hkA3
    clear hsA3 hA3 hkA3
    have hxm2 := List.mem_of_getElem? hx_h.out
    have hext2 : ∀ x, x ∈ gs ++ [((B1, d1, g l) : Hd)] → ∀ b, b ∈ fpA x.1 → b ∈ fpR hs ∨ w.heap.size ≤ b := fun x hx b hb => by
     rcases List.mem_append.1 hx with hx | hx
     · exact hext_h.out x hx b hb
     · obtain rfl := List.mem_singleton.1 hx
       rcases hfp1_h.out b hb with h3 | h3
       · exact .inl (mem_fpR.2 ⟨_, hxm2, h3⟩)
       · right; have := hO_h.out.below_.size; omega
    have hext2_h := lH hext2; clear hext2 hxm2; have hO2_h := lH hO2; clear hO2
    go_roundw
    case rel => exact ⟨k + 1, A3, c3, gs ++ [(B1, d1, g l)], by omega, by go_num, rfl, by rw [List.length_append, hgl_h.out]; rfl, by rw [List.map_append, hgm_h.out, List.take_add_one, hx_h.out]; simp, hO2_h.out, hext2_h.out⟩
    case measure => simp [intOf]; omega
  · obtain rfl : k = m := by omega
    have hgm2 : gs.map (fun h : Hd => h.2.2) = hs.map (fun h : Hd => g h.2.2) := by rw [hgm, List.take_of_length_le (by rw [← hm_h.out]; exact Nat.le_refl _)]
    clear hgm; have hgl_h := lH hgl; have hgm2_h := lH hgm2; have hO_h := lH hO; have hext_h := lH hext; clear hgl hgm2 hO hext
    go_wp2_with (fail)
    go_ret
    exact ⟨A', c', gs, rfl, hgm2_h.out, hO_h.out, hext_h.out⟩
set_option maxRecDepth 100000 in
set_option maxHeartbeats 8000000 in
theorem tensor_any (p : Int) {v v' : Value} {s t : Sys} {fp fp' : List Nat} (w : World) (ha : OwSys w v s fp) (hb : OwSys w v' t fp') (hs : RelOk p s) (ht : RelOk p t) (hsum : s.1 + t.1 + s.2.1 + t.2.1 ≤ 24) :
  Calls Tryz.prog 94 #[.int .i64 p, v, v'] w fun e w' => ∃ v' fp', e = .returned v' ∧ OwSys w' v' (tenV p s t) fp' ∧ FreshL w.heap.size fp' ∧ Below w.heap.size w w' := by
 have hmat0 := ten_mat hs ht
 have htl := tenRows_len s t
 obtain ⟨Aa, ca, ga, rfl, hLa0, hOa, rfl⟩ := ha
 obtain ⟨ia, ja, La⟩ := s
 have ha0 : 0 ≤ ia := hs.lo
 have ha1 : 0 ≤ ja := hs.hi
 have ha2 : ia + ja ≤ 24 := hs.sum
 have hflda : fieldB p = true := hs.fld
 have hrowa : ∀ u, u ∈ La → (u.length : Int) = ia + ja ∧ Res p u := fun u hu => hs.row hu
 have hlena : (La.length : Int) ≤ ia + ja := hs.len
 clear hs
 obtain ⟨a1, rfl⟩ : ∃ n : Nat, ia = (n : Int) := ⟨ia.toNat, by omega⟩
 obtain ⟨a2, rfl⟩ : ∃ n : Nat, ja = (n : Int) := ⟨ja.toNat, by omega⟩
 have hLa : La = ga.map (fun h : Hd => h.2.2) := hLa0
 clear hLa0
 obtain ⟨ma, hma⟩ : ∃ m, m = ga.length := ⟨_, rfl⟩
 have hLma : La.length = ma := by rw [hLa, List.length_map, hma]
 have hma24 : (ma : Int) ≤ 24 := by have := hlena; rw [hLma] at this; omega
 obtain ⟨Ab, cb, gb, rfl, hLb0, hOb, rfl⟩ := hb
 obtain ⟨ib, jb, Lb⟩ := t
 have hb0 : 0 ≤ ib := ht.lo
 have hb1 : 0 ≤ jb := ht.hi
 have hb2 : ib + jb ≤ 24 := ht.sum
 have hfldb : fieldB p = true := ht.fld
 have hrowb : ∀ u, u ∈ Lb → (u.length : Int) = ib + jb ∧ Res p u := fun u hu => ht.row hu
 have hlenb : (Lb.length : Int) ≤ ib + jb := ht.len
 clear ht
 obtain ⟨b1, rfl⟩ : ∃ n : Nat, ib = (n : Int) := ⟨ib.toNat, by omega⟩
 obtain ⟨b2, rfl⟩ : ∃ n : Nat, jb = (n : Int) := ⟨jb.toNat, by omega⟩
 have hLb : Lb = gb.map (fun h : Hd => h.2.2) := hLb0
 clear hLb0
 obtain ⟨mb, hmb⟩ : ∃ m, m = gb.length := ⟨_, rfl⟩
 have hLmb : Lb.length = mb := by rw [hLb, List.length_map, hmb]
 have hmb24 : (mb : Int) ≤ 24 := by have := hlenb; rw [hLmb] at this; omega
 obtain ⟨N, hN⟩ : ∃ N, N = a1 + a2 + b1 + b2 := ⟨_, rfl⟩
 obtain ⟨lf, hlf0⟩ : ∃ lf, lf = a1 + b1 := ⟨_, rfl⟩
 obtain ⟨rt, hrt0⟩ : ∃ rt, rt = a2 + b2 := ⟨_, rfl⟩
 obtain ⟨X, hX⟩ : ∃ X, X = La.map (pA a1 a2 b1 b2) ++ Lb.map (pB a1 a2 b1 b2) := ⟨_, rfl⟩
 have hmat : Mat p X.length N X := by rw [hX, hN]; exact hmat0
 obtain ⟨R, hR⟩ : ∃ R, R = redM p N X := ⟨_, rfl⟩
 have hsum' : (a1 : Int) + (b1 : Int) + (a2 : Int) + (b2 : Int) ≤ 24 := hsum
 have hlf : (a1 : Int) + (b1 : Int) = (lf : Int) := by omega
 have hrt : (a2 : Int) + (b2 : Int) = (rt : Int) := by omega
 have hNI : (lf : Int) + (rt : Int) = (N : Int) := by omega
 have hgoal : tenV p ((a1 : Int), (a2 : Int), La) ((b1 : Int), (b2 : Int), Lb) = ((lf : Int), (rt : Int), R) := by
  rw [← hlf, ← hrt, hR, hX, hN]; rfl
 rw [hgoal]
 have hN24 : N ≤ 24 := by omega
 have hlf24 : (lf : Int) ≤ 24 := by omega
 have hrt24 : (rt : Int) ≤ 24 := by omega
 have hb24a : (a1 : Int) ≤ 24 := by omega
 have hb24b : (a2 : Int) ≤ 24 := by omega
 have hb24c : (b1 : Int) ≤ 24 := by omega
 show Calls Tryz.prog _ #[.int .i64 p, .agg #[.int .i64 (a1 : Int), .int .i64 (a2 : Int), .slice Aa ga.length ca], .agg #[.int .i64 (b1 : Int), .int .i64 (b2 : Int), .slice Ab gb.length cb]] w _
 rw [← hma, ← hmb]
 obtain ⟨W, hW, bW, k0, k1, k2⟩ := alloc3 w (.cells #[.int .i64 (a1 : Int), .int .i64 (a2 : Int), .slice Aa ma ca] tRel) (.cells #[.int .i64 (b1 : Int), .int .i64 (b2 : Int), .slice Ab mb cb] tRel) (.cells #[.int .i64 0, .int .i64 0, .slice none 0 0] tRel)
 have hOa := hOa.below bW
 have hOb := hOb.below bW
 obtain ⟨⟨c0, c1, c2⟩, f0, f1, f2⟩ := box3 k0
 have hga : ∀ x, x ∈ ga → x.2.2.length = a1 + a2 := fun x hx => by have := (hrowa _ (by rw [hLa]; exact List.mem_map_of_mem hx)).1; omega
 have hgb : ∀ x, x ∈ gb → x.2.2.length = b1 + b2 := fun x hx => by have := (hrowb _ (by rw [hLb]; exact List.mem_map_of_mem hx)).1; omega
 have hEa := fun (W' : World) (hb : Below W.heap.size W W') (hk0 : W'.heap[w.heap.size]? = some (.cells #[.int .i64 (a1 : Int), .int .i64 (a2 : Int), .slice Aa ma ca] tRel)) (hk1 : W'.heap[w.heap.size + 1]? = some (.cells #[.int .i64 (b1 : Int), .int .i64 (b2 : Int), .slice Ab mb cb] tRel)) => each2_any 136 #[] #[.pointer (some ⟨w.heap.size, 0, none⟩), .pointer (some ⟨w.heap.size + 1, 0, none⟩)] (pA a1 a2 b1 b2) (a1 : Int) (a2 : Int) Aa ca ga W' (hOa.below hb).rd (hOa.below hb).rows (by omega) (fun _ _ => rfl) (fun x hx W2 hb2 => by
  have hI : Sl W2 3 1 x.1 x.2.2.length x.2.1 (ints x.2.2) := ((hOa.below hb).rows x hx).below hb2
  have := tensor1_any w.heap.size (w.heap.size + 1) a1 a2 b1 b2 (.slice Aa ma ca) (.slice Ab mb cb) rfl rfl x.1 x.2.1 x.2.2.length x.2.2 W2 hI (hga x hx) (by omega) (box_below hk0 hb2) (box_below hk1 hb2)
  refine this.mono ?_
  rintro e w4 ⟨A4, c4, rfl, hi4, hf4, hb4⟩
  exact ⟨A4, c4, rfl, hi4, fun b hb => .inr (hf4 b hb), hb4⟩)
 have hEb := fun (W' : World) (hb : Below W.heap.size W W') (hk0 : W'.heap[w.heap.size]? = some (.cells #[.int .i64 (a1 : Int), .int .i64 (a2 : Int), .slice Aa ma ca] tRel)) (hk1 : W'.heap[w.heap.size + 1]? = some (.cells #[.int .i64 (b1 : Int), .int .i64 (b2 : Int), .slice Ab mb cb] tRel)) => each2_any 137 #[] #[.pointer (some ⟨w.heap.size, 0, none⟩), .pointer (some ⟨w.heap.size + 1, 0, none⟩)] (pB a1 a2 b1 b2) (b1 : Int) (b2 : Int) Ab cb gb W' (hOb.below hb).rd (hOb.below hb).rows (by omega) (fun _ _ => rfl) (fun x hx W2 hb2 => by
  have hI : Sl W2 3 1 x.1 x.2.2.length x.2.1 (ints x.2.2) := ((hOb.below hb).rows x hx).below hb2
  have := tensor2_any w.heap.size (w.heap.size + 1) a1 a2 b1 b2 (.slice Aa ma ca) (.slice Ab mb cb) rfl rfl x.1 x.2.1 x.2.2.length x.2.2 W2 hI (hgb x hx) (by omega) (box_below hk0 hb2) (box_below hk1 hb2)
  refine this.mono ?_
  rintro e w4 ⟨A4, c4, rfl, hi4, hf4, hb4⟩
  exact ⟨A4, c4, rfl, hi4, fun b hb => .inr (hf4 b hb), hb4⟩)
 have hltb : ∀ b, b ∈ fpR gb → b < W.heap.size := fun b hb => hOb.lt b (List.mem_append_right _ hb)
 simp only [← hma] at hEa
 simp only [← hmb] at hEb
 have hmf : ∀ (fn : Fn) (first cap : Array Value) (w : World), (Instr.makeFunc fn first cap).run Tryz.prog w = .ok (.func fn first cap) w := fun _ _ _ _ => rfl
 have hXl : X.length = ma + mb := by rw [hX, List.length_append, List.length_map, List.length_map, hLma, hLmb]
 clear hmat0 hgoal htl hsum hlf0 hrt0 hga hgb; have hLa_h := lH hLa; have hLb_h := lH hLb; have hma_h := lH hma; have hmb_h := lH hmb; have hLma_h := lH hLma; have hLmb_h := lH hLmb; have bW_h := lH bW; have k0_h := lH k0; have k1_h := lH k1; have k2_h := lH k2; have hOa_h := lH hOa; have hOb_h := lH hOb; have hrowa_h := lH hrowa; have hrowb_h := lH hrowb; have hlena_h := lH hlena; have hlenb_h := lH hlenb; have hflda_h := lH hflda; have hfldb_h := lH hfldb; have hmat_h := lH hmat; have hX_h := lH hX; have hR_h := lH hR; have hN_h := lH hN; have hNI_h := lH hNI; have hEa_h := lH hEa; have hEb_h := lH hEb; have hltb_h := lH hltb; have hXl_h := lH hXl; clear hLa hLb hma hmb hLma hLmb bW k0 k1 k2 hOa hOb hrowa hrowb hlena hlenb hflda hfldb hmat hX hR hN hNI hEa hEb hltb hXl
 have k0W := k0_h.out
 have k1W := k1_h.out
 have k2W := k2_h.out
 have k0W_h := lH k0W; have k1W_h := lH k1W; have k2W_h := lH k2W; clear k0W k1W k2W
 have hE1 := hEa_h.out W (Below.refl _ _) k0_h.out k1_h.out
 have hE1_h := lH hE1; clear hE1
 go_enter Tryz.func94, Tryz.ntmps94
 go_upto_region 1 with (fail)
 rw [← hW]
 clear hW
 go_wp2_with (fail)
 refine (hE1_h.out).mono ?_
 rintro e w1 ⟨A1, c1', g1, rfl, hg1, hO1, -⟩
 clear c0 c1 c2 f0 f1 f2
 have hb1 := hO1.below_
 replace k0_h := lH (box_below k0_h.out hb1)
 replace k1_h := lH (box_below k1_h.out hb1)
 replace k2_h := lH (box_below k2_h.out hb1)
 have hE2 := hEb_h.out w1 hb1 k0_h.out k1_h.out
 have hgl1 : g1.length = ma := by have := congrArg List.length hg1; rwa [List.length_map, List.length_map, ← hma_h.out] at this
 have hz1 := hb1.size
 obtain ⟨⟨c0, c1, c2⟩, f0, f1, f2⟩ := box3 k1_h.out
 have hE2_h := lH hE2; have hO1_h := lH hO1; have hg1_h := lH hg1; have hgl1_h := lH hgl1; have hb1_h := lH hb1; clear hE2 hO1 hg1 hgl1 hb1
 go_wp2_with (fail)
 refine (hE2_h.out).mono ?_
 rintro e w2 ⟨A2, c2', g2, rfl, hg2, hO2, hext⟩
 clear c0 c1 c2 f0 f1 f2
 have hb2 := hO2.below_
 replace k0_h := lH (box_below k0_h.out hb2)
 replace k1_h := lH (box_below k1_h.out hb2)
 replace k2_h := lH (box_below k2_h.out hb2)
 have hgl2 : g2.length = mb := by have := congrArg List.length hg2; rwa [List.length_map, List.length_map, ← hmb_h.out] at this
 have hO1' := hO1_h.out.below hb2
 have hB2 := below_trans (below_trans bW_h.out hb1_h.out bW_h.out.size) hb2 (Nat.le_trans bW_h.out.size hb1_h.out.size)
 have hs1 : Sl w2 23 1 A1 ma c1' (g1.map Hd.val) := by have := hO1'.sl; rwa [hgl1_h.out] at this
 have hnl : (g2.map Hd.val).length = mb * 1 := by rw [List.length_map, hgl2, Nat.mul_one]
 have hnr : RdC w2 A2 (g2.map Hd.val) := hO2.sl.rdc
 have hn1 : ∀ u ∈ g2.map Hd.val, u.oneCell' = true := fun u hu => by
  obtain ⟨x, _, rfl⟩ := List.mem_map.1 hu
  rfl
 have hAlt := hO1_h.out.sl.lt
 have hz2 := box_lt k2_h.out
 obtain ⟨⟨c0, c1, c2⟩, f0, f1, f2⟩ := box3 k0_h.out
 obtain ⟨⟨d0, d1, d2⟩, e0, e1, e2⟩ := box3 k1_h.out
 have hs1_h := lH hs1; have hnl_h := lH hnl; have hnr_h := lH hnr; have hn1_h := lH hn1; have hO1'_h := lH hO1'; have hO2_h := lH hO2; have hext_h := lH hext; have hg2_h := lH hg2; have hgl2_h := lH hgl2; have hB2_h := lH hB2; have hb2_h := lH hb2; have hAlt_h := lH hAlt; clear hs1 hnl hnr hn1 hO1' hO2 hext hg2 hgl2 hB2 hb2 hAlt
 go_upto_region 3 with (at_builtin; refine wpList_append_Sl _ rfl _ _ _ rfl 23 Tryz.underlying27 info_ints rfl (by omega) rfl hs1_h.out rfl hnl_h.out hnr_h.out hn1_h.out (by unfold maxLen; omega) (by omega) ?_; intro A3 c3 w3 hs3 hA3 hk3)
 have hapart : ∀ x, x ∈ g2 → ∀ b, b ∈ fpA x.1 → ¬ b ∈ fpA A1 := fun x hx b hb hb' => by
  have h1 := hAlt_h.out b hb'
  have h2 := hO1_h.out.new b hb'
  rcases hext_h.out x hx b hb with h3 | h3
  · have := hltb_h.out b h3; omega
  · omega
 have hrd3 : RdR w3 A3 (g1 ++ g2) := by
  rw [← List.map_append] at hs3
  refine ⟨fun i x hx => ?_, fun x hx => ?_⟩
  · obtain ⟨ad, hA, _, hc, _⟩ := hs3.cell (j := i) (u := x.val) (by rw [List.getElem?_map, hx]; rfl)
    exact ⟨ad, hA, hc⟩
  · rcases List.mem_append.1 hx with hx | hx
    · exact ((hO1'_h.out.rows x hx).keeps hk3 (hO1'_h.out.outer x hx)).rd
    · exact ((hO2_h.out.rows x hx).keeps hk3 (hapart x hx)).rd
 have hgX : (g1 ++ g2).map (fun h : Hd => h.2.2) = X := by
  rw [List.map_append, hg1_h.out, hg2_h.out, hX_h.out, hLa_h.out, hLb_h.out, List.map_map, List.map_map]; rfl
 have hgl : (g1 ++ g2).length = ma + mb := by rw [List.length_append, hgl1_h.out, hgl2_h.out]
 have hC := relation_any p (lf : Int) (rt : Int) N A3 c3 (g1 ++ g2) w3 hrd3 hflda_h.out (by have := hNI_h.out; omega) (by rw [hgX, hgl, ← hXl_h.out]; exact hmat_h.out) (by rw [hgl]; omega) (by omega)
 rw [hgX, ← hR_h.out, hgl] at hC
 have hnew : ∀ b, b ∈ fpA A1 → W.heap.size ≤ b := hO1_h.out.new
 have hB3 := below_keeps hB2_h.out hk3 hB2_h.out.size (fun b hb => Nat.le_trans bW_h.out.size (hnew b hb))
 have hzW := bW_h.out.size
 have hzk := hk3.size
 have k0s := box_keeps k0_h.out hk3 (fun h => by have := hnew _ h; have := box_lt k0W_h.out; omega)
 have k1s := box_keeps k1_h.out hk3 (fun h => by have := hnew _ h; have := box_lt k1W_h.out; omega)
 have k2s := box_keeps k2_h.out hk3 (fun h => by have := hnew _ h; have := box_lt k2W_h.out; omega)
 clear c0 c1 c2 f0 f1 f2 d0 d1 d2 e0 e1 e2 hs3 hA3 hk3 hapart hrd3 hgX hgl hnew
 obtain ⟨⟨c0, c1, c2⟩, f0, f1, f2⟩ := box3 k0s
 obtain ⟨⟨d0, d1, d2⟩, e0, e1, e2⟩ := box3 k1s
 have hlf := hlf
 have hrt := hrt
 clear k0s k1s; have hC_h := lH hC; have hB3_h := lH hB3; have k2s_h := lH k2s; clear hC hB3 k2s
 go_wp2_with (fail)
 refine (hC_h.out).mono ?_
 rintro e w4 ⟨v1, fp1, rfl, hO4, hf4, hb4⟩
 obtain ⟨A5, n5, c5, rfl⟩ := hO4.shape
 have k2' := box_below k2s_h.out hb4
 have hB4 := below_trans hB3_h.out hb4 hB3_h.out.size
 clear c0 c1 c2 f0 f1 f2 d0 d1 d2 e0 e1 e2
 obtain ⟨⟨d0, d1, d2⟩, e0, e1, e2⟩ := box3 k2'
 obtain ⟨s1, s2⟩ := set3 (a := .int .i64 (lf : Int)) (b := .int .i64 (rt : Int)) (c := .slice A5 n5 c5) k2'
 have hB5 := below_keeps hB4 s2 hB4.size (fun k hk => by omega)
 have hO5 := hO4.keeps s2 (fun k hk e => by have := hf4 k hk; omega)
 have hf5 := hf4.mono hB3_h.out.size
 clear k2' hB4 hO4 hf4; have s1_h := lH s1; have s2_h := lH s2; have hO5_h := lH hO5; have hf5_h := lH hf5; have hB5_h := lH hB5; clear s1 s2 hO5 hf5 hB5
 go_wp2_with (fail)
 refine bodyPost_ret (results_cell_row rfl _ _ (w.heap.size + 1 + 1) _ _ (0, 0) _ rfl s1_h.out Tryz.underlying29 rfl (by kernel_rfl)) rfl ?_
 exact ⟨_, fp1, rfl, hO5_h.out, hf5_h.out, hB5_h.out⟩
end Go.Proofs.YtahnhblodfdfhaaGreatDoor
namespace Go.Proofs.YtahnhblodfdfhaaGreatDoor
def cmbTo (p : Int) (n : Nat) (x : List Int) (L : List (List Int)) : Nat → List Int
 | 0 => List.replicate n 0
 | k + 1 => addT p (cmbTo p n x L k) (x.getD k 0) (L.getD k [])
@[simp] theorem cmbTo_length (p : Int) (n : Nat) (x : List Int) (L : List (List Int)) : ∀ k, (cmbTo p n x L k).length = n
  | 0 => by simp [cmbTo]
  | k + 1 => by simp [cmbTo, cmbTo_length p n x L k]
theorem cmbTo_res {p : Int} (hp : 0 < p) (n : Nat) (x : List Int) (L : List (List Int)) : ∀ k, Res p (cmbTo p n x L k)
 | 0 => fun y hy => by
   obtain ⟨_, rfl⟩ := List.mem_replicate.1 hy
   omega
 | k + 1 => addT_bounds hp (cmbTo_res hp n x L k)
theorem extG {l m : List Int} (h : l.length = m.length) (hg : ∀ k, k < l.length → l.getD k 0 = m.getD k 0) : l = m := by
 refine List.ext_getElem h fun i h1 h2 => ?_
 have := hg i h1
 rwa [List.getD_eq_getElem?_getD, List.getD_eq_getElem?_getD, List.getElem?_eq_getElem h1, List.getElem?_eq_getElem h2] at this
theorem getD_takeG (l : List Int) {a k : Nat} (h : k < a) : (l.take a).getD k 0 = l.getD k 0 := by
 rw [List.getD_eq_getElem?_getD, List.getD_eq_getElem?_getD, List.getElem?_take, if_pos h]
theorem getD_dropG (l : List Int) (a k : Nat) : (l.drop a).getD k 0 = l.getD (a + k) 0 := by
 rw [List.getD_eq_getElem?_getD, List.getD_eq_getElem?_getD, List.getElem?_drop]
theorem addT_take {p c : Int} {v w : List Int} {a : Nat} (h : v.length = w.length) (ha : a ≤ v.length) : (addT p v c w).take a = addT p (v.take a) c (w.take a) := by
 refine extG (by simp) fun k hk => ?_
 have hk' : k < a := by rw [List.length_take] at hk; omega
 rw [getD_takeG _ hk', addT_getD, addT_getD, getD_takeG _ hk', getD_takeG _ hk', List.length_take, List.length_take, if_pos (by omega), if_pos (by omega), if_pos (by omega), if_pos (by omega)]
theorem addT_drop' {p c : Int} {v w : List Int} {a : Nat} (h : v.length = w.length) : (addT p v c w).drop a = addT p (v.drop a) c (w.drop a) := by
 refine extG (by simp) fun k hk => ?_
 have hk' : a + k < v.length := by rw [List.length_drop, addT_length] at hk; omega
 rw [getD_dropG, addT_getD, addT_getD, getD_dropG, getD_dropG, List.length_drop, List.length_drop, if_pos hk', if_pos (by omega), if_pos (by omega), if_pos (by omega)]
theorem cmbTo_take {p : Int} {m a : Nat} {x : List Int} {L : List (List Int)} (hm : ∀ v, v ∈ L → v.length = m) (ha : a ≤ m) : ∀ k, k ≤ L.length → (cmbTo p m x L k).take a = cmbTo p a x (L.map fun v => v.take a) k
 | 0, _ => by simp only [cmbTo, List.take_replicate]; congr 1; omega
 | k + 1, hk => by
   have hl : (L.getD k []).length = m := by
    rw [List.getD_eq_getElem?_getD, List.getElem?_eq_getElem (by omega)]
    exact hm _ (List.getElem_mem (by omega))
   rw [cmbTo, cmbTo, addT_take (by rw [cmbTo_length, hl]) (by rw [cmbTo_length]; exact ha), cmbTo_take hm ha k (by omega)]
   congr 1
   rw [List.getD_eq_getElem?_getD, List.getD_eq_getElem?_getD, List.getElem?_map, List.getElem?_eq_getElem (by omega)]
   rfl
theorem cmbTo_drop {p : Int} {m a : Nat} {x : List Int} {L : List (List Int)} (hm : ∀ v, v ∈ L → v.length = m) : ∀ k, k ≤ L.length → (cmbTo p m x L k).drop a = cmbTo p (m - a) x (L.map fun v => v.drop a) k
 | 0, _ => by simp only [cmbTo, List.drop_replicate]
 | k + 1, hk => by
   have hl : (L.getD k []).length = m := by
    rw [List.getD_eq_getElem?_getD, List.getElem?_eq_getElem (by omega)]
    exact hm _ (List.getElem_mem (by omega))
   rw [cmbTo, cmbTo, addT_drop' (by rw [cmbTo_length, hl]), cmbTo_drop hm k (by omega)]
   congr 1
   rw [List.getD_eq_getElem?_getD, List.getD_eq_getElem?_getD, List.getElem?_map, List.getElem?_eq_getElem (by omega)]
   rfl
def ngV (p : Int) (v : List Int) : List Int := v.map fun a => (-a) % p
@[simp] theorem ngV_length (p : Int) (v : List Int) : (ngV p v).length = v.length := by simp [ngV]
theorem ngV_res {p : Int} (hp : 0 < p) (v : List Int) : Res p (ngV p v) := fun x hx => by
 obtain ⟨a, _, rfl⟩ := List.mem_map.1 hx
 exact ⟨Int.emod_nonneg _ (by omega), Int.emod_lt_of_pos _ hp⟩
theorem ngV_add {p : Int} (y : List Int) : addT p (List.replicate y.length 0) (-1) y = ngV p y := by
 refine extG (by simp) fun k hk => ?_
 rw [addT_length, List.length_replicate] at hk
 rw [addT_getD, List.length_replicate, if_pos hk, if_pos hk]
 have e1 : (List.replicate y.length (0 : Int)).getD k 0 = 0 := by rw [List.getD_eq_getElem?_getD, List.getElem?_replicate, if_pos hk]; rfl
 have e2 : (ngV p y).getD k 0 = (-(y.getD k 0)) % p := by
  unfold ngV
  rw [List.getD_eq_getElem?_getD, List.getElem?_map, List.getD_eq_getElem?_getD, List.getElem?_eq_getElem hk]; rfl
 rw [e1, e2, Int.zero_add, Int.neg_one_mul]
theorem ngV_getD {p : Int} {y : List Int} {k : Nat} (hk : k < y.length) : (ngV p y).getD k 0 = (-(y.getD k 0)) % p := by
 unfold ngV
 rw [List.getD_eq_getElem?_getD, List.getElem?_map, List.getD_eq_getElem?_getD, List.getElem?_eq_getElem hk]; rfl
def midR (p : Int) (s t : Sys) : List (List Int) := secondM s ++ (firstM t).map (ngV p)
def pairV (p : Int) (s t : Sys) (k : List Int) : List Int := cmbTo p s.1.toNat (k.take s.2.2.length) (firstM s) s.2.2.length ++ cmbTo p t.2.1.toNat (k.drop s.2.2.length) (secondM t) t.2.2.length
def pairsM (p : Int) (s t : Sys) : List (List Int) := (kerM p s.2.1.toNat (midR p s t)).map (pairV p s t)
def cmpV (p : Int) (s t : Sys) : Sys := (s.1, t.2.1, redM p (s.1 + t.2.1).toNat (pairsM p s t))
section
variable {p : Int} {s t : Sys}
theorem pairV_length (k : List Int) : (pairV p s t k).length = s.1.toNat + t.2.1.toNat := by simp [pairV]
theorem pairV_res (hp : 0 < p) (k : List Int) : Res p (pairV p s t k) := fun x hx => by
 rcases List.mem_append.1 hx with h | h
 · exact cmbTo_res hp _ _ _ _ x h
 · exact cmbTo_res hp _ _ _ _ x h
theorem pairs_mat (hs : RelOk p s) (ht : RelOk p t) : Mat p (pairsM p s t).length (s.1 + t.2.1).toNat (pairsM p s t) := by
 have hp := (fieldB_bounds hs.fld).1
 have h1 := hs.lo
 have h2 := ht.hi
 refine ⟨rfl, fun v hv => ?_⟩
 obtain ⟨k, _, rfl⟩ := List.mem_map.1 hv
 exact ⟨by rw [pairV_length]; omega, pairV_res (by omega) k⟩
theorem mid_mat (hs : RelOk p s) (ht : RelOk p t) (hm : s.2.1 = t.1) : Mat p (s.2.2.length + t.2.2.length) s.2.1.toNat (midR p s t) := by
 have hp := (fieldB_bounds hs.fld).1
 have h1 := secondM_mat hs
 have h2 := firstM_mat ht
 refine ⟨by unfold midR; rw [List.length_append, List.length_map, h1.len, h2.len], fun v hv => ?_⟩
 rcases List.mem_append.1 hv with h | h
 · exact h1.row v h
 · obtain ⟨y, hy, rfl⟩ := List.mem_map.1 h
   have := h2.row y hy
   exact ⟨by rw [ngV_length, this.1, hm], ngV_res (by omega) y⟩
theorem transM_transM {m n : Nat} {L : List (List Int)} (h : Mat p m n L) : transM (transM L n) m = L := by
 refine List.ext_getElem (by simp [transM, h.len]) fun i h1 h2 => ?_
 have hi : i < m := by rw [← h.len]; exact h2
 have hl := (h.row _ (List.getElem_mem h2)).1
 simp only [transM, List.getElem_map, List.getElem_range]
 refine extG (by simp [hl]) fun k hk => ?_
 have hk' : k < n := by simpa using hk
 rw [List.getD_eq_getElem?_getD, List.getElem?_map, List.getElem?_map, List.getElem?_range hk']
 simp only [Option.map_some, Option.getD_some]
 rw [List.getD_eq_getElem?_getD, List.getElem?_map, List.getElem?_eq_getElem h2]
 rfl
theorem mid_null (hs : RelOk p s) (ht : RelOk p t) (hm : s.2.1 = t.1) : nullM p (s.2.2.length + t.2.2.length) (transM (midR p s t) s.2.1.toNat) = kerM p s.2.1.toNat (midR p s t) := by
 have hp := (fieldB_bounds hs.fld).1
 have hM := mid_mat hs ht hm
 have hT := transM_mat (by omega) hM
 have hl : (transM (midR p s t) s.2.1.toNat).length = s.2.1.toNat := hT.len
 rw [null_eq_perp hs.fld (by rw [hl]; exact hT)]
 unfold perpM
 rw [transM_transM hM, hl]
def midC (p : Int) (s t : Sys) (j : Nat) : List Int := s.2.2.map (fun r => r.getD (s.1.toNat + j) 0) ++ t.2.2.map fun r => (-(r.getD j 0)) % p
theorem mid_trans (ht : RelOk p t) (hm : s.2.1 = t.1) : transM (midR p s t) s.2.1.toNat = (List.range s.2.1.toNat).map (midC p s t) := by
 unfold transM
 refine List.map_congr_left fun j hj => ?_
 have hj' := List.mem_range.1 hj
 unfold midR midC secondM firstM
 rw [List.map_append, List.map_map, List.map_map, List.map_map]
 congr 1
 · refine List.map_congr_left fun r _ => ?_
   exact getD_dropG r _ _
 · refine List.map_congr_left fun r hr => ?_
   have h1 := (ht.row hr).1
   have h2 := ht.hi
   have h3 := ht.lo
   show (ngV p (r.take t.1.toNat)).getD j 0 = _
   rw [ngV_getD (by rw [List.length_take]; omega), getD_takeG _ (by omega)]
theorem pair_ref (hs : RelOk p s) (ht : RelOk p t) (hm : s.2.1 = t.1) (k : List Int) :
  (cmbTo p (s.1.toNat + s.2.1.toNat) (k.take s.2.2.length) s.2.2 s.2.2.length).take s.1.toNat ++ (cmbTo p (s.2.1.toNat + t.2.1.toNat) (k.drop s.2.2.length) t.2.2 t.2.2.length).drop s.2.1.toNat = pairV p s t k := by
 have h1 := hs.lo
 have h2 := hs.hi
 have h3 := ht.lo
 have h4 := ht.hi
 unfold pairV firstM secondM
 rw [cmbTo_take (fun v hv => by have := (hs.row hv).1; omega) (by omega) _ (Nat.le_refl _), cmbTo_drop (fun v hv => by have := (ht.row hv).1; omega) _ (Nat.le_refl _)]
 rw [show s.2.1.toNat + t.2.1.toNat - s.2.1.toNat = t.2.1.toNat by omega, show s.2.1.toNat = t.1.toNat by rw [hm]]
theorem kerM_len {n : Nat} {L : List (List Int)} (hp : fieldB p = true) (hm : Mat p L.length n L) : (kerM p n L).length ≤ L.length ∧ Mat p (kerM p n L).length L.length (kerM p n L) := by
 have hpb := fieldB_bounds hp
 have h3 := (redTo_mat3 hp hm (idM_mat (by omega) L.length) n (Nat.le_refl _)).drop (r := (redTo p L (idM L.length) n).1)
 have h4 := redM_spec hp (n := L.length) (L := (redTo p L (idM L.length) n).2.2.drop (redTo p L (idM L.length) n).1) (by rw [h3.len]; exact h3)
 have h5 := h3.len
 have h6 := h4.2.2
 exact ⟨by unfold kerM; omega, h4.1.1⟩
end
end Go.Proofs.YtahnhblodfdfhaaGreatDoor
namespace Go.Proofs.YtahnhblodfdfhaaGreatDoor
abbrev Nd := Int × Int × ByteArray
def noName : ByteArray := ⟨#[]⟩
inductive Tr where
 | leaf (n : Nd)
 | node (p : Bool) (a b : Tr)
def kd (p : Bool) : Int := if p then 16 else 15
def joinNd (p : Bool) : Nd := (kd p, 0, noName)
def flat : Tr → List Nd
 | .leaf n => [n]
 | .node p a b => flat a ++ (flat b ++ [joinNd p])
def sz (t : Tr) : Nat := (flat t).length
def kindTy (k : Int) : Int × Int :=
 if k = 2 then (2, 2) else if k = 3 ∨ k = 11 then (1, 2) else if k = 4 ∨ k = 12 then (1, 0) else if k = 5 ∨ k = 9 then (2, 1) else if k = 6 ∨ k = 10 then (0, 1) else (1, 1)
def leafTy (n : Nd) : Int × Int := if n.1 = 1 then (n.2.1, n.2.1) else kindTy n.1
def leafB (n : Nd) : Bool := decide (n.2.2 = noName ∧ ((n.1 = 1 ∧ 0 ≤ n.2.1 ∧ n.2.1 ≤ 12) ∨ ((n.1 = 7 ∨ n.1 = 13) ∧ 0 ≤ n.2.1 ∧ n.2.1 ≤ 96) ∨ (2 ≤ n.1 ∧ n.1 ≤ 14 ∧ n.1 ≠ 7 ∧ n.1 ≠ 13 ∧ n.2.1 = 0)))
def joinTy (p : Bool) (a b : Int × Int) : Int × Int := if p then (a.1 + b.1, a.2 + b.2) else (a.1, b.2)
def joinB (p : Bool) (a b : Int × Int) : Bool := if p then decide (a.1 + b.1 ≤ 12 ∧ a.2 + b.2 ≤ 12) else decide (a.2 = b.1)
def ty : Tr → Int × Int
 | .leaf n => leafTy n
 | .node p a b => joinTy p (ty a) (ty b)
def wt : Tr → Prop
 | .leaf n => leafB n = true
 | .node p a b => wt a ∧ wt b ∧ joinB p (ty a) (ty b) = true
theorem flat_ne (t : Tr) : flat t ≠ [] := by cases t <;> simp [flat]
theorem sz_pos (t : Tr) : 0 < sz t := by
 have := flat_ne t
 unfold sz
 cases h : flat t with
 | nil => exact absurd h this
 | cons _ _ => simp
theorem sz_node (p : Bool) (a b : Tr) : sz (.node p a b) = sz a + sz b + 1 := by simp [sz, flat]; omega
theorem leaf_fit {n : Nd} (h : leafB n = true) : 0 ≤ (leafTy n).1 ∧ (leafTy n).1 ≤ 12 ∧ 0 ≤ (leafTy n).2 ∧ (leafTy n).2 ≤ 12 := by
 unfold leafB at h
 simp only [decide_eq_true_eq] at h
 unfold leafTy kindTy
 obtain ⟨_, h⟩ := h
 by_cases h1 : n.1 = 1
 · simp only [h1, if_true]; omega
 · simp only [h1, if_false]
   repeat' split
   all_goals simp
theorem wt_fit : ∀ {t : Tr}, wt t → 0 ≤ (ty t).1 ∧ (ty t).1 ≤ 12 ∧ 0 ≤ (ty t).2 ∧ (ty t).2 ≤ 12
 | .leaf _, h => leaf_fit h
 | .node p a b, h => by
   obtain ⟨ha, hb, hj⟩ := h
   have h1 := wt_fit ha
   have h2 := wt_fit hb
   cases p
   · simp [ty, joinTy]; omega
   · simp [joinB] at hj
     simp [ty, joinTy]; omega
def isJoin (n : Nd) : Prop := n.1 = 15 ∨ n.1 = 16
instance (n : Nd) : Decidable (isJoin n) := by unfold isJoin; exact inferInstance
def stepT (st : List Tr) (n : Nd) : Option (List Tr) :=
 if isJoin n then
  match st with
  | b :: a :: r => if n.2.1 = 0 ∧ n.2.2 = noName ∧ joinB (decide (n.1 = 16)) (ty a) (ty b) = true then some (.node (decide (n.1 = 16)) a b :: r) else none
  | _ => none
 else if leafB n = true then some (.leaf n :: st) else none
def parse (st : List Tr) : List Nd → Option (List Tr)
 | [] => some st
 | n :: r => (stepT st n).bind fun st' => parse st' r
theorem parse_append (l m : List Nd) : ∀ st, parse st (l ++ m) = (parse st l).bind fun st' => parse st' m := by
 induction l with
 | nil => intro st; rfl
 | cons n r ih =>
   intro st
   simp only [List.cons_append, parse]
   cases h : stepT st n with
   | none => rfl
   | some s => simp only [Option.bind_some]; exact ih s
theorem parse_snoc (l : List Nd) (n : Nd) (st : List Tr) : parse st (l ++ [n]) = (parse st l).bind fun st' => stepT st' n := by
 rw [parse_append]
 cases parse st l with
 | none => rfl
 | some s => simp only [Option.bind_some, parse]; cases stepT s n <;> rfl
theorem leafB_kind {n : Nd} (h : leafB n = true) : ¬ isJoin n := by
 unfold leafB at h
 simp only [decide_eq_true_eq] at h
 unfold isJoin
 omega
theorem joinNd_kd (p : Bool) : decide ((joinNd p).1 = 16) = p := by cases p <;> rfl
theorem joinNd_is (p : Bool) : isJoin (joinNd p) := by cases p <;> simp [isJoin, joinNd, kd]
theorem isJoin_eq {n : Nd} (h : isJoin n) (h1 : n.2.1 = 0) (h2 : n.2.2 = noName) : n = joinNd (decide (n.1 = 16)) := by
 obtain ⟨a, b, c⟩ := n
 simp only at h1 h2
 subst h1 h2
 rcases h with h | h
 · simp only at h; subst h; rfl
 · simp only at h; subst h; rfl
def flats : List Tr → List Nd
 | [] => []
 | t :: r => flats r ++ flat t
def wts : List Tr → Prop
 | [] => True
 | t :: r => wt t ∧ wts r
theorem step_spec {st st' : List Tr} {n : Nd} (h : stepT st n = some st') (hw : wts st) : wts st' ∧ flats st' = flats st ++ [n] := by
 unfold stepT at h
 by_cases hj : isJoin n
 · rw [if_pos hj] at h
   match st, h, hw with
   | [], h, _ => cases h
   | [_], h, _ => cases h
   | b :: a :: r, h, hw =>
     simp only at h
     split at h
     · rename_i hc
       obtain ⟨h1, h2, h3⟩ := hc
       obtain rfl := Option.some.inj h
       obtain ⟨hb, ha, hr⟩ := hw
       refine ⟨⟨⟨ha, hb, h3⟩, hr⟩, ?_⟩
       have := isJoin_eq hj h1 h2
       simp only [flats, flat, List.append_assoc]
       rw [← this]
     · cases h
 · rw [if_neg hj] at h
   split at h
   · rename_i hc
     obtain rfl := Option.some.inj h
     exact ⟨⟨hc, hw⟩, rfl⟩
   · cases h
theorem parse_spec : ∀ (l : List Nd) {st st' : List Tr}, parse st l = some st' → wts st → wts st' ∧ flats st' = flats st ++ l
 | [], st, st', h, hw => by obtain rfl := Option.some.inj h; exact ⟨hw, by simp⟩
 | n :: r, st, st', h, hw => by
   simp only [parse, Option.bind_eq_some_iff] at h
   obtain ⟨s, h1, h2⟩ := h
   obtain ⟨hw1, hf1⟩ := step_spec h1 hw
   obtain ⟨hw2, hf2⟩ := parse_spec r h2 hw1
   exact ⟨hw2, by rw [hf2, hf1]; simp⟩
def treeM (l : List Nd) : Option Tr := if 1 ≤ l.length ∧ l.length ≤ 400 then (match parse [] l with | some [t] => some t | _ => none) else none
theorem treeM_some {l : List Nd} {t : Tr} (h : treeM l = some t) : l = flat t ∧ wt t ∧ sz t ≤ 400 := by
 unfold treeM at h
 split at h
 · rename_i hl
   split at h
   · rename_i t' hp
     obtain rfl := Option.some.inj h
     obtain ⟨hw, hf⟩ := parse_spec l hp trivial
     have : l = flat t' := by simpa [flats] using hf.symm
     exact ⟨this, hw.1, by unfold sz; rw [← this]; exact hl.2⟩
   · cases h
 · cases h
def info : Tr → Nat → List (Nat × (Int × Int))
 | .leaf n, o => [(o, leafTy n)]
 | .node p a b, o => info a o ++ (info b (o + sz a) ++ [(o, joinTy p (ty a) (ty b))])
def infos : List Tr → List (Nat × (Int × Int))
 | [] => []
 | t :: r => infos r ++ info t (flats r).length
theorem info_length : ∀ (t : Tr) (o : Nat), (info t o).length = sz t
 | .leaf _, _ => rfl
 | .node p a b, o => by simp only [info, List.length_append, info_length a, info_length b, sz_node, List.length_cons, List.length_nil]; omega
theorem infos_length : ∀ (st : List Tr), (infos st).length = (flats st).length
 | [] => rfl
 | t :: r => by simp [infos, flats, infos_length r, info_length, sz]
theorem info_last (t : Tr) (o : Nat) : ∃ r, info t o = r ++ [(o, ty t)] ∧ r.length + 1 = sz t := by
 cases t with
 | leaf n => exact ⟨[], rfl, rfl⟩
 | node p a b =>
   refine ⟨info a o ++ info b (o + sz a), by simp [info, ty], ?_⟩
   rw [List.length_append, info_length, info_length, sz_node]
theorem infos_last (t : Tr) (r : List Tr) : (infos (t :: r))[(flats (t :: r)).length - 1]? = some ((flats r).length, ty t) := by
 obtain ⟨q, h, hl⟩ := info_last t (flats r).length
 simp only [infos, h]
 have hp := sz_pos t
 have e : (flats (t :: r)).length - 1 = (infos r ++ q).length := by
  simp only [flats, List.length_append, infos_length]
  have : (flat t).length = sz t := rfl
  omega
 rw [e, ← List.append_assoc, List.getElem?_append_right (Nat.le_refl _)]
 simp
theorem infos_last2 (b a : Tr) (r : List Tr) : (infos (b :: a :: r))[(flats (a :: r)).length - 1]? = some ((flats r).length, ty a) := by
 have h := infos_last a r
 have hlt := (List.getElem?_eq_some_iff.1 h).1
 show (infos (a :: r) ++ info b _)[_]? = _
 rw [List.getElem?_append_left hlt]
 exact h
theorem infos_leaf (n : Nd) (st : List Tr) : infos (.leaf n :: st) = infos st ++ [((flats st).length, leafTy n)] := rfl
theorem infos_node (p : Bool) (a b : Tr) (r : List Tr) : infos (.node p a b :: r) = infos (b :: a :: r) ++ [((flats r).length, joinTy p (ty a) (ty b))] := by
 simp only [infos, info, flats, List.length_append, List.append_assoc]
 rfl
open Go.RowKit
theorem nul0 {p : Int} {n : Nat} {x : Nat → Int} : NulL p n [] x ↔ True := ⟨fun _ => trivial, fun _ i hi => by simp at hi⟩
theorem nul1 {p : Int} {n : Nat} {a : List Int} {x : Nat → Int} : NulL p n [a] x ↔ p ∣ sm n fun j => a.getD j 0 * x j :=
 ⟨fun h => h 0 (by simp), fun h i hi => by
  obtain rfl : i = 0 := by simpa using hi
  exact h⟩
theorem nul2 {p : Int} {n : Nat} {a b : List Int} {x : Nat → Int} : NulL p n [a, b] x ↔ (p ∣ sm n fun j => a.getD j 0 * x j) ∧ p ∣ sm n fun j => b.getD j 0 * x j :=
 ⟨fun h => ⟨h 0 (by simp), h 1 (by simp)⟩, fun h i hi => by
  rcases i with _ | _ | i
  · exact h.1
  · exact h.2
  · exact absurd hi (by simp)⟩
theorem genL_of {p : Int} {n : Nat} {E K : List (List Int)} (hm : ∀ v, v ∈ K → v.length = n ∧ Res p v) (h1 : ∀ v, v ∈ K → NulL p n E fun j => v.getD j 0) (h2 : ∀ x, NulL p n K x → ∀ y, NulL p n E y → p ∣ sm n fun j => x j * y j) : GenL p n (NulL p n E) K :=
 ⟨⟨rfl, hm⟩, fun k hk => by
   have : K.getD k [] = K[k] := by simp [List.getD, hk]
   have h := h1 _ (List.getElem_mem hk)
   rw [← this] at h; exact h, h2⟩
def leafEq (p k v : Int) : List (List Int) :=
 if k = 3 then [[p - 1, 1, 0], [p - 1, 0, 1]] else if k = 5 then [[p - 1, p - 1, 1]] else if k = 6 then [[1]] else if k = 7 then [[(-v) % p, 1]]
 else if k = 9 then [[1, 0, p - 1], [0, 1, p - 1]] else if k = 11 then [[1, p - 1, p - 1]] else if k = 12 then [[1]] else if k = 13 then [[1, (-v) % p]] else []
def leafRows (k v : Int) : List (List Int) :=
 if k = 3 ∨ k = 9 then [[1, 1, 1]] else if k = 4 ∨ k = 10 then [[1]] else if k = 5 then [[1, 0, 1], [0, 1, 1]] else if k = 7 then [[1, v]]
 else if k = 11 then [[1, 1, 0], [1, 0, 1]] else if k = 13 then [[v, 1]] else []
def kdN (k : Int) : Nat := (kindTy k).1.toNat + (kindTy k).2.toNat
def genB (k : Int) : Prop := k = 3 ∨ k = 4 ∨ k = 5 ∨ k = 6 ∨ k = 7 ∨ k = 9 ∨ k = 10 ∨ k = 11 ∨ k = 12 ∨ k = 13
theorem leaf_gen {p k v : Int} (hp : 2 ≤ p) (hk : genB k) (hv : 0 ≤ v ∧ v < p) : GenL p (kdN k) (NulL p (kdN k) (leafEq p k v)) (leafRows k v) := by
 obtain ⟨q, hq⟩ : ∃ q, (-v) % p = -v + p * q := ⟨-((-v) / p), by have := Int.emod_add_mul_ediv (-v) p; rw [Int.mul_neg]; omega⟩
 rcases hk with rfl | rfl | rfl | rfl | rfl | rfl | rfl | rfl | rfl | rfl
 · refine genL_of (K := [[1, 1, 1]]) (E := [[p - 1, 1, 0], [p - 1, 0, 1]]) (n := 3) (fun u hu => ?_) (fun u hu => ?_) fun x hx y hy => ?_
   · simp only [List.mem_cons, List.not_mem_nil, or_false] at hu
     subst hu
     exact ⟨rfl, fun a ha => by simp at ha; subst ha; omega⟩
   · simp only [List.mem_cons, List.not_mem_nil, or_false] at hu
     subst hu
     rw [nul2]; simp [sm]
   · rw [nul1] at hx
     rw [nul2] at hy
     simp [sm] at hx hy ⊢
     obtain ⟨a, ha⟩ := hx
     obtain ⟨⟨b, hb⟩, c, hc⟩ := hy
     exact ⟨a * y 0 + x 1 * (b - y 0) + x 2 * (c - y 0), by grind⟩
 · refine genL_of (K := [[1]]) (E := []) (n := 1) (fun u hu => ?_) (fun u hu => ?_) fun x hx y hy => ?_
   · simp only [List.mem_cons, List.not_mem_nil, or_false] at hu
     subst hu
     exact ⟨rfl, fun a ha => by simp at ha; subst ha; omega⟩
   · rw [nul0]; trivial
   · rw [nul1] at hx
     simp [sm] at hx ⊢
     obtain ⟨a, ha⟩ := hx
     exact ⟨a * y 0, by grind⟩
 · refine genL_of (K := [[1, 0, 1], [0, 1, 1]]) (E := [[p - 1, p - 1, 1]]) (n := 3) (fun u hu => ?_) (fun u hu => ?_) fun x hx y hy => ?_
   · simp only [List.mem_cons, List.not_mem_nil, or_false] at hu
     rcases hu with rfl | rfl <;> exact ⟨rfl, fun a ha => by simp at ha; omega⟩
   · simp only [List.mem_cons, List.not_mem_nil, or_false] at hu
     rw [nul1]; rcases hu with rfl | rfl <;> simp [sm]
   · rw [nul2] at hx
     rw [nul1] at hy
     simp [sm] at hx hy ⊢
     obtain ⟨c, hc⟩ := hy
     obtain ⟨⟨a, ha⟩, b, hb⟩ := hx
     exact ⟨a * y 0 + b * y 1 + x 2 * (c - y 0 - y 1), by grind⟩
 · refine genL_of (K := []) (E := [[1]]) (n := 1) (fun u hu => by cases hu) (fun u hu => by cases hu) fun x hx y hy => ?_
   rw [nul1] at hy
   simp [sm] at hy ⊢
   obtain ⟨c, hc⟩ := hy
   exact ⟨x 0 * c, by grind⟩
 · refine genL_of (K := [[1, v]]) (E := [[(-v) % p, 1]]) (n := 2) (fun u hu => ?_) (fun u hu => ?_) fun x hx y hy => ?_
   · simp only [List.mem_cons, List.not_mem_nil, or_false] at hu
     subst hu
     exact ⟨rfl, fun a ha => by simp at ha; omega⟩
   · simp only [List.mem_cons, List.not_mem_nil, or_false] at hu
     subst hu
     rw [nul1]; simp [sm]
     exact ⟨q, by omega⟩
   · rw [nul1] at hx hy
     simp [sm] at hx hy ⊢
     obtain ⟨c, hc⟩ := hy
     obtain ⟨a, ha⟩ := hx
     exact ⟨a * y 0 + x 1 * (c - q * y 0), by grind⟩
 · refine genL_of (K := [[1, 1, 1]]) (E := [[1, 0, p - 1], [0, 1, p - 1]]) (n := 3) (fun u hu => ?_) (fun u hu => ?_) fun x hx y hy => ?_
   · simp only [List.mem_cons, List.not_mem_nil, or_false] at hu
     subst hu
     exact ⟨rfl, fun a ha => by simp at ha; subst ha; omega⟩
   · simp only [List.mem_cons, List.not_mem_nil, or_false] at hu
     subst hu
     rw [nul2]
     refine ⟨⟨1, ?_⟩, ⟨1, ?_⟩⟩ <;> simp [sm] <;> omega
   · rw [nul1] at hx
     rw [nul2] at hy
     simp [sm] at hx hy ⊢
     obtain ⟨a, ha⟩ := hx
     obtain ⟨⟨b, hb⟩, c, hc⟩ := hy
     exact ⟨a * y 2 + x 0 * (b - y 2) + x 1 * (c - y 2), by grind⟩
 · refine genL_of (K := [[1]]) (E := []) (n := 1) (fun u hu => ?_) (fun u hu => ?_) fun x hx y hy => ?_
   · simp only [List.mem_cons, List.not_mem_nil, or_false] at hu
     subst hu
     exact ⟨rfl, fun a ha => by simp at ha; subst ha; omega⟩
   · rw [nul0]; trivial
   · rw [nul1] at hx
     simp [sm] at hx ⊢
     obtain ⟨a, ha⟩ := hx
     exact ⟨a * y 0, by grind⟩
 · refine genL_of (K := [[1, 1, 0], [1, 0, 1]]) (E := [[1, p - 1, p - 1]]) (n := 3) (fun u hu => ?_) (fun u hu => ?_) fun x hx y hy => ?_
   · simp only [List.mem_cons, List.not_mem_nil, or_false] at hu
     rcases hu with rfl | rfl <;> exact ⟨rfl, fun a ha => by simp at ha; omega⟩
   · simp only [List.mem_cons, List.not_mem_nil, or_false] at hu
     rw [nul1]; rcases hu with rfl | rfl <;> simp [sm]
     · exact ⟨1, by omega⟩
     · exact ⟨1, by omega⟩
   · rw [nul2] at hx
     rw [nul1] at hy
     simp [sm] at hx hy ⊢
     obtain ⟨c, hc⟩ := hy
     obtain ⟨⟨a, ha⟩, b, hb⟩ := hx
     exact ⟨a * y 1 + b * y 2 + x 0 * (c - y 1 - y 2), by grind⟩
 · refine genL_of (K := []) (E := [[1]]) (n := 1) (fun u hu => by cases hu) (fun u hu => by cases hu) fun x hx y hy => ?_
   rw [nul1] at hy
   simp [sm] at hy ⊢
   obtain ⟨c, hc⟩ := hy
   exact ⟨x 0 * c, by grind⟩
 · refine genL_of (K := [[v, 1]]) (E := [[1, (-v) % p]]) (n := 2) (fun u hu => ?_) (fun u hu => ?_) fun x hx y hy => ?_
   · simp only [List.mem_cons, List.not_mem_nil, or_false] at hu
     subst hu
     exact ⟨rfl, fun a ha => by simp at ha; omega⟩
   · simp only [List.mem_cons, List.not_mem_nil, or_false] at hu
     subst hu
     rw [nul1]; simp [sm]
     exact ⟨q, by omega⟩
   · rw [nul1] at hx hy
     simp [sm] at hx hy ⊢
     obtain ⟨c, hc⟩ := hy
     obtain ⟨a, ha⟩ := hx
     exact ⟨a * y 1 + x 0 * (c - q * y 1), by grind⟩
theorem leafEq_mat {p k v : Int} (hp : 2 ≤ p) (hk : genB k) : Mat p (leafEq p k v).length (kdN k) (leafEq p k v) := by
 have hq : 0 ≤ (-v) % p ∧ (-v) % p < p := ⟨Int.emod_nonneg _ (by omega), Int.emod_lt_of_pos _ (by omega)⟩
 refine ⟨rfl, fun u hu => ?_⟩
 rcases hk with rfl | rfl | rfl | rfl | rfl | rfl | rfl | rfl | rfl | rfl
 all_goals
  simp only [leafEq, if_pos, reduceIte, Int.reduceEq, List.mem_cons, List.not_mem_nil, or_false] at hu
 · rcases hu with rfl | rfl <;> exact ⟨rfl, fun a ha => by simp at ha; omega⟩
 · subst hu; exact ⟨rfl, fun a ha => by simp at ha; omega⟩
 · subst hu; exact ⟨rfl, fun a ha => by simp at ha; omega⟩
 · subst hu; exact ⟨rfl, fun a ha => by simp at ha; omega⟩
 · rcases hu with rfl | rfl <;> exact ⟨rfl, fun a ha => by simp at ha; omega⟩
 · subst hu; exact ⟨rfl, fun a ha => by simp at ha; omega⟩
 · subst hu; exact ⟨rfl, fun a ha => by simp at ha; omega⟩
 · subst hu; exact ⟨rfl, fun a ha => by simp at ha; omega⟩
theorem redM_self {p : Int} (hp : fieldB p = true) {n : Nat} {R : List (List Int)} (h : RedL p n R) : redM p n R = R := by
 have hpb := fieldB_bounds hp
 have h2 := redM_spec hp h.1
 exact RedL.unique (by omega) h2.1 h h2.2.1
theorem redM_idem {p : Int} (hp : fieldB p = true) {n : Nat} {L : List (List Int)} (hm : Mat p L.length n L) : redM p n (redM p n L) = redM p n L := redM_self hp (redM_spec hp hm).1
theorem null_of_gen {p : Int} (hp : fieldB p = true) {n : Nat} {E K : List (List Int)} (hE : Mat p E.length n E) (hK : GenL p n (NulL p n E) K) : redM p n K = nullM p n E := by
 have hpb := fieldB_bounds hp
 have hr := redM_spec hp hE
 unfold nullM
 exact gen_unique hp hK ((nvecs_gen (by omega) hr.1).congr hr.2.1)
theorem leaf_null {p k v : Int} (hp : fieldB p = true) (hk : genB k) (hv : 0 ≤ v ∧ v < p) : redM p (kdN k) (leafRows k v) = nullM p (kdN k) (leafEq p k v) := by
 have hpb := fieldB_bounds hp
 exact null_of_gen hp (leafEq_mat (by omega) hk) (leaf_gen (by omega) hk hv)
theorem leafRows_mat {p k v : Int} (hp : 2 ≤ p) (hk : genB k) (hv : 0 ≤ v ∧ v < p) : Mat p (leafRows k v).length (kdN k) (leafRows k v) := (leaf_gen hp hk hv).1
theorem RelOk.mk_red {p a b : Int} {n : Nat} {L : List (List Int)} (hf : fieldB p = true) (ha : 0 ≤ a) (hb : 0 ≤ b) (hn : a + b = (n : Int)) (h24 : n ≤ 24) (hm : Mat p L.length n L) : RelOk p (a, b, redM p n L) := by
 have h1 := redM_spec hf hm
 have h2 := red_len h1.1
 have e : (a + b).toNat = n := by omega
 exact ⟨ha, hb, by show a + b ≤ 24; omega, hf, by show ((redM p n L).length : Int) ≤ a + b; omega, by show Mat p _ (a + b).toNat _; rw [e]; exact h1.1.1, by show redM p (a + b).toNat (redM p n L) = redM p n L; rw [e]; exact redM_idem hf hm⟩
theorem kindTy_nn (k : Int) : 0 ≤ (kindTy k).1 ∧ 0 ≤ (kindTy k).2 ∧ (kindTy k).1 + (kindTy k).2 = (kdN k : Int) ∧ kdN k ≤ 4 := by
 unfold kdN kindTy
 repeat' split
 all_goals simp
def idRows (n : Nat) : List (List Int) := (List.range n).map fun i => unitV n i ++ unitV n i
def swapRows : List (List Int) := [[1, 0, 0, 1], [0, 1, 1, 0]]
def leafV (p : Int) (n : Nd) : Sys :=
 if n.1 = 1 then (n.2.1, n.2.1, idRows n.2.1.toNat) else if n.1 = 2 then (2, 2, redM p 4 swapRows)
 else ((kindTy n.1).1, (kindTy n.1).2, nullM p (kdN n.1) (leafEq p n.1 n.2.1))
def den (p : Int) : Tr → Sys
 | .leaf n => leafV p n
 | .node q a b => if q then tenV p (den p a) (den p b) else cmpV p (den p a) (den p b)
@[simp] theorem unitV_length (n i : Nat) : (unitV n i).length = n := by simp [unitV]
theorem unitV_getD {n i j : Nat} (hj : j < n) : (unitV n i).getD j 0 = if j = i then 1 else 0 := by simp [unitV, List.getD, hj]
theorem idRows_len (n : Nat) : (idRows n).length = n := by simp [idRows]
theorem idRows_en {n i j : Nat} (hi : i < n) (hj : j < n + n) : en (idRows n) i j = if j = i ∨ j = n + i then 1 else 0 := by
 have e : (idRows n).getD i [] = unitV n i ++ unitV n i := by simp [idRows, List.getD, hi]
 unfold en
 rw [e, getD_app, unitV_length]
 by_cases h : j < n
 · rw [if_pos h, unitV_getD h]
   by_cases h2 : j = i
   · rw [if_pos h2, if_pos (.inl h2)]
   · rw [if_neg h2, if_neg (by omega)]
 · rw [if_neg h, unitV_getD (by omega)]
   by_cases h2 : j - n = i
   · rw [if_pos h2, if_pos (by omega)]
   · rw [if_neg h2, if_neg (by omega)]
theorem idRows_mat {p : Int} (hp : 1 < p) (n : Nat) : Mat p n (n + n) (idRows n) := by
 refine Mat.of_get (idRows_len n) fun i hi => ?_
 have e : (idRows n).getD i [] = unitV n i ++ unitV n i := by simp [idRows, List.getD, hi]
 have hu : Res p (unitV n i) := fun x hx => by
  simp only [unitV, List.mem_map] at hx
  obtain ⟨j, _, rfl⟩ := hx
  split <;> omega
 rw [e]
 refine ⟨by simp, fun x hx => ?_⟩
 rcases List.mem_append.1 hx with h | h <;> exact hu x h
theorem idRows_red {p : Int} (hp : 1 < p) (n : Nat) : RedL p (n + n) (idRows n) := by
 have hm := idRows_mat hp n
 refine ⟨by rw [idRows_len]; exact hm, id, ?_⟩
 rw [idRows_len]
 refine ⟨fun i hi => by show i < n + n; omega, fun i hi => ?_, fun i k hi hk hne => ?_, fun i j hi hj => ?_, fun i k h _ => h, fun i j hi hj => ?_⟩
 · rw [idRows_en hi (by show i < n + n; omega), if_pos (.inl rfl)]
 · rw [idRows_en hk (by show i < n + n; omega), if_neg (by show ¬ (i = k ∨ i = n + k); omega)]
 · have hj' : j < i := hj
   rw [idRows_en hi (by omega), if_neg (by omega)]
 · rw [idRows_en hi hj]; split <;> omega
theorem swapRows_mat {p : Int} (hp : 2 ≤ p) : Mat p 2 4 swapRows := ⟨rfl, fun u hu => by
 simp only [swapRows, List.mem_cons, List.not_mem_nil, or_false] at hu
 rcases hu with rfl | rfl <;> exact ⟨rfl, fun a ha => by simp at ha; omega⟩⟩
theorem gen_of_leaf {n : Nd} (hl : leafB n = true) (h1 : n.1 ≠ 1) (h2 : n.1 ≠ 2) (h8 : n.1 ≠ 8) (h14 : n.1 ≠ 14) : genB n.1 := by
 unfold leafB at hl
 simp only [decide_eq_true_eq] at hl
 unfold genB
 omega
def okLf (p : Int) (n : Nd) : Prop := leafB n = true ∧ n.1 ≠ 8 ∧ n.1 ≠ 14 ∧ ((n.1 = 7 ∨ n.1 = 13) → n.2.1 < p)
theorem okLf.val {p : Int} {n : Nd} (hp : 2 ≤ p) (h : okLf p n) (h1 : n.1 ≠ 1) : 0 ≤ n.2.1 ∧ n.2.1 < p := by
 obtain ⟨hl, _, _, h4⟩ := h
 unfold leafB at hl
 simp only [decide_eq_true_eq] at hl
 omega
theorem leafV_ty {p : Int} {n : Nd} : (leafV p n).1 = (leafTy n).1 ∧ (leafV p n).2.1 = (leafTy n).2 := by
 unfold leafV leafTy
 by_cases h1 : n.1 = 1
 · rw [if_pos h1, if_pos h1]; exact ⟨rfl, rfl⟩
 · rw [if_neg h1, if_neg h1]
   by_cases h2 : n.1 = 2
   · rw [if_pos h2, h2]; exact ⟨rfl, rfl⟩
   · rw [if_neg h2]; exact ⟨rfl, rfl⟩
theorem leafV_ok {p : Int} {n : Nd} (hf : fieldB p = true) (h : okLf p n) : RelOk p (leafV p n) := by
 have hpb := fieldB_bounds hf
 have hfit := leaf_fit h.1
 unfold leafV
 by_cases h1 : n.1 = 1
 · rw [if_pos h1]
   unfold leafTy at hfit
   rw [if_pos h1] at hfit
   have hr := idRows_red (p := p) (by omega) n.2.1.toNat
   have e : (n.2.1 + n.2.1).toNat = n.2.1.toNat + n.2.1.toNat := by omega
   refine ⟨by show 0 ≤ n.2.1; omega, by show 0 ≤ n.2.1; omega, by show n.2.1 + n.2.1 ≤ 24; omega, hf, ?_, ?_, ?_⟩
   · show ((idRows n.2.1.toNat).length : Int) ≤ n.2.1 + n.2.1
     rw [idRows_len]; omega
   · show Mat p _ (n.2.1 + n.2.1).toNat _
     rw [e]; exact hr.1
   · show redM p (n.2.1 + n.2.1).toNat (idRows n.2.1.toNat) = _
     rw [e]; exact redM_self hf hr
 · rw [if_neg h1]
   by_cases h2 : n.1 = 2
   · rw [if_pos h2]
     exact RelOk.mk_red (n := 4) hf (by omega) (by omega) (by omega) (by omega) (swapRows_mat (by omega))
   · rw [if_neg h2]
     have hk := gen_of_leaf h.1 h1 h2 h.2.1 h.2.2.1
     have hv := h.val (by omega) h1
     rw [← leaf_null hf hk hv]
     obtain ⟨a, b, c, d⟩ := kindTy_nn n.1
     exact RelOk.mk_red hf a b c (by omega) (leafRows_mat (by omega) hk hv)
theorem cmpV_ok {p : Int} {s t : Sys} (hs : RelOk p s) (ht : RelOk p t) (_hm : s.2.1 = t.1) (h : s.1 + t.2.1 ≤ 24) : RelOk p (cmpV p s t) := by
 have h1 := hs.lo
 have h2 := ht.hi
 unfold cmpV
 exact RelOk.mk_red (n := (s.1 + t.2.1).toNat) hs.fld h1 h2 (by omega) (by omega) (pairs_mat hs ht)
theorem tenV_ok {p : Int} {s t : Sys} (hs : RelOk p s) (ht : RelOk p t) (h : s.1 + t.1 + s.2.1 + t.2.1 ≤ 24) : RelOk p (tenV p s t) := by
 have h1 := hs.lo; have h2 := ht.hi; have h3 := hs.hi; have h4 := ht.lo
 unfold tenV
 exact RelOk.mk_red hs.fld (by omega) (by omega) (by omega) (by omega) (ten_mat hs ht)
def okTr (p : Int) : Tr → Prop
 | .leaf n => okLf p n
 | .node _ a b => okTr p a ∧ okTr p b
theorem den_ok {p : Int} (hf : fieldB p = true) : ∀ {t : Tr}, wt t → okTr p t → RelOk p (den p t) ∧ (den p t).1 = (ty t).1 ∧ (den p t).2.1 = (ty t).2
 | .leaf n, _, h => ⟨leafV_ok hf h, leafV_ty.1, leafV_ty.2⟩
 | .node q a b, hw, h => by
   obtain ⟨h1, h2, h3⟩ := den_ok hf hw.1 h.1
   obtain ⟨g1, g2, g3⟩ := den_ok hf hw.2.1 h.2
   have f1 := wt_fit hw.1
   have f2 := wt_fit hw.2.1
   have hj := hw.2.2
   cases q
   · simp only [joinB, Bool.false_eq_true, if_false, decide_eq_true_eq] at hj
     simp only [den, Bool.false_eq_true, if_false, ty, joinTy]
     exact ⟨cmpV_ok h1 g1 (by omega) (by omega), by unfold cmpV; exact h2, by unfold cmpV; exact g3⟩
   · simp only [joinB, if_true, decide_eq_true_eq] at hj
     simp only [den, if_true, ty, joinTy]
     exact ⟨tenV_ok h1 g1 (by omega), by unfold tenV; show _ + _ = _; omega, by unfold tenV; show _ + _ = _; omega⟩
theorem base_red {p k v : Int} (hp : 2 ≤ p) (hk : k = 3 ∨ k = 4 ∨ k = 5 ∨ k = 6 ∨ k = 7) (hv : 0 ≤ v ∧ v < p) : RedL p (kdN k) (leafRows k v) := by
 have hg : genB k := by unfold genB; omega
 refine ⟨leafRows_mat hp hg hv, id, ?_⟩
 rcases hk with rfl | rfl | rfl | rfl | rfl
 · have e : ∀ i, i < 1 → i = 0 := fun i h => by omega
   refine ⟨fun i hi => ?_, fun i hi => ?_, fun i k hi hk hne => ?_, fun i j hi hj => ?_, fun i k h hk => h, fun i j hi hj => ?_⟩
   · obtain rfl := e i hi; decide
   · obtain rfl := e i hi; rfl
   · have := e i hi; have := e k hk; omega
   · have := e i hi; have : j < i := hj; omega
   · obtain rfl := e i hi
     have : j = 0 ∨ j = 1 ∨ j = 2 := by have : j < 3 := hj; omega
     rcases this with rfl | rfl | rfl <;> exact ⟨by show (0 : Int) ≤ 1; omega, by show (1 : Int) < p; omega⟩
 · have e : ∀ i, i < 1 → i = 0 := fun i h => by omega
   refine ⟨fun i hi => ?_, fun i hi => ?_, fun i k hi hk hne => ?_, fun i j hi hj => ?_, fun i k h hk => h, fun i j hi hj => ?_⟩
   · obtain rfl := e i hi; decide
   · obtain rfl := e i hi; rfl
   · have := e i hi; have := e k hk; omega
   · have := e i hi; have : j < i := hj; omega
   · obtain rfl := e i hi
     obtain rfl : j = 0 := by have : j < 1 := hj; omega
     exact ⟨by show (0 : Int) ≤ 1; omega, by show (1 : Int) < p; omega⟩
 · have e : ∀ i, i < 2 → i = 0 ∨ i = 1 := fun i h => by omega
   refine ⟨fun i hi => ?_, fun i hi => ?_, fun i k hi hk hne => ?_, fun i j hi hj => ?_, fun i k h hk => h, fun i j hi hj => ?_⟩
   · rcases e i hi with rfl | rfl <;> decide
   · rcases e i hi with rfl | rfl <;> rfl
   · rcases e i hi with rfl | rfl <;> rcases e k hk with rfl | rfl <;> first | rfl | omega
   · have hj' : j < i := hj
     rcases e i hi with rfl | rfl
     · omega
     · obtain rfl : j = 0 := by omega
       rfl
   · have : j = 0 ∨ j = 1 ∨ j = 2 := by have : j < 3 := hj; omega
     rcases e i hi with rfl | rfl <;> rcases this with rfl | rfl | rfl <;> first | exact ⟨by show (0 : Int) ≤ 1; omega, by show (1 : Int) < p; omega⟩ | exact ⟨by show (0 : Int) ≤ 0; omega, by show (0 : Int) < p; omega⟩
 · refine ⟨fun i hi => ?_, fun i hi => ?_, fun i k hi hk hne => ?_, fun i j hi hj => ?_, fun i k h hk => h, fun i j hi hj => ?_⟩ <;> exact absurd hi (Nat.not_lt_zero i)
 · have e : ∀ i, i < 1 → i = 0 := fun i h => by omega
   refine ⟨fun i hi => ?_, fun i hi => ?_, fun i k hi hk hne => ?_, fun i j hi hj => ?_, fun i k h hk => h, fun i j hi hj => ?_⟩
   · obtain rfl := e i hi; decide
   · obtain rfl := e i hi; rfl
   · have := e i hi; have := e k hk; omega
   · have := e i hi; have : j < i := hj; omega
   · obtain rfl := e i hi
     have : j = 0 ∨ j = 1 := by have : j < 2 := hj; omega
     rcases this with rfl | rfl
     · exact ⟨by show (0 : Int) ≤ 1; omega, by show (1 : Int) < p; omega⟩
     · exact hv
theorem conv_leaf {p k v : Int} (hf : fieldB p = true) (hk : k = 9 ∨ k = 10 ∨ k = 11 ∨ k = 12 ∨ k = 13) (hv : 0 ≤ v ∧ v < p) :
  convM p ((kindTy (k - 6)).1, (kindTy (k - 6)).2, redM p (kdN (k - 6)) (leafRows (k - 6) v)) = ((kindTy k).1, (kindTy k).2, nullM p (kdN k) (leafEq p k v)) := by
 have hpb := fieldB_bounds hf
 have hg : genB k := by unfold genB; omega
 rw [redM_self hf (base_red (by omega) (by omega) hv), ← leaf_null hf hg hv]
 rcases hk with rfl | rfl | rfl | rfl | rfl <;> rfl
abbrev tNd : TypeId := 113
def nc (n : Nd) : List Value := [.int .i64 n.1, .int .i64 n.2.1, .string n.2.2]
def ncs : List Nd → List Value
 | [] => []
 | n :: r => nc n ++ ncs r
theorem ncs_append (l m : List Nd) : ncs (l ++ m) = ncs l ++ ncs m := by
 induction l with
 | nil => rfl
 | cons n r ih => simp [ncs, ih]
@[simp] theorem ncs_length (l : List Nd) : (ncs l).length = l.length * 3 := by
  induction l with
  | nil => rfl
  | cons n r ih => simp only [ncs, nc, List.length_append, List.length_cons, List.length_nil, ih]; omega
theorem ncs_get {l : List Nd} {j : Nat} {n : Nd} (h : l[j]? = some n) : (ncs l)[j * 3]? = some (.int .i64 n.1) ∧ (ncs l)[j * 3 + 1]? = some (.int .i64 n.2.1) ∧ (ncs l)[j * 3 + 2]? = some (.string n.2.2) := by
 induction l generalizing j with
 | nil => simp at h
 | cons a r ih =>
   cases j with
   | zero =>
     obtain rfl : a = n := by simpa using h
     simp [ncs, nc]
   | succ j =>
     have := ih (j := j) (by simpa using h)
     have hl : (nc a).length = 3 := rfl
     simp only [ncs]
     rw [List.getElem?_append_right (by omega), List.getElem?_append_right (by omega), List.getElem?_append_right (by omega), hl]
     rw [show (j + 1) * 3 - 3 = j * 3 by omega, show (j + 1) * 3 + 1 - 3 = j * 3 + 1 by omega, show (j + 1) * 3 + 2 - 3 = j * 3 + 2 by omega]
     exact this
theorem ncs_set {l : List Nd} {j : Nat} (n : Nd) (h : j < l.length) : (((ncs l).set (j * 3) (.int .i64 n.1)).set (j * 3 + 1) (.int .i64 n.2.1)).set (j * 3 + 2) (.string n.2.2) = ncs (l.set j n) := by
 induction l generalizing j with
 | nil => simp at h
 | cons a r ih =>
   cases j with
   | zero => simp [ncs, nc]
   | succ j =>
     have := ih (j := j) (by simpa using h)
     have hl : (nc a).length = 3 := rfl
     simp only [ncs, List.set_cons_succ]
     rw [List.set_append_right _ _ (by omega), List.set_append_right _ _ (by omega), List.set_append_right _ _ (by omega), hl]
     rw [show (j + 1) * 3 - 3 = j * 3 by omega, show (j + 1) * 3 + 1 - 3 = j * 3 + 1 by omega, show (j + 1) * 3 + 2 - 3 = j * 3 + 2 by omega]
     rw [this]
def RdN (w : World) (A : Option Addr) (l : List Nd) : Prop := RdC w A (ncs l)
def NS (w : World) (A : Option Addr) (cap : Nat) (l : List Nd) : Prop := Sl w tNd 3 A l.length cap (ncs l)
section
variable {w w' : World} {A : Option Addr} {cap : Nat} {l : List Nd}
theorem add_next (ad : Addr) (n i : Nat) (hi : 0 < i) : ad.add (n + i) = ⟨(ad.add n).block, (ad.add n).off + i, none⟩ := by
 unfold Addr.add
 have : ¬ n + i = 0 := by omega
 rw [if_neg this]
 by_cases h : n = 0 <;> simp [h, Nat.add_assoc]
theorem RdN.at_ (h : RdN w A l) {j : Nat} (hj : j < l.length) : ∃ ad k v s, A = some ad ∧ l[j]? = some (k, v, s) ∧ w.cell? (ad.add (j * 3)) = some (.int .i64 k) ∧ w.cell? ⟨(ad.add (j * 3)).block, (ad.add (j * 3)).off + 1, none⟩ = some (.int .i64 v) ∧ w.cell? ⟨(ad.add (j * 3)).block, (ad.add (j * 3)).off + 2, none⟩ = some (.string s) := by
 obtain ⟨n, hn⟩ : ∃ n, l[j]? = some n := ⟨_, List.getElem?_eq_getElem hj⟩
 obtain ⟨h0, h1, h2⟩ := ncs_get hn
 obtain ⟨ad, hA, c0⟩ := h _ _ h0
 obtain ⟨ad1, hA1, c1⟩ := h _ _ h1
 obtain ⟨ad2, hA2, c2⟩ := h _ _ h2
 rw [hA] at hA1 hA2
 obtain rfl := Option.some.inj hA1
 obtain rfl := Option.some.inj hA2
 obtain ⟨k, v, s⟩ := n
 rw [add_next _ _ 1 (by omega)] at c1
 rw [add_next _ _ 2 (by omega)] at c2
 exact ⟨ad, k, v, s, hA, hn, c0, c1, c2⟩
theorem RdN.below (h : RdN w A l) (hb : Below w.heap.size w w') : RdN w' A l := RdC.below h hb
theorem RdN.nil (w : World) (A : Option Addr) : RdN w A [] := RdC.nil w A
theorem NS.rd (h : NS w A cap l) : RdN w A l := Sl.rdc h
theorem NS.below (h : NS w A cap l) (hb : Below w.heap.size w w') : NS w' A cap l := Sl.below h hb
theorem NS.keeps (h : NS w A cap l) {S : Nat → Prop} (hk : Keeps S w w') (hS : ∀ b, b ∈ fpA A → ¬ S b) : NS w' A cap l := Sl.keeps h hk hS
theorem NS.lt (h : NS w A cap l) : ∀ b, b ∈ fpA A → b < w.heap.size := Sl.lt h
theorem NS.at_ (h : NS w A cap l) {j : Nat} (hj : j < l.length) : ∃ ad, A = some ad ∧ ad.block < w.heap.size ∧ ∀ k, w.frozen? (ad.add k) = false := by
 obtain ⟨n, hn⟩ : ∃ n, l[j]? = some n := ⟨_, List.getElem?_eq_getElem hj⟩
 obtain ⟨ad, hA, hb, _, hf⟩ := Sl.cell h (ncs_get hn).1
 exact ⟨ad, hA, hb, hf⟩
end
def RetN (w : World) (l : List Nd) (e : Ending) (w' : World) : Prop :=
 ∃ A cap, e = .returned (.slice A l.length cap) ∧ NS w' A cap l ∧ Fresh w.heap.size A ∧ Below w.heap.size w w'
def RdTm (w : World) (v : Value) (l : List Nd) : Prop := ∃ A cap, v = .agg #[.slice A l.length cap] ∧ RdN w A l
def OwTm (w : World) (v : Value) (l : List Nd) (fp : List Nat) : Prop := ∃ A cap, v = .agg #[.slice A l.length cap] ∧ NS w A cap l ∧ fp = fpA A
section
variable {w w' : World} {v : Value} {l : List Nd} {fp : List Nat}
theorem RdTm.below (h : RdTm w v l) (hb : Below w.heap.size w w') : RdTm w' v l := by obtain ⟨A, c, rfl, h⟩ := h; exact ⟨A, c, rfl, h.below hb⟩
theorem OwTm.rd (h : OwTm w v l fp) : RdTm w v l := by obtain ⟨A, c, rfl, h, _⟩ := h; exact ⟨A, c, rfl, h.rd⟩
theorem OwTm.below (h : OwTm w v l fp) (hb : Below w.heap.size w w') : OwTm w' v l fp := by obtain ⟨A, c, rfl, h, e⟩ := h; exact ⟨A, c, rfl, h.below hb, e⟩
theorem OwTm.keeps (h : OwTm w v l fp) {S : Nat → Prop} (hk : Keeps S w w') (hS : ∀ b, b ∈ fp → ¬ S b) : OwTm w' v l fp := by
 obtain ⟨A, c, rfl, h, rfl⟩ := h; exact ⟨A, c, rfl, h.keeps hk hS, rfl⟩
theorem OwTm.lt (h : OwTm w v l fp) : LtL w.heap.size fp := by obtain ⟨A, c, rfl, h, rfl⟩ := h; exact h.lt
end
def t_inB (n lo hi : Int) : Bool := decide (lo ≤ n ∧ n ≤ hi)
def hvB (k : Int) : Bool := decide (k = 7 ∨ k = 13)
def gvB (k v : Int) : Bool := if hvB k then t_inB v 0 96 else decide (v = 0)
theorem t_within_any (n lo hi : Int) (w : World) :
  Calls Tryz.prog 149 #[.int .i64 n, .int .i64 lo, .int .i64 hi] w fun e w' => e = .returned (.bool (t_inB n lo hi)) ∧ w' = w := by
 go_enter Tryz.func149, Tryz.ntmps149
 go_wp2
 all_goals go_ret
 all_goals (refine ⟨ret_bool ?_, rfl⟩; unfold t_inB; simp; try omega)
theorem t_l1In_any (n lo hi : Int) (w : World) :
  Calls Tryz.prog 116 #[.int .i64 n, .int .i64 lo, .int .i64 hi] w fun e w' => e = .returned (.bool (t_inB n lo hi)) ∧ w' = w := by
 go_enter Tryz.func116, Tryz.ntmps116
 go_wp2
 all_goals go_ret
 all_goals (refine ⟨ret_bool ?_, rfl⟩; unfold t_inB; simp; try omega)
theorem hasValue_any (k : Int) (w : World) :
  Calls Tryz.prog 109 #[.int .i64 k] w fun e w' => e = .returned (.bool (hvB k)) ∧ w' = w := by
 go_enter Tryz.func109, Tryz.ntmps109
 go_wp2
 all_goals go_ret
 all_goals (refine ⟨ret_bool ?_, rfl⟩; unfold hvB; by_cases h7 : k = 7 <;> by_cases h13 : k = 13 <;> simp_all)
theorem isGenerator_any (k : Int) (w : World) :
  Calls Tryz.prog 169 #[.int .i64 k] w fun e w' => e = .returned (.bool (t_inB k 3 14)) ∧ w' = w := by
 go_enter Tryz.func169, Tryz.ntmps169
 go_wp2_with (fail)
 refine (t_within_any _ _ _ _).mono ?_
 rintro e w' ⟨rfl, rfl⟩
 go_wp2_with (fail)
 go_ret
 exact ⟨rfl, rfl⟩
theorem isGeneratorValue_any (k v : Int) (w : World) :
  Calls Tryz.prog 170 #[.int .i64 k, .int .i64 v] w fun e w' => e = .returned (.bool (gvB k v)) ∧ w' = w := by
 have hb := hasValue_any k w
 unfold gvB
 cases hk : hvB k
 · rw [hk] at hb
   have HB := lH hb; clear hb hk
   go_enter Tryz.func170, Tryz.ntmps170
   go_wp2_with (fail)
   refine HB.out.mono ?_
   rintro e w' ⟨rfl, rfl⟩
   go_wp2_with (fail)
   go_ret
   exact ⟨rfl, rfl⟩
 · rw [hk] at hb
   have HB := lH hb; clear hb hk
   go_enter Tryz.func170, Tryz.ntmps170
   go_wp2_with (fail)
   refine HB.out.mono ?_
   rintro e w' ⟨rfl, rfl⟩
   go_wp2_with (fail)
   refine (t_within_any _ _ _ _).mono ?_
   rintro e w' ⟨rfl, rfl⟩
   go_wp2_with (fail)
   go_ret
   exact ⟨rfl, rfl⟩
set_option maxHeartbeats 1600000 in
theorem generatorWires_any (k : Int) (w : World) (h1 : 3 ≤ k) (h2 : k ≤ 14) :
  Calls Tryz.prog 139 #[.int .i64 k] w fun e w' => e = .returned (.agg #[.int .i64 (kindTy k).1, .int .i64 (kindTy k).2]) ∧ Below w.heap.size w w' := by
 have hc : k = 3 ∨ k = 4 ∨ k = 5 ∨ k = 6 ∨ k = 7 ∨ k = 8 ∨ k = 9 ∨ k = 10 ∨ k = 11 ∨ k = 12 ∨ k = 13 ∨ k = 14 := by omega
 rcases hc with rfl | rfl | rfl | rfl | rfl | rfl | rfl | rfl | rfl | rfl | rfl | rfl
 all_goals
  clear h1 h2
  go_enter Tryz.func139, Tryz.ntmps139
  go_wp2_with (fail)
  refine bodyPost_ret (v := .agg #[.int .i64 (kindTy _).1, .int .i64 (kindTy _).2]) (by simp [results, Tryz.results139, go_sem]; exact ⟨rfl, rfl⟩) rfl ⟨rfl, ?_⟩
  first
  | exact ((Below.refl _ _).alloc (Nat.le_refl _) _).alloc (by simp) _
  | exact (((Below.refl _ _).alloc (Nat.le_refl _) _).alloc (by simp) _).alloc (by simp; omega) _
theorem name_yes {s : ByteArray} (h : (!s.toList.isEmpty) = false) : s = noName := by
 have h1 : s.toList = [] := by simpa using h
 have h2 : s.data.toList = [] := by rw [← h1]; exact (ByteArray.toList_eq s).symm ▸ rfl
 have h3 : s.data = #[] := by simpa using h2
 cases s; simp_all [noName]
theorem name_no {s : ByteArray} (h : (!s.toList.isEmpty) = true) : s ≠ noName := by
 rintro rfl
 have e : noName.toList = [] := by rw [ByteArray.toList_eq]; rfl
 rw [e] at h
 cases h
theorem t_box2 {w : World} {B : Nat} {x y : Value} {t : TypeId} (h : w.heap[B]? = some (.cells #[x, y] t)) :
  (w.cell? ⟨B, 0, none⟩ = some x ∧ w.cell? ⟨B, 1, none⟩ = some y) ∧ (w.frozen? ⟨B, 0, none⟩ = false ∧ w.frozen? ⟨B, 1, none⟩ = false) := by
 refine ⟨⟨?_, ?_⟩, ?_, ?_⟩ <;> simp [World.cell?, World.frozen?, h]
theorem t_box3 {w : World} {B : Nat} {x y z : Value} {t : TypeId} (h : w.heap[B]? = some (.cells #[x, y, z] t)) :
  (w.cell? ⟨B, 0, none⟩ = some x ∧ w.cell? ⟨B, 1, none⟩ = some y ∧ w.cell? ⟨B, 2, none⟩ = some z) ∧ (w.frozen? ⟨B, 0, none⟩ = false ∧ w.frozen? ⟨B, 1, none⟩ = false ∧ w.frozen? ⟨B, 2, none⟩ = false) := by
 refine ⟨⟨?_, ?_, ?_⟩, ?_, ?_, ?_⟩ <;> simp [World.cell?, World.frozen?, h]
theorem t_below_alloc (w : World) (o : Obj) : Below w.heap.size w (w.alloc o) := (Below.refl _ _).alloc (Nat.le_refl _) _
theorem below_drew {B : Nat} {a w : World} (h : Below B a w) : Below B a w.drew := below_drewN h 1
theorem t_box_below {w w' : World} {B : Nat} {o : Obj} (h : w.heap[B]? = some o) (hb : Below w.heap.size w w') : w'.heap[B]? = some o := (hb.block B (Array.getElem?_eq_some_iff.1 h).1).trans h
theorem t_box_keeps {w w' : World} {S : Nat → Prop} {B : Nat} {o : Obj} (h : w.heap[B]? = some o) (hk : Keeps S w w') (hS : ¬ S B) : w'.heap[B]? = some o := (hk.block B (Array.getElem?_eq_some_iff.1 h).1 hS).trans h
theorem t_box_lt {w : World} {B : Nat} {o : Obj} (h : w.heap[B]? = some o) : B < w.heap.size := (Array.getElem?_eq_some_iff.1 h).1
theorem two_boxes (w : World) (o o' : Obj) : Below w.heap.size w ((w.alloc o).alloc o') ∧ ((w.alloc o).alloc o').heap[w.heap.size]? = some o ∧ ((w.alloc o).alloc o').heap[w.heap.size + 1]? = some o' ∧ ((w.alloc o).alloc o').heap.size = w.heap.size + 2 := by
 refine ⟨((Below.refl _ _).alloc (Nat.le_refl _) _).alloc (by simp) _, t_box_below (heap_alloc_new w o) (t_below_alloc _ _), ?_, by simp⟩
 have := heap_alloc_new (w.alloc o) o'
 rwa [World.size_alloc] at this
theorem t_set2 {w : World} {B : Nat} {t : TypeId} {x y a b : Value} (h : w.heap[B]? = some (.cells #[x, y] t)) : ((w.setCell ⟨B, 0, none⟩ a).setCell ⟨B, 1, none⟩ b).heap[B]? = some (.cells #[a, b] t) ∧ Keeps (· = B) w ((w.setCell ⟨B, 0, none⟩ a).setCell ⟨B, 1, none⟩ b) := by
 refine ⟨by simp [World.setCell, Array.getElem?_modify, h], ?_⟩
 exact (((Keeps.refl (fun x => x = B) w).setCell (p := ⟨B, 0, none⟩) rfl _).setCell (p := ⟨B, 1, none⟩) rfl _)
theorem t_results_cell_tmp {P : Program} {fn : Func} {p u : Tmp} {ty : TypeId} (h : fn.results = #[.cell p ty, .tmp u]) (tmps : Array Value) (w : World) (g : Nat) (t : TypeId) (cs : Array Value) (fr : Nat × Nat) (d : TypeDesc)
  (hp : tmps.getD p undef = .pointer (some ⟨g, 0, none⟩)) (hg : w.heap[g]? = some (.cells cs t fr))
  (hu : P.underlying ty = some d) (hd : (match d with | .struct _ | .array _ _ => true | _ => false) = true) (hi : (P.info? ty).map (·.size) = some cs.size) :
  (results fn tmps).run P w = .ok (.tuple #[.agg cs, tmps.getD u undef]) w := by
 have hp' : tmps[p]?.getD undef = .pointer (some ⟨g, 0, none⟩) := by simpa using hp
 simp [results, h, hp', asAddr, run_loadVar_row w g t ty cs fr d hg hu hd hi]
abbrev tWires : TypeId := 147
def LfA (k v : Int) (s : ByteArray) (w : World) (e : Ending) (w' : World) : Prop :=
 ∃ (i o : Int) (b : Bool), e = .returned (.tuple #[.agg #[.int .i64 i, .int .i64 o], .bool b]) ∧ b = leafB (k, v, s) ∧ (b = true → (i, o) = leafTy (k, v, s)) ∧ Below w.heap.size w w'
set_option maxRecDepth 8000 in
set_option maxHeartbeats 1000000 in
theorem leafWires_any (k v : Int) (s : ByteArray) (w : World) :
  Calls Tryz.prog 177 #[.agg #[.int .i64 k, .int .i64 v, .string s]] w (LfA k v s w) := by
 go_enter Tryz.func177, Tryz.ntmps177
 go_wp2_with (fail)
 · refine bodyPost_ret (v := .tuple #[.agg #[.int .i64 0, .int .i64 0], .bool false]) (by simp [results, Tryz.results177, go_sem]) rfl ⟨_, _, _, rfl, ?_, fun h => (by cases h), ((Below.refl _ _).alloc (Nat.le_refl _) _).alloc (by simp) _⟩
   have hn := name_no ‹_›
   simp [leafB, hn]
 · have hn := name_yes ‹_›
   have hk : k = 1 := by simpa using (‹(k == 1) = true›)
   subst hk hn
   refine tailD 8 (by kernel_rfl) (by kernel_rfl) ?_
   simp only [List.take_succ_cons, List.take_zero, List.drop_succ_cons, List.drop_zero]
   repeat still_step
   still_call (t_within_any _ _ _ _)
   refine wpStill_nil ?_
   go_wp2_with (fail)
   refine bodyPost_ret (v := .tuple #[.agg #[.int .i64 v, .int .i64 v], .bool (t_inB v 0 12)]) (by simp [results, Tryz.results177, go_sem]) rfl ⟨_, _, _, rfl, ?_, fun h => rfl, below_drew (((Below.refl _ _).alloc (Nat.le_refl _) _).alloc (by simp) _)⟩
   simp [leafB, t_inB]
 · have hn := name_yes ‹_›
   have hk : k = 2 := by simpa using (‹(k == 2) = true›)
   subst hk hn
   obtain ⟨W, hW⟩ : ∃ W, W = (w.alloc (.cells #[.int .i64 2, .int .i64 v, .string noName] 113)).alloc (.cells #[.int .i64 0, .int .i64 0] tWires) := ⟨_, rfl⟩
   obtain ⟨b0, k0, k1, hz⟩ := two_boxes w (.cells #[.int .i64 2, .int .i64 v, .string noName] 113) (.cells #[.int .i64 0, .int .i64 0] tWires)
   rw [← hW] at b0 k0 k1 hz ⊢
   clear hW
   have k0d : W.drew.heap[w.heap.size]? = some (.cells #[.int .i64 2, .int .i64 v, .string noName] 113) := k0
   have k1d : W.drew.heap[w.heap.size + 1]? = some (.cells #[.int .i64 0, .int .i64 0] tWires) := k1
   have b0d := below_drew b0
   refine beginH (fun w' => w'.heap[w.heap.size]? = some (.cells #[.int .i64 2, .int .i64 v, .string noName] 113)) (by kernel_rfl) ?_
   clear b0 k0 k1 hz
   generalize W.drew = W1 at k0d k1d b0d ⊢
   obtain ⟨s1, s2⟩ := t_set2 (a := .int .i64 2) (b := .int .i64 2) k1d
   have k0s := t_box_keeps k0d s2 (by omega)
   have hB2 := below_keeps b0d s2 b0d.size (fun k hk => by omega)
   obtain ⟨⟨c0, c1⟩, f0, f1⟩ := t_box2 k1d
   have k0d_h := lH k0d; have k1d_h := lH k1d; have s1_h := lH s1; have s2_h := lH s2; have k0s_h := lH k0s; have hB2_h := lH hB2; clear k0d k1d s1 s2 k0s hB2
   refine tkH 0 ?_ rfl k0d_h.out (fun W' hW' => ?_) ?_; rotate_left; · (obtain ⟨⟨c0, c1, c2⟩, f0, f1, f2⟩ := t_box3 hW'; clear hW'; go_simp; first | done | with_reducible rfl)
   simp only [Act.put, nS]
   refine tkH 1 ?_ rfl k0d_h.out (fun W' hW' => ?_) ?_; rotate_left; · (obtain ⟨⟨c0, c1, c2⟩, f0, f1, f2⟩ := t_box3 hW'; clear hW'; go_simp; first | done | with_reducible rfl)
   simp only [Act.put, nS]
   refine tkH 2 ?_ rfl k0d_h.out (fun W' hW' => ?_) ?_; rotate_left; · (obtain ⟨⟨c0, c1, c2⟩, f0, f1, f2⟩ := t_box3 hW'; clear hW'; go_simp; first | done | with_reducible rfl)
   simp only [Act.put, nS]
   refine tkH 3 ?_ rfl k0d_h.out (fun W' hW' => ?_) ?_; rotate_left; · (obtain ⟨⟨c0, c1, c2⟩, f0, f1, f2⟩ := t_box3 hW'; clear hW'; go_simp; first | done | with_reducible rfl)
   simp only [Act.put, nS]
   refine oneH 4 rfl (by kernel_rfl) (by rfl) (fun K hK => ?_)
   go_simp
   refine hK _ _ k0s_h.out ?_
   clear hK K
   refine tkH 5 ?_ rfl k0s_h.out (fun W' hW' => ?_) ?_; rotate_left; · (skip; clear hW'; go_simp; first | done | with_reducible rfl)
   simp only [Act.put, nS]
   refine doneH (by kernel_rfl) ?_
   go_wp2_with (fail)
   refine bodyPost_ret (t_results_cell_tmp rfl _ _ (w.heap.size + 1) _ _ (0, 0) _ rfl s1_h.out Tryz.underlying147 rfl (by kernel_rfl)) rfl ?_
   refine ⟨_, _, (v == 0), rfl, ?_, fun _ => rfl, hB2_h.out⟩
   by_cases h0 : v = 0 <;> simp [leafB, h0]
 · have hn := name_yes ‹_›
   have h1 : ¬ k = 1 := by simpa using (‹(k == 1) = false›)
   have h2 : ¬ k = 2 := by simpa using (‹(k == 2) = false›)
   subst hn
   refine (isGenerator_any _ _).mono ?_
   rintro e w' ⟨rfl, rfl⟩
   cases hg : t_inB k 3 14
   · have HG := lH hg
     clear hg
     go_wp2_with (fail)
     refine bodyPost_ret (v := .tuple #[.agg #[.int .i64 0, .int .i64 0], .bool false]) (by simp [results, Tryz.results177, go_sem]) rfl ⟨_, _, _, rfl, ?_, fun h => (by cases h), ((Below.refl _ _).alloc (Nat.le_refl _) _).alloc (by simp) _⟩
     have : ¬ (3 ≤ k ∧ k ≤ 14) := by simpa [t_inB] using HG.out
     simp [leafB]
     omega
   · have hgb : 3 ≤ k ∧ k ≤ 14 := by simpa [t_inB] using hg
     have hG := generatorWires_any k
     have HG := lH (fun w => hG w hgb.1 hgb.2)
     have hg_h := lH hg; have h1_h := lH h1; have h2_h := lH h2; have hgb_h := lH hgb; clear hg h1 h2 hgb; clear hG
     go_wp2_with (fail)
     obtain ⟨W, hW⟩ : ∃ W, W = (w.alloc (.cells #[.int .i64 k, .int .i64 v, .string noName] 113)).alloc (.cells #[.int .i64 0, .int .i64 0] tWires) := ⟨_, rfl⟩
     obtain ⟨b0, k0, k1, hz⟩ := two_boxes w (.cells #[.int .i64 k, .int .i64 v, .string noName] 113) (.cells #[.int .i64 0, .int .i64 0] tWires)
     rw [← hW] at b0 k0 k1 hz ⊢
     clear hW
     have k0d : W.drew.heap[w.heap.size]? = some (.cells #[.int .i64 k, .int .i64 v, .string noName] 113) := k0
     have b0_h := lH b0; have k1_h := lH k1; have hz_h := lH hz; have k0_h := lH k0; have k0d_h := lH k0d; clear b0 k1 hz k0 k0d
     refine beginH (fun w' => w'.heap[w.heap.size]? = some (.cells #[.int .i64 k, .int .i64 v, .string noName] 113)) (by kernel_rfl) ?_
     refine tkH 0 ?_ rfl k0d_h.out (fun W' hW' => ?_) ?_; rotate_left; · (obtain ⟨⟨c0, c1, c2⟩, f0, f1, f2⟩ := t_box3 hW'; clear hW'; go_simp; first | done | with_reducible rfl)
     simp only [Act.put, nS]
     refine tkH 1 ?_ rfl k0d_h.out (fun W' hW' => ?_) ?_; rotate_left; · (obtain ⟨⟨c0, c1, c2⟩, f0, f1, f2⟩ := t_box3 hW'; clear hW'; go_simp; first | done | with_reducible rfl)
     simp only [Act.put, nS]
     refine tkH 3 ?_ rfl k0d_h.out (fun W' hW' => ?_) ?_; rotate_left; · (obtain ⟨⟨c0, c1, c2⟩, f0, f1, f2⟩ := t_box3 hW'; clear hW'; go_simp; first | done | with_reducible rfl)
     simp only [Act.put, nS]
     refine tkH 4 ?_ rfl k0d_h.out (fun W' hW' => ?_) ?_; rotate_left; · (obtain ⟨⟨c0, c1, c2⟩, f0, f1, f2⟩ := t_box3 hW'; clear hW'; go_simp; first | done | with_reducible rfl)
     simp only [Act.put, nS]
     refine tkH 5 ?_ rfl k0d_h.out (fun W' hW' => ?_) ?_; rotate_left; · (obtain ⟨⟨c0, c1, c2⟩, f0, f1, f2⟩ := t_box3 hW'; clear hW'; go_simp; first | done | with_reducible rfl)
     simp only [Act.put, nS]
     refine tkH 6 ?_ rfl k0d_h.out (fun W' hW' => ?_) ?_; rotate_left; · (obtain ⟨⟨c0, c1, c2⟩, f0, f1, f2⟩ := t_box3 hW'; clear hW'; go_simp; first | done | with_reducible rfl)
     simp only [Act.put, nS]
     refine' callH 2 (f := _) (args := _) rfl (by kernel_rfl) (by rfl) ?_ ?_; rotate_left 2; · (go_simp; first | done | with_reducible rfl | (constructor <;> with_reducible rfl))
     refine (HG.out _).mono ?_
     rintro e w' ⟨rfl, hb1⟩
     have hb1' : Below W.heap.size W w' := below_trans (below_drew (Below.refl _ _)) hb1 (Nat.le_refl _)
     have k0' := t_box_below k0_h.out hb1'
     have k1' := t_box_below k1_h.out hb1'
     refine ⟨_, rfl, k0', ?_⟩
     have hB1 := below_trans b0_h.out hb1' b0_h.out.size
     obtain ⟨s1, s2⟩ := t_set2 (a := .int .i64 (kindTy k).1) (b := .int .i64 (kindTy k).2) k1'
     have k0s := t_box_keeps k0' s2 (by omega)
     have hB2 := below_keeps hB1 s2 hB1.size (fun k hk => by omega)
     obtain ⟨⟨c0, c1⟩, f0, f1⟩ := t_box2 k1'
     have k0'_h := lH k0'; have k1'_h := lH k1'; have hB1_h := lH hB1; have s1_h := lH s1; have s2_h := lH s2; have k0s_h := lH k0s; have hB2_h := lH hB2; have hb1_h := lH hb1; have hb1'_h := lH hb1'; clear k0' k1' hB1 s1 s2 k0s hB2 hb1 hb1'
     simp only [Act.put, nS]
     refine' callH 7 (f := _) (args := _) rfl (by kernel_rfl) (by rfl) ?_ ?_; rotate_left 2; · (go_simp; first | done | with_reducible rfl | (constructor <;> with_reducible rfl))
     refine (isGeneratorValue_any _ _ _).mono ?_
     rintro e w' ⟨rfl, rfl⟩
     refine ⟨_, rfl, k0'_h.out, ?_⟩
     simp only [Act.put, nS]
     refine oneH 8 rfl (by kernel_rfl) (by rfl) (fun K hK => ?_)
     go_simp
     refine hK _ _ k0s_h.out ?_
     clear hK K
     refine tkH 9 ?_ rfl k0s_h.out (fun W' hW' => ?_) ?_; rotate_left; · (skip; clear hW'; go_simp; first | done | with_reducible rfl)
     simp only [Act.put, nS]
     refine doneH (by kernel_rfl) ?_
     go_wp2_with (fail)
     refine bodyPost_ret (t_results_cell_tmp rfl _ _ (w.heap.size + 1) _ _ (0, 0) _ rfl s1_h.out Tryz.underlying147 rfl (by kernel_rfl)) rfl ?_
     refine ⟨_, _, _, rfl, ?_, fun _ => ?_, hB2_h.out⟩
     · have a1 := h1_h.out
       have a2 := h2_h.out
       have a3 := hgb_h.out
       show gvB k v = leafB (k, v, noName)
       rw [Bool.eq_iff_iff]
       simp only [gvB, hvB, t_inB, leafB, decide_eq_true_eq]
       by_cases h7 : k = 7 ∨ k = 13
       · simp only [h7, if_true, decide_eq_true_eq, true_and]; omega
       · simp only [h7, if_false, decide_eq_true_eq, true_and, false_and, false_or]; omega
     · have := h1_h.out
       simp [leafTy, this]
abbrev tEd : TypeId := 88
abbrev tGr : TypeId := 34
abbrev Eg := Int × Int × List Int × List Int
abbrev EHd := Int × Int × Hd × Hd
abbrev Gr := Int × List Eg × List Int × List Int
instance decEg : DecidableEq Eg := inferInstance
instance decEgs : DecidableEq (List Eg) := inferInstance
instance decGr : DecidableEq Gr := inferInstance
def egOf (h : EHd) : Eg := (h.1, h.2.1, h.2.2.1.2.2, h.2.2.2.2.2)
def ec (h : EHd) : List Value := [.int .i64 h.1, .int .i64 h.2.1, Hd.val h.2.2.1, Hd.val h.2.2.2]
def ecs : List EHd → List Value
 | [] => []
 | h :: r => ec h ++ ecs r
@[simp] theorem ecs_length (l : List EHd) : (ecs l).length = l.length * 4 := by
  induction l with
  | nil => rfl
  | cons n r ih => simp only [ecs, ec, List.length_append, List.length_cons, List.length_nil, ih]; omega
theorem ecs_get {l : List EHd} {j : Nat} {n : EHd} (h : l[j]? = some n) : (ecs l)[j * 4]? = some (.int .i64 n.1) ∧ (ecs l)[j * 4 + 1]? = some (.int .i64 n.2.1) ∧ (ecs l)[j * 4 + 2]? = some (Hd.val n.2.2.1) ∧ (ecs l)[j * 4 + 3]? = some (Hd.val n.2.2.2) := by
 induction l generalizing j with
 | nil => simp at h
 | cons a r ih =>
   cases j with
   | zero =>
     obtain rfl : a = n := by simpa using h
     simp [ecs, ec]
   | succ j =>
     have := ih (j := j) (by simpa using h)
     have hl : (ec a).length = 4 := rfl
     simp only [ecs]
     rw [List.getElem?_append_right (by omega), List.getElem?_append_right (by omega), List.getElem?_append_right (by omega), List.getElem?_append_right (by omega), hl]
     rw [show (j + 1) * 4 - 4 = j * 4 by omega, show (j + 1) * 4 + 1 - 4 = j * 4 + 1 by omega, show (j + 1) * 4 + 2 - 4 = j * 4 + 2 by omega, show (j + 1) * 4 + 3 - 4 = j * 4 + 3 by omega]
     exact this
theorem ecs_set {l : List EHd} {j : Nat} (n : EHd) (h : j < l.length) : ((((ecs l).set (j * 4) (.int .i64 n.1)).set (j * 4 + 1) (.int .i64 n.2.1)).set (j * 4 + 2) (Hd.val n.2.2.1)).set (j * 4 + 3) (Hd.val n.2.2.2) = ecs (l.set j n) := by
 induction l generalizing j with
 | nil => simp at h
 | cons a r ih =>
   cases j with
   | zero => simp [ecs, ec]
   | succ j =>
     have := ih (j := j) (by simpa using h)
     have hl : (ec a).length = 4 := rfl
     simp only [ecs, List.set_cons_succ]
     rw [List.set_append_right _ _ (by omega), List.set_append_right _ _ (by omega), List.set_append_right _ _ (by omega), List.set_append_right _ _ (by omega), hl]
     rw [show (j + 1) * 4 - 4 = j * 4 by omega, show (j + 1) * 4 + 1 - 4 = j * 4 + 1 by omega, show (j + 1) * 4 + 2 - 4 = j * 4 + 2 by omega, show (j + 1) * 4 + 3 - 4 = j * 4 + 3 by omega]
     rw [this]
def eh : List EHd → List Hd
 | [] => []
 | h :: r => h.2.2.1 :: h.2.2.2 :: eh r
theorem mem_eh {l : List EHd} {x : Hd} : x ∈ eh l ↔ ∃ h, h ∈ l ∧ (x = h.2.2.1 ∨ x = h.2.2.2) := by
 induction l with
 | nil => simp [eh]
 | cons n r ih =>
   simp only [eh, List.mem_cons, ih]
   constructor
   · rintro (h | h | ⟨y, hy, h⟩)
     · exact ⟨n, .inl rfl, .inl h⟩
     · exact ⟨n, .inl rfl, .inr h⟩
     · exact ⟨y, .inr hy, h⟩
   · rintro ⟨y, rfl | hy, h⟩
     · rcases h with h | h
       · exact .inl h
       · exact .inr (.inl h)
     · exact .inr (.inr ⟨y, hy, h⟩)
def RdE (w : World) (A : Option Addr) (hs : List EHd) : Prop := RdC w A (ecs hs) ∧ ∀ h, h ∈ hs → RdI w h.2.2.1.1 h.2.2.1.2.2 ∧ RdI w h.2.2.2.1 h.2.2.2.2.2
structure OwLs (w : World) (fp : List Nat) (ls : List Hd) : Prop where
 rows : ∀ h, h ∈ ls → IS w h.1 h.2.1 h.2.2
 apart : ls.Pairwise fun h h' => ∀ b, b ∈ fpA h.1 → ¬ b ∈ fpA h'.1
 outer : ∀ h, h ∈ ls → ∀ b, b ∈ fpA h.1 → ¬ b ∈ fp
section
variable {w w' : World} {A : Option Addr} {cap : Nat} {hs : List EHd} {fp : List Nat} {ls : List Hd}
theorem OwLs.below (h : OwLs w fp ls) (hb : Below w.heap.size w w') : OwLs w' fp ls := ⟨fun x hx => (h.rows x hx).below hb, h.apart, h.outer⟩
theorem OwLs.keeps (h : OwLs w fp ls) {S : Nat → Prop} (hk : Keeps S w w') (hS : ∀ b, b ∈ fpR ls → ¬ S b) : OwLs w' fp ls :=
 ⟨fun x hx => (h.rows x hx).keeps hk fun b hb => hS b (mem_fpR.2 ⟨x, hx, hb⟩), h.apart, h.outer⟩
theorem OwLs.lt (h : OwLs w fp ls) : ∀ b, b ∈ fpR ls → b < w.heap.size := fun b hb => by
 obtain ⟨x, hx, hb⟩ := mem_fpR.1 hb; exact (h.rows x hx).lt b hb
theorem OwLs.nil (w : World) (fp : List Nat) : OwLs w fp [] := ⟨fun h hh => (by cases hh), .nil, fun h hh => (by cases hh)⟩
theorem OwLs.app (h : OwLs w fp ls) (hb : Below w.heap.size w w') {ms : List Hd} (hm : OwLs w' [] ms) (hf : FreshL w.heap.size (fpR ms)) (hlt : ∀ b, b ∈ fp → b < w.heap.size) : OwLs w' fp (ls ++ ms) := by
 refine ⟨fun y hy => ?_, ?_, fun y hy b hb1 hb2 => ?_⟩
 · rcases List.mem_append.1 hy with hy | hy
   · exact (h.rows y hy).below hb
   · exact hm.rows y hy
 · refine List.pairwise_append.2 ⟨h.apart, hm.apart, fun y hy z hz b hb1 hb2 => ?_⟩
   have := (h.rows y hy).lt b hb1
   have := hf b (mem_fpR.2 ⟨z, hz, hb2⟩)
   omega
 · rcases List.mem_append.1 hy with hy | hy
   · exact h.outer y hy b hb1 hb2
   · have := hf b (mem_fpR.2 ⟨y, hy, hb1⟩); have := hlt b hb2; omega
theorem OwLs.grow (h : OwLs w fp ls) {fp' : List Nat} (hf : ∀ b, b ∈ fp' → b ∈ fp ∨ w.heap.size ≤ b) (hk : Keeps (· ∈ fp) w w') : OwLs w' fp' ls := by
 refine ⟨fun x hx => (h.rows x hx).keeps hk fun b hb hb' => h.outer x hx b hb hb', h.apart, fun x hx b hb hb' => ?_⟩
 rcases hf b hb' with h1 | h1
 · exact h.outer x hx b hb h1
 · have := (h.rows x hx).lt b hb; omega
theorem OwLs.one {x : Hd} (hx : IS w x.1 x.2.1 x.2.2) : OwLs w [] [x] := ⟨fun y hy => by obtain rfl := List.mem_singleton.1 hy; exact hx, List.pairwise_singleton _ _, fun y _ b _ hb => by cases hb⟩
theorem OwLs.two {x y : Hd} (hx : IS w x.1 x.2.1 x.2.2) (hb : Below w.heap.size w w') (hy : IS w' y.1 y.2.1 y.2.2) (hf : Fresh w.heap.size y.1) : OwLs w' [] [x, y] :=
 (OwLs.one hx).app (ms := [y]) hb (OwLs.one hy) (fun b hb' => hf b (by simpa [fpR] using hb')) (fun b hb' => by cases hb')
theorem OwLs.cons (h : OwLs w fp ls) (hb : Below w.heap.size w w') {x : Hd} (hx : IS w' x.1 x.2.1 x.2.2) (hf : Fresh w.heap.size x.1) (hlt : ∀ b, b ∈ fp → b < w.heap.size) : OwLs w' fp (x :: ls) := by
 refine ⟨fun y hy => ?_, ?_, fun y hy b hb1 hb2 => ?_⟩
 · rcases List.mem_cons.1 hy with rfl | hy
   · exact hx
   · exact (h.rows y hy).below hb
 · refine List.pairwise_cons.2 ⟨fun y hy b hb1 hb2 => ?_, h.apart⟩
   have := (h.rows y hy).lt b hb2
   have := hf b hb1
   omega
 · rcases List.mem_cons.1 hy with rfl | hy
   · have := hf b hb1; have := hlt b hb2; omega
   · exact h.outer y hy b hb1 hb2
theorem RdE.below (h : RdE w A hs) (hb : Below w.heap.size w w') : RdE w' A hs := ⟨RdC.below h.1 hb, fun x hx => ⟨(h.2 x hx).1.below hb, (h.2 x hx).2.below hb⟩⟩
theorem RdE.nil (w : World) (A : Option Addr) : RdE w A [] := ⟨RdC.nil w A, fun x hx => by cases hx⟩
theorem RdE.at_ (h : RdE w A hs) {j : Nat} (hj : j < hs.length) : ∃ ad k v B b l C c m, A = some ad ∧ hs[j]? = some (k, v, (B, b, l), (C, c, m)) ∧
  (w.cell? (ad.add (j * 4)) = some (.int .i64 k) ∧ w.cell? ⟨(ad.add (j * 4)).block, (ad.add (j * 4)).off + 1, none⟩ = some (.int .i64 v) ∧ w.cell? ⟨(ad.add (j * 4)).block, (ad.add (j * 4)).off + 2, none⟩ = some (.slice B l.length b) ∧ w.cell? ⟨(ad.add (j * 4)).block, (ad.add (j * 4)).off + 3, none⟩ = some (.slice C m.length c)) ∧ RdI w B l ∧ RdI w C m := by
 obtain ⟨n, hn⟩ : ∃ n, hs[j]? = some n := ⟨_, List.getElem?_eq_getElem hj⟩
 obtain ⟨h0, h1, h2, h3⟩ := ecs_get hn
 obtain ⟨ad, hA, c0⟩ := h.1 _ _ h0
 obtain ⟨ad1, hA1, c1⟩ := h.1 _ _ h1
 obtain ⟨ad2, hA2, c2⟩ := h.1 _ _ h2
 obtain ⟨ad3, hA3, c3⟩ := h.1 _ _ h3
 rw [hA] at hA1 hA2 hA3
 obtain rfl := Option.some.inj hA1
 obtain rfl := Option.some.inj hA2
 obtain rfl := Option.some.inj hA3
 obtain ⟨k, v, ⟨B, b, l⟩, ⟨C, c, m⟩⟩ := n
 have hr := h.2 _ (List.mem_of_getElem? hn)
 rw [add_next _ _ 1 (by omega)] at c1
 rw [add_next _ _ 2 (by omega)] at c2
 rw [add_next _ _ 3 (by omega)] at c3
 exact ⟨ad, k, v, B, b, l, C, c, m, hA, hn, ⟨c0, c1, c2, c3⟩, hr.1, hr.2⟩
end
def RdGr (w : World) (v : Value) (g : Gr) : Prop := ∃ (A : Option Addr) (cap : Nat) (hs : List EHd) (a b : Hd), v = .agg #[.int .i64 g.1, .slice A hs.length cap, .slice a.1 a.2.2.length a.2.1, .slice b.1 b.2.2.length b.2.1] ∧ g.2.1 = hs.map egOf ∧ a.2.2 = g.2.2.1 ∧ b.2.2 = g.2.2.2 ∧ RdE w A hs ∧ RdI w a.1 a.2.2 ∧ RdI w b.1 b.2.2
def OwGr (w : World) (v : Value) (g : Gr) (fp : List Nat) : Prop := ∃ (A : Option Addr) (cap : Nat) (hs : List EHd) (a b : Hd), v = .agg #[.int .i64 g.1, .slice A hs.length cap, .slice a.1 a.2.2.length a.2.1, .slice b.1 b.2.2.length b.2.1] ∧ g.2.1 = hs.map egOf ∧ a.2.2 = g.2.2.1 ∧ b.2.2 = g.2.2.2 ∧ Sl w tEd 4 A hs.length cap (ecs hs) ∧ OwLs w (fpA A) (a :: b :: eh hs) ∧ fp = fpA A ++ fpR (a :: b :: eh hs)
section
variable {w w' : World} {v : Value} {g : Gr} {fp : List Nat}
theorem RdGr.below (h : RdGr w v g) (hb : Below w.heap.size w w') : RdGr w' v g := by
 obtain ⟨A, c, hs, a, b, rfl, e1, e2, e3, h1, h2, h3⟩ := h; exact ⟨A, c, hs, a, b, rfl, e1, e2, e3, h1.below hb, h2.below hb, h3.below hb⟩
theorem OwGr.rd (h : OwGr w v g fp) : RdGr w v g := by
 obtain ⟨A, c, hs, a, b, rfl, e1, e2, e3, h1, h2, _⟩ := h
 refine ⟨A, c, hs, a, b, rfl, e1, e2, e3, ⟨Sl.rdc h1, fun x hx => ⟨(h2.rows _ ?_).rd, (h2.rows _ ?_).rd⟩⟩, (h2.rows a (by simp)).rd, (h2.rows b (by simp)).rd⟩
 · exact List.mem_cons_of_mem _ (List.mem_cons_of_mem _ (mem_eh.2 ⟨x, hx, .inl rfl⟩))
 · exact List.mem_cons_of_mem _ (List.mem_cons_of_mem _ (mem_eh.2 ⟨x, hx, .inr rfl⟩))
theorem OwGr.below (h : OwGr w v g fp) (hb : Below w.heap.size w w') : OwGr w' v g fp := by
 obtain ⟨A, c, hs, a, b, rfl, e1, e2, e3, h1, h2, e⟩ := h; exact ⟨A, c, hs, a, b, rfl, e1, e2, e3, h1.below hb, h2.below hb, e⟩
theorem OwGr.keeps (h : OwGr w v g fp) {S : Nat → Prop} (hk : Keeps S w w') (hS : ∀ b, b ∈ fp → ¬ S b) : OwGr w' v g fp := by
 obtain ⟨A, c, hs, a, b, rfl, e1, e2, e3, h1, h2, rfl⟩ := h
 exact ⟨A, c, hs, a, b, rfl, e1, e2, e3, h1.keeps hk fun x hx => hS x (List.mem_append_left _ hx), h2.keeps hk fun x hx => hS x (List.mem_append_right _ hx), rfl⟩
theorem OwGr.lt (h : OwGr w v g fp) : LtL w.heap.size fp := by
 obtain ⟨A, c, hs, a, b, rfl, e1, e2, e3, h1, h2, rfl⟩ := h
 intro x hx
 rcases List.mem_append.1 hx with hx | hx
 · exact h1.lt x hx
 · exact h2.lt x hx
theorem RdGr.shape (h : RdGr w v g) : ∃ A n c B m d C k e, v = .agg #[.int .i64 g.1, .slice A n c, .slice B m d, .slice C k e] := by
 obtain ⟨A, c, hs, a, b, rfl, _⟩ := h; exact ⟨_, _, _, _, _, _, _, _, _, rfl⟩
theorem OwGr.shape (h : OwGr w v g fp) : ∃ A n c B m d C k e, v = .agg #[.int .i64 g.1, .slice A n c, .slice B m d, .slice C k e] := h.rd.shape
theorem OwGr.zero (w : World) : OwGr w (.agg #[.int .i64 0, .slice none 0 0, .slice none 0 0, .slice none 0 0]) (0, [], [], []) [] :=
 ⟨none, 0, [], (none, 0, []), (none, 0, []), rfl, rfl, rfl, rfl, Sl.nil _ _ _, ⟨fun x hx => by
  simp [eh] at hx; subst hx; exact Sl.nil _ _ _, by simp [eh], fun x hx b hb => by simp [eh] at hx; subst hx; simp at hb⟩, rfl⟩
theorem t_box4 {B : Nat} {x y z u : Value} {t : TypeId} (h : w.heap[B]? = some (.cells #[x, y, z, u] t)) :
  (w.cell? ⟨B, 0, none⟩ = some x ∧ w.cell? ⟨B, 1, none⟩ = some y ∧ w.cell? ⟨B, 2, none⟩ = some z ∧ w.cell? ⟨B, 3, none⟩ = some u) ∧ w.frozen? ⟨B, 0, none⟩ = false ∧ w.frozen? ⟨B, 1, none⟩ = false ∧ w.frozen? ⟨B, 2, none⟩ = false ∧ w.frozen? ⟨B, 3, none⟩ = false := by
 simp [World.cell?, World.frozen?, h]
end
def cntE : List Eg → Nat
 | [] => 0
 | e :: r => 2 + e.2.2.1.length + e.2.2.2.length + cntE r
def cntG (g : Gr) : Nat := cntE g.2.1 + g.2.2.1.length + g.2.2.2.length
def OkG (g : Gr) : Prop := (g.2.1.length ≤ 1048576 ∧ g.2.2.1.length ≤ 1048576 ∧ g.2.2.2.length ≤ 1048576) ∧ (∀ e, e ∈ g.2.1 → e.2.2.1.length ≤ 1048576 ∧ e.2.2.2.length ≤ 1048576) ∧ cntG g ≤ 8388608
def marksE : Nat → List Eg → List Eg
 | _, [] => []
 | k, e :: r => ((k : Int), ((k + 1 : Nat) : Int), marks (k + 2) e.2.2.1.length, marks (k + 2 + e.2.2.1.length) e.2.2.2.length) :: marksE (k + 2 + e.2.2.1.length + e.2.2.2.length) r
def marksG (k : Nat) (g : Gr) : Gr := (g.1, marksE k g.2.1, marks (k + cntE g.2.1) g.2.2.1.length, marks (k + cntE g.2.1 + g.2.2.1.length) g.2.2.2.length)
def HeGr (w : World) (v : Value) (g : Gr) (k : Nat) (fp : List Nat) : Prop := OwGr w v (marksG k g) fp
theorem HeGr.below {w w' : World} {v : Value} {g : Gr} {k : Nat} {fp : List Nat} (h : HeGr w v g k fp) (hb : Below w.heap.size w w') : HeGr w' v g k fp := OwGr.below h hb
theorem HeGr.keeps {w w' : World} {v : Value} {g : Gr} {k : Nat} {fp : List Nat} (h : HeGr w v g k fp) {S : Nat → Prop} (hk : Keeps S w w') (hS : ∀ b, b ∈ fp → ¬ S b) : HeGr w' v g k fp := OwGr.keeps h hk hS
def egB (e : Eg) : Bool := t_inB e.1 3 14 && (gvB e.1 e.2.1 && decide (((e.2.2.1.length : Int), (e.2.2.2.length : Int)) = kindTy e.1))
def inW (n : Int) (l : List Int) : Bool := l.all fun x => t_inB x 0 (n - 1)
def edW : List Eg → List Int
 | [] => []
 | e :: r => e.2.2.1 ++ (e.2.2.2 ++ edW r)
def t_allW (g : Gr) : List Int := g.2.2.1 ++ (g.2.2.2 ++ edW g.2.1)
def fullW (n : Int) (l : List Int) : Bool := (List.range n.toNat).all fun w : Nat => l.contains (w : Int)
def grB (g : Gr) : Bool := (t_inB g.1 0 100 && (decide (g.2.1.length ≤ 60) && (decide (g.2.2.1.length ≤ 12) && decide (g.2.2.2.length ≤ 12)))) && (g.2.1.all egB && (inW g.1 (t_allW g) && fullW g.1 (t_allW g)))
theorem inW_append (n : Int) (l m : List Int) : inW n (l ++ m) = (inW n l && inW n m) := by simp [inW]
theorem inW_iff {n : Int} {l : List Int} : inW n l = true ↔ ∀ x, x ∈ l → 0 ≤ x ∧ x < n := by
 unfold inW
 rw [List.all_eq_true]
 constructor
 · intro h x hx
   have := h x hx
   unfold t_inB at this
   have := of_decide_eq_true this
   omega
 · intro h x hx
   have := h x hx
   unfold t_inB
   exact decide_eq_true (by omega)
theorem inW_sub {n : Int} {l m : List Int} (h : inW n l = true) (hs : ∀ x, x ∈ m → x ∈ l) : inW n m = true := inW_iff.2 fun x hx => inW_iff.1 h x (hs x hx)
def seenM (n : Nat) (l : List Int) : List Bool := (List.range n).map fun w : Nat => l.contains (w : Int)
@[simp] theorem seenM_length (n : Nat) (l : List Int) : (seenM n l).length = n := by simp [seenM]
def cntM (n : Nat) (l : List Int) : List Int := (List.range n).map fun w : Nat => (l.count (w : Int) : Int)
@[simp] theorem cntM_length (n : Nat) (l : List Int) : (cntM n l).length = n := by simp [cntM]
theorem cntM_get {n : Nat} {l : List Int} {w : Nat} (h : w < n) : (cntM n l)[w]? = some (l.count (w : Int) : Int) := by simp [cntM, h]
theorem cntM_nil (n : Nat) : cntM n [] = List.replicate n 0 := by
 apply List.ext_getElem?
 intro w
 by_cases h : w < n
 · rw [cntM_get h, List.getElem?_replicate, if_pos h]; rfl
 · rw [List.getElem?_eq_none (by simp; omega), List.getElem?_eq_none (by simp; omega)]
theorem cntM_step {n w : Nat} {l : List Int} (h : w < n) : cntM n (l ++ [(w : Int)]) = (cntM n l).set w ((l.count (w : Int) : Int) + 1) := by
 apply List.ext_getElem?
 intro i
 rw [List.getElem?_set]
 by_cases hi : i < n
 · rw [cntM_get hi, List.count_append]
   by_cases hw : w = i
   · subst hw; simp [hi]
   · rw [if_neg hw, cntM_get hi]
     have : List.count (i : Int) [(w : Int)] = 0 := List.count_eq_zero.2 fun hm => by
      have := List.mem_singleton.1 hm; omega
     rw [this, Nat.add_zero]
 · rw [List.getElem?_eq_none (by simp; omega)]
   split
   · rename_i h2; omega
   · rw [List.getElem?_eq_none (by simp; omega)]
theorem count_le (l : List Int) (x : Int) : l.count x ≤ l.length := List.count_le_length
def outW : List Eg → List Int
 | [] => []
 | e :: r => e.2.2.2 ++ outW r
def inpW : List Eg → List Int
 | [] => []
 | e :: r => e.2.2.1 ++ inpW r
def orgW (g : Gr) : List Int := g.2.2.1 ++ outW g.2.1
def dstW (g : Gr) : List Int := g.2.2.2 ++ inpW g.2.1
theorem mem_edW {l : List Eg} {x : Int} : x ∈ edW l ↔ x ∈ outW l ∨ x ∈ inpW l := by
 induction l with
 | nil => simp [edW, outW, inpW]
 | cons e r ih => simp only [edW, outW, inpW, List.mem_append, ih]; exact ⟨fun h => by rcases h with h | h | h | h <;> simp [h], fun h => by rcases h with (h | h) | (h | h) <;> simp [h]⟩
theorem mem_allW {g : Gr} {x : Int} : x ∈ t_allW g ↔ x ∈ orgW g ∨ x ∈ dstW g := by
 simp only [t_allW, orgW, dstW, List.mem_append, mem_edW]
 exact ⟨fun h => by rcases h with h | h | h | h <;> simp [h], fun h => by rcases h with (h | h) | (h | h) <;> simp [h]⟩
theorem outW_append (l m : List Eg) : outW (l ++ m) = outW l ++ outW m := by
 induction l with
 | nil => rfl
 | cons e r ih => simp [outW, ih]
theorem inpW_append (l m : List Eg) : inpW (l ++ m) = inpW l ++ inpW m := by
 induction l with
 | nil => rfl
 | cons e r ih => simp [inpW, ih]
def hgB (n : Int) (e : Eg) : Bool := egB e && (inW n e.2.2.1 && inW n e.2.2.2)
theorem hgB_all (n : Int) (l : List Eg) : l.all (hgB n) = (l.all egB && inW n (edW l)) := by
 induction l with
 | nil => rfl
 | cons e r ih =>
   rw [List.all_cons, List.all_cons, ih, edW, inW_append, inW_append, hgB]
   cases egB e <;> cases inW n e.2.2.1 <;> cases inW n e.2.2.2 <;> cases r.all egB <;> rfl
end Go.Proofs.YtahnhblodfdfhaaGreatDoor
namespace Go.Proofs.YtahnhblodfdfhaaGreatDoor
def cnt (a : Int) : List Int → Nat
 | [] => 0
 | b :: r => (if b < a then 1 else 0) + cnt a r
def inv : List Int → Nat
 | [] => 0
 | a :: r => cnt a r + inv r
open Go.RowKit
def mapL (tw : List Int) (l : List Int) : List Int := l.map fun w => tw.getD w.toNat 0
@[simp] theorem mapL_length (tw l : List Int) : (mapL tw l).length = l.length := by simp [mapL]
theorem mapL_take_step {tw l : List Int} {k : Nat} {x : Int} (h : l[k]? = some x) : mapL tw (l.take (k + 1)) = mapL tw (l.take k) ++ [tw.getD x.toNat 0] := by
 rw [List.take_add_one, h]; simp [mapL]
def lay {α : Type} (d : α) (p : List Int) (xs : List α) : Nat → List α
 | 0 => List.replicate xs.length d
 | k + 1 => (lay d p xs k).set (p.getD k 0).toNat (xs.getD k d)
section
variable {α β : Type} {d : α} {p : List Int} {xs : List α}
@[simp] theorem lay_length : ∀ k, (lay d p xs k).length = xs.length
  | 0 => by simp [lay]
  | k + 1 => by simp [lay, lay_length k]
end
section
variable {P : Program} {ops : Array Oper} {Q : Exit → Act → World → Prop} {md : Region.Mode} {S : World → Prop}
def putZ (a : Act) (Z : List (Nat × Tmp)) (xs : Tmp → Value) : Act := Z.foldl (fun a z => a.put (some z.2) (xs z.2)) a
def updZ (xs : Tmp → Value) (d : Tmp) (v : Value) : Tmp → Value := fun t => if t = d then v else xs t
theorem put_put (a : Act) (d : Tmp) (x v : Value) : (a.put (some d) x).put (some d) v = a.put (some d) v := by
 simp [Act.put, Array.setIfInBounds_setIfInBounds]
theorem putZ_put (Z : List (Nat × Tmp)) (xs : Tmp → Value) (d : Tmp) (v : Value) : ∀ (a : Act), (∀ z ∈ Z, z.2 ≠ d) → (putZ a Z xs).put (some d) v = putZ (a.put (some d) v) Z xs := by
 induction Z with
 | nil => intro a _; rfl
 | cons z r ih =>
   intro a h
   show (putZ (a.put _ _) r xs).put _ _ = putZ ((a.put _ _).put _ _) r xs
   rw [ih _ (fun y hy => h y (List.mem_cons_of_mem _ hy)), Act.put_comm a _ _ (fun e he => by obtain rfl := Option.some.inj he; intro h2; exact h z (by simp) (Option.some.inj h2).symm)]
theorem putZ_congr (Z : List (Nat × Tmp)) {xs ys : Tmp → Value} : ∀ (a : Act), (∀ z ∈ Z, xs z.2 = ys z.2) → putZ a Z xs = putZ a Z ys := by
 induction Z with
 | nil => intro a _; rfl
 | cons z r ih =>
   intro a h
   show putZ (a.put _ _) r xs = putZ (a.put _ _) r ys
   rw [h z (by simp)]
   exact ih _ fun y hy => h y (List.mem_cons_of_mem _ hy)
theorem putZ_upd (Z : List (Nat × Tmp)) (xs : Tmp → Value) (d : Tmp) (v : Value) : ∀ (a : Act), (Z.map (·.2)).Nodup → d ∈ Z.map (·.2) → putZ a Z (updZ xs d v) = (putZ a Z xs).put (some d) v := by
 induction Z with
 | nil => intro a _ h; cases h
 | cons z r ih =>
   intro a hn h
   simp only [List.map_cons, List.nodup_cons, List.mem_map, not_exists, not_and] at hn
   show putZ (a.put _ _) r _ = (putZ (a.put _ _) r xs).put _ _
   by_cases e : z.2 = d
   · have hne : ∀ y ∈ r, y.2 ≠ d := fun y hy h2 => hn.1 y hy (h2.trans e.symm)
     rw [putZ_put r xs d v _ hne, putZ_congr r _ (ys := xs) (fun y hy => by unfold updZ; rw [if_neg (hne y hy)]), e]
     have : updZ xs d v d = v := by unfold updZ; rw [if_pos rfl]
     rw [this, put_put]
   · have : updZ xs d v z.2 = xs z.2 := by unfold updZ; rw [if_neg e]
     rw [this]
     refine ih _ hn.2 ?_
     rcases List.mem_cons.1 h with h | h
     · exact absurd h.symm e
     · exact h
def chkZ (md : Region.Mode) (ops : Array Oper) (L0 : Array Bool) (Z : List (Nat × Tmp)) (deps : Nat → List Tmp) : Bool :=
 ((List.range ops.size).all fun i => L0.getD i true || Z.any fun z => z.1 == i) &&
 ((List.range ops.size).all fun i => ((ops[i]?).map fun o => o.after.all fun e => decide (e.on < i)).getD true) &&
 (Z.all fun z => decide (z.1 < L0.size) && ((ops[z.1]?).map fun o => (o.dst == some z.2) && o.guard.isNone && (deps z.1).all fun d => Z.any fun y => y.2 == d && o.after.any fun e => Region.binds md e && e.on == y.1).getD false) &&
 decide ((Z.map (·.1)).Nodup) && decide ((Z.map (·.2)).Nodup)
theorem wp_callZ {o : Oper} {a : Act} {w : World} {f : FuncId} {args : Array Value} {K : Act → World → Prop} (hr : (execOp a.eval o).run P w = .ok (.enter f args) w) (h : Calls P f args w fun e w' => ∃ v, e = .returned v ∧ K (a.put o.dst v) w') : o.wp P a w K Q := by
 unfold Oper.wp
 rw [hr]
 exact Calls.mono h fun e w' ⟨v, he, hK⟩ => by subst he; exact hK
theorem wpAnyH_rel {Z : List (Nat × Tmp)} {L0 : Array Bool} {deps : Nat → List Tmp} {a0 : Act} {w0 : World} (R : Tmp → Value → World → Prop) (hz : chkZ md ops L0 Z deps = true)
  (hstab : ∀ d v w w', R d v w → Below w.heap.size w w' → R d v w') (hS : ∀ w', Below w0.heap.size w0 w' → S w')
  (hstep : ∀ z ∈ Z, ∀ o, ops[z.1]? = some o → ∀ xs w, Below w0.heap.size w0 w → (∀ d ∈ deps z.1, R d (xs d) w) → ∀ K, (∀ v w', Below w.heap.size w w' → R z.2 v w' → K ((putZ a0 Z xs).put (some z.2) v) w') → o.wp P (putZ a0 Z xs) w K Q)
  (hend : ∀ xs w, Below w0.heap.size w0 w → (∀ z ∈ Z, R z.2 (xs z.2) w) → Q .normal (putZ a0 Z xs) w) :
  ∀ (fuel : Nat) (L : Array Bool) (xs : Tmp → Value) (w : World), L.size = L0.size → (∀ i, (∀ z ∈ Z, z.1 ≠ i) → L.getD i true = L0.getD i true) → (Z.filter fun z => !L.getD z.1 true).length ≤ fuel → Below w0.heap.size w0 w →
    (∀ z ∈ Z, L.getD z.1 true = true → R z.2 (xs z.2) w) → wpAnyH P md ops Q S fuel L (putZ a0 Z xs) w := by
 unfold chkZ at hz
 simp only [Bool.and_eq_true, List.all_eq_true, List.mem_range, Bool.or_eq_true, List.any_eq_true, beq_iff_eq, decide_eq_true_eq] at hz
 obtain ⟨⟨⟨⟨hcov, hback⟩, hops⟩, hnd1⟩, hnd2⟩ := hz
 have hdone : ∀ (L : Array Bool), (∀ i, (∀ z ∈ Z, z.1 ≠ i) → L.getD i true = L0.getD i true) → (∀ z ∈ Z, L.getD z.1 true = true) → Region.ready md ops L = [] := by
  intro L hL hall
  refine List.eq_nil_iff_forall_not_mem.2 fun j hj => ?_
  obtain ⟨hjun, oj, hoj, _⟩ := mem_ready.1 hj
  have hjs : j < ops.size := (Array.getElem?_eq_some_iff.1 hoj).1
  rcases hcov j hjs with h | ⟨z, hz, rfl⟩
  · by_cases hm : ∀ z ∈ Z, z.1 ≠ j
    · rw [hL j hm, h] at hjun; cases hjun
    · have ⟨z, hz, e⟩ : ∃ z ∈ Z, z.1 = j := Classical.byContradiction fun hno => hm fun z hz e => hno ⟨z, hz, e⟩
      rw [← e, hall z hz] at hjun; cases hjun
  · rw [hall z hz] at hjun; cases hjun
 have hlive : ∀ (L : Array Bool), L.size = L0.size → (∀ i, (∀ z ∈ Z, z.1 ≠ i) → L.getD i true = L0.getD i true) → Region.ready md ops L = [] → ∀ i, i < ops.size → L.getD i true = true := by
  intro L hsz hL hr i
  induction i using Nat.strongRecOn with
  | ind i ih =>
    intro hi
    cases hx : L.getD i true with
    | true => rfl
    | false =>
      exfalso
      have hmem : i ∈ Region.ready md ops L := by
       refine mem_ready.2 ⟨hx, ops[i], Array.getElem?_eq_getElem hi, fun e he _ => ?_⟩
       have hb := hback i hi
       rw [Array.getElem?_eq_getElem hi] at hb
       simp only [Option.map_some, Option.getD_some, Array.all_eq_true_iff_forall_mem, decide_eq_true_eq] at hb
       have hlt := hb e he
       have h2 := ih e.on hlt (by omega)
       rcases Nat.lt_or_ge e.on L.size with h3 | h3
       · simp only [Array.getD_eq_getD_getElem?, Array.getElem?_eq_getElem h3, Option.getD_some] at h2 ⊢; exact h2
       · have hil : i < L.size := by
          rcases Nat.lt_or_ge i L.size with h4 | h4
          · exact h4
          · simp [Array.getElem?_eq_none h4] at hx
         omega
      rw [hr] at hmem; cases hmem
 intro fuel
 induction fuel with
 | zero =>
   intro L xs w hsz hL hc hb hR
   have hall : ∀ z ∈ Z, L.getD z.1 true = true := fun z hz => by
    cases hx : L.getD z.1 true with
    | true => rfl
    | false =>
      exfalso
      have : z ∈ Z.filter fun z => !L.getD z.1 true := List.mem_filter.2 ⟨hz, by rw [hx]; rfl⟩
      have := List.length_pos_of_mem this
      omega
   exact ⟨hdone L hL hall, hend xs w hb fun z hz => hR z hz (hall z hz)⟩
 | succ fuel ih =>
   intro L xs w hsz hL hc hb hR
   refine ⟨fun hr => ?_, fun j hj => ?_⟩
   · have hall := hlive L hsz hL hr
     refine hend xs w hb fun z hz => hR z hz ?_
     obtain ⟨hzl, ho⟩ := hops z hz
     cases hoz : ops[z.1]? with
     | none => rw [hoz] at ho; cases ho
     | some o => exact hall z.1 (Array.getElem?_eq_some_iff.1 hoz).1
   · obtain ⟨hjun, oj, hoj, hdeps⟩ := mem_ready.1 hj
     have hjs : j < ops.size := (Array.getElem?_eq_some_iff.1 hoj).1
     have ⟨z, hz, hzj⟩ : ∃ z ∈ Z, z.1 = j := by
      rcases hcov j hjs with h | h
      · refine Classical.byContradiction fun hno => ?_
        rw [hL j fun z hz e => hno ⟨z, hz, e⟩, h] at hjun; cases hjun
      · exact h
     subst hzj
     obtain ⟨hzl, ho⟩ := hops z hz
     rw [hoj] at ho
     simp only [Option.map_some, Option.getD_some, Bool.and_eq_true, beq_iff_eq, Option.isNone_iff_eq_none, List.all_eq_true, List.any_eq_true] at ho
     obtain ⟨⟨hdst, hg⟩, hdp⟩ := ho
     have hw : Region.wanted oj (yielded ops (putZ a0 Z xs).tmps) = true := by unfold Region.wanted; rw [hg]
     unfold wpOp
     simp only [hoj, hw, if_true]
     refine .inl ?_
     refine hstep z hz oj hoj xs w hb (fun d hd => ?_) _ fun v w' hb' hRv => ?_
     · obtain ⟨y, hy, rfl, he⟩ := hdp d hd
       obtain ⟨i, hi, he⟩ := Array.any_eq_true.1 he
       simp only [Bool.and_eq_true, beq_iff_eq] at he
       obtain ⟨hbi, hon⟩ := he
       obtain ⟨e, hee⟩ : ∃ e, e = oj.after[i] := ⟨_, rfl⟩
       have he : e ∈ oj.after := by rw [hee]; exact Array.getElem_mem hi
       rw [← hee] at hbi hon
       have h2 := hdeps e he hbi
       rw [hon] at h2
       refine hR y hy ?_
       rcases Nat.lt_or_ge y.1 L.size with h3 | h3
       · simp only [Array.getD_eq_getD_getElem?, Array.getElem?_eq_getElem h3, Option.getD_some] at h2 ⊢; exact h2
       · simp [Array.getElem?_eq_none h3] at h2
     · have hb2 := below_trans hb hb' hb.size
       refine ⟨hS _ hb2, ?_⟩
       rw [← putZ_upd Z xs z.2 v a0 hnd2 (List.mem_map.2 ⟨z, hz, rfl⟩)]
       have hset : ∀ i, (L.setIfInBounds z.1 true).getD i true = if i = z.1 then true else L.getD i true := fun i => by
        simp only [Array.getD_eq_getD_getElem?, Array.getElem?_setIfInBounds]
        by_cases e : z.1 = i
        · subst e
          simp [hsz, hzl]
        · rw [if_neg e, if_neg (fun h => e h.symm)]
       refine ih _ _ w' (by simp [hsz]) (fun i hi => ?_) ?_ hb2 fun y hy hl => ?_
       · rw [hset, if_neg (fun e => hi z hz e.symm)]; exact hL i hi
       · have hlt : (Z.filter fun y => !(L.setIfInBounds z.1 true).getD y.1 true).length < (Z.filter fun y => !L.getD y.1 true).length := by
          have hsub : (Z.filter fun y => !(L.setIfInBounds z.1 true).getD y.1 true) = (Z.filter fun y => !L.getD y.1 true).filter fun y => !decide (y.1 = z.1) := by
           rw [List.filter_filter]
           refine List.filter_congr fun y _ => ?_
           rw [hset]
           by_cases e : y.1 = z.1 <;> simp [e]
          rw [hsub]
          refine List.length_filter_lt_length_iff_exists.2 ⟨z, List.mem_filter.2 ⟨hz, by rw [hjun]; rfl⟩, by simp⟩
         omega
       · rw [hset] at hl
         unfold updZ
         by_cases e : y.2 = z.2
         · rw [if_pos e, e]; exact hRv
         · rw [if_neg e]
           have hne : y.1 ≠ z.1 := fun h => by
            have : y = z := by
             obtain ⟨i, hi, rfl⟩ := List.getElem_of_mem hy
             obtain ⟨k, hk, rfl⟩ := List.getElem_of_mem hz
             have hpw := List.pairwise_iff_getElem.1 hnd1
             rcases Nat.lt_trichotomy i k with h1 | h1 | h1
             · exact absurd (by rw [List.getElem_map, List.getElem_map]; exact h) (hpw i k (by simpa using hi) (by simpa using hk) h1)
             · subst h1; rfl
             · exact absurd (by rw [List.getElem_map, List.getElem_map]; exact h.symm) (hpw k i (by simpa using hk) (by simpa using hi) h1)
            exact e (by rw [this])
           rw [if_neg hne] at hl
           exact hstab _ _ _ _ (hR y hy hl) hb'
theorem putZ_self (Z : List (Nat × Tmp)) : ∀ (a : Act), putZ a Z (fun t => a.tmps.getD t undef) = a := by
 have h1 : ∀ (a : Act) (d : Tmp), a.put (some d) (a.tmps.getD d undef) = a := fun a d => by
  unfold Act.put
  have : a.tmps.setIfInBounds d (a.tmps.getD d undef) = a.tmps := by
   refine Array.ext_getElem? fun i => ?_
   rw [Array.getElem?_setIfInBounds]
   by_cases e : d = i
   · subst e
     rw [if_pos rfl]
     by_cases h : d < a.tmps.size
     · rw [if_pos h, Array.getElem?_eq_getElem h, Array.getD_eq_getD_getElem?, Array.getElem?_eq_getElem h]; rfl
     · rw [if_neg h, Array.getElem?_eq_none (Nat.le_of_not_lt h)]
   · rw [if_neg e]
  simp only [this]
 induction Z with
 | nil => intro a; rfl
 | cons z r ih =>
   intro a
   show putZ (a.put (some z.2) (a.tmps.getD z.2 undef)) r (fun t => a.tmps.getD t undef) = a
   rw [h1]; exact ih a
def Stb (p : Value → World → Prop) : Prop := ∀ v w w', p v w → Below w.heap.size w w' → p v w'
theorem Stb.ite {c : Prop} [Decidable c] {p q : Value → World → Prop} (hp : Stb p) (hq : Stb q) : Stb fun v w => if c then p v w else q v w := by
 intro v w w' h hb
 by_cases e : c
 · simp only [if_pos e] at h ⊢; exact hp v w w' h hb
 · simp only [if_neg e] at h ⊢; exact hq v w w' h hb
theorem Stb.true : Stb fun _ _ => True := fun _ _ _ h _ => h
def stepsZ (P : Program) (ops : Array Oper) (Q : Exit → Act → World → Prop) (a0 : Act) (w0 : World) (Z : List (Nat × Tmp)) (deps : Nat → List Tmp) (R : Tmp → Value → World → Prop) : List (Nat × Tmp) → Prop
 | [] => True
 | z :: r => (∃ o, ops[z.1]? = some o ∧ ∀ xs w, Below w0.heap.size w0 w → (∀ d ∈ deps z.1, R d (xs d) w) → ∀ K : Act → World → Prop, (∀ v w', Below w.heap.size w w' → R z.2 v w' → K ((putZ a0 Z xs).put (some z.2) v) w') → o.wp P (putZ a0 Z xs) w K Q) ∧ stepsZ P ops Q a0 w0 Z deps R r
theorem stepsZ_get {a0 : Act} {w0 : World} {Z : List (Nat × Tmp)} {deps : Nat → List Tmp} {R : Tmp → Value → World → Prop} : ∀ {Y : List (Nat × Tmp)}, stepsZ P ops Q a0 w0 Z deps R Y → ∀ z ∈ Y, ∀ o, ops[z.1]? = some o → ∀ xs w, Below w0.heap.size w0 w → (∀ d ∈ deps z.1, R d (xs d) w) → ∀ K : Act → World → Prop, (∀ v w', Below w.heap.size w w' → R z.2 v w' → K ((putZ a0 Z xs).put (some z.2) v) w') → o.wp P (putZ a0 Z xs) w K Q
 | y :: r, h, z, hz, o, ho => by
   rcases List.mem_cons.1 hz with rfl | hz
   · obtain ⟨o', ho', hh⟩ := h.1
     rw [ho] at ho'
     obtain rfl := Option.some.inj ho'
     exact hh
   · exact stepsZ_get h.2 z hz o ho
theorem relZ (Z : List (Nat × Tmp)) (deps : Nat → List Tmp) (R : Tmp → Value → World → Prop) {fuel : Nat} {L : Array Bool} {a : Act} {w : World} (hz : (chkZ md ops L Z deps && decide (Z.length ≤ fuel) && Z.all fun z => !L.getD z.1 true) = true)
  (hstab : ∀ d, Stb (R d)) (hS : ∀ w', Below w.heap.size w w' → S w') (hstep : stepsZ P ops Q a w Z deps R Z)
  (hend : ∀ xs w', Below w.heap.size w w' → (∀ z ∈ Z, R z.2 (xs z.2) w') → Q .normal (putZ a Z xs) w') : wpAnyH P md ops Q S fuel L a w := by
 simp only [Bool.and_eq_true, decide_eq_true_eq, List.all_eq_true, Bool.not_eq_true'] at hz
 obtain ⟨⟨h1, h2⟩, h3⟩ := hz
 have h := wpAnyH_rel (P := P) (Q := Q) (S := S) (a0 := a) (w0 := w) R h1 (fun d v w w' => hstab d v w w') hS (fun z hz o ho xs w hb hd K hK => stepsZ_get hstep z hz o ho xs w hb hd K hK) hend fuel L (fun t => a.tmps.getD t undef) w rfl (fun _ _ => rfl) (Nat.le_trans (List.length_filter_le _ _) h2) (Below.refl _ _) (fun z hz hl => by rw [h3 z hz] at hl; cases hl)
 rw [putZ_self] at h
 exact h
end
set_option maxHeartbeats 400000 in
theorem fdAdd_any (p a b : Int) (w : World) (h0 : 0 < p) (ha : 0 ≤ a) (ha' : a ≤ 1000000000) (hb : 0 ≤ b) (hb' : b ≤ 1000000000) :
  Calls Tryz.prog 168 #[.int .i64 p, .int .i64 a, .int .i64 b] w fun e w' => e = .returned (.int .i64 ((a + b) % p)) ∧ w = w' := by
 have hz : (p == 0) = false := by rw [beq_eq_false_iff_ne]; omega
 go_enter Tryz.func168, Tryz.ntmps168
 go_wp2_with (fail)
 go_ret
 exact ⟨rfl, rfl⟩
end Go.Proofs.YtahnhblodfdfhaaGreatDoor
