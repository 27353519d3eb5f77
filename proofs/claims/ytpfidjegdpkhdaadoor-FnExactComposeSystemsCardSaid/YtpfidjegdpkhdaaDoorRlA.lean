/-
  THE WALKS: the juxtaposition of relations.
-/
import Derived.Test.YtpfidjegdpkhdaaDoorRlO
namespace Go.Proofs.YtpfidjegdpkhdaaDoor
open Go.RowKit

/-- The elements of v laid at places among n zeros. -/
def layTo (n : Nat) (f : Nat → Nat) (v : List Int) : Nat → List Int
  | 0 => List.replicate n 0
  | k + 1 => (layTo n f v k).set (f k) (v.getD k 0)
@[simp] theorem layTo_length (n : Nat) (f : Nat → Nat) (v : List Int) : ∀ k, (layTo n f v k).length = n
  | 0 => by simp [layTo]
  | k + 1 => by rw [layTo, List.length_set]; exact layTo_length n f v k
theorem layTo_hit {n : Nat} {f : Nat → Nat} {v : List Int} : ∀ {k j : Nat}, j < k → f j < n → (∀ i, i < k → j < i → f i ≠ f j) → (layTo n f v k).getD (f j) 0 = v.getD j 0
  | 0, j, h, _, _ => by omega
  | k + 1, j, h, hn, hi => by
    rw [layTo]
    by_cases e : j = k
    · subst e; rw [getD_set_self (by rw [layTo_length]; exact hn)]
    · rw [getD_set_ne' (hi k (by omega) (by omega))]
      exact layTo_hit (by omega) hn fun i h1 h2 => hi i (by omega) h2
theorem layTo_miss {n : Nat} {f : Nat → Nat} {v : List Int} {i : Nat} : ∀ {k : Nat}, (∀ j, j < k → f j ≠ i) → (layTo n f v k).getD i 0 = 0
  | 0, _ => by simp [layTo, List.getD, List.getElem?_replicate]; split <;> rfl
  | k + 1, h => by
    rw [layTo, getD_set_ne' (h k (by omega))]
    exact layTo_miss fun j hj => h j (by omega)
theorem layTo_congr {n : Nat} {f g : Nat → Nat} {v : List Int} : ∀ {k : Nat}, (∀ j, j < k → f j = g j) → layTo n f v k = layTo n g v k
  | 0, _ => rfl
  | k + 1, h => by rw [layTo, layTo, layTo_congr fun j hj => h j (by omega), h k (by omega)]
theorem layTo_res {p : Int} (hp : 0 < p) {n : Nat} {f : Nat → Nat} {v : List Int} (h : Res p v) : ∀ k, Res p (layTo n f v k)
  | 0 => fun x hx => by have := List.eq_of_mem_replicate hx; omega
  | k + 1 => fun x hx => by
    rw [layTo] at hx
    rcases List.mem_or_eq_of_mem_set hx with hx | rfl
    · exact layTo_res hp h k x hx
    · exact h.getD hp k
theorem ext_getD {xs ys : List Int} (hl : xs.length = ys.length) (h : ∀ i, i < xs.length → xs.getD i 0 = ys.getD i 0) : xs = ys := by
  apply List.ext_getElem hl
  intro i h1 h2
  have := h i h1
  rwa [getD_lt h1, getD_lt h2] at this
theorem getD_app (xs ys : List Int) (i : Nat) : (xs ++ ys).getD i 0 = if i < xs.length then xs.getD i 0 else ys.getD (i - xs.length) 0 := by
  simp only [List.getD, List.getElem?_append]
  split <;> rfl
theorem getD_take (xs : List Int) (a i : Nat) : (xs.take a).getD i 0 = if i < a then xs.getD i 0 else 0 := by
  simp only [List.getD, List.getElem?_take]
  split <;> rfl
theorem getD_drop (xs : List Int) (a i : Nat) : (xs.drop a).getD i 0 = xs.getD (a + i) 0 := by
  simp only [List.getD, List.getElem?_drop]
theorem getD_zeros (n i : Nat) : (List.replicate n (0 : Int)).getD i 0 = 0 := by
  simp [List.getD, List.getElem?_replicate]; split <;> rfl
/-- The places of a row of the first relation, and of the second. -/
def tA (a1 b1 j : Nat) : Nat := if j < a1 then j else b1 + j
def tB (a1 a2 b1 j : Nat) : Nat := if j < b1 then a1 + j else a1 + a2 + j
theorem tA_mono {a1 b1 i j : Nat} (h : i < j) : tA a1 b1 i < tA a1 b1 j := by unfold tA; split <;> split <;> omega
theorem tB_mono {a1 a2 b1 i j : Nat} (h : i < j) : tB a1 a2 b1 i < tB a1 a2 b1 j := by unfold tB; split <;> split <;> omega
def pA (a1 a2 b1 b2 : Nat) (u : List Int) : List Int := layTo (a1 + a2 + b1 + b2) (tA a1 b1) u (a1 + a2)
def pB (a1 a2 b1 b2 : Nat) (u : List Int) : List Int := layTo (a1 + a2 + b1 + b2) (tB a1 a2 b1) u (b1 + b2)
theorem pA_join {a1 a2 b1 b2 : Nat} {u : List Int} (hu : u.length = a1 + a2) : pA a1 a2 b1 b2 u = u.take a1 ++ (List.replicate b1 0 ++ (u.drop a1 ++ List.replicate b2 0)) := by
  unfold pA
  refine ext_getD (by simp; omega) fun i hi => ?_
  rw [layTo_length] at hi
  rw [getD_app, getD_app, getD_app, getD_take, getD_drop, getD_zeros, getD_zeros]
  simp only [List.length_take, List.length_drop, List.length_replicate, hu, show min a1 (a1 + a2) = a1 by omega, show a1 + a2 - a1 = a2 by omega]
  by_cases h1 : i < a1
  · have := layTo_hit (n := a1 + a2 + b1 + b2) (f := tA a1 b1) (v := u) (k := a1 + a2) (j := i) (by omega) (by unfold tA; split <;> omega) (fun j h2 h3 => by have := tA_mono (a1 := a1) (b1 := b1) h3; omega)
    rw [show tA a1 b1 i = i by unfold tA; rw [if_pos h1]] at this
    rw [this]; simp [h1]
  · by_cases h2 : i < a1 + b1
    · rw [layTo_miss (fun j hj => by unfold tA; split <;> omega)]
      simp [h1]; intro h3; omega
    · by_cases h3 : i < a1 + b1 + a2
      · have := layTo_hit (n := a1 + a2 + b1 + b2) (f := tA a1 b1) (v := u) (k := a1 + a2) (j := i - b1) (by omega) (by unfold tA; split <;> omega) (fun j h2 h3 => by have := tA_mono (a1 := a1) (b1 := b1) h3; omega)
        rw [show tA a1 b1 (i - b1) = i by unfold tA; rw [if_neg (by omega)]; omega] at this
        rw [this, if_neg h1, if_neg (by omega), if_pos (by omega)]
        congr 1; omega
      · rw [layTo_miss (fun j hj => by unfold tA; split <;> omega), if_neg h1, if_neg (by omega), if_neg (by omega)]
theorem pB_join {a1 a2 b1 b2 : Nat} {u : List Int} (hu : u.length = b1 + b2) : pB a1 a2 b1 b2 u = List.replicate a1 0 ++ (u.take b1 ++ (List.replicate a2 0 ++ u.drop b1)) := by
  unfold pB
  refine ext_getD (by simp; omega) fun i hi => ?_
  rw [layTo_length] at hi
  rw [getD_app, getD_app, getD_app, getD_take, getD_drop, getD_zeros, getD_zeros]
  simp only [List.length_take, List.length_replicate, hu, show min b1 (b1 + b2) = b1 by omega]
  by_cases h1 : i < a1
  · rw [layTo_miss (fun j hj => by unfold tB; split <;> omega), if_pos h1]
  · by_cases h2 : i < a1 + b1
    · have := layTo_hit (n := a1 + a2 + b1 + b2) (f := tB a1 a2 b1) (v := u) (k := b1 + b2) (j := i - a1) (by omega) (by unfold tB; split <;> omega) (fun j h2 h3 => by have := tB_mono (a1 := a1) (a2 := a2) (b1 := b1) h3; omega)
      rw [show tB a1 a2 b1 (i - a1) = i by unfold tB; rw [if_pos (by omega)]; omega] at this
      rw [this, if_neg h1, if_pos (by omega), if_pos (by omega)]
    · by_cases h3 : i < a1 + b1 + a2
      · rw [layTo_miss (fun j hj => by unfold tB; split <;> omega), if_neg h1, if_neg (by omega), if_pos (by omega)]
      · have := layTo_hit (n := a1 + a2 + b1 + b2) (f := tB a1 a2 b1) (v := u) (k := b1 + b2) (j := i - a1 - a2) (by omega) (by unfold tB; split <;> omega) (fun j h2 h3 => by have := tB_mono (a1 := a1) (a2 := a2) (b1 := b1) h3; omega)
        rw [show tB a1 a2 b1 (i - a1 - a2) = i by unfold tB; rw [if_neg (by omega)]; omega] at this
        rw [this, if_neg h1, if_neg (by omega), if_neg (by omega)]
        congr 1; omega
def tenRows (s t : Sys) : List (List Int) := s.2.2.map (pA s.1.toNat s.2.1.toNat t.1.toNat t.2.1.toNat) ++ t.2.2.map (pB s.1.toNat s.2.1.toNat t.1.toNat t.2.1.toNat)
def tenV (p : Int) (s t : Sys) : Sys := (s.1 + t.1, s.2.1 + t.2.1, redM p (s.1.toNat + s.2.1.toNat + t.1.toNat + t.2.1.toNat) (tenRows s t))
theorem ten_mat {p : Int} {s t : Sys} (hs : RelOk p s) (ht : RelOk p t) : Mat p (tenRows s t).length (s.1.toNat + s.2.1.toNat + t.1.toNat + t.2.1.toNat) (tenRows s t) := by
  have hpb := fieldB_bounds hs.fld
  refine ⟨rfl, fun v hv => ?_⟩
  rcases List.mem_append.1 hv with hv | hv
  · obtain ⟨u, hu, rfl⟩ := List.mem_map.1 hv
    exact ⟨layTo_length _ _ _ _, layTo_res (by omega) (hs.row hu).2 _⟩
  · obtain ⟨u, hu, rfl⟩ := List.mem_map.1 hv
    exact ⟨layTo_length _ _ _ _, layTo_res (by omega) (ht.row hu).2 _⟩
theorem tenRows_len (s t : Sys) : (tenRows s t).length = s.2.2.length + t.2.2.length := by unfold tenRows; rw [List.length_append, List.length_map, List.length_map]

set_option maxRecDepth 100000 in
set_option maxHeartbeats 8000000 in
theorem rlTensor_any (p : Int) {v v' : Value} {s t : Sys} {fp fp' : List Nat} (w : World) (ha : OwSys w v s fp) (hb : OwSys w v' t fp') (hs : RelOk p s) (ht : RelOk p t) (hsum : s.1 + t.1 + s.2.1 + t.2.1 ≤ 24) :
    Calls Tryd.prog 105 #[.int .i64 p, v, v'] w fun e w' => ∃ v' fp', e = .returned v' ∧ OwSys w' v' (tenV p s t) fp' ∧ FreshL w.heap.size fp' ∧ Below w.heap.size w w' := by
  have hmat0 := ten_mat hs ht
  have htl := tenRows_len s t
  obtain ⟨Aa, ca, ga, rfl, hLa0, hOa, rfl⟩ := ha
  obtain ⟨ia, ja, La⟩ := s
  have ha0 : 0 ≤ ia := hs.lo
  have ha1 : 0 ≤ ja := hs.hi
  have ha2 : ia + ja ≤ 24 := hs.sum
  have hflda : fieldB p = true := hs.fld
  have hrowa : ∀ u, u ∈ La → (u.length : Int) = ia + ja ∧ Res p u := fun u hu => hs.row hu
  have hlena : (La.length : Int) ≤ ia + ja := hs.len
  clear hs
  obtain ⟨a1, rfl⟩ : ∃ n : Nat, ia = (n : Int) := ⟨ia.toNat, by omega⟩
  obtain ⟨a2, rfl⟩ : ∃ n : Nat, ja = (n : Int) := ⟨ja.toNat, by omega⟩
  have hLa : La = ga.map (fun h : Hd => h.2.2) := hLa0
  clear hLa0
  obtain ⟨ma, hma⟩ : ∃ m, m = ga.length := ⟨_, rfl⟩
  have hLma : La.length = ma := by rw [hLa, List.length_map, hma]
  have hma24 : (ma : Int) ≤ 24 := by have := hlena; rw [hLma] at this; omega
  obtain ⟨Ab, cb, gb, rfl, hLb0, hOb, rfl⟩ := hb
  obtain ⟨ib, jb, Lb⟩ := t
  have hb0 : 0 ≤ ib := ht.lo
  have hb1 : 0 ≤ jb := ht.hi
  have hb2 : ib + jb ≤ 24 := ht.sum
  have hfldb : fieldB p = true := ht.fld
  have hrowb : ∀ u, u ∈ Lb → (u.length : Int) = ib + jb ∧ Res p u := fun u hu => ht.row hu
  have hlenb : (Lb.length : Int) ≤ ib + jb := ht.len
  clear ht
  obtain ⟨b1, rfl⟩ : ∃ n : Nat, ib = (n : Int) := ⟨ib.toNat, by omega⟩
  obtain ⟨b2, rfl⟩ : ∃ n : Nat, jb = (n : Int) := ⟨jb.toNat, by omega⟩
  have hLb : Lb = gb.map (fun h : Hd => h.2.2) := hLb0
  clear hLb0
  obtain ⟨mb, hmb⟩ : ∃ m, m = gb.length := ⟨_, rfl⟩
  have hLmb : Lb.length = mb := by rw [hLb, List.length_map, hmb]
  have hmb24 : (mb : Int) ≤ 24 := by have := hlenb; rw [hLmb] at this; omega
  obtain ⟨N, hN⟩ : ∃ N, N = a1 + a2 + b1 + b2 := ⟨_, rfl⟩
  obtain ⟨lf, hlf0⟩ : ∃ lf, lf = a1 + b1 := ⟨_, rfl⟩
  obtain ⟨rt, hrt0⟩ : ∃ rt, rt = a2 + b2 := ⟨_, rfl⟩
  obtain ⟨X, hX⟩ : ∃ X, X = La.map (pA a1 a2 b1 b2) ++ Lb.map (pB a1 a2 b1 b2) := ⟨_, rfl⟩
  have hmat : Mat p X.length N X := by rw [hX, hN]; exact hmat0
  obtain ⟨R, hR⟩ : ∃ R, R = redM p N X := ⟨_, rfl⟩
  have hsum' : (a1 : Int) + (b1 : Int) + (a2 : Int) + (b2 : Int) ≤ 24 := hsum
  have hlf : (a1 : Int) + (b1 : Int) = (lf : Int) := by omega
  have hrt : (a2 : Int) + (b2 : Int) = (rt : Int) := by omega
  have hNI : (lf : Int) + (rt : Int) = (N : Int) := by omega
  have hgoal : tenV p ((a1 : Int), (a2 : Int), La) ((b1 : Int), (b2 : Int), Lb) = ((lf : Int), (rt : Int), R) := by
    rw [← hlf, ← hrt, hR, hX, hN]; rfl
  rw [hgoal]
  have hN24 : N ≤ 24 := by omega
  have hlf24 : (lf : Int) ≤ 24 := by omega
  have hrt24 : (rt : Int) ≤ 24 := by omega
  have hb24a : (a1 : Int) ≤ 24 := by omega
  have hb24b : (a2 : Int) ≤ 24 := by omega
  have hb24c : (b1 : Int) ≤ 24 := by omega
  show Calls Tryd.prog _ #[.int .i64 p, .agg #[.int .i64 (a1 : Int), .int .i64 (a2 : Int), .slice Aa ga.length ca], .agg #[.int .i64 (b1 : Int), .int .i64 (b2 : Int), .slice Ab gb.length cb]] w _
  rw [← hma, ← hmb]
  obtain ⟨W, hW, bW, k0, k1, k2⟩ := alloc3 w (.cells #[.int .i64 (a1 : Int), .int .i64 (a2 : Int), .slice Aa ma ca] tRel) (.cells #[.int .i64 (b1 : Int), .int .i64 (b2 : Int), .slice Ab mb cb] tRel) (.cells #[.int .i64 0, .int .i64 0, .slice none 0 0] tRel)
  have hOa := hOa.below bW
  have hOb := hOb.below bW
  obtain ⟨⟨c0, c1, c2⟩, f0, f1, f2⟩ := box3 k0
  obtain ⟨⟨d0, d1, d2⟩, g0, g1, g2⟩ := box3 k1
  clear hmat0 hgoal htl hsum hlf0 hrt0
  have hLa_h := Lib.hid hLa
  have hLb_h := Lib.hid hLb
  have hma_h := Lib.hid hma
  have hmb_h := Lib.hid hmb
  have hLma_h := Lib.hid hLma
  have hLmb_h := Lib.hid hLmb
  have bW_h := Lib.hid bW
  have k0_h := Lib.hid k0
  have k1_h := Lib.hid k1
  have k2_h := Lib.hid k2
  have hOa_h := Lib.hid hOa
  have hOb_h := Lib.hid hOb
  have hrowa_h := Lib.hid hrowa
  have hrowb_h := Lib.hid hrowb
  have hlena_h := Lib.hid hlena
  have hlenb_h := Lib.hid hlenb
  have hflda_h := Lib.hid hflda
  have hfldb_h := Lib.hid hfldb
  have hmat_h := Lib.hid hmat
  have hX_h := Lib.hid hX
  have hR_h := Lib.hid hR
  have hN_h := Lib.hid hN
  have hNI_h := Lib.hid hNI
  clear hLa hLb hma hmb hLma hLmb bW k0 k1 k2 hOa hOb hrowa hrowb hlena hlenb hflda hfldb hmat hX hR hN hNI
  go_enter Tryd.func105, Tryd.ntmps105
  go_upto_region 1 with (fail)
  rw [← hW]
  clear hW
  have hlw : IntKind.i64.wrap ((a1 : Int) + (b1 : Int)) = (a1 : Int) + (b1 : Int) := IntWalk.i64_in _ (by omega)
  have hrw : IntKind.i64.wrap ((a2 : Int) + (b2 : Int)) = (a2 : Int) + (b2 : Int) := IntWalk.i64_in _ (by omega)
  go_quiet (fail)
  obtain ⟨Wd, hWd⟩ : ∃ Wd, Wd = W.drewN nq := ⟨_, rfl⟩
  have hbd : Below W.heap.size W Wd := by rw [hWd]; exact below_drewN (Below.refl _ _) nq
  rw [← hWd]
  clear hWd c0 c1 c2 f0 f1 f2 d0 d1 d2 g0 g1 g2 hlw hrw
  replace k0_h := Lib.hid (box_below k0_h.out hbd)
  replace k1_h := Lib.hid (box_below k1_h.out hbd)
  replace k2_h := Lib.hid (box_below k2_h.out hbd)
  have hBd := below_trans bW_h.out hbd bW_h.out.size
  have hOa := hOa_h.out.below hbd
  have hOb := hOb_h.out.below hbd
  have hz2 := box_lt k2_h.out
  clear hOa_h hOb_h
  have hN0 := RdO.nil Wd Wd (Below.refl _ _)
  obtain ⟨⟨c0, c1, c2⟩, f0, f1, f2⟩ := box3 k0_h.out
  have hOa_h := Lib.hid hOa
  have hOb_h := Lib.hid hOb
  have hBd_h := Lib.hid hBd
  have hbd_h := Lib.hid hbd
  have hN0_h := Lib.hid hN0
  have hlf_h := Lib.hid hlf
  have hrt_h := Lib.hid hrt
  clear hOa hOb hBd hbd hN0 hlf hrt
  go_wp2_with (fail)
  clear c0 c1 c2 f0 f1 f2
  go_loopw [33, 9] (fun i v wr => ∃ (k : Nat) (A' : Option Addr) (c' : Nat) (ys : List Hd) (q : Nat), k ≤ ma ∧ i = .int .i64 k ∧ q = k ∧ v = .slice A' q c' ∧ ys.length = q ∧ ys.map (fun h : Hd => h.2.2) = (La.take k).map (pA a1 a2 b1 b2) ∧ RdO Wd wr A' c' ys) (fun i _ _ => ma - (intOf i).toNat)
  case atStart => exact ⟨0, none, 0, [], 0, Nat.zero_le _, rfl, rfl, rfl, rfl, rfl, hN0_h.out⟩
  case round =>
    obtain ⟨k, A', c', ys, q0, hk, rfl, hq0, rfl, hyl, hym, hO⟩ := hrel
    have k0r := box_below k0_h.out hO.below_
    have k1r := box_below k1_h.out hO.below_
    by_cases hlt : k < ma
    · have hOr := hOa_h.out.below hO.below_
      obtain ⟨ad, B, d, u, rfl, hx, hc, hrd⟩ := hOr.rd.at_ (k := k) (by rw [← hma_h.out]; exact hlt)
      have hyL : La[k]? = some u := by rw [hLa_h.out, List.getElem?_map, hx]; rfl
      have hul : u.length = a1 + a2 := by have := (hrowa_h.out _ (List.mem_of_getElem? hyL)).1; omega
      rw [hul] at hc
      have hkI : (k : Int) < (ma : Int) := by omega
      have hq24 : q0 ≤ 48 := by omega
      obtain ⟨wo, rfl⟩ : ∃ x, x = wr := ⟨_, rfl⟩
      have hNI : (lf : Int) + (rt : Int) = (N : Int) := hNI_h.out
      clear hOr hx
      have hyL_h := Lib.hid hyL
      have hul_h := Lib.hid hul
      have hyl_h := Lib.hid hyl
      have hym_h := Lib.hid hym
      have hO_h := Lib.hid hO
      have hrd_h := Lib.hid hrd
      have k0r_h := Lib.hid k0r
      have k1r_h := Lib.hid k1r
      have hq0_h := Lib.hid hq0
      clear hyL hul hyl hym hO hrd k0r k1r hq0
      go_wp2_with (at_make; refine wpList_make_Sl _ rfl _ _ _ rfl 3 Tryd.underlying37 info_int N N rfl rfl rfl rfl (Nat.le_refl _) (by omega) (by unfold maxLen; omega) ?_; intro G w2 hs2 hG hb2)
      have hi2 : IS w2 (some G) N (List.replicate N 0) := by unfold IS; rw [← madeZeros]; simpa using hs2
      clear hs2 hc hNI
      have hi2_h := Lib.hid hi2
      have hG_h := Lib.hid hG
      have hb2_h := Lib.hid hb2
      clear hi2 hG hb2
      go_loopw [43] (fun i wr => ∃ j : Nat, j ≤ a1 + a2 ∧ i = .int .i64 j ∧ IS wr (some G) N (layTo N (tA a1 b1) u j) ∧ Below wo.heap.size wo wr) (fun i _ => a1 + a2 - (intOf i).toNat)
      case atStart => exact ⟨0, Nat.zero_le _, rfl, hi2_h.out, hb2_h.out⟩
      case round =>
        clear hi2_h hb2_h
        obtain ⟨j, hj, rfl, his, hbr⟩ := hrel
        have k0i := box_below k0r_h.out hbr
        have k1i := box_below k1r_h.out hbr
        by_cases hlt2 : j < a1 + a2
        · obtain ⟨bd, x, rfl, hx, hcx⟩ := (hrd_h.out.below hbr).at_ (j := j) (by rw [hul_h.out]; exact hlt2)
          have hgx : u.getD j 0 = x := by simp [List.getD, hx]
          have hjI : (j : Int) < (a1 + a2 : Int) := by omega
          by_cases hja : j < a1
          · obtain ⟨q, hq⟩ : ∃ q, q = j := ⟨_, rfl⟩
            have hfq : (tA a1 b1) j = q := by rw [hq]; first | exact if_pos hja | exact if_neg hja
            have hqN : q < N := by rw [hq]; have := hN_h.out; omega
            have hkl : q < (layTo N (tA a1 b1) u j).length := by rw [layTo_length]; exact hqN
            obtain ⟨gd, y, hA, hy, hblt, hc, hf⟩ := his.at_ hkl
            obtain rfl := Option.some.inj hA
            have hset := his.set rfl x hkl
            rw [← hfq, ← hgx] at hset
            have hset2 : IS _ (some G) N (layTo N (tA a1 b1) u (j + 1)) := hset
            rw [hfq, hgx] at hset2
            have hbs := hbr.setCell (p := G.add q) (by rw [block_of_add]; exact hG_h.out) (.int .i64 x)
            have hfz := hf q
            have hqI : (q : Int) < (N : Int) := by omega
            have hlt3 : (j : Int) < (a1 : Int) := by omega
            obtain rfl : j = q := hq.symm
            have hq : j = j := rfl
            obtain ⟨⟨c0, c1, c2⟩, f0, f1, f2⟩ := box3 k0i
            obtain ⟨⟨d0, d1, d2⟩, g0, g1, g2⟩ := box3 k1i
            clear his hy hkl hf hbr hset hfq k0i k1i hgx hx
            have hset2_h := Lib.hid hset2
            have hbs_h := Lib.hid hbs
            have hq_h := Lib.hid hq
            clear hset2 hbs hq
            go_wp2_with (fail)
            go_roundw
            case rel => exact ⟨j + 1, by omega, by go_num, hset2_h.out, hbs_h.out⟩
            case measure => simp [intOf]; omega
          · obtain ⟨q, hq⟩ : ∃ q, q = b1 + j := ⟨_, rfl⟩
            have hfq : (tA a1 b1) j = q := by rw [hq]; first | exact if_pos hja | exact if_neg hja
            have hqN : q < N := by rw [hq]; have := hN_h.out; omega
            have hkl : q < (layTo N (tA a1 b1) u j).length := by rw [layTo_length]; exact hqN
            obtain ⟨gd, y, hA, hy, hblt, hc, hf⟩ := his.at_ hkl
            obtain rfl := Option.some.inj hA
            have hset := his.set rfl x hkl
            rw [← hfq, ← hgx] at hset
            have hset2 : IS _ (some G) N (layTo N (tA a1 b1) u (j + 1)) := hset
            rw [hfq, hgx] at hset2
            have hbs := hbr.setCell (p := G.add q) (by rw [block_of_add]; exact hG_h.out) (.int .i64 x)
            have hfz := hf q
            have hqI : (q : Int) < (N : Int) := by omega
            have hle : ¬ (j : Int) < (a1 : Int) := by omega
            have e1 : IntKind.i64.wrap ((lf : Int) + (j : Int)) = (lf : Int) + (j : Int) := IntWalk.i64_in _ (by omega)
            have e2 : (lf : Int) + (j : Int) - (a1 : Int) = (q : Int) := by rw [hq]; have := hlf_h.out; omega
            obtain ⟨⟨c0, c1, c2⟩, f0, f1, f2⟩ := box3 k0i
            obtain ⟨⟨d0, d1, d2⟩, g0, g1, g2⟩ := box3 k1i
            clear his hy hkl hf hbr hset hfq k0i k1i hgx hx
            have hset2_h := Lib.hid hset2
            have hbs_h := Lib.hid hbs
            have hq_h := Lib.hid hq
            clear hset2 hbs hq
            go_wp2_with (fail)
            go_roundw
            case rel => exact ⟨j + 1, by omega, by go_num, hset2_h.out, hbs_h.out⟩
            case measure => simp [intOf]; omega
        · have hje : j = a1 + a2 := by omega
          subst hje
          have hi3 : IS wr (some G) N (pA a1 a2 b1 b2 u) := by unfold pA; rw [← hN_h.out]; exact his
          have hsl : Sl (wr.alloc (.cells #[.slice (some G) N N] 37)) 37 1 A' q0 c' (ys.map Hd.val) := by
            have := (hO_h.out.sl.below hbr).alloc (.cells #[.slice (some G) N N] 37)
            rwa [hyl_h.out] at this
          have hpl : (pA a1 a2 b1 b2 u).length = N := by unfold pA; rw [layTo_length, hN_h.out]
          clear his k0i k1i
          have hi3_h := Lib.hid hi3
          have hsl_h := Lib.hid hsl
          have hbr_h := Lib.hid hbr
          have hpl_h := Lib.hid hpl
          clear hi3 hsl hbr hpl
          go_wp2_with (at_builtin; refine wpList_append_Sl _ rfl _ _ _ rfl 37 Tryd.underlying22 info_ints rfl (by omega) rfl (hsl_h.out) rfl (news := [.slice (some G) N N]) rfl (Sl.rdc (Sl.laid wr 37 1 1 #[.slice (some G) N N] (by unfold maxLen; omega) rfl)) (by intro u hu; simp at hu; subst hu; rfl) (by unfold maxLen; omega) (by omega) ?_; intro A3 c3 w3 hsA3 hA3 hkA3)
          have hal : Below wr.heap.size wr (wr.alloc (.cells #[.slice (some G) N N] 37)) := below_alloc _ _
          have hO2 := hO_h.out.snoc (w1 := wr.alloc (.cells #[.slice (some G) N N] 37)) (below_trans hbr_h.out hal hbr_h.out.size) (x := (some G, N, pA a1 a2 b1 b2 u)) (hi3_h.out.below hal) (fun b hb hb' => by
            have h1 := hO_h.out.sl.lt b hb'
            have h2 := hG_h.out
            obtain rfl : b = G.block := by simpa using hb
            omega) (by rw [hyl_h.out]) (by show Sl w3 _ 1 A3 (q0 + 1) c3 (ys.map Hd.val ++ [.slice (some G) (pA a1 a2 b1 b2 u).length N]); rw [hpl_h.out]; exact hsA3) hA3 hkA3
          clear hsA3 hA3 hkA3
          have hO2_h := Lib.hid hO2
          clear hO2
          go_roundw
          case rel => exact ⟨k + 1, A3, c3, ys ++ [(some G, N, pA a1 a2 b1 b2 u)], q0 + 1, by omega, by go_num, by have := hq0_h.out; omega, rfl, by rw [List.length_append, hyl_h.out]; rfl, by rw [List.map_append, hym_h.out, List.take_add_one, hyL_h.out]; simp, hO2_h.out⟩
          case measure => simp [intOf]; omega
    · obtain rfl : ma = k := by omega
      have hym2 : ys.map (fun h : Hd => h.2.2) = La.map (pA a1 a2 b1 b2) := by rw [hym, List.take_of_length_le (by rw [hLma_h.out]; exact Nat.le_refl _)]
      have hq1 : q0 ≤ 24 := by omega
      obtain ⟨⟨c0, c1, c2⟩, f0, f1, f2⟩ := box3 k1r
      clear hym hq0
      have hym2_h := Lib.hid hym2
      have hyl_h := Lib.hid hyl
      have hO_h := Lib.hid hO
      have k0r_h := Lib.hid k0r
      have k1r_h := Lib.hid k1r
      clear hym2 hyl hO k0r k1r
      go_wp2_with (fail)
      clear c0 c1 c2 f0 f1 f2
      go_loopw [74, 9] (fun i v wr => ∃ (k : Nat) (A' : Option Addr) (c' : Nat) (ys : List Hd) (q : Nat), k ≤ mb ∧ i = .int .i64 k ∧ q = q0 + k ∧ v = .slice A' q c' ∧ ys.length = q ∧ ys.map (fun h : Hd => h.2.2) = La.map (pA a1 a2 b1 b2) ++ (Lb.take k).map (pB a1 a2 b1 b2) ∧ RdO Wd wr A' c' ys) (fun i _ _ => mb - (intOf i).toNat)
      case atStart => exact ⟨0, A', c', ys, q0, Nat.zero_le _, rfl, rfl, rfl, hyl_h.out, by simpa using hym2_h.out, hO_h.out⟩
      case round =>
        clear hyl_h hO_h hym2_h k0r_h k1r_h
        obtain ⟨k, A', c', ys, q1, hk, rfl, hq0, rfl, hyl, hym, hO⟩ := hrel
        have k0r := box_below k0_h.out hO.below_
        have k1r := box_below k1_h.out hO.below_
        by_cases hlt : k < mb
        · have hOr := hOb_h.out.below hO.below_
          obtain ⟨ad, B, d, u, rfl, hx, hc, hrd⟩ := hOr.rd.at_ (k := k) (by rw [← hmb_h.out]; exact hlt)
          have hyL : Lb[k]? = some u := by rw [hLb_h.out, List.getElem?_map, hx]; rfl
          have hul : u.length = b1 + b2 := by have := (hrowb_h.out _ (List.mem_of_getElem? hyL)).1; omega
          rw [hul] at hc
          have hkI : (k : Int) < (mb : Int) := by omega
          have hq24 : q1 ≤ 48 := by omega
          obtain ⟨wo, rfl⟩ : ∃ x, x = wr := ⟨_, rfl⟩
          have hNI : (lf : Int) + (rt : Int) = (N : Int) := hNI_h.out
          clear hOr hx
          have hyL_h := Lib.hid hyL
          have hul_h := Lib.hid hul
          have hyl_h := Lib.hid hyl
          have hym_h := Lib.hid hym
          have hO_h := Lib.hid hO
          have hrd_h := Lib.hid hrd
          have k0r_h := Lib.hid k0r
          have k1r_h := Lib.hid k1r
          have hq0_h := Lib.hid hq0
          clear hyL hul hyl hym hO hrd k0r k1r hq0
          go_wp2_with (at_make; refine wpList_make_Sl _ rfl _ _ _ rfl 3 Tryd.underlying37 info_int N N rfl rfl rfl rfl (Nat.le_refl _) (by omega) (by unfold maxLen; omega) ?_; intro G w2 hs2 hG hb2)
          have hi2 : IS w2 (some G) N (List.replicate N 0) := by unfold IS; rw [← madeZeros]; simpa using hs2
          clear hs2 hc hNI
          have hi2_h := Lib.hid hi2
          have hG_h := Lib.hid hG
          have hb2_h := Lib.hid hb2
          clear hi2 hG hb2
          go_loopw [84] (fun i wr => ∃ j : Nat, j ≤ b1 + b2 ∧ i = .int .i64 j ∧ IS wr (some G) N (layTo N (tB a1 a2 b1) u j) ∧ Below wo.heap.size wo wr) (fun i _ => b1 + b2 - (intOf i).toNat)
          case atStart => exact ⟨0, Nat.zero_le _, rfl, hi2_h.out, hb2_h.out⟩
          case round =>
            clear hi2_h hb2_h
            obtain ⟨j, hj, rfl, his, hbr⟩ := hrel
            have k0i := box_below k0r_h.out hbr
            have k1i := box_below k1r_h.out hbr
            by_cases hlt2 : j < b1 + b2
            · obtain ⟨bd, x, rfl, hx, hcx⟩ := (hrd_h.out.below hbr).at_ (j := j) (by rw [hul_h.out]; exact hlt2)
              have hgx : u.getD j 0 = x := by simp [List.getD, hx]
              have hjI : (j : Int) < (b1 + b2 : Int) := by omega
              by_cases hja : j < b1
              · obtain ⟨q, hq⟩ : ∃ q, q = a1 + j := ⟨_, rfl⟩
                have hfq : (tB a1 a2 b1) j = q := by rw [hq]; first | exact if_pos hja | exact if_neg hja
                have hqN : q < N := by rw [hq]; have := hN_h.out; omega
                have hkl : q < (layTo N (tB a1 a2 b1) u j).length := by rw [layTo_length]; exact hqN
                obtain ⟨gd, y, hA, hy, hblt, hc, hf⟩ := his.at_ hkl
                obtain rfl := Option.some.inj hA
                have hset := his.set rfl x hkl
                rw [← hfq, ← hgx] at hset
                have hset2 : IS _ (some G) N (layTo N (tB a1 a2 b1) u (j + 1)) := hset
                rw [hfq, hgx] at hset2
                have hbs := hbr.setCell (p := G.add q) (by rw [block_of_add]; exact hG_h.out) (.int .i64 x)
                have hfz := hf q
                have hqI : (q : Int) < (N : Int) := by omega
                have hlt3 : (j : Int) < (b1 : Int) := by omega
                have e2 : (a1 : Int) + (j : Int) = (q : Int) := by rw [hq]; omega
                obtain ⟨⟨c0, c1, c2⟩, f0, f1, f2⟩ := box3 k0i
                obtain ⟨⟨d0, d1, d2⟩, g0, g1, g2⟩ := box3 k1i
                clear his hy hkl hf hbr hset hfq k0i k1i hgx hx
                have hset2_h := Lib.hid hset2
                have hbs_h := Lib.hid hbs
                have hq_h := Lib.hid hq
                clear hset2 hbs hq
                go_wp2_with (fail)
                go_roundw
                case rel => exact ⟨j + 1, by omega, by go_num, hset2_h.out, hbs_h.out⟩
                case measure => simp [intOf]; omega
              · obtain ⟨q, hq⟩ : ∃ q, q = a1 + a2 + j := ⟨_, rfl⟩
                have hfq : (tB a1 a2 b1) j = q := by rw [hq]; first | exact if_pos hja | exact if_neg hja
                have hqN : q < N := by rw [hq]; have := hN_h.out; omega
                have hkl : q < (layTo N (tB a1 a2 b1) u j).length := by rw [layTo_length]; exact hqN
                obtain ⟨gd, y, hA, hy, hblt, hc, hf⟩ := his.at_ hkl
                obtain rfl := Option.some.inj hA
                have hset := his.set rfl x hkl
                rw [← hfq, ← hgx] at hset
                have hset2 : IS _ (some G) N (layTo N (tB a1 a2 b1) u (j + 1)) := hset
                rw [hfq, hgx] at hset2
                have hbs := hbr.setCell (p := G.add q) (by rw [block_of_add]; exact hG_h.out) (.int .i64 x)
                have hfz := hf q
                have hqI : (q : Int) < (N : Int) := by omega
                have hle : ¬ (j : Int) < (b1 : Int) := by omega
                have e2 : (lf : Int) + (a2 : Int) + (j : Int) - (b1 : Int) = (q : Int) := by rw [hq]; have := hlf_h.out; omega
                obtain ⟨⟨c0, c1, c2⟩, f0, f1, f2⟩ := box3 k0i
                obtain ⟨⟨d0, d1, d2⟩, g0, g1, g2⟩ := box3 k1i
                clear his hy hkl hf hbr hset hfq k0i k1i hgx hx
                have hset2_h := Lib.hid hset2
                have hbs_h := Lib.hid hbs
                have hq_h := Lib.hid hq
                clear hset2 hbs hq
                go_wp2_with (fail)
                go_roundw
                case rel => exact ⟨j + 1, by omega, by go_num, hset2_h.out, hbs_h.out⟩
                case measure => simp [intOf]; omega
            · have hje : j = b1 + b2 := by omega
              subst hje
              have hi3 : IS wr (some G) N (pB a1 a2 b1 b2 u) := by unfold pB; rw [← hN_h.out]; exact his
              have hsl : Sl (wr.alloc (.cells #[.slice (some G) N N] 37)) 37 1 A' q1 c' (ys.map Hd.val) := by
                have := (hO_h.out.sl.below hbr).alloc (.cells #[.slice (some G) N N] 37)
                rwa [hyl_h.out] at this
              have hpl : (pB a1 a2 b1 b2 u).length = N := by unfold pB; rw [layTo_length, hN_h.out]
              clear his k0i k1i
              have hi3_h := Lib.hid hi3
              have hsl_h := Lib.hid hsl
              have hbr_h := Lib.hid hbr
              have hpl_h := Lib.hid hpl
              clear hi3 hsl hbr hpl
              go_wp2_with (at_builtin; refine wpList_append_Sl _ rfl _ _ _ rfl 37 Tryd.underlying22 info_ints rfl (by omega) rfl (hsl_h.out) rfl (news := [.slice (some G) N N]) rfl (Sl.rdc (Sl.laid wr 37 1 1 #[.slice (some G) N N] (by unfold maxLen; omega) rfl)) (by intro u hu; simp at hu; subst hu; rfl) (by unfold maxLen; omega) (by omega) ?_; intro A3 c3 w3 hsA3 hA3 hkA3)
              have hal : Below wr.heap.size wr (wr.alloc (.cells #[.slice (some G) N N] 37)) := below_alloc _ _
              have hO2 := hO_h.out.snoc (w1 := wr.alloc (.cells #[.slice (some G) N N] 37)) (below_trans hbr_h.out hal hbr_h.out.size) (x := (some G, N, pB a1 a2 b1 b2 u)) (hi3_h.out.below hal) (fun b hb hb' => by
                have h1 := hO_h.out.sl.lt b hb'
                have h2 := hG_h.out
                obtain rfl : b = G.block := by simpa using hb
                omega) (by rw [hyl_h.out]) (by show Sl w3 _ 1 A3 (q1 + 1) c3 (ys.map Hd.val ++ [.slice (some G) (pB a1 a2 b1 b2 u).length N]); rw [hpl_h.out]; exact hsA3) hA3 hkA3
              clear hsA3 hA3 hkA3
              have hO2_h := Lib.hid hO2
              clear hO2
              go_roundw
              case rel => exact ⟨k + 1, A3, c3, ys ++ [(some G, N, pB a1 a2 b1 b2 u)], q1 + 1, by omega, by go_num, by have := hq0_h.out; omega, rfl, by rw [List.length_append, hyl_h.out]; rfl, by rw [List.map_append, hym_h.out, List.take_add_one, hyL_h.out]; simp, hO2_h.out⟩
              case measure => simp [intOf]; omega
        · obtain rfl : mb = k := by omega
          have hym2 : ys.map (fun h : Hd => h.2.2) = X := by rw [hym, List.take_of_length_le (by rw [hLmb_h.out]; exact Nat.le_refl _), hX_h.out]
          have hC := rlOf_any p (lf : Int) (rt : Int) N A' c' ys wr hO.rdr hflda_h.out (by have := hNI_h.out; omega) (by rw [hym2]; have := hmat_h.out; rwa [show X.length = ys.length by rw [← hym2, List.length_map]] at this) (by omega) (by omega)
          rw [hym2, ← hR_h.out, hyl] at hC
          have k2r := box_below k2_h.out hO.below_
          have hBr := below_trans hBd_h.out hO.below_ hBd_h.out.size
          have hzr := hO.below_.size
          clear hym hym2 hyl hO
          have hC_h := Lib.hid hC
          have k2r_h := Lib.hid k2r
          have hBr_h := Lib.hid hBr
          have k0r_h := Lib.hid k0r
          have k1r_h := Lib.hid k1r
          have hq0_h := Lib.hid hq0
          clear hC k2r hBr k0r k1r hq0
          go_wp2_with (fail)
          refine (hC_h.out).mono ?_
          rintro e w1 ⟨v1, fp1, rfl, hO1, hf1, hb1⟩
          obtain ⟨A1, n1, c1', rfl⟩ := hO1.shape
          have k2' := box_below k2r_h.out hb1
          have hB1 := below_trans hBr_h.out hb1 hBr_h.out.size
          obtain ⟨⟨d0, d1, d2⟩, g0, g1, g2⟩ := box3 k2'
          obtain ⟨s1, s2⟩ := set3 (a := .int .i64 (lf : Int)) (b := .int .i64 (rt : Int)) (c := .slice A1 n1 c1') k2'
          have hB3 := below_keeps hB1 s2 hB1.size (fun k hk => by omega)
          have hBs := hBr_h.out.size
          have hO3 := hO1.keeps s2 (fun k hk e => by have := hf1 k hk; omega)
          have hf3 := hf1.mono hBs
          clear k2' hB1 hO1 hf1
          have s1_h := Lib.hid s1
          have s2_h := Lib.hid s2
          have hO3_h := Lib.hid hO3
          have hf3_h := Lib.hid hf3
          have hB3_h := Lib.hid hB3
          clear s1 s2 hO3 hf3 hB3
          go_wp2_with (fail)
          refine bodyPost_ret (results_cell_row rfl _ _ (w.heap.size + 1 + 1) _ _ (0, 0) _ rfl s1_h.out Tryd.underlying51 rfl (by kernel_rfl)) rfl ?_
          exact ⟨_, fp1, rfl, hO3_h.out, hf3_h.out, hB3_h.out⟩
set_option maxRecDepth 8000 in
set_option maxHeartbeats 2000000 in
theorem tensor1_any (ga gb a1 a2 b1 b2 : Nat) (U V : Value) (hU : U.oneCell' = true) (_hV : V.oneCell' = true) (B : Option Addr) (d n : Nat) (u : List Int) (w : World) (h : Sl w 3 1 B n d (ints u)) (hn : n = a1 + a2) (hn2 : a1 + a2 + b1 + b2 ≤ 1000) (hga : w.heap[ga]? = some (.cells #[.int .i64 a1, .int .i64 a2, U] tRel)) (hgb : w.heap[gb]? = some (.cells #[.int .i64 b1, .int .i64 b2, V] tRel)) :
    Calls Tryd.prog 142 #[.slice B n d, .pointer (some ⟨ga, 0, none⟩), .pointer (some ⟨gb, 0, none⟩)] w (RetI w (pA a1 a2 b1 b2 u)) := by
  have hul : u.length = n := by have := h.1; rw [ints_length] at this; omega
  have hres := pA_join (a1 := a1) (a2 := a2) (b1 := b1) (b2 := b2) (u := u) (by omega)
  have hl1 : (u.take a1).length = a1 := by rw [List.length_take]; omega
  have hl2 : (u.drop a1).length = a2 := by rw [List.length_drop]; omega
  have hF := And.intro hga hgb
  clear hga hgb
  have hn_h := Lib.hid hn
  have hF_h := Lib.hid hF
  have h_h := Lib.hid h
  have hul_h := Lib.hid hul
  have hl1_h := Lib.hid hl1
  have hl2_h := Lib.hid hl2
  have hres_h := Lib.hid hres
  clear hn hF h hul hl1 hl2 hres
  go_enter Tryd.func142, Tryd.ntmps142
  go_wp2_with (fail)
  have hbd : Below w.heap.size w w.drew := below_drewN (Below.refl _ _) 1
  refine beginH (fun w' => w'.heap[ga]? = some (.cells #[.int .i64 a1, .int .i64 a2, U] tRel) ∧ w'.heap[gb]? = some (.cells #[.int .i64 b1, .int .i64 b2, V] tRel)) (by kernel_rfl) ?_
  generalize w.drew = W0 at hbd ⊢
  have hF0 := And.intro (box_below hF_h.out.1 hbd) (box_below hF_h.out.2 hbd)
  have h0 := h_h.out.below hbd
  have hB0 := hbd
  clear hF_h h_h hbd
  have hF0_h := Lib.hid hF0
  have h0_h := Lib.hid h0
  have hB0_h := Lib.hid hB0
  clear hF0 h0 hB0
  refine takeH 0 (v := ?_) rfl (by kernel_rfl) (by kernel_rfl) (by kernel_rfl) (fun _ _ _ h => h) hF0_h.out (by rfl) (fun W' hW' => ?_) ?_; rotate_left; · (obtain ⟨⟨y0, y1, y2⟩, y3, y4, y5⟩ := box3 hW'.1; obtain ⟨⟨x0, x1, x2⟩, x3, x4, x5⟩ := box3 hW'.2; clear hW'; go_simp; first | done | with_reducible rfl)
  simp only [Act.put, List.setIfInBounds_toArray, List.set_cons_zero, List.set_cons_succ]
  refine takeH 1 (v := ?_) rfl (by kernel_rfl) (by kernel_rfl) (by kernel_rfl) (fun _ _ _ h => h) hF0_h.out (by rfl) (fun W' hW' => ?_) ?_; rotate_left; · (obtain ⟨⟨y0, y1, y2⟩, y3, y4, y5⟩ := box3 hW'.1; obtain ⟨⟨x0, x1, x2⟩, x3, x4, x5⟩ := box3 hW'.2; clear hW'; go_simp; first | done | with_reducible rfl)
  simp only [Act.put, List.setIfInBounds_toArray, List.set_cons_zero, List.set_cons_succ]
  refine takeH 3 (v := ?_) rfl (by kernel_rfl) (by kernel_rfl) (by kernel_rfl) (fun _ _ _ h => h) hF0_h.out (by rfl) (fun W' hW' => ?_) ?_; rotate_left; · (obtain ⟨⟨y0, y1, y2⟩, y3, y4, y5⟩ := box3 hW'.1; obtain ⟨⟨x0, x1, x2⟩, x3, x4, x5⟩ := box3 hW'.2; clear hW'; go_simp; first | done | with_reducible rfl)
  simp only [Act.put, List.setIfInBounds_toArray, List.set_cons_zero, List.set_cons_succ]
  refine takeH 4 (v := ?_) rfl (by kernel_rfl) (by kernel_rfl) (by kernel_rfl) (fun _ _ _ h => h) hF0_h.out (by rfl) (fun W' hW' => ?_) ?_; rotate_left; · (obtain ⟨⟨y0, y1, y2⟩, y3, y4, y5⟩ := box3 hW'.1; obtain ⟨⟨x0, x1, x2⟩, x3, x4, x5⟩ := box3 hW'.2; clear hW'; go_simp; first | done | with_reducible rfl)
  simp only [Act.put, List.setIfInBounds_toArray, List.set_cons_zero, List.set_cons_succ]
  refine takeH 6 (v := ?_) rfl (by kernel_rfl) (by kernel_rfl) (by kernel_rfl) (fun _ _ _ h => h) hF0_h.out (by rfl) (fun W' hW' => ?_) ?_; rotate_left; · (obtain ⟨⟨y0, y1, y2⟩, y3, y4, y5⟩ := box3 hW'.1; obtain ⟨⟨x0, x1, x2⟩, x3, x4, x5⟩ := box3 hW'.2; clear hW'; go_simp; first | done | with_reducible rfl)
  simp only [Act.put, List.setIfInBounds_toArray, List.set_cons_zero, List.set_cons_succ]
  refine takeH 7 (v := ?_) rfl (by kernel_rfl) (by kernel_rfl) (by kernel_rfl) (fun _ _ _ h => h) hF0_h.out (by rfl) (fun W' hW' => ?_) ?_; rotate_left; · (obtain ⟨⟨y0, y1, y2⟩, y3, y4, y5⟩ := box3 hW'.1; obtain ⟨⟨x0, x1, x2⟩, x3, x4, x5⟩ := box3 hW'.2; clear hW'; go_simp; first | done | with_reducible rfl)
  simp only [Act.put, List.setIfInBounds_toArray, List.set_cons_zero, List.set_cons_succ]
  refine takeH 9 (v := ?_) rfl (by kernel_rfl) (by kernel_rfl) (by kernel_rfl) (fun _ _ _ h => h) hF0_h.out (by rfl) (fun W' hW' => ?_) ?_; rotate_left; · (obtain ⟨⟨y0, y1, y2⟩, y3, y4, y5⟩ := box3 hW'.1; obtain ⟨⟨x0, x1, x2⟩, x3, x4, x5⟩ := box3 hW'.2; clear hW'; go_simp; first | done | with_reducible rfl)
  simp only [Act.put, List.setIfInBounds_toArray, List.set_cons_zero, List.set_cons_succ]
  refine takeH 10 (v := ?_) rfl (by kernel_rfl) (by kernel_rfl) (by kernel_rfl) (fun _ _ _ h => h) hF0_h.out (by rfl) (fun W' hW' => ?_) ?_; rotate_left; · (obtain ⟨⟨y0, y1, y2⟩, y3, y4, y5⟩ := box3 hW'.1; obtain ⟨⟨x0, x1, x2⟩, x3, x4, x5⟩ := box3 hW'.2; clear hW'; go_simp; first | done | with_reducible rfl)
  simp only [Act.put, List.setIfInBounds_toArray, List.set_cons_zero, List.set_cons_succ]
  refine' callH 2 (f := _) (args := _) rfl (by kernel_rfl) (by rfl) ?_ ?_; rotate_left 2; · (go_simp; first | done | with_reducible rfl | (constructor <;> with_reducible rfl))
  refine (first_any a1 (a2 : Int) U hU B d n u W0 h0_h.out (by have := hn_h.out; omega)).mono ?_
  rintro e W1 ⟨B0, rfl, hi0, hf0, hb0⟩
  have hF1 := And.intro (box_below hF0_h.out.1 hb0) (box_below hF0_h.out.2 hb0)
  refine ⟨_, rfl, hF1, ?_⟩
  simp only [Act.put, List.setIfInBounds_toArray, List.set_cons_zero, List.set_cons_succ]
  have h1 := h0_h.out.below hb0
  have hB1 := below_trans hB0_h.out hb0 hB0_h.out.size
  clear hf0 hb0
  have hF1_h := Lib.hid hF1
  have h1_h := Lib.hid h1
  have hB1_h := Lib.hid hB1
  have hi0_h := Lib.hid hi0
  clear hF1 h1 hB1 hi0
  refine' callH 5 (f := _) (args := _) rfl (by kernel_rfl) (by rfl) ?_ ?_; rotate_left 2; · (go_simp; first | done | with_reducible rfl | (constructor <;> with_reducible rfl))
  refine (zeros_any b1 W1 (by omega)).mono ?_
  rintro e W2 ⟨B1, c1, rfl, hi1, hf1, hb1⟩
  rw [List.length_replicate]
  have hF2 := And.intro (box_below hF1_h.out.1 hb1) (box_below hF1_h.out.2 hb1)
  refine ⟨_, rfl, hF2, ?_⟩
  simp only [Act.put, List.setIfInBounds_toArray, List.set_cons_zero, List.set_cons_succ]
  have h2 := h1_h.out.below hb1
  have hB2 := below_trans hB1_h.out hb1 hB1_h.out.size
  have hi0 := hi0_h.out.below hb1
  clear hi0_h
  clear hf1 hb1
  have hF2_h := Lib.hid hF2
  have h2_h := Lib.hid h2
  have hB2_h := Lib.hid hB2
  have hi0_h := Lib.hid hi0
  have hi1_h := Lib.hid hi1
  clear hF2 h2 hB2 hi0 hi1
  refine' callH 8 (f := _) (args := _) rfl (by kernel_rfl) (by rfl) ?_ ?_; rotate_left 2; · (go_simp; first | done | with_reducible rfl | (constructor <;> with_reducible rfl))
  refine (second_any a1 (a2 : Int) U hU B d n a2 u W2 h2_h.out (by have := hn_h.out; omega)).mono ?_
  rintro e W3 ⟨B2, c2, rfl, hi2, hf2, hb2⟩
  have hF3 := And.intro (box_below hF2_h.out.1 hb2) (box_below hF2_h.out.2 hb2)
  refine ⟨_, rfl, hF3, ?_⟩
  simp only [Act.put, List.setIfInBounds_toArray, List.set_cons_zero, List.set_cons_succ]
  have h3 := h2_h.out.below hb2
  have hB3 := below_trans hB2_h.out hb2 hB2_h.out.size
  have hi0 := hi0_h.out.below hb2
  clear hi0_h
  have hi1 := hi1_h.out.below hb2
  clear hi1_h
  clear hf2 hb2
  have hF3_h := Lib.hid hF3
  have h3_h := Lib.hid h3
  have hB3_h := Lib.hid hB3
  have hi0_h := Lib.hid hi0
  have hi1_h := Lib.hid hi1
  have hi2_h := Lib.hid hi2
  clear hF3 h3 hB3 hi0 hi1 hi2
  refine' callH 11 (f := _) (args := _) rfl (by kernel_rfl) (by rfl) ?_ ?_; rotate_left 2; · (go_simp; first | done | with_reducible rfl | (constructor <;> with_reducible rfl))
  refine (zeros_any b2 W3 (by omega)).mono ?_
  rintro e W4 ⟨B3, c3, rfl, hi3, hf3, hb3⟩
  rw [List.length_replicate]
  have hF4 := And.intro (box_below hF3_h.out.1 hb3) (box_below hF3_h.out.2 hb3)
  refine ⟨_, rfl, hF4, ?_⟩
  simp only [Act.put, List.setIfInBounds_toArray, List.set_cons_zero, List.set_cons_succ]
  have h4 := h3_h.out.below hb3
  have hB4 := below_trans hB3_h.out hb3 hB3_h.out.size
  have hi0 := hi0_h.out.below hb3
  clear hi0_h
  have hi1 := hi1_h.out.below hb3
  clear hi1_h
  have hi2 := hi2_h.out.below hb3
  clear hi2_h
  clear hf3 hb3
  have hF4_h := Lib.hid hF4
  have h4_h := Lib.hid h4
  have hB4_h := Lib.hid hB4
  have hi0_h := Lib.hid hi0
  have hi1_h := Lib.hid hi1
  have hi2_h := Lib.hid hi2
  have hi3_h := Lib.hid hi3
  clear hF4 h4 hB4 hi0 hi1 hi2 hi3
  have hr0 : RdI W4 B0 (u.take a1) := fun j x hj => by
    obtain ⟨ad, hA, _, hc, _⟩ := hi0_h.out.cell (ints_get hj)
    exact ⟨ad, hA, hc⟩
  have hr1 : RdI W4 B1 (List.replicate b1 0) := hi1_h.out.rd
  have hr2 : RdI W4 B2 (u.drop a1) := fun j x hj => by
    obtain ⟨ad, hA, _, hc, _⟩ := hi2_h.out.cell (ints_get hj)
    exact ⟨ad, hA, hc⟩
  have hr3 : RdI W4 B3 (List.replicate b2 0) := hi3_h.out.rd
  have hlr := laid_rdr (w := W4) [(B0, d, u.take a1), (B1, c1, List.replicate b1 0), (B2, c2, u.drop a1), (B3, c3, List.replicate b2 0)] (fun x hx => by
    simp only [List.mem_cons, List.not_mem_nil, or_false] at hx
    rcases hx with rfl | rfl | rfl | rfl
    · exact hr0
    · exact hr1
    · exact hr2
    · exact hr3) (by unfold maxLen; simp)
  have e : (([(B0, d, u.take a1), (B1, c1, List.replicate b1 0), (B2, c2, u.drop a1), (B3, c3, List.replicate b2 0)] : List Hd).map Hd.val).toArray = #[.slice B0 a1 d, .slice B1 b1 c1, .slice B2 a2 c2, .slice B3 b2 c3] := by
    simp [Hd.val, hl1_h.out, hl2_h.out]
  rw [e] at hlr
  have hFn := And.intro (box_below hF4_h.out.1 (below_alloc W4 (.cells #[.slice B0 a1 d, .slice B1 b1 c1, .slice B2 a2 c2, .slice B3 b2 c3] 37))) (box_below hF4_h.out.2 (below_alloc W4 (.cells #[.slice B0 a1 d, .slice B1 b1 c1, .slice B2 a2 c2, .slice B3 b2 c3] 37)))
  have e2 : (([(B0, d, u.take a1), (B1, c1, List.replicate b1 0), (B2, c2, u.drop a1), (B3, c3, List.replicate b2 0)] : List Hd).map fun h : Hd => h.2.2).flatten = pA a1 a2 b1 b2 u := by rw [hres_h.out]; simp
  have hJ := joined_any (some ⟨W4.heap.size, 0, none⟩) 4 [(B0, d, u.take a1), (B1, c1, List.replicate b1 0), (B2, c2, u.drop a1), (B3, c3, List.replicate b2 0)] _ hlr (by simp) (by rw [e2, hres_h.out]; simp only [List.length_append, List.length_replicate, hl1_h.out, hl2_h.out]; omega)
  rw [e2] at hJ
  have hBn := below_trans hB4_h.out (below_alloc W4 (.cells #[.slice B0 a1 d, .slice B1 b1 c1, .slice B2 a2 c2, .slice B3 b2 c3] 37)) hB4_h.out.size
  clear hlr e e2 hr0 hr1 hr2 hr3
  have hFn_h := Lib.hid hFn
  have hJ_h := Lib.hid hJ
  have hBn_h := Lib.hid hBn
  clear hFn hJ hBn
  refine oneH 12 rfl (by kernel_rfl) (by rfl) (fun K hK => ?_)
  go_simp
  refine hK _ _ hFn_h.out ?_
  clear hK K
  refine' callH 13 (f := _) (args := _) rfl (by kernel_rfl) (by rfl) ?_ ?_; rotate_left 2; · (go_simp; first | done | with_reducible rfl | (constructor <;> with_reducible rfl))
  refine (hJ_h.out).mono ?_
  rintro e w4 ⟨A4, c4, rfl, hi4, hf4, hb4⟩
  have hFm := And.intro (box_below hFn_h.out.1 hb4) (box_below hFn_h.out.2 hb4)
  refine ⟨_, rfl, hFm, ?_⟩
  simp only [Act.put, List.setIfInBounds_toArray, List.set_cons_zero, List.set_cons_succ]
  have hret : RetI w (pA a1 a2 b1 b2 u) (.returned (.slice A4 (pA a1 a2 b1 b2 u).length c4)) w4 := ⟨A4, c4, rfl, hi4, hf4.mono hBn_h.out.size, below_trans hBn_h.out hb4 hBn_h.out.size⟩
  clear hi4 hf4 hb4
  have hret_h := Lib.hid hret
  have hFm_h := Lib.hid hFm
  clear hret hFm
  refine takeH 14 (v := ?_) rfl (by kernel_rfl) (by kernel_rfl) (by kernel_rfl) (fun _ _ _ h => h) hFm_h.out (by rfl) (fun W' hW' => ?_) ?_; rotate_left; · (skip; clear hW'; go_simp; first | done | with_reducible rfl)
  simp only [Act.put, List.setIfInBounds_toArray, List.set_cons_zero, List.set_cons_succ]
  refine doneH (by kernel_rfl) ?_
  go_wp2_with (fail)
  go_ret
  exact hret_h.out
set_option maxRecDepth 8000 in
set_option maxHeartbeats 2000000 in
theorem tensor2_any (ga gb a1 a2 b1 b2 : Nat) (U V : Value) (_hU : U.oneCell' = true) (hV : V.oneCell' = true) (B : Option Addr) (d n : Nat) (u : List Int) (w : World) (h : Sl w 3 1 B n d (ints u)) (hn : n = b1 + b2) (hn2 : a1 + a2 + b1 + b2 ≤ 1000) (hga : w.heap[ga]? = some (.cells #[.int .i64 a1, .int .i64 a2, U] tRel)) (hgb : w.heap[gb]? = some (.cells #[.int .i64 b1, .int .i64 b2, V] tRel)) :
    Calls Tryd.prog 143 #[.slice B n d, .pointer (some ⟨ga, 0, none⟩), .pointer (some ⟨gb, 0, none⟩)] w (RetI w (pB a1 a2 b1 b2 u)) := by
  have hul : u.length = n := by have := h.1; rw [ints_length] at this; omega
  have hres := pB_join (a1 := a1) (a2 := a2) (b1 := b1) (b2 := b2) (u := u) (by omega)
  have hl1 : (u.take b1).length = b1 := by rw [List.length_take]; omega
  have hl2 : (u.drop b1).length = b2 := by rw [List.length_drop]; omega
  have hF := And.intro hga hgb
  clear hga hgb
  have hn_h := Lib.hid hn
  have hF_h := Lib.hid hF
  have h_h := Lib.hid h
  have hul_h := Lib.hid hul
  have hl1_h := Lib.hid hl1
  have hl2_h := Lib.hid hl2
  have hres_h := Lib.hid hres
  clear hn hF h hul hl1 hl2 hres
  go_enter Tryd.func143, Tryd.ntmps143
  go_wp2_with (fail)
  have hbd : Below w.heap.size w w.drew := below_drewN (Below.refl _ _) 1
  refine beginH (fun w' => w'.heap[ga]? = some (.cells #[.int .i64 a1, .int .i64 a2, U] tRel) ∧ w'.heap[gb]? = some (.cells #[.int .i64 b1, .int .i64 b2, V] tRel)) (by kernel_rfl) ?_
  generalize w.drew = W0 at hbd ⊢
  have hF0 := And.intro (box_below hF_h.out.1 hbd) (box_below hF_h.out.2 hbd)
  have h0 := h_h.out.below hbd
  have hB0 := hbd
  clear hF_h h_h hbd
  have hF0_h := Lib.hid hF0
  have h0_h := Lib.hid h0
  have hB0_h := Lib.hid hB0
  clear hF0 h0 hB0
  refine takeH 0 (v := ?_) rfl (by kernel_rfl) (by kernel_rfl) (by kernel_rfl) (fun _ _ _ h => h) hF0_h.out (by rfl) (fun W' hW' => ?_) ?_; rotate_left; · (obtain ⟨⟨y0, y1, y2⟩, y3, y4, y5⟩ := box3 hW'.1; obtain ⟨⟨x0, x1, x2⟩, x3, x4, x5⟩ := box3 hW'.2; clear hW'; go_simp; first | done | with_reducible rfl)
  simp only [Act.put, List.setIfInBounds_toArray, List.set_cons_zero, List.set_cons_succ]
  refine takeH 1 (v := ?_) rfl (by kernel_rfl) (by kernel_rfl) (by kernel_rfl) (fun _ _ _ h => h) hF0_h.out (by rfl) (fun W' hW' => ?_) ?_; rotate_left; · (obtain ⟨⟨y0, y1, y2⟩, y3, y4, y5⟩ := box3 hW'.1; obtain ⟨⟨x0, x1, x2⟩, x3, x4, x5⟩ := box3 hW'.2; clear hW'; go_simp; first | done | with_reducible rfl)
  simp only [Act.put, List.setIfInBounds_toArray, List.set_cons_zero, List.set_cons_succ]
  refine takeH 3 (v := ?_) rfl (by kernel_rfl) (by kernel_rfl) (by kernel_rfl) (fun _ _ _ h => h) hF0_h.out (by rfl) (fun W' hW' => ?_) ?_; rotate_left; · (obtain ⟨⟨y0, y1, y2⟩, y3, y4, y5⟩ := box3 hW'.1; obtain ⟨⟨x0, x1, x2⟩, x3, x4, x5⟩ := box3 hW'.2; clear hW'; go_simp; first | done | with_reducible rfl)
  simp only [Act.put, List.setIfInBounds_toArray, List.set_cons_zero, List.set_cons_succ]
  refine takeH 4 (v := ?_) rfl (by kernel_rfl) (by kernel_rfl) (by kernel_rfl) (fun _ _ _ h => h) hF0_h.out (by rfl) (fun W' hW' => ?_) ?_; rotate_left; · (obtain ⟨⟨y0, y1, y2⟩, y3, y4, y5⟩ := box3 hW'.1; obtain ⟨⟨x0, x1, x2⟩, x3, x4, x5⟩ := box3 hW'.2; clear hW'; go_simp; first | done | with_reducible rfl)
  simp only [Act.put, List.setIfInBounds_toArray, List.set_cons_zero, List.set_cons_succ]
  refine takeH 6 (v := ?_) rfl (by kernel_rfl) (by kernel_rfl) (by kernel_rfl) (fun _ _ _ h => h) hF0_h.out (by rfl) (fun W' hW' => ?_) ?_; rotate_left; · (obtain ⟨⟨y0, y1, y2⟩, y3, y4, y5⟩ := box3 hW'.1; obtain ⟨⟨x0, x1, x2⟩, x3, x4, x5⟩ := box3 hW'.2; clear hW'; go_simp; first | done | with_reducible rfl)
  simp only [Act.put, List.setIfInBounds_toArray, List.set_cons_zero, List.set_cons_succ]
  refine takeH 7 (v := ?_) rfl (by kernel_rfl) (by kernel_rfl) (by kernel_rfl) (fun _ _ _ h => h) hF0_h.out (by rfl) (fun W' hW' => ?_) ?_; rotate_left; · (obtain ⟨⟨y0, y1, y2⟩, y3, y4, y5⟩ := box3 hW'.1; obtain ⟨⟨x0, x1, x2⟩, x3, x4, x5⟩ := box3 hW'.2; clear hW'; go_simp; first | done | with_reducible rfl)
  simp only [Act.put, List.setIfInBounds_toArray, List.set_cons_zero, List.set_cons_succ]
  refine takeH 9 (v := ?_) rfl (by kernel_rfl) (by kernel_rfl) (by kernel_rfl) (fun _ _ _ h => h) hF0_h.out (by rfl) (fun W' hW' => ?_) ?_; rotate_left; · (obtain ⟨⟨y0, y1, y2⟩, y3, y4, y5⟩ := box3 hW'.1; obtain ⟨⟨x0, x1, x2⟩, x3, x4, x5⟩ := box3 hW'.2; clear hW'; go_simp; first | done | with_reducible rfl)
  simp only [Act.put, List.setIfInBounds_toArray, List.set_cons_zero, List.set_cons_succ]
  refine takeH 10 (v := ?_) rfl (by kernel_rfl) (by kernel_rfl) (by kernel_rfl) (fun _ _ _ h => h) hF0_h.out (by rfl) (fun W' hW' => ?_) ?_; rotate_left; · (obtain ⟨⟨y0, y1, y2⟩, y3, y4, y5⟩ := box3 hW'.1; obtain ⟨⟨x0, x1, x2⟩, x3, x4, x5⟩ := box3 hW'.2; clear hW'; go_simp; first | done | with_reducible rfl)
  simp only [Act.put, List.setIfInBounds_toArray, List.set_cons_zero, List.set_cons_succ]
  refine' callH 2 (f := _) (args := _) rfl (by kernel_rfl) (by rfl) ?_ ?_; rotate_left 2; · (go_simp; first | done | with_reducible rfl | (constructor <;> with_reducible rfl))
  refine (zeros_any a1 W0 (by omega)).mono ?_
  rintro e W1 ⟨B0, c0, rfl, hi0, hf0, hb0⟩
  rw [List.length_replicate]
  have hF1 := And.intro (box_below hF0_h.out.1 hb0) (box_below hF0_h.out.2 hb0)
  refine ⟨_, rfl, hF1, ?_⟩
  simp only [Act.put, List.setIfInBounds_toArray, List.set_cons_zero, List.set_cons_succ]
  have h1 := h0_h.out.below hb0
  have hB1 := below_trans hB0_h.out hb0 hB0_h.out.size
  clear hf0 hb0
  have hF1_h := Lib.hid hF1
  have h1_h := Lib.hid h1
  have hB1_h := Lib.hid hB1
  have hi0_h := Lib.hid hi0
  clear hF1 h1 hB1 hi0
  refine' callH 5 (f := _) (args := _) rfl (by kernel_rfl) (by rfl) ?_ ?_; rotate_left 2; · (go_simp; first | done | with_reducible rfl | (constructor <;> with_reducible rfl))
  refine (first_any b1 (b2 : Int) V hV B d n u W1 h1_h.out (by have := hn_h.out; omega)).mono ?_
  rintro e W2 ⟨B1, rfl, hi1, hf1, hb1⟩
  have hF2 := And.intro (box_below hF1_h.out.1 hb1) (box_below hF1_h.out.2 hb1)
  refine ⟨_, rfl, hF2, ?_⟩
  simp only [Act.put, List.setIfInBounds_toArray, List.set_cons_zero, List.set_cons_succ]
  have h2 := h1_h.out.below hb1
  have hB2 := below_trans hB1_h.out hb1 hB1_h.out.size
  have hi0 := hi0_h.out.below hb1
  clear hi0_h
  clear hf1 hb1
  have hF2_h := Lib.hid hF2
  have h2_h := Lib.hid h2
  have hB2_h := Lib.hid hB2
  have hi0_h := Lib.hid hi0
  have hi1_h := Lib.hid hi1
  clear hF2 h2 hB2 hi0 hi1
  refine' callH 8 (f := _) (args := _) rfl (by kernel_rfl) (by rfl) ?_ ?_; rotate_left 2; · (go_simp; first | done | with_reducible rfl | (constructor <;> with_reducible rfl))
  refine (zeros_any a2 W2 (by omega)).mono ?_
  rintro e W3 ⟨B2, c2, rfl, hi2, hf2, hb2⟩
  rw [List.length_replicate]
  have hF3 := And.intro (box_below hF2_h.out.1 hb2) (box_below hF2_h.out.2 hb2)
  refine ⟨_, rfl, hF3, ?_⟩
  simp only [Act.put, List.setIfInBounds_toArray, List.set_cons_zero, List.set_cons_succ]
  have h3 := h2_h.out.below hb2
  have hB3 := below_trans hB2_h.out hb2 hB2_h.out.size
  have hi0 := hi0_h.out.below hb2
  clear hi0_h
  have hi1 := hi1_h.out.below hb2
  clear hi1_h
  clear hf2 hb2
  have hF3_h := Lib.hid hF3
  have h3_h := Lib.hid h3
  have hB3_h := Lib.hid hB3
  have hi0_h := Lib.hid hi0
  have hi1_h := Lib.hid hi1
  have hi2_h := Lib.hid hi2
  clear hF3 h3 hB3 hi0 hi1 hi2
  refine' callH 11 (f := _) (args := _) rfl (by kernel_rfl) (by rfl) ?_ ?_; rotate_left 2; · (go_simp; first | done | with_reducible rfl | (constructor <;> with_reducible rfl))
  refine (second_any b1 (b2 : Int) V hV B d n b2 u W3 h3_h.out (by have := hn_h.out; omega)).mono ?_
  rintro e W4 ⟨B3, c3, rfl, hi3, hf3, hb3⟩
  have hF4 := And.intro (box_below hF3_h.out.1 hb3) (box_below hF3_h.out.2 hb3)
  refine ⟨_, rfl, hF4, ?_⟩
  simp only [Act.put, List.setIfInBounds_toArray, List.set_cons_zero, List.set_cons_succ]
  have h4 := h3_h.out.below hb3
  have hB4 := below_trans hB3_h.out hb3 hB3_h.out.size
  have hi0 := hi0_h.out.below hb3
  clear hi0_h
  have hi1 := hi1_h.out.below hb3
  clear hi1_h
  have hi2 := hi2_h.out.below hb3
  clear hi2_h
  clear hf3 hb3
  have hF4_h := Lib.hid hF4
  have h4_h := Lib.hid h4
  have hB4_h := Lib.hid hB4
  have hi0_h := Lib.hid hi0
  have hi1_h := Lib.hid hi1
  have hi2_h := Lib.hid hi2
  have hi3_h := Lib.hid hi3
  clear hF4 h4 hB4 hi0 hi1 hi2 hi3
  have hr0 : RdI W4 B0 (List.replicate a1 0) := hi0_h.out.rd
  have hr1 : RdI W4 B1 (u.take b1) := fun j x hj => by
    obtain ⟨ad, hA, _, hc, _⟩ := hi1_h.out.cell (ints_get hj)
    exact ⟨ad, hA, hc⟩
  have hr2 : RdI W4 B2 (List.replicate a2 0) := hi2_h.out.rd
  have hr3 : RdI W4 B3 (u.drop b1) := fun j x hj => by
    obtain ⟨ad, hA, _, hc, _⟩ := hi3_h.out.cell (ints_get hj)
    exact ⟨ad, hA, hc⟩
  have hlr := laid_rdr (w := W4) [(B0, c0, List.replicate a1 0), (B1, d, u.take b1), (B2, c2, List.replicate a2 0), (B3, c3, u.drop b1)] (fun x hx => by
    simp only [List.mem_cons, List.not_mem_nil, or_false] at hx
    rcases hx with rfl | rfl | rfl | rfl
    · exact hr0
    · exact hr1
    · exact hr2
    · exact hr3) (by unfold maxLen; simp)
  have e : (([(B0, c0, List.replicate a1 0), (B1, d, u.take b1), (B2, c2, List.replicate a2 0), (B3, c3, u.drop b1)] : List Hd).map Hd.val).toArray = #[.slice B0 a1 c0, .slice B1 b1 d, .slice B2 a2 c2, .slice B3 b2 c3] := by
    simp [Hd.val, hl1_h.out, hl2_h.out]
  rw [e] at hlr
  have hFn := And.intro (box_below hF4_h.out.1 (below_alloc W4 (.cells #[.slice B0 a1 c0, .slice B1 b1 d, .slice B2 a2 c2, .slice B3 b2 c3] 37))) (box_below hF4_h.out.2 (below_alloc W4 (.cells #[.slice B0 a1 c0, .slice B1 b1 d, .slice B2 a2 c2, .slice B3 b2 c3] 37)))
  have e2 : (([(B0, c0, List.replicate a1 0), (B1, d, u.take b1), (B2, c2, List.replicate a2 0), (B3, c3, u.drop b1)] : List Hd).map fun h : Hd => h.2.2).flatten = pB a1 a2 b1 b2 u := by rw [hres_h.out]; simp
  have hJ := joined_any (some ⟨W4.heap.size, 0, none⟩) 4 [(B0, c0, List.replicate a1 0), (B1, d, u.take b1), (B2, c2, List.replicate a2 0), (B3, c3, u.drop b1)] _ hlr (by simp) (by rw [e2, hres_h.out]; simp only [List.length_append, List.length_replicate, hl1_h.out, hl2_h.out]; omega)
  rw [e2] at hJ
  have hBn := below_trans hB4_h.out (below_alloc W4 (.cells #[.slice B0 a1 c0, .slice B1 b1 d, .slice B2 a2 c2, .slice B3 b2 c3] 37)) hB4_h.out.size
  clear hlr e e2 hr0 hr1 hr2 hr3
  have hFn_h := Lib.hid hFn
  have hJ_h := Lib.hid hJ
  have hBn_h := Lib.hid hBn
  clear hFn hJ hBn
  refine oneH 12 rfl (by kernel_rfl) (by rfl) (fun K hK => ?_)
  go_simp
  refine hK _ _ hFn_h.out ?_
  clear hK K
  refine' callH 13 (f := _) (args := _) rfl (by kernel_rfl) (by rfl) ?_ ?_; rotate_left 2; · (go_simp; first | done | with_reducible rfl | (constructor <;> with_reducible rfl))
  refine (hJ_h.out).mono ?_
  rintro e w4 ⟨A4, c4, rfl, hi4, hf4, hb4⟩
  have hFm := And.intro (box_below hFn_h.out.1 hb4) (box_below hFn_h.out.2 hb4)
  refine ⟨_, rfl, hFm, ?_⟩
  simp only [Act.put, List.setIfInBounds_toArray, List.set_cons_zero, List.set_cons_succ]
  have hret : RetI w (pB a1 a2 b1 b2 u) (.returned (.slice A4 (pB a1 a2 b1 b2 u).length c4)) w4 := ⟨A4, c4, rfl, hi4, hf4.mono hBn_h.out.size, below_trans hBn_h.out hb4 hBn_h.out.size⟩
  clear hi4 hf4 hb4
  have hret_h := Lib.hid hret
  have hFm_h := Lib.hid hFm
  clear hret hFm
  refine takeH 14 (v := ?_) rfl (by kernel_rfl) (by kernel_rfl) (by kernel_rfl) (fun _ _ _ h => h) hFm_h.out (by rfl) (fun W' hW' => ?_) ?_; rotate_left; · (skip; clear hW'; go_simp; first | done | with_reducible rfl)
  simp only [Act.put, List.setIfInBounds_toArray, List.set_cons_zero, List.set_cons_succ]
  refine doneH (by kernel_rfl) ?_
  go_wp2_with (fail)
  go_ret
  exact hret_h.out

set_option maxRecDepth 8000 in
set_option maxHeartbeats 1000000 in
theorem each2_any (F : FuncId) (first cap : Array Value) (g : List Int → List Int) (a b : Int) (A : Option Addr) (c : Nat) (hs : List Hd) (w : World) (hR : RdR w A hs) (hI : ∀ x, x ∈ hs → IS w x.1 x.2.1 x.2.2) (hl : hs.length ≤ 1048576) (hE : ∀ (args : Array Value) (w : World), (callFunc F args).run Tryd.prog w = .ok (.enter F args) w)
    (hF : ∀ x, x ∈ hs → ∀ W', Below w.heap.size w W' → Calls Tryd.prog F (first.push (.slice x.1 x.2.2.length x.2.1) ++ cap) W' fun e w'' => ∃ B c', e = .returned (.slice B (g x.2.2).length c') ∧ IS w'' B c' (g x.2.2) ∧ (∀ b, b ∈ fpA B → b ∈ fpA x.1 ∨ W'.heap.size ≤ b) ∧ Below W'.heap.size W' w'') :
    Calls Tryd.prog 96 #[.agg #[.int .i64 a, .int .i64 b, .slice A hs.length c], .func (.func F) first cap] w fun e w' => ∃ A' c' gs, e = .returned (.slice A' hs.length c') ∧ gs.map (fun h : Hd => h.2.2) = hs.map (fun h : Hd => g h.2.2) ∧ RdO w w' A' c' gs ∧ (∀ x, x ∈ gs → ∀ b, b ∈ fpA x.1 → b ∈ fpR hs ∨ w.heap.size ≤ b) := by
  obtain ⟨m, hm⟩ : ∃ m, m = hs.length := ⟨_, rfl⟩
  rw [← hm] at hl ⊢
  obtain ⟨W, hW, b0, k0⟩ := alloc_box w (.cells #[.int .i64 a, .int .i64 b, .slice A m c] tRel)
  obtain ⟨⟨c0, c1, c2⟩, f0, f1, f2⟩ := box3 k0
  have hO0 := RdO.start w W b0
  have hz0 := (Array.getElem?_eq_some_iff.1 k0).1
  have hm_h := Lib.hid hm
  have hF_h := Lib.hid hF
  have hI_h := Lib.hid hI
  have hR_h := Lib.hid hR
  have k0_h := Lib.hid k0
  have b0_h := Lib.hid b0
  have hO0_h := Lib.hid hO0
  have hE_h := Lib.hid hE
  clear hm hF hI hR k0 b0 hO0 hE
  go_enter Tryd.func96, Tryd.ntmps96
  go_upto_region 1 with (fail)
  rw [← hW]
  clear hW
  go_wp2_with (fail)
  clear c0 c1 c2 f0 f1 f2
  go_loopw [12, 5] (fun i v wr => ∃ (k : Nat) (A' : Option Addr) (c' : Nat) (gs : List Hd), k ≤ m ∧ i = .int .i64 k ∧ v = .slice A' k c' ∧ gs.length = k ∧ gs.map (fun h : Hd => h.2.2) = (hs.take k).map (fun h : Hd => g h.2.2) ∧ RdO w wr A' c' gs ∧ (∀ x, x ∈ gs → ∀ b, b ∈ fpA x.1 → b ∈ fpR hs ∨ w.heap.size ≤ b)) (fun i _ _ => m - (intOf i).toNat)
  case atStart => exact ⟨0, _, 0, [], Nat.zero_le _, rfl, rfl, rfl, rfl, hO0_h.out, fun x hx => (by cases hx)⟩
  case round =>
    obtain ⟨k, A', c', gs, hk, rfl, rfl, hgl, hgm, hO, hext⟩ := hrel
    by_cases hlt : k < m
    · obtain ⟨x, hx⟩ : ∃ x, hs[k]? = some x := ⟨_, List.getElem?_eq_getElem (by rw [← hm_h.out]; exact hlt)⟩
      obtain ⟨ad, rfl, hc⟩ := (hR_h.out.below hO.below_).1 k x hx
      obtain ⟨B, d, l⟩ := x
      have hxm := List.mem_of_getElem? hx
      have hC := hF_h.out _ hxm wr hO.below_
      have hBlt := (hI_h.out _ hxm).lt
      have hc' : wr.cell? (ad.add k) = some (.slice B l.length d) := hc
      obtain ⟨q, hq⟩ : ∃ q, q = l.length := ⟨_, rfl⟩
      obtain ⟨r, hr⟩ : ∃ r, r = (g l).length := ⟨_, rfl⟩
      simp only [← hq, ← hr] at hC
      rw [← hq] at hc'
      have hkI : (k : Int) < (m : Int) := by omega
      clear hc hxm
      have hgl_h := Lib.hid hgl
      have hgm_h := Lib.hid hgm
      have hO_h := Lib.hid hO
      have hC_h := Lib.hid hC
      have hq_h := Lib.hid hq
      have hr_h := Lib.hid hr
      have hx_h := Lib.hid hx
      have hBlt_h := Lib.hid hBlt
      have hext_h := Lib.hid hext
      clear hgl hgm hO hC hq hr hx hBlt hext
      have hE1 := hE_h.out (first.push (.slice B q d) ++ cap) wr
      go_wp2_with (fail)
      refine (hC_h.out).mono ?_
      rintro e w1 ⟨B1, d1, rfl, hI1, hfp1, hb1⟩
      have hsl : Sl (w1.alloc (.cells #[.slice B1 r d1] 37)) 37 1 A' k c' (gs.map Hd.val) := by
        have := (hO_h.out.sl.below hb1).alloc (.cells #[.slice B1 r d1] 37)
        rwa [hgl_h.out] at this
      clear hc' hE1
      have hI1_h := Lib.hid hI1
      have hfp1_h := Lib.hid hfp1
      have hb1_h := Lib.hid hb1
      have hsl_h := Lib.hid hsl
      clear hI1 hfp1 hb1 hsl
      go_wp2_with (at_builtin; refine wpList_append_Sl _ rfl _ _ _ rfl 37 Tryd.underlying22 info_ints rfl (by omega) rfl (hsl_h.out) rfl (news := [.slice B1 r d1]) rfl (Sl.rdc (Sl.laid w1 37 1 1 #[.slice B1 r d1] (by unfold maxLen; omega) rfl)) (by intro u hu; simp at hu; subst hu; rfl) (by unfold maxLen; omega) (by omega) ?_; intro A3 c3 w3 hsA3 hA3 hkA3)
      have hal : Below w1.heap.size w1 (w1.alloc (.cells #[.slice B1 r d1] 37)) := below_alloc _ _
      have hO2 := hO_h.out.snoc (w1 := w1.alloc (.cells #[.slice B1 r d1] 37)) (below_trans hb1_h.out hal hb1_h.out.size) (x := (B1, d1, g l)) (hI1_h.out.below hal) (fun b hb hb' => by
        have h1 := hO_h.out.sl.lt b hb'
        have h2 := hO_h.out.new b hb'
        rcases hfp1_h.out b hb with h3 | h3
        · have := hBlt_h.out b h3; omega
        · omega) (by rw [hgl_h.out]) (by show Sl w3 _ 1 A3 (k + 1) c3 (gs.map Hd.val ++ [.slice B1 (g l).length d1]); rw [← hr_h.out]; exact hsA3) hA3 hkA3
      clear hsA3 hA3 hkA3
      have hxm2 := List.mem_of_getElem? hx_h.out
      have hext2 : ∀ x, x ∈ gs ++ [((B1, d1, g l) : Hd)] → ∀ b, b ∈ fpA x.1 → b ∈ fpR hs ∨ w.heap.size ≤ b := fun x hx b hb => by
        rcases List.mem_append.1 hx with hx | hx
        · exact hext_h.out x hx b hb
        · obtain rfl := List.mem_singleton.1 hx
          rcases hfp1_h.out b hb with h3 | h3
          · exact .inl (mem_fpR.2 ⟨_, hxm2, h3⟩)
          · right; have := hO_h.out.below_.size; omega
      have hext2_h := Lib.hid hext2
      clear hext2 hxm2
      have hO2_h := Lib.hid hO2
      clear hO2
      go_roundw
      case rel => exact ⟨k + 1, A3, c3, gs ++ [(B1, d1, g l)], by omega, by go_num, rfl, by rw [List.length_append, hgl_h.out]; rfl, by rw [List.map_append, hgm_h.out, List.take_add_one, hx_h.out]; simp, hO2_h.out, hext2_h.out⟩
      case measure => simp [intOf]; omega
    · obtain rfl : k = m := by omega
      have hgm2 : gs.map (fun h : Hd => h.2.2) = hs.map (fun h : Hd => g h.2.2) := by rw [hgm, List.take_of_length_le (by rw [← hm_h.out]; exact Nat.le_refl _)]
      clear hgm
      have hgl_h := Lib.hid hgl
      have hgm2_h := Lib.hid hgm2
      have hO_h := Lib.hid hO
      have hext_h := Lib.hid hext
      clear hgl hgm2 hO hext
      go_wp2_with (fail)
      go_ret
      exact ⟨A', c', gs, rfl, hgm2_h.out, hO_h.out, hext_h.out⟩
set_option maxRecDepth 100000 in
set_option maxHeartbeats 8000000 in
theorem tensor_any (p : Int) {v v' : Value} {s t : Sys} {fp fp' : List Nat} (w : World) (ha : OwSys w v s fp) (hb : OwSys w v' t fp') (hs : RelOk p s) (ht : RelOk p t) (hsum : s.1 + t.1 + s.2.1 + t.2.1 ≤ 24) :
    Calls Tryd.prog 107 #[.int .i64 p, v, v'] w fun e w' => ∃ v' fp', e = .returned v' ∧ OwSys w' v' (tenV p s t) fp' ∧ FreshL w.heap.size fp' ∧ Below w.heap.size w w' := by
  have hmat0 := ten_mat hs ht
  have htl := tenRows_len s t
  obtain ⟨Aa, ca, ga, rfl, hLa0, hOa, rfl⟩ := ha
  obtain ⟨ia, ja, La⟩ := s
  have ha0 : 0 ≤ ia := hs.lo
  have ha1 : 0 ≤ ja := hs.hi
  have ha2 : ia + ja ≤ 24 := hs.sum
  have hflda : fieldB p = true := hs.fld
  have hrowa : ∀ u, u ∈ La → (u.length : Int) = ia + ja ∧ Res p u := fun u hu => hs.row hu
  have hlena : (La.length : Int) ≤ ia + ja := hs.len
  clear hs
  obtain ⟨a1, rfl⟩ : ∃ n : Nat, ia = (n : Int) := ⟨ia.toNat, by omega⟩
  obtain ⟨a2, rfl⟩ : ∃ n : Nat, ja = (n : Int) := ⟨ja.toNat, by omega⟩
  have hLa : La = ga.map (fun h : Hd => h.2.2) := hLa0
  clear hLa0
  obtain ⟨ma, hma⟩ : ∃ m, m = ga.length := ⟨_, rfl⟩
  have hLma : La.length = ma := by rw [hLa, List.length_map, hma]
  have hma24 : (ma : Int) ≤ 24 := by have := hlena; rw [hLma] at this; omega
  obtain ⟨Ab, cb, gb, rfl, hLb0, hOb, rfl⟩ := hb
  obtain ⟨ib, jb, Lb⟩ := t
  have hb0 : 0 ≤ ib := ht.lo
  have hb1 : 0 ≤ jb := ht.hi
  have hb2 : ib + jb ≤ 24 := ht.sum
  have hfldb : fieldB p = true := ht.fld
  have hrowb : ∀ u, u ∈ Lb → (u.length : Int) = ib + jb ∧ Res p u := fun u hu => ht.row hu
  have hlenb : (Lb.length : Int) ≤ ib + jb := ht.len
  clear ht
  obtain ⟨b1, rfl⟩ : ∃ n : Nat, ib = (n : Int) := ⟨ib.toNat, by omega⟩
  obtain ⟨b2, rfl⟩ : ∃ n : Nat, jb = (n : Int) := ⟨jb.toNat, by omega⟩
  have hLb : Lb = gb.map (fun h : Hd => h.2.2) := hLb0
  clear hLb0
  obtain ⟨mb, hmb⟩ : ∃ m, m = gb.length := ⟨_, rfl⟩
  have hLmb : Lb.length = mb := by rw [hLb, List.length_map, hmb]
  have hmb24 : (mb : Int) ≤ 24 := by have := hlenb; rw [hLmb] at this; omega
  obtain ⟨N, hN⟩ : ∃ N, N = a1 + a2 + b1 + b2 := ⟨_, rfl⟩
  obtain ⟨lf, hlf0⟩ : ∃ lf, lf = a1 + b1 := ⟨_, rfl⟩
  obtain ⟨rt, hrt0⟩ : ∃ rt, rt = a2 + b2 := ⟨_, rfl⟩
  obtain ⟨X, hX⟩ : ∃ X, X = La.map (pA a1 a2 b1 b2) ++ Lb.map (pB a1 a2 b1 b2) := ⟨_, rfl⟩
  have hmat : Mat p X.length N X := by rw [hX, hN]; exact hmat0
  obtain ⟨R, hR⟩ : ∃ R, R = redM p N X := ⟨_, rfl⟩
  have hsum' : (a1 : Int) + (b1 : Int) + (a2 : Int) + (b2 : Int) ≤ 24 := hsum
  have hlf : (a1 : Int) + (b1 : Int) = (lf : Int) := by omega
  have hrt : (a2 : Int) + (b2 : Int) = (rt : Int) := by omega
  have hNI : (lf : Int) + (rt : Int) = (N : Int) := by omega
  have hgoal : tenV p ((a1 : Int), (a2 : Int), La) ((b1 : Int), (b2 : Int), Lb) = ((lf : Int), (rt : Int), R) := by
    rw [← hlf, ← hrt, hR, hX, hN]; rfl
  rw [hgoal]
  have hN24 : N ≤ 24 := by omega
  have hlf24 : (lf : Int) ≤ 24 := by omega
  have hrt24 : (rt : Int) ≤ 24 := by omega
  have hb24a : (a1 : Int) ≤ 24 := by omega
  have hb24b : (a2 : Int) ≤ 24 := by omega
  have hb24c : (b1 : Int) ≤ 24 := by omega
  show Calls Tryd.prog _ #[.int .i64 p, .agg #[.int .i64 (a1 : Int), .int .i64 (a2 : Int), .slice Aa ga.length ca], .agg #[.int .i64 (b1 : Int), .int .i64 (b2 : Int), .slice Ab gb.length cb]] w _
  rw [← hma, ← hmb]
  obtain ⟨W, hW, bW, k0, k1, k2⟩ := alloc3 w (.cells #[.int .i64 (a1 : Int), .int .i64 (a2 : Int), .slice Aa ma ca] tRel) (.cells #[.int .i64 (b1 : Int), .int .i64 (b2 : Int), .slice Ab mb cb] tRel) (.cells #[.int .i64 0, .int .i64 0, .slice none 0 0] tRel)
  have hOa := hOa.below bW
  have hOb := hOb.below bW
  obtain ⟨⟨c0, c1, c2⟩, f0, f1, f2⟩ := box3 k0
  have hga : ∀ x, x ∈ ga → x.2.2.length = a1 + a2 := fun x hx => by have := (hrowa _ (by rw [hLa]; exact List.mem_map_of_mem hx)).1; omega
  have hgb : ∀ x, x ∈ gb → x.2.2.length = b1 + b2 := fun x hx => by have := (hrowb _ (by rw [hLb]; exact List.mem_map_of_mem hx)).1; omega
  have hEa := fun (W' : World) (hb : Below W.heap.size W W') (hk0 : W'.heap[w.heap.size]? = some (.cells #[.int .i64 (a1 : Int), .int .i64 (a2 : Int), .slice Aa ma ca] tRel)) (hk1 : W'.heap[w.heap.size + 1]? = some (.cells #[.int .i64 (b1 : Int), .int .i64 (b2 : Int), .slice Ab mb cb] tRel)) => each2_any 142 #[] #[.pointer (some ⟨w.heap.size, 0, none⟩), .pointer (some ⟨w.heap.size + 1, 0, none⟩)] (pA a1 a2 b1 b2) (a1 : Int) (a2 : Int) Aa ca ga W' (hOa.below hb).rd (hOa.below hb).rows (by omega) (fun _ _ => rfl) (fun x hx W2 hb2 => by
    have hI : Sl W2 3 1 x.1 x.2.2.length x.2.1 (ints x.2.2) := ((hOa.below hb).rows x hx).below hb2
    have := tensor1_any w.heap.size (w.heap.size + 1) a1 a2 b1 b2 (.slice Aa ma ca) (.slice Ab mb cb) rfl rfl x.1 x.2.1 x.2.2.length x.2.2 W2 hI (hga x hx) (by omega) (box_below hk0 hb2) (box_below hk1 hb2)
    refine this.mono ?_
    rintro e w4 ⟨A4, c4, rfl, hi4, hf4, hb4⟩
    exact ⟨A4, c4, rfl, hi4, fun b hb => .inr (hf4 b hb), hb4⟩)
  have hEb := fun (W' : World) (hb : Below W.heap.size W W') (hk0 : W'.heap[w.heap.size]? = some (.cells #[.int .i64 (a1 : Int), .int .i64 (a2 : Int), .slice Aa ma ca] tRel)) (hk1 : W'.heap[w.heap.size + 1]? = some (.cells #[.int .i64 (b1 : Int), .int .i64 (b2 : Int), .slice Ab mb cb] tRel)) => each2_any 143 #[] #[.pointer (some ⟨w.heap.size, 0, none⟩), .pointer (some ⟨w.heap.size + 1, 0, none⟩)] (pB a1 a2 b1 b2) (b1 : Int) (b2 : Int) Ab cb gb W' (hOb.below hb).rd (hOb.below hb).rows (by omega) (fun _ _ => rfl) (fun x hx W2 hb2 => by
    have hI : Sl W2 3 1 x.1 x.2.2.length x.2.1 (ints x.2.2) := ((hOb.below hb).rows x hx).below hb2
    have := tensor2_any w.heap.size (w.heap.size + 1) a1 a2 b1 b2 (.slice Aa ma ca) (.slice Ab mb cb) rfl rfl x.1 x.2.1 x.2.2.length x.2.2 W2 hI (hgb x hx) (by omega) (box_below hk0 hb2) (box_below hk1 hb2)
    refine this.mono ?_
    rintro e w4 ⟨A4, c4, rfl, hi4, hf4, hb4⟩
    exact ⟨A4, c4, rfl, hi4, fun b hb => .inr (hf4 b hb), hb4⟩)
  have hltb : ∀ b, b ∈ fpR gb → b < W.heap.size := fun b hb => hOb.lt b (List.mem_append_right _ hb)
  simp only [← hma] at hEa
  simp only [← hmb] at hEb
  have hmf : ∀ (fn : Fn) (first cap : Array Value) (w : World), (Instr.makeFunc fn first cap).run Tryd.prog w = .ok (.func fn first cap) w := fun _ _ _ _ => rfl
  have hXl : X.length = ma + mb := by rw [hX, List.length_append, List.length_map, List.length_map, hLma, hLmb]
  clear hmat0 hgoal htl hsum hlf0 hrt0 hga hgb
  have hLa_h := Lib.hid hLa
  have hLb_h := Lib.hid hLb
  have hma_h := Lib.hid hma
  have hmb_h := Lib.hid hmb
  have hLma_h := Lib.hid hLma
  have hLmb_h := Lib.hid hLmb
  have bW_h := Lib.hid bW
  have k0_h := Lib.hid k0
  have k1_h := Lib.hid k1
  have k2_h := Lib.hid k2
  have hOa_h := Lib.hid hOa
  have hOb_h := Lib.hid hOb
  have hrowa_h := Lib.hid hrowa
  have hrowb_h := Lib.hid hrowb
  have hlena_h := Lib.hid hlena
  have hlenb_h := Lib.hid hlenb
  have hflda_h := Lib.hid hflda
  have hfldb_h := Lib.hid hfldb
  have hmat_h := Lib.hid hmat
  have hX_h := Lib.hid hX
  have hR_h := Lib.hid hR
  have hN_h := Lib.hid hN
  have hNI_h := Lib.hid hNI
  have hEa_h := Lib.hid hEa
  have hEb_h := Lib.hid hEb
  have hltb_h := Lib.hid hltb
  have hXl_h := Lib.hid hXl
  clear hLa hLb hma hmb hLma hLmb bW k0 k1 k2 hOa hOb hrowa hrowb hlena hlenb hflda hfldb hmat hX hR hN hNI hEa hEb hltb hXl
  have k0W := k0_h.out
  have k1W := k1_h.out
  have k2W := k2_h.out
  have k0W_h := Lib.hid k0W
  have k1W_h := Lib.hid k1W
  have k2W_h := Lib.hid k2W
  clear k0W k1W k2W
  have hE1 := hEa_h.out W (Below.refl _ _) k0_h.out k1_h.out
  have hE1_h := Lib.hid hE1
  clear hE1
  go_enter Tryd.func107, Tryd.ntmps107
  go_upto_region 1 with (fail)
  rw [← hW]
  clear hW
  go_wp2_with (fail)
  refine (hE1_h.out).mono ?_
  rintro e w1 ⟨A1, c1', g1, rfl, hg1, hO1, -⟩
  clear c0 c1 c2 f0 f1 f2
  have hb1 := hO1.below_
  replace k0_h := Lib.hid (box_below k0_h.out hb1)
  replace k1_h := Lib.hid (box_below k1_h.out hb1)
  replace k2_h := Lib.hid (box_below k2_h.out hb1)
  have hE2 := hEb_h.out w1 hb1 k0_h.out k1_h.out
  have hgl1 : g1.length = ma := by have := congrArg List.length hg1; rwa [List.length_map, List.length_map, ← hma_h.out] at this
  have hz1 := hb1.size
  obtain ⟨⟨c0, c1, c2⟩, f0, f1, f2⟩ := box3 k1_h.out
  have hE2_h := Lib.hid hE2
  have hO1_h := Lib.hid hO1
  have hg1_h := Lib.hid hg1
  have hgl1_h := Lib.hid hgl1
  have hb1_h := Lib.hid hb1
  clear hE2 hO1 hg1 hgl1 hb1
  go_wp2_with (fail)
  refine (hE2_h.out).mono ?_
  rintro e w2 ⟨A2, c2', g2, rfl, hg2, hO2, hext⟩
  clear c0 c1 c2 f0 f1 f2
  have hb2 := hO2.below_
  replace k0_h := Lib.hid (box_below k0_h.out hb2)
  replace k1_h := Lib.hid (box_below k1_h.out hb2)
  replace k2_h := Lib.hid (box_below k2_h.out hb2)
  have hgl2 : g2.length = mb := by have := congrArg List.length hg2; rwa [List.length_map, List.length_map, ← hmb_h.out] at this
  have hO1' := hO1_h.out.below hb2
  have hB2 := below_trans (below_trans bW_h.out hb1_h.out bW_h.out.size) hb2 (Nat.le_trans bW_h.out.size hb1_h.out.size)
  have hs1 : Sl w2 37 1 A1 ma c1' (g1.map Hd.val) := by have := hO1'.sl; rwa [hgl1_h.out] at this
  have hnl : (g2.map Hd.val).length = mb * 1 := by rw [List.length_map, hgl2, Nat.mul_one]
  have hnr : RdC w2 A2 (g2.map Hd.val) := hO2.sl.rdc
  have hn1 : ∀ u ∈ g2.map Hd.val, u.oneCell' = true := fun u hu => by
    obtain ⟨x, _, rfl⟩ := List.mem_map.1 hu
    rfl
  have hAlt := hO1_h.out.sl.lt
  have hz2 := box_lt k2_h.out
  obtain ⟨⟨c0, c1, c2⟩, f0, f1, f2⟩ := box3 k0_h.out
  obtain ⟨⟨d0, d1, d2⟩, e0, e1, e2⟩ := box3 k1_h.out
  have hs1_h := Lib.hid hs1
  have hnl_h := Lib.hid hnl
  have hnr_h := Lib.hid hnr
  have hn1_h := Lib.hid hn1
  have hO1'_h := Lib.hid hO1'
  have hO2_h := Lib.hid hO2
  have hext_h := Lib.hid hext
  have hg2_h := Lib.hid hg2
  have hgl2_h := Lib.hid hgl2
  have hB2_h := Lib.hid hB2
  have hb2_h := Lib.hid hb2
  have hAlt_h := Lib.hid hAlt
  clear hs1 hnl hnr hn1 hO1' hO2 hext hg2 hgl2 hB2 hb2 hAlt
  go_upto_region 3 with (at_builtin; refine wpList_append_Sl _ rfl _ _ _ rfl 37 Tryd.underlying22 info_ints rfl (by omega) rfl hs1_h.out rfl hnl_h.out hnr_h.out hn1_h.out (by unfold maxLen; omega) (by omega) ?_; intro A3 c3 w3 hs3 hA3 hk3)
  have hapart : ∀ x, x ∈ g2 → ∀ b, b ∈ fpA x.1 → ¬ b ∈ fpA A1 := fun x hx b hb hb' => by
    have h1 := hAlt_h.out b hb'
    have h2 := hO1_h.out.new b hb'
    rcases hext_h.out x hx b hb with h3 | h3
    · have := hltb_h.out b h3; omega
    · omega
  have hrd3 : RdR w3 A3 (g1 ++ g2) := by
    rw [← List.map_append] at hs3
    refine ⟨fun i x hx => ?_, fun x hx => ?_⟩
    · obtain ⟨ad, hA, _, hc, _⟩ := hs3.cell (j := i) (u := x.val) (by rw [List.getElem?_map, hx]; rfl)
      exact ⟨ad, hA, hc⟩
    · rcases List.mem_append.1 hx with hx | hx
      · exact ((hO1'_h.out.rows x hx).keeps hk3 (hO1'_h.out.outer x hx)).rd
      · exact ((hO2_h.out.rows x hx).keeps hk3 (hapart x hx)).rd
  have hgX : (g1 ++ g2).map (fun h : Hd => h.2.2) = X := by
    rw [List.map_append, hg1_h.out, hg2_h.out, hX_h.out, hLa_h.out, hLb_h.out, List.map_map, List.map_map]; rfl
  have hgl : (g1 ++ g2).length = ma + mb := by rw [List.length_append, hgl1_h.out, hgl2_h.out]
  have hC := relation_any p (lf : Int) (rt : Int) N A3 c3 (g1 ++ g2) w3 hrd3 hflda_h.out (by have := hNI_h.out; omega) (by rw [hgX, hgl, ← hXl_h.out]; exact hmat_h.out) (by rw [hgl]; omega) (by omega)
  rw [hgX, ← hR_h.out, hgl] at hC
  have hnew : ∀ b, b ∈ fpA A1 → W.heap.size ≤ b := hO1_h.out.new
  have hB3 := below_keeps hB2_h.out hk3 hB2_h.out.size (fun b hb => Nat.le_trans bW_h.out.size (hnew b hb))
  have hzW := bW_h.out.size
  have hzk := hk3.size
  have k0s := box_keeps k0_h.out hk3 (fun h => by have := hnew _ h; have := box_lt k0W_h.out; omega)
  have k1s := box_keeps k1_h.out hk3 (fun h => by have := hnew _ h; have := box_lt k1W_h.out; omega)
  have k2s := box_keeps k2_h.out hk3 (fun h => by have := hnew _ h; have := box_lt k2W_h.out; omega)
  clear c0 c1 c2 f0 f1 f2 d0 d1 d2 e0 e1 e2 hs3 hA3 hk3 hapart hrd3 hgX hgl hnew
  obtain ⟨⟨c0, c1, c2⟩, f0, f1, f2⟩ := box3 k0s
  obtain ⟨⟨d0, d1, d2⟩, e0, e1, e2⟩ := box3 k1s
  have hlf := hlf
  have hrt := hrt
  clear k0s k1s
  have hC_h := Lib.hid hC
  have hB3_h := Lib.hid hB3
  have k2s_h := Lib.hid k2s
  clear hC hB3 k2s
  go_wp2_with (fail)
  refine (hC_h.out).mono ?_
  rintro e w4 ⟨v1, fp1, rfl, hO4, hf4, hb4⟩
  obtain ⟨A5, n5, c5, rfl⟩ := hO4.shape
  have k2' := box_below k2s_h.out hb4
  have hB4 := below_trans hB3_h.out hb4 hB3_h.out.size
  clear c0 c1 c2 f0 f1 f2 d0 d1 d2 e0 e1 e2
  obtain ⟨⟨d0, d1, d2⟩, e0, e1, e2⟩ := box3 k2'
  obtain ⟨s1, s2⟩ := set3 (a := .int .i64 (lf : Int)) (b := .int .i64 (rt : Int)) (c := .slice A5 n5 c5) k2'
  have hB5 := below_keeps hB4 s2 hB4.size (fun k hk => by omega)
  have hO5 := hO4.keeps s2 (fun k hk e => by have := hf4 k hk; omega)
  have hf5 := hf4.mono hB3_h.out.size
  clear k2' hB4 hO4 hf4
  have s1_h := Lib.hid s1
  have s2_h := Lib.hid s2
  have hO5_h := Lib.hid hO5
  have hf5_h := Lib.hid hf5
  have hB5_h := Lib.hid hB5
  clear s1 s2 hO5 hf5 hB5
  go_wp2_with (fail)
  refine bodyPost_ret (results_cell_row rfl _ _ (w.heap.size + 1 + 1) _ _ (0, 0) _ rfl s1_h.out Tryd.underlying51 rfl (by kernel_rfl)) rfl ?_
  exact ⟨_, fp1, rfl, hO5_h.out, hf5_h.out, hB5_h.out⟩
end Go.Proofs.YtpfidjegdpkhdaaDoor
