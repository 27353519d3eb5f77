/-
  What the texts above it need, part 3.
-/
import Derived.Test.YtahnhblodfdfhaaDoorKLeafRelation2
import Derived.Test.YtahnhblodfdfhaaDoorRows
import Derived.ProofKit
import Derived.OpenShut
import Derived.Deep.DeepHandedRow
import Derived.Deep.Slices
import Derived.Deep.Fields
import Derived.Lib.SmallJoins
import Derived.Deep.QuietTactic
import Derived.BigQuiet
import Derived.StillTail
namespace Go.Proofs.YtahnhblodfdfhaaDoor
open Go.RowKit
def sprTo (p : Int) (n : Nat) (at_ v : List Int) : Nat → List Int
  | 0 => List.replicate n 0
  | k + 1 => (sprTo p n at_ v k).set (at_.getD k 0).toNat (((sprTo p n at_ v k).getD (at_.getD k 0).toNat 0 + v.getD k 0) % p)
def sprV (p : Int) (n : Nat) (at_ v : List Int) : List Int := sprTo p n at_ v at_.length
@[simp] theorem sprTo_length (p : Int) (n : Nat) (at_ v : List Int) : ∀ k, (sprTo p n at_ v k).length = n
  | 0 => by simp [sprTo]
  | k + 1 => by simp [sprTo, sprTo_length p n at_ v k]
theorem sprTo_res {p : Int} (hp : 0 < p) (n : Nat) (at_ v : List Int) : ∀ k, Res p (sprTo p n at_ v k)
  | 0 => fun y hy => by
    obtain ⟨_, rfl⟩ := List.mem_replicate.1 hy
    omega
  | k + 1 => fun y hy => by
    rcases List.mem_or_eq_of_mem_set hy with h | rfl
    · exact sprTo_res hp n at_ v k y h
    · exact ⟨Int.emod_nonneg _ (by omega), Int.emod_lt_of_pos _ hp⟩
def efK (e : Eg) : Int := if 9 ≤ e.1 then e.1 - 6 else e.1
def efI (e : Eg) : List Int := if 9 ≤ e.1 then e.2.2.2 else e.2.2.1
def efO (e : Eg) : List Int := if 9 ≤ e.1 then e.2.2.1 else e.2.2.2
def dnRowsM (p : Int) (n : Nat) (e : Eg) : List (List Int) :=
  if efK e = 3 then [sprV p n [(efO e).getD 0 0, (efI e).getD 0 0] [1, p - 1], sprV p n [(efO e).getD 1 0, (efI e).getD 0 0] [1, p - 1]]
  else if efK e = 5 then [sprV p n [(efO e).getD 0 0, (efI e).getD 0 0, (efI e).getD 1 0] [1, p - 1, p - 1]]
  else if efK e = 6 then [sprV p n [(efO e).getD 0 0] [1]]
  else if efK e = 7 then [sprV p n [(efO e).getD 0 0, (efI e).getD 0 0] [1, -e.2.1 % p]]
  else []
def noDl (k : Int) : Bool := decide (k ≠ 8) && decide (k ≠ 14)
theorem dnTimeless_any (k : Int) (w : World) : Calls Tryd.prog 86 #[.int .i64 k] w fun e w' => e = .returned (.bool (noDl k)) ∧ w' = w := by
  unfold noDl
  by_cases h8 : k = 8
  · subst h8
    go_enter Tryd.func86, Tryd.ntmps86
    go_wp2_with (fail)
    go_ret
    exact ⟨rfl, rfl⟩
  · have hb8 : (k != 8) = true := by rw [bne_iff_ne]; exact h8
    rw [decide_eq_true h8]
    by_cases h14 : k = 14
    · subst h14
      go_enter Tryd.func86, Tryd.ntmps86
      go_wp2_with (fail)
      go_ret
      exact ⟨rfl, rfl⟩
    · have hb14 : (k != 14) = true := by rw [bne_iff_ne]; exact h14
      rw [decide_eq_true h14]
      clear h8 h14
      go_enter Tryd.func86, Tryd.ntmps86
      go_wp2_with (fail)
      go_ret
      exact ⟨rfl, rfl⟩
set_option maxRecDepth 100000 in
set_option maxHeartbeats 2000000 in
theorem dnRow_any (p : Int) (n q : Nat) (A B : Option Addr) (ca cb : Nat) (at_ v : List Int) (w : World) (hA : RdI w A at_) (hB : RdI w B v) (hal : at_.length = q) (hvl : v.length = q) (hat : ∀ x, x ∈ at_ → 0 ≤ x ∧ x < (n : Int)) (hv : Res p v) (h0 : 0 < p) (h97 : p ≤ 97) (hn : n ≤ 1048576) (hq : q ≤ 1048576) :
    Calls Tryd.prog 133 #[.int .i64 p, .int .i64 (n : Int), .slice A q ca, .slice B q cb] w (RetI w (sprV p n at_ v)) := by
  have hsl := sprTo_length p n at_ v
  have hsr := sprTo_res h0 n at_ v
  have hend : sprV p n at_ v = sprTo p n at_ v q := by unfold sprV; rw [hal]
  rw [hend]
  clear hend; have hA_h := Lib.hid hA; have hB_h := Lib.hid hB; have hal_h := Lib.hid hal; have hvl_h := Lib.hid hvl; have hat_h := Lib.hid hat; have hv_h := Lib.hid hv; have hsl_h := Lib.hid hsl; have hsr_h := Lib.hid hsr; clear hA hB hal hvl hat hv hsl hsr
  go_enter Tryd.func133, Tryd.ntmps133
  go_wp2_with (at_make; refine wpList_make_Sl _ rfl _ _ _ rfl 3 Tryd.underlying33 info_int n n rfl rfl rfl rfl (Nat.le_refl _) (by omega) (by unfold maxLen; omega) ?_; intro G w1 hs1 hG hb1)
  have hst : IS w1 (some G) n (sprTo p n at_ v 0) := by unfold IS; rw [hsl_h.out]; show Sl _ _ _ _ _ _ (ints (List.replicate n 0)); rw [← madeZeros]; simpa using hs1
  clear hs1
  have hfG : Fresh w.heap.size (some G) := fun b hb => by
    obtain rfl : b = G.block := by simpa using hb
    exact hG
  have hst_h := Lib.hid hst; have hG_h := Lib.hid hG; have hb1_h := Lib.hid hb1; have hfG_h := Lib.hid hfG; clear hst hG hb1 hfG
  go_loopw [16] (fun i wr => ∃ k : Nat, k ≤ q ∧ i = .int .i64 k ∧ IS wr (some G) n (sprTo p n at_ v k) ∧ Below w.heap.size w wr) (fun i _ => q - (intOf i).toNat)
  case atStart => exact ⟨0, Nat.zero_le _, rfl, hst_h.out, hb1_h.out⟩
  case round =>
    clear hst_h hb1_h
    obtain ⟨k, hk, rfl, his, hbr⟩ := hrel
    by_cases hlt : k < q
    · obtain ⟨ad, x, rfl, hx, hcx⟩ := (hA_h.out.below hbr).at_ (j := k) (by rw [hal_h.out]; exact hlt)
      obtain ⟨bd, y, rfl, hy, hcy⟩ := (hB_h.out.below hbr).at_ (j := k) (by rw [hvl_h.out]; exact hlt)
      obtain ⟨hx0, hxn⟩ := hat_h.out x (List.mem_of_getElem? hx)
      obtain ⟨j, rfl⟩ : ∃ j : Nat, x = (j : Int) := ⟨x.toNat, by omega⟩
      have hjn : j < n := by omega
      have hyb := hv_h.out y (List.mem_of_getElem? hy)
      obtain ⟨V, hV⟩ : ∃ V, V = sprTo p n at_ v k := ⟨_, rfl⟩
      have hVl : V.length = n := by rw [hV]; exact hsl_h.out k
      have hVr : Res p V := by rw [hV]; exact hsr_h.out k
      rw [← hV] at his
      obtain ⟨gd, z, hGg, hz, hblt, hcz, hf⟩ := his.at_ (j := j) (by rw [hVl]; exact hjn)
      obtain rfl := Option.some.inj hGg
      have hzb := hVr z (List.mem_of_getElem? hz)
      have hstep : sprTo p n at_ v (k + 1) = V.set j ((z + y) % p) := by
        have e1 : at_.getD k 0 = (j : Int) := by rw [List.getD_eq_getElem?_getD, hx]; rfl
        have e2 : v.getD k 0 = y := by rw [List.getD_eq_getElem?_getD, hy]; rfl
        have e3 : V.getD j 0 = z := by rw [List.getD_eq_getElem?_getD, hz]; rfl
        rw [sprTo, ← hV, e1, e2, Int.toNat_natCast, e3]
      have hset := (his.below (below_drewN (Below.refl wr.heap.size wr) 1)).set rfl ((z + y) % p) (j := j) (by rw [hVl]; exact hjn)
      rw [← hstep] at hset
      have hset : IS (wr.drew.setCell (G.add j) (.int .i64 ((z + y) % p))) (some G) n (sprTo p n at_ v (k + 1)) := hset
      have hbd := below_trans hbr (below_drewN (Below.refl wr.heap.size wr) 1) hbr.size
      have hbs : Below w.heap.size w (wr.drew.setCell (G.add j) (.int .i64 ((z + y) % p))) := hbd.setCell (p := G.add j) (by rw [block_of_add]; exact hG_h.out) (.int .i64 ((z + y) % p))
      have C1 := Lib.hid (stillC2 (fdAdd_any p z y wr.drew h0 hzb.1 (by omega) hyb.1 (by omega)))
      have hkI : (k : Int) < (q : Int) := by omega
      have hjI : (j : Int) < (n : Int) := by omega
      have hfz := hf j
      clear his hV hVl hVr hz hx hy hstep hbr hbd hf hblt hx0 hxn hzb hyb; have hset_h := Lib.hid hset; have hbs_h := Lib.hid hbs; clear hset hbs
      go_wp2_with (fail)
      refine wp_region_still_tail 13 (by kernel_rfl) (by kernel_rfl) ?_
      simp only [List.take_succ_cons, List.take_zero, List.drop_succ_cons, List.drop_zero]
      change wpStill _ _ wr.drew (fun a' => wpList _ _ _ _ a' wr.drew) _ _
      have d1 : wr.drew.cell? (G.add j) = some (.int .i64 z) := hcz
      have d2 : wr.drew.cell? (bd.add k) = some (.int .i64 y) := hcy
      clear hcz hcy
      repeat still_step
      still_call C1.out
      repeat still_step
      refine wpStill_nil ?_
      go_wp2_with (fail)
      go_roundw
      case rel => exact ⟨k + 1, by omega, by go_num, hset_h.out, hbs_h.out⟩
      case measure => simp [intOf]; omega
    · obtain rfl : q = k := by omega
      have his_h := Lib.hid his; have hbr_h := Lib.hid hbr; clear his hbr
      go_wp2_with (fail)
      go_ret
      exact ⟨some G, n, by rw [hsl_h.out]; rfl, his_h.out, hfG_h.out, hbr_h.out⟩
theorem len_one {l : List Int} (h : l.length = 1) : ∃ x, l = [x] := match l, h with | [x], _ => ⟨x, rfl⟩
theorem len_two {l : List Int} (h : l.length = 2) : ∃ x y, l = [x, y] := match l, h with | [x, y], _ => ⟨x, y, rfl⟩
theorem cell_mvd {w0 w1 : World} {P : Addr} {u : Value} (hb : Below w0.heap.size w0 w1) (h : w0.cell? P = some u) : w1.cell? P = some u := (hb.cell (World.block_lt_of_cell? _ _ h)).trans h
def PIn (n : Nat) (l : List Int) (v : Value) (w : World) : Prop := ∃ A c, v = .slice A n c ∧ RdI w A l
def PRs (n : Nat) (L : List (List Int)) (v : Value) (w : World) : Prop := ∃ A c hs, v = .slice A n c ∧ hs.length = n ∧ hs.map (fun h : Hd => h.2.2) = L ∧ RdR w A hs ∧ ∀ x, x ∈ hs → IS w x.1 x.2.1 x.2.2
def PIs (n : Nat) (l : List Int) (v : Value) (w : World) : Prop := ∃ A c, v = .slice A n c ∧ IS w A c l
def PV (x : Value) (v : Value) (_w : World) : Prop := v = x
theorem PIn.stb (n : Nat) (l : List Int) : Stb (PIn n l) := fun _ _ _ h hb => by obtain ⟨A, c, h1, h2⟩ := h; exact ⟨A, c, h1, h2.below hb⟩
theorem PRs.stb (n : Nat) (L : List (List Int)) : Stb (PRs n L) := fun _ _ _ h hb => by obtain ⟨A, c, hs, h1, h2, h3, h4, h5⟩ := h; exact ⟨A, c, hs, h1, h2, h3, h4.below hb, fun x hx => (h5 x hx).below hb⟩
theorem PIs.stb (n : Nat) (l : List Int) : Stb (PIs n l) := fun _ _ _ h hb => by obtain ⟨A, c, h1, h2⟩ := h; exact ⟨A, c, h1, h2.below hb⟩
theorem PV.stb (x : Value) : Stb (PV x) := fun _ _ _ h _ => h
theorem rd_laidC (w : World) (l : List Int) (hl : l.length ≤ maxLen) : RdI (w.alloc (.cells (ints l).toArray 3)) (some ⟨w.heap.size, 0, none⟩) l := by
  have h := Sl.laid w 3 1 l.length (ints l).toArray hl (by simp)
  intro j x hj
  obtain ⟨ad, hA, _, hc, _⟩ := h.cell (j := j) (u := .int .i64 x) (by simpa using ints_get hj)
  exact ⟨ad, hA, hc⟩
theorem PRs.laid (w : World) (hs : List Hd) (h : ∀ x, x ∈ hs → IS w x.1 x.2.1 x.2.2) (hl : hs.length ≤ maxLen) : PRs hs.length (hs.map fun h : Hd => h.2.2) (.slice (some ⟨w.heap.size, 0, none⟩) hs.length hs.length) (w.alloc (.cells (hs.map Hd.val).toArray 33)) := by
  have h1 : RdR (w.alloc (.cells (hs.map Hd.val).toArray 33)) (some ⟨w.heap.size, 0, none⟩) hs := by
    have hsl := Sl.laid w 33 1 hs.length (hs.map Hd.val).toArray hl (by simp)
    refine ⟨fun i x hi => ?_, fun x hx => (h x hx).rd.below (below_alloc _ _)⟩
    obtain ⟨ad, hA, _, hc, _⟩ := hsl.cell (j := i) (u := x.val) (by simp [hi])
    exact ⟨ad, hA, by simpa using hc⟩
  exact ⟨_, _, hs, rfl, rfl, rfl, h1, fun x hx => (h x hx).below (below_alloc _ _)⟩
def RetRc (w : World) (L : List (List Int)) (e : Ending) (w' : World) : Prop := ∃ v, e = .returned v ∧ PRs L.length L v w' ∧ Below w.heap.size w w'
set_option maxRecDepth 100000 in
set_option maxHeartbeats 4000000 in
theorem dnRows_any (p : Int) (n : Nat) (k v : Int) (A B : Option Addr) (a b : Nat) (l m : List Int) (w : World) (hA : RdI w A l) (hB : RdI w B m) (hk : 3 ≤ k ∧ k ≤ 14) (hty : ((l.length : Int), (m.length : Int)) = kindTy k) (hat : ∀ x, x ∈ l ++ m → 0 ≤ x ∧ x < (n : Int)) (hv0 : 0 ≤ v) (hvp : v < p) (h2p : 2 ≤ p) (h97 : p ≤ 97) (hn : n ≤ 1048576) :
    Calls Tryd.prog 134 #[.int .i64 p, .int .i64 (n : Int), .agg #[.int .i64 k, .int .i64 v, .slice A l.length a, .slice B m.length b]] w (RetRc w (dnRowsM p n (k, v, l, m))) := by
  have h0 : 0 < p := by omega
  have hw1 : IntKind.i64.wrap (p - 1) = p - 1 := IntWalk.i64_in _ (by omega)
  have hem := Int.emod_nonneg (-v) (show p ≠ 0 by omega)
  have hem2 := Int.emod_lt_of_pos (-v) h0
  have hc : k = 3 ∨ k = 4 ∨ k = 5 ∨ k = 6 ∨ k = 7 ∨ k = 8 ∨ k = 9 ∨ k = 10 ∨ k = 11 ∨ k = 12 ∨ k = 13 ∨ k = 14 := by omega
  rcases hc with rfl | rfl | rfl | rfl | rfl | rfl | rfl | rfl | rfl | rfl | rfl | rfl
  · have hll : l.length = 1 := by have h1 := congrArg Prod.fst hty; have h2 : (l.length : Int) = 1 := h1; omega
    have hml : m.length = 2 := by have h1 := congrArg Prod.snd hty; have h2 : (m.length : Int) = 2 := h1; omega
    clear hty hk
    obtain ⟨x0, rfl⟩ := len_one hll
    obtain ⟨y0, y1, rfl⟩ := len_two hml
    have hM : dnRowsM p n (3, v, [x0], [y0, y1]) = [sprV p n [y0, x0] [1, p - 1], sprV p n [y1, x0] [1, p - 1]] := rfl
    rw [hM]
    clear hM
    obtain ⟨ad, _, rfl, ex0, cx0⟩ := hA.at_ (j := 0) (by simp)
    obtain rfl := Option.some.inj ex0
    have cx0 : w.cell? ad = some (.int .i64 x0) := cx0
    have had0 : ad.add 0 = ad := rfl
    obtain ⟨bd, _, rfl, ey0, cy0⟩ := hB.at_ (j := 0) (by simp)
    obtain rfl := Option.some.inj ey0
    have cy0 : w.cell? bd = some (.int .i64 y0) := cy0
    have hbd0 : bd.add 0 = bd := rfl
    obtain ⟨ad', _, e', ey1, cy1⟩ := hB.at_ (j := 1) (by simp)
    obtain rfl := Option.some.inj e'
    obtain rfl := Option.some.inj ey1
    have cy1 : w.cell? ⟨bd.block, bd.off + 1, none⟩ = some (.int .i64 y1) := cy1
    have qx0 := hat x0 (by simp)
    have qy0 := hat y0 (by simp)
    have qy1 := hat y1 (by simp)
    clear hat
    obtain ⟨W, hW⟩ : ∃ W, W = w.alloc (.cells #[.int .i64 3, .int .i64 v, .slice (some ad) 1 a, .slice (some bd) 2 b] tEd) := ⟨_, rfl⟩
    have bW := below_alloc w (.cells #[.int .i64 3, .int .i64 v, .slice (some ad) 1 a, .slice (some bd) 2 b] tEd)
    have k0 := heap_alloc_new w (.cells #[.int .i64 3, .int .i64 v, .slice (some ad) 1 a, .slice (some bd) 2 b] tEd)
    rw [← hW] at bW k0
    have cx0 := cell_mvd bW cx0
    have cy0 := cell_mvd bW cy0
    have cy1 := cell_mvd bW cy1
    obtain ⟨⟨g0, g1, g2, g3⟩, f0, f1, f2, f3⟩ := box4 k0
    have bW_h := Lib.hid bW; have k0_h := Lib.hid k0; clear bW k0
    go_enter Tryd.func134, Tryd.ntmps134
    go_upto_region 1 with (fail)
    rw [← hW]
    clear hW
    go_quiet (fail)
    obtain ⟨Wd, hWd⟩ : ∃ Wd, Wd = W.drewN nq := ⟨_, rfl⟩
    have hbd : Below W.heap.size W Wd := by rw [hWd]; exact below_drewN (Below.refl _ _) nq
    rw [← hWd]
    clear hWd g0 g1 g2 g3 f0 f1 f2 f3
    replace k0_h := Lib.hid (box_below k0_h.out hbd)
    have cx0 := cell_mvd hbd cx0
    have cy0 := cell_mvd hbd cy0
    have cy1 := cell_mvd hbd cy1
    have hB0 := below_trans bW_h.out hbd bW_h.out.size
    clear hbd; have hB0_h := Lib.hid hB0; clear hB0
    obtain ⟨⟨g0, g1, g2, g3⟩, f0, f1, f2, f3⟩ := box4 k0_h.out
    go_wp2_with (fail)
    clear g0 g1 g2 g3 f0 f1 f2 f3
    have hbd : Below Wd.heap.size Wd Wd.drew := below_drewN (Below.refl _ _) 1
    refine beginH (fun w' => Below Wd.heap.size Wd w') (by kernel_rfl) ?_
    generalize Wd.drew = W1 at hbd ⊢
    refine takeH 0 (v := ?_) rfl (by kernel_rfl) (by kernel_rfl) (by kernel_rfl) (fun _ _ _ h => h) hbd (by rfl) (fun W' hW' => ?_) ?_; rotate_left; · (have zx0 := cell_mvd hW' cx0; have zy0 := cell_mvd hW' cy0; have zy1 := cell_mvd hW' cy1; clear hW'; go_simp; first | done | with_reducible rfl)
    simp only [Act.put, nS1, nS2, nS3]
    refine takeH 1 (v := ?_) rfl (by kernel_rfl) (by kernel_rfl) (by kernel_rfl) (fun _ _ _ h => h) hbd (by rfl) (fun W' hW' => ?_) ?_; rotate_left; · (have zx0 := cell_mvd hW' cx0; have zy0 := cell_mvd hW' cy0; have zy1 := cell_mvd hW' cy1; clear hW'; go_simp; first | done | with_reducible rfl)
    simp only [Act.put, nS1, nS2, nS3]
    refine takeH 2 (v := ?_) rfl (by kernel_rfl) (by kernel_rfl) (by kernel_rfl) (fun _ _ _ h => h) hbd (by rfl) (fun W' hW' => ?_) ?_; rotate_left; · (have zx0 := cell_mvd hW' cx0; have zy0 := cell_mvd hW' cy0; have zy1 := cell_mvd hW' cy1; clear hW'; go_simp; first | done | with_reducible rfl)
    simp only [Act.put, nS1, nS2, nS3]
    refine takeH 3 (v := ?_) rfl (by kernel_rfl) (by kernel_rfl) (by kernel_rfl) (fun _ _ _ h => h) hbd (by rfl) (fun W' hW' => ?_) ?_; rotate_left; · (have zx0 := cell_mvd hW' cx0; have zy0 := cell_mvd hW' cy0; have zy1 := cell_mvd hW' cy1; clear hW'; go_simp; first | done | with_reducible rfl)
    simp only [Act.put, nS1, nS2, nS3]
    refine takeH 4 (v := ?_) rfl (by kernel_rfl) (by kernel_rfl) (by kernel_rfl) (fun _ _ _ h => h) hbd (by rfl) (fun W' hW' => ?_) ?_; rotate_left; · (have zx0 := cell_mvd hW' cx0; have zy0 := cell_mvd hW' cy0; have zy1 := cell_mvd hW' cy1; clear hW'; go_simp; first | done | with_reducible rfl)
    simp only [Act.put, nS1, nS2, nS3]
    refine takeH 5 (v := ?_) rfl (by kernel_rfl) (by kernel_rfl) (by kernel_rfl) (fun _ _ _ h => h) hbd (by rfl) (fun W' hW' => ?_) ?_; rotate_left; · (have zx0 := cell_mvd hW' cx0; have zy0 := cell_mvd hW' cy0; have zy1 := cell_mvd hW' cy1; clear hW'; go_simp; first | done | with_reducible rfl)
    simp only [Act.put, nS1, nS2, nS3]
    refine takeH 6 (v := ?_) rfl (by kernel_rfl) (by kernel_rfl) (by kernel_rfl) (fun _ _ _ h => h) hbd (by rfl) (fun W' hW' => ?_) ?_; rotate_left; · (have zx0 := cell_mvd hW' cx0; have zy0 := cell_mvd hW' cy0; have zy1 := cell_mvd hW' cy1; clear hW'; go_simp; first | done | with_reducible rfl)
    simp only [Act.put, nS1, nS2, nS3]
    refine takeH 7 (v := ?_) rfl (by kernel_rfl) (by kernel_rfl) (by kernel_rfl) (fun _ _ _ h => h) hbd (by rfl) (fun W' hW' => ?_) ?_; rotate_left; · (have zx0 := cell_mvd hW' cx0; have zy0 := cell_mvd hW' cy0; have zy1 := cell_mvd hW' cy1; clear hW'; go_simp; first | done | with_reducible rfl)
    simp only [Act.put, nS1, nS2, nS3]
    refine takeH 9 (v := ?_) rfl (by kernel_rfl) (by kernel_rfl) (by kernel_rfl) (fun _ _ _ h => h) hbd (by rfl) (fun W' hW' => ?_) ?_; rotate_left; · (have zx0 := cell_mvd hW' cx0; have zy0 := cell_mvd hW' cy0; have zy1 := cell_mvd hW' cy1; clear hW'; go_simp; first | done | with_reducible rfl)
    simp only [Act.put, nS1, nS2, nS3]
    refine takeH 10 (v := ?_) rfl (by kernel_rfl) (by kernel_rfl) (by kernel_rfl) (fun _ _ _ h => h) hbd (by rfl) (fun W' hW' => ?_) ?_; rotate_left; · (have zx0 := cell_mvd hW' cx0; have zy0 := cell_mvd hW' cy0; have zy1 := cell_mvd hW' cy1; clear hW'; go_simp; first | done | with_reducible rfl)
    simp only [Act.put, nS1, nS2, nS3]
    refine takeH 13 (v := ?_) rfl (by kernel_rfl) (by kernel_rfl) (by kernel_rfl) (fun _ _ _ h => h) hbd (by rfl) (fun W' hW' => ?_) ?_; rotate_left; · (have zx0 := cell_mvd hW' cx0; have zy0 := cell_mvd hW' cy0; have zy1 := cell_mvd hW' cy1; clear hW'; go_simp; first | done | with_reducible rfl)
    simp only [Act.put, nS1, nS2, nS3]
    refine takeH 14 (v := ?_) rfl (by kernel_rfl) (by kernel_rfl) (by kernel_rfl) (fun _ _ _ h => h) hbd (by rfl) (fun W' hW' => ?_) ?_; rotate_left; · (have zx0 := cell_mvd hW' cx0; have zy0 := cell_mvd hW' cy0; have zy1 := cell_mvd hW' cy1; clear hW'; go_simp; first | done | with_reducible rfl)
    simp only [Act.put, nS1, nS2, nS3]
    refine takeH 15 (v := ?_) rfl (by kernel_rfl) (by kernel_rfl) (by kernel_rfl) (fun _ _ _ h => h) hbd (by rfl) (fun W' hW' => ?_) ?_; rotate_left; · (have zx0 := cell_mvd hW' cx0; have zy0 := cell_mvd hW' cy0; have zy1 := cell_mvd hW' cy1; clear hW'; go_simp; first | done | with_reducible rfl)
    simp only [Act.put, nS1, nS2, nS3]
    refine takeH 16 (v := ?_) rfl (by kernel_rfl) (by kernel_rfl) (by kernel_rfl) (fun _ _ _ h => h) hbd (by rfl) (fun W' hW' => ?_) ?_; rotate_left; · (have zx0 := cell_mvd hW' cx0; have zy0 := cell_mvd hW' cy0; have zy1 := cell_mvd hW' cy1; clear hW'; go_simp; first | done | with_reducible rfl)
    simp only [Act.put, nS1, nS2, nS3]
    refine takeH 17 (v := ?_) rfl (by kernel_rfl) (by kernel_rfl) (by kernel_rfl) (fun _ _ _ h => h) hbd (by rfl) (fun W' hW' => ?_) ?_; rotate_left; · (have zx0 := cell_mvd hW' cx0; have zy0 := cell_mvd hW' cy0; have zy1 := cell_mvd hW' cy1; clear hW'; go_simp; first | done | with_reducible rfl)
    simp only [Act.put, nS1, nS2, nS3]
    refine takeH 18 (v := ?_) rfl (by kernel_rfl) (by kernel_rfl) (by kernel_rfl) (fun _ _ _ h => h) hbd (by rfl) (fun W' hW' => ?_) ?_; rotate_left; · (have zx0 := cell_mvd hW' cx0; have zy0 := cell_mvd hW' cy0; have zy1 := cell_mvd hW' cy1; clear hW'; go_simp; first | done | with_reducible rfl)
    simp only [Act.put, nS1, nS2, nS3]
    refine takeH 19 (v := ?_) rfl (by kernel_rfl) (by kernel_rfl) (by kernel_rfl) (fun _ _ _ h => h) hbd (by rfl) (fun W' hW' => ?_) ?_; rotate_left; · (have zx0 := cell_mvd hW' cx0; have zy0 := cell_mvd hW' cy0; have zy1 := cell_mvd hW' cy1; clear hW'; go_simp; first | done | with_reducible rfl)
    simp only [Act.put, nS1, nS2, nS3]
    refine takeH 20 (v := ?_) rfl (by kernel_rfl) (by kernel_rfl) (by kernel_rfl) (fun _ _ _ h => h) hbd (by rfl) (fun W' hW' => ?_) ?_; rotate_left; · (have zx0 := cell_mvd hW' cx0; have zy0 := cell_mvd hW' cy0; have zy1 := cell_mvd hW' cy1; clear hW'; go_simp; first | done | with_reducible rfl)
    simp only [Act.put, nS1, nS2, nS3]
    refine takeH 22 (v := ?_) rfl (by kernel_rfl) (by kernel_rfl) (by kernel_rfl) (fun _ _ _ h => h) hbd (by rfl) (fun W' hW' => ?_) ?_; rotate_left; · (have zx0 := cell_mvd hW' cx0; have zy0 := cell_mvd hW' cy0; have zy1 := cell_mvd hW' cy1; clear hW'; go_simp; first | done | with_reducible rfl)
    simp only [Act.put, nS1, nS2, nS3]
    refine takeH 23 (v := ?_) rfl (by kernel_rfl) (by kernel_rfl) (by kernel_rfl) (fun _ _ _ h => h) hbd (by rfl) (fun W' hW' => ?_) ?_; rotate_left; · (have zx0 := cell_mvd hW' cx0; have zy0 := cell_mvd hW' cy0; have zy1 := cell_mvd hW' cy1; clear hW'; go_simp; first | done | with_reducible rfl)
    simp only [Act.put, nS1, nS2, nS3]
    refine relZ (P := Tryd.prog) [(8, 36), (11, 39), (12, 40), (21, 49), (24, 52), (25, 53), (26, 54), (27, 6)] (fun i => if i = 12 then [36, 39] else if i = 25 then [49, 52] else if i = 26 then [40, 53] else if i = 27 then [54] else []) (fun d v5 w5 => if d = 36 then PIn 2 [y0, x0] v5 w5 else if d = 39 then PIn 2 [1, p - 1] v5 w5 else if d = 40 then PIs n (sprV p n [y0, x0] [1, p - 1]) v5 w5 else if d = 49 then PIn 2 [y1, x0] v5 w5 else if d = 52 then PIn 2 [1, p - 1] v5 w5 else if d = 53 then PIs n (sprV p n [y1, x0] [1, p - 1]) v5 w5 else if d = 54 then PRs 2 [sprV p n [y0, x0] [1, p - 1], sprV p n [y1, x0] [1, p - 1]] v5 w5 else if d = 6 then PRs 2 [sprV p n [y0, x0] [1, p - 1], sprV p n [y1, x0] [1, p - 1]] v5 w5 else True) (by kernel_rfl) (fun d => Stb.ite (PIn.stb _ _) (Stb.ite (PIn.stb _ _) (Stb.ite (PIs.stb _ _) (Stb.ite (PIn.stb _ _) (Stb.ite (PIn.stb _ _) (Stb.ite (PIs.stb _ _) (Stb.ite (PRs.stb _ _) (Stb.ite (PRs.stb _ _) (Stb.true))))))))) (fun w' hw' => below_trans hbd hw' hbd.size) ?steps3 ?fin3
    case steps3 =>
      refine ⟨⟨_, rfl, fun xs w5 hb5 hd K hK => ?_⟩, ⟨_, rfl, fun xs w5 hb5 hd K hK => ?_⟩, ⟨_, rfl, fun xs w5 hb5 hd K hK => ?_⟩, ⟨_, rfl, fun xs w5 hb5 hd K hK => ?_⟩, ⟨_, rfl, fun xs w5 hb5 hd K hK => ?_⟩, ⟨_, rfl, fun xs w5 hb5 hd K hK => ?_⟩, ⟨_, rfl, fun xs w5 hb5 hd K hK => ?_⟩, ⟨_, rfl, fun xs w5 hb5 hd K hK => ?_⟩, trivial⟩
      · simp only [putZ, List.foldl_cons, List.foldl_nil, Act.put, nS1, nS2, nS3] at hK ⊢
        go_simp
        exact hK _ _ (below_alloc _ _) ⟨_, 2, rfl, rd_laidC w5 [y0, x0] (by unfold maxLen; simp)⟩
      · simp only [putZ, List.foldl_cons, List.foldl_nil, Act.put, nS1, nS2, nS3] at hK ⊢
        go_simp
        exact hK _ _ (below_alloc _ _) ⟨_, 2, rfl, rd_laidC w5 [1, p - 1] (by unfold maxLen; simp)⟩
      · obtain ⟨B1, c1, e1, r1⟩ := (hd 36 (by decide) : PIn 2 [y0, x0] (xs 36) w5)
        obtain ⟨B2, c2, e2, r2⟩ := (hd 39 (by decide) : PIn 2 [1, p - 1] (xs 39) w5)
        simp only [putZ, List.foldl_cons, List.foldl_nil, Act.put, nS1, nS2, nS3] at hK ⊢
        simp only [e1, e2] at hK ⊢
        refine wp_callZ (f := ?f_3) (args := ?args_3) ?hr_3 ?hc_3
        case hr_3 => (go_simp; first | done | with_reducible rfl | (constructor <;> with_reducible rfl))
        case hc_3 =>
          refine (dnRow_any p n 2 B1 B2 c1 c2 [y0, x0] [1, p - 1] w5 r1 r2 rfl rfl (fun x hx => by simp at hx; omega) (fun x hx => by simp at hx; omega) h0 h97 hn (by omega)).mono ?_
          rintro e w6 ⟨B3, c3, rfl, h3, _, hb6⟩
          have hl3 : (sprV p n [y0, x0] [1, p - 1]).length = n := sprTo_length _ _ _ _ _
          rw [hl3]
          exact ⟨_, rfl, hK _ _ hb6 ⟨B3, c3, rfl, h3⟩⟩
      · simp only [putZ, List.foldl_cons, List.foldl_nil, Act.put, nS1, nS2, nS3] at hK ⊢
        go_simp
        exact hK _ _ (below_alloc _ _) ⟨_, 2, rfl, rd_laidC w5 [y1, x0] (by unfold maxLen; simp)⟩
      · simp only [putZ, List.foldl_cons, List.foldl_nil, Act.put, nS1, nS2, nS3] at hK ⊢
        go_simp
        exact hK _ _ (below_alloc _ _) ⟨_, 2, rfl, rd_laidC w5 [1, p - 1] (by unfold maxLen; simp)⟩
      · obtain ⟨B1, c1, e1, r1⟩ := (hd 49 (by decide) : PIn 2 [y1, x0] (xs 49) w5)
        obtain ⟨B2, c2, e2, r2⟩ := (hd 52 (by decide) : PIn 2 [1, p - 1] (xs 52) w5)
        simp only [putZ, List.foldl_cons, List.foldl_nil, Act.put, nS1, nS2, nS3] at hK ⊢
        simp only [e1, e2] at hK ⊢
        refine wp_callZ (f := ?f_6) (args := ?args_6) ?hr_6 ?hc_6
        case hr_6 => (go_simp; first | done | with_reducible rfl | (constructor <;> with_reducible rfl))
        case hc_6 =>
          refine (dnRow_any p n 2 B1 B2 c1 c2 [y1, x0] [1, p - 1] w5 r1 r2 rfl rfl (fun x hx => by simp at hx; omega) (fun x hx => by simp at hx; omega) h0 h97 hn (by omega)).mono ?_
          rintro e w6 ⟨B3, c3, rfl, h3, _, hb6⟩
          have hl3 : (sprV p n [y1, x0] [1, p - 1]).length = n := sprTo_length _ _ _ _ _
          rw [hl3]
          exact ⟨_, rfl, hK _ _ hb6 ⟨B3, c3, rfl, h3⟩⟩
      · obtain ⟨B0, c0, e0, r0⟩ := (hd 40 (by decide) : PIs n (sprV p n [y0, x0] [1, p - 1]) (xs 40) w5)
        obtain ⟨B1, c1, e1, r1⟩ := (hd 53 (by decide) : PIs n (sprV p n [y1, x0] [1, p - 1]) (xs 53) w5)
        have l0 : (sprV p n [y0, x0] [1, p - 1]).length = n := sprTo_length _ _ _ _ _
        have l1 : (sprV p n [y1, x0] [1, p - 1]).length = n := sprTo_length _ _ _ _ _
        simp only [putZ, List.foldl_cons, List.foldl_nil, Act.put, nS1, nS2, nS3] at hK ⊢
        simp only [e0, e1] at hK ⊢
        go_simp
        have hp := PRs.laid w5 ([(B0, c0, sprV p n [y0, x0] [1, p - 1]), (B1, c1, sprV p n [y1, x0] [1, p - 1])] : List Hd) (fun x hx => by
          simp only [List.mem_cons, List.not_mem_nil, or_false] at hx
          rcases hx with rfl | rfl
          · exact r0
          · exact r1) (by unfold maxLen; simp)
        have e5 : (([(B0, c0, sprV p n [y0, x0] [1, p - 1]), (B1, c1, sprV p n [y1, x0] [1, p - 1])] : List Hd).map Hd.val).toArray = #[.slice B0 n c0, .slice B1 n c1] := by simp [Hd.val, l0, l1]
        rw [e5] at hp
        exact hK _ _ (below_alloc _ _) hp
      · have h5 := (hd 54 (by decide) : PRs 2 [sprV p n [y0, x0] [1, p - 1], sprV p n [y1, x0] [1, p - 1]] (xs 54) w5)
        simp only [putZ, List.foldl_cons, List.foldl_nil, Act.put, nS1, nS2, nS3] at hK ⊢
        go_simp
        exact hK _ _ (Below.refl _ _) h5
    case fin3 =>
      intro xs w6 hb6 hR
      have h6 := (hR (27, 6) (by simp) : PRs 2 [sprV p n [y0, x0] [1, p - 1], sprV p n [y1, x0] [1, p - 1]] (xs 6) w6)
      have hbf := below_trans hB0_h.out (below_trans hbd hb6 hbd.size) hB0_h.out.size
      clear hR cx0 cy0 cy1; have h6_h := Lib.hid h6; have hbf_h := Lib.hid hbf; clear h6 hbf
      simp only [putZ, List.foldl_cons, List.foldl_nil, Act.put, nS1, nS2, nS3]
      go_wp2_with (fail)
      go_ret
      exact ⟨_, rfl, h6_h.out, hbf_h.out⟩
  · have hll : l.length = 1 := by have h1 := congrArg Prod.fst hty; have h2 : (l.length : Int) = 1 := h1; omega
    have hml : m.length = 0 := by have h1 := congrArg Prod.snd hty; have h2 : (m.length : Int) = 0 := h1; omega
    clear hty hk
    obtain ⟨x0, rfl⟩ := len_one hll
    obtain rfl : m = [] := List.eq_nil_of_length_eq_zero hml
    have hM : dnRowsM p n (4, v, [x0], []) = [] := rfl
    rw [hM]
    clear hM
    obtain ⟨ad, _, rfl, ex0, cx0⟩ := hA.at_ (j := 0) (by simp)
    obtain rfl := Option.some.inj ex0
    have cx0 : w.cell? ad = some (.int .i64 x0) := cx0
    have had0 : ad.add 0 = ad := rfl
    have qx0 := hat x0 (by simp)
    clear hat
    obtain ⟨W, hW⟩ : ∃ W, W = w.alloc (.cells #[.int .i64 4, .int .i64 v, .slice (some ad) 1 a, .slice B 0 b] tEd) := ⟨_, rfl⟩
    have bW := below_alloc w (.cells #[.int .i64 4, .int .i64 v, .slice (some ad) 1 a, .slice B 0 b] tEd)
    have k0 := heap_alloc_new w (.cells #[.int .i64 4, .int .i64 v, .slice (some ad) 1 a, .slice B 0 b] tEd)
    rw [← hW] at bW k0
    have cx0 := cell_mvd bW cx0
    obtain ⟨⟨g0, g1, g2, g3⟩, f0, f1, f2, f3⟩ := box4 k0
    have bW_h := Lib.hid bW; have k0_h := Lib.hid k0; clear bW k0
    go_enter Tryd.func134, Tryd.ntmps134
    go_upto_region 1 with (fail)
    rw [← hW]
    clear hW
    go_quiet (fail)
    obtain ⟨Wd, hWd⟩ : ∃ Wd, Wd = W.drewN nq := ⟨_, rfl⟩
    have hbd : Below W.heap.size W Wd := by rw [hWd]; exact below_drewN (Below.refl _ _) nq
    rw [← hWd]
    clear hWd g0 g1 g2 g3 f0 f1 f2 f3
    replace k0_h := Lib.hid (box_below k0_h.out hbd)
    have cx0 := cell_mvd hbd cx0
    have hB0 := below_trans bW_h.out hbd bW_h.out.size
    clear hbd; have hB0_h := Lib.hid hB0; clear hB0
    obtain ⟨⟨g0, g1, g2, g3⟩, f0, f1, f2, f3⟩ := box4 k0_h.out
    go_wp2_with (fail)
    go_ret
    exact ⟨_, rfl, ⟨none, 0, [], rfl, rfl, rfl, ⟨fun i h hh => by simp at hh, fun h hh => by cases hh⟩, fun h hh => by cases hh⟩, hB0_h.out⟩
  · have hll : l.length = 2 := by have h1 := congrArg Prod.fst hty; have h2 : (l.length : Int) = 2 := h1; omega
    have hml : m.length = 1 := by have h1 := congrArg Prod.snd hty; have h2 : (m.length : Int) = 1 := h1; omega
    clear hty hk
    obtain ⟨x0, x1, rfl⟩ := len_two hll
    obtain ⟨y0, rfl⟩ := len_one hml
    have hM : dnRowsM p n (5, v, [x0, x1], [y0]) = [sprV p n [y0, x0, x1] [1, p - 1, p - 1]] := rfl
    rw [hM]
    clear hM
    obtain ⟨ad, _, rfl, ex0, cx0⟩ := hA.at_ (j := 0) (by simp)
    obtain rfl := Option.some.inj ex0
    have cx0 : w.cell? ad = some (.int .i64 x0) := cx0
    have had0 : ad.add 0 = ad := rfl
    obtain ⟨ad', _, e', ex1, cx1⟩ := hA.at_ (j := 1) (by simp)
    obtain rfl := Option.some.inj e'
    obtain rfl := Option.some.inj ex1
    have cx1 : w.cell? ⟨ad.block, ad.off + 1, none⟩ = some (.int .i64 x1) := cx1
    obtain ⟨bd, _, rfl, ey0, cy0⟩ := hB.at_ (j := 0) (by simp)
    obtain rfl := Option.some.inj ey0
    have cy0 : w.cell? bd = some (.int .i64 y0) := cy0
    have hbd0 : bd.add 0 = bd := rfl
    have qx0 := hat x0 (by simp)
    have qx1 := hat x1 (by simp)
    have qy0 := hat y0 (by simp)
    clear hat
    obtain ⟨W, hW⟩ : ∃ W, W = w.alloc (.cells #[.int .i64 5, .int .i64 v, .slice (some ad) 2 a, .slice (some bd) 1 b] tEd) := ⟨_, rfl⟩
    have bW := below_alloc w (.cells #[.int .i64 5, .int .i64 v, .slice (some ad) 2 a, .slice (some bd) 1 b] tEd)
    have k0 := heap_alloc_new w (.cells #[.int .i64 5, .int .i64 v, .slice (some ad) 2 a, .slice (some bd) 1 b] tEd)
    rw [← hW] at bW k0
    have cx0 := cell_mvd bW cx0
    have cx1 := cell_mvd bW cx1
    have cy0 := cell_mvd bW cy0
    obtain ⟨⟨g0, g1, g2, g3⟩, f0, f1, f2, f3⟩ := box4 k0
    have bW_h := Lib.hid bW; have k0_h := Lib.hid k0; clear bW k0
    go_enter Tryd.func134, Tryd.ntmps134
    go_upto_region 1 with (fail)
    rw [← hW]
    clear hW
    go_quiet (fail)
    obtain ⟨Wd, hWd⟩ : ∃ Wd, Wd = W.drewN nq := ⟨_, rfl⟩
    have hbd : Below W.heap.size W Wd := by rw [hWd]; exact below_drewN (Below.refl _ _) nq
    rw [← hWd]
    clear hWd g0 g1 g2 g3 f0 f1 f2 f3
    replace k0_h := Lib.hid (box_below k0_h.out hbd)
    have cx0 := cell_mvd hbd cx0
    have cx1 := cell_mvd hbd cx1
    have cy0 := cell_mvd hbd cy0
    have hB0 := below_trans bW_h.out hbd bW_h.out.size
    clear hbd; have hB0_h := Lib.hid hB0; clear hB0
    obtain ⟨⟨g0, g1, g2, g3⟩, f0, f1, f2, f3⟩ := box4 k0_h.out
    go_wp2_with (fail)
    clear g0 g1 g2 g3 f0 f1 f2 f3
    have hbd : Below Wd.heap.size Wd Wd.drew := below_drewN (Below.refl _ _) 1
    refine beginH (fun w' => Below Wd.heap.size Wd w') (by kernel_rfl) ?_
    generalize Wd.drew = W1 at hbd ⊢
    refine takeH 0 (v := ?_) rfl (by kernel_rfl) (by kernel_rfl) (by kernel_rfl) (fun _ _ _ h => h) hbd (by rfl) (fun W' hW' => ?_) ?_; rotate_left; · (have zx0 := cell_mvd hW' cx0; have zx1 := cell_mvd hW' cx1; have zy0 := cell_mvd hW' cy0; clear hW'; go_simp; first | done | with_reducible rfl)
    simp only [Act.put, nS1, nS2, nS3]
    refine takeH 1 (v := ?_) rfl (by kernel_rfl) (by kernel_rfl) (by kernel_rfl) (fun _ _ _ h => h) hbd (by rfl) (fun W' hW' => ?_) ?_; rotate_left; · (have zx0 := cell_mvd hW' cx0; have zx1 := cell_mvd hW' cx1; have zy0 := cell_mvd hW' cy0; clear hW'; go_simp; first | done | with_reducible rfl)
    simp only [Act.put, nS1, nS2, nS3]
    refine takeH 2 (v := ?_) rfl (by kernel_rfl) (by kernel_rfl) (by kernel_rfl) (fun _ _ _ h => h) hbd (by rfl) (fun W' hW' => ?_) ?_; rotate_left; · (have zx0 := cell_mvd hW' cx0; have zx1 := cell_mvd hW' cx1; have zy0 := cell_mvd hW' cy0; clear hW'; go_simp; first | done | with_reducible rfl)
    simp only [Act.put, nS1, nS2, nS3]
    refine takeH 3 (v := ?_) rfl (by kernel_rfl) (by kernel_rfl) (by kernel_rfl) (fun _ _ _ h => h) hbd (by rfl) (fun W' hW' => ?_) ?_; rotate_left; · (have zx0 := cell_mvd hW' cx0; have zx1 := cell_mvd hW' cx1; have zy0 := cell_mvd hW' cy0; clear hW'; go_simp; first | done | with_reducible rfl)
    simp only [Act.put, nS1, nS2, nS3]
    refine takeH 4 (v := ?_) rfl (by kernel_rfl) (by kernel_rfl) (by kernel_rfl) (fun _ _ _ h => h) hbd (by rfl) (fun W' hW' => ?_) ?_; rotate_left; · (have zx0 := cell_mvd hW' cx0; have zx1 := cell_mvd hW' cx1; have zy0 := cell_mvd hW' cy0; clear hW'; go_simp; first | done | with_reducible rfl)
    simp only [Act.put, nS1, nS2, nS3]
    refine takeH 5 (v := ?_) rfl (by kernel_rfl) (by kernel_rfl) (by kernel_rfl) (fun _ _ _ h => h) hbd (by rfl) (fun W' hW' => ?_) ?_; rotate_left; · (have zx0 := cell_mvd hW' cx0; have zx1 := cell_mvd hW' cx1; have zy0 := cell_mvd hW' cy0; clear hW'; go_simp; first | done | with_reducible rfl)
    simp only [Act.put, nS1, nS2, nS3]
    refine takeH 6 (v := ?_) rfl (by kernel_rfl) (by kernel_rfl) (by kernel_rfl) (fun _ _ _ h => h) hbd (by rfl) (fun W' hW' => ?_) ?_; rotate_left; · (have zx0 := cell_mvd hW' cx0; have zx1 := cell_mvd hW' cx1; have zy0 := cell_mvd hW' cy0; clear hW'; go_simp; first | done | with_reducible rfl)
    simp only [Act.put, nS1, nS2, nS3]
    refine takeH 7 (v := ?_) rfl (by kernel_rfl) (by kernel_rfl) (by kernel_rfl) (fun _ _ _ h => h) hbd (by rfl) (fun W' hW' => ?_) ?_; rotate_left; · (have zx0 := cell_mvd hW' cx0; have zx1 := cell_mvd hW' cx1; have zy0 := cell_mvd hW' cy0; clear hW'; go_simp; first | done | with_reducible rfl)
    simp only [Act.put, nS1, nS2, nS3]
    refine takeH 8 (v := ?_) rfl (by kernel_rfl) (by kernel_rfl) (by kernel_rfl) (fun _ _ _ h => h) hbd (by rfl) (fun W' hW' => ?_) ?_; rotate_left; · (have zx0 := cell_mvd hW' cx0; have zx1 := cell_mvd hW' cx1; have zy0 := cell_mvd hW' cy0; clear hW'; go_simp; first | done | with_reducible rfl)
    simp only [Act.put, nS1, nS2, nS3]
    refine takeH 9 (v := ?_) rfl (by kernel_rfl) (by kernel_rfl) (by kernel_rfl) (fun _ _ _ h => h) hbd (by rfl) (fun W' hW' => ?_) ?_; rotate_left; · (have zx0 := cell_mvd hW' cx0; have zx1 := cell_mvd hW' cx1; have zy0 := cell_mvd hW' cy0; clear hW'; go_simp; first | done | with_reducible rfl)
    simp only [Act.put, nS1, nS2, nS3]
    refine takeH 10 (v := ?_) rfl (by kernel_rfl) (by kernel_rfl) (by kernel_rfl) (fun _ _ _ h => h) hbd (by rfl) (fun W' hW' => ?_) ?_; rotate_left; · (have zx0 := cell_mvd hW' cx0; have zx1 := cell_mvd hW' cx1; have zy0 := cell_mvd hW' cy0; clear hW'; go_simp; first | done | with_reducible rfl)
    simp only [Act.put, nS1, nS2, nS3]
    refine takeH 12 (v := ?_) rfl (by kernel_rfl) (by kernel_rfl) (by kernel_rfl) (fun _ _ _ h => h) hbd (by rfl) (fun W' hW' => ?_) ?_; rotate_left; · (have zx0 := cell_mvd hW' cx0; have zx1 := cell_mvd hW' cx1; have zy0 := cell_mvd hW' cy0; clear hW'; go_simp; first | done | with_reducible rfl)
    simp only [Act.put, nS1, nS2, nS3]
    refine takeH 13 (v := ?_) rfl (by kernel_rfl) (by kernel_rfl) (by kernel_rfl) (fun _ _ _ h => h) hbd (by rfl) (fun W' hW' => ?_) ?_; rotate_left; · (have zx0 := cell_mvd hW' cx0; have zx1 := cell_mvd hW' cx1; have zy0 := cell_mvd hW' cy0; clear hW'; go_simp; first | done | with_reducible rfl)
    simp only [Act.put, nS1, nS2, nS3]
    refine takeH 14 (v := ?_) rfl (by kernel_rfl) (by kernel_rfl) (by kernel_rfl) (fun _ _ _ h => h) hbd (by rfl) (fun W' hW' => ?_) ?_; rotate_left; · (have zx0 := cell_mvd hW' cx0; have zx1 := cell_mvd hW' cx1; have zy0 := cell_mvd hW' cy0; clear hW'; go_simp; first | done | with_reducible rfl)
    simp only [Act.put, nS1, nS2, nS3]
    refine takeH 15 (v := ?_) rfl (by kernel_rfl) (by kernel_rfl) (by kernel_rfl) (fun _ _ _ h => h) hbd (by rfl) (fun W' hW' => ?_) ?_; rotate_left; · (have zx0 := cell_mvd hW' cx0; have zx1 := cell_mvd hW' cx1; have zy0 := cell_mvd hW' cy0; clear hW'; go_simp; first | done | with_reducible rfl)
    simp only [Act.put, nS1, nS2, nS3]
    refine relZ (P := Tryd.prog) [(11, 68), (16, 73), (17, 74), (18, 75), (19, 6)] (fun i => if i = 17 then [68, 73] else if i = 18 then [74] else if i = 19 then [75] else []) (fun d v5 w5 => if d = 68 then PIn 3 [y0, x0, x1] v5 w5 else if d = 73 then PIn 3 [1, p - 1, p - 1] v5 w5 else if d = 74 then PIs n (sprV p n [y0, x0, x1] [1, p - 1, p - 1]) v5 w5 else if d = 75 then PRs 1 [sprV p n [y0, x0, x1] [1, p - 1, p - 1]] v5 w5 else if d = 6 then PRs 1 [sprV p n [y0, x0, x1] [1, p - 1, p - 1]] v5 w5 else True) (by kernel_rfl) (fun d => Stb.ite (PIn.stb _ _) (Stb.ite (PIn.stb _ _) (Stb.ite (PIs.stb _ _) (Stb.ite (PRs.stb _ _) (Stb.ite (PRs.stb _ _) (Stb.true)))))) (fun w' hw' => below_trans hbd hw' hbd.size) ?steps5 ?fin5
    case steps5 =>
      refine ⟨⟨_, rfl, fun xs w5 hb5 hd K hK => ?_⟩, ⟨_, rfl, fun xs w5 hb5 hd K hK => ?_⟩, ⟨_, rfl, fun xs w5 hb5 hd K hK => ?_⟩, ⟨_, rfl, fun xs w5 hb5 hd K hK => ?_⟩, ⟨_, rfl, fun xs w5 hb5 hd K hK => ?_⟩, trivial⟩
      · simp only [putZ, List.foldl_cons, List.foldl_nil, Act.put, nS1, nS2, nS3] at hK ⊢
        go_simp
        exact hK _ _ (below_alloc _ _) ⟨_, 3, rfl, rd_laidC w5 [y0, x0, x1] (by unfold maxLen; simp)⟩
      · simp only [putZ, List.foldl_cons, List.foldl_nil, Act.put, nS1, nS2, nS3] at hK ⊢
        go_simp
        exact hK _ _ (below_alloc _ _) ⟨_, 3, rfl, rd_laidC w5 [1, p - 1, p - 1] (by unfold maxLen; simp)⟩
      · obtain ⟨B1, c1, e1, r1⟩ := (hd 68 (by decide) : PIn 3 [y0, x0, x1] (xs 68) w5)
        obtain ⟨B2, c2, e2, r2⟩ := (hd 73 (by decide) : PIn 3 [1, p - 1, p - 1] (xs 73) w5)
        simp only [putZ, List.foldl_cons, List.foldl_nil, Act.put, nS1, nS2, nS3] at hK ⊢
        simp only [e1, e2] at hK ⊢
        refine wp_callZ (f := ?f_11) (args := ?args_11) ?hr_11 ?hc_11
        case hr_11 => (go_simp; first | done | with_reducible rfl | (constructor <;> with_reducible rfl))
        case hc_11 =>
          refine (dnRow_any p n 3 B1 B2 c1 c2 [y0, x0, x1] [1, p - 1, p - 1] w5 r1 r2 rfl rfl (fun x hx => by simp at hx; omega) (fun x hx => by simp at hx; omega) h0 h97 hn (by omega)).mono ?_
          rintro e w6 ⟨B3, c3, rfl, h3, _, hb6⟩
          have hl3 : (sprV p n [y0, x0, x1] [1, p - 1, p - 1]).length = n := sprTo_length _ _ _ _ _
          rw [hl3]
          exact ⟨_, rfl, hK _ _ hb6 ⟨B3, c3, rfl, h3⟩⟩
      · obtain ⟨B0, c0, e0, r0⟩ := (hd 74 (by decide) : PIs n (sprV p n [y0, x0, x1] [1, p - 1, p - 1]) (xs 74) w5)
        have l0 : (sprV p n [y0, x0, x1] [1, p - 1, p - 1]).length = n := sprTo_length _ _ _ _ _
        simp only [putZ, List.foldl_cons, List.foldl_nil, Act.put, nS1, nS2, nS3] at hK ⊢
        simp only [e0] at hK ⊢
        go_simp
        have hp := PRs.laid w5 ([(B0, c0, sprV p n [y0, x0, x1] [1, p - 1, p - 1])] : List Hd) (fun x hx => by
          simp only [List.mem_cons, List.not_mem_nil, or_false] at hx
          subst hx
          exact r0) (by unfold maxLen; simp)
        have e5 : (([(B0, c0, sprV p n [y0, x0, x1] [1, p - 1, p - 1])] : List Hd).map Hd.val).toArray = #[.slice B0 n c0] := by simp [Hd.val, l0]
        rw [e5] at hp
        exact hK _ _ (below_alloc _ _) hp
      · have h5 := (hd 75 (by decide) : PRs 1 [sprV p n [y0, x0, x1] [1, p - 1, p - 1]] (xs 75) w5)
        simp only [putZ, List.foldl_cons, List.foldl_nil, Act.put, nS1, nS2, nS3] at hK ⊢
        go_simp
        exact hK _ _ (Below.refl _ _) h5
    case fin5 =>
      intro xs w6 hb6 hR
      have h6 := (hR (19, 6) (by simp) : PRs 1 [sprV p n [y0, x0, x1] [1, p - 1, p - 1]] (xs 6) w6)
      have hbf := below_trans hB0_h.out (below_trans hbd hb6 hbd.size) hB0_h.out.size
      clear hR cx0 cx1 cy0; have h6_h := Lib.hid h6; have hbf_h := Lib.hid hbf; clear h6 hbf
      simp only [putZ, List.foldl_cons, List.foldl_nil, Act.put, nS1, nS2, nS3]
      go_wp2_with (fail)
      go_ret
      exact ⟨_, rfl, h6_h.out, hbf_h.out⟩
  · have hll : l.length = 0 := by have h1 := congrArg Prod.fst hty; have h2 : (l.length : Int) = 0 := h1; omega
    have hml : m.length = 1 := by have h1 := congrArg Prod.snd hty; have h2 : (m.length : Int) = 1 := h1; omega
    clear hty hk
    obtain rfl : l = [] := List.eq_nil_of_length_eq_zero hll
    obtain ⟨y0, rfl⟩ := len_one hml
    have hM : dnRowsM p n (6, v, [], [y0]) = [sprV p n [y0] [1]] := rfl
    rw [hM]
    clear hM
    obtain ⟨bd, _, rfl, ey0, cy0⟩ := hB.at_ (j := 0) (by simp)
    obtain rfl := Option.some.inj ey0
    have cy0 : w.cell? bd = some (.int .i64 y0) := cy0
    have hbd0 : bd.add 0 = bd := rfl
    have qy0 := hat y0 (by simp)
    clear hat
    obtain ⟨W, hW⟩ : ∃ W, W = w.alloc (.cells #[.int .i64 6, .int .i64 v, .slice A 0 a, .slice (some bd) 1 b] tEd) := ⟨_, rfl⟩
    have bW := below_alloc w (.cells #[.int .i64 6, .int .i64 v, .slice A 0 a, .slice (some bd) 1 b] tEd)
    have k0 := heap_alloc_new w (.cells #[.int .i64 6, .int .i64 v, .slice A 0 a, .slice (some bd) 1 b] tEd)
    rw [← hW] at bW k0
    have cy0 := cell_mvd bW cy0
    obtain ⟨⟨g0, g1, g2, g3⟩, f0, f1, f2, f3⟩ := box4 k0
    have bW_h := Lib.hid bW; have k0_h := Lib.hid k0; clear bW k0
    go_enter Tryd.func134, Tryd.ntmps134
    go_upto_region 1 with (fail)
    rw [← hW]
    clear hW
    go_quiet (fail)
    obtain ⟨Wd, hWd⟩ : ∃ Wd, Wd = W.drewN nq := ⟨_, rfl⟩
    have hbd : Below W.heap.size W Wd := by rw [hWd]; exact below_drewN (Below.refl _ _) nq
    rw [← hWd]
    clear hWd g0 g1 g2 g3 f0 f1 f2 f3
    replace k0_h := Lib.hid (box_below k0_h.out hbd)
    have cy0 := cell_mvd hbd cy0
    have hB0 := below_trans bW_h.out hbd bW_h.out.size
    clear hbd; have hB0_h := Lib.hid hB0; clear hB0
    obtain ⟨⟨g0, g1, g2, g3⟩, f0, f1, f2, f3⟩ := box4 k0_h.out
    go_wp2_with (fail)
    have r1 := (rd_laidC Wd [y0] (by unfold maxLen; simp)).below (below_alloc _ (.cells (ints [1]).toArray 3))
    have r2 := rd_laidC (Wd.alloc (.cells (ints [y0]).toArray 3)) [1] (by unfold maxLen; simp)
    simp only [World.size_alloc] at r2
    have b12 := below_trans (below_alloc Wd (.cells (ints [y0]).toArray 3)) (below_alloc _ (.cells (ints [1]).toArray 3)) (below_alloc Wd (.cells (ints [y0]).toArray 3)).size
    have hC := dnRow_any p n 1 _ _ 1 1 [y0] [1] _ r1 r2 rfl rfl (fun x hx => by simp at hx; omega) (fun x hx => by simp at hx; omega) h0 h97 hn (by omega)
    refine (hC).mono ?_
    rintro e w6 ⟨B3, c3, rfl, h3, _, hb6⟩
    have hl3 : (sprV p n [y0] [1]).length = n := sprTo_length _ _ _ _ _
    rw [hl3]
    have hbf := below_trans hB0_h.out (below_trans b12 hb6 b12.size) hB0_h.out.size
    have hp := PRs.laid w6 ([(B3, c3, sprV p n [y0] [1])] : List Hd) (fun x hx => by
      simp only [List.mem_cons, List.not_mem_nil, or_false] at hx
      subst hx
      exact h3) (by unfold maxLen; simp)
    have e5 : (([(B3, c3, sprV p n [y0] [1])] : List Hd).map Hd.val).toArray = #[.slice B3 n c3] := by simp [Hd.val, hl3]
    rw [e5] at hp
    have hbg := below_trans hbf (below_alloc w6 (.cells #[.slice B3 n c3] 33)) hbf.size
    clear hC r1 r2 b12 h3 hb6 e5; have hp_h := Lib.hid hp; have hbg_h := Lib.hid hbg; have hbf_h := Lib.hid hbf; clear hp hbg hbf
    go_wp2_with (fail)
    go_ret
    exact ⟨_, rfl, hp_h.out, hbg_h.out⟩
  · have hll : l.length = 1 := by have h1 := congrArg Prod.fst hty; have h2 : (l.length : Int) = 1 := h1; omega
    have hml : m.length = 1 := by have h1 := congrArg Prod.snd hty; have h2 : (m.length : Int) = 1 := h1; omega
    clear hty hk
    obtain ⟨x0, rfl⟩ := len_one hll
    obtain ⟨y0, rfl⟩ := len_one hml
    have hM : dnRowsM p n (7, v, [x0], [y0]) = [sprV p n [y0, x0] [1, -v % p]] := rfl
    rw [hM]
    clear hM
    obtain ⟨ad, _, rfl, ex0, cx0⟩ := hA.at_ (j := 0) (by simp)
    obtain rfl := Option.some.inj ex0
    have cx0 : w.cell? ad = some (.int .i64 x0) := cx0
    have had0 : ad.add 0 = ad := rfl
    obtain ⟨bd, _, rfl, ey0, cy0⟩ := hB.at_ (j := 0) (by simp)
    obtain rfl := Option.some.inj ey0
    have cy0 : w.cell? bd = some (.int .i64 y0) := cy0
    have hbd0 : bd.add 0 = bd := rfl
    have qx0 := hat x0 (by simp)
    have qy0 := hat y0 (by simp)
    clear hat
    obtain ⟨W, hW⟩ : ∃ W, W = w.alloc (.cells #[.int .i64 7, .int .i64 v, .slice (some ad) 1 a, .slice (some bd) 1 b] tEd) := ⟨_, rfl⟩
    have bW := below_alloc w (.cells #[.int .i64 7, .int .i64 v, .slice (some ad) 1 a, .slice (some bd) 1 b] tEd)
    have k0 := heap_alloc_new w (.cells #[.int .i64 7, .int .i64 v, .slice (some ad) 1 a, .slice (some bd) 1 b] tEd)
    rw [← hW] at bW k0
    have cx0 := cell_mvd bW cx0
    have cy0 := cell_mvd bW cy0
    obtain ⟨⟨g0, g1, g2, g3⟩, f0, f1, f2, f3⟩ := box4 k0
    have bW_h := Lib.hid bW; have k0_h := Lib.hid k0; clear bW k0
    go_enter Tryd.func134, Tryd.ntmps134
    go_upto_region 1 with (fail)
    rw [← hW]
    clear hW
    go_quiet (fail)
    obtain ⟨Wd, hWd⟩ : ∃ Wd, Wd = W.drewN nq := ⟨_, rfl⟩
    have hbd : Below W.heap.size W Wd := by rw [hWd]; exact below_drewN (Below.refl _ _) nq
    rw [← hWd]
    clear hWd g0 g1 g2 g3 f0 f1 f2 f3
    replace k0_h := Lib.hid (box_below k0_h.out hbd)
    have cx0 := cell_mvd hbd cx0
    have cy0 := cell_mvd hbd cy0
    have hB0 := below_trans bW_h.out hbd bW_h.out.size
    clear hbd; have hB0_h := Lib.hid hB0; clear hB0
    obtain ⟨⟨g0, g1, g2, g3⟩, f0, f1, f2, f3⟩ := box4 k0_h.out
    go_wp2_with (fail)
    clear g0  g2 g3 f0 f1 f2 f3
    have hbd : Below Wd.heap.size Wd Wd.drew := below_drewN (Below.refl _ _) 1
    refine beginH (fun w' => Below Wd.heap.size Wd w') (by kernel_rfl) ?_
    generalize Wd.drew = W1 at hbd ⊢
    refine takeH 0 (v := ?_) rfl (by kernel_rfl) (by kernel_rfl) (by kernel_rfl) (fun _ _ _ h => h) hbd (by rfl) (fun W' hW' => ?_) ?_; rotate_left; · (obtain ⟨⟨b0, b1, b2, b3⟩, d0, d1, d2, d3⟩ := box4 (box_below k0_h.out hW'); have zx0 := cell_mvd hW' cx0; have zy0 := cell_mvd hW' cy0; clear hW'; go_simp; first | done | with_reducible rfl)
    simp only [Act.put, nS1, nS2, nS3]
    refine takeH 1 (v := ?_) rfl (by kernel_rfl) (by kernel_rfl) (by kernel_rfl) (fun _ _ _ h => h) hbd (by rfl) (fun W' hW' => ?_) ?_; rotate_left; · (obtain ⟨⟨b0, b1, b2, b3⟩, d0, d1, d2, d3⟩ := box4 (box_below k0_h.out hW'); have zx0 := cell_mvd hW' cx0; have zy0 := cell_mvd hW' cy0; clear hW'; go_simp; first | done | with_reducible rfl)
    simp only [Act.put, nS1, nS2, nS3]
    refine takeH 2 (v := ?_) rfl (by kernel_rfl) (by kernel_rfl) (by kernel_rfl) (fun _ _ _ h => h) hbd (by rfl) (fun W' hW' => ?_) ?_; rotate_left; · (obtain ⟨⟨b0, b1, b2, b3⟩, d0, d1, d2, d3⟩ := box4 (box_below k0_h.out hW'); have zx0 := cell_mvd hW' cx0; have zy0 := cell_mvd hW' cy0; clear hW'; go_simp; first | done | with_reducible rfl)
    simp only [Act.put, nS1, nS2, nS3]
    refine takeH 3 (v := ?_) rfl (by kernel_rfl) (by kernel_rfl) (by kernel_rfl) (fun _ _ _ h => h) hbd (by rfl) (fun W' hW' => ?_) ?_; rotate_left; · (obtain ⟨⟨b0, b1, b2, b3⟩, d0, d1, d2, d3⟩ := box4 (box_below k0_h.out hW'); have zx0 := cell_mvd hW' cx0; have zy0 := cell_mvd hW' cy0; clear hW'; go_simp; first | done | with_reducible rfl)
    simp only [Act.put, nS1, nS2, nS3]
    refine takeH 4 (v := ?_) rfl (by kernel_rfl) (by kernel_rfl) (by kernel_rfl) (fun _ _ _ h => h) hbd (by rfl) (fun W' hW' => ?_) ?_; rotate_left; · (obtain ⟨⟨b0, b1, b2, b3⟩, d0, d1, d2, d3⟩ := box4 (box_below k0_h.out hW'); have zx0 := cell_mvd hW' cx0; have zy0 := cell_mvd hW' cy0; clear hW'; go_simp; first | done | with_reducible rfl)
    simp only [Act.put, nS1, nS2, nS3]
    refine takeH 5 (v := ?_) rfl (by kernel_rfl) (by kernel_rfl) (by kernel_rfl) (fun _ _ _ h => h) hbd (by rfl) (fun W' hW' => ?_) ?_; rotate_left; · (obtain ⟨⟨b0, b1, b2, b3⟩, d0, d1, d2, d3⟩ := box4 (box_below k0_h.out hW'); have zx0 := cell_mvd hW' cx0; have zy0 := cell_mvd hW' cy0; clear hW'; go_simp; first | done | with_reducible rfl)
    simp only [Act.put, nS1, nS2, nS3]
    refine takeH 6 (v := ?_) rfl (by kernel_rfl) (by kernel_rfl) (by kernel_rfl) (fun _ _ _ h => h) hbd (by rfl) (fun W' hW' => ?_) ?_; rotate_left; · (obtain ⟨⟨b0, b1, b2, b3⟩, d0, d1, d2, d3⟩ := box4 (box_below k0_h.out hW'); have zx0 := cell_mvd hW' cx0; have zy0 := cell_mvd hW' cy0; clear hW'; go_simp; first | done | with_reducible rfl)
    simp only [Act.put, nS1, nS2, nS3]
    refine takeH 7 (v := ?_) rfl (by kernel_rfl) (by kernel_rfl) (by kernel_rfl) (fun _ _ _ h => h) hbd (by rfl) (fun W' hW' => ?_) ?_; rotate_left; · (obtain ⟨⟨b0, b1, b2, b3⟩, d0, d1, d2, d3⟩ := box4 (box_below k0_h.out hW'); have zx0 := cell_mvd hW' cx0; have zy0 := cell_mvd hW' cy0; clear hW'; go_simp; first | done | with_reducible rfl)
    simp only [Act.put, nS1, nS2, nS3]
    refine takeH 9 (v := ?_) rfl (by kernel_rfl) (by kernel_rfl) (by kernel_rfl) (fun _ _ _ h => h) hbd (by rfl) (fun W' hW' => ?_) ?_; rotate_left; · (obtain ⟨⟨b0, b1, b2, b3⟩, d0, d1, d2, d3⟩ := box4 (box_below k0_h.out hW'); have zx0 := cell_mvd hW' cx0; have zy0 := cell_mvd hW' cy0; clear hW'; go_simp; first | done | with_reducible rfl)
    simp only [Act.put, nS1, nS2, nS3]
    refine takeH 10 (v := ?_) rfl (by kernel_rfl) (by kernel_rfl) (by kernel_rfl) (fun _ _ _ h => h) hbd (by rfl) (fun W' hW' => ?_) ?_; rotate_left; · (obtain ⟨⟨b0, b1, b2, b3⟩, d0, d1, d2, d3⟩ := box4 (box_below k0_h.out hW'); have zx0 := cell_mvd hW' cx0; have zy0 := cell_mvd hW' cy0; clear hW'; go_simp; first | done | with_reducible rfl)
    simp only [Act.put, nS1, nS2, nS3]
    refine takeH 11 (v := ?_) rfl (by kernel_rfl) (by kernel_rfl) (by kernel_rfl) (fun _ _ _ h => h) hbd (by rfl) (fun W' hW' => ?_) ?_; rotate_left; · (obtain ⟨⟨b0, b1, b2, b3⟩, d0, d1, d2, d3⟩ := box4 (box_below k0_h.out hW'); have zx0 := cell_mvd hW' cx0; have zy0 := cell_mvd hW' cy0; clear hW'; go_simp; first | done | with_reducible rfl)
    simp only [Act.put, nS1, nS2, nS3]
    refine relZ (P := Tryd.prog) [(8, 97), (12, 101), (13, 102), (14, 103), (15, 104), (16, 6)] (fun i => if i = 13 then [101] else if i = 14 then [97, 102] else if i = 15 then [103] else if i = 16 then [104] else []) (fun d v5 w5 => if d = 97 then PIn 2 [y0, x0] v5 w5 else if d = 101 then PV (.int .i64 (-v % p)) v5 w5 else if d = 102 then PIn 2 [1, -v % p] v5 w5 else if d = 103 then PIs n (sprV p n [y0, x0] [1, -v % p]) v5 w5 else if d = 104 then PRs 1 [sprV p n [y0, x0] [1, -v % p]] v5 w5 else if d = 6 then PRs 1 [sprV p n [y0, x0] [1, -v % p]] v5 w5 else True) (by kernel_rfl) (fun d => Stb.ite (PIn.stb _ _) (Stb.ite (PV.stb _) (Stb.ite (PIn.stb _ _) (Stb.ite (PIs.stb _ _) (Stb.ite (PRs.stb _ _) (Stb.ite (PRs.stb _ _) (Stb.true))))))) (fun w' hw' => below_trans hbd hw' hbd.size) ?steps7 ?fin7
    case steps7 =>
      refine ⟨⟨_, rfl, fun xs w5 hb5 hd K hK => ?_⟩, ⟨_, rfl, fun xs w5 hb5 hd K hK => ?_⟩, ⟨_, rfl, fun xs w5 hb5 hd K hK => ?_⟩, ⟨_, rfl, fun xs w5 hb5 hd K hK => ?_⟩, ⟨_, rfl, fun xs w5 hb5 hd K hK => ?_⟩, ⟨_, rfl, fun xs w5 hb5 hd K hK => ?_⟩, trivial⟩
      · simp only [putZ, List.foldl_cons, List.foldl_nil, Act.put, nS1, nS2, nS3] at hK ⊢
        go_simp
        exact hK _ _ (below_alloc _ _) ⟨_, 2, rfl, rd_laidC w5 [y0, x0] (by unfold maxLen; simp)⟩
      · simp only [putZ, List.foldl_cons, List.foldl_nil, Act.put, nS1, nS2, nS3] at hK ⊢
        refine wp_callZ (f := ?f_15) (args := ?args_15) ?hr_15 ?hc_15
        case hr_15 => (go_simp; first | done | with_reducible rfl | (constructor <;> with_reducible rfl))
        case hc_15 =>
          refine (fdNeg_any p v w5 h0 h97 hv0 hvp).mono ?_
          rintro e w6 ⟨rfl, rfl⟩
          exact ⟨_, rfl, hK _ _ (Below.refl _ _) rfl⟩
      · have e1 : xs 101 = .int .i64 (-v % p) := hd 101 (by decide)
        simp only [putZ, List.foldl_cons, List.foldl_nil, Act.put, nS1, nS2, nS3] at hK ⊢
        simp only [e1] at hK ⊢
        go_simp
        exact hK _ _ (below_alloc _ _) ⟨_, 2, rfl, rd_laidC w5 [1, -v % p] (by unfold maxLen; simp)⟩
      · obtain ⟨B1, c1, e1, r1⟩ := (hd 97 (by decide) : PIn 2 [y0, x0] (xs 97) w5)
        obtain ⟨B2, c2, e2, r2⟩ := (hd 102 (by decide) : PIn 2 [1, -v % p] (xs 102) w5)
        simp only [putZ, List.foldl_cons, List.foldl_nil, Act.put, nS1, nS2, nS3] at hK ⊢
        simp only [e1, e2] at hK ⊢
        refine wp_callZ (f := ?f_17) (args := ?args_17) ?hr_17 ?hc_17
        case hr_17 => (go_simp; first | done | with_reducible rfl | (constructor <;> with_reducible rfl))
        case hc_17 =>
          refine (dnRow_any p n 2 B1 B2 c1 c2 [y0, x0] [1, -v % p] w5 r1 r2 rfl rfl (fun x hx => by simp at hx; omega) (fun x hx => by simp at hx; omega) h0 h97 hn (by omega)).mono ?_
          rintro e w6 ⟨B3, c3, rfl, h3, _, hb6⟩
          have hl3 : (sprV p n [y0, x0] [1, -v % p]).length = n := sprTo_length _ _ _ _ _
          rw [hl3]
          exact ⟨_, rfl, hK _ _ hb6 ⟨B3, c3, rfl, h3⟩⟩
      · obtain ⟨B0, c0, e0, r0⟩ := (hd 103 (by decide) : PIs n (sprV p n [y0, x0] [1, -v % p]) (xs 103) w5)
        have l0 : (sprV p n [y0, x0] [1, -v % p]).length = n := sprTo_length _ _ _ _ _
        simp only [putZ, List.foldl_cons, List.foldl_nil, Act.put, nS1, nS2, nS3] at hK ⊢
        simp only [e0] at hK ⊢
        go_simp
        have hp := PRs.laid w5 ([(B0, c0, sprV p n [y0, x0] [1, -v % p])] : List Hd) (fun x hx => by
          simp only [List.mem_cons, List.not_mem_nil, or_false] at hx
          subst hx
          exact r0) (by unfold maxLen; simp)
        have e5 : (([(B0, c0, sprV p n [y0, x0] [1, -v % p])] : List Hd).map Hd.val).toArray = #[.slice B0 n c0] := by simp [Hd.val, l0]
        rw [e5] at hp
        exact hK _ _ (below_alloc _ _) hp
      · have h5 := (hd 104 (by decide) : PRs 1 [sprV p n [y0, x0] [1, -v % p]] (xs 104) w5)
        simp only [putZ, List.foldl_cons, List.foldl_nil, Act.put, nS1, nS2, nS3] at hK ⊢
        go_simp
        exact hK _ _ (Below.refl _ _) h5
    case fin7 =>
      intro xs w6 hb6 hR
      have h6 := (hR (16, 6) (by simp) : PRs 1 [sprV p n [y0, x0] [1, -v % p]] (xs 6) w6)
      have hbf := below_trans hB0_h.out (below_trans hbd hb6 hbd.size) hB0_h.out.size
      clear hR cx0 cy0; have h6_h := Lib.hid h6; have hbf_h := Lib.hid hbf; clear h6 hbf
      simp only [putZ, List.foldl_cons, List.foldl_nil, Act.put, nS1, nS2, nS3]
      go_wp2_with (fail)
      go_ret
      exact ⟨_, rfl, h6_h.out, hbf_h.out⟩
  · have hll : l.length = 1 := by have h1 := congrArg Prod.fst hty; have h2 : (l.length : Int) = 1 := h1; omega
    have hml : m.length = 1 := by have h1 := congrArg Prod.snd hty; have h2 : (m.length : Int) = 1 := h1; omega
    clear hty hk
    obtain ⟨x0, rfl⟩ := len_one hll
    obtain ⟨y0, rfl⟩ := len_one hml
    have hM : dnRowsM p n (8, v, [x0], [y0]) = [] := rfl
    rw [hM]
    clear hM
    obtain ⟨ad, _, rfl, ex0, cx0⟩ := hA.at_ (j := 0) (by simp)
    obtain rfl := Option.some.inj ex0
    have cx0 : w.cell? ad = some (.int .i64 x0) := cx0
    have had0 : ad.add 0 = ad := rfl
    obtain ⟨bd, _, rfl, ey0, cy0⟩ := hB.at_ (j := 0) (by simp)
    obtain rfl := Option.some.inj ey0
    have cy0 : w.cell? bd = some (.int .i64 y0) := cy0
    have hbd0 : bd.add 0 = bd := rfl
    have qx0 := hat x0 (by simp)
    have qy0 := hat y0 (by simp)
    clear hat
    obtain ⟨W, hW⟩ : ∃ W, W = w.alloc (.cells #[.int .i64 8, .int .i64 v, .slice (some ad) 1 a, .slice (some bd) 1 b] tEd) := ⟨_, rfl⟩
    have bW := below_alloc w (.cells #[.int .i64 8, .int .i64 v, .slice (some ad) 1 a, .slice (some bd) 1 b] tEd)
    have k0 := heap_alloc_new w (.cells #[.int .i64 8, .int .i64 v, .slice (some ad) 1 a, .slice (some bd) 1 b] tEd)
    rw [← hW] at bW k0
    have cx0 := cell_mvd bW cx0
    have cy0 := cell_mvd bW cy0
    obtain ⟨⟨g0, g1, g2, g3⟩, f0, f1, f2, f3⟩ := box4 k0
    have bW_h := Lib.hid bW; have k0_h := Lib.hid k0; clear bW k0
    go_enter Tryd.func134, Tryd.ntmps134
    go_upto_region 1 with (fail)
    rw [← hW]
    clear hW
    go_quiet (fail)
    obtain ⟨Wd, hWd⟩ : ∃ Wd, Wd = W.drewN nq := ⟨_, rfl⟩
    have hbd : Below W.heap.size W Wd := by rw [hWd]; exact below_drewN (Below.refl _ _) nq
    rw [← hWd]
    clear hWd g0 g1 g2 g3 f0 f1 f2 f3
    replace k0_h := Lib.hid (box_below k0_h.out hbd)
    have cx0 := cell_mvd hbd cx0
    have cy0 := cell_mvd hbd cy0
    have hB0 := below_trans bW_h.out hbd bW_h.out.size
    clear hbd; have hB0_h := Lib.hid hB0; clear hB0
    obtain ⟨⟨g0, g1, g2, g3⟩, f0, f1, f2, f3⟩ := box4 k0_h.out
    go_wp2_with (fail)
    go_ret
    exact ⟨_, rfl, ⟨none, 0, [], rfl, rfl, rfl, ⟨fun i h hh => by simp at hh, fun h hh => by cases hh⟩, fun h hh => by cases hh⟩, hB0_h.out⟩
  · have hll : l.length = 2 := by have h1 := congrArg Prod.fst hty; have h2 : (l.length : Int) = 2 := h1; omega
    have hml : m.length = 1 := by have h1 := congrArg Prod.snd hty; have h2 : (m.length : Int) = 1 := h1; omega
    clear hty hk
    obtain ⟨x0, x1, rfl⟩ := len_two hll
    obtain ⟨y0, rfl⟩ := len_one hml
    have hM : dnRowsM p n (9, v, [x0, x1], [y0]) = [sprV p n [x0, y0] [1, p - 1], sprV p n [x1, y0] [1, p - 1]] := rfl
    rw [hM]
    clear hM
    obtain ⟨ad, _, rfl, ex0, cx0⟩ := hA.at_ (j := 0) (by simp)
    obtain rfl := Option.some.inj ex0
    have cx0 : w.cell? ad = some (.int .i64 x0) := cx0
    have had0 : ad.add 0 = ad := rfl
    obtain ⟨ad', _, e', ex1, cx1⟩ := hA.at_ (j := 1) (by simp)
    obtain rfl := Option.some.inj e'
    obtain rfl := Option.some.inj ex1
    have cx1 : w.cell? ⟨ad.block, ad.off + 1, none⟩ = some (.int .i64 x1) := cx1
    obtain ⟨bd, _, rfl, ey0, cy0⟩ := hB.at_ (j := 0) (by simp)
    obtain rfl := Option.some.inj ey0
    have cy0 : w.cell? bd = some (.int .i64 y0) := cy0
    have hbd0 : bd.add 0 = bd := rfl
    have qx0 := hat x0 (by simp)
    have qx1 := hat x1 (by simp)
    have qy0 := hat y0 (by simp)
    clear hat
    obtain ⟨W, hW⟩ : ∃ W, W = w.alloc (.cells #[.int .i64 9, .int .i64 v, .slice (some ad) 2 a, .slice (some bd) 1 b] tEd) := ⟨_, rfl⟩
    have bW := below_alloc w (.cells #[.int .i64 9, .int .i64 v, .slice (some ad) 2 a, .slice (some bd) 1 b] tEd)
    have k0 := heap_alloc_new w (.cells #[.int .i64 9, .int .i64 v, .slice (some ad) 2 a, .slice (some bd) 1 b] tEd)
    rw [← hW] at bW k0
    have cx0 := cell_mvd bW cx0
    have cx1 := cell_mvd bW cx1
    have cy0 := cell_mvd bW cy0
    obtain ⟨⟨g0, g1, g2, g3⟩, f0, f1, f2, f3⟩ := box4 k0
    have bW_h := Lib.hid bW; have k0_h := Lib.hid k0; clear bW k0
    go_enter Tryd.func134, Tryd.ntmps134
    go_upto_region 1 with (fail)
    rw [← hW]
    clear hW
    go_quiet (fail)
    obtain ⟨Wd, hWd⟩ : ∃ Wd, Wd = W.drewN nq := ⟨_, rfl⟩
    have hbd : Below W.heap.size W Wd := by rw [hWd]; exact below_drewN (Below.refl _ _) nq
    rw [← hWd]
    clear hWd g0 g1 g2 g3 f0 f1 f2 f3
    replace k0_h := Lib.hid (box_below k0_h.out hbd)
    have cx0 := cell_mvd hbd cx0
    have cx1 := cell_mvd hbd cx1
    have cy0 := cell_mvd hbd cy0
    have hB0 := below_trans bW_h.out hbd bW_h.out.size
    clear hbd; have hB0_h := Lib.hid hB0; clear hB0
    obtain ⟨⟨g0, g1, g2, g3⟩, f0, f1, f2, f3⟩ := box4 k0_h.out
    go_wp2_with (fail)
    go_quiet (fail)
    obtain ⟨We, hWe⟩ : ∃ We, We = Wd.drewN nq := ⟨_, rfl⟩
    have hbe : Below Wd.heap.size Wd We := by rw [hWe]; exact below_drewN (Below.refl _ _) nq
    rw [← hWe]
    clear hWe g0 g1 g2 g3 f0 f1 f2 f3
    replace k0_h := Lib.hid (box_below k0_h.out hbe)
    have cx0 := cell_mvd hbe cx0
    have cx1 := cell_mvd hbe cx1
    have cy0 := cell_mvd hbe cy0
    have hB1 := below_trans hB0_h.out hbe hB0_h.out.size
    clear hbe; have hB1_h := Lib.hid hB1; clear hB1
    obtain ⟨⟨g0, g1, g2, g3⟩, f0, f1, f2, f3⟩ := box4 k0_h.out
    go_wp2_with (fail)
    clear g0 g1 g2 g3 f0 f1 f2 f3
    have hbd : Below We.heap.size We We.drew := below_drewN (Below.refl _ _) 1
    refine beginH (fun w' => Below We.heap.size We w') (by kernel_rfl) ?_
    generalize We.drew = W1 at hbd ⊢
    refine takeH 0 (v := ?_) rfl (by kernel_rfl) (by kernel_rfl) (by kernel_rfl) (fun _ _ _ h => h) hbd (by rfl) (fun W' hW' => ?_) ?_; rotate_left; · (have zx0 := cell_mvd hW' cx0; have zx1 := cell_mvd hW' cx1; have zy0 := cell_mvd hW' cy0; clear hW'; go_simp; first | done | with_reducible rfl)
    simp only [Act.put, nS1, nS2, nS3]
    refine takeH 1 (v := ?_) rfl (by kernel_rfl) (by kernel_rfl) (by kernel_rfl) (fun _ _ _ h => h) hbd (by rfl) (fun W' hW' => ?_) ?_; rotate_left; · (have zx0 := cell_mvd hW' cx0; have zx1 := cell_mvd hW' cx1; have zy0 := cell_mvd hW' cy0; clear hW'; go_simp; first | done | with_reducible rfl)
    simp only [Act.put, nS1, nS2, nS3]
    refine takeH 2 (v := ?_) rfl (by kernel_rfl) (by kernel_rfl) (by kernel_rfl) (fun _ _ _ h => h) hbd (by rfl) (fun W' hW' => ?_) ?_; rotate_left; · (have zx0 := cell_mvd hW' cx0; have zx1 := cell_mvd hW' cx1; have zy0 := cell_mvd hW' cy0; clear hW'; go_simp; first | done | with_reducible rfl)
    simp only [Act.put, nS1, nS2, nS3]
    refine takeH 3 (v := ?_) rfl (by kernel_rfl) (by kernel_rfl) (by kernel_rfl) (fun _ _ _ h => h) hbd (by rfl) (fun W' hW' => ?_) ?_; rotate_left; · (have zx0 := cell_mvd hW' cx0; have zx1 := cell_mvd hW' cx1; have zy0 := cell_mvd hW' cy0; clear hW'; go_simp; first | done | with_reducible rfl)
    simp only [Act.put, nS1, nS2, nS3]
    refine takeH 4 (v := ?_) rfl (by kernel_rfl) (by kernel_rfl) (by kernel_rfl) (fun _ _ _ h => h) hbd (by rfl) (fun W' hW' => ?_) ?_; rotate_left; · (have zx0 := cell_mvd hW' cx0; have zx1 := cell_mvd hW' cx1; have zy0 := cell_mvd hW' cy0; clear hW'; go_simp; first | done | with_reducible rfl)
    simp only [Act.put, nS1, nS2, nS3]
    refine takeH 5 (v := ?_) rfl (by kernel_rfl) (by kernel_rfl) (by kernel_rfl) (fun _ _ _ h => h) hbd (by rfl) (fun W' hW' => ?_) ?_; rotate_left; · (have zx0 := cell_mvd hW' cx0; have zx1 := cell_mvd hW' cx1; have zy0 := cell_mvd hW' cy0; clear hW'; go_simp; first | done | with_reducible rfl)
    simp only [Act.put, nS1, nS2, nS3]
    refine takeH 6 (v := ?_) rfl (by kernel_rfl) (by kernel_rfl) (by kernel_rfl) (fun _ _ _ h => h) hbd (by rfl) (fun W' hW' => ?_) ?_; rotate_left; · (have zx0 := cell_mvd hW' cx0; have zx1 := cell_mvd hW' cx1; have zy0 := cell_mvd hW' cy0; clear hW'; go_simp; first | done | with_reducible rfl)
    simp only [Act.put, nS1, nS2, nS3]
    refine takeH 7 (v := ?_) rfl (by kernel_rfl) (by kernel_rfl) (by kernel_rfl) (fun _ _ _ h => h) hbd (by rfl) (fun W' hW' => ?_) ?_; rotate_left; · (have zx0 := cell_mvd hW' cx0; have zx1 := cell_mvd hW' cx1; have zy0 := cell_mvd hW' cy0; clear hW'; go_simp; first | done | with_reducible rfl)
    simp only [Act.put, nS1, nS2, nS3]
    refine takeH 9 (v := ?_) rfl (by kernel_rfl) (by kernel_rfl) (by kernel_rfl) (fun _ _ _ h => h) hbd (by rfl) (fun W' hW' => ?_) ?_; rotate_left; · (have zx0 := cell_mvd hW' cx0; have zx1 := cell_mvd hW' cx1; have zy0 := cell_mvd hW' cy0; clear hW'; go_simp; first | done | with_reducible rfl)
    simp only [Act.put, nS1, nS2, nS3]
    refine takeH 10 (v := ?_) rfl (by kernel_rfl) (by kernel_rfl) (by kernel_rfl) (fun _ _ _ h => h) hbd (by rfl) (fun W' hW' => ?_) ?_; rotate_left; · (have zx0 := cell_mvd hW' cx0; have zx1 := cell_mvd hW' cx1; have zy0 := cell_mvd hW' cy0; clear hW'; go_simp; first | done | with_reducible rfl)
    simp only [Act.put, nS1, nS2, nS3]
    refine takeH 13 (v := ?_) rfl (by kernel_rfl) (by kernel_rfl) (by kernel_rfl) (fun _ _ _ h => h) hbd (by rfl) (fun W' hW' => ?_) ?_; rotate_left; · (have zx0 := cell_mvd hW' cx0; have zx1 := cell_mvd hW' cx1; have zy0 := cell_mvd hW' cy0; clear hW'; go_simp; first | done | with_reducible rfl)
    simp only [Act.put, nS1, nS2, nS3]
    refine takeH 14 (v := ?_) rfl (by kernel_rfl) (by kernel_rfl) (by kernel_rfl) (fun _ _ _ h => h) hbd (by rfl) (fun W' hW' => ?_) ?_; rotate_left; · (have zx0 := cell_mvd hW' cx0; have zx1 := cell_mvd hW' cx1; have zy0 := cell_mvd hW' cy0; clear hW'; go_simp; first | done | with_reducible rfl)
    simp only [Act.put, nS1, nS2, nS3]
    refine takeH 15 (v := ?_) rfl (by kernel_rfl) (by kernel_rfl) (by kernel_rfl) (fun _ _ _ h => h) hbd (by rfl) (fun W' hW' => ?_) ?_; rotate_left; · (have zx0 := cell_mvd hW' cx0; have zx1 := cell_mvd hW' cx1; have zy0 := cell_mvd hW' cy0; clear hW'; go_simp; first | done | with_reducible rfl)
    simp only [Act.put, nS1, nS2, nS3]
    refine takeH 16 (v := ?_) rfl (by kernel_rfl) (by kernel_rfl) (by kernel_rfl) (fun _ _ _ h => h) hbd (by rfl) (fun W' hW' => ?_) ?_; rotate_left; · (have zx0 := cell_mvd hW' cx0; have zx1 := cell_mvd hW' cx1; have zy0 := cell_mvd hW' cy0; clear hW'; go_simp; first | done | with_reducible rfl)
    simp only [Act.put, nS1, nS2, nS3]
    refine takeH 17 (v := ?_) rfl (by kernel_rfl) (by kernel_rfl) (by kernel_rfl) (fun _ _ _ h => h) hbd (by rfl) (fun W' hW' => ?_) ?_; rotate_left; · (have zx0 := cell_mvd hW' cx0; have zx1 := cell_mvd hW' cx1; have zy0 := cell_mvd hW' cy0; clear hW'; go_simp; first | done | with_reducible rfl)
    simp only [Act.put, nS1, nS2, nS3]
    refine takeH 18 (v := ?_) rfl (by kernel_rfl) (by kernel_rfl) (by kernel_rfl) (fun _ _ _ h => h) hbd (by rfl) (fun W' hW' => ?_) ?_; rotate_left; · (have zx0 := cell_mvd hW' cx0; have zx1 := cell_mvd hW' cx1; have zy0 := cell_mvd hW' cy0; clear hW'; go_simp; first | done | with_reducible rfl)
    simp only [Act.put, nS1, nS2, nS3]
    refine takeH 19 (v := ?_) rfl (by kernel_rfl) (by kernel_rfl) (by kernel_rfl) (fun _ _ _ h => h) hbd (by rfl) (fun W' hW' => ?_) ?_; rotate_left; · (have zx0 := cell_mvd hW' cx0; have zx1 := cell_mvd hW' cx1; have zy0 := cell_mvd hW' cy0; clear hW'; go_simp; first | done | with_reducible rfl)
    simp only [Act.put, nS1, nS2, nS3]
    refine takeH 20 (v := ?_) rfl (by kernel_rfl) (by kernel_rfl) (by kernel_rfl) (fun _ _ _ h => h) hbd (by rfl) (fun W' hW' => ?_) ?_; rotate_left; · (have zx0 := cell_mvd hW' cx0; have zx1 := cell_mvd hW' cx1; have zy0 := cell_mvd hW' cy0; clear hW'; go_simp; first | done | with_reducible rfl)
    simp only [Act.put, nS1, nS2, nS3]
    refine takeH 22 (v := ?_) rfl (by kernel_rfl) (by kernel_rfl) (by kernel_rfl) (fun _ _ _ h => h) hbd (by rfl) (fun W' hW' => ?_) ?_; rotate_left; · (have zx0 := cell_mvd hW' cx0; have zx1 := cell_mvd hW' cx1; have zy0 := cell_mvd hW' cy0; clear hW'; go_simp; first | done | with_reducible rfl)
    simp only [Act.put, nS1, nS2, nS3]
    refine takeH 23 (v := ?_) rfl (by kernel_rfl) (by kernel_rfl) (by kernel_rfl) (fun _ _ _ h => h) hbd (by rfl) (fun W' hW' => ?_) ?_; rotate_left; · (have zx0 := cell_mvd hW' cx0; have zx1 := cell_mvd hW' cx1; have zy0 := cell_mvd hW' cy0; clear hW'; go_simp; first | done | with_reducible rfl)
    simp only [Act.put, nS1, nS2, nS3]
    refine relZ (P := Tryd.prog) [(8, 36), (11, 39), (12, 40), (21, 49), (24, 52), (25, 53), (26, 54), (27, 6)] (fun i => if i = 12 then [36, 39] else if i = 25 then [49, 52] else if i = 26 then [40, 53] else if i = 27 then [54] else []) (fun d v5 w5 => if d = 36 then PIn 2 [x0, y0] v5 w5 else if d = 39 then PIn 2 [1, p - 1] v5 w5 else if d = 40 then PIs n (sprV p n [x0, y0] [1, p - 1]) v5 w5 else if d = 49 then PIn 2 [x1, y0] v5 w5 else if d = 52 then PIn 2 [1, p - 1] v5 w5 else if d = 53 then PIs n (sprV p n [x1, y0] [1, p - 1]) v5 w5 else if d = 54 then PRs 2 [sprV p n [x0, y0] [1, p - 1], sprV p n [x1, y0] [1, p - 1]] v5 w5 else if d = 6 then PRs 2 [sprV p n [x0, y0] [1, p - 1], sprV p n [x1, y0] [1, p - 1]] v5 w5 else True) (by kernel_rfl) (fun d => Stb.ite (PIn.stb _ _) (Stb.ite (PIn.stb _ _) (Stb.ite (PIs.stb _ _) (Stb.ite (PIn.stb _ _) (Stb.ite (PIn.stb _ _) (Stb.ite (PIs.stb _ _) (Stb.ite (PRs.stb _ _) (Stb.ite (PRs.stb _ _) (Stb.true))))))))) (fun w' hw' => below_trans hbd hw' hbd.size) ?steps9 ?fin9
    case steps9 =>
      refine ⟨⟨_, rfl, fun xs w5 hb5 hd K hK => ?_⟩, ⟨_, rfl, fun xs w5 hb5 hd K hK => ?_⟩, ⟨_, rfl, fun xs w5 hb5 hd K hK => ?_⟩, ⟨_, rfl, fun xs w5 hb5 hd K hK => ?_⟩, ⟨_, rfl, fun xs w5 hb5 hd K hK => ?_⟩, ⟨_, rfl, fun xs w5 hb5 hd K hK => ?_⟩, ⟨_, rfl, fun xs w5 hb5 hd K hK => ?_⟩, ⟨_, rfl, fun xs w5 hb5 hd K hK => ?_⟩, trivial⟩
      · simp only [putZ, List.foldl_cons, List.foldl_nil, Act.put, nS1, nS2, nS3] at hK ⊢
        go_simp
        exact hK _ _ (below_alloc _ _) ⟨_, 2, rfl, rd_laidC w5 [x0, y0] (by unfold maxLen; simp)⟩
      · simp only [putZ, List.foldl_cons, List.foldl_nil, Act.put, nS1, nS2, nS3] at hK ⊢
        go_simp
        exact hK _ _ (below_alloc _ _) ⟨_, 2, rfl, rd_laidC w5 [1, p - 1] (by unfold maxLen; simp)⟩
      · obtain ⟨B1, c1, e1, r1⟩ := (hd 36 (by decide) : PIn 2 [x0, y0] (xs 36) w5)
        obtain ⟨B2, c2, e2, r2⟩ := (hd 39 (by decide) : PIn 2 [1, p - 1] (xs 39) w5)
        simp only [putZ, List.foldl_cons, List.foldl_nil, Act.put, nS1, nS2, nS3] at hK ⊢
        simp only [e1, e2] at hK ⊢
        refine wp_callZ (f := ?f_22) (args := ?args_22) ?hr_22 ?hc_22
        case hr_22 => (go_simp; first | done | with_reducible rfl | (constructor <;> with_reducible rfl))
        case hc_22 =>
          refine (dnRow_any p n 2 B1 B2 c1 c2 [x0, y0] [1, p - 1] w5 r1 r2 rfl rfl (fun x hx => by simp at hx; omega) (fun x hx => by simp at hx; omega) h0 h97 hn (by omega)).mono ?_
          rintro e w6 ⟨B3, c3, rfl, h3, _, hb6⟩
          have hl3 : (sprV p n [x0, y0] [1, p - 1]).length = n := sprTo_length _ _ _ _ _
          rw [hl3]
          exact ⟨_, rfl, hK _ _ hb6 ⟨B3, c3, rfl, h3⟩⟩
      · simp only [putZ, List.foldl_cons, List.foldl_nil, Act.put, nS1, nS2, nS3] at hK ⊢
        go_simp
        exact hK _ _ (below_alloc _ _) ⟨_, 2, rfl, rd_laidC w5 [x1, y0] (by unfold maxLen; simp)⟩
      · simp only [putZ, List.foldl_cons, List.foldl_nil, Act.put, nS1, nS2, nS3] at hK ⊢
        go_simp
        exact hK _ _ (below_alloc _ _) ⟨_, 2, rfl, rd_laidC w5 [1, p - 1] (by unfold maxLen; simp)⟩
      · obtain ⟨B1, c1, e1, r1⟩ := (hd 49 (by decide) : PIn 2 [x1, y0] (xs 49) w5)
        obtain ⟨B2, c2, e2, r2⟩ := (hd 52 (by decide) : PIn 2 [1, p - 1] (xs 52) w5)
        simp only [putZ, List.foldl_cons, List.foldl_nil, Act.put, nS1, nS2, nS3] at hK ⊢
        simp only [e1, e2] at hK ⊢
        refine wp_callZ (f := ?f_25) (args := ?args_25) ?hr_25 ?hc_25
        case hr_25 => (go_simp; first | done | with_reducible rfl | (constructor <;> with_reducible rfl))
        case hc_25 =>
          refine (dnRow_any p n 2 B1 B2 c1 c2 [x1, y0] [1, p - 1] w5 r1 r2 rfl rfl (fun x hx => by simp at hx; omega) (fun x hx => by simp at hx; omega) h0 h97 hn (by omega)).mono ?_
          rintro e w6 ⟨B3, c3, rfl, h3, _, hb6⟩
          have hl3 : (sprV p n [x1, y0] [1, p - 1]).length = n := sprTo_length _ _ _ _ _
          rw [hl3]
          exact ⟨_, rfl, hK _ _ hb6 ⟨B3, c3, rfl, h3⟩⟩
      · obtain ⟨B0, c0, e0, r0⟩ := (hd 40 (by decide) : PIs n (sprV p n [x0, y0] [1, p - 1]) (xs 40) w5)
        obtain ⟨B1, c1, e1, r1⟩ := (hd 53 (by decide) : PIs n (sprV p n [x1, y0] [1, p - 1]) (xs 53) w5)
        have l0 : (sprV p n [x0, y0] [1, p - 1]).length = n := sprTo_length _ _ _ _ _
        have l1 : (sprV p n [x1, y0] [1, p - 1]).length = n := sprTo_length _ _ _ _ _
        simp only [putZ, List.foldl_cons, List.foldl_nil, Act.put, nS1, nS2, nS3] at hK ⊢
        simp only [e0, e1] at hK ⊢
        go_simp
        have hp := PRs.laid w5 ([(B0, c0, sprV p n [x0, y0] [1, p - 1]), (B1, c1, sprV p n [x1, y0] [1, p - 1])] : List Hd) (fun x hx => by
          simp only [List.mem_cons, List.not_mem_nil, or_false] at hx
          rcases hx with rfl | rfl
          · exact r0
          · exact r1) (by unfold maxLen; simp)
        have e5 : (([(B0, c0, sprV p n [x0, y0] [1, p - 1]), (B1, c1, sprV p n [x1, y0] [1, p - 1])] : List Hd).map Hd.val).toArray = #[.slice B0 n c0, .slice B1 n c1] := by simp [Hd.val, l0, l1]
        rw [e5] at hp
        exact hK _ _ (below_alloc _ _) hp
      · have h5 := (hd 54 (by decide) : PRs 2 [sprV p n [x0, y0] [1, p - 1], sprV p n [x1, y0] [1, p - 1]] (xs 54) w5)
        simp only [putZ, List.foldl_cons, List.foldl_nil, Act.put, nS1, nS2, nS3] at hK ⊢
        go_simp
        exact hK _ _ (Below.refl _ _) h5
    case fin9 =>
      intro xs w6 hb6 hR
      have h6 := (hR (27, 6) (by simp) : PRs 2 [sprV p n [x0, y0] [1, p - 1], sprV p n [x1, y0] [1, p - 1]] (xs 6) w6)
      have hbf := below_trans hB1_h.out (below_trans hbd hb6 hbd.size) hB1_h.out.size
      clear hR cx0 cx1 cy0; have h6_h := Lib.hid h6; have hbf_h := Lib.hid hbf; clear h6 hbf
      simp only [putZ, List.foldl_cons, List.foldl_nil, Act.put, nS1, nS2, nS3]
      go_wp2_with (fail)
      go_ret
      exact ⟨_, rfl, h6_h.out, hbf_h.out⟩
  · have hll : l.length = 0 := by have h1 := congrArg Prod.fst hty; have h2 : (l.length : Int) = 0 := h1; omega
    have hml : m.length = 1 := by have h1 := congrArg Prod.snd hty; have h2 : (m.length : Int) = 1 := h1; omega
    clear hty hk
    obtain rfl : l = [] := List.eq_nil_of_length_eq_zero hll
    obtain ⟨y0, rfl⟩ := len_one hml
    have hM : dnRowsM p n (10, v, [], [y0]) = [] := rfl
    rw [hM]
    clear hM
    obtain ⟨bd, _, rfl, ey0, cy0⟩ := hB.at_ (j := 0) (by simp)
    obtain rfl := Option.some.inj ey0
    have cy0 : w.cell? bd = some (.int .i64 y0) := cy0
    have hbd0 : bd.add 0 = bd := rfl
    have qy0 := hat y0 (by simp)
    clear hat
    obtain ⟨W, hW⟩ : ∃ W, W = w.alloc (.cells #[.int .i64 10, .int .i64 v, .slice A 0 a, .slice (some bd) 1 b] tEd) := ⟨_, rfl⟩
    have bW := below_alloc w (.cells #[.int .i64 10, .int .i64 v, .slice A 0 a, .slice (some bd) 1 b] tEd)
    have k0 := heap_alloc_new w (.cells #[.int .i64 10, .int .i64 v, .slice A 0 a, .slice (some bd) 1 b] tEd)
    rw [← hW] at bW k0
    have cy0 := cell_mvd bW cy0
    obtain ⟨⟨g0, g1, g2, g3⟩, f0, f1, f2, f3⟩ := box4 k0
    have bW_h := Lib.hid bW; have k0_h := Lib.hid k0; clear bW k0
    go_enter Tryd.func134, Tryd.ntmps134
    go_upto_region 1 with (fail)
    rw [← hW]
    clear hW
    go_quiet (fail)
    obtain ⟨Wd, hWd⟩ : ∃ Wd, Wd = W.drewN nq := ⟨_, rfl⟩
    have hbd : Below W.heap.size W Wd := by rw [hWd]; exact below_drewN (Below.refl _ _) nq
    rw [← hWd]
    clear hWd g0 g1 g2 g3 f0 f1 f2 f3
    replace k0_h := Lib.hid (box_below k0_h.out hbd)
    have cy0 := cell_mvd hbd cy0
    have hB0 := below_trans bW_h.out hbd bW_h.out.size
    clear hbd; have hB0_h := Lib.hid hB0; clear hB0
    obtain ⟨⟨g0, g1, g2, g3⟩, f0, f1, f2, f3⟩ := box4 k0_h.out
    go_wp2_with (fail)
    go_quiet (fail)
    obtain ⟨We, hWe⟩ : ∃ We, We = Wd.drewN nq := ⟨_, rfl⟩
    have hbe : Below Wd.heap.size Wd We := by rw [hWe]; exact below_drewN (Below.refl _ _) nq
    rw [← hWe]
    clear hWe g0 g1 g2 g3 f0 f1 f2 f3
    replace k0_h := Lib.hid (box_below k0_h.out hbe)
    have cy0 := cell_mvd hbe cy0
    have hB1 := below_trans hB0_h.out hbe hB0_h.out.size
    clear hbe; have hB1_h := Lib.hid hB1; clear hB1
    obtain ⟨⟨g0, g1, g2, g3⟩, f0, f1, f2, f3⟩ := box4 k0_h.out
    go_wp2_with (fail)
    go_ret
    exact ⟨_, rfl, ⟨none, 0, [], rfl, rfl, rfl, ⟨fun i h hh => by simp at hh, fun h hh => by cases hh⟩, fun h hh => by cases hh⟩, hB1_h.out⟩
  · have hll : l.length = 1 := by have h1 := congrArg Prod.fst hty; have h2 : (l.length : Int) = 1 := h1; omega
    have hml : m.length = 2 := by have h1 := congrArg Prod.snd hty; have h2 : (m.length : Int) = 2 := h1; omega
    clear hty hk
    obtain ⟨x0, rfl⟩ := len_one hll
    obtain ⟨y0, y1, rfl⟩ := len_two hml
    have hM : dnRowsM p n (11, v, [x0], [y0, y1]) = [sprV p n [x0, y0, y1] [1, p - 1, p - 1]] := rfl
    rw [hM]
    clear hM
    obtain ⟨ad, _, rfl, ex0, cx0⟩ := hA.at_ (j := 0) (by simp)
    obtain rfl := Option.some.inj ex0
    have cx0 : w.cell? ad = some (.int .i64 x0) := cx0
    have had0 : ad.add 0 = ad := rfl
    obtain ⟨bd, _, rfl, ey0, cy0⟩ := hB.at_ (j := 0) (by simp)
    obtain rfl := Option.some.inj ey0
    have cy0 : w.cell? bd = some (.int .i64 y0) := cy0
    have hbd0 : bd.add 0 = bd := rfl
    obtain ⟨ad', _, e', ey1, cy1⟩ := hB.at_ (j := 1) (by simp)
    obtain rfl := Option.some.inj e'
    obtain rfl := Option.some.inj ey1
    have cy1 : w.cell? ⟨bd.block, bd.off + 1, none⟩ = some (.int .i64 y1) := cy1
    have qx0 := hat x0 (by simp)
    have qy0 := hat y0 (by simp)
    have qy1 := hat y1 (by simp)
    clear hat
    obtain ⟨W, hW⟩ : ∃ W, W = w.alloc (.cells #[.int .i64 11, .int .i64 v, .slice (some ad) 1 a, .slice (some bd) 2 b] tEd) := ⟨_, rfl⟩
    have bW := below_alloc w (.cells #[.int .i64 11, .int .i64 v, .slice (some ad) 1 a, .slice (some bd) 2 b] tEd)
    have k0 := heap_alloc_new w (.cells #[.int .i64 11, .int .i64 v, .slice (some ad) 1 a, .slice (some bd) 2 b] tEd)
    rw [← hW] at bW k0
    have cx0 := cell_mvd bW cx0
    have cy0 := cell_mvd bW cy0
    have cy1 := cell_mvd bW cy1
    obtain ⟨⟨g0, g1, g2, g3⟩, f0, f1, f2, f3⟩ := box4 k0
    have bW_h := Lib.hid bW; have k0_h := Lib.hid k0; clear bW k0
    go_enter Tryd.func134, Tryd.ntmps134
    go_upto_region 1 with (fail)
    rw [← hW]
    clear hW
    go_quiet (fail)
    obtain ⟨Wd, hWd⟩ : ∃ Wd, Wd = W.drewN nq := ⟨_, rfl⟩
    have hbd : Below W.heap.size W Wd := by rw [hWd]; exact below_drewN (Below.refl _ _) nq
    rw [← hWd]
    clear hWd g0 g1 g2 g3 f0 f1 f2 f3
    replace k0_h := Lib.hid (box_below k0_h.out hbd)
    have cx0 := cell_mvd hbd cx0
    have cy0 := cell_mvd hbd cy0
    have cy1 := cell_mvd hbd cy1
    have hB0 := below_trans bW_h.out hbd bW_h.out.size
    clear hbd; have hB0_h := Lib.hid hB0; clear hB0
    obtain ⟨⟨g0, g1, g2, g3⟩, f0, f1, f2, f3⟩ := box4 k0_h.out
    go_wp2_with (fail)
    go_quiet (fail)
    obtain ⟨We, hWe⟩ : ∃ We, We = Wd.drewN nq := ⟨_, rfl⟩
    have hbe : Below Wd.heap.size Wd We := by rw [hWe]; exact below_drewN (Below.refl _ _) nq
    rw [← hWe]
    clear hWe g0 g1 g2 g3 f0 f1 f2 f3
    replace k0_h := Lib.hid (box_below k0_h.out hbe)
    have cx0 := cell_mvd hbe cx0
    have cy0 := cell_mvd hbe cy0
    have cy1 := cell_mvd hbe cy1
    have hB1 := below_trans hB0_h.out hbe hB0_h.out.size
    clear hbe; have hB1_h := Lib.hid hB1; clear hB1
    obtain ⟨⟨g0, g1, g2, g3⟩, f0, f1, f2, f3⟩ := box4 k0_h.out
    go_wp2_with (fail)
    clear g0 g1 g2 g3 f0 f1 f2 f3
    have hbd : Below We.heap.size We We.drew := below_drewN (Below.refl _ _) 1
    refine beginH (fun w' => Below We.heap.size We w') (by kernel_rfl) ?_
    generalize We.drew = W1 at hbd ⊢
    refine takeH 0 (v := ?_) rfl (by kernel_rfl) (by kernel_rfl) (by kernel_rfl) (fun _ _ _ h => h) hbd (by rfl) (fun W' hW' => ?_) ?_; rotate_left; · (have zx0 := cell_mvd hW' cx0; have zy0 := cell_mvd hW' cy0; have zy1 := cell_mvd hW' cy1; clear hW'; go_simp; first | done | with_reducible rfl)
    simp only [Act.put, nS1, nS2, nS3]
    refine takeH 1 (v := ?_) rfl (by kernel_rfl) (by kernel_rfl) (by kernel_rfl) (fun _ _ _ h => h) hbd (by rfl) (fun W' hW' => ?_) ?_; rotate_left; · (have zx0 := cell_mvd hW' cx0; have zy0 := cell_mvd hW' cy0; have zy1 := cell_mvd hW' cy1; clear hW'; go_simp; first | done | with_reducible rfl)
    simp only [Act.put, nS1, nS2, nS3]
    refine takeH 2 (v := ?_) rfl (by kernel_rfl) (by kernel_rfl) (by kernel_rfl) (fun _ _ _ h => h) hbd (by rfl) (fun W' hW' => ?_) ?_; rotate_left; · (have zx0 := cell_mvd hW' cx0; have zy0 := cell_mvd hW' cy0; have zy1 := cell_mvd hW' cy1; clear hW'; go_simp; first | done | with_reducible rfl)
    simp only [Act.put, nS1, nS2, nS3]
    refine takeH 3 (v := ?_) rfl (by kernel_rfl) (by kernel_rfl) (by kernel_rfl) (fun _ _ _ h => h) hbd (by rfl) (fun W' hW' => ?_) ?_; rotate_left; · (have zx0 := cell_mvd hW' cx0; have zy0 := cell_mvd hW' cy0; have zy1 := cell_mvd hW' cy1; clear hW'; go_simp; first | done | with_reducible rfl)
    simp only [Act.put, nS1, nS2, nS3]
    refine takeH 4 (v := ?_) rfl (by kernel_rfl) (by kernel_rfl) (by kernel_rfl) (fun _ _ _ h => h) hbd (by rfl) (fun W' hW' => ?_) ?_; rotate_left; · (have zx0 := cell_mvd hW' cx0; have zy0 := cell_mvd hW' cy0; have zy1 := cell_mvd hW' cy1; clear hW'; go_simp; first | done | with_reducible rfl)
    simp only [Act.put, nS1, nS2, nS3]
    refine takeH 5 (v := ?_) rfl (by kernel_rfl) (by kernel_rfl) (by kernel_rfl) (fun _ _ _ h => h) hbd (by rfl) (fun W' hW' => ?_) ?_; rotate_left; · (have zx0 := cell_mvd hW' cx0; have zy0 := cell_mvd hW' cy0; have zy1 := cell_mvd hW' cy1; clear hW'; go_simp; first | done | with_reducible rfl)
    simp only [Act.put, nS1, nS2, nS3]
    refine takeH 6 (v := ?_) rfl (by kernel_rfl) (by kernel_rfl) (by kernel_rfl) (fun _ _ _ h => h) hbd (by rfl) (fun W' hW' => ?_) ?_; rotate_left; · (have zx0 := cell_mvd hW' cx0; have zy0 := cell_mvd hW' cy0; have zy1 := cell_mvd hW' cy1; clear hW'; go_simp; first | done | with_reducible rfl)
    simp only [Act.put, nS1, nS2, nS3]
    refine takeH 7 (v := ?_) rfl (by kernel_rfl) (by kernel_rfl) (by kernel_rfl) (fun _ _ _ h => h) hbd (by rfl) (fun W' hW' => ?_) ?_; rotate_left; · (have zx0 := cell_mvd hW' cx0; have zy0 := cell_mvd hW' cy0; have zy1 := cell_mvd hW' cy1; clear hW'; go_simp; first | done | with_reducible rfl)
    simp only [Act.put, nS1, nS2, nS3]
    refine takeH 8 (v := ?_) rfl (by kernel_rfl) (by kernel_rfl) (by kernel_rfl) (fun _ _ _ h => h) hbd (by rfl) (fun W' hW' => ?_) ?_; rotate_left; · (have zx0 := cell_mvd hW' cx0; have zy0 := cell_mvd hW' cy0; have zy1 := cell_mvd hW' cy1; clear hW'; go_simp; first | done | with_reducible rfl)
    simp only [Act.put, nS1, nS2, nS3]
    refine takeH 9 (v := ?_) rfl (by kernel_rfl) (by kernel_rfl) (by kernel_rfl) (fun _ _ _ h => h) hbd (by rfl) (fun W' hW' => ?_) ?_; rotate_left; · (have zx0 := cell_mvd hW' cx0; have zy0 := cell_mvd hW' cy0; have zy1 := cell_mvd hW' cy1; clear hW'; go_simp; first | done | with_reducible rfl)
    simp only [Act.put, nS1, nS2, nS3]
    refine takeH 10 (v := ?_) rfl (by kernel_rfl) (by kernel_rfl) (by kernel_rfl) (fun _ _ _ h => h) hbd (by rfl) (fun W' hW' => ?_) ?_; rotate_left; · (have zx0 := cell_mvd hW' cx0; have zy0 := cell_mvd hW' cy0; have zy1 := cell_mvd hW' cy1; clear hW'; go_simp; first | done | with_reducible rfl)
    simp only [Act.put, nS1, nS2, nS3]
    refine takeH 12 (v := ?_) rfl (by kernel_rfl) (by kernel_rfl) (by kernel_rfl) (fun _ _ _ h => h) hbd (by rfl) (fun W' hW' => ?_) ?_; rotate_left; · (have zx0 := cell_mvd hW' cx0; have zy0 := cell_mvd hW' cy0; have zy1 := cell_mvd hW' cy1; clear hW'; go_simp; first | done | with_reducible rfl)
    simp only [Act.put, nS1, nS2, nS3]
    refine takeH 13 (v := ?_) rfl (by kernel_rfl) (by kernel_rfl) (by kernel_rfl) (fun _ _ _ h => h) hbd (by rfl) (fun W' hW' => ?_) ?_; rotate_left; · (have zx0 := cell_mvd hW' cx0; have zy0 := cell_mvd hW' cy0; have zy1 := cell_mvd hW' cy1; clear hW'; go_simp; first | done | with_reducible rfl)
    simp only [Act.put, nS1, nS2, nS3]
    refine takeH 14 (v := ?_) rfl (by kernel_rfl) (by kernel_rfl) (by kernel_rfl) (fun _ _ _ h => h) hbd (by rfl) (fun W' hW' => ?_) ?_; rotate_left; · (have zx0 := cell_mvd hW' cx0; have zy0 := cell_mvd hW' cy0; have zy1 := cell_mvd hW' cy1; clear hW'; go_simp; first | done | with_reducible rfl)
    simp only [Act.put, nS1, nS2, nS3]
    refine takeH 15 (v := ?_) rfl (by kernel_rfl) (by kernel_rfl) (by kernel_rfl) (fun _ _ _ h => h) hbd (by rfl) (fun W' hW' => ?_) ?_; rotate_left; · (have zx0 := cell_mvd hW' cx0; have zy0 := cell_mvd hW' cy0; have zy1 := cell_mvd hW' cy1; clear hW'; go_simp; first | done | with_reducible rfl)
    simp only [Act.put, nS1, nS2, nS3]
    refine relZ (P := Tryd.prog) [(11, 68), (16, 73), (17, 74), (18, 75), (19, 6)] (fun i => if i = 17 then [68, 73] else if i = 18 then [74] else if i = 19 then [75] else []) (fun d v5 w5 => if d = 68 then PIn 3 [x0, y0, y1] v5 w5 else if d = 73 then PIn 3 [1, p - 1, p - 1] v5 w5 else if d = 74 then PIs n (sprV p n [x0, y0, y1] [1, p - 1, p - 1]) v5 w5 else if d = 75 then PRs 1 [sprV p n [x0, y0, y1] [1, p - 1, p - 1]] v5 w5 else if d = 6 then PRs 1 [sprV p n [x0, y0, y1] [1, p - 1, p - 1]] v5 w5 else True) (by kernel_rfl) (fun d => Stb.ite (PIn.stb _ _) (Stb.ite (PIn.stb _ _) (Stb.ite (PIs.stb _ _) (Stb.ite (PRs.stb _ _) (Stb.ite (PRs.stb _ _) (Stb.true)))))) (fun w' hw' => below_trans hbd hw' hbd.size) ?steps11 ?fin11
    case steps11 =>
      refine ⟨⟨_, rfl, fun xs w5 hb5 hd K hK => ?_⟩, ⟨_, rfl, fun xs w5 hb5 hd K hK => ?_⟩, ⟨_, rfl, fun xs w5 hb5 hd K hK => ?_⟩, ⟨_, rfl, fun xs w5 hb5 hd K hK => ?_⟩, ⟨_, rfl, fun xs w5 hb5 hd K hK => ?_⟩, trivial⟩
      · simp only [putZ, List.foldl_cons, List.foldl_nil, Act.put, nS1, nS2, nS3] at hK ⊢
        go_simp
        exact hK _ _ (below_alloc _ _) ⟨_, 3, rfl, rd_laidC w5 [x0, y0, y1] (by unfold maxLen; simp)⟩
      · simp only [putZ, List.foldl_cons, List.foldl_nil, Act.put, nS1, nS2, nS3] at hK ⊢
        go_simp
        exact hK _ _ (below_alloc _ _) ⟨_, 3, rfl, rd_laidC w5 [1, p - 1, p - 1] (by unfold maxLen; simp)⟩
      · obtain ⟨B1, c1, e1, r1⟩ := (hd 68 (by decide) : PIn 3 [x0, y0, y1] (xs 68) w5)
        obtain ⟨B2, c2, e2, r2⟩ := (hd 73 (by decide) : PIn 3 [1, p - 1, p - 1] (xs 73) w5)
        simp only [putZ, List.foldl_cons, List.foldl_nil, Act.put, nS1, nS2, nS3] at hK ⊢
        simp only [e1, e2] at hK ⊢
        refine wp_callZ (f := ?f_30) (args := ?args_30) ?hr_30 ?hc_30
        case hr_30 => (go_simp; first | done | with_reducible rfl | (constructor <;> with_reducible rfl))
        case hc_30 =>
          refine (dnRow_any p n 3 B1 B2 c1 c2 [x0, y0, y1] [1, p - 1, p - 1] w5 r1 r2 rfl rfl (fun x hx => by simp at hx; omega) (fun x hx => by simp at hx; omega) h0 h97 hn (by omega)).mono ?_
          rintro e w6 ⟨B3, c3, rfl, h3, _, hb6⟩
          have hl3 : (sprV p n [x0, y0, y1] [1, p - 1, p - 1]).length = n := sprTo_length _ _ _ _ _
          rw [hl3]
          exact ⟨_, rfl, hK _ _ hb6 ⟨B3, c3, rfl, h3⟩⟩
      · obtain ⟨B0, c0, e0, r0⟩ := (hd 74 (by decide) : PIs n (sprV p n [x0, y0, y1] [1, p - 1, p - 1]) (xs 74) w5)
        have l0 : (sprV p n [x0, y0, y1] [1, p - 1, p - 1]).length = n := sprTo_length _ _ _ _ _
        simp only [putZ, List.foldl_cons, List.foldl_nil, Act.put, nS1, nS2, nS3] at hK ⊢
        simp only [e0] at hK ⊢
        go_simp
        have hp := PRs.laid w5 ([(B0, c0, sprV p n [x0, y0, y1] [1, p - 1, p - 1])] : List Hd) (fun x hx => by
          simp only [List.mem_cons, List.not_mem_nil, or_false] at hx
          subst hx
          exact r0) (by unfold maxLen; simp)
        have e5 : (([(B0, c0, sprV p n [x0, y0, y1] [1, p - 1, p - 1])] : List Hd).map Hd.val).toArray = #[.slice B0 n c0] := by simp [Hd.val, l0]
        rw [e5] at hp
        exact hK _ _ (below_alloc _ _) hp
      · have h5 := (hd 75 (by decide) : PRs 1 [sprV p n [x0, y0, y1] [1, p - 1, p - 1]] (xs 75) w5)
        simp only [putZ, List.foldl_cons, List.foldl_nil, Act.put, nS1, nS2, nS3] at hK ⊢
        go_simp
        exact hK _ _ (Below.refl _ _) h5
    case fin11 =>
      intro xs w6 hb6 hR
      have h6 := (hR (19, 6) (by simp) : PRs 1 [sprV p n [x0, y0, y1] [1, p - 1, p - 1]] (xs 6) w6)
      have hbf := below_trans hB1_h.out (below_trans hbd hb6 hbd.size) hB1_h.out.size
      clear hR cx0 cy0 cy1; have h6_h := Lib.hid h6; have hbf_h := Lib.hid hbf; clear h6 hbf
      simp only [putZ, List.foldl_cons, List.foldl_nil, Act.put, nS1, nS2, nS3]
      go_wp2_with (fail)
      go_ret
      exact ⟨_, rfl, h6_h.out, hbf_h.out⟩
  · have hll : l.length = 1 := by have h1 := congrArg Prod.fst hty; have h2 : (l.length : Int) = 1 := h1; omega
    have hml : m.length = 0 := by have h1 := congrArg Prod.snd hty; have h2 : (m.length : Int) = 0 := h1; omega
    clear hty hk
    obtain ⟨x0, rfl⟩ := len_one hll
    obtain rfl : m = [] := List.eq_nil_of_length_eq_zero hml
    have hM : dnRowsM p n (12, v, [x0], []) = [sprV p n [x0] [1]] := rfl
    rw [hM]
    clear hM
    obtain ⟨ad, _, rfl, ex0, cx0⟩ := hA.at_ (j := 0) (by simp)
    obtain rfl := Option.some.inj ex0
    have cx0 : w.cell? ad = some (.int .i64 x0) := cx0
    have had0 : ad.add 0 = ad := rfl
    have qx0 := hat x0 (by simp)
    clear hat
    obtain ⟨W, hW⟩ : ∃ W, W = w.alloc (.cells #[.int .i64 12, .int .i64 v, .slice (some ad) 1 a, .slice B 0 b] tEd) := ⟨_, rfl⟩
    have bW := below_alloc w (.cells #[.int .i64 12, .int .i64 v, .slice (some ad) 1 a, .slice B 0 b] tEd)
    have k0 := heap_alloc_new w (.cells #[.int .i64 12, .int .i64 v, .slice (some ad) 1 a, .slice B 0 b] tEd)
    rw [← hW] at bW k0
    have cx0 := cell_mvd bW cx0
    obtain ⟨⟨g0, g1, g2, g3⟩, f0, f1, f2, f3⟩ := box4 k0
    have bW_h := Lib.hid bW; have k0_h := Lib.hid k0; clear bW k0
    go_enter Tryd.func134, Tryd.ntmps134
    go_upto_region 1 with (fail)
    rw [← hW]
    clear hW
    go_quiet (fail)
    obtain ⟨Wd, hWd⟩ : ∃ Wd, Wd = W.drewN nq := ⟨_, rfl⟩
    have hbd : Below W.heap.size W Wd := by rw [hWd]; exact below_drewN (Below.refl _ _) nq
    rw [← hWd]
    clear hWd g0 g1 g2 g3 f0 f1 f2 f3
    replace k0_h := Lib.hid (box_below k0_h.out hbd)
    have cx0 := cell_mvd hbd cx0
    have hB0 := below_trans bW_h.out hbd bW_h.out.size
    clear hbd; have hB0_h := Lib.hid hB0; clear hB0
    obtain ⟨⟨g0, g1, g2, g3⟩, f0, f1, f2, f3⟩ := box4 k0_h.out
    go_wp2_with (fail)
    go_quiet (fail)
    obtain ⟨We, hWe⟩ : ∃ We, We = Wd.drewN nq := ⟨_, rfl⟩
    have hbe : Below Wd.heap.size Wd We := by rw [hWe]; exact below_drewN (Below.refl _ _) nq
    rw [← hWe]
    clear hWe g0 g1 g2 g3 f0 f1 f2 f3
    replace k0_h := Lib.hid (box_below k0_h.out hbe)
    have cx0 := cell_mvd hbe cx0
    have hB1 := below_trans hB0_h.out hbe hB0_h.out.size
    clear hbe; have hB1_h := Lib.hid hB1; clear hB1
    obtain ⟨⟨g0, g1, g2, g3⟩, f0, f1, f2, f3⟩ := box4 k0_h.out
    go_wp2_with (fail)
    have r1 := (rd_laidC We [x0] (by unfold maxLen; simp)).below (below_alloc _ (.cells (ints [1]).toArray 3))
    have r2 := rd_laidC (We.alloc (.cells (ints [x0]).toArray 3)) [1] (by unfold maxLen; simp)
    simp only [World.size_alloc] at r2
    have b12 := below_trans (below_alloc We (.cells (ints [x0]).toArray 3)) (below_alloc _ (.cells (ints [1]).toArray 3)) (below_alloc We (.cells (ints [x0]).toArray 3)).size
    have hC := dnRow_any p n 1 _ _ 1 1 [x0] [1] _ r1 r2 rfl rfl (fun x hx => by simp at hx; omega) (fun x hx => by simp at hx; omega) h0 h97 hn (by omega)
    refine (hC).mono ?_
    rintro e w6 ⟨B3, c3, rfl, h3, _, hb6⟩
    have hl3 : (sprV p n [x0] [1]).length = n := sprTo_length _ _ _ _ _
    rw [hl3]
    have hbf := below_trans hB1_h.out (below_trans b12 hb6 b12.size) hB1_h.out.size
    have hp := PRs.laid w6 ([(B3, c3, sprV p n [x0] [1])] : List Hd) (fun x hx => by
      simp only [List.mem_cons, List.not_mem_nil, or_false] at hx
      subst hx
      exact h3) (by unfold maxLen; simp)
    have e5 : (([(B3, c3, sprV p n [x0] [1])] : List Hd).map Hd.val).toArray = #[.slice B3 n c3] := by simp [Hd.val, hl3]
    rw [e5] at hp
    have hbg := below_trans hbf (below_alloc w6 (.cells #[.slice B3 n c3] 33)) hbf.size
    clear hC r1 r2 b12 h3 hb6 e5; have hp_h := Lib.hid hp; have hbg_h := Lib.hid hbg; have hbf_h := Lib.hid hbf; clear hp hbg hbf
    go_wp2_with (fail)
    go_ret
    exact ⟨_, rfl, hp_h.out, hbg_h.out⟩
  · have hll : l.length = 1 := by have h1 := congrArg Prod.fst hty; have h2 : (l.length : Int) = 1 := h1; omega
    have hml : m.length = 1 := by have h1 := congrArg Prod.snd hty; have h2 : (m.length : Int) = 1 := h1; omega
    clear hty hk
    obtain ⟨x0, rfl⟩ := len_one hll
    obtain ⟨y0, rfl⟩ := len_one hml
    have hM : dnRowsM p n (13, v, [x0], [y0]) = [sprV p n [x0, y0] [1, -v % p]] := rfl
    rw [hM]
    clear hM
    obtain ⟨ad, _, rfl, ex0, cx0⟩ := hA.at_ (j := 0) (by simp)
    obtain rfl := Option.some.inj ex0
    have cx0 : w.cell? ad = some (.int .i64 x0) := cx0
    have had0 : ad.add 0 = ad := rfl
    obtain ⟨bd, _, rfl, ey0, cy0⟩ := hB.at_ (j := 0) (by simp)
    obtain rfl := Option.some.inj ey0
    have cy0 : w.cell? bd = some (.int .i64 y0) := cy0
    have hbd0 : bd.add 0 = bd := rfl
    have qx0 := hat x0 (by simp)
    have qy0 := hat y0 (by simp)
    clear hat
    obtain ⟨W, hW⟩ : ∃ W, W = w.alloc (.cells #[.int .i64 13, .int .i64 v, .slice (some ad) 1 a, .slice (some bd) 1 b] tEd) := ⟨_, rfl⟩
    have bW := below_alloc w (.cells #[.int .i64 13, .int .i64 v, .slice (some ad) 1 a, .slice (some bd) 1 b] tEd)
    have k0 := heap_alloc_new w (.cells #[.int .i64 13, .int .i64 v, .slice (some ad) 1 a, .slice (some bd) 1 b] tEd)
    rw [← hW] at bW k0
    have cx0 := cell_mvd bW cx0
    have cy0 := cell_mvd bW cy0
    obtain ⟨⟨g0, g1, g2, g3⟩, f0, f1, f2, f3⟩ := box4 k0
    have bW_h := Lib.hid bW; have k0_h := Lib.hid k0; clear bW k0
    go_enter Tryd.func134, Tryd.ntmps134
    go_upto_region 1 with (fail)
    rw [← hW]
    clear hW
    go_quiet (fail)
    obtain ⟨Wd, hWd⟩ : ∃ Wd, Wd = W.drewN nq := ⟨_, rfl⟩
    have hbd : Below W.heap.size W Wd := by rw [hWd]; exact below_drewN (Below.refl _ _) nq
    rw [← hWd]
    clear hWd g0 g1 g2 g3 f0 f1 f2 f3
    replace k0_h := Lib.hid (box_below k0_h.out hbd)
    have cx0 := cell_mvd hbd cx0
    have cy0 := cell_mvd hbd cy0
    have hB0 := below_trans bW_h.out hbd bW_h.out.size
    clear hbd; have hB0_h := Lib.hid hB0; clear hB0
    obtain ⟨⟨g0, g1, g2, g3⟩, f0, f1, f2, f3⟩ := box4 k0_h.out
    go_wp2_with (fail)
    go_quiet (fail)
    obtain ⟨We, hWe⟩ : ∃ We, We = Wd.drewN nq := ⟨_, rfl⟩
    have hbe : Below Wd.heap.size Wd We := by rw [hWe]; exact below_drewN (Below.refl _ _) nq
    rw [← hWe]
    clear hWe g0 g1 g2 g3 f0 f1 f2 f3
    replace k0_h := Lib.hid (box_below k0_h.out hbe)
    have cx0 := cell_mvd hbe cx0
    have cy0 := cell_mvd hbe cy0
    have hB1 := below_trans hB0_h.out hbe hB0_h.out.size
    clear hbe; have hB1_h := Lib.hid hB1; clear hB1
    obtain ⟨⟨g0, g1, g2, g3⟩, f0, f1, f2, f3⟩ := box4 k0_h.out
    go_wp2_with (fail)
    clear g0  g2 g3 f0 f1 f2 f3
    have hbd : Below We.heap.size We We.drew := below_drewN (Below.refl _ _) 1
    refine beginH (fun w' => Below We.heap.size We w') (by kernel_rfl) ?_
    generalize We.drew = W1 at hbd ⊢
    refine takeH 0 (v := ?_) rfl (by kernel_rfl) (by kernel_rfl) (by kernel_rfl) (fun _ _ _ h => h) hbd (by rfl) (fun W' hW' => ?_) ?_; rotate_left; · (obtain ⟨⟨b0, b1, b2, b3⟩, d0, d1, d2, d3⟩ := box4 (box_below k0_h.out hW'); have zx0 := cell_mvd hW' cx0; have zy0 := cell_mvd hW' cy0; clear hW'; go_simp; first | done | with_reducible rfl)
    simp only [Act.put, nS1, nS2, nS3]
    refine takeH 1 (v := ?_) rfl (by kernel_rfl) (by kernel_rfl) (by kernel_rfl) (fun _ _ _ h => h) hbd (by rfl) (fun W' hW' => ?_) ?_; rotate_left; · (obtain ⟨⟨b0, b1, b2, b3⟩, d0, d1, d2, d3⟩ := box4 (box_below k0_h.out hW'); have zx0 := cell_mvd hW' cx0; have zy0 := cell_mvd hW' cy0; clear hW'; go_simp; first | done | with_reducible rfl)
    simp only [Act.put, nS1, nS2, nS3]
    refine takeH 2 (v := ?_) rfl (by kernel_rfl) (by kernel_rfl) (by kernel_rfl) (fun _ _ _ h => h) hbd (by rfl) (fun W' hW' => ?_) ?_; rotate_left; · (obtain ⟨⟨b0, b1, b2, b3⟩, d0, d1, d2, d3⟩ := box4 (box_below k0_h.out hW'); have zx0 := cell_mvd hW' cx0; have zy0 := cell_mvd hW' cy0; clear hW'; go_simp; first | done | with_reducible rfl)
    simp only [Act.put, nS1, nS2, nS3]
    refine takeH 3 (v := ?_) rfl (by kernel_rfl) (by kernel_rfl) (by kernel_rfl) (fun _ _ _ h => h) hbd (by rfl) (fun W' hW' => ?_) ?_; rotate_left; · (obtain ⟨⟨b0, b1, b2, b3⟩, d0, d1, d2, d3⟩ := box4 (box_below k0_h.out hW'); have zx0 := cell_mvd hW' cx0; have zy0 := cell_mvd hW' cy0; clear hW'; go_simp; first | done | with_reducible rfl)
    simp only [Act.put, nS1, nS2, nS3]
    refine takeH 4 (v := ?_) rfl (by kernel_rfl) (by kernel_rfl) (by kernel_rfl) (fun _ _ _ h => h) hbd (by rfl) (fun W' hW' => ?_) ?_; rotate_left; · (obtain ⟨⟨b0, b1, b2, b3⟩, d0, d1, d2, d3⟩ := box4 (box_below k0_h.out hW'); have zx0 := cell_mvd hW' cx0; have zy0 := cell_mvd hW' cy0; clear hW'; go_simp; first | done | with_reducible rfl)
    simp only [Act.put, nS1, nS2, nS3]
    refine takeH 5 (v := ?_) rfl (by kernel_rfl) (by kernel_rfl) (by kernel_rfl) (fun _ _ _ h => h) hbd (by rfl) (fun W' hW' => ?_) ?_; rotate_left; · (obtain ⟨⟨b0, b1, b2, b3⟩, d0, d1, d2, d3⟩ := box4 (box_below k0_h.out hW'); have zx0 := cell_mvd hW' cx0; have zy0 := cell_mvd hW' cy0; clear hW'; go_simp; first | done | with_reducible rfl)
    simp only [Act.put, nS1, nS2, nS3]
    refine takeH 6 (v := ?_) rfl (by kernel_rfl) (by kernel_rfl) (by kernel_rfl) (fun _ _ _ h => h) hbd (by rfl) (fun W' hW' => ?_) ?_; rotate_left; · (obtain ⟨⟨b0, b1, b2, b3⟩, d0, d1, d2, d3⟩ := box4 (box_below k0_h.out hW'); have zx0 := cell_mvd hW' cx0; have zy0 := cell_mvd hW' cy0; clear hW'; go_simp; first | done | with_reducible rfl)
    simp only [Act.put, nS1, nS2, nS3]
    refine takeH 7 (v := ?_) rfl (by kernel_rfl) (by kernel_rfl) (by kernel_rfl) (fun _ _ _ h => h) hbd (by rfl) (fun W' hW' => ?_) ?_; rotate_left; · (obtain ⟨⟨b0, b1, b2, b3⟩, d0, d1, d2, d3⟩ := box4 (box_below k0_h.out hW'); have zx0 := cell_mvd hW' cx0; have zy0 := cell_mvd hW' cy0; clear hW'; go_simp; first | done | with_reducible rfl)
    simp only [Act.put, nS1, nS2, nS3]
    refine takeH 9 (v := ?_) rfl (by kernel_rfl) (by kernel_rfl) (by kernel_rfl) (fun _ _ _ h => h) hbd (by rfl) (fun W' hW' => ?_) ?_; rotate_left; · (obtain ⟨⟨b0, b1, b2, b3⟩, d0, d1, d2, d3⟩ := box4 (box_below k0_h.out hW'); have zx0 := cell_mvd hW' cx0; have zy0 := cell_mvd hW' cy0; clear hW'; go_simp; first | done | with_reducible rfl)
    simp only [Act.put, nS1, nS2, nS3]
    refine takeH 10 (v := ?_) rfl (by kernel_rfl) (by kernel_rfl) (by kernel_rfl) (fun _ _ _ h => h) hbd (by rfl) (fun W' hW' => ?_) ?_; rotate_left; · (obtain ⟨⟨b0, b1, b2, b3⟩, d0, d1, d2, d3⟩ := box4 (box_below k0_h.out hW'); have zx0 := cell_mvd hW' cx0; have zy0 := cell_mvd hW' cy0; clear hW'; go_simp; first | done | with_reducible rfl)
    simp only [Act.put, nS1, nS2, nS3]
    refine takeH 11 (v := ?_) rfl (by kernel_rfl) (by kernel_rfl) (by kernel_rfl) (fun _ _ _ h => h) hbd (by rfl) (fun W' hW' => ?_) ?_; rotate_left; · (obtain ⟨⟨b0, b1, b2, b3⟩, d0, d1, d2, d3⟩ := box4 (box_below k0_h.out hW'); have zx0 := cell_mvd hW' cx0; have zy0 := cell_mvd hW' cy0; clear hW'; go_simp; first | done | with_reducible rfl)
    simp only [Act.put, nS1, nS2, nS3]
    refine relZ (P := Tryd.prog) [(8, 97), (12, 101), (13, 102), (14, 103), (15, 104), (16, 6)] (fun i => if i = 13 then [101] else if i = 14 then [97, 102] else if i = 15 then [103] else if i = 16 then [104] else []) (fun d v5 w5 => if d = 97 then PIn 2 [x0, y0] v5 w5 else if d = 101 then PV (.int .i64 (-v % p)) v5 w5 else if d = 102 then PIn 2 [1, -v % p] v5 w5 else if d = 103 then PIs n (sprV p n [x0, y0] [1, -v % p]) v5 w5 else if d = 104 then PRs 1 [sprV p n [x0, y0] [1, -v % p]] v5 w5 else if d = 6 then PRs 1 [sprV p n [x0, y0] [1, -v % p]] v5 w5 else True) (by kernel_rfl) (fun d => Stb.ite (PIn.stb _ _) (Stb.ite (PV.stb _) (Stb.ite (PIn.stb _ _) (Stb.ite (PIs.stb _ _) (Stb.ite (PRs.stb _ _) (Stb.ite (PRs.stb _ _) (Stb.true))))))) (fun w' hw' => below_trans hbd hw' hbd.size) ?steps13 ?fin13
    case steps13 =>
      refine ⟨⟨_, rfl, fun xs w5 hb5 hd K hK => ?_⟩, ⟨_, rfl, fun xs w5 hb5 hd K hK => ?_⟩, ⟨_, rfl, fun xs w5 hb5 hd K hK => ?_⟩, ⟨_, rfl, fun xs w5 hb5 hd K hK => ?_⟩, ⟨_, rfl, fun xs w5 hb5 hd K hK => ?_⟩, ⟨_, rfl, fun xs w5 hb5 hd K hK => ?_⟩, trivial⟩
      · simp only [putZ, List.foldl_cons, List.foldl_nil, Act.put, nS1, nS2, nS3] at hK ⊢
        go_simp
        exact hK _ _ (below_alloc _ _) ⟨_, 2, rfl, rd_laidC w5 [x0, y0] (by unfold maxLen; simp)⟩
      · simp only [putZ, List.foldl_cons, List.foldl_nil, Act.put, nS1, nS2, nS3] at hK ⊢
        refine wp_callZ (f := ?f_34) (args := ?args_34) ?hr_34 ?hc_34
        case hr_34 => (go_simp; first | done | with_reducible rfl | (constructor <;> with_reducible rfl))
        case hc_34 =>
          refine (fdNeg_any p v w5 h0 h97 hv0 hvp).mono ?_
          rintro e w6 ⟨rfl, rfl⟩
          exact ⟨_, rfl, hK _ _ (Below.refl _ _) rfl⟩
      · have e1 : xs 101 = .int .i64 (-v % p) := hd 101 (by decide)
        simp only [putZ, List.foldl_cons, List.foldl_nil, Act.put, nS1, nS2, nS3] at hK ⊢
        simp only [e1] at hK ⊢
        go_simp
        exact hK _ _ (below_alloc _ _) ⟨_, 2, rfl, rd_laidC w5 [1, -v % p] (by unfold maxLen; simp)⟩
      · obtain ⟨B1, c1, e1, r1⟩ := (hd 97 (by decide) : PIn 2 [x0, y0] (xs 97) w5)
        obtain ⟨B2, c2, e2, r2⟩ := (hd 102 (by decide) : PIn 2 [1, -v % p] (xs 102) w5)
        simp only [putZ, List.foldl_cons, List.foldl_nil, Act.put, nS1, nS2, nS3] at hK ⊢
        simp only [e1, e2] at hK ⊢
        refine wp_callZ (f := ?f_36) (args := ?args_36) ?hr_36 ?hc_36
        case hr_36 => (go_simp; first | done | with_reducible rfl | (constructor <;> with_reducible rfl))
        case hc_36 =>
          refine (dnRow_any p n 2 B1 B2 c1 c2 [x0, y0] [1, -v % p] w5 r1 r2 rfl rfl (fun x hx => by simp at hx; omega) (fun x hx => by simp at hx; omega) h0 h97 hn (by omega)).mono ?_
          rintro e w6 ⟨B3, c3, rfl, h3, _, hb6⟩
          have hl3 : (sprV p n [x0, y0] [1, -v % p]).length = n := sprTo_length _ _ _ _ _
          rw [hl3]
          exact ⟨_, rfl, hK _ _ hb6 ⟨B3, c3, rfl, h3⟩⟩
      · obtain ⟨B0, c0, e0, r0⟩ := (hd 103 (by decide) : PIs n (sprV p n [x0, y0] [1, -v % p]) (xs 103) w5)
        have l0 : (sprV p n [x0, y0] [1, -v % p]).length = n := sprTo_length _ _ _ _ _
        simp only [putZ, List.foldl_cons, List.foldl_nil, Act.put, nS1, nS2, nS3] at hK ⊢
        simp only [e0] at hK ⊢
        go_simp
        have hp := PRs.laid w5 ([(B0, c0, sprV p n [x0, y0] [1, -v % p])] : List Hd) (fun x hx => by
          simp only [List.mem_cons, List.not_mem_nil, or_false] at hx
          subst hx
          exact r0) (by unfold maxLen; simp)
        have e5 : (([(B0, c0, sprV p n [x0, y0] [1, -v % p])] : List Hd).map Hd.val).toArray = #[.slice B0 n c0] := by simp [Hd.val, l0]
        rw [e5] at hp
        exact hK _ _ (below_alloc _ _) hp
      · have h5 := (hd 104 (by decide) : PRs 1 [sprV p n [x0, y0] [1, -v % p]] (xs 104) w5)
        simp only [putZ, List.foldl_cons, List.foldl_nil, Act.put, nS1, nS2, nS3] at hK ⊢
        go_simp
        exact hK _ _ (Below.refl _ _) h5
    case fin13 =>
      intro xs w6 hb6 hR
      have h6 := (hR (16, 6) (by simp) : PRs 1 [sprV p n [x0, y0] [1, -v % p]] (xs 6) w6)
      have hbf := below_trans hB1_h.out (below_trans hbd hb6 hbd.size) hB1_h.out.size
      clear hR cx0 cy0; have h6_h := Lib.hid h6; have hbf_h := Lib.hid hbf; clear h6 hbf
      simp only [putZ, List.foldl_cons, List.foldl_nil, Act.put, nS1, nS2, nS3]
      go_wp2_with (fail)
      go_ret
      exact ⟨_, rfl, h6_h.out, hbf_h.out⟩
  · have hll : l.length = 1 := by have h1 := congrArg Prod.fst hty; have h2 : (l.length : Int) = 1 := h1; omega
    have hml : m.length = 1 := by have h1 := congrArg Prod.snd hty; have h2 : (m.length : Int) = 1 := h1; omega
    clear hty hk
    obtain ⟨x0, rfl⟩ := len_one hll
    obtain ⟨y0, rfl⟩ := len_one hml
    have hM : dnRowsM p n (14, v, [x0], [y0]) = [] := rfl
    rw [hM]
    clear hM
    obtain ⟨ad, _, rfl, ex0, cx0⟩ := hA.at_ (j := 0) (by simp)
    obtain rfl := Option.some.inj ex0
    have cx0 : w.cell? ad = some (.int .i64 x0) := cx0
    have had0 : ad.add 0 = ad := rfl
    obtain ⟨bd, _, rfl, ey0, cy0⟩ := hB.at_ (j := 0) (by simp)
    obtain rfl := Option.some.inj ey0
    have cy0 : w.cell? bd = some (.int .i64 y0) := cy0
    have hbd0 : bd.add 0 = bd := rfl
    have qx0 := hat x0 (by simp)
    have qy0 := hat y0 (by simp)
    clear hat
    obtain ⟨W, hW⟩ : ∃ W, W = w.alloc (.cells #[.int .i64 14, .int .i64 v, .slice (some ad) 1 a, .slice (some bd) 1 b] tEd) := ⟨_, rfl⟩
    have bW := below_alloc w (.cells #[.int .i64 14, .int .i64 v, .slice (some ad) 1 a, .slice (some bd) 1 b] tEd)
    have k0 := heap_alloc_new w (.cells #[.int .i64 14, .int .i64 v, .slice (some ad) 1 a, .slice (some bd) 1 b] tEd)
    rw [← hW] at bW k0
    have cx0 := cell_mvd bW cx0
    have cy0 := cell_mvd bW cy0
    obtain ⟨⟨g0, g1, g2, g3⟩, f0, f1, f2, f3⟩ := box4 k0
    have bW_h := Lib.hid bW; have k0_h := Lib.hid k0; clear bW k0
    go_enter Tryd.func134, Tryd.ntmps134
    go_upto_region 1 with (fail)
    rw [← hW]
    clear hW
    go_quiet (fail)
    obtain ⟨Wd, hWd⟩ : ∃ Wd, Wd = W.drewN nq := ⟨_, rfl⟩
    have hbd : Below W.heap.size W Wd := by rw [hWd]; exact below_drewN (Below.refl _ _) nq
    rw [← hWd]
    clear hWd g0 g1 g2 g3 f0 f1 f2 f3
    replace k0_h := Lib.hid (box_below k0_h.out hbd)
    have cx0 := cell_mvd hbd cx0
    have cy0 := cell_mvd hbd cy0
    have hB0 := below_trans bW_h.out hbd bW_h.out.size
    clear hbd; have hB0_h := Lib.hid hB0; clear hB0
    obtain ⟨⟨g0, g1, g2, g3⟩, f0, f1, f2, f3⟩ := box4 k0_h.out
    go_wp2_with (fail)
    go_quiet (fail)
    obtain ⟨We, hWe⟩ : ∃ We, We = Wd.drewN nq := ⟨_, rfl⟩
    have hbe : Below Wd.heap.size Wd We := by rw [hWe]; exact below_drewN (Below.refl _ _) nq
    rw [← hWe]
    clear hWe g0 g1 g2 g3 f0 f1 f2 f3
    replace k0_h := Lib.hid (box_below k0_h.out hbe)
    have cx0 := cell_mvd hbe cx0
    have cy0 := cell_mvd hbe cy0
    have hB1 := below_trans hB0_h.out hbe hB0_h.out.size
    clear hbe; have hB1_h := Lib.hid hB1; clear hB1
    obtain ⟨⟨g0, g1, g2, g3⟩, f0, f1, f2, f3⟩ := box4 k0_h.out
    go_wp2_with (fail)
    go_ret
    exact ⟨_, rfl, ⟨none, 0, [], rfl, rfl, rfl, ⟨fun i h hh => by simp at hh, fun h hh => by cases hh⟩, fun h hh => by cases hh⟩, hB1_h.out⟩
end Go.Proofs.YtahnhblodfdfhaaDoor
namespace Go.Proofs.YtahnhblodfdfhaaDoor
open Go.ChangeShapes Go.WideShapes Go.ChangeAt Go.RowKit
theorem own : ownKnob Tryd.prog.godebug = none := by kernel_rfl
theorem laidOut : laidOutB Tryd.prog = true := by kernel_rfl
theorem cellsInt : Tryd.prog.cellsOf 3 = 1 := by kernel_rfl
section
variable {H : Type} {enc : TypeId × Value → H} {P : Program} {W W' : World}
theorem trodAll_below (hl : laidOutB P = true) (hb : Below W.heap.size W W') : ∀ (ts : List TypeId) (vs : List Value) (ds : List (DataW H)) (p : List MemPlace),
    (∀ t ∈ ts, P.readableRec t = true ∧ t < P.types.size) → DataW.TrodAll enc P W 0 (fun _ => true) true ts vs ds p → (∀ x ∈ p, x.block < W.heap.size) →
    DataW.TrodAll enc P W' 0 (fun b => decide (b < W.heap.size)) true ts vs ds p
  | [], vs, ds, p, _, h, _ => by obtain ⟨rfl, rfl, rfl⟩ := trodAll_nil h; exact trodAll_mk0
  | t :: ts, vs, ds, p, hr, h, hp => by
    obtain ⟨v, vs', d, ds', p1, q1, rfl, rfl, rfl, h1, h2⟩ := trodAll_cons h
    exact trodAll_cons_mk (Below.trod hl (hr t (by simp)).1 (hr t (by simp)).2 h1 hb fun x hx => hp x (by simp [hx]))
      (trodAll_below hl hb ts vs' ds' q1 (fun t' ht' => hr t' (by simp [ht'])) h2 fun x hx => hp x (by simp [hx]))
theorem trodVars_below (hl : laidOutB P = true) (hb : Below W.heap.size W W') : ∀ (ns : List String) (gs : List (DataW H)) (p : List MemPlace),
    (∀ n ∈ ns, ∀ g t, P.globalNamed n = some g → (P.globals[g]?).map (·.type) = some t → P.readableRec t = true ∧ t < P.types.size) → DataW.TrodVars enc P W (fun _ => true) ns gs p → (∀ x ∈ p, x.block < W.heap.size) →
    DataW.TrodVars enc P W' (fun b => decide (b < W.heap.size)) ns gs p
  | [], [], p, _, h, _ => h
  | [], _ :: _, p, _, h, _ => by simp [DataW.TrodVars] at h
  | _ :: _, [], p, _, h, _ => by simp [DataW.TrodVars] at h
  | n :: ns, d :: ds, p, hr, h, hp => by
    obtain ⟨g, t, cs, fuel, p1, q1, h1, h2, h3, h4, h5, rfl⟩ := h
    have hg : g < W.heap.size := by
      simp only [World.var?, h1, Option.bind_some] at h3
      rcases Nat.lt_or_ge g W.heap.size with hlt | hge
      · exact hlt
      · rw [Array.getElem?_eq_none hge] at h3; simp at h3
    have hT : DataW.Trod enc P W 0 (fun _ => true) true t (.agg cs) d p1 := ⟨fuel, h4⟩
    obtain ⟨fuel', h4'⟩ := Below.trod hl (hr n (by simp) g t h1 h2).1 (hr n (by simp) g t h1 h2).2 hT hb fun x hx => hp x (by simp [hx])
    exact ⟨g, t, cs, fuel', p1, q1, h1, h2, var?_below hb h1 hg h3, h4', trodVars_below hl hb ns ds q1 (fun n' hn' => hr n' (by simp [hn'])) h5 fun x hx => hp x (by simp [hx]), rfl⟩
theorem post_true {f : Func} {s : ChangeSpec} {tB : TypeId} {args : Array Value} {ds gs : List (DataW H)} {before : List MemPlace} (hl : laidOutB P = true)
    (hW : DataW.Whole enc P f.params.toList s.vars false W args.toList ds gs before) (hb : Below W.heap.size W W')
    (hr : ∀ t ∈ f.params.toList, P.readableRec t = true ∧ t < P.types.size)
    (hv : ∀ n ∈ s.vars, ∀ g t, P.globalNamed n = some g → (P.globals[g]?).map (·.type) = some t → P.readableRec t = true ∧ t < P.types.size)
    (hfn : s.fn H (ds ++ gs) = { results := [.lit (.bool true)], args := ds, vars := gs }) (hres : f.resultTypes = #[tB]) (htB : P.underlying tB = some .bool) :
    s.post enc P f false true false false W args (.bool true) W' := by
  have hW' := hW
  obtain ⟨p, q, hA, hV, rfl, _, _⟩ := hW
  have hlt : ∀ x ∈ p ++ q, x.block < W.heap.size := fun x hx => hW'.lt x hx
  refine ⟨ds, gs, p ++ q, [], p, q, hW', ?_, ?_, ?_, hb.frame _, fun h => by cases h⟩
  · rw [hfn, hres]; exact trodAll_cons_mk (shut_bool htB true) trodAll_mk0
  · rw [hfn]; exact trodAll_below hl hb _ _ _ _ hr hA fun x hx => hlt x (by simp [hx])
  · rw [hfn]; exact trodVars_below hl hb _ _ _ hv hV fun x hx => hlt x (by simp [hx])
end
set_option maxRecDepth 100000 in
theorem in_int {H : Type} {enc : TypeId × Value → H} {W : World} {v : Value} {d : DataW H} {p : List MemPlace} {base : Nat} (hv : Value.okWide Tryd.prog W .any base 3 v) (h : DataW.Trod enc Tryd.prog W 0 (fun _ => true) true 3 v d p) :
    ∃ n, v = .int .i64 n ∧ -9223372036854775808 ≤ n ∧ n ≤ 9223372036854775807 := by
  obtain ⟨n, rfl, rfl, rfl, wf⟩ := open_int Tryd.underlying3 hv h
  refine ⟨n, rfl, ?_⟩
  simp [Lit.wf, IntKind.min, IntKind.max, IntKind.signed, IntKind.bits] at wf
  omega
end Go.Proofs.YtahnhblodfdfhaaDoor
namespace Go.Proofs.YtahnhblodfdfhaaDoor
open Go.ChangeShapes Go.WideShapes Go.ChangeAt Go.RowKit
theorem cellsNodeL : Tryd.prog.cellsOf 66 = 3 := by kernel_rfl
theorem cellsStr : Tryd.prog.cellsOf 9 = 1 := by kernel_rfl
theorem three_of {α : Type} {l : List α} (h : l.length = 3) : ∃ a b c, l = [a, b, c] := by
  match l, h with
  | [a, b, c], _ => exact ⟨a, b, c, rfl⟩
set_option maxRecDepth 100000 in
theorem in_node {H : Type} {enc : TypeId × Value → H} {W : World} {base fuel : Nat} {cs : List Value} {x : DataW H × List MemPlace} (h : DataW.trod enc Tryd.prog W base (fun _ => true) true fuel 66 cs = some x) :
    ∃ k v s, cs = [.int .i64 k, .int .i64 v, .string s] ∧ s.size ≤ maxLen := by
  obtain ⟨xs, n, _, _, hlen, hxl, hf⟩ := DataW.trod_struct Tryd.underlying66 h
  rw [cellsNodeL] at hlen
  obtain ⟨c0, c1, c2, rfl⟩ := three_of hlen
  obtain ⟨y0, y1, y2, rfl⟩ := three_of (show xs.length = 3 from hxl)
  have h0 : DataW.trod enc Tryd.prog W base (fun _ => true) true n 3 (List.take (Tryd.prog.cellsOf 3) [c0, c1, c2]) = some y0 := hf 0 _ rfl
  have h1 : DataW.trod enc Tryd.prog W base (fun _ => true) true n 3 (List.take (Tryd.prog.cellsOf 3) [c1, c2]) = some y1 := hf 1 _ rfl
  have h2 : DataW.trod enc Tryd.prog W base (fun _ => true) true n 9 (List.take (Tryd.prog.cellsOf 9) [c2]) = some y2 := hf 2 _ rfl
  rw [cellsInt] at h0 h1
  rw [cellsStr] at h2
  obtain ⟨k, e0, _⟩ := DataW.trod_int Tryd.underlying3 h0
  obtain ⟨v, e1, _⟩ := DataW.trod_int Tryd.underlying3 h1
  obtain ⟨s, e2, _, hs⟩ := DataW.trod_string Tryd.underlying9 h2
  simp at e0 e1 e2
  exact ⟨k, v, s, by rw [e0, e1, e2], hs⟩
end Go.Proofs.YtahnhblodfdfhaaDoor
namespace Go.Proofs.YtahnhblodfdfhaaDoor
open Go.RowKit
section
variable {w : World} {A : Option Addr} {n cap : Nat} {hs : List EHd}
theorem ES.set (h : Sl w tEd 4 A n cap (ecs hs)) (hn : hs.length = n) {ad : Addr} (hA : A = some ad) {j : Nat} (k v : Int) (B C : Option Addr) (b c : Nat) (l m : List Int) (hj : j < n) :
    Sl ((((w.setCell (ad.add (j * 4)) (.int .i64 k)).setCell ⟨(ad.add (j * 4)).block, (ad.add (j * 4)).off + 1, none⟩ (.int .i64 v)).setCell ⟨(ad.add (j * 4)).block, (ad.add (j * 4)).off + 2, none⟩ (.slice B l.length b)).setCell ⟨(ad.add (j * 4)).block, (ad.add (j * 4)).off + 3, none⟩ (.slice C m.length c)) tEd 4 A n cap (ecs (hs.set j (k, v, (B, b, l), (C, c, m)))) ∧
    Keeps (· ∈ fpA A) w ((((w.setCell (ad.add (j * 4)) (.int .i64 k)).setCell ⟨(ad.add (j * 4)).block, (ad.add (j * 4)).off + 1, none⟩ (.int .i64 v)).setCell ⟨(ad.add (j * 4)).block, (ad.add (j * 4)).off + 2, none⟩ (.slice B l.length b)).setCell ⟨(ad.add (j * 4)).block, (ad.add (j * 4)).off + 3, none⟩ (.slice C m.length c)) := by
  have hl : (ecs hs).length = n * 4 := by rw [ecs_length, hn]
  have s1 := Sl.set h hA (j * 4) (.int .i64 k) (by omega)
  have s2 := Sl.set s1 hA (j * 4 + 1) (.int .i64 v) (by rw [List.length_set]; omega)
  have s3 := Sl.set s2 hA (j * 4 + 2) (.slice B l.length b) (by rw [List.length_set, List.length_set]; omega)
  have s4 := Sl.set s3 hA (j * 4 + 3) (.slice C m.length c) (by rw [List.length_set, List.length_set, List.length_set]; omega)
  have e := ecs_set (l := hs) (j := j) (k, v, (B, b, l), (C, c, m)) (by omega)
  simp only [Hd.val] at e
  rw [e, add_next ad (j * 4) 1 (by omega), add_next ad (j * 4) 2 (by omega), add_next ad (j * 4) 3 (by omega)] at s4
  refine ⟨s4, ?_⟩
  have hb : (ad.add (j * 4)).block ∈ fpA A := by rw [block_of_add, hA]; simp
  exact ((((Keeps.refl _ w).setCell (p := ad.add (j * 4)) hb _).setCell (p := ⟨(ad.add (j * 4)).block, (ad.add (j * 4)).off + 1, none⟩) hb _).setCell (p := ⟨(ad.add (j * 4)).block, (ad.add (j * 4)).off + 2, none⟩) hb _).setCell (p := ⟨(ad.add (j * 4)).block, (ad.add (j * 4)).off + 3, none⟩) hb _
end
end Go.Proofs.YtahnhblodfdfhaaDoor
namespace Go.Proofs.YtahnhblodfdfhaaDoor
open Go.RowKit
theorem box_set {w : World} {B : Nat} {cs : Array Value} {t : TypeId} (h : w.heap[B]? = some (.cells cs t)) (i : Nat) (x : Value) : (w.setCell ⟨B, i, none⟩ x).heap[B]? = some (.cells (cs.setIfInBounds i x) t) ∧ Keeps (· = B) w (w.setCell ⟨B, i, none⟩ x) :=
  ⟨by simp [World.setCell, Array.getElem?_modify, h], (Keeps.refl (fun x => x = B) w).setCell (p := ⟨B, i, none⟩) rfl _⟩
theorem set4 {w : World} {B : Nat} {t : TypeId} {x y z u a b c d : Value} (h : w.heap[B]? = some (.cells #[x, y, z, u] t)) : ((((w.setCell ⟨B, 0, none⟩ a).setCell ⟨B, 1, none⟩ b).setCell ⟨B, 2, none⟩ c).setCell ⟨B, 3, none⟩ d).heap[B]? = some (.cells #[a, b, c, d] t) ∧ Keeps (· = B) w ((((w.setCell ⟨B, 0, none⟩ a).setCell ⟨B, 1, none⟩ b).setCell ⟨B, 2, none⟩ c).setCell ⟨B, 3, none⟩ d) := by
  obtain ⟨h1, k1⟩ := box_set h 0 a
  obtain ⟨h2, k2⟩ := box_set h1 1 b
  obtain ⟨h3, k3⟩ := box_set h2 2 c
  obtain ⟨h4, k4⟩ := box_set h3 3 d
  exact ⟨h4, ((k1.trans k2).trans k3).trans k4⟩
end Go.Proofs.YtahnhblodfdfhaaDoor
namespace Go.Proofs.YtahnhblodfdfhaaDoor
open Go.RowKit
theorem Qt.below {w w' : World} (h : Qt w w') : Below w.heap.size w w' := by obtain ⟨n, rfl⟩ := h; exact below_drewN (Below.refl _ _) n
end Go.Proofs.YtahnhblodfdfhaaDoor
namespace Go.Proofs.YtahnhblodfdfhaaDoor
open Go.RowKit
theorem ret_two {a b c d : Int} (h : (a, b) = (c, d)) : Ending.returned (.tuple #[.int .i64 a, .int .i64 b]) = .returned (.tuple #[.int .i64 c, .int .i64 d]) := by
  rw [(Prod.mk.inj h).1, (Prod.mk.inj h).2]
set_option maxHeartbeats 1000000 in
theorem tmKind_any (k : Int) (w : World) :
    Calls Tryd.prog 177 #[.int .i64 k] w fun e w' => e = .returned (.tuple #[.int .i64 (kindTy k).1, .int .i64 (kindTy k).2]) ∧ w' = w := by
  go_enter Tryd.func177, Tryd.ntmps177
  go_wp2
  all_goals go_ret2
  all_goals (refine ⟨ret_two ?_, rfl⟩; simp_all [kindTy])
set_option maxHeartbeats 1000000 in
theorem tmArity_any (k v : Int) (s : ByteArray) (w : World) :
    Calls Tryd.prog 191 #[.agg #[.int .i64 k, .int .i64 v, .string s]] w fun e w' => e = .returned (.tuple #[.int .i64 (leafTy (k, v, s)).1, .int .i64 (leafTy (k, v, s)).2]) ∧ Below w.heap.size w w' := by
  by_cases hk : k = 1
  · have hb : (k == 1) = true := by simp [hk]
    have hl : leafTy (k, v, s) = (v, v) := by simp [leafTy, hk]
    have hk_h := Lib.hid hk; have hl_h := Lib.hid hl; clear hk hl
    go_enter Tryd.func191, Tryd.ntmps191
    go_wp2_with (fail)
    go_quiet (fail)
    go_wp2_with (fail)
    go_ret2
    exact ⟨ret_two (by rw [hl_h.out]), below_drewN (t_below_alloc _ _) _⟩
  · have hb : (k == 1) = false := by simp [hk]
    have hl : leafTy (k, v, s) = kindTy k := by simp [leafTy, hk]
    have hk_h := Lib.hid hk; have hl_h := Lib.hid hl; clear hk hl
    go_enter Tryd.func191, Tryd.ntmps191
    go_wp2_with (fail)
    refine (tmKind_any _ _).mono ?_
    rintro e w' ⟨rfl, rfl⟩
    go_wp2_with (fail)
    go_ret2
    exact ⟨ret_two (by rw [hl_h.out]), t_below_alloc _ _⟩
theorem leafB_of {k v : Int} {s : ByteArray} {b : Bool} (h : b = true ↔ (s = noName ∧ ((k = 1 ∧ 0 ≤ v ∧ v ≤ 12) ∨ ((k = 7 ∨ k = 13) ∧ 0 ≤ v ∧ v ≤ 96) ∨ (2 ≤ k ∧ k ≤ 14 ∧ k ≠ 7 ∧ k ≠ 13 ∧ v = 0)))) : b = leafB (k, v, s) := by
  rw [Bool.eq_iff_iff, h]; simp [leafB]
set_option maxHeartbeats 2000000 in
theorem tmLeaf_any (k v : Int) (s : ByteArray) (w : World) :
    Calls Tryd.prog 190 #[.agg #[.int .i64 k, .int .i64 v, .string s]] w fun e w' => ∃ b, e = .returned (.bool b) ∧ b = leafB (k, v, s) ∧ Below w.heap.size w w' := by
  by_cases hs : s = noName
  · subst hs
    have he : (!noName.toList.isEmpty) = false := by rw [ByteArray.toList_eq]; rfl
    have he2 : noName.toList = [] := by rw [ByteArray.toList_eq]; rfl
    go_enter Tryd.func190, Tryd.ntmps190
    go_wp2_with (fail)
    refine (t_l1In_any _ _ _ _).mono ?_
    rintro e w' ⟨rfl, rfl⟩
    cases h14 : t_inB k 1 14
    · have H14 := Lib.hid h14
      clear h14
      go_wp2_with (fail)
      go_ret
      refine ⟨_, rfl, leafB_of ?_, t_below_alloc _ _⟩
      have : ¬ (1 ≤ k ∧ k ≤ 14) := by simpa [t_inB] using H14.out
      simp
      omega
    · have H14 := Lib.hid h14
      clear h14
      by_cases h1 : k = 1
      · have hb : (k == 1) = true := by simp [h1]
        have h1_h := Lib.hid h1; clear h1
        go_wp2_with (fail)
        refine (t_l1In_any _ _ _ _).mono ?_
        rintro e w' ⟨rfl, rfl⟩
        go_wp2_with (fail)
        go_ret
        refine ⟨_, rfl, leafB_of ?_, t_below_alloc _ _⟩
        have := h1_h.out
        simp [t_inB]
        omega
      · have hb : (k == 1) = false := by simp [h1]
        by_cases h7 : k = 7 ∨ k = 13
        · have h3 : 1 ≤ k ∧ k ≤ 14 := by omega
          by_cases h77 : k = 7
          · have hb7 : (k == 7) = true := by simp [h77]
            have h1_h := Lib.hid h1; have h7_h := Lib.hid h7; have h77_h := Lib.hid h77; clear h1 h7 h77
            go_wp2_with (fail)
            refine (t_l1In_any _ _ _ _).mono ?_
            rintro e w' ⟨rfl, rfl⟩
            go_wp2_with (fail)
            go_ret
            refine ⟨_, rfl, leafB_of ?_, t_below_alloc _ _⟩
            have := h77_h.out
            simp [t_inB]
            omega
          · have h13 : k = 13 := by omega
            have hb7 : (k == 7) = false := by simp [h77]
            have hb13 : (k == 13) = true := by simp [h13]
            have h1_h := Lib.hid h1; have h7_h := Lib.hid h7; have h77_h := Lib.hid h77; have h13_h := Lib.hid h13; clear h1 h7 h77 h13
            go_wp2_with (fail)
            refine (t_l1In_any _ _ _ _).mono ?_
            rintro e w' ⟨rfl, rfl⟩
            go_wp2_with (fail)
            go_ret
            refine ⟨_, rfl, leafB_of ?_, t_below_alloc _ _⟩
            have := h13_h.out
            simp [t_inB]
            omega
        · have hb7 : (k == 7) = false := by simp; omega
          have hb13 : (k == 13) = false := by simp; omega
          have h1_h := Lib.hid h1; have h7_h := Lib.hid h7; clear h1 h7
          go_wp2_with (fail)
          go_ret
          refine ⟨_, rfl, leafB_of ?_, t_below_alloc _ _⟩
          have h14 : 1 ≤ k ∧ k ≤ 14 := by simpa [t_inB] using H14.out
          have a1 := h1_h.out
          have a2 := h7_h.out
          simp
          omega
  · have he : (!s.toList.isEmpty) = true := by
      simp only [Bool.not_eq_true', List.isEmpty_eq_false_iff]
      exact fun h => hs (name_yes (by simp [h]))
    have hs_h := Lib.hid hs; clear hs
    go_enter Tryd.func190, Tryd.ntmps190
    go_wp2_with (fail)
    go_ret
    refine ⟨_, rfl, leafB_of ?_, t_below_alloc _ _⟩
    have := hs_h.out
    simp [this]
end Go.Proofs.YtahnhblodfdfhaaDoor
namespace Go.Proofs.YtahnhblodfdfhaaDoor
open Go.RowKit
theorem gvB_iff (k v : Int) : gvB k v = true ↔ ((k = 7 ∨ k = 13) ∧ 0 ≤ v ∧ v ≤ 96) ∨ (k ≠ 7 ∧ k ≠ 13 ∧ v = 0) := by
  unfold gvB hvB t_inB
  by_cases h : k = 7 ∨ k = 13
  · rw [decide_eq_true h, if_pos rfl, decide_eq_true_eq]
    constructor
    · intro h3; exact .inl ⟨h, h3⟩
    · intro h3; omega
  · rw [decide_eq_false h, if_neg (by simp), decide_eq_true_eq]
    constructor
    · intro h3; exact .inr ⟨by omega, by omega, h3⟩
    · intro h3; omega
theorem leafB_gv {k v : Int} (h1 : 3 ≤ k) (h2 : k ≤ 14) : leafB (k, v, noName) = gvB k v := by
  rw [Bool.eq_iff_iff, gvB_iff]
  unfold leafB
  simp only [decide_eq_true_eq]
  constructor
  · rintro ⟨-, h3⟩; omega
  · intro h3; exact ⟨trivial, by omega⟩
set_option maxHeartbeats 1000000 in
theorem t_l1All_any (A : Option Addr) (c n : Nat) (l : List Int) (lo hi : Int) (w : World) (h : RdI w A l) (hn : l.length = n) (hnb : n ≤ 17592186044416) :
    Calls Tryd.prog 111 #[.slice A n c, .int .i64 lo, .int .i64 hi] w fun e w' => e = .returned (.bool (l.all fun x => t_inB x lo hi)) ∧ w' = w := by
  obtain ⟨D, hD⟩ : ∃ D, D = l.all fun x => t_inB x lo hi := ⟨_, rfl⟩
  rw [← hD]
  have hD_h := Lib.hid hD; have hn_h := Lib.hid hn; clear hD hn
  go_enter Tryd.func111, Tryd.ntmps111
  go_wp2_with (fail)
  go_loop [11] (fun i => ∃ k : Nat, k ≤ n ∧ i = .int .i64 k ∧ (l.take k).all (fun x => t_inB x lo hi) = true) (fun i => n - (intOf i).toNat)
  case atStart => exact ⟨0, Nat.zero_le _, rfl, by simp⟩
  case round =>
    obtain ⟨k, hk, rfl, hall⟩ := hrel
    by_cases hlt : k < n
    · obtain ⟨ad, x, rfl, hx, hc⟩ := h.at_ (j := k) (by rw [hn_h.out]; exact hlt)
      have hkI : (k : Int) < (n : Int) := by omega
      have hC := t_l1In_any x lo hi w
      cases hb : t_inB x lo hi
      · rw [hb] at hC
        have hf : D = false := by
          rw [hD_h.out, Bool.eq_false_iff]
          intro hh
          have := List.all_eq_true.1 hh x (List.mem_of_getElem? hx)
          rw [hb] at this; cases this
        subst hf
        have hC_h := Lib.hid hC; have hall_h := Lib.hid hall; have hx_h := Lib.hid hx; clear hC hall hx; clear h hb
        go_wp2_with (fail)
        refine (hC_h.out).mono ?_
        rintro e w1 ⟨rfl, rfl⟩
        go_wp2_with (fail)
        go_ret
        exact ⟨rfl, rfl⟩
      · rw [hb] at hC
        have hst : (l.take (k + 1)).all (fun x => t_inB x lo hi) = true := by
          rw [List.take_add_one, hx, List.all_append, hall]; simp [hb]
        have hC_h := Lib.hid hC; have hst_h := Lib.hid hst; clear hC hst; clear h hb hall hx
        go_wp2_with (fail)
        refine (hC_h.out).mono ?_
        rintro e w1 ⟨rfl, rfl⟩
        go_wp2_with (fail)
        go_round
        case rel => exact ⟨k + 1, by omega, by go_num, hst_h.out⟩
        case measure => simp [intOf]; omega
    · obtain rfl : n = k := by omega
      have ht : D = true := by rw [hD_h.out, ← hall, List.take_of_length_le (by rw [hn_h.out]; exact Nat.le_refl _)]
      subst ht
      have hall_h := Lib.hid hall; clear hall; clear h
      go_wp2_with (fail)
      go_ret
      exact ⟨rfl, rfl⟩
set_option maxRecDepth 100000 in
set_option maxHeartbeats 4000000 in
theorem hgEdge_any (k v : Int) (B C : Option Addr) (b c : Nat) (l m : List Int) (n : Int) (w : World) (hB : RdI w B l) (hC : RdI w C m) (hl : l.length ≤ 1048576) (hm : m.length ≤ 1048576) (n0 : -1000000 ≤ n) (n1 : n ≤ 1000000) :
    Calls Tryd.prog 184 #[.agg #[.int .i64 k, .int .i64 v, .slice B l.length b, .slice C m.length c], .int .i64 n] w fun e w' => e = .returned (.bool (hgB n (k, v, l, m))) ∧ Below w.heap.size w w' := by
  obtain ⟨p, hp⟩ : ∃ p, p = l.length := ⟨_, rfl⟩
  obtain ⟨q, hq⟩ : ∃ q, q = m.length := ⟨_, rfl⟩
  have hA1 := fun (W : World) (hb : Below w.heap.size w W) => t_l1All_any B b p l 0 (n - 1) W (hB.below hb) hp.symm (by omega)
  have hA2 := fun (W : World) (hb : Below w.heap.size w W) => t_l1All_any C c q m 0 (n - 1) W (hC.below hb) hq.symm (by omega)
  obtain ⟨D, hD⟩ : ∃ D, D = hgB n (k, v, l, m) := ⟨_, rfl⟩
  have hDD : D = ((t_inB k 3 14 && (gvB k v && decide (((p : Int), (q : Int)) = kindTy k))) && ((l.all fun x => t_inB x 0 (n - 1)) && (m.all fun x => t_inB x 0 (n - 1)))) := by rw [hD, hp, hq]; rfl
  rw [← hD, ← hp, ← hq]
  obtain ⟨D1, hD1⟩ : ∃ D, D = l.all fun x => t_inB x 0 (n - 1) := ⟨_, rfl⟩
  obtain ⟨D2, hD2⟩ : ∃ D, D = m.all fun x => t_inB x 0 (n - 1) := ⟨_, rfl⟩
  simp only [← hD1] at hA1 hDD
  simp only [← hD2] at hA2 hDD
  have hkd : decide (((p : Int), (q : Int)) = kindTy k) = (((p : Int) == (kindTy k).1) && ((q : Int) == (kindTy k).2)) := by
    rw [Bool.eq_iff_iff]
    simp only [decide_eq_true_eq, Bool.and_eq_true, beq_iff_eq]
    exact ⟨fun h => ⟨congrArg Prod.fst h, congrArg Prod.snd h⟩, fun h => Prod.ext h.1 h.2⟩
  rw [hkd] at hDD
  have hTL := fun (W : World) => tmLeaf_any k v noName W
  have hIn := fun (W : World) => t_l1In_any k 3 14 W
  have hTK := fun (W : World) => tmKind_any k W
  obtain ⟨i1, hi1⟩ : ∃ i, i = (kindTy k).1 := ⟨_, rfl⟩
  obtain ⟨i2, hi2⟩ : ∃ i, i = (kindTy k).2 := ⟨_, rfl⟩
  simp only [← hi1, ← hi2] at hTK hDD
  have wn : IntKind.i64.wrap (n - 1) = n - 1 := IntWalk.i64_in _ (by omega)
  obtain ⟨W, hW, bW, k0⟩ : ∃ W, W = w.alloc (.cells #[.int .i64 k, .int .i64 v, .slice B p b, .slice C q c] tEd) ∧ Below w.heap.size w W ∧ W.heap[w.heap.size]? = some (.cells #[.int .i64 k, .int .i64 v, .slice B p b, .slice C q c] tEd) := ⟨_, rfl, t_below_alloc _ _, heap_alloc_new _ _⟩
  obtain ⟨⟨c0, c1, c2, c3⟩, f0, f1, f2, f3⟩ := t_box4 k0
  clear hB hC hD hkd hD1 hD2 hi1 hi2
  by_cases h0 : t_inB k 3 14 = true
  case neg =>
    have h0' : t_inB k 3 14 = false := by simpa using h0
    obtain rfl : D = false := by rw [hDD, h0']; rfl
    simp only [h0'] at hIn
    clear h0 h0' hDD; have hA1_h := Lib.hid hA1; have hA2_h := Lib.hid hA2; have hTL_h := Lib.hid hTL; have hIn_h := Lib.hid hIn; have hTK_h := Lib.hid hTK; have k0_h := Lib.hid k0; have bW_h := Lib.hid bW; have hp_h := Lib.hid hp; have hq_h := Lib.hid hq; clear hA1 hA2 hTL hIn hTK k0 bW hp hq
    go_enter Tryd.func184, Tryd.ntmps184
    go_upto_region 1 with (fail)
    rw [← hW]
    clear hW
    go_wp2_with (fail)
    refine (hIn_h.out _).mono ?_
    rintro e w1 ⟨rfl, rfl⟩
    go_wp2_with (fail)
    go_ret
    exact ⟨rfl, bW_h.out⟩
  have hb14 : 3 ≤ k ∧ k ≤ 14 := of_decide_eq_true h0
  have hlf0 := leafB_gv (v := v) hb14.1 hb14.2
  simp only [h0] at hIn
  rw [h0, Bool.true_and] at hDD
  by_cases h1 : gvB k v = true
  case neg =>
    have h1' : gvB k v = false := by simpa using h1
    obtain rfl : D = false := by rw [hDD, h1']; rfl
    have hlf : leafB (k, v, noName) = false := by rw [hlf0, h1']
    clear h0 h1 h1' hDD hlf0 hb14; have hA1_h := Lib.hid hA1; have hA2_h := Lib.hid hA2; have hTL_h := Lib.hid hTL; have hIn_h := Lib.hid hIn; have hTK_h := Lib.hid hTK; have k0_h := Lib.hid k0; have bW_h := Lib.hid bW; have hp_h := Lib.hid hp; have hq_h := Lib.hid hq; clear hA1 hA2 hTL hIn hTK k0 bW hp hq
    go_enter Tryd.func184, Tryd.ntmps184
    go_upto_region 1 with (fail)
    rw [← hW]
    clear hW
    go_wp2_with (fail)
    refine (hIn_h.out _).mono ?_
    rintro e w1 ⟨rfl, rfl⟩
    go_wp2_with (fail)
    refine (hTL_h.out _).mono ?_
    rintro e w2 ⟨lb, rfl, hlb, hb2⟩
    rw [hlf] at hlb
    subst hlb
    clear c0 c1 c2 c3 f0 f1 f2 f3
    have k2 := t_box_below k0_h.out hb2
    obtain ⟨⟨c0, c1, c2, c3⟩, f0, f1, f2, f3⟩ := t_box4 k2
    have hB2 := below_trans bW_h.out hb2 bW_h.out.size
    clear hb2 k2; have hB2_h := Lib.hid hB2; clear hB2
    go_wp2_with (fail)
    go_ret
    exact ⟨rfl, hB2_h.out⟩
  have hlf : leafB (k, v, noName) = true := by rw [hlf0, h1]
  rw [h1, Bool.true_and] at hDD
  clear h0 h1 hlf0 hb14
  by_cases h2 : (p : Int) = i1
  case neg =>
    have h2' : ((p : Int) == i1) = false := by rw [beq_eq_false_iff_ne]; exact h2
    obtain rfl : D = false := by rw [hDD, h2']; rfl
    clear h2 hDD; have hA1_h := Lib.hid hA1; have hA2_h := Lib.hid hA2; have hTL_h := Lib.hid hTL; have hIn_h := Lib.hid hIn; have hTK_h := Lib.hid hTK; have k0_h := Lib.hid k0; have bW_h := Lib.hid bW; have hp_h := Lib.hid hp; have hq_h := Lib.hid hq; clear hA1 hA2 hTL hIn hTK k0 bW hp hq
    go_enter Tryd.func184, Tryd.ntmps184
    go_upto_region 1 with (fail)
    rw [← hW]
    clear hW
    go_wp2_with (fail)
    refine (hIn_h.out _).mono ?_
    rintro e w1 ⟨rfl, rfl⟩
    go_wp2_with (fail)
    refine (hTL_h.out _).mono ?_
    rintro e w2 ⟨lb, rfl, hlb, hb2⟩
    rw [hlf] at hlb
    subst hlb
    clear c0 c1 c2 c3 f0 f1 f2 f3
    have k2 := t_box_below k0_h.out hb2
    obtain ⟨⟨c0, c1, c2, c3⟩, f0, f1, f2, f3⟩ := t_box4 k2
    have hB2 := below_trans bW_h.out hb2 bW_h.out.size
    clear hb2 k2; have hB2_h := Lib.hid hB2; clear hB2
    go_wp2_with (fail)
    refine (hTK_h.out _).mono ?_
    rintro e w3 ⟨rfl, rfl⟩
    go_wp2_with (fail)
    go_ret
    exact ⟨rfl, hB2_h.out⟩
  have h2' : ((p : Int) == i1) = true := by rw [beq_iff_eq]; exact h2
  rw [h2', Bool.true_and] at hDD
  clear h2
  by_cases h3 : (q : Int) = i2
  case neg =>
    have h3' : ((q : Int) == i2) = false := by rw [beq_eq_false_iff_ne]; exact h3
    obtain rfl : D = false := by rw [hDD, h3']; rfl
    clear h3 hDD; have hA1_h := Lib.hid hA1; have hA2_h := Lib.hid hA2; have hTL_h := Lib.hid hTL; have hIn_h := Lib.hid hIn; have hTK_h := Lib.hid hTK; have k0_h := Lib.hid k0; have bW_h := Lib.hid bW; have hp_h := Lib.hid hp; have hq_h := Lib.hid hq; clear hA1 hA2 hTL hIn hTK k0 bW hp hq
    go_enter Tryd.func184, Tryd.ntmps184
    go_upto_region 1 with (fail)
    rw [← hW]
    clear hW
    go_wp2_with (fail)
    refine (hIn_h.out _).mono ?_
    rintro e w1 ⟨rfl, rfl⟩
    go_wp2_with (fail)
    refine (hTL_h.out _).mono ?_
    rintro e w2 ⟨lb, rfl, hlb, hb2⟩
    rw [hlf] at hlb
    subst hlb
    clear c0 c1 c2 c3 f0 f1 f2 f3
    have k2 := t_box_below k0_h.out hb2
    obtain ⟨⟨c0, c1, c2, c3⟩, f0, f1, f2, f3⟩ := t_box4 k2
    have hB2 := below_trans bW_h.out hb2 bW_h.out.size
    clear hb2 k2; have hB2_h := Lib.hid hB2; clear hB2
    go_wp2_with (fail)
    refine (hTK_h.out _).mono ?_
    rintro e w3 ⟨rfl, rfl⟩
    go_wp2_with (fail)
    go_ret
    exact ⟨rfl, hB2_h.out⟩
  have h3' : ((q : Int) == i2) = true := by rw [beq_iff_eq]; exact h3
  rw [h3', Bool.true_and] at hDD
  clear h3
  cases D1
  case false =>
    obtain rfl : D = false := by rw [hDD]; rfl
    clear hDD; have hA1_h := Lib.hid hA1; have hA2_h := Lib.hid hA2; have hTL_h := Lib.hid hTL; have hIn_h := Lib.hid hIn; have hTK_h := Lib.hid hTK; have k0_h := Lib.hid k0; have bW_h := Lib.hid bW; have hp_h := Lib.hid hp; have hq_h := Lib.hid hq; clear hA1 hA2 hTL hIn hTK k0 bW hp hq
    go_enter Tryd.func184, Tryd.ntmps184
    go_upto_region 1 with (fail)
    rw [← hW]
    clear hW
    go_wp2_with (fail)
    refine (hIn_h.out _).mono ?_
    rintro e w1 ⟨rfl, rfl⟩
    go_wp2_with (fail)
    refine (hTL_h.out _).mono ?_
    rintro e w2 ⟨lb, rfl, hlb, hb2⟩
    rw [hlf] at hlb
    subst hlb
    clear c0 c1 c2 c3 f0 f1 f2 f3
    have k2 := t_box_below k0_h.out hb2
    obtain ⟨⟨c0, c1, c2, c3⟩, f0, f1, f2, f3⟩ := t_box4 k2
    have hB2 := below_trans bW_h.out hb2 bW_h.out.size
    clear hb2 k2; have hB2_h := Lib.hid hB2; clear hB2
    go_wp2_with (fail)
    refine (hTK_h.out _).mono ?_
    rintro e w3 ⟨rfl, rfl⟩
    go_wp2_with (fail)
    refine (hA1_h.out _ hB2_h.out).mono ?_
    rintro e w4 ⟨rfl, rfl⟩
    go_wp2_with (fail)
    go_ret
    exact ⟨rfl, hB2_h.out⟩
  obtain rfl : D = D2 := by rw [hDD]; rfl
  clear hDD; have hA1_h := Lib.hid hA1; have hA2_h := Lib.hid hA2; have hTL_h := Lib.hid hTL; have hIn_h := Lib.hid hIn; have hTK_h := Lib.hid hTK; have k0_h := Lib.hid k0; have bW_h := Lib.hid bW; have hp_h := Lib.hid hp; have hq_h := Lib.hid hq; clear hA1 hA2 hTL hIn hTK k0 bW hp hq
  go_enter Tryd.func184, Tryd.ntmps184
  go_upto_region 1 with (fail)
  rw [← hW]
  clear hW
  go_wp2_with (fail)
  refine (hIn_h.out _).mono ?_
  rintro e w1 ⟨rfl, rfl⟩
  go_wp2_with (fail)
  refine (hTL_h.out _).mono ?_
  rintro e w2 ⟨lb, rfl, hlb, hb2⟩
  rw [hlf] at hlb
  subst hlb
  clear c0 c1 c2 c3 f0 f1 f2 f3
  have k2 := t_box_below k0_h.out hb2
  obtain ⟨⟨c0, c1, c2, c3⟩, f0, f1, f2, f3⟩ := t_box4 k2
  have hB2 := below_trans bW_h.out hb2 bW_h.out.size
  clear hb2 k2; have hB2_h := Lib.hid hB2; clear hB2
  go_wp2_with (fail)
  refine (hTK_h.out _).mono ?_
  rintro e w3 ⟨rfl, rfl⟩
  go_wp2_with (fail)
  refine (hA1_h.out _ hB2_h.out).mono ?_
  rintro e w4 ⟨rfl, rfl⟩
  go_wp2_with (fail)
  refine (hA2_h.out _ hB2_h.out).mono ?_
  rintro e w4 ⟨rfl, rfl⟩
  go_wp2_with (fail)
  go_ret
  exact ⟨rfl, hB2_h.out⟩
end Go.Proofs.YtahnhblodfdfhaaDoor
namespace Go.Proofs.YtahnhblodfdfhaaDoor
open Go.RowKit
theorem IS.getc {w : World} {A : Option Addr} {c n : Nat} {l : List Int} (h : IS w A c (cntM n l)) {q : Nat} (hq : q < n) : ∃ ad, A = some ad ∧ ad.block < w.heap.size ∧ w.cell? (ad.add q) = some (.int .i64 (l.count (q : Int) : Int)) ∧ w.frozen? (ad.add q) = false := by
  obtain ⟨ad, x, hA, hx, hb, hc, hf⟩ := h.at_ (j := q) (by rw [cntM_length]; exact hq)
  rw [cntM_get hq] at hx
  obtain rfl := Option.some.inj hx
  exact ⟨ad, hA, hb, hc, hf q⟩
theorem madeCnt (n : Nat) : ints (List.replicate n 0) = ints (cntM n []) := by rw [cntM_nil]
theorem inW_app_left {n : Int} {l m : List Int} (h : inW n (l ++ m) = true) : inW n l = true := by rw [inW_append] at h; simp at h; exact h.1
theorem inW_app_right {n : Int} {l m : List Int} (h : inW n (l ++ m) = true) : inW n m = true := by rw [inW_append] at h; simp at h; exact h.2
theorem inW_at {n : Nat} {l : List Int} (h : inW (n : Int) l = true) {k : Nat} {x : Int} (hx : l[k]? = some x) : ∃ q : Nat, x = (q : Int) ∧ q < n := by
  have := inW_iff.1 h x (List.mem_of_getElem? hx)
  exact ⟨x.toNat, by omega, by omega⟩
theorem mem_edW_of {l : List Eg} {e : Eg} (h : e ∈ l) : (∀ x, x ∈ e.2.2.1 → x ∈ edW l) ∧ ∀ x, x ∈ e.2.2.2 → x ∈ edW l := by
  induction l with
  | nil => cases h
  | cons a r ih =>
    rcases List.mem_cons.1 h with rfl | h
    · exact ⟨fun x hx => by simp [edW, hx], fun x hx => by simp [edW, hx]⟩
    · obtain ⟨h1, h2⟩ := ih h
      exact ⟨fun x hx => by simp [edW, h1 x hx], fun x hx => by simp [edW, h2 x hx]⟩
theorem out_len : ∀ (l : List Eg), (outW l).length + (inpW l).length + 2 * l.length = cntE l
  | [] => rfl
  | e :: r => by have := out_len r; simp only [outW, inpW, cntE, List.length_append, List.length_cons]; omega
theorem outW_take {es : List Eg} {k : Nat} {e : Eg} (h : es[k]? = some e) : outW (es.take (k + 1)) = outW (es.take k) ++ e.2.2.2 := by rw [List.take_add_one, h, outW_append]; simp [outW]
theorem inpW_take {es : List Eg} {k : Nat} {e : Eg} (h : es[k]? = some e) : inpW (es.take (k + 1)) = inpW (es.take k) ++ e.2.2.1 := by rw [List.take_add_one, h, inpW_append]; simp [inpW]
theorem outW_le (es : List Eg) (k : Nat) : (outW (es.take k)).length ≤ (outW es).length := by
  conv => rhs; rw [← List.take_append_drop k es, outW_append, List.length_append]
  omega
theorem inpW_le (es : List Eg) (k : Nat) : (inpW (es.take k)).length ≤ (inpW es).length := by
  conv => rhs; rw [← List.take_append_drop k es, inpW_append, List.length_append]
  omega
set_option maxRecDepth 100000 in
set_option maxHeartbeats 8000000 in
theorem hgCounts_any {v : Value} {g : Gr} (w : World) (n : Nat) (h : RdGr w v g) (ok : OkG g) (hgn : g.1 = (n : Int)) (hnb : n ≤ 1048576) (hin : inW (n : Int) (t_allW g) = true) :
    Calls Tryd.prog 185 #[v] w fun e w' => ∃ (A B : Option Addr) (a b : Nat), e = .returned (.tuple #[.slice A n a, .slice B n b]) ∧ IS w' A a (cntM n (orgW g)) ∧ IS w' B b (cntM n (dstW g)) ∧ Fresh w.heap.size A ∧ Fresh w.heap.size B ∧ Below w.heap.size w w' := by
  obtain ⟨A, c, hs, ⟨B, b, s⟩, ⟨C, d, t⟩, rfl, e1, e2, e3, hE, hRa, hRb⟩ := h
  obtain ⟨z, es, s0, t0⟩ := g
  have a1 : es = hs.map egOf := e1
  have a2 : s = s0 := e2
  have a3 : t = t0 := e3
  have a4 : z = (n : Int) := hgn
  subst a2 a3 a4
  have hin0 : inW (n : Int) (s ++ (t ++ edW es)) = true := hin
  have hinS := inW_app_left hin0
  have hinT := inW_app_left (inW_app_right hin0)
  have hinE := inW_app_right (inW_app_right hin0)
  have hlen1 : es.length ≤ 1048576 := ok.1.1
  have hlen2 : s.length ≤ 1048576 := ok.1.2.1
  have hlen3 : t.length ≤ 1048576 := ok.1.2.2
  have hcnt : cntE es ≤ 8388608 := by have : cntE es + s.length + t.length ≤ 8388608 := ok.2.2; omega
  have hol := out_len es
  have hXl : s.length + (outW es).length ≤ 20000000 ∧ t.length + (inpW es).length ≤ 20000000 := by omega
  obtain ⟨m, hm⟩ : ∃ m, m = hs.length := ⟨_, rfl⟩
  obtain ⟨p, hp⟩ : ∃ p, p = s.length := ⟨_, rfl⟩
  obtain ⟨r, hr⟩ : ∃ r, r = t.length := ⟨_, rfl⟩
  have hmes : es.length = m := by rw [a1, List.length_map, hm]
  have horg : orgW ((n : Int), es, s, t) = s ++ outW es := rfl
  have hdst : dstW ((n : Int), es, s, t) = t ++ inpW es := rfl
  rw [horg, hdst]
  show Calls Tryd.prog _ #[.agg #[.int .i64 (n : Int), .slice A hs.length c, .slice B s.length b, .slice C t.length d]] w _
  rw [← hm, ← hp, ← hr]
  have hRa0 : RdI w B s := hRa
  have hRb0 : RdI w C t := hRb
  obtain ⟨W, hW, bW, k0⟩ := (⟨_, rfl, t_below_alloc _ _, heap_alloc_new _ _⟩ : ∃ W, W = w.alloc (.cells #[.int .i64 (n : Int), .slice A m c, .slice B p b, .slice C r d] tGr) ∧ Below w.heap.size w W ∧ W.heap[w.heap.size]? = some (.cells #[.int .i64 (n : Int), .slice A m c, .slice B p b, .slice C r d] tGr))
  obtain ⟨⟨c0, c1, c2, c3⟩, f0, f1, f2, f3⟩ := t_box4 k0
  have hpb : (p : Int) ≤ 1048576 := by omega
  have hrb : (r : Int) ≤ 1048576 := by omega
  have hmb : (m : Int) ≤ 1048576 := by omega
  clear hRa hRb hin hin0 ok e1 e2 e3 hgn hlen1 hlen2 hlen3 hol horg hdst; have hE_h := Lib.hid hE; have hRa0_h := Lib.hid hRa0; have hRb0_h := Lib.hid hRb0; have a1_h := Lib.hid a1; have hinS_h := Lib.hid hinS; have hinT_h := Lib.hid hinT; have hinE_h := Lib.hid hinE; have hcnt_h := Lib.hid hcnt; have hm_h := Lib.hid hm; have hp_h := Lib.hid hp; have hr_h := Lib.hid hr; have hmes_h := Lib.hid hmes; have bW_h := Lib.hid bW; have k0_h := Lib.hid k0; have hXl_h := Lib.hid hXl; clear hE hRa0 hRb0 a1 hinS hinT hinE hcnt hm hp hr hmes bW k0 hXl
  go_enter Tryd.func185, Tryd.ntmps185
  go_upto_region 1 with (fail)
  rw [← hW]
  clear hW
  go_upto_region 2 with (at_make; refine wpList_make_Sl _ rfl _ _ _ rfl 3 Tryd.underlying33 info_int n n rfl rfl rfl rfl (Nat.le_refl _) (by omega) (by unfold maxLen; omega) ?_; intro G1 w2 hs2 hG1 hb2)
  have hi2 : IS w2 (some G1) n (cntM n []) := by unfold IS; rw [cntM_length, ← madeCnt, ← madeZeros]; exact hs2
  have k2 := t_box_below k0_h.out hb2
  have hB2 := below_trans bW_h.out hb2 bW_h.out.size
  have hWw2 := hb2.size
  clear hs2 c0 c1 c2 c3 f0 f1 f2 f3 hb2
  obtain ⟨⟨c0, c1, c2, c3⟩, f0, f1, f2, f3⟩ := t_box4 k2
  have hi2_h := Lib.hid hi2; have k2_h := Lib.hid k2; have hB2_h := Lib.hid hB2; clear hi2 k2 hB2
  go_upto_region 3 with (at_make; refine wpList_make_Sl _ rfl _ _ _ rfl 3 Tryd.underlying33 info_int n n rfl rfl rfl rfl (Nat.le_refl _) (by omega) (by unfold maxLen; omega) ?_; intro G2 w3 hs3 hG2 hb3)
  have hi3 : IS w3 (some G2) n (cntM n []) := by unfold IS; rw [cntM_length, ← madeCnt, ← madeZeros]; exact hs3
  have hi1 := hi2_h.out.below hb3
  have k3 := t_box_below k2_h.out hb3
  have hB3 := below_trans hB2_h.out hb3 hB2_h.out.size
  have hWs := bW_h.out.size
  have h2s := hB2_h.out.size
  have hG12 : G1.block ≠ G2.block := by have := hi2_h.out.lt G1.block (by simp); omega
  have hG1w : w.heap.size ≤ G1.block := by omega
  have hG2w : w.heap.size ≤ G2.block := by omega
  clear hs3 c0 c1 c2 c3 f0 f1 f2 f3 hb3 hi2_h k2_h
  obtain ⟨⟨c0, c1, c2, c3⟩, f0, f1, f2, f3⟩ := t_box4 k3
  have hi3_h := Lib.hid hi3; have hi1_h := Lib.hid hi1; have k3_h := Lib.hid k3; have hB3_h := Lib.hid hB3; have hG12_h := Lib.hid hG12; clear hi3 hi1 k3 hB3 hG12
  go_wp2_with (fail)
  clear c0 c1 c2 c3 f0 f1 f2 f3
  go_loopw [25] (fun i wr => ∃ k : Nat, k ≤ p ∧ i = .int .i64 k ∧ IS wr (some G1) n (cntM n (([] : List Int) ++ s.take k)) ∧ Keeps (fun b => b = G1.block) w3 wr) (fun i _ => p - (intOf i).toNat)
  case atStart => exact ⟨0, Nat.zero_le _, rfl, by simpa using hi1_h.out, Keeps.refl _ _⟩
  case round =>
    obtain ⟨j, hj, rfl, hIS, hkp⟩ := hrel
    have hBr := below_keeps hB3_h.out hkp hB3_h.out.size (fun b e => by omega)
    by_cases hlj : j < p
    · obtain ⟨xd, x, rfl, hx, hxc⟩ := (hRa0_h.out.below hBr).at_ (j := j) (by rw [← hp_h.out]; exact hlj)
      obtain ⟨q, rfl, hqn⟩ := inW_at hinS_h.out hx
      obtain ⟨gd, hgd, hgb, hgc, hgf⟩ := hIS.getc hqn
      obtain rfl := Option.some.inj hgd
      have hset := hIS.set rfl (j := q) (((([] : List Int) ++ s.take j).count (q : Int) : Int) + 1) (by rw [cntM_length]; exact hqn)
      rw [← cntM_step hqn, List.append_assoc, show s.take j ++ [(q : Int)] = s.take (j + 1) by rw [List.take_add_one, hx]; rfl] at hset
      have hks := hkp.setCell (p := G1.add q) (by rw [block_of_add]) (.int .i64 (((([] : List Int) ++ s.take j).count (q : Int) : Int) + 1))
      have hcl := count_le (([] : List Int) ++ s.take j) (q : Int)
      rw [List.length_append, List.length_take] at hcl
      try rw [List.length_nil] at hcl
      obtain ⟨cv, hcv⟩ : ∃ cv : Nat, cv = (([] : List Int) ++ s.take j).count (q : Int) := ⟨_, rfl⟩
      rw [← hcv] at hgc hset hks hcl
      have hcvb : cv ≤ 100000000 := by have := hXl_h.out; omega
      have hqI : (q : Int) < (n : Int) := by omega
      have hjI : (j : Int) < (p : Int) := by omega
      clear hIS hkp hx hcv hcl hgd; have hset_h := Lib.hid hset; have hks_h := Lib.hid hks; have hBr_h := Lib.hid hBr; clear hset hks hBr
      skip
      go_wp2_with (fail)
      go_roundw
      case rel => exact ⟨j + 1, by omega, by go_num, hset_h.out, hks_h.out⟩
      case measure => simp [intOf]; omega
    · obtain rfl : p = j := by omega
      have hIS2 : IS wr (some G1) n (cntM n (([] : List Int) ++ s)) := by rwa [List.take_of_length_le (by rw [← hp_h.out]; exact Nat.le_refl _)] at hIS
      clear hIS
      obtain ⟨w4, rfl⟩ : ∃ x, x = wr := ⟨_, rfl⟩
      have k4 := t_box_keeps k3_h.out hkp (by have := t_box_lt k0_h.out; omega)
      have hi4 := hi3_h.out.keeps hkp (fun b hb e => by have := hG12_h.out; simp at hb; omega)
      obtain ⟨⟨c0, c1, c2, c3⟩, f0, f1, f2, f3⟩ := t_box4 k4
      rw [List.nil_append] at hIS2
      clear hkp k3_h hi3_h hi1_h hB3_h; have hi4_h := Lib.hid hi4; have hIS2_h := Lib.hid hIS2; have k4_h := Lib.hid k4; have hBr_h := Lib.hid hBr; clear hi4 hIS2 k4 hBr
      go_wp2_with (fail)
      clear c0 c1 c2 c3 f0 f1 f2 f3
      go_loopw [39] (fun i wr => ∃ k : Nat, k ≤ r ∧ i = .int .i64 k ∧ IS wr (some G2) n (cntM n (([] : List Int) ++ t.take k)) ∧ Keeps (fun b => b = G2.block) w4 wr) (fun i _ => r - (intOf i).toNat)
      case atStart => exact ⟨0, Nat.zero_le _, rfl, by simpa using hi4_h.out, Keeps.refl _ _⟩
      case round =>
        obtain ⟨j, hj, rfl, hIS, hkp⟩ := hrel
        have hBr := below_keeps hBr_h.out hkp hBr_h.out.size (fun b e => by omega)
        by_cases hlj : j < r
        · obtain ⟨xd, x, rfl, hx, hxc⟩ := (hRb0_h.out.below hBr).at_ (j := j) (by rw [← hr_h.out]; exact hlj)
          obtain ⟨q, rfl, hqn⟩ := inW_at hinT_h.out hx
          obtain ⟨gd, hgd, hgb, hgc, hgf⟩ := hIS.getc hqn
          obtain rfl := Option.some.inj hgd
          have hset := hIS.set rfl (j := q) (((([] : List Int) ++ t.take j).count (q : Int) : Int) + 1) (by rw [cntM_length]; exact hqn)
          rw [← cntM_step hqn, List.append_assoc, show t.take j ++ [(q : Int)] = t.take (j + 1) by rw [List.take_add_one, hx]; rfl] at hset
          have hks := hkp.setCell (p := G2.add q) (by rw [block_of_add]) (.int .i64 (((([] : List Int) ++ t.take j).count (q : Int) : Int) + 1))
          have hcl := count_le (([] : List Int) ++ t.take j) (q : Int)
          rw [List.length_append, List.length_take] at hcl
          try rw [List.length_nil] at hcl
          obtain ⟨cv, hcv⟩ : ∃ cv : Nat, cv = (([] : List Int) ++ t.take j).count (q : Int) := ⟨_, rfl⟩
          rw [← hcv] at hgc hset hks hcl
          have hcvb : cv ≤ 100000000 := by have := hXl_h.out; omega
          have hqI : (q : Int) < (n : Int) := by omega
          have hjI : (j : Int) < (r : Int) := by omega
          clear hIS hkp hx hcv hcl hgd; have hset_h := Lib.hid hset; have hks_h := Lib.hid hks; have hBr_h := Lib.hid hBr; clear hset hks hBr
          skip
          go_wp2_with (fail)
          go_roundw
          case rel => exact ⟨j + 1, by omega, by go_num, hset_h.out, hks_h.out⟩
          case measure => simp [intOf]; omega
        · obtain rfl : r = j := by omega
          have hIS2 : IS wr (some G2) n (cntM n (([] : List Int) ++ t)) := by rwa [List.take_of_length_le (by rw [← hr_h.out]; exact Nat.le_refl _)] at hIS
          clear hIS
          obtain ⟨w5, rfl⟩ : ∃ x, x = wr := ⟨_, rfl⟩
          have k5 := t_box_keeps k4_h.out hkp (by have := t_box_lt k0_h.out; omega)
          have hi5 := hIS2_h.out.keeps hkp (fun b hb e => by have := hG12_h.out; simp at hb; omega)
          obtain ⟨⟨c0, c1, c2, c3⟩, f0, f1, f2, f3⟩ := t_box4 k5
          rw [List.nil_append] at hIS2
          have hB5 := hBr
          clear hkp k4_h hi4_h hIS2_h hBr hBr_h
          have hs0 : IS w5 (some G1) n (cntM n (s ++ outW (es.take 0))) := by simpa [outW] using hi5
          have ht0 : IS w5 (some G2) n (cntM n (t ++ inpW (es.take 0))) := by simpa [inpW] using hIS2
          clear hi5 hIS2; have hs0_h := Lib.hid hs0; have ht0_h := Lib.hid ht0; have k5_h := Lib.hid k5; have hB5_h := Lib.hid hB5; clear hs0 ht0 k5 hB5
          go_wp2_with (fail)
          clear c0 c1 c2 c3 f0 f1 f2 f3 k5_h
          go_loopw [53] (fun i wr => ∃ k : Nat, k ≤ m ∧ i = .int .i64 k ∧ IS wr (some G1) n (cntM n (s ++ outW (es.take k))) ∧ IS wr (some G2) n (cntM n (t ++ inpW (es.take k))) ∧ Below w.heap.size w wr) (fun i _ => m - (intOf i).toNat)
          case atStart => exact ⟨0, Nat.zero_le _, rfl, hs0_h.out, ht0_h.out, hB5_h.out⟩
          case round =>
            clear hs0_h ht0_h hB5_h
            obtain ⟨k, hk, rfl, hi1, hi2, hB6⟩ := hrel
            by_cases hlt : k < m
            · obtain ⟨ad, κ, vv, B1, b1, s1, C1, b2, t1, rfl, hn, ⟨d0, d1, d2, d3⟩, hr1, hr2⟩ := (hE_h.out.below hB6).at_ (j := k) (by rw [← hm_h.out]; exact hlt)
              have hek : es[k]? = some (κ, vv, s1, t1) := by rw [a1_h.out, List.getElem?_map, hn]; rfl
              obtain ⟨hm1, hm2⟩ := mem_edW_of (List.mem_of_getElem? hek)
              have hinA := inW_sub hinE_h.out hm1
              have hinB := inW_sub hinE_h.out hm2
              have htk1 := outW_take hek
              have htk2 := inpW_take hek
              have hle1 := outW_le es (k + 1)
              have hle2 := inpW_le es (k + 1)
              rw [htk1, List.length_append] at hle1
              rw [htk2, List.length_append] at hle2
              have hXl0 := hXl_h.out
              have hXl : (s ++ outW (es.take k)).length + t1.length ≤ 20000000 ∧ (t ++ inpW (es.take k)).length + s1.length ≤ 20000000 := by
                rw [List.length_append, List.length_append]
                have e1 : ((κ, vv, s1, t1) : Eg).2.2.2.length = t1.length := rfl
                have e2 : ((κ, vv, s1, t1) : Eg).2.2.1.length = s1.length := rfl
                omega
              obtain ⟨X, hX⟩ : ∃ X, X = s ++ outW (es.take k) := ⟨_, rfl⟩
              obtain ⟨Y, hY⟩ : ∃ Y, Y = t ++ inpW (es.take k) := ⟨_, rfl⟩
              rw [← hX] at hi1 hXl
              rw [← hY] at hi2 hXl
              obtain ⟨p1, hp1⟩ : ∃ p1, p1 = s1.length := ⟨_, rfl⟩
              obtain ⟨r1, hr1'⟩ : ∃ r1, r1 = t1.length := ⟨_, rfl⟩
              rw [← hp1] at d2
              rw [← hr1'] at d3
              have hp1b : (p1 : Int) ≤ 20000000 := by omega
              have hr1b : (r1 : Int) ≤ 20000000 := by omega
              have hkI : (k : Int) < (m : Int) := by omega
              obtain ⟨wo, rfl⟩ : ∃ x, x = wr := ⟨_, rfl⟩
              obtain ⟨W6, hW6, bW6, k6⟩ := (⟨_, rfl, t_below_alloc _ _, heap_alloc_new _ _⟩ : ∃ W, W = wo.alloc (.cells #[.int .i64 κ, .int .i64 vv, .slice B1 p1 b1, .slice C1 r1 b2] tEd) ∧ Below wo.heap.size wo W ∧ W.heap[wo.heap.size]? = some (.cells #[.int .i64 κ, .int .i64 vv, .slice B1 p1 b1, .slice C1 r1 b2] tEd))
              have hB7 := below_trans hB6 bW6 hB6.size
              have hj1 := hi1.below bW6
              have hj2 := hi2.below bW6
              have hq1 : G1.block < wo.heap.size := hi1.lt G1.block (by simp)
              have hq2 : G2.block < wo.heap.size := hi2.lt G2.block (by simp)
              have hrA : RdI w B1 s1 := (hE_h.out.2 _ (List.mem_of_getElem? hn)).1
              have hrB : RdI w C1 t1 := (hE_h.out.2 _ (List.mem_of_getElem? hn)).2
              obtain ⟨⟨c0, c1, c2, c3⟩, f0, f1, f2, f3⟩ := t_box4 k6
              clear hr1 hr2 hn hm1 hm2 hle1 hle2 hXl0 hi1 hi2 hek; have hr1_h := Lib.hid hr1'; clear hr1'; have hinA_h := Lib.hid hinA; have hinB_h := Lib.hid hinB; have htk1_h := Lib.hid htk1; have htk2_h := Lib.hid htk2; have hXl_h := Lib.hid hXl; have hX_h := Lib.hid hX; have hY_h := Lib.hid hY; have hp1_h := Lib.hid hp1; have bW6_h := Lib.hid bW6; have k6_h := Lib.hid k6; have hB7_h := Lib.hid hB7; have hj1_h := Lib.hid hj1; have hj2_h := Lib.hid hj2; have hrA_h := Lib.hid hrA; have hrB_h := Lib.hid hrB; have hB6_h := Lib.hid hB6; clear hinA hinB htk1 htk2 hXl hX hY hp1 bW6 k6 hB7 hj1 hj2 hrA hrB hB6
              go_upto_region 16 with (fail)
              rw [← hW6]
              clear hW6
              go_wp2_with (fail)
              clear c0 c1 c2 c3 f0 f1 f2 f3 d0 d1 d2 d3
              go_loopw [60] (fun i wr => ∃ k : Nat, k ≤ r1 ∧ i = .int .i64 k ∧ IS wr (some G1) n (cntM n (X ++ t1.take k)) ∧ Keeps (fun b => b = G1.block) W6 wr) (fun i _ => r1 - (intOf i).toNat)
              case atStart => exact ⟨0, Nat.zero_le _, rfl, by simpa using hj1_h.out, Keeps.refl _ _⟩
              case round =>
                obtain ⟨j, hj, rfl, hIS, hkp⟩ := hrel
                have hBr := below_keeps hB7_h.out hkp hB7_h.out.size (fun b e => by omega)
                by_cases hlj : j < r1
                · obtain ⟨xd, x, rfl, hx, hxc⟩ := (hrB_h.out.below hBr).at_ (j := j) (by rw [← hr1_h.out]; exact hlj)
                  obtain ⟨q, rfl, hqn⟩ := inW_at hinB_h.out hx
                  obtain ⟨gd, hgd, hgb, hgc, hgf⟩ := hIS.getc hqn
                  obtain rfl := Option.some.inj hgd
                  have hset := hIS.set rfl (j := q) (((X ++ t1.take j).count (q : Int) : Int) + 1) (by rw [cntM_length]; exact hqn)
                  rw [← cntM_step hqn, List.append_assoc, show t1.take j ++ [(q : Int)] = t1.take (j + 1) by rw [List.take_add_one, hx]; rfl] at hset
                  have hks := hkp.setCell (p := G1.add q) (by rw [block_of_add]) (.int .i64 (((X ++ t1.take j).count (q : Int) : Int) + 1))
                  have hcl := count_le (X ++ t1.take j) (q : Int)
                  rw [List.length_append, List.length_take] at hcl
                  try rw [List.length_nil] at hcl
                  obtain ⟨cv, hcv⟩ : ∃ cv : Nat, cv = (X ++ t1.take j).count (q : Int) := ⟨_, rfl⟩
                  rw [← hcv] at hgc hset hks hcl
                  have hcvb : cv ≤ 100000000 := by have := hXl_h.out; omega
                  have hqI : (q : Int) < (n : Int) := by omega
                  have hjI : (j : Int) < (r1 : Int) := by omega
                  clear hIS hkp hx hcv hcl hgd; have hset_h := Lib.hid hset; have hks_h := Lib.hid hks; have hBr_h := Lib.hid hBr; clear hset hks hBr
                  skip
                  go_wp2_with (fail)
                  go_roundw
                  case rel => exact ⟨j + 1, by omega, by go_num, hset_h.out, hks_h.out⟩
                  case measure => simp [intOf]; omega
                · obtain rfl : r1 = j := by omega
                  have hIS2 : IS wr (some G1) n (cntM n (X ++ t1)) := by rwa [List.take_of_length_le (by rw [← hr1_h.out]; exact Nat.le_refl _)] at hIS
                  clear hIS
                  obtain ⟨w7, rfl⟩ : ∃ x, x = wr := ⟨_, rfl⟩
                  have k7 := t_box_keeps k6_h.out hkp (by omega)
                  have hj7 := hj2_h.out.keeps hkp (fun b hb e => by have := hG12_h.out; simp at hb; omega)
                  obtain ⟨⟨c0, c1, c2, c3⟩, f0, f1, f2, f3⟩ := t_box4 k7
                  have hB8 := hBr
                  clear hkp k6_h hj1_h hj2_h hB7_h k7 hBr; have hj7_h := Lib.hid hj7; have hIS2_h := Lib.hid hIS2; have hB8_h := Lib.hid hB8; clear hj7 hIS2 hB8
                  go_wp2_with (fail)
                  clear c0 c1 c2 c3 f0 f1 f2 f3
                  go_loopw [74] (fun i wr => ∃ k : Nat, k ≤ p1 ∧ i = .int .i64 k ∧ IS wr (some G2) n (cntM n (Y ++ s1.take k)) ∧ Keeps (fun b => b = G2.block) w7 wr) (fun i _ => p1 - (intOf i).toNat)
                  case atStart => exact ⟨0, Nat.zero_le _, rfl, by simpa using hj7_h.out, Keeps.refl _ _⟩
                  case round =>
                    obtain ⟨j, hj, rfl, hIS, hkp⟩ := hrel
                    have hBr := below_keeps hB8_h.out hkp hB8_h.out.size (fun b e => by omega)
                    by_cases hlj : j < p1
                    · obtain ⟨xd, x, rfl, hx, hxc⟩ := (hrA_h.out.below hBr).at_ (j := j) (by rw [← hp1_h.out]; exact hlj)
                      obtain ⟨q, rfl, hqn⟩ := inW_at hinA_h.out hx
                      obtain ⟨gd, hgd, hgb, hgc, hgf⟩ := hIS.getc hqn
                      obtain rfl := Option.some.inj hgd
                      have hset := hIS.set rfl (j := q) (((Y ++ s1.take j).count (q : Int) : Int) + 1) (by rw [cntM_length]; exact hqn)
                      rw [← cntM_step hqn, List.append_assoc, show s1.take j ++ [(q : Int)] = s1.take (j + 1) by rw [List.take_add_one, hx]; rfl] at hset
                      have hks := hkp.setCell (p := G2.add q) (by rw [block_of_add]) (.int .i64 (((Y ++ s1.take j).count (q : Int) : Int) + 1))
                      have hcl := count_le (Y ++ s1.take j) (q : Int)
                      rw [List.length_append, List.length_take] at hcl
                      try rw [List.length_nil] at hcl
                      obtain ⟨cv, hcv⟩ : ∃ cv : Nat, cv = (Y ++ s1.take j).count (q : Int) := ⟨_, rfl⟩
                      rw [← hcv] at hgc hset hks hcl
                      have hcvb : cv ≤ 100000000 := by have := hXl_h.out; omega
                      have hqI : (q : Int) < (n : Int) := by omega
                      have hjI : (j : Int) < (p1 : Int) := by omega
                      clear hIS hkp hx hcv hcl hgd; have hset_h := Lib.hid hset; have hks_h := Lib.hid hks; have hBr_h := Lib.hid hBr; clear hset hks hBr
                      skip
                      go_wp2_with (fail)
                      go_roundw
                      case rel => exact ⟨j + 1, by omega, by go_num, hset_h.out, hks_h.out⟩
                      case measure => simp [intOf]; omega
                    · obtain rfl : p1 = j := by omega
                      have hIS2 : IS wr (some G2) n (cntM n (Y ++ s1)) := by rwa [List.take_of_length_le (by rw [← hp1_h.out]; exact Nat.le_refl _)] at hIS
                      clear hIS
                      have hj8 := hIS2_h.out.keeps hkp (fun b hb e => by have := hG12_h.out; simp at hb; omega)
                      have e1 : IS wr (some G1) n (cntM n (s ++ outW (es.take (k + 1)))) := by rw [htk1_h.out, ← List.append_assoc, ← hX_h.out]; exact hj8
                      have e2 : IS wr (some G2) n (cntM n (t ++ inpW (es.take (k + 1)))) := by rw [htk2_h.out, ← List.append_assoc, ← hY_h.out]; exact hIS2
                      clear hj8 hIS2 hkp; have e1_h := Lib.hid e1; have e2_h := Lib.hid e2; have hBr_h := Lib.hid hBr; clear e1 e2 hBr
                      go_wp2_with (fail)
                      go_roundw
                      case rel => exact ⟨k + 1, by omega, by go_num, e1_h.out, e2_h.out, hBr_h.out⟩
                      case measure => simp [intOf]; omega
            · obtain rfl : m = k := by omega
              rw [List.take_of_length_le (by rw [hmes_h.out]; exact Nat.le_refl _)] at hi1 hi2
              have hff1 : Fresh w.heap.size (some G1) := fun b hb => by simp at hb; omega
              have hff2 : Fresh w.heap.size (some G2) := fun b hb => by simp at hb; omega
              have hi1_h := Lib.hid hi1; have hi2_h := Lib.hid hi2; have hB6_h := Lib.hid hB6; have hff1_h := Lib.hid hff1; have hff2_h := Lib.hid hff2; clear hi1 hi2 hB6 hff1 hff2
              go_wp2_with (fail)
              go_ret2
              exact ⟨some G1, some G2, n, n, rfl, hi1_h.out, hi2_h.out, hff1_h.out, hff2_h.out, hB6_h.out⟩
end Go.Proofs.YtahnhblodfdfhaaDoor
namespace Go.Proofs.YtahnhblodfdfhaaDoor
open Go.RowKit
theorem grB_eq (g : Gr) : grB g = (t_inB g.1 0 100 && (decide (g.2.1.length ≤ 60) && (decide (g.2.2.1.length ≤ 12) && (decide (g.2.2.2.length ≤ 12) && (inW g.1 g.2.2.1 && (inW g.1 g.2.2.2 && (g.2.1.all (hgB g.1) && fullW g.1 (t_allW g)))))))) := by
  unfold grB
  rw [hgB_all]
  have e : inW g.1 (t_allW g) = (inW g.1 g.2.2.1 && (inW g.1 g.2.2.2 && inW g.1 (edW g.2.1))) := by unfold t_allW; rw [inW_append, inW_append]
  rw [e]
  cases t_inB g.1 0 100 <;> cases decide (g.2.1.length ≤ 60) <;> cases decide (g.2.2.1.length ≤ 12) <;> cases decide (g.2.2.2.length ≤ 12) <;> cases inW g.1 g.2.2.1 <;> cases inW g.1 g.2.2.2 <;> cases g.2.1.all egB <;> cases inW g.1 (edW g.2.1) <;> cases fullW g.1 (t_allW g) <;> rfl
theorem count_zero {g : Gr} {k : Nat} : ((orgW g).count (k : Int) = 0 ∧ (dstW g).count (k : Int) = 0) ↔ (t_allW g).contains (k : Int) = false := by
  rw [List.count_eq_zero, List.count_eq_zero, Bool.eq_false_iff, ne_eq, List.contains_iff_mem, mem_allW]
  exact ⟨fun h hm => hm.elim h.1 h.2, fun h => ⟨fun a => h (.inl a), fun a => h (.inr a)⟩⟩
set_option maxRecDepth 100000 in
set_option maxHeartbeats 8000000 in
theorem hgValid_any {v : Value} {g : Gr} (w : World) (h : RdGr w v g) (ok : OkG g) :
    Calls Tryd.prog 162 #[v] w fun e w' => e = .returned (.bool (grB g)) ∧ Below w.heap.size w w' := by
  have hG0 := h
  obtain ⟨A, c, hs, ⟨B, b, s⟩, ⟨C, d, t⟩, rfl, e1, e2, e3, hE, hRa, hRb⟩ := h
  obtain ⟨z, es, s0, t0⟩ := g
  have a1 : es = hs.map egOf := e1
  have a2 : s = s0 := e2
  have a3 : t = t0 := e3
  subst a2 a3
  have hok := ok
  have hlen1 : es.length ≤ 1048576 := ok.1.1
  have hlen2 : s.length ≤ 1048576 := ok.1.2.1
  have hlen3 : t.length ≤ 1048576 := ok.1.2.2
  have hlE : ∀ x, x ∈ hs → x.2.2.1.2.2.length ≤ 1048576 ∧ x.2.2.2.2.2.length ≤ 1048576 := fun x hx => ok.2.1 _ (by show egOf x ∈ es; rw [a1]; exact List.mem_map_of_mem hx)
  obtain ⟨D, hD⟩ : ∃ D, D = grB (z, es, s, t) := ⟨_, rfl⟩
  have hDD := hD
  rw [grB_eq] at hDD
  simp only at hDD
  rw [← hD]
  obtain ⟨m, hm⟩ : ∃ m, m = hs.length := ⟨_, rfl⟩
  obtain ⟨p, hp⟩ : ∃ p, p = s.length := ⟨_, rfl⟩
  obtain ⟨r, hr⟩ : ∃ r, r = t.length := ⟨_, rfl⟩
  have hmes : es.length = m := by rw [a1, List.length_map, hm]
  have hRa0 : RdI w B s := hRa
  have hRb0 : RdI w C t := hRb
  rw [hmes, ← hp, ← hr] at hDD
  change RdGr w (.agg #[.int .i64 z, .slice A hs.length c, .slice B s.length b, .slice C t.length d]) (z, es, s, t) at hG0
  rw [← hm, ← hp, ← hr] at hG0
  show Calls Tryd.prog _ #[.agg #[.int .i64 z, .slice A hs.length c, .slice B s.length b, .slice C t.length d]] w _
  rw [← hm, ← hp, ← hr]
  obtain ⟨W, hW, bW, k0⟩ := (⟨_, rfl, t_below_alloc _ _, heap_alloc_new _ _⟩ : ∃ W, W = w.alloc (.cells #[.int .i64 z, .slice A m c, .slice B p b, .slice C r d] tGr) ∧ Below w.heap.size w W ∧ W.heap[w.heap.size]? = some (.cells #[.int .i64 z, .slice A m c, .slice B p b, .slice C r d] tGr))
  obtain ⟨⟨c0, c1, c2, c3⟩, f0, f1, f2, f3⟩ := t_box4 k0
  have hI := fun (W : World) => t_l1In_any z 0 100 W
  have hA1 := fun (W : World) (hb : Below w.heap.size w W) => t_l1All_any B b p s 0 (z - 1) W (RdI.below hRa0 hb) hp.symm (by omega)
  have hA2 := fun (W : World) (hb : Below w.heap.size w W) => t_l1All_any C d r t 0 (z - 1) W (RdI.below hRb0 hb) hr.symm (by omega)
  obtain ⟨D1, hD1⟩ : ∃ D, D = inW z s := ⟨_, rfl⟩
  obtain ⟨D2, hD2⟩ : ∃ D, D = inW z t := ⟨_, rfl⟩
  have hD1' : (s.all fun x => t_inB x 0 (z - 1)) = D1 := hD1.symm
  have hD2' : (t.all fun x => t_inB x 0 (z - 1)) = D2 := hD2.symm
  simp only [hD1'] at hA1
  simp only [hD2'] at hA2
  rw [← hD1, ← hD2] at hDD
  clear hRa hRb ok e1 e2 e3 hD1' hD2' hRa0 hRb0
  by_cases h0 : t_inB z 0 100 = true
  case neg =>
    have h0' : t_inB z 0 100 = false := by simpa using h0
    obtain rfl : D = false := by rw [hDD, h0']; rfl
    simp only [h0'] at hI
    clear h0 h0'; have hI_h := Lib.hid hI; have hA1_h := Lib.hid hA1; have hA2_h := Lib.hid hA2; have k0_h := Lib.hid k0; have bW_h := Lib.hid bW; have hm_h := Lib.hid hm; have hp_h := Lib.hid hp; have hr_h := Lib.hid hr; have hD_h := Lib.hid hD; have hDD_h := Lib.hid hDD; have hmes_h := Lib.hid hmes; have hlE_h := Lib.hid hlE; have hok_h := Lib.hid hok; have a1_h := Lib.hid a1; have hE_h := Lib.hid hE; have hG0_h := Lib.hid hG0; have hD1_h := Lib.hid hD1; have hD2_h := Lib.hid hD2; clear hI hA1 hA2 k0 bW hm hp hr hD hDD hmes hlE hok a1 hE hG0 hD1 hD2
    go_enter Tryd.func162, Tryd.ntmps162
    go_upto_region 1 with (fail)
    rw [← hW]
    clear hW
    go_wp2_with (fail)
    refine (hI_h.out _).mono ?_
    rintro e w1 ⟨rfl, rfl⟩
    go_wp2_with (fail)
    go_ret
    exact ⟨rfl, bW_h.out⟩
  have hz : 0 ≤ z ∧ z ≤ 100 := of_decide_eq_true h0
  simp only [h0] at hI
  rw [h0, Bool.true_and] at hDD
  clear h0
  have wz : IntKind.i64.wrap (z - 1) = z - 1 := IntWalk.i64_in _ (by omega)
  by_cases h1 : m ≤ 60
  case neg =>
    obtain rfl : D = false := by rw [hDD, decide_eq_false h1]; rfl
    have h1' : ¬ ((m : Int) ≤ 60) := by omega
    have hI_h := Lib.hid hI; have hA1_h := Lib.hid hA1; have hA2_h := Lib.hid hA2; have k0_h := Lib.hid k0; have bW_h := Lib.hid bW; have hm_h := Lib.hid hm; have hp_h := Lib.hid hp; have hr_h := Lib.hid hr; have hD_h := Lib.hid hD; have hDD_h := Lib.hid hDD; have hmes_h := Lib.hid hmes; have hlE_h := Lib.hid hlE; have hok_h := Lib.hid hok; have a1_h := Lib.hid a1; have hE_h := Lib.hid hE; have hG0_h := Lib.hid hG0; have hD1_h := Lib.hid hD1; have hD2_h := Lib.hid hD2; clear hI hA1 hA2 k0 bW hm hp hr hD hDD hmes hlE hok a1 hE hG0 hD1 hD2
    go_enter Tryd.func162, Tryd.ntmps162
    go_upto_region 1 with (fail)
    rw [← hW]
    clear hW
    go_wp2_with (fail)
    refine (hI_h.out _).mono ?_
    rintro e w1 ⟨rfl, rfl⟩
    go_wp2_with (fail)
    go_ret
    exact ⟨rfl, bW_h.out⟩
  rw [decide_eq_true h1, Bool.true_and] at hDD
  have h1' : (m : Int) ≤ 60 := by omega
  by_cases h2 : p ≤ 12
  case neg =>
    obtain rfl : D = false := by rw [hDD, decide_eq_false h2]; rfl
    have h2' : ¬ ((p : Int) ≤ 12) := by omega
    have hI_h := Lib.hid hI; have hA1_h := Lib.hid hA1; have hA2_h := Lib.hid hA2; have k0_h := Lib.hid k0; have bW_h := Lib.hid bW; have hm_h := Lib.hid hm; have hp_h := Lib.hid hp; have hr_h := Lib.hid hr; have hD_h := Lib.hid hD; have hDD_h := Lib.hid hDD; have hmes_h := Lib.hid hmes; have hlE_h := Lib.hid hlE; have hok_h := Lib.hid hok; have a1_h := Lib.hid a1; have hE_h := Lib.hid hE; have hG0_h := Lib.hid hG0; have hD1_h := Lib.hid hD1; have hD2_h := Lib.hid hD2; clear hI hA1 hA2 k0 bW hm hp hr hD hDD hmes hlE hok a1 hE hG0 hD1 hD2
    go_enter Tryd.func162, Tryd.ntmps162
    go_upto_region 1 with (fail)
    rw [← hW]
    clear hW
    go_wp2_with (fail)
    refine (hI_h.out _).mono ?_
    rintro e w1 ⟨rfl, rfl⟩
    go_wp2_with (fail)
    go_ret
    exact ⟨rfl, bW_h.out⟩
  rw [decide_eq_true h2, Bool.true_and] at hDD
  have h2' : (p : Int) ≤ 12 := by omega
  by_cases h3 : r ≤ 12
  case neg =>
    obtain rfl : D = false := by rw [hDD, decide_eq_false h3]; rfl
    have h3' : ¬ ((r : Int) ≤ 12) := by omega
    have hI_h := Lib.hid hI; have hA1_h := Lib.hid hA1; have hA2_h := Lib.hid hA2; have k0_h := Lib.hid k0; have bW_h := Lib.hid bW; have hm_h := Lib.hid hm; have hp_h := Lib.hid hp; have hr_h := Lib.hid hr; have hD_h := Lib.hid hD; have hDD_h := Lib.hid hDD; have hmes_h := Lib.hid hmes; have hlE_h := Lib.hid hlE; have hok_h := Lib.hid hok; have a1_h := Lib.hid a1; have hE_h := Lib.hid hE; have hG0_h := Lib.hid hG0; have hD1_h := Lib.hid hD1; have hD2_h := Lib.hid hD2; clear hI hA1 hA2 k0 bW hm hp hr hD hDD hmes hlE hok a1 hE hG0 hD1 hD2
    go_enter Tryd.func162, Tryd.ntmps162
    go_upto_region 1 with (fail)
    rw [← hW]
    clear hW
    go_wp2_with (fail)
    refine (hI_h.out _).mono ?_
    rintro e w1 ⟨rfl, rfl⟩
    go_wp2_with (fail)
    go_ret
    exact ⟨rfl, bW_h.out⟩
  rw [decide_eq_true h3, Bool.true_and] at hDD
  have h3' : (r : Int) ≤ 12 := by omega
  cases D1
  case false =>
    obtain rfl : D = false := by rw [hDD]; rfl
    have hI_h := Lib.hid hI; have hA1_h := Lib.hid hA1; have hA2_h := Lib.hid hA2; have k0_h := Lib.hid k0; have bW_h := Lib.hid bW; have hm_h := Lib.hid hm; have hp_h := Lib.hid hp; have hr_h := Lib.hid hr; have hD_h := Lib.hid hD; have hDD_h := Lib.hid hDD; have hmes_h := Lib.hid hmes; have hlE_h := Lib.hid hlE; have hok_h := Lib.hid hok; have a1_h := Lib.hid a1; have hE_h := Lib.hid hE; have hG0_h := Lib.hid hG0; have hD1_h := Lib.hid hD1; have hD2_h := Lib.hid hD2; clear hI hA1 hA2 k0 bW hm hp hr hD hDD hmes hlE hok a1 hE hG0 hD1 hD2
    go_enter Tryd.func162, Tryd.ntmps162
    go_upto_region 1 with (fail)
    rw [← hW]
    clear hW
    go_wp2_with (fail)
    refine (hI_h.out _).mono ?_
    rintro e w1 ⟨rfl, rfl⟩
    go_wp2_with (fail)
    refine (hA1_h.out _ bW_h.out).mono ?_
    rintro e w1 ⟨rfl, rfl⟩
    go_wp2_with (fail)
    go_ret
    exact ⟨rfl, bW_h.out⟩
  rw [Bool.true_and] at hDD
  cases D2
  case false =>
    obtain rfl : D = false := by rw [hDD]; rfl
    have hI_h := Lib.hid hI; have hA1_h := Lib.hid hA1; have hA2_h := Lib.hid hA2; have k0_h := Lib.hid k0; have bW_h := Lib.hid bW; have hm_h := Lib.hid hm; have hp_h := Lib.hid hp; have hr_h := Lib.hid hr; have hD_h := Lib.hid hD; have hDD_h := Lib.hid hDD; have hmes_h := Lib.hid hmes; have hlE_h := Lib.hid hlE; have hok_h := Lib.hid hok; have a1_h := Lib.hid a1; have hE_h := Lib.hid hE; have hG0_h := Lib.hid hG0; have hD1_h := Lib.hid hD1; have hD2_h := Lib.hid hD2; clear hI hA1 hA2 k0 bW hm hp hr hD hDD hmes hlE hok a1 hE hG0 hD1 hD2
    go_enter Tryd.func162, Tryd.ntmps162
    go_upto_region 1 with (fail)
    rw [← hW]
    clear hW
    go_wp2_with (fail)
    refine (hI_h.out _).mono ?_
    rintro e w1 ⟨rfl, rfl⟩
    go_wp2_with (fail)
    refine (hA1_h.out _ bW_h.out).mono ?_
    rintro e w1 ⟨rfl, rfl⟩
    go_wp2_with (fail)
    refine (hA2_h.out _ bW_h.out).mono ?_
    rintro e w1 ⟨rfl, rfl⟩
    go_wp2_with (fail)
    go_ret
    exact ⟨rfl, bW_h.out⟩
  rw [Bool.true_and] at hDD
  have hI_h := Lib.hid hI; have hA1_h := Lib.hid hA1; have hA2_h := Lib.hid hA2; have k0_h := Lib.hid k0; have bW_h := Lib.hid bW; have hm_h := Lib.hid hm; have hp_h := Lib.hid hp; have hr_h := Lib.hid hr; have hD_h := Lib.hid hD; have hDD_h := Lib.hid hDD; have hmes_h := Lib.hid hmes; have hlE_h := Lib.hid hlE; have hok_h := Lib.hid hok; have a1_h := Lib.hid a1; have hE_h := Lib.hid hE; have hG0_h := Lib.hid hG0; have hD1_h := Lib.hid hD1; have hD2_h := Lib.hid hD2; clear hI hA1 hA2 k0 bW hm hp hr hD hDD hmes hlE hok a1 hE hG0 hD1 hD2
  go_enter Tryd.func162, Tryd.ntmps162
  go_upto_region 1 with (fail)
  rw [← hW]
  clear hW
  go_wp2_with (fail)
  refine (hI_h.out _).mono ?_
  rintro e w1 ⟨rfl, rfl⟩
  go_wp2_with (fail)
  refine (hA1_h.out _ bW_h.out).mono ?_
  rintro e w1 ⟨rfl, rfl⟩
  go_wp2_with (fail)
  refine (hA2_h.out _ bW_h.out).mono ?_
  rintro e w1 ⟨rfl, rfl⟩
  obtain ⟨W, rfl⟩ : ∃ x, x = w1 := ⟨_, rfl⟩
  go_wp2_with (fail)
  clear c0 c1 c2 c3 f0 f1 f2 f3
  go_loopw [51] (fun i wr => ∃ k : Nat, k ≤ m ∧ i = .int .i64 k ∧ (es.take k).all (hgB z) = true ∧ Below W.heap.size W wr) (fun i _ => m - (intOf i).toNat)
  case atStart => exact ⟨0, Nat.zero_le _, rfl, by simp, Below.refl _ _⟩
  case round =>
    obtain ⟨k, hk, rfl, hall, hB1⟩ := hrel
    have kr := t_box_below k0_h.out hB1
    have hBw := below_trans bW_h.out hB1 bW_h.out.size
    by_cases hlt : k < m
    · obtain ⟨ad, κ, vv, B1, b1, s1, C1, b2, t1, rfl, hn, ⟨d0, d1, d2, d3⟩, hr1, hr2⟩ := (hE_h.out.below hBw).at_ (j := k) (by rw [← hm_h.out]; exact hlt)
      have hek : es[k]? = some (κ, vv, s1, t1) := by rw [a1_h.out, List.getElem?_map, hn]; rfl
      have hln := hlE_h.out _ (List.mem_of_getElem? hn)
      obtain ⟨wo, rfl⟩ : ∃ x, x = wr := ⟨_, rfl⟩
      have hC := fun (W' : World) (hb : Below wo.heap.size wo W') => hgEdge_any κ vv B1 C1 b1 b2 s1 t1 z W' (hr1.below hb) (hr2.below hb) hln.1 hln.2 (by omega) (by omega)
      obtain ⟨p1, hp1⟩ : ∃ p1, p1 = s1.length := ⟨_, rfl⟩
      obtain ⟨r1, hr1'⟩ : ∃ r1, r1 = t1.length := ⟨_, rfl⟩
      simp only [← hp1, ← hr1'] at hC
      rw [← hp1] at d2
      rw [← hr1'] at d3
      obtain ⟨W6, hW6, bW6, k6⟩ := (⟨_, rfl, t_below_alloc _ _, heap_alloc_new _ _⟩ : ∃ W, W = wo.alloc (.cells #[.int .i64 κ, .int .i64 vv, .slice B1 p1 b1, .slice C1 r1 b2] tEd) ∧ Below wo.heap.size wo W ∧ W.heap[wo.heap.size]? = some (.cells #[.int .i64 κ, .int .i64 vv, .slice B1 p1 b1, .slice C1 r1 b2] tEd))
      have hCW := hC W6 bW6
      have hkI : (k : Int) < (m : Int) := by omega
      have kr6 := t_box_below kr bW6
      have hBW6 := below_trans hB1 bW6 hB1.size
      obtain ⟨⟨c0, c1, c2, c3⟩, f0, f1, f2, f3⟩ := t_box4 k6
      obtain ⟨⟨y0, y1, y2, y3⟩, g0, g1, g2, g3⟩ := t_box4 kr6
      obtain ⟨H, hH⟩ : ∃ H, H = hgB z (κ, vv, s1, t1) := ⟨_, rfl⟩
      rw [← hH] at hCW
      have hr1_h := Lib.hid hr1'; clear hr1' hr1 hr2 hn hln hC kr hB1 kr6; have hCW_h := Lib.hid hCW; have hek_h := Lib.hid hek; have hall_h := Lib.hid hall; have hp1_h := Lib.hid hp1; have bW6_h := Lib.hid bW6; have k6_h := Lib.hid k6; have hBW6_h := Lib.hid hBW6; have hBw_h := Lib.hid hBw; have hH_h := Lib.hid hH; clear hCW hek hall hp1 bW6 k6 hBW6 hBw hH
      go_upto_region 6 with (fail)
      rw [← hW6]
      clear hW6
      go_wp2_with (fail)
      refine (hCW_h.out).mono ?_
      rintro e w7 ⟨rfl, hb7⟩
      have hB8 := below_trans hBW6_h.out hb7 hBW6_h.out.size
      clear hb7 c0 c1 c2 c3 f0 f1 f2 f3 y0 y1 y2 y3 g0 g1 g2 g3 d0 d1 d2 d3
      cases H
      · have hf : D = false := by
          rw [hDD_h.out, show es.all (hgB z) = false from ?_]; rfl
          rw [Bool.eq_false_iff]
          intro hh
          have := List.all_eq_true.1 hh _ (List.mem_of_getElem? hek_h.out)
          rw [← hH_h.out] at this; cases this
        subst hf
        have hBz := below_trans bW_h.out hB8 bW_h.out.size
        have hB8_h := Lib.hid hB8; have hBz_h := Lib.hid hBz; clear hB8 hBz
        go_wp2_with (fail)
        go_ret
        exact ⟨rfl, hBz_h.out⟩
      · have hall2 : (es.take (k + 1)).all (hgB z) = true := by rw [List.take_add_one, hek_h.out, List.all_append, hall_h.out]; simp [← hH_h.out]
        have hB8_h := Lib.hid hB8; have hall2_h := Lib.hid hall2; clear hB8 hall2
        go_wp2_with (fail)
        go_roundw
        case rel => exact ⟨k + 1, by omega, by go_num, hall2_h.out, hB8_h.out⟩
        case measure => simp [intOf]; omega
    · obtain rfl : m = k := by omega
      rw [List.take_of_length_le (by rw [hmes_h.out]; exact Nat.le_refl _)] at hall
      have hD3 := hDD_h.out
      rw [hall, Bool.true_and] at hD3
      obtain ⟨n, rfl⟩ : ∃ n : Nat, z = (n : Int) := ⟨z.toNat, by omega⟩
      have hD4 : D = (List.range n).all fun w : Nat => (t_allW ((n : Int), es, s, t)).contains (w : Int) := by rw [hD3]; rfl
      have hinW : inW (n : Int) (t_allW ((n : Int), es, s, t)) = true := by
        have h3 : inW (n : Int) (edW es) = true := by have := hgB_all (n : Int) es; rw [hall] at this; simp at this; exact this.2
        show inW (n : Int) (s ++ (t ++ edW es)) = true
        rw [inW_append, inW_append, ← hD1_h.out, ← hD2_h.out, h3]; rfl
      have hC := hgCounts_any wr n (hG0_h.out.below hBw) hok_h.out rfl (by omega) hinW
      obtain ⟨O, hO⟩ : ∃ O, O = orgW ((n : Int), es, s, t) := ⟨_, rfl⟩
      obtain ⟨T, hT⟩ : ∃ T, T = dstW ((n : Int), es, s, t) := ⟨_, rfl⟩
      obtain ⟨L, hL⟩ : ∃ L, L = t_allW ((n : Int), es, s, t) := ⟨_, rfl⟩
      have hcz := fun k : Nat => count_zero (g := ((n : Int), es, s, t)) (k := k)
      have hOl : O.length + T.length ≤ 20000000 := by
        have h1 := out_len es
        have h2 : cntE es + s.length + t.length ≤ 8388608 := hok_h.out.2.2
        have h3 : O.length = s.length + (outW es).length := by rw [hO]; show (s ++ outW es).length = _; rw [List.length_append]
        have h4 : T.length = t.length + (inpW es).length := by rw [hT]; show (t ++ inpW es).length = _; rw [List.length_append]
        omega
      rw [← hO, ← hT] at hC
      simp only [← hO, ← hT, ← hL] at hcz
      rw [← hL] at hD4
      obtain ⟨⟨y0, y1, y2, y3⟩, g0, g1, g2, g3⟩ := t_box4 kr
      clear hall hD3 kr hB1 hinW hD_h hD1_h hD2_h hDD_h; have hC_h := Lib.hid hC; have hO_h := Lib.hid hO; have hT_h := Lib.hid hT; have hL_h := Lib.hid hL; have hcz_h := Lib.hid hcz; have hD4_h := Lib.hid hD4; have hBw_h := Lib.hid hBw; have hOl_h := Lib.hid hOl; clear hC hO hT hL hcz hD4 hBw hOl
      go_wp2_with (fail)
      refine (hC_h.out).mono ?_
      rintro e w8 ⟨A8, B8, a8, b8, rfl, hI8, hJ8, -, -, hb8⟩
      have hB9 := below_trans hBw_h.out hb8 hBw_h.out.size
      clear y0 y1 y2 y3 g0 g1 g2 g3 hb8; have hB9_h := Lib.hid hB9; clear hB9
      go_wp2_with (fail)
      go_loopw [68] (fun i wr => ∃ (k nq : Nat), k ≤ n ∧ i = .int .i64 k ∧ (∀ q : Nat, q < k → L.contains (q : Int) = true) ∧ wr = w8.drewN nq) (fun i _ => n - (intOf i).toNat)
      case atStart => exact ⟨0, 0, Nat.zero_le _, rfl, fun q hq => by omega, rfl⟩
      case round =>
        obtain ⟨k, nq, hk, rfl, hall, hwr⟩ := hrel
        by_cases hlt : k < n
        · obtain ⟨gd, rfl, hgb, hgc, -⟩ := hI8.getc hlt
          obtain ⟨jd, rfl, hjb, hjc, -⟩ := hJ8.getc hlt
          have e1 : wr.cell? (gd.add k) = some (.int .i64 (O.count (k : Int) : Int)) := by rw [hwr]; exact hgc
          have e2 : wr.cell? (jd.add k) = some (.int .i64 (T.count (k : Int) : Int)) := by rw [hwr]; exact hjc
          have l1 := count_le O (k : Int)
          have l2 := count_le T (k : Int)
          obtain ⟨x, hx⟩ : ∃ x, x = O.count (k : Int) := ⟨_, rfl⟩
          obtain ⟨y, hy⟩ : ∃ y, y = T.count (k : Int) := ⟨_, rfl⟩
          rw [← hx] at e1 l1
          rw [← hy] at e2 l2
          have hcz1 := hcz_h.out k
          rw [← hx, ← hy] at hcz1
          have hkI : (k : Int) < (n : Int) := by omega
          have hxb : x ≤ 20000000 := by have := hOl_h.out; omega
          have hyb : y ≤ 20000000 := by have := hOl_h.out; omega
          clear hgc hjc hx hy l1 l2
          by_cases hc : L.contains (k : Int) = true
          · have hne : ¬ (x = 0 ∧ y = 0) := fun h => by rw [hcz1.1 h] at hc; cases hc
            have hb0 : ((x : Int) + (y : Int) == 0) = false := by rw [beq_eq_false_iff_ne]; omega
            have hall2 : ∀ q : Nat, q < k + 1 → L.contains (q : Int) = true := fun q hq => by
              by_cases h : q < k
              · exact hall q h
              · obtain rfl : q = k := by omega
                exact hc
            clear hne hcz1 hc hall; have hall2_h := Lib.hid hall2; have hwr_h := Lib.hid hwr; have hI8_h := Lib.hid hI8; have hJ8_h := Lib.hid hJ8; clear hall2 hwr hI8 hJ8
            go_wp2_with (fail)
            go_quiet (fail)
            go_wp2_with (fail)
            go_roundw
            case rel => exact ⟨k + 1, _, by omega, by go_num, hall2_h.out, by rw [hwr_h.out]; exact World.drewN_drewN _ _ _⟩
            case measure => simp [intOf]; omega
          · have hc' : L.contains (k : Int) = false := by simpa using hc
            obtain ⟨rfl, rfl⟩ := hcz1.2 hc'
            have hf : D = false := by
              rw [hD4_h.out, Bool.eq_false_iff]
              intro hh
              have := List.all_eq_true.1 hh k (List.mem_range.2 hlt)
              rw [hc'] at this; cases this
            subst hf
            have hBf : Below w.heap.size w wr := by rw [hwr]; exact below_drewN hB9_h.out nq
            clear hcz1 hc hc' hall; have hwr_h := Lib.hid hwr; have hI8_h := Lib.hid hI8; have hJ8_h := Lib.hid hJ8; have hBf_h := Lib.hid hBf; clear hwr hI8 hJ8 hBf
            go_wp2_with (fail)
            go_quiet (fail)
            go_wp2_with (fail)
            go_ret
            exact ⟨rfl, below_drewN hBf_h.out _⟩
        · obtain rfl : n = k := by omega
          have ht : D = true := by
            rw [hD4_h.out]
            exact List.all_eq_true.2 fun q hq => hall q (List.mem_range.1 hq)
          subst ht
          have hBf : Below w.heap.size w wr := by rw [hwr]; exact below_drewN hB9_h.out nq
          clear hall; have hwr_h := Lib.hid hwr; have hI8_h := Lib.hid hI8; have hJ8_h := Lib.hid hJ8; have hBf_h := Lib.hid hBf; clear hwr hI8 hJ8 hBf
          go_wp2_with (fail)
          go_ret
          exact ⟨rfl, hBf_h.out⟩
end Go.Proofs.YtahnhblodfdfhaaDoor
namespace Go.Proofs.YtahnhblodfdfhaaDoor
open Go.RowKit
structure OIg (w0 w : World) (A : Option Addr) (cap : Nat) (l : List Int) : Prop where
  is : IS w A cap l
  new : Fresh w0.heap.size A
  below_ : Below w0.heap.size w0 w
theorem OIg.snoc {w0 w w2 : World} {A : Option Addr} {cap : Nat} {l : List Int} (h : OIg w0 w A cap l) {o : Obj} {x : Int} {A' : Option Addr} {cap' n : Nat} (hn : n = l.length + 1) (hs' : Sl w2 tInt 1 A' n cap' (ints l ++ [.int .i64 x])) (hA' : ∀ b, b ∈ fpA A' → b ∈ fpA A ∨ (w.alloc o).heap.size ≤ b) (hk : Keeps (· ∈ fpA A) (w.alloc o) w2) : OIg w0 w2 A' cap' (l ++ [x]) := by
  subst hn
  have hb := below_trans h.below_ ((Below.refl w.heap.size w).alloc (Nat.le_refl _) o) h.below_.size
  refine ⟨?_, fun b hb' => ?_, below_keeps hb hk hb.size h.new⟩
  · unfold IS
    have : ints (l ++ [x]) = ints l ++ [.int .i64 x] := by simp [ints]
    rw [this, List.length_append]; exact hs'
  · rcases hA' b hb' with h1 | h1
    · exact h.new b h1
    · have := hb.size; omega
theorem oig_alloc {w0 w : World} {A : Option Addr} {cap k : Nat} {l : List Int} (h : OIg w0 w A cap l) (hk : l.length = k) (o : Obj) : Sl (w.alloc o) tInt 1 A k cap (ints l) := by
  have := Sl.alloc h.is o; rwa [hk] at this
set_option maxRecDepth 100000 in
set_option maxHeartbeats 2000000 in
theorem hgList_any (A B : Option Addr) (a b p n : Nat) (l tw : List Int) (w : World) (hl : RdI w A l) (ht : RdI w B tw) (hp : l.length = p) (hn : tw.length = n) (hin : ∀ x, x ∈ l → 0 ≤ x ∧ x < (n : Int)) (hpb : p ≤ 1048576) :
    Calls Tryd.prog 175 #[.slice A p a, .slice B n b] w fun e w' => ∃ A' c', e = .returned (.slice A' p c') ∧ OIg w w' A' c' (mapL tw l) := by
  have hO0 : OIg w w none 0 (mapL tw []) := ⟨Sl.nil _ _ _, Fresh.none_ _, Below.refl _ _⟩
  have hp_h := Lib.hid hp; have hn_h := Lib.hid hn; have hin_h := Lib.hid hin; have hO0_h := Lib.hid hO0; have hl_h := Lib.hid hl; have ht_h := Lib.hid ht; clear hp hn hin hO0 hl ht
  go_enter Tryd.func175, Tryd.ntmps175
  go_wp2_with (fail)
  go_loopw [10, 5] (fun i v' wr => ∃ (k : Nat) (A' : Option Addr) (c' : Nat), k ≤ p ∧ i = .int .i64 k ∧ v' = .slice A' k c' ∧ OIg w wr A' c' (mapL tw (l.take k))) (fun i _ _ => p - (intOf i).toNat)
  case atStart => exact ⟨0, none, 0, Nat.zero_le _, rfl, rfl, by simpa using hO0_h.out⟩
  case round =>
    clear hO0_h
    obtain ⟨k, A', c', hk, rfl, rfl, hO⟩ := hrel
    by_cases hlt : k < p
    · obtain ⟨xd, x, rfl, hx, hxc⟩ := (hl_h.out.below hO.below_).at_ (j := k) (by rw [hp_h.out]; exact hlt)
      have hxb := hin_h.out x (List.mem_of_getElem? hx)
      obtain ⟨q, rfl⟩ : ∃ q : Nat, x = (q : Int) := ⟨x.toNat, by omega⟩
      have hqn : q < n := by omega
      obtain ⟨yd, y, rfl, hy, hyc⟩ := (ht_h.out.below hO.below_).at_ (j := q) (by rw [hn_h.out]; exact hqn)
      have hml : (mapL tw (l.take k)).length = k := by rw [mapL_length, List.length_take, hp_h.out]; omega
      have hst : mapL tw (l.take (k + 1)) = mapL tw (l.take k) ++ [y] := by rw [mapL_take_step hx]; simp [List.getD, hy]
      have hsl := fun (o : Obj) => oig_alloc hO hml o
      have hkI : (k : Int) < (p : Int) := by omega
      have hqI : (q : Int) < (n : Int) := by omega
      have hq0 : (0 : Int) ≤ (q : Int) := by omega
      clear hx hy hxb; have hml_h := Lib.hid hml; have hst_h := Lib.hid hst; have hsl_h := Lib.hid hsl; have hO_h := Lib.hid hO; clear hml hst hsl hO
      go_wp2_with (at_builtin; refine wpList_append_Sl _ rfl _ _ _ rfl 3 Tryd.underlying33 info_int rfl (by omega) rfl (hsl_h.out (.cells #[.int .i64 y] 3)) rfl (news := [.int .i64 y]) rfl (Sl.rdc (Sl.laid wr 3 1 1 #[.int .i64 y] (by unfold maxLen; omega) rfl)) (by intro u hu; simp at hu; subst hu; rfl) (by unfold maxLen; omega) (by omega) ?_; intro A3 c3 w3 hs3 hA3 hk3)
      have hO2 := hO_h.out.snoc (x := y) (by rw [hml_h.out]) hs3 hA3 hk3
      rw [← hst_h.out] at hO2
      clear hs3 hA3 hk3; have hO2_h := Lib.hid hO2; clear hO2
      go_roundw
      case rel => exact ⟨k + 1, A3, c3, by omega, by go_num, rfl, hO2_h.out⟩
      case measure => simp [intOf]; omega
    · obtain rfl : p = k := by omega
      rw [List.take_of_length_le (by rw [hp_h.out]; exact Nat.le_refl _)] at hO
      have hO_h := Lib.hid hO; clear hO
      go_wp2_with (fail)
      go_ret
      exact ⟨A', c', rfl, hO_h.out⟩
end Go.Proofs.YtahnhblodfdfhaaDoor
namespace Go.Proofs.YtahnhblodfdfhaaDoor
open Go.RowKit
def gOverB (p : Int) (g : Gr) : Bool := fieldB p && (grB g && g.2.1.all fun e => decide (e.2.1 < p))
def dnAskB (p : Int) (g : Gr) : Bool := gOverB p g && g.2.1.all fun e => noDl e.1
def dnEqs (p : Int) (g : Gr) : List (List Int) := g.2.1.flatMap (dnRowsM p g.1.toNat)
def dnV (p : Int) (g : Gr) : Sys := ((g.2.2.1.length : Int), (g.2.2.2.length : Int), redM p (g.2.2.1.length + g.2.2.2.length) ((nullM p g.1.toNat (dnEqs p g)).map fun v => mapL v (g.2.2.1 ++ g.2.2.2)))
def dnGM (p : Int) (g : Gr) : Sys × Bool := if dnAskB p g then (dnV p g, true) else ((0, 0, []), false)
theorem allE_no {f : Eg → Bool} {l : List Eg} {k : Nat} {e : Eg} (h : l[k]? = some e) (hn : f e = false) : l.all f = false := by
  rw [List.all_eq_false]
  exact ⟨e, List.mem_of_getElem? h, by simp [hn]⟩
theorem allE_yes {f : Eg → Bool} {l : List Eg} (h : ∀ j e, l[j]? = some e → j < l.length → f e = true) : l.all f = true := by
  rw [List.all_eq_true]
  intro n hn
  obtain ⟨j, hj⟩ := List.mem_iff_getElem?.1 hn
  exact h j n hj (List.getElem?_eq_some_iff.1 hj).1
set_option maxRecDepth 100000 in
set_option maxHeartbeats 2000000 in
theorem hgGood_any (p : Int) {v : Value} {g : Gr} (w : World) (h : RdGr w v g) (ok : OkG g) :
    Calls Tryd.prog 132 #[.int .i64 p, v] w fun e w' => e = .returned (.bool (gOverB p g)) ∧ Below w.heap.size w w' := by
  obtain ⟨A, c, hs, ⟨B, b, s⟩, ⟨C, d, t⟩, rfl, e1, e2, e3, hE, hRa, hRb⟩ := id h
  obtain ⟨z, es, s0, t0⟩ := g
  have a1 : es = hs.map egOf := e1
  have a2 : s = s0 := e2
  have a3 : t = t0 := e3
  subst a2 a3
  clear e1 e2 e3
  obtain ⟨m, hm⟩ : ∃ m, m = hs.length := ⟨_, rfl⟩
  have hmes : es.length = m := by rw [a1, List.length_map, hm]
  have hm20 : m ≤ 1048576 := by rw [← hmes]; exact ok.1.1
  change RdGr w (.agg #[.int .i64 z, .slice A hs.length c, .slice B s.length b, .slice C t.length d]) (z, es, s, t) at h
  show Calls Tryd.prog _ #[.int .i64 p, .agg #[.int .i64 z, .slice A hs.length c, .slice B s.length b, .slice C t.length d]] w _
  rw [← hm] at h ⊢
  obtain ⟨W, hW, bW, k0⟩ := (⟨_, rfl, below_alloc _ _, heap_alloc_new _ _⟩ : ∃ W, W = w.alloc (.cells #[.int .i64 z, .slice A m c, .slice B s.length b, .slice C t.length d] tGr) ∧ Below w.heap.size w W ∧ W.heap[w.heap.size]? = some (.cells #[.int .i64 z, .slice A m c, .slice B s.length b, .slice C t.length d] tGr))
  obtain ⟨⟨c0, c1, c2, c3⟩, f0, f1, f2, f3⟩ := box4 k0
  have hV := fun W' (hb : Below w.heap.size w W') => hgValid_any W' (h.below hb) ok
  have hG := fun W' => fdGood_any p W'
  obtain ⟨D, hD⟩ : ∃ D, D = gOverB p (z, es, s, t) := ⟨_, rfl⟩
  rw [← hD]
  unfold gOverB at hD
  clear h
  by_cases hf : fieldB p = true
  · simp only [hf] at hG
    rw [hf, Bool.true_and] at hD
    by_cases hg : grB (z, es, s, t) = true
    · simp only [hg] at hV
      rw [hg, Bool.true_and] at hD
      have hDD : (es.all (fun e : Eg => decide (e.2.1 < p)) = true) → D = true := fun h => by rw [hD]; exact h
      have hDN : (es.all (fun e : Eg => decide (e.2.1 < p)) = false) → D = false := fun h => by rw [hD]; exact h
      clear hf hg hD ok; have hV_h := Lib.hid hV; have hG_h := Lib.hid hG; have hm_h := Lib.hid hm; have hmes_h := Lib.hid hmes; have a1_h := Lib.hid a1; have hE_h := Lib.hid hE; have k0_h := Lib.hid k0; have bW_h := Lib.hid bW; have hDD_h := Lib.hid hDD; have hDN_h := Lib.hid hDN; clear hV hG hm hmes a1 hE k0 bW hDD hDN
      go_enter Tryd.func132, Tryd.ntmps132
      go_upto_region 1 with (fail)
      rw [← hW]
      clear hW
      go_wp2_with (fail)
      refine (hG_h.out _).mono ?_
      rintro e w' ⟨rfl, rfl⟩
      go_wp2_with (fail)
      refine (hV_h.out _ bW_h.out).mono ?_
      rintro e wq ⟨rfl, hb1⟩
      clear c0 c1 c2 c3 f0 f1 f2 f3
      have hbq := below_trans bW_h.out hb1 bW_h.out.size
      have hE := hE_h.out.below hbq
      replace k0_h := Lib.hid (box_below k0_h.out hb1)
      clear hb1; have hbq_h := Lib.hid hbq; have hE_h := Lib.hid hE; clear hbq hE
      obtain ⟨⟨c0, c1, c2, c3⟩, f0, f1, f2, f3⟩ := box4 k0_h.out
      go_wp2_with (fail)
      clear c0 c1 c2 c3 f0 f1 f2 f3
      go_loopw [18] (fun i wr => ∃ k : Nat, k ≤ m ∧ i = .int .i64 k ∧ Below wq.heap.size wq wr ∧ ∀ (j : Nat) (e : Eg), es[j]? = some e → j < k → (fun e : Eg => decide (e.2.1 < p)) e = true) (fun i _ => m - (intOf i).toNat)
      case atStart => exact ⟨0, Nat.zero_le _, rfl, Below.refl _ _, fun j e _ h => absurd h (Nat.not_lt_zero j)⟩
      case round =>
        obtain ⟨k, hk, rfl, hbr, hall⟩ := hrel
        obtain ⟨wo, rfl⟩ : ∃ x, x = wr := ⟨_, rfl⟩
        by_cases hlt : k < m
        · obtain ⟨ad, κ, v, B', b', l, C', c', mm, rfl, hx, ⟨d0, d1, d2, d3⟩, _, _⟩ := (hE_h.out.below hbr).at_ (j := k) (by rw [← hm_h.out]; exact hlt)
          have hxe : es[k]? = some (κ, v, l, mm) := by rw [a1_h.out, List.getElem?_map, hx]; rfl
          have hkI : (k : Int) < (m : Int) := by omega
          have hbo := below_trans hbq_h.out hbr hbq_h.out.size
          have hba := below_trans hbo (below_alloc wo (.cells #[.int .i64 κ, .int .i64 v, .slice B' l.length b', .slice C' mm.length c'] tEd)) hbo.size
          have hbr2 := below_trans hbr (below_alloc wo (.cells #[.int .i64 κ, .int .i64 v, .slice B' l.length b', .slice C' mm.length c'] tEd)) hbr.size
          have hnx : ∀ (e : Eg), (fun e : Eg => decide (e.2.1 < p)) (κ, v, l, mm) = true → es[k]? = some e → (fun e : Eg => decide (e.2.1 < p)) e = true := fun e he h2 => by rw [hxe] at h2; obtain rfl := Option.some.inj h2; exact he
          have hall2 : (fun e : Eg => decide (e.2.1 < p)) (κ, v, l, mm) = true → ∀ (j : Nat) (e : Eg), es[j]? = some e → j < k + 1 → (fun e : Eg => decide (e.2.1 < p)) e = true := fun he j e h2 h3 => by
            rcases Nat.lt_or_ge j k with h4 | h4
            · exact hall j e h2 h4
            · obtain rfl : j = k := by omega
              exact hnx e he h2
          clear hx hall hnx
          by_cases hv : v < p
          · have hvn : ¬ v ≥ p := by omega
            have hall3 := hall2 (decide_eq_true hv)
            clear hall2 hv; have hall3_h := Lib.hid hall3; have hbr2_h := Lib.hid hbr2; have hbr_h := Lib.hid hbr; have hba_h := Lib.hid hba; have hbo_h := Lib.hid hbo; have hxe_h := Lib.hid hxe; clear hall3 hbr2 hbr hba hbo hxe
            go_wp2_with (fail)
            go_roundw
            case rel => exact ⟨k + 1, by omega, by go_num, hbr2_h.out, hall3_h.out⟩
            case measure => simp [intOf]; omega
          · have hvn : v ≥ p := by omega
            have hfin := hDN_h.out (allE_no hxe (decide_eq_false hv))
            subst hfin
            clear hall2 hv; have hbr2_h := Lib.hid hbr2; have hbr_h := Lib.hid hbr; have hba_h := Lib.hid hba; have hbo_h := Lib.hid hbo; have hxe_h := Lib.hid hxe; clear hbr2 hbr hba hbo hxe
            go_wp2_with (fail)
            go_ret
            exact ⟨rfl, hba_h.out⟩
        · obtain rfl : m = k := by omega
          have hyes := allE_yes (f := (fun e : Eg => decide (e.2.1 < p))) (l := es) fun j e h1 h2 => hall j e h1 (by rw [← hmes_h.out]; exact h2)
          have hbo := below_trans hbq_h.out hbr hbq_h.out.size
          have hfin := hDD_h.out hyes
          subst hfin
          clear hall; have hbo_h := Lib.hid hbo; clear hbo
          go_wp2_with (fail)
          go_ret
          exact ⟨rfl, hbo_h.out⟩
    · have hg' : grB (z, es, s, t) = false := by simpa using hg
      simp only [hg'] at hV
      rw [hg', Bool.false_and] at hD
      subst hD
      clear hf hg hg' ok; have hV_h := Lib.hid hV; have hG_h := Lib.hid hG; have k0_h := Lib.hid k0; have bW_h := Lib.hid bW; have hm_h := Lib.hid hm; have hmes_h := Lib.hid hmes; have a1_h := Lib.hid a1; have hE_h := Lib.hid hE; clear hV hG k0 bW hm hmes a1 hE
      go_enter Tryd.func132, Tryd.ntmps132
      go_upto_region 1 with (fail)
      rw [← hW]
      clear hW
      go_wp2_with (fail)
      refine (hG_h.out _).mono ?_
      rintro e w' ⟨rfl, rfl⟩
      go_wp2_with (fail)
      refine (hV_h.out _ bW_h.out).mono ?_
      rintro e wq ⟨rfl, hb1⟩
      go_wp2_with (fail)
      go_ret
      exact ⟨rfl, below_trans bW_h.out hb1 bW_h.out.size⟩
  · have hf' : fieldB p = false := by simpa using hf
    simp only [hf'] at hG
    rw [hf', Bool.false_and] at hD
    subst hD
    clear hf hf' ok hV; have hG_h := Lib.hid hG; have k0_h := Lib.hid k0; have bW_h := Lib.hid bW; have hm_h := Lib.hid hm; have hmes_h := Lib.hid hmes; have a1_h := Lib.hid a1; have hE_h := Lib.hid hE; clear hG k0 bW hm hmes a1 hE
    go_enter Tryd.func132, Tryd.ntmps132
    go_upto_region 1 with (fail)
    rw [← hW]
    clear hW
    go_wp2_with (fail)
    refine (hG_h.out _).mono ?_
    rintro e w' ⟨rfl, rfl⟩
    go_wp2_with (fail)
    go_ret
    exact ⟨rfl, bW_h.out⟩
set_option maxRecDepth 100000 in
set_option maxHeartbeats 2000000 in
theorem dnAsked_any (p : Int) {v : Value} {g : Gr} (w : World) (h : RdGr w v g) (ok : OkG g) :
    Calls Tryd.prog 76 #[.int .i64 p, v] w fun e w' => e = .returned (.bool (dnAskB p g)) ∧ Below w.heap.size w w' := by
  obtain ⟨A, c, hs, ⟨B, b, s⟩, ⟨C, d, t⟩, rfl, e1, e2, e3, hE, hRa, hRb⟩ := id h
  obtain ⟨z, es, s0, t0⟩ := g
  have a1 : es = hs.map egOf := e1
  have a2 : s = s0 := e2
  have a3 : t = t0 := e3
  subst a2 a3
  clear e1 e2 e3
  obtain ⟨m, hm⟩ : ∃ m, m = hs.length := ⟨_, rfl⟩
  have hmes : es.length = m := by rw [a1, List.length_map, hm]
  have hm20 : m ≤ 1048576 := by rw [← hmes]; exact ok.1.1
  change RdGr w (.agg #[.int .i64 z, .slice A hs.length c, .slice B s.length b, .slice C t.length d]) (z, es, s, t) at h
  show Calls Tryd.prog _ #[.int .i64 p, .agg #[.int .i64 z, .slice A hs.length c, .slice B s.length b, .slice C t.length d]] w _
  rw [← hm] at h ⊢
  obtain ⟨W, hW, bW, k0⟩ := (⟨_, rfl, below_alloc _ _, heap_alloc_new _ _⟩ : ∃ W, W = w.alloc (.cells #[.int .i64 z, .slice A m c, .slice B s.length b, .slice C t.length d] tGr) ∧ Below w.heap.size w W ∧ W.heap[w.heap.size]? = some (.cells #[.int .i64 z, .slice A m c, .slice B s.length b, .slice C t.length d] tGr))
  obtain ⟨⟨c0, c1, c2, c3⟩, f0, f1, f2, f3⟩ := box4 k0
  have hV := fun W' (hb : Below w.heap.size w W') => hgGood_any p W' (h.below hb) ok
  obtain ⟨D, hD⟩ : ∃ D, D = dnAskB p (z, es, s, t) := ⟨_, rfl⟩
  rw [← hD]
  unfold dnAskB at hD
  clear h
  by_cases hg : gOverB p (z, es, s, t) = true
  · simp only [hg] at hV
    rw [hg, Bool.true_and] at hD
    have hDD : (es.all (fun e : Eg => noDl e.1) = true) → D = true := fun h => by rw [hD]; exact h
    have hDN : (es.all (fun e : Eg => noDl e.1) = false) → D = false := fun h => by rw [hD]; exact h
    clear hg hD ok; have hV_h := Lib.hid hV; have hm_h := Lib.hid hm; have hmes_h := Lib.hid hmes; have a1_h := Lib.hid a1; have hE_h := Lib.hid hE; have k0_h := Lib.hid k0; have bW_h := Lib.hid bW; have hDD_h := Lib.hid hDD; have hDN_h := Lib.hid hDN; clear hV hm hmes a1 hE k0 bW hDD hDN
    go_enter Tryd.func76, Tryd.ntmps76
    go_upto_region 1 with (fail)
    rw [← hW]
    clear hW
    go_wp2_with (fail)
    refine (hV_h.out _ bW_h.out).mono ?_
    rintro e wq ⟨rfl, hb1⟩
    clear c0 c1 c2 c3 f0 f1 f2 f3
    have hbq := below_trans bW_h.out hb1 bW_h.out.size
    have hE := hE_h.out.below hbq
    replace k0_h := Lib.hid (box_below k0_h.out hb1)
    clear hb1; have hbq_h := Lib.hid hbq; have hE_h := Lib.hid hE; clear hbq hE
    obtain ⟨⟨c0, c1, c2, c3⟩, f0, f1, f2, f3⟩ := box4 k0_h.out
    go_wp2_with (fail)
    clear c0 c1 c2 c3 f0 f1 f2 f3
    go_loopw [14] (fun i wr => ∃ k : Nat, k ≤ m ∧ i = .int .i64 k ∧ Below wq.heap.size wq wr ∧ ∀ (j : Nat) (e : Eg), es[j]? = some e → j < k → (fun e : Eg => noDl e.1) e = true) (fun i _ => m - (intOf i).toNat)
    case atStart => exact ⟨0, Nat.zero_le _, rfl, Below.refl _ _, fun j e _ h => absurd h (Nat.not_lt_zero j)⟩
    case round =>
      obtain ⟨k, hk, rfl, hbr, hall⟩ := hrel
      obtain ⟨wo, rfl⟩ : ∃ x, x = wr := ⟨_, rfl⟩
      by_cases hlt : k < m
      · obtain ⟨ad, κ, v, B', b', l, C', c', mm, rfl, hx, ⟨d0, d1, d2, d3⟩, _, _⟩ := (hE_h.out.below hbr).at_ (j := k) (by rw [← hm_h.out]; exact hlt)
        have hxe : es[k]? = some (κ, v, l, mm) := by rw [a1_h.out, List.getElem?_map, hx]; rfl
        have hkI : (k : Int) < (m : Int) := by omega
        have hbo := below_trans hbq_h.out hbr hbq_h.out.size
        have hba := below_trans hbo (below_alloc wo (.cells #[.int .i64 κ, .int .i64 v, .slice B' l.length b', .slice C' mm.length c'] tEd)) hbo.size
        have hbr2 := below_trans hbr (below_alloc wo (.cells #[.int .i64 κ, .int .i64 v, .slice B' l.length b', .slice C' mm.length c'] tEd)) hbr.size
        have hnx : ∀ (e : Eg), (fun e : Eg => noDl e.1) (κ, v, l, mm) = true → es[k]? = some e → (fun e : Eg => noDl e.1) e = true := fun e he h2 => by rw [hxe] at h2; obtain rfl := Option.some.inj h2; exact he
        have hall2 : (fun e : Eg => noDl e.1) (κ, v, l, mm) = true → ∀ (j : Nat) (e : Eg), es[j]? = some e → j < k + 1 → (fun e : Eg => noDl e.1) e = true := fun he j e h2 h3 => by
          rcases Nat.lt_or_ge j k with h4 | h4
          · exact hall j e h2 h4
          · obtain rfl : j = k := by omega
            exact hnx e he h2
        clear hx hall hnx
        have hT := fun W' => dnTimeless_any κ W'
        by_cases hv : noDl κ = true
        · simp only [hv] at hT
          have hall3 := hall2 hv
          clear hall2 hv; have hall3_h := Lib.hid hall3; have hbr2_h := Lib.hid hbr2; have hbr_h := Lib.hid hbr; have hba_h := Lib.hid hba; have hbo_h := Lib.hid hbo; have hxe_h := Lib.hid hxe; have hT_h := Lib.hid hT; clear hall3 hbr2 hbr hba hbo hxe hT
          go_wp2_with (fail)
          refine (hT_h.out _).mono ?_
          rintro e w' ⟨rfl, hw'⟩
          subst hw'
          go_wp2_with (fail)
          go_roundw
          case rel => exact ⟨k + 1, by omega, by go_num, hbr2_h.out, hall3_h.out⟩
          case measure => simp [intOf]; omega
        · have hv' : noDl κ = false := by simpa using hv
          simp only [hv'] at hT
          have hfin := hDN_h.out (allE_no hxe hv')
          subst hfin
          clear hall2 hv hv'; have hbr2_h := Lib.hid hbr2; have hbr_h := Lib.hid hbr; have hba_h := Lib.hid hba; have hbo_h := Lib.hid hbo; have hxe_h := Lib.hid hxe; have hT_h := Lib.hid hT; clear hbr2 hbr hba hbo hxe hT
          go_wp2_with (fail)
          refine (hT_h.out _).mono ?_
          rintro e w' ⟨rfl, hw'⟩
          subst hw'
          go_wp2_with (fail)
          go_ret
          exact ⟨rfl, hba_h.out⟩
      · obtain rfl : m = k := by omega
        have hyes := allE_yes (f := (fun e : Eg => noDl e.1)) (l := es) fun j e h1 h2 => hall j e h1 (by rw [← hmes_h.out]; exact h2)
        have hbo := below_trans hbq_h.out hbr hbq_h.out.size
        have hfin := hDD_h.out hyes
        subst hfin
        clear hall; have hbo_h := Lib.hid hbo; clear hbo
        go_wp2_with (fail)
        go_ret
        exact ⟨rfl, hbo_h.out⟩
  · have hg' : gOverB p (z, es, s, t) = false := by simpa using hg
    simp only [hg'] at hV
    rw [hg', Bool.false_and] at hD
    subst hD
    clear hg hg' ok; have hV_h := Lib.hid hV; have k0_h := Lib.hid k0; have bW_h := Lib.hid bW; have hm_h := Lib.hid hm; have hmes_h := Lib.hid hmes; have a1_h := Lib.hid a1; have hE_h := Lib.hid hE; clear hV k0 bW hm hmes a1 hE
    go_enter Tryd.func76, Tryd.ntmps76
    go_upto_region 1 with (fail)
    rw [← hW]
    clear hW
    go_wp2_with (fail)
    refine (hV_h.out _ bW_h.out).mono ?_
    rintro e wq ⟨rfl, hb1⟩
    go_wp2_with (fail)
    go_ret
    exact ⟨rfl, below_trans bW_h.out hb1 bW_h.out.size⟩
end Go.Proofs.YtahnhblodfdfhaaDoor
namespace Go.Proofs.YtahnhblodfdfhaaDoor
open Go.RowKit
theorem RdI.lt0 {w : World} {A : Option Addr} {l : List Int} (h : RdI w A l) (h0 : 0 < l.length) : ∀ b, b ∈ fpA A → b < w.heap.size := by
  obtain ⟨ad, x, rfl, _, hc⟩ := h.at_ h0
  intro b hb
  have h2 := World.block_lt_of_cell? w _ hc
  rw [block_of_add] at h2
  obtain rfl : b = ad.block := by simpa using hb
  exact h2
set_option maxRecDepth 100000 in
set_option maxHeartbeats 2000000 in
theorem combine_any (p : Int) (n m : Nat) (A B : Option Addr) (c cb : Nat) (hs : List Hd) (x : List Int) (L : List (List Int)) (w : World) (h : RdR w A hs) (hL : hs.map (fun h : Hd => h.2.2) = L) (hLm : L.length = m) (hx : RdI w B x) (hxl : x.length = m) (hxr : Res p x) (hmat : Mat p L.length n L) (h0 : 0 < p) (h97 : p ≤ 97) (hml : m ≤ 1048576) (hn : n ≤ 1048576) :
    Calls Tryd.prog 128 #[.int .i64 p, .slice B m cb, .slice A m c, .int .i64 n] w (RetI w (cmbTo p n x L m)) := by
  have hZ := zeros_any n w (by omega)
  have hcl := cmbTo_length p n x L
  have hcr := cmbTo_res h0 n x L
  have hhl : hs.length = m := by rw [← hLm, ← hL, List.length_map]
  have h_h := Lib.hid h; have hL_h := Lib.hid hL; have hLm_h := Lib.hid hLm; have hx_h := Lib.hid hx; have hxl_h := Lib.hid hxl; have hxr_h := Lib.hid hxr; have hmat_h := Lib.hid hmat; have hcl_h := Lib.hid hcl; have hcr_h := Lib.hid hcr; have hhl_h := Lib.hid hhl; clear h hL hLm hx hxl hxr hmat hcl hcr hhl
  go_enter Tryd.func128, Tryd.ntmps128
  go_wp2_with (fail)
  refine (hZ).mono ?_
  rintro e w1 ⟨Z, cz, rfl, hi1, hf1, hb1⟩
  rw [List.length_replicate]
  have hst : IS w1 Z cz (cmbTo p n x L 0) := hi1
  have hi1_h := Lib.hid hi1; have hst_h := Lib.hid hst; have hf1_h := Lib.hid hf1; have hb1_h := Lib.hid hb1; clear hi1 hst hf1 hb1
  go_wp2_with (fail)
  go_loopw [16] (fun i wr => ∃ k : Nat, k ≤ m ∧ i = .int .i64 k ∧ IS wr Z cz (cmbTo p n x L k) ∧ Below w.heap.size w wr) (fun i _ => m - (intOf i).toNat)
  case atStart => exact ⟨0, Nat.zero_le _, rfl, hst_h.out, hb1_h.out⟩
  case round =>
    clear hst_h hi1_h hb1_h
    obtain ⟨k, hk, rfl, his, hbr⟩ := hrel
    by_cases hlt : k < m
    · obtain ⟨ad, C, d, u, rfl, hu, hcu, hrd⟩ := (h_h.out.below hbr).at_ (k := k) (by rw [hhl_h.out]; exact hlt)
      have hLu : L[k]? = some u := by rw [← hL_h.out, List.getElem?_map, hu]; rfl
      have hgu : L.getD k [] = u := by rw [List.getD_eq_getElem?_getD, hLu]; rfl
      have hur := hmat_h.out.row u (List.mem_of_getElem? hLu)
      obtain ⟨bd, y, rfl, hy, hcy⟩ := (hx_h.out.below hbr).at_ (j := k) (by rw [hxl_h.out]; exact hlt)
      have hgy : x.getD k 0 = y := by rw [List.getD_eq_getElem?_getD, hy]; rfl
      have hyb := hxr_h.out y (List.mem_of_getElem? hy)
      have hAT := addTimes_any p y Z C cz d (cmbTo p n x L k) u wr his hrd (fun hu0 b hb hb' => by
        have h1 := hf1_h.out b hb'
        have h2 := (h_h.out.2 _ (List.mem_of_getElem? hu)).lt0 hu0 b hb
        omega) (by rw [hcl_h.out, hur.1]; exact Nat.le_refl _) (by rw [hcl_h.out]; omega) h0 h97 (hcr_h.out k) hur.2 (by omega) (by omega)
      have hstep : addT p (cmbTo p n x L k) y u = cmbTo p n x L (k + 1) := by rw [cmbTo, hgy, hgu]
      rw [hstep, hcl_h.out, hur.1] at hAT
      rw [hur.1] at hcu
      have hnext : ∀ w', Wr wr w' Z (ints (cmbTo p n x L (k + 1))) → IS w' Z cz (cmbTo p n x L (k + 1)) ∧ Below w.heap.size w w' := fun w' hw => by
        refine ⟨?_, below_keeps hbr hw.1 hbr.size fun b hb => hf1_h.out b hb⟩
        have := hw.sl his (by rw [ints_length, hcl_h.out, hcl_h.out, Nat.mul_one])
        unfold IS
        rw [hcl_h.out]
        rwa [hcl_h.out] at this
      have hkI : (k : Int) < (m : Int) := by omega
      have hAT_h := Lib.hid hAT; have hnext_h := Lib.hid hnext; have hyb_h := Lib.hid hyb; clear hAT hnext hyb; clear his hbr hu hrd hLu hgu hur hy hgy hstep
      go_wp2_with (fail)
      refine (hAT_h.out).mono ?_
      rintro e w2 ⟨rfl, hw2⟩
      have hN := hnext_h.out w2 hw2
      have hN_h := Lib.hid hN; clear hN; clear hw2 hcu hcy
      go_wp2_with (fail)
      go_roundw
      case rel => exact ⟨k + 1, by omega, by go_num, hN_h.out⟩
      case measure => simp [intOf]; omega
    · obtain rfl : m = k := by omega
      have his_h := Lib.hid his; have hbr_h := Lib.hid hbr; clear his hbr
      go_wp2_with (fail)
      go_ret
      exact ⟨Z, cz, by rw [hcl_h.out]; rfl, his_h.out, hf1_h.out, hbr_h.out⟩
end Go.Proofs.YtahnhblodfdfhaaDoor
namespace Go.Proofs.YtahnhblodfdfhaaDoor
open Go.RowKit
section
variable {P : Program} {ops : Array Oper} {Q : Exit → Act → World → Prop} {md : Region.Mode} {z : Nat} {F : World → Prop}
def wpAnyZ (P : Program) (md : Region.Mode) (ops : Array Oper) (Q : Exit → Act → World → Prop) (z : Nat) (F : World → Prop) : Nat → Array Bool → Act → World → Prop
  | 0, listed, a, w => Region.ready md ops listed = [] ∧ Q .normal a w
  | fuel + 1, listed, a, w =>
    (Region.ready md ops listed = [] → Q .normal a w) ∧
    ∀ i ∈ Region.ready md ops listed, wpOp P ops Q i (fun a' w' => ((listed.setIfInBounds i true).getD z true = false → F w') ∧ wpAnyZ P md ops Q z F fuel (listed.setIfInBounds i true) a' w') a w
theorem wpAny_of_z : ∀ (fuel : Nat) (listed : Array Bool) (a : Act) (w : World), wpAnyZ P md ops Q z F fuel listed a w → wpAny P md ops Q fuel listed a w
  | 0, _, _, _, h => h
  | fuel + 1, _, _, _, h => ⟨h.1, fun i hi => wpOp_mono (fun a' w' h' => wpAny_of_z fuel _ a' w' h'.2) (h.2 i hi)⟩
theorem wpAnyZ_first {i : Nat} {oi oz : Oper} {v : Value} (hi : ops[i]? = some oi) (hsel : ∀ (j : Nat) (o : Oper) cs b, ops[j]? = some o → o.op ≠ .select cs b)
    (hQ : ∀ c a w, Q (.panic c) (a.put oi.dst v) w → Q (.panic c) a w) (hoz : ops[z]? = some oz) (hz : ∃ e ∈ oz.after, Region.binds md e = true ∧ e.on = i) :
    ∀ (fuel : Nat) (listed : Array Bool) (a : Act) (w : World), listed.getD z true = false →
      (∀ j oj, ops[j]? = some oj → j ≠ i → listed.getD j true = false → (∀ e ∈ oj.after, Region.binds md e = true → e.on ≠ i) → oi.apart ops oj = true) →
      i ∈ Region.ready md ops listed → YieldsIf P ops F oi v a → F w →
      wpAnyZ P md ops Q z F fuel (listed.setIfInBounds i true) (a.put oi.dst v) w → wpAnyZ P md ops Q z F (fuel + 1) listed a w := by
  intro fuel
  induction fuel with
  | zero =>
    intro listed a w _ _ hr hy hS H
    refine ⟨fun h => (by rw [h] at hr; cases hr), fun j hj => ?_⟩
    by_cases hji : j = i
    · subst hji; exact hy.wpOp hi hS ⟨fun _ => hS, H⟩
    · have := ready_mono hj hji
      rw [H.1] at this
      cases this
  | succ fuel ih =>
    intro listed a w hlz hfree hr hy hS H
    refine ⟨fun h => (by rw [h] at hr; cases hr), fun j hj => ?_⟩
    by_cases hji : j = i
    · subst hji; exact hy.wpOp hi hS ⟨fun _ => hS, H⟩
    · have h1 := H.2 j (ready_mono hj hji)
      obtain ⟨hjun, oj, hoj, hall⟩ := mem_ready.1 hj
      have hnot : ∀ e ∈ oj.after, Region.binds md e = true → e.on ≠ i := fun e he hb heq => by
        have h1 := hall e he hb
        have h0 := (mem_ready.1 hr).1
        rw [heq] at h1
        rcases Nat.lt_or_ge i listed.size with h' | h'
        · simp [h'] at h0 h1; rw [h0] at h1; cases h1
        · simp [Array.getElem?_eq_none h'] at h1
      have hjz : j ≠ z := fun e => by
        subst e
        rw [hoz] at hoj
        obtain rfl := Option.some.inj hoj
        obtain ⟨e, he, hb, heq⟩ := hz
        exact hnot e he hb heq
      have hiz : i ≠ z := fun e => by
        subst e
        obtain ⟨e, he, hb, heq⟩ := hz
        obtain ⟨h0, o, ho, hall'⟩ := mem_ready.1 hr
        rw [hoz] at ho
        obtain rfl := Option.some.inj ho
        have h1 := hall' e he hb
        rw [heq] at h1
        rcases Nat.lt_or_ge i listed.size with h' | h'
        · simp [h'] at h0 h1; rw [h0] at h1; cases h1
        · simp [Array.getElem?_eq_none h'] at h1
      have h2 := wpOp_putIf hoj (hfree j oj hoj hji hjun hnot) (fun cs b => hsel i oi cs b hi) (fun cs b => hsel j oj cs b hoj) hQ hy h1
      have hfree' : ∀ k ok, ops[k]? = some ok → k ≠ i → (listed.setIfInBounds j true).getD k true = false →
          (∀ e ∈ ok.after, Region.binds md e = true → e.on ≠ i) → oi.apart ops ok = true := fun k ok hk hki hun hno => by
        refine hfree k ok hk hki ?_ hno
        by_cases hjk : j = k
        · subst hjk; exact hjun
        · rw [getD_set_ne true hjk] at hun; exact hun
      have hlz' : (listed.setIfInBounds j true).getD z true = false := by rw [getD_set_ne true hjz]; exact hlz
      have hlz2 : ((listed.setIfInBounds i true).setIfInBounds j true).getD z true = false := by rw [getD_set_ne true hjz, getD_set_ne true hiz]; exact hlz
      refine wpOp_mono (fun a' w' h3 => ⟨fun _ => h3.2.1 hlz2, ih (listed.setIfInBounds j true) a' w' hlz' hfree' (ready_mono hr (Ne.symm hji)) h3.1 (h3.2.1 hlz2) ?_⟩) h2
      rw [Array.setIfInBounds_comm _ _ hji]
      exact h3.2.2
end
section
variable {P : Program} {l : List Oper} {Q : Exit → Act → World → Prop} {md : Region.Mode} {z : Nat} {F : World → Prop}
theorem beginZ (z : Nat) (F : World → Prop) {id : Nat} {a : Act} {w : World} (hm : P.follows .mixedOrders = true) (h : wpAnyZ P .any l.toArray Q z F l.toArray.size (Array.replicate l.toArray.size false) a w.drew) : (Code.region id l.toArray true).wp P Q a w :=
  wp_region_any hm (wpAny_of_z _ _ _ _ h)
theorem beginZw (z : Nat) (F : World → Prop) {id : Nat} {a : Act} {w : World} (hm : P.follows .mixedOrders = true) (h : ∀ W1, W1 = w.drew → wpAnyZ P .any l.toArray Q z F l.toArray.size (Array.replicate l.toArray.size false) a W1) : (Code.region id l.toArray true).wp P Q a w :=
  beginZ z F hm (h _ rfl)
theorem takeZ (i : Nat) {oi : Oper} {v : Value} {fuel : Nat} {listed : Array Bool} {a : Act} {w : World} {l' : List Oper} (hd : l.drop i = oi :: l')
    (hs : Region.noSelect l.toArray = true) (hf : Region.free md l.toArray listed i = true) (hr : (Region.ready md l.toArray listed).contains i = true) (hz : Region.waitsFor md l.toArray z i = true) (hlz : listed.getD z true = false)
    (hQ : ∀ c a w, Q (.panic c) (a.put oi.dst v) w → Q (.panic c) a w) (hS : F w) (hw : Region.wanted oi (yielded l.toArray a.tmps) = true) (hy : ∀ w, F w → (execOp a.eval oi).run P w = .ok (.value v) w)
    (h : wpAnyZ P md l.toArray Q z F fuel (listed.setIfInBounds i true) (a.put oi.dst v) w) : wpAnyZ P md l.toArray Q z F (fuel + 1) listed a w := by
  obtain ⟨oz, hoz, e, he, hb, heq⟩ := Region.waitsFor_spec hz
  exact wpAnyZ_first (at_drop hd) (Region.noSelect_spec hs) hQ hoz ⟨e, he, hb, heq⟩ fuel listed a w hlz (Region.free_spec (at_drop hd) hf) (by simpa using hr) (.inl ⟨hw, hy⟩) hS h
theorem oneZ (i : Nat) {o : Oper} {fuel : Nat} {listed : Array Bool} {a : Act} {w : World} {l' : List Oper} (hd : l.drop i = o :: l') (hr : Region.ready md l.toArray listed = [i]) (hw : Region.wanted o (yielded l.toArray a.tmps) = true)
    (h : ∀ K : Act → World → Prop, (∀ a' w', ((listed.setIfInBounds i true).getD z true = false → F w') → wpAnyZ P md l.toArray Q z F fuel (listed.setIfInBounds i true) a' w' → K a' w') → o.wp P a w K Q) : wpAnyZ P md l.toArray Q z F (fuel + 1) listed a w := by
  refine ⟨fun h0 => (by rw [hr] at h0; cases h0), fun j hj => ?_⟩
  rw [hr] at hj
  obtain rfl := List.mem_singleton.1 hj
  unfold wpOp
  simp only [at_drop hd, hw, if_true]
  exact .inl (h _ fun a' w' h1 h2 => ⟨h1, h2⟩)
theorem runZ (i : Nat) {o : Oper} {v : Value} {fuel : Nat} {listed : Array Bool} {a : Act} {w w1 : World} {l' : List Oper} (hd : l.drop i = o :: l') (hr : Region.ready md l.toArray listed = [i]) (hw : Region.wanted o (yielded l.toArray a.tmps) = true)
    (hrun : (execOp a.eval o).run P w = .ok (.value v) w1) (hS : (listed.setIfInBounds i true).getD z true = false → F w1) (h : wpAnyZ P md l.toArray Q z F fuel (listed.setIfInBounds i true) (a.put o.dst v) w1) : wpAnyZ P md l.toArray Q z F (fuel + 1) listed a w :=
  oneZ i hd hr hw fun K hK => by
    unfold Oper.wp
    rw [hrun]
    exact hK _ _ hS h
theorem callZ (i : Nat) {o : Oper} {f : FuncId} {args : Array Value} {fuel : Nat} {listed : Array Bool} {a : Act} {w : World} {l' : List Oper} (hd : l.drop i = o :: l') (hr : Region.ready md l.toArray listed = [i]) (hw : Region.wanted o (yielded l.toArray a.tmps) = true)
    (hrun : (execOp a.eval o).run P w = .ok (.enter f args) w)
    (h : Calls P f args w fun e w' => ∃ v, e = .returned v ∧ ((listed.setIfInBounds i true).getD z true = false → F w') ∧ wpAnyZ P md l.toArray Q z F fuel (listed.setIfInBounds i true) (a.put o.dst v) w') : wpAnyZ P md l.toArray Q z F (fuel + 1) listed a w := by
  refine oneZ i hd hr hw fun K hK => ?_
  unfold Oper.wp
  rw [hrun]
  exact h.mono fun e w' ⟨v, he, h1, h2⟩ => by subst he; exact hK _ _ h1 h2
theorem appZ (i : Nat) {o : Oper} {fuel : Nat} {listed : Array Bool} {a : Act} {w : World} {l' : List Oper} (hd : l.drop i = o :: l') (hr : Region.ready md l.toArray listed = [i]) (hw : Region.wanted o (yielded l.toArray a.tmps) = true)
    (s x : Operand) (t : TypeId) (ho : o.op = .call { callee := .builtin .append, args := #[s, x], argTypes := #[t, t] })
    (e : TypeId) {z0 : Value} {size bytes : Nat} (ht : P.underlying t = some (.slice e)) (hinfo : (P.info? e).map (fun i => (i.zero, i.size, i.bytes)) = some (some z0, size, bytes)) (hzs : z0.cells.size = size) (hsz : 0 < size)
    {A : Option Addr} {n cap : Nat} {xs : List Value} (he : a.eval s = .slice A n cap) (hs : Sl w e size A n cap xs)
    {B : Option Addr} {m c : Nat} {news : List Value} (hx : a.eval x = .slice B m c) (hl : news.length = m * size) (hrd : RdC w B news) (h1 : ∀ u ∈ news, u.oneCell' = true)
    (h63 : n + m ≤ maxLen) (hbytes : (n + m) * bytes ≤ 140737488355328)
    (h : ∀ A' cap' w', Sl w' e size A' (n + m) cap' (xs ++ news) → (∀ b, b ∈ fpA A' → b ∈ fpA A ∨ w.heap.size ≤ b) → Keeps (· ∈ fpA A) w w' → RdC w' A xs → ((listed.setIfInBounds i true).getD z true = false → F w') ∧ wpAnyZ P md l.toArray Q z F fuel (listed.setIfInBounds i true) (a.put o.dst (.slice A' (n + m) cap')) w') : wpAnyZ P md l.toArray Q z F (fuel + 1) listed a w := by
  obtain ⟨i', hi, hz, hz1, hz2⟩ := info_parts hinfo
  obtain ⟨A', cap', w', hrun, h2, h3, h4, h5⟩ := run_append_Sl_rd (P := P) w t o.type e i' z0 size bytes ht hi hz hz1 hz2 hzs hsz A n cap xs hs B m c news hl hrd h1 h63 hbytes
  obtain ⟨hS, hh⟩ := h A' cap' w' h2 h3 h4 h5
  refine runZ i hd hr hw (w1 := w') (v := .slice A' (n + m) cap') ?_ hS hh
  unfold execOp
  simp only [ho, resolve, invoke, builtin, Sem.run_bind, Sem.run_pure, Result.andThen_ok, List.map_toArray, List.map_cons, List.map_nil, he, hx, hrun]
theorem doneZ {fuel : Nat} {listed : Array Bool} {a : Act} {w : World} (hr : Region.ready md l.toArray listed = []) (h : Q .normal a w) : wpAnyZ P md l.toArray Q z F fuel listed a w := by
  cases fuel with
  | zero => exact ⟨hr, h⟩
  | succ f => exact ⟨fun _ => h, fun i hi => (by rw [hr] at hi; cases hi)⟩
end
end Go.Proofs.YtahnhblodfdfhaaDoor
namespace Go.Proofs.YtahnhblodfdfhaaDoor
open Go.RowKit
section
variable {P : Program} {ops : Array Oper} {Q : Exit → Act → World → Prop} {md : Region.Mode} {z : Nat} {F : World → Prop}
theorem wpAnyZ_firstC {i : Nat} {oi : Oper} {v : Value} {C : List Nat} (hi : ops[i]? = some oi) (hsel : ∀ (j : Nat) (o : Oper) cs b, ops[j]? = some o → o.op ≠ .select cs b)
    (hQ : ∀ c a w, Q (.panic c) (a.put oi.dst v) w → Q (.panic c) a w) (hzC : z ∈ C) (hiC : ¬ i ∈ C) (hC : ∀ c ∈ C, ∃ oc, ops[c]? = some oc ∧ ∃ e ∈ oc.after, Region.binds md e = true ∧ (e.on = i ∨ e.on ∈ C)) :
    ∀ (fuel : Nat) (listed : Array Bool) (a : Act) (w : World), (∀ c ∈ C, listed.getD c true = false) →
      (∀ j oj, ops[j]? = some oj → j ≠ i → listed.getD j true = false → (∀ e ∈ oj.after, Region.binds md e = true → e.on ≠ i) → oi.apart ops oj = true) →
      i ∈ Region.ready md ops listed → YieldsIf P ops F oi v a → F w →
      wpAnyZ P md ops Q z F fuel (listed.setIfInBounds i true) (a.put oi.dst v) w → wpAnyZ P md ops Q z F (fuel + 1) listed a w := by
  intro fuel
  have hiz : i ≠ z := fun e => hiC (e ▸ hzC)
  induction fuel with
  | zero =>
    intro listed a w _ _ hr hy hS H
    refine ⟨fun h => (by rw [h] at hr; cases hr), fun j hj => ?_⟩
    by_cases hji : j = i
    · subst hji; exact hy.wpOp hi hS ⟨fun _ => hS, H⟩
    · have := ready_mono hj hji
      rw [H.1] at this
      cases this
  | succ fuel ih =>
    intro listed a w hlz hfree hr hy hS H
    refine ⟨fun h => (by rw [h] at hr; cases hr), fun j hj => ?_⟩
    by_cases hji : j = i
    · subst hji; exact hy.wpOp hi hS ⟨fun _ => hS, H⟩
    · have h1 := H.2 j (ready_mono hj hji)
      obtain ⟨hjun, oj, hoj, hall⟩ := mem_ready.1 hj
      have hblock : ∀ k, listed.getD k true = false → ∀ e ∈ oj.after, Region.binds md e = true → e.on ≠ k := fun k h0 e he hb heq => by
        have h1 := hall e he hb
        rw [heq] at h1
        rcases Nat.lt_or_ge k listed.size with h' | h'
        · simp [h'] at h0 h1; rw [h0] at h1; cases h1
        · simp [Array.getElem?_eq_none h'] at h1
      have hnot : ∀ e ∈ oj.after, Region.binds md e = true → e.on ≠ i := hblock i (mem_ready.1 hr).1
      have hjC : ¬ j ∈ C := fun hm => by
        obtain ⟨oc, hoc, e, he, hb, hon⟩ := hC j hm
        rw [hoj] at hoc
        obtain rfl := Option.some.inj hoc
        rcases hon with h | h
        · exact hnot e he hb h
        · exact hblock _ (hlz _ h) e he hb rfl
      have hjz : j ≠ z := fun e => hjC (e ▸ hzC)
      have h2 := wpOp_putIf hoj (hfree j oj hoj hji hjun hnot) (fun cs b => hsel i oi cs b hi) (fun cs b => hsel j oj cs b hoj) hQ hy h1
      have hfree' : ∀ k ok, ops[k]? = some ok → k ≠ i → (listed.setIfInBounds j true).getD k true = false →
          (∀ e ∈ ok.after, Region.binds md e = true → e.on ≠ i) → oi.apart ops ok = true := fun k ok hk hki hun hno => by
        refine hfree k ok hk hki ?_ hno
        by_cases hjk : j = k
        · subst hjk; exact hjun
        · rw [getD_set_ne true hjk] at hun; exact hun
      have hlz' : ∀ c ∈ C, (listed.setIfInBounds j true).getD c true = false := fun c hc => by
        have hjc : j ≠ c := fun e => hjC (by rw [e]; exact hc)
        rw [getD_set_ne true hjc]; exact hlz c hc
      have hlz2 : ((listed.setIfInBounds i true).setIfInBounds j true).getD z true = false := by rw [getD_set_ne true hjz, getD_set_ne true hiz]; exact hlz z hzC
      refine wpOp_mono (fun a' w' h3 => ⟨fun _ => h3.2.1 hlz2, ih (listed.setIfInBounds j true) a' w' hlz' hfree' (ready_mono hr (Ne.symm hji)) h3.1 (h3.2.1 hlz2) ?_⟩) h2
      rw [Array.setIfInBounds_comm _ _ hji]
      exact h3.2.2
def descC (md : Region.Mode) (ops : Array Oper) (i : Nat) : List Nat :=
  (List.range ops.size).foldl (fun acc k => if (i :: acc).any fun d => Region.waitsFor md ops k d then k :: acc else acc) []
def chainC (md : Region.Mode) (ops : Array Oper) (listed : Array Bool) (C : List Nat) (z i : Nat) : Bool :=
  C.contains z && !C.contains i && C.all fun c => !listed.getD c true && (i :: C).any fun d => Region.waitsFor md ops c d
end
section
variable {P : Program} {l : List Oper} {Q : Exit → Act → World → Prop} {md : Region.Mode} {z : Nat} {F : World → Prop}
theorem takeC (i : Nat) {oi : Oper} {v : Value} {fuel : Nat} {listed : Array Bool} {a : Act} {w : World} {l' : List Oper} (hd : l.drop i = oi :: l')
    (hs : Region.noSelect l.toArray = true) (hf : Region.free md l.toArray listed i = true) (hr : (Region.ready md l.toArray listed).contains i = true) (hz : chainC md l.toArray listed (descC md l.toArray i) z i = true)
    (hQ : ∀ c a w, Q (.panic c) (a.put oi.dst v) w → Q (.panic c) a w) (hS : F w) (hw : Region.wanted oi (yielded l.toArray a.tmps) = true) (hy : ∀ w, F w → (execOp a.eval oi).run P w = .ok (.value v) w)
    (h : wpAnyZ P md l.toArray Q z F fuel (listed.setIfInBounds i true) (a.put oi.dst v) w) : wpAnyZ P md l.toArray Q z F (fuel + 1) listed a w := by
  simp only [chainC, Bool.and_eq_true, Bool.not_eq_true', List.all_eq_true, List.any_eq_true] at hz
  obtain ⟨⟨h1, h2⟩, h3⟩ := hz
  refine wpAnyZ_firstC (C := descC md l.toArray i) (at_drop hd) (Region.noSelect_spec hs) hQ (by simpa using h1) (by simpa using h2) (fun c hc => ?_) fuel listed a w (fun c hc => (h3 c hc).1) (Region.free_spec (at_drop hd) hf) (by simpa using hr) (.inl ⟨hw, hy⟩) hS h
  obtain ⟨-, d, hd', hwt⟩ := h3 c hc
  obtain ⟨oz, hoz, e, he, hb, heq⟩ := Region.waitsFor_spec hwt
  refine ⟨oz, hoz, e, he, hb, ?_⟩
  rw [heq]
  rcases List.mem_cons.1 hd' with h | h
  · exact .inl h
  · exact .inr h
end
section
variable {P : Program} {ops : Array Oper} {Q : Exit → Act → World → Prop} {md : Region.Mode} {z : Nat} {F : World → Prop}
end
section
variable {P : Program} {l : List Oper} {Q : Exit → Act → World → Prop} {md : Region.Mode} {z : Nat} {F : World → Prop}
end
end Go.Proofs.YtahnhblodfdfhaaDoor
namespace Go.Proofs.YtahnhblodfdfhaaDoor
open Go.RowKit
theorem take_sl {w : World} {A : Option Addr} {n cap k : Nat} {l : List Int} (h : IS w A cap l) (hn : l.length = n) (hk : k ≤ n) :
    ∃ A', (∀ w', (Instr.sliceAt 33 (.slice A n cap) none (some (.int .i64 (k : Int))) none).run Tryd.prog w' = .ok (.slice A' k cap) w') ∧ IS w A' cap (l.take k) ∧ ∀ b, b ∈ fpA A' → b ∈ fpA A := by
  have hS : Sl w 3 1 A n cap (ints l) := by have := h; unfold IS at this; rw [hn] at this; exact this
  obtain ⟨A', h1, h2, h3⟩ := hS.sliced (P := Tryd.prog) 33 Tryd.underlying33 info_int none (some (.int .i64 (k : Int))) none 0 k cap (optNone rfl) (optSome rfl) (optNone rfl) (Nat.zero_le _) hk (by have := hS.2.1; omega) (Nat.le_refl _)
  refine ⟨A', h1, ?_, h3⟩
  have hlk : (l.take k).length = k := by rw [List.length_take, hn]; omega
  unfold IS
  rw [hlk]
  have e : ints (l.take k) = ((ints l).drop (0 * 1)).take ((k - 0) * 1) := by simp [ints, List.map_take]
  rw [e]
  exact h2
theorem drop_sl {w : World} {A : Option Addr} {n cap k r : Nat} {l : List Int} (h : IS w A cap l) (hn : l.length = n) (hk : n = k + r) :
    ∃ A' c', (∀ w', (Instr.sliceAt 33 (.slice A n cap) (some (.int .i64 (k : Int))) none none).run Tryd.prog w' = .ok (.slice A' r c') w') ∧ IS w A' c' (l.drop k) ∧ ∀ b, b ∈ fpA A' → b ∈ fpA A := by
  have hS : Sl w 3 1 A n cap (ints l) := by have := h; unfold IS at this; rw [hn] at this; exact this
  obtain ⟨A', h1, h2, h3⟩ := hS.sliced (P := Tryd.prog) 33 Tryd.underlying33 info_int (some (.int .i64 (k : Int))) none none k n cap (optSome rfl) (optNone ⟨rfl, rfl⟩) (optNone rfl) (by omega) (Nat.le_refl _) (by have := hS.2.1; omega) (Nat.le_refl _)
  have hr : n - k = r := by omega
  rw [hr] at h1 h2
  refine ⟨A', cap - k, h1, ?_, h3⟩
  have hlk : (l.drop k).length = r := by rw [List.length_drop, hn]; omega
  unfold IS
  rw [hlk]
  have e : ints (l.drop k) = ((ints l).drop (k * 1)).take (r * 1) := by
    rw [List.take_of_length_le (by rw [List.length_drop, ints_length, hn]; omega)]
    simp [ints, List.map_drop]
  rw [e]
  exact h2
end Go.Proofs.YtahnhblodfdfhaaDoor
namespace Go.Proofs.YtahnhblodfdfhaaDoor
open Go.RowKit
theorem IS.ne_out {w : World} {A B : Option Addr} {c n cap : Nat} {l : List Int} {xs : List Value} (h : IS w A c l) (h' : Sl w 33 1 B n cap xs) : ∀ x, x ∈ fpA A → x ∉ fpA B := by
  intro x hx hx'
  rcases h.2.2.2 with ⟨rfl, _⟩ | ⟨g, off, cur, rfl, hg, _⟩
  · simp at hx
  rcases h'.2.2.2 with ⟨rfl, _⟩ | ⟨g', off', cur', rfl, hg', _⟩
  · simp at hx'
  simp at hx hx'
  subst hx
  subst hx'
  rw [hg] at hg'
  injection hg' with hg'
  injection hg' with _ h2 _
  exact absurd h2 (by decide)
structure RwI (w0 w : World) (A : Option Addr) (cap : Nat) (hs : List Hd) : Prop where
  sl : Sl w 33 1 A hs.length cap (hs.map Hd.val)
  rows : ∀ x, x ∈ hs → IS w x.1 x.2.1 x.2.2
  new : ∀ b, b ∈ fpA A → w0.heap.size ≤ b
  below_ : Below w0.heap.size w0 w
theorem RwI.nil (w0 w : World) (hb : Below w0.heap.size w0 w) : RwI w0 w none 0 [] := ⟨Sl.nil _ _ _, fun x hx => (by cases hx), fun b hb' => (by simp at hb'), hb⟩
theorem RwI.below {w0 w w' : World} {A : Option Addr} {cap : Nat} {hs : List Hd} (h : RwI w0 w A cap hs) (hb : Below w.heap.size w w') : RwI w0 w' A cap hs :=
  ⟨h.sl.below hb, fun x hx => (h.rows x hx).below hb, h.new, below_trans h.below_ hb h.below_.size⟩
theorem RwI.rdr {w0 w : World} {A : Option Addr} {cap : Nat} {hs : List Hd} (h : RwI w0 w A cap hs) : RdR w A hs :=
  ⟨fun i x hi => by obtain ⟨ad, hA, _, hc, _⟩ := h.sl.cell (j := i) (u := x.val) (by simp [hi]); exact ⟨ad, hA, by simpa using hc⟩, fun x hx => (h.rows x hx).rd⟩
theorem RwI.app {w0 w w1 w2 : World} {A : Option Addr} {cap : Nat} {hs ys : List Hd} (h : RwI w0 w A cap hs) (hb : Below w.heap.size w w1) (hy : ∀ x, x ∈ ys → IS w1 x.1 x.2.1 x.2.2) {A' : Option Addr} {cap' n : Nat} (hn : n = hs.length + ys.length) (hs' : Sl w2 33 1 A' n cap' (hs.map Hd.val ++ ys.map Hd.val)) (hA' : ∀ b, b ∈ fpA A' → b ∈ fpA A ∨ w1.heap.size ≤ b) (hk : Keeps (· ∈ fpA A) w1 w2) : RwI w0 w2 A' cap' (hs ++ ys) := by
  subst hn
  have h1 := h.below hb
  refine ⟨by rw [List.length_append, List.map_append]; exact hs', fun x hx => ?_, fun b hb' => ?_, below_keeps h1.below_ hk h1.below_.size h.new⟩
  · rcases List.mem_append.1 hx with hx | hx
    · exact (h1.rows x hx).keeps hk ((h1.rows x hx).ne_out h1.sl)
    · exact (hy x hx).keeps hk ((hy x hx).ne_out h1.sl)
  · rcases hA' b hb' with h2 | h2
    · exact h.new b h2
    · have := h1.below_.size; omega
theorem mem_edWd {es : List Eg} {e : Eg} (he : e ∈ es) {x : Int} (hx : x ∈ e.2.2.1 ++ e.2.2.2) : x ∈ edW es := by
  induction es with
  | nil => cases he
  | cons a r ih =>
    unfold edW
    rcases List.mem_cons.1 he with rfl | he
    · rcases List.mem_append.1 hx with h | h
      · exact List.mem_append_left _ h
      · exact List.mem_append_right _ (List.mem_append_left _ h)
    · exact List.mem_append_right _ (List.mem_append_right _ (ih he))
structure DnOk (p : Int) (g : Gr) : Prop where
  fld : fieldB p = true
  lo : 0 ≤ g.1
  hi : g.1 ≤ 100
  len : g.2.1.length ≤ 60
  li : g.2.2.1.length ≤ 12
  lo' : g.2.2.2.length ≤ 12
  ends : ∀ x, x ∈ g.2.2.1 ++ g.2.2.2 → 0 ≤ x ∧ x < g.1
  edge : ∀ e, e ∈ g.2.1 → (3 ≤ e.1 ∧ e.1 ≤ 14) ∧ ((e.2.2.1.length : Int), (e.2.2.2.length : Int)) = kindTy e.1 ∧ (∀ x, x ∈ e.2.2.1 ++ e.2.2.2 → 0 ≤ x ∧ x < g.1) ∧ 0 ≤ e.2.1 ∧ e.2.1 < p ∧ e.1 ≠ 8 ∧ e.1 ≠ 14
theorem DnOk.of {p : Int} {g : Gr} (h : dnAskB p g = true) : DnOk p g := by
  unfold dnAskB gOverB grB at h
  simp only [Bool.and_eq_true, List.all_eq_true, decide_eq_true_eq] at h
  obtain ⟨⟨h1, ⟨⟨h2, h3, h4, h5⟩, h6, h7, _⟩, h8⟩, h9⟩ := h
  unfold t_inB at h2
  have h2 := of_decide_eq_true h2
  have hw := inW_iff.1 h7
  refine ⟨h1, h2.1, h2.2, h3, h4, h5, fun x hx => hw x ?_, fun e he => ?_⟩
  · unfold t_allW
    rcases List.mem_append.1 hx with h | h
    · exact List.mem_append_left _ h
    · exact List.mem_append_right _ (List.mem_append_left _ h)
  · have h10 := h6 e he
    unfold egB at h10
    simp only [Bool.and_eq_true, decide_eq_true_eq] at h10
    obtain ⟨k1, k2, k3⟩ := h10
    unfold t_inB at k1
    have k1 := of_decide_eq_true k1
    have h11 := h9 e he
    unfold noDl at h11
    simp only [Bool.and_eq_true, decide_eq_true_eq] at h11
    refine ⟨k1, k3, fun x hx => hw x ?_, ?_, h8 e he, h11.1, h11.2⟩
    · unfold t_allW
      exact List.mem_append_right _ (List.mem_append_right _ (mem_edWd he hx))
    · unfold gvB at k2
      split at k2
      · unfold t_inB at k2
        exact (of_decide_eq_true k2).1
      · have := of_decide_eq_true k2; omega
theorem dnRowsM_len (p : Int) (n : Nat) (e : Eg) : (dnRowsM p n e).length ≤ 2 := by
  unfold dnRowsM
  repeat' split
  all_goals simp
theorem dnRowsM_mat {p : Int} (hp : 0 < p) (n : Nat) (e : Eg) : ∀ v, v ∈ dnRowsM p n e → v.length = n ∧ Res p v := by
  have h : ∀ a b, (sprV p n a b).length = n ∧ Res p (sprV p n a b) := fun a b => ⟨sprTo_length _ _ _ _ _, sprTo_res hp _ _ _ _⟩
  intro v hv
  unfold dnRowsM at hv
  split at hv
  · simp only [List.mem_cons, List.not_mem_nil, or_false] at hv
    rcases hv with rfl | rfl <;> exact h _ _
  · split at hv
    · simp only [List.mem_cons, List.not_mem_nil, or_false] at hv
      subst hv; exact h _ _
    · split at hv
      · simp only [List.mem_cons, List.not_mem_nil, or_false] at hv
        subst hv; exact h _ _
      · split at hv
        · simp only [List.mem_cons, List.not_mem_nil, or_false] at hv
          subst hv; exact h _ _
        · cases hv
theorem eqs_mat {p : Int} (hp : 0 < p) (n : Nat) (es : List Eg) : Mat p (es.flatMap (dnRowsM p n)).length n (es.flatMap (dnRowsM p n)) := ⟨rfl, fun v hv => by
  obtain ⟨e, _, hv⟩ := List.mem_flatMap.1 hv
  exact dnRowsM_mat hp n e v hv⟩
theorem rdc_vals {w : World} {A : Option Addr} {hs : List Hd} (h : RdR w A hs) : RdC w A (hs.map Hd.val) := fun j u hj => by
  rw [List.getElem?_map] at hj
  cases hx : hs[j]? with
  | none => rw [hx] at hj; cases hj
  | some x =>
    rw [hx] at hj
    obtain rfl : x.val = u := by simpa using hj
    exact h.1 j x hx
theorem vals_one (hs : List Hd) : ∀ u ∈ hs.map Hd.val, u.oneCell' = true := fun u hu => by
  obtain ⟨x, _, rfl⟩ := List.mem_map.1 hu
  exact Hd.val_one x
set_option maxRecDepth 100000 in
set_option maxHeartbeats 2000000 in
theorem dnValues_any (p : Int) {v : Value} {g : Gr} (w : World) (h : RdGr w v g) (ok : OkG g) (hd : DnOk p g) :
    Calls Tryd.prog 174 #[.int .i64 p, v] w (RetSS w (nullM p g.1.toNat (dnEqs p g))) := by
  obtain ⟨A, c, hs, ⟨B, b, s⟩, ⟨C, d, t⟩, rfl, e1, e2, e3, hE, hRa, hRb⟩ := id h
  obtain ⟨z, es, s0, t0⟩ := g
  have a1 : es = hs.map egOf := e1
  have a2 : s = s0 := e2
  have a3 : t = t0 := e3
  subst a2 a3
  clear e1 e2 e3
  obtain ⟨m, hm⟩ : ∃ m, m = hs.length := ⟨_, rfl⟩
  have hmes : es.length = m := by rw [a1, List.length_map, hm]
  have hm20 : m ≤ 1048576 := by rw [← hmes]; exact ok.1.1
  change RdGr w (.agg #[.int .i64 z, .slice A hs.length c, .slice B s.length b, .slice C t.length d]) (z, es, s, t) at h
  show Calls Tryd.prog _ #[.int .i64 p, .agg #[.int .i64 z, .slice A hs.length c, .slice B s.length b, .slice C t.length d]] w _
  rw [← hm] at h ⊢
  obtain ⟨W, hW, bW, k0⟩ := (⟨_, rfl, below_alloc _ _, heap_alloc_new _ _⟩ : ∃ W, W = w.alloc (.cells #[.int .i64 z, .slice A m c, .slice B s.length b, .slice C t.length d] tGr) ∧ Below w.heap.size w W ∧ W.heap[w.heap.size]? = some (.cells #[.int .i64 z, .slice A m c, .slice B s.length b, .slice C t.length d] tGr))
  obtain ⟨⟨c0, c1, c2, c3⟩, f0, f1, f2, f3⟩ := box4 k0
  obtain ⟨n, hn⟩ : ∃ n, n = z.toNat := ⟨_, rfl⟩
  have hz0 : 0 ≤ z := hd.lo
  have hz1 : z ≤ 100 := hd.hi
  have hzn : z = (n : Int) := by omega
  have hpb := fieldB_bounds hd.fld
  have hes60 : m ≤ 60 := by rw [← hmes]; exact hd.len
  have hedge : ∀ e, e ∈ es → (3 ≤ e.1 ∧ e.1 ≤ 14) ∧ ((e.2.2.1.length : Int), (e.2.2.2.length : Int)) = kindTy e.1 ∧ (∀ x, x ∈ e.2.2.1 ++ e.2.2.2 → 0 ≤ x ∧ x < (n : Int)) ∧ 0 ≤ e.2.1 ∧ e.2.1 < p := fun e he => by
    obtain ⟨x1, x2, x3, x4, x5, _⟩ := hd.edge e he
    exact ⟨x1, x2, fun x hx => by rw [← hzn]; exact x3 x hx, x4, x5⟩
  have hmat := eqs_mat (p := p) (by omega) n es
  obtain ⟨X, hX⟩ : ∃ X, X = es.flatMap (dnRowsM p n) := ⟨_, rfl⟩
  rw [← hX] at hmat
  have hXE : dnEqs p (z, es, s, t) = X := by rw [hX, hn]; rfl
  rw [hXE]
  show Calls Tryd.prog _ _ w (RetSS w (nullM p z.toNat X))
  rw [← hn]
  have hE0 := hE.below bW
  have hfld := hd.fld
  have hN0 := RwI.nil W W (Below.refl _ _)
  have hn100 : n ≤ 100 := by omega
  clear h hd ok hE hRa hRb hz0 hz1
  subst hzn
  clear hn; have hm_h := Lib.hid hm; have hmes_h := Lib.hid hmes; have a1_h := Lib.hid a1; have hE0_h := Lib.hid hE0; have k0_h := Lib.hid k0; have bW_h := Lib.hid bW; have hedge_h := Lib.hid hedge; have hmat_h := Lib.hid hmat; have hX_h := Lib.hid hX; have hfld_h := Lib.hid hfld; have hN0_h := Lib.hid hN0; have hpb_h := Lib.hid hpb; clear hm hmes a1 hE0 k0 bW hedge hmat hX hfld hN0 hpb
  go_enter Tryd.func174, Tryd.ntmps174
  go_upto_region 1 with (fail)
  rw [← hW]
  clear hW
  go_wp2_with (fail)
  clear c0 c1 c2 c3 f0 f1 f2 f3
  go_loopw [11, 5] (fun i v wr => ∃ (k : Nat) (A' : Option Addr) (c' : Nat) (ys : List Hd) (q : Nat), k ≤ m ∧ i = .int .i64 k ∧ v = .slice A' q c' ∧ ys.length = q ∧ q ≤ 2 * k ∧ ys.map (fun h : Hd => h.2.2) = (es.take k).flatMap (dnRowsM p n) ∧ RwI W wr A' c' ys) (fun i _ _ => m - (intOf i).toNat)
  case atStart => exact ⟨0, none, 0, [], 0, Nat.zero_le _, rfl, rfl, rfl, Nat.zero_le _, rfl, hN0_h.out⟩
  case round =>
    clear hN0_h
    obtain ⟨k, A', c', ys, q, hk, rfl, rfl, hyl, hq2, hym, hO⟩ := hrel
    obtain ⟨wo, rfl⟩ : ∃ x, x = wr := ⟨_, rfl⟩
    have hbr := hO.below_
    by_cases hlt : k < m
    · obtain ⟨ad, κ, v, B', b', l, C', e', mm, rfl, hx, ⟨d0, d1, d2, d3⟩, hrl, hrm⟩ := (hE0_h.out.below hbr).at_ (j := k) (by rw [← hm_h.out]; exact hlt)
      have hxe : es[k]? = some (κ, v, l, mm) := by rw [a1_h.out, List.getElem?_map, hx]; rfl
      have hkI : (k : Int) < (m : Int) := by omega
      obtain ⟨x1, x2, x3, x4, x5⟩ := hedge_h.out _ (List.mem_of_getElem? hxe)
      obtain ⟨wN, hwN⟩ : ∃ wN, wN = wo.alloc (.cells #[.int .i64 κ, .int .i64 v, .slice B' l.length b', .slice C' mm.length e'] tEd) := ⟨_, rfl⟩
      have hbN : Below wo.heap.size wo wN := by rw [hwN]; exact below_alloc _ _
      have kN : wN.heap[wo.heap.size]? = some (.cells #[.int .i64 κ, .int .i64 v, .slice B' l.length b', .slice C' mm.length e'] tEd) := by rw [hwN]; exact heap_alloc_new _ _
      have hC := dnRows_any p n κ v B' C' b' e' l mm wN (hrl.below hbN) (hrm.below hbN) x1 x2 x3 x4 x5 hpb_h.out.1 hpb_h.out.2 (by omega)
      have hkt : (es.take (k + 1)).flatMap (dnRowsM p n) = (es.take k).flatMap (dnRowsM p n) ++ dnRowsM p n (κ, v, l, mm) := by rw [List.take_add_one, hxe]; simp
      have hR2 := dnRowsM_len p n (κ, v, l, mm)
      obtain ⟨L, hL⟩ : ∃ L, L = dnRowsM p n (κ, v, l, mm) := ⟨_, rfl⟩
      rw [← hL] at hC hkt hR2
      obtain ⟨r, hr⟩ : ∃ r, r = L.length := ⟨_, rfl⟩
      unfold RetRc at hC
      rw [← hr] at hC hR2
      have k0r := box_below (box_below k0_h.out hbr) hbN
      obtain ⟨⟨c0, c1, c2, c3⟩, f0, f1, f2, f3⟩ := box4 k0r
      obtain ⟨⟨g0, g1, g2, g3⟩, j0, j1, j2, j3⟩ := box4 kN
      have k0w := box_below k0_h.out hbr
      clear hx hrl hrm x1 x2 x3 x4 x5 hL k0r; have hC_h := Lib.hid hC; have hkt_h := Lib.hid hkt; have hr_h := Lib.hid hr; have hbN_h := Lib.hid hbN; have kN_h := Lib.hid kN; have hxe_h := Lib.hid hxe; have hyl_h := Lib.hid hyl; have hym_h := Lib.hid hym; have hO_h := Lib.hid hO; have hbr_h := Lib.hid hbr; have k0w_h := Lib.hid k0w; clear hC hkt hr hbN kN hxe hyl hym hO hbr k0w
      go_upto_region 5 with (fail)
      rw [← hwN]
      clear hwN d0 d1 d2 d3
      go_wp2_with (fail)
      refine (hC_h.out).mono ?_
      rintro e w3 ⟨vr, rfl, ⟨A5, c5, hs5, rfl, hl5, hm5, hr5, hi5⟩, hb3⟩
      clear c0 c1 c2 c3 f0 f1 f2 f3 g0 g1 g2 g3 j0 j1 j2 j3
      have hba := below_trans hbN_h.out hb3 hbN_h.out.size
      have hsl : Sl w3 33 1 A' q c' (ys.map Hd.val) := by
        have := hO_h.out.sl.below hba
        rwa [hyl_h.out] at this
      have hnl : (hs5.map Hd.val).length = r * 1 := by rw [List.length_map, hl5, Nat.mul_one]
      have hrdc := rdc_vals hr5
      have hba_h := Lib.hid hba; have hsl_h := Lib.hid hsl; have hnl_h := Lib.hid hnl; have hrdc_h := Lib.hid hrdc; have hm5_h := Lib.hid hm5; have hi5_h := Lib.hid hi5; have hl5_h := Lib.hid hl5; have hb3_h := Lib.hid hb3; clear hba hsl hnl hrdc hm5 hi5 hl5 hb3; clear hr5
      go_wp2_with (at_builtin; refine wpList_append_Sl _ rfl _ _ _ rfl 33 Tryd.underlying22 info_ints rfl (by omega) rfl hsl_h.out rfl hnl_h.out hrdc_h.out (vals_one hs5) (by unfold maxLen; omega) (by omega) ?_; intro A3 c3' w5 hsA3 hA3 hkA3)
      have hO2 := hO_h.out.app hba_h.out (ys := hs5) hi5_h.out (n := q + r) (by rw [hyl_h.out, hl5_h.out]) hsA3 hA3 hkA3
      clear hsA3 hA3 hkA3; have hO2_h := Lib.hid hO2; clear hO2
      go_roundw
      case rel => exact ⟨k + 1, A3, c3', ys ++ hs5, q + r, by omega, by go_num, rfl, by rw [List.length_append, hyl_h.out, hl5_h.out], by omega, by rw [List.map_append, hym_h.out, hkt_h.out, hm5_h.out], hO2_h.out⟩
      case measure => simp [intOf]; omega
    · obtain rfl : m = k := by omega
      have hym2 : ys.map (fun h : Hd => h.2.2) = X := by rw [hym, List.take_of_length_le (by rw [hmes_h.out]; exact Nat.le_refl _), hX_h.out]
      have hXl : X.length = q := by rw [← hym2, List.length_map, hyl]
      have hC := spNull_any p n A' c' ys wo hO.rdr hfld_h.out (by rw [hym2, hyl]; have := hmat_h.out; rwa [hXl] at this) (by omega) (by omega)
      rw [hym2, hyl] at hC
      have k0r := box_below k0_h.out hbr
      obtain ⟨⟨c0, c1, c2, c3⟩, f0, f1, f2, f3⟩ := box4 k0r
      have hbf := below_trans bW_h.out hbr bW_h.out.size
      clear hym hO k0r hXl hym2 hyl hbr; have hC_h := Lib.hid hC; have hbf_h := Lib.hid hbf; clear hC hbf
      go_wp2_with (fail)
      refine (hC_h.out).mono ?_
      rintro e w1 hret
      obtain ⟨A1, c1', rfl, hO1⟩ := hret.om
      have hfin := hret.mono hbf_h.out
      go_wp2_with (fail)
      go_ret
      exact hfin
end Go.Proofs.YtahnhblodfdfhaaDoor
namespace Go.Proofs.YtahnhblodfdfhaaDoor
open Go.RowKit
theorem mapL_res {p : Int} (hp : 0 < p) {v l : List Int} (hv : Res p v) : Res p (mapL v l) := fun x hx => by
  unfold mapL at hx
  obtain ⟨y, _, rfl⟩ := List.mem_map.1 hx
  exact hv.getD hp _
set_option maxRecDepth 100000 in
set_option maxHeartbeats 4000000 in
theorem dnGraph_any (p : Int) {v : Value} {g : Gr} (w : World) (h : RdGr w v g) (ok : OkG g) :
    Calls Tryd.prog 147 #[.int .i64 p, v] w fun e w' => ∃ v' fp, e = .returned (.tuple #[v', .bool (dnGM p g).2]) ∧ OwSys w' v' (dnGM p g).1 fp ∧ FreshL w.heap.size fp ∧ Below w.heap.size w w' := by
  obtain ⟨A, c, hs, ⟨B, b, s⟩, ⟨C, d, t⟩, rfl, e1, e2, e3, hE, hRa, hRb⟩ := id h
  obtain ⟨z, es, s0, t0⟩ := g
  have a1 : es = hs.map egOf := e1
  have a2 : s = s0 := e2
  have a3 : t = t0 := e3
  subst a2 a3
  clear e1 e2 e3
  obtain ⟨m, hm⟩ : ∃ m, m = hs.length := ⟨_, rfl⟩
  have hmes : es.length = m := by rw [a1, List.length_map, hm]
  have hm20 : m ≤ 1048576 := by rw [← hmes]; exact ok.1.1
  change RdGr w (.agg #[.int .i64 z, .slice A hs.length c, .slice B s.length b, .slice C t.length d]) (z, es, s, t) at h
  show Calls Tryd.prog _ #[.int .i64 p, .agg #[.int .i64 z, .slice A hs.length c, .slice B s.length b, .slice C t.length d]] w _
  rw [← hm] at h ⊢
  obtain ⟨W, hW, bW, k0, k1⟩ := alloc2 w (.cells #[.int .i64 z, .slice A m c, .slice B s.length b, .slice C t.length d] tGr) (.cells #[.int .i64 0, .int .i64 0, .slice none 0 0] tRel)
  obtain ⟨⟨c0, c1, c2, c3⟩, f0, f1, f2, f3⟩ := box4 k0
  have hG := dnAsked_any p W (h.below bW) ok
  obtain ⟨D, hD⟩ : ∃ D, D = dnGM p (z, es, s, t) := ⟨_, rfl⟩
  rw [← hD]
  unfold dnGM at hD
  have hbz := box_lt k1
  by_cases hq : dnAskB p (z, es, s, t) = true
  · rw [hq] at hG
    rw [if_pos hq] at hD
    have hd := DnOk.of hq
    have hVA := fun W' (hb : Below w.heap.size w W') => dnValues_any p W' (h.below hb) ok hd
    obtain ⟨n, hn⟩ : ∃ n, n = z.toNat := ⟨_, rfl⟩
    have hz0 : 0 ≤ z := hd.lo
    have hz1 : z ≤ 100 := hd.hi
    have hzn : z = (n : Int) := by omega
    have hn100 : n ≤ 100 := by omega
    have hpb := fieldB_bounds hd.fld
    have hfld := hd.fld
    have hends : ∀ x, x ∈ s ++ t → 0 ≤ x ∧ x < (n : Int) := fun x hx => by rw [← hzn]; exact hd.ends x hx
    obtain ⟨a, ha⟩ : ∃ a, a = s.length := ⟨_, rfl⟩
    obtain ⟨bb, hbb⟩ : ∃ b, b = t.length := ⟨_, rfl⟩
    have ha12 : a ≤ 12 := by rw [ha]; exact hd.li
    have hb12 : bb ≤ 12 := by rw [hbb]; exact hd.lo'
    obtain ⟨K, hK⟩ : ∃ K, K = nullM p n (dnEqs p (z, es, s, t)) := ⟨_, rfl⟩
    have hKr := nullM_red (p := p) hd.fld n (dnEqs p (z, es, s, t))
    have hKl := red_len hKr
    have hKm := hKr.1
    rw [← hK] at hKl hKm
    obtain ⟨ends, hen⟩ : ∃ e, e = s ++ t := ⟨_, rfl⟩
    obtain ⟨N, hN⟩ : ∃ N, N = a + bb := ⟨_, rfl⟩
    have henl : ends.length = N := by rw [hen, List.length_append, hN, ha, hbb]
    have hmat : Mat p (K.map (mapL · ends)).length N (K.map (mapL · ends)) := by
      rw [List.length_map]
      exact hKm.map (f := (mapL · ends)) fun v _ hr => ⟨by rw [mapL_length, henl], mapL_res (by omega) hr⟩
    obtain ⟨R, hR⟩ : ∃ R, R = redM p N (K.map (mapL · ends)) := ⟨_, rfl⟩
    have hDV : dnV p (z, es, s, t) = ((a : Int), (bb : Int), R) := by
      unfold dnV
      show ((s.length : Int), (t.length : Int), redM p (s.length + t.length) ((nullM p z.toNat (dnEqs p (z, es, s, t))).map fun v => mapL v (s ++ t))) = _
      rw [← ha, ← hbb, ← hn, ← hK, ← hen, ← hN, ← hR]
    rw [hDV] at hD
    subst hD
    have hVA' : ∀ W', Below w.heap.size w W' → Calls Tryd.prog 174 #[.int .i64 p, .agg #[.int .i64 z, .slice A m c, .slice B a b, .slice C bb d]] W' (RetSS W' K) := by
      intro W' hb
      have h1 := hVA W' hb
      have e : nullM p ((z, es, s, t) : Gr).1.toNat (dnEqs p (z, es, s, t)) = K := by rw [hK, hn]
      rw [e, ← ha, ← hbb] at h1
      exact h1
    rw [← ha, ← hbb] at hG k0 ⊢
    simp only [← ha, ← hbb] at hW
    rw [← hen] at hends
    have hRa2 : RdI W B s := RdI.below hRa bW
    have hRb2 : RdI W C t := RdI.below hRb bW
    have hNI : (a : Int) + (bb : Int) = (N : Int) := by omega
    clear h hd ok hE hRa hRb hz0 hz1 hq hDV hVA hKr hK hmes a1 hm c0 c1 c2 c3 f0 f1 f2 f3
    subst hzn
    clear hn
    obtain ⟨⟨c0, c1, c2, c3⟩, f0, f1, f2, f3⟩ := box4 k0
    have hG_h := Lib.hid hG; have k0_h := Lib.hid k0; have k1_h := Lib.hid k1; have bW_h := Lib.hid bW; have hVA'_h := Lib.hid hVA'; have hpb_h := Lib.hid hpb; have hfld_h := Lib.hid hfld; have hends_h := Lib.hid hends; have ha_h := Lib.hid ha; have hbb_h := Lib.hid hbb; have hKl_h := Lib.hid hKl; have hKm_h := Lib.hid hKm; have hen_h := Lib.hid hen; have henl_h := Lib.hid henl; have hN_h := Lib.hid hN; have hmat_h := Lib.hid hmat; have hR_h := Lib.hid hR; have hRa2_h := Lib.hid hRa2; have hRb2_h := Lib.hid hRb2; have hNI_h := Lib.hid hNI; clear hG k0 k1 bW hVA' hpb hfld hends ha hbb hKl hKm hen henl hN hmat hR hRa2 hRb2 hNI
    go_enter Tryd.func147, Tryd.ntmps147
    go_upto_region 1 with (fail)
    rw [← hW]
    clear hW
    go_wp2_with (fail)
    refine (hG_h.out).mono ?_
    rintro e w1 ⟨rfl, hb1⟩
    clear c0 c1 c2 c3 f0 f1 f2 f3
    replace k0_h := Lib.hid (box_below k0_h.out hb1)
    replace k1_h := Lib.hid (box_below k1_h.out hb1)
    have hB1 := below_trans bW_h.out hb1 bW_h.out.size
    have hbd : Below w1.heap.size w1 w1.drew := below_drewN (Below.refl _ _) 1
    have hB1_h := Lib.hid hB1; have hb1_h := Lib.hid hb1; have hbd_h := Lib.hid hbd; clear hB1 hb1 hbd
    obtain ⟨⟨c0, c1, c2, c3⟩, f0, f1, f2, f3⟩ := box4 k0_h.out
    go_wp2_with (fail)
    clear c0 c1 c2 c3 f0 f1 f2 f3
    refine beginH (fun w' => w'.heap[w.heap.size]? = some (.cells #[.int .i64 (n : Int), .slice A m c, .slice B a b, .slice C bb d] tGr)) (by kernel_rfl) ?_
    replace k0_h := Lib.hid (box_below k0_h.out hbd_h.out)
    replace k1_h := Lib.hid (box_below k1_h.out hbd_h.out)
    refine takeH 0 (v := ?_) rfl (by kernel_rfl) (by kernel_rfl) (by kernel_rfl) (fun _ _ _ h => h) k0_h.out (by rfl) (fun W' hW' => ?_) ?_; rotate_left; · (obtain ⟨⟨y0, y1, y2, y3⟩, y4, y5, y6, y7⟩ := box4 hW'; clear hW'; go_simp; first | done | with_reducible rfl)
    simp only [Act.put, nS1, nS2, nS3]
    refine takeH 1 (v := ?_) rfl (by kernel_rfl) (by kernel_rfl) (by kernel_rfl) (fun _ _ _ h => h) k0_h.out (by rfl) (fun W' hW' => ?_) ?_; rotate_left; · (obtain ⟨⟨y0, y1, y2, y3⟩, y4, y5, y6, y7⟩ := box4 hW'; clear hW'; go_simp; first | done | with_reducible rfl)
    simp only [Act.put, nS1, nS2, nS3]
    refine takeH 3 (v := ?_) rfl (by kernel_rfl) (by kernel_rfl) (by kernel_rfl) (fun _ _ _ h => h) k0_h.out (by rfl) (fun W' hW' => ?_) ?_; rotate_left; · (obtain ⟨⟨y0, y1, y2, y3⟩, y4, y5, y6, y7⟩ := box4 hW'; clear hW'; go_simp; first | done | with_reducible rfl)
    simp only [Act.put, nS1, nS2, nS3]
    refine takeH 4 (v := ?_) rfl (by kernel_rfl) (by kernel_rfl) (by kernel_rfl) (fun _ _ _ h => h) k0_h.out (by rfl) (fun W' hW' => ?_) ?_; rotate_left; · (obtain ⟨⟨y0, y1, y2, y3⟩, y4, y5, y6, y7⟩ := box4 hW'; clear hW'; go_simp; first | done | with_reducible rfl)
    simp only [Act.put, nS1, nS2, nS3]
    refine' callH 2 (f := _) (args := _) rfl (by kernel_rfl) (by rfl) ?_ ?_; rotate_left 2; · (go_simp; first | done | with_reducible rfl | (constructor <;> with_reducible rfl))
    have hbW2 := below_trans hb1_h.out hbd_h.out hb1_h.out.size
    have hOw := l1Own_any B b s w1.drew (hRa2_h.out.below hbW2) (by have := ha_h.out; omega)
    rw [← ha_h.out] at hOw
    refine (hOw).mono ?_
    rintro e w2 ⟨Ao, co, rfl, hio, hfo, hb2⟩
    rw [← ha_h.out]
    replace k0_h := Lib.hid (box_below k0_h.out hb2)
    replace k1_h := Lib.hid (box_below k1_h.out hb2)
    refine ⟨_, rfl, k0_h.out, ?_⟩
    simp only [Act.put, nS1, nS2, nS3]
    have hso : Sl w2 3 1 Ao a co (ints s) := by have := hio; unfold IS at this; rw [← ha_h.out] at this; exact this
    have hrt := (hRb2_h.out.below (below_trans hbW2 hb2 hbW2.size)).rdc
    have hlt2 : (ints t).length = bb * 1 := by rw [ints_length, ← hbb_h.out, Nat.mul_one]
    have hB2 := below_trans hB1_h.out (below_trans hbd_h.out hb2 hbd_h.out.size) hB1_h.out.size
    have hbz1 := hb1_h.out.size
    have hz12 : w1.heap.size ≤ w2.heap.size := Nat.le_trans hbd_h.out.size hb2.size
    clear hOw hbW2 hio; have hso_h := Lib.hid hso; have hrt_h := Lib.hid hrt; have hlt2_h := Lib.hid hlt2; have hB2_h := Lib.hid hB2; have hfo_h := Lib.hid hfo; have hb2_h := Lib.hid hb2; clear hso hrt hlt2 hB2 hfo hb2
    refine appH 5 rfl (by kernel_rfl) (by rfl) _ _ _ rfl tInt Tryd.underlying33 info_int rfl (by omega) rfl hso_h.out rfl hlt2_h.out hrt_h.out (ints_one t) (by unfold maxLen; omega) (by omega) ?_
    intro A7 c7 w7 hsA7 hA7 hkA7
    have hf7 : ∀ b, b ∈ fpA Ao → w1.heap.size ≤ b := fun b hb => Nat.le_trans hbd_h.out.size (hfo_h.out b hb)
    have k07 := box_keeps k0_h.out hkA7 (fun h => by have := hf7 _ h; omega)
    have k17 := box_keeps k1_h.out hkA7 (fun h => by have := hf7 _ h; omega)
    have hB7 := below_keeps hB2_h.out hkA7 hB2_h.out.size (fun b hb => by have := hf7 b hb; have := hB1_h.out.size; omega)
    have hI7 : IS w7 A7 c7 ends := by
      unfold IS
      rw [henl_h.out, hN_h.out, hen_h.out]
      have e : ints (s ++ t) = ints s ++ ints t := by simp [ints]
      rw [e]; exact hsA7
    have hN12 : a + bb = N := hN_h.out.symm
    rw [hN12]
    have hz17 : w1.heap.size ≤ w7.heap.size := Nat.le_trans hz12 hkA7.size
    clear hsA7 hA7 hkA7 hN12 hf7; have k07_h := Lib.hid k07; have k17_h := Lib.hid k17; have hB7_h := Lib.hid hB7; have hI7_h := Lib.hid hI7; clear k07 k17 hB7 hI7
    refine ⟨k07_h.out, ?_⟩
    simp only [Act.put, nS1, nS2, nS3]
    refine takeH 6 (v := ?_) rfl (by kernel_rfl) (by kernel_rfl) (by kernel_rfl) (fun _ _ _ h => h) k07_h.out (by rfl) (fun W' hW' => ?_) ?_; rotate_left; · (skip; clear hW'; go_simp; first | done | with_reducible rfl)
    simp only [Act.put, nS1, nS2, nS3]
    refine doneH (by kernel_rfl) ?_
    obtain ⟨⟨c0, c1, c2, c3⟩, f0, f1, f2, f3⟩ := box4 k07_h.out
    have hVA1 := hVA'_h.out w7 hB7_h.out
    have hVA1_h := Lib.hid hVA1; clear hVA1
    go_wp2_with (fail)
    refine (hVA1_h.out).mono ?_
    rintro e w8 hret
    obtain ⟨A5, c5, rfl, hK5⟩ := hret.om
    obtain ⟨hsK, hKL, hKR⟩ := hK5.rdr
    obtain ⟨kk, hkk⟩ : ∃ kk, kk = K.length := ⟨_, rfl⟩
    rw [← hkk]
    have hk100 : kk ≤ 100 := by rw [hkk]; have := hKl_h.out; omega
    have hb8 := hK5.below_
    have hI8 := hI7_h.out.below hb8
    have hN0 := RdO.nil w8 w8 (Below.refl _ _)
    have k08 := box_below k07_h.out hb8
    have k18 := box_below k17_h.out hb8
    have hB8 := below_trans hB7_h.out hb8 hB7_h.out.size
    have hz8 := hb8.size
    have hsKl : hsK.length = kk := by rw [hkk, hKL, List.length_map]
    clear hret c0 c1 c2 c3 f0 f1 f2 f3 hK5 hb8; have hKL_h := Lib.hid hKL; have hKR_h := Lib.hid hKR; have hkk_h := Lib.hid hkk; have hI8_h := Lib.hid hI8; have hN0_h := Lib.hid hN0; have k08_h := Lib.hid k08; have k18_h := Lib.hid k18; have hB8_h := Lib.hid hB8; have hsKl_h := Lib.hid hsKl; clear hKL hKR hkk hI8 hN0 k08 k18 hB8 hsKl
    go_wp2_with (fail)
    go_loopw [25, 7] (fun i v wr => ∃ (k : Nat) (A' : Option Addr) (c' : Nat) (ys : List Hd) (q : Nat), k ≤ kk ∧ i = .int .i64 k ∧ q = k ∧ v = .slice A' q c' ∧ ys.length = q ∧ ys.map (fun h : Hd => h.2.2) = (K.take k).map (mapL · ends) ∧ RdO w8 wr A' c' ys) (fun i _ _ => kk - (intOf i).toNat)
    case atStart => exact ⟨0, none, 0, [], 0, Nat.zero_le _, rfl, rfl, rfl, rfl, rfl, hN0_h.out⟩
    case round =>
      clear hN0_h
      obtain ⟨k, A', c', ys, q0, hk, rfl, hq0, rfl, hyl, hym, hO⟩ := hrel
      obtain ⟨wo, rfl⟩ : ∃ x, x = wr := ⟨_, rfl⟩
      have hbo := hO.below_
      by_cases hlt : k < kk
      · have hkI : (k : Int) < (kk : Int) := by omega
        have hq100 : q0 ≤ 100 := by omega
        obtain ⟨ad, Bk, dk, u, rfl, hx, hcu, hrd⟩ := (hKR_h.out.below hbo).at_ (k := k) (by rw [hsKl_h.out]; exact hlt)
        have hKk : K[k]? = some u := by rw [hKL_h.out, List.getElem?_map, hx]; rfl
        have hul := (hKm_h.out.row u (List.mem_of_getElem? hKk)).1
        rw [hul] at hcu
        have hC := hgList_any A7 Bk c7 dk N n ends u wo (hI8_h.out.below hbo).rd hrd henl_h.out hul hends_h.out (by have := hN_h.out; omega)
        have hKt : (K.take (k + 1)).map (mapL · ends) = (K.take k).map (mapL · ends) ++ [mapL u ends] := by rw [List.take_add_one, hKk, List.map_append]; rfl
        have hrl : (mapL u ends).length = N := by rw [mapL_length, henl_h.out]
        clear hx hrd hKk hul; have hC_h := Lib.hid hC; have hKt_h := Lib.hid hKt; have hrl_h := Lib.hid hrl; have hyl_h := Lib.hid hyl; have hym_h := Lib.hid hym; have hO_h := Lib.hid hO; have hbo_h := Lib.hid hbo; have hq0_h := Lib.hid hq0; clear hC hKt hrl hyl hym hO hbo hq0
        go_wp2_with (fail)
        refine (hC_h.out).mono ?_
        rintro e w9 ⟨A8, c8, rfl, hOI⟩
        have hal := below_alloc w9 (.cells #[.slice A8 N c8] 33)
        have hba := below_trans hOI.below_ hal hOI.below_.size
        have hsl : Sl (w9.alloc (.cells #[.slice A8 N c8] 33)) 33 1 A' q0 c' (ys.map Hd.val) := by
          have := (hO_h.out.sl.below hOI.below_).alloc (.cells #[.slice A8 N c8] 33)
          rwa [hyl_h.out] at this
        have hI9 := hOI.is.below hal
        have hf9 := hOI.new
        clear hOI hcu; have hal_h := Lib.hid hal; have hba_h := Lib.hid hba; have hsl_h := Lib.hid hsl; have hI9_h := Lib.hid hI9; have hf9_h := Lib.hid hf9; clear hal hba hsl hI9 hf9
        go_wp2_with (at_builtin; refine wpList_append_Sl _ rfl _ _ _ rfl 33 Tryd.underlying22 info_ints rfl (by omega) rfl (hsl_h.out) rfl (news := [.slice A8 N c8]) rfl (Sl.rdc (Sl.laid w9 33 1 1 #[.slice A8 N c8] (by unfold maxLen; omega) rfl)) (by intro u hu; simp at hu; subst hu; rfl) (by unfold maxLen; omega) (by omega) ?_; intro A9 c9 w10 hsA9 hA9 hkA9)
        have hO2 := hO_h.out.snoc hba_h.out (x := (A8, c8, mapL u ends)) hI9_h.out (fun b hb hb' => by
          have h1 := hO_h.out.sl.lt b hb'
          have h2 := hf9_h.out b hb
          omega) (by rw [hyl_h.out]) (by show Sl w10 _ 1 A9 (q0 + 1) c9 (ys.map Hd.val ++ [.slice A8 (mapL u ends).length c8]); rw [hrl_h.out]; exact hsA9) hA9 hkA9
        clear hsA9 hA9 hkA9; have hO2_h := Lib.hid hO2; clear hO2
        go_roundw
        case rel => exact ⟨k + 1, A9, c9, ys ++ [(A8, c8, mapL u ends)], q0 + 1, by omega, by go_num, by have := hq0_h.out; omega, rfl, by rw [List.length_append, hyl_h.out]; rfl, by rw [List.map_append, hym_h.out, hKt_h.out]; rfl, hO2_h.out⟩
        case measure => simp [intOf]; omega
      · obtain rfl : kk = k := by omega
        have hym2 : ys.map (fun h : Hd => h.2.2) = K.map (mapL · ends) := by rw [hym, List.take_of_length_le (by rw [hkk_h.out]; exact Nat.le_refl _)]
        have hC := rlOf_any p (a : Int) (bb : Int) N A' c' ys wo hO.rdr hfld_h.out hNI_h.out (by rw [hym2]; have := hmat_h.out; rwa [show (K.map (mapL · ends)).length = ys.length by rw [← hym2, List.length_map]] at this) (by omega) (by have := hN_h.out; omega)
        rw [hym2, ← hR_h.out, hyl] at hC
        have k0r := box_below k08_h.out hbo
        have k1r := box_below k18_h.out hbo
        have hBr := below_trans hB8_h.out hbo hB8_h.out.size
        have hz9 := hbo.size
        obtain ⟨⟨c0, c1, c2, c3⟩, f0, f1, f2, f3⟩ := box4 k0r
        clear hym hym2 hyl hO k0r; have hC_h := Lib.hid hC; have k1r_h := Lib.hid k1r; have hBr_h := Lib.hid hBr; have hq0_h := Lib.hid hq0; have hbo_h := Lib.hid hbo; clear hC k1r hBr hq0 hbo
        go_wp2_with (fail)
        refine (hC_h.out).mono ?_
        rintro e w11 ⟨v1, fp1, rfl, hO1, hf1, hb11⟩
        clear c0 c1 c2 c3 f0 f1 f2 f3
        obtain ⟨A1, n1', c1', rfl⟩ := hO1.shape
        have k1' := box_below k1r_h.out hb11
        have hB9 := below_trans hBr_h.out hb11 hBr_h.out.size
        obtain ⟨⟨d0, d1, d2⟩, g0, g1, g2⟩ := box3 k1'
        obtain ⟨s1, s2⟩ := set3 (a := .int .i64 (a : Int)) (b := .int .i64 (bb : Int)) (c := .slice A1 n1' c1') k1'
        have hB3 := below_keeps hB9 s2 hB9.size (fun k hk => by omega)
        have hBs := hBr_h.out.size
        have hO3 := hO1.keeps s2 (fun k hk e => by have := hf1 k hk; omega)
        have hf3 := hf1.mono hBs
        clear k1' hB9 hO1 hf1; have s1_h := Lib.hid s1; have s2_h := Lib.hid s2; have hO3_h := Lib.hid hO3; have hf3_h := Lib.hid hf3; have hB3_h := Lib.hid hB3; clear s1 s2 hO3 hf3 hB3
        go_wp2_with (fail)
        refine bodyPost_ret (results_cell_tmp rfl _ _ (w.heap.size + 1) _ _ (0, 0) _ rfl s1_h.out Tryd.underlying43 rfl (by kernel_rfl)) rfl ?_
        first | exact ⟨_, fp1, rfl, hO3_h.out, hf3_h.out, hB3_h.out⟩ | exact ⟨_, rfl, fp1, hO3_h.out, hf3_h.out, hB3_h.out⟩
  · have hq' : dnAskB p (z, es, s, t) = false := by simpa using hq
    rw [hq'] at hG
    rw [if_neg hq] at hD
    subst hD
    clear hq hq' ok h hE hRa hRb; have hG_h := Lib.hid hG; have k0_h := Lib.hid k0; have k1_h := Lib.hid k1; have bW_h := Lib.hid bW; have hm_h := Lib.hid hm; have hmes_h := Lib.hid hmes; have a1_h := Lib.hid a1; clear hG k0 k1 bW hm hmes a1
    go_enter Tryd.func147, Tryd.ntmps147
    go_upto_region 1 with (fail)
    rw [← hW]
    clear hW
    go_wp2_with (fail)
    refine (hG_h.out).mono ?_
    rintro e w1 ⟨rfl, hb1⟩
    clear c0 c1 c2 c3 f0 f1 f2 f3
    replace k1_h := Lib.hid (box_below k1_h.out hb1)
    have hB1 := below_trans bW_h.out hb1 bW_h.out.size
    have hz1 := hb1.size
    obtain ⟨⟨d0, d1, d2⟩, g0, g1, g2⟩ := box3 k1_h.out
    obtain ⟨s1, s2⟩ := set3 (a := .int .i64 0) (b := .int .i64 0) (c := .slice none 0 0) k1_h.out
    have hB3 := below_keeps hB1 s2 hB1.size (fun k hk => by omega)
    clear hB1 hb1; have s1_h := Lib.hid s1; have s2_h := Lib.hid s2; have hB3_h := Lib.hid hB3; clear s1 s2 hB3
    go_wp2_with (fail)
    refine bodyPost_ret (results_cell_tmp rfl _ _ (w.heap.size + 1) _ _ (0, 0) _ rfl s1_h.out Tryd.underlying43 rfl (by kernel_rfl)) rfl ?_
    first | exact ⟨_, [], rfl, OwSys.zero _ 0 0, FreshL.nil _, hB3_h.out⟩ | exact ⟨_, rfl, [], OwSys.zero _ 0 0, FreshL.nil _, hB3_h.out⟩
end Go.Proofs.YtahnhblodfdfhaaDoor
namespace Go.Proofs.YtahnhblodfdfhaaDoor
open Go.RowKit
abbrev tMat : TypeId := 91
def OMx (w0 : World) (bx : Nat) (w : World) (A : Option Addr) (cap : Nat) (L : List (List Int)) : Prop :=
  ∃ hs : List Hd, L = hs.map (fun h : Hd => h.2.2) ∧ OwR w A cap hs ∧ (∀ b, b ∈ fpA A ++ fpR hs → w0.heap.size ≤ b ∧ b ≠ bx) ∧ Below w0.heap.size w0 w ∧ w0.heap.size ≤ bx ∧ bx < w.heap.size
section
variable {w0 w w' : World} {bx : Nat} {A : Option Addr} {cap : Nat} {L : List (List Int)}
theorem OMx.om (h : OMx w0 bx w A cap L) : OM w0 w A cap L := by
  obtain ⟨hs, hL, hO, hf, h0, _⟩ := h
  exact ⟨hs, hL, hO, fun b hb => (hf b hb).1, h0⟩
theorem OMx.below_ (h : OMx w0 bx w A cap L) : Below w0.heap.size w0 w := h.om.below_
theorem OMx.nil (h0 : Below w0.heap.size w0 w) (h1 : w0.heap.size ≤ bx) (h2 : bx < w.heap.size) : OMx w0 bx w none 0 [] :=
  ⟨[], rfl, OwR.nil w, fun b hb => by simp [fpR] at hb, h0, h1, h2⟩
theorem OMx.below (h : OMx w0 bx w A cap L) (hb : Below w.heap.size w w') : OMx w0 bx w' A cap L := by
  obtain ⟨hs, hL, hO, hf, h0, h1, h2⟩ := h
  exact ⟨hs, hL, hO.below hb, hf, below_trans h0 hb h0.size, h1, Nat.lt_of_lt_of_le h2 hb.size⟩
theorem OMx.store (h : OMx w0 bx w A cap L) (hk : Keeps (· = bx) w w') : OMx w0 bx w' A cap L := by
  obtain ⟨hs, hL, hO, hf, h0, h1, h2⟩ := h
  exact ⟨hs, hL, hO.keeps hk fun b hb e => (hf b hb).2 e, hf, below_keeps h0 hk h0.size fun k e => by subst e; exact h1, h1, Nat.lt_of_lt_of_le h2 hk.size⟩
theorem OMx.snoc {w1 w2 : World} {hs : List Hd} (hL : L = hs.map (fun h : Hd => h.2.2)) (hO : OwR w A cap hs) (hf : ∀ b, b ∈ fpA A ++ fpR hs → w0.heap.size ≤ b ∧ b ≠ bx) (h0 : Below w0.heap.size w0 w) (h1 : w0.heap.size ≤ bx) (h2 : bx < w.heap.size) {l : List Int} {B : Option Addr} {c : Nat} (hb : Below w.heap.size w w1) (hx : IS w1 B c l) (hf1 : Fresh w.heap.size B)
    {A' : Option Addr} {cap' n : Nat} (hn : n = hs.length + 1) (hs' : Sl w2 33 1 A' n cap' (hs.map Hd.val ++ [.slice B l.length c])) (hA' : ∀ b, b ∈ fpA A' → b ∈ fpA A ∨ w1.heap.size ≤ b) (hk : Keeps (· ∈ fpA A) w1 w2) : OMx w0 bx w2 A' cap' (L ++ [l]) := by
  subst hL hn
  have hbw := below_trans h0 hb h0.size
  have hz := hb.size
  have hz2 := hk.size
  refine ⟨hs ++ [(B, c, l)], by simp, hO.snoc hb (x := (B, c, l)) hx hf1 (by simpa [Hd.val] using hs') hA' hk, fun b hb' => ?_, below_keeps hbw hk hbw.size fun b hb' => (hf b (List.mem_append_left _ hb')).1, h1, by omega⟩
  rcases List.mem_append.1 hb' with hb' | hb'
  · rcases hA' b hb' with h3 | h3
    · exact hf b (List.mem_append_left _ h3)
    · have := hbw.size; omega
  · rcases fpR_snoc hs (B, c, l) b hb' with h3 | h3
    · exact hf b (List.mem_append_right _ h3)
    · have := hf1 b h3; have := h0.size; omega
end
end Go.Proofs.YtahnhblodfdfhaaDoor
