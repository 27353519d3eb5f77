/-
  THE WALKS: tmPerm and PermutationTerm of the reference.
-/
import Derived.Test.YtlmnmdahphahfaaTmQe
import Derived.BigQuiet
namespace Go.Proofs.Ytlmnmdahphahfaa
open Go.RowKit

def rO (n : Nat) (O : List Nd) : List Nd := if O.length = 0 then [(1, (n : Int), noName)] else O
/-- What holds at each round's head. -/
structure PsR (W : World) (n : Nat) (A1 : Option Addr) (c1 : Nat) (R : List Nd) (bx : Nat) (L : List Int) (O : List Nd) (k : Nat) (wr : World) : Prop where
  len : L.length = n
  sl : Sl wr tInt 1 A1 n c1 (ints L)
  nd : L.Nodup
  bub : bubR L O = R
  bound : O.length + 6 * inv L ≤ 6000
  kinv : k + inv L ≤ 200
  k0 : k = 0 ↔ O.length = 0
  box : ∃ Ao co no, no = (rO n O).length ∧ wr.heap[bx]? = some (.cells #[.slice Ao no co] tTerm) ∧ NS wr Ao co (rO n O) ∧ (∀ b, b ∈ fpA Ao → W.heap.size ≤ b ∧ b ≠ bx)
  f1 : ∀ b, b ∈ fpA A1 → W.heap.size ≤ b ∧ b ≠ bx
  hbx : W.heap.size ≤ bx
  bel : Below W.heap.size W wr
theorem PsR.below {W : World} {n : Nat} {A1 : Option Addr} {c1 : Nat} {R : List Nd} {bx : Nat} {L : List Int} {O : List Nd} {k : Nat} {wr w' : World} (h : PsR W n A1 c1 R bx L O k wr) (hb : Below wr.heap.size wr w') : PsR W n A1 c1 R bx L O k w' := by
  obtain ⟨Ao, co, no, hno, hbo, hN, hF⟩ := h.box
  exact ⟨h.len, h.sl.below hb, h.nd, h.bub, h.bound, h.kinv, h.k0, ⟨Ao, co, no, hno, box_below hbo hb, hN.below hb, hF⟩, h.f1, h.hbx, below_trans h.bel hb h.bel.size⟩
set_option maxRecDepth 8000 in
set_option maxHeartbeats 8000000 in
theorem tmPerm_any (A : Option Addr) (c : Nat) (l : List Int) (w : World) (h : RdI w A l) (hl : l.length ≤ 12) (hnd : l.Nodup) :
    Calls Try.prog 70 #[.slice A l.length c] w (RetTm w (permN l)) := by
  obtain ⟨W0, hW0⟩ : ∃ W, W = w.alloc (.cells #[.slice none 0 0] tTerm) := ⟨_, rfl⟩
  have b0 := below_alloc w (.cells #[.slice none 0 0] tTerm)
  have k0 := heap_alloc_new w (.cells #[.slice none 0 0] tTerm)
  rw [← hW0] at b0 k0
  have hC := l1Own_any A c l W0 (h.below b0) (by omega)
  obtain ⟨n, hn⟩ : ∃ n, n = l.length := ⟨_, rfl⟩
  obtain ⟨R, hR⟩ : ∃ R, R = bubR l [] := ⟨_, rfl⟩
  obtain ⟨X, hX⟩ : ∃ X, X = permN l := ⟨_, rfl⟩
  have hinv2 : inv l ≤ 144 := Nat.le_trans (inv_le l) (Nat.mul_le_mul hl hl)
  rw [← hn] at hC hl ⊢
  rw [← hX]
  unfold permN at hX
  rw [← hR, ← hn] at hX
  unfold RetI at hC
  have hz0 := box_lt k0
  clear h
  have b0_h := Lib.hid b0
  have k0_h := Lib.hid k0
  have hC_h := Lib.hid hC
  have hn_h := Lib.hid hn
  have hR_h := Lib.hid hR
  have hX_h := Lib.hid hX
  have hnd_h := Lib.hid hnd
  clear b0 k0 hC hn hR hX hnd
  go_enter Try.func70, Try.ntmps70
  go_upto_region 1 with (fail)
  rw [← hW0]
  clear hW0
  go_wp2_with (fail)
  refine (hC_h.out).mono ?_
  rintro e w1 ⟨A1, c1, rfl, hI1, hF1, hb1⟩
  rw [← hn_h.out]
  have hI1_h := Lib.hid hI1
  have hF1_h := Lib.hid hF1
  have hb1_h := Lib.hid hb1
  clear hI1 hF1 hb1
  go_wp2_with (fail)
  refine (tmId_1 n _).mono ?_
  rintro e w2 ⟨v2, fp2, rfl, ⟨A2, c2, rfl, hN2, rfl⟩, hF2, hb2⟩
  obtain ⟨W3, hW3⟩ : ∃ W3, W3 = w2.alloc (.cells #[.slice A2 1 c2] tTerm) := ⟨_, rfl⟩
  have b3 := below_alloc w2 (.cells #[.slice A2 1 c2] tTerm)
  have k3 := heap_alloc_new w2 (.cells #[.slice A2 1 c2] tTerm)
  rw [← hW3] at b3 k3
  obtain ⟨bx, hbx⟩ : ∃ bx, bx = w2.heap.size := ⟨_, rfl⟩
  rw [← hbx] at k3
  have hz1 := hb1_h.out.size
  have hz2 := hb2.size
  have hI1' : Sl w1 tInt 1 A1 n c1 (ints l) := by have q : Sl w1 tInt 1 A1 l.length c1 (ints l) := hI1_h.out; rw [← hn_h.out] at q; exact q
  have hlt1 := hI1'.lt
  have hlt2 := hN2.lt
  have hR0 : PsR W0 n A1 c1 R bx l [] 0 W3 := ⟨hn_h.out.symm, (hI1'.below hb2).below b3, hnd_h.out, hR_h.out.symm, by simp; omega, by omega, by simp, ⟨A2, c2, 1, rfl, k3, hN2.below b3, fun b hb => ⟨by have := hF2 b hb; omega, by have := hlt2 b hb; omega⟩⟩, fun b hb => ⟨hF1_h.out b hb, by have := hlt1 b hb; omega⟩, by omega, below_trans (below_trans hb1_h.out hb2 hz1) b3 (by omega)⟩
  clear hI1' hlt1 hlt2 hN2 hF2 hI1_h hF1_h hb1_h
  have hb2_h := Lib.hid hb2
  have b3_h := Lib.hid b3
  have k3_h := Lib.hid k3
  have hR0_h := Lib.hid hR0
  clear hb2 b3 k3 hR0
  go_upto_region 4 with (fail)
  rw [← hbx]
  rw [← hW3]
  clear hW3 hbx
  go_wp2_with (fail)
  go_loopg [6, 7, 8, 9] (inv l) (fun g s _s7 _s8 _s9 wr => ∃ (L : List Int) (O : List Nd) (k : Nat), s = .int .i64 k ∧ g = inv L ∧ PsR W0 n A1 c1 R bx L O k wr)
  case atStart => exact ⟨l, [], 0, rfl, rfl, hR0_h.out⟩
  case round =>
    clear hR0_h k3_h b3_h hb2_h hz1 hz2 hR_h hC_h hnd_h
    obtain ⟨L, O, k, rfl, hg, hP⟩ := hrel
    obtain ⟨wr2, hwr2⟩ : ∃ x, x = wr := ⟨_, rfl⟩
    rw [← hwr2] at hP ⊢
    have hg_h := Lib.hid hg
    have hP_h := Lib.hid hP
    clear hg hP
    go_wp2_with (fail)
    go_loopw [7] (fun s wi => ∃ i : Nat, s = .int .i64 i ∧ (i = 0 ∨ i < n) ∧ rises L i ∧ PsR W0 n A1 c1 R bx L O k wi) (fun s _ => n - (intOf s).toNat)
    case atStart => exact ⟨0, rfl, .inl rfl, fun j hj => absurd hj (Nat.not_lt_zero _), hP_h.out⟩
    case round =>
      obtain ⟨i, rfl, hi, hri, hP⟩ := hrel
      have hinvL : inv L ≤ 200 := by have := hP.kinv; omega
      have hkL : k ≤ 200 := by have := hP.kinv; omega
      by_cases hlt : i + 1 < n
      · have hb1 : decide ((i : Int) + 1 < (n : Int)) = true := decide_eq_true (by omega)
        have hb1I : (i : Int) + 1 < (n : Int) := by omega
        obtain ⟨ad, hA, -, p1, p2⟩ := Sl.cell hP.sl (ints_get (show L[i]? = some (L.getD i 0) by simp [List.getD, List.getElem?_eq_getElem (show i < L.length by rw [hP.len]; omega)]))
        obtain ⟨ad', hA', -, p3, p4⟩ := Sl.cell hP.sl (ints_get (show L[i + 1]? = some (L.getD (i + 1) 0) by simp [List.getD, List.getElem?_eq_getElem (show i + 1 < L.length by rw [hP.len]; exact hlt)]))
        rw [hA] at hA'
        obtain rfl := Option.some.inj hA'
        subst hA
        have p2 := p2 i
        have p4 := p4 (i + 1)
        obtain ⟨x, hx⟩ : ∃ x, x = L.getD i 0 := ⟨_, rfl⟩
        obtain ⟨y, hy⟩ : ∃ y, y = L.getD (i + 1) 0 := ⟨_, rfl⟩
        rw [← hx] at p1
        rw [← hy] at p3
        rw [show ad.add (i + 1) = ⟨ad.block, ad.off + (i + 1), none⟩ by unfold Addr.add; simp] at p3 p4
        have hw1 : IntKind.i64.wrap ((i : Int) + 1) = (i : Int) + 1 := IntWalk.i64_in _ (by omega)
        have hi0 : (0 : Int) ≤ (i : Int) := by omega
        have hi1 : (0 : Int) ≤ (i : Int) + 1 := by omega
        have hi2 : (i : Int) < (n : Int) := by omega
        have hi3 : ((i : Int) + 1).toNat = i + 1 := by omega
        by_cases hxy : x ≤ y
        · have hxb : decide (x ≤ y) = true := decide_eq_true hxy
          have hxy' : x < y := by
            by_cases e : x < y
            · exact e
            · have := nodup_lt hP.nd (by rw [hP.len]; exact hlt) (by rw [← hx, ← hy]; exact e)
              rw [← hx, ← hy] at this; omega
          have hri2 : rises L (i + 1) := fun j hj => by
            by_cases e : j = i
            · subst e; rw [← hx, ← hy]; exact hxy'
            · exact hri j (by omega)
          have hP_h := Lib.hid hP
          have hx_h := Lib.hid hx
          have hy_h := Lib.hid hy
          have hri_h := Lib.hid hri
          have hri2_h := Lib.hid hri2
          clear hP hx hy hri hri2
          go_wp2_with (fail)
          go_quiet (fail)
          go_wp2_with (fail)
          go_roundw
          case measure => simp [intOf]; omega
          case rel => exact ⟨i + 1, by go_num, .inr hlt, hri2_h.out, hP_h.out.below (below_drewN (Below.refl _ _) _)⟩
        · have hxb : decide (x ≤ y) = false := decide_eq_false hxy
          have hyx : y < x := by omega
          obtain ⟨r, hr⟩ : ∃ r, n = r + i + 2 := ⟨n - 2 - i, by omega⟩
          have hre : n - 2 - i = r := by omega
          have e1 : (n : Int) - 2 - (i : Int) = (r : Int) := by omega
          have hge : ¬ (n : Int) ≤ (i : Int) + 1 := by omega
          obtain ⟨L2, hL2⟩ : ∃ L2, L2 = swapAt L i := ⟨_, rfl⟩
          have hlen2 : L2.length = n := by rw [hL2, swapAt_length, hP.len]
          have hnd2 : L2.Nodup := by rw [hL2]; exact swapAt_nodup (by rw [hP.len]; exact hlt) hP.nd
          have hinv2' : inv L2 + 1 = inv L := by rw [hL2]; exact swapAt_inv (by rw [hP.len]; exact hlt) (by rw [← hx, ← hy]; exact hyx)
          have hbub : bubR L2 (nextO O (layerN n i)) = R := by
            have := bubR_step (l := L) (o := O) (k := i) (by rw [hP.len]; exact hlt) hri (by rw [← hx, ← hy]; exact hyx)
            rw [hP.len, ← hL2, hP.bub] at this
            exact this
          have hP_h := Lib.hid hP
          have hx_h := Lib.hid hx
          have hy_h := Lib.hid hy
          have hri_h := Lib.hid hri
          have hL2_h := Lib.hid hL2
          have hlen2_h := Lib.hid hlen2
          have hnd2_h := Lib.hid hnd2
          have hinv2'_h := Lib.hid hinv2'
          have hbub_h := Lib.hid hbub
          have hr_h := Lib.hid hr
          have hre_h := Lib.hid hre
          clear hP hx hy hri hL2 hlen2 hnd2 hinv2' hbub hr hre
          go_wp2_with (fail)
          go_quiet (fail)
          obtain ⟨wd, hwd⟩ : ∃ wd, wd = wr.drewN nq := ⟨_, rfl⟩
          have hPd : PsR W0 n (some ad) c1 R bx L O k wd := by rw [hwd]; exact hP_h.out.below (below_drewN (Below.refl _ _) _)
          have p1 : wd.cell? (ad.add i) = some (.int .i64 x) := by rw [hwd]; exact p1
          have p2 : wd.frozen? (ad.add i) = false := by rw [hwd]; exact p2
          have p3 : wd.cell? ⟨ad.block, ad.off + (i + 1), none⟩ = some (.int .i64 y) := by rw [hwd]; exact p3
          have p4 : wd.frozen? ⟨ad.block, ad.off + (i + 1), none⟩ = false := by rw [hwd]; exact p4
          rw [← hwd]
          clear hwd hP_h
          have hadd : ad.add (i + 1) = ⟨ad.block, ad.off + (i + 1), none⟩ := by unfold Addr.add; simp
          have hS1 := Sl.set hPd.sl rfl i (.int .i64 y) (by rw [ints_length, hPd.len]; omega)
          have hS2 := Sl.set hS1 rfl (i + 1) (.int .i64 x) (by rw [List.length_set, ints_length, hPd.len]; omega)
          rw [ints_set, ints_set, hy_h.out, hx_h.out] at hS2
          rw [show (L.set i (L.getD (i + 1) 0)).set (i + 1) (L.getD i 0) = L2 from hL2_h.out.symm, ← hx_h.out, ← hy_h.out, hadd] at hS2
          have hk1 : Keeps (fun b => b = ad.block) wd (wd.setCell (ad.add i) (.int .i64 y)) := Keeps.setCell (S := fun b => b = ad.block) (Keeps.refl _ wd) (p := ad.add i) (by rw [block_of_add]) _
          have hk2 := Keeps.setCell (S := fun b => b = ad.block) hk1 (p := ⟨ad.block, ad.off + (i + 1), none⟩) rfl (.int .i64 x)
          have hf1 := hPd.f1 ad.block (by simp)
          obtain ⟨Ao, co, no, hno, hbo, hNo, hFo⟩ := hPd.box
          have hNo2 := NS.keeps hNo hk2 (fun b hb e => Sl.apart_t hPd.sl hNo nd_ne_int ad.block (by simp) (by rw [← e]; exact hb))
          have hbo2 := box_keeps hbo hk2 (fun e => hf1.2 e.symm)
          have hB2 := below_keeps hPd.bel hk2 hPd.bel.size (fun b hb => by rw [hb]; exact hf1.1)
          have g34 : (wd.setCell (ad.add i) (.int .i64 y)).cell? ⟨ad.block, ad.off + (i + 1), none⟩ = some (.int .i64 y) ∧ (wd.setCell (ad.add i) (.int .i64 y)).frozen? ⟨ad.block, ad.off + (i + 1), none⟩ = false := by
            obtain ⟨a', e', -, q1, q2⟩ := Sl.cell hS1 (j := i + 1) (u := .int .i64 (L.getD (i + 1) 0)) (by rw [List.getElem?_set_ne (by omega)]; exact ints_get (by simp [List.getD, List.getElem?_eq_getElem (show i + 1 < L.length by rw [hPd.len]; exact hlt)]))
            obtain rfl := Option.some.inj e'
            rw [hadd, ← hy_h.out] at q1
            exact ⟨q1, by have := q2 (i + 1); rwa [hadd] at this⟩
          obtain ⟨g3, g4⟩ := g34
          have hzd : bx < wd.heap.size := box_lt hbo
          have hz3 : wd.heap.size ≤ ((wd.setCell (ad.add i) (.int .i64 y)).setCell ⟨ad.block, ad.off + (i + 1), none⟩ (.int .i64 x)).heap.size := by simp
          obtain ⟨w3, hw3⟩ : ∃ w3, w3 = (wd.setCell (ad.add i) (.int .i64 y)).setCell ⟨ad.block, ad.off + (i + 1), none⟩ (.int .i64 x) := ⟨_, rfl⟩
          rw [← hw3] at hS2 hNo2 hbo2 hB2 hz3
          clear hS1 hk1 hk2 hbo hNo
          have hS2_h := Lib.hid hS2
          have hNo2_h := Lib.hid hNo2
          have hbo2_h := Lib.hid hbo2
          have hB2_h := Lib.hid hB2
          have hz3_h := Lib.hid hz3
          have hno_h := Lib.hid hno
          have hFo_h := Lib.hid hFo
          have hPd_h := Lib.hid hPd
          have hf1_h := Lib.hid hf1
          have hadd_h := Lib.hid hadd
          have hzd_h := Lib.hid hzd
          clear hS2 hNo2 hbo2 hB2 hz3 hno hFo hPd hf1 hadd hzd
          go_upto_region 14 with (fail)
          rw [← hw3]
          clear hw3 p1 p2 p3 p4 g3 g4
          go_wp2_with (fail)
          refine (tmOne_any 2 0 _).mono ?_
          rintro e w4 ⟨v4, fp4, rfl, ⟨A4, c4, rfl, hN4, rfl⟩, hF4, hb4⟩
          have hzw4 := hb4.size
          have hLa := tmLayer_any i r A4 c4 w4 hN4 (by omega) (by omega)
          rw [show layX i r = layerN n i by rw [← layX_eq, hre_h.out]] at hLa
          obtain ⟨Ly, hLy⟩ : ∃ Ly, Ly = layerN n i := ⟨_, rfl⟩
          rw [← hLy] at hLa
          have hN4_h := Lib.hid hN4
          have hF4_h := Lib.hid hF4
          have hb4_h := Lib.hid hb4
          have hLa_h := Lib.hid hLa
          have hLy_h := Lib.hid hLy
          clear hN4 hF4 hb4 hLa hLy
          go_wp2_with (fail)
          refine (hLa_h.out).mono ?_
          rintro e w5 ⟨A5, c5, n5, rfl, hn5, hN5, hF5, hb5⟩
          have hzw5 := hb5.size
          have hb35 := below_trans hb4_h.out hb5 hb4_h.out.size
          obtain ⟨W6, hW6⟩ : ∃ W6, W6 = w5.alloc (.cells #[.slice A5 n5 c5] tTerm) := ⟨_, rfl⟩
          have b6 := below_alloc w5 (.cells #[.slice A5 n5 c5] tTerm)
          have k6 := heap_alloc_new w5 (.cells #[.slice A5 n5 c5] tTerm)
          rw [← hW6] at b6 k6
          have hb36 := below_trans hb35 b6 hb35.size
          have hN6 := hN5.below b6
          have hlt5 := hN5.lt
          have hG5 : ∀ b, b ∈ fpA A5 → w3.heap.size ≤ b := fun b hb => by rcases hF5 b hb with h | h; exact hF4_h.out b h; omega
          have hbo6 := box_below hbo2_h.out hb36
          have hS6 := hS2_h.out.below hb36
          have hNo6 := hNo2_h.out.below hb36
          have hB6 := below_trans hB2_h.out hb36 hB2_h.out.size
          clear hN5 hF5 hb5 hb35 hF4_h hN4_h hb4_h hNo2_h hbo2_h hB2_h hS2_h
          have hn5_h := Lib.hid hn5
          have b6_h := Lib.hid b6
          have k6_h := Lib.hid k6
          have hb36_h := Lib.hid hb36
          have hN6_h := Lib.hid hN6
          have hlt5_h := Lib.hid hlt5
          have hG5_h := Lib.hid hG5
          have hbo6_h := Lib.hid hbo6
          have hS6_h := Lib.hid hS6
          have hNo6_h := Lib.hid hNo6
          have hB6_h := Lib.hid hB6
          clear hn5 b6 k6 hb36 hN6 hlt5 hG5 hbo6 hS6 hNo6 hB6
          go_upto_region 15 with (fail)
          rw [← hW6]
          clear hW6
          have hz5 : bx < w5.heap.size := by have := hz3_h.out; have := hzd_h.out; omega
          have hK1 : k + 1 + inv L2 ≤ 200 := by have := hPd_h.out.kinv; have := hinv2'_h.out; omega
          have hbd : (nextO O (layerN n i)).length + 6 * inv L2 ≤ 6000 := by have h8 := (nextO_le O n i).1; have := hPd_h.out.bound; have := hinv2'_h.out; omega
          have hr1 : rO n (nextO O (layerN n i)) = nextO O (layerN n i) := by unfold rO; rw [if_neg]; have := (nextO_le O n i).2; omega
          have hk1 : k + 1 = 0 ↔ (nextO O (layerN n i)).length = 0 := by have := (nextO_le O n i).2; omega
          have hK1_h := Lib.hid hK1
          have hbd_h := Lib.hid hbd
          have hr1_h := Lib.hid hr1
          have hk1_h := Lib.hid hk1
          clear hK1 hbd hr1 hk1
          by_cases hk : k = 0
          · have hkb : ((k : Int) == 0) = true := by rw [hk]; rfl
            have hO0 : O.length = 0 := hPd_h.out.k0.1 hk
            have hnx : nextO O (layerN n i) = Ly := by unfold nextO; rw [if_pos hO0, hLy_h.out]
            obtain ⟨q1, q2⟩ := set1 hbo6_h.out (.slice A5 n5 c5)
            have hSn := Sl.keeps hS6_h.out q2 (fun b hb e => (hPd_h.out.f1 b hb).2 e)
            have hNn := NS.keeps hN6_h.out q2 (fun b hb e => by have := hG5_h.out b hb; have := hz3_h.out; have := hzd_h.out; omega)
            have hBn := below_keeps hB6_h.out q2 hB6_h.out.size (fun b hb => by have := hPd_h.out.hbx; omega)
            obtain ⟨W7, hW7⟩ : ∃ W7, W7 = W6.setCell ⟨bx, 0, none⟩ (.slice A5 n5 c5) := ⟨_, rfl⟩
            rw [← hW7] at q1 hSn hNn hBn
            have hPn : PsR W0 n (some ad) c1 R bx L2 (nextO O (layerN n i)) (k + 1) W7 := ⟨hlen2_h.out, hSn, hnd2_h.out, hbub_h.out, hbd_h.out, hK1_h.out, hk1_h.out, ⟨A5, c5, n5, by rw [hr1_h.out, hnx, hn5_h.out], q1, by rw [hr1_h.out, hnx]; exact hNn, fun b hb => ⟨by have := hG5_h.out b hb; have := hz3_h.out; have := hPd_h.out.bel.size; omega, by have := hG5_h.out b hb; have := hz3_h.out; have := hzd_h.out; omega⟩⟩, hPd_h.out.f1, hPd_h.out.hbx, hBn⟩
            clear hSn hNn hBn q1 q2
            have hPn_h := Lib.hid hPn
            have hO0_h := Lib.hid hO0
            have hnx_h := Lib.hid hnx
            have hW7_h := Lib.hid hW7
            clear hPn hO0 hnx hW7
            obtain ⟨hbo6_c, hbo6_f⟩ := bx1 hbo6_h.out
            obtain ⟨k6_c, k6_f⟩ := bx1 k6_h.out
            go_wp2_with (fail)
            rw [← hW7_h.out]
            go_roundg (inv L2)
            case measure => have := hinv2'_h.out; have := hg_h.out; omega
            case rel => exact ⟨L2, nextO O (layerN n i), k + 1, by go_num, rfl, hPn_h.out⟩
          · have hkb : ((k : Int) == 0) = false := by simp; omega
            have hO0 : ¬ O.length = 0 := fun e => hk (hPd_h.out.k0.2 e)
            have hrO : rO n O = O := by unfold rO; rw [if_neg hO0]
            have hnx : nextO O (layerN n i) = joinOf 15 O Ly := by unfold nextO joinOf; rw [if_neg hO0, hLy_h.out, List.append_assoc]; rfl
            have hr5 : RdTm W6 (.agg #[.slice Ao no co]) O := ⟨Ao, co, by rw [hno_h.out, hrO], by have := Sl.rdc hNo6_h.out; rw [hrO] at this; exact this⟩
            have hr6 : RdTm W6 (.agg #[.slice A5 n5 c5]) Ly := ⟨A5, c5, by rw [hn5_h.out], Sl.rdc hN6_h.out⟩
            have hLyl : Ly.length ≤ 5 := by rw [hLy_h.out]; exact (layerN_le n i).1
            have hOl : O.length ≤ 6000 := by have := hPd_h.out.bound; omega
            have hSq := tmSeq_any hr5 hr6 (by omega) (by omega)
            rw [← hnx] at hSq
            clear hr5 hr6
            have hnx_h := Lib.hid hnx
            have hSq_h := Lib.hid hSq
            have hO0_h := Lib.hid hO0
            have hrO_h := Lib.hid hrO
            clear hnx hSq hO0 hrO
            obtain ⟨hbo6_c, hbo6_f⟩ := bx1 hbo6_h.out
            obtain ⟨k6_c, k6_f⟩ := bx1 k6_h.out
            go_wp2_with (fail)
            refine (hSq_h.out).mono ?_
            rintro e w7 ⟨v7, fp7, rfl, ⟨A7, c7, rfl, hN7, rfl⟩, hF7, hb7⟩
            obtain ⟨n7, hn7⟩ : ∃ n7, n7 = (nextO O (layerN n i)).length := ⟨_, rfl⟩
            rw [← hn7]
            clear hbo6_c hbo6_f k6_c k6_f
            replace hbo6_h := Lib.hid (box_below hbo6_h.out hb7)
            have hz6 : w5.heap.size ≤ W6.heap.size := b6_h.out.size
            obtain ⟨q1, q2⟩ := set1 hbo6_h.out (.slice A7 n7 c7)
            have hSn := Sl.keeps (hS6_h.out.below hb7) q2 (fun b hb e => (hPd_h.out.f1 b hb).2 e)
            have hNn := NS.keeps hN7 q2 (fun b hb e => by have := hF7 b hb; have := hz3_h.out; have := hzd_h.out; omega)
            have hBm := below_trans hB6_h.out hb7 hB6_h.out.size
            have hBn := below_keeps hBm q2 hBm.size (fun b hb => by have := hPd_h.out.hbx; omega)
            obtain ⟨W7, hW7⟩ : ∃ W7, W7 = w7.setCell ⟨bx, 0, none⟩ (.slice A7 n7 c7) := ⟨_, rfl⟩
            rw [← hW7] at q1 hSn hNn hBn
            have hPn : PsR W0 n (some ad) c1 R bx L2 (nextO O (layerN n i)) (k + 1) W7 := ⟨hlen2_h.out, hSn, hnd2_h.out, hbub_h.out, hbd_h.out, hK1_h.out, hk1_h.out, ⟨A7, c7, n7, by rw [hr1_h.out, hn7], q1, by rw [hr1_h.out]; exact hNn, fun b hb => ⟨by have := hF7 b hb; have := hB6_h.out.size; omega, by have := hF7 b hb; omega⟩⟩, hPd_h.out.f1, hPd_h.out.hbx, hBn⟩
            clear hSn hNn hBn q1 q2 hBm hN7 hF7 hb7
            have hPn_h := Lib.hid hPn
            have hW7_h := Lib.hid hW7
            have hn7_h := Lib.hid hn7
            clear hPn hW7 hn7
            obtain ⟨hbo6_c, hbo6_f⟩ := bx1 hbo6_h.out
            go_wp2_with (fail)
            rw [← hW7_h.out]
            go_roundg (inv L2)
            case measure => have := hinv2'_h.out; have := hg_h.out; omega
            case rel => exact ⟨L2, nextO O (layerN n i), k + 1, by go_num, rfl, hPn_h.out⟩
      · have hb1 : decide ((i : Int) + 1 < (n : Int)) = false := decide_eq_false (by omega)
        have hge : (n : Int) ≤ (i : Int) + 1 := by omega
        have hw1 : IntKind.i64.wrap ((i : Int) + 1) = (i : Int) + 1 := IntWalk.i64_in _ (by omega)
        have hrr : rises L (L.length - 1) := fun j hj => by
          rw [hP.len] at hj
          rcases hi with h | h
          · omega
          · exact hri j (by omega)
        have hRO : R = O := by rw [← hP.bub]; exact bubR_done hrr
        have hXO : X = rO n O := by rw [hX_h.out, hRO]; rfl
        obtain ⟨Ao, co, no, hno, hbo, hNo, hFo⟩ := hP.box
        have hBe := hP.bel
        clear hrr hri
        have hP_h := Lib.hid hP
        have hRO_h := Lib.hid hRO
        have hXO_h := Lib.hid hXO
        have hno_h := Lib.hid hno
        have hbo_h := Lib.hid hbo
        have hNo_h := Lib.hid hNo
        have hFo_h := Lib.hid hFo
        have hBe_h := Lib.hid hBe
        clear hP hRO hXO hno hbo hNo hFo hBe
        go_wp2_with (fail)
        go_quiet (fail)
        obtain ⟨wd, hwd⟩ : ∃ wd, wd = wr.drewN nq := ⟨_, rfl⟩
        have hbd : Below wr.heap.size wr wd := by rw [hwd]; exact below_drewN (Below.refl _ _) _
        rw [← hwd]
        clear hwd
        replace hbo_h := Lib.hid (box_below hbo_h.out hbd)
        have hBd := below_trans hBe_h.out hbd hBe_h.out.size
        have kr := box_below k0_h.out hBd
        have hBw := below_trans b0_h.out hBd b0_h.out.size
        have hNd := hNo_h.out.below hbd
        obtain ⟨s1, s2⟩ := set1 kr (.slice Ao no co)
        have hBn := below_keeps hBw s2 hBw.size (fun b hb => by omega)
        have hNn := NS.keeps hNd s2 (fun b hb e => by have := (hFo_h.out b hb).1; omega)
        clear hg_h hP_h
        have hbd_h := Lib.hid hbd
        have hBd_h := Lib.hid hBd
        have kr_h := Lib.hid kr
        have hBw_h := Lib.hid hBw
        have hNd_h := Lib.hid hNd
        have s1_h := Lib.hid s1
        have s2_h := Lib.hid s2
        have hBn_h := Lib.hid hBn
        have hNn_h := Lib.hid hNn
        clear hbd hBd kr hBw hNd s1 s2 hBn hNn
        obtain ⟨hbo_c, hbo_f⟩ := bx1 hbo_h.out
        obtain ⟨kr_c, kr_f⟩ := bx1 kr_h.out
        go_wp2_with (fail)
        refine bodyPost_ret (results_cell_row rfl _ _ w.heap.size _ _ (0, 0) _ rfl s1_h.out Try.underlying30 rfl (by kernel_rfl)) rfl ?_
        have e : X.length = no := by rw [hXO_h.out, hno_h.out]
        subst e
        exact ⟨_, fpA Ao, rfl, ⟨Ao, co, rfl, by have q := hNn_h.out; rw [← hXO_h.out] at q; exact q, rfl⟩, fun b hb => by have := (hFo_h.out b hb).1; have := b0_h.out.size; omega, hBn_h.out⟩

set_option maxRecDepth 8000 in
set_option maxHeartbeats 2000000 in
theorem sPermutationTerm_any {v : Value} {l : List Int} {w : World} (h : RdIV w v l) (hl : l.length ≤ 1048576) :
    Calls Try.prog 37 #[v] w (Ret2Tm (prM l) w) := by
  obtain ⟨A, c, rfl, h⟩ := h
  obtain ⟨W, hW⟩ : ∃ W, W = w.alloc (.cells #[.slice none 0 0] tTerm) := ⟨_, rfl⟩
  have b0 := below_alloc w (.cells #[.slice none 0 0] tTerm)
  have k0 := heap_alloc_new w (.cells #[.slice none 0 0] tTerm)
  rw [← hW] at b0 k0
  have hr := h.below b0
  have hP := tmIsPerm_any A c l W hr hl
  have hN := fun W' (hb : Below W.heap.size W W') (h12 : l.length ≤ 12) (hp : permB l = true) => tmPerm_any A c l W' (hr.below hb) h12 (permGo_nodup hp).1
  obtain ⟨n, hn⟩ : ∃ n, n = l.length := ⟨_, rfl⟩
  obtain ⟨M, hM⟩ : ∃ M, M = prM l := ⟨_, rfl⟩
  obtain ⟨B, hB⟩ : ∃ B, B = permB l := ⟨_, rfl⟩
  rw [← hB] at hP
  rw [← hn] at hP hl hN ⊢
  rw [← hM]
  obtain ⟨s1, s2⟩ := set1 k0 (.slice none 0 0)
  have hBs := below_keeps b0 s2 b0.size (fun k hk => by omega)
  clear h
  have b0_h := Lib.hid b0
  have k0_h := Lib.hid k0
  have hr_h := Lib.hid hr
  have hP_h := Lib.hid hP
  have hN_h := Lib.hid hN
  have hn_h := Lib.hid hn
  have hM_h := Lib.hid hM
  have hB_h := Lib.hid hB
  have s1_h := Lib.hid s1
  have s2_h := Lib.hid s2
  have hBs_h := Lib.hid hBs
  clear b0 k0 hr hP hN hn hM hB s1 s2 hBs
  obtain ⟨k0_c, k0_f⟩ := bx1 k0_h.out
  by_cases h12 : n ≤ 12
  case neg =>
    have h12I : (12 : Int) < (n : Int) := by omega
    have hM0 : M = ([], false) := by rw [hM_h.out]; exact prM_long (by rw [← hn_h.out]; exact h12)
    have hM0_h := Lib.hid hM0
    clear hM0
    go_enter Try.func37, Try.ntmps37
    go_upto_region 1 with (fail)
    rw [← hW]
    clear hW
    go_wp2_with (fail)
    refine bodyPost_ret (results_cell_tmp rfl _ _ w.heap.size _ _ (0, 0) _ rfl s1_h.out Try.underlying30 rfl (by kernel_rfl)) rfl ?_
    exact Ret2Tm.no hM0_h.out hBs_h.out
  case pos =>
  have h12I : ¬ (12 : Int) < (n : Int) := by omega
  go_enter Try.func37, Try.ntmps37
  go_upto_region 1 with (fail)
  rw [← hW]
  clear hW
  go_wp2_with (fail)
  refine (hP_h.out).mono ?_
  rintro e w1 ⟨rfl, hb1⟩
  clear k0_c k0_f
  replace k0_h := Lib.hid (box_below k0_h.out hb1)
  have hB1 := below_trans b0_h.out hb1 b0_h.out.size
  cases B
  case false =>
    have hM0 : M = ([], false) := by rw [hM_h.out]; exact prM_no hB_h.out.symm
    clear s1_h s2_h hBs_h
    obtain ⟨s1, s2⟩ := set1 k0_h.out (.slice none 0 0)
    have hBs := below_keeps hB1 s2 hB1.size (fun k hk => by omega)
    obtain ⟨k0_c, k0_f⟩ := bx1 k0_h.out
    have hM0_h := Lib.hid hM0
    have s1_h := Lib.hid s1
    have s2_h := Lib.hid s2
    have hBs_h := Lib.hid hBs
    have hb1_h := Lib.hid hb1
    have hB1_h := Lib.hid hB1
    clear hM0 s1 s2 hBs hb1 hB1
    go_wp2_with (fail)
    refine bodyPost_ret (results_cell_tmp rfl _ _ w.heap.size _ _ (0, 0) _ rfl s1_h.out Try.underlying30 rfl (by kernel_rfl)) rfl ?_
    exact Ret2Tm.no hM0_h.out hBs_h.out
  case true =>
  have hM1 : M = okM (permN l) := by rw [hM_h.out]; exact prM_yes (by rw [← hn_h.out]; exact h12) hB_h.out.symm
  have hN1 := hN_h.out w1 hb1 h12 hB_h.out.symm
  obtain ⟨X, hX⟩ : ∃ X, X = permN l := ⟨_, rfl⟩
  rw [← hX] at hM1 hN1
  have hkz0 := box_lt k0_h.out
  have hM1_h := Lib.hid hM1
  have hN1_h := Lib.hid hN1
  have hX_h := Lib.hid hX
  have hb1_h := Lib.hid hb1
  have hB1_h := Lib.hid hB1
  clear hM1 hN1 hX hb1 hB1
  go_wp2_with (fail)
  refine (hN1_h.out).mono ?_
  rintro e w2 ⟨v2, fp2, rfl, hO2, hF2, hb2⟩
  replace k0_h := Lib.hid (box_below k0_h.out hb2)
  have hB2 := below_trans hB1_h.out hb2 hB1_h.out.size
  have hG := tmIf_any hO2
  rw [← hM1_h.out] at hG
  have hO2_h := Lib.hid hO2
  have hF2_h := Lib.hid hF2
  have hb2_h := Lib.hid hb2
  have hB2_h := Lib.hid hB2
  have hG_h := Lib.hid hG
  clear hO2 hF2 hb2 hB2 hG
  go_wp2_with (fail)
  refine (hG_h.out).mono ?_
  rintro e w5 ⟨v5, fp5, rfl, ⟨A5, c5, rfl, hN5, rfl⟩, hF5, hb5⟩
  replace k0_h := Lib.hid (box_below k0_h.out hb5)
  have hB5 := below_trans hB2_h.out hb5 hB2_h.out.size
  have hF6 : ∀ b, b ∈ fpA A5 → w1.heap.size ≤ b := fun b hb => hF2_h.out b (hF5 b hb)
  have hkz : w.heap.size < w1.heap.size := hkz0
  obtain ⟨s3, s4⟩ := set1 k0_h.out (.slice A5 M.1.length c5)
  have hB6 := below_keeps hB5 s4 hB5.size (fun k hk => by omega)
  have hN6 := NS.keeps hN5 s4 (fun b hb e => by have := hF6 b hb; omega)
  have hF7 : FreshL w.heap.size (fpA A5) := fun b hb => by have := hF6 b hb; omega
  obtain ⟨k0_c, k0_f⟩ := bx1 k0_h.out
  have hb5_h := Lib.hid hb5
  have hB5_h := Lib.hid hB5
  have s3_h := Lib.hid s3
  have s4_h := Lib.hid s4
  have hB6_h := Lib.hid hB6
  have hN6_h := Lib.hid hN6
  have hF7_h := Lib.hid hF7
  have hN5_h := Lib.hid hN5
  have hF5_h := Lib.hid hF5
  have hF6_h := Lib.hid hF6
  clear hb5 hB5 s3 s4 hB6 hN6 hF7 hN5 hF5 hF6
  go_wp2_with (fail)
  refine bodyPost_ret (results_cell_tmp rfl _ _ w.heap.size _ _ (0, 0) _ rfl s3_h.out Try.underlying30 rfl (by kernel_rfl)) rfl ?_
  exact ⟨_, fpA A5, rfl, ⟨A5, c5, rfl, hN6_h.out, rfl⟩, hF7_h.out, hB6_h.out⟩
end Go.Proofs.Ytlmnmdahphahfaa
