/-
  The program's SystemOfGraph returns what the reference's returns, for all arguments (laws.FnExactSystemOfGraph answers true): the tied card.
-/
import Derived.Test.YtpkmjenoniedjaaDoorKSystemOfGraph4
namespace Go.Proofs.YtpkmjenoniedjaaDoor
open Go.RowKit
theorem eh_get {l : List EHd} {j : Nat} {n : EHd} (h : l[j]? = some n) : (eh l)[2 * j]? = some n.2.2.1 ∧ (eh l)[2 * j + 1]? = some n.2.2.2 := by
 induction l generalizing j with
 | nil => simp at h
 | cons a r ih =>
   cases j with
   | zero =>
     obtain rfl : a = n := by simpa using h
     simp [eh]
   | succ j =>
     have := ih (j := j) (by simpa using h)
     rw [show 2 * (j + 1) = 2 * j + 1 + 1 by omega]
     simpa [eh] using this
theorem eh_set {l : List EHd} {j : Nat} (n : EHd) (h : j < l.length) : ((eh l).set (2 * j) n.2.2.1).set (2 * j + 1) n.2.2.2 = eh (l.set j n) := by
 induction l generalizing j with
 | nil => simp at h
 | cons a r ih =>
   cases j with
   | zero => simp [eh]
   | succ j =>
     have := ih (j := j) (by simpa using h)
     rw [show 2 * (j + 1) = 2 * j + 1 + 1 by omega]
     simpa [eh] using this
@[simp] theorem eh_length (l : List EHd) : (eh l).length = 2 * l.length := by
  induction l with
  | nil => rfl
  | cons a r ih => simp only [eh, List.length_cons, ih]; omega
theorem fpR_map {l m : List Hd} (h : l.map (·.1) = m.map (·.1)) : fpR l = fpR m := by
 have e : ∀ x : List Hd, fpR x = (x.map (·.1)).flatMap fpA := fun x => by unfold fpR; rw [List.flatMap_map]
 rw [e, e, h]
theorem set_same {α : Type} {l : List α} {i : Nat} {x : α} (h : l[i]? = some x) : l.set i x = l := by
 apply List.ext_getElem?
 intro k
 rw [List.getElem?_set]
 split
 · rename_i e; subst e
   have := (List.getElem?_eq_some_iff.1 h).1
   rw [if_pos this, h]
 · rfl
section
variable {w w' : World} {fp : List Nat} {ls : List Hd}
theorem OwLs.wr (h : OwLs w fp ls) {i : Nat} {B : Option Addr} {c : Nat} {l l' : List Int} (hi : ls[i]? = some (B, c, l)) (hk : Keeps (· ∈ fpA B) w w') (hI : IS w' B c l') : OwLs w' fp (ls.set i (B, c, l')) := by
 have hap : ∀ (k : Nat) (x : Hd), ls[k]? = some x → i ≠ k → ∀ b, b ∈ fpA x.1 → ¬ b ∈ fpA B := fun k x hx hne b hb hb' => by
  have hp := List.pairwise_iff_getElem.1 h.apart
  obtain ⟨hi', ei⟩ := List.getElem?_eq_some_iff.1 hi
  obtain ⟨hk', ek⟩ := List.getElem?_eq_some_iff.1 hx
  rcases Nat.lt_or_gt_of_ne hne with hlt | hlt
  · exact hp i k hi' hk' hlt b (by rw [ei]; exact hb') (by rw [ek]; exact hb)
  · exact hp k i hk' hi' hlt b (by rw [ek]; exact hb) (by rw [ei]; exact hb')
 have hget : ∀ (k : Nat) (x : Hd), (ls.set i (B, c, l'))[k]? = some x → ∃ y : Hd, ls[k]? = some y ∧ y.1 = x.1 := by
  intro k x hx
  rw [List.getElem?_set] at hx
  split at hx
  · rename_i hk; subst hk
    simp at hx
    exact ⟨_, hi, by rw [← hx.2]⟩
  · exact ⟨x, hx, rfl⟩
 refine ⟨fun x hx => ?_, ?_, fun x hx => ?_⟩
 · obtain ⟨k, hkk⟩ := List.mem_iff_getElem?.1 hx
   rw [List.getElem?_set] at hkk
   split at hkk
   · simp at hkk
     rw [← hkk.2]
     exact hI
   · rename_i hik
     exact (h.rows x (List.mem_of_getElem? hkk)).keeps hk fun b hb hb' => hap k x hkk hik b hb hb'
 · refine List.pairwise_iff_getElem.2 fun a b ha hb hab => ?_
   obtain ⟨x, hx, ex⟩ := hget a _ (List.getElem?_eq_getElem ha)
   obtain ⟨y, hy, ey⟩ := hget b _ (List.getElem?_eq_getElem hb)
   rw [← ex, ← ey]
   obtain ⟨ha', e1⟩ := List.getElem?_eq_some_iff.1 hx
   obtain ⟨hb', e2⟩ := List.getElem?_eq_some_iff.1 hy
   rw [← e1, ← e2]
   exact List.pairwise_iff_getElem.1 h.apart a b ha' hb' hab
 · obtain ⟨k, hkk⟩ := List.mem_iff_getElem?.1 hx
   obtain ⟨y, hy, e⟩ := hget k x hkk
   rw [← e]; exact h.outer y (List.mem_of_getElem? hy)
theorem set_fst {ls : List Hd} {i : Nat} {B : Option Addr} {c : Nat} {l l' : List Int} (hi : ls[i]? = some (B, c, l)) : (ls.set i (B, c, l')).map (·.1) = ls.map (·.1) := by
 rw [List.map_set]
 exact set_same (by rw [List.getElem?_map, hi]; rfl)
end
theorem ecs_congr {l : List EHd} {j : Nat} {x y : EHd} (h : ec x = ec y) : ecs (l.set j x) = ecs (l.set j y) := by
 induction l generalizing j with
 | nil => rfl
 | cons a r ih =>
   cases j with
   | zero => simp [ecs, h]
   | succ j => simp only [List.set_cons_succ, ecs, ih]
theorem cntE_take_succ {L : List Eg} {j : Nat} {e : Eg} (h : L[j]? = some e) : cntE (L.take (j + 1)) = cntE (L.take j) + (2 + e.2.2.1.length + e.2.2.2.length) := by
 rw [List.take_add_one, h, cntE_append]; simp [cntE]
theorem cntE_take_le (L : List Eg) (j : Nat) : cntE (L.take j) ≤ cntE L := by
 conv => rhs; rw [← List.take_append_drop j L, cntE_append]
 omega
@[simp] theorem marksE_length : ∀ (k : Nat) (L : List Eg), (marksE k L).length = L.length
  | _, [] => rfl
  | k, e :: r => by simp [marksE, marksE_length]
theorem marksE_get : ∀ {L : List Eg} {k j : Nat} {e : Eg}, L[j]? = some e → (marksE k L)[j]? = some (((k + cntE (L.take j) : Nat) : Int), ((k + cntE (L.take j) + 1 : Nat) : Int), marks (k + cntE (L.take j) + 2) e.2.2.1.length, marks (k + cntE (L.take j) + 2 + e.2.2.1.length) e.2.2.2.length)
 | a :: r, k, 0, e, h => by
   obtain rfl : a = e := by simpa using h
   simp [marksE, cntE]
 | a :: r, k, j + 1, e, h => by
   have := marksE_get (L := r) (k := k + 2 + a.2.2.1.length + a.2.2.2.length) (j := j) (e := e) (by simpa using h)
   rw [show k + 2 + a.2.2.1.length + a.2.2.2.length + cntE (r.take j) = k + cntE ((a :: r).take (j + 1)) by simp [cntE]; omega] at this
   simpa [marksE] using this
set_option maxRecDepth 100000 in
set_option maxHeartbeats 4000000 in
theorem markEdgeS_any (A : Option Addr) (c m : Nat) (l : List EHd) (pre : List Hd) (k : Nat) (w : World) (h : Sl w tEd 4 A m c (ecs l)) (hO : OwLs w (fpA A) (pre ++ eh l)) (hm : l.length = m) (hml : m ≤ 1048576) (hl : k + cntE (l.map egOf) ≤ 17592186044000) :
  Calls Tryd.prog 24 #[.slice A m c, .int .i64 k] w fun e w' => ∃ ys : List EHd, e = .returned (.int .i64 ((k + cntE (l.map egOf) : Nat) : Int)) ∧ ys.length = m ∧ ys.map egOf = marksE k (l.map egOf) ∧ Sl w' tEd 4 A m c (ecs ys) ∧ OwLs w' (fpA A) (pre ++ eh ys) ∧ (eh ys).map (·.1) = (eh l).map (·.1) ∧ Keeps (· ∈ fpA A ++ fpR (eh l)) w w' := by
 obtain ⟨L, hL⟩ : ∃ L, L = l.map egOf := ⟨_, rfl⟩
 rw [← hL] at hl ⊢
 have hLm : L.length = m := by rw [hL, List.length_map, hm]
 have hm_h := lH hm; have hL_h := lH hL; have hLm_h := lH hLm; have h_h := lH h; have hO_h := lH hO; clear hm hL hLm h hO
 go_enter Tryd.func24, Tryd.ntmps24
 go_wp2_with (fail)
 go_loopw [1, 5] (fun q i wr => ∃ (j : Nat) (ys : List EHd), j ≤ m ∧ i = .int .i64 j ∧ q = .int .i64 ((k + cntE (L.take j) : Nat) : Int) ∧ ys.length = m ∧ ys.map egOf = (marksE k L).take j ++ L.drop j ∧ Sl wr tEd 4 A m c (ecs ys) ∧ OwLs wr (fpA A) (pre ++ eh ys) ∧ (eh ys).map (·.1) = (eh l).map (·.1) ∧ Keeps (· ∈ fpA A ++ fpR (eh l)) w wr) (fun _ i _ => m - (intOf i).toNat)
 case atStart => exact ⟨0, l, Nat.zero_le _, rfl, by simp [cntE], hm_h.out, by simpa using hL_h.out.symm, h_h.out, hO_h.out, rfl, Keeps.refl _ _⟩
 case round =>
  clear h_h hO_h
  obtain ⟨j, ys, hj, rfl, rfl, hyl, hye, his, hO, hfe, hkp⟩ := hrel
  by_cases hlt : j < m
  · obtain ⟨⟨κ, v, ⟨B, b, s⟩, ⟨C, d, t⟩⟩, hy⟩ : ∃ y, ys[j]? = some y := ⟨_, List.getElem?_eq_getElem (by omega)⟩
    have hLj : L[j]? = some (κ, v, s, t) := by
     have h1 : (ys.map egOf)[j]? = some (κ, v, s, t) := by rw [List.getElem?_map, hy]; rfl
     rw [hye, List.getElem?_append_right (by rw [List.length_take, marksE_length]; omega), List.length_take, marksE_length, List.getElem?_drop] at h1
     rwa [show j + (j - min j L.length) = j by rw [hLm_h.out]; omega] at h1
    obtain ⟨ad, hA, g0, g1⟩ : ∃ ad, A = some ad ∧ (∀ x, wr.frozen? (ad.add x) = false) ∧ ∀ i u, (ecs ys)[i]? = some u → wr.cell? (ad.add i) = some u := by
     obtain ⟨ad, hA, _, _, hf⟩ := Sl.cell his (ecs_get hy).1
     refine ⟨ad, hA, hf, fun i u hu => ?_⟩
     obtain ⟨ad', hA', _, hc, _⟩ := Sl.cell his hu
     rw [hA] at hA'
     obtain rfl := Option.some.inj hA'
     exact hc
    subst hA
    obtain ⟨y0, y1, y2, y3⟩ := ecs_get hy
    have hel : (ecs ys).length = m * 4 := by rw [ecs_length, hyl]
    obtain ⟨K, hK⟩ : ∃ K, K = k + cntE (L.take j) := ⟨_, rfl⟩
    have hcs := cntE_take_succ hLj
    have hcl := cntE_take_le L (j + 1)
    have hKb : K + (2 + s.length + t.length) ≤ 17592186044000 := by
     have : cntE (L.take (j + 1)) = cntE (L.take j) + (2 + s.length + t.length) := hcs
     omega
    -- the two stores
    obtain ⟨W1, hW1⟩ : ∃ W1, W1 = wr.setCell (ad.add (j * 4)) (.int .i64 (K : Int)) := ⟨_, rfl⟩
    have sl1 := Sl.set his rfl (j * 4) (.int .i64 (K : Int)) (by omega)
    rw [← hW1] at sl1
    obtain ⟨W2, hW2⟩ : ∃ W2, W2 = W1.setCell ⟨(ad.add (j * 4)).block, (ad.add (j * 4)).off + 1, none⟩ (.int .i64 ((K + 1 : Nat) : Int)) := ⟨_, rfl⟩
    have sl2 := Sl.set sl1 rfl (j * 4 + 1) (.int .i64 ((K + 1 : Nat) : Int)) (by rw [List.length_set]; omega)
    rw [add_next _ _ 1 (by omega), ← hW2] at sl2
    have q0 := g1 _ _ y0
    have q1 : W1.cell? ⟨(ad.add (j * 4)).block, (ad.add (j * 4)).off + 1, none⟩ = some (.int .i64 v) := by
     obtain ⟨ad', hA', _, hc, _⟩ := Sl.cell sl1 (j := j * 4 + 1) (u := .int .i64 v) (by rw [List.getElem?_set_ne (by omega)]; exact y1)
     obtain rfl := Option.some.inj hA'
     rwa [add_next _ _ 1 (by omega)] at hc
    have q1f : W1.frozen? ⟨(ad.add (j * 4)).block, (ad.add (j * 4)).off + 1, none⟩ = false := by
     obtain ⟨ad', hA', _, _, hf⟩ := Sl.cell sl1 (j := j * 4 + 1) (u := .int .i64 v) (by rw [List.getElem?_set_ne (by omega)]; exact y1)
     obtain rfl := Option.some.inj hA'
     have := hf (j * 4 + 1)
     rwa [add_next _ _ 1 (by omega)] at this
    have q2 : W2.cell? ⟨(ad.add (j * 4)).block, (ad.add (j * 4)).off + 2, none⟩ = some (.slice B s.length b) := by
     obtain ⟨ad', hA', _, hc, _⟩ := Sl.cell sl2 (j := j * 4 + 2) (u := .slice B s.length b) (by rw [List.getElem?_set_ne (by omega), List.getElem?_set_ne (by omega)]; exact y2)
     obtain rfl := Option.some.inj hA'
     rwa [add_next _ _ 2 (by omega)] at hc
    have hkB : Keeps (· ∈ fpA (some ad)) wr W2 := by
     rw [hW2, hW1]
     exact ((Keeps.refl _ wr).setCell (p := ad.add (j * 4)) (by rw [block_of_add]; simp) _).setCell (p := ⟨(ad.add (j * 4)).block, (ad.add (j * 4)).off + 1, none⟩) (by simp [block_of_add]) _
    have hset2 : ((ecs ys).set (j * 4) (.int .i64 (K : Int))).set (j * 4 + 1) (.int .i64 ((K + 1 : Nat) : Int)) = ecs (ys.set j ((K : Int), ((K + 1 : Nat) : Int), (B, b, s), (C, d, t))) := by
     rw [← ecs_set ((K : Int), ((K + 1 : Nat) : Int), (B, b, s), (C, d, t)) (by omega)]
     rw [set_same (i := j * 4 + 2) (by rw [List.getElem?_set_ne (by omega), List.getElem?_set_ne (by omega)]; exact y2), set_same (i := j * 4 + 3) (by rw [List.getElem?_set_ne (by omega), List.getElem?_set_ne (by omega)]; exact y3)]
    rw [hset2] at sl2
    have hO2 := hO.grow (fp' := fpA (some ad)) (fun x hx => .inl hx) hkB
    obtain ⟨z1, z2⟩ := eh_get hy
    have i1 : (pre ++ eh ys)[pre.length + 2 * j]? = some (B, b, s) := by rw [List.getElem?_append_right (by omega), Nat.add_sub_cancel_left]; exact z1
    have i2 : (pre ++ eh ys)[pre.length + (2 * j + 1)]? = some (C, d, t) := by rw [List.getElem?_append_right (by omega), Nat.add_sub_cancel_left]; exact z2
    have hI1 := hO2.rows _ (List.mem_of_getElem? i1)
    obtain ⟨p, hp⟩ : ∃ p, p = s.length := ⟨_, rfl⟩
    obtain ⟨r, hr⟩ : ∃ r, r = t.length := ⟨_, rfl⟩
    have hC1 := markIntS_any B b s (K + 2) W2 hI1 (by omega)
    have hC2 := fun (W : World) (hI : IS W C d t) => markIntS_any C d t (K + 2 + p) W hI (by omega)
    simp only [← hp] at hC1 q2 hKb
    simp only [← hr] at hC2 hKb
    have hjI : (j : Int) < (m : Int) := by omega
    have f0 := g0 (j * 4)
    have hBfp : ∀ x, x ∈ fpA B → x ∈ fpR (eh ys) := fun x hx => mem_fpR.2 ⟨_, List.mem_of_getElem? z1, hx⟩
    have hCfp : ∀ x, x ∈ fpA C → x ∈ fpR (eh ys) := fun x hx => mem_fpR.2 ⟨_, List.mem_of_getElem? z2, hx⟩
    have hfeq := fpR_map hfe
    have hBA : ∀ x, x ∈ fpA B → ¬ x ∈ fpA (some ad) := hO2.outer _ (List.mem_of_getElem? i1)
    rw [← hK]
    have eK1 : ((K : Int) + 1) = ((K + 1 : Nat) : Int) := by omega
    have eK2 : ((K : Int) + 1 + 1) = ((K + 2 : Nat) : Int) := by omega
    clear g0 g1 y0 y1 y2 y3 sl1 his hO hset2 hI1 hyl hcl hcs; have hC1_h := lH hC1; have hC2_h := lH hC2; have hp_h := lH hp; have hr_h := lH hr; have hK_h := lH hK; have hye_h := lH hye; have hy_h := lH hy; have hLj_h := lH hLj; have hkB_h := lH hkB; have hO2_h := lH hO2; have sl2_h := lH sl2; have i1_h := lH i1; have i2_h := lH i2; have z1_h := lH z1; have z2_h := lH z2; have hBfp_h := lH hBfp; have hCfp_h := lH hCfp; have hfeq_h := lH hfeq; have hfe_h := lH hfe; have hkp_h := lH hkp; have hel_h := lH hel; have hBA_h := lH hBA; have eK1_h := lH eK1; have eK2_h := lH eK2; clear hC1 hC2 hp hr hK hye hy hLj hkB hO2 sl2 i1 i2 z1 z2 hBfp hCfp hfeq hfe hkp hel hBA eK1 eK2
    go_upto_region 5 with (fail)
    rw [← hW1]
    clear hW1
    go_upto_region 7 with (fail)
    rw [eK1_h.out, ← hW2]
    clear hW2 q0 q1 q1f f0
    go_wp2_with (fail)
    rw [eK2_h.out]
    refine (hC1_h.out).mono ?_
    rintro e w3 ⟨rfl, hI3, hk3⟩
    have hO3 := hO2_h.out.wr i1_h.out hk3 hI3
    have sl3 := sl2_h.out.keeps hk3 (fun x hx hx' => hBA_h.out x hx' hx)
    have i3 : ((pre ++ eh ys).set (pre.length + 2 * j) (B, b, marks (K + 2) p))[pre.length + (2 * j + 1)]? = some (C, d, t) := by
     rw [List.getElem?_set_ne (by omega)]; exact i2_h.out
    have hI4 := hO3.rows _ (List.mem_of_getElem? i3)
    have hjl : j < ys.length := (List.getElem?_eq_some_iff.1 hy_h.out).1
    have q3 : w3.cell? ⟨(ad.add (j * 4)).block, (ad.add (j * 4)).off + 3, none⟩ = some (.slice C r d) := by
     have e := (ecs_get (l := ys.set j ((K : Int), ((K + 1 : Nat) : Int), (B, b, s), (C, d, t))) (j := j) (n := ((K : Int), ((K + 1 : Nat) : Int), (B, b, s), (C, d, t))) (by rw [List.getElem?_set_self hjl])).2.2.2
     obtain ⟨ad', hA', _, hc, _⟩ := Sl.cell sl3 e
     obtain rfl := Option.some.inj hA'
     rw [add_next _ _ 3 (by omega)] at hc
     rw [hr_h.out]; exact hc
    have hC4 := hC2_h.out w3 hI4
    have hk3' := hkB_h.out.trans (Keeps.of_below (Below.refl _ _) _)
    clear q2 hI3 hI4; have hO3_h := lH hO3; have sl3_h := lH sl3; have i3_h := lH i3; have hC4_h := lH hC4; have hk3_h := lH hk3; clear hO3 sl3 i3 hC4 hk3
    go_wp2_with (fail)
    refine (hC4_h.out).mono ?_
    rintro e w4 ⟨rfl, hI5, hk5⟩
    have hO5 := hO3_h.out.wr i3_h.out hk5 hI5
    have hCA : ∀ x, x ∈ fpA C → ¬ x ∈ fpA (some ad) := hO3_h.out.outer _ (List.mem_of_getElem? i3_h.out)
    have sl5 := sl3_h.out.keeps hk5 (fun x hx hx' => hCA x hx' hx)
    have hys : ecs (ys.set j ((K : Int), ((K + 1 : Nat) : Int), (B, b, s), (C, d, t))) = ecs (ys.set j ((K : Int), ((K + 1 : Nat) : Int), (B, b, marks (K + 2) p), (C, d, marks (K + 2 + p) r))) := ecs_congr (by simp only [ec, Hd.val, marks_length]; rw [← hp_h.out, ← hr_h.out])
    rw [hys] at sl5
    have hOe : ((pre ++ eh ys).set (pre.length + 2 * j) (B, b, marks (K + 2) p)).set (pre.length + (2 * j + 1)) (C, d, marks (K + 2 + p) r) = pre ++ eh (ys.set j ((K : Int), ((K + 1 : Nat) : Int), (B, b, marks (K + 2) p), (C, d, marks (K + 2 + p) r))) := by
     rw [List.set_append_right _ _ (by omega), List.set_append_right _ _ (by omega), Nat.add_sub_cancel_left, Nat.add_sub_cancel_left, ← eh_set _ hjl]
    rw [hOe] at hO5
    have hfe2 : (eh (ys.set j ((K : Int), ((K + 1 : Nat) : Int), (B, b, marks (K + 2) p), (C, d, marks (K + 2 + p) r)))).map (·.1) = (eh l).map (·.1) := by
     rw [← eh_set _ hjl, set_fst (l := t) (by rw [List.getElem?_set_ne (by omega)]; exact z2_h.out), set_fst z1_h.out, hfe_h.out]
    have hye2 : (ys.set j ((K : Int), ((K + 1 : Nat) : Int), (B, b, marks (K + 2) p), (C, d, marks (K + 2 + p) r))).map egOf = (marksE k L).take (j + 1) ++ L.drop (j + 1) := by
     rw [List.map_set, hye_h.out]
     have e := take_append_step (l := marksE k L) (m := L) (k := j) (by rw [marksE_length]) (marksE_get hLj_h.out)
     rw [← hK_h.out] at e
     rw [← e, hp_h.out, hr_h.out]; rfl
    have hkf : Keeps (· ∈ fpA (some ad) ++ fpR (eh l)) w w4 := by
     refine ((hkp_h.out.trans (hkB_h.out.mono fun x _ hx => List.mem_append_left _ hx)).trans (hk3_h.out.mono fun x _ hx => ?_)).trans (hk5.mono fun x _ hx => ?_)
     · rw [← hfeq_h.out]; exact List.mem_append_right _ (hBfp_h.out x hx)
     · rw [← hfeq_h.out]; exact List.mem_append_right _ (hCfp_h.out x hx)
    have hcs2 : k + cntE (L.take (j + 1)) = K + 2 + p + r := by
     have e1 : cntE (L.take (j + 1)) = cntE (L.take j) + (2 + s.length + t.length) := cntE_take_succ hLj_h.out
     have := hK_h.out; have := hp_h.out; have := hr_h.out; omega
    have hyl2 : ys.length = m := by have := hel_h.out; rw [ecs_length] at this; omega
    clear hI5 hk5 hCA hys hOe q3; have hO5_h := lH hO5; have sl5_h := lH sl5; have hfe2_h := lH hfe2; have hye2_h := lH hye2; have hkf_h := lH hkf; have hcs2_h := lH hcs2; have hyl2_h := lH hyl2; clear hO5 sl5 hfe2 hye2 hkf hcs2 hyl2
    go_wp2_with (fail)
    go_roundw
    case rel => exact ⟨j + 1, _, by omega, by go_num, by rw [hcs2_h.out]; go_num, by rw [List.length_set]; exact hyl2_h.out, hye2_h.out, sl5_h.out, hO5_h.out, hfe2_h.out, hkf_h.out⟩
    case measure => simp [intOf]; omega
  · obtain rfl : m = j := by omega
    have hye2 : ys.map egOf = marksE k L := by
     rw [hye, List.take_of_length_le (by rw [marksE_length, hLm_h.out]; exact Nat.le_refl _), List.drop_of_length_le (by rw [hLm_h.out]; exact Nat.le_refl _), List.append_nil]
    have hcn : cntE (L.take m) = cntE L := by rw [List.take_of_length_le (by rw [hLm_h.out]; exact Nat.le_refl _)]
    have hye2_h := lH hye2; have hcn_h := lH hcn; have hyl_h := lH hyl; have his_h := lH his; have hO_h := lH hO; have hfe_h := lH hfe; have hkp_h := lH hkp; clear hye2 hcn hyl his hO hfe hkp; clear hye
    go_wp2_with (fail)
    go_ret
    exact ⟨ret_int (by rw [hcn_h.out]), ys, hyl_h.out, hye2_h.out, his_h.out, hO_h.out, hfe_h.out, hkp_h.out.mono fun x _ hx => List.mem_append.1 hx⟩
set_option maxRecDepth 100000 in
set_option maxHeartbeats 2000000 in
theorem eqGraph_law {v v' : Value} {g g' : Gr} {w : World} (h : RdGr w v g) (h' : RdGr w v' g') (ok : OkG g) :
  Calls Tryd.prog 9 #[v, v'] w fun e w' => e = .returned (.bool (decide (g = g'))) ∧ Below w.heap.size w w' := by
 obtain ⟨A, c, hs, ⟨B, b, s⟩, ⟨C, d, t⟩, rfl, e1, e2, e3, hE, hRa, hRb⟩ := h
 obtain ⟨A', c', hs', ⟨B', b', s'⟩, ⟨C', d', t'⟩, rfl, e1', e2', e3', hE', hRa', hRb'⟩ := h'
 obtain ⟨z, es, s0, t0⟩ := g
 obtain ⟨z', es', s0', t0'⟩ := g'
 have a1 : es = hs.map egOf := e1
 have a2 : s = s0 := e2
 have a3 : t = t0 := e3
 have b1 : es' = hs'.map egOf := e1'
 have b2 : s' = s0' := e2'
 have b3 : t' = t0' := e3'
 subst a1 a2 a3 b1 b2 b3
 obtain ⟨⟨ok1, ok2, ok3⟩, ok4, -⟩ := ok
 have ok1' : hs.length ≤ 1048576 := by have : (hs.map egOf).length ≤ 1048576 := ok1; simpa using this
 have ok2' : s.length ≤ 1048576 := ok2
 have ok3' : t.length ≤ 1048576 := ok3
 have hQ0 := fun (W : World) (hb : Below w.heap.size w W) => eqEdgeS_any A A' c c' hs hs' W (hE.below hb) (hE'.below hb) ok1' (fun x hx => ok4 _ (List.mem_map_of_mem hx))
 have hQ1 := fun (W : World) (hb : Below w.heap.size w W) => eqIntS_any B B' b b' s s' W (RdI.below hRa hb) (RdI.below hRa' hb) (by omega)
 have hQ2 := fun (W : World) (hb : Below w.heap.size w W) => eqIntS_any C C' d d' t t' W (RdI.below hRb hb) (RdI.below hRb' hb) (by omega)
 show Calls Tryd.prog _ #[.agg #[.int .i64 z, .slice A hs.length c, .slice B s.length b, .slice C t.length d], .agg #[.int .i64 z', .slice A' hs'.length c', .slice B' s'.length b', .slice C' t'.length d']] w fun e w' => e = .returned (.bool (decide (((z, hs.map egOf, s, t) : Gr) = (z', hs'.map egOf, s', t')))) ∧ Below w.heap.size w w'
 obtain ⟨D, hD⟩ : ∃ D, D = decide (((z, hs.map egOf, s, t) : Gr) = (z', hs'.map egOf, s', t')) := ⟨_, rfl⟩
 obtain ⟨D0, hD0⟩ : ∃ D, D = decide (hs.map egOf = hs'.map egOf) := ⟨_, rfl⟩
 obtain ⟨D1, hD1⟩ : ∃ D, D = decide (s = s') := ⟨_, rfl⟩
 obtain ⟨D2, hD2⟩ : ∃ D, D = decide (t = t') := ⟨_, rfl⟩
 rw [← hD]
 simp only [← hD0] at hQ0
 simp only [← hD1] at hQ1
 simp only [← hD2] at hQ2
 have hDD : D = (decide (z = z') && (D0 && (D1 && D2))) := by
  rw [hD, hD0, hD1, hD2, Bool.eq_iff_iff]; simp
 obtain ⟨n, hn⟩ : ∃ n, n = hs.length := ⟨_, rfl⟩
 obtain ⟨n', hn'⟩ : ∃ n, n = hs'.length := ⟨_, rfl⟩
 obtain ⟨p, hp⟩ : ∃ p, p = s.length := ⟨_, rfl⟩
 obtain ⟨q, hq⟩ : ∃ q, q = t.length := ⟨_, rfl⟩
 obtain ⟨p', hp'⟩ : ∃ p, p = s'.length := ⟨_, rfl⟩
 obtain ⟨q', hq'⟩ : ∃ q, q = t'.length := ⟨_, rfl⟩
 simp only [← hn, ← hn'] at hQ0
 simp only [← hp, ← hp'] at hQ1
 simp only [← hq, ← hq'] at hQ2
 rw [← hn, ← hn', ← hp, ← hq, ← hp', ← hq']
 obtain ⟨W, hW, bW, k0, k1⟩ := allocs2 w (.cells #[.int .i64 z, .slice A n c, .slice B p b, .slice C q d] tGr) (.cells #[.int .i64 z', .slice A' n' c', .slice B' p' b', .slice C' q' d'] tGr)
 obtain ⟨⟨c0, c1, c2, c3⟩, f0, f1, f2, f3⟩ := t_box4 k0
 obtain ⟨⟨d0, d1, d2, d3⟩, g0, g1, g2, g3⟩ := t_box4 k1
 clear hE hE' hRa hRa' hRb hRb' hD hD0 hD1 hD2 hn hn' hp hq hp' hq' e1 e2 e3 e1' e2' e3' ok1 ok2 ok3 ok4
 by_cases e0 : z = z'
 · have t0 : (z != z') = false := by simp [e0]
   rw [decide_eq_true e0] at hDD
   cases D0
   · obtain rfl : D = false := by rw [hDD]; rfl
     clear e0 hDD; have hQ0_h := lH hQ0; have hQ1_h := lH hQ1; have hQ2_h := lH hQ2; have k0_h := lH k0; have k1_h := lH k1; have bW_h := lH bW; clear hQ0 hQ1 hQ2 k0 k1 bW
     go_enter Tryd.func9, Tryd.ntmps9
     go_upto_region 1 with (fail)
     rw [← hW]
     clear hW
     go_wp2_with (fail)
     refine (hQ0_h.out W bW_h.out).mono ?_
     rintro e w1 ⟨rfl, hb1⟩
     go_wp2_with (fail)
     go_ret
     exact ⟨rfl, below_trans bW_h.out hb1 bW_h.out.size⟩
   · cases D1
     · obtain rfl : D = false := by rw [hDD]; rfl
       clear e0 hDD; have hQ0_h := lH hQ0; have hQ1_h := lH hQ1; have hQ2_h := lH hQ2; have k0_h := lH k0; have k1_h := lH k1; have bW_h := lH bW; clear hQ0 hQ1 hQ2 k0 k1 bW
       go_enter Tryd.func9, Tryd.ntmps9
       go_upto_region 1 with (fail)
       rw [← hW]
       clear hW
       go_wp2_with (fail)
       refine (hQ0_h.out W bW_h.out).mono ?_
       rintro e w1 ⟨rfl, hb1⟩
       clear c0 c1 c2 c3 f0 f1 f2 f3 d0 d1 d2 d3 g0 g1 g2 g3
       obtain ⟨⟨c0, c1, c2, c3⟩, f0, f1, f2, f3⟩ := t_box4 (t_box_below k0_h.out hb1)
       obtain ⟨⟨d0, d1, d2, d3⟩, g0, g1, g2, g3⟩ := t_box4 (t_box_below k1_h.out hb1)
       have hB1 := below_trans bW_h.out hb1 bW_h.out.size
       clear hb1; have hB1_h := lH hB1; clear hB1
       go_wp2_with (fail)
       refine (hQ1_h.out w1 hB1_h.out).mono ?_
       rintro e w2 ⟨rfl, hq2⟩
       have hB2 := below_trans hB1_h.out hq2.below hB1_h.out.size
       clear hq2; have hB2_h := lH hB2; clear hB2
       go_wp2_with (fail)
       go_ret
       exact ⟨rfl, hB2_h.out⟩
     · obtain rfl : D = D2 := by rw [hDD]; rfl
       clear e0 hDD; have hQ0_h := lH hQ0; have hQ1_h := lH hQ1; have hQ2_h := lH hQ2; have k0_h := lH k0; have k1_h := lH k1; have bW_h := lH bW; clear hQ0 hQ1 hQ2 k0 k1 bW
       go_enter Tryd.func9, Tryd.ntmps9
       go_upto_region 1 with (fail)
       rw [← hW]
       clear hW
       go_wp2_with (fail)
       refine (hQ0_h.out W bW_h.out).mono ?_
       rintro e w1 ⟨rfl, hb1⟩
       clear c0 c1 c2 c3 f0 f1 f2 f3 d0 d1 d2 d3 g0 g1 g2 g3
       have k0a := t_box_below k0_h.out hb1
       have k1a := t_box_below k1_h.out hb1
       obtain ⟨⟨c0, c1, c2, c3⟩, f0, f1, f2, f3⟩ := t_box4 k0a
       obtain ⟨⟨d0, d1, d2, d3⟩, g0, g1, g2, g3⟩ := t_box4 k1a
       have hB1 := below_trans bW_h.out hb1 bW_h.out.size
       clear hb1; have hB1_h := lH hB1; have k0a_h := lH k0a; have k1a_h := lH k1a; clear hB1 k0a k1a
       go_wp2_with (fail)
       refine (hQ1_h.out w1 hB1_h.out).mono ?_
       rintro e w2 ⟨rfl, hq2⟩
       clear c0 c1 c2 c3 f0 f1 f2 f3 d0 d1 d2 d3 g0 g1 g2 g3
       obtain ⟨⟨c0, c1, c2, c3⟩, f0, f1, f2, f3⟩ := t_box4 (box_qt k0a_h.out hq2)
       obtain ⟨⟨d0, d1, d2, d3⟩, g0, g1, g2, g3⟩ := t_box4 (box_qt k1a_h.out hq2)
       have hB2 := below_trans hB1_h.out hq2.below hB1_h.out.size
       clear hq2; have hB2_h := lH hB2; clear hB2
       go_wp2_with (fail)
       refine (hQ2_h.out w2 hB2_h.out).mono ?_
       rintro e w3 ⟨rfl, hq3⟩
       have hB3 := below_trans hB2_h.out hq3.below hB2_h.out.size
       clear hq3; have hB3_h := lH hB3; clear hB3
       cases D
       · go_wp2_with (fail)
         go_ret
         exact ⟨rfl, hB3_h.out⟩
       · go_wp2_with (fail)
         go_ret
         exact ⟨rfl, hB3_h.out⟩
 · have t0 : (z != z') = true := by simp [e0]
   obtain rfl : D = false := by rw [hDD, decide_eq_false e0]; rfl
   clear e0 hDD; have hQ0_h := lH hQ0; have hQ1_h := lH hQ1; have hQ2_h := lH hQ2; have k0_h := lH k0; have k1_h := lH k1; have bW_h := lH bW; clear hQ0 hQ1 hQ2 k0 k1 bW
   go_enter Tryd.func9, Tryd.ntmps9
   go_upto_region 1 with (fail)
   rw [← hW]
   clear hW
   go_wp2_with (fail)
   go_ret
   exact ⟨rfl, bW_h.out⟩
theorem alloc_box1 (w : World) (o : Obj) : ∃ W, W = w.alloc o ∧ Below w.heap.size w W ∧ W.heap[w.heap.size]? = some o := ⟨_, rfl, t_below_alloc _ _, heap_alloc_new _ _⟩
set_option maxRecDepth 100000 in
set_option maxHeartbeats 2000000 in
theorem markGraph_law {v : Value} {g : Gr} {fp : List Nat} {K : Int} {w : World} (k : Nat) (h : OwGr w v g fp) (hK : K = (k : Int)) (_ok : OkG g) (hl : k + cntG g ≤ 17592186044000 ∧ 0 < k) :
  Calls Tryd.prog 10 #[v, .int .i64 K] w fun e w' => e = .returned (.int .i64 (K + (cntG g : Int))) ∧ HeGr w' v g k fp ∧ Keeps (· ∈ fp) w w' := by
 subst hK
 obtain ⟨A, c, hs, ⟨B, b, s⟩, ⟨C, d, t⟩, rfl, e1, e2, e3, hsl, hO, rfl⟩ := h
 obtain ⟨z, es, s0, t0⟩ := g
 have a1 : es = hs.map egOf := e1
 have a2 : s = s0 := e2
 have a3 : t = t0 := e3
 subst a1 a2 a3
 obtain ⟨⟨ok1, -, -⟩, -, -⟩ := _ok
 have ok1' : hs.length ≤ 1048576 := by have : (hs.map egOf).length ≤ 1048576 := ok1; simpa using this
 obtain ⟨E, hE⟩ : ∃ E, E = cntE (hs.map egOf) := ⟨_, rfl⟩
 obtain ⟨n, hn⟩ : ∃ n, n = hs.length := ⟨_, rfl⟩
 obtain ⟨p, hp⟩ : ∃ p, p = s.length := ⟨_, rfl⟩
 obtain ⟨q, hq⟩ : ∃ q, q = t.length := ⟨_, rfl⟩
 have hcg : cntG (z, hs.map egOf, s, t) = E + p + q := by rw [hE, hp, hq]; rfl
 rw [hcg] at hl ⊢
 have hl2 : k + (E + p + q) ≤ 17592186044000 := hl.1
 obtain ⟨W, hW, bW, k0⟩ := alloc_box1 w (.cells #[.int .i64 z, .slice A n c, .slice B p b, .slice C q d] tGr)
 have hC0 := markEdgeS_any A c n hs [(B, b, s), (C, d, t)] k W (by rw [hn]; exact hsl.below bW) (hO.below bW) hn.symm (by omega) (by rw [← hE]; omega)
 rw [← hE] at hC0
 have hC1 := fun (W' : World) (hI : IS W' B b s) => markIntS_any B b s (k + E) W' hI (by omega)
 have hC2 := fun (W' : World) (hI : IS W' C d t) => markIntS_any C d t (k + E + p) W' hI (by omega)
 simp only [← hp] at hC1
 simp only [← hq] at hC2
 show Calls Tryd.prog _ #[.agg #[.int .i64 z, .slice A hs.length c, .slice B s.length b, .slice C t.length d], .int .i64 (k : Int)] w fun e w' => e = .returned (.int .i64 ((k : Int) + ((E + p + q : Nat) : Int))) ∧ HeGr w' (.agg #[.int .i64 z, .slice A hs.length c, .slice B s.length b, .slice C t.length d]) (z, hs.map egOf, s, t) k (fpA A ++ fpR ((B, b, s) :: (C, d, t) :: eh hs)) ∧ Keeps (· ∈ fpA A ++ fpR ((B, b, s) :: (C, d, t) :: eh hs)) w w'
 have hlt : ∀ x, x ∈ fpA A ++ fpR (((B, b, s) : Hd) :: (C, d, t) :: eh hs) → x < w.heap.size := fun x hx => by
  rcases List.mem_append.1 hx with hx | hx
  · exact hsl.lt x hx
  · exact hO.lt x hx
 obtain ⟨fp, hfp⟩ : ∃ fp, fp = fpA A ++ fpR (((B, b, s) : Hd) :: (C, d, t) :: eh hs) := ⟨_, rfl⟩
 have hsub : ∀ x, x ∈ fpA A ++ fpR (eh hs) → x ∈ fp := fun x hx => by
  rw [hfp, fpR_cons, fpR_cons]; simp only [List.mem_append] at hx ⊢; rcases hx with h | h <;> simp [h]
 have hsubB : ∀ x, x ∈ fpA B → x ∈ fp := fun x hx => by rw [hfp, fpR_cons]; simp [hx]
 have hsubC : ∀ x, x ∈ fpA C → x ∈ fp := fun x hx => by rw [hfp, fpR_cons, fpR_cons]; simp [hx]
 rw [← hfp] at hlt ⊢
 obtain ⟨⟨c0, c1, c2, c3⟩, f0, f1, f2, f3⟩ := t_box4 k0
 rw [← hn, ← hp, ← hq]
 obtain ⟨R1, hR1⟩ : ∃ R : Nat, R = k + E + p := ⟨_, rfl⟩
 obtain ⟨R2, hR2⟩ : ∃ R : Nat, R = k + E + p + q := ⟨_, rfl⟩
 simp only [← hR1] at hC1 hC2
 have hRR : R1 + q = R2 := by omega
 rw [hRR] at hC2
 have hfin : (k : Int) + ((E + p + q : Nat) : Int) = (R2 : Int) := by omega
 rw [hfin]
 obtain ⟨R0, hR0⟩ : ∃ R : Nat, R = k + E := ⟨_, rfl⟩
 simp only [← hR0] at hC0 hC1
 clear hsl hO hl hl2 ok1 ok1' e1 e2 e3 hcg hfin; have hC0_h := lH hC0; have hC1_h := lH hC1; have hC2_h := lH hC2; have hE_h := lH hE; have hn_h := lH hn; have hp_h := lH hp; have hq_h := lH hq; have bW_h := lH bW; have k0_h := lH k0; have hlt_h := lH hlt; have hfp_h := lH hfp; have hsub_h := lH hsub; have hsubB_h := lH hsubB; have hsubC_h := lH hsubC; have hR0_h := lH hR0; have hR1_h := lH hR1; have hR2_h := lH hR2; have hRR_h := lH hRR; clear hC0 hC1 hC2 hE hn hp hq bW k0 hlt hfp hsub hsubB hsubC hR0 hR1 hR2 hRR
 go_enter Tryd.func10, Tryd.ntmps10
 go_upto_region 1 with (fail)
 rw [← hW]
 clear hW
 go_wp2_with (fail)
 refine (hC0_h.out).mono ?_
 rintro e w1 ⟨ys, rfl, hyl, hye, hsl1, hO1, hfe, hk1⟩
 clear c0 c1 c2 c3 f0 f1 f2 f3
 have k1 := t_box_keeps k0_h.out hk1 (fun hx => by have := hlt_h.out _ (hsub_h.out _ hx); omega)
 obtain ⟨⟨c0, c1, c2, c3⟩, f0, f1, f2, f3⟩ := t_box4 k1
 have hC1' := hC1_h.out w1 (hO1.rows (B, b, s) (by simp))
 have hyl_h := lH hyl; have hye_h := lH hye; have hsl1_h := lH hsl1; have hO1_h := lH hO1; have hfe_h := lH hfe; have hk1_h := lH hk1; have k1_h := lH k1; have hC1'_h := lH hC1'; clear hyl hye hsl1 hO1 hfe hk1 k1 hC1'
 go_wp2_with (fail)
 refine (hC1'_h.out).mono ?_
 rintro e w2 ⟨rfl, hI2, hk2⟩
 clear c0 c1 c2 c3 f0 f1 f2 f3
 have k2 := t_box_keeps k1_h.out hk2 (fun hx => by have := hlt_h.out _ (hsubB_h.out _ hx); omega)
 obtain ⟨⟨c0, c1, c2, c3⟩, f0, f1, f2, f3⟩ := t_box4 k2
 have hO2 := hO1_h.out.wr (i := 0) (B := B) (c := b) (l := s) rfl hk2 hI2
 have hsl2 := hsl1_h.out.keeps hk2 (fun x hx hx' => hO1_h.out.outer (B, b, s) (by simp) x hx' hx)
 have hC2' := hC2_h.out w2 (hO2.rows (C, d, t) (by simp))
 clear k2 hI2; have hO2_h := lH hO2; have hsl2_h := lH hsl2; have hk2_h := lH hk2; have hC2'_h := lH hC2'; clear hO2 hsl2 hk2 hC2'
 go_wp2_with (fail)
 refine (hC2'_h.out).mono ?_
 rintro e w3 ⟨rfl, hI3, hk3⟩
 have hO3 := hO2_h.out.wr (i := 1) (B := C) (c := d) (l := t) rfl hk3 hI3
 have hsl3 := hsl2_h.out.keeps hk3 (fun x hx hx' => hO2_h.out.outer (C, d, t) (by simp) x hx' hx)
 have hkf : Keeps (· ∈ fp) w w3 := (((Keeps.of_below bW_h.out _).trans (hk1_h.out.mono fun x _ hx => hsub_h.out x hx)).trans (hk2_h.out.mono fun x _ hx => hsubB_h.out x hx)).trans (hk3.mono fun x _ hx => hsubC_h.out x hx)
 have hHe : HeGr w3 (.agg #[.int .i64 z, .slice A n c, .slice B p b, .slice C q d]) (z, hs.map egOf, s, t) k fp := by
  refine ⟨A, c, ys, (B, b, marks R0 p), (C, d, marks R1 q), ?_, hye_h.out.symm, ?_, ?_, ?_, hO3, ?_⟩
  · rw [hyl_h.out]; simp only [marks_length]; rfl
  · show marks R0 p = marks (k + cntE (hs.map egOf)) s.length
    rw [← hE_h.out, ← hp_h.out, hR0_h.out]
  · show marks R1 q = marks (k + cntE (hs.map egOf) + s.length) t.length
    rw [← hE_h.out, ← hp_h.out, ← hq_h.out, hR1_h.out]
  · rw [hyl_h.out]; exact hsl3
  · rw [hfp_h.out]
    congr 1
    exact fpR_map (by simp only [List.map_cons]; rw [hfe_h.out])
 clear c0 c1 c2 c3 f0 f1 f2 f3 hI3 hk3 hO3 hsl3; have hkf_h := lH hkf; have hHe_h := lH hHe; clear hkf hHe
 go_wp2_with (fail)
 go_ret
 exact ⟨rfl, hHe_h.out, hkf_h.out⟩
end Go.Proofs.YtpkmjenoniedjaaDoor
namespace Go.Proofs.YtpkmjenoniedjaaDoor
open Go.ChangeShapes Go.WideShapes Go.ChangeAt Go.RowKit
set_option maxHeartbeats 40000000 in
set_option maxRecDepth 100000 in
theorem lawSystemOfGraph_any (p : Int) (vg : Value) (g : Gr) (w : World) (hg : RdGr w vg g) (hgg : BigGraph g) (_lop : -9223372036854775808 ≤ p) (_hip : p ≤ 9223372036854775807) (hT : Tab w) :
  Calls Tryd.prog 3 #[.int .i64 p, vg] w fun e w' => e = .returned (.bool true) ∧ Below w.heap.size w w' := by
 obtain ⟨Ag, ng, cg, Bg, mg, dg, Cg, kg, eg, rfl⟩ := hg.shape
 obtain ⟨Sg, hSg⟩ : ∃ S, S = szG (g) 1048576 := ⟨_, rfl⟩
 have HSg := lH hSg; clear hSg
 have hB0 : Below w.heap.size w w := Below.refl _ _
 have hb1 := below_alloc (w) (.cells #[.int .i64 (g).1, .slice Ag ng cg, .slice Bg mg dg, .slice Cg kg eg] 25)
 have hB1 := below_trans hB0 hb1 hB0.size
 have bx1 := heap_alloc_new (w) (.cells #[.int .i64 (g).1, .slice Ag ng cg, .slice Bg mg dg, .slice Cg kg eg] 25)
 have lt_pg : LtL ((w).alloc (.cells #[.int .i64 (g).1, .slice Ag ng cg, .slice Bg mg dg, .slice Cg kg eg] 25)).heap.size [(w).heap.size] := fun b hb => by obtain rfl := List.mem_singleton.1 hb; exact box_lt bx1
 have fr_pg : FreshL (w).heap.size [(w).heap.size] := fun b hb => by obtain rfl := List.mem_singleton.1 hb; exact Nat.le_refl _
 have BX_pg_1 := lH bx1; clear bx1
 by_cases negg : Sg < 0
 case pos =>
  go_enter Tryd.func3, Tryd.ntmps3
  obtain ⟨⟨c1_0, c1_1, c1_2, c1_3⟩, f1_0, f1_1, f1_2, f1_3⟩ := box4 BX_pg_1.out
  go_wp2_with (fail)
  refine (szGraph_law 1048576 (hg.below hB1) hgg (by omega) (by omega)).mono ?_
  rintro e w2 ⟨he2, hb2⟩
  have hB2 := below_trans hB1 hb2 hB1.size
  clear c1_0 c1_1 c1_2 c1_3 f1_0 f1_1 f1_2 f1_3
  rw [← HSg.out] at he2
  subst he2
  go_wp2_with (fail)
  go_ret
  exact ⟨rfl, hB2⟩
 have sokg := szG_ok (by rw [← HSg.out]; omega : 0 ≤ szG (g) 1048576) (by omega)
 have okg := sokg.1
 have sleg : Sg ≤ 1048576 := by rw [HSg.out]; exact sokg.2
 clear sokg
 go_enter Tryd.func3, Tryd.ntmps3
 obtain ⟨⟨c2_0, c2_1, c2_2, c2_3⟩, f2_0, f2_1, f2_2, f2_3⟩ := box4 BX_pg_1.out
 go_wp2_with (fail)
 refine (szGraph_law 1048576 (hg.below hB1) hgg (by omega) (by omega)).mono ?_
 rintro e w2 ⟨he2, hb2⟩
 have hB2 := below_trans hB1 hb2 hB1.size
 clear c2_0 c2_1 c2_2 c2_3 f2_0 f2_1 f2_2 f2_3
 rw [← HSg.out] at he2
 subst he2
 have F3_pg_2 := lH (box_below BX_pg_1.out hb2)
 clear BX_pg_1
 obtain ⟨⟨c4_0, c4_1, c4_2, c4_3⟩, f4_0, f4_1, f4_2, f4_3⟩ := box4 F3_pg_2.out
 go_wp2_with (fail)
 refine (toGraph_law (hg.below hB2) okg).mono ?_
 rintro e w3 ⟨v3, fp3, rfl, o3, fr3, hb3⟩
 have hB3 := below_trans hB2 hb3 hB2.size
 clear c4_0 c4_1 c4_2 c4_3 f4_0 f4_1 f4_2 f4_3
 obtain ⟨A3, n3, c3, B3, m3, d3, C3, k3, e3, rfl⟩ := o3.shape
 have lt_ag := o3.lt
 go_wp2_with (fail)
 refine (sSystemOfGraph_law p o3.rd okg).mono ?_
 rintro e w4 ⟨v4_0, fp4_0, rfl, o4r0, fr4_0, hb4⟩
 have hB4 := below_trans hB3 hb4 hB3.size
 obtain ⟨A4_0, n4_0, c4_0, rfl⟩ := o4r0.shape
 have lt_W0 := o4r0.lt
 have hb5 := below_alloc (w4) (.cells #[.int .i64 ((sgM p g).1).1, .int .i64 ((sgM p g).1).2.1, .slice A4_0 n4_0 c4_0] 29)
 have hB5 := below_trans hB4 hb5 hB4.size
 have bx5 := heap_alloc_new (w4) (.cells #[.int .i64 ((sgM p g).1).1, .int .i64 ((sgM p g).1).2.1, .slice A4_0 n4_0 c4_0] 29)
 have lt_bW0 : LtL ((w4).alloc (.cells #[.int .i64 ((sgM p g).1).1, .int .i64 ((sgM p g).1).2.1, .slice A4_0 n4_0 c4_0] 29)).heap.size [(w4).heap.size] := fun b hb => by obtain rfl := List.mem_singleton.1 hb; exact box_lt bx5
 have fr_bW0 : FreshL (w4).heap.size [(w4).heap.size] := fun b hb => by obtain rfl := List.mem_singleton.1 hb; exact Nat.le_refl _
 have BX_bW0_5 := lH bx5; clear bx5
 have F5_pg_3 := lH (box_below F3_pg_2.out hb3)
 clear F3_pg_2
 have F6_pg_4 := lH (box_below F5_pg_3.out hb4)
 clear F5_pg_3
 have F7_pg_5 := lH (box_below F6_pg_4.out hb5)
 clear F6_pg_4
 obtain ⟨⟨c8_0, c8_1, c8_2, c8_3⟩, f8_0, f8_1, f8_2, f8_3⟩ := box4 F7_pg_5.out
 go_wp2_with (fail)
 refine (toGraph_law (hg.below hB5) okg).mono ?_
 rintro e w6 ⟨v6, fp6, rfl, o6, fr6, hb6⟩
 have hB6 := below_trans hB5 hb6 hB5.size
 clear c8_0 c8_1 c8_2 c8_3 f8_0 f8_1 f8_2 f8_3
 obtain ⟨A6, n6, c6, B6, m6, d6, C6, k6, e6, rfl⟩ := o6.shape
 have lt_xg := o6.lt
 have hb7 := below_alloc (w6) (.cells #[.int .i64 (g).1, .slice A6 n6 c6, .slice B6 m6 d6, .slice C6 k6 e6] 34)
 have hB7 := below_trans hB6 hb7 hB6.size
 have bx7 := heap_alloc_new (w6) (.cells #[.int .i64 (g).1, .slice A6 n6 c6, .slice B6 m6 d6, .slice C6 k6 e6] 34)
 have lt_bxg : LtL ((w6).alloc (.cells #[.int .i64 (g).1, .slice A6 n6 c6, .slice B6 m6 d6, .slice C6 k6 e6] 34)).heap.size [(w6).heap.size] := fun b hb => by obtain rfl := List.mem_singleton.1 hb; exact box_lt bx7
 have fr_bxg : FreshL (w6).heap.size [(w6).heap.size] := fun b hb => by obtain rfl := List.mem_singleton.1 hb; exact Nat.le_refl _
 have BX_bxg_7 := lH bx7; clear bx7
 have F9_xg_7 := o6.below hb7
 clear o6
 obtain ⟨⟨c10_0, c10_1, c10_2, c10_3⟩, f10_0, f10_1, f10_2, f10_3⟩ := box4 BX_bxg_7.out
 go_wp2_with (fail)
 refine (iSystemOfGraph_law p F9_xg_7.rd okg (hT.below hB7 hT.lt)).mono ?_
 rintro e w8 ⟨v8_0, fp8_0, rfl, o8r0, fr8_0, hb8⟩
 have hB8 := below_trans hB7 hb8 hB7.size
 clear c10_0 c10_1 c10_2 c10_3 f10_0 f10_1 f10_2 f10_3
 obtain ⟨A8_0, n8_0, c8_0, rfl⟩ := o8r0.shape
 have lt_G0 := o8r0.lt
 have hb9 := below_alloc (w8) (.cells #[.int .i64 ((sgM p g).1).1, .int .i64 ((sgM p g).1).2.1, .slice A8_0 n8_0 c8_0] 29)
 have hB9 := below_trans hB8 hb9 hB8.size
 have bx9 := heap_alloc_new (w8) (.cells #[.int .i64 ((sgM p g).1).1, .int .i64 ((sgM p g).1).2.1, .slice A8_0 n8_0 c8_0] 29)
 have lt_bG0 : LtL ((w8).alloc (.cells #[.int .i64 ((sgM p g).1).1, .int .i64 ((sgM p g).1).2.1, .slice A8_0 n8_0 c8_0] 29)).heap.size [(w8).heap.size] := fun b hb => by obtain rfl := List.mem_singleton.1 hb; exact box_lt bx9
 have fr_bG0 : FreshL (w8).heap.size [(w8).heap.size] := fun b hb => by obtain rfl := List.mem_singleton.1 hb; exact Nat.le_refl _
 have BX_bG0_9 := lH bx9; clear bx9
 have F11_G0_9 := o8r0.below hb9
 clear o8r0
 have F12_W0_5 := o4r0.below hb5
 clear o4r0
 have F13_W0_6 := F12_W0_5.below hb6
 clear F12_W0_5
 have F14_W0_7 := F13_W0_6.below hb7
 clear F13_W0_6
 have F15_W0_8 := F14_W0_7.below hb8
 clear F14_W0_7
 have F16_W0_9 := F15_W0_8.below hb9
 clear F15_W0_8
 obtain ⟨⟨c17_0, c17_1, c17_2⟩, f17_0, f17_1, f17_2⟩ := box3 BX_bG0_9.out
 have F18_bW0_6 := lH (box_below BX_bW0_5.out hb6)
 clear BX_bW0_5
 have F19_bW0_7 := lH (box_below F18_bW0_6.out hb7)
 clear F18_bW0_6
 have F20_bW0_8 := lH (box_below F19_bW0_7.out hb8)
 clear F19_bW0_7
 have F21_bW0_9 := lH (box_below F20_bW0_8.out hb9)
 clear F20_bW0_8
 obtain ⟨⟨c22_0, c22_1, c22_2⟩, f22_0, f22_1, f22_2⟩ := box3 F21_bW0_9.out
 go_wp2_with (fail)
 refine (eqSystem_law F11_G0_9.rd F16_W0_9.rd ((sgM_ok p g))).mono ?_
 rintro e w10 ⟨rfl, hb10⟩
 have hB10 := below_trans hB9 hb10 hB9.size
 clear c17_0 c17_1 c17_2 f17_0 f17_1 f17_2 c22_0 c22_1 c22_2 f22_0 f22_1 f22_2
 rw [decide_eq_true (rfl : (sgM p g).1 = (sgM p g).1)]
 have F23_bxg_8 := lH (box_below BX_bxg_7.out hb8)
 clear BX_bxg_7
 have F24_bxg_9 := lH (box_below F23_bxg_8.out hb9)
 clear F23_bxg_8
 have F25_bxg_10 := lH (box_below F24_bxg_9.out hb10)
 clear F24_bxg_9
 have F26_pg_6 := lH (box_below F7_pg_5.out hb6)
 clear F7_pg_5
 have F27_pg_7 := lH (box_below F26_pg_6.out hb7)
 clear F26_pg_6
 have F28_pg_8 := lH (box_below F27_pg_7.out hb8)
 clear F27_pg_7
 have F29_pg_9 := lH (box_below F28_pg_8.out hb9)
 clear F28_pg_8
 have F30_pg_10 := lH (box_below F29_pg_9.out hb10)
 clear F29_pg_9
 have F31_xg_8 := F9_xg_7.below hb8
 clear F9_xg_7
 have F32_xg_9 := F31_xg_8.below hb9
 clear F31_xg_8
 have F33_xg_10 := F32_xg_9.below hb10
 clear F32_xg_9
 go_wp2_with (fail)
 refine beginH (fun w' => w'.heap[(w6).heap.size]? = some (.cells #[.int .i64 (g).1, .slice A6 n6 c6, .slice B6 m6 d6, .slice C6 k6 e6] 34) ∧ w'.heap[(w).heap.size]? = some (.cells #[.int .i64 (g).1, .slice Ag ng cg, .slice Bg mg dg, .slice Cg kg eg] 25)) (by kernel_rfl) ?_
 have hb11 : Below (w10).heap.size (w10) (w10).drew := below_drewN (Below.refl _ _) 1
 have hB11 := below_trans hB10 hb11 hB10.size
 have F35_bxg_11 := lH (box_below F25_bxg_10.out hb11)
 clear F25_bxg_10
 have F36_pg_11 := lH (box_below F30_pg_10.out hb11)
 clear F30_pg_10
 have F37_xg_11 := F33_xg_10.below hb11
 clear F33_xg_10
 refine tkH 0 ?_ rfl ⟨F35_bxg_11.out, F36_pg_11.out⟩ (fun W' hW' => ?_) ?_; rotate_left; · (obtain ⟨q1, q2⟩ := hW'; obtain ⟨⟨ca0, ca1, ca2, ca3⟩, gca0, gca1, gca2, gca3⟩ := box4 q1; obtain ⟨⟨cb0, cb1, cb2, cb3⟩, gcb0, gcb1, gcb2, gcb3⟩ := box4 q2; clear q1 q2; go_simp; first | done | with_reducible rfl)
 simp only [Act.put, nS]
 refine tkH 1 ?_ rfl ⟨F35_bxg_11.out, F36_pg_11.out⟩ (fun W' hW' => ?_) ?_; rotate_left; · (obtain ⟨q1, q2⟩ := hW'; obtain ⟨⟨ca0, ca1, ca2, ca3⟩, gca0, gca1, gca2, gca3⟩ := box4 q1; obtain ⟨⟨cb0, cb1, cb2, cb3⟩, gcb0, gcb1, gcb2, gcb3⟩ := box4 q2; clear q1 q2; go_simp; first | done | with_reducible rfl)
 simp only [Act.put, nS]
 refine' callH 2 (f := _) (args := _) rfl (by kernel_rfl) (by rfl) ?_ ?_; rotate_left 2; · (go_simp; first | done | with_reducible rfl | (constructor <;> with_reducible rfl))
 refine (toGraph_law (hg.below hB11) okg).mono ?_
 rintro e w12 ⟨v12, fp12, rfl, o12, fr12, hb12⟩
 have hB12 := below_trans hB11 hb12 hB11.size
 have F38_bxg_12 := lH (box_below F35_bxg_11.out hb12)
 clear F35_bxg_11
 have F39_pg_12 := lH (box_below F36_pg_11.out hb12)
 clear F36_pg_11
 have F40_xg_12 := F37_xg_11.below hb12
 clear F37_xg_11
 refine ⟨_, rfl, ⟨F38_bxg_12.out, F39_pg_12.out⟩, ?_⟩
 simp only [Act.put, nS]
 refine' callH 3 (f := _) (args := _) rfl (by kernel_rfl) (by rfl) ?_ ?_; rotate_left 2; · (go_simp; first | done | with_reducible rfl | (constructor <;> with_reducible rfl))
 refine (eqGraph_law F40_xg_12.rd o12.rd okg).mono ?_
 rintro e w13 ⟨rfl, hb13⟩
 have hB13 := below_trans hB12 hb13 hB12.size
 have F41_bxg_13 := lH (box_below F38_bxg_12.out hb13)
 clear F38_bxg_12
 have F42_pg_13 := lH (box_below F39_pg_12.out hb13)
 clear F39_pg_12
 have F43_xg_13 := F40_xg_12.below hb13
 clear F40_xg_12
 refine ⟨_, rfl, ⟨F41_bxg_13.out, F42_pg_13.out⟩, ?_⟩
 rw [decide_eq_true (rfl : g = g)]
 simp only [Act.put, nS]
 refine takeH 4 (v := .bool false) rfl (by kernel_rfl) (by kernel_rfl) (by kernel_rfl) (fun _ _ _ h => h) ⟨F41_bxg_13.out, F42_pg_13.out⟩ (by rfl) (fun W' hW' => ?_) ?_; · (go_simp; first | done | with_reducible rfl)
 simp only [Act.put, nS]
 refine doneH (by kernel_rfl) ?_
 obtain ⟨⟨c44_0, c44_1, c44_2, c44_3⟩, f44_0, f44_1, f44_2, f44_3⟩ := box4 F41_bxg_13.out
 go_wp2_with (fail)
 refine (markGraph_law (1) F43_xg_13 (by omega) okg (by have := okg.2.2; constructor <;> omega)).mono ?_
 rintro e w14 ⟨rfl, he14, hk14⟩
 have hB14 := below_keeps hB13 hk14 hB13.size (fun b hb => Nat.le_trans hB5.size (fr6 b hb))
 clear c44_0 c44_1 c44_2 c44_3 f44_0 f44_1 f44_2 f44_3
 have F45_G0_10 := F11_G0_9.below hb10
 clear F11_G0_9
 have F46_G0_11 := F45_G0_10.below hb11
 clear F45_G0_10
 have F47_G0_12 := F46_G0_11.below hb12
 clear F46_G0_11
 have F48_G0_13 := F47_G0_12.below hb13
 clear F47_G0_12
 have F49_G0_14 := F48_G0_13.keeps hk14 (apart_of' lt_xg (fr8_0.mono (Nat.le_trans (Nat.le_refl _) hb7.size)))
 clear F48_G0_13
 have F50_W0_10 := F16_W0_9.below hb10
 clear F16_W0_9
 have F51_W0_11 := F50_W0_10.below hb11
 clear F50_W0_10
 have F52_W0_12 := F51_W0_11.below hb12
 clear F51_W0_11
 have F53_W0_13 := F52_W0_12.below hb13
 clear F52_W0_12
 have F54_W0_14 := F53_W0_13.keeps hk14 (apart_of lt_W0 (fr6.mono (Nat.le_trans (Nat.le_refl _) hb5.size)))
 clear F53_W0_13
 have F55_bG0_10 := lH (box_below BX_bG0_9.out hb10)
 clear BX_bG0_9
 have F56_bG0_11 := lH (box_below F55_bG0_10.out hb11)
 clear F55_bG0_10
 have F57_bG0_12 := lH (box_below F56_bG0_11.out hb12)
 clear F56_bG0_11
 have F58_bG0_13 := lH (box_below F57_bG0_12.out hb13)
 clear F57_bG0_12
 have F59_bG0_14 := lH (box_keeps F58_bG0_13.out hk14 (fun hh => (apart_of' lt_xg (fr_bG0.mono (Nat.le_trans (Nat.le_trans (Nat.le_refl _) hb7.size) hb8.size))) _ (List.mem_singleton.2 rfl) hh))
 clear F58_bG0_13
 obtain ⟨⟨c60_0, c60_1, c60_2⟩, f60_0, f60_1, f60_2⟩ := box3 F59_bG0_14.out
 have F61_bW0_10 := lH (box_below F21_bW0_9.out hb10)
 clear F21_bW0_9
 have F62_bW0_11 := lH (box_below F61_bW0_10.out hb11)
 clear F61_bW0_10
 have F63_bW0_12 := lH (box_below F62_bW0_11.out hb12)
 clear F62_bW0_11
 have F64_bW0_13 := lH (box_below F63_bW0_12.out hb13)
 clear F63_bW0_12
 have F65_bW0_14 := lH (box_keeps F64_bW0_13.out hk14 (fun hh => (apart_of lt_bW0 (fr6)) _ (List.mem_singleton.2 rfl) hh))
 clear F64_bW0_13
 obtain ⟨⟨c66_0, c66_1, c66_2⟩, f66_0, f66_1, f66_2⟩ := box3 F65_bW0_14.out
 go_wp2_with (fail)
 refine (eqSystem_law F49_G0_14.rd F54_W0_14.rd ((sgM_ok p g))).mono ?_
 rintro e w15 ⟨rfl, hb15⟩
 have hB15 := below_trans hB14 hb15 hB14.size
 clear c60_0 c60_1 c60_2 f60_0 f60_1 f60_2 c66_0 c66_1 c66_2 f66_0 f66_1 f66_2
 rw [decide_eq_true (rfl : (sgM p g).1 = (sgM p g).1)]
 have F67_G0_15 := F49_G0_14.below hb15
 clear F49_G0_14
 have F68_bG0_15 := lH (box_below F59_bG0_14.out hb15)
 clear F59_bG0_14
 obtain ⟨⟨c69_0, c69_1, c69_2⟩, f69_0, f69_1, f69_2⟩ := box3 F68_bG0_15.out
 go_wp2_with (fail)
 refine (markSystem_law (1) F67_G0_15 (by omega) ((sgM_ok p g)) (by have := ((sgM_ok p g)).2.2; omega)).mono ?_
 rintro e w16 ⟨rfl, he16, hk16⟩
 have hB16 := below_keeps hB15 hk16 hB15.size (fun b hb => Nat.le_trans hB7.size (fr8_0 b hb))
 clear c69_0 c69_1 c69_2 f69_0 f69_1 f69_2
 have F70_bG0_16 := lH (box_keeps F68_bG0_15.out hk16 (fun hh => (apart_of' lt_G0 (fr_bG0)) _ (List.mem_singleton.2 rfl) hh))
 clear F68_bG0_15
 obtain ⟨⟨c71_0, c71_1, c71_2⟩, f71_0, f71_1, f71_2⟩ := box3 F70_bG0_16.out
 go_wp2_with (fail)
 refine (heldSystem_law he16 (by omega) ((sgM_ok p g)) (by have := ((sgM_ok p g)).2.2; omega)).mono ?_
 rintro e w17 ⟨rfl, hb17⟩
 have hB17 := below_trans hB16 hb17 hB16.size
 clear c71_0 c71_1 c71_2 f71_0 f71_1 f71_2
 have F72_pg_14 := lH (box_keeps F42_pg_13.out hk14 (fun hh => (apart_of lt_pg (fr6.mono (Nat.le_trans (Nat.le_trans (Nat.le_trans (Nat.le_trans (Nat.le_refl _) hb2.size) hb3.size) hb4.size) hb5.size))) _ (List.mem_singleton.2 rfl) hh))
 clear F42_pg_13
 have F73_pg_15 := lH (box_below F72_pg_14.out hb15)
 clear F72_pg_14
 have F74_pg_16 := lH (box_keeps F73_pg_15.out hk16 (fun hh => (apart_of lt_pg (fr8_0.mono (Nat.le_trans (Nat.le_trans (Nat.le_trans (Nat.le_trans (Nat.le_trans (Nat.le_trans (Nat.le_refl _) hb2.size) hb3.size) hb4.size) hb5.size) hb6.size) hb7.size))) _ (List.mem_singleton.2 rfl) hh))
 clear F73_pg_15
 have F75_pg_17 := lH (box_below F74_pg_16.out hb17)
 clear F74_pg_16
 obtain ⟨⟨c76_0, c76_1, c76_2, c76_3⟩, f76_0, f76_1, f76_2, f76_3⟩ := box4 F75_pg_17.out
 go_wp2_with (fail)
 refine (toGraph_law (hg.below hB17) okg).mono ?_
 rintro e w18 ⟨v18, fp18, rfl, o18, fr18, hb18⟩
 have hB18 := below_trans hB17 hb18 hB17.size
 clear c76_0 c76_1 c76_2 c76_3 f76_0 f76_1 f76_2 f76_3
 obtain ⟨A18, n18, c18, B18, m18, d18, C18, k18, e18, rfl⟩ := o18.shape
 have lt_yg := o18.lt
 go_wp2_with (fail)
 refine (iSystemOfGraph_law p o18.rd okg (hT.below hB18 hT.lt)).mono ?_
 rintro e w19 ⟨v19_0, fp19_0, rfl, o19r0, fr19_0, hb19⟩
 have hB19 := below_trans hB18 hb19 hB18.size
 obtain ⟨A19_0, n19_0, c19_0, rfl⟩ := o19r0.shape
 have lt_H0 := o19r0.lt
 have hb20 := below_alloc (w19) (.cells #[.int .i64 ((sgM p g).1).1, .int .i64 ((sgM p g).1).2.1, .slice A19_0 n19_0 c19_0] 29)
 have hB20 := below_trans hB19 hb20 hB19.size
 have bx20 := heap_alloc_new (w19) (.cells #[.int .i64 ((sgM p g).1).1, .int .i64 ((sgM p g).1).2.1, .slice A19_0 n19_0 c19_0] 29)
 have lt_bH0 : LtL ((w19).alloc (.cells #[.int .i64 ((sgM p g).1).1, .int .i64 ((sgM p g).1).2.1, .slice A19_0 n19_0 c19_0] 29)).heap.size [(w19).heap.size] := fun b hb => by obtain rfl := List.mem_singleton.1 hb; exact box_lt bx20
 have fr_bH0 : FreshL (w19).heap.size [(w19).heap.size] := fun b hb => by obtain rfl := List.mem_singleton.1 hb; exact Nat.le_refl _
 have BX_bH0_20 := lH bx20; clear bx20
 have F77_H0_20 := o19r0.below hb20
 clear o19r0
 have F78_W0_15 := F54_W0_14.below hb15
 clear F54_W0_14
 have F79_W0_16 := F78_W0_15.keeps hk16 (apart_of lt_W0 (fr8_0.mono (Nat.le_trans (Nat.le_trans (Nat.le_trans (Nat.le_refl _) hb5.size) hb6.size) hb7.size)))
 clear F78_W0_15
 have F80_W0_17 := F79_W0_16.below hb17
 clear F79_W0_16
 have F81_W0_18 := F80_W0_17.below hb18
 clear F80_W0_17
 have F82_W0_19 := F81_W0_18.below hb19
 clear F81_W0_18
 have F83_W0_20 := F82_W0_19.below hb20
 clear F82_W0_19
 obtain ⟨⟨c84_0, c84_1, c84_2⟩, f84_0, f84_1, f84_2⟩ := box3 BX_bH0_20.out
 have F85_bW0_15 := lH (box_below F65_bW0_14.out hb15)
 clear F65_bW0_14
 have F86_bW0_16 := lH (box_keeps F85_bW0_15.out hk16 (fun hh => (apart_of lt_bW0 (fr8_0.mono (Nat.le_trans (Nat.le_trans (Nat.le_refl _) hb6.size) hb7.size))) _ (List.mem_singleton.2 rfl) hh))
 clear F85_bW0_15
 have F87_bW0_17 := lH (box_below F86_bW0_16.out hb17)
 clear F86_bW0_16
 have F88_bW0_18 := lH (box_below F87_bW0_17.out hb18)
 clear F87_bW0_17
 have F89_bW0_19 := lH (box_below F88_bW0_18.out hb19)
 clear F88_bW0_18
 have F90_bW0_20 := lH (box_below F89_bW0_19.out hb20)
 clear F89_bW0_19
 obtain ⟨⟨c91_0, c91_1, c91_2⟩, f91_0, f91_1, f91_2⟩ := box3 F90_bW0_20.out
 go_wp2_with (fail)
 refine (eqSystem_law F77_H0_20.rd F83_W0_20.rd ((sgM_ok p g))).mono ?_
 rintro e w21 ⟨rfl, hb21⟩
 have hB21 := below_trans hB20 hb21 hB20.size
 clear c84_0 c84_1 c84_2 f84_0 f84_1 f84_2 c91_0 c91_1 c91_2 f91_0 f91_1 f91_2
 rw [decide_eq_true (rfl : (sgM p g).1 = (sgM p g).1)]
 have F92_G0_17 := he16.below hb17
 clear he16
 have F93_G0_18 := F92_G0_17.below hb18
 clear F92_G0_17
 have F94_G0_19 := F93_G0_18.below hb19
 clear F93_G0_18
 have F95_G0_20 := F94_G0_19.below hb20
 clear F94_G0_19
 have F96_G0_21 := F95_G0_20.below hb21
 clear F95_G0_20
 have F97_bG0_17 := lH (box_below F70_bG0_16.out hb17)
 clear F70_bG0_16
 have F98_bG0_18 := lH (box_below F97_bG0_17.out hb18)
 clear F97_bG0_17
 have F99_bG0_19 := lH (box_below F98_bG0_18.out hb19)
 clear F98_bG0_18
 have F100_bG0_20 := lH (box_below F99_bG0_19.out hb20)
 clear F99_bG0_19
 have F101_bG0_21 := lH (box_below F100_bG0_20.out hb21)
 clear F100_bG0_20
 obtain ⟨⟨c102_0, c102_1, c102_2⟩, f102_0, f102_1, f102_2⟩ := box3 F101_bG0_21.out
 go_wp2_with (fail)
 refine (heldSystem_law F96_G0_21 (by omega) ((sgM_ok p g)) (by have := ((sgM_ok p g)).2.2; omega)).mono ?_
 rintro e w22 ⟨rfl, hb22⟩
 have hB22 := below_trans hB21 hb22 hB21.size
 clear c102_0 c102_1 c102_2 f102_0 f102_1 f102_2
 go_wp2_with (fail)
 go_ret
 exact ⟨rfl, hB22⟩
set_option maxRecDepth 100000 in
theorem contractSystemOfGraph (H : Type) (enc : TypeId × Value → H) (W : World) (args : Array Value) (ds gs : List (DataW H)) (before : List MemPlace)
  (hval : ∀ (j : Nat) t v, Tryd.f3.params[j]? = some t → args[j]? = some v → Value.okWide Tryd.prog W .any 0 t v)
  (hW : DataW.Whole enc Tryd.prog Tryd.f3.params.toList Rows.fnExactSystemOfGraphSpec.vars false W args.toList ds gs before) (hL : laidMetH Tryd.prog Rows.fnExactSystemOfGraphRow.laid W) :
  Calls Tryd.prog 3 args W fun e W' => ∃ v, e = .returned v ∧ Rows.fnExactSystemOfGraphSpec.post enc Tryd.prog Tryd.f3 false true false false W args v W' := by
 have hW' := hW
 obtain ⟨p, q, hA0, hV, rfl, hfz, hnd⟩ := hW
 have hA : DataW.TrodAll enc Tryd.prog W 0 (fun _ => true) true Tryd.f3.params.toList args.toList ds p := hA0
 have hr : ∀ t ∈ Tryd.f3.params.toList, Tryd.prog.readableRec t = true ∧ t < Tryd.prog.types.size := by
  rw [Tryd.params3]
  intro t ht
  have ht' : t ∈ ([3, 25] : List TypeId) := ht
  rcases List.mem_cons.1 ht' with rfl | ht'
  · exact ⟨by kernel_rfl, of_decide_eq_true (by kernel_rfl)⟩
  rcases List.mem_cons.1 ht' with rfl | ht'
  · exact ⟨by kernel_rfl, of_decide_eq_true (by kernel_rfl)⟩
  cases ht'
 rw [Tryd.params3] at hA hval
 obtain ⟨v0, vs0, d0, ds0, p0, q0, hargs, rfl, rfl, t0, r0⟩ := trodAll_cons hA
 obtain ⟨v1, vs1, d1, ds1, p1, q1, rfl, rfl, rfl, t1, r1⟩ := trodAll_cons r0
 obtain ⟨rfl, rfl, rfl⟩ := trodAll_nil r1
 obtain rfl : args = #[v0, v1] := by cases args; simp_all
 obtain ⟨g, _, _, _, dg, pg, rfl, _⟩ := trodVars_one hV
 obtain ⟨x0, rfl, lo0, hi0⟩ := in_int (hval 0 _ v0 rfl rfl) t0
 obtain ⟨m1, hl1, hg1⟩ := in_Graph (hval 1 _ v1 rfl rfl) t1
 refine (lawSystemOfGraph_any x0 v1 m1 W hl1 hg1 lo0 hi0 (tab_of_laid hL)).mono fun e W' ⟨he, hb⟩ => ?_
 subst he
 exact ⟨_, rfl, post_true laidOut hW' hb hr vars_ok rfl rfl Tryd.underlying4⟩
set_option maxRecDepth 100000 in
theorem liftedSystemOfGraph (os : Os) (started : os.Started) (H : Type) (enc : TypeId × Value → H) (F : Stop.Interp) :
  ReturnsInHanded {} Tryd.checked os 3 .any ((OpenSpec.ofChange Rows.fnExactSystemOfGraphSpec).preRow enc Tryd.prog Tryd.f3 Rows.fnExactSystemOfGraphRow.domain false Rows.fnExactSystemOfGraphRow.laid) (((OpenSpec.ofChange Rows.fnExactSystemOfGraphSpec).at F).post enc Tryd.prog Tryd.f3 false true false false) := by
 obtain ⟨ds, gs, places, hx⟩ : ∃ ds gs places, DataW.whole enc Tryd.prog ((laidWorld os).forCall (fun _ _ => 0) ⟨#[], #[.int .i64 0, .agg #[.int .i64 0, .slice none 0 0, .slice none 0 0, .slice none 0 0]], []⟩).memory Tryd.f3.params.toList Rows.fnExactSystemOfGraphSpec.vars false (#[.int .i64 0, .agg #[.int .i64 0, .slice none 0 0, .slice none 0 0, .slice none 0 0]] : Array Value).toList 8 = some (ds, gs, places) :=
  ⟨[.lit (.int .i64 0), .agg [.lit (.int .i64 0), .nil, .nil, .nil]], [Rows.laid_loop_example_g01073_impl_smallPrimes], MemPlace.row ⟨0, 0, none⟩ 4, by kernel_rfl⟩
 refine returnsInHanded_of_row (C := Tryd.checked) (s := OpenSpec.ofChange Rows.fnExactSystemOfGraphSpec) own started (by kernel_rfl) Tryd.func3
  (witness_row_at (enc := enc) (C := Tryd.checked) false (laidWorld os) #[.int .i64 0, .agg #[.int .i64 0, .slice none 0 0, .slice none 0 0, .slice none 0 0]] rfl (by kernel_rfl) (by kernel_rfl) (by kernel_rfl)
   (OpenSpec.preRow_of_cond 8 hx (by kernel_rfl) (fun k hk => by cases hk) (by kernel_rfl) (laid_met os _))) ?_
 intro W base args ds gs before hval hW _ _ _ hL _ _
 exact contractSystemOfGraph H enc W args ds gs before hval hW hL
theorem saidSystemOfGraph : Rows.FnExactSystemOfGraphSaid :=
 OpenClaim.holds_of_cond 3 Tryd.f3 rfl rfl rfl rfl rfl rfl rfl ⟨rfl, rfl, rfl, rfl, rfl⟩ rfl rfl rfl rfl rfl (by kernel_rfl) Tryd.func3 (by kernel_rfl)
  (of_decide_eq_true (by kernel_rfl)) (by unfold Func.isWrapper; first | (rw [if_pos (by decide +kernel)]; kernel_rfl) | (rw [if_neg (by decide +kernel)]; exact ⟨rfl, rfl⟩))
  (fun os started H enc _ F => by rw [OpenClaim.pre_eq_preRow]; exact liftedSystemOfGraph os started H enc F)
theorem plainSystemOfGraph (f : FuncId) (fn : Func) (hf : Tryd.pinned.checked.prog.funcNamed "loop.example/g01073/laws.FnExactSystemOfGraph" = some f) (hfn : Tryd.pinned.checked.prog.funcs[f]? = some fn) :
  false = Tryd.pinned.checked.prog.looks [] ∧ ∀ (j : Nat) t, fn.params[j]? = some t → Tryd.pinned.checked.prog.wantsStandIn t = false := by
 obtain rfl : f = 3 := Option.some.inj ((show Tryd.prog.funcNamed "loop.example/g01073/laws.FnExactSystemOfGraph" = some 3 by kernel_rfl).symm.trans hf) |>.symm
 obtain rfl : fn = Tryd.f3 := (Option.some.inj (Tryd.func3.symm.trans hfn)).symm
 refine ⟨by kernel_rfl, fun j t ht => ?_⟩
 rw [Tryd.params3] at ht
 have ht' : t ∈ ([3, 25] : List TypeId) := by have := Array.mem_of_getElem? ht; simpa using this
 rcases List.mem_cons.1 ht' with rfl | ht'
 · exact (show Tryd.prog.wantsStandIn 3 = false by kernel_rfl)
 rcases List.mem_cons.1 ht' with rfl | ht'
 · exact (show Tryd.prog.wantsStandIn 25 = false by kernel_rfl)
 cases ht'
theorem cardSystemOfGraph : Rows.FnExactSystemOfGraphCardSaid :=
 Claim7.holds_tied_plain_at .later [] _ _ _ _ saidSystemOfGraph (fun _ h => by cases h) (by kernel_rfl) (fun _ h => by cases h) fnExactSystemOfGraph_row_tie rfl ⟨rfl, rfl⟩ (by kernel_rfl) rfl plainSystemOfGraph (by kernel_rfl)
#print axioms cardSystemOfGraph
end Go.Proofs.YtpkmjenoniedjaaDoor
