/-
  The program's SpiderGraph returns what the reference's returns, for all arguments (laws.FnExactSpiderGraph answers true). No condition.
-/
import Derived.Test.YtpkmjenoniedjaaGreatKSpiderGraph5
namespace Go.Proofs.YtpkmjenoniedjaaGreat
open Go.RowKit
theorem eh_get {l : List EHd} {j : Nat} {n : EHd} (h : l[j]? = some n) : (eh l)[2 * j]? = some n.2.2.1 ∧ (eh l)[2 * j + 1]? = some n.2.2.2 := by
 induction l generalizing j with
 | nil => simp at h
 | cons a r ih =>
   cases j with
   | zero =>
     obtain rfl : a = n := by simpa using h
     simp [eh]
   | succ j =>
     have := ih (j := j) (by simpa using h)
     rw [show 2 * (j + 1) = 2 * j + 1 + 1 by omega]
     simpa [eh] using this
theorem eh_set {l : List EHd} {j : Nat} (n : EHd) (h : j < l.length) : ((eh l).set (2 * j) n.2.2.1).set (2 * j + 1) n.2.2.2 = eh (l.set j n) := by
 induction l generalizing j with
 | nil => simp at h
 | cons a r ih =>
   cases j with
   | zero => simp [eh]
   | succ j =>
     have := ih (j := j) (by simpa using h)
     rw [show 2 * (j + 1) = 2 * j + 1 + 1 by omega]
     simpa [eh] using this
@[simp] theorem eh_length (l : List EHd) : (eh l).length = 2 * l.length := by
  induction l with
  | nil => rfl
  | cons a r ih => simp only [eh, List.length_cons, ih]; omega
theorem fpR_map {l m : List Hd} (h : l.map (·.1) = m.map (·.1)) : fpR l = fpR m := by
 have e : ∀ x : List Hd, fpR x = (x.map (·.1)).flatMap fpA := fun x => by unfold fpR; rw [List.flatMap_map]
 rw [e, e, h]
theorem set_same {α : Type} {l : List α} {i : Nat} {x : α} (h : l[i]? = some x) : l.set i x = l := by
 apply List.ext_getElem?
 intro k
 rw [List.getElem?_set]
 split
 · rename_i e; subst e
   have := (List.getElem?_eq_some_iff.1 h).1
   rw [if_pos this, h]
 · rfl
section
variable {w w' : World} {fp : List Nat} {ls : List Hd}
theorem OwLs.wr (h : OwLs w fp ls) {i : Nat} {B : Option Addr} {c : Nat} {l l' : List Int} (hi : ls[i]? = some (B, c, l)) (hk : Keeps (· ∈ fpA B) w w') (hI : IS w' B c l') : OwLs w' fp (ls.set i (B, c, l')) := by
 have hap : ∀ (k : Nat) (x : Hd), ls[k]? = some x → i ≠ k → ∀ b, b ∈ fpA x.1 → ¬ b ∈ fpA B := fun k x hx hne b hb hb' => by
  have hp := List.pairwise_iff_getElem.1 h.apart
  obtain ⟨hi', ei⟩ := List.getElem?_eq_some_iff.1 hi
  obtain ⟨hk', ek⟩ := List.getElem?_eq_some_iff.1 hx
  rcases Nat.lt_or_gt_of_ne hne with hlt | hlt
  · exact hp i k hi' hk' hlt b (by rw [ei]; exact hb') (by rw [ek]; exact hb)
  · exact hp k i hk' hi' hlt b (by rw [ek]; exact hb) (by rw [ei]; exact hb')
 have hget : ∀ (k : Nat) (x : Hd), (ls.set i (B, c, l'))[k]? = some x → ∃ y : Hd, ls[k]? = some y ∧ y.1 = x.1 := by
  intro k x hx
  rw [List.getElem?_set] at hx
  split at hx
  · rename_i hk; subst hk
    simp at hx
    exact ⟨_, hi, by rw [← hx.2]⟩
  · exact ⟨x, hx, rfl⟩
 refine ⟨fun x hx => ?_, ?_, fun x hx => ?_⟩
 · obtain ⟨k, hkk⟩ := List.mem_iff_getElem?.1 hx
   rw [List.getElem?_set] at hkk
   split at hkk
   · simp at hkk
     rw [← hkk.2]
     exact hI
   · rename_i hik
     exact (h.rows x (List.mem_of_getElem? hkk)).keeps hk fun b hb hb' => hap k x hkk hik b hb hb'
 · refine List.pairwise_iff_getElem.2 fun a b ha hb hab => ?_
   obtain ⟨x, hx, ex⟩ := hget a _ (List.getElem?_eq_getElem ha)
   obtain ⟨y, hy, ey⟩ := hget b _ (List.getElem?_eq_getElem hb)
   rw [← ex, ← ey]
   obtain ⟨ha', e1⟩ := List.getElem?_eq_some_iff.1 hx
   obtain ⟨hb', e2⟩ := List.getElem?_eq_some_iff.1 hy
   rw [← e1, ← e2]
   exact List.pairwise_iff_getElem.1 h.apart a b ha' hb' hab
 · obtain ⟨k, hkk⟩ := List.mem_iff_getElem?.1 hx
   obtain ⟨y, hy, e⟩ := hget k x hkk
   rw [← e]; exact h.outer y (List.mem_of_getElem? hy)
theorem set_fst {ls : List Hd} {i : Nat} {B : Option Addr} {c : Nat} {l l' : List Int} (hi : ls[i]? = some (B, c, l)) : (ls.set i (B, c, l')).map (·.1) = ls.map (·.1) := by
 rw [List.map_set]
 exact set_same (by rw [List.getElem?_map, hi]; rfl)
end
theorem ecs_congr {l : List EHd} {j : Nat} {x y : EHd} (h : ec x = ec y) : ecs (l.set j x) = ecs (l.set j y) := by
 induction l generalizing j with
 | nil => rfl
 | cons a r ih =>
   cases j with
   | zero => simp [ecs, h]
   | succ j => simp only [List.set_cons_succ, ecs, ih]
theorem cntE_take_succ {L : List Eg} {j : Nat} {e : Eg} (h : L[j]? = some e) : cntE (L.take (j + 1)) = cntE (L.take j) + (2 + e.2.2.1.length + e.2.2.2.length) := by
 rw [List.take_add_one, h, cntE_append]; simp [cntE]
theorem cntE_take_le (L : List Eg) (j : Nat) : cntE (L.take j) ≤ cntE L := by
 conv => rhs; rw [← List.take_append_drop j L, cntE_append]
 omega
@[simp] theorem marksE_length : ∀ (k : Nat) (L : List Eg), (marksE k L).length = L.length
  | _, [] => rfl
  | k, e :: r => by simp [marksE, marksE_length]
theorem marksE_get : ∀ {L : List Eg} {k j : Nat} {e : Eg}, L[j]? = some e → (marksE k L)[j]? = some (((k + cntE (L.take j) : Nat) : Int), ((k + cntE (L.take j) + 1 : Nat) : Int), marks (k + cntE (L.take j) + 2) e.2.2.1.length, marks (k + cntE (L.take j) + 2 + e.2.2.1.length) e.2.2.2.length)
 | a :: r, k, 0, e, h => by
   obtain rfl : a = e := by simpa using h
   simp [marksE, cntE]
 | a :: r, k, j + 1, e, h => by
   have := marksE_get (L := r) (k := k + 2 + a.2.2.1.length + a.2.2.2.length) (j := j) (e := e) (by simpa using h)
   rw [show k + 2 + a.2.2.1.length + a.2.2.2.length + cntE (r.take j) = k + cntE ((a :: r).take (j + 1)) by simp [cntE]; omega] at this
   simpa [marksE] using this
set_option maxRecDepth 100000 in
set_option maxHeartbeats 4000000 in
theorem markEdgeS_any (A : Option Addr) (c m : Nat) (l : List EHd) (pre : List Hd) (k : Nat) (w : World) (h : Sl w tEd 4 A m c (ecs l)) (hO : OwLs w (fpA A) (pre ++ eh l)) (hm : l.length = m) (hml : m ≤ 1048576) (hl : k + cntE (l.map egOf) ≤ 17592186044000) :
  Calls Tryz.prog 20 #[.slice A m c, .int .i64 k] w fun e w' => ∃ ys : List EHd, e = .returned (.int .i64 ((k + cntE (l.map egOf) : Nat) : Int)) ∧ ys.length = m ∧ ys.map egOf = marksE k (l.map egOf) ∧ Sl w' tEd 4 A m c (ecs ys) ∧ OwLs w' (fpA A) (pre ++ eh ys) ∧ (eh ys).map (·.1) = (eh l).map (·.1) ∧ Keeps (· ∈ fpA A ++ fpR (eh l)) w w' := by
 obtain ⟨L, hL⟩ : ∃ L, L = l.map egOf := ⟨_, rfl⟩
 rw [← hL] at hl ⊢
 have hLm : L.length = m := by rw [hL, List.length_map, hm]
 have hm_h := lH hm; have hL_h := lH hL; have hLm_h := lH hLm; have h_h := lH h; have hO_h := lH hO; clear hm hL hLm h hO
 go_enter Tryz.func20, Tryz.ntmps20
 go_wp2_with (fail)
 go_loopw [1, 5] (fun q i wr => ∃ (j : Nat) (ys : List EHd), j ≤ m ∧ i = .int .i64 j ∧ q = .int .i64 ((k + cntE (L.take j) : Nat) : Int) ∧ ys.length = m ∧ ys.map egOf = (marksE k L).take j ++ L.drop j ∧ Sl wr tEd 4 A m c (ecs ys) ∧ OwLs wr (fpA A) (pre ++ eh ys) ∧ (eh ys).map (·.1) = (eh l).map (·.1) ∧ Keeps (· ∈ fpA A ++ fpR (eh l)) w wr) (fun _ i _ => m - (intOf i).toNat)
 case atStart => exact ⟨0, l, Nat.zero_le _, rfl, by simp [cntE], hm_h.out, by simpa using hL_h.out.symm, h_h.out, hO_h.out, rfl, Keeps.refl _ _⟩
 case round =>
  clear h_h hO_h
  obtain ⟨j, ys, hj, rfl, rfl, hyl, hye, his, hO, hfe, hkp⟩ := hrel
  by_cases hlt : j < m
  · obtain ⟨⟨κ, v, ⟨B, b, s⟩, ⟨C, d, t⟩⟩, hy⟩ : ∃ y, ys[j]? = some y := ⟨_, List.getElem?_eq_getElem (by omega)⟩
    have hLj : L[j]? = some (κ, v, s, t) := by
     have h1 : (ys.map egOf)[j]? = some (κ, v, s, t) := by rw [List.getElem?_map, hy]; rfl
     rw [hye, List.getElem?_append_right (by rw [List.length_take, marksE_length]; omega), List.length_take, marksE_length, List.getElem?_drop] at h1
     rwa [show j + (j - min j L.length) = j by rw [hLm_h.out]; omega] at h1
    obtain ⟨ad, hA, g0, g1⟩ : ∃ ad, A = some ad ∧ (∀ x, wr.frozen? (ad.add x) = false) ∧ ∀ i u, (ecs ys)[i]? = some u → wr.cell? (ad.add i) = some u := by
     obtain ⟨ad, hA, _, _, hf⟩ := Sl.cell his (ecs_get hy).1
     refine ⟨ad, hA, hf, fun i u hu => ?_⟩
     obtain ⟨ad', hA', _, hc, _⟩ := Sl.cell his hu
     rw [hA] at hA'
     obtain rfl := Option.some.inj hA'
     exact hc
    subst hA
    obtain ⟨y0, y1, y2, y3⟩ := ecs_get hy
    have hel : (ecs ys).length = m * 4 := by rw [ecs_length, hyl]
    obtain ⟨K, hK⟩ : ∃ K, K = k + cntE (L.take j) := ⟨_, rfl⟩
    have hcs := cntE_take_succ hLj
    have hcl := cntE_take_le L (j + 1)
    have hKb : K + (2 + s.length + t.length) ≤ 17592186044000 := by
     have : cntE (L.take (j + 1)) = cntE (L.take j) + (2 + s.length + t.length) := hcs
     omega
    -- the two stores
    obtain ⟨W1, hW1⟩ : ∃ W1, W1 = wr.setCell (ad.add (j * 4)) (.int .i64 (K : Int)) := ⟨_, rfl⟩
    have sl1 := Sl.set his rfl (j * 4) (.int .i64 (K : Int)) (by omega)
    rw [← hW1] at sl1
    obtain ⟨W2, hW2⟩ : ∃ W2, W2 = W1.setCell ⟨(ad.add (j * 4)).block, (ad.add (j * 4)).off + 1, none⟩ (.int .i64 ((K + 1 : Nat) : Int)) := ⟨_, rfl⟩
    have sl2 := Sl.set sl1 rfl (j * 4 + 1) (.int .i64 ((K + 1 : Nat) : Int)) (by rw [List.length_set]; omega)
    rw [add_next _ _ 1 (by omega), ← hW2] at sl2
    have q0 := g1 _ _ y0
    have q1 : W1.cell? ⟨(ad.add (j * 4)).block, (ad.add (j * 4)).off + 1, none⟩ = some (.int .i64 v) := by
     obtain ⟨ad', hA', _, hc, _⟩ := Sl.cell sl1 (j := j * 4 + 1) (u := .int .i64 v) (by rw [List.getElem?_set_ne (by omega)]; exact y1)
     obtain rfl := Option.some.inj hA'
     rwa [add_next _ _ 1 (by omega)] at hc
    have q1f : W1.frozen? ⟨(ad.add (j * 4)).block, (ad.add (j * 4)).off + 1, none⟩ = false := by
     obtain ⟨ad', hA', _, _, hf⟩ := Sl.cell sl1 (j := j * 4 + 1) (u := .int .i64 v) (by rw [List.getElem?_set_ne (by omega)]; exact y1)
     obtain rfl := Option.some.inj hA'
     have := hf (j * 4 + 1)
     rwa [add_next _ _ 1 (by omega)] at this
    have q2 : W2.cell? ⟨(ad.add (j * 4)).block, (ad.add (j * 4)).off + 2, none⟩ = some (.slice B s.length b) := by
     obtain ⟨ad', hA', _, hc, _⟩ := Sl.cell sl2 (j := j * 4 + 2) (u := .slice B s.length b) (by rw [List.getElem?_set_ne (by omega), List.getElem?_set_ne (by omega)]; exact y2)
     obtain rfl := Option.some.inj hA'
     rwa [add_next _ _ 2 (by omega)] at hc
    have hkB : Keeps (· ∈ fpA (some ad)) wr W2 := by
     rw [hW2, hW1]
     exact ((Keeps.refl _ wr).setCell (p := ad.add (j * 4)) (by rw [block_of_add]; simp) _).setCell (p := ⟨(ad.add (j * 4)).block, (ad.add (j * 4)).off + 1, none⟩) (by simp [block_of_add]) _
    have hset2 : ((ecs ys).set (j * 4) (.int .i64 (K : Int))).set (j * 4 + 1) (.int .i64 ((K + 1 : Nat) : Int)) = ecs (ys.set j ((K : Int), ((K + 1 : Nat) : Int), (B, b, s), (C, d, t))) := by
     rw [← ecs_set ((K : Int), ((K + 1 : Nat) : Int), (B, b, s), (C, d, t)) (by omega)]
     rw [set_same (i := j * 4 + 2) (by rw [List.getElem?_set_ne (by omega), List.getElem?_set_ne (by omega)]; exact y2), set_same (i := j * 4 + 3) (by rw [List.getElem?_set_ne (by omega), List.getElem?_set_ne (by omega)]; exact y3)]
    rw [hset2] at sl2
    have hO2 := hO.grow (fp' := fpA (some ad)) (fun x hx => .inl hx) hkB
    obtain ⟨z1, z2⟩ := eh_get hy
    have i1 : (pre ++ eh ys)[pre.length + 2 * j]? = some (B, b, s) := by rw [List.getElem?_append_right (by omega), Nat.add_sub_cancel_left]; exact z1
    have i2 : (pre ++ eh ys)[pre.length + (2 * j + 1)]? = some (C, d, t) := by rw [List.getElem?_append_right (by omega), Nat.add_sub_cancel_left]; exact z2
    have hI1 := hO2.rows _ (List.mem_of_getElem? i1)
    obtain ⟨p, hp⟩ : ∃ p, p = s.length := ⟨_, rfl⟩
    obtain ⟨r, hr⟩ : ∃ r, r = t.length := ⟨_, rfl⟩
    have hC1 := markIntS_any B b s (K + 2) W2 hI1 (by omega)
    have hC2 := fun (W : World) (hI : IS W C d t) => markIntS_any C d t (K + 2 + p) W hI (by omega)
    simp only [← hp] at hC1 q2 hKb
    simp only [← hr] at hC2 hKb
    have hjI : (j : Int) < (m : Int) := by omega
    have f0 := g0 (j * 4)
    have hBfp : ∀ x, x ∈ fpA B → x ∈ fpR (eh ys) := fun x hx => mem_fpR.2 ⟨_, List.mem_of_getElem? z1, hx⟩
    have hCfp : ∀ x, x ∈ fpA C → x ∈ fpR (eh ys) := fun x hx => mem_fpR.2 ⟨_, List.mem_of_getElem? z2, hx⟩
    have hfeq := fpR_map hfe
    have hBA : ∀ x, x ∈ fpA B → ¬ x ∈ fpA (some ad) := hO2.outer _ (List.mem_of_getElem? i1)
    rw [← hK]
    have eK1 : ((K : Int) + 1) = ((K + 1 : Nat) : Int) := by omega
    have eK2 : ((K : Int) + 1 + 1) = ((K + 2 : Nat) : Int) := by omega
    clear g0 g1 y0 y1 y2 y3 sl1 his hO hset2 hI1 hyl hcl hcs; have hC1_h := lH hC1; have hC2_h := lH hC2; have hp_h := lH hp; have hr_h := lH hr; have hK_h := lH hK; have hye_h := lH hye; have hy_h := lH hy; have hLj_h := lH hLj; have hkB_h := lH hkB; have hO2_h := lH hO2; have sl2_h := lH sl2; have i1_h := lH i1; have i2_h := lH i2; have z1_h := lH z1; have z2_h := lH z2; have hBfp_h := lH hBfp; have hCfp_h := lH hCfp; have hfeq_h := lH hfeq; have hfe_h := lH hfe; have hkp_h := lH hkp; have hel_h := lH hel; have hBA_h := lH hBA; have eK1_h := lH eK1; have eK2_h := lH eK2; clear hC1 hC2 hp hr hK hye hy hLj hkB hO2 sl2 i1 i2 z1 z2 hBfp hCfp hfeq hfe hkp hel hBA eK1 eK2
    go_upto_region 5 with (fail)
    rw [← hW1]
    clear hW1
    go_upto_region 7 with (fail)
    rw [eK1_h.out, ← hW2]
    clear hW2 q0 q1 q1f f0
    go_wp2_with (fail)
    rw [eK2_h.out]
    refine (hC1_h.out).mono ?_
    rintro e w3 ⟨rfl, hI3, hk3⟩
    have hO3 := hO2_h.out.wr i1_h.out hk3 hI3
    have sl3 := sl2_h.out.keeps hk3 (fun x hx hx' => hBA_h.out x hx' hx)
    have i3 : ((pre ++ eh ys).set (pre.length + 2 * j) (B, b, marks (K + 2) p))[pre.length + (2 * j + 1)]? = some (C, d, t) := by
     rw [List.getElem?_set_ne (by omega)]; exact i2_h.out
    have hI4 := hO3.rows _ (List.mem_of_getElem? i3)
    have hjl : j < ys.length := (List.getElem?_eq_some_iff.1 hy_h.out).1
    have q3 : w3.cell? ⟨(ad.add (j * 4)).block, (ad.add (j * 4)).off + 3, none⟩ = some (.slice C r d) := by
     have e := (ecs_get (l := ys.set j ((K : Int), ((K + 1 : Nat) : Int), (B, b, s), (C, d, t))) (j := j) (n := ((K : Int), ((K + 1 : Nat) : Int), (B, b, s), (C, d, t))) (by rw [List.getElem?_set_self hjl])).2.2.2
     obtain ⟨ad', hA', _, hc, _⟩ := Sl.cell sl3 e
     obtain rfl := Option.some.inj hA'
     rw [add_next _ _ 3 (by omega)] at hc
     rw [hr_h.out]; exact hc
    have hC4 := hC2_h.out w3 hI4
    have hk3' := hkB_h.out.trans (Keeps.of_below (Below.refl _ _) _)
    clear q2 hI3 hI4; have hO3_h := lH hO3; have sl3_h := lH sl3; have i3_h := lH i3; have hC4_h := lH hC4; have hk3_h := lH hk3; clear hO3 sl3 i3 hC4 hk3
    go_wp2_with (fail)
    refine (hC4_h.out).mono ?_
    rintro e w4 ⟨rfl, hI5, hk5⟩
    have hO5 := hO3_h.out.wr i3_h.out hk5 hI5
    have hCA : ∀ x, x ∈ fpA C → ¬ x ∈ fpA (some ad) := hO3_h.out.outer _ (List.mem_of_getElem? i3_h.out)
    have sl5 := sl3_h.out.keeps hk5 (fun x hx hx' => hCA x hx' hx)
    have hys : ecs (ys.set j ((K : Int), ((K + 1 : Nat) : Int), (B, b, s), (C, d, t))) = ecs (ys.set j ((K : Int), ((K + 1 : Nat) : Int), (B, b, marks (K + 2) p), (C, d, marks (K + 2 + p) r))) := ecs_congr (by simp only [ec, Hd.val, marks_length]; rw [← hp_h.out, ← hr_h.out])
    rw [hys] at sl5
    have hOe : ((pre ++ eh ys).set (pre.length + 2 * j) (B, b, marks (K + 2) p)).set (pre.length + (2 * j + 1)) (C, d, marks (K + 2 + p) r) = pre ++ eh (ys.set j ((K : Int), ((K + 1 : Nat) : Int), (B, b, marks (K + 2) p), (C, d, marks (K + 2 + p) r))) := by
     rw [List.set_append_right _ _ (by omega), List.set_append_right _ _ (by omega), Nat.add_sub_cancel_left, Nat.add_sub_cancel_left, ← eh_set _ hjl]
    rw [hOe] at hO5
    have hfe2 : (eh (ys.set j ((K : Int), ((K + 1 : Nat) : Int), (B, b, marks (K + 2) p), (C, d, marks (K + 2 + p) r)))).map (·.1) = (eh l).map (·.1) := by
     rw [← eh_set _ hjl, set_fst (l := t) (by rw [List.getElem?_set_ne (by omega)]; exact z2_h.out), set_fst z1_h.out, hfe_h.out]
    have hye2 : (ys.set j ((K : Int), ((K + 1 : Nat) : Int), (B, b, marks (K + 2) p), (C, d, marks (K + 2 + p) r))).map egOf = (marksE k L).take (j + 1) ++ L.drop (j + 1) := by
     rw [List.map_set, hye_h.out]
     have e := take_append_step (l := marksE k L) (m := L) (k := j) (by rw [marksE_length]) (marksE_get hLj_h.out)
     rw [← hK_h.out] at e
     rw [← e, hp_h.out, hr_h.out]; rfl
    have hkf : Keeps (· ∈ fpA (some ad) ++ fpR (eh l)) w w4 := by
     refine ((hkp_h.out.trans (hkB_h.out.mono fun x _ hx => List.mem_append_left _ hx)).trans (hk3_h.out.mono fun x _ hx => ?_)).trans (hk5.mono fun x _ hx => ?_)
     · rw [← hfeq_h.out]; exact List.mem_append_right _ (hBfp_h.out x hx)
     · rw [← hfeq_h.out]; exact List.mem_append_right _ (hCfp_h.out x hx)
    have hcs2 : k + cntE (L.take (j + 1)) = K + 2 + p + r := by
     have e1 : cntE (L.take (j + 1)) = cntE (L.take j) + (2 + s.length + t.length) := cntE_take_succ hLj_h.out
     have := hK_h.out; have := hp_h.out; have := hr_h.out; omega
    have hyl2 : ys.length = m := by have := hel_h.out; rw [ecs_length] at this; omega
    clear hI5 hk5 hCA hys hOe q3; have hO5_h := lH hO5; have sl5_h := lH sl5; have hfe2_h := lH hfe2; have hye2_h := lH hye2; have hkf_h := lH hkf; have hcs2_h := lH hcs2; have hyl2_h := lH hyl2; clear hO5 sl5 hfe2 hye2 hkf hcs2 hyl2
    go_wp2_with (fail)
    go_roundw
    case rel => exact ⟨j + 1, _, by omega, by go_num, by rw [hcs2_h.out]; go_num, by rw [List.length_set]; exact hyl2_h.out, hye2_h.out, sl5_h.out, hO5_h.out, hfe2_h.out, hkf_h.out⟩
    case measure => simp [intOf]; omega
  · obtain rfl : m = j := by omega
    have hye2 : ys.map egOf = marksE k L := by
     rw [hye, List.take_of_length_le (by rw [marksE_length, hLm_h.out]; exact Nat.le_refl _), List.drop_of_length_le (by rw [hLm_h.out]; exact Nat.le_refl _), List.append_nil]
    have hcn : cntE (L.take m) = cntE L := by rw [List.take_of_length_le (by rw [hLm_h.out]; exact Nat.le_refl _)]
    have hye2_h := lH hye2; have hcn_h := lH hcn; have hyl_h := lH hyl; have his_h := lH his; have hO_h := lH hO; have hfe_h := lH hfe; have hkp_h := lH hkp; clear hye2 hcn hyl his hO hfe hkp; clear hye
    go_wp2_with (fail)
    go_ret
    exact ⟨ret_int (by rw [hcn_h.out]), ys, hyl_h.out, hye2_h.out, his_h.out, hO_h.out, hfe_h.out, hkp_h.out.mono fun x _ hx => List.mem_append.1 hx⟩
set_option maxRecDepth 100000 in
set_option maxHeartbeats 2000000 in
theorem heldEdgeS_any (A : Option Addr) (c m : Nat) (l : List EHd) (L : List Eg) (k : Nat) (w : World) (h : RdE w A l) (hl : l.map egOf = marksE k L) (hm : l.length = m) (hml : m ≤ 1048576) (hb : k + cntE L ≤ 17592186044000) :
  Calls Tryz.prog 22 #[.slice A m c, .int .i64 k] w fun e w' => e = .returned (.int .i64 ((k + cntE L : Nat) : Int)) ∧ w = w' := by
 have hLm : L.length = m := by rw [← hm, ← marksE_length k L, ← hl, List.length_map]
 have hl_h := lH hl; have hm_h := lH hm; have hLm_h := lH hLm; clear hl hm hLm
 go_enter Tryz.func22, Tryz.ntmps22
 go_wp2_with (fail)
 go_loop [1, 5] (fun q i => ∃ j : Nat, j ≤ m ∧ i = .int .i64 j ∧ q = .int .i64 ((k + cntE (L.take j) : Nat) : Int)) (fun _ i => m - (intOf i).toNat)
 case atStart => exact ⟨0, Nat.zero_le _, rfl, by simp [cntE]⟩
 case round =>
  obtain ⟨j, hj, rfl, rfl⟩ := hrel
  by_cases hlt : j < m
  · obtain ⟨ad, κ, v, B, b, s, C, d, t, rfl, hn, ⟨d0, d1, d2, d3⟩, hr1, hr2⟩ := h.at_ (j := j) (by rw [hm_h.out]; exact hlt)
    obtain ⟨e, he⟩ : ∃ e, L[j]? = some e := ⟨_, List.getElem?_eq_getElem (by rw [hLm_h.out]; exact hlt)⟩
    have hg := marksE_get (k := k) he
    rw [← hl_h.out, List.getElem?_map, hn] at hg
    simp only [Option.map_some, Option.some.injEq, egOf, Prod.mk.injEq] at hg
    obtain ⟨g0, g1, g2, g3⟩ := hg
    have hcs := cntE_take_succ he
    have hcl := cntE_take_le L (j + 1)
    obtain ⟨K, hK⟩ : ∃ K, K = k + cntE (L.take j) := ⟨_, rfl⟩
    obtain ⟨p, hp⟩ : ∃ p, p = e.2.2.1.length := ⟨_, rfl⟩
    obtain ⟨r, hr⟩ : ∃ r, r = e.2.2.2.length := ⟨_, rfl⟩
    rw [← hK] at g0 g1 g2 g3 ⊢
    rw [← hp] at g2 g3 hcs
    rw [← hr] at g3 hcs
    subst g0 g1 g2 g3
    rw [marks_length] at d2 d3
    have hC1 := heldIntS_any B b p (K + 2) w hr1 (by omega)
    have hC2 := heldIntS_any C d r (K + 2 + p) w hr2 (by omega)
    have hjI : (j : Int) < (m : Int) := by omega
    have eK2 : ((K : Int) + 1 + 1) = ((K + 2 : Nat) : Int) := by omega
    have hKb : K + 2 + p + r ≤ 17592186044000 := by omega
    have hn1 : ¬ (((K + 2 + p : Nat) : Int) < 0) := by omega
    have hn2 : ¬ (((K + 2 + p + r : Nat) : Int) < 0) := by omega
    have hsum : k + cntE (L.take (j + 1)) = K + 2 + p + r := by omega
    have hC1_h := lH hC1; have hC2_h := lH hC2; have hK_h := lH hK; have hp_h := lH hp; have hr_h := lH hr; have eK2_h := lH eK2; have hsum_h := lH hsum; have he_h := lH he; have hn_h := lH hn; clear hC1 hC2 hK hp hr eK2 hsum he hn; clear h hr1 hr2 hcs hcl
    go_wp2_with (fail)
    rw [eK2_h.out]
    refine (hC1_h.out).mono ?_
    rintro e w1 ⟨rfl, rfl⟩
    go_wp2_with (fail)
    refine (hC2_h.out).mono ?_
    rintro e w1 ⟨rfl, rfl⟩
    go_wp2_with (fail)
    go_round
    case rel => exact ⟨j + 1, by omega, by go_num, by rw [hsum_h.out]; go_num⟩
    case measure => simp [intOf]; omega
  · obtain rfl : m = j := by omega
    have hcn : cntE (L.take m) = cntE L := by rw [List.take_of_length_le (by rw [hLm_h.out]; exact Nat.le_refl _)]
    have hcn_h := lH hcn; clear hcn; clear h
    go_wp2_with (fail)
    go_ret
    exact ⟨ret_int (by rw [hcn_h.out]), rfl⟩
set_option maxRecDepth 100000 in
set_option maxHeartbeats 2000000 in
theorem eqGraph_law {v v' : Value} {g g' : Gr} {w : World} (h : RdGr w v g) (h' : RdGr w v' g') (ok : OkG g) :
  Calls Tryz.prog 6 #[v, v'] w fun e w' => e = .returned (.bool (decide (g = g'))) ∧ Below w.heap.size w w' := by
 obtain ⟨A, c, hs, ⟨B, b, s⟩, ⟨C, d, t⟩, rfl, e1, e2, e3, hE, hRa, hRb⟩ := h
 obtain ⟨A', c', hs', ⟨B', b', s'⟩, ⟨C', d', t'⟩, rfl, e1', e2', e3', hE', hRa', hRb'⟩ := h'
 obtain ⟨z, es, s0, t0⟩ := g
 obtain ⟨z', es', s0', t0'⟩ := g'
 have a1 : es = hs.map egOf := e1
 have a2 : s = s0 := e2
 have a3 : t = t0 := e3
 have b1 : es' = hs'.map egOf := e1'
 have b2 : s' = s0' := e2'
 have b3 : t' = t0' := e3'
 subst a1 a2 a3 b1 b2 b3
 obtain ⟨⟨ok1, ok2, ok3⟩, ok4, -⟩ := ok
 have ok1' : hs.length ≤ 1048576 := by have : (hs.map egOf).length ≤ 1048576 := ok1; simpa using this
 have ok2' : s.length ≤ 1048576 := ok2
 have ok3' : t.length ≤ 1048576 := ok3
 have hQ0 := fun (W : World) (hb : Below w.heap.size w W) => eqEdgeS_any A A' c c' hs hs' W (hE.below hb) (hE'.below hb) ok1' (fun x hx => ok4 _ (List.mem_map_of_mem hx))
 have hQ1 := fun (W : World) (hb : Below w.heap.size w W) => eqIntS_any B B' b b' s s' W (RdI.below hRa hb) (RdI.below hRa' hb) (by omega)
 have hQ2 := fun (W : World) (hb : Below w.heap.size w W) => eqIntS_any C C' d d' t t' W (RdI.below hRb hb) (RdI.below hRb' hb) (by omega)
 show Calls Tryz.prog _ #[.agg #[.int .i64 z, .slice A hs.length c, .slice B s.length b, .slice C t.length d], .agg #[.int .i64 z', .slice A' hs'.length c', .slice B' s'.length b', .slice C' t'.length d']] w fun e w' => e = .returned (.bool (decide (((z, hs.map egOf, s, t) : Gr) = (z', hs'.map egOf, s', t')))) ∧ Below w.heap.size w w'
 obtain ⟨D, hD⟩ : ∃ D, D = decide (((z, hs.map egOf, s, t) : Gr) = (z', hs'.map egOf, s', t')) := ⟨_, rfl⟩
 obtain ⟨D0, hD0⟩ : ∃ D, D = decide (hs.map egOf = hs'.map egOf) := ⟨_, rfl⟩
 obtain ⟨D1, hD1⟩ : ∃ D, D = decide (s = s') := ⟨_, rfl⟩
 obtain ⟨D2, hD2⟩ : ∃ D, D = decide (t = t') := ⟨_, rfl⟩
 rw [← hD]
 simp only [← hD0] at hQ0
 simp only [← hD1] at hQ1
 simp only [← hD2] at hQ2
 have hDD : D = (decide (z = z') && (D0 && (D1 && D2))) := by
  rw [hD, hD0, hD1, hD2, Bool.eq_iff_iff]; simp
 obtain ⟨n, hn⟩ : ∃ n, n = hs.length := ⟨_, rfl⟩
 obtain ⟨n', hn'⟩ : ∃ n, n = hs'.length := ⟨_, rfl⟩
 obtain ⟨p, hp⟩ : ∃ p, p = s.length := ⟨_, rfl⟩
 obtain ⟨q, hq⟩ : ∃ q, q = t.length := ⟨_, rfl⟩
 obtain ⟨p', hp'⟩ : ∃ p, p = s'.length := ⟨_, rfl⟩
 obtain ⟨q', hq'⟩ : ∃ q, q = t'.length := ⟨_, rfl⟩
 simp only [← hn, ← hn'] at hQ0
 simp only [← hp, ← hp'] at hQ1
 simp only [← hq, ← hq'] at hQ2
 rw [← hn, ← hn', ← hp, ← hq, ← hp', ← hq']
 obtain ⟨W, hW, bW, k0, k1⟩ := allocs2 w (.cells #[.int .i64 z, .slice A n c, .slice B p b, .slice C q d] tGr) (.cells #[.int .i64 z', .slice A' n' c', .slice B' p' b', .slice C' q' d'] tGr)
 obtain ⟨⟨c0, c1, c2, c3⟩, f0, f1, f2, f3⟩ := t_box4 k0
 obtain ⟨⟨d0, d1, d2, d3⟩, g0, g1, g2, g3⟩ := t_box4 k1
 clear hE hE' hRa hRa' hRb hRb' hD hD0 hD1 hD2 hn hn' hp hq hp' hq' e1 e2 e3 e1' e2' e3' ok1 ok2 ok3 ok4
 by_cases e0 : z = z'
 · have t0 : (z != z') = false := by simp [e0]
   rw [decide_eq_true e0] at hDD
   cases D0
   · obtain rfl : D = false := by rw [hDD]; rfl
     clear e0 hDD; have hQ0_h := lH hQ0; have hQ1_h := lH hQ1; have hQ2_h := lH hQ2; have k0_h := lH k0; have k1_h := lH k1; have bW_h := lH bW; clear hQ0 hQ1 hQ2 k0 k1 bW
     go_enter Tryz.func6, Tryz.ntmps6
     go_upto_region 1 with (fail)
     rw [← hW]
     clear hW
     go_wp2_with (fail)
     refine (hQ0_h.out W bW_h.out).mono ?_
     rintro e w1 ⟨rfl, hb1⟩
     go_wp2_with (fail)
     go_ret
     exact ⟨rfl, below_trans bW_h.out hb1 bW_h.out.size⟩
   · cases D1
     · obtain rfl : D = false := by rw [hDD]; rfl
       clear e0 hDD; have hQ0_h := lH hQ0; have hQ1_h := lH hQ1; have hQ2_h := lH hQ2; have k0_h := lH k0; have k1_h := lH k1; have bW_h := lH bW; clear hQ0 hQ1 hQ2 k0 k1 bW
       go_enter Tryz.func6, Tryz.ntmps6
       go_upto_region 1 with (fail)
       rw [← hW]
       clear hW
       go_wp2_with (fail)
       refine (hQ0_h.out W bW_h.out).mono ?_
       rintro e w1 ⟨rfl, hb1⟩
       clear c0 c1 c2 c3 f0 f1 f2 f3 d0 d1 d2 d3 g0 g1 g2 g3
       obtain ⟨⟨c0, c1, c2, c3⟩, f0, f1, f2, f3⟩ := t_box4 (t_box_below k0_h.out hb1)
       obtain ⟨⟨d0, d1, d2, d3⟩, g0, g1, g2, g3⟩ := t_box4 (t_box_below k1_h.out hb1)
       have hB1 := below_trans bW_h.out hb1 bW_h.out.size
       clear hb1; have hB1_h := lH hB1; clear hB1
       go_wp2_with (fail)
       refine (hQ1_h.out w1 hB1_h.out).mono ?_
       rintro e w2 ⟨rfl, hq2⟩
       have hB2 := below_trans hB1_h.out hq2.below hB1_h.out.size
       clear hq2; have hB2_h := lH hB2; clear hB2
       go_wp2_with (fail)
       go_ret
       exact ⟨rfl, hB2_h.out⟩
     · obtain rfl : D = D2 := by rw [hDD]; rfl
       clear e0 hDD; have hQ0_h := lH hQ0; have hQ1_h := lH hQ1; have hQ2_h := lH hQ2; have k0_h := lH k0; have k1_h := lH k1; have bW_h := lH bW; clear hQ0 hQ1 hQ2 k0 k1 bW
       go_enter Tryz.func6, Tryz.ntmps6
       go_upto_region 1 with (fail)
       rw [← hW]
       clear hW
       go_wp2_with (fail)
       refine (hQ0_h.out W bW_h.out).mono ?_
       rintro e w1 ⟨rfl, hb1⟩
       clear c0 c1 c2 c3 f0 f1 f2 f3 d0 d1 d2 d3 g0 g1 g2 g3
       have k0a := t_box_below k0_h.out hb1
       have k1a := t_box_below k1_h.out hb1
       obtain ⟨⟨c0, c1, c2, c3⟩, f0, f1, f2, f3⟩ := t_box4 k0a
       obtain ⟨⟨d0, d1, d2, d3⟩, g0, g1, g2, g3⟩ := t_box4 k1a
       have hB1 := below_trans bW_h.out hb1 bW_h.out.size
       clear hb1; have hB1_h := lH hB1; have k0a_h := lH k0a; have k1a_h := lH k1a; clear hB1 k0a k1a
       go_wp2_with (fail)
       refine (hQ1_h.out w1 hB1_h.out).mono ?_
       rintro e w2 ⟨rfl, hq2⟩
       clear c0 c1 c2 c3 f0 f1 f2 f3 d0 d1 d2 d3 g0 g1 g2 g3
       obtain ⟨⟨c0, c1, c2, c3⟩, f0, f1, f2, f3⟩ := t_box4 (box_qt k0a_h.out hq2)
       obtain ⟨⟨d0, d1, d2, d3⟩, g0, g1, g2, g3⟩ := t_box4 (box_qt k1a_h.out hq2)
       have hB2 := below_trans hB1_h.out hq2.below hB1_h.out.size
       clear hq2; have hB2_h := lH hB2; clear hB2
       go_wp2_with (fail)
       refine (hQ2_h.out w2 hB2_h.out).mono ?_
       rintro e w3 ⟨rfl, hq3⟩
       have hB3 := below_trans hB2_h.out hq3.below hB2_h.out.size
       clear hq3; have hB3_h := lH hB3; clear hB3
       cases D
       · go_wp2_with (fail)
         go_ret
         exact ⟨rfl, hB3_h.out⟩
       · go_wp2_with (fail)
         go_ret
         exact ⟨rfl, hB3_h.out⟩
 · have t0 : (z != z') = true := by simp [e0]
   obtain rfl : D = false := by rw [hDD, decide_eq_false e0]; rfl
   clear e0 hDD; have hQ0_h := lH hQ0; have hQ1_h := lH hQ1; have hQ2_h := lH hQ2; have k0_h := lH k0; have k1_h := lH k1; have bW_h := lH bW; clear hQ0 hQ1 hQ2 k0 k1 bW
   go_enter Tryz.func6, Tryz.ntmps6
   go_upto_region 1 with (fail)
   rw [← hW]
   clear hW
   go_wp2_with (fail)
   go_ret
   exact ⟨rfl, bW_h.out⟩
theorem alloc_box1 (w : World) (o : Obj) : ∃ W, W = w.alloc o ∧ Below w.heap.size w W ∧ W.heap[w.heap.size]? = some o := ⟨_, rfl, t_below_alloc _ _, heap_alloc_new _ _⟩
set_option maxRecDepth 100000 in
set_option maxHeartbeats 2000000 in
theorem markGraph_law {v : Value} {g : Gr} {fp : List Nat} {K : Int} {w : World} (k : Nat) (h : OwGr w v g fp) (hK : K = (k : Int)) (_ok : OkG g) (hl : k + cntG g ≤ 17592186044000 ∧ 0 < k) :
  Calls Tryz.prog 7 #[v, .int .i64 K] w fun e w' => e = .returned (.int .i64 (K + (cntG g : Int))) ∧ HeGr w' v g k fp ∧ Keeps (· ∈ fp) w w' := by
 subst hK
 obtain ⟨A, c, hs, ⟨B, b, s⟩, ⟨C, d, t⟩, rfl, e1, e2, e3, hsl, hO, rfl⟩ := h
 obtain ⟨z, es, s0, t0⟩ := g
 have a1 : es = hs.map egOf := e1
 have a2 : s = s0 := e2
 have a3 : t = t0 := e3
 subst a1 a2 a3
 obtain ⟨⟨ok1, -, -⟩, -, -⟩ := _ok
 have ok1' : hs.length ≤ 1048576 := by have : (hs.map egOf).length ≤ 1048576 := ok1; simpa using this
 obtain ⟨E, hE⟩ : ∃ E, E = cntE (hs.map egOf) := ⟨_, rfl⟩
 obtain ⟨n, hn⟩ : ∃ n, n = hs.length := ⟨_, rfl⟩
 obtain ⟨p, hp⟩ : ∃ p, p = s.length := ⟨_, rfl⟩
 obtain ⟨q, hq⟩ : ∃ q, q = t.length := ⟨_, rfl⟩
 have hcg : cntG (z, hs.map egOf, s, t) = E + p + q := by rw [hE, hp, hq]; rfl
 rw [hcg] at hl ⊢
 have hl2 : k + (E + p + q) ≤ 17592186044000 := hl.1
 obtain ⟨W, hW, bW, k0⟩ := alloc_box1 w (.cells #[.int .i64 z, .slice A n c, .slice B p b, .slice C q d] tGr)
 have hC0 := markEdgeS_any A c n hs [(B, b, s), (C, d, t)] k W (by rw [hn]; exact hsl.below bW) (hO.below bW) hn.symm (by omega) (by rw [← hE]; omega)
 rw [← hE] at hC0
 have hC1 := fun (W' : World) (hI : IS W' B b s) => markIntS_any B b s (k + E) W' hI (by omega)
 have hC2 := fun (W' : World) (hI : IS W' C d t) => markIntS_any C d t (k + E + p) W' hI (by omega)
 simp only [← hp] at hC1
 simp only [← hq] at hC2
 show Calls Tryz.prog _ #[.agg #[.int .i64 z, .slice A hs.length c, .slice B s.length b, .slice C t.length d], .int .i64 (k : Int)] w fun e w' => e = .returned (.int .i64 ((k : Int) + ((E + p + q : Nat) : Int))) ∧ HeGr w' (.agg #[.int .i64 z, .slice A hs.length c, .slice B s.length b, .slice C t.length d]) (z, hs.map egOf, s, t) k (fpA A ++ fpR ((B, b, s) :: (C, d, t) :: eh hs)) ∧ Keeps (· ∈ fpA A ++ fpR ((B, b, s) :: (C, d, t) :: eh hs)) w w'
 have hlt : ∀ x, x ∈ fpA A ++ fpR (((B, b, s) : Hd) :: (C, d, t) :: eh hs) → x < w.heap.size := fun x hx => by
  rcases List.mem_append.1 hx with hx | hx
  · exact hsl.lt x hx
  · exact hO.lt x hx
 obtain ⟨fp, hfp⟩ : ∃ fp, fp = fpA A ++ fpR (((B, b, s) : Hd) :: (C, d, t) :: eh hs) := ⟨_, rfl⟩
 have hsub : ∀ x, x ∈ fpA A ++ fpR (eh hs) → x ∈ fp := fun x hx => by
  rw [hfp, fpR_cons, fpR_cons]; simp only [List.mem_append] at hx ⊢; rcases hx with h | h <;> simp [h]
 have hsubB : ∀ x, x ∈ fpA B → x ∈ fp := fun x hx => by rw [hfp, fpR_cons]; simp [hx]
 have hsubC : ∀ x, x ∈ fpA C → x ∈ fp := fun x hx => by rw [hfp, fpR_cons, fpR_cons]; simp [hx]
 rw [← hfp] at hlt ⊢
 obtain ⟨⟨c0, c1, c2, c3⟩, f0, f1, f2, f3⟩ := t_box4 k0
 rw [← hn, ← hp, ← hq]
 obtain ⟨R1, hR1⟩ : ∃ R : Nat, R = k + E + p := ⟨_, rfl⟩
 obtain ⟨R2, hR2⟩ : ∃ R : Nat, R = k + E + p + q := ⟨_, rfl⟩
 simp only [← hR1] at hC1 hC2
 have hRR : R1 + q = R2 := by omega
 rw [hRR] at hC2
 have hfin : (k : Int) + ((E + p + q : Nat) : Int) = (R2 : Int) := by omega
 rw [hfin]
 obtain ⟨R0, hR0⟩ : ∃ R : Nat, R = k + E := ⟨_, rfl⟩
 simp only [← hR0] at hC0 hC1
 clear hsl hO hl hl2 ok1 ok1' e1 e2 e3 hcg hfin; have hC0_h := lH hC0; have hC1_h := lH hC1; have hC2_h := lH hC2; have hE_h := lH hE; have hn_h := lH hn; have hp_h := lH hp; have hq_h := lH hq; have bW_h := lH bW; have k0_h := lH k0; have hlt_h := lH hlt; have hfp_h := lH hfp; have hsub_h := lH hsub; have hsubB_h := lH hsubB; have hsubC_h := lH hsubC; have hR0_h := lH hR0; have hR1_h := lH hR1; have hR2_h := lH hR2; have hRR_h := lH hRR; clear hC0 hC1 hC2 hE hn hp hq bW k0 hlt hfp hsub hsubB hsubC hR0 hR1 hR2 hRR
 go_enter Tryz.func7, Tryz.ntmps7
 go_upto_region 1 with (fail)
 rw [← hW]
 clear hW
 go_wp2_with (fail)
 refine (hC0_h.out).mono ?_
 rintro e w1 ⟨ys, rfl, hyl, hye, hsl1, hO1, hfe, hk1⟩
 clear c0 c1 c2 c3 f0 f1 f2 f3
 have k1 := t_box_keeps k0_h.out hk1 (fun hx => by have := hlt_h.out _ (hsub_h.out _ hx); omega)
 obtain ⟨⟨c0, c1, c2, c3⟩, f0, f1, f2, f3⟩ := t_box4 k1
 have hC1' := hC1_h.out w1 (hO1.rows (B, b, s) (by simp))
 have hyl_h := lH hyl; have hye_h := lH hye; have hsl1_h := lH hsl1; have hO1_h := lH hO1; have hfe_h := lH hfe; have hk1_h := lH hk1; have k1_h := lH k1; have hC1'_h := lH hC1'; clear hyl hye hsl1 hO1 hfe hk1 k1 hC1'
 go_wp2_with (fail)
 refine (hC1'_h.out).mono ?_
 rintro e w2 ⟨rfl, hI2, hk2⟩
 clear c0 c1 c2 c3 f0 f1 f2 f3
 have k2 := t_box_keeps k1_h.out hk2 (fun hx => by have := hlt_h.out _ (hsubB_h.out _ hx); omega)
 obtain ⟨⟨c0, c1, c2, c3⟩, f0, f1, f2, f3⟩ := t_box4 k2
 have hO2 := hO1_h.out.wr (i := 0) (B := B) (c := b) (l := s) rfl hk2 hI2
 have hsl2 := hsl1_h.out.keeps hk2 (fun x hx hx' => hO1_h.out.outer (B, b, s) (by simp) x hx' hx)
 have hC2' := hC2_h.out w2 (hO2.rows (C, d, t) (by simp))
 clear k2 hI2; have hO2_h := lH hO2; have hsl2_h := lH hsl2; have hk2_h := lH hk2; have hC2'_h := lH hC2'; clear hO2 hsl2 hk2 hC2'
 go_wp2_with (fail)
 refine (hC2'_h.out).mono ?_
 rintro e w3 ⟨rfl, hI3, hk3⟩
 have hO3 := hO2_h.out.wr (i := 1) (B := C) (c := d) (l := t) rfl hk3 hI3
 have hsl3 := hsl2_h.out.keeps hk3 (fun x hx hx' => hO2_h.out.outer (C, d, t) (by simp) x hx' hx)
 have hkf : Keeps (· ∈ fp) w w3 := (((Keeps.of_below bW_h.out _).trans (hk1_h.out.mono fun x _ hx => hsub_h.out x hx)).trans (hk2_h.out.mono fun x _ hx => hsubB_h.out x hx)).trans (hk3.mono fun x _ hx => hsubC_h.out x hx)
 have hHe : HeGr w3 (.agg #[.int .i64 z, .slice A n c, .slice B p b, .slice C q d]) (z, hs.map egOf, s, t) k fp := by
  refine ⟨A, c, ys, (B, b, marks R0 p), (C, d, marks R1 q), ?_, hye_h.out.symm, ?_, ?_, ?_, hO3, ?_⟩
  · rw [hyl_h.out]; simp only [marks_length]; rfl
  · show marks R0 p = marks (k + cntE (hs.map egOf)) s.length
    rw [← hE_h.out, ← hp_h.out, hR0_h.out]
  · show marks R1 q = marks (k + cntE (hs.map egOf) + s.length) t.length
    rw [← hE_h.out, ← hp_h.out, ← hq_h.out, hR1_h.out]
  · rw [hyl_h.out]; exact hsl3
  · rw [hfp_h.out]
    congr 1
    exact fpR_map (by simp only [List.map_cons]; rw [hfe_h.out])
 clear c0 c1 c2 c3 f0 f1 f2 f3 hI3 hk3 hO3 hsl3; have hkf_h := lH hkf; have hHe_h := lH hHe; clear hkf hHe
 go_wp2_with (fail)
 go_ret
 exact ⟨rfl, hHe_h.out, hkf_h.out⟩
set_option maxRecDepth 100000 in
set_option maxHeartbeats 2000000 in
theorem heldGraph_law {v : Value} {g : Gr} {k : Nat} {fp : List Nat} {K : Int} {w : World} (h : HeGr w v g k fp) (hK : K = (k : Int)) (_ok : OkG g) (hl : k + cntG g ≤ 17592186044000 ∧ 0 < k) :
  Calls Tryz.prog 8 #[v, .int .i64 K] w fun e w' => e = .returned (.int .i64 (K + (cntG g : Int))) ∧ Below w.heap.size w w' := by
 subst hK
 obtain ⟨A, c, hs, ⟨B, b, s⟩, ⟨C, d, t⟩, rfl, e1, e2, e3, hE, hRa, hRb⟩ := OwGr.rd h
 obtain ⟨z, es, s0, t0⟩ := g
 have a1 : hs.map egOf = marksE k es := e1.symm
 have a2 : s = marks (k + cntE es) s0.length := e2
 have a3 : t = marks (k + cntE es + s0.length) t0.length := e3
 subst a2 a3
 obtain ⟨⟨ok1, -, -⟩, -, -⟩ := _ok
 have ok1' : es.length ≤ 1048576 := ok1
 have hnl : es.length = hs.length := by have := congrArg List.length a1; rw [List.length_map, marksE_length] at this; exact this.symm
 obtain ⟨E, hEE⟩ : ∃ E, E = cntE es := ⟨_, rfl⟩
 obtain ⟨n, hn⟩ : ∃ n, n = hs.length := ⟨_, rfl⟩
 obtain ⟨p, hp⟩ : ∃ p, p = s0.length := ⟨_, rfl⟩
 obtain ⟨q, hq⟩ : ∃ q, q = t0.length := ⟨_, rfl⟩
 have hcg : cntG (z, es, s0, t0) = E + p + q := by rw [hEE, hp, hq]; rfl
 rw [hcg] at hl ⊢
 have hl2 : k + (E + p + q) ≤ 17592186044000 := hl.1
 show Calls Tryz.prog _ #[.agg #[.int .i64 z, .slice A hs.length c, .slice B (marks (k + cntE es) s0.length).length b, .slice C (marks (k + cntE es + s0.length) t0.length).length d], .int .i64 (k : Int)] w _
 have hRa' : RdI w B (marks (k + cntE es) s0.length) := hRa
 have hRb' : RdI w C (marks (k + cntE es + s0.length) t0.length) := hRb
 rw [marks_length, marks_length, ← hn, ← hp, ← hq]
 rw [← hEE, ← hp] at hRa' hRb'
 rw [← hq] at hRb'
 obtain ⟨W, hW, bW, k0⟩ := alloc_box1 w (.cells #[.int .i64 z, .slice A n c, .slice B p b, .slice C q d] tGr)
 have hC0 := heldEdgeS_any A c n hs es k W (hE.below bW) a1 hn.symm (by omega) (by rw [← hEE]; omega)
 rw [← hEE] at hC0
 have hC1 := heldIntS_any B b p (k + E) W (hRa'.below bW) (by omega)
 have hC2 := heldIntS_any C d q (k + E + p) W (hRb'.below bW) (by omega)
 obtain ⟨⟨c0, c1, c2, c3⟩, f0, f1, f2, f3⟩ := t_box4 k0
 obtain ⟨R0, hR0⟩ : ∃ R : Nat, R = k + E := ⟨_, rfl⟩
 obtain ⟨R1, hR1⟩ : ∃ R : Nat, R = k + E + p := ⟨_, rfl⟩
 obtain ⟨R2, hR2⟩ : ∃ R : Nat, R = k + E + p + q := ⟨_, rfl⟩
 rw [← hR0] at hC0 hC1
 rw [← hR1] at hC2
 rw [show R0 + p = R1 by omega] at hC1
 rw [show R1 + q = R2 by omega] at hC2
 have hfin : (k : Int) + ((E + p + q : Nat) : Int) = (R2 : Int) := by omega
 rw [hfin]
 have n0 : ¬ ((R0 : Int) < 0) := by omega
 have n1 : ¬ ((R1 : Int) < 0) := by omega
 have n2 : ¬ ((R2 : Int) < 0) := by omega
 clear hE hRa hRb hRa' hRb' h e1 e2 e3 a1 ok1 ok1' hnl hl hl2 hcg hfin hEE hn hp hq hR0 hR1 hR2; have hC0_h := lH hC0; have hC1_h := lH hC1; have hC2_h := lH hC2; have k0_h := lH k0; have bW_h := lH bW; clear hC0 hC1 hC2 k0 bW
 go_enter Tryz.func8, Tryz.ntmps8
 go_upto_region 1 with (fail)
 rw [← hW]
 clear hW
 go_wp2_with (fail)
 refine (hC0_h.out).mono ?_
 rintro e w1 ⟨rfl, rfl⟩
 go_wp2_with (fail)
 refine (hC1_h.out).mono ?_
 rintro e w1 ⟨rfl, rfl⟩
 go_wp2_with (fail)
 refine (hC2_h.out).mono ?_
 rintro e w1 ⟨rfl, rfl⟩
 go_wp2_with (fail)
 go_ret
 exact ⟨rfl, bW_h.out⟩
end Go.Proofs.YtpkmjenoniedjaaGreat
namespace Go.Proofs.YtpkmjenoniedjaaGreat
open Go.ChangeShapes Go.WideShapes Go.ChangeAt Go.RowKit
set_option maxHeartbeats 40000000 in
set_option maxRecDepth 100000 in
theorem lawSpiderGraph_any (n : Int) (m : Int) (w : World) (_lon : -9223372036854775808 ≤ n) (_hin : n ≤ 9223372036854775807) (_lom : -9223372036854775808 ≤ m) (_him : m ≤ 9223372036854775807) :
  Calls Tryz.prog 3 #[.int .i64 n, .int .i64 m] w fun e w' => e = .returned (.bool true) ∧ Below w.heap.size w w' := by
 have hB0 : Below w.heap.size w w := Below.refl _ _
 go_enter Tryz.func3, Tryz.ntmps3
 go_wp2_with (fail)
 refine (sSpiderGraph_law n m  ).mono ?_
 rintro e w1 ⟨v1_0, fp1_0, rfl, o1r0, fr1_0, hb1⟩
 have hB1 := below_trans hB0 hb1 hB0.size
 obtain ⟨A1_0, n1_0, c1_0, B1_0, m1_0, d1_0, C1_0, k1_0, e1_0, rfl⟩ := o1r0.shape
 have lt_W0 := o1r0.lt
 have hb2 := t_below_alloc (w1) (.cells #[.int .i64 ((spR n m).1).1, .slice A1_0 n1_0 c1_0, .slice B1_0 m1_0 d1_0, .slice C1_0 k1_0 e1_0] 25)
 have hB2 := below_trans hB1 hb2 hB1.size
 have bx2 := heap_alloc_new (w1) (.cells #[.int .i64 ((spR n m).1).1, .slice A1_0 n1_0 c1_0, .slice B1_0 m1_0 d1_0, .slice C1_0 k1_0 e1_0] 25)
 have lt_bW0 : LtL ((w1).alloc (.cells #[.int .i64 ((spR n m).1).1, .slice A1_0 n1_0 c1_0, .slice B1_0 m1_0 d1_0, .slice C1_0 k1_0 e1_0] 25)).heap.size [(w1).heap.size] := fun b hb => by obtain rfl := List.mem_singleton.1 hb; exact t_box_lt bx2
 have fr_bW0 : FreshL (w1).heap.size [(w1).heap.size] := fun b hb => by obtain rfl := List.mem_singleton.1 hb; exact Nat.le_refl _
 have BX_bW0_2 := lH bx2; clear bx2
 go_wp2_with (fail)
 refine (iSpiderGraph_law n m  ).mono ?_
 rintro e w3 ⟨v3_0, fp3_0, rfl, o3r0, fr3_0, hb3⟩
 have hB3 := below_trans hB2 hb3 hB2.size
 obtain ⟨A3_0, n3_0, c3_0, B3_0, m3_0, d3_0, C3_0, k3_0, e3_0, rfl⟩ := o3r0.shape
 have lt_G0 := o3r0.lt
 have hb4 := t_below_alloc (w3) (.cells #[.int .i64 ((spR n m).1).1, .slice A3_0 n3_0 c3_0, .slice B3_0 m3_0 d3_0, .slice C3_0 k3_0 e3_0] 25)
 have hB4 := below_trans hB3 hb4 hB3.size
 have bx4 := heap_alloc_new (w3) (.cells #[.int .i64 ((spR n m).1).1, .slice A3_0 n3_0 c3_0, .slice B3_0 m3_0 d3_0, .slice C3_0 k3_0 e3_0] 25)
 have lt_bG0 : LtL ((w3).alloc (.cells #[.int .i64 ((spR n m).1).1, .slice A3_0 n3_0 c3_0, .slice B3_0 m3_0 d3_0, .slice C3_0 k3_0 e3_0] 25)).heap.size [(w3).heap.size] := fun b hb => by obtain rfl := List.mem_singleton.1 hb; exact t_box_lt bx4
 have fr_bG0 : FreshL (w3).heap.size [(w3).heap.size] := fun b hb => by obtain rfl := List.mem_singleton.1 hb; exact Nat.le_refl _
 have BX_bG0_4 := lH bx4; clear bx4
 have F1_G0_4 := o3r0.below hb4
 clear o3r0
 have F2_W0_2 := o1r0.below hb2
 clear o1r0
 have F3_W0_3 := F2_W0_2.below hb3
 clear F2_W0_2
 have F4_W0_4 := F3_W0_3.below hb4
 clear F3_W0_3
 obtain ⟨⟨c5_0, c5_1, c5_2, c5_3⟩, f5_0, f5_1, f5_2, f5_3⟩ := t_box4 BX_bG0_4.out
 have F6_bW0_3 := lH (t_box_below BX_bW0_2.out hb3)
 clear BX_bW0_2
 have F7_bW0_4 := lH (t_box_below F6_bW0_3.out hb4)
 clear F6_bW0_3
 obtain ⟨⟨c8_0, c8_1, c8_2, c8_3⟩, f8_0, f8_1, f8_2, f8_3⟩ := t_box4 F7_bW0_4.out
 go_wp2_with (fail)
 refine (eqGraph_law F1_G0_4.rd F4_W0_4.rd (spR_ok n m)).mono ?_
 rintro e w5 ⟨rfl, hb5⟩
 have hB5 := below_trans hB4 hb5 hB4.size
 clear c5_0 c5_1 c5_2 c5_3 f5_0 f5_1 f5_2 f5_3 c8_0 c8_1 c8_2 c8_3 f8_0 f8_1 f8_2 f8_3
 rw [decide_eq_true (rfl : (spR n m).1 = (spR n m).1)]
 have F9_G0_5 := F1_G0_4.below hb5
 clear F1_G0_4
 have F10_bG0_5 := lH (t_box_below BX_bG0_4.out hb5)
 clear BX_bG0_4
 obtain ⟨⟨c11_0, c11_1, c11_2, c11_3⟩, f11_0, f11_1, f11_2, f11_3⟩ := t_box4 F10_bG0_5.out
 go_wp2_with (fail)
 refine (markGraph_law (1) F9_G0_5 (by omega) (spR_ok n m) (by have := (spR_ok n m).2.2; constructor <;> omega)).mono ?_
 rintro e w6 ⟨rfl, he6, hk6⟩
 have hB6 := below_keeps hB5 hk6 hB5.size (fun b hb => Nat.le_trans hB2.size (fr3_0 b hb))
 clear c11_0 c11_1 c11_2 c11_3 f11_0 f11_1 f11_2 f11_3
 have F12_bG0_6 := lH (t_box_keeps F10_bG0_5.out hk6 (fun hh => (apart_of' lt_G0 (fr_bG0)) _ (List.mem_singleton.2 rfl) hh))
 clear F10_bG0_5
 obtain ⟨⟨c13_0, c13_1, c13_2, c13_3⟩, f13_0, f13_1, f13_2, f13_3⟩ := t_box4 F12_bG0_6.out
 go_wp2_with (fail)
 refine (heldGraph_law he6 (by omega) (spR_ok n m) (by have := (spR_ok n m).2.2; constructor <;> omega)).mono ?_
 rintro e w7 ⟨rfl, hb7⟩
 have hB7 := below_trans hB6 hb7 hB6.size
 clear c13_0 c13_1 c13_2 c13_3 f13_0 f13_1 f13_2 f13_3
 go_wp2_with (fail)
 refine (iSpiderGraph_law n m  ).mono ?_
 rintro e w8 ⟨v8_0, fp8_0, rfl, o8r0, fr8_0, hb8⟩
 have hB8 := below_trans hB7 hb8 hB7.size
 obtain ⟨A8_0, n8_0, c8_0, B8_0, m8_0, d8_0, C8_0, k8_0, e8_0, rfl⟩ := o8r0.shape
 have lt_H0 := o8r0.lt
 have hb9 := t_below_alloc (w8) (.cells #[.int .i64 ((spR n m).1).1, .slice A8_0 n8_0 c8_0, .slice B8_0 m8_0 d8_0, .slice C8_0 k8_0 e8_0] 25)
 have hB9 := below_trans hB8 hb9 hB8.size
 have bx9 := heap_alloc_new (w8) (.cells #[.int .i64 ((spR n m).1).1, .slice A8_0 n8_0 c8_0, .slice B8_0 m8_0 d8_0, .slice C8_0 k8_0 e8_0] 25)
 have lt_bH0 : LtL ((w8).alloc (.cells #[.int .i64 ((spR n m).1).1, .slice A8_0 n8_0 c8_0, .slice B8_0 m8_0 d8_0, .slice C8_0 k8_0 e8_0] 25)).heap.size [(w8).heap.size] := fun b hb => by obtain rfl := List.mem_singleton.1 hb; exact t_box_lt bx9
 have fr_bH0 : FreshL (w8).heap.size [(w8).heap.size] := fun b hb => by obtain rfl := List.mem_singleton.1 hb; exact Nat.le_refl _
 have BX_bH0_9 := lH bx9; clear bx9
 have F14_H0_9 := o8r0.below hb9
 clear o8r0
 have F15_W0_5 := F4_W0_4.below hb5
 clear F4_W0_4
 have F16_W0_6 := F15_W0_5.keeps hk6 (apart_of lt_W0 (fr3_0.mono (Nat.le_trans (Nat.le_refl _) hb2.size)))
 clear F15_W0_5
 have F17_W0_7 := F16_W0_6.below hb7
 clear F16_W0_6
 have F18_W0_8 := F17_W0_7.below hb8
 clear F17_W0_7
 have F19_W0_9 := F18_W0_8.below hb9
 clear F18_W0_8
 obtain ⟨⟨c20_0, c20_1, c20_2, c20_3⟩, f20_0, f20_1, f20_2, f20_3⟩ := t_box4 BX_bH0_9.out
 have F21_bW0_5 := lH (t_box_below F7_bW0_4.out hb5)
 clear F7_bW0_4
 have F22_bW0_6 := lH (t_box_keeps F21_bW0_5.out hk6 (fun hh => (apart_of lt_bW0 (fr3_0)) _ (List.mem_singleton.2 rfl) hh))
 clear F21_bW0_5
 have F23_bW0_7 := lH (t_box_below F22_bW0_6.out hb7)
 clear F22_bW0_6
 have F24_bW0_8 := lH (t_box_below F23_bW0_7.out hb8)
 clear F23_bW0_7
 have F25_bW0_9 := lH (t_box_below F24_bW0_8.out hb9)
 clear F24_bW0_8
 obtain ⟨⟨c26_0, c26_1, c26_2, c26_3⟩, f26_0, f26_1, f26_2, f26_3⟩ := t_box4 F25_bW0_9.out
 go_wp2_with (fail)
 refine (eqGraph_law F14_H0_9.rd F19_W0_9.rd (spR_ok n m)).mono ?_
 rintro e w10 ⟨rfl, hb10⟩
 have hB10 := below_trans hB9 hb10 hB9.size
 clear c20_0 c20_1 c20_2 c20_3 f20_0 f20_1 f20_2 f20_3 c26_0 c26_1 c26_2 c26_3 f26_0 f26_1 f26_2 f26_3
 rw [decide_eq_true (rfl : (spR n m).1 = (spR n m).1)]
 have F27_G0_7 := he6.below hb7
 clear he6
 have F28_G0_8 := F27_G0_7.below hb8
 clear F27_G0_7
 have F29_G0_9 := F28_G0_8.below hb9
 clear F28_G0_8
 have F30_G0_10 := F29_G0_9.below hb10
 clear F29_G0_9
 have F31_bG0_7 := lH (t_box_below F12_bG0_6.out hb7)
 clear F12_bG0_6
 have F32_bG0_8 := lH (t_box_below F31_bG0_7.out hb8)
 clear F31_bG0_7
 have F33_bG0_9 := lH (t_box_below F32_bG0_8.out hb9)
 clear F32_bG0_8
 have F34_bG0_10 := lH (t_box_below F33_bG0_9.out hb10)
 clear F33_bG0_9
 obtain ⟨⟨c35_0, c35_1, c35_2, c35_3⟩, f35_0, f35_1, f35_2, f35_3⟩ := t_box4 F34_bG0_10.out
 go_wp2_with (fail)
 refine (heldGraph_law F30_G0_10 (by omega) (spR_ok n m) (by have := (spR_ok n m).2.2; constructor <;> omega)).mono ?_
 rintro e w11 ⟨rfl, hb11⟩
 have hB11 := below_trans hB10 hb11 hB10.size
 clear c35_0 c35_1 c35_2 c35_3 f35_0 f35_1 f35_2 f35_3
 go_wp2_with (fail)
 go_ret
 exact ⟨rfl, hB11⟩
theorem readSpiderGraph : ∀ t ∈ Tryz.f3.params.toList, Tryz.prog.readableRec t = true ∧ t < Tryz.prog.types.size := by
 rw [Tryz.params3]
 intro t ht
 have ht' : t ∈ ([3, 3] : List TypeId) := ht
 rcases List.mem_cons.1 ht' with rfl | ht'
 · exact ⟨by kernel_rfl, of_decide_eq_true (by kernel_rfl)⟩
 rcases List.mem_cons.1 ht' with rfl | ht'
 · exact ⟨by kernel_rfl, of_decide_eq_true (by kernel_rfl)⟩
 cases ht'
set_option maxRecDepth 100000 in
theorem liftedSpiderGraph (os : Os) (started : os.Started) (H : Type) (enc : TypeId × Value → H) :
  ReturnsInHanded {} Tryz.checked os 3 .any (Rows.fnExactSpiderGraphSpec.pre6 enc Tryz.prog Tryz.f3 Rows.fnExactSpiderGraphRow.domain false) (Rows.fnExactSpiderGraphSpec.post enc Tryz.prog Tryz.f3 false true false false) := by
 refine returnsInHanded_of_change (C := Tryz.checked) own started (by kernel_rfl) Tryz.func3
  (ChangeSpec.witness6 (enc := enc) (C := Tryz.checked) false ⟨#[], #[.int .i64 0, .int .i64 0], []⟩ 8 (by kernel_rfl) (by kernel_rfl) (by kernel_rfl) (by kernel_rfl)) ?_
 intro W base args ds gs before hval0 hW hcnd _
 have hval : ∀ (j : Nat) t v, Tryz.f3.params[j]? = some t → args[j]? = some v → Value.okWide Tryz.prog W .any base t v := hval0
 have hW' := hW
 obtain ⟨p, q, hA0, hV, rfl, hfz, hnd⟩ := hW
 have hA : DataW.TrodAll enc Tryz.prog W 0 (fun _ => true) true Tryz.f3.params.toList args.toList ds p := hA0
 rw [Tryz.params3] at hA hval
 obtain ⟨v0, vs0, d0, ds0, p0, q0, hargs, rfl, rfl, t0, r0⟩ := trodAll_cons hA
 obtain ⟨v1, vs1, d1, ds1, p1, q1, rfl, rfl, rfl, t1, r1⟩ := trodAll_cons r0
 obtain ⟨rfl, rfl, rfl⟩ := trodAll_nil r1
 obtain rfl : args = #[v0, v1] := by cases args; simp_all
 obtain ⟨rfl, rfl⟩ := trodVars_none hV
 obtain ⟨x0, rfl, lo0, hi0⟩ := in_int (hval 0 _ v0 rfl rfl) t0
 obtain ⟨x1, rfl, lo1, hi1⟩ := in_int (hval 1 _ v1 rfl rfl) t1
 clear hA0 hval0
 refine (lawSpiderGraph_any x0 x1 W  lo0 hi0 lo1 hi1).mono fun e W' ⟨he, hb⟩ => ?_
 subst he
 exact ⟨_, rfl, post_true laidOut hW' hb readSpiderGraph (fun n hn => by cases hn) rfl rfl Tryz.underlying4⟩
theorem provedSpiderGraph : Rows.FnExactSpiderGraphSaid :=
 OpenClaim.holds_of_wide 3 Tryz.f3 rfl rfl rfl rfl rfl rfl rfl ⟨rfl, rfl, rfl, rfl, rfl⟩ rfl rfl rfl rfl rfl (by kernel_rfl) Tryz.func3 (by kernel_rfl)
  (of_decide_eq_true (by kernel_rfl)) (by unfold Func.isWrapper; first | (rw [if_pos (by decide +kernel)]; kernel_rfl) | (rw [if_neg (by decide +kernel)]; exact ⟨rfl, rfl⟩))
  (fun os started H enc _ => liftedSpiderGraph os started H enc)
#print axioms provedSpiderGraph
end Go.Proofs.YtpkmjenoniedjaaGreat
