/-
  THE LAW's HELPERS OVER GRAPHS: held; eq, mark, held of a graph.

  THE LAW's HELPERS OVER GRAPHS: mark, held (edges).
-/
import Derived.Test.YtanhmljgeiajoaaGrEq
namespace Go.Proofs.Ytanhmljgeiajoaa
open Go.RowKit

theorem eh_get {l : List EHd} {j : Nat} {n : EHd} (h : l[j]? = some n) : (eh l)[2 * j]? = some n.2.2.1 ∧ (eh l)[2 * j + 1]? = some n.2.2.2 := by
  induction l generalizing j with
  | nil => simp at h
  | cons a r ih =>
    cases j with
    | zero =>
      obtain rfl : a = n := by simpa using h
      simp [eh]
    | succ j =>
      have := ih (j := j) (by simpa using h)
      rw [show 2 * (j + 1) = 2 * j + 1 + 1 by omega]
      simpa [eh] using this
theorem eh_set {l : List EHd} {j : Nat} (n : EHd) (h : j < l.length) : ((eh l).set (2 * j) n.2.2.1).set (2 * j + 1) n.2.2.2 = eh (l.set j n) := by
  induction l generalizing j with
  | nil => simp at h
  | cons a r ih =>
    cases j with
    | zero => simp [eh]
    | succ j =>
      have := ih (j := j) (by simpa using h)
      rw [show 2 * (j + 1) = 2 * j + 1 + 1 by omega]
      simpa [eh] using this
@[simp] theorem eh_length (l : List EHd) : (eh l).length = 2 * l.length := by
  induction l with
  | nil => rfl
  | cons a r ih => simp only [eh, List.length_cons, ih]; omega
theorem fpR_map {l m : List Hd} (h : l.map (·.1) = m.map (·.1)) : fpR l = fpR m := by
  have e : ∀ x : List Hd, fpR x = (x.map (·.1)).flatMap fpA := fun x => by unfold fpR; rw [List.flatMap_map]
  rw [e, e, h]
theorem set_same {α : Type} {l : List α} {i : Nat} {x : α} (h : l[i]? = some x) : l.set i x = l := by
  apply List.ext_getElem?
  intro k
  rw [List.getElem?_set]
  split
  · rename_i e; subst e
    have := (List.getElem?_eq_some_iff.1 h).1
    rw [if_pos this, h]
  · rfl
section
variable {w w' : World} {fp : List Nat} {ls : List Hd}
/-- One list has become another one of its length. -/
theorem OwLs.wr (h : OwLs w fp ls) {i : Nat} {B : Option Addr} {c : Nat} {l l' : List Int} (hi : ls[i]? = some (B, c, l)) (hk : Keeps (· ∈ fpA B) w w') (hI : IS w' B c l') : OwLs w' fp (ls.set i (B, c, l')) := by
  have hap : ∀ (k : Nat) (x : Hd), ls[k]? = some x → i ≠ k → ∀ b, b ∈ fpA x.1 → ¬ b ∈ fpA B := fun k x hx hne b hb hb' => by
    have hp := List.pairwise_iff_getElem.1 h.apart
    obtain ⟨hi', ei⟩ := List.getElem?_eq_some_iff.1 hi
    obtain ⟨hk', ek⟩ := List.getElem?_eq_some_iff.1 hx
    rcases Nat.lt_or_gt_of_ne hne with hlt | hlt
    · exact hp i k hi' hk' hlt b (by rw [ei]; exact hb') (by rw [ek]; exact hb)
    · exact hp k i hk' hi' hlt b (by rw [ek]; exact hb) (by rw [ei]; exact hb')
  have hget : ∀ (k : Nat) (x : Hd), (ls.set i (B, c, l'))[k]? = some x → ∃ y : Hd, ls[k]? = some y ∧ y.1 = x.1 := by
    intro k x hx
    rw [List.getElem?_set] at hx
    split at hx
    · rename_i hk; subst hk
      simp at hx
      exact ⟨_, hi, by rw [← hx.2]⟩
    · exact ⟨x, hx, rfl⟩
  refine ⟨fun x hx => ?_, ?_, fun x hx => ?_⟩
  · obtain ⟨k, hkk⟩ := List.mem_iff_getElem?.1 hx
    rw [List.getElem?_set] at hkk
    split at hkk
    · simp at hkk
      rw [← hkk.2]
      exact hI
    · rename_i hik
      exact (h.rows x (List.mem_of_getElem? hkk)).keeps hk fun b hb hb' => hap k x hkk hik b hb hb'
  · refine List.pairwise_iff_getElem.2 fun a b ha hb hab => ?_
    obtain ⟨x, hx, ex⟩ := hget a _ (List.getElem?_eq_getElem ha)
    obtain ⟨y, hy, ey⟩ := hget b _ (List.getElem?_eq_getElem hb)
    rw [← ex, ← ey]
    obtain ⟨ha', e1⟩ := List.getElem?_eq_some_iff.1 hx
    obtain ⟨hb', e2⟩ := List.getElem?_eq_some_iff.1 hy
    rw [← e1, ← e2]
    exact List.pairwise_iff_getElem.1 h.apart a b ha' hb' hab
  · obtain ⟨k, hkk⟩ := List.mem_iff_getElem?.1 hx
    obtain ⟨y, hy, e⟩ := hget k x hkk
    rw [← e]; exact h.outer y (List.mem_of_getElem? hy)
theorem set_fst {ls : List Hd} {i : Nat} {B : Option Addr} {c : Nat} {l l' : List Int} (hi : ls[i]? = some (B, c, l)) : (ls.set i (B, c, l')).map (·.1) = ls.map (·.1) := by
  rw [List.map_set]
  exact set_same (by rw [List.getElem?_map, hi]; rfl)
end
theorem ecs_congr {l : List EHd} {j : Nat} {x y : EHd} (h : ec x = ec y) : ecs (l.set j x) = ecs (l.set j y) := by
  induction l generalizing j with
  | nil => rfl
  | cons a r ih =>
    cases j with
    | zero => simp [ecs, h]
    | succ j => simp only [List.set_cons_succ, ecs, ih]
theorem cntE_take_succ {L : List Eg} {j : Nat} {e : Eg} (h : L[j]? = some e) : cntE (L.take (j + 1)) = cntE (L.take j) + (2 + e.2.2.1.length + e.2.2.2.length) := by
  rw [List.take_add_one, h, cntE_append]; simp [cntE]
theorem cntE_take_le (L : List Eg) (j : Nat) : cntE (L.take j) ≤ cntE L := by
  conv => rhs; rw [← List.take_append_drop j L, cntE_append]
  omega
@[simp] theorem marksE_length : ∀ (k : Nat) (L : List Eg), (marksE k L).length = L.length
  | _, [] => rfl
  | k, e :: r => by simp [marksE, marksE_length]
theorem marksE_get : ∀ {L : List Eg} {k j : Nat} {e : Eg}, L[j]? = some e → (marksE k L)[j]? = some (((k + cntE (L.take j) : Nat) : Int), ((k + cntE (L.take j) + 1 : Nat) : Int), marks (k + cntE (L.take j) + 2) e.2.2.1.length, marks (k + cntE (L.take j) + 2 + e.2.2.1.length) e.2.2.2.length)
  | a :: r, k, 0, e, h => by
    obtain rfl : a = e := by simpa using h
    simp [marksE, cntE]
  | a :: r, k, j + 1, e, h => by
    have := marksE_get (L := r) (k := k + 2 + a.2.2.1.length + a.2.2.2.length) (j := j) (e := e) (by simpa using h)
    rw [show k + 2 + a.2.2.1.length + a.2.2.2.length + cntE (r.take j) = k + cntE ((a :: r).take (j + 1)) by simp [cntE]; omega] at this
    simpa [marksE] using this
set_option maxRecDepth 100000 in
set_option maxHeartbeats 4000000 in
theorem markEdgeS_any (A : Option Addr) (c m : Nat) (l : List EHd) (pre : List Hd) (k : Nat) (w : World) (h : Sl w tEd 4 A m c (ecs l)) (hO : OwLs w (fpA A) (pre ++ eh l)) (hm : l.length = m) (hml : m ≤ 1048576) (hl : k + cntE (l.map egOf) ≤ 17592186044000) :
    Calls Try.prog 51 #[.slice A m c, .int .i64 k] w fun e w' => ∃ ys : List EHd, e = .returned (.int .i64 ((k + cntE (l.map egOf) : Nat) : Int)) ∧ ys.length = m ∧ ys.map egOf = marksE k (l.map egOf) ∧ Sl w' tEd 4 A m c (ecs ys) ∧ OwLs w' (fpA A) (pre ++ eh ys) ∧ (eh ys).map (·.1) = (eh l).map (·.1) ∧ Keeps (· ∈ fpA A ++ fpR (eh l)) w w' := by
  obtain ⟨L, hL⟩ : ∃ L, L = l.map egOf := ⟨_, rfl⟩
  rw [← hL] at hl ⊢
  have hLm : L.length = m := by rw [hL, List.length_map, hm]
  have hm_h := Lib.hid hm
  have hL_h := Lib.hid hL
  have hLm_h := Lib.hid hLm
  have h_h := Lib.hid h
  have hO_h := Lib.hid hO
  clear hm hL hLm h hO
  go_enter Try.func51, Try.ntmps51
  go_wp2_with (fail)
  go_loopw [1, 5] (fun q i wr => ∃ (j : Nat) (ys : List EHd), j ≤ m ∧ i = .int .i64 j ∧ q = .int .i64 ((k + cntE (L.take j) : Nat) : Int) ∧ ys.length = m ∧ ys.map egOf = (marksE k L).take j ++ L.drop j ∧ Sl wr tEd 4 A m c (ecs ys) ∧ OwLs wr (fpA A) (pre ++ eh ys) ∧ (eh ys).map (·.1) = (eh l).map (·.1) ∧ Keeps (· ∈ fpA A ++ fpR (eh l)) w wr) (fun _ i _ => m - (intOf i).toNat)
  case atStart => exact ⟨0, l, Nat.zero_le _, rfl, by simp [cntE], hm_h.out, by simpa using hL_h.out.symm, h_h.out, hO_h.out, rfl, Keeps.refl _ _⟩
  case round =>
    clear h_h hO_h
    obtain ⟨j, ys, hj, rfl, rfl, hyl, hye, his, hO, hfe, hkp⟩ := hrel
    by_cases hlt : j < m
    · obtain ⟨⟨κ, v, ⟨B, b, s⟩, ⟨C, d, t⟩⟩, hy⟩ : ∃ y, ys[j]? = some y := ⟨_, List.getElem?_eq_getElem (by omega)⟩
      have hLj : L[j]? = some (κ, v, s, t) := by
        have h1 : (ys.map egOf)[j]? = some (κ, v, s, t) := by rw [List.getElem?_map, hy]; rfl
        rw [hye, List.getElem?_append_right (by rw [List.length_take, marksE_length]; omega), List.length_take, marksE_length, List.getElem?_drop] at h1
        rwa [show j + (j - min j L.length) = j by rw [hLm_h.out]; omega] at h1
      obtain ⟨ad, hA, g0, g1⟩ : ∃ ad, A = some ad ∧ (∀ x, wr.frozen? (ad.add x) = false) ∧ ∀ i u, (ecs ys)[i]? = some u → wr.cell? (ad.add i) = some u := by
        obtain ⟨ad, hA, _, _, hf⟩ := Sl.cell his (ecs_get hy).1
        refine ⟨ad, hA, hf, fun i u hu => ?_⟩
        obtain ⟨ad', hA', _, hc, _⟩ := Sl.cell his hu
        rw [hA] at hA'
        obtain rfl := Option.some.inj hA'
        exact hc
      subst hA
      obtain ⟨y0, y1, y2, y3⟩ := ecs_get hy
      have hel : (ecs ys).length = m * 4 := by rw [ecs_length, hyl]
      obtain ⟨K, hK⟩ : ∃ K, K = k + cntE (L.take j) := ⟨_, rfl⟩
      have hcs := cntE_take_succ hLj
      have hcl := cntE_take_le L (j + 1)
      have hKb : K + (2 + s.length + t.length) ≤ 17592186044000 := by
        have : cntE (L.take (j + 1)) = cntE (L.take j) + (2 + s.length + t.length) := hcs
        omega
      -- the two stores
      obtain ⟨W1, hW1⟩ : ∃ W1, W1 = wr.setCell (ad.add (j * 4)) (.int .i64 (K : Int)) := ⟨_, rfl⟩
      have sl1 := Sl.set his rfl (j * 4) (.int .i64 (K : Int)) (by omega)
      rw [← hW1] at sl1
      obtain ⟨W2, hW2⟩ : ∃ W2, W2 = W1.setCell ⟨(ad.add (j * 4)).block, (ad.add (j * 4)).off + 1, none⟩ (.int .i64 ((K + 1 : Nat) : Int)) := ⟨_, rfl⟩
      have sl2 := Sl.set sl1 rfl (j * 4 + 1) (.int .i64 ((K + 1 : Nat) : Int)) (by rw [List.length_set]; omega)
      rw [add_next _ _ 1 (by omega), ← hW2] at sl2
      have q0 := g1 _ _ y0
      have q1 : W1.cell? ⟨(ad.add (j * 4)).block, (ad.add (j * 4)).off + 1, none⟩ = some (.int .i64 v) := by
        obtain ⟨ad', hA', _, hc, _⟩ := Sl.cell sl1 (j := j * 4 + 1) (u := .int .i64 v) (by rw [List.getElem?_set_ne (by omega)]; exact y1)
        obtain rfl := Option.some.inj hA'
        rwa [add_next _ _ 1 (by omega)] at hc
      have q1f : W1.frozen? ⟨(ad.add (j * 4)).block, (ad.add (j * 4)).off + 1, none⟩ = false := by
        obtain ⟨ad', hA', _, _, hf⟩ := Sl.cell sl1 (j := j * 4 + 1) (u := .int .i64 v) (by rw [List.getElem?_set_ne (by omega)]; exact y1)
        obtain rfl := Option.some.inj hA'
        have := hf (j * 4 + 1)
        rwa [add_next _ _ 1 (by omega)] at this
      have q2 : W2.cell? ⟨(ad.add (j * 4)).block, (ad.add (j * 4)).off + 2, none⟩ = some (.slice B s.length b) := by
        obtain ⟨ad', hA', _, hc, _⟩ := Sl.cell sl2 (j := j * 4 + 2) (u := .slice B s.length b) (by rw [List.getElem?_set_ne (by omega), List.getElem?_set_ne (by omega)]; exact y2)
        obtain rfl := Option.some.inj hA'
        rwa [add_next _ _ 2 (by omega)] at hc
      have hkB : Keeps (· ∈ fpA (some ad)) wr W2 := by
        rw [hW2, hW1]
        exact ((Keeps.refl _ wr).setCell (p := ad.add (j * 4)) (by rw [block_of_add]; simp) _).setCell (p := ⟨(ad.add (j * 4)).block, (ad.add (j * 4)).off + 1, none⟩) (by simp [block_of_add]) _
      have hset2 : ((ecs ys).set (j * 4) (.int .i64 (K : Int))).set (j * 4 + 1) (.int .i64 ((K + 1 : Nat) : Int)) = ecs (ys.set j ((K : Int), ((K + 1 : Nat) : Int), (B, b, s), (C, d, t))) := by
        rw [← ecs_set ((K : Int), ((K + 1 : Nat) : Int), (B, b, s), (C, d, t)) (by omega)]
        rw [set_same (i := j * 4 + 2) (by rw [List.getElem?_set_ne (by omega), List.getElem?_set_ne (by omega)]; exact y2), set_same (i := j * 4 + 3) (by rw [List.getElem?_set_ne (by omega), List.getElem?_set_ne (by omega)]; exact y3)]
      rw [hset2] at sl2
      have hO2 := hO.grow (fp' := fpA (some ad)) (fun x hx => .inl hx) hkB
      obtain ⟨z1, z2⟩ := eh_get hy
      have i1 : (pre ++ eh ys)[pre.length + 2 * j]? = some (B, b, s) := by rw [List.getElem?_append_right (by omega), Nat.add_sub_cancel_left]; exact z1
      have i2 : (pre ++ eh ys)[pre.length + (2 * j + 1)]? = some (C, d, t) := by rw [List.getElem?_append_right (by omega), Nat.add_sub_cancel_left]; exact z2
      have hI1 := hO2.rows _ (List.mem_of_getElem? i1)
      obtain ⟨p, hp⟩ : ∃ p, p = s.length := ⟨_, rfl⟩
      obtain ⟨r, hr⟩ : ∃ r, r = t.length := ⟨_, rfl⟩
      have hC1 := markIntS_any B b s (K + 2) W2 hI1 (by omega)
      have hC2 := fun (W : World) (hI : IS W C d t) => markIntS_any C d t (K + 2 + p) W hI (by omega)
      simp only [← hp] at hC1 q2 hKb
      simp only [← hr] at hC2 hKb
      have hjI : (j : Int) < (m : Int) := by omega
      have f0 := g0 (j * 4)
      have hBfp : ∀ x, x ∈ fpA B → x ∈ fpR (eh ys) := fun x hx => mem_fpR.2 ⟨_, List.mem_of_getElem? z1, hx⟩
      have hCfp : ∀ x, x ∈ fpA C → x ∈ fpR (eh ys) := fun x hx => mem_fpR.2 ⟨_, List.mem_of_getElem? z2, hx⟩
      have hfeq := fpR_map hfe
      have hBA : ∀ x, x ∈ fpA B → ¬ x ∈ fpA (some ad) := hO2.outer _ (List.mem_of_getElem? i1)
      rw [← hK]
      have eK1 : ((K : Int) + 1) = ((K + 1 : Nat) : Int) := by omega
      have eK2 : ((K : Int) + 1 + 1) = ((K + 2 : Nat) : Int) := by omega
      clear g0 g1 y0 y1 y2 y3 sl1 his hO hset2 hI1 hyl hcl hcs
      have hC1_h := Lib.hid hC1
      have hC2_h := Lib.hid hC2
      have hp_h := Lib.hid hp
      have hr_h := Lib.hid hr
      have hK_h := Lib.hid hK
      have hye_h := Lib.hid hye
      have hy_h := Lib.hid hy
      have hLj_h := Lib.hid hLj
      have hkB_h := Lib.hid hkB
      have hO2_h := Lib.hid hO2
      have sl2_h := Lib.hid sl2
      have i1_h := Lib.hid i1
      have i2_h := Lib.hid i2
      have z1_h := Lib.hid z1
      have z2_h := Lib.hid z2
      have hBfp_h := Lib.hid hBfp
      have hCfp_h := Lib.hid hCfp
      have hfeq_h := Lib.hid hfeq
      have hfe_h := Lib.hid hfe
      have hkp_h := Lib.hid hkp
      have hel_h := Lib.hid hel
      have hBA_h := Lib.hid hBA
      have eK1_h := Lib.hid eK1
      have eK2_h := Lib.hid eK2
      clear hC1 hC2 hp hr hK hye hy hLj hkB hO2 sl2 i1 i2 z1 z2 hBfp hCfp hfeq hfe hkp hel hBA eK1 eK2
      go_upto_region 5 with (fail)
      rw [← hW1]
      clear hW1
      go_upto_region 7 with (fail)
      rw [eK1_h.out, ← hW2]
      clear hW2 q0 q1 q1f f0
      go_wp2_with (fail)
      rw [eK2_h.out]
      refine (hC1_h.out).mono ?_
      rintro e w3 ⟨rfl, hI3, hk3⟩
      have hO3 := hO2_h.out.wr i1_h.out hk3 hI3
      have sl3 := sl2_h.out.keeps hk3 (fun x hx hx' => hBA_h.out x hx' hx)
      have i3 : ((pre ++ eh ys).set (pre.length + 2 * j) (B, b, marks (K + 2) p))[pre.length + (2 * j + 1)]? = some (C, d, t) := by
        rw [List.getElem?_set_ne (by omega)]; exact i2_h.out
      have hI4 := hO3.rows _ (List.mem_of_getElem? i3)
      have hjl : j < ys.length := (List.getElem?_eq_some_iff.1 hy_h.out).1
      have q3 : w3.cell? ⟨(ad.add (j * 4)).block, (ad.add (j * 4)).off + 3, none⟩ = some (.slice C r d) := by
        have e := (ecs_get (l := ys.set j ((K : Int), ((K + 1 : Nat) : Int), (B, b, s), (C, d, t))) (j := j) (n := ((K : Int), ((K + 1 : Nat) : Int), (B, b, s), (C, d, t))) (by rw [List.getElem?_set_self hjl])).2.2.2
        obtain ⟨ad', hA', _, hc, _⟩ := Sl.cell sl3 e
        obtain rfl := Option.some.inj hA'
        rw [add_next _ _ 3 (by omega)] at hc
        rw [hr_h.out]; exact hc
      have hC4 := hC2_h.out w3 hI4
      have hk3' := hkB_h.out.trans (Keeps.of_below (Below.refl _ _) _)
      clear q2 hI3 hI4
      have hO3_h := Lib.hid hO3
      have sl3_h := Lib.hid sl3
      have i3_h := Lib.hid i3
      have hC4_h := Lib.hid hC4
      have hk3_h := Lib.hid hk3
      clear hO3 sl3 i3 hC4 hk3
      go_wp2_with (fail)
      refine (hC4_h.out).mono ?_
      rintro e w4 ⟨rfl, hI5, hk5⟩
      have hO5 := hO3_h.out.wr i3_h.out hk5 hI5
      have hCA : ∀ x, x ∈ fpA C → ¬ x ∈ fpA (some ad) := hO3_h.out.outer _ (List.mem_of_getElem? i3_h.out)
      have sl5 := sl3_h.out.keeps hk5 (fun x hx hx' => hCA x hx' hx)
      have hys : ecs (ys.set j ((K : Int), ((K + 1 : Nat) : Int), (B, b, s), (C, d, t))) = ecs (ys.set j ((K : Int), ((K + 1 : Nat) : Int), (B, b, marks (K + 2) p), (C, d, marks (K + 2 + p) r))) := ecs_congr (by simp only [ec, Hd.val, marks_length]; rw [← hp_h.out, ← hr_h.out])
      rw [hys] at sl5
      have hOe : ((pre ++ eh ys).set (pre.length + 2 * j) (B, b, marks (K + 2) p)).set (pre.length + (2 * j + 1)) (C, d, marks (K + 2 + p) r) = pre ++ eh (ys.set j ((K : Int), ((K + 1 : Nat) : Int), (B, b, marks (K + 2) p), (C, d, marks (K + 2 + p) r))) := by
        rw [List.set_append_right _ _ (by omega), List.set_append_right _ _ (by omega), Nat.add_sub_cancel_left, Nat.add_sub_cancel_left, ← eh_set _ hjl]
      rw [hOe] at hO5
      have hfe2 : (eh (ys.set j ((K : Int), ((K + 1 : Nat) : Int), (B, b, marks (K + 2) p), (C, d, marks (K + 2 + p) r)))).map (·.1) = (eh l).map (·.1) := by
        rw [← eh_set _ hjl, set_fst (l := t) (by rw [List.getElem?_set_ne (by omega)]; exact z2_h.out), set_fst z1_h.out, hfe_h.out]
      have hye2 : (ys.set j ((K : Int), ((K + 1 : Nat) : Int), (B, b, marks (K + 2) p), (C, d, marks (K + 2 + p) r))).map egOf = (marksE k L).take (j + 1) ++ L.drop (j + 1) := by
        rw [List.map_set, hye_h.out]
        have e := take_append_step (l := marksE k L) (m := L) (k := j) (by rw [marksE_length]) (marksE_get hLj_h.out)
        rw [← hK_h.out] at e
        rw [← e, hp_h.out, hr_h.out]; rfl
      have hkf : Keeps (· ∈ fpA (some ad) ++ fpR (eh l)) w w4 := by
        refine ((hkp_h.out.trans (hkB_h.out.mono fun x _ hx => List.mem_append_left _ hx)).trans (hk3_h.out.mono fun x _ hx => ?_)).trans (hk5.mono fun x _ hx => ?_)
        · rw [← hfeq_h.out]; exact List.mem_append_right _ (hBfp_h.out x hx)
        · rw [← hfeq_h.out]; exact List.mem_append_right _ (hCfp_h.out x hx)
      have hcs2 : k + cntE (L.take (j + 1)) = K + 2 + p + r := by
        have e1 : cntE (L.take (j + 1)) = cntE (L.take j) + (2 + s.length + t.length) := cntE_take_succ hLj_h.out
        have := hK_h.out; have := hp_h.out; have := hr_h.out; omega
      have hyl2 : ys.length = m := by have := hel_h.out; rw [ecs_length] at this; omega
      clear hI5 hk5 hCA hys hOe q3
      have hO5_h := Lib.hid hO5
      have sl5_h := Lib.hid sl5
      have hfe2_h := Lib.hid hfe2
      have hye2_h := Lib.hid hye2
      have hkf_h := Lib.hid hkf
      have hcs2_h := Lib.hid hcs2
      have hyl2_h := Lib.hid hyl2
      clear hO5 sl5 hfe2 hye2 hkf hcs2 hyl2
      go_wp2_with (fail)
      go_roundw
      case rel => exact ⟨j + 1, _, by omega, by go_num, by rw [hcs2_h.out]; go_num, by rw [List.length_set]; exact hyl2_h.out, hye2_h.out, sl5_h.out, hO5_h.out, hfe2_h.out, hkf_h.out⟩
      case measure => simp [intOf]; omega
    · obtain rfl : m = j := by omega
      have hye2 : ys.map egOf = marksE k L := by
        rw [hye, List.take_of_length_le (by rw [marksE_length, hLm_h.out]; exact Nat.le_refl _), List.drop_of_length_le (by rw [hLm_h.out]; exact Nat.le_refl _), List.append_nil]
      have hcn : cntE (L.take m) = cntE L := by rw [List.take_of_length_le (by rw [hLm_h.out]; exact Nat.le_refl _)]
      have hye2_h := Lib.hid hye2
      have hcn_h := Lib.hid hcn
      have hyl_h := Lib.hid hyl
      have his_h := Lib.hid his
      have hO_h := Lib.hid hO
      have hfe_h := Lib.hid hfe
      have hkp_h := Lib.hid hkp
      clear hye2 hcn hyl his hO hfe hkp
      clear hye
      go_wp2_with (fail)
      go_ret
      exact ⟨ret_int (by rw [hcn_h.out]), ys, hyl_h.out, hye2_h.out, his_h.out, hO_h.out, hfe_h.out, hkp_h.out.mono fun x _ hx => List.mem_append.1 hx⟩
end Go.Proofs.Ytanhmljgeiajoaa
namespace Go.Proofs.Ytanhmljgeiajoaa
open Go.RowKit

set_option maxRecDepth 100000 in
set_option maxHeartbeats 2000000 in
theorem heldEdgeS_any (A : Option Addr) (c m : Nat) (l : List EHd) (L : List Eg) (k : Nat) (w : World) (h : RdE w A l) (hl : l.map egOf = marksE k L) (hm : l.length = m) (hml : m ≤ 1048576) (hb : k + cntE L ≤ 17592186044000) :
    Calls Try.prog 56 #[.slice A m c, .int .i64 k] w fun e w' => e = .returned (.int .i64 ((k + cntE L : Nat) : Int)) ∧ w = w' := by
  have hLm : L.length = m := by rw [← hm, ← marksE_length k L, ← hl, List.length_map]
  have hl_h := Lib.hid hl
  have hm_h := Lib.hid hm
  have hLm_h := Lib.hid hLm
  clear hl hm hLm
  go_enter Try.func56, Try.ntmps56
  go_wp2_with (fail)
  go_loop [1, 5] (fun q i => ∃ j : Nat, j ≤ m ∧ i = .int .i64 j ∧ q = .int .i64 ((k + cntE (L.take j) : Nat) : Int)) (fun _ i => m - (intOf i).toNat)
  case atStart => exact ⟨0, Nat.zero_le _, rfl, by simp [cntE]⟩
  case round =>
    obtain ⟨j, hj, rfl, rfl⟩ := hrel
    by_cases hlt : j < m
    · obtain ⟨ad, κ, v, B, b, s, C, d, t, rfl, hn, ⟨d0, d1, d2, d3⟩, hr1, hr2⟩ := h.at_ (j := j) (by rw [hm_h.out]; exact hlt)
      obtain ⟨e, he⟩ : ∃ e, L[j]? = some e := ⟨_, List.getElem?_eq_getElem (by rw [hLm_h.out]; exact hlt)⟩
      have hg := marksE_get (k := k) he
      rw [← hl_h.out, List.getElem?_map, hn] at hg
      simp only [Option.map_some, Option.some.injEq, egOf, Prod.mk.injEq] at hg
      obtain ⟨g0, g1, g2, g3⟩ := hg
      have hcs := cntE_take_succ he
      have hcl := cntE_take_le L (j + 1)
      obtain ⟨K, hK⟩ : ∃ K, K = k + cntE (L.take j) := ⟨_, rfl⟩
      obtain ⟨p, hp⟩ : ∃ p, p = e.2.2.1.length := ⟨_, rfl⟩
      obtain ⟨r, hr⟩ : ∃ r, r = e.2.2.2.length := ⟨_, rfl⟩
      rw [← hK] at g0 g1 g2 g3 ⊢
      rw [← hp] at g2 g3 hcs
      rw [← hr] at g3 hcs
      subst g0 g1 g2 g3
      rw [marks_length] at d2 d3
      have hC1 := heldIntS_any B b p (K + 2) w hr1 (by omega)
      have hC2 := heldIntS_any C d r (K + 2 + p) w hr2 (by omega)
      have hjI : (j : Int) < (m : Int) := by omega
      have eK2 : ((K : Int) + 1 + 1) = ((K + 2 : Nat) : Int) := by omega
      have hKb : K + 2 + p + r ≤ 17592186044000 := by omega
      have hn1 : ¬ (((K + 2 + p : Nat) : Int) < 0) := by omega
      have hn2 : ¬ (((K + 2 + p + r : Nat) : Int) < 0) := by omega
      have hsum : k + cntE (L.take (j + 1)) = K + 2 + p + r := by omega
      have hC1_h := Lib.hid hC1
      have hC2_h := Lib.hid hC2
      have hK_h := Lib.hid hK
      have hp_h := Lib.hid hp
      have hr_h := Lib.hid hr
      have eK2_h := Lib.hid eK2
      have hsum_h := Lib.hid hsum
      have he_h := Lib.hid he
      have hn_h := Lib.hid hn
      clear hC1 hC2 hK hp hr eK2 hsum he hn
      clear h hr1 hr2 hcs hcl
      go_wp2_with (fail)
      rw [eK2_h.out]
      refine (hC1_h.out).mono ?_
      rintro e w1 ⟨rfl, rfl⟩
      go_wp2_with (fail)
      refine (hC2_h.out).mono ?_
      rintro e w1 ⟨rfl, rfl⟩
      go_wp2_with (fail)
      go_round
      case rel => exact ⟨j + 1, by omega, by go_num, by rw [hsum_h.out]; go_num⟩
      case measure => simp [intOf]; omega
    · obtain rfl : m = j := by omega
      have hcn : cntE (L.take m) = cntE L := by rw [List.take_of_length_le (by rw [hLm_h.out]; exact Nat.le_refl _)]
      have hcn_h := Lib.hid hcn
      clear hcn
      clear h
      go_wp2_with (fail)
      go_ret
      exact ⟨ret_int (by rw [hcn_h.out]), rfl⟩
set_option maxRecDepth 100000 in
set_option maxHeartbeats 2000000 in
theorem eqGraph_law {v v' : Value} {g g' : Gr} {w : World} (h : RdGr w v g) (h' : RdGr w v' g') (ok : OkG g) :
    Calls Try.prog 17 #[v, v'] w fun e w' => e = .returned (.bool (decide (g = g'))) ∧ Below w.heap.size w w' := by
  obtain ⟨A, c, hs, ⟨B, b, s⟩, ⟨C, d, t⟩, rfl, e1, e2, e3, hE, hRa, hRb⟩ := h
  obtain ⟨A', c', hs', ⟨B', b', s'⟩, ⟨C', d', t'⟩, rfl, e1', e2', e3', hE', hRa', hRb'⟩ := h'
  obtain ⟨z, es, s0, t0⟩ := g
  obtain ⟨z', es', s0', t0'⟩ := g'
  have a1 : es = hs.map egOf := e1
  have a2 : s = s0 := e2
  have a3 : t = t0 := e3
  have b1 : es' = hs'.map egOf := e1'
  have b2 : s' = s0' := e2'
  have b3 : t' = t0' := e3'
  subst a1 a2 a3 b1 b2 b3
  obtain ⟨⟨ok1, ok2, ok3⟩, ok4, -⟩ := ok
  have ok1' : hs.length ≤ 1048576 := by have : (hs.map egOf).length ≤ 1048576 := ok1; simpa using this
  have ok2' : s.length ≤ 1048576 := ok2
  have ok3' : t.length ≤ 1048576 := ok3
  have hQ0 := fun (W : World) (hb : Below w.heap.size w W) => eqEdgeS_any A A' c c' hs hs' W (hE.below hb) (hE'.below hb) ok1' (fun x hx => ok4 _ (List.mem_map_of_mem hx))
  have hQ1 := fun (W : World) (hb : Below w.heap.size w W) => eqIntS_any B B' b b' s s' W (RdI.below hRa hb) (RdI.below hRa' hb) (by omega)
  have hQ2 := fun (W : World) (hb : Below w.heap.size w W) => eqIntS_any C C' d d' t t' W (RdI.below hRb hb) (RdI.below hRb' hb) (by omega)
  show Calls Try.prog _ #[.agg #[.int .i64 z, .slice A hs.length c, .slice B s.length b, .slice C t.length d], .agg #[.int .i64 z', .slice A' hs'.length c', .slice B' s'.length b', .slice C' t'.length d']] w fun e w' => e = .returned (.bool (decide (((z, hs.map egOf, s, t) : Gr) = (z', hs'.map egOf, s', t')))) ∧ Below w.heap.size w w'
  obtain ⟨D, hD⟩ : ∃ D, D = decide (((z, hs.map egOf, s, t) : Gr) = (z', hs'.map egOf, s', t')) := ⟨_, rfl⟩
  obtain ⟨D0, hD0⟩ : ∃ D, D = decide (hs.map egOf = hs'.map egOf) := ⟨_, rfl⟩
  obtain ⟨D1, hD1⟩ : ∃ D, D = decide (s = s') := ⟨_, rfl⟩
  obtain ⟨D2, hD2⟩ : ∃ D, D = decide (t = t') := ⟨_, rfl⟩
  rw [← hD]
  simp only [← hD0] at hQ0
  simp only [← hD1] at hQ1
  simp only [← hD2] at hQ2
  have hDD : D = (decide (z = z') && (D0 && (D1 && D2))) := by
    rw [hD, hD0, hD1, hD2, Bool.eq_iff_iff]; simp
  obtain ⟨n, hn⟩ : ∃ n, n = hs.length := ⟨_, rfl⟩
  obtain ⟨n', hn'⟩ : ∃ n, n = hs'.length := ⟨_, rfl⟩
  obtain ⟨p, hp⟩ : ∃ p, p = s.length := ⟨_, rfl⟩
  obtain ⟨q, hq⟩ : ∃ q, q = t.length := ⟨_, rfl⟩
  obtain ⟨p', hp'⟩ : ∃ p, p = s'.length := ⟨_, rfl⟩
  obtain ⟨q', hq'⟩ : ∃ q, q = t'.length := ⟨_, rfl⟩
  simp only [← hn, ← hn'] at hQ0
  simp only [← hp, ← hp'] at hQ1
  simp only [← hq, ← hq'] at hQ2
  rw [← hn, ← hn', ← hp, ← hq, ← hp', ← hq']
  obtain ⟨W, hW, bW, k0, k1⟩ := allocs2 w (.cells #[.int .i64 z, .slice A n c, .slice B p b, .slice C q d] tGr) (.cells #[.int .i64 z', .slice A' n' c', .slice B' p' b', .slice C' q' d'] tGr)
  obtain ⟨⟨c0, c1, c2, c3⟩, f0, f1, f2, f3⟩ := box4 k0
  obtain ⟨⟨d0, d1, d2, d3⟩, g0, g1, g2, g3⟩ := box4 k1
  clear hE hE' hRa hRa' hRb hRb' hD hD0 hD1 hD2 hn hn' hp hq hp' hq' e1 e2 e3 e1' e2' e3' ok1 ok2 ok3 ok4
  by_cases e0 : z = z'
  · have t0 : (z != z') = false := by simp [e0]
    rw [decide_eq_true e0] at hDD
    cases D0
    · obtain rfl : D = false := by rw [hDD]; rfl
      clear e0 hDD
      have hQ0_h := Lib.hid hQ0
      have hQ1_h := Lib.hid hQ1
      have hQ2_h := Lib.hid hQ2
      have k0_h := Lib.hid k0
      have k1_h := Lib.hid k1
      have bW_h := Lib.hid bW
      clear hQ0 hQ1 hQ2 k0 k1 bW
      go_enter Try.func17, Try.ntmps17
      go_upto_region 1 with (fail)
      rw [← hW]
      clear hW
      go_wp2_with (fail)
      refine (hQ0_h.out W bW_h.out).mono ?_
      rintro e w1 ⟨rfl, hb1⟩
      go_wp2_with (fail)
      go_ret
      exact ⟨rfl, below_trans bW_h.out hb1 bW_h.out.size⟩
    · cases D1
      · obtain rfl : D = false := by rw [hDD]; rfl
        clear e0 hDD
        have hQ0_h := Lib.hid hQ0
        have hQ1_h := Lib.hid hQ1
        have hQ2_h := Lib.hid hQ2
        have k0_h := Lib.hid k0
        have k1_h := Lib.hid k1
        have bW_h := Lib.hid bW
        clear hQ0 hQ1 hQ2 k0 k1 bW
        go_enter Try.func17, Try.ntmps17
        go_upto_region 1 with (fail)
        rw [← hW]
        clear hW
        go_wp2_with (fail)
        refine (hQ0_h.out W bW_h.out).mono ?_
        rintro e w1 ⟨rfl, hb1⟩
        clear c0 c1 c2 c3 f0 f1 f2 f3 d0 d1 d2 d3 g0 g1 g2 g3
        obtain ⟨⟨c0, c1, c2, c3⟩, f0, f1, f2, f3⟩ := box4 (box_below k0_h.out hb1)
        obtain ⟨⟨d0, d1, d2, d3⟩, g0, g1, g2, g3⟩ := box4 (box_below k1_h.out hb1)
        have hB1 := below_trans bW_h.out hb1 bW_h.out.size
        clear hb1
        have hB1_h := Lib.hid hB1
        clear hB1
        go_wp2_with (fail)
        refine (hQ1_h.out w1 hB1_h.out).mono ?_
        rintro e w2 ⟨rfl, hq2⟩
        have hB2 := below_trans hB1_h.out hq2.below hB1_h.out.size
        clear hq2
        have hB2_h := Lib.hid hB2
        clear hB2
        go_wp2_with (fail)
        go_ret
        exact ⟨rfl, hB2_h.out⟩
      · obtain rfl : D = D2 := by rw [hDD]; rfl
        clear e0 hDD
        have hQ0_h := Lib.hid hQ0
        have hQ1_h := Lib.hid hQ1
        have hQ2_h := Lib.hid hQ2
        have k0_h := Lib.hid k0
        have k1_h := Lib.hid k1
        have bW_h := Lib.hid bW
        clear hQ0 hQ1 hQ2 k0 k1 bW
        go_enter Try.func17, Try.ntmps17
        go_upto_region 1 with (fail)
        rw [← hW]
        clear hW
        go_wp2_with (fail)
        refine (hQ0_h.out W bW_h.out).mono ?_
        rintro e w1 ⟨rfl, hb1⟩
        clear c0 c1 c2 c3 f0 f1 f2 f3 d0 d1 d2 d3 g0 g1 g2 g3
        have k0a := box_below k0_h.out hb1
        have k1a := box_below k1_h.out hb1
        obtain ⟨⟨c0, c1, c2, c3⟩, f0, f1, f2, f3⟩ := box4 k0a
        obtain ⟨⟨d0, d1, d2, d3⟩, g0, g1, g2, g3⟩ := box4 k1a
        have hB1 := below_trans bW_h.out hb1 bW_h.out.size
        clear hb1
        have hB1_h := Lib.hid hB1
        have k0a_h := Lib.hid k0a
        have k1a_h := Lib.hid k1a
        clear hB1 k0a k1a
        go_wp2_with (fail)
        refine (hQ1_h.out w1 hB1_h.out).mono ?_
        rintro e w2 ⟨rfl, hq2⟩
        clear c0 c1 c2 c3 f0 f1 f2 f3 d0 d1 d2 d3 g0 g1 g2 g3
        obtain ⟨⟨c0, c1, c2, c3⟩, f0, f1, f2, f3⟩ := box4 (box_qt k0a_h.out hq2)
        obtain ⟨⟨d0, d1, d2, d3⟩, g0, g1, g2, g3⟩ := box4 (box_qt k1a_h.out hq2)
        have hB2 := below_trans hB1_h.out hq2.below hB1_h.out.size
        clear hq2
        have hB2_h := Lib.hid hB2
        clear hB2
        go_wp2_with (fail)
        refine (hQ2_h.out w2 hB2_h.out).mono ?_
        rintro e w3 ⟨rfl, hq3⟩
        have hB3 := below_trans hB2_h.out hq3.below hB2_h.out.size
        clear hq3
        have hB3_h := Lib.hid hB3
        clear hB3
        cases D
        · go_wp2_with (fail)
          go_ret
          exact ⟨rfl, hB3_h.out⟩
        · go_wp2_with (fail)
          go_ret
          exact ⟨rfl, hB3_h.out⟩
  · have t0 : (z != z') = true := by simp [e0]
    obtain rfl : D = false := by rw [hDD, decide_eq_false e0]; rfl
    clear e0 hDD
    have hQ0_h := Lib.hid hQ0
    have hQ1_h := Lib.hid hQ1
    have hQ2_h := Lib.hid hQ2
    have k0_h := Lib.hid k0
    have k1_h := Lib.hid k1
    have bW_h := Lib.hid bW
    clear hQ0 hQ1 hQ2 k0 k1 bW
    go_enter Try.func17, Try.ntmps17
    go_upto_region 1 with (fail)
    rw [← hW]
    clear hW
    go_wp2_with (fail)
    go_ret
    exact ⟨rfl, bW_h.out⟩
end Go.Proofs.Ytanhmljgeiajoaa
