/-
  THE PLAIN LAW of the elimination of the last wire: what each row becomes; both sides' ways are one.
-/
import Derived.Test.YtahnhblodfdfhaaDoorElim
import Derived.Test.YtahnhblodfdfhaaDoorLess
namespace Go.Proofs.YtahnhblodfdfhaaDoor
open Go.RowKit

theorem addT_congr {p a b : Int} (h : p ∣ a - b) (v m : List Int) : addT p v a m = addT p v b m := by
  unfold addT
  apply List.map_congr_left
  intro i _
  split
  · apply Int.emod_emod_of_dvd _ (Int.dvd_refl p) |>.symm.trans
    have : (v.getD i 0 + a * m.getD i 0) % p = (v.getD i 0 + b * m.getD i 0) % p := by
      apply Int.emod_eq_emod_iff_emod_sub_eq_zero.2
      apply Int.emod_eq_zero_of_dvd
      have e : v.getD i 0 + a * m.getD i 0 - (v.getD i 0 + b * m.getD i 0) = (a - b) * m.getD i 0 := by rw [Int.sub_mul]; omega
      rw [e]; exact dvd_l h _
    rw [this, Int.emod_emod_of_dvd _ (Int.dvd_refl p)]
  · rfl
theorem addT_zero {p : Int} (v m : List Int) (hv : Res p v) : addT p v 0 m = v := by
  apply List.ext_getElem?
  intro k
  by_cases hk : k < v.length
  · unfold addT
    rw [List.getElem?_map, List.getElem?_range hk]
    have e : v.getD k 0 = v[k] := by simp [List.getD, hk]
    have hb := hv v[k] (List.getElem_mem hk)
    simp only [Option.map_some, Int.zero_mul, Int.add_zero, e, Int.emod_eq_of_lt hb.1 hb.2, ite_self, List.getElem?_eq_getElem hk]
  · rw [List.getElem?_eq_none (by rw [addT_length]; omega), List.getElem?_eq_none (by omega)]

/-- What a row becomes. -/
def eV (p : Int) (c : Nat) (pv v : List Int) : List Int := addT p v (-(v.getD c 0 * invM p (pv.getD c 0) % p)) pv
theorem eV_impl (p : Int) (c : Nat) (pv v : List Int) : addT p v (-(v.getD c 0) * invM p (pv.getD c 0)) pv = eV p c pv v := by
  unfold eV
  apply addT_congr
  have e : -(v.getD c 0) * invM p (pv.getD c 0) - -(v.getD c 0 * invM p (pv.getD c 0) % p) = v.getD c 0 * invM p (pv.getD c 0) % p - v.getD c 0 * invM p (pv.getD c 0) := by
    rw [Int.neg_mul]; omega
  rw [e]; exact dvd_emod_sub p _
theorem eV_zero {p : Int} {c : Nat} {pv v : List Int} (hv : Res p v) (h : v.getD c 0 = 0) : eV p c pv v = v := by
  unfold eV
  rw [h, Int.zero_mul, Int.zero_emod, Int.neg_zero]
  exact addT_zero v pv hv
@[simp] theorem eV_length (p : Int) (c : Nat) (pv v : List Int) : (eV p c pv v).length = v.length := by unfold eV; simp

/-- The rows without the last wire. -/
def elimM (p : Int) (c : Nat) (L : List (List Int)) : List (List Int) :=
  if pvI L c < L.length then (L.eraseIdx (pvI L c)).map fun v => (eV p c (L.getD (pvI L c) []) v).take c else L.map fun v => v.take c
/-- The reference's rows behind the first k. -/
def lessTo (p : Int) (c : Nat) (L : List (List Int)) : Nat → List (List Int)
  | 0 => []
  | k + 1 => if k = pvI L c then lessTo p c L k else lessTo p c L k ++ [(if k < pvI L c then L.getD k [] else eV p c (L.getD (pvI L c) []) (L.getD k [])).take c]
theorem take_lt_pvI {L : List (List Int)} {c k : Nat} (h : k < pvI L c) : (L.getD k []).getD c 0 = 0 := by
  have hl : pvI L c ≤ L.length := List.findIdx_le_length
  have hk : k < L.length := by omega
  have := List.not_of_lt_findIdx h
  have e : L.getD k [] = L[k] := by simp [List.getD, hk]
  rw [e]; simpa using this
theorem lessTo_eq {p : Int} {c n : Nat} {L : List (List Int)} (hm : Mat p L.length n L) : ∀ k, k ≤ L.length → lessTo p c L k = if pvI L c < k then ((L.take k).eraseIdx (pvI L c)).map (fun v => (eV p c (L.getD (pvI L c) []) v).take c) else (L.take k).map fun v => (eV p c (L.getD (pvI L c) []) v).take c
  | 0, _ => by simp [lessTo]
  | k + 1, hk => by
    have ih := lessTo_eq (c := c) hm k (by omega)
    have hx : L[k]? = some (L.getD k []) := getElem?_getD (by omega)
    have htk : L.take (k + 1) = L.take k ++ [L.getD k []] := by rw [List.take_add_one, hx]; rfl
    have hlk : (L.take k).length = k := by rw [List.length_take]; omega
    rw [lessTo, ih, htk]
    by_cases h1 : k = pvI L c
    · rw [if_pos h1, if_neg (show ¬ pvI L c < k by omega), if_pos (show pvI L c < k + 1 by omega)]
      have : ((L.take k) ++ [L.getD k []]).eraseIdx (pvI L c) = L.take k := by
        rw [← h1, List.eraseIdx_append_of_length_le (by omega), hlk, Nat.sub_self]; simp
      rw [this]
    · rw [if_neg h1]
      by_cases h2 : pvI L c < k
      · rw [if_pos h2, if_neg (show ¬ k < pvI L c by omega), if_pos (show pvI L c < k + 1 by omega), List.eraseIdx_append_of_lt_length (by omega), List.map_append]; rfl
      · have h3 : k < pvI L c := by omega
        rw [if_neg h2, if_pos h3, if_neg (show ¬ pvI L c < k + 1 by omega), List.map_append, List.map_cons, List.map_nil, eV_zero (hm.get (by omega)).2 (take_lt_pvI h3)]
theorem elimM_eq {p : Int} {c n : Nat} {L : List (List Int)} (hm : Mat p L.length n L) : lessTo p c L L.length = elimM p c L := by
  have h := lessTo_eq (c := c) hm L.length (Nat.le_refl _)
  rw [List.take_length] at h
  rw [h, elimM]
  split
  · rfl
  · rename_i hl
    have hp : pvI L c = L.length := Nat.le_antisymm List.findIdx_le_length (by omega)
    apply List.map_congr_left
    intro v hv
    obtain ⟨i, hi, rfl⟩ := List.getElem_of_mem hv
    have e : L.getD i [] = L[i] := by simp [List.getD, hi]
    rw [← e, eV_zero (hm.get hi).2 (take_lt_pvI (by omega))]

/-- The factor of row i. -/
def facF (p : Int) (c pv : Nat) (L : List (List Int)) (i : Nat) : Int := (L.getD i []).getD c 0 * invM p ((L.getD pv []).getD c 0) % p
theorem eV_fac (p : Int) (c pv : Nat) (L : List (List Int)) (i : Nat) : eV p c (L.getD pv []) (L.getD i []) = addT p (L.getD i []) (-(facF p c pv L i)) (L.getD pv []) := rfl
theorem eV_fac0 {p : Int} {c pv n : Nat} {L : List (List Int)} (hm : Mat p L.length n L) {i : Nat} (hi : i < L.length) (h : facF p c pv L i = 0) : eV p c (L.getD pv []) (L.getD i []) = L.getD i [] := by
  rw [eV_fac, h, Int.neg_zero]
  exact addT_zero _ _ (hm.get hi).2
theorem elim_step {p : Int} {c pv n q : Nat} {L : List (List Int)} (hm : Mat p L.length n L) (hq : q < L.length) (h : q ≠ pv) : elimTo p pv (facF p c pv L) L (q + 1) = (elimTo p pv (facF p c pv L) L q).set q (eV p c (L.getD pv []) (L.getD q [])) := by
  by_cases h0 : facF p c pv L q = 0
  · have e := elimTo_at (p := p) (r := pv) (f := facF p c pv L) hq
    rw [elimTo_skip (.inr h0), eV_fac0 hm hq h0, ← e, set_getD]
  · rw [elimTo_step hq h h0]; rfl
theorem elim_done {p : Int} {c n : Nat} {L : List (List Int)} (hm : Mat p L.length n L) (hp : pvI L c < L.length) : ((elimTo p (pvI L c) (facF p c (pvI L c) L) L L.length).eraseIdx (pvI L c)).map (fun v => v.take c) = elimM p c L := by
  rw [elimM, if_pos hp]
  have hg : ∀ i, i ≠ pvI L c → (elimTo p (pvI L c) (facF p c (pvI L c) L) L L.length)[i]? = (L.map fun v => eV p c (L.getD (pvI L c) []) v)[i]? := by
    intro i hne
    by_cases hi : i < L.length
    · have e : L.getD i [] = L[i] := by simp [List.getD, hi]
      unfold elimTo
      rw [List.getElem?_map, List.getElem?_range hi, List.getElem?_map, List.getElem?_eq_getElem hi]
      simp only [Option.map_some]
      by_cases h0 : facF p c (pvI L c) L i = 0
      · rw [if_neg (fun h => h.2.2 h0), ← e, eV_fac0 hm hi h0]
      · rw [if_pos ⟨hi, hne, h0⟩, ← e, eV_fac]
    · rw [List.getElem?_eq_none (by simp [elimTo]; omega), List.getElem?_eq_none (by simp; omega)]
  apply List.ext_getElem?
  intro j
  rw [List.getElem?_map, List.getElem?_map, List.getElem?_eraseIdx, List.getElem?_eraseIdx]
  by_cases hj : j < pvI L c
  · rw [if_pos hj, if_pos hj, hg j (by omega), List.getElem?_map]
    cases L[j]? <;> rfl
  · rw [if_neg hj, if_neg hj, hg (j + 1) (by omega), List.getElem?_map]
    cases L[j + 1]? <;> rfl
end Go.Proofs.YtahnhblodfdfhaaDoor
