/-
  THE LAW's HELPERS OVER []Node AND Term: to, eq.
-/
import Derived.Test.YtlmnmdahphahfaaTmH
import Derived.Test.YtlmnmdahphahfaaRegT
namespace Go.Proofs.Ytlmnmdahphahfaa
open Go.RowKit

theorem ret_sl {A : Option Addr} {n n' c : Nat} (h : n = n') : Ending.returned (.slice A n c) = .returned (.slice A n' c) := by rw [h]
theorem bytes_ext {s s' : ByteArray} (h : s.toList = s'.toList) : s = s' := by
  rw [ByteArray.toList_eq, ByteArray.toList_eq] at h
  cases s; cases s'; simp at h; simp [h]
def nd0 : Nd := (0, 0, noName)
theorem three_step {P : Nat → Prop} (h0 : ∀ q, P (q * 3)) (h1 : ∀ q, P (q * 3 + 1)) (h2 : ∀ q, P (q * 3 + 2)) (j : Nat) : P j := by
  have : j = j / 3 * 3 + j % 3 := by omega
  have hr : j % 3 = 0 ∨ j % 3 = 1 ∨ j % 3 = 2 := by omega
  rw [this]
  rcases hr with h | h | h <;> rw [h]
  · exact h0 _
  · exact h1 _
  · exact h2 _
theorem madeNodes (n : Nat) : (madeCells (Value.agg #[.int .i64 0, .int .i64 0, .string ⟨#[]⟩]).cells (n * 3)).toList.take (n * 3) = ncs (List.replicate n nd0) := by
  have hs : (madeCells (Value.agg #[.int .i64 0, .int .i64 0, .string ⟨#[]⟩]).cells (n * 3)).toList.length = n * 3 := by rw [Array.length_toList, size_madeCells]
  rw [List.take_of_length_le (by omega)]
  apply List.ext_getElem?
  intro j
  by_cases hj : j < n * 3
  · have key : ∀ q r, q * 3 + r < n * 3 → r < 3 → (madeCells (Value.agg #[.int .i64 0, .int .i64 0, .string ⟨#[]⟩]).cells (n * 3)).toList[q * 3 + r]? = (nc nd0)[r]? := by
      intro q r h hr
      have hm : (q * 3 + r) % 3 = r := by omega
      have hr' : r = 0 ∨ r = 1 ∨ r = 2 := by omega
      simp only [madeCells, Value.cells, Array.toList_map, List.getElem?_map, Array.toList_range, List.getElem?_range h, Option.map_some]
      show some (_[(q * 3 + r) % 3]!) = _
      rw [hm]
      rcases hr' with rfl | rfl | rfl <;> rfl
    have hq : j / 3 < n := by omega
    have hg := ncs_get (l := List.replicate n nd0) (j := j / 3) (n := nd0) (by simp [hq])
    have e : j = j / 3 * 3 + j % 3 := by omega
    have hr' : j % 3 = 0 ∨ j % 3 = 1 ∨ j % 3 = 2 := by omega
    rw [e]
    rcases hr' with h | h | h <;> rw [h] at e ⊢
    · rw [key _ 0 (by omega) (by omega)]; exact hg.1.symm
    · rw [key _ 1 (by omega) (by omega)]; exact hg.2.1.symm
    · rw [key _ 2 (by omega) (by omega)]; exact hg.2.2.symm
  · rw [List.getElem?_eq_none (by omega), List.getElem?_eq_none (by simp; omega)]
theorem NS.set {w : World} {A : Option Addr} {cap : Nat} {l : List Nd} (h : NS w A cap l) {ad : Addr} (hA : A = some ad) {j : Nat} (k v : Int) (s : ByteArray) (hj : j < l.length) :
    NS (((w.setCell (ad.add (j * 3)) (.int .i64 k)).setCell ⟨(ad.add (j * 3)).block, (ad.add (j * 3)).off + 1, none⟩ (.int .i64 v)).setCell ⟨(ad.add (j * 3)).block, (ad.add (j * 3)).off + 2, none⟩ (.string s)) A cap (l.set j (k, v, s)) ∧
    Keeps (· ∈ fpA A) w (((w.setCell (ad.add (j * 3)) (.int .i64 k)).setCell ⟨(ad.add (j * 3)).block, (ad.add (j * 3)).off + 1, none⟩ (.int .i64 v)).setCell ⟨(ad.add (j * 3)).block, (ad.add (j * 3)).off + 2, none⟩ (.string s)) := by
  have hl : (ncs l).length = l.length * 3 := ncs_length l
  have s1 := Sl.set h hA (j * 3) (.int .i64 k) (by omega)
  have s2 := Sl.set s1 hA (j * 3 + 1) (.int .i64 v) (by rw [List.length_set]; omega)
  have s3 := Sl.set s2 hA (j * 3 + 2) (.string s) (by rw [List.length_set, List.length_set]; omega)
  have e := ncs_set (l := l) (j := j) (k, v, s) hj
  simp only at e
  rw [e, add_next ad (j * 3) 1 (by omega), add_next ad (j * 3) 2 (by omega)] at s3
  refine ⟨by unfold NS; rw [List.length_set]; exact s3, ?_⟩
  have hb : (ad.add (j * 3)).block ∈ fpA A := by rw [block_of_add, hA]; simp
  exact (((Keeps.refl _ w).setCell (p := ad.add (j * 3)) hb _).setCell (p := ⟨(ad.add (j * 3)).block, (ad.add (j * 3)).off + 1, none⟩) hb _).setCell (p := ⟨(ad.add (j * 3)).block, (ad.add (j * 3)).off + 2, none⟩) hb _
theorem NS.mid {w : World} {ad : Addr} {cap : Nat} {l : List Nd} (h : NS w (some ad) cap l) {j : Nat} (k v : Int) (hj : j < l.length) :
    (∃ x, (w.setCell (ad.add (j * 3)) (.int .i64 k)).cell? ⟨(ad.add (j * 3)).block, (ad.add (j * 3)).off + 1, none⟩ = some x) ∧ (w.setCell (ad.add (j * 3)) (.int .i64 k)).frozen? ⟨(ad.add (j * 3)).block, (ad.add (j * 3)).off + 1, none⟩ = false ∧
    (∃ x, ((w.setCell (ad.add (j * 3)) (.int .i64 k)).setCell ⟨(ad.add (j * 3)).block, (ad.add (j * 3)).off + 1, none⟩ (.int .i64 v)).cell? ⟨(ad.add (j * 3)).block, (ad.add (j * 3)).off + 2, none⟩ = some x) ∧
    ((w.setCell (ad.add (j * 3)) (.int .i64 k)).setCell ⟨(ad.add (j * 3)).block, (ad.add (j * 3)).off + 1, none⟩ (.int .i64 v)).frozen? ⟨(ad.add (j * 3)).block, (ad.add (j * 3)).off + 2, none⟩ = false := by
  have hl : (ncs l).length = l.length * 3 := ncs_length l
  have s1 := Sl.set h rfl (j * 3) (.int .i64 k) (by omega)
  have s2 := Sl.set s1 rfl (j * 3 + 1) (.int .i64 v) (by rw [List.length_set]; omega)
  rw [← add_next ad (j * 3) 1 (by omega), ← add_next ad (j * 3) 2 (by omega)]
  obtain ⟨a1, h1, _, c1, f1⟩ := Sl.cell s1 (j := j * 3 + 1) (u := _) (List.getElem?_eq_getElem (by rw [List.length_set]; omega))
  obtain ⟨a2, h2, _, c2, f2⟩ := Sl.cell s2 (j := j * 3 + 2) (u := _) (List.getElem?_eq_getElem (by rw [List.length_set, List.length_set]; omega))
  obtain rfl := Option.some.inj h1
  obtain rfl := Option.some.inj h2
  exact ⟨⟨_, c1⟩, f1 _, ⟨_, c2⟩, f2 _⟩
theorem NS.free {w : World} {A : Option Addr} {cap : Nat} {l : List Nd} (h : NS w A cap l) {j : Nat} (hj : j < l.length) : ∃ ad, A = some ad ∧ w.frozen? (ad.add (j * 3)) = false ∧ w.frozen? ⟨(ad.add (j * 3)).block, (ad.add (j * 3)).off + 1, none⟩ = false ∧ w.frozen? ⟨(ad.add (j * 3)).block, (ad.add (j * 3)).off + 2, none⟩ = false := by
  obtain ⟨ad, hA, _, hf⟩ := h.at_ hj
  refine ⟨ad, hA, hf _, ?_, ?_⟩
  · rw [← add_next ad (j * 3) 1 (by omega)]; exact hf _
  · rw [← add_next ad (j * 3) 2 (by omega)]; exact hf _
theorem take_rep_step {l : List Nd} {k : Nat} {x z : Nd} (h : l[k]? = some x) :
    (l.take k ++ List.replicate (l.length - k) z).set k x = l.take (k + 1) ++ List.replicate (l.length - (k + 1)) z := by
  have hk : k < l.length := (List.getElem?_eq_some_iff.1 h).1
  have e : (l.take k).length = k := by simp; omega
  rw [List.set_append_right _ _ (by omega), e, Nat.sub_self, show l.length - k = (l.length - (k + 1)) + 1 by omega, List.replicate_succ, List.set_cons_zero, List.take_add_one, h]
  simp

set_option maxHeartbeats 1000000 in
theorem toNodeS_any (A : Option Addr) (c : Nat) (l : List Nd) (w : World) (h : RdN w A l) (hl : l.length ≤ 1048576) :
    Calls Try.prog 44 #[.slice A l.length c] w (RetN w l) := by
  obtain ⟨m, hm⟩ : ∃ m, m = l.length := ⟨_, rfl⟩
  rw [← hm] at hl ⊢
  have HM := Lib.hid hm
  clear hm
  go_enter Try.func44, Try.ntmps44
  go_wp2_with (at_make; refine wpList_make_Sl _ rfl _ _ _ rfl tNd Try.underlying28 info_nd m m rfl rfl rfl rfl (Nat.le_refl _) (by omega) (by unfold maxLen; omega) ?_; intro G w1 hs hG hb1)
  have hs0 : NS w1 (some G) m (List.replicate m nd0) := by unfold NS; rw [← madeNodes, List.length_replicate]; exact hs
  clear hs
  go_loopw [4] (fun i wr => ∃ k : Nat, k ≤ m ∧ i = .int .i64 k ∧ NS wr (some G) m (l.take k ++ List.replicate (m - k) nd0) ∧ Below w.heap.size w wr)
    (fun i _ => m - (intOf i).toNat)
  case atStart => exact ⟨0, Nat.zero_le _, rfl, by simpa using hs0, hb1⟩
  case round =>
    obtain ⟨k, hk, rfl, his, hb⟩ := hrel
    clear hs0
    by_cases hlt : k < m
    · obtain ⟨ad, κ, v, s, rfl, hn, d0, d1, d2⟩ := (h.below hb).at_ (j := k) (by rw [← HM.out]; exact hlt)
      have hkI : (k : Int) < (m : Int) := by omega
      have hn_h := Lib.hid hn
      have his_h := Lib.hid his
      clear hn his
      clear h
      go_wp2_with (fail)
      refine (toNode_any κ v s _).mono ?_
      rintro e w2 ⟨rfl, hb2⟩
      have his2 := his_h.out.below hb2
      have hlen : (l.take k ++ List.replicate (m - k) nd0).length = m := by have := HM.out; simp; omega
      obtain ⟨_, k', v', s', hG', _, e0, e1, e2⟩ := his2.rd.at_ (j := k) (by omega)
      obtain rfl := Option.some.inj hG'
      obtain ⟨_, hG', g0, g1, g2⟩ := his2.free (j := k) (by omega)
      obtain rfl := Option.some.inj hG'
      obtain ⟨⟨xm1, m1⟩, n1, ⟨xm2, m2⟩, n2⟩ := his2.mid (j := k) κ v (by omega)
      obtain ⟨hset, hks⟩ := his2.set (ad := G) rfl (j := k) κ v s (by omega)
      have htr := take_rep_step (z := nd0) hn_h.out
      rw [← HM.out] at htr
      rw [htr] at hset
      have hb3 := below_keeps (below_trans hb hb2 hb.size) hks (Nat.le_trans hb.size hb2.size) (fun b hb => by simp at hb; omega)
      have his2_h := Lib.hid his2
      have hset_h := Lib.hid hset
      have hks_h := Lib.hid hks
      have htr_h := Lib.hid htr
      have hb3_h := Lib.hid hb3
      have hb2_h := Lib.hid hb2
      clear his2 hset hks htr hb3 hb2
      clear his_h hlen hG' d0 d1 d2
      go_wp2_with (fail)
      go_roundw
      case rel => exact ⟨k + 1, by omega, by go_num, hset_h.out, hb3_h.out⟩
      case measure => simp [intOf]; omega
    · obtain rfl : k = m := by omega
      have hfin : NS wr (some G) k l := by rw [List.take_of_length_le (by rw [← HM.out]; omega), Nat.sub_self] at his; simpa using his
      have his_h := Lib.hid his
      have hfin_h := Lib.hid hfin
      clear his hfin
      clear h
      go_wp2_with (fail)
      go_ret
      exact ⟨some G, k, ret_sl HM.out, hfin_h.out, fun b hb => by simp at hb; subst hb; exact hG, hb⟩

/-! ### eq -/
set_option maxHeartbeats 400000 in
theorem eqNode_any (k v : Int) (s : ByteArray) (k' v' : Int) (s' : ByteArray) (w : World) :
    Calls Try.prog 79 #[.agg #[.int .i64 k, .int .i64 v, .string s], .agg #[.int .i64 k', .int .i64 v', .string s']] w fun e w' => ∃ b, e = .returned (.bool b) ∧ (b = true ↔ ((k, v, s) : Nd) = (k', v', s')) ∧ Below w.heap.size w w' := by
  have hB := ((Below.refl w.heap.size w).alloc (Nat.le_refl _) (.cells #[.int .i64 k, .int .i64 v, .string s] tNd)).alloc (by simp) (.cells #[.int .i64 k', .int .i64 v', .string s'] tNd)
  have hB_h := Lib.hid hB
  clear hB
  go_enter Try.func79, Try.ntmps79
  go_wp2_with (fail)
  · have hk : k ≠ k' := by simpa using (‹(k != k') = true›)
    go_ret
    exact ⟨_, rfl, by simp [hk], hB_h.out⟩
  · have hk : v ≠ v' := by simpa using (‹(v != v') = true›)
    go_ret
    exact ⟨_, rfl, by simp [hk], hB_h.out⟩
  · have hk : ¬ s.toList = s'.toList := by simpa using (‹(!s.toList == s'.toList) = true›)
    have hs : ¬ s = s' := fun e => hk (by rw [e])
    go_ret
    exact ⟨_, rfl, by simp [hs], hB_h.out⟩
  · have hk : k = k' := by simpa using (‹(k != k') = false›)
    have hv : v = v' := by simpa using (‹(v != v') = false›)
    have hs : s = s' := bytes_ext (by simpa using (‹(!s.toList == s'.toList) = false›))
    go_ret
    exact ⟨_, rfl, by simp [hk, hv, hs], hB_h.out⟩
end Go.Proofs.Ytlmnmdahphahfaa
