/-
  THE LAW's HELPERS OVER [][]int: markIntSS, heldIntSS.
-/
import Derived.Test.YtahnhblodfdfhaaDoorRw
namespace Go.Proofs.YtahnhblodfdfhaaDoor
open Go.RowKit

section
variable {w w' : World} {A : Option Addr} {cap : Nat} {hs : List Hd} {L : List (List Int)} {fp : List Nat}
/-- A row has become another one of its length. -/
theorem OwR.wr2 (h : OwR w A cap hs) {i : Nat} {B : Option Addr} {c : Nat} {l l' : List Int} (hi : hs[i]? = some (B, c, l)) (hk : Keeps (· ∈ fpA B) w w') (hI : IS w' B c l') (hl : l'.length = l.length) : OwR w' A cap (hs.set i (B, c, l')) := by
  have hil := (List.getElem?_eq_some_iff.1 hi).1
  have hm := List.mem_of_getElem? hi
  have hsetm : (hs.set i (B, c, l')).map Hd.val = hs.map Hd.val := by
    rw [List.map_set]
    have : Hd.val (B, c, l') = Hd.val (B, c, l) := by simp [Hd.val, hl]
    rw [this]
    apply List.ext_getElem?
    intro k
    rw [List.getElem?_set]
    split
    · rename_i hk; subst hk
      rw [List.getElem?_map, hi]
      simp [hil]
    · rfl
  have hget : ∀ (k : Nat) (x : Hd), (hs.set i (B, c, l'))[k]? = some x → ∃ y : Hd, hs[k]? = some y ∧ y.1 = x.1 := by
    intro k x hx
    rw [List.getElem?_set] at hx
    split at hx
    · rename_i hk; subst hk
      simp at hx
      exact ⟨_, hi, by rw [← hx]⟩
    · exact ⟨x, hx, rfl⟩
  refine ⟨?_, fun x hx => ?_, ?_, fun x hx => ?_⟩
  · rw [List.length_set, hsetm]
    exact h.sl.keeps hk fun b hb hb' => h.outer _ hm b hb' hb
  · obtain ⟨k, hkk⟩ := List.mem_iff_getElem?.1 hx
    rw [List.getElem?_set] at hkk
    split at hkk
    · simp at hkk
      rw [← hkk]
      exact hI
    · rename_i hik
      exact (h.rows x (List.mem_of_getElem? hkk)).keeps hk fun b hb hb' => h.apart_get hi hkk hik b hb' hb
  · refine List.pairwise_iff_getElem.2 fun a b ha hb hab => ?_
    obtain ⟨x, hx, ex⟩ := hget a _ (List.getElem?_eq_getElem ha)
    obtain ⟨y, hy, ey⟩ := hget b _ (List.getElem?_eq_getElem hb)
    rw [← ex, ← ey]
    exact h.apart_get hx hy (by omega)
  · obtain ⟨k, hkk⟩ := List.mem_iff_getElem?.1 hx
    obtain ⟨y, hy, e⟩ := hget k x hkk
    rw [← e]; exact h.outer y (List.mem_of_getElem? hy)
theorem RwF.wr2 (h : RwF w A cap L fp) {i : Nat} (hi : i < L.length) {ad : Addr} (hA : A = some ad) {B : Option Addr} {n c : Nat} (hc : w.cell? (ad.add i) = some (.slice B n c)) {l' : List Int} (hl : l'.length = (L.getD i []).length) (hk : Keeps (· ∈ fpA B) w w') (hI : IS w' B c l') : RwF w' A cap (L.set i l') fp ∧ Keeps (· ∈ fp) w w' := by
  obtain ⟨hs, rfl, hO, hf⟩ := h
  obtain ⟨ad', B', c', l, hA', hx, hc', hz, hi'⟩ := hO.get (i := i) (by simpa using hi)
  rw [hA] at hA'
  obtain rfl := Option.some.inj hA'
  rw [hc] at hc'
  injection hc' with hc'
  injection hc' with e1 e2 e3
  subst e1 e3
  rw [getD_map_hd hx] at hl
  have hm := List.mem_of_getElem? hx
  refine ⟨⟨hs.set i (B, c, l'), by rw [List.map_set], hO.wr2 hx hk hI hl, fun b hb => ?_⟩, hk.mono fun b _ hb => hf b (List.mem_append_right _ (mem_fpR.2 ⟨_, hm, hb⟩))⟩
  rcases List.mem_append.1 hb with hb | hb
  · exact hf b (List.mem_append_left _ hb)
  · exact hf b (List.mem_append_right _ (fpR_set hx b hb))
end

theorem cntR_append (L M : List (List Int)) : cntR (L ++ M) = cntR L + cntR M := by
  induction L with
  | nil => simp [cntR]
  | cons l L ih => simp [cntR, ih]; omega
theorem cntR_take_succ {L : List (List Int)} {i : Nat} (h : i < L.length) : cntR (L.take (i + 1)) = cntR (L.take i) + (L.getD i []).length := by
  rw [List.take_add_one, getElem?_getD (d := []) h, cntR_append]; simp [cntR]
theorem cntR_take_le (L : List (List Int)) (i : Nat) : cntR (L.take i) ≤ cntR L := by
  conv => rhs; rw [← List.take_append_drop i L, cntR_append]
  omega
theorem marksR_length (k : Nat) (ns : List Nat) : (marksR k ns).length = ns.length := by
  induction ns generalizing k with
  | nil => rfl
  | cons n ns ih => simp [marksR, ih]
theorem marksR_get : ∀ (L : List (List Int)) (k i : Nat), i < L.length → (marksR k (L.map List.length))[i]? = some (marks (k + cntR (L.take i)) (L.getD i []).length)
  | l :: L, k, 0, _ => by simp [marksR, cntR]
  | l :: L, k, i + 1, h => by
    have := marksR_get L (k + l.length) i (by simpa using h)
    simp only [List.map_cons, marksR, List.getElem?_cons_succ, this, List.take_succ_cons, cntR]
    simp [Nat.add_assoc]
theorem marksR_lens : ∀ (k : Nat) (ns : List Nat), (marksR k ns).map List.length = ns
  | _, [] => rfl
  | k, n :: ns => by simp [marksR, marksR_lens (k + n) ns]

set_option maxHeartbeats 1000000 in
theorem markIntSS_any (A : Option Addr) (c m : Nat) (L : List (List Int)) (fp : List Nat) (k : Nat) (w : World) (h : RwF w A c L fp) (hm : L.length = m) (hml : m ≤ 1048576) (hl : k + cntR L ≤ 17592186044416) :
    Calls Tryd.prog 54 #[.slice A m c, .int .i64 k] w fun e w' => e = .returned (.int .i64 ((k + cntR L : Nat) : Int)) ∧ RwF w' A c (marksR k (L.map List.length)) fp ∧ Keeps (· ∈ fp) w w' := by
  have HM := Lib.hid hm
  clear hm
  go_enter Tryd.func54, Tryd.ntmps54
  go_wp2_with (fail)
  go_loopw [1, 5] (fun q i wr => ∃ j : Nat, j ≤ m ∧ i = .int .i64 j ∧ q = .int .i64 ((k + cntR (L.take j) : Nat) : Int) ∧ RwF wr A c ((marksR k (L.map List.length)).take j ++ L.drop j) fp ∧ Keeps (· ∈ fp) w wr) (fun _ i _ => m - (intOf i).toNat)
  case atStart => exact ⟨0, Nat.zero_le _, rfl, by simp [cntR], by simpa using h, Keeps.refl _ _⟩
  case round =>
    obtain ⟨j, hj, rfl, rfl, hR, hkp⟩ := hrel
    have hln : ((marksR k (L.map List.length)).take j ++ L.drop j).length = L.length := by rw [List.length_append, List.length_take, marksR_length, List.length_map, List.length_drop, HM.out]; omega
    by_cases hlt : j < m
    · obtain ⟨ad, B, d, hA, hc, _, hI, _⟩ := hR.get (i := j) (by rw [hln, HM.out]; exact hlt)
      have hrow : ((marksR k (L.map List.length)).take j ++ L.drop j).getD j [] = L.getD j [] := by
        have e := get_take_drop (l := marksR k (L.map List.length)) (m := L) (k := j) (by rw [marksR_length, List.length_map]) (by rw [HM.out]; exact hlt)
        simp only [List.getD, e]
      rw [hrow] at hc hI
      have hsz := cntR_take_succ (L := L) (i := j) (by rw [HM.out]; exact hlt)
      have hle := cntR_take_le L (j + 1)
      have hC := markIntS_any B d (L.getD j []) (k + cntR (L.take j)) wr hI (by omega)
      have HC := Lib.hid hC
      have HW := Lib.hid (fun (w' : World) (hk' : Keeps (· ∈ fpA B) wr w') (hI' : IS w' B d (marks (k + cntR (L.take j)) (L.getD j []).length)) =>
        hR.wr2 (i := j) (by rw [hln, HM.out]; exact hlt) hA hc (l' := marks (k + cntR (L.take j)) (L.getD j []).length) (by rw [marks_length, hrow]) hk' hI')
      have hst := take_append_step (l := marksR k (L.map List.length)) (m := L) (k := j) (by rw [marksR_length, List.length_map]) (marksR_get L k j (by rw [HM.out]; exact hlt))
      have HST := Lib.hid hst
      have HSZ := Lib.hid hsz
      obtain ⟨nj, hnj⟩ : ∃ nj, nj = (L.getD j []).length := ⟨_, rfl⟩
      obtain ⟨cj, hcj⟩ : ∃ cj, cj = cntR (L.take j) := ⟨_, rfl⟩
      have HNJ := Lib.hid hnj
      have HCJ := Lib.hid hcj
      have hC2 := HC.out
      rw [← hnj, ← hcj] at hC2
      rw [← hnj] at hc
      rw [← hcj]
      subst hA
      have hjI : (j : Int) < (m : Int) := by omega
      have HC2 := Lib.hid hC2
      have HKP := Lib.hid hkp
      clear hC hC2 HC hst hsz hR hI hrow hln hnj hcj hle hkp h
      go_wp2_with (fail)
      refine HC2.out.mono ?_
      rintro e w1 ⟨rfl, hI1, hk1⟩
      rw [HNJ.out, HCJ.out] at hI1
      obtain ⟨hR1, hk2⟩ := HW.out w1 hk1 hI1
      rw [HST.out] at hR1
      have HR1 := Lib.hid hR1
      have HK2 := Lib.hid (HKP.out.trans hk2)
      clear hR1 hk2 hI1 hk1
      go_wp2_with (fail)
      go_roundw
      case rel => exact ⟨j + 1, by omega, by go_num, by rw [HSZ.out, ← HNJ.out, ← HCJ.out]; congr 2; omega, HR1.out, HK2.out⟩
      case measure => simp [intOf]; omega
    · obtain rfl : m = j := by omega
      have hR2 : RwF wr A c (marksR k (L.map List.length)) fp := by
        have := hR
        rwa [List.take_of_length_le (by rw [marksR_length, List.length_map, HM.out]; omega), List.drop_of_length_le (by rw [HM.out]; omega), List.append_nil] at this
      have hcn : cntR (L.take m) = cntR L := by rw [List.take_of_length_le (by rw [HM.out]; omega)]
      have HCN := Lib.hid hcn
      clear hR hln hcn
      go_wp2_with (fail)
      go_ret
      exact ⟨ret_int (by rw [HCN.out]), hR2, hkp⟩

set_option maxHeartbeats 1000000 in
theorem heldIntSS_any (A : Option Addr) (c : Nat) (hs : List Hd) (L : List (List Int)) (k : Nat) (w : World) (h : RdR w A hs) (hm : hs.map (fun h : Hd => h.2.2) = marksR k (L.map List.length)) (hml : hs.length ≤ 1048576) (hl : k + cntR L ≤ 17592186044416) :
    Calls Tryd.prog 55 #[.slice A hs.length c, .int .i64 k] w fun e w' => e = .returned (.int .i64 ((k + cntR L : Nat) : Int)) ∧ w = w' := by
  have hlen : L.length = hs.length := by have := congrArg List.length hm; rw [List.length_map, marksR_length, List.length_map] at this; omega
  obtain ⟨m, hmm⟩ : ∃ m, m = hs.length := ⟨_, rfl⟩
  rw [← hmm] at hml ⊢
  have HM := Lib.hid hmm
  have HL := Lib.hid (hlen.trans hmm.symm)
  have HE := Lib.hid hm
  clear hmm hlen hm
  go_enter Tryd.func55, Tryd.ntmps55
  go_wp2_with (fail)
  go_loop [1, 5] (fun q i => ∃ j : Nat, j ≤ m ∧ i = .int .i64 j ∧ q = .int .i64 ((k + cntR (L.take j) : Nat) : Int)) (fun _ i => m - (intOf i).toNat)
  case atStart => exact ⟨0, Nat.zero_le _, rfl, by simp [cntR]⟩
  case round =>
    obtain ⟨j, hj, rfl, rfl⟩ := hrel
    by_cases hlt : j < m
    · obtain ⟨ad, B, d, l, rfl, hx, hc, hri⟩ := h.at_ (k := j) (by rw [← HM.out]; exact hlt)
      have hgl := marksR_get L k j (by rw [HL.out]; exact hlt)
      have hll : l = marks (k + cntR (L.take j)) (L.getD j []).length := by
        rw [← HE.out, List.getElem?_map, hx] at hgl
        exact Option.some.inj hgl
      have hsz := cntR_take_succ (L := L) (i := j) (by rw [HL.out]; exact hlt)
      have hle := cntR_take_le L (j + 1)
      rw [hll] at hri
      have hC := heldIntS_any B d (L.getD j []).length (k + cntR (L.take j)) w hri (by omega)
      rw [hll, marks_length] at hc
      obtain ⟨nj, hnj⟩ : ∃ nj, nj = (L.getD j []).length := ⟨_, rfl⟩
      obtain ⟨cj, hcj⟩ : ∃ cj, cj = cntR (L.take j) := ⟨_, rfl⟩
      rw [← hnj] at hC hc hsz
      rw [← hcj] at hC hsz ⊢
      have HC := Lib.hid hC
      have HSZ := Lib.hid hsz
      have hjI : (j : Int) < (m : Int) := by omega
      clear hC hsz hri hll hgl hx hnj hcj hle h
      go_wp2_with (fail)
      refine HC.out.mono ?_
      rintro e w1 ⟨rfl, rfl⟩
      go_wp2_with (fail)
      go_round
      case rel => exact ⟨j + 1, by omega, by go_num, by rw [HSZ.out]; congr 2; omega⟩
      case measure => simp [intOf]; omega
    · obtain rfl : m = j := by omega
      have hcn : cntR (L.take m) = cntR L := by rw [List.take_of_length_le (by rw [HL.out]; omega)]
      have HCN := Lib.hid hcn
      clear hcn h
      go_wp2_with (fail)
      go_ret
      exact ⟨ret_int (by rw [HCN.out]), rfl⟩
end Go.Proofs.YtahnhblodfdfhaaDoor
