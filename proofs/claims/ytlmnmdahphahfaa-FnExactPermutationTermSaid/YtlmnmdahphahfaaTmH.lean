/-
  THE LAW's HELPERS OVER []Node AND Term: sz, to, eq.
-/
import Derived.Test.YtlmnmdahphahfaaTmL
import Derived.Test.YtlmnmdahphahfaaTmIn
import Derived.Deep.QuietTactic
import Derived.BigQuiet
namespace Go.Proofs.Ytlmnmdahphahfaa
open Go.RowKit

theorem info_nd : (Try.prog.info? tNd).map (fun i => (i.zero, i.size, i.bytes)) = some (some (.agg #[.int .i64 0, .int .i64 0, .string ⟨#[]⟩]), 3, 32) := by kernel_rfl
abbrev tNdL : TypeId := 90

/-! ### sz -/
def szN : List Nd → Int → Int
  | [], left => left
  | n :: r, left => if left - n.2.2.size < 0 then -1 else szN r (left - n.2.2.size)
def szNS (l : List Nd) (left : Int) : Int := if left - l.length < 0 then -1 else szN l (left - l.length)
theorem szN_le : ∀ (l : List Nd) (left : Int), 0 ≤ left → szN l left ≤ left ∧ (szN l left < 0 → szN l left = -1)
  | [], left, h => ⟨Int.le_refl _, fun h' => by simp only [szN] at h'; omega⟩
  | n :: r, left, h => by
    unfold szN
    split
    · exact ⟨by omega, fun _ => rfl⟩
    · have := szN_le r (left - n.2.2.size) (by omega)
      exact ⟨by omega, this.2⟩
theorem szNS_ok {l : List Nd} {left : Int} (h : 0 ≤ szNS l left) (h1 : left ≤ 1048576) : l.length ≤ 1048576 ∧ szNS l left ≤ left := by
  unfold szNS at h ⊢
  split at h
  · omega
  · rename_i h2
    rw [if_neg h2]
    have := szN_le l (left - l.length) (by omega)
    omega
theorem szNS_neg {l : List Nd} {left : Int} (h : szNS l left < 0) : szNS l left = -1 := by
  unfold szNS at h ⊢
  split at h
  · rename_i h2; rw [if_pos h2]
  · rename_i h2
    rw [if_neg h2]
    exact (szN_le l (left - l.length) (by omega)).2 h

set_option maxHeartbeats 400000 in
theorem szNode_any (k v : Int) (s : ByteArray) (left : Int) (w : World) (h0 : 0 ≤ left) (h1 : left ≤ 1048576) (hs : s.size ≤ maxLen) :
    Calls Try.prog 75 #[.agg #[.int .i64 k, .int .i64 v, .string s], .int .i64 left] w fun e w' => e = .returned (.int .i64 (if left - s.size < 0 then -1 else left - s.size)) ∧ Below w.heap.size w w' := by
  unfold maxLen at hs
  obtain ⟨z, hz⟩ : ∃ z, z = s.size := ⟨_, rfl⟩
  by_cases hl : left - s.size < 0
  · rw [if_pos hl]
    go_enter Try.func75, Try.ntmps75
    go_wp2_with (fail)
    go_ret
    exact ⟨rfl, below_alloc _ _⟩
  · rw [if_neg hl]
    go_enter Try.func75, Try.ntmps75
    go_wp2_with (fail)
    go_ret
    exact ⟨rfl, below_alloc _ _⟩

set_option maxHeartbeats 1000000 in
theorem szNodeS_any (A : Option Addr) (c : Nat) (l : List Nd) (left : Int) (w : World) (h : RdN w A l) (hB : BigTm l) (h0 : 0 ≤ left) (h1 : left ≤ 1048576) :
    Calls Try.prog 42 #[.slice A l.length c, .int .i64 left] w fun e w' => e = .returned (.int .i64 (szNS l left)) ∧ Below w.heap.size w w' := by
  obtain ⟨hB1, hB2⟩ := hB
  unfold maxLen at hB1
  obtain ⟨m, hm⟩ : ∃ m, m = l.length := ⟨_, rfl⟩
  rw [← hm] at hB1 ⊢
  obtain ⟨S, hS⟩ : ∃ S, S = szNS l left := ⟨_, rfl⟩
  rw [← hS]
  by_cases hl : left - (m : Int) < 0
  · have e : S = -1 := by rw [hS]; unfold szNS; rw [← hm, if_pos hl]
    subst e
    have hm_h := Lib.hid hm
    have hB2_h := Lib.hid hB2
    have hS_h := Lib.hid hS
    clear hm hB2 hS
    clear h
    go_enter Try.func42, Try.ntmps42
    go_wp2_with (fail)
    go_ret
    exact ⟨rfl, Below.refl _ _⟩
  · have e : S = szN l (left - m) := by rw [hS]; unfold szNS; rw [← hm, if_neg hl]
    have hsl := szN_le l (left - m) (by omega)
    rw [← e] at hsl
    have hm_h := Lib.hid hm
    have hB2_h := Lib.hid hB2
    have hS_h := Lib.hid hS
    have e_h := Lib.hid e
    clear hm hB2 hS e
    go_enter Try.func42, Try.ntmps42
    go_wp2_with (fail)
    go_loopw [1, 5] (fun q i wr => ∃ (k : Nat) (x : Int), k ≤ m ∧ i = .int .i64 k ∧ q = .int .i64 x ∧ 0 ≤ x ∧ x ≤ 1048576 ∧ szN (l.drop k) x = S ∧ Below w.heap.size w wr) (fun _ i _ => m - (intOf i).toNat)
    case atStart => exact ⟨0, left - m, Nat.zero_le _, rfl, rfl, by omega, by omega, by rw [e_h.out]; rfl, Below.refl _ _⟩
    case round =>
      obtain ⟨k, x, hk, rfl, rfl, hx0, hx1, hsz, hb⟩ := hrel
      by_cases hlt : k < m
      · obtain ⟨ad, κ, v, s, rfl, hn, d0, d1, d2⟩ := (h.below hb).at_ (j := k) (by rw [← hm_h.out]; exact hlt)
        have hss : s.size ≤ maxLen := hB2_h.out _ (List.mem_of_getElem? hn)
        have hdrop : l.drop k = (κ, v, s) :: l.drop (k + 1) := by
          obtain ⟨hk', e⟩ := List.getElem?_eq_some_iff.1 hn
          rw [← e]; exact List.drop_eq_getElem_cons hk'
        have hC := fun W => szNode_any κ v s x W hx0 hx1 hss
        have hkI : (k : Int) < (m : Int) := by omega
        rw [hdrop] at hsz
        by_cases hneg : x - s.size < 0
        · have hS1 : S = -1 := by rw [← hsz]; show (if _ then _ else _) = _; rw [if_pos hneg]
          simp only [if_pos hneg] at hC
          subst hS1
          have hC_h := Lib.hid hC
          have hsz_h := Lib.hid hsz
          have hn_h := Lib.hid hn
          have hss_h := Lib.hid hss
          have hdrop_h := Lib.hid hdrop
          clear hC hsz hn hss hdrop
          clear h
          go_wp2_with (fail)
          refine (hC_h.out _).mono ?_
          rintro e w1 ⟨rfl, hb1⟩
          go_wp2_with (fail)
          go_ret
          exact ⟨rfl, below_trans hb hb1 hb.size⟩
        · have hs1 : szN (l.drop (k + 1)) (x - s.size) = S := by rw [← hsz]; show _ = (if _ then _ else _); rw [if_neg hneg]
          simp only [if_neg hneg] at hC
          obtain ⟨x', hx'⟩ : ∃ x', x' = x - (s.size : Int) := ⟨_, rfl⟩
          rw [← hx'] at hs1
          simp only [← hx'] at hC
          have hn0 : ¬ x' < 0 := by omega
          have hn1 : x' ≤ 1048576 := by omega
          have hC_h := Lib.hid hC
          have hsz_h := Lib.hid hsz
          have hn_h := Lib.hid hn
          have hss_h := Lib.hid hss
          have hdrop_h := Lib.hid hdrop
          have hs1_h := Lib.hid hs1
          have hx'_h := Lib.hid hx'
          clear hC hsz hn hss hdrop hs1 hx'
          clear h
          go_wp2_with (fail)
          refine (hC_h.out _).mono ?_
          rintro e w1 ⟨rfl, hb1⟩
          go_wp2_with (fail)
          go_roundw
          case rel => exact ⟨k + 1, x', by omega, by go_num, rfl, by omega, by omega, hs1_h.out, below_trans hb hb1 hb.size⟩
          case measure => simp [intOf]; omega
      · obtain rfl : k = m := by omega
        have : x = S := by
          rw [← hsz, List.drop_of_length_le (by rw [← hm_h.out]; omega)]; rfl
        subst this
        have hsz_h := Lib.hid hsz
        clear hsz
        clear h
        go_wp2_with (fail)
        go_ret
        exact ⟨rfl, hb⟩

/-! ### to -/
set_option maxHeartbeats 400000 in
theorem toNode_any (k v : Int) (s : ByteArray) (w : World) :
    Calls Try.prog 76 #[.agg #[.int .i64 k, .int .i64 v, .string s]] w fun e w' => e = .returned (.agg #[.int .i64 k, .int .i64 v, .string s]) ∧ Below w.heap.size w w' := by
  go_enter Try.func76, Try.ntmps76
  go_wp2_with (fail)
  refine bodyPost_ret (v := .agg #[.int .i64 k, .int .i64 v, .string s]) (by simp [results, Try.results76, go_sem]) rfl ⟨rfl, ?_⟩
  exact (((Below.refl _ _).alloc (Nat.le_refl _) _).alloc (by simp) _).alloc (by simp; omega) _
end Go.Proofs.Ytlmnmdahphahfaa
