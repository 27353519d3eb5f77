/-
  THE WALKS: impl.from, joined, placed.
-/
import Derived.Test.YtahnhblodfdfhaaDoorKer
import Derived.IntWalk
namespace Go.Proofs.YtahnhblodfdfhaaDoor
open Go.RowKit

/-- a, a + 1, .. -/
def fromI (a : Int) (n : Nat) : List Int := (List.range n).map fun i => ((i : Nat) : Int) + a
@[simp] theorem fromI_length (a : Int) (n : Nat) : (fromI a n).length = n := by simp [fromI]
theorem fromI_get {a : Int} {n k : Nat} (h : k < n) : (fromI a n)[k]? = some ((k : Int) + a) := by simp [fromI, h]
theorem get_mid {α : Type} {xs ys : List α} {k : Nat} (h : k ≤ xs.length) : (xs.take k ++ ys.drop k)[k]? = ys[k]? := by
  rw [List.getElem?_append_right (by rw [List.length_take]; omega), List.length_take, Nat.min_eq_left h, Nat.sub_self, List.getElem?_drop, Nat.add_zero]

theorem OI.join {w0 w w2 : World} {A : Option Addr} {cap : Nat} {l v : List Int} (h : OI w0 w A cap l) {A' : Option Addr} {cap' n : Nat} (hn : n = l.length + v.length) (hs' : Sl w2 tInt 1 A' n cap' (ints l ++ ints v)) (hA' : ∀ b, b ∈ fpA A' → b ∈ fpA A ∨ w.heap.size ≤ b) (hk : Keeps (· ∈ fpA A) w w2) : OI w0 w2 A' cap' (l ++ v) := by
  subst hn
  refine ⟨?_, fun b hb' => ?_, below_keeps h.below_ hk h.below_.size h.new⟩
  · unfold IS
    have : ints (l ++ v) = ints l ++ ints v := by simp [ints]
    rw [this, List.length_append]; exact hs'
  · rcases hA' b hb' with h1 | h1
    · exact h.new b h1
    · have := h.below_.size; omega
theorem flat_take_le {L : List (List Int)} {k : Nat} {N : Nat} (h : L.flatten.length ≤ N) : (L.take k).flatten.length ≤ N := by
  have e : L.flatten.length = (L.take k).flatten.length + (L.drop k).flatten.length := by
    have := congrArg (fun x => x.flatten.length) (List.take_append_drop k L)
    simp only [List.flatten_append, List.length_append] at this; omega
  omega

set_option maxHeartbeats 1000000 in
theorem joined_any (A : Option Addr) (c : Nat) (hs : List Hd) (w : World) (h : RdR w A hs) (hl : hs.length ≤ 1048576) (hN : (hs.map fun h : Hd => h.2.2).flatten.length ≤ 1048576) :
    Calls Tryd.prog 129 #[.slice A hs.length c] w (RetI w (hs.map fun h : Hd => h.2.2).flatten) := by
  obtain ⟨L, hLh⟩ : ∃ L, L = hs.map fun h : Hd => h.2.2 := ⟨_, rfl⟩
  rw [← hLh] at hN ⊢
  obtain ⟨m, hmm⟩ : ∃ m, m = hs.length := ⟨_, rfl⟩
  rw [← hmm] at hl ⊢
  have HLh := Lib.hid hLh
  have HM := Lib.hid hmm
  have hLen := Lib.hid (show L.length = m by rw [hLh, List.length_map, hmm])
  clear hLh hmm
  have hO0 : OI w (w.alloc (.cells #[] 3)) (some ⟨w.heap.size, 0, none⟩) 0 [] := by
    refine ⟨by unfold IS; simpa [ints] using Sl.laid w 3 1 0 #[] (Nat.zero_le _) rfl, fun b hb => ?_, (Below.refl _ _).alloc (Nat.le_refl _) _⟩
    have : b = w.heap.size := by simpa using hb
    subst this; exact Nat.le_refl _
  go_enter Tryd.func129, Tryd.ntmps129
  go_wp2_with (fail)
  go_loopw [9, 3] (fun i v wr => ∃ (k : Nat) (A' : Option Addr) (c' n : Nat), k ≤ m ∧ i = .int .i64 k ∧ v = .slice A' n c' ∧ n = ((L.take k).flatten).length ∧ OI w wr A' c' (L.take k).flatten) (fun i _ _ => m - (intOf i).toNat)
  case atStart => exact ⟨0, _, 0, 0, Nat.zero_le _, rfl, rfl, rfl, by simpa using hO0⟩
  case round =>
    clear hO0
    obtain ⟨k, A', c', n, hk, rfl, rfl, hn, hO⟩ := hrel
    by_cases hlt : k < m
    · obtain ⟨ad, C, d, l, rfl, hx, hc, hri⟩ := (h.below hO.below_).at_ (k := k) (by rw [← HM.out]; exact hlt)
      have hlx : L[k]? = some l := by rw [HLh.out, List.getElem?_map, hx]; rfl
      have hnx : (L.take (k + 1)).flatten = (L.take k).flatten ++ l := by rw [List.take_add_one, hlx]; simp
      have hb1 := flat_take_le (k := k + 1) hN
      rw [hnx, List.length_append] at hb1
      have hsl : Sl wr 3 1 A' n c' (ints (L.take k).flatten) := by rw [hn]; exact hO.is
      obtain ⟨q, hq⟩ : ∃ q, q = l.length := ⟨_, rfl⟩
      rw [← hq] at hc hb1
      rw [← hn] at hb1
      have hil : (ints l).length = q * 1 := by rw [ints_length, hq, Nat.mul_one]
      have HNX := Lib.hid hnx
      have HQ := Lib.hid hq
      have HN := Lib.hid hn
      have HIL := Lib.hid hil
      have hkI : (k : Int) < (m : Int) := by omega
      clear hx hlx hnx hq hn hil h
      go_wp2_with (at_builtin; refine wpList_append_Sl _ rfl _ _ _ rfl 3 Tryd.underlying33 info_int rfl (by omega) rfl hsl rfl HIL.out hri.rdc (ints_one l) (by unfold maxLen; omega) (by omega) ?_; intro A3 c3 w3 hs3 hA3 hk3)
      have hO2 := Lib.hid (hO.join (v := l) (by rw [← HN.out, ← HQ.out]) hs3 hA3 hk3)
      clear hs3 hO hsl
      go_roundw
      case rel => exact ⟨k + 1, A3, c3, n + q, by omega, by go_num, rfl, by rw [HNX.out, List.length_append, HN.out, HQ.out], by rw [HNX.out]; exact hO2.out⟩
      case measure => simp [intOf]; omega
    · obtain rfl : m = k := by omega
      have hO2 : OI w wr A' c' L.flatten := by have := hO; rwa [List.take_of_length_le (by rw [hLen.out]; omega)] at this
      have hn2 : n = L.flatten.length := by rw [hn, List.take_of_length_le (by rw [hLen.out]; omega)]
      have HN2 := Lib.hid hn2
      clear hO h hn hn2
      go_wp2_with (fail)
      go_ret
      exact ⟨A', c', by rw [← HN2.out]; rfl, hO2.is, hO2.new, hO2.below_⟩

/-- The elements laid at places. -/
def placeTo (n : Nat) (at_ : List Nat) (v : List Int) : Nat → List Int
  | 0 => List.replicate n 0
  | i + 1 => (placeTo n at_ v i).set (at_.getD i 0) (v.getD i 0)
@[simp] theorem placeTo_length (n : Nat) (at_ : List Nat) (v : List Int) : ∀ i, (placeTo n at_ v i).length = n
  | 0 => by simp [placeTo]
  | i + 1 => by rw [placeTo, List.length_set]; exact placeTo_length n at_ v i
def placeV (n : Nat) (at_ : List Nat) (v : List Int) : List Int := placeTo n at_ v v.length

end Go.Proofs.YtahnhblodfdfhaaDoor
