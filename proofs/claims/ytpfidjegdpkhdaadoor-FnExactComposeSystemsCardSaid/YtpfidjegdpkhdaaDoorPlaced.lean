/-
  THE WALKS: impl.from, joined, placed.
-/
import Derived.Test.YtpfidjegdpkhdaaDoorKer
import Derived.IntWalk
namespace Go.Proofs.YtpfidjegdpkhdaaDoor
open Go.RowKit

/-- a, a + 1, .. -/
def fromI (a : Int) (n : Nat) : List Int := (List.range n).map fun i => ((i : Nat) : Int) + a
@[simp] theorem fromI_length (a : Int) (n : Nat) : (fromI a n).length = n := by simp [fromI]
theorem fromI_get {a : Int} {n k : Nat} (h : k < n) : (fromI a n)[k]? = some ((k : Int) + a) := by simp [fromI, h]
theorem get_mid {α : Type} {xs ys : List α} {k : Nat} (h : k ≤ xs.length) : (xs.take k ++ ys.drop k)[k]? = ys[k]? := by
  rw [List.getElem?_append_right (by rw [List.length_take]; omega), List.length_take, Nat.min_eq_left h, Nat.sub_self, List.getElem?_drop, Nat.add_zero]

set_option maxHeartbeats 400000 in
theorem from_any (a : Int) (n : Nat) (w : World) (hn : n ≤ 1048576) (ha : 0 ≤ a ∧ a ≤ 1048576) :
    Calls Tryd.prog 73 #[.int .i64 a, .int .i64 n] w (RetI w (fromI a n)) := by
  have hC := upTo_any n w hn
  have HC := Lib.hid hC
  clear hC
  go_enter Tryd.func73, Tryd.ntmps73
  go_wp2_with (fail)
  refine HC.out.mono ?_
  rintro e w1 ⟨A, c, rfl, his0, hf, hb1⟩
  rw [rangeI_length]
  go_wp2_with (fail)
  go_loopw [11] (fun i wr => ∃ k : Nat, k ≤ n ∧ i = .int .i64 k ∧ IS wr A c ((fromI a n).take k ++ (rangeI n).drop k) ∧ Below w.heap.size w wr) (fun i _ => n - (intOf i).toNat)
  case atStart => exact ⟨0, Nat.zero_le _, rfl, by simpa using his0, hb1⟩
  case round =>
    clear his0 hb1
    obtain ⟨k, hk, rfl, his, hb⟩ := hrel
    have hlen : ((fromI a n).take k ++ (rangeI n).drop k).length = n := by simp; omega
    by_cases hlt : k < n
    · obtain ⟨ad, y, hA, hy, _, hc', hf'⟩ := his.at_ (j := k) (by rw [hlen]; exact hlt)
      subst hA
      rw [get_mid (by simp; omega), rangeI_get hlt] at hy
      obtain rfl := Option.some.inj hy
      have hfz := hf' k
      have his' := his.set (ad := ad) rfl (j := k) ((k : Int) + a) (by rw [hlen]; exact hlt)
      rw [take_append_step (by simp) (fromI_get hlt)] at his'
      have HI := Lib.hid his'
      have hb' := Lib.hid (hb.setCell (p := ad.add k) (by rw [block_of_add]; exact hf _ (by simp)) (.int .i64 ((k : Int) + a)))
      have hkI : (k : Int) < (n : Int) := by omega
      have ws : IntKind.i64.wrap ((k : Int) + a) = (k : Int) + a := IntWalk.i64_in _ (by omega)
      clear his' hf' his hy hlen hb
      go_wp2_with (fail)
      go_roundw
      case rel => exact ⟨k + 1, by omega, by go_num, HI.out, hb'.out⟩
      case measure => simp [intOf]; omega
    · obtain rfl : n = k := by omega
      have his2 : IS wr A c (fromI a n) := by
        have := his
        rwa [List.take_of_length_le (by simp), List.drop_of_length_le (by simp), List.append_nil] at this
      clear his hlen
      go_wp2_with (fail)
      go_ret
      exact ⟨A, c, by rw [fromI_length]; rfl, his2, hf, hb⟩

theorem OI.join {w0 w w2 : World} {A : Option Addr} {cap : Nat} {l v : List Int} (h : OI w0 w A cap l) {A' : Option Addr} {cap' n : Nat} (hn : n = l.length + v.length) (hs' : Sl w2 tInt 1 A' n cap' (ints l ++ ints v)) (hA' : ∀ b, b ∈ fpA A' → b ∈ fpA A ∨ w.heap.size ≤ b) (hk : Keeps (· ∈ fpA A) w w2) : OI w0 w2 A' cap' (l ++ v) := by
  subst hn
  refine ⟨?_, fun b hb' => ?_, below_keeps h.below_ hk h.below_.size h.new⟩
  · unfold IS
    have : ints (l ++ v) = ints l ++ ints v := by simp [ints]
    rw [this, List.length_append]; exact hs'
  · rcases hA' b hb' with h1 | h1
    · exact h.new b h1
    · have := h.below_.size; omega
theorem flat_take_le {L : List (List Int)} {k : Nat} {N : Nat} (h : L.flatten.length ≤ N) : (L.take k).flatten.length ≤ N := by
  have e : L.flatten.length = (L.take k).flatten.length + (L.drop k).flatten.length := by
    have := congrArg (fun x => x.flatten.length) (List.take_append_drop k L)
    simp only [List.flatten_append, List.length_append] at this; omega
  omega

set_option maxHeartbeats 1000000 in
theorem joined_any (A : Option Addr) (c : Nat) (hs : List Hd) (w : World) (h : RdR w A hs) (hl : hs.length ≤ 1048576) (hN : (hs.map fun h : Hd => h.2.2).flatten.length ≤ 1048576) :
    Calls Tryd.prog 74 #[.slice A hs.length c] w (RetI w (hs.map fun h : Hd => h.2.2).flatten) := by
  obtain ⟨L, hLh⟩ : ∃ L, L = hs.map fun h : Hd => h.2.2 := ⟨_, rfl⟩
  rw [← hLh] at hN ⊢
  obtain ⟨m, hmm⟩ : ∃ m, m = hs.length := ⟨_, rfl⟩
  rw [← hmm] at hl ⊢
  have HLh := Lib.hid hLh
  have HM := Lib.hid hmm
  have hLen := Lib.hid (show L.length = m by rw [hLh, List.length_map, hmm])
  clear hLh hmm
  have hO0 : OI w (w.alloc (.cells #[] 3)) (some ⟨w.heap.size, 0, none⟩) 0 [] := by
    refine ⟨by unfold IS; simpa [ints] using Sl.laid w 3 1 0 #[] (Nat.zero_le _) rfl, fun b hb => ?_, (Below.refl _ _).alloc (Nat.le_refl _) _⟩
    have : b = w.heap.size := by simpa using hb
    subst this; exact Nat.le_refl _
  go_enter Tryd.func74, Tryd.ntmps74
  go_wp2_with (fail)
  go_loopw [9, 3] (fun i v wr => ∃ (k : Nat) (A' : Option Addr) (c' n : Nat), k ≤ m ∧ i = .int .i64 k ∧ v = .slice A' n c' ∧ n = ((L.take k).flatten).length ∧ OI w wr A' c' (L.take k).flatten) (fun i _ _ => m - (intOf i).toNat)
  case atStart => exact ⟨0, _, 0, 0, Nat.zero_le _, rfl, rfl, rfl, by simpa using hO0⟩
  case round =>
    clear hO0
    obtain ⟨k, A', c', n, hk, rfl, rfl, hn, hO⟩ := hrel
    by_cases hlt : k < m
    · obtain ⟨ad, C, d, l, rfl, hx, hc, hri⟩ := (h.below hO.below_).at_ (k := k) (by rw [← HM.out]; exact hlt)
      have hlx : L[k]? = some l := by rw [HLh.out, List.getElem?_map, hx]; rfl
      have hnx : (L.take (k + 1)).flatten = (L.take k).flatten ++ l := by rw [List.take_add_one, hlx]; simp
      have hb1 := flat_take_le (k := k + 1) hN
      rw [hnx, List.length_append] at hb1
      have hsl : Sl wr 3 1 A' n c' (ints (L.take k).flatten) := by rw [hn]; exact hO.is
      obtain ⟨q, hq⟩ : ∃ q, q = l.length := ⟨_, rfl⟩
      rw [← hq] at hc hb1
      rw [← hn] at hb1
      have hil : (ints l).length = q * 1 := by rw [ints_length, hq, Nat.mul_one]
      have HNX := Lib.hid hnx
      have HQ := Lib.hid hq
      have HN := Lib.hid hn
      have HIL := Lib.hid hil
      have hkI : (k : Int) < (m : Int) := by omega
      clear hx hlx hnx hq hn hil h
      go_wp2_with (at_builtin; refine wpList_append_Sl _ rfl _ _ _ rfl 3 Tryd.underlying37 info_int rfl (by omega) rfl hsl rfl HIL.out hri.rdc (ints_one l) (by unfold maxLen; omega) (by omega) ?_; intro A3 c3 w3 hs3 hA3 hk3)
      have hO2 := Lib.hid (hO.join (v := l) (by rw [← HN.out, ← HQ.out]) hs3 hA3 hk3)
      clear hs3 hO hsl
      go_roundw
      case rel => exact ⟨k + 1, A3, c3, n + q, by omega, by go_num, rfl, by rw [HNX.out, List.length_append, HN.out, HQ.out], by rw [HNX.out]; exact hO2.out⟩
      case measure => simp [intOf]; omega
    · obtain rfl : m = k := by omega
      have hO2 : OI w wr A' c' L.flatten := by have := hO; rwa [List.take_of_length_le (by rw [hLen.out]; omega)] at this
      have hn2 : n = L.flatten.length := by rw [hn, List.take_of_length_le (by rw [hLen.out]; omega)]
      have HN2 := Lib.hid hn2
      clear hO h hn hn2
      go_wp2_with (fail)
      go_ret
      exact ⟨A', c', by rw [← HN2.out]; rfl, hO2.is, hO2.new, hO2.below_⟩

/-- The elements laid at places. -/
def placeTo (n : Nat) (at_ : List Nat) (v : List Int) : Nat → List Int
  | 0 => List.replicate n 0
  | i + 1 => (placeTo n at_ v i).set (at_.getD i 0) (v.getD i 0)
@[simp] theorem placeTo_length (n : Nat) (at_ : List Nat) (v : List Int) : ∀ i, (placeTo n at_ v i).length = n
  | 0 => by simp [placeTo]
  | i + 1 => by rw [placeTo, List.length_set]; exact placeTo_length n at_ v i
def placeV (n : Nat) (at_ : List Nat) (v : List Int) : List Int := placeTo n at_ v v.length

set_option maxRecDepth 100000 in
set_option maxHeartbeats 2000000 in
theorem placed_any (A B : Option Addr) (c cb n : Nat) (hs : List Hd) (at_ : List Nat) (w : World) (h : RdR w A hs) (hrow : ∀ x, x ∈ hs → x.2.2.length ≤ at_.length) (hB : RdI w B (at_.map fun i => ((i : Nat) : Int))) (hat : ∀ i, i ∈ at_ → i < n) (hnl : n ≤ 1048576) (hal : at_.length ≤ 1048576) (hl : hs.length ≤ 1048576) :
    Calls Tryd.prog 76 #[.slice A hs.length c, .int .i64 n, .slice B at_.length cb] w (RetSS w ((hs.map fun h : Hd => h.2.2).map (placeV n at_))) := by
  obtain ⟨L, hLh⟩ : ∃ L, L = hs.map fun h : Hd => h.2.2 := ⟨_, rfl⟩
  rw [← hLh]
  obtain ⟨m, hmm⟩ : ∃ m, m = hs.length := ⟨_, rfl⟩
  rw [← hmm] at hl ⊢
  have HLh := Lib.hid hLh
  have HM := Lib.hid hmm
  have hLen := Lib.hid (show L.length = m by rw [hLh, List.length_map, hmm])
  obtain ⟨na, hna⟩ : ∃ na, na = at_.length := ⟨_, rfl⟩
  have HNA := Lib.hid hna
  have HROW := Lib.hid hrow
  have HAT := Lib.hid hat
  clear hLh hmm hrow hat
  rw [← hna] at hal ⊢
  clear hna
  have hOM0 : OM w (w.alloc (.cells #[] 37)) (some ⟨w.heap.size, 0, none⟩) 0 [] := by
    refine ⟨[], rfl, ⟨by simpa using Sl.laid w 37 1 0 #[] (Nat.zero_le _) rfl, fun h hh => (by cases hh), .nil, fun h hh => (by cases hh)⟩, fun b hb => ?_, (Below.refl _ _).alloc (Nat.le_refl _) _⟩
    have : b = w.heap.size := by simpa [fpR] using hb
    subst this; exact Nat.le_refl _
  go_enter Tryd.func76, Tryd.ntmps76
  go_wp2_with (fail)
  go_loopw [16, 7] (fun i v wr => ∃ (k : Nat) (A' : Option Addr) (c' : Nat), k ≤ m ∧ i = .int .i64 k ∧ v = .slice A' k c' ∧ OM w wr A' c' ((L.take k).map (placeV n at_))) (fun i _ _ => m - (intOf i).toNat)
  case atStart => exact ⟨0, _, 0, Nat.zero_le _, rfl, rfl, hOM0⟩
  case round =>
    clear hOM0
    obtain ⟨k, A', c', hk, rfl, rfl, hOM⟩ := hrel
    by_cases hlt : k < m
    · obtain ⟨ad, C, d, l, rfl, hx, hc, hri⟩ := (h.below hOM.below_).at_ (k := k) (by rw [← HM.out]; exact hlt)
      have hlx : L[k]? = some l := by rw [HLh.out, List.getElem?_map, hx]; rfl
      have hll : l.length ≤ na := by rw [HNA.out]; exact HROW.out _ (List.mem_of_getElem? hx)
      have hC := Lib.hid (zeros_any n wr (by omega))
      have hBr := hB.below hOM.below_
      obtain ⟨q, hq⟩ : ∃ q, q = l.length := ⟨_, rfl⟩
      rw [← hq] at hc hll
      obtain ⟨gs, hLg, hO, hf, h0⟩ := hOM
      have hgl : gs.length = k := by
        have := congrArg List.length hLg
        rw [List.length_map, List.length_take, hLen.out, List.length_map] at this
        omega
      have HX := Lib.hid hlx
      have HG := Lib.hid hLg
      have HGL := Lib.hid hgl
      have HQ := Lib.hid hq
      have hkI : (k : Int) < (m : Int) := by omega
      clear hx hlx hLg hgl h hB hq
      go_wp2_with (fail)
      refine hC.out.mono ?_
      rintro e w1 ⟨B1, c1, rfl, hi1, hf1, hb1⟩
      rw [List.length_replicate]
      clear hC
      go_wp2_with (fail)
      go_loopw [24] (fun i w2 => ∃ (j : Nat), j ≤ q ∧ i = .int .i64 j ∧ IS w2 B1 c1 (placeTo n at_ l j) ∧ Below wr.heap.size wr w2) (fun i _ => q - (intOf i).toNat)
      case atStart => exact ⟨0, Nat.zero_le _, rfl, hi1, hb1⟩
      case round =>
        clear hi1 hb1
        obtain ⟨j, hj, rfl, his, hb2⟩ := hrel
        by_cases hlt2 : j < q
        · obtain ⟨ld, x, hLd, hxx, hcx⟩ := (hri.below hb2).at_ (j := j) (by rw [← HQ.out]; exact hlt2)
          subst hLd
          obtain ⟨i, hi⟩ : ∃ i, at_[j]? = some i := ⟨_, List.getElem?_eq_getElem (by rw [← HNA.out]; omega)⟩
          have hin := HAT.out i (List.mem_of_getElem? hi)
          obtain ⟨bd, hBd, hcb⟩ := (hBr.below hb2) j ((i : Nat) : Int) (by simp [hi])
          subst hBd
          obtain ⟨pd, y, hP, _, _, hcp, hfp⟩ := his.at_ (j := i) (by rw [placeTo_length]; exact hin)
          subst hP
          have hfz := hfp i
          have his' := his.set (ad := pd) rfl (j := i) x (by rw [placeTo_length]; exact hin)
          have hst : (placeTo n at_ l j).set i x = placeTo n at_ l (j + 1) := by
            rw [placeTo]; simp [List.getD, hi, hxx]
          rw [hst] at his'
          have HI := Lib.hid his'
          have hb3 := Lib.hid (hb2.setCell (p := pd.add i) (by rw [block_of_add]; exact hf1 _ (by simp)) (.int .i64 x))
          have hjI : (j : Int) < (q : Int) := by omega
          have hjN : (j : Int) < (na : Int) := by omega
          have hiN : (i : Int) < (n : Int) := by omega
          clear his' hst his hfp hi hxx hb2
          go_wp2_with (fail)
          go_roundw
          case rel => exact ⟨j + 1, by omega, by go_num, HI.out, hb3.out⟩
          case measure => simp [intOf]; omega
        · obtain rfl : q = j := by omega
          have hpv : placeTo n at_ l q = placeV n at_ l := by unfold placeV; rw [HQ.out]
          rw [hpv] at his
          have hsl : Sl (wr.alloc (.cells #[.slice B1 n c1] 37)) 37 1 A' k c' (gs.map Hd.val) := by
            have := (hO.sl.below hb2).alloc (.cells #[.slice B1 n c1] 37)
            rwa [HGL.out] at this
          have hpl : (placeV n at_ l).length = n := by unfold placeV; simp
          have HPL := Lib.hid hpl
          clear hpl hpv
          go_wp2_with (at_builtin; refine wpList_append_Sl _ rfl _ _ _ rfl 37 Tryd.underlying22 info_ints rfl (by omega) rfl hsl rfl (news := [.slice B1 n c1]) rfl (Sl.rdc (Sl.laid wr 37 1 1 #[.slice B1 n c1] (by unfold maxLen; omega) rfl)) (by intro u hu; simp at hu; subst hu; rfl) (by unfold maxLen; omega) (by omega) ?_; intro A2 c2 w5 hs2 hA2 hk2)
          have hal2 : Below wr.heap.size wr (wr.alloc (.cells #[.slice B1 n c1] 37)) := (Below.refl _ _).alloc (Nat.le_refl _) _
          have hOM2 := OM.snoc (w1 := wr.alloc (.cells #[.slice B1 n c1] 37)) (l := placeV n at_ l) HG.out hO hf h0 (below_trans hb2 hal2 hb2.size) (his.below hal2) hf1 (by rw [HGL.out]) (by rw [HPL.out]; exact hs2) hA2 hk2
          have HO := Lib.hid hOM2
          clear hOM2 hs2 hsl hO hf
          go_roundw
          case rel => exact ⟨k + 1, A2, c2, by omega, by go_num, rfl, by rw [List.take_add_one, HX.out, List.map_append]; exact HO.out⟩
          case measure => simp [intOf]; omega
    · obtain rfl : m = k := by omega
      have hOM' : OM w wr A' c' (L.map (placeV n at_)) := by have := hOM; rwa [List.take_of_length_le (by rw [hLen.out]; omega)] at this
      clear hOM h hB
      go_wp2_with (fail)
      go_ret
      have := hOM'.ret
      rw [List.length_map, hLen.out] at this
      exact this
end Go.Proofs.YtpfidjegdpkhdaaDoor
