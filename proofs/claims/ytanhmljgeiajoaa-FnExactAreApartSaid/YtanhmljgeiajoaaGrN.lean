/-
  THE WALKS: lists of wires that become others (hgList; chosen, mapped).
-/
import Derived.Test.YtanhmljgeiajoaaGrX
import Derived.Test.YtanhmljgeiajoaaGrR
namespace Go.Proofs.Ytanhmljgeiajoaa
open Go.RowKit

/-- A slice of ints of a call's own. -/
structure OIg (w0 w : World) (A : Option Addr) (cap : Nat) (l : List Int) : Prop where
  is : IS w A cap l
  new : Fresh w0.heap.size A
  below_ : Below w0.heap.size w0 w
theorem OIg.snoc {w0 w w2 : World} {A : Option Addr} {cap : Nat} {l : List Int} (h : OIg w0 w A cap l) {o : Obj} {x : Int} {A' : Option Addr} {cap' n : Nat} (hn : n = l.length + 1) (hs' : Sl w2 tInt 1 A' n cap' (ints l ++ [.int .i64 x])) (hA' : ∀ b, b ∈ fpA A' → b ∈ fpA A ∨ (w.alloc o).heap.size ≤ b) (hk : Keeps (· ∈ fpA A) (w.alloc o) w2) : OIg w0 w2 A' cap' (l ++ [x]) := by
  subst hn
  have hb := below_trans h.below_ ((Below.refl w.heap.size w).alloc (Nat.le_refl _) o) h.below_.size
  refine ⟨?_, fun b hb' => ?_, below_keeps hb hk hb.size h.new⟩
  · unfold IS
    have : ints (l ++ [x]) = ints l ++ [.int .i64 x] := by simp [ints]
    rw [this, List.length_append]; exact hs'
  · rcases hA' b hb' with h1 | h1
    · exact h.new b h1
    · have := hb.size; omega
theorem oig_alloc {w0 w : World} {A : Option Addr} {cap k : Nat} {l : List Int} (h : OIg w0 w A cap l) (hk : l.length = k) (o : Obj) : Sl (w.alloc o) tInt 1 A k cap (ints l) := by
  have := Sl.alloc h.is o; rwa [hk] at this
set_option maxRecDepth 100000 in
set_option maxHeartbeats 2000000 in
theorem hgList_any (A B : Option Addr) (a b p n : Nat) (l to : List Int) (w : World) (hl : RdI w A l) (ht : RdI w B to) (hp : l.length = p) (hn : to.length = n) (hin : ∀ x, x ∈ l → 0 ≤ x ∧ x < (n : Int)) (hpb : p ≤ 1048576) :
    Calls Try.prog 62 #[.slice A p a, .slice B n b] w fun e w' => ∃ A' c', e = .returned (.slice A' p c') ∧ OIg w w' A' c' (mapL to l) := by
  have hO0 : OIg w w none 0 (mapL to []) := ⟨Sl.nil _ _ _, Fresh.none_ _, Below.refl _ _⟩
  have hp_h := Lib.hid hp
  have hn_h := Lib.hid hn
  have hin_h := Lib.hid hin
  have hO0_h := Lib.hid hO0
  have hl_h := Lib.hid hl
  have ht_h := Lib.hid ht
  clear hp hn hin hO0 hl ht
  go_enter Try.func62, Try.ntmps62
  go_wp2_with (fail)
  go_loopw [10, 5] (fun i v' wr => ∃ (k : Nat) (A' : Option Addr) (c' : Nat), k ≤ p ∧ i = .int .i64 k ∧ v' = .slice A' k c' ∧ OIg w wr A' c' (mapL to (l.take k))) (fun i _ _ => p - (intOf i).toNat)
  case atStart => exact ⟨0, none, 0, Nat.zero_le _, rfl, rfl, by simpa using hO0_h.out⟩
  case round =>
    clear hO0_h
    obtain ⟨k, A', c', hk, rfl, rfl, hO⟩ := hrel
    by_cases hlt : k < p
    · obtain ⟨xd, x, rfl, hx, hxc⟩ := (hl_h.out.below hO.below_).at_ (j := k) (by rw [hp_h.out]; exact hlt)
      have hxb := hin_h.out x (List.mem_of_getElem? hx)
      obtain ⟨q, rfl⟩ : ∃ q : Nat, x = (q : Int) := ⟨x.toNat, by omega⟩
      have hqn : q < n := by omega
      obtain ⟨yd, y, rfl, hy, hyc⟩ := (ht_h.out.below hO.below_).at_ (j := q) (by rw [hn_h.out]; exact hqn)
      have hml : (mapL to (l.take k)).length = k := by rw [mapL_length, List.length_take, hp_h.out]; omega
      have hst : mapL to (l.take (k + 1)) = mapL to (l.take k) ++ [y] := by rw [mapL_take_step hx]; simp [List.getD, hy]
      have hsl := fun (o : Obj) => oig_alloc hO hml o
      have hkI : (k : Int) < (p : Int) := by omega
      have hqI : (q : Int) < (n : Int) := by omega
      have hq0 : (0 : Int) ≤ (q : Int) := by omega
      clear hx hy hxb
      have hml_h := Lib.hid hml
      have hst_h := Lib.hid hst
      have hsl_h := Lib.hid hsl
      have hO_h := Lib.hid hO
      clear hml hst hsl hO
      go_wp2_with (at_builtin; refine wpList_append_Sl _ rfl _ _ _ rfl 3 Try.underlying23 info_int rfl (by omega) rfl (hsl_h.out (.cells #[.int .i64 y] 3)) rfl (news := [.int .i64 y]) rfl (Sl.rdc (Sl.laid wr 3 1 1 #[.int .i64 y] (by unfold maxLen; omega) rfl)) (by intro u hu; simp at hu; subst hu; rfl) (by unfold maxLen; omega) (by omega) ?_; intro A3 c3 w3 hs3 hA3 hk3)
      have hO2 := hO_h.out.snoc (x := y) (by rw [hml_h.out]) hs3 hA3 hk3
      rw [← hst_h.out] at hO2
      clear hs3 hA3 hk3
      have hO2_h := Lib.hid hO2
      clear hO2
      go_roundw
      case rel => exact ⟨k + 1, A3, c3, by omega, by go_num, rfl, hO2_h.out⟩
      case measure => simp [intOf]; omega
    · obtain rfl : p = k := by omega
      rw [List.take_of_length_le (by rw [hp_h.out]; exact Nat.le_refl _)] at hO
      have hO_h := Lib.hid hO
      clear hO
      go_wp2_with (fail)
      go_ret
      exact ⟨A', c', rfl, hO_h.out⟩
set_option maxRecDepth 100000 in
set_option maxHeartbeats 2000000 in
theorem chosenG_any (A B : Option Addr) (a b p n : Nat) (l to : List Int) (w : World) (hl : RdI w A l) (ht : RdI w B to) (hp : l.length = p) (hn : to.length = n) (hin : ∀ x, x ∈ l → 0 ≤ x ∧ x < (n : Int)) (hpb : p ≤ 1048576) :
    Calls Try.prog 134 #[.slice B n b, .slice A p a] w fun e w' => ∃ A' c', e = .returned (.slice A' p c') ∧ OIg w w' A' c' (mapL to l) := by
  have hp_h := Lib.hid hp
  have hn_h := Lib.hid hn
  have hin_h := Lib.hid hin
  have hl_h := Lib.hid hl
  have ht_h := Lib.hid ht
  clear hp hn hin hl ht
  go_enter Try.func134, Try.ntmps134
  go_wp2_with (at_make; refine wpList_make_Sl _ rfl _ _ _ rfl 3 Try.underlying23 info_int 0 p rfl rfl rfl rfl (Nat.zero_le _) (by omega) (by unfold maxLen; omega) ?_; intro G w1 hs1 hG hb1)
  have hO0 : OIg w w1 (some G) p (mapL to []) := ⟨by unfold IS; simpa [ints, mapL] using hs1, fun b hb => by simp at hb; subst hb; exact hG, hb1⟩
  clear hs1 hG hb1
  have hO0_h := Lib.hid hO0
  clear hO0
  go_loopw [13, 5] (fun i v' wr => ∃ (k : Nat) (A' : Option Addr) (c' : Nat), k ≤ p ∧ i = .int .i64 k ∧ v' = .slice A' k c' ∧ OIg w wr A' c' (mapL to (l.take k))) (fun i _ _ => p - (intOf i).toNat)
  case atStart => exact ⟨0, some G, p, Nat.zero_le _, rfl, rfl, by simpa using hO0_h.out⟩
  case round =>
    clear hO0_h
    obtain ⟨k, A', c', hk, rfl, rfl, hO⟩ := hrel
    by_cases hlt : k < p
    · obtain ⟨xd, x, rfl, hx, hxc⟩ := (hl_h.out.below hO.below_).at_ (j := k) (by rw [hp_h.out]; exact hlt)
      have hxb := hin_h.out x (List.mem_of_getElem? hx)
      obtain ⟨q, rfl⟩ : ∃ q : Nat, x = (q : Int) := ⟨x.toNat, by omega⟩
      have hqn : q < n := by omega
      obtain ⟨yd, y, rfl, hy, hyc⟩ := (ht_h.out.below hO.below_).at_ (j := q) (by rw [hn_h.out]; exact hqn)
      have hml : (mapL to (l.take k)).length = k := by rw [mapL_length, List.length_take, hp_h.out]; omega
      have hst : mapL to (l.take (k + 1)) = mapL to (l.take k) ++ [y] := by rw [mapL_take_step hx]; simp [List.getD, hy]
      have hsl := fun (o : Obj) => oig_alloc hO hml o
      have hkI : (k : Int) < (p : Int) := by omega
      have hqI : (q : Int) < (n : Int) := by omega
      have hq0 : (0 : Int) ≤ (q : Int) := by omega
      clear hx hy hxb
      have hml_h := Lib.hid hml
      have hst_h := Lib.hid hst
      have hsl_h := Lib.hid hsl
      have hO_h := Lib.hid hO
      clear hml hst hsl hO
      go_wp2_with (at_builtin; refine wpList_append_Sl _ rfl _ _ _ rfl 3 Try.underlying23 info_int rfl (by omega) rfl (hsl_h.out (.cells #[.int .i64 y] 3)) rfl (news := [.int .i64 y]) rfl (Sl.rdc (Sl.laid wr 3 1 1 #[.int .i64 y] (by unfold maxLen; omega) rfl)) (by intro u hu; simp at hu; subst hu; rfl) (by unfold maxLen; omega) (by omega) ?_; intro A3 c3 w3 hs3 hA3 hk3)
      have hO2 := hO_h.out.snoc (x := y) (by rw [hml_h.out]) hs3 hA3 hk3
      rw [← hst_h.out] at hO2
      clear hs3 hA3 hk3
      have hO2_h := Lib.hid hO2
      clear hO2
      go_roundw
      case rel => exact ⟨k + 1, A3, c3, by omega, by go_num, rfl, hO2_h.out⟩
      case measure => simp [intOf]; omega
    · obtain rfl : p = k := by omega
      rw [List.take_of_length_le (by rw [hp_h.out]; exact Nat.le_refl _)] at hO
      have hO_h := Lib.hid hO
      clear hO
      go_wp2_with (fail)
      go_ret
      exact ⟨A', c', rfl, hO_h.out⟩
theorem mapped_any (A B : Option Addr) (a b p n : Nat) (l to : List Int) (w : World) (hl : RdI w A l) (ht : RdI w B to) (hp : l.length = p) (hn : to.length = n) (hin : ∀ x, x ∈ l → 0 ≤ x ∧ x < (n : Int)) (hpb : p ≤ 1048576) :
    Calls Try.prog 102 #[.slice A p a, .slice B n b] w fun e w' => ∃ A' c', e = .returned (.slice A' p c') ∧ OIg w w' A' c' (mapL to l) := by
  have hC := chosenG_any A B a b p n l to w hl ht hp hn hin hpb
  have hC_h := Lib.hid hC
  have hl_h := Lib.hid hl
  have ht_h := Lib.hid ht
  have hp_h := Lib.hid hp
  have hn_h := Lib.hid hn
  have hin_h := Lib.hid hin
  clear hC hl ht hp hn hin
  go_enter Try.func102, Try.ntmps102
  go_wp2_with (fail)
  refine (hC_h.out).mono ?_
  rintro e w1 ⟨A', c', rfl, hO⟩
  go_wp2_with (fail)
  go_ret
  exact ⟨A', c', rfl, hO⟩
end Go.Proofs.Ytanhmljgeiajoaa
