/-
  THE WALKS: impl.upTo, chosen, chosenAll, unit, identityRows, transposed.
-/
import Derived.Test.YtahnhblodfdfhaaDoorReduced
import Derived.Test.YtahnhblodfdfhaaDoorNull
namespace Go.Proofs.YtahnhblodfdfhaaDoor
open Go.RowKit

/-- 0, 1, .. -/
def rangeI (n : Nat) : List Int := (List.range n).map fun i => ((i : Nat) : Int)
@[simp] theorem rangeI_length (n : Nat) : (rangeI n).length = n := by simp [rangeI]
theorem rangeI_get {n k : Nat} (h : k < n) : (rangeI n)[k]? = some ((k : Nat) : Int) := by simp [rangeI, h]

/-- A slice of ints of a call's own. -/
structure OI (w0 w : World) (A : Option Addr) (cap : Nat) (l : List Int) : Prop where
  is : IS w A cap l
  new : Fresh w0.heap.size A
  below_ : Below w0.heap.size w0 w
theorem OI.snoc {w0 w w2 : World} {A : Option Addr} {cap : Nat} {l : List Int} (h : OI w0 w A cap l) {o : Obj} {x : Int} {A' : Option Addr} {cap' n : Nat} (hn : n = l.length + 1) (hs' : Sl w2 tInt 1 A' n cap' (ints l ++ [.int .i64 x])) (hA' : ∀ b, b ∈ fpA A' → b ∈ fpA A ∨ (w.alloc o).heap.size ≤ b) (hk : Keeps (· ∈ fpA A) (w.alloc o) w2) : OI w0 w2 A' cap' (l ++ [x]) := by
  subst hn
  have hb := below_trans h.below_ ((Below.refl w.heap.size w).alloc (Nat.le_refl _) o) h.below_.size
  refine ⟨?_, fun b hb' => ?_, below_keeps hb hk hb.size h.new⟩
  · unfold IS
    have : ints (l ++ [x]) = ints l ++ [.int .i64 x] := by simp [ints]
    rw [this, List.length_append]; exact hs'
  · rcases hA' b hb' with h1 | h1
    · exact h.new b h1
    · have := hb.size; omega
theorem oi_alloc {w0 w : World} {A : Option Addr} {cap k : Nat} {l : List Int} (h : OI w0 w A cap l) (hk : l.length = k) (o : Obj) : Sl (w.alloc o) tInt 1 A k cap (ints l) := by
  have := Sl.alloc h.is o; rwa [hk] at this

/-- The elements at places. -/
def pick (v : List Int) (at_ : List Nat) : List Int := at_.map fun i => v.getD i 0
set_option maxHeartbeats 400000 in
theorem unit_any (n i : Nat) (w : World) (hn : n ≤ 1048576) (hi : i < n) :
    Calls Tryd.prog 138 #[.int .i64 n, .int .i64 i] w (RetI w (unitV n i)) := by
  have hC := zeros_any n w (by omega)
  have he : (List.replicate n (0 : Int)).set i 1 = unitV n i := by
    apply List.ext_getElem?
    intro k
    by_cases hk : k < n
    · unfold unitV
      rw [List.getElem?_set, List.getElem?_map, List.getElem?_range hk]
      by_cases h : i = k
      · subst h; simp [hk]
      · simp [h, hk]; intro e; exact absurd e.symm h
    · unfold unitV
      rw [List.getElem?_eq_none (by simpa using hk), List.getElem?_eq_none (by simpa using hk)]
  have HC := Lib.hid hC
  have HE := Lib.hid he
  have hul := Lib.hid (show (unitV n i).length = n by simp [unitV])
  have hiI : (i : Int) < (n : Int) := by omega
  clear hC he
  go_enter Tryd.func138, Tryd.ntmps138
  go_wp2_with (fail)
  refine HC.out.mono ?_
  rintro e w1 ⟨A, c, rfl, his, hf, hb1⟩
  rw [List.length_replicate]
  obtain ⟨ad, y, hA, hy, _, hc', hf'⟩ := his.at_ (j := i) (by simpa using hi)
  subst hA
  have hfz := hf' i
  have his' := his.set (ad := ad) rfl (j := i) 1 (by simpa using hi)
  rw [HE.out] at his'
  have HI := Lib.hid his'
  have hb' := Lib.hid (hb1.setCell (p := ad.add i) (by rw [block_of_add]; exact hf _ (by simp)) (.int .i64 1))
  clear his' hf' his hy hb1
  go_wp2_with (fail)
  go_ret
  exact ⟨some ad, c, by rw [hul.out]; rfl, HI.out, hf, hb'.out⟩

set_option maxHeartbeats 1000000 in
theorem identityRows_any (n : Nat) (w : World) (hn : n ≤ 1048576) :
    Calls Tryd.prog 161 #[.int .i64 n] w (RetSS w (idM n)) := by
  have hOM0 : OM w (w.alloc (.cells #[] 33)) (some ⟨w.heap.size, 0, none⟩) 0 [] := by
    refine ⟨[], rfl, ⟨by simpa using Sl.laid w 33 1 0 #[] (Nat.zero_le _) rfl, fun h hh => (by cases hh), .nil, fun h hh => (by cases hh)⟩, fun b hb => ?_, (Below.refl _ _).alloc (Nat.le_refl _) _⟩
    have : b = w.heap.size := by simpa [fpR] using hb
    subst this; exact Nat.le_refl _
  have hil := Lib.hid (show (idM n).length = n by simp [idM])
  go_enter Tryd.func161, Tryd.ntmps161
  go_wp2_with (fail)
  go_loopw [7, 3] (fun i v wr => ∃ (k : Nat) (A' : Option Addr) (c' : Nat), k ≤ n ∧ i = .int .i64 k ∧ v = .slice A' k c' ∧ OM w wr A' c' ((idM n).take k)) (fun i _ _ => n - (intOf i).toNat)
  case atStart => exact ⟨0, _, 0, Nat.zero_le _, rfl, rfl, hOM0⟩
  case round =>
    clear hOM0
    obtain ⟨k, A', c', hk, rfl, rfl, hOM⟩ := hrel
    by_cases hlt : k < n
    · have hC := unit_any n k wr hn hlt
      obtain ⟨gs, hLg, hO, hf, h0⟩ := hOM
      have hgl : gs.length = k := by
        have := congrArg List.length hLg
        rw [List.length_take, hil.out, List.length_map] at this
        omega
      have hpl : (unitV n k).length = n := by simp [unitV]
      have hidk : (idM n)[k]? = some (unitV n k) := by simp [idM, hlt]
      have HX := Lib.hid hidk
      have HG := Lib.hid hLg
      have HGL := Lib.hid hgl
      have HPL := Lib.hid hpl
      have hkI : (k : Int) < (n : Int) := by omega
      have HC := Lib.hid hC
      clear hLg hgl hC hpl hidk
      go_wp2_with (fail)
      refine HC.out.mono ?_
      rintro e w1 ⟨B1, c1, rfl, hi1, hf1, hb1⟩
      rw [HPL.out]
      have hsl : Sl (w1.alloc (.cells #[.slice B1 n c1] 33)) 33 1 A' k c' (gs.map Hd.val) := by
        have := (hO.sl.below hb1).alloc (.cells #[.slice B1 n c1] 33)
        rwa [HGL.out] at this
      go_wp2_with (at_builtin; refine wpList_append_Sl _ rfl _ _ _ rfl 33 Tryd.underlying22 info_ints rfl (by omega) rfl hsl rfl (news := [.slice B1 n c1]) rfl (Sl.rdc (Sl.laid w1 33 1 1 #[.slice B1 n c1] (by unfold maxLen; omega) rfl)) (by intro u hu; simp at hu; subst hu; rfl) (by unfold maxLen; omega) (by omega) ?_; intro A2 c2 w2 hs2 hA2 hk2)
      have hal2 : Below w1.heap.size w1 (w1.alloc (.cells #[.slice B1 n c1] 33)) := (Below.refl _ _).alloc (Nat.le_refl _) _
      have hOM2 := OM.snoc (w1 := w1.alloc (.cells #[.slice B1 n c1] 33)) HG.out hO hf h0 (below_trans hb1 hal2 hb1.size) (hi1.below hal2) hf1 (by rw [HGL.out]) (by rw [HPL.out]; exact hs2) hA2 hk2
      have HO := Lib.hid hOM2
      clear hOM2 hs2 hsl hO hf
      go_roundw
      case rel => exact ⟨k + 1, A2, c2, by omega, by go_num, rfl, by rw [List.take_add_one, HX.out]; exact HO.out⟩
      case measure => simp [intOf]; omega
    · obtain rfl : n = k := by omega
      have hOM' : OM w wr A' c' (idM n) := by have := hOM; rwa [List.take_of_length_le (by rw [hil.out]; omega)] at this
      clear hOM
      go_wp2_with (fail)
      go_ret
      have := hOM'.ret
      rw [hil.out] at this
      exact this
end Go.Proofs.YtahnhblodfdfhaaDoor
