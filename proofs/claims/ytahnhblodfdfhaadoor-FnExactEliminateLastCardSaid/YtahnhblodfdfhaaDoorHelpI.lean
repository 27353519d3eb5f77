/-
  THE LAW's HELPERS OVER []int: toIntS, eqIntS, markIntS, heldIntS: what each does.
-/
import Derived.Test.YtahnhblodfdfhaaDoorBase
import Derived.Deep.QuietTactic
import Derived.BigQuiet
import Derived.Deep.LoopGhost
import Derived.Test.YtahnhblodfdfhaaDoorOps
namespace Go.Proofs.YtahnhblodfdfhaaDoor
open Go.RowKit

theorem info_int : (Tryd.prog.info? 3).map (fun i => (i.zero, i.size, i.bytes)) = some (some (.int .i64 0), 1, 8) := by kernel_rfl

theorem take_replicate_step {l : List Int} {k : Nat} {x : Int} (h : l[k]? = some x) :
    (l.take k ++ List.replicate (l.length - k) 0).set k x = l.take (k + 1) ++ List.replicate (l.length - (k + 1)) 0 := by
  have hk : k < l.length := (List.getElem?_eq_some_iff.1 h).1
  apply List.ext_getElem?
  intro i
  simp only [List.getElem?_set, List.getElem?_append, List.getElem?_take, List.length_take, List.getElem?_replicate, List.length_append, List.length_replicate]
  by_cases hi : k = i
  · subst hi
    have a1 : k < min k l.length + (l.length - k) := by omega
    have a2 : k < min (k + 1) l.length := by omega
    simp [h, a1, a2]
  · simp only [hi, if_false]
    by_cases h1 : i < k
    · have : i < k + 1 := by omega
      have : i < min k l.length := by omega
      have : i < min (k+1) l.length := by omega
      simp [*]
    · have a1 : ¬ i < min k l.length := by omega
      have a2 : ¬ i < min (k+1) l.length := by omega
      simp only [a1, a2, if_false]
      have e1 : (i - min k l.length < l.length - k) = (i - min (k+1) l.length < l.length - (k + 1)) := by
        apply propext; omega
      simp only [e1]

theorem madeZeros (n : Nat) : (madeCells (Value.int .i64 0).cells (n * 1)).toList.take (n * 1) = ints (List.replicate n 0) := by
  show (madeCells #[Value.int .i64 0] (n * 1)).toList.take (n * 1) = _
  rw [toList_madeCells_one]; simp [ints]

set_option maxHeartbeats 400000 in
theorem toIntS_any (A : Option Addr) (cap : Nat) (l : List Int) (w : World) (h : RdI w A l) (hl : l.length ≤ 17592186044416) :
    Calls Tryd.prog 18 #[.slice A l.length cap] w (RetI w l) := by
  go_enter Tryd.func18, Tryd.ntmps18
  go_wp2_with (at_make; refine wpList_make_Sl _ rfl _ _ _ rfl 3 Tryd.underlying33 info_int l.length l.length rfl rfl rfl rfl (Nat.le_refl _) (by omega) (by unfold maxLen; omega) ?_; intro G w1 hs hG hb1)
  have his0 : IS w1 (some G) l.length (List.replicate l.length 0) := by unfold IS; rw [← madeZeros]; simpa using hs
  clear hs
  go_loopw [4] (fun i wr => ∃ k : Nat, k ≤ l.length ∧ i = .int .i64 k ∧ IS wr (some G) l.length (l.take k ++ List.replicate (l.length - k) 0) ∧ Below w.heap.size w wr)
    (fun i _ => l.length - (intOf i).toNat)
  case atStart => exact ⟨0, Nat.zero_le _, rfl, by simpa using his0, hb1⟩
  case round =>
    obtain ⟨k, hk, rfl, his, hb⟩ := hrel
    by_cases hlt : k < l.length
    · obtain ⟨ad, x, rfl, hx, hc⟩ := (h.below hb).at_ hlt
      obtain ⟨ad', y, hA', hy, hlt', hc', hf'⟩ := his.at_ (j := k) (by simp; omega)
      obtain rfl := Option.some.inj hA'
      have hf := hf' k
      have his' := his.set (ad := G) rfl (j := k) x (by simp; omega)
      rw [take_replicate_step hx] at his'
      have HI := Lib.hid his'
      have hb' := Lib.hid (hb.setCell (p := G.add k) (by rw [block_of_add]; exact hG) (.int .i64 x))
      clear his' hf' hA' his hy hx his0 h
      go_wp2
      go_roundw
      case rel => exact ⟨k + 1, by omega, by go_num, HI.out, hb'.out⟩
      case measure => simp [intOf]; omega
    · obtain rfl : k = l.length := by omega
      clear his0
      go_wp2
      go_ret
      exact ⟨_, _, rfl, by simpa using his, fun b hb => by simp at hb; subst hb; exact hG, hb⟩

/-- What a function leaves that only looks: draws alone. -/
def Qt (w w' : World) : Prop := ∃ n, w' = w.drewN n

set_option maxHeartbeats 400000 in
theorem eqIntS_any (A B : Option Addr) (c d : Nat) (l m : List Int) (w : World) (ha : RdI w A l) (hb : RdI w B m) (hl : l.length ≤ 17592186044416) :
    Calls Tryd.prog 20 #[.slice A l.length c, .slice B m.length d] w fun e w' => e = .returned (.bool (decide (l = m))) ∧ Qt w w' := by
  by_cases hlen : l.length = m.length
  · have h0 : ((l.length : Int) != (m.length : Int)) = false := by rw [hlen]; simp
    go_enter Tryd.func20, Tryd.ntmps20
    go_wp2
    go_loopw [5] (fun i wr => ∃ k n : Nat, k ≤ l.length ∧ i = .int .i64 k ∧ l.take k = m.take k ∧ wr = w.drewN n)
      (fun i _ => l.length - (intOf i).toNat)
    case atStart => exact ⟨0, 0, Nat.zero_le _, rfl, by simp, rfl⟩
    case round =>
      obtain ⟨k, n, hk, rfl, htk, rfl⟩ := hrel
      by_cases hlt : k < l.length
      · obtain ⟨ad, x, rfl, hx, hc⟩ := ha.at_ hlt
        obtain ⟨ad', y, rfl, hy, hc'⟩ := hb.at_ (j := k) (by omega)
        have hlt2 : (k : Int) < (m.length : Int) := by omega
        have HT := Lib.hid htk
        have HL := Lib.hid hlen
        have HX := Lib.hid hx
        have HY := Lib.hid hy
        clear htk hlen hx hy ha hb h0
        go_wp2
        go_quiet (fail)
        go_wp2
        · have hne : (x != y) = true := by assumption
          go_ret
          refine ⟨ret_bool ?_, _, World.drewN_drewN _ _ _⟩
          have : ¬ l = m := by
            intro e
            have h1 := HX.out; have h2 := HY.out
            rw [e, h2] at h1
            simp at hne; exact hne (Option.some.inj h1).symm
          simp [this]
        · have heq : (x != y) = false := by assumption
          go_roundw
          case rel =>
            refine ⟨k + 1, _, by omega, by go_num, ?_, rfl⟩
            have e : x = y := by simpa using heq
            rw [List.take_add_one, List.take_add_one, HT.out, HX.out, HY.out, e]
          case measure => simp [intOf]; omega
      · obtain rfl : k = l.length := by omega
        have HT := Lib.hid htk
        clear htk
        go_wp2
        go_ret
        refine ⟨ret_bool ?_, _, rfl⟩
        have := HT.out
        rw [List.take_of_length_le (Nat.le_refl _), List.take_of_length_le (by omega)] at this
        simp [this]
  · have h0 : ((l.length : Int) != (m.length : Int)) = true := by simp; omega
    go_enter Tryd.func20, Tryd.ntmps20
    go_wp2
    go_ret
    refine ⟨ret_bool ?_, 0, rfl⟩
    have : ¬ l = m := fun e => hlen (by rw [e])
    simp [this]

theorem take_append_step {α : Type} {l m : List α} {k : Nat} {x : α} (hlen : m.length = l.length) (h : l[k]? = some x) :
    (l.take k ++ m.drop k).set k x = l.take (k + 1) ++ m.drop (k + 1) := by
  have hk : k < l.length := (List.getElem?_eq_some_iff.1 h).1
  have e : (l.take k).length = k := by simp; omega
  rw [List.set_append_right _ _ (by omega), e, Nat.sub_self, List.drop_eq_getElem_cons (by omega), List.set_cons_zero, List.take_add_one, h]
  simp

/-- The marks: k, k + 1, .. -/
def marks (k n : Nat) : List Int := (List.range n).map fun i => ((k + i : Nat) : Int)
@[simp] theorem marks_length (k n : Nat) : (marks k n).length = n := by simp [marks]
theorem marks_get {k n j : Nat} (h : j < n) : (marks k n)[j]? = some ((k + j : Nat) : Int) := by simp [marks, h]

set_option maxHeartbeats 400000 in
theorem markIntS_any (A : Option Addr) (c : Nat) (l : List Int) (k : Nat) (w : World) (h : IS w A c l) (hl : k + l.length ≤ 17592186044416) :
    Calls Tryd.prog 21 #[.slice A l.length c, .int .i64 k] w fun e w' => e = .returned (.int .i64 ((k + l.length : Nat) : Int)) ∧ IS w' A c (marks k l.length) ∧ Keeps (· ∈ fpA A) w w' := by
  go_enter Tryd.func21, Tryd.ntmps21
  go_wp2
  go_loopw [1, 5] (fun q i wr => ∃ j : Nat, j ≤ l.length ∧ i = .int .i64 j ∧ q = .int .i64 ((k + j : Nat) : Int) ∧ IS wr A c ((marks k l.length).take j ++ l.drop j) ∧ Keeps (· ∈ fpA A) w wr)
    (fun _ i _ => l.length - (intOf i).toNat)
  case atStart => exact ⟨0, Nat.zero_le _, rfl, rfl, by simpa using h, Keeps.refl _ _⟩
  case round =>
    obtain ⟨j, hj, rfl, rfl, his, hk⟩ := hrel
    have hlen : ((marks k l.length).take j ++ l.drop j).length = l.length := by simp; omega
    by_cases hlt : j < l.length
    · obtain ⟨ad, y, hA, hy, hlt', hc', hf'⟩ := his.at_ (j := j) (by omega)
      subst hA
      have hf := hf' j
      have his' := his.set (ad := ad) rfl (j := j) ((k + j : Nat) : Int) (by omega)
      rw [take_append_step (by simp) (marks_get hlt)] at his'
      have HI := Lib.hid his'
      have hk' := Lib.hid (hk.setCell (p := ad.add j) (by rw [block_of_add]; simp) (.int .i64 ((k + j : Nat) : Int)))
      clear his' hf' his hy h hlen hk
      go_wp2
      go_roundw
      case rel => exact ⟨j + 1, by omega, by go_num, by go_num, HI.out, hk'.out⟩
      case measure => simp [intOf]; omega
    · obtain rfl : j = l.length := by omega
      have HI := Lib.hid his
      clear his hlen
      go_wp2
      go_ret
      exact ⟨rfl, by have := HI.out; simpa [List.take_of_length_le] using this, hk⟩

set_option maxHeartbeats 400000 in
theorem heldIntS_any (A : Option Addr) (c n : Nat) (k : Nat) (w : World) (h : RdI w A (marks k n)) (hl : k + n ≤ 17592186044416) :
    Calls Tryd.prog 22 #[.slice A n c, .int .i64 k] w fun e w' => e = .returned (.int .i64 ((k + n : Nat) : Int)) ∧ w = w' := by
  go_enter Tryd.func22, Tryd.ntmps22
  go_wp2
  go_loop [1, 5] (fun q i => ∃ j : Nat, j ≤ n ∧ i = .int .i64 j ∧ q = .int .i64 ((k + j : Nat) : Int))
    (fun _ i => n - (intOf i).toNat)
  case atStart => exact ⟨0, Nat.zero_le _, rfl, rfl⟩
  case round =>
    obtain ⟨j, hj, rfl, rfl⟩ := hrel
    by_cases hlt : j < n
    · obtain ⟨ad, rfl, hc⟩ := h j _ (marks_get hlt)
      clear h
      go_wp2
      go_round
      case rel => exact ⟨j + 1, by omega, by go_num, by go_num⟩
      case measure => simp [intOf]; omega
    · obtain rfl : j = n := by omega
      go_wp2
      go_ret
      exact ⟨rfl, rfl⟩
end Go.Proofs.YtahnhblodfdfhaaDoor
