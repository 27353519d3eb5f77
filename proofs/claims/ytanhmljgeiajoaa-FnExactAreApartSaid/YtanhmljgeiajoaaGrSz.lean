/-
  THE LAW's HELPERS OVER GRAPHS: sz.

  WHAT CAME IN: a graph, a match.
-/
import Derived.Test.YtanhmljgeiajoaaTmIn
import Derived.Test.YtanhmljgeiajoaaGd
import Derived.Test.YtanhmljgeiajoaaTmA
import Derived.Deep.Cut
import Derived.Deep.QuietTactic
namespace Go.Proofs.Ytanhmljgeiajoaa
open Go.ChangeShapes Go.WideShapes Go.ChangeAt Go.RowKit

theorem cellsEdgeL : Try.prog.cellsOf 101 = 4 := by kernel_rfl
theorem cellsGraphL : Try.prog.cellsOf 25 = 4 := by kernel_rfl
theorem cellsIntsG : Try.prog.cellsOf 23 = 1 := by kernel_rfl
theorem cellsEdges : Try.prog.cellsOf 22 = 1 := by kernel_rfl
theorem four_of {α : Type} {l : List α} (h : l.length = 4) : ∃ a b c d, l = [a, b, c, d] := by
  match l, h with
  | [a, b, c, d], _ => exact ⟨a, b, c, d, rfl⟩
theorem pair_of {α : Type} {l : List α} (h : l.length = 2) : ∃ a b, l = [a, b] := by
  match l, h with
  | [a, b], _ => exact ⟨a, b, rfl⟩
set_option maxRecDepth 100000 in
/-- A slice of ints that came in, within something else. -/
theorem in_ints1 {H : Type} {enc : TypeId × Value → H} {W : World} {base fuel : Nat} {v : Value} {x : DataW H × List MemPlace} (h : DataW.trod enc Try.prog W base (fun _ => true) true fuel 23 [v] = some x) :
    ∃ h : Hd, v = .slice h.1 h.2.2.length h.2.1 ∧ RdI W h.1 h.2.2 ∧ h.2.2.length ≤ maxLen := by
  rcases open_ints Try.underlying23 Try.underlying3 cellsInt h with ⟨hcs, _⟩ | ⟨a, len', cap', zs, hcs, _, hl, hmx, hz, _, hcell, _⟩
  · simp at hcs
    subst hcs
    exact ⟨(none, 0, []), rfl, fun j x hj => by simp at hj, Nat.zero_le _⟩
  · simp at hcs
    subst hcs
    have hzl : zs.length = cap' := by simpa using hz
    refine ⟨(some a, cap', zs.take len'), by simp; omega, fun j x hj => ⟨a, rfl, ?_⟩, by simp; omega⟩
    have hj0 : (zs.take len')[j]? = some x := hj
    rw [List.getElem?_take] at hj0
    split at hj0
    · have hj' := (List.getElem?_eq_some_iff.1 hj0).1
      rw [hcell j hj']; simp [List.getD, hj0]
    · cases hj0
set_option maxRecDepth 100000 in
theorem in_int1 {H : Type} {enc : TypeId × Value → H} {W : World} {base fuel : Nat} {v : Value} {x : DataW H × List MemPlace} (h : DataW.trod enc Try.prog W base (fun _ => true) true fuel 3 [v] = some x) :
    ∃ n, v = .int .i64 n ∧ -9223372036854775808 ≤ n ∧ n ≤ 9223372036854775807 := by
  obtain ⟨n, hcs, _, wf⟩ := DataW.trod_int Try.underlying3 h
  simp at hcs
  refine ⟨n, hcs, ?_⟩
  simp [Lit.wf, IntKind.min, IntKind.max, IntKind.signed, IntKind.bits] at wf
  omega
/-- The bounds of an edge that came in. -/
def BigE (h : EHd) : Prop := (-9223372036854775808 ≤ h.1 ∧ h.1 ≤ 9223372036854775807) ∧ (-9223372036854775808 ≤ h.2.1 ∧ h.2.1 ≤ 9223372036854775807) ∧ h.2.2.1.2.2.length ≤ maxLen ∧ h.2.2.2.2.2.length ≤ maxLen
set_option maxRecDepth 100000 in
theorem in_edge {H : Type} {enc : TypeId × Value → H} {W : World} {base fuel : Nat} {cs : List Value} {x : DataW H × List MemPlace} (h : DataW.trod enc Try.prog W base (fun _ => true) true fuel 101 cs = some x) :
    ∃ h : EHd, cs = ec h ∧ RdI W h.2.2.1.1 h.2.2.1.2.2 ∧ RdI W h.2.2.2.1 h.2.2.2.2.2 ∧ BigE h := by
  obtain ⟨xs, n, _, _, hlen, hxl, hf⟩ := DataW.trod_struct Try.underlying101 h
  rw [cellsEdgeL] at hlen
  obtain ⟨c0, c1, c2, c3, rfl⟩ := four_of hlen
  obtain ⟨y0, y1, y2, y3, rfl⟩ := four_of (show xs.length = 4 from hxl)
  have h0 : DataW.trod enc Try.prog W base (fun _ => true) true n 3 (List.take (Try.prog.cellsOf 3) [c0, c1, c2, c3]) = some y0 := hf 0 _ rfl
  have h1 : DataW.trod enc Try.prog W base (fun _ => true) true n 3 (List.take (Try.prog.cellsOf 3) [c1, c2, c3]) = some y1 := hf 1 _ rfl
  have h2 : DataW.trod enc Try.prog W base (fun _ => true) true n 23 (List.take (Try.prog.cellsOf 23) [c2, c3]) = some y2 := hf 2 _ rfl
  have h3 : DataW.trod enc Try.prog W base (fun _ => true) true n 23 (List.take (Try.prog.cellsOf 23) [c3]) = some y3 := hf 3 _ rfl
  rw [cellsInt] at h0 h1
  rw [cellsIntsG] at h2 h3
  obtain ⟨k, rfl, hk⟩ := in_int1 (v := c0) h0
  obtain ⟨v, rfl, hv⟩ := in_int1 (v := c1) h1
  obtain ⟨a, rfl, ha, hla⟩ := in_ints1 (v := c2) h2
  obtain ⟨b, rfl, hb, hlb⟩ := in_ints1 (v := c3) h3
  exact ⟨(k, v, a, b), rfl, ha, hb, hk, hv, hla, hlb⟩
set_option maxRecDepth 100000 in
/-- Edges that came in. -/
theorem in_edges {H : Type} {enc : TypeId × Value → H} {W : World} {base fuel : Nat} {v : Value} {x : DataW H × List MemPlace} (h : DataW.trod enc Try.prog W base (fun _ => true) true fuel 22 [v] = some x) :
    ∃ A cap l, v = .slice A (l : List EHd).length cap ∧ RdE W A l ∧ l.length ≤ maxLen ∧ ∀ h, h ∈ l → BigE h := by
  rcases Deep.open_slice Try.underlying22 h with ⟨hcs, _⟩ | ⟨a, len, cap, m, n, D, Pl, hcs, _, hl, hm, hmm, _, hi⟩
  · simp at hcs
    subst hcs
    exact ⟨none, 0, [], rfl, RdE.nil _ _, Nat.zero_le _, fun n hn => by cases hn⟩
  · simp at hcs
    subst hcs
    have hmc : m = cap := by simpa using hmm
    have hel : ∀ i, i < len → ∃ h : EHd, (∀ j u, (ec h)[j]? = some u → W.cell? (a.add (i * 4 + j)) = some u) ∧ RdI W h.2.2.1.1 h.2.2.1.2.2 ∧ RdI W h.2.2.2.1 h.2.2.2.2.2 ∧ BigE h := by
      intro i hlt
      obtain ⟨cs', hc, ht⟩ := hi i (by omega)
      rw [cellsEdgeL] at hc
      obtain ⟨_, hlen, hat⟩ := World.cells?_some hc
      obtain ⟨h, rfl, h1, h2, h3⟩ := in_edge ht
      refine ⟨h, fun j u hj => ?_, h1, h2, h3⟩
      have hj4 : j < 4 := (List.getElem?_eq_some_iff.1 hj).1
      have := hat j hj4
      rw [add_of_add] at this
      rw [this]; simp only [hj]
    have hall : ∀ k, k ≤ len → ∃ l : List EHd, l.length = k ∧ RdE W (some a) l ∧ ∀ h, h ∈ l → BigE h := by
      intro k
      induction k with
      | zero => exact fun _ => ⟨[], rfl, RdE.nil _ _, fun n hn => by cases hn⟩
      | succ k ih =>
        intro hk
        obtain ⟨l, hl1, hl2, hl3⟩ := ih (by omega)
        obtain ⟨nd, c0, r0, r1, hs⟩ := hel k (by omega)
        refine ⟨l ++ [nd], by simp [hl1], ⟨fun j u hj => ?_, fun n hn => ?_⟩, fun n hn => ?_⟩
        · rw [ecs_append] at hj
          by_cases hjl : j < (ecs l).length
          · rw [List.getElem?_append_left hjl] at hj
            exact hl2.1 j u hj
          · rw [List.getElem?_append_right (by omega), ecs_length, hl1] at hj
            rw [ecs_length, hl1] at hjl
            have hj' : (ec nd)[j - k * 4]? = some u := by simpa [ecs] using hj
            have := c0 _ _ hj'
            rw [show k * 4 + (j - k * 4) = j by omega] at this
            exact ⟨a, rfl, this⟩
        · rcases List.mem_append.1 hn with hn | hn
          · exact hl2.2 n hn
          · obtain rfl := List.mem_singleton.1 hn; exact ⟨r0, r1⟩
        · rcases List.mem_append.1 hn with hn | hn
          · exact hl3 n hn
          · obtain rfl := List.mem_singleton.1 hn; exact hs
    obtain ⟨l, h1, h2, h3⟩ := hall len (Nat.le_refl _)
    exact ⟨some a, cap, l, by rw [h1], h2, by rw [h1]; omega, h3⟩
/-- The bounds of a graph that came in. -/
def BigGraph (g : Gr) : Prop := (-9223372036854775808 ≤ g.1 ∧ g.1 ≤ 9223372036854775807) ∧ (g.2.1.length ≤ maxLen ∧ g.2.2.1.length ≤ maxLen ∧ g.2.2.2.length ≤ maxLen) ∧ ∀ e, e ∈ g.2.1 → e.2.2.1.length ≤ maxLen ∧ e.2.2.2.length ≤ maxLen
set_option maxRecDepth 100000 in
theorem in_Graph {H : Type} {enc : TypeId × Value → H} {W : World} {base : Nat} {v : Value} {d : DataW H} {p : List MemPlace} (hv : Value.okWide Try.prog W .any base 25 v) (h : DataW.Trod enc Try.prog W 0 (fun _ => true) true 25 v d p) :
    ∃ g, RdGr W v g ∧ BigGraph g := by
  obtain ⟨cs, rfl, hsz⟩ := okWide_struct Try.underlying25 hv
  rw [cellsGraphL] at hsz
  obtain ⟨fuel, hf⟩ := h
  obtain ⟨xs, n, _, _, hlen, hxl, hg⟩ := DataW.trod_struct Try.underlying25 hf
  obtain ⟨c0, c1, c2, c3, hc⟩ := four_of (show cs.toList.length = 4 by simpa using hsz)
  obtain ⟨y0, y1, y2, y3, rfl⟩ := four_of (show xs.length = 4 from hxl)
  have hc' : (Value.agg cs).cells.toList = [c0, c1, c2, c3] := hc
  rw [hc'] at hg
  have h0 : DataW.trod enc Try.prog W 0 (fun _ => true) true n 3 (List.take (Try.prog.cellsOf 3) [c0, c1, c2, c3]) = some y0 := hg 0 _ rfl
  have h1 : DataW.trod enc Try.prog W 0 (fun _ => true) true n 22 (List.take (Try.prog.cellsOf 22) [c1, c2, c3]) = some y1 := hg 1 _ rfl
  have h2 : DataW.trod enc Try.prog W 0 (fun _ => true) true n 23 (List.take (Try.prog.cellsOf 23) [c2, c3]) = some y2 := hg 2 _ rfl
  have h3 : DataW.trod enc Try.prog W 0 (fun _ => true) true n 23 (List.take (Try.prog.cellsOf 23) [c3]) = some y3 := hg 3 _ rfl
  rw [cellsInt] at h0
  rw [cellsEdges] at h1
  rw [cellsIntsG] at h2 h3
  obtain ⟨k, rfl, hk⟩ := in_int1 (v := c0) h0
  obtain ⟨A, cap, l, rfl, hR, hl, hB⟩ := in_edges (v := c1) h1
  obtain ⟨a, rfl, ha, hla⟩ := in_ints1 (v := c2) h2
  obtain ⟨b, rfl, hb, hlb⟩ := in_ints1 (v := c3) h3
  have : cs = #[.int .i64 k, .slice A l.length cap, .slice a.1 a.2.2.length a.2.1, .slice b.1 b.2.2.length b.2.1] := by
    apply Array.ext'
    simpa using hc
  rw [this]
  exact ⟨(k, l.map egOf, a.2.2, b.2.2), ⟨A, cap, l, a, b, rfl, rfl, rfl, rfl, hR, ha, hb⟩, hk, ⟨by simpa using hl, hla, hlb⟩, fun e he => by
    obtain ⟨h, hh, rfl⟩ := List.mem_map.1 he
    exact (hB h hh).2.2⟩
end Go.Proofs.Ytanhmljgeiajoaa
namespace Go.Proofs.Ytanhmljgeiajoaa
open Go.RowKit

def szL (left : Int) (n : Nat) : Int := if left - n < 0 then -1 else left - n
def szEd (n m : Nat) (left : Int) : Int := if left - n < 0 then -1 else szL (left - n) m
def szEs : List Eg → Int → Int
  | [], left => left
  | e :: r, left => if szEd e.2.2.1.length e.2.2.2.length left < 0 then -1 else szEs r (szEd e.2.2.1.length e.2.2.2.length left)
def szEdS (l : List Eg) (left : Int) : Int := if left - l.length < 0 then -1 else szEs l (left - l.length)
def szG (g : Gr) (left : Int) : Int := if szEdS g.2.1 left < 0 then -1 else if szL (szEdS g.2.1 left) g.2.2.1.length < 0 then -1 else szL (szL (szEdS g.2.1 left) g.2.2.1.length) g.2.2.2.length
theorem szL_nn {left : Int} {n : Nat} (h : 0 ≤ szL left n) : szL left n = left - n := by unfold szL at h ⊢; split <;> simp_all
theorem szL_neg {left : Int} {n : Nat} (h : szL left n < 0) : szL left n = -1 := by unfold szL at h ⊢; split <;> simp_all
theorem szEd_nn {left : Int} {n m : Nat} (h : 0 ≤ szEd n m left) : szEd n m left = left - n - m := by
  unfold szEd at h ⊢
  split at h
  · omega
  · rename_i h1
    rw [if_neg h1]; exact szL_nn h
theorem szEd_neg {left : Int} {n m : Nat} (h : szEd n m left < 0) : szEd n m left = -1 := by
  unfold szEd at h ⊢
  split at h
  · rename_i h1; rw [if_pos h1]
  · rename_i h1
    rw [if_neg h1]; exact szL_neg h
theorem szEs_nn : ∀ {l : List Eg} {left : Int}, 0 ≤ szEs l left → szEs l left + cntE l = left + 2 * l.length ∧ ∀ e, e ∈ l → (e.2.2.1.length : Int) ≤ left ∧ (e.2.2.2.length : Int) ≤ left
  | [], left, h => ⟨by simp [szEs, cntE], fun e he => by cases he⟩
  | e :: r, left, h => by
    unfold szEs at h ⊢
    split at h
    · omega
    · rename_i h1
      rw [if_neg h1]
      have h2 := szEd_nn (show 0 ≤ szEd e.2.2.1.length e.2.2.2.length left by omega)
      obtain ⟨h3, h4⟩ := szEs_nn h
      rw [h2] at h3 h4 h1
      refine ⟨by rw [h2]; simp only [cntE, List.length_cons]; omega, fun x hx => ?_⟩
      rcases List.mem_cons.1 hx with rfl | hx
      · omega
      · have := h4 x hx; omega
theorem szEs_neg : ∀ {l : List Eg} {left : Int}, 0 ≤ left → szEs l left < 0 → szEs l left = -1
  | [], left, h0, h => by simp only [szEs] at h; omega
  | e :: r, left, h0, h => by
    unfold szEs at h ⊢
    split at h
    · rename_i h1; rw [if_pos h1]
    · rename_i h1
      rw [if_neg h1]
      exact szEs_neg (by omega) h
theorem szEdS_neg {l : List Eg} {left : Int} (h : szEdS l left < 0) : szEdS l left = -1 := by
  unfold szEdS at h ⊢
  split at h
  · rename_i h1; rw [if_pos h1]
  · rename_i h1
    rw [if_neg h1]; exact szEs_neg (by omega) h
theorem szEdS_le {l : List Eg} {left : Int} (h : 0 ≤ szEdS l left) : szEdS l left + cntE l = left + l.length ∧ (l.length : Int) ≤ left ∧ ∀ e, e ∈ l → (e.2.2.1.length : Int) ≤ left ∧ (e.2.2.2.length : Int) ≤ left := by
  unfold szEdS at h ⊢
  split at h
  · omega
  · rename_i h1
    rw [if_neg h1]
    obtain ⟨h2, h3⟩ := szEs_nn h
    exact ⟨by omega, by omega, fun e he => by have := h3 e he; omega⟩
theorem cntE_ge (l : List Eg) : 2 * l.length ≤ cntE l := by
  induction l with
  | nil => simp
  | cons e r ih => simp only [cntE, List.length_cons]; omega
theorem szG_neg {g : Gr} {left : Int} (h : szG g left < 0) : szG g left = -1 := by
  unfold szG at h ⊢
  split at h
  · rename_i h1; rw [if_pos h1]
  · rename_i h1
    rw [if_neg h1]
    split at h
    · rename_i h2; rw [if_pos h2]
    · rename_i h2
      rw [if_neg h2]; exact szL_neg h
theorem szG_ok {g : Gr} {left : Int} (h : 0 ≤ szG g left) (h1 : left ≤ 1048576) : OkG g ∧ szG g left ≤ left := by
  unfold szG at h ⊢
  split at h
  · omega
  · rename_i h2
    rw [if_neg h2]
    split at h
    · omega
    · rename_i h3
      rw [if_neg h3]
      have e3 := szL_nn h
      have e2 := szL_nn (show 0 ≤ szL (szEdS g.2.1 left) g.2.2.1.length by omega)
      obtain ⟨e1, hl, he⟩ := szEdS_le (show 0 ≤ szEdS g.2.1 left by omega)
      have := cntE_ge g.2.1
      refine ⟨⟨⟨by omega, by omega, by omega⟩, fun e hm => by have := he e hm; omega, ?_⟩, by omega⟩
      unfold cntG
      omega

set_option maxHeartbeats 400000 in
theorem szIntL_any (A : Option Addr) (c n : Nat) (left : Int) (w : World) (h0 : 0 ≤ left) (h1 : left ≤ 1048576) (hn : n ≤ maxLen) :
    Calls Try.prog 44 #[.slice A n c, .int .i64 left] w fun e w' => e = .returned (.int .i64 (szL left n)) ∧ w = w' := by
  unfold maxLen at hn
  have ww : IntKind.i64.wrap (left - (n : Int)) = left - (n : Int) := IntWalk.i64_in _ (by omega)
  by_cases hlt : left - (n : Int) < 0
  · have e : szL left n = -1 := if_pos hlt
    rw [e]
    clear e
    go_enter Try.func44, Try.ntmps44
    go_wp2_with (fail)
    go_ret
    exact ⟨rfl, rfl⟩
  · have e : szL left n = left - (n : Int) := if_neg hlt
    rw [e]
    clear e
    go_enter Try.func44, Try.ntmps44
    go_wp2_with (fail)
    go_ret
    exact ⟨rfl, rfl⟩
set_option maxHeartbeats 1000000 in
theorem szEdge_any (k v : Int) (B C : Option Addr) (b c n m : Nat) (left : Int) (w : World) (h0 : 0 ≤ left) (h1 : left ≤ 1048576) (hn : n ≤ maxLen) (hm : m ≤ maxLen) :
    Calls Try.prog 82 #[.agg #[.int .i64 k, .int .i64 v, .slice B n b, .slice C m c], .int .i64 left] w fun e w' => e = .returned (.int .i64 (szEd n m left)) ∧ Below w.heap.size w w' := by
  have hC1 := fun W => szIntL_any B b n left W h0 h1 hn
  by_cases hlt : left - (n : Int) < 0
  · have e : szEd n m left = -1 := if_pos hlt
    have e1 : szL left n = -1 := if_pos hlt
    rw [e]
    simp only [e1] at hC1
    have hC1_h := Lib.hid hC1
    clear hC1
    clear e e1 hlt
    go_enter Try.func82, Try.ntmps82
    go_wp2_with (fail)
    refine (hC1_h.out _).mono ?_
    rintro e w1 ⟨rfl, rfl⟩
    go_wp2_with (fail)
    go_ret
    exact ⟨rfl, below_alloc _ _⟩
  · have e : szEd n m left = szL (left - n) m := if_neg hlt
    have e1 : szL left n = left - n := if_neg hlt
    obtain ⟨z, hz⟩ : ∃ z, z = left - (n : Int) := ⟨_, rfl⟩
    rw [← hz] at e e1 hlt
    have hC2 := fun W => szIntL_any C c m z W (by omega) (by omega) hm
    rw [e]
    simp only [e1] at hC1
    obtain ⟨y, hy⟩ : ∃ y, y = szL z m := ⟨_, rfl⟩
    rw [← hy]
    simp only [← hy] at hC2
    by_cases hy0 : y < 0
    · obtain rfl : y = -1 := by rw [hy]; exact szL_neg (by rw [← hy]; exact hy0)
      have hC1_h := Lib.hid hC1
      have hC2_h := Lib.hid hC2
      have hy_h := Lib.hid hy
      have hz_h := Lib.hid hz
      have e_h := Lib.hid e
      have e1_h := Lib.hid e1
      clear hC1 hC2 hy hz e e1
      go_enter Try.func82, Try.ntmps82
      go_wp2_with (fail)
      refine (hC1_h.out _).mono ?_
      rintro e w1 ⟨rfl, rfl⟩
      go_wp2_with (fail)
      refine (hC2_h.out _).mono ?_
      rintro e w1 ⟨rfl, rfl⟩
      go_wp2_with (fail)
      go_ret
      exact ⟨rfl, below_alloc _ _⟩
    · have hC1_h := Lib.hid hC1
      have hC2_h := Lib.hid hC2
      have hy_h := Lib.hid hy
      have hz_h := Lib.hid hz
      have e_h := Lib.hid e
      have e1_h := Lib.hid e1
      clear hC1 hC2 hy hz e e1
      go_enter Try.func82, Try.ntmps82
      go_wp2_with (fail)
      refine (hC1_h.out _).mono ?_
      rintro e w1 ⟨rfl, rfl⟩
      go_wp2_with (fail)
      refine (hC2_h.out _).mono ?_
      rintro e w1 ⟨rfl, rfl⟩
      go_wp2_with (fail)
      go_ret
      exact ⟨rfl, below_alloc _ _⟩
set_option maxHeartbeats 1000000 in
theorem szEdgeS_any (A : Option Addr) (c : Nat) (l : List EHd) (left : Int) (w : World) (h : RdE w A l) (hB1 : l.length ≤ maxLen) (hB2 : ∀ h, h ∈ l → h.2.2.1.2.2.length ≤ maxLen ∧ h.2.2.2.2.2.length ≤ maxLen) (h0 : 0 ≤ left) (h1 : left ≤ 1048576) :
    Calls Try.prog 43 #[.slice A l.length c, .int .i64 left] w fun e w' => e = .returned (.int .i64 (szEdS (l.map egOf) left)) ∧ Below w.heap.size w w' := by
  unfold maxLen at hB1
  obtain ⟨m, hm⟩ : ∃ m, m = l.length := ⟨_, rfl⟩
  rw [← hm] at hB1 ⊢
  obtain ⟨S, hS⟩ : ∃ S, S = szEdS (l.map egOf) left := ⟨_, rfl⟩
  have hml : (l.map egOf).length = m := by rw [List.length_map, hm]
  rw [← hS]
  by_cases hl : left - (m : Int) < 0
  · have e : S = -1 := by rw [hS]; unfold szEdS; rw [hml, if_pos hl]
    subst e
    have hm_h := Lib.hid hm
    have hB2_h := Lib.hid hB2
    have hS_h := Lib.hid hS
    have hml_h := Lib.hid hml
    clear hm hB2 hS hml
    clear h
    go_enter Try.func43, Try.ntmps43
    go_wp2_with (fail)
    go_ret
    exact ⟨rfl, Below.refl _ _⟩
  · have e : S = szEs (l.map egOf) (left - m) := by rw [hS]; unfold szEdS; rw [hml, if_neg hl]
    have hm_h := Lib.hid hm
    have hB2_h := Lib.hid hB2
    have hS_h := Lib.hid hS
    have e_h := Lib.hid e
    have hml_h := Lib.hid hml
    clear hm hB2 hS e hml
    go_enter Try.func43, Try.ntmps43
    go_wp2_with (fail)
    go_loopw [1, 5] (fun q i wr => ∃ (k : Nat) (x : Int), k ≤ m ∧ i = .int .i64 k ∧ q = .int .i64 x ∧ 0 ≤ x ∧ x ≤ 1048576 ∧ szEs ((l.drop k).map egOf) x = S ∧ Below w.heap.size w wr) (fun _ i _ => m - (intOf i).toNat)
    case atStart => exact ⟨0, left - m, Nat.zero_le _, rfl, rfl, by omega, by omega, by rw [e_h.out]; rfl, Below.refl _ _⟩
    case round =>
      obtain ⟨k, x, hk, rfl, rfl, hx0, hx1, hsz, hb⟩ := hrel
      by_cases hlt : k < m
      · obtain ⟨ad, κ, v, B, b, s, C, d, t, rfl, hn, ⟨d0, d1, d2, d3⟩, -, -⟩ := (h.below hb).at_ (j := k) (by rw [← hm_h.out]; exact hlt)
        have hss := hB2_h.out _ (List.mem_of_getElem? hn)
        have hdrop : (l.drop k).map egOf = (κ, v, s, t) :: (l.drop (k + 1)).map egOf := by
          obtain ⟨hk', e⟩ := List.getElem?_eq_some_iff.1 hn
          rw [List.drop_eq_getElem_cons hk', e]; rfl
        have hC := fun W => szEdge_any κ v B C b d s.length t.length x W hx0 hx1 hss.1 hss.2
        have hkI : (k : Int) < (m : Int) := by omega
        rw [hdrop] at hsz
        obtain ⟨y, hy⟩ : ∃ y, y = szEd s.length t.length x := ⟨_, rfl⟩
        simp only [← hy] at hC
        obtain ⟨sl, hsl⟩ : ∃ sl, sl = s.length := ⟨_, rfl⟩
        obtain ⟨tl, htl⟩ : ∃ tl, tl = t.length := ⟨_, rfl⟩
        rw [← hsl] at d2
        rw [← htl] at d3
        simp only [← hsl, ← htl] at hC
        by_cases hneg : y < 0
        · have hy1 : y = -1 := by rw [hy]; exact szEd_neg (by rw [← hy]; exact hneg)
          have hS1 : S = -1 := by rw [← hsz]; show (if szEd s.length t.length x < 0 then _ else _) = _; rw [← hy, if_pos hneg]
          subst hS1
          subst hy1
          have hC_h := Lib.hid hC
          have hsz_h := Lib.hid hsz
          have hn_h := Lib.hid hn
          have hss_h := Lib.hid hss
          have hdrop_h := Lib.hid hdrop
          have hy_h := Lib.hid hy
          have hsl_h := Lib.hid hsl
          have htl_h := Lib.hid htl
          clear hC hsz hn hss hdrop hy hsl htl
          clear h
          go_wp2_with (fail)
          refine (hC_h.out _).mono ?_
          rintro e w1 ⟨rfl, hb1⟩
          go_wp2_with (fail)
          go_ret
          exact ⟨rfl, below_trans hb hb1 hb.size⟩
        · have hs1 : szEs ((l.drop (k + 1)).map egOf) y = S := by rw [← hsz]; show _ = (if szEd s.length t.length x < 0 then _ else szEs _ (szEd s.length t.length x)); rw [← hy, if_neg hneg]
          have hy2 : y ≤ 1048576 := by have := szEd_nn (show 0 ≤ szEd s.length t.length x by rw [← hy]; omega); omega
          have hC_h := Lib.hid hC
          have hsz_h := Lib.hid hsz
          have hn_h := Lib.hid hn
          have hss_h := Lib.hid hss
          have hdrop_h := Lib.hid hdrop
          have hs1_h := Lib.hid hs1
          have hy_h := Lib.hid hy
          have hsl_h := Lib.hid hsl
          have htl_h := Lib.hid htl
          clear hC hsz hn hss hdrop hs1 hy hsl htl
          clear h
          go_wp2_with (fail)
          refine (hC_h.out _).mono ?_
          rintro e w1 ⟨rfl, hb1⟩
          go_wp2_with (fail)
          go_roundw
          case rel => exact ⟨k + 1, y, by omega, by go_num, rfl, by omega, by omega, hs1_h.out, below_trans hb hb1 hb.size⟩
          case measure => simp [intOf]; omega
      · obtain rfl : k = m := by omega
        have : x = S := by
          rw [← hsz, List.drop_of_length_le (by rw [← hm_h.out]; omega)]; rfl
        subst this
        have hsz_h := Lib.hid hsz
        clear hsz
        clear h
        go_wp2_with (fail)
        go_ret
        exact ⟨rfl, hb⟩
set_option maxHeartbeats 1000000 in
theorem szGraph_law {v : Value} {g : Gr} (left : Int) {w : World} (h : RdGr w v g) (hB : BigGraph g) (h0 : 0 ≤ left) (h1 : left ≤ 1048576) :
    Calls Try.prog 12 #[v, .int .i64 left] w fun e w' => e = .returned (.int .i64 (szG g left)) ∧ Below w.heap.size w w' := by
  obtain ⟨_, ⟨hl1, hl2, hl3⟩, hB2⟩ := hB
  obtain ⟨A, c, hs, ⟨B, b, s⟩, ⟨C, d, t⟩, rfl, e1, e2, e3, hE, -, -⟩ := h
  obtain ⟨z, es, s', t'⟩ := g
  have e1' : es = hs.map egOf := e1
  have e2' : s = s' := e2
  have e3' : t = t' := e3
  subst e1' e2' e3'
  have hl2' : s.length ≤ maxLen := hl2
  have hl3' : t.length ≤ maxLen := hl3
  have hl1' : hs.length ≤ maxLen := by have : (hs.map egOf).length ≤ maxLen := hl1; simpa using this
  obtain ⟨W, hW⟩ : ∃ W, W = w.alloc (.cells #[.int .i64 z, .slice A hs.length c, .slice B s.length b, .slice C t.length d] 25) := ⟨_, rfl⟩
  have hb : Below w.heap.size w W := by rw [hW]; exact below_alloc _ _
  have k0 : W.heap[w.heap.size]? = some (.cells #[.int .i64 z, .slice A hs.length c, .slice B s.length b, .slice C t.length d] 25) := by rw [hW]; exact heap_alloc_new _ _
  have hC1 := szEdgeS_any A c hs left W (hE.below hb) hl1' (fun x hx => hB2 _ (List.mem_map_of_mem hx)) h0 h1
  show Calls Try.prog _ #[.agg #[.int .i64 z, .slice A hs.length c, .slice B s.length b, .slice C t.length d], .int .i64 left] w fun e w' => e = .returned (.int .i64 (szG (z, hs.map egOf, s, t) left)) ∧ Below w.heap.size w w'
  obtain ⟨x, hx⟩ : ∃ x, x = szEdS (hs.map egOf) left := ⟨_, rfl⟩
  have hxl : 0 ≤ x → x ≤ 1048576 := fun h => by
    have := szEdS_le (show 0 ≤ szEdS (hs.map egOf) left by rw [← hx]; exact h)
    rw [← hx] at this
    have := cntE_ge (hs.map egOf)
    omega
  rw [← hx] at hC1
  obtain ⟨S, hS⟩ : ∃ S, S = szG (z, hs.map egOf, s, t) left := ⟨_, rfl⟩
  rw [← hS]
  unfold szG at hS
  simp only [← hx] at hS
  obtain ⟨n, hn⟩ : ∃ n, n = hs.length := ⟨_, rfl⟩
  obtain ⟨sl, hsl⟩ : ∃ sl, sl = s.length := ⟨_, rfl⟩
  obtain ⟨tl, htl⟩ : ∃ tl, tl = t.length := ⟨_, rfl⟩
  simp only [← hn, ← hsl, ← htl] at *
  obtain ⟨⟨c0, c1, c2, c3⟩, f0, f1, f2, f3⟩ := box4 k0
  by_cases hxn : x < 0
  · have hx1 : x = -1 := by rw [hx]; exact szEdS_neg (by rw [← hx]; exact hxn)
    rw [if_pos hxn] at hS
    subst hS
    subst hx1
    have hC1_h := Lib.hid hC1
    have hx_h := Lib.hid hx
    have hn_h := Lib.hid hn
    have hsl_h := Lib.hid hsl
    have htl_h := Lib.hid htl
    have hb_h := Lib.hid hb
    have k0_h := Lib.hid k0
    have hB2_h := Lib.hid hB2
    have e1_h := Lib.hid e1
    have e2_h := Lib.hid e2
    have e3_h := Lib.hid e3
    clear hC1 hx hn hsl htl hb k0 hB2 e1 e2 e3
    clear hE
    go_enter Try.func12, Try.ntmps12
    go_upto_region 1 with (fail)
    rw [← hW]
    clear hW
    go_wp2_with (fail)
    refine (hC1_h.out).mono ?_
    rintro e w1 ⟨rfl, hb1⟩
    go_wp2_with (fail)
    go_ret
    exact ⟨rfl, below_trans hb_h.out hb1 hb_h.out.size⟩
  · rw [if_neg hxn] at hS
    have hC2 := fun W' => szIntL_any B b sl x W' (by omega) (hxl (by omega)) hl2'
    obtain ⟨y, hy⟩ : ∃ y, y = szL x sl := ⟨_, rfl⟩
    rw [← hy] at hS
    simp only [← hy] at hC2
    by_cases hyn : y < 0
    · have hy1 : y = -1 := by rw [hy]; exact szL_neg (by rw [← hy]; exact hyn)
      rw [if_pos hyn] at hS
      subst hS
      subst hy1
      have hC1_h := Lib.hid hC1
      have hC2_h := Lib.hid hC2
      have hx_h := Lib.hid hx
      have hy_h := Lib.hid hy
      have hn_h := Lib.hid hn
      have hsl_h := Lib.hid hsl
      have htl_h := Lib.hid htl
      have hb_h := Lib.hid hb
      have k0_h := Lib.hid k0
      have hB2_h := Lib.hid hB2
      have e1_h := Lib.hid e1
      have e2_h := Lib.hid e2
      have e3_h := Lib.hid e3
      have hxl_h := Lib.hid hxl
      clear hC1 hC2 hx hy hn hsl htl hb k0 hB2 e1 e2 e3 hxl
      clear hE
      go_enter Try.func12, Try.ntmps12
      go_upto_region 1 with (fail)
      rw [← hW]
      clear hW
      go_wp2_with (fail)
      refine (hC1_h.out).mono ?_
      rintro e w1 ⟨rfl, hb1⟩
      clear c0 c1 c2 c3 f0 f1 f2 f3
      obtain ⟨⟨c0, c1, c2, c3⟩, f0, f1, f2, f3⟩ := box4 (box_below k0_h.out hb1)
      go_wp2_with (fail)
      refine (hC2_h.out _).mono ?_
      rintro e w1 ⟨rfl, rfl⟩
      go_wp2_with (fail)
      go_ret
      exact ⟨rfl, below_trans hb_h.out hb1 hb_h.out.size⟩
    · rw [if_neg hyn] at hS
      have hyx : y ≤ 1048576 := by have := szL_nn (show 0 ≤ szL x sl by rw [← hy]; omega); have := hxl (by omega); omega
      have hC3 := fun W' => szIntL_any C d tl y W' (by omega) hyx hl3'
      rw [← hS] at hC3
      by_cases hSn : S < 0
      · have hS1 : S = -1 := by rw [hS]; exact szL_neg (by rw [← hS]; exact hSn)
        subst hS1
        have hC1_h := Lib.hid hC1
        have hC2_h := Lib.hid hC2
        have hC3_h := Lib.hid hC3
        have hx_h := Lib.hid hx
        have hy_h := Lib.hid hy
        have hS_h := Lib.hid hS
        have hn_h := Lib.hid hn
        have hsl_h := Lib.hid hsl
        have htl_h := Lib.hid htl
        have hb_h := Lib.hid hb
        have k0_h := Lib.hid k0
        have hB2_h := Lib.hid hB2
        have e1_h := Lib.hid e1
        have e2_h := Lib.hid e2
        have e3_h := Lib.hid e3
        have hxl_h := Lib.hid hxl
        clear hC1 hC2 hC3 hx hy hS hn hsl htl hb k0 hB2 e1 e2 e3 hxl
        clear hE
        go_enter Try.func12, Try.ntmps12
        go_upto_region 1 with (fail)
        rw [← hW]
        clear hW
        go_wp2_with (fail)
        refine (hC1_h.out).mono ?_
        rintro e w1 ⟨rfl, hb1⟩
        clear c0 c1 c2 c3 f0 f1 f2 f3
        obtain ⟨⟨c0, c1, c2, c3⟩, f0, f1, f2, f3⟩ := box4 (box_below k0_h.out hb1)
        go_wp2_with (fail)
        refine (hC2_h.out _).mono ?_
        rintro e w1 ⟨rfl, rfl⟩
        go_wp2_with (fail)
        refine (hC3_h.out _).mono ?_
        rintro e w1 ⟨rfl, rfl⟩
        go_wp2_with (fail)
        go_ret
        exact ⟨rfl, below_trans hb_h.out hb1 hb_h.out.size⟩
      · have hC1_h := Lib.hid hC1
        have hC2_h := Lib.hid hC2
        have hC3_h := Lib.hid hC3
        have hx_h := Lib.hid hx
        have hy_h := Lib.hid hy
        have hS_h := Lib.hid hS
        have hn_h := Lib.hid hn
        have hsl_h := Lib.hid hsl
        have htl_h := Lib.hid htl
        have hb_h := Lib.hid hb
        have k0_h := Lib.hid k0
        have hB2_h := Lib.hid hB2
        have e1_h := Lib.hid e1
        have e2_h := Lib.hid e2
        have e3_h := Lib.hid e3
        have hxl_h := Lib.hid hxl
        clear hC1 hC2 hC3 hx hy hS hn hsl htl hb k0 hB2 e1 e2 e3 hxl
        clear hE
        go_enter Try.func12, Try.ntmps12
        go_upto_region 1 with (fail)
        rw [← hW]
        clear hW
        go_wp2_with (fail)
        refine (hC1_h.out).mono ?_
        rintro e w1 ⟨rfl, hb1⟩
        clear c0 c1 c2 c3 f0 f1 f2 f3
        obtain ⟨⟨c0, c1, c2, c3⟩, f0, f1, f2, f3⟩ := box4 (box_below k0_h.out hb1)
        go_wp2_with (fail)
        refine (hC2_h.out _).mono ?_
        rintro e w1 ⟨rfl, rfl⟩
        go_wp2_with (fail)
        refine (hC3_h.out _).mono ?_
        rintro e w1 ⟨rfl, rfl⟩
        go_wp2_with (fail)
        go_ret
        exact ⟨rfl, below_trans hb_h.out hb1 hb_h.out.size⟩
end Go.Proofs.Ytanhmljgeiajoaa
