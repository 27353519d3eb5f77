/-
  MATCHES (structs of two slices of ints): how they lie in memory; what came in.
-/
import Derived.Test.YtanhmljgeiajoaaGrSz
namespace Go.Proofs.Ytanhmljgeiajoaa
open Go.ChangeShapes Go.WideShapes Go.ChangeAt Go.RowKit

abbrev tMa : TypeId := 47
/-- A match: wires, edges. -/
abbrev Ma := List Int × List Int
def RdMa (w : World) (v : Value) (m : Ma) : Prop := ∃ (a b : Hd), v = .agg #[.slice a.1 a.2.2.length a.2.1, .slice b.1 b.2.2.length b.2.1] ∧ a.2.2 = m.1 ∧ b.2.2 = m.2 ∧ RdI w a.1 a.2.2 ∧ RdI w b.1 b.2.2
def OwMa (w : World) (v : Value) (m : Ma) (fp : List Nat) : Prop := ∃ (a b : Hd), v = .agg #[.slice a.1 a.2.2.length a.2.1, .slice b.1 b.2.2.length b.2.1] ∧ a.2.2 = m.1 ∧ b.2.2 = m.2 ∧ OwLs w [] [a, b] ∧ fp = fpR [a, b]
section
variable {w w' : World} {v : Value} {m : Ma} {fp : List Nat}
theorem RdMa.below (h : RdMa w v m) (hb : Below w.heap.size w w') : RdMa w' v m := by
  obtain ⟨a, b, rfl, e1, e2, h1, h2⟩ := h; exact ⟨a, b, rfl, e1, e2, h1.below hb, h2.below hb⟩
theorem OwMa.rd (h : OwMa w v m fp) : RdMa w v m := by
  obtain ⟨a, b, rfl, e1, e2, h1, _⟩ := h
  exact ⟨a, b, rfl, e1, e2, (h1.rows a (by simp)).rd, (h1.rows b (by simp)).rd⟩
theorem OwMa.below (h : OwMa w v m fp) (hb : Below w.heap.size w w') : OwMa w' v m fp := by
  obtain ⟨a, b, rfl, e1, e2, h1, e⟩ := h; exact ⟨a, b, rfl, e1, e2, h1.below hb, e⟩
theorem OwMa.keeps (h : OwMa w v m fp) {S : Nat → Prop} (hk : Keeps S w w') (hS : ∀ b, b ∈ fp → ¬ S b) : OwMa w' v m fp := by
  obtain ⟨a, b, rfl, e1, e2, h1, rfl⟩ := h
  exact ⟨a, b, rfl, e1, e2, h1.keeps hk hS, rfl⟩
theorem OwMa.lt (h : OwMa w v m fp) : LtL w.heap.size fp := by
  obtain ⟨a, b, rfl, e1, e2, h1, rfl⟩ := h; exact h1.lt
theorem RdMa.shape (h : RdMa w v m) : ∃ A n c B q d, v = .agg #[.slice A n c, .slice B q d] := by
  obtain ⟨a, b, rfl, _⟩ := h; exact ⟨_, _, _, _, _, _, rfl⟩
theorem OwMa.shape (h : OwMa w v m fp) : ∃ A n c B q d, v = .agg #[.slice A n c, .slice B q d] := h.rd.shape
theorem OwMa.zero (w : World) : OwMa w (.agg #[.slice none 0 0, .slice none 0 0]) ([], []) [] :=
  ⟨(none, 0, []), (none, 0, []), rfl, rfl, rfl, ⟨fun x hx => by
    simp at hx; subst hx; exact Sl.nil _ _ _, by simp, fun x hx b hb => by simp at hx; subst hx; simp at hb⟩, rfl⟩
end
def cntMa (m : Ma) : Nat := m.1.length + m.2.length
def OkMa (m : Ma) : Prop := m.1.length ≤ 1048576 ∧ m.2.length ≤ 1048576 ∧ cntMa m ≤ 8388608
def szMa (m : Ma) (left : Int) : Int := if szL left m.1.length < 0 then -1 else szL (szL left m.1.length) m.2.length
theorem szMa_neg {m : Ma} {left : Int} (h : szMa m left < 0) : szMa m left = -1 := by
  unfold szMa at h ⊢
  split at h
  · rename_i h2; rw [if_pos h2]
  · rename_i h2
    rw [if_neg h2]; exact szL_neg h
theorem szMa_ok {m : Ma} {left : Int} (h : 0 ≤ szMa m left) (h1 : left ≤ 1048576) : OkMa m ∧ szMa m left ≤ left := by
  unfold szMa at h ⊢
  split at h
  · omega
  · rename_i h3
    rw [if_neg h3]
    have e3 := szL_nn h
    have e2 := szL_nn (show 0 ≤ szL left m.1.length by omega)
    refine ⟨⟨by omega, by omega, ?_⟩, by omega⟩
    unfold cntMa
    omega
theorem cellsMatchL : Try.prog.cellsOf 43 = 2 := by kernel_rfl
def BigMatch (m : Ma) : Prop := m.1.length ≤ maxLen ∧ m.2.length ≤ maxLen
set_option maxRecDepth 100000 in
theorem in_Match {H : Type} {enc : TypeId × Value → H} {W : World} {base : Nat} {v : Value} {d : DataW H} {p : List MemPlace} (hv : Value.okWide Try.prog W .any base 43 v) (h : DataW.Trod enc Try.prog W 0 (fun _ => true) true 43 v d p) :
    ∃ m, RdMa W v m ∧ BigMatch m := by
  obtain ⟨cs, rfl, hsz⟩ := okWide_struct Try.underlying43 hv
  rw [cellsMatchL] at hsz
  obtain ⟨fuel, hf⟩ := h
  obtain ⟨xs, n, _, _, hlen, hxl, hg⟩ := DataW.trod_struct Try.underlying43 hf
  obtain ⟨c0, c1, hc⟩ := pair_of (show cs.toList.length = 2 by simpa using hsz)
  obtain ⟨y0, y1, rfl⟩ := pair_of (show xs.length = 2 from hxl)
  have hc' : (Value.agg cs).cells.toList = [c0, c1] := hc
  rw [hc'] at hg
  have h0 : DataW.trod enc Try.prog W 0 (fun _ => true) true n 23 (List.take (Try.prog.cellsOf 23) [c0, c1]) = some y0 := hg 0 _ rfl
  have h1 : DataW.trod enc Try.prog W 0 (fun _ => true) true n 23 (List.take (Try.prog.cellsOf 23) [c1]) = some y1 := hg 1 _ rfl
  rw [cellsIntsG] at h0 h1
  obtain ⟨a, rfl, ha, hla⟩ := in_ints1 (v := c0) h0
  obtain ⟨b, rfl, hb, hlb⟩ := in_ints1 (v := c1) h1
  have : cs = #[.slice a.1 a.2.2.length a.2.1, .slice b.1 b.2.2.length b.2.1] := by
    apply Array.ext'
    simpa using hc
  rw [this]
  exact ⟨(a.2.2, b.2.2), ⟨a, b, rfl, rfl, rfl, ha, hb⟩, hla, hlb⟩
end Go.Proofs.Ytanhmljgeiajoaa
