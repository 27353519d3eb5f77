/-
  WHAT CAME IN: a System.
-/
import Derived.Test.YtomekicglojhhaaDoorInRows
import Derived.Test.YtomekicglojhhaaDoorSys
namespace Go.Proofs.YtomekicglojhhaaDoor
open Go.ChangeShapes Go.WideShapes Go.ChangeAt Go.RowKit

/-- The bounds of what came in. -/
def BigSys (s : Sys) : Prop := (-9223372036854775808 ≤ s.1 ∧ s.1 ≤ 9223372036854775807) ∧ (-9223372036854775808 ≤ s.2.1 ∧ s.2.1 ≤ 9223372036854775807) ∧ s.2.2.length ≤ 9223372036854775807 ∧ ∀ x, x ∈ s.2.2 → x.length ≤ 9223372036854775807

set_option maxRecDepth 100000 in
theorem in_Sys {H : Type} {enc : TypeId × Value → H} {W : World} {v : Value} {d : DataW H} {p : List MemPlace} (hv : Value.okWide Tryd.prog W .any 0 24 v) (h : DataW.Trod enc Tryd.prog W 0 (fun _ => true) true 24 v d p) :
    ∃ s : Sys, RdSysV W v s ∧ BigSys s := by
  obtain ⟨v0, v1, v2, y0, y1, y2, n, rfl, _, _, h0, h1, h2⟩ := Joins.open_agg3 Tryd.underlying24 (by kernel_rfl) (by kernel_rfl) hv h
  obtain ⟨a, rfl, ha⟩ := in_int1 h0
  obtain ⟨b, rfl, hb⟩ := in_int1 h1
  obtain ⟨A, cap, hs, rfl, hR, hl, hr⟩ := in_rows h2
  exact ⟨(a, b, hs.map fun h : Hd => h.2.2), ⟨A, cap, hs, rfl, rfl, hR⟩, ha, hb, by simpa using hl, fun x hx => by
    obtain ⟨y, hy, rfl⟩ := List.mem_map.1 hx
    exact hr y hy⟩
end Go.Proofs.YtomekicglojhhaaDoor
