/-
  THE WALKS: impl.canonicalSystem, spec.CanonicalSystem, impl.CanonicalSystem.

  THE WALKS: (System).size, (System).satisfying, impl.canonicalSystem.

  THE WALKS: spec.syCanon, spec.CanonicalSystem.

  RESULTS IN A BOX: a struct and a flag.
-/
import Derived.Test.YtahnhblodfdfhaaDoorKRows
import Derived.Test.YtahnhblodfdfhaaDoorSySolve
import Derived.Test.YtahnhblodfdfhaaDoorKer
import Derived.Test.YtahnhblodfdfhaaDoorSysB
import Derived.Test.YtahnhblodfdfhaaDoorSysD
namespace Go.Proofs.YtahnhblodfdfhaaDoor
open Go.RowKit

theorem results_cell_tmp {P : Program} {fn : Func} {p u : Tmp} {ty : TypeId} (h : fn.results = #[.cell p ty, .tmp u]) (tmps : Array Value) (w : World) (g : Nat) (t : TypeId) (cs : Array Value) (fr : Nat × Nat) (d : TypeDesc)
    (hp : tmps.getD p undef = .pointer (some ⟨g, 0, none⟩)) (hg : w.heap[g]? = some (.cells cs t fr))
    (hu : P.underlying ty = some d) (hd : (match d with | .struct _ | .array _ _ => true | _ => false) = true) (hi : (P.info? ty).map (·.size) = some cs.size) :
    (results fn tmps).run P w = .ok (.tuple #[.agg cs, tmps.getD u undef]) w := by
  have hp' : tmps[p]?.getD undef = .pointer (some ⟨g, 0, none⟩) := by simpa using hp
  simp [results, h, hp', asAddr, run_loadVar_row w g t ty cs fr d hg hu hd hi]

section
variable {w : World} {B : Nat} {t : TypeId} {x y z a b c : Value}
theorem set3 (h : w.heap[B]? = some (.cells #[x, y, z] t)) : (((w.setCell ⟨B, 0, none⟩ a).setCell ⟨B, 1, none⟩ b).setCell ⟨B, 2, none⟩ c).heap[B]? = some (.cells #[a, b, c] t) ∧ Keeps (· = B) w (((w.setCell ⟨B, 0, none⟩ a).setCell ⟨B, 1, none⟩ b).setCell ⟨B, 2, none⟩ c) := by
  refine ⟨by simp [World.setCell, Array.getElem?_modify, h], ?_⟩
  exact ((((Keeps.refl (fun x => x = B) w).setCell (p := ⟨B, 0, none⟩) rfl _).setCell (p := ⟨B, 1, none⟩) rfl _).setCell (p := ⟨B, 2, none⟩) rfl _)
theorem set2 (h : w.heap[B]? = some (.cells #[x, y] t)) : ((w.setCell ⟨B, 0, none⟩ a).setCell ⟨B, 1, none⟩ b).heap[B]? = some (.cells #[a, b] t) ∧ Keeps (· = B) w ((w.setCell ⟨B, 0, none⟩ a).setCell ⟨B, 1, none⟩ b) := by
  refine ⟨by simp [World.setCell, Array.getElem?_modify, h], ?_⟩
  exact (((Keeps.refl (fun x => x = B) w).setCell (p := ⟨B, 0, none⟩) rfl _).setCell (p := ⟨B, 1, none⟩) rfl _)
end
/-- An owned struct of the empty kind. -/
theorem OwSys.zero (w : World) (a b : Int) : OwSys w (.agg #[.int .i64 a, .int .i64 b, .slice none 0 0]) (a, b, []) [] := ⟨none, 0, [], rfl, rfl, OwR.nil w, by simp [fpR]⟩
theorem OwMt.zero (w : World) (a : Int) : OwMt w (.agg #[.int .i64 a, .slice none 0 0]) (a, []) [] := ⟨none, 0, [], rfl, rfl, OwR.nil w, by simp [fpR]⟩
theorem FreshL.nil (B : Nat) : FreshL B [] := fun b hb => (by cases hb)
theorem okR_nil : OkR [] := ⟨by simp, fun x hx => (by cases hx), by simp [cntR]⟩
theorem OwSys.of_ret {w0 w : World} {L : List (List Int)} {A : Option Addr} {c : Nat} {a b : Int} (h : OM w0 w A c L) {w' : World} {S : Nat → Prop} (hk : Keeps S w w') (hS : ∀ k, S k → k < w0.heap.size) {n : Nat} (hn : L.length = n) : ∃ fp, OwSys w' (.agg #[.int .i64 a, .int .i64 b, .slice A n c]) (a, b, L) fp ∧ FreshL w0.heap.size fp := by
  subst hn
  obtain ⟨fp, h1, h2⟩ := OwSys.of_om (a := a) (b := b) h
  exact ⟨fp, h1.keeps hk fun k hk' hs => by have := h2 k hk'; have := hS k hs; omega, h2⟩
end Go.Proofs.YtahnhblodfdfhaaDoor
namespace Go.Proofs.YtahnhblodfdfhaaDoor
open Go.RowKit

/-- The canonical system. -/
def canonM (p : Int) (s : Sys) : Sys := (s.1, 0, nullM p s.1.toNat (solvM p s))

end Go.Proofs.YtahnhblodfdfhaaDoor
namespace Go.Proofs.YtahnhblodfdfhaaDoor
open Go.RowKit

set_option maxHeartbeats 400000 in
theorem sizeV_any {v : Value} {s : Sys} (w : World) (h : RdSysV w v s) (ha : 0 ≤ s.1 ∧ s.1 ≤ 1000) (hb : 0 ≤ s.2.1 ∧ s.2.1 ≤ 1000) :
    Calls Tryd.prog 104 #[v] w fun e w' => e = .returned (.int .i64 (s.1 + s.2.1)) ∧ Below w.heap.size w w' := by
  obtain ⟨A, n, c, rfl⟩ := h.shape
  clear h
  obtain ⟨W, hW⟩ : ∃ W, W = w.alloc (.cells #[.int .i64 s.1, .int .i64 s.2.1, .slice A n c] 26) := ⟨_, rfl⟩
  have hB0 : Below w.heap.size w W := by rw [hW]; exact (Below.refl _ _).alloc (Nat.le_refl _) _
  have k0 : W.heap[w.heap.size]? = some (.cells #[.int .i64 s.1, .int .i64 s.2.1, .slice A n c] 26) := by rw [hW]; exact heap_alloc_new w _
  obtain ⟨⟨c0, c1, c2⟩, f0, f1, f2⟩ := box3 k0
  have HB := Lib.hid hB0
  clear k0 hB0
  go_enter Tryd.func104, Tryd.ntmps104
  go_wp2_with (fail)
  rw [← hW]
  clear hW
  go_wp2_with (fail)
  go_ret
  exact ⟨by go_num, HB.out⟩

theorem pick_range {v : List Int} {k : Nat} (h : k ≤ v.length) : pick v (List.range k) = v.take k := by
  apply List.ext_getElem?
  intro i
  unfold pick
  by_cases hi : i < k
  · rw [List.getElem?_map, List.getElem?_range hi, List.getElem?_take, if_pos hi]
    have : i < v.length := by omega
    simp [List.getD, this]
  · rw [List.getElem?_eq_none (by simpa using hi), List.getElem?_eq_none (by simp; omega)]

/-- What the solutions span. -/
def satM (p : Int) (s : Sys) : List (List Int) := redM p s.1.toNat (solvM p s)
theorem nullM_redM {p : Int} (hp : fieldB p = true) {n : Nat} {L : List (List Int)} (hm : Mat p L.length n L) : nullM p n (redM p n L) = nullM p n L := by
  obtain ⟨h1, _, _⟩ := redM_spec hp hm
  obtain ⟨h2, h3, _⟩ := redM_spec hp h1.1
  have hpb := fieldB_bounds hp
  have e : redM p n (redM p n L) = redM p n L := RedL.unique (by omega) h2 h1 h3
  unfold nullM
  rw [e]

end Go.Proofs.YtahnhblodfdfhaaDoor
namespace Go.Proofs.YtahnhblodfdfhaaDoor
open Go.RowKit

theorem perp_sat {p : Int} {s : Sys} (hs : SysOk p s) : perpM p s.1.toNat (satM p s) = nullM p s.1.toNat (solvM p s) := by
  obtain ⟨hsm, _⟩ := solvM_mat hs
  have hr := (redM_spec hs.fld hsm).1.1
  rw [← nullM_redM hs.fld hsm]
  exact (null_eq_perp hs.fld hr).symm
theorem satM_mat {p : Int} {s : Sys} (hs : SysOk p s) : Mat p (satM p s).length s.1.toNat (satM p s) ∧ (satM p s).length ≤ 124 := by
  obtain ⟨hsm, hl⟩ := solvM_mat hs
  have hr := redM_spec hs.fld hsm
  exact ⟨hr.1.1, Nat.le_trans hr.2.2 hl⟩

/-- The canonical system, or none. -/
def canM (p : Int) (s : Sys) : Sys × Bool := if sysB p s then (canonM p s, true) else ((0, 0, []), false)
theorem cntR_le {L : List (List Int)} {k : Nat} (h : ∀ x, x ∈ L → x.length ≤ k) : cntR L ≤ L.length * k := by
  induction L with
  | nil => simp [cntR]
  | cons a L ih =>
    have h1 := ih fun x hx => h x (List.mem_cons_of_mem _ hx)
    have h2 := h a (List.mem_cons_self ..)
    rw [cntR, List.length_cons, Nat.succ_mul]; omega
theorem okR_mat {p : Int} {m n : Nat} {L : List (List Int)} (h : Mat p m n L) (hm : m ≤ 1000) (hn : n ≤ 1000) : OkR L := by
  have h1 := cntR_le (L := L) (k := n) fun x hx => Nat.le_of_eq (h.row x hx).1
  rw [h.len] at h1
  refine ⟨by rw [h.len]; omega, fun x hx => by rw [(h.row x hx).1]; omega, Nat.le_trans h1 ?_⟩
  have : m * n ≤ 1000 * 1000 := Nat.mul_le_mul hm hn
  omega
theorem canM_ok {p : Int} {s : Sys} (_h : OkR s.2.2) : OkR (canM p s).1.2.2 := by
  unfold canM
  split
  · rename_i hb
    have hs := SysOk.of hb
    have hr := nullM_red hs.fld s.1.toNat (solvM p s)
    have hl := red_len hr
    have hv := hs.vis
    exact okR_mat hr.1 (by omega) (by omega)
  · exact okR_nil

end Go.Proofs.YtahnhblodfdfhaaDoor
