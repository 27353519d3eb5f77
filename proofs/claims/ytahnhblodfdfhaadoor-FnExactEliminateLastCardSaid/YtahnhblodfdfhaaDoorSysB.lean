/-
  THE WALKS: is it a system: the reference's side.
-/
import Derived.Test.YtahnhblodfdfhaaDoorSysA
namespace Go.Proofs.YtahnhblodfdfhaaDoor
open Go.RowKit

/-- It is a system over the field. -/
def sysB (p : Int) (s : Sys) : Bool := fieldB p && ((decide (0 ≤ s.1) && decide (s.1 ≤ 24)) && ((decide (0 ≤ s.2.1) && decide (s.2.1 ≤ 100)) && (decide (s.2.2.length ≤ 160) && rowsB p (s.1 + s.2.1) s.2.2)))

set_option maxHeartbeats 1000000 in
theorem syGood_any (p : Int) {v : Value} {s : Sys} (w : World) (h : RdSysV w v s) (hn : s.2.2.length ≤ 1048576) (hr : ∀ x, x ∈ s.2.2 → x.length ≤ 1048576) :
    Calls Tryd.prog 48 #[.int .i64 p, v] w fun e w' => e = .returned (.bool (sysB p s)) ∧ Below w.heap.size w w' := by
  obtain ⟨A, c, hs, rfl, hL, hR⟩ := h
  obtain ⟨a, b, L⟩ := s
  have hL' : L = hs.map (fun h : Hd => h.2.2) := hL
  subst hL'
  have hb : Below w.heap.size w (w.alloc (.cells #[.int .i64 a, .int .i64 b, .slice A hs.length c] 26)) := (Below.refl w.heap.size w).alloc (Nat.le_refl _) _
  have hl : hs.length ≤ 1048576 := by have : (hs.map fun h : Hd => h.2.2).length ≤ 1048576 := hn; simpa using this
  have hrr : ∀ x, x ∈ hs → x.2.2.length ≤ 17592186044416 := fun x hx => by have := hr _ (List.mem_map_of_mem hx); omega
  have hR' := hR.below hb
  clear hL hR hn hr
  by_cases h1 : fieldB p = true
  case neg =>
    have h1' : fieldB p = false := by simpa using h1
    have e : sysB p (a, b, hs.map fun h : Hd => h.2.2) = false := by unfold sysB; rw [h1']; rfl
    rw [e]
    clear e h1 hR' hrr
    go_enter Tryd.func48, Tryd.ntmps48
    go_wp2_with (go_at_call 95; refine (fdGood_any _ _).mono ?_; rintro e w' ⟨rfl, rfl⟩)
    go_ret
    exact ⟨rfl, hb⟩
  have hpb := fieldB_bounds h1
  by_cases h2 : (decide (0 ≤ a) && decide (a ≤ 24)) = true
  case neg =>
    have h2' : (decide (0 ≤ a) && decide (a ≤ 24)) = false := by simpa using h2
    have e : sysB p (a, b, hs.map fun h : Hd => h.2.2) = false := by unfold sysB; rw [h2', h1]; rfl
    have hc := fun W => l1In_any a 0 24 W
    rw [h2'] at hc
    rw [e]
    have HC := Lib.hid hc
    clear e h2 h2' hc hR' hrr
    go_enter Tryd.func48, Tryd.ntmps48
    go_wp2_with (first | (go_at_call 95; refine (fdGood_any _ _).mono ?_; rintro e w' ⟨rfl, rfl⟩) | (go_at_call 96; refine (HC.out _).mono ?_; rintro e w' ⟨rfl, rfl⟩))
    go_ret
    exact ⟨rfl, hb⟩
  have hc2 := fun W => l1In_any a 0 24 W
  rw [h2] at hc2
  have HC2 := Lib.hid hc2
  have ha : 0 ≤ a ∧ a ≤ 24 := by simpa using h2
  by_cases h3 : (decide (0 ≤ b) && decide (b ≤ 100)) = true
  case neg =>
    have h3' : (decide (0 ≤ b) && decide (b ≤ 100)) = false := by simpa using h3
    have e : sysB p (a, b, hs.map fun h : Hd => h.2.2) = false := by unfold sysB; rw [h2, h1]; simp only [h3']; rfl
    have hc := fun W => l1In_any b 0 100 W
    rw [h3'] at hc
    rw [e]
    have HC := Lib.hid hc
    clear e h2 hc2 h3 h3' hc hR' hrr
    go_enter Tryd.func48, Tryd.ntmps48
    go_wp2_with (fail)
    refine (fdGood_any _ _).mono ?_; rintro e w' ⟨rfl, rfl⟩
    go_wp2_with (fail)
    refine (HC2.out _).mono ?_; rintro e w' ⟨rfl, rfl⟩
    go_wp2_with (fail)
    refine (HC.out _).mono ?_; rintro e w' ⟨rfl, rfl⟩
    go_wp2_with (fail)
    go_ret
    exact ⟨rfl, hb⟩
  have hc3 := fun W => l1In_any b 0 100 W
  rw [h3] at hc3
  have HC3 := Lib.hid hc3
  have hbb : 0 ≤ b ∧ b ≤ 100 := by simpa using h3
  have hab : 0 ≤ a + b ∧ a + b ≤ 124 := by omega
  have e0 : sysB p (a, b, hs.map fun h : Hd => h.2.2) = (decide (hs.length ≤ 160) && rowsB p (a + b) (hs.map fun h : Hd => h.2.2)) := by unfold sysB; rw [h2, h1, List.length_map]; simp only [h3]; rfl
  rw [e0]
  clear e0 h2 h3 hc2 hc3
  by_cases h4 : hs.length ≤ 160
  case neg =>
    have h4' : decide ((hs.length : Int) ≤ 160) = false := decide_eq_false (by omega)
    have e : (decide (hs.length ≤ 160) && rowsB p (a + b) (hs.map fun h : Hd => h.2.2)) = false := by rw [decide_eq_false h4]; rfl
    rw [e]
    clear e hR' hrr
    go_enter Tryd.func48, Tryd.ntmps48
    go_wp2_with (fail)
    refine (fdGood_any _ _).mono ?_; rintro e w' ⟨rfl, rfl⟩
    go_wp2_with (fail)
    refine (HC2.out _).mono ?_; rintro e w' ⟨rfl, rfl⟩
    go_wp2_with (fail)
    refine (HC3.out _).mono ?_; rintro e w' ⟨rfl, rfl⟩
    go_wp2_with (fail)
    go_ret
    exact ⟨rfl, hb⟩
  have h4' : decide ((hs.length : Int) ≤ 160) = true := decide_eq_true (by omega)
  have e : (decide (hs.length ≤ 160) && rowsB p (a + b) (hs.map fun h : Hd => h.2.2)) = rowsB p (a + b) (hs.map fun h : Hd => h.2.2) := by rw [decide_eq_true h4]; rfl
  rw [e]
  have hc := spRows_any p (a + b) A c hs _ hR' (by omega) hrr (by omega) (by omega)
  obtain ⟨B, hB⟩ : ∃ B, B = rowsB p (a + b) (hs.map fun h : Hd => h.2.2) := ⟨_, rfl⟩
  rw [← hB] at hc ⊢
  have HC := Lib.hid hc
  clear e hR' hrr hc hB
  go_enter Tryd.func48, Tryd.ntmps48
  go_wp2_with (fail)
  refine (fdGood_any _ _).mono ?_; rintro e w' ⟨rfl, rfl⟩
  go_wp2_with (fail)
  refine (HC2.out _).mono ?_; rintro e w' ⟨rfl, rfl⟩
  go_wp2_with (fail)
  refine (HC3.out _).mono ?_; rintro e w' ⟨rfl, rfl⟩
  go_wp2_with (fail)
  refine HC.out.mono ?_; rintro e w' ⟨rfl, rfl⟩
  go_wp2_with (fail)
  go_ret
  exact ⟨rfl, hb⟩
end Go.Proofs.YtahnhblodfdfhaaDoor
