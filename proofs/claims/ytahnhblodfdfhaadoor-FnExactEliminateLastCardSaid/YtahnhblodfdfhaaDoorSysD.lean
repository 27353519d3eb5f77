/-
  THE WALKS: is it a system: the program's side, the drawn region.

  THE WALKS: is it a system: the program's side.
-/
import Derived.Test.YtahnhblodfdfhaaDoorSysB
import Derived.StillTailTactics
import Derived.Test.YtahnhblodfdfhaaDoorRegH
namespace Go.Proofs.YtahnhblodfdfhaaDoor
open Go.RowKit

theorem stillC' {P : Program} {f : FuncId} {args : Array Value} {w : World} {v : Value} (h : Calls P f args w fun e w' => e = .returned v ∧ w = w') : Calls P f args w fun e w'' => e = .returned v ∧ w'' = w :=
  h.mono fun _ _ ⟨h1, h2⟩ => ⟨h1, h2.symm⟩

set_option maxHeartbeats 400000 in
theorem within_any (n lo hi : Int) (w : World) :
    Calls Tryd.prog 102 #[.int .i64 n, .int .i64 lo, .int .i64 hi] w fun e w' => e = .returned (.bool (decide (lo ≤ n) && decide (n ≤ hi))) ∧ w = w' := by
  by_cases h : lo ≤ n
  · have h1 : decide (lo ≤ n) = true := decide_eq_true h
    rw [h1]
    clear h1
    go_enter Tryd.func102, Tryd.ntmps102
    go_wp2_with (fail)
    go_ret
    exact ⟨rfl, rfl⟩
  · have h1 : decide (lo ≤ n) = false := decide_eq_false h
    rw [h1]
    clear h1
    go_enter Tryd.func102, Tryd.ntmps102
    go_wp2_with (fail)
    go_ret
    exact ⟨rfl, rfl⟩

set_option maxHeartbeats 400000 in
theorem size_any (a b : Int) (r : Value) (w : World) (ha : 0 ≤ a ∧ a ≤ 24) (hb : 0 ≤ b ∧ b ≤ 100) :
    Calls Tryd.prog 104 #[.agg #[.int .i64 a, .int .i64 b, r]] w fun e w' => e = .returned (.int .i64 (a + b)) ∧ w' = w.alloc (.cells #[.int .i64 a, .int .i64 b, r] 26) := by
  have ww : IntKind.i64.wrap (a + b) = a + b := IntWalk.i64_in _ (by omega)
  go_enter Tryd.func104, Tryd.ntmps104
  go_wp2_with (fail)
  go_ret
  exact ⟨rfl, rfl⟩
end Go.Proofs.YtahnhblodfdfhaaDoor
namespace Go.Proofs.YtahnhblodfdfhaaDoor
open Go.RowKit

set_option maxRecDepth 8000 in
set_option maxHeartbeats 2000000 in
theorem isSystem_field (p a b : Int) (A : Option Addr) (c : Nat) (hs : List Hd) (w : World) (hR : RdR w A hs) (hT : Tab w) (h1 : fieldB p = false) :
    Calls Tryd.prog 51 #[.int .i64 p, .agg #[.int .i64 a, .int .i64 b, .slice A hs.length c]] w fun e w' => e = .returned (.bool (false)) ∧ Below w.heap.size w w' := by
  have hbw : Below w.heap.size w (w.alloc (.cells #[.int .i64 a, .int .i64 b, .slice A hs.length c] 26)) := (Below.refl w.heap.size w).alloc (Nat.le_refl _) _
  obtain ⟨W, hW⟩ : ∃ W, W = w.alloc (.cells #[.int .i64 a, .int .i64 b, .slice A hs.length c] 26) := ⟨_, rfl⟩
  have hk : W.heap[w.heap.size]? = some (.cells #[.int .i64 a, .int .i64 b, .slice A hs.length c] 26) := by rw [hW]; exact heap_alloc_new w _
  obtain ⟨⟨c0, c1, c2⟩, f0, f1, f2⟩ := box3 hk
  have hTW : Tab W := by rw [hW]; exact hT.below hbw hT.lt
  have hRW : RdR W A hs := by rw [hW]; exact hR.below hbw
  have hwW : w.heap.size ≤ W.heap.size := by rw [hW]; exact hbw.size
  have hbW : Below w.heap.size w W := by rw [hW]; exact hbw
  have HF : ∀ w', Below W.heap.size W w' → Calls Tryd.prog 101 #[.int .i64 p] w' fun e w'' => e = .returned (.bool false) ∧ w' = w'' := fun w' h => by
    have := isField_any p w' (hTW.below h hTW.lt); rwa [h1] at this
  have HFh := Lib.hid HF
  clear hk hT hR hbw HF hTW hRW
  go_enter Tryd.func51, Tryd.ntmps51
  go_wp2_with (fail)
  rw [← hW]
  clear hW
  refine wp_region_heldS 27 (fun w' => w'.cell? ⟨w.heap.size, 0, none⟩ = some (.int .i64 a) ∧ w'.cell? ⟨w.heap.size, 1, none⟩ = some (.int .i64 b) ∧ w'.cell? ⟨w.heap.size, 2, none⟩ = some (.slice A hs.length c) ∧ Below W.heap.size W w') (by kernel_rfl) (by kernel_rfl) ⟨c0, c1, c2, below_drewN (Below.refl _ _) 1⟩ ?_
  simp only [List.take_succ_cons, List.take_zero, List.drop_succ_cons, List.drop_zero]
  refine held_val (v := ?_) (by rfl) (fun W' hW' => ?_) ?_; rotate_left; · (obtain ⟨c0, c1, c2, hb⟩ := hW'; go_simp; first | done | with_reducible rfl)
  simp only [Act.put, List.setIfInBounds_toArray, List.set_cons_zero, List.set_cons_succ]
  refine' held_call (v := .bool false) (f := _) (args := _) (by rfl) (fun W' => ?_) (fun W' hW' => ?_) ?_; rotate_left 2; · (go_simp; first | done | with_reducible rfl | (constructor <;> with_reducible rfl))
  · (obtain ⟨c0, c1, c2, hb⟩ := hW'; refine (HFh.out _ hb).mono ?_; rintro e w' ⟨rfl, rfl⟩; exact ⟨rfl, c0, c1, c2, hb⟩)
  simp only [Act.put, List.setIfInBounds_toArray, List.set_cons_zero, List.set_cons_succ]
  refine held_val (v := ?_) (by rfl) (fun W' hW' => ?_) ?_; rotate_left; · (obtain ⟨c0, c1, c2, hb⟩ := hW'; go_simp; first | done | with_reducible rfl)
  simp only [Act.put, List.setIfInBounds_toArray, List.set_cons_zero, List.set_cons_succ]
  refine held_off (by rfl) ?_
  simp only [Act.put, List.setIfInBounds_toArray, List.set_cons_zero, List.set_cons_succ]
  refine held_off (by rfl) ?_
  simp only [Act.put, List.setIfInBounds_toArray, List.set_cons_zero, List.set_cons_succ]
  refine held_off (by rfl) ?_
  simp only [Act.put, List.setIfInBounds_toArray, List.set_cons_zero, List.set_cons_succ]
  refine held_val (v := ?_) (by rfl) (fun W' hW' => ?_) ?_; rotate_left; · (obtain ⟨c0, c1, c2, hb⟩ := hW'; go_simp; first | done | with_reducible rfl)
  simp only [Act.put, List.setIfInBounds_toArray, List.set_cons_zero, List.set_cons_succ]
  refine held_val (v := ?_) (by rfl) (fun W' hW' => ?_) ?_; rotate_left; · (obtain ⟨c0, c1, c2, hb⟩ := hW'; go_simp; first | done | with_reducible rfl)
  simp only [Act.put, List.setIfInBounds_toArray, List.set_cons_zero, List.set_cons_succ]
  refine held_off (by rfl) ?_
  simp only [Act.put, List.setIfInBounds_toArray, List.set_cons_zero, List.set_cons_succ]
  refine held_off (by rfl) ?_
  simp only [Act.put, List.setIfInBounds_toArray, List.set_cons_zero, List.set_cons_succ]
  refine held_off (by rfl) ?_
  simp only [Act.put, List.setIfInBounds_toArray, List.set_cons_zero, List.set_cons_succ]
  refine held_val (v := ?_) (by rfl) (fun W' hW' => ?_) ?_; rotate_left; · (obtain ⟨c0, c1, c2, hb⟩ := hW'; go_simp; first | done | with_reducible rfl)
  simp only [Act.put, List.setIfInBounds_toArray, List.set_cons_zero, List.set_cons_succ]
  refine held_val (v := ?_) (by rfl) (fun W' hW' => ?_) ?_; rotate_left; · (obtain ⟨c0, c1, c2, hb⟩ := hW'; go_simp; first | done | with_reducible rfl)
  simp only [Act.put, List.setIfInBounds_toArray, List.set_cons_zero, List.set_cons_succ]
  refine held_off (by rfl) ?_
  simp only [Act.put, List.setIfInBounds_toArray, List.set_cons_zero, List.set_cons_succ]
  refine held_off (by rfl) ?_
  simp only [Act.put, List.setIfInBounds_toArray, List.set_cons_zero, List.set_cons_succ]
  refine held_off (by rfl) ?_
  simp only [Act.put, List.setIfInBounds_toArray, List.set_cons_zero, List.set_cons_succ]
  refine held_off (by rfl) ?_
  simp only [Act.put, List.setIfInBounds_toArray, List.set_cons_zero, List.set_cons_succ]
  refine held_val (v := ?_) (by rfl) (fun W' hW' => ?_) ?_; rotate_left; · (obtain ⟨c0, c1, c2, hb⟩ := hW'; go_simp; first | done | with_reducible rfl)
  simp only [Act.put, List.setIfInBounds_toArray, List.set_cons_zero, List.set_cons_succ]
  refine held_val (v := ?_) (by rfl) (fun W' hW' => ?_) ?_; rotate_left; · (obtain ⟨c0, c1, c2, hb⟩ := hW'; go_simp; first | done | with_reducible rfl)
  simp only [Act.put, List.setIfInBounds_toArray, List.set_cons_zero, List.set_cons_succ]
  refine held_off (by rfl) ?_
  simp only [Act.put, List.setIfInBounds_toArray, List.set_cons_zero, List.set_cons_succ]
  refine held_off (by rfl) ?_
  simp only [Act.put, List.setIfInBounds_toArray, List.set_cons_zero, List.set_cons_succ]
  refine held_off (by rfl) ?_
  simp only [Act.put, List.setIfInBounds_toArray, List.set_cons_zero, List.set_cons_succ]
  refine held_off (by rfl) ?_
  simp only [Act.put, List.setIfInBounds_toArray, List.set_cons_zero, List.set_cons_succ]
  refine held_off (by rfl) ?_
  simp only [Act.put, List.setIfInBounds_toArray, List.set_cons_zero, List.set_cons_succ]
  refine held_off (by rfl) ?_
  simp only [Act.put, List.setIfInBounds_toArray, List.set_cons_zero, List.set_cons_succ]
  refine held_val (v := ?_) (by rfl) (fun W' hW' => ?_) ?_; rotate_left; · (obtain ⟨c0, c1, c2, hb⟩ := hW'; go_simp; first | done | with_reducible rfl)
  simp only [Act.put, List.setIfInBounds_toArray, List.set_cons_zero, List.set_cons_succ]
  refine held_val (v := ?_) (by rfl) (fun W' hW' => ?_) ?_; rotate_left; · (obtain ⟨c0, c1, c2, hb⟩ := hW'; go_simp; first | done | with_reducible rfl)
  simp only [Act.put, List.setIfInBounds_toArray, List.set_cons_zero, List.set_cons_succ]
  refine held_nil (fun W' hW' => ?_)
  obtain ⟨_, _, _, hb⟩ := hW'
  clear c0 c1 c2 f0 f1 f2
  go_wp2_with (fail)
  go_ret
  exact ⟨rfl, below_trans hbW hb hwW⟩

set_option maxRecDepth 8000 in
set_option maxHeartbeats 2000000 in
theorem isSystem_vis (p a b : Int) (A : Option Addr) (c : Nat) (hs : List Hd) (w : World) (hR : RdR w A hs) (hT : Tab w) (h1 : fieldB p = true) (ha : ¬ (0 ≤ a ∧ a ≤ 24)) :
    Calls Tryd.prog 51 #[.int .i64 p, .agg #[.int .i64 a, .int .i64 b, .slice A hs.length c]] w fun e w' => e = .returned (.bool (false)) ∧ Below w.heap.size w w' := by
  have hbw : Below w.heap.size w (w.alloc (.cells #[.int .i64 a, .int .i64 b, .slice A hs.length c] 26)) := (Below.refl w.heap.size w).alloc (Nat.le_refl _) _
  obtain ⟨W, hW⟩ : ∃ W, W = w.alloc (.cells #[.int .i64 a, .int .i64 b, .slice A hs.length c] 26) := ⟨_, rfl⟩
  have hk : W.heap[w.heap.size]? = some (.cells #[.int .i64 a, .int .i64 b, .slice A hs.length c] 26) := by rw [hW]; exact heap_alloc_new w _
  obtain ⟨⟨c0, c1, c2⟩, f0, f1, f2⟩ := box3 hk
  have hTW : Tab W := by rw [hW]; exact hT.below hbw hT.lt
  have hRW : RdR W A hs := by rw [hW]; exact hR.below hbw
  have hwW : w.heap.size ≤ W.heap.size := by rw [hW]; exact hbw.size
  have hbW : Below w.heap.size w W := by rw [hW]; exact hbw
  have HF : ∀ w', Below W.heap.size W w' → Calls Tryd.prog 101 #[.int .i64 p] w' fun e w'' => e = .returned (.bool true) ∧ w' = w'' := fun w' h => by
    have := isField_any p w' (hTW.below h hTW.lt); rwa [h1] at this
  have HA : ∀ w', Calls Tryd.prog 102 #[.int .i64 a, .int .i64 0, .int .i64 24] w' fun e w'' => e = .returned (.bool false) ∧ w' = w'' := fun w' => by
    have := within_any a 0 24 w'; rwa [show (decide (0 ≤ a) && decide (a ≤ 24)) = false by simp; omega] at this
  have HFh := Lib.hid HF
  have HAh := Lib.hid HA
  clear hk hT hR hbw HF hTW hRW HA ha
  go_enter Tryd.func51, Tryd.ntmps51
  go_wp2_with (fail)
  rw [← hW]
  clear hW
  refine wp_region_heldS 27 (fun w' => w'.cell? ⟨w.heap.size, 0, none⟩ = some (.int .i64 a) ∧ w'.cell? ⟨w.heap.size, 1, none⟩ = some (.int .i64 b) ∧ w'.cell? ⟨w.heap.size, 2, none⟩ = some (.slice A hs.length c) ∧ Below W.heap.size W w') (by kernel_rfl) (by kernel_rfl) ⟨c0, c1, c2, below_drewN (Below.refl _ _) 1⟩ ?_
  simp only [List.take_succ_cons, List.take_zero, List.drop_succ_cons, List.drop_zero]
  refine held_val (v := ?_) (by rfl) (fun W' hW' => ?_) ?_; rotate_left; · (obtain ⟨c0, c1, c2, hb⟩ := hW'; go_simp; first | done | with_reducible rfl)
  simp only [Act.put, List.setIfInBounds_toArray, List.set_cons_zero, List.set_cons_succ]
  refine' held_call (v := .bool true) (f := _) (args := _) (by rfl) (fun W' => ?_) (fun W' hW' => ?_) ?_; rotate_left 2; · (go_simp; first | done | with_reducible rfl | (constructor <;> with_reducible rfl))
  · (obtain ⟨c0, c1, c2, hb⟩ := hW'; refine (HFh.out _ hb).mono ?_; rintro e w' ⟨rfl, rfl⟩; exact ⟨rfl, c0, c1, c2, hb⟩)
  simp only [Act.put, List.setIfInBounds_toArray, List.set_cons_zero, List.set_cons_succ]
  refine held_val (v := ?_) (by rfl) (fun W' hW' => ?_) ?_; rotate_left; · (obtain ⟨c0, c1, c2, hb⟩ := hW'; go_simp; first | done | with_reducible rfl)
  simp only [Act.put, List.setIfInBounds_toArray, List.set_cons_zero, List.set_cons_succ]
  refine held_val (v := ?_) (by rfl) (fun W' hW' => ?_) ?_; rotate_left; · (obtain ⟨c0, c1, c2, hb⟩ := hW'; go_simp; first | done | with_reducible rfl)
  simp only [Act.put, List.setIfInBounds_toArray, List.set_cons_zero, List.set_cons_succ]
  refine held_val (v := ?_) (by rfl) (fun W' hW' => ?_) ?_; rotate_left; · (obtain ⟨c0, c1, c2, hb⟩ := hW'; go_simp; first | done | with_reducible rfl)
  simp only [Act.put, List.setIfInBounds_toArray, List.set_cons_zero, List.set_cons_succ]
  refine' held_call (v := .bool false) (f := _) (args := _) (by rfl) (fun W' => ?_) (fun W' hW' => ?_) ?_; rotate_left 2; · (go_simp; first | done | with_reducible rfl | (constructor <;> with_reducible rfl))
  · (obtain ⟨c0, c1, c2, hb⟩ := hW'; refine (HAh.out _).mono ?_; rintro e w' ⟨rfl, rfl⟩; exact ⟨rfl, c0, c1, c2, hb⟩)
  simp only [Act.put, List.setIfInBounds_toArray, List.set_cons_zero, List.set_cons_succ]
  refine held_val (v := ?_) (by rfl) (fun W' hW' => ?_) ?_; rotate_left; · (obtain ⟨c0, c1, c2, hb⟩ := hW'; go_simp; first | done | with_reducible rfl)
  simp only [Act.put, List.setIfInBounds_toArray, List.set_cons_zero, List.set_cons_succ]
  refine held_val (v := ?_) (by rfl) (fun W' hW' => ?_) ?_; rotate_left; · (obtain ⟨c0, c1, c2, hb⟩ := hW'; go_simp; first | done | with_reducible rfl)
  simp only [Act.put, List.setIfInBounds_toArray, List.set_cons_zero, List.set_cons_succ]
  refine held_off (by rfl) ?_
  simp only [Act.put, List.setIfInBounds_toArray, List.set_cons_zero, List.set_cons_succ]
  refine held_off (by rfl) ?_
  simp only [Act.put, List.setIfInBounds_toArray, List.set_cons_zero, List.set_cons_succ]
  refine held_off (by rfl) ?_
  simp only [Act.put, List.setIfInBounds_toArray, List.set_cons_zero, List.set_cons_succ]
  refine held_val (v := ?_) (by rfl) (fun W' hW' => ?_) ?_; rotate_left; · (obtain ⟨c0, c1, c2, hb⟩ := hW'; go_simp; first | done | with_reducible rfl)
  simp only [Act.put, List.setIfInBounds_toArray, List.set_cons_zero, List.set_cons_succ]
  refine held_val (v := ?_) (by rfl) (fun W' hW' => ?_) ?_; rotate_left; · (obtain ⟨c0, c1, c2, hb⟩ := hW'; go_simp; first | done | with_reducible rfl)
  simp only [Act.put, List.setIfInBounds_toArray, List.set_cons_zero, List.set_cons_succ]
  refine held_off (by rfl) ?_
  simp only [Act.put, List.setIfInBounds_toArray, List.set_cons_zero, List.set_cons_succ]
  refine held_off (by rfl) ?_
  simp only [Act.put, List.setIfInBounds_toArray, List.set_cons_zero, List.set_cons_succ]
  refine held_off (by rfl) ?_
  simp only [Act.put, List.setIfInBounds_toArray, List.set_cons_zero, List.set_cons_succ]
  refine held_off (by rfl) ?_
  simp only [Act.put, List.setIfInBounds_toArray, List.set_cons_zero, List.set_cons_succ]
  refine held_val (v := ?_) (by rfl) (fun W' hW' => ?_) ?_; rotate_left; · (obtain ⟨c0, c1, c2, hb⟩ := hW'; go_simp; first | done | with_reducible rfl)
  simp only [Act.put, List.setIfInBounds_toArray, List.set_cons_zero, List.set_cons_succ]
  refine held_val (v := ?_) (by rfl) (fun W' hW' => ?_) ?_; rotate_left; · (obtain ⟨c0, c1, c2, hb⟩ := hW'; go_simp; first | done | with_reducible rfl)
  simp only [Act.put, List.setIfInBounds_toArray, List.set_cons_zero, List.set_cons_succ]
  refine held_off (by rfl) ?_
  simp only [Act.put, List.setIfInBounds_toArray, List.set_cons_zero, List.set_cons_succ]
  refine held_off (by rfl) ?_
  simp only [Act.put, List.setIfInBounds_toArray, List.set_cons_zero, List.set_cons_succ]
  refine held_off (by rfl) ?_
  simp only [Act.put, List.setIfInBounds_toArray, List.set_cons_zero, List.set_cons_succ]
  refine held_off (by rfl) ?_
  simp only [Act.put, List.setIfInBounds_toArray, List.set_cons_zero, List.set_cons_succ]
  refine held_off (by rfl) ?_
  simp only [Act.put, List.setIfInBounds_toArray, List.set_cons_zero, List.set_cons_succ]
  refine held_off (by rfl) ?_
  simp only [Act.put, List.setIfInBounds_toArray, List.set_cons_zero, List.set_cons_succ]
  refine held_val (v := ?_) (by rfl) (fun W' hW' => ?_) ?_; rotate_left; · (obtain ⟨c0, c1, c2, hb⟩ := hW'; go_simp; first | done | with_reducible rfl)
  simp only [Act.put, List.setIfInBounds_toArray, List.set_cons_zero, List.set_cons_succ]
  refine held_val (v := ?_) (by rfl) (fun W' hW' => ?_) ?_; rotate_left; · (obtain ⟨c0, c1, c2, hb⟩ := hW'; go_simp; first | done | with_reducible rfl)
  simp only [Act.put, List.setIfInBounds_toArray, List.set_cons_zero, List.set_cons_succ]
  refine held_nil (fun W' hW' => ?_)
  obtain ⟨_, _, _, hb⟩ := hW'
  clear c0 c1 c2 f0 f1 f2
  go_wp2_with (fail)
  go_ret
  exact ⟨rfl, below_trans hbW hb hwW⟩

set_option maxRecDepth 8000 in
set_option maxHeartbeats 2000000 in
theorem isSystem_hid (p a b : Int) (A : Option Addr) (c : Nat) (hs : List Hd) (w : World) (hR : RdR w A hs) (hT : Tab w) (h1 : fieldB p = true) (ha : 0 ≤ a ∧ a ≤ 24) (hb : ¬ (0 ≤ b ∧ b ≤ 100)) :
    Calls Tryd.prog 51 #[.int .i64 p, .agg #[.int .i64 a, .int .i64 b, .slice A hs.length c]] w fun e w' => e = .returned (.bool (false)) ∧ Below w.heap.size w w' := by
  have hbw : Below w.heap.size w (w.alloc (.cells #[.int .i64 a, .int .i64 b, .slice A hs.length c] 26)) := (Below.refl w.heap.size w).alloc (Nat.le_refl _) _
  obtain ⟨W, hW⟩ : ∃ W, W = w.alloc (.cells #[.int .i64 a, .int .i64 b, .slice A hs.length c] 26) := ⟨_, rfl⟩
  have hk : W.heap[w.heap.size]? = some (.cells #[.int .i64 a, .int .i64 b, .slice A hs.length c] 26) := by rw [hW]; exact heap_alloc_new w _
  obtain ⟨⟨c0, c1, c2⟩, f0, f1, f2⟩ := box3 hk
  have hTW : Tab W := by rw [hW]; exact hT.below hbw hT.lt
  have hRW : RdR W A hs := by rw [hW]; exact hR.below hbw
  have hwW : w.heap.size ≤ W.heap.size := by rw [hW]; exact hbw.size
  have hbW : Below w.heap.size w W := by rw [hW]; exact hbw
  have HF : ∀ w', Below W.heap.size W w' → Calls Tryd.prog 101 #[.int .i64 p] w' fun e w'' => e = .returned (.bool true) ∧ w' = w'' := fun w' h => by
    have := isField_any p w' (hTW.below h hTW.lt); rwa [h1] at this
  have HA : ∀ w', Calls Tryd.prog 102 #[.int .i64 a, .int .i64 0, .int .i64 24] w' fun e w'' => e = .returned (.bool true) ∧ w' = w'' := fun w' => by
    have := within_any a 0 24 w'; rwa [decide_eq_true ha.1, decide_eq_true ha.2, Bool.and_true] at this
  have HB : ∀ w', Calls Tryd.prog 102 #[.int .i64 b, .int .i64 0, .int .i64 100] w' fun e w'' => e = .returned (.bool false) ∧ w' = w'' := fun w' => by
    have := within_any b 0 100 w'; rwa [show (decide (0 ≤ b) && decide (b ≤ 100)) = false by simp; omega] at this
  have HFh := Lib.hid HF
  have HAh := Lib.hid HA
  have HBh := Lib.hid HB
  clear hk hT hR hbw HF hTW hRW HA HB hb
  go_enter Tryd.func51, Tryd.ntmps51
  go_wp2_with (fail)
  rw [← hW]
  clear hW
  refine wp_region_heldS 27 (fun w' => w'.cell? ⟨w.heap.size, 0, none⟩ = some (.int .i64 a) ∧ w'.cell? ⟨w.heap.size, 1, none⟩ = some (.int .i64 b) ∧ w'.cell? ⟨w.heap.size, 2, none⟩ = some (.slice A hs.length c) ∧ Below W.heap.size W w') (by kernel_rfl) (by kernel_rfl) ⟨c0, c1, c2, below_drewN (Below.refl _ _) 1⟩ ?_
  simp only [List.take_succ_cons, List.take_zero, List.drop_succ_cons, List.drop_zero]
  refine held_val (v := ?_) (by rfl) (fun W' hW' => ?_) ?_; rotate_left; · (obtain ⟨c0, c1, c2, hb⟩ := hW'; go_simp; first | done | with_reducible rfl)
  simp only [Act.put, List.setIfInBounds_toArray, List.set_cons_zero, List.set_cons_succ]
  refine' held_call (v := .bool true) (f := _) (args := _) (by rfl) (fun W' => ?_) (fun W' hW' => ?_) ?_; rotate_left 2; · (go_simp; first | done | with_reducible rfl | (constructor <;> with_reducible rfl))
  · (obtain ⟨c0, c1, c2, hb⟩ := hW'; refine (HFh.out _ hb).mono ?_; rintro e w' ⟨rfl, rfl⟩; exact ⟨rfl, c0, c1, c2, hb⟩)
  simp only [Act.put, List.setIfInBounds_toArray, List.set_cons_zero, List.set_cons_succ]
  refine held_val (v := ?_) (by rfl) (fun W' hW' => ?_) ?_; rotate_left; · (obtain ⟨c0, c1, c2, hb⟩ := hW'; go_simp; first | done | with_reducible rfl)
  simp only [Act.put, List.setIfInBounds_toArray, List.set_cons_zero, List.set_cons_succ]
  refine held_val (v := ?_) (by rfl) (fun W' hW' => ?_) ?_; rotate_left; · (obtain ⟨c0, c1, c2, hb⟩ := hW'; go_simp; first | done | with_reducible rfl)
  simp only [Act.put, List.setIfInBounds_toArray, List.set_cons_zero, List.set_cons_succ]
  refine held_val (v := ?_) (by rfl) (fun W' hW' => ?_) ?_; rotate_left; · (obtain ⟨c0, c1, c2, hb⟩ := hW'; go_simp; first | done | with_reducible rfl)
  simp only [Act.put, List.setIfInBounds_toArray, List.set_cons_zero, List.set_cons_succ]
  refine' held_call (v := .bool true) (f := _) (args := _) (by rfl) (fun W' => ?_) (fun W' hW' => ?_) ?_; rotate_left 2; · (go_simp; first | done | with_reducible rfl | (constructor <;> with_reducible rfl))
  · (obtain ⟨c0, c1, c2, hb⟩ := hW'; refine (HAh.out _).mono ?_; rintro e w' ⟨rfl, rfl⟩; exact ⟨rfl, c0, c1, c2, hb⟩)
  simp only [Act.put, List.setIfInBounds_toArray, List.set_cons_zero, List.set_cons_succ]
  refine held_val (v := ?_) (by rfl) (fun W' hW' => ?_) ?_; rotate_left; · (obtain ⟨c0, c1, c2, hb⟩ := hW'; go_simp; first | done | with_reducible rfl)
  simp only [Act.put, List.setIfInBounds_toArray, List.set_cons_zero, List.set_cons_succ]
  refine held_val (v := ?_) (by rfl) (fun W' hW' => ?_) ?_; rotate_left; · (obtain ⟨c0, c1, c2, hb⟩ := hW'; go_simp; first | done | with_reducible rfl)
  simp only [Act.put, List.setIfInBounds_toArray, List.set_cons_zero, List.set_cons_succ]
  refine held_val (v := ?_) (by rfl) (fun W' hW' => ?_) ?_; rotate_left; · (obtain ⟨c0, c1, c2, hb⟩ := hW'; go_simp; first | done | with_reducible rfl)
  simp only [Act.put, List.setIfInBounds_toArray, List.set_cons_zero, List.set_cons_succ]
  refine held_val (v := ?_) (by rfl) (fun W' hW' => ?_) ?_; rotate_left; · (obtain ⟨c0, c1, c2, hb⟩ := hW'; go_simp; first | done | with_reducible rfl)
  simp only [Act.put, List.setIfInBounds_toArray, List.set_cons_zero, List.set_cons_succ]
  refine' held_call (v := .bool false) (f := _) (args := _) (by rfl) (fun W' => ?_) (fun W' hW' => ?_) ?_; rotate_left 2; · (go_simp; first | done | with_reducible rfl | (constructor <;> with_reducible rfl))
  · (obtain ⟨c0, c1, c2, hb⟩ := hW'; refine (HBh.out _).mono ?_; rintro e w' ⟨rfl, rfl⟩; exact ⟨rfl, c0, c1, c2, hb⟩)
  simp only [Act.put, List.setIfInBounds_toArray, List.set_cons_zero, List.set_cons_succ]
  refine held_val (v := ?_) (by rfl) (fun W' hW' => ?_) ?_; rotate_left; · (obtain ⟨c0, c1, c2, hb⟩ := hW'; go_simp; first | done | with_reducible rfl)
  simp only [Act.put, List.setIfInBounds_toArray, List.set_cons_zero, List.set_cons_succ]
  refine held_val (v := ?_) (by rfl) (fun W' hW' => ?_) ?_; rotate_left; · (obtain ⟨c0, c1, c2, hb⟩ := hW'; go_simp; first | done | with_reducible rfl)
  simp only [Act.put, List.setIfInBounds_toArray, List.set_cons_zero, List.set_cons_succ]
  refine held_off (by rfl) ?_
  simp only [Act.put, List.setIfInBounds_toArray, List.set_cons_zero, List.set_cons_succ]
  refine held_off (by rfl) ?_
  simp only [Act.put, List.setIfInBounds_toArray, List.set_cons_zero, List.set_cons_succ]
  refine held_off (by rfl) ?_
  simp only [Act.put, List.setIfInBounds_toArray, List.set_cons_zero, List.set_cons_succ]
  refine held_off (by rfl) ?_
  simp only [Act.put, List.setIfInBounds_toArray, List.set_cons_zero, List.set_cons_succ]
  refine held_val (v := ?_) (by rfl) (fun W' hW' => ?_) ?_; rotate_left; · (obtain ⟨c0, c1, c2, hb⟩ := hW'; go_simp; first | done | with_reducible rfl)
  simp only [Act.put, List.setIfInBounds_toArray, List.set_cons_zero, List.set_cons_succ]
  refine held_val (v := ?_) (by rfl) (fun W' hW' => ?_) ?_; rotate_left; · (obtain ⟨c0, c1, c2, hb⟩ := hW'; go_simp; first | done | with_reducible rfl)
  simp only [Act.put, List.setIfInBounds_toArray, List.set_cons_zero, List.set_cons_succ]
  refine held_off (by rfl) ?_
  simp only [Act.put, List.setIfInBounds_toArray, List.set_cons_zero, List.set_cons_succ]
  refine held_off (by rfl) ?_
  simp only [Act.put, List.setIfInBounds_toArray, List.set_cons_zero, List.set_cons_succ]
  refine held_off (by rfl) ?_
  simp only [Act.put, List.setIfInBounds_toArray, List.set_cons_zero, List.set_cons_succ]
  refine held_off (by rfl) ?_
  simp only [Act.put, List.setIfInBounds_toArray, List.set_cons_zero, List.set_cons_succ]
  refine held_off (by rfl) ?_
  simp only [Act.put, List.setIfInBounds_toArray, List.set_cons_zero, List.set_cons_succ]
  refine held_off (by rfl) ?_
  simp only [Act.put, List.setIfInBounds_toArray, List.set_cons_zero, List.set_cons_succ]
  refine held_val (v := ?_) (by rfl) (fun W' hW' => ?_) ?_; rotate_left; · (obtain ⟨c0, c1, c2, hb⟩ := hW'; go_simp; first | done | with_reducible rfl)
  simp only [Act.put, List.setIfInBounds_toArray, List.set_cons_zero, List.set_cons_succ]
  refine held_val (v := ?_) (by rfl) (fun W' hW' => ?_) ?_; rotate_left; · (obtain ⟨c0, c1, c2, hb⟩ := hW'; go_simp; first | done | with_reducible rfl)
  simp only [Act.put, List.setIfInBounds_toArray, List.set_cons_zero, List.set_cons_succ]
  refine held_nil (fun W' hW' => ?_)
  obtain ⟨_, _, _, hb⟩ := hW'
  clear c0 c1 c2 f0 f1 f2
  go_wp2_with (fail)
  go_ret
  exact ⟨rfl, below_trans hbW hb hwW⟩

set_option maxRecDepth 8000 in
set_option maxHeartbeats 2000000 in
theorem isSystem_rows (p a b : Int) (A : Option Addr) (c : Nat) (hs : List Hd) (w : World) (hR : RdR w A hs) (hT : Tab w) (h1 : fieldB p = true) (ha : 0 ≤ a ∧ a ≤ 24) (hb : 0 ≤ b ∧ b ≤ 100) (hl : ¬ hs.length ≤ 160) :
    Calls Tryd.prog 51 #[.int .i64 p, .agg #[.int .i64 a, .int .i64 b, .slice A hs.length c]] w fun e w' => e = .returned (.bool (false)) ∧ Below w.heap.size w w' := by
  have hbw : Below w.heap.size w (w.alloc (.cells #[.int .i64 a, .int .i64 b, .slice A hs.length c] 26)) := (Below.refl w.heap.size w).alloc (Nat.le_refl _) _
  obtain ⟨W, hW⟩ : ∃ W, W = w.alloc (.cells #[.int .i64 a, .int .i64 b, .slice A hs.length c] 26) := ⟨_, rfl⟩
  have hk : W.heap[w.heap.size]? = some (.cells #[.int .i64 a, .int .i64 b, .slice A hs.length c] 26) := by rw [hW]; exact heap_alloc_new w _
  obtain ⟨⟨c0, c1, c2⟩, f0, f1, f2⟩ := box3 hk
  have hTW : Tab W := by rw [hW]; exact hT.below hbw hT.lt
  have hRW : RdR W A hs := by rw [hW]; exact hR.below hbw
  have hwW : w.heap.size ≤ W.heap.size := by rw [hW]; exact hbw.size
  have hbW : Below w.heap.size w W := by rw [hW]; exact hbw
  have HF : ∀ w', Below W.heap.size W w' → Calls Tryd.prog 101 #[.int .i64 p] w' fun e w'' => e = .returned (.bool true) ∧ w' = w'' := fun w' h => by
    have := isField_any p w' (hTW.below h hTW.lt); rwa [h1] at this
  have HA : ∀ w', Calls Tryd.prog 102 #[.int .i64 a, .int .i64 0, .int .i64 24] w' fun e w'' => e = .returned (.bool true) ∧ w' = w'' := fun w' => by
    have := within_any a 0 24 w'; rwa [decide_eq_true ha.1, decide_eq_true ha.2, Bool.and_true] at this
  have HB : ∀ w', Calls Tryd.prog 102 #[.int .i64 b, .int .i64 0, .int .i64 100] w' fun e w'' => e = .returned (.bool true) ∧ w' = w'' := fun w' => by
    have := within_any b 0 100 w'; rwa [decide_eq_true hb.1, decide_eq_true hb.2, Bool.and_true] at this
  have d4 : decide ((hs.length : Int) ≤ 160) = false := decide_eq_false (by omega)
  have HFh := Lib.hid HF
  have HAh := Lib.hid HA
  have HBh := Lib.hid HB
  clear hk hT hR hbw HF hTW hRW HA HB hl
  go_enter Tryd.func51, Tryd.ntmps51
  go_wp2_with (fail)
  rw [← hW]
  clear hW
  refine wp_region_heldS 27 (fun w' => w'.cell? ⟨w.heap.size, 0, none⟩ = some (.int .i64 a) ∧ w'.cell? ⟨w.heap.size, 1, none⟩ = some (.int .i64 b) ∧ w'.cell? ⟨w.heap.size, 2, none⟩ = some (.slice A hs.length c) ∧ Below W.heap.size W w') (by kernel_rfl) (by kernel_rfl) ⟨c0, c1, c2, below_drewN (Below.refl _ _) 1⟩ ?_
  simp only [List.take_succ_cons, List.take_zero, List.drop_succ_cons, List.drop_zero]
  refine held_val (v := ?_) (by rfl) (fun W' hW' => ?_) ?_; rotate_left; · (obtain ⟨c0, c1, c2, hb⟩ := hW'; go_simp; first | done | with_reducible rfl)
  simp only [Act.put, List.setIfInBounds_toArray, List.set_cons_zero, List.set_cons_succ]
  refine' held_call (v := .bool true) (f := _) (args := _) (by rfl) (fun W' => ?_) (fun W' hW' => ?_) ?_; rotate_left 2; · (go_simp; first | done | with_reducible rfl | (constructor <;> with_reducible rfl))
  · (obtain ⟨c0, c1, c2, hb⟩ := hW'; refine (HFh.out _ hb).mono ?_; rintro e w' ⟨rfl, rfl⟩; exact ⟨rfl, c0, c1, c2, hb⟩)
  simp only [Act.put, List.setIfInBounds_toArray, List.set_cons_zero, List.set_cons_succ]
  refine held_val (v := ?_) (by rfl) (fun W' hW' => ?_) ?_; rotate_left; · (obtain ⟨c0, c1, c2, hb⟩ := hW'; go_simp; first | done | with_reducible rfl)
  simp only [Act.put, List.setIfInBounds_toArray, List.set_cons_zero, List.set_cons_succ]
  refine held_val (v := ?_) (by rfl) (fun W' hW' => ?_) ?_; rotate_left; · (obtain ⟨c0, c1, c2, hb⟩ := hW'; go_simp; first | done | with_reducible rfl)
  simp only [Act.put, List.setIfInBounds_toArray, List.set_cons_zero, List.set_cons_succ]
  refine held_val (v := ?_) (by rfl) (fun W' hW' => ?_) ?_; rotate_left; · (obtain ⟨c0, c1, c2, hb⟩ := hW'; go_simp; first | done | with_reducible rfl)
  simp only [Act.put, List.setIfInBounds_toArray, List.set_cons_zero, List.set_cons_succ]
  refine' held_call (v := .bool true) (f := _) (args := _) (by rfl) (fun W' => ?_) (fun W' hW' => ?_) ?_; rotate_left 2; · (go_simp; first | done | with_reducible rfl | (constructor <;> with_reducible rfl))
  · (obtain ⟨c0, c1, c2, hb⟩ := hW'; refine (HAh.out _).mono ?_; rintro e w' ⟨rfl, rfl⟩; exact ⟨rfl, c0, c1, c2, hb⟩)
  simp only [Act.put, List.setIfInBounds_toArray, List.set_cons_zero, List.set_cons_succ]
  refine held_val (v := ?_) (by rfl) (fun W' hW' => ?_) ?_; rotate_left; · (obtain ⟨c0, c1, c2, hb⟩ := hW'; go_simp; first | done | with_reducible rfl)
  simp only [Act.put, List.setIfInBounds_toArray, List.set_cons_zero, List.set_cons_succ]
  refine held_val (v := ?_) (by rfl) (fun W' hW' => ?_) ?_; rotate_left; · (obtain ⟨c0, c1, c2, hb⟩ := hW'; go_simp; first | done | with_reducible rfl)
  simp only [Act.put, List.setIfInBounds_toArray, List.set_cons_zero, List.set_cons_succ]
  refine held_val (v := ?_) (by rfl) (fun W' hW' => ?_) ?_; rotate_left; · (obtain ⟨c0, c1, c2, hb⟩ := hW'; go_simp; first | done | with_reducible rfl)
  simp only [Act.put, List.setIfInBounds_toArray, List.set_cons_zero, List.set_cons_succ]
  refine held_val (v := ?_) (by rfl) (fun W' hW' => ?_) ?_; rotate_left; · (obtain ⟨c0, c1, c2, hb⟩ := hW'; go_simp; first | done | with_reducible rfl)
  simp only [Act.put, List.setIfInBounds_toArray, List.set_cons_zero, List.set_cons_succ]
  refine' held_call (v := .bool true) (f := _) (args := _) (by rfl) (fun W' => ?_) (fun W' hW' => ?_) ?_; rotate_left 2; · (go_simp; first | done | with_reducible rfl | (constructor <;> with_reducible rfl))
  · (obtain ⟨c0, c1, c2, hb⟩ := hW'; refine (HBh.out _).mono ?_; rintro e w' ⟨rfl, rfl⟩; exact ⟨rfl, c0, c1, c2, hb⟩)
  simp only [Act.put, List.setIfInBounds_toArray, List.set_cons_zero, List.set_cons_succ]
  refine held_val (v := ?_) (by rfl) (fun W' hW' => ?_) ?_; rotate_left; · (obtain ⟨c0, c1, c2, hb⟩ := hW'; go_simp; first | done | with_reducible rfl)
  simp only [Act.put, List.setIfInBounds_toArray, List.set_cons_zero, List.set_cons_succ]
  refine held_val (v := ?_) (by rfl) (fun W' hW' => ?_) ?_; rotate_left; · (obtain ⟨c0, c1, c2, hb⟩ := hW'; go_simp; first | done | with_reducible rfl)
  simp only [Act.put, List.setIfInBounds_toArray, List.set_cons_zero, List.set_cons_succ]
  refine held_val (v := ?_) (by rfl) (fun W' hW' => ?_) ?_; rotate_left; · (obtain ⟨c0, c1, c2, hb⟩ := hW'; go_simp; first | done | with_reducible rfl)
  simp only [Act.put, List.setIfInBounds_toArray, List.set_cons_zero, List.set_cons_succ]
  refine held_val (v := ?_) (by rfl) (fun W' hW' => ?_) ?_; rotate_left; · (obtain ⟨c0, c1, c2, hb⟩ := hW'; go_simp; first | done | with_reducible rfl)
  simp only [Act.put, List.setIfInBounds_toArray, List.set_cons_zero, List.set_cons_succ]
  refine held_val (v := ?_) (by rfl) (fun W' hW' => ?_) ?_; rotate_left; · (obtain ⟨c0, c1, c2, hb⟩ := hW'; go_simp; first | done | with_reducible rfl)
  simp only [Act.put, List.setIfInBounds_toArray, List.set_cons_zero, List.set_cons_succ]
  refine held_val (v := ?_) (by rfl) (fun W' hW' => ?_) ?_; rotate_left; · (obtain ⟨c0, c1, c2, hb⟩ := hW'; go_simp; first | done | with_reducible rfl)
  simp only [Act.put, List.setIfInBounds_toArray, List.set_cons_zero, List.set_cons_succ]
  refine held_val (v := ?_) (by rfl) (fun W' hW' => ?_) ?_; rotate_left; · (obtain ⟨c0, c1, c2, hb⟩ := hW'; go_simp; first | done | with_reducible rfl)
  simp only [Act.put, List.setIfInBounds_toArray, List.set_cons_zero, List.set_cons_succ]
  refine held_val (v := ?_) (by rfl) (fun W' hW' => ?_) ?_; rotate_left; · (obtain ⟨c0, c1, c2, hb⟩ := hW'; go_simp; first | done | with_reducible rfl)
  simp only [Act.put, List.setIfInBounds_toArray, List.set_cons_zero, List.set_cons_succ]
  refine held_off (by rfl) ?_
  simp only [Act.put, List.setIfInBounds_toArray, List.set_cons_zero, List.set_cons_succ]
  refine held_off (by rfl) ?_
  simp only [Act.put, List.setIfInBounds_toArray, List.set_cons_zero, List.set_cons_succ]
  refine held_off (by rfl) ?_
  simp only [Act.put, List.setIfInBounds_toArray, List.set_cons_zero, List.set_cons_succ]
  refine held_off (by rfl) ?_
  simp only [Act.put, List.setIfInBounds_toArray, List.set_cons_zero, List.set_cons_succ]
  refine held_off (by rfl) ?_
  simp only [Act.put, List.setIfInBounds_toArray, List.set_cons_zero, List.set_cons_succ]
  refine held_off (by rfl) ?_
  simp only [Act.put, List.setIfInBounds_toArray, List.set_cons_zero, List.set_cons_succ]
  refine held_val (v := ?_) (by rfl) (fun W' hW' => ?_) ?_; rotate_left; · (obtain ⟨c0, c1, c2, hb⟩ := hW'; go_simp; first | done | with_reducible rfl)
  simp only [Act.put, List.setIfInBounds_toArray, List.set_cons_zero, List.set_cons_succ]
  refine held_val (v := ?_) (by rfl) (fun W' hW' => ?_) ?_; rotate_left; · (obtain ⟨c0, c1, c2, hb⟩ := hW'; go_simp; first | done | with_reducible rfl)
  simp only [Act.put, List.setIfInBounds_toArray, List.set_cons_zero, List.set_cons_succ]
  refine held_nil (fun W' hW' => ?_)
  obtain ⟨_, _, _, hb⟩ := hW'
  clear c0 c1 c2 f0 f1 f2
  go_wp2_with (fail)
  go_ret
  exact ⟨rfl, below_trans hbW hb hwW⟩

set_option maxRecDepth 8000 in
set_option maxHeartbeats 2000000 in
theorem isSystem_true (p a b : Int) (A : Option Addr) (c : Nat) (hs : List Hd) (w : World) (hR : RdR w A hs) (hT : Tab w) (h1 : fieldB p = true) (ha : 0 ≤ a ∧ a ≤ 24) (hb : 0 ≤ b ∧ b ≤ 100) (hl : hs.length ≤ 160) (hrr : ∀ x, x ∈ hs → x.2.2.length ≤ 17592186044416) :
    Calls Tryd.prog 51 #[.int .i64 p, .agg #[.int .i64 a, .int .i64 b, .slice A hs.length c]] w fun e w' => e = .returned (.bool (rowsB p (a + b) (hs.map fun h : Hd => h.2.2))) ∧ Below w.heap.size w w' := by
  obtain ⟨X, hX⟩ : ∃ X, X = rowsB p (a + b) (hs.map fun h : Hd => h.2.2) := ⟨_, rfl⟩
  rw [← hX]
  have HX := Lib.hid hX
  clear hX
  have hpb := fieldB_bounds h1
  have hbw : Below w.heap.size w (w.alloc (.cells #[.int .i64 a, .int .i64 b, .slice A hs.length c] 26)) := (Below.refl w.heap.size w).alloc (Nat.le_refl _) _
  obtain ⟨W, hW⟩ : ∃ W, W = w.alloc (.cells #[.int .i64 a, .int .i64 b, .slice A hs.length c] 26) := ⟨_, rfl⟩
  have hk : W.heap[w.heap.size]? = some (.cells #[.int .i64 a, .int .i64 b, .slice A hs.length c] 26) := by rw [hW]; exact heap_alloc_new w _
  obtain ⟨⟨c0, c1, c2⟩, f0, f1, f2⟩ := box3 hk
  have hTW : Tab W := by rw [hW]; exact hT.below hbw hT.lt
  have hRW : RdR W A hs := by rw [hW]; exact hR.below hbw
  have hwW : w.heap.size ≤ W.heap.size := by rw [hW]; exact hbw.size
  have hbW : Below w.heap.size w W := by rw [hW]; exact hbw
  have HF : ∀ w', Below W.heap.size W w' → Calls Tryd.prog 101 #[.int .i64 p] w' fun e w'' => e = .returned (.bool true) ∧ w' = w'' := fun w' h => by
    have := isField_any p w' (hTW.below h hTW.lt); rwa [h1] at this
  have HA : ∀ w', Calls Tryd.prog 102 #[.int .i64 a, .int .i64 0, .int .i64 24] w' fun e w'' => e = .returned (.bool true) ∧ w' = w'' := fun w' => by
    have := within_any a 0 24 w'; rwa [decide_eq_true ha.1, decide_eq_true ha.2, Bool.and_true] at this
  have HB : ∀ w', Calls Tryd.prog 102 #[.int .i64 b, .int .i64 0, .int .i64 100] w' fun e w'' => e = .returned (.bool true) ∧ w' = w'' := fun w' => by
    have := within_any b 0 100 w'; rwa [decide_eq_true hb.1, decide_eq_true hb.2, Bool.and_true] at this
  have HV : ∀ w', Below W.heap.size W w' → Calls Tryd.prog 103 #[.int .i64 p, .slice A hs.length c, .int .i64 (a + b)] w' fun e w'' => e = .returned (.bool X) ∧ w' = w'' := fun w' h => by
    have := areVectors_any p (a + b) A c hs w' (hRW.below h) (by omega) hrr; rwa [← HX.out] at this
  have HVh := Lib.hid HV
  have HSz := Lib.hid (fun w' => size_any a b (.slice A hs.length c) w' ha hb)
  have d4 : decide ((hs.length : Int) ≤ 160) = true := decide_eq_true (by omega)
  have HFh := Lib.hid HF
  have HAh := Lib.hid HA
  have HBh := Lib.hid HB
  clear hk hT hR hbw HF hTW hRW HA HB HV hrr
  go_enter Tryd.func51, Tryd.ntmps51
  go_wp2_with (fail)
  rw [← hW]
  clear hW
  refine wp_region_heldS 27 (fun w' => w'.cell? ⟨w.heap.size, 0, none⟩ = some (.int .i64 a) ∧ w'.cell? ⟨w.heap.size, 1, none⟩ = some (.int .i64 b) ∧ w'.cell? ⟨w.heap.size, 2, none⟩ = some (.slice A hs.length c) ∧ Below W.heap.size W w') (by kernel_rfl) (by kernel_rfl) ⟨c0, c1, c2, below_drewN (Below.refl _ _) 1⟩ ?_
  simp only [List.take_succ_cons, List.take_zero, List.drop_succ_cons, List.drop_zero]
  refine held_val (v := ?_) (by rfl) (fun W' hW' => ?_) ?_; rotate_left; · (obtain ⟨c0, c1, c2, hb⟩ := hW'; go_simp; first | done | with_reducible rfl)
  simp only [Act.put, List.setIfInBounds_toArray, List.set_cons_zero, List.set_cons_succ]
  refine' held_call (v := .bool true) (f := _) (args := _) (by rfl) (fun W' => ?_) (fun W' hW' => ?_) ?_; rotate_left 2; · (go_simp; first | done | with_reducible rfl | (constructor <;> with_reducible rfl))
  · (obtain ⟨c0, c1, c2, hb⟩ := hW'; refine (HFh.out _ hb).mono ?_; rintro e w' ⟨rfl, rfl⟩; exact ⟨rfl, c0, c1, c2, hb⟩)
  simp only [Act.put, List.setIfInBounds_toArray, List.set_cons_zero, List.set_cons_succ]
  refine held_val (v := ?_) (by rfl) (fun W' hW' => ?_) ?_; rotate_left; · (obtain ⟨c0, c1, c2, hb⟩ := hW'; go_simp; first | done | with_reducible rfl)
  simp only [Act.put, List.setIfInBounds_toArray, List.set_cons_zero, List.set_cons_succ]
  refine held_val (v := ?_) (by rfl) (fun W' hW' => ?_) ?_; rotate_left; · (obtain ⟨c0, c1, c2, hb⟩ := hW'; go_simp; first | done | with_reducible rfl)
  simp only [Act.put, List.setIfInBounds_toArray, List.set_cons_zero, List.set_cons_succ]
  refine held_val (v := ?_) (by rfl) (fun W' hW' => ?_) ?_; rotate_left; · (obtain ⟨c0, c1, c2, hb⟩ := hW'; go_simp; first | done | with_reducible rfl)
  simp only [Act.put, List.setIfInBounds_toArray, List.set_cons_zero, List.set_cons_succ]
  refine' held_call (v := .bool true) (f := _) (args := _) (by rfl) (fun W' => ?_) (fun W' hW' => ?_) ?_; rotate_left 2; · (go_simp; first | done | with_reducible rfl | (constructor <;> with_reducible rfl))
  · (obtain ⟨c0, c1, c2, hb⟩ := hW'; refine (HAh.out _).mono ?_; rintro e w' ⟨rfl, rfl⟩; exact ⟨rfl, c0, c1, c2, hb⟩)
  simp only [Act.put, List.setIfInBounds_toArray, List.set_cons_zero, List.set_cons_succ]
  refine held_val (v := ?_) (by rfl) (fun W' hW' => ?_) ?_; rotate_left; · (obtain ⟨c0, c1, c2, hb⟩ := hW'; go_simp; first | done | with_reducible rfl)
  simp only [Act.put, List.setIfInBounds_toArray, List.set_cons_zero, List.set_cons_succ]
  refine held_val (v := ?_) (by rfl) (fun W' hW' => ?_) ?_; rotate_left; · (obtain ⟨c0, c1, c2, hb⟩ := hW'; go_simp; first | done | with_reducible rfl)
  simp only [Act.put, List.setIfInBounds_toArray, List.set_cons_zero, List.set_cons_succ]
  refine held_val (v := ?_) (by rfl) (fun W' hW' => ?_) ?_; rotate_left; · (obtain ⟨c0, c1, c2, hb⟩ := hW'; go_simp; first | done | with_reducible rfl)
  simp only [Act.put, List.setIfInBounds_toArray, List.set_cons_zero, List.set_cons_succ]
  refine held_val (v := ?_) (by rfl) (fun W' hW' => ?_) ?_; rotate_left; · (obtain ⟨c0, c1, c2, hb⟩ := hW'; go_simp; first | done | with_reducible rfl)
  simp only [Act.put, List.setIfInBounds_toArray, List.set_cons_zero, List.set_cons_succ]
  refine' held_call (v := .bool true) (f := _) (args := _) (by rfl) (fun W' => ?_) (fun W' hW' => ?_) ?_; rotate_left 2; · (go_simp; first | done | with_reducible rfl | (constructor <;> with_reducible rfl))
  · (obtain ⟨c0, c1, c2, hb⟩ := hW'; refine (HBh.out _).mono ?_; rintro e w' ⟨rfl, rfl⟩; exact ⟨rfl, c0, c1, c2, hb⟩)
  simp only [Act.put, List.setIfInBounds_toArray, List.set_cons_zero, List.set_cons_succ]
  refine held_val (v := ?_) (by rfl) (fun W' hW' => ?_) ?_; rotate_left; · (obtain ⟨c0, c1, c2, hb⟩ := hW'; go_simp; first | done | with_reducible rfl)
  simp only [Act.put, List.setIfInBounds_toArray, List.set_cons_zero, List.set_cons_succ]
  refine held_val (v := ?_) (by rfl) (fun W' hW' => ?_) ?_; rotate_left; · (obtain ⟨c0, c1, c2, hb⟩ := hW'; go_simp; first | done | with_reducible rfl)
  simp only [Act.put, List.setIfInBounds_toArray, List.set_cons_zero, List.set_cons_succ]
  refine held_val (v := ?_) (by rfl) (fun W' hW' => ?_) ?_; rotate_left; · (obtain ⟨c0, c1, c2, hb⟩ := hW'; go_simp; first | done | with_reducible rfl)
  simp only [Act.put, List.setIfInBounds_toArray, List.set_cons_zero, List.set_cons_succ]
  refine held_val (v := ?_) (by rfl) (fun W' hW' => ?_) ?_; rotate_left; · (obtain ⟨c0, c1, c2, hb⟩ := hW'; go_simp; first | done | with_reducible rfl)
  simp only [Act.put, List.setIfInBounds_toArray, List.set_cons_zero, List.set_cons_succ]
  refine held_val (v := ?_) (by rfl) (fun W' hW' => ?_) ?_; rotate_left; · (obtain ⟨c0, c1, c2, hb⟩ := hW'; go_simp; first | done | with_reducible rfl)
  simp only [Act.put, List.setIfInBounds_toArray, List.set_cons_zero, List.set_cons_succ]
  refine held_val (v := ?_) (by rfl) (fun W' hW' => ?_) ?_; rotate_left; · (obtain ⟨c0, c1, c2, hb⟩ := hW'; go_simp; first | done | with_reducible rfl)
  simp only [Act.put, List.setIfInBounds_toArray, List.set_cons_zero, List.set_cons_succ]
  refine held_val (v := ?_) (by rfl) (fun W' hW' => ?_) ?_; rotate_left; · (obtain ⟨c0, c1, c2, hb⟩ := hW'; go_simp; first | done | with_reducible rfl)
  simp only [Act.put, List.setIfInBounds_toArray, List.set_cons_zero, List.set_cons_succ]
  refine held_val (v := ?_) (by rfl) (fun W' hW' => ?_) ?_; rotate_left; · (obtain ⟨c0, c1, c2, hb⟩ := hW'; go_simp; first | done | with_reducible rfl)
  simp only [Act.put, List.setIfInBounds_toArray, List.set_cons_zero, List.set_cons_succ]
  refine held_val (v := ?_) (by rfl) (fun W' hW' => ?_) ?_; rotate_left; · (obtain ⟨c0, c1, c2, hb⟩ := hW'; go_simp; first | done | with_reducible rfl)
  simp only [Act.put, List.setIfInBounds_toArray, List.set_cons_zero, List.set_cons_succ]
  refine held_val (v := ?_) (by rfl) (fun W' hW' => ?_) ?_; rotate_left; · (obtain ⟨c0, c1, c2, hb⟩ := hW'; go_simp; first | done | with_reducible rfl)
  simp only [Act.put, List.setIfInBounds_toArray, List.set_cons_zero, List.set_cons_succ]
  refine held_val (v := ?_) (by rfl) (fun W' hW' => ?_) ?_; rotate_left; · (obtain ⟨c0, c1, c2, hb⟩ := hW'; go_simp; first | done | with_reducible rfl)
  simp only [Act.put, List.setIfInBounds_toArray, List.set_cons_zero, List.set_cons_succ]
  refine held_val (v := ?_) (by rfl) (fun W' hW' => ?_) ?_; rotate_left; · (obtain ⟨c0, c1, c2, hb⟩ := hW'; go_simp; first | done | with_reducible rfl)
  simp only [Act.put, List.setIfInBounds_toArray, List.set_cons_zero, List.set_cons_succ]
  refine' held_call (v := .int .i64 (a + b)) (f := _) (args := _) (by rfl) (fun W' => ?_) (fun W' hW' => ?_) ?_; rotate_left 2; · (go_simp; first | done | with_reducible rfl | (constructor <;> with_reducible rfl))
  · (obtain ⟨c0, c1, c2, hb⟩ := hW'; refine (HSz.out W').mono ?_; rintro e w' ⟨rfl, rfl⟩; (have hb1 : Below W'.heap.size W' (W'.alloc (.cells #[.int .i64 a, .int .i64 b, .slice A hs.length c] 26)) := (Below.refl _ _).alloc (Nat.le_refl _) _); exact ⟨rfl, (hb1.cell (World.block_lt_of_cell? _ _ c0)).trans c0, (hb1.cell (World.block_lt_of_cell? _ _ c1)).trans c1, (hb1.cell (World.block_lt_of_cell? _ _ c2)).trans c2, below_trans hb hb1 hb.size⟩)
  simp only [Act.put, List.setIfInBounds_toArray, List.set_cons_zero, List.set_cons_succ]
  refine' held_call (v := .bool X) (f := _) (args := _) (by rfl) (fun W' => ?_) (fun W' hW' => ?_) ?_; rotate_left 2; · (go_simp; first | done | with_reducible rfl | (constructor <;> with_reducible rfl))
  · (obtain ⟨c0, c1, c2, hb⟩ := hW'; refine (HVh.out _ hb).mono ?_; rintro e w' ⟨rfl, rfl⟩; exact ⟨rfl, c0, c1, c2, hb⟩)
  simp only [Act.put, List.setIfInBounds_toArray, List.set_cons_zero, List.set_cons_succ]
  refine held_val (v := ?_) (by rfl) (fun W' hW' => ?_) ?_; rotate_left; · (obtain ⟨c0, c1, c2, hb⟩ := hW'; go_simp; first | done | with_reducible rfl)
  simp only [Act.put, List.setIfInBounds_toArray, List.set_cons_zero, List.set_cons_succ]
  refine held_val (v := ?_) (by rfl) (fun W' hW' => ?_) ?_; rotate_left; · (obtain ⟨c0, c1, c2, hb⟩ := hW'; go_simp; first | done | with_reducible rfl)
  simp only [Act.put, List.setIfInBounds_toArray, List.set_cons_zero, List.set_cons_succ]
  refine held_nil (fun W' hW' => ?_)
  obtain ⟨_, _, _, hb⟩ := hW'
  clear c0 c1 c2 f0 f1 f2
  go_wp2_with (fail)
  go_ret
  exact ⟨rfl, below_trans hbW hb hwW⟩

theorem isSystem_any (p : Int) {v : Value} {s : Sys} (w : World) (h : RdSysV w v s) (hT : Tab w) (hn : s.2.2.length ≤ 1048576) (hr : ∀ x, x ∈ s.2.2 → x.length ≤ 1048576) :
    Calls Tryd.prog 51 #[.int .i64 p, v] w fun e w' => e = .returned (.bool (sysB p s)) ∧ Below w.heap.size w w' := by
  obtain ⟨A, c, hs, rfl, hL, hR⟩ := h
  obtain ⟨a, b, L⟩ := s
  have hL' : L = hs.map (fun h : Hd => h.2.2) := hL
  subst hL'
  have hrr : ∀ x, x ∈ hs → x.2.2.length ≤ 17592186044416 := fun x hx => by have := hr _ (List.mem_map_of_mem hx); omega
  have key : ∀ B : Bool, sysB p (a, b, hs.map fun h : Hd => h.2.2) = B → Calls Tryd.prog 51 #[.int .i64 p, .agg #[.int .i64 a, .int .i64 b, .slice A hs.length c]] w (fun e w' => e = .returned (.bool B) ∧ Below w.heap.size w w') →
      Calls Tryd.prog 51 #[.int .i64 p, .agg #[.int .i64 a, .int .i64 b, .slice A hs.length c]] w (fun e w' => e = .returned (.bool (sysB p (a, b, hs.map fun h : Hd => h.2.2))) ∧ Below w.heap.size w w') := fun B e hc => by rw [e]; exact hc
  by_cases h1 : fieldB p = true
  case neg => exact key false (by simp [sysB, h1]) (isSystem_field p a b A c hs w hR hT (by simpa using h1))
  by_cases h2 : 0 ≤ a ∧ a ≤ 24
  case neg => exact key false (by have : (decide (0 ≤ a) && decide (a ≤ 24)) = false := by simp; omega
                                  unfold sysB; rw [this]; simp) (isSystem_vis p a b A c hs w hR hT h1 h2)
  by_cases h3 : 0 ≤ b ∧ b ≤ 100
  case neg => exact key false (by have : (decide (0 ≤ b) && decide (b ≤ 100)) = false := by simp; omega
                                  unfold sysB; simp only [this]; simp) (isSystem_hid p a b A c hs w hR hT h1 h2 h3)
  by_cases h4 : hs.length ≤ 160
  case neg => exact key false (by unfold sysB; simp [h4]) (isSystem_rows p a b A c hs w hR hT h1 h2 h3 h4)
  exact key _ (by unfold sysB; simp [h1, h2.1, h2.2, h3.1, h3.2, h4]) (isSystem_true p a b A c hs w hR hT h1 h2 h3 h4 hrr)
end Go.Proofs.YtahnhblodfdfhaaDoor
