/-
  THE WALK: the closure of impl.reduction that makes a row operation in both lists of rows.
-/
import Derived.Test.YtomekicglojhhaaDoorApply
namespace Go.Proofs.YtomekicglojhhaaDoor
open Go.RowKit

/-- What the closure has captured, and the two lists of rows. -/
structure Cap (w : World) (p : Int) (P4 P5 P7 : Nat) (A : Option Addr) (cap : Nat) (L : List (List Int)) (fp : List Nat) (A' : Option Addr) (cap' : Nat) (K : List (List Int)) (fp' : List Nat) (m : Nat) : Prop where
  c4 : w.cell? ⟨P4, 0, none⟩ = some (.int .i64 p)
  c5 : w.cell? ⟨P5, 0, none⟩ = some (.slice A m cap)
  c7 : w.cell? ⟨P7, 0, none⟩ = some (.slice A' m cap')
  rows : RwF w A cap L fp
  also : RwF w A' cap' K fp'
  ap : ∀ b, b ∈ fp → ¬ b ∈ fp'
  n4 : ¬ P4 ∈ fp ∧ ¬ P4 ∈ fp'
  n5 : ¬ P5 ∈ fp ∧ ¬ P5 ∈ fp'
  n7 : ¬ P7 ∈ fp ∧ ¬ P7 ∈ fp'
section
variable {w w' : World} {p : Int} {P4 P5 P7 : Nat} {A : Option Addr} {cap : Nat} {L L' : List (List Int)} {fp : List Nat} {A' : Option Addr} {cap' : Nat} {K K' : List (List Int)} {fp' : List Nat} {m : Nat}
theorem Cap.below (h : Cap w p P4 P5 P7 A cap L fp A' cap' K fp' m) (hb : Below w.heap.size w w') : Cap w' p P4 P5 P7 A cap L fp A' cap' K fp' m :=
  ⟨(hb.cell (World.block_lt_of_cell? _ _ h.c4)).trans h.c4, (hb.cell (World.block_lt_of_cell? _ _ h.c5)).trans h.c5, (hb.cell (World.block_lt_of_cell? _ _ h.c7)).trans h.c7, h.rows.below hb, h.also.below hb, h.ap, h.n4, h.n5, h.n7⟩
theorem Cap.first (h : Cap w p P4 P5 P7 A cap L fp A' cap' K fp' m) (hR : RwF w' A cap L' fp) (hk : Keeps (· ∈ fp) w w') : Cap w' p P4 P5 P7 A cap L' fp A' cap' K fp' m :=
  ⟨keeps_cell hk h.c4 h.n4.1, keeps_cell hk h.c5 h.n5.1, keeps_cell hk h.c7 h.n7.1, hR, h.also.keeps hk fun b hb hb' => h.ap b hb' hb, h.ap, h.n4, h.n5, h.n7⟩
theorem Cap.second (h : Cap w p P4 P5 P7 A cap L fp A' cap' K fp' m) (hR : RwF w' A' cap' K' fp') (hk : Keeps (· ∈ fp') w w') : Cap w' p P4 P5 P7 A cap L fp A' cap' K' fp' m :=
  ⟨keeps_cell hk h.c4 h.n4.2, keeps_cell hk h.c5 h.n5.2, keeps_cell hk h.c7 h.n7.2, h.rows.keeps hk fun b hb hb' => h.ap b hb hb', hR, h.ap, h.n4, h.n5, h.n7⟩
end

theorem swapL_self (L : List (List Int)) (r : Nat) : swapL L r r = L := by
  unfold swapL; rw [set_getD, set_getD]

set_option maxRecDepth 8000 in
set_option maxHeartbeats 2000000 in
theorem stepX_any (p : Int) (r q m : Nat) (P4 P5 P7 : Nat) (A : Option Addr) (cap : Nat) (L : List (List Int)) (fp : List Nat) (A' : Option Addr) (cap' : Nat) (K : List (List Int)) (fp' : List Nat) (w : World)
    (h : Cap w p P4 P5 P7 A cap L fp A' cap' K fp' m) (hL : L.length = m) (hK : K.length = m) (hr : r < m) (hq : q < m) (hm : m ≤ 1048576) (hnf : ¬ w.heap.size ∈ fp) :
    Calls Tryd.prog 153 #[.agg #[.int .i64 0, .int .i64 r, .int .i64 q, .int .i64 0], .pointer (some ⟨P4, 0, none⟩), .pointer (some ⟨P5, 0, none⟩), .pointer (some ⟨P7, 0, none⟩)] w
      fun e w' => e = .returned (.tuple #[]) ∧ Cap w' p P4 P5 P7 A cap (swapL L r q) fp A' cap' (swapL K r q) fp' m ∧ Keeps (fun b => b ∈ fp ∨ b ∈ fp') w w' := by
  have hbw : Below w.heap.size w (w.alloc (.cells #[.int .i64 0, .int .i64 r, .int .i64 q, .int .i64 0] tOp)) := (Below.refl _ _).alloc (Nat.le_refl _) _
  by_cases hrq : r = q
  · subst hrq
    go_enter Tryd.func153, Tryd.ntmps153
    go_wp2_with (fail)
    refine bodyPost_ret (results_none rfl _ _ _) rfl ?_
    refine ⟨rfl, ?_, Keeps.of_below hbw _⟩
    rw [swapL_self, swapL_self]
    exact h.below hbw
  · have hne : ((q : Int) == (r : Int)) = false := by rw [beq_eq_false_iff_ne]; omega
    have hne2 : ((r : Int) == (q : Int)) = false := by rw [beq_eq_false_iff_ne]; omega
    clear hbw
    have hbw : Below w.heap.size w (w.alloc (.cells #[.int .i64 0, .int .i64 r, .int .i64 q, .int .i64 0] tOp)) := (Below.refl _ _).alloc (Nat.le_refl _) _
    have hW := h.below hbw
    have HB := Lib.hid hbw
    have HC := Lib.hid hW
    have d4 := hW.c4
    have d5 := hW.c5
    have d7 := hW.c7
    clear hbw hW h
    go_enter Tryd.func153, Tryd.ntmps153
    go_wp2_with (fail)
    refine (applyX_any p r q m A cap L fp _ HC.out.rows hL hr hq hm).mono ?_
    rintro e w1 ⟨rfl, h1, k1⟩
    have hF := HC.out.first h1 k1
    have HF := Lib.hid hF
    have e4 := hF.c4
    have e5 := hF.c5
    have e7 := hF.c7
    obtain ⟨g0, g1, g2, g3⟩ : w1.cell? ⟨w.heap.size, 0, none⟩ = some (.int .i64 0) ∧ w1.cell? ⟨w.heap.size, 1, none⟩ = some (.int .i64 r) ∧ w1.cell? ⟨w.heap.size, 2, none⟩ = some (.int .i64 q) ∧ w1.cell? ⟨w.heap.size, 3, none⟩ = some (.int .i64 0) := by
      obtain ⟨⟨a0, a1, a2, a3⟩, _⟩ := box4 (heap_alloc_new w (.cells #[.int .i64 0, .int .i64 r, .int .i64 q, .int .i64 0] tOp))
      exact ⟨keeps_cell k1 a0 hnf, keeps_cell k1 a1 hnf, keeps_cell k1 a2 hnf, keeps_cell k1 a3 hnf⟩
    clear d4 d5 d7 hF h1
    go_wp2_with (fail)
    refine (applyX_any p r q m A' cap' K fp' _ HF.out.also hK hr hq hm).mono ?_
    rintro e w2 ⟨rfl, h2, k2⟩
    go_wp2_with (fail)
    go_end0
    exact ⟨rfl, HF.out.second h2 k2, (Keeps.of_below HB.out _).trans ((k1.mono fun b _ hb => .inl hb).trans (k2.mono fun b _ hb => .inr hb))⟩

set_option maxRecDepth 8000 in
set_option maxHeartbeats 2000000 in
theorem stepD_any (p by_ : Int) (r : Nat) (m nn n2 : Nat) (P4 P5 P7 : Nat) (A : Option Addr) (cap : Nat) (L : List (List Int)) (fp : List Nat) (A' : Option Addr) (cap' : Nat) (K : List (List Int)) (fp' : List Nat) (w : World)
    (h : Cap w p P4 P5 P7 A cap L fp A' cap' K fp' m) (hL : Mat p m nn L) (hK : Mat p m n2 K) (hr : r < m) (hm : m ≤ 1048576) (hnl : nn ≤ 1048576) (hn2 : n2 ≤ 1048576) (h2 : 2 ≤ p) (h97 : p ≤ 97) (hb0 : 0 ≤ by_) (hb1 : by_ < p) (hi0 : 0 ≤ invM p by_) (hi1 : invM p by_ < p) (hnf : ¬ w.heap.size ∈ fp) :
    Calls Tryd.prog 153 #[.agg #[.int .i64 1, .int .i64 r, .int .i64 0, .int .i64 by_], .pointer (some ⟨P4, 0, none⟩), .pointer (some ⟨P5, 0, none⟩), .pointer (some ⟨P7, 0, none⟩)] w
      fun e w' => e = .returned (.tuple #[]) ∧ Cap w' p P4 P5 P7 A cap (scaleL p r (invM p by_) L) fp A' cap' (scaleL p r (invM p by_) K) fp' m ∧ Keeps (fun b => b ∈ fp ∨ b ∈ fp') w w' := by
  have hbw : Below w.heap.size w (w.alloc (.cells #[.int .i64 1, .int .i64 r, .int .i64 0, .int .i64 by_] tOp)) := (Below.refl _ _).alloc (Nat.le_refl _) _
  have hW := h.below hbw
  have HB := Lib.hid hbw
  have HC := Lib.hid hW
  have d4 := hW.c4
  have d5 := hW.c5
  have d7 := hW.c7
  clear hbw hW h
  go_enter Tryd.func153, Tryd.ntmps153
  go_wp2_with (fail)
  refine (applyD_any p by_ r m nn A cap L fp _ HC.out.rows hL hr hm hnl h2 h97 hb0 hb1 hi0 hi1).mono ?_
  rintro e w1 ⟨rfl, h1, k1⟩
  have hF := HC.out.first h1 k1
  have HF := Lib.hid hF
  have e4 := hF.c4
  have e5 := hF.c5
  have e7 := hF.c7
  obtain ⟨g0, g1, g2, g3⟩ : w1.cell? ⟨w.heap.size, 0, none⟩ = some (.int .i64 1) ∧ w1.cell? ⟨w.heap.size, 1, none⟩ = some (.int .i64 r) ∧ w1.cell? ⟨w.heap.size, 2, none⟩ = some (.int .i64 0) ∧ w1.cell? ⟨w.heap.size, 3, none⟩ = some (.int .i64 by_) := by
    obtain ⟨⟨a0, a1, a2, a3⟩, _⟩ := box4 (heap_alloc_new w (.cells #[.int .i64 1, .int .i64 r, .int .i64 0, .int .i64 by_] tOp))
    exact ⟨keeps_cell k1 a0 hnf, keeps_cell k1 a1 hnf, keeps_cell k1 a2 hnf, keeps_cell k1 a3 hnf⟩
  clear d4 d5 d7 hF h1
  go_wp2_with (fail)
  refine (applyD_any p by_ r m n2 A' cap' K fp' _ HF.out.also hK hr hm hn2 h2 h97 hb0 hb1 hi0 hi1).mono ?_
  rintro e w2 ⟨rfl, h2, k2⟩
  go_wp2_with (fail)
  go_end0
  exact ⟨rfl, HF.out.second h2 k2, (Keeps.of_below HB.out _).trans ((k1.mono fun b _ hb => .inl hb).trans (k2.mono fun b _ hb => .inr hb))⟩

set_option maxRecDepth 8000 in
set_option maxHeartbeats 2000000 in
theorem stepS_any (p by_ : Int) (i r : Nat) (m nn n2 : Nat) (P4 P5 P7 : Nat) (A : Option Addr) (cap : Nat) (L : List (List Int)) (fp : List Nat) (A' : Option Addr) (cap' : Nat) (K : List (List Int)) (fp' : List Nat) (w : World)
    (h : Cap w p P4 P5 P7 A cap L fp A' cap' K fp' m) (hL : Mat p m nn L) (hK : Mat p m n2 K) (hi : i < m) (hr : r < m) (hne : i ≠ r) (hm : m ≤ 1048576) (hnl : nn ≤ 1048576) (hn2 : n2 ≤ 1048576) (h2 : 2 ≤ p) (h97 : p ≤ 97) (hb0 : 0 ≤ by_) (hb1 : by_ < p) (hnf : ¬ w.heap.size ∈ fp) :
    Calls Tryd.prog 153 #[.agg #[.int .i64 2, .int .i64 i, .int .i64 r, .int .i64 by_], .pointer (some ⟨P4, 0, none⟩), .pointer (some ⟨P5, 0, none⟩), .pointer (some ⟨P7, 0, none⟩)] w
      fun e w' => e = .returned (.tuple #[]) ∧ Cap w' p P4 P5 P7 A cap (L.set i (addT p (L.getD i []) (-by_) (L.getD r []))) fp A' cap' (K.set i (addT p (K.getD i []) (-by_) (K.getD r []))) fp' m ∧ Keeps (fun b => b ∈ fp ∨ b ∈ fp') w w' := by
  have hbw : Below w.heap.size w (w.alloc (.cells #[.int .i64 2, .int .i64 i, .int .i64 r, .int .i64 by_] tOp)) := (Below.refl _ _).alloc (Nat.le_refl _) _
  have hW := h.below hbw
  have HB := Lib.hid hbw
  have HC := Lib.hid hW
  have d4 := hW.c4
  have d5 := hW.c5
  have d7 := hW.c7
  clear hbw hW h
  go_enter Tryd.func153, Tryd.ntmps153
  go_wp2_with (fail)
  refine (applyS_any p by_ i r m nn A cap L fp _ HC.out.rows hL hi hr hne hm hnl h2 h97 hb0 hb1).mono ?_
  rintro e w1 ⟨rfl, h1, k1⟩
  have hF := HC.out.first h1 k1
  have HF := Lib.hid hF
  have e4 := hF.c4
  have e5 := hF.c5
  have e7 := hF.c7
  obtain ⟨g0, g1, g2, g3⟩ : w1.cell? ⟨w.heap.size, 0, none⟩ = some (.int .i64 2) ∧ w1.cell? ⟨w.heap.size, 1, none⟩ = some (.int .i64 i) ∧ w1.cell? ⟨w.heap.size, 2, none⟩ = some (.int .i64 r) ∧ w1.cell? ⟨w.heap.size, 3, none⟩ = some (.int .i64 by_) := by
    obtain ⟨⟨a0, a1, a2, a3⟩, _⟩ := box4 (heap_alloc_new w (.cells #[.int .i64 2, .int .i64 i, .int .i64 r, .int .i64 by_] tOp))
    exact ⟨keeps_cell k1 a0 hnf, keeps_cell k1 a1 hnf, keeps_cell k1 a2 hnf, keeps_cell k1 a3 hnf⟩
  clear d4 d5 d7 hF h1
  go_wp2_with (fail)
  refine (applyS_any p by_ i r m n2 A' cap' K fp' _ HF.out.also hK hi hr hne hm hn2 h2 h97 hb0 hb1).mono ?_
  rintro e w2 ⟨rfl, h2, k2⟩
  go_wp2_with (fail)
  go_end0
  exact ⟨rfl, HF.out.second h2 k2, (Keeps.of_below HB.out _).trans ((k1.mono fun b _ hb => .inl hb).trans (k2.mono fun b _ hb => .inr hb))⟩
end Go.Proofs.YtomekicglojhhaaDoor
