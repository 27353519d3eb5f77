/-
  THE WALKS: is it a term, and of what type, on both sides.
-/
import Derived.Test.YtlmnmdahphahfaaTmY
import Derived.Test.YtlmnmdahphahfaaTmB
import Derived.Deep.QuietTactic
import Derived.BigQuiet
namespace Go.Proofs.Ytlmnmdahphahfaa
open Go.RowKit

theorem RdC.keeps {w w' : World} {A : Option Addr} {xs : List Value} (h : RdC w A xs) {S : Nat → Prop} (hk : Keeps S w w') (hS : ∀ b, b ∈ fpA A → ¬ S b) : RdC w' A xs := fun j u hj => by
  obtain ⟨ad, hA, hc⟩ := h j u hj
  have hl := World.block_lt_of_cell? w _ hc
  rw [block_of_add] at hl
  exact ⟨ad, hA, (World.cell?_of_block (a := ad.add j) (by rw [block_of_add]; exact hk.block _ hl (hS _ (by simp [hA])))).trans hc⟩
theorem box1 {w : World} {B : Nat} {x : Value} {t : TypeId} (h : w.heap[B]? = some (.cells #[x] t)) : w.cell? ⟨B, 0, none⟩ = some x ∧ w.frozen? ⟨B, 0, none⟩ = false := by simp [World.cell?, World.frozen?, h]
/-- The type of a term. -/
def typeM (l : List Nd) : Int × Int × Bool := match treeM l with | some t => ((ty t).1, (ty t).2, true) | none => (0, 0, false)
theorem typeM_some {l : List Nd} {t : Tr} (h : treeM l = some t) : typeM l = ((ty t).1, (ty t).2, true) := by simp [typeM, h]
theorem typeM_none {l : List Nd} (h : treeM l = none) : typeM l = (0, 0, false) := by simp [typeM, h]

set_option maxRecDepth 8000 in
set_option maxHeartbeats 1000000 in
theorem wires_any {v : Value} {l : List Nd} {w : World} (h : RdTm w v l) :
    Calls Try.prog 45 #[v] w (TyA l w) := by
  obtain ⟨A, c, rfl, h⟩ := h
  obtain ⟨W, hW⟩ : ∃ W, W = (w.alloc (.cells #[.slice A l.length c] tTerm)).alloc (.cells #[.int .i64 0, .int .i64 0] tWires) := ⟨_, rfl⟩
  obtain ⟨b0, k0, k1, -⟩ := two_boxes w (.cells #[.slice A l.length c] tTerm) (.cells #[.int .i64 0, .int .i64 0] tWires)
  rw [← hW] at b0 k0 k1
  have hC := typed_any A c l W (h.below b0)
  obtain ⟨m, hm⟩ : ∃ m, m = l.length := ⟨_, rfl⟩
  rw [← hm] at hC hW k0 ⊢
  have b0_h := Lib.hid b0
  have k0_h := Lib.hid k0
  have k1_h := Lib.hid k1
  have hC_h := Lib.hid hC
  have hm_h := Lib.hid hm
  clear b0 k0 k1 hC hm
  clear h
  go_enter Try.func45, Try.ntmps45
  go_wp2_with (fail)
  rw [← hW]
  clear hW
  refine (hC_h.out).mono ?_
  rintro e w1 ⟨i, o, b, rfl, hb, ht, hb1⟩
  have hx := box_below k1_h.out hb1
  have hxl := box_lt hx
  obtain ⟨⟨c0, c1⟩, f0, f1⟩ := box2 hx
  obtain ⟨s1, s2⟩ := set2 (a := .int .i64 i) (b := .int .i64 o) hx
  have hB2 := below_keeps (below_trans b0_h.out hb1 b0_h.out.size) s2 (by omega) (fun k hk => by omega)
  have hx_h := Lib.hid hx
  have hb_h := Lib.hid hb
  have ht_h := Lib.hid ht
  have hb1_h := Lib.hid hb1
  have s1_h := Lib.hid s1
  have s2_h := Lib.hid s2
  have hB2_h := Lib.hid hB2
  clear hx hb ht hb1 s1 s2 hB2
  clear k0_h k1_h b0_h hC_h
  go_wp2_with (fail)
  refine bodyPost_ret (results_cell_tmp rfl _ _ (w.heap.size + 1) _ _ (0, 0) _ rfl s1_h.out Try.underlying54 rfl (by kernel_rfl)) rfl ?_
  exact ⟨i, o, b, rfl, hb_h.out, ht_h.out, hB2_h.out⟩

theorem isValid_any {v : Value} {l : List Nd} {w : World} (h : RdTm w v l) :
    Calls Try.prog 49 #[v] w fun e w' => ∃ b, e = .returned (.bool b) ∧ b = (treeM l).isSome ∧ Below w.heap.size w w' := by
  obtain ⟨A, c, rfl, h⟩ := h
  have hb0 := below_alloc w (.cells #[.slice A l.length c] tTerm)
  have hC := wires_any (v := .agg #[.slice A l.length c]) (l := l) (w := w.alloc (.cells #[.slice A l.length c] tTerm)) ⟨A, c, rfl, h.below hb0⟩
  obtain ⟨m, hm⟩ : ∃ m, m = l.length := ⟨_, rfl⟩
  rw [← hm] at hC hb0 ⊢
  have hC_h := Lib.hid hC
  have hm_h := Lib.hid hm
  have hb0_h := Lib.hid hb0
  clear hC hm hb0
  clear h
  go_enter Try.func49, Try.ntmps49
  go_wp2_with (fail)
  refine (hC_h.out).mono ?_
  rintro e w1 ⟨i, o, b, rfl, hb, ht, hb1⟩
  have hb_h := Lib.hid hb
  have ht_h := Lib.hid ht
  have hb1_h := Lib.hid hb1
  clear hb ht hb1
  go_wp2_with (fail)
  go_ret
  exact ⟨b, rfl, hb_h.out, below_trans (below_trans hb0_h.out hb1_h.out hb0_h.out.size) (below_alloc _ _) (Nat.le_trans hb0_h.out.size hb1_h.out.size)⟩

set_option maxRecDepth 8000 in
set_option maxHeartbeats 1000000 in
theorem iTypeOf_any {v : Value} {l : List Nd} {w : World} (h : RdTm w v l) :
    Calls Try.prog 16 #[v] w fun e w' => e = .returned (.tuple #[.int .i64 (typeM l).1, .int .i64 (typeM l).2.1, .bool (typeM l).2.2]) ∧ Below w.heap.size w w' := by
  obtain ⟨A, c, rfl, h⟩ := h
  have hb0 := below_alloc w (.cells #[.slice A l.length c] tTerm)
  have hC := wires_any (v := .agg #[.slice A l.length c]) (l := l) (w := w.alloc (.cells #[.slice A l.length c] tTerm)) ⟨A, c, rfl, h.below hb0⟩
  obtain ⟨m, hm⟩ : ∃ m, m = l.length := ⟨_, rfl⟩
  rw [← hm] at hC hb0 ⊢
  have hC_h := Lib.hid hC
  have hm_h := Lib.hid hm
  have hb0_h := Lib.hid hb0
  clear hC hm hb0
  clear h
  obtain ⟨T, hT⟩ : ∃ T, T = typeM l := ⟨_, rfl⟩
  rw [← hT]
  have hT_h := Lib.hid hT
  clear hT
  go_enter Try.func16, Try.ntmps16
  go_wp2_with (fail)
  refine (hC_h.out).mono ?_
  rintro e w1 ⟨i, o, b, rfl, hb, ht, hb1⟩
  have hB := below_trans (below_trans hb0_h.out hb1 hb0_h.out.size) (below_alloc w1 (.cells #[.int .i64 i, .int .i64 o] tWires)) (Nat.le_trans hb0_h.out.size hb1.size)
  cases b
  · have hN : treeM l = none := by cases h : treeM l with | none => rfl | some t => rw [h] at hb; cases hb
    obtain rfl : T = (0, 0, false) := by rw [hT_h.out, typeM_none hN]
    have hb_h := Lib.hid hb
    have ht_h := Lib.hid ht
    have hb1_h := Lib.hid hb1
    have hN_h := Lib.hid hN
    have hB_h := Lib.hid hB
    clear hb ht hb1 hN hB
    go_wp2_with (fail)
    go_ret3
    exact ⟨rfl, hB_h.out⟩
  · obtain ⟨t, hN⟩ : ∃ t, treeM l = some t := by cases h : treeM l with | none => rw [h] at hb; cases hb | some t => exact ⟨t, rfl⟩
    obtain rfl : T = (i, o, true) := by
      have := ht t hN
      rw [hT_h.out, typeM_some hN, ← this]
    have hb_h := Lib.hid hb
    have ht_h := Lib.hid ht
    have hb1_h := Lib.hid hb1
    have hN_h := Lib.hid hN
    have hB_h := Lib.hid hB
    clear hb ht hb1 hN hB
    go_wp2_with (fail)
    go_quiet (fail)
    go_wp2_with (fail)
    go_ret3
    exact ⟨rfl, below_drewN hB_h.out _⟩

set_option maxRecDepth 8000 in
set_option maxHeartbeats 1000000 in
theorem tmScan_any {v : Value} {l : List Nd} {w : World} (h : RdTm w v l) :
    Calls Try.prog 54 #[v] w (LbA l w) := by
  obtain ⟨A, c, rfl, h⟩ := h
  obtain ⟨W, hW⟩ : ∃ W, W = (w.alloc (.cells #[.slice A l.length c] tTerm)).alloc (.cells #[.slice none 0 0, .slice none 0 0, .slice none 0 0] tInfo) := ⟨_, rfl⟩
  obtain ⟨b0, k0, k1, -⟩ := two_boxes w (.cells #[.slice A l.length c] tTerm) (.cells #[.slice none 0 0, .slice none 0 0, .slice none 0 0] tInfo)
  rw [← hW] at b0 k0 k1
  have hC := lbScan_any A c l W (h.below b0)
  obtain ⟨m, hm⟩ : ∃ m, m = l.length := ⟨_, rfl⟩
  rw [← hm] at hC hW k0 ⊢
  have b0_h := Lib.hid b0
  have k0_h := Lib.hid k0
  have k1_h := Lib.hid k1
  have hC_h := Lib.hid hC
  have hm_h := Lib.hid hm
  clear b0 k0 k1 hC hm
  clear h
  go_enter Try.func54, Try.ntmps54
  go_wp2_with (fail)
  rw [← hW]
  clear hW
  refine (hC_h.out).mono ?_
  rintro e w1 ⟨A0, A1, A2, c0, c1, c2, n0, n1, n2, b, rfl, hb, ht, hb1⟩
  have hx := box_below k1_h.out hb1
  have hxl := box_lt hx
  obtain ⟨⟨x0, x1, x2⟩, f0, f1, f2⟩ := box3 hx
  obtain ⟨s1, s2⟩ := set3 (a := .slice A0 n0 c0) (b := .slice A1 n1 c1) (c := .slice A2 n2 c2) hx
  have hB2 := below_keeps (below_trans b0_h.out hb1 b0_h.out.size) s2 (by omega) (fun k hk => by omega)
  have hrd : ∀ t, treeM l = some t → n0 = sz t ∧ n1 = sz t ∧ n2 = sz t ∧ RdC (((w1.setCell ⟨w.heap.size + 1, 0, none⟩ (.slice A0 n0 c0)).setCell ⟨w.heap.size + 1, 1, none⟩ (.slice A1 n1 c1)).setCell ⟨w.heap.size + 1, 2, none⟩ (.slice A2 n2 c2)) A0 (ints (frL [t])) ∧ RdC (((w1.setCell ⟨w.heap.size + 1, 0, none⟩ (.slice A0 n0 c0)).setCell ⟨w.heap.size + 1, 1, none⟩ (.slice A1 n1 c1)).setCell ⟨w.heap.size + 1, 2, none⟩ (.slice A2 n2 c2)) A1 (ints (inL [t])) ∧ RdC (((w1.setCell ⟨w.heap.size + 1, 0, none⟩ (.slice A0 n0 c0)).setCell ⟨w.heap.size + 1, 1, none⟩ (.slice A1 n1 c1)).setCell ⟨w.heap.size + 1, 2, none⟩ (.slice A2 n2 c2)) A2 (ints (ouL [t])) ∧ ∀ b, b ∈ fpA A0 ∨ b ∈ fpA A1 ∨ b ∈ fpA A2 → w.heap.size ≤ b := by
    intro t h
    obtain ⟨a1, a2, a3, a4, a5, a6, a7⟩ := ht t h
    have hW2 := box_lt k1_h.out
    exact ⟨a1, a2, a3, a4.keeps s2 (fun b hb e => by have := a7 b (.inl hb); omega), a5.keeps s2 (fun b hb e => by have := a7 b (.inr (.inl hb)); omega), a6.keeps s2 (fun b hb e => by have := a7 b (.inr (.inr hb)); omega), fun b hb => Nat.le_trans b0_h.out.size (a7 b hb)⟩
  have hx_h := Lib.hid hx
  have hb_h := Lib.hid hb
  have ht_h := Lib.hid ht
  have hb1_h := Lib.hid hb1
  have s1_h := Lib.hid s1
  have s2_h := Lib.hid s2
  have hB2_h := Lib.hid hB2
  have hrd_h := Lib.hid hrd
  clear hx hb ht hb1 s1 s2 hB2 hrd
  clear k0_h k1_h b0_h hC_h
  go_wp2_with (fail)
  refine bodyPost_ret (results_cell_tmp rfl _ _ (w.heap.size + 1) _ _ (0, 0) _ rfl s1_h.out Try.underlying73 rfl (by kernel_rfl)) rfl ?_
  exact ⟨A0, A1, A2, c0, c1, c2, n0, n1, n2, b, rfl, hb_h.out, hrd_h.out, hB2_h.out⟩

theorem tmValid_any {v : Value} {l : List Nd} {w : World} (h : RdTm w v l) :
    Calls Try.prog 47 #[v] w fun e w' => ∃ b, e = .returned (.bool b) ∧ b = (treeM l).isSome ∧ Below w.heap.size w w' := by
  obtain ⟨A, c, rfl, h⟩ := h
  have hb0 := below_alloc w (.cells #[.slice A l.length c] tTerm)
  have hC := tmScan_any (v := .agg #[.slice A l.length c]) (l := l) (w := w.alloc (.cells #[.slice A l.length c] tTerm)) ⟨A, c, rfl, h.below hb0⟩
  obtain ⟨m, hm⟩ : ∃ m, m = l.length := ⟨_, rfl⟩
  rw [← hm] at hC hb0 ⊢
  have hC_h := Lib.hid hC
  have hm_h := Lib.hid hm
  have hb0_h := Lib.hid hb0
  clear hC hm hb0
  clear h
  go_enter Try.func47, Try.ntmps47
  go_wp2_with (fail)
  refine (hC_h.out).mono ?_
  rintro e w1 ⟨A0, A1, A2, c0, c1, c2, n0, n1, n2, b, rfl, hb, ht, hb1⟩
  have hb_h := Lib.hid hb
  have ht_h := Lib.hid ht
  have hb1_h := Lib.hid hb1
  clear hb ht hb1
  go_wp2_with (fail)
  go_ret
  exact ⟨b, rfl, hb_h.out, below_trans (below_trans hb0_h.out hb1_h.out hb0_h.out.size) (below_alloc _ _) (Nat.le_trans hb0_h.out.size hb1_h.out.size)⟩

/-- The last places of a tree's lists. -/
theorem lists_last (t : Tr) {k : Nat} (h : sz t = k + 1) : (frL [t])[k]? = some 0 ∧ (inL [t])[k]? = some (ty t).1 ∧ (ouL [t])[k]? = some (ty t).2 := by
  have := infos_at t [] (k := k + 1) (by simpa [flats, sz] using h)
  simpa [flats] using this

set_option maxRecDepth 8000 in
set_option maxHeartbeats 1000000 in
theorem tmType_any {v : Value} {l : List Nd} {w : World} (h : RdTm w v l) :
    Calls Try.prog 43 #[v] w fun e w' => e = .returned (.tuple #[.int .i64 (typeM l).1, .int .i64 (typeM l).2.1, .bool (typeM l).2.2]) ∧ Below w.heap.size w w' := by
  obtain ⟨A, c, rfl, h⟩ := h
  have hb0 := below_alloc w (.cells #[.slice A l.length c] tTerm)
  have hC := tmScan_any (v := .agg #[.slice A l.length c]) (l := l) (w := w.alloc (.cells #[.slice A l.length c] tTerm)) ⟨A, c, rfl, h.below hb0⟩
  have k0 := heap_alloc_new w (.cells #[.slice A l.length c] tTerm)
  obtain ⟨m, hm⟩ : ∃ m, m = l.length := ⟨_, rfl⟩
  rw [← hm] at hC hb0 k0 ⊢
  have hC_h := Lib.hid hC
  have hm_h := Lib.hid hm
  have hb0_h := Lib.hid hb0
  have k0_h := Lib.hid k0
  clear hC hm hb0 k0
  clear h
  obtain ⟨T, hT⟩ : ∃ T, T = typeM l := ⟨_, rfl⟩
  rw [← hT]
  have hT_h := Lib.hid hT
  clear hT
  go_enter Try.func43, Try.ntmps43
  go_wp2_with (fail)
  refine (hC_h.out).mono ?_
  rintro e w1 ⟨A0, A1, A2, c0, c1, c2, n0, n1, n2, b, rfl, hb, ht, hb1⟩
  have hB := below_trans (below_trans hb0_h.out hb1 hb0_h.out.size) (below_alloc w1 (.cells #[.slice A0 n0 c0, .slice A1 n1 c1, .slice A2 n2 c2] tInfo)) (Nat.le_trans hb0_h.out.size hb1.size)
  cases b
  · have hN : treeM l = none := by cases h : treeM l with | none => rfl | some t => rw [h] at hb; cases hb
    obtain rfl : T = (0, 0, false) := by rw [hT_h.out, typeM_none hN]
    have hb_h := Lib.hid hb
    have ht_h := Lib.hid ht
    have hb1_h := Lib.hid hb1
    have hN_h := Lib.hid hN
    have hB_h := Lib.hid hB
    clear hb ht hb1 hN hB
    go_wp2_with (fail)
    go_ret3
    exact ⟨rfl, hB_h.out⟩
  · obtain ⟨t, hN⟩ : ∃ t, treeM l = some t := by cases h : treeM l with | none => rw [h] at hb; cases hb | some t => exact ⟨t, rfl⟩
    obtain ⟨e1, -, -⟩ := treeM_some hN
    obtain ⟨a1, a2, a3, -, a5, a6, -⟩ := ht t hN
    have hmt : m = sz t := by rw [hm_h.out, e1]; rfl
    obtain ⟨k, hk⟩ : ∃ k, sz t = k + 1 := ⟨sz t - 1, by have := sz_pos t; omega⟩
    obtain ⟨-, l1, l2⟩ := lists_last t hk
    obtain ⟨i, hi⟩ : ∃ i, i = (ty t).1 := ⟨_, rfl⟩
    obtain ⟨o, ho⟩ : ∃ o, o = (ty t).2 := ⟨_, rfl⟩
    rw [← hi] at l1
    rw [← ho] at l2
    obtain rfl : T = (i, o, true) := by rw [hT_h.out, typeM_some hN, hi, ho]
    obtain ⟨ad1, hA1, x1⟩ := a5 k _ (ints_get l1)
    obtain ⟨ad2, hA2, x2⟩ := a6 k _ (ints_get l2)
    subst hA1 hA2
    obtain rfl : m = k + 1 := by omega
    obtain rfl : n1 = k + 1 := by omega
    obtain rfl : n2 = k + 1 := by omega
    have z1 := box_below k0_h.out hb1
    obtain ⟨z2, z3⟩ := box1 z1
    have hlt0 := box_lt z1
    have hlt1 := World.block_lt_of_cell? w1 _ x1
    have hlt2 := World.block_lt_of_cell? w1 _ x2
    have hkc : (k : Int) < (k : Int) + 1 := by omega
    have hk0 : (0 : Int) ≤ (k : Int) := by omega
    have hwk : IntKind.i64.wrap (k : Int) = (k : Int) := IntWalk.i64_in _ (by have := (treeM_some hN).2.2; omega)
    have hb_h := Lib.hid hb
    have ht_h := Lib.hid ht
    have hb1_h := Lib.hid hb1
    have hN_h := Lib.hid hN
    have hB_h := Lib.hid hB
    have e1_h := Lib.hid e1
    have a1_h := Lib.hid a1
    have a2_h := Lib.hid a2
    have a3_h := Lib.hid a3
    have a5_h := Lib.hid a5
    have a6_h := Lib.hid a6
    have hmt_h := Lib.hid hmt
    have hk_h := Lib.hid hk
    have l1_h := Lib.hid l1
    have l2_h := Lib.hid l2
    have hi_h := Lib.hid hi
    have ho_h := Lib.hid ho
    have z1_h := Lib.hid z1
    clear hb ht hb1 hN hB e1 a1 a2 a3 a5 a6 hmt hk l1 l2 hi ho z1
    go_wp2_with (fail)
    go_quiet (fail)
    go_wp2_with (fail)
    go_ret3
    exact ⟨rfl, below_drewN hB_h.out _⟩
theorem sTypeOf_any {v : Value} {l : List Nd} {w : World} (h : RdTm w v l) :
    Calls Try.prog 14 #[v] w fun e w' => e = .returned (.tuple #[.int .i64 (typeM l).1, .int .i64 (typeM l).2.1, .bool (typeM l).2.2]) ∧ Below w.heap.size w w' := by
  obtain ⟨A, c, rfl, h⟩ := h
  have hb0 := below_alloc w (.cells #[.slice A l.length c] tTerm)
  have hC := tmType_any (v := .agg #[.slice A l.length c]) (l := l) (w := w.alloc (.cells #[.slice A l.length c] tTerm)) ⟨A, c, rfl, h.below hb0⟩
  obtain ⟨m, hm⟩ : ∃ m, m = l.length := ⟨_, rfl⟩
  rw [← hm] at hC hb0 ⊢
  obtain ⟨T, hT⟩ : ∃ T, T = typeM l := ⟨_, rfl⟩
  rw [← hT] at hC ⊢
  have hC_h := Lib.hid hC
  have hm_h := Lib.hid hm
  have hb0_h := Lib.hid hb0
  have hT_h := Lib.hid hT
  clear hC hm hb0 hT
  clear h
  go_enter Try.func14, Try.ntmps14
  go_wp2_with (fail)
  refine (hC_h.out).mono ?_
  rintro e w1 ⟨rfl, hb1⟩
  go_wp2_with (fail)
  go_ret3
  exact ⟨rfl, below_trans hb0_h.out hb1 hb0_h.out.size⟩
end Go.Proofs.Ytlmnmdahphahfaa
