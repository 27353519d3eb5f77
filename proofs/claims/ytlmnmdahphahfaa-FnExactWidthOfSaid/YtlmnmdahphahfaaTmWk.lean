/-
  THE WALK: WidthOf of the program; the contracts in the law generator's shape.
-/
import Derived.Test.YtlmnmdahphahfaaTmEx
namespace Go.Proofs.Ytlmnmdahphahfaa
open Go.RowKit

set_option maxRecDepth 8000 in
set_option maxHeartbeats 1000000 in
theorem iWidthOf_any {v : Value} {l : List Nd} {fp : List Nat} {w : World} (h : OwTm w v l fp) :
    Calls Try.prog 19 #[v] w fun e w' => e = .returned (.tuple #[.int .i64 (wdM l).1, .int .i64 (wdM l).2.1, .bool (wdM l).2.2]) ∧ Below w.heap.size w w' := by
  obtain ⟨A, c, rfl, hN, rfl⟩ := h
  obtain ⟨n, hn⟩ : ∃ n, n = l.length := ⟨_, rfl⟩
  obtain ⟨W, hW⟩ : ∃ W, W = w.alloc (.cells #[.slice A n c] tTerm) := ⟨_, rfl⟩
  have b0 := below_alloc w (.cells #[.slice A n c] tTerm)
  have k0 := heap_alloc_new w (.cells #[.slice A n c] tTerm)
  rw [← hW] at b0 k0
  have hN1 := hN.below b0
  have hC := isValid_any (v := .agg #[.slice A n c]) (l := l) (w := W) ⟨A, c, by rw [hn], hN1.rd⟩
  have hD := fun W' (hb : Below W.heap.size W W') (t : Tr) (hT : treeM l = some t) => treeOf_any A n c l t W' hn hT (hN1.rd.below hb)
  have hE := fun W' (t : Tr) (hT : treeM l = some t) => extentOf_any t (treeM_some hT).2.1 (treeM_some hT).2.2 W'
  unfold ExA at hE
  rw [← hn]
  obtain ⟨T, hT⟩ : ∃ T, T = wdM l := ⟨_, rfl⟩
  rw [← hT]
  clear hN hN1
  have hC_h := Lib.hid hC
  have hn_h := Lib.hid hn
  have b0_h := Lib.hid b0
  have k0_h := Lib.hid k0
  have hT_h := Lib.hid hT
  have hD_h := Lib.hid hD
  have hE_h := Lib.hid hE
  clear hC hn b0 k0 hT hD hE
  obtain ⟨k0_c, k0_f⟩ := bx1 k0_h.out
  go_enter Try.func19, Try.ntmps19
  go_wp2_with (fail)
  rw [← hW]
  clear hW
  refine (hC_h.out).mono ?_
  rintro e w1 ⟨b, rfl, hb, hb1⟩
  clear k0_c k0_f
  replace k0_h := Lib.hid (box_below k0_h.out hb1)
  have hB1 := below_trans b0_h.out hb1 b0_h.out.size
  cases b
  · have hN : treeM l = none := by cases h : treeM l with | none => rfl | some t => rw [h] at hb; cases hb
    obtain rfl : T = (0, 0, false) := by rw [hT_h.out]; simp [wdM, hN]
    have hb_h := Lib.hid hb
    have hN_h := Lib.hid hN
    have hB1_h := Lib.hid hB1
    have hb1_h := Lib.hid hb1
    clear hb hN hB1 hb1
    go_wp2_with (fail)
    go_ret3
    exact ⟨rfl, hB1_h.out⟩
  · obtain ⟨t, hN⟩ : ∃ t, treeM l = some t := by cases h : treeM l with | none => rw [h] at hb; cases hb | some t => exact ⟨t, rfl⟩
    have hD2 := hD_h.out w1 hb1 t hN
    have hE2 := fun W' => hE_h.out W' t hN
    obtain ⟨Z, hZ⟩ : ∃ Z, Z = wid t := ⟨_, rfl⟩
    rw [← hZ] at hE2
    obtain rfl : T = (Z.1, Z.2, true) := by rw [hT_h.out, wdM_some hN, hZ]
    obtain ⟨k0_c, k0_f⟩ := bx1 k0_h.out
    have hb_h := Lib.hid hb
    have hN_h := Lib.hid hN
    have hB1_h := Lib.hid hB1
    have hb1_h := Lib.hid hb1
    have hD2_h := Lib.hid hD2
    have hE2_h := Lib.hid hE2
    have hZ_h := Lib.hid hZ
    clear hb hN hB1 hb1 hD2 hE2 hZ
    go_wp2_with (fail)
    refine (hD2_h.out).mono ?_
    rintro e w2 ⟨rfl, hb2⟩
    have hB2 := below_trans hB1_h.out hb2 hB1_h.out.size
    have hb2_h := Lib.hid hb2
    have hB2_h := Lib.hid hB2
    clear hb2 hB2
    clear k0_c k0_f
    go_wp2_with (fail)
    refine (hE2_h.out _).mono ?_
    rintro e w3 ⟨rfl, hb3⟩
    have hB3 := below_trans (below_trans hB2_h.out hb3 hB2_h.out.size) (below_alloc w3 (.cells #[.int .i64 Z.1, .int .i64 Z.2] tExt)) (Nat.le_trans hB2_h.out.size hb3.size)
    have hb3_h := Lib.hid hb3
    have hB3_h := Lib.hid hB3
    clear hb3 hB3
    go_wp2_with (fail)
    go_quiet (fail)
    go_wp2_with (fail)
    go_ret3
    exact ⟨rfl, below_drewN hB3_h.out _⟩
theorem sWidthOf_law {v : Value} {l : List Nd} {fp : List Nat} {w : World} (h : OwTm w v l fp) (_ok : OkN l) :
    Calls Try.prog 18 #[v] w fun e w' => e = .returned (.tuple #[.int .i64 (wdM l).1, .int .i64 (wdM l).2.1, .bool (wdM l).2.2]) ∧ Below w.heap.size w w' := sWidthOf_any h
theorem iWidthOf_law {v : Value} {l : List Nd} {fp : List Nat} {w : World} (h : OwTm w v l fp) (_ok : OkN l) :
    Calls Try.prog 19 #[v] w fun e w' => e = .returned (.tuple #[.int .i64 (wdM l).1, .int .i64 (wdM l).2.1, .bool (wdM l).2.2]) ∧ Below w.heap.size w w' := iWidthOf_any h
end Go.Proofs.Ytlmnmdahphahfaa
