/-
  THE WALKS: are rows rows of n elements, on both sides.

  THE LAW's HELPERS OVER System: szSystem, toSystem, eqSystem.
-/
import Derived.Test.YtahnhblodfdfhaaDoorKRows
import Derived.Test.YtahnhblodfdfhaaDoorField
namespace Go.Proofs.YtahnhblodfdfhaaDoor
open Go.RowKit

set_option maxHeartbeats 1000000 in
theorem szSystem_any {v : Value} {s : Sys} (left : Int) (w : World) (h : RdSysV w v s) (h0 : 0 ≤ left) (h1 : left ≤ 1048576) (hn : s.2.2.length ≤ 9223372036854775807) (hr : ∀ x, x ∈ s.2.2 → x.length ≤ 9223372036854775807) :
    Calls Tryd.prog 10 #[v, .int .i64 left] w fun e w' => e = .returned (.int .i64 (szR s.2.2 left)) ∧ Below w.heap.size w w' := by
  obtain ⟨A, c, hs, rfl, hL, hR⟩ := h
  obtain ⟨a, b, L⟩ := s
  have hL' : L = hs.map (fun h : Hd => h.2.2) := hL
  subst hL'
  have hR1 := hR.below ((Below.refl w.heap.size w).alloc (Nat.le_refl _) (.cells #[.int .i64 a, .int .i64 b, .slice A hs.length c] 24))
  have hC := szIntSS_any A c hs left _ hR1 h0 h1 (by simpa using hn) (fun x hx => hr _ (List.mem_map_of_mem hx))
  obtain ⟨S, hS⟩ : ∃ S, S = szR (hs.map fun h : Hd => h.2.2) left := ⟨_, rfl⟩
  rw [← hS] at hC
  have HC := Lib.hid hC
  have hb : Below w.heap.size w (w.alloc (.cells #[.int .i64 a, .int .i64 b, .slice A hs.length c] 24)) := (Below.refl w.heap.size w).alloc (Nat.le_refl _) _
  have HS := Lib.hid hS
  clear hC hL hR hR1 hS
  by_cases hneg : S < 0
  · have hS1 : S = -1 := by
      have := HS.out
      unfold szR at this
      split at this
      · exact this
      · rename_i hh
        have key : ∀ (L : List (List Int)) (x : Int), 0 ≤ x → szSS L x = -1 ∨ 0 ≤ szSS L x := by
          intro L
          induction L with
          | nil => intro x hx; right; exact hx
          | cons l L ih => intro x hx; rw [szSS]; split
                           · left; rfl
                           · exact ih _ (by omega)
        rcases key (hs.map fun h : Hd => h.2.2) (szV left (hs.map fun h : Hd => h.2.2).length) (by omega) with e | e <;> omega
    subst hS1
    go_enter Tryd.func10, Tryd.ntmps10
    go_wp2_with (fail)
    refine HC.out.mono ?_
    rintro e w' ⟨rfl, rfl⟩
    go_wp2_with (fail)
    go_ret
    exact ⟨by show Ending.returned _ = .returned (.int .i64 (szR (hs.map fun h : Hd => h.2.2) left)); rw [← HS.out]; rfl, hb⟩
  · go_enter Tryd.func10, Tryd.ntmps10
    go_wp2_with (fail)
    refine HC.out.mono ?_
    rintro e w' ⟨rfl, rfl⟩
    go_wp2_with (fail)
    go_ret
    exact ⟨by show Ending.returned _ = .returned (.int .i64 (szR (hs.map fun h : Hd => h.2.2) left)); rw [← HS.out]; rfl, hb⟩

set_option maxHeartbeats 1000000 in
theorem toSystem_any {v : Value} {s : Sys} (w : World) (h : RdSysV w v s) (hn : s.2.2.length ≤ 1048576) (hr : ∀ x, x ∈ s.2.2 → x.length ≤ 1048576) :
    Calls Tryd.prog 12 #[v] w fun e w' => ∃ v' fp, e = .returned v' ∧ OwSys w' v' s fp ∧ FreshL w.heap.size fp ∧ Below w.heap.size w w' := by
  obtain ⟨A, c, hs, rfl, hL, hR⟩ := h
  obtain ⟨a, b, L⟩ := s
  have hL' : L = hs.map (fun h : Hd => h.2.2) := hL
  subst hL'
  clear hL
  go_enter Tryd.func12, Tryd.ntmps12
  go_wp2_with (fail)
  obtain ⟨W, hW⟩ : ∃ W, W = ((w.alloc (.cells #[.int .i64 a, .int .i64 b, .slice A hs.length c] 24)).alloc (.cells #[.int .i64 0, .int .i64 0, .slice none 0 0] 26)).alloc (.cells #[.int .i64 a, .int .i64 b, .slice none 0 0] 26) := ⟨_, rfl⟩
  have hB0 : Below w.heap.size w W := by rw [hW]; exact (((Below.refl _ _).alloc (Nat.le_refl _) _).alloc (by simp) _).alloc (by simp; omega) _
  have hz : W.heap.size = w.heap.size + 1 + 1 + 1 := by rw [hW]; simp
  have k2 : W.heap[w.heap.size + 1 + 1]? = some (.cells #[.int .i64 a, .int .i64 b, .slice none 0 0] 26) := by
    rw [hW]
    have := heap_alloc_new ((w.alloc (.cells #[.int .i64 a, .int .i64 b, .slice A hs.length c] 24)).alloc (.cells #[.int .i64 0, .int .i64 0, .slice none 0 0] 26)) (.cells #[.int .i64 a, .int .i64 b, .slice none 0 0] 26)
    rwa [World.size_alloc, World.size_alloc] at this
  have k1 : W.heap[w.heap.size + 1]? = some (.cells #[.int .i64 0, .int .i64 0, .slice none 0 0] 26) := by
    rw [hW]
    have := heap_alloc_new (w.alloc (.cells #[.int .i64 a, .int .i64 b, .slice A hs.length c] 24)) (.cells #[.int .i64 0, .int .i64 0, .slice none 0 0] 26)
    rw [World.size_alloc] at this
    rw [Below.heap_alloc _ _ _ (by simp)]
    exact this
  have hT := toIntSS_any A c hs W (hR.below hB0) (by simpa using hn) (fun x hx => hr _ (List.mem_map_of_mem hx))
  rw [← hW]
  have HZ := Lib.hid hz
  clear hW hz
  refine hT.mono ?_
  rintro e w1 ⟨A1, c1, gs, rfl, hgl, hO, hf, hb1⟩
  have k2' := (hb1.block (w.heap.size + 1 + 1) (by rw [HZ.out]; omega)).trans k2
  have k1' := (hb1.block (w.heap.size + 1) (by rw [HZ.out]; omega)).trans k1
  have hlen : (hs.map fun h : Hd => h.2.2).length = gs.length := by rw [hgl, List.length_map]
  rw [hlen]
  have HL := Lib.hid hlen
  have HGL := Lib.hid hgl
  obtain ⟨⟨c20, c21, c22⟩, f20, f21, f22⟩ := box3 k2'
  obtain ⟨⟨c10, c11, c12⟩, f10, f11, f12⟩ := box3 k1'
  have K1 := Lib.hid k1'
  clear k1 k2 hlen hgl hT k1' k2'
  go_wp2_with (fail)
  clear c20 c21 c22 f20 f21 f22 c10 c11 c12 f10 f11 f12
  obtain ⟨w5, hw5⟩ : ∃ w5, w5 = (((w1.setCell ⟨w.heap.size + 1 + 1, 2, none⟩ (.slice A1 gs.length c1)).setCell ⟨w.heap.size + 1, 0, none⟩ (.int .i64 a)).setCell ⟨w.heap.size + 1, 1, none⟩ (.int .i64 b)).setCell ⟨w.heap.size + 1, 2, none⟩ (.slice A1 gs.length c1) := ⟨_, rfl⟩
  have hk5 : w5.heap[w.heap.size + 1]? = some (.cells #[.int .i64 a, .int .i64 b, .slice A1 gs.length c1] 26) := by
    have := K1.out
    rw [hw5]
    simp [World.setCell, Array.getElem?_modify, this]
  have hkp : Keeps (fun k => k = w.heap.size + 1 ∨ k = w.heap.size + 1 + 1) w1 w5 := by
    rw [hw5]
    exact (((((Keeps.refl _ w1).setCell (p := ⟨w.heap.size + 1 + 1, 2, none⟩) (.inr rfl) _).setCell (p := ⟨w.heap.size + 1, 0, none⟩) (.inl rfl) _).setCell (p := ⟨w.heap.size + 1, 1, none⟩) (.inl rfl) _).setCell (p := ⟨w.heap.size + 1, 2, none⟩) (.inl rfl) _)
  rw [← hw5]
  refine bodyPost_ret (results_cell_row rfl _ w5 (w.heap.size + 1) _ _ (0, 0) _ rfl hk5 Tryd.underlying26 rfl (by kernel_rfl)) rfl ?_
  refine ⟨_, fpA A1 ++ fpR gs, rfl, ⟨A1, c1, gs, rfl, HGL.out, hO.keeps hkp (fun k hk e => ?_), rfl⟩, fun k hk => ?_, below_keeps (below_trans hB0 hb1 hB0.size) hkp (by have := hb1.size; have := HZ.out; omega) (fun k hk => by omega)⟩
  · have := hf k hk; have := HZ.out; omega
  · have := hf k hk; have := HZ.out; omega

set_option maxHeartbeats 1000000 in
theorem eqSystem_any {v v' : Value} {s t : Sys} (w : World) (h : RdSysV w v s) (h' : RdSysV w v' t) (hn : s.2.2.length ≤ 1048576) (hr : ∀ x, x ∈ s.2.2 → x.length ≤ 1048576) :
    Calls Tryd.prog 14 #[v, v'] w fun e w' => e = .returned (.bool (decide (s = t))) ∧ Below w.heap.size w w' := by
  obtain ⟨A, c, hs, rfl, hL, hR⟩ := h
  obtain ⟨B, d, gs, rfl, hM, hS⟩ := h'
  obtain ⟨a1, b1, L⟩ := s
  obtain ⟨a2, b2, M⟩ := t
  have hL' : L = hs.map (fun h : Hd => h.2.2) := hL
  have hM' : M = gs.map (fun h : Hd => h.2.2) := hM
  subst hL' hM'
  have hb : Below w.heap.size w ((w.alloc (.cells #[.int .i64 a1, .int .i64 b1, .slice A hs.length c] 26)).alloc (.cells #[.int .i64 a2, .int .i64 b2, .slice B gs.length d] 26)) :=
    ((Below.refl _ _).alloc (Nat.le_refl _) _).alloc (by simp) _
  have hC := eqIntSS_any A B c d hs gs _ (hR.below hb) (hS.below hb) (by have : (hs.map fun h : Hd => h.2.2).length ≤ 1048576 := hn; simp at this; omega) (fun x hx => by have := hr _ (List.mem_map_of_mem hx); omega)
  have HC := Lib.hid hC
  clear hC hL hM hR hS hr
  by_cases e1 : a1 = a2
  · have h1 : (a1 != a2) = false := by simp [e1]
    by_cases e2 : b1 = b2
    · have h2 : (b1 != b2) = false := by simp [e2]
      have E1 := Lib.hid e1
      have E2 := Lib.hid e2
      clear e1 e2
      go_enter Tryd.func14, Tryd.ntmps14
      go_wp2_with (fail)
      have hC2 := HC.out
      by_cases e3 : (hs.map fun h : Hd => h.2.2) = gs.map fun h : Hd => h.2.2
      · rw [decide_eq_true e3] at hC2
        have E3 := Lib.hid e3
        clear e3
        refine hC2.mono ?_
        clear hC2
        rintro e w1 ⟨rfl, n, rfl⟩
        go_wp2_with (fail)
        go_ret
        exact ⟨ret_bool (decide_eq_true (by rw [E1.out, E2.out, E3.out])).symm, below_drewN hb n⟩
      · rw [decide_eq_false e3] at hC2
        have E3 := Lib.hid e3
        clear e3
        refine hC2.mono ?_
        clear hC2
        rintro e w1 ⟨rfl, n, rfl⟩
        go_wp2_with (fail)
        go_ret
        exact ⟨ret_bool (decide_eq_false (fun e => E3.out (congrArg (·.2.2) e))).symm, below_drewN hb n⟩
    · have h2 : (b1 != b2) = true := by simp [e2]
      have E2 := Lib.hid e2
      clear e1 e2
      go_enter Tryd.func14, Tryd.ntmps14
      go_wp2_with (fail)
      go_ret
      exact ⟨ret_bool (by have := E2.out; simp [this]), hb⟩
  · have h1 : (a1 != a2) = true := by simp [e1]
    have E1 := Lib.hid e1
    clear e1
    go_enter Tryd.func14, Tryd.ntmps14
    go_wp2_with (fail)
    go_ret
    exact ⟨ret_bool (by have := E1.out; simp [this]), hb⟩
end Go.Proofs.YtahnhblodfdfhaaDoor
namespace Go.Proofs.YtahnhblodfdfhaaDoor
open Go.RowKit

/-- Each row has n elements of the field. -/
def rowsB (p n : Int) (L : List (List Int)) : Bool := L.all fun l => decide ((l.length : Int) = n) && inB 0 (p - 1) l
theorem rowsB_take_succ {p n : Int} {hs : List Hd} {k : Nat} {B : Option Addr} {c : Nat} {l : List Int} (h : hs[k]? = some (B, c, l)) :
    rowsB p n ((hs.take (k + 1)).map fun h : Hd => h.2.2) = (rowsB p n ((hs.take k).map fun h : Hd => h.2.2) && (decide ((l.length : Int) = n) && inB 0 (p - 1) l)) := by
  rw [List.take_add_one, h]
  simp [rowsB]
theorem rowsB_false {p n : Int} {hs : List Hd} {k : Nat} {B : Option Addr} {c : Nat} {l : List Int} (h : hs[k]? = some (B, c, l)) (hl : (decide ((l.length : Int) = n) && inB 0 (p - 1) l) = false) : rowsB p n (hs.map fun h : Hd => h.2.2) = false := by
  rw [Bool.eq_false_iff]
  intro hh
  have := List.all_eq_true.1 hh l (List.mem_map.2 ⟨_, List.mem_of_getElem? h, rfl⟩)
  rw [hl] at this; cases this

set_option maxHeartbeats 400000 in
theorem spRows_any (p n : Int) (A : Option Addr) (c : Nat) (hs : List Hd) (w : World) (h : RdR w A hs) (hl : hs.length ≤ 17592186044416) (hr : ∀ x, x ∈ hs → x.2.2.length ≤ 17592186044416) (hp : 0 ≤ p) (hp' : p ≤ 97) :
    Calls Tryd.prog 97 #[.int .i64 p, .int .i64 n, .slice A hs.length c] w fun e w' => e = .returned (.bool (rowsB p n (hs.map fun h : Hd => h.2.2))) ∧ w = w' := by
  go_enter Tryd.func97, Tryd.ntmps97
  go_wp2_with (fail)
  go_loop [11] (fun i => ∃ k : Nat, k ≤ hs.length ∧ i = .int .i64 k ∧ rowsB p n ((hs.take k).map fun h : Hd => h.2.2) = true) (fun i => hs.length - (intOf i).toNat)
  case atStart => exact ⟨0, Nat.zero_le _, rfl, rfl⟩
  case round =>
    obtain ⟨k, hk, rfl, ht⟩ := hrel
    have HT := Lib.hid ht
    clear ht
    by_cases hlt : k < hs.length
    · obtain ⟨ad, B, d, l, rfl, hx, hc, hri⟩ := h.at_ hlt
      have hll : l.length ≤ 17592186044416 := hr _ (List.mem_of_getElem? hx)
      have HX := Lib.hid hx
      have hkI : (k : Int) < (hs.length : Int) := by omega
      clear hx h hr
      by_cases hn : (l.length : Int) = n
      · have h1 : ((l.length : Int) != n) = false := by simp [hn]
        have HN := Lib.hid hn
        have hF := fdIn_any p B d l w hri hll hp hp'
        clear hn
        by_cases hb : inB 0 (p - 1) l = true
        · rw [hb] at hF
          have HF := Lib.hid hF
          have HB := Lib.hid hb
          clear hF hb
          go_wp2_with (go_at_call 56; refine HF.out.mono ?_; rintro e w' ⟨rfl, rfl⟩)
          go_round
          case rel => exact ⟨k + 1, by omega, by go_num, by rw [rowsB_take_succ HX.out, HT.out, HB.out]; simp [HN.out]⟩
          case measure => simp [intOf]; omega
        · have hb' : inB 0 (p - 1) l = false := by simpa using hb
          rw [hb'] at hF
          have HF := Lib.hid hF
          have HB := Lib.hid hb'
          clear hF hb hb'
          go_wp2_with (go_at_call 56; refine HF.out.mono ?_; rintro e w' ⟨rfl, rfl⟩)
          go_ret
          exact ⟨ret_bool (rowsB_false HX.out (by rw [HB.out]; simp)).symm, rfl⟩
      · have h1 : ((l.length : Int) != n) = true := by simp [hn]
        have HN := Lib.hid hn
        clear hn
        go_wp2_with (fail)
        go_ret
        exact ⟨ret_bool (rowsB_false HX.out (by simp [HN.out])).symm, rfl⟩
    · obtain rfl : k = hs.length := by omega
      clear h hr
      go_wp2_with (fail)
      go_ret
      exact ⟨ret_bool (by have := HT.out; rw [List.take_length] at this; exact this.symm), rfl⟩

set_option maxHeartbeats 400000 in
theorem areVectors_any (p n : Int) (A : Option Addr) (c : Nat) (hs : List Hd) (w : World) (h : RdR w A hs) (hl : hs.length ≤ 17592186044416) (hr : ∀ x, x ∈ hs → x.2.2.length ≤ 17592186044416) :
    Calls Tryd.prog 103 #[.int .i64 p, .slice A hs.length c, .int .i64 n] w fun e w' => e = .returned (.bool (rowsB p n (hs.map fun h : Hd => h.2.2))) ∧ w = w' := by
  go_enter Tryd.func103, Tryd.ntmps103
  go_wp2_with (fail)
  go_loop [11] (fun i => ∃ k : Nat, k ≤ hs.length ∧ i = .int .i64 k ∧ rowsB p n ((hs.take k).map fun h : Hd => h.2.2) = true) (fun i => hs.length - (intOf i).toNat)
  case atStart => exact ⟨0, Nat.zero_le _, rfl, rfl⟩
  case round =>
    obtain ⟨k, hk, rfl, ht⟩ := hrel
    have HT := Lib.hid ht
    clear ht
    by_cases hlt : k < hs.length
    · obtain ⟨ad, B, d, l, rfl, hx, hc, hri⟩ := h.at_ hlt
      have hll : l.length ≤ 17592186044416 := hr _ (List.mem_of_getElem? hx)
      have HX := Lib.hid hx
      have hkI : (k : Int) < (hs.length : Int) := by omega
      have hF := isVector_any p B d l n w hri hll
      clear hx h hr
      by_cases hb : (decide ((l.length : Int) = n) && inB 0 (p - 1) l) = true
      · rw [hb] at hF
        have HF := Lib.hid hF
        have HB := Lib.hid hb
        clear hF hb
        go_wp2_with (go_at_call 64; refine HF.out.mono ?_; rintro e w' ⟨rfl, rfl⟩)
        go_round
        case rel => exact ⟨k + 1, by omega, by go_num, by rw [rowsB_take_succ HX.out, HT.out, HB.out]; rfl⟩
        case measure => simp [intOf]; omega
      · have hb' : (decide ((l.length : Int) = n) && inB 0 (p - 1) l) = false := by simpa using hb
        rw [hb'] at hF
        have HF := Lib.hid hF
        have HB := Lib.hid hb'
        clear hF hb hb'
        go_wp2_with (go_at_call 64; refine HF.out.mono ?_; rintro e w' ⟨rfl, rfl⟩)
        go_ret
        exact ⟨ret_bool (rowsB_false HX.out HB.out).symm, rfl⟩
    · obtain rfl : k = hs.length := by omega
      clear h hr
      go_wp2_with (fail)
      go_ret
      exact ⟨ret_bool (by have := HT.out; rw [List.take_length] at this; exact this.symm), rfl⟩
end Go.Proofs.YtahnhblodfdfhaaDoor
