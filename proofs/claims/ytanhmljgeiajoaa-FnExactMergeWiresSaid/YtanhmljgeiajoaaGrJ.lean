/-
  THE WALKS: impl.Graph.isGraph and its closure.
-/
import Derived.Test.YtanhmljgeiajoaaGrI
namespace Go.Proofs.Ytanhmljgeiajoaa
open Go.RowKit

theorem box1 {w : World} {B : Nat} {x : Value} {t : TypeId} (h : w.heap[B]? = some (.cells #[x] t)) : w.cell? ⟨B, 0, none⟩ = some x ∧ w.frozen? ⟨B, 0, none⟩ = false := by simp [World.cell?, World.frozen?, h]
theorem seenM_step {n : Nat} {l : List Int} {q : Nat} (hq : q < n) (hs : l.contains (q : Int) = true) : seenC n (l ++ [(q : Int)]) = seenC n l := by unfold seenC; rw [seenM_old hq hs]
theorem inW_snoc (n : Int) (l : List Int) (x : Int) : inW n (l ++ [x]) = (inW n l && inB x 0 (n - 1)) := by rw [inW_append]; simp [inW]
/-- What the closure of isGraph holds when it has seen the wires l. -/
structure GI (n gB bG bS bC : Nat) (Gs : Addr) (V1 V2 V3 : Value) (l : List Int) (W : World) : Prop where
  hg : W.heap[gB]? = some (.cells #[.int .i64 (n : Int), V1, V2, V3] tGr)
  hgd : W.heap[bG]? = some (.cells #[.bool (inW n l)] tBool)
  hsl : W.heap[bS]? = some (.cells #[.slice (some Gs) n n] tBools)
  hct : W.heap[bC]? = some (.cells #[.int .i64 (seenC n l : Int)] tInt)
  hse : Sl W tBool 1 (some Gs) n n (bls (seenM n l))
theorem GI.below {n gB bG bS bC : Nat} {Gs : Addr} {V1 V2 V3 : Value} {l : List Int} {W W' : World} (h : GI n gB bG bS bC Gs V1 V2 V3 l W) (hb : Below W.heap.size W W') : GI n gB bG bS bC Gs V1 V2 V3 l W' :=
  ⟨box_below h.hg hb, box_below h.hgd hb, box_below h.hsl hb, box_below h.hct hb, h.hse.below hb⟩
set_option maxRecDepth 100000 in
set_option maxHeartbeats 4000000 in
theorem isGraphC_any (n gB bG bS bC : Nat) (Gs : Addr) (V1 V2 V3 : Value) (l : List Int) (B : Option Addr) (c : Nat) (m : List Int) (W : World) (hn : n ≤ 100) (hml : m.length ≤ 1048576)
    (h1 : bG ≠ bC) (h2 : bG ≠ Gs.block) (h3 : bC ≠ Gs.block) (h4 : gB ≠ bG ∧ gB ≠ bC ∧ gB ≠ Gs.block) (h5 : bS ≠ bG ∧ bS ≠ bC ∧ bS ≠ Gs.block)
    (hI : GI n gB bG bS bC Gs V1 V2 V3 l W) (hm : ∀ W', Keeps (· ∈ [bG, bC, Gs.block]) W W' → RdI W' B m) :
    Calls Try.prog 92 #[.slice B m.length c, .pointer (some ⟨gB, 0, none⟩), .pointer (some ⟨bG, 0, none⟩), .pointer (some ⟨bS, 0, none⟩), .pointer (some ⟨bC, 0, none⟩)] W fun e w' => e = .returned (.tuple #[]) ∧ GI n gB bG bS bC Gs V1 V2 V3 (l ++ m) w' ∧ Keeps (· ∈ [bG, bC, Gs.block]) W w' := by
  obtain ⟨p, hp⟩ : ∃ p, p = m.length := ⟨_, rfl⟩
  rw [← hp] at hml ⊢
  have hp_h := Lib.hid hp
  have hm_h := Lib.hid hm
  have hI_h := Lib.hid hI
  clear hp hm hI
  go_enter Try.func92, Try.ntmps92
  go_wp2_with (fail)
  go_loopw [10] (fun i wr => ∃ k : Nat, k ≤ p ∧ i = .int .i64 k ∧ GI n gB bG bS bC Gs V1 V2 V3 (l ++ m.take k) wr ∧ Keeps (· ∈ [bG, bC, Gs.block]) W wr) (fun i _ => p - (intOf i).toNat)
  case atStart => exact ⟨0, Nat.zero_le _, rfl, by simpa using hI_h.out, Keeps.refl _ _⟩
  case round =>
    clear hI_h
    obtain ⟨k, hk, rfl, hI, hkp⟩ := hrel
    by_cases hlt : k < p
    · obtain ⟨xd, x, rfl, hx, hxc⟩ := (hm_h.out wr hkp).at_ (j := k) (by rw [← hp_h.out]; exact hlt)
      have hkI : (k : Int) < (p : Int) := by omega
      have htk : m.take (k + 1) = m.take k ++ [x] := by rw [List.take_add_one, hx]; rfl
      have hlx : l ++ m.take (k + 1) = (l ++ m.take k) ++ [x] := by rw [htk, List.append_assoc]
      obtain ⟨L, hL⟩ : ∃ L, L = l ++ m.take k := ⟨_, rfl⟩
      rw [← hL] at hI hlx
      have hC := fun (W : World) => within_any x 0 ((n : Int) - 1) W
      have wn : IntKind.i64.wrap ((n : Int) - 1) = (n : Int) - 1 := IntWalk.i64_in _ (by omega)
      obtain ⟨⟨c0, c1, c2, c3⟩, f0, f1, f2, f3⟩ := box4 hI.hg
      by_cases hin : inB x 0 ((n : Int) - 1) = true
      · have hb : 0 ≤ x ∧ x ≤ (n : Int) - 1 := of_decide_eq_true hin
        obtain ⟨q, rfl⟩ : ∃ q : Nat, x = (q : Int) := ⟨x.toNat, by omega⟩
        have hqn : q < n := by omega
        simp only [hin] at hC
        have hinL : inW n (L ++ [(q : Int)]) = inW n L := by rw [inW_snoc, hin, Bool.and_true]
        obtain ⟨gd, hgd, hgb, hgc, hgf⟩ := Sl.cell hI.hse (bls_get (seenM_get hqn))
        obtain rfl := Option.some.inj hgd
        obtain ⟨s0, s1⟩ := box1 hI.hsl
        have hqI : (q : Int) < (n : Int) := by omega
        have hq0 : (0 : Int) ≤ (q : Int) := by omega
        by_cases hc : L.contains (q : Int) = true
        · have hI2 : GI n gB bG bS bC Gs V1 V2 V3 (l ++ m.take (k + 1)) wr := by
            rw [hlx]
            exact ⟨hI.hg, by rw [hinL]; exact hI.hgd, hI.hsl, by rw [seenM_step hqn hc]; exact hI.hct, by rw [seenM_old hqn hc]; exact hI.hse⟩
          rw [hc] at hgc
          clear hI hin hb hx htk hlx hL hinL hgf hgd
          have hC_h := Lib.hid hC
          have hI2_h := Lib.hid hI2
          have hkp_h := Lib.hid hkp
          have hc_h := Lib.hid hc
          clear hC hI2 hkp hc
          go_wp2_with (fail)
          refine (hC_h.out _).mono ?_
          rintro e w1 ⟨rfl, rfl⟩
          go_wp2_with (fail)
          go_roundw
          case rel => exact ⟨k + 1, by omega, by go_num, hI2_h.out, hkp_h.out⟩
          case measure => simp [intOf]; omega
        · have hc' : L.contains (q : Int) = false := by simpa using hc
          rw [hc'] at hgc
          have hfq := hgf q
          obtain ⟨W1, hW1⟩ : ∃ W1, W1 = wr.setCell (Gs.add q) (.bool true) := ⟨_, rfl⟩
          have hset := Sl.set hI.hse rfl q (.bool true) (by simp [bls]; omega)
          rw [bls_set, ← seenM_in hqn, ← hW1] at hset
          have hk1 : Keeps (· = Gs.block) wr W1 := by rw [hW1]; exact (Keeps.refl (fun b => b = Gs.block) wr).setCell (p := Gs.add q) (by rw [block_of_add]) _
          have g1 := box_keeps hI.hg hk1 h4.2.2
          have g2 := box_keeps hI.hgd hk1 h2
          have g3 := box_keeps hI.hsl hk1 h5.2.2
          have g4 := box_keeps hI.hct hk1 h3
          obtain ⟨t0, t1⟩ := box1 g4
          obtain ⟨W2, hW2⟩ : ∃ W2, W2 = W1.setCell ⟨bC, 0, none⟩ (.int .i64 ((seenC n L : Int) + 1)) := ⟨_, rfl⟩
          obtain ⟨n4, hk2⟩ := box_set g4 0 (.int .i64 ((seenC n L : Int) + 1))
          rw [← hW2] at n4 hk2
          have n4' : W2.heap[bC]? = some (.cells #[.int .i64 ((seenC n L : Int) + 1)] tInt) := n4
          have hcle := seenC_le n L
          have hI2 : GI n gB bG bS bC Gs V1 V2 V3 (l ++ m.take (k + 1)) W2 := by
            rw [hlx]
            refine ⟨box_keeps g1 hk2 h4.2.1, by rw [hinL]; exact box_keeps g2 hk2 h1, box_keeps g3 hk2 h5.2.1, ?_, hset.keeps hk2 (fun b hb e => by simp at hb; omega)⟩
            rw [seenC_new hqn hc', show ((seenC n L + 1 : Nat) : Int) = (seenC n L : Int) + 1 by omega]; exact n4'
          have hkf : Keeps (· ∈ [bG, bC, Gs.block]) W W2 := (hkp.trans (hk1.mono fun b _ hb => by simp [hb])).trans (hk2.mono fun b _ hb => by simp [hb])
          have hsz : (seenC n L : Int) ≤ 100 := by omega
          have hsz0 : (0 : Int) ≤ (seenC n L : Int) := by omega
          clear hI hin hb hx htk hlx hL hinL hgf hgd hset hk1 g1 g2 g3 g4 n4 hk2 n4' hkp hcle
          have hC_h := Lib.hid hC
          have hI2_h := Lib.hid hI2
          have hc_h := Lib.hid hc
          have hc'_h := Lib.hid hc'
          have hkf_h := Lib.hid hkf
          clear hC hI2 hc hc' hkf
          go_wp2_with (fail)
          refine (hC_h.out _).mono ?_
          rintro e w1 ⟨rfl, rfl⟩
          go_upto_region 7 with (fail)
          rw [← hW1]
          clear hW1
          go_upto_region 8 with (fail)
          rw [← hW2]
          clear hW2
          go_wp2_with (fail)
          go_roundw
          case rel => exact ⟨k + 1, by omega, by go_num, hI2_h.out, hkf_h.out⟩
          case measure => simp [intOf]; omega
      · have hin' : inB x 0 ((n : Int) - 1) = false := by simpa using hin
        simp only [hin'] at hC
        have hinL : inW n (L ++ [x]) = false := by rw [inW_snoc, hin', Bool.and_false]
        have hxo : ¬ (0 ≤ x ∧ x < (n : Int)) := fun hh => by
          rw [show inB x 0 ((n : Int) - 1) = true from decide_eq_true ⟨hh.1, by omega⟩] at hin'; cases hin'
        obtain ⟨s0, s1⟩ := box1 hI.hgd
        obtain ⟨W1, hW1⟩ : ∃ W1, W1 = wr.setCell ⟨bG, 0, none⟩ (.bool false) := ⟨_, rfl⟩
        obtain ⟨n2, hk1⟩ := box_set hI.hgd 0 (.bool false)
        rw [← hW1] at n2 hk1
        have n2' : W1.heap[bG]? = some (.cells #[.bool false] tBool) := n2
        have hI2 : GI n gB bG bS bC Gs V1 V2 V3 (l ++ m.take (k + 1)) W1 := by
          rw [hlx]
          refine ⟨box_keeps hI.hg hk1 h4.1, by rw [hinL]; exact n2', box_keeps hI.hsl hk1 h5.1, ?_, ?_⟩
          · have e : seenC n (L ++ [x]) = seenC n L := by unfold seenC; rw [seenM_out hxo]
            rw [e]; exact box_keeps hI.hct hk1 (fun e => h1 e.symm)
          · rw [seenM_out hxo]; exact hI.hse.keeps hk1 (fun b hb e => by simp at hb; omega)
        have hkf : Keeps (· ∈ [bG, bC, Gs.block]) W W1 := hkp.trans (hk1.mono fun b _ hb => by simp [hb])
        clear hI hin hin' hx htk hlx hL hinL n2 hk1 n2' hkp
        have hC_h := Lib.hid hC
        have hI2_h := Lib.hid hI2
        have hkf_h := Lib.hid hkf
        have hxo_h := Lib.hid hxo
        clear hC hI2 hkf hxo
        go_wp2_with (fail)
        refine (hC_h.out _).mono ?_
        rintro e w1 ⟨rfl, rfl⟩
        go_upto_region 8 with (fail)
        rw [← hW1]
        clear hW1
        go_wp2_with (fail)
        go_roundw
        case rel => exact ⟨k + 1, by omega, by go_num, hI2_h.out, hkf_h.out⟩
        case measure => simp [intOf]; omega
    · obtain rfl : p = k := by omega
      rw [List.take_of_length_le (by rw [← hp_h.out]; exact Nat.le_refl _)] at hI
      have hI_h := Lib.hid hI
      have hkp_h := Lib.hid hkp
      clear hI hkp
      go_wp2_with (fail)
      go_end0
      exact ⟨rfl, hI_h.out, hkp_h.out⟩
end Go.Proofs.Ytanhmljgeiajoaa
