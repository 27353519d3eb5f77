/-
  SLICE EXPRESSIONS IN DRAWN REGIONS; the walks of the converse.
-/
import Derived.Test.YtpfidjegdpkhdaaDoorRlX
import Derived.Test.YtpfidjegdpkhdaaDoorPlaced
namespace Go.Proofs.YtpfidjegdpkhdaaDoor
open Go.RowKit

section
variable {P : Program} {w : World} {e : TypeId} {sz n cap : Nat} {A : Option Addr} {xs : List Value}
/-- A slice expression: what it yields in every world, and what its value reads as. -/
theorem Sl.sliced (hs : Sl w e sz A n cap xs) (t : TypeId) {z : Option Value} {bytes : Nat} (ht : P.underlying t = some (.slice e)) (hinfo : (P.info? e).map (fun i => (i.zero, i.size, i.bytes)) = some (z, sz, bytes))
    (lo hi mx : Option Value) (l hgh m : Nat) (hlo : OptIs lo l (l = 0)) (hhi : OptIs hi hgh (hgh = n ∧ mx = none)) (hmx : OptIs mx m (m = cap)) (h1 : l ≤ hgh) (h2 : hgh ≤ n) (h3 : hgh ≤ m) (h4 : m ≤ cap) :
    ∃ A', (∀ w', (Instr.sliceAt t (.slice A n cap) lo hi mx).run P w' = .ok (.slice A' (hgh - l) (m - l)) w') ∧ Sl w e sz A' (hgh - l) (m - l) ((xs.drop (l * sz)).take ((hgh - l) * sz)) ∧ (∀ b, b ∈ fpA A' → b ∈ fpA A) := by
  obtain ⟨hcut, hfp, hsub⟩ := hs.cut h1 h2 h3 h4
  refine ⟨_, fun w => ?_, hcut, hfp⟩
  unfold OptIs at hlo hhi hmx
  obtain ⟨i, hi', hzz⟩ := Option.map_eq_some_iff.1 hinfo
  simp only [Prod.mk.injEq] at hzz
  have hb : ∀ (k : IntKind) (i : Int) (j y : Nat) (code : BoundsCode), i = (j : Int) → j ≤ y → (Instr.sliceBound (.int k i) y code).run P w = .ok j w := by
    intro k i j y code e hj
    subst e
    rw [run_sliceBound w k _ y code (by omega) (by omega)]; simp
  have hsb : (Instr.sliceBounds true n cap lo hi mx).run P w = .ok (l, hgh, m) w := by
    unfold Instr.sliceBounds
    cases mx with
    | none =>
      subst hmx
      cases hi with
      | none =>
        obtain ⟨rfl, _⟩ := hhi
        cases lo with
        | none => subst hlo; simp
        | some v => obtain ⟨k, L, rfl, hL⟩ := hlo; simp [hb k L l _ _ hL h1]
      | some v =>
        obtain ⟨k, L, rfl, hL⟩ := hhi
        have hb1 := hb k L hgh m .sliceAcap hL h3
        cases lo with
        | none => subst hlo; simp [hb1]
        | some v => obtain ⟨k', L', rfl, hL'⟩ := hlo; simp [hb1, hb k' L' l _ _ hL' h1]
    | some vm =>
      obtain ⟨km, M, rfl, hM⟩ := hmx
      have hb0 := hb km M m cap .slice3Acap hM h4
      cases hi with
      | none => obtain ⟨_, h0⟩ := hhi; cases h0
      | some v =>
        obtain ⟨k, L, rfl, hL⟩ := hhi
        have hb1 := hb k L hgh m .slice3B hL h3
        cases lo with
        | none => subst hlo; simp [hb0, hb1]
        | some v => obtain ⟨k', L', rfl, hL'⟩ := hlo; simp [hb0, hb1, hb k' L' l _ _ hL' h1]
  have hrun : (Instr.slice t (.slice A n cap) lo hi mx).run P w = .ok (.slice (if m = l then A else A.map (·.add (l * sz))) (hgh - l) (m - l)) w := by
    simp only [Instr.slice, Sem.run_bind, run_underlying ht, Result.andThen_ok, hsb]
    simp [sizeOf, typeInfo, hi', hzz.2.1]
  simp [Instr.sliceAt, run_underlying ht, hrun]
theorem xop_sliceW {ρ : Operand → Value} {o : Oper} {w w' : World} {t : TypeId} {x : Operand} {lo hi mx : Option Operand} {v : Value} (ho : o.op = .slice t x lo hi mx) (hr : (Instr.sliceAt t (ρ x) (lo.map ρ) (hi.map ρ) (mx.map ρ)).run P w = .ok v w') : (execOp ρ o).run P w = .ok (.value v) w' := by
  simp [execOp, ho, hr, Result.andThen]
end
/-- Rows just laid. -/
theorem laid_rdr {w : World} (hs : List Hd) (h : ∀ x, x ∈ hs → RdI w x.1 x.2.2) (hl : hs.length ≤ maxLen) : RdR (w.alloc (.cells (hs.map Hd.val).toArray 37)) (some ⟨w.heap.size, 0, none⟩) hs := by
  have hs1 := Sl.laid w 37 1 hs.length (hs.map Hd.val).toArray hl (by simp)
  refine ⟨fun i x hx => ?_, fun x hx => (h x hx).below (below_alloc _ _)⟩
  obtain ⟨ad, hA, _, hc, _⟩ := hs1.cell (j := i) (u := x.val) (by simp [hx])
  exact ⟨ad, hA, hc⟩
/-- The parts of a row exchanged. -/
def swapV (a : Nat) (u : List Int) : List Int := u.drop a ++ u.take a
theorem swapV_len (a : Nat) (u : List Int) : (swapV a u).length = u.length := by unfold swapV; rw [List.length_append, List.length_drop, List.length_take]; omega
theorem swapV_res {p : Int} {a : Nat} {u : List Int} (h : Res p u) : Res p (swapV a u) := fun x hx => by
  rcases List.mem_append.1 hx with hx | hx
  · exact h x (List.mem_of_mem_drop hx)
  · exact h x (List.mem_of_mem_take hx)
def convM (p : Int) (s : Sys) : Sys := (s.2.1, s.1, redM p (s.1 + s.2.1).toNat (s.2.2.map (swapV s.1.toNat)))

set_option maxRecDepth 8000 in
set_option maxHeartbeats 2000000 in
theorem rlConverse_any (p : Int) {v : Value} {s : Sys} {fp : List Nat} (w : World) (h : OwSys w v s fp) (hs : RelOk p s) :
    Calls Tryd.prog 103 #[.int .i64 p, v] w fun e w' => ∃ v' fp', e = .returned v' ∧ OwSys w' v' (convM p s) fp' ∧ FreshL w.heap.size fp' ∧ Below w.heap.size w w' := by
  have hmat0 := hs.mat.map (f := swapV s.1.toNat) fun v hv hr => ⟨(swapV_len _ v).trans hv, swapV_res hr⟩
  obtain ⟨A, c, gs, rfl, hL, hO, rfl⟩ := h
  obtain ⟨a, b, L⟩ := s
  have h0 : 0 ≤ a := hs.lo
  have h1 : 0 ≤ b := hs.hi
  have h2 : a + b ≤ 24 := hs.sum
  have hfld : fieldB p = true := hs.fld
  have hrow : ∀ u, u ∈ L → (u.length : Int) = a + b ∧ Res p u := fun u hu => hs.row hu
  have hlen : (L.length : Int) ≤ a + b := hs.len
  clear hs
  obtain ⟨na, rfl⟩ : ∃ na : Nat, a = (na : Int) := ⟨a.toNat, by omega⟩
  obtain ⟨nb, rfl⟩ : ∃ nb : Nat, b = (nb : Int) := ⟨b.toNat, by omega⟩
  have hL' : L = gs.map (fun h : Hd => h.2.2) := hL
  clear hL
  obtain ⟨m, hm⟩ : ∃ m, m = gs.length := ⟨_, rfl⟩
  have hLm : L.length = m := by rw [hL', List.length_map, hm]
  have hm24 : (m : Int) ≤ 24 := by have := hlen; rw [hLm] at this; omega
  obtain ⟨n, hn⟩ : ∃ n, n = na + nb := ⟨_, rfl⟩
  obtain ⟨X, hX⟩ : ∃ X, X = L.map (swapV na) := ⟨_, rfl⟩
  have hmat : Mat p X.length n X := by rw [hX, hn, List.length_map]; exact hmat0
  obtain ⟨R, hR⟩ : ∃ R, R = redM p n X := ⟨_, rfl⟩
  have hgoal : convM p ((na : Int), (nb : Int), L) = ((nb : Int), (na : Int), R) := by
    rw [hR, hX, hn]; rfl
  rw [hgoal]
  show Calls Tryd.prog _ #[.int .i64 p, .agg #[.int .i64 (na : Int), .int .i64 (nb : Int), .slice A gs.length c]] w _
  rw [← hm]
  obtain ⟨W, hW, b0, k0, k1⟩ := alloc2 w (.cells #[.int .i64 (na : Int), .int .i64 (nb : Int), .slice A m c] tRel) (.cells #[.int .i64 0, .int .i64 0, .slice none 0 0] tRel)
  have hO0 := hO.below b0
  have hz0 := box_lt k0
  have hz1 := box_lt k1
  have hN0 := RdO.nil W W (Below.refl _ _)
  obtain ⟨⟨c0, c1, c2⟩, f0, f1, f2⟩ := box3 k0
  have hn24 : n ≤ 24 := by omega
  have hna : na ≤ n := by omega
  have hnb : n - na = nb := by omega
  clear hO hmat0 hgoal
  have hL'_h := Lib.hid hL'
  have hm_h := Lib.hid hm
  have hLm_h := Lib.hid hLm
  have b0_h := Lib.hid b0
  have k0_h := Lib.hid k0
  have k1_h := Lib.hid k1
  have hO0_h := Lib.hid hO0
  have hrow_h := Lib.hid hrow
  have hlen_h := Lib.hid hlen
  have hfld_h := Lib.hid hfld
  have hmat_h := Lib.hid hmat
  have hX_h := Lib.hid hX
  have hR_h := Lib.hid hR
  have hN0_h := Lib.hid hN0
  have hn_h := Lib.hid hn
  have hnb_h := Lib.hid hnb
  clear hL' hm hLm b0 k0 k1 hO0 hrow hlen hfld hmat hX hR hN0 hn hnb
  go_enter Tryd.func103, Tryd.ntmps103
  go_upto_region 1 with (fail)
  rw [← hW]
  clear hW
  go_wp2_with (fail)
  clear c0 c1 c2 f0 f1 f2
  go_loopw [11, 5] (fun i v wr => ∃ (k : Nat) (A' : Option Addr) (c' : Nat) (ys : List Hd), k ≤ m ∧ i = .int .i64 k ∧ v = .slice A' k c' ∧ ys.length = k ∧ ys.map (fun h : Hd => h.2.2) = (L.take k).map (swapV na) ∧ RdO W wr A' c' ys) (fun i _ _ => m - (intOf i).toNat)
  case atStart => exact ⟨0, none, 0, [], Nat.zero_le _, rfl, rfl, rfl, rfl, hN0_h.out⟩
  case round =>
    obtain ⟨k, A', c', ys, hk, rfl, rfl, hyl, hym, hO⟩ := hrel
    by_cases hlt : k < m
    · have hOr := hO0_h.out.below hO.below_
      have k0r := box_below k0_h.out hO.below_
      obtain ⟨ad, B, d, u, rfl, hx, hc, _⟩ := hOr.rd.at_ (k := k) (by rw [← hm_h.out]; exact hlt)
      have hyL : L[k]? = some u := by rw [hL'_h.out, List.getElem?_map, hx]; rfl
      have hul : u.length = n := by have := (hrow_h.out _ (List.mem_of_getElem? hyL)).1; have := hn_h.out; omega
      have hI : Sl wr.drew 3 1 B n d (ints u) := by have := hOr.rows _ (List.mem_of_getElem? hx); unfold IS at this; rw [hul] at this; exact this
      have hcap := hI.2.1
      rw [hul] at hc
      have hkI : (k : Int) < (m : Int) := by omega
      obtain ⟨A2, hr2, hS2, hf2⟩ := hI.sliced (P := Tryd.prog) 37 Tryd.underlying37 info_int (some (.int .i64 (na : Int))) none none na n d (optSome rfl) (optNone ⟨rfl, rfl⟩) (optNone rfl) hna (Nat.le_refl _) hcap (Nat.le_refl _)
      obtain ⟨A3, hr3, hS3, hf3⟩ := hI.sliced (P := Tryd.prog) 37 Tryd.underlying37 info_int none (some (.int .i64 (na : Int))) none 0 na d (optNone rfl) (optSome rfl) (optNone rfl) (Nat.zero_le _) hna (by omega) (Nat.le_refl _)
      rw [hnb_h.out] at hr2
      simp only [Nat.sub_zero] at hr3
      have hd2 : RdI wr.drew A2 (u.drop na) := by
        have e : ((ints u).drop (na * 1)).take ((n - na) * 1) = ints (u.drop na) := by
          rw [List.take_of_length_le (by simp [hul])]; simp [ints, List.map_drop]
        rw [e] at hS2
        intro j x hj
        obtain ⟨ad, hA, _, hc, _⟩ := hS2.cell (ints_get hj)
        exact ⟨ad, hA, hc⟩
      have hd3 : RdI wr.drew A3 (u.take na) := by
        have e : ((ints u).drop (0 * 1)).take ((na - 0) * 1) = ints (u.take na) := by simp [ints, List.map_take]
        rw [e] at hS3
        intro j x hj
        obtain ⟨ad, hA, _, hc, _⟩ := hS3.cell (ints_get hj)
        exact ⟨ad, hA, hc⟩
      have hl2 : (u.drop na).length = nb := by rw [List.length_drop, hul]; exact hnb_h.out
      have hl3 : (u.take na).length = na := by rw [List.length_take, hul]; omega
      have hC := l1Own_any A2 (d - na) (u.drop na) wr.drew hd2 (by omega)
      rw [hl2] at hC
      have hbd : Below wr.heap.size wr wr.drew := below_drewN (Below.refl _ _) 1
      clear hOr hx hS2 hS3 hf2 hf3 hI
      have hyL_h := Lib.hid hyL
      have hul_h := Lib.hid hul
      have hyl_h := Lib.hid hyl
      have hym_h := Lib.hid hym
      have hO_h := Lib.hid hO
      have k0r_h := Lib.hid k0r
      have hr2_h := Lib.hid hr2
      have hr3_h := Lib.hid hr3
      have hd2_h := Lib.hid hd2
      have hd3_h := Lib.hid hd3
      have hl2_h := Lib.hid hl2
      have hl3_h := Lib.hid hl3
      have hC_h := Lib.hid hC
      have hbd_h := Lib.hid hbd
      clear hyL hul hyl hym hO k0r hr2 hr3 hd2 hd3 hl2 hl3 hC hbd
      go_wp2_with (fail)
      refine beginH (fun w' => w'.heap[w.heap.size]? = some (.cells #[.int .i64 (na : Int), .int .i64 (nb : Int), .slice (some ad) m c] tRel)) (by kernel_rfl) ?_
      clear hc
      obtain ⟨W1, hW1⟩ : ∃ W1, W1 = wr.drew := ⟨_, rfl⟩
      rw [← hW1] at hd2_h hd3_h hC_h hbd_h ⊢
      clear hW1
      replace k0r_h := Lib.hid (box_below k0r_h.out hbd_h.out)
      refine takeH 0 (v := ?_) rfl (by kernel_rfl) (by kernel_rfl) (by kernel_rfl) (fun _ _ _ h => h) k0r_h.out (by rfl) (fun W' hW' => ?_) ?_; rotate_left; · (obtain ⟨⟨y0, y1, y2⟩, y3, y4, y5⟩ := box3 hW'; clear hW'; go_simp; first | done | with_reducible rfl)
      simp only [Act.put, List.setIfInBounds_toArray, List.set_cons_zero, List.set_cons_succ]
      refine takeH 1 (v := ?_) rfl (by kernel_rfl) (by kernel_rfl) (by kernel_rfl) (fun _ _ _ h => h) k0r_h.out (by rfl) (fun W' hW' => ?_) ?_; rotate_left; · (obtain ⟨⟨y0, y1, y2⟩, y3, y4, y5⟩ := box3 hW'; clear hW'; go_simp; first | done | with_reducible rfl)
      simp only [Act.put, List.setIfInBounds_toArray, List.set_cons_zero, List.set_cons_succ]
      refine takeH 2 (v := ?_) rfl (by kernel_rfl) (by kernel_rfl) (by kernel_rfl) (fun _ _ _ h => h) k0r_h.out (by rfl) (fun W' hW' => ?_) ?_; rotate_left; · (obtain ⟨⟨y0, y1, y2⟩, y3, y4, y5⟩ := box3 hW'; clear hW'; go_simp; first | done | with_reducible rfl)
      simp only [Act.put, List.setIfInBounds_toArray, List.set_cons_zero, List.set_cons_succ]
      refine takeH 3 (v := ?_) rfl (by kernel_rfl) (by kernel_rfl) (by kernel_rfl) (fun _ _ _ h => h) k0r_h.out (by rfl) (fun W' hW' => ?_) ?_; rotate_left; · (obtain ⟨⟨y0, y1, y2⟩, y3, y4, y5⟩ := box3 hW'; clear hW'; go_simp; first | done | with_reducible rfl)
      simp only [Act.put, List.setIfInBounds_toArray, List.set_cons_zero, List.set_cons_succ]
      refine takeH 4 (v := .slice A2 nb (d - na)) rfl (by kernel_rfl) (by kernel_rfl) (by kernel_rfl) (fun _ _ _ h => h) k0r_h.out (by rfl) (fun W' _ => xop_sliceW rfl (hr2_h.out W')) ?_
      simp only [Act.put, List.setIfInBounds_toArray, List.set_cons_zero, List.set_cons_succ]
      refine takeH 6 (v := ?_) rfl (by kernel_rfl) (by kernel_rfl) (by kernel_rfl) (fun _ _ _ h => h) k0r_h.out (by rfl) (fun W' hW' => ?_) ?_; rotate_left; · (obtain ⟨⟨y0, y1, y2⟩, y3, y4, y5⟩ := box3 hW'; clear hW'; go_simp; first | done | with_reducible rfl)
      simp only [Act.put, List.setIfInBounds_toArray, List.set_cons_zero, List.set_cons_succ]
      refine takeH 7 (v := ?_) rfl (by kernel_rfl) (by kernel_rfl) (by kernel_rfl) (fun _ _ _ h => h) k0r_h.out (by rfl) (fun W' hW' => ?_) ?_; rotate_left; · (obtain ⟨⟨y0, y1, y2⟩, y3, y4, y5⟩ := box3 hW'; clear hW'; go_simp; first | done | with_reducible rfl)
      simp only [Act.put, List.setIfInBounds_toArray, List.set_cons_zero, List.set_cons_succ]
      refine takeH 8 (v := ?_) rfl (by kernel_rfl) (by kernel_rfl) (by kernel_rfl) (fun _ _ _ h => h) k0r_h.out (by rfl) (fun W' hW' => ?_) ?_; rotate_left; · (obtain ⟨⟨y0, y1, y2⟩, y3, y4, y5⟩ := box3 hW'; clear hW'; go_simp; first | done | with_reducible rfl)
      simp only [Act.put, List.setIfInBounds_toArray, List.set_cons_zero, List.set_cons_succ]
      refine takeH 9 (v := .slice A3 na d) rfl (by kernel_rfl) (by kernel_rfl) (by kernel_rfl) (fun _ _ _ h => h) k0r_h.out (by rfl) (fun W' _ => xop_sliceW rfl (hr3_h.out W')) ?_
      simp only [Act.put, List.setIfInBounds_toArray, List.set_cons_zero, List.set_cons_succ]
      refine' callH 5 (f := _) (args := _) rfl (by kernel_rfl) (by rfl) ?_ ?_; rotate_left 2; · (go_simp; first | done | with_reducible rfl | (constructor <;> with_reducible rfl))
      refine (hC_h.out).mono ?_
      rintro e w2 ⟨A4, c4, rfl, hi4, hf4, hb4⟩
      rw [hl2_h.out]
      replace k0r_h := Lib.hid (box_below k0r_h.out hb4)
      refine ⟨_, rfl, k0r_h.out, ?_⟩
      simp only [Act.put, List.setIfInBounds_toArray, List.set_cons_zero, List.set_cons_succ]
      have hs4 : Sl w2 tInt 1 A4 nb c4 (ints (u.drop na)) := by have := hi4; unfold IS at this; rwa [hl2_h.out] at this
      have hrd3 := (hd3_h.out.below hb4).rdc
      have hil : (ints (u.take na)).length = na * 1 := by rw [ints_length, hl3_h.out, Nat.mul_one]
      have hB2 := below_trans hbd_h.out hb4 hbd_h.out.size
      have hzr := hbd_h.out.size
      have hz4 := hb4.size
      have hk0lt := box_lt k0r_h.out
      have hzW := hO_h.out.below_.size
      clear hi4 hb4
      have hf4_h := Lib.hid hf4
      have hs4_h := Lib.hid hs4
      have hrd3_h := Lib.hid hrd3
      have hil_h := Lib.hid hil
      have hB2_h := Lib.hid hB2
      clear hf4 hs4 hrd3 hil hB2
      refine appH 10 rfl (by kernel_rfl) (by rfl) _ _ _ rfl tInt Tryd.underlying37 info_int rfl (by omega) rfl hs4_h.out rfl hil_h.out hrd3_h.out (ints_one (u.take na)) (by unfold maxLen; omega) (by omega) ?_
      intro A5 c5 w3 hsA5 hA5 hkA5
      have k0s := box_keeps k0r_h.out hkA5 (by intro h; have := hf4_h.out _ h; omega)
      refine ⟨k0s, ?_⟩
      have hB3 := below_keeps hB2_h.out hkA5 (by omega) (fun b hb => by have := hf4_h.out b hb; omega)
      have hnew5 : ∀ b, b ∈ fpA A5 → W1.heap.size ≤ b := fun b hb => by
        rcases hA5 b hb with h1 | h1
        · exact hf4_h.out b h1
        · omega
      have hI5 : IS w3 A5 c5 (swapV na u) := by
        unfold IS
        rw [swapV_len, hul_h.out]
        have e : ints (swapV na u) = ints (u.drop na) ++ ints (u.take na) := by simp [swapV, ints]
        rw [e, ← (show nb + na = n by have := hn_h.out; omega)]; exact hsA5
      have k0t := box_below k0s (below_alloc w3 (.cells #[.slice A5 (nb + na) c5] 37))
      have hnn : nb + na = n := by have := hn_h.out; omega
      have hwl := (Keeps.size hkA5)
      rw [hnn] at k0t ⊢
      clear hsA5 hA5 hkA5
      have k0s_h := Lib.hid k0s
      have k0t_h := Lib.hid k0t
      have hB3_h := Lib.hid hB3
      have hnew5_h := Lib.hid hnew5
      have hI5_h := Lib.hid hI5
      have hnn_h := Lib.hid hnn
      clear k0s k0t hB3 hnew5 hI5 hnn
      simp only [Act.put, List.setIfInBounds_toArray, List.set_cons_zero, List.set_cons_succ]
      refine oneH 11 rfl (by kernel_rfl) (by rfl) (fun K hK => ?_)
      go_simp
      refine hK _ _ k0t_h.out ?_
      clear hK K
      have hsl : Sl (w3.alloc (.cells #[.slice A5 n c5] 37)) 37 1 A' k c' (ys.map Hd.val) := by
        have := (hO_h.out.sl.below hB3_h.out).alloc (.cells #[.slice A5 n c5] 37)
        rwa [hyl_h.out] at this
      have hsl_h := Lib.hid hsl
      clear hsl
      refine appH 12 rfl (by kernel_rfl) (by rfl) _ _ _ rfl 37 Tryd.underlying22 info_ints rfl (by omega) rfl hsl_h.out rfl (news := [.slice A5 n c5]) rfl (Sl.rdc (Sl.laid w3 37 1 1 #[.slice A5 n c5] (by unfold maxLen; omega) rfl)) (by intro u hu; simp at hu; subst hu; rfl) (by unfold maxLen; omega) (by omega) ?_
      intro A6 c6 w4 hsA6 hA6 hkA6
      have hal : Below w3.heap.size w3 (w3.alloc (.cells #[.slice A5 n c5] 37)) := below_alloc _ _
      have hO2 := hO_h.out.snoc (w1 := w3.alloc (.cells #[.slice A5 n c5] 37)) (below_trans hB3_h.out hal hB3_h.out.size) (x := (A5, c5, swapV na u)) (hI5_h.out.below hal) (fun b hb hb' => by
        have h1 := hO_h.out.sl.lt b hb'
        have h2 := hnew5_h.out b hb
        omega) (by rw [hyl_h.out]) (by show Sl w4 _ 1 A6 (k + 1) c6 (ys.map Hd.val ++ [.slice A5 (swapV na u).length c5]); rw [swapV_len, hul_h.out]; exact hsA6) hA6 hkA6
      have k0u := box_keeps k0t_h.out hkA6 (by intro h; have := hO_h.out.new _ h; omega)
      refine ⟨k0u, ?_⟩
      clear hsA6 hA6 hkA6
      have k0u_h := Lib.hid k0u
      have hO2_h := Lib.hid hO2
      clear k0u hO2
      simp only [Act.put, List.setIfInBounds_toArray, List.set_cons_zero, List.set_cons_succ]
      refine takeH 13 (v := ?_) rfl (by kernel_rfl) (by kernel_rfl) (by kernel_rfl) (fun _ _ _ h => h) k0u_h.out (by rfl) (fun W' hW' => ?_) ?_; rotate_left; · (skip; clear hW'; go_simp; first | done | with_reducible rfl)
      simp only [Act.put, List.setIfInBounds_toArray, List.set_cons_zero, List.set_cons_succ]
      refine doneH (by kernel_rfl) ?_
      go_wp2_with (fail)
      go_roundw
      case rel => exact ⟨k + 1, A6, c6, ys ++ [(A5, c5, swapV na u)], by omega, by go_num, rfl, by rw [List.length_append, hyl_h.out]; rfl, by rw [List.map_append, hym_h.out, List.take_add_one, hyL_h.out]; simp, hO2_h.out⟩
      case measure => simp [intOf]; omega
    · obtain rfl : k = m := by omega
      have hym2 : ys.map (fun h : Hd => h.2.2) = X := by rw [hym, List.take_of_length_le (by rw [hLm_h.out]; exact Nat.le_refl _), hX_h.out]
      have hC := rlOf_any p (nb : Int) (na : Int) n A' c' ys wr hO.rdr hfld_h.out (by have := hn_h.out; omega) (by rw [hym2]; have := hmat_h.out; rwa [show X.length = ys.length by rw [← hym2, List.length_map]] at this) (by omega) (by omega)
      rw [hym2, ← hR_h.out, hyl] at hC
      have k1r := box_below k1_h.out hO.below_
      have k0r := box_below k0_h.out hO.below_
      have hBr := below_trans b0_h.out hO.below_ b0_h.out.size
      have hzr := hO.below_.size
      obtain ⟨⟨c0, c1, c2⟩, f0, f1, f2⟩ := box3 k0r
      clear hym hym2 hyl hO k0r
      have hC_h := Lib.hid hC
      have k1r_h := Lib.hid k1r
      have hBr_h := Lib.hid hBr
      clear hC k1r hBr
      go_wp2_with (fail)
      refine (hC_h.out).mono ?_
      rintro e w1 ⟨v1, fp1, rfl, hO1, hf1, hb1⟩
      obtain ⟨A1, n1, c1', rfl⟩ := hO1.shape
      have k1' := box_below k1r_h.out hb1
      have hB1 := below_trans hBr_h.out hb1 hBr_h.out.size
      obtain ⟨⟨d0, d1, d2⟩, g0, g1, g2⟩ := box3 k1'
      obtain ⟨s1, s2⟩ := set3 (a := .int .i64 (nb : Int)) (b := .int .i64 (na : Int)) (c := .slice A1 n1 c1') k1'
      have hB3 := below_keeps hB1 s2 hB1.size (fun k hk => by omega)
      have hBs := hBr_h.out.size
      have hO3 := hO1.keeps s2 (fun k hk e => by have := hf1 k hk; omega)
      have hf3 := hf1.mono hBs
      clear k1' hB1 hO1 hf1
      clear c0 c1 c2 f0 f1 f2
      have s1_h := Lib.hid s1
      have s2_h := Lib.hid s2
      have hO3_h := Lib.hid hO3
      have hf3_h := Lib.hid hf3
      have hB3_h := Lib.hid hB3
      clear s1 s2 hO3 hf3 hB3
      go_wp2_with (fail)
      refine bodyPost_ret (results_cell_row rfl _ _ (w.heap.size + 1) _ _ (0, 0) _ rfl s1_h.out Tryd.underlying51 rfl (by kernel_rfl)) rfl ?_
      exact ⟨_, fp1, rfl, hO3_h.out, hf3_h.out, hB3_h.out⟩

set_option maxRecDepth 8000 in
set_option maxHeartbeats 2000000 in
theorem conv1_any (g na nb : Nat) (V : Value) (hV : V.oneCell' = true) (B : Option Addr) (d n : Nat) (u : List Int) (w : World) (h : Sl w 3 1 B n d (ints u)) (hn : n = na + nb) (hn2 : n ≤ 1000) (hg : w.heap[g]? = some (.cells #[.int .i64 na, .int .i64 nb, V] tRel)) :
    Calls Tryd.prog 141 #[.slice B n d, .pointer (some ⟨g, 0, none⟩)] w (RetI w (swapV na u)) := by
  have hul : u.length = n := by have := h.1; rw [ints_length] at this; omega
  have hl2 : (u.drop na).length = nb := by rw [List.length_drop]; omega
  have hl3 : (u.take na).length = na := by rw [List.length_take]; omega
  have hn_h := Lib.hid hn
  have hg_h := Lib.hid hg
  have h_h := Lib.hid h
  have hul_h := Lib.hid hul
  have hl2_h := Lib.hid hl2
  have hl3_h := Lib.hid hl3
  clear hn hg h hul hl2 hl3
  go_enter Tryd.func141, Tryd.ntmps141
  go_wp2_with (fail)
  have hbd : Below w.heap.size w w.drew := below_drewN (Below.refl _ _) 1
  refine beginH (fun w' => w'.heap[g]? = some (.cells #[.int .i64 na, .int .i64 nb, V] tRel)) (by kernel_rfl) ?_
  generalize w.drew = W1 at hbd ⊢
  replace hg_h := Lib.hid (box_below hg_h.out hbd)
  have h1 := h_h.out.below hbd
  have h1_h := Lib.hid h1
  have hbd_h := Lib.hid hbd
  clear h1 hbd
  refine takeH 0 (v := ?_) rfl (by kernel_rfl) (by kernel_rfl) (by kernel_rfl) (fun _ _ _ h => h) hg_h.out (by rfl) (fun W' hW' => ?_) ?_; rotate_left; · (obtain ⟨⟨y0, y1, y2⟩, y3, y4, y5⟩ := box3 hW'; clear hW'; go_simp; first | done | with_reducible rfl)
  simp only [Act.put, List.setIfInBounds_toArray, List.set_cons_zero, List.set_cons_succ]
  refine takeH 1 (v := ?_) rfl (by kernel_rfl) (by kernel_rfl) (by kernel_rfl) (fun _ _ _ h => h) hg_h.out (by rfl) (fun W' hW' => ?_) ?_; rotate_left; · (obtain ⟨⟨y0, y1, y2⟩, y3, y4, y5⟩ := box3 hW'; clear hW'; go_simp; first | done | with_reducible rfl)
  simp only [Act.put, List.setIfInBounds_toArray, List.set_cons_zero, List.set_cons_succ]
  refine takeH 3 (v := ?_) rfl (by kernel_rfl) (by kernel_rfl) (by kernel_rfl) (fun _ _ _ h => h) hg_h.out (by rfl) (fun W' hW' => ?_) ?_; rotate_left; · (obtain ⟨⟨y0, y1, y2⟩, y3, y4, y5⟩ := box3 hW'; clear hW'; go_simp; first | done | with_reducible rfl)
  simp only [Act.put, List.setIfInBounds_toArray, List.set_cons_zero, List.set_cons_succ]
  refine takeH 4 (v := ?_) rfl (by kernel_rfl) (by kernel_rfl) (by kernel_rfl) (fun _ _ _ h => h) hg_h.out (by rfl) (fun W' hW' => ?_) ?_; rotate_left; · (obtain ⟨⟨y0, y1, y2⟩, y3, y4, y5⟩ := box3 hW'; clear hW'; go_simp; first | done | with_reducible rfl)
  simp only [Act.put, List.setIfInBounds_toArray, List.set_cons_zero, List.set_cons_succ]
  refine' callH 2 (f := _) (args := _) rfl (by kernel_rfl) (by rfl) ?_ ?_; rotate_left 2; · (go_simp; first | done | with_reducible rfl | (constructor <;> with_reducible rfl))
  refine (second_any na (nb : Int) V hV B d n nb u W1 h1_h.out hn_h.out).mono ?_
  rintro e w2 ⟨B2, c2, rfl, hS2, hf2, hb2⟩
  replace hg_h := Lib.hid (box_below hg_h.out hb2)
  refine ⟨_, rfl, hg_h.out, ?_⟩
  simp only [Act.put, List.setIfInBounds_toArray, List.set_cons_zero, List.set_cons_succ]
  have h2 := h1_h.out.below hb2
  have h2_h := Lib.hid h2
  have hS2_h := Lib.hid hS2
  have hf2_h := Lib.hid hf2
  have hb2_h := Lib.hid hb2
  clear h2 hS2 hf2 hb2
  refine' callH 5 (f := _) (args := _) rfl (by kernel_rfl) (by rfl) ?_ ?_; rotate_left 2; · (go_simp; first | done | with_reducible rfl | (constructor <;> with_reducible rfl))
  refine (first_any na (nb : Int) V hV B d n u w2 h2_h.out (by have := hn_h.out; omega)).mono ?_
  rintro e w3 ⟨B3, rfl, hS3, hf3, hb3⟩
  replace hg_h := Lib.hid (box_below hg_h.out hb3)
  refine ⟨_, rfl, hg_h.out, ?_⟩
  simp only [Act.put, List.setIfInBounds_toArray, List.set_cons_zero, List.set_cons_succ]
  have hS2' := hS2_h.out.below hb3
  have hr2 : RdI w3 B2 (u.drop na) := fun j x hj => by
    obtain ⟨ad, hA, _, hc, _⟩ := hS2'.cell (ints_get hj)
    exact ⟨ad, hA, hc⟩
  have hr3 : RdI w3 B3 (u.take na) := fun j x hj => by
    obtain ⟨ad, hA, _, hc, _⟩ := hS3.cell (ints_get hj)
    exact ⟨ad, hA, hc⟩
  have hlr := laid_rdr (w := w3) [(B2, c2, u.drop na), (B3, d, u.take na)] (fun x hx => by
    rcases List.mem_cons.1 hx with rfl | hx
    · exact hr2
    · obtain rfl := List.mem_singleton.1 hx; exact hr3) (by unfold maxLen; simp)
  have e : (([(B2, c2, u.drop na), (B3, d, u.take na)] : List Hd).map Hd.val).toArray = #[.slice B2 nb c2, .slice B3 na d] := by
    simp [Hd.val, hl2_h.out, hl3_h.out]
  rw [e] at hlr
  have hgn := box_below hg_h.out (below_alloc w3 (.cells #[.slice B2 nb c2, .slice B3 na d] 37))
  have hJ := joined_any (some ⟨w3.heap.size, 0, none⟩) 2 [(B2, c2, u.drop na), (B3, d, u.take na)] _ hlr (by simp) (by simp; have := hul_h.out; omega)
  have e2 : (([(B2, c2, u.drop na), (B3, d, u.take na)] : List Hd).map fun h : Hd => h.2.2).flatten = swapV na u := by simp [swapV]
  rw [e2] at hJ
  have hB3 := below_trans (below_trans hbd_h.out hb2_h.out hbd_h.out.size) hb3 (Nat.le_trans hbd_h.out.size hb2_h.out.size)
  have hB4 := below_trans hB3 (below_alloc w3 (.cells #[.slice B2 nb c2, .slice B3 na d] 37)) hB3.size
  clear hlr e e2 hr2 hr3 hS2' hS3 hf3 hb3 hB3
  have hgn_h := Lib.hid hgn
  have hJ_h := Lib.hid hJ
  have hB4_h := Lib.hid hB4
  clear hgn hJ hB4
  refine oneH 6 rfl (by kernel_rfl) (by rfl) (fun K hK => ?_)
  go_simp
  refine hK _ _ hgn_h.out ?_
  clear hK K
  refine' callH 7 (f := _) (args := _) rfl (by kernel_rfl) (by rfl) ?_ ?_; rotate_left 2; · (go_simp; first | done | with_reducible rfl | (constructor <;> with_reducible rfl))
  refine (hJ_h.out).mono ?_
  rintro e w4 ⟨A4, c4, rfl, hi4, hf4, hb4⟩
  replace hgn_h := Lib.hid (box_below hgn_h.out hb4)
  refine ⟨_, rfl, hgn_h.out, ?_⟩
  simp only [Act.put, List.setIfInBounds_toArray, List.set_cons_zero, List.set_cons_succ]
  have hres : RetI w (swapV na u) (.returned (.slice A4 (swapV na u).length c4)) w4 := ⟨A4, c4, rfl, hi4, hf4.mono hB4_h.out.size, below_trans hB4_h.out hb4 hB4_h.out.size⟩
  clear hi4 hf4 hb4
  have hres_h := Lib.hid hres
  clear hres
  refine takeH 8 (v := ?_) rfl (by kernel_rfl) (by kernel_rfl) (by kernel_rfl) (fun _ _ _ h => h) hgn_h.out (by rfl) (fun W' hW' => ?_) ?_; rotate_left; · (skip; clear hW'; go_simp; first | done | with_reducible rfl)
  simp only [Act.put, List.setIfInBounds_toArray, List.set_cons_zero, List.set_cons_succ]
  refine doneH (by kernel_rfl) ?_
  go_wp2_with (fail)
  go_ret
  exact hres_h.out

set_option maxRecDepth 8000 in
set_option maxHeartbeats 2000000 in
theorem converse_any (p : Int) {v : Value} {s : Sys} {fp : List Nat} (w : World) (h : OwSys w v s fp) (hs : RelOk p s) :
    Calls Tryd.prog 104 #[.int .i64 p, v] w fun e w' => ∃ v' fp', e = .returned v' ∧ OwSys w' v' (convM p s) fp' ∧ FreshL w.heap.size fp' ∧ Below w.heap.size w w' := by
  have hmat0 := hs.mat.map (f := swapV s.1.toNat) fun v hv hr => ⟨(swapV_len _ v).trans hv, swapV_res hr⟩
  obtain ⟨A, c, gs, rfl, hL, hO, rfl⟩ := h
  obtain ⟨a, b, L⟩ := s
  have h0 : 0 ≤ a := hs.lo
  have h1 : 0 ≤ b := hs.hi
  have h2 : a + b ≤ 24 := hs.sum
  have hfld : fieldB p = true := hs.fld
  have hrow : ∀ u, u ∈ L → (u.length : Int) = a + b ∧ Res p u := fun u hu => hs.row hu
  have hlen : (L.length : Int) ≤ a + b := hs.len
  clear hs
  obtain ⟨na, rfl⟩ : ∃ na : Nat, a = (na : Int) := ⟨a.toNat, by omega⟩
  obtain ⟨nb, rfl⟩ : ∃ nb : Nat, b = (nb : Int) := ⟨b.toNat, by omega⟩
  have hL' : L = gs.map (fun h : Hd => h.2.2) := hL
  clear hL
  obtain ⟨m, hm⟩ : ∃ m, m = gs.length := ⟨_, rfl⟩
  have hLm : L.length = m := by rw [hL', List.length_map, hm]
  have hm24 : (m : Int) ≤ 24 := by have := hlen; rw [hLm] at this; omega
  have hgr : ∀ x, x ∈ gs → x.2.2.length = na + nb := fun x hx => by have := (hrow _ (by rw [hL']; exact List.mem_map_of_mem hx)).1; omega
  obtain ⟨n, hn⟩ : ∃ n, n = na + nb := ⟨_, rfl⟩
  obtain ⟨X, hX⟩ : ∃ X, X = L.map (swapV na) := ⟨_, rfl⟩
  have hmat : Mat p X.length n X := by rw [hX, hn, List.length_map]; exact hmat0
  obtain ⟨R, hR⟩ : ∃ R, R = redM p n X := ⟨_, rfl⟩
  have hgoal : convM p ((na : Int), (nb : Int), L) = ((nb : Int), (na : Int), R) := by
    rw [hR, hX, hn]; rfl
  rw [hgoal]
  show Calls Tryd.prog _ #[.int .i64 p, .agg #[.int .i64 (na : Int), .int .i64 (nb : Int), .slice A gs.length c]] w _
  rw [← hm]
  have hEa := fun (W' : World) (hb : Below w.heap.size w W') (hg : W'.heap[w.heap.size]? = some (.cells #[.int .i64 (na : Int), .int .i64 (nb : Int), .slice A m c] tRel)) => each_any 141 #[] #[.pointer (some ⟨w.heap.size, 0, none⟩)] (swapV na) (na : Int) (nb : Int) A c gs W' (hO.below hb).rd (hO.below hb).rows (by omega) (fun _ _ => rfl) (fun x hx W2 hb2 => by
    have hI : Sl W2 3 1 x.1 x.2.2.length x.2.1 (ints x.2.2) := ((hO.below hb).rows x hx).below hb2
    have hl := hgr x hx
    have := conv1_any w.heap.size na nb (.slice A m c) rfl x.1 x.2.1 x.2.2.length x.2.2 W2 hI (by omega) (by omega) (box_below hg hb2)
    refine this.mono ?_
    rintro e w4 ⟨A4, c4, rfl, hi4, hf4, hb4⟩
    exact ⟨A4, c4, rfl, hi4, fun b hb => .inr (hf4 b hb), hb4⟩)
  simp only [← hm] at hEa
  obtain ⟨W, hW, b0, k0, k1⟩ := alloc2 w (.cells #[.int .i64 (na : Int), .int .i64 (nb : Int), .slice A m c] tRel) (.cells #[.int .i64 0, .int .i64 0, .slice none 0 0] tRel)
  have hmf : ∀ (fn : Fn) (first cap : Array Value) (w : World), (Instr.makeFunc fn first cap).run Tryd.prog w = .ok (.func fn first cap) w := fun _ _ _ _ => rfl
  clear hO hmat0 hgoal hgr
  have hL'_h := Lib.hid hL'
  have hm_h := Lib.hid hm
  have hLm_h := Lib.hid hLm
  have k0_h := Lib.hid k0
  have k1_h := Lib.hid k1
  have b0_h := Lib.hid b0
  have hrow_h := Lib.hid hrow
  have hlen_h := Lib.hid hlen
  have hfld_h := Lib.hid hfld
  have hmat_h := Lib.hid hmat
  have hX_h := Lib.hid hX
  have hR_h := Lib.hid hR
  have hEa_h := Lib.hid hEa
  have hn_h := Lib.hid hn
  clear hL' hm hLm k0 k1 b0 hrow hlen hfld hmat hX hR hEa hn
  go_enter Tryd.func104, Tryd.ntmps104
  go_wp2_with (fail)
  rw [← hW]
  clear hW
  have hbd : Below W.heap.size W W.drew := below_drewN (Below.refl _ _) 1
  refine beginH (fun w' => w'.heap[w.heap.size]? = some (.cells #[.int .i64 (na : Int), .int .i64 (nb : Int), .slice A m c] tRel)) (by kernel_rfl) ?_
  generalize W.drew = W1 at hbd ⊢
  replace k0_h := Lib.hid (box_below k0_h.out hbd)
  replace k1_h := Lib.hid (box_below k1_h.out hbd)
  have hB1 := below_trans b0_h.out hbd b0_h.out.size
  have hw1 : w.heap.size + 1 < W1.heap.size := (Array.getElem?_eq_some_iff.1 k1_h.out).1
  have hbd_h := Lib.hid hbd
  have hB1_h := Lib.hid hB1
  clear hbd hB1
  refine takeH 0 (v := ?_) rfl (by kernel_rfl) (by kernel_rfl) (by kernel_rfl) (fun _ _ _ h => h) k0_h.out (by rfl) (fun W' hW' => ?_) ?_; rotate_left; · (obtain ⟨⟨y0, y1, y2⟩, y3, y4, y5⟩ := box3 hW'; clear hW'; go_simp; first | done | with_reducible rfl)
  simp only [Act.put, List.setIfInBounds_toArray, List.set_cons_zero, List.set_cons_succ]
  refine takeH 1 (v := ?_) rfl (by kernel_rfl) (by kernel_rfl) (by kernel_rfl) (fun _ _ _ h => h) k0_h.out (by rfl) (fun W' hW' => ?_) ?_; rotate_left; · (obtain ⟨⟨y0, y1, y2⟩, y3, y4, y5⟩ := box3 hW'; clear hW'; go_simp; first | done | with_reducible rfl)
  simp only [Act.put, List.setIfInBounds_toArray, List.set_cons_zero, List.set_cons_succ]
  refine takeH 2 (v := ?_) rfl (by kernel_rfl) (by kernel_rfl) (by kernel_rfl) (fun _ _ _ h => h) k0_h.out (by rfl) (fun W' hW' => ?_) ?_; rotate_left; · (obtain ⟨⟨y0, y1, y2⟩, y3, y4, y5⟩ := box3 hW'; clear hW'; go_simp; first | done | with_reducible rfl)
  simp only [Act.put, List.setIfInBounds_toArray, List.set_cons_zero, List.set_cons_succ]
  refine takeH 3 (v := ?_) rfl (by kernel_rfl) (by kernel_rfl) (by kernel_rfl) (fun _ _ _ h => h) k0_h.out (by rfl) (fun W' hW' => ?_) ?_; rotate_left; · (obtain ⟨⟨y0, y1, y2⟩, y3, y4, y5⟩ := box3 hW'; clear hW'; go_simp; first | done | with_reducible rfl)
  simp only [Act.put, List.setIfInBounds_toArray, List.set_cons_zero, List.set_cons_succ]
  refine takeH 4 (v := ?_) rfl (by kernel_rfl) (by kernel_rfl) (by kernel_rfl) (fun _ _ _ h => h) k0_h.out (by rfl) (fun W' hW' => ?_) ?_; rotate_left; · (obtain ⟨⟨y0, y1, y2⟩, y3, y4, y5⟩ := box3 hW'; clear hW'; go_simp; first | done | with_reducible rfl)
  simp only [Act.put, List.setIfInBounds_toArray, List.set_cons_zero, List.set_cons_succ]
  refine takeH 5 (v := ?_) rfl (by kernel_rfl) (by kernel_rfl) (by kernel_rfl) (fun _ _ _ h => h) k0_h.out (by rfl) (fun W' hW' => ?_) ?_; rotate_left; · (obtain ⟨⟨y0, y1, y2⟩, y3, y4, y5⟩ := box3 hW'; clear hW'; go_simp; first | done | with_reducible rfl)
  simp only [Act.put, List.setIfInBounds_toArray, List.set_cons_zero, List.set_cons_succ]
  refine takeH 6 (v := ?_) rfl (by kernel_rfl) (by kernel_rfl) (by kernel_rfl) (fun _ _ _ h => h) k0_h.out (by rfl) (fun W' hW' => ?_) ?_; rotate_left; · (skip; clear hW'; go_simp; first | done | with_reducible rfl)
  simp only [Act.put, List.setIfInBounds_toArray, List.set_cons_zero, List.set_cons_succ]
  refine' callH 7 (f := _) (args := _) rfl (by kernel_rfl) (by rfl) ?_ ?_; rotate_left 2; · (go_simp; first | done | with_reducible rfl | (constructor <;> with_reducible rfl))
  refine (hEa_h.out W1 hB1_h.out k0_h.out).mono ?_
  rintro e w2 ⟨A1, c1, g1, rfl, hg1, hO1⟩
  replace k0_h := Lib.hid (box_below k0_h.out hO1.below_)
  replace k1_h := Lib.hid (box_below k1_h.out hO1.below_)
  have hz2 := box_lt k1_h.out
  refine ⟨_, rfl, k0_h.out, ?_⟩
  simp only [Act.put, List.setIfInBounds_toArray, List.set_cons_zero, List.set_cons_succ]
  have hg2 : g1.map (fun h : Hd => h.2.2) = X := by rw [hg1, hX_h.out, hL'_h.out, List.map_map]; rfl
  have hgl : g1.length = m := by have := congrArg List.length hg2; rwa [List.length_map, hX_h.out, List.length_map, hLm_h.out] at this
  have hXl : X.length = m := by rw [hX_h.out, List.length_map, hLm_h.out]
  have hC := relation_any p (nb : Int) (na : Int) n A1 c1 g1 w2 hO1.rdr hfld_h.out (by have := hn_h.out; omega) (by rw [hg2, hgl, ← hXl]; exact hmat_h.out) (by omega) (by have := hn_h.out; omega)
  rw [hg2, ← hR_h.out, hgl] at hC
  have hB2 := below_trans hB1_h.out hO1.below_ hB1_h.out.size
  clear hg1 hg2 hgl hXl hO1
  have hC_h := Lib.hid hC
  have hB2_h := Lib.hid hB2
  clear hC hB2
  refine' callH 8 (f := _) (args := _) rfl (by kernel_rfl) (by rfl) ?_ ?_; rotate_left 2; · (go_simp; first | done | with_reducible rfl | (constructor <;> with_reducible rfl))
  refine (hC_h.out).mono ?_
  rintro e w3 ⟨v3, fp3, rfl, hO3, hf3, hb3⟩
  replace k0_h := Lib.hid (box_below k0_h.out hb3)
  replace k1_h := Lib.hid (box_below k1_h.out hb3)
  refine ⟨_, rfl, k0_h.out, ?_⟩
  simp only [Act.put, List.setIfInBounds_toArray, List.set_cons_zero, List.set_cons_succ]
  obtain ⟨A3, n3, c3, rfl⟩ := hO3.shape
  have hB3 := below_trans hB2_h.out hb3 hB2_h.out.size
  have hBs := hB2_h.out.size
  have hz3 : w.heap.size + 1 < w3.heap.size := (Array.getElem?_eq_some_iff.1 k1_h.out).1
  obtain ⟨⟨d0, d1, d2⟩, g0, g1', g2'⟩ := box3 k1_h.out
  obtain ⟨s1, s2⟩ := set3 (a := .int .i64 (nb : Int)) (b := .int .i64 (na : Int)) (c := .slice A3 n3 c3) k1_h.out
  have k0' := box_keeps k0_h.out s2 (by omega)
  have hO4 := hO3.keeps s2 (fun k hk e => by have := hf3 k hk; omega)
  have hB4 := below_keeps hB3 s2 hB3.size (fun k hk => by omega)
  have hf4 := hf3.mono hBs
  clear hO3 hf3 hb3 hB3
  have s1_h := Lib.hid s1
  have s2_h := Lib.hid s2
  have k0'_h := Lib.hid k0'
  have hO4_h := Lib.hid hO4
  have hB4_h := Lib.hid hB4
  have hf4_h := Lib.hid hf4
  clear s1 s2 k0' hO4 hB4 hf4
  refine oneH 9 rfl (by kernel_rfl) (by rfl) (fun K hK => ?_)
  go_simp
  refine hK _ _ k0'_h.out ?_
  clear hK K
  refine doneH (by kernel_rfl) ?_
  go_wp2_with (fail)
  refine bodyPost_ret (results_cell_row rfl _ _ (w.heap.size + 1) _ _ (0, 0) _ rfl s1_h.out Tryd.underlying51 rfl (by kernel_rfl)) rfl ?_
  exact ⟨_, rfl, fp3, hO4_h.out, hf4_h.out, hB4_h.out⟩
/-- The converse, or none. -/
def conM (p : Int) (s : Sys) : Sys × Bool := if relB p s then (convM p s, true) else ((0, 0, []), false)
theorem conM_ok {p : Int} {s : Sys} : OkR (conM p s).1.2.2 := by
  unfold conM
  split
  · rename_i h
    have hs := RelOk.of h
    have hm := hs.mat.map (f := swapV s.1.toNat) fun v hv hr => ⟨(swapV_len _ v).trans hv, swapV_res hr⟩
    have hl : (s.2.2.map (swapV s.1.toNat)).length = s.2.2.length := List.length_map _
    rw [← hl] at hm
    have hr := redM_spec hs.fld hm
    have := hs.len; have := hs.sum; have := hs.hi; have := hs.lo
    exact okR_mat hr.1.1 (by have := hr.2.2; omega) (by omega)
  · exact okR_nil
set_option maxRecDepth 100000 in
set_option maxHeartbeats 2000000 in
theorem sConverseRelation_law (p : Int) {v : Value} {s : Sys} {fp : List Nat} {w : World} (h : OwSys w v s fp) (ok : OkR s.2.2) :
    Calls Tryd.prog 47 #[.int .i64 p, v] w fun e w' => ∃ v' fp', e = .returned (.tuple #[v', .bool (conM p s).2]) ∧ OwSys w' v' (conM p s).1 fp' ∧ FreshL w.heap.size fp' ∧ Below w.heap.size w w' := by
  obtain ⟨C, hC0⟩ : ∃ C, C = conM p s := ⟨_, rfl⟩
  rw [← hC0]
  have hcan : ∀ b, relB p s = b → conM p s = if b then (convM p s, true) else ((0, 0, []), false) := fun b hb => by unfold conM; rw [hb]
  obtain ⟨A, n, c, rfl⟩ := h.shape
  obtain ⟨W, hW, b0, k0, k1⟩ := alloc2 w (.cells #[.int .i64 s.1, .int .i64 s.2.1, .slice A n c] tRel) (.cells #[.int .i64 0, .int .i64 0, .slice none 0 0] tRel)
  have hG := rlGood_any p W (h.rd.below b0) ok.1 ok.2.1
  have hF := fun W' (hb : Below W.heap.size W W') (hs : RelOk p s) => rlConverse_any p W' ((h.below b0).below hb) hs
  obtain ⟨⟨c0, c1, c2⟩, f0, f1, f2⟩ := box3 k0
  by_cases hb : relB p s = true
  · rw [hb] at hG
    have hof := RelOk.of hb
    have hb' := hcan true hb
    rw [if_pos rfl] at hb'
    rw [hb'] at hC0
    subst hC0
    clear h ok hb hb' hcan
    have hG_h := Lib.hid hG
    have hF_h := Lib.hid hF
    have k0_h := Lib.hid k0
    have k1_h := Lib.hid k1
    have b0_h := Lib.hid b0
    have hof_h := Lib.hid hof
    clear hG hF k0 k1 b0 hof
    go_enter Tryd.func47, Tryd.ntmps47
    go_upto_region 1 with (fail)
    rw [← hW]
    clear hW
    go_wp2_with (fail)
    refine (hG_h.out).mono ?_
    rintro e w1 ⟨rfl, hb1⟩
    clear c0 c1 c2 f0 f1 f2
    replace k0_h := Lib.hid (box_below k0_h.out hb1)
    replace k1_h := Lib.hid (box_below k1_h.out hb1)
    obtain ⟨⟨c0, c1, c2⟩, f0, f1, f2⟩ := box3 k0_h.out
    obtain ⟨⟨d0, d1, d2⟩, g0, g1, g2⟩ := box3 k1_h.out
    have hB1 := below_trans b0_h.out hb1 b0_h.out.size
    have hw1 : w.heap.size + 1 < w1.heap.size := (Array.getElem?_eq_some_iff.1 k1_h.out).1
    have hF1 := hF_h.out w1 hb1 hof_h.out
    have hF1_h := Lib.hid hF1
    have hB1_h := Lib.hid hB1
    have hb1_h := Lib.hid hb1
    clear hF1 hB1 hb1
    go_wp2_with (fail)
    refine (hF1_h.out).mono ?_
    rintro e w2 ⟨v2, fp2, rfl, hO2, hf2, hb2⟩
    obtain ⟨A2, n2, c2', rfl⟩ := hO2.shape
    have k1' := box_below k1_h.out hb2
    clear d0 d1 d2 g0 g1 g2
    obtain ⟨⟨d0, d1, d2⟩, g0, g1, g2⟩ := box3 k1'
    obtain ⟨s1, s2⟩ := set3 (a := .int .i64 (convM p s).1) (b := .int .i64 (convM p s).2.1) (c := .slice A2 n2 c2') k1'
    have hB2 := below_trans hB1_h.out hb2 hB1_h.out.size
    have hB3 := below_keeps hB2 s2 hB2.size (fun k hk => by omega)
    have hO3 := hO2.keeps s2 (fun k hk e => by have := hf2 k hk; omega)
    have hf3 := hf2.mono hB1_h.out.size
    clear hB2 hO2 hf2 hb2 k1'
    have s1_h := Lib.hid s1
    have s2_h := Lib.hid s2
    have hB3_h := Lib.hid hB3
    have hO3_h := Lib.hid hO3
    have hf3_h := Lib.hid hf3
    clear s1 s2 hB3 hO3 hf3
    go_wp2_with (fail)
    refine bodyPost_ret (results_cell_tmp rfl _ _ (w.heap.size + 1) _ _ (0, 0) _ rfl s1_h.out Tryd.underlying51 rfl (by kernel_rfl)) rfl ?_
    exact ⟨_, fp2, rfl, hO3_h.out, hf3_h.out, hB3_h.out⟩
  · have hb' : relB p s = false := by simpa using hb
    rw [hb'] at hG
    have hb2 := hcan false hb'
    rw [if_neg (by simp)] at hb2
    rw [hb2] at hC0
    subst hC0
    clear h ok hb hb' hb2 hcan hF
    have hG_h := Lib.hid hG
    have k0_h := Lib.hid k0
    have k1_h := Lib.hid k1
    have b0_h := Lib.hid b0
    clear hG k0 k1 b0
    go_enter Tryd.func47, Tryd.ntmps47
    go_upto_region 1 with (fail)
    rw [← hW]
    clear hW
    go_wp2_with (fail)
    refine (hG_h.out).mono ?_
    rintro e w1 ⟨rfl, hb1⟩
    clear c0 c1 c2 f0 f1 f2
    have k1' := box_below k1_h.out hb1
    have hB1 := below_trans b0_h.out hb1 b0_h.out.size
    have hw1 : w.heap.size + 1 < w1.heap.size := (Array.getElem?_eq_some_iff.1 k1').1
    obtain ⟨⟨d0, d1, d2⟩, g0, g1, g2⟩ := box3 k1'
    obtain ⟨s1, s2⟩ := set3 (a := .int .i64 0) (b := .int .i64 0) (c := .slice none 0 0) k1'
    have hB3 := below_keeps hB1 s2 hB1.size (fun k hk => by omega)
    clear hB1 hb1 k1'
    have s1_h := Lib.hid s1
    have s2_h := Lib.hid s2
    have hB3_h := Lib.hid hB3
    clear s1 s2 hB3
    go_wp2_with (fail)
    refine bodyPost_ret (results_cell_tmp rfl _ _ (w.heap.size + 1) _ _ (0, 0) _ rfl s1_h.out Tryd.underlying51 rfl (by kernel_rfl)) rfl ?_
    exact ⟨_, [], rfl, OwSys.zero _ 0 0, FreshL.nil _, hB3_h.out⟩
set_option maxRecDepth 100000 in
set_option maxHeartbeats 2000000 in
theorem iConverseRelation_law (p : Int) {v : Value} {s : Sys} {fp : List Nat} {w : World} (h : OwSys w v s fp) (ok : OkR s.2.2) (hT : Tab w) :
    Calls Tryd.prog 48 #[.int .i64 p, v] w fun e w' => ∃ v' fp', e = .returned (.tuple #[v', .bool (conM p s).2]) ∧ OwSys w' v' (conM p s).1 fp' ∧ FreshL w.heap.size fp' ∧ Below w.heap.size w w' := by
  obtain ⟨C, hC0⟩ : ∃ C, C = conM p s := ⟨_, rfl⟩
  rw [← hC0]
  have hcan : ∀ b, relB p s = b → conM p s = if b then (convM p s, true) else ((0, 0, []), false) := fun b hb => by unfold conM; rw [hb]
  obtain ⟨A, n, c, rfl⟩ := h.shape
  obtain ⟨W, hW, b0, k0, k1⟩ := alloc2 w (.cells #[.int .i64 s.1, .int .i64 s.2.1, .slice A n c] tRel) (.cells #[.int .i64 0, .int .i64 0, .slice none 0 0] tRel)
  have hG := isRelation_any p W (h.rd.below b0) (hT.below b0 hT.lt) ok.1 ok.2.1
  have hF := fun W' (hb : Below W.heap.size W W') (hs : RelOk p s) => converse_any p W' ((h.below b0).below hb) hs
  obtain ⟨⟨c0, c1, c2⟩, f0, f1, f2⟩ := box3 k0
  by_cases hb : relB p s = true
  · rw [hb] at hG
    have hof := RelOk.of hb
    have hb' := hcan true hb
    rw [if_pos rfl] at hb'
    rw [hb'] at hC0
    subst hC0
    clear h ok hb hb' hcan hT
    have hG_h := Lib.hid hG
    have hF_h := Lib.hid hF
    have k0_h := Lib.hid k0
    have k1_h := Lib.hid k1
    have b0_h := Lib.hid b0
    have hof_h := Lib.hid hof
    clear hG hF k0 k1 b0 hof
    go_enter Tryd.func48, Tryd.ntmps48
    go_upto_region 1 with (fail)
    rw [← hW]
    clear hW
    go_wp2_with (fail)
    refine (hG_h.out).mono ?_
    rintro e w1 ⟨rfl, hb1⟩
    clear c0 c1 c2 f0 f1 f2
    replace k0_h := Lib.hid (box_below k0_h.out hb1)
    replace k1_h := Lib.hid (box_below k1_h.out hb1)
    obtain ⟨⟨c0, c1, c2⟩, f0, f1, f2⟩ := box3 k0_h.out
    obtain ⟨⟨d0, d1, d2⟩, g0, g1, g2⟩ := box3 k1_h.out
    have hB1 := below_trans b0_h.out hb1 b0_h.out.size
    have hw1 : w.heap.size + 1 < w1.heap.size := (Array.getElem?_eq_some_iff.1 k1_h.out).1
    have hF1 := hF_h.out w1 hb1 hof_h.out
    have hF1_h := Lib.hid hF1
    have hB1_h := Lib.hid hB1
    have hb1_h := Lib.hid hb1
    clear hF1 hB1 hb1
    go_wp2_with (fail)
    refine (hF1_h.out).mono ?_
    rintro e w2 ⟨v2, fp2, rfl, hO2, hf2, hb2⟩
    obtain ⟨A2, n2, c2', rfl⟩ := hO2.shape
    have k1' := box_below k1_h.out hb2
    clear d0 d1 d2 g0 g1 g2
    obtain ⟨⟨d0, d1, d2⟩, g0, g1, g2⟩ := box3 k1'
    obtain ⟨s1, s2⟩ := set3 (a := .int .i64 (convM p s).1) (b := .int .i64 (convM p s).2.1) (c := .slice A2 n2 c2') k1'
    have hB2 := below_trans hB1_h.out hb2 hB1_h.out.size
    have hB3 := below_keeps hB2 s2 hB2.size (fun k hk => by omega)
    have hO3 := hO2.keeps s2 (fun k hk e => by have := hf2 k hk; omega)
    have hf3 := hf2.mono hB1_h.out.size
    clear hB2 hO2 hf2 hb2 k1'
    have s1_h := Lib.hid s1
    have s2_h := Lib.hid s2
    have hB3_h := Lib.hid hB3
    have hO3_h := Lib.hid hO3
    have hf3_h := Lib.hid hf3
    clear s1 s2 hB3 hO3 hf3
    go_wp2_with (fail)
    refine bodyPost_ret (results_cell_tmp rfl _ _ (w.heap.size + 1) _ _ (0, 0) _ rfl s1_h.out Tryd.underlying51 rfl (by kernel_rfl)) rfl ?_
    exact ⟨_, fp2, rfl, hO3_h.out, hf3_h.out, hB3_h.out⟩
  · have hb' : relB p s = false := by simpa using hb
    rw [hb'] at hG
    have hb2 := hcan false hb'
    rw [if_neg (by simp)] at hb2
    rw [hb2] at hC0
    subst hC0
    clear h ok hb hb' hb2 hcan hF hT
    have hG_h := Lib.hid hG
    have k0_h := Lib.hid k0
    have k1_h := Lib.hid k1
    have b0_h := Lib.hid b0
    clear hG k0 k1 b0
    go_enter Tryd.func48, Tryd.ntmps48
    go_upto_region 1 with (fail)
    rw [← hW]
    clear hW
    go_wp2_with (fail)
    refine (hG_h.out).mono ?_
    rintro e w1 ⟨rfl, hb1⟩
    clear c0 c1 c2 f0 f1 f2
    have k1' := box_below k1_h.out hb1
    have hB1 := below_trans b0_h.out hb1 b0_h.out.size
    have hw1 : w.heap.size + 1 < w1.heap.size := (Array.getElem?_eq_some_iff.1 k1').1
    obtain ⟨⟨d0, d1, d2⟩, g0, g1, g2⟩ := box3 k1'
    obtain ⟨s1, s2⟩ := set3 (a := .int .i64 0) (b := .int .i64 0) (c := .slice none 0 0) k1'
    have hB3 := below_keeps hB1 s2 hB1.size (fun k hk => by omega)
    clear hB1 hb1 k1'
    have s1_h := Lib.hid s1
    have s2_h := Lib.hid s2
    have hB3_h := Lib.hid hB3
    clear s1 s2 hB3
    go_wp2_with (fail)
    refine bodyPost_ret (results_cell_tmp rfl _ _ (w.heap.size + 1) _ _ (0, 0) _ rfl s1_h.out Tryd.underlying51 rfl (by kernel_rfl)) rfl ?_
    exact ⟨_, [], rfl, OwSys.zero _ 0 0, FreshL.nil _, hB3_h.out⟩
end Go.Proofs.YtpfidjegdpkhdaaDoor
