/-
  What the texts above it need, part 4.
-/
import Derived.Test.YtahnhblodfdfhaaDoorKLeafRelation3
import Derived.Deep.DeepCutAuto
namespace Go.Proofs.YtahnhblodfdfhaaDoor
open Go.RowKit
abbrev tRelD : TypeId := 43
def RetRdn (w : World) (L : List (List Int)) (e : Ending) (w' : World) : Prop := ∃ A c hs n, e = .returned (.slice A n c) ∧ hs.length = n ∧ hs.map (fun h : Hd => h.2.2) = L ∧ RdR w' A hs ∧ Below w.heap.size w w'
theorem rd_laid (w : World) (l : List Int) (hl : l.length ≤ maxLen) : RdI (w.alloc (.cells (ints l).toArray 3)) (some ⟨w.heap.size, 0, none⟩) l := by
  have h := Sl.laid w 3 1 l.length (ints l).toArray hl (by simp)
  intro j x hj
  obtain ⟨ad, hA, _, hc, _⟩ := h.cell (j := j) (u := .int .i64 x) (by simpa using ints_get hj)
  exact ⟨ad, hA, hc⟩
theorem mirror_any (k : Int) (w : World) (h1 : 9 ≤ k) (h2 : k ≤ 14) : Calls Tryd.prog 167 #[.int .i64 k] w fun e w' => e = .returned (.int .i64 (k - 6)) ∧ w' = w := by
  have hA : t_inB k 3 8 = false := decide_eq_false (by omega)
  have hB : t_inB k 9 14 = true := decide_eq_true (by omega)
  go_enter Tryd.func167, Tryd.ntmps167
  go_wp2_with (fail)
  refine (t_within_any _ _ _ _).mono ?_
  rintro e w' ⟨rfl, rfl⟩
  rw [hA]
  go_wp2_with (fail)
  refine (t_within_any _ _ _ _).mono ?_
  rintro e w' ⟨rfl, rfl⟩
  rw [hB]
  go_wp2_with (fail)
  go_ret
  show Ending.returned (.int .i64 (k - 9 + 3)) = _ ∧ _
  rw [show k - 9 + 3 = k - 6 by omega]
  exact ⟨rfl, rfl⟩
set_option maxRecDepth 100000 in
set_option maxHeartbeats 2000000 in
theorem generatorRows_any (k v : Int) (w : World) (hk : k = 3 ∨ k = 4 ∨ k = 5 ∨ k = 6 ∨ k = 7) :
    Calls Tryd.prog 171 #[.int .i64 k, .int .i64 v] w (RetRdn w (leafRows k v)) := by
  rcases hk with rfl | rfl | rfl | rfl | rfl
  · -- kind 3
    go_enter Tryd.func171, Tryd.ntmps171
    go_wp2_with (fail)
    go_ret
    have r0 := rd_laid (w) [1, 1, 1] (by unfold maxLen; simp)
    have b0 := below_alloc (w) (.cells (ints [1, 1, 1]).toArray 3)
    have hlr := laid_rdr (w := (w).alloc (.cells (ints [1, 1, 1]).toArray 3)) ([((some ⟨w.heap.size, 0, none⟩ : Option Addr), 3, ([1, 1, 1] : List Int))] : List Hd) (fun x hx => by
      simp only [List.mem_cons, List.not_mem_nil, or_false] at hx
      subst hx
      exact r0) (by unfold maxLen; simp)
    simp only [World.size_alloc] at hlr
    have hbl := below_trans b0 (below_alloc _ (.cells (([((some ⟨w.heap.size, 0, none⟩ : Option Addr), 3, ([1, 1, 1] : List Int))] : List Hd).map Hd.val).toArray 33)) b0.size
    exact ⟨_, 1, _, 1, rfl, rfl, rfl, hlr, hbl⟩
  · -- kind 4
    go_enter Tryd.func171, Tryd.ntmps171
    go_wp2_with (fail)
    go_ret
    have r0 := rd_laid (w) [1] (by unfold maxLen; simp)
    have b0 := below_alloc (w) (.cells (ints [1]).toArray 3)
    have hlr := laid_rdr (w := (w).alloc (.cells (ints [1]).toArray 3)) ([((some ⟨w.heap.size, 0, none⟩ : Option Addr), 1, ([1] : List Int))] : List Hd) (fun x hx => by
      simp only [List.mem_cons, List.not_mem_nil, or_false] at hx
      subst hx
      exact r0) (by unfold maxLen; simp)
    simp only [World.size_alloc] at hlr
    have hbl := below_trans b0 (below_alloc _ (.cells (([((some ⟨w.heap.size, 0, none⟩ : Option Addr), 1, ([1] : List Int))] : List Hd).map Hd.val).toArray 33)) b0.size
    exact ⟨_, 1, _, 1, rfl, rfl, rfl, hlr, hbl⟩
  · -- kind 5
    go_enter Tryd.func171, Tryd.ntmps171
    go_wp2_with (fail)
    go_ret
    have r0 := rd_laid (w) [1, 0, 1] (by unfold maxLen; simp)
    have b0 := below_alloc (w) (.cells (ints [1, 0, 1]).toArray 3)
    have r1 := rd_laid ((w).alloc (.cells (ints [1, 0, 1]).toArray 3)) [0, 1, 1] (by unfold maxLen; simp)
    have b1 := below_alloc ((w).alloc (.cells (ints [1, 0, 1]).toArray 3)) (.cells (ints [0, 1, 1]).toArray 3)
    simp only [World.size_alloc] at r1
    have r0 := r0.below b1
    have hlr := laid_rdr (w := ((w).alloc (.cells (ints [1, 0, 1]).toArray 3)).alloc (.cells (ints [0, 1, 1]).toArray 3)) ([((some ⟨w.heap.size, 0, none⟩ : Option Addr), 3, ([1, 0, 1] : List Int)), ((some ⟨w.heap.size + 1, 0, none⟩ : Option Addr), 3, ([0, 1, 1] : List Int))] : List Hd) (fun x hx => by
      simp only [List.mem_cons, List.not_mem_nil, or_false] at hx
      rcases hx with rfl | rfl
      · exact r0
      · exact r1) (by unfold maxLen; simp)
    simp only [World.size_alloc] at hlr
    have hbl := below_trans (below_trans b0 b1 b0.size) (below_alloc _ (.cells (([((some ⟨w.heap.size, 0, none⟩ : Option Addr), 3, ([1, 0, 1] : List Int)), ((some ⟨w.heap.size + 1, 0, none⟩ : Option Addr), 3, ([0, 1, 1] : List Int))] : List Hd).map Hd.val).toArray 33)) (below_trans b0 b1 b0.size).size
    exact ⟨_, 2, _, 2, rfl, rfl, rfl, hlr, hbl⟩
  · -- kind 6
    go_enter Tryd.func171, Tryd.ntmps171
    go_wp2_with (fail)
    go_ret
    exact ⟨none, 0, [], 0, rfl, rfl, rfl, ⟨fun i h hh => by simp at hh, fun h hh => by cases hh⟩, Below.refl _ _⟩
  · -- kind 7
    go_enter Tryd.func171, Tryd.ntmps171
    go_wp2_with (fail)
    go_ret
    have r0 := rd_laid (w) [1, v] (by unfold maxLen; simp)
    have b0 := below_alloc (w) (.cells (ints [1, v]).toArray 3)
    have hlr := laid_rdr (w := (w).alloc (.cells (ints [1, v]).toArray 3)) ([((some ⟨w.heap.size, 0, none⟩ : Option Addr), 2, ([1, v] : List Int))] : List Hd) (fun x hx => by
      simp only [List.mem_cons, List.not_mem_nil, or_false] at hx
      subst hx
      exact r0) (by unfold maxLen; simp)
    simp only [World.size_alloc] at hlr
    have hbl := below_trans b0 (below_alloc _ (.cells (([((some ⟨w.heap.size, 0, none⟩ : Option Addr), 2, ([1, v] : List Int))] : List Hd).map Hd.val).toArray 33)) b0.size
    exact ⟨_, 1, _, 1, rfl, rfl, rfl, hlr, hbl⟩
theorem set_f2d {w : World} {B : Nat} {t : TypeId} {x y z b : Value} (h : w.heap[B]? = some (.cells #[x, y, z] t)) : (w.setCell ⟨B, 2, none⟩ b).heap[B]? = some (.cells #[x, y, b] t) ∧ Keeps (· = B) w (w.setCell ⟨B, 2, none⟩ b) := by
  refine ⟨by simp [World.setCell, Array.getElem?_modify, h], ?_⟩
  exact (Keeps.refl (fun x => x = B) w).setCell (p := ⟨B, 2, none⟩) rfl _
theorem idRows_take {n k : Nat} (hk : k < n) : (idRows n).take (k + 1) = (idRows n).take k ++ [unitV n k ++ unitV n k] := by
  rw [List.take_add_one]
  simp [idRows, hk]
set_option maxRecDepth 100000 in
set_option maxHeartbeats 4000000 in
theorem identityRelation_any (n : Nat) (w : World) (hn : n ≤ 12) :
    Calls Tryd.prog 168 #[.int .i64 (n : Int)] w fun e w' => ∃ v' fp, e = .returned v' ∧ OwSys w' v' ((n : Int), (n : Int), idRows n) fp ∧ FreshL w.heap.size fp ∧ Below w.heap.size w w' := by
  obtain ⟨W0, hW0, bW0, k0⟩ := alloc_box w (.cells #[.int .i64 0, .int .i64 0, .slice none 0 0] tRelD)
  obtain ⟨W, hW, b1, k1⟩ := alloc_box W0 (.cells #[.int .i64 (n : Int), .int .i64 (n : Int), .slice none 0 0] tRelD)
  obtain ⟨bx, hbx⟩ : ∃ bx, bx = W0.heap.size := ⟨_, rfl⟩
  have hbx1 : bx = w.heap.size + 1 := by rw [hbx, hW0]; simp
  rw [← hbx] at k1
  have hnil : OMx W0 bx W none 0 ((idRows n).take 0) := OMx.nil b1 (by omega) (box_lt k1)
  have bW0_h := Lib.hid bW0; have k0_h := Lib.hid k0; have b1_h := Lib.hid b1; have k1_h := Lib.hid k1; have hnil_h := Lib.hid hnil; have hbx1_h := Lib.hid hbx1; clear bW0 k0 b1 k1 hnil hbx1
  go_enter Tryd.func168, Tryd.ntmps168
  go_upto_region 2 with (fail)
  rw [← hW0, ← hW, ← hbx1_h.out]
  have hbx_h := Lib.hid hbx; clear hW0 hW hbx
  go_wp2_with (fail)
  go_loopw [9] (fun i wr => ∃ (k q : Nat) (A1 : Option Addr) (c1 : Nat), k ≤ n ∧ i = .int .i64 k ∧ q = k ∧ wr.heap[bx]? = some (.cells #[.int .i64 (n : Int), .int .i64 (n : Int), .slice A1 q c1] tRelD) ∧ OMx W0 bx wr A1 c1 ((idRows n).take k)) (fun i _ => n - (intOf i).toNat)
  case atStart => exact ⟨0, 0, none, 0, Nat.zero_le _, rfl, rfl, k1_h.out, hnil_h.out⟩
  case round =>
    clear hnil_h k1_h
    obtain ⟨k, q, A1, c1, hk, rfl, hq, kx, hOM⟩ := hrel
    obtain ⟨wo, rfl⟩ : ∃ x, x = wr := ⟨_, rfl⟩
    by_cases hlt : k < n
    · have hkI : (k : Int) < (n : Int) := by omega
      have hq12 : q ≤ 12 := by omega
      have hU := fun (W' : World) => unit_any n k W' (by omega) hlt
      have htk := idRows_take hlt
      have hrl : (unitV n k ++ unitV n k).length = n + n := by simp
      obtain ⟨row, hrow⟩ : ∃ r, r = unitV n k ++ unitV n k := ⟨_, rfl⟩
      obtain ⟨N, hN⟩ : ∃ N, N = n + n := ⟨_, rfl⟩
      rw [← hrow] at htk hrl
      rw [← hN] at hrl
      have hbd : Below wo.heap.size wo wo.drew := below_drewN (Below.refl _ _) 1
      have kx_h := Lib.hid kx; have hOM_h := Lib.hid hOM; have hU_h := Lib.hid hU; have htk_h := Lib.hid htk; have hrl_h := Lib.hid hrl; have hrow_h := Lib.hid hrow; have hN_h := Lib.hid hN; have hbd_h := Lib.hid hbd; have hq_h := Lib.hid hq; clear kx hOM hU htk hrl hrow hN hbd hq
      go_wp2_with (fail)
      refine beginZw 13 (fun w' => w'.heap[bx]? = some (.cells #[.int .i64 (n : Int), .int .i64 (n : Int), .slice A1 q c1] tRelD)) (by kernel_rfl) (fun W1 hW1 => ?_)
      have hB := hbd_h.out
      rw [← hW1] at hB
      clear hW1
      have hF := box_below kx_h.out hB
      have hF_h := Lib.hid hF; have hB_h := Lib.hid hB; clear hF hB
      refine takeC 0 (v := ?_) rfl (by kernel_rfl) (by kernel_rfl) (by kernel_rfl) (by kernel_rfl) (fun _ _ _ h => h) hF_h.out (by rfl) (fun W' hW' => ?_) ?_; rotate_left; · (obtain ⟨⟨x0, x1, x2⟩, x3, x4, x5⟩ := box3 hW'; clear hW'; go_simp; first | done | with_reducible rfl)
      simp only [Act.put, nS1, nS2, nS3]
      refine takeC 1 (v := ?_) rfl (by kernel_rfl) (by kernel_rfl) (by kernel_rfl) (by kernel_rfl) (fun _ _ _ h => h) hF_h.out (by rfl) (fun W' hW' => ?_) ?_; rotate_left; · (obtain ⟨⟨x0, x1, x2⟩, x3, x4, x5⟩ := box3 hW'; clear hW'; go_simp; first | done | with_reducible rfl)
      simp only [Act.put, nS1, nS2, nS3]
      refine takeC 2 (v := ?_) rfl (by kernel_rfl) (by kernel_rfl) (by kernel_rfl) (by kernel_rfl) (fun _ _ _ h => h) hF_h.out (by rfl) (fun W' hW' => ?_) ?_; rotate_left; · (obtain ⟨⟨x0, x1, x2⟩, x3, x4, x5⟩ := box3 hW'; clear hW'; go_simp; first | done | with_reducible rfl)
      simp only [Act.put, nS1, nS2, nS3]
      refine takeC 3 (v := ?_) rfl (by kernel_rfl) (by kernel_rfl) (by kernel_rfl) (by kernel_rfl) (fun _ _ _ h => h) hF_h.out (by rfl) (fun W' hW' => ?_) ?_; rotate_left; · (obtain ⟨⟨x0, x1, x2⟩, x3, x4, x5⟩ := box3 hW'; clear hW'; go_simp; first | done | with_reducible rfl)
      simp only [Act.put, nS1, nS2, nS3]
      refine takeC 5 (v := ?_) rfl (by kernel_rfl) (by kernel_rfl) (by kernel_rfl) (by kernel_rfl) (fun _ _ _ h => h) hF_h.out (by rfl) (fun W' hW' => ?_) ?_; rotate_left; · (obtain ⟨⟨x0, x1, x2⟩, x3, x4, x5⟩ := box3 hW'; clear hW'; go_simp; first | done | with_reducible rfl)
      simp only [Act.put, nS1, nS2, nS3]
      refine takeC 6 (v := ?_) rfl (by kernel_rfl) (by kernel_rfl) (by kernel_rfl) (by kernel_rfl) (fun _ _ _ h => h) hF_h.out (by rfl) (fun W' hW' => ?_) ?_; rotate_left; · (obtain ⟨⟨x0, x1, x2⟩, x3, x4, x5⟩ := box3 hW'; clear hW'; go_simp; first | done | with_reducible rfl)
      simp only [Act.put, nS1, nS2, nS3]
      refine callZ 4 (f := ?f1) (args := ?args1) rfl (by kernel_rfl) (by rfl) ?hrun1 ?hcall1
      case hrun1 => (go_simp; first | done | with_reducible rfl | (constructor <;> with_reducible rfl))
      case hcall1 =>
        refine (hU_h.out _).mono ?_
        rintro e w2 ⟨Aa, ca, rfl, hia, hfa, hb2⟩
        rw [unitV_length]
        replace hF_h := Lib.hid (box_below hF_h.out hb2)
        have hB2 := below_trans hB_h.out hb2 hB_h.out.size
        refine ⟨_, rfl, fun _ => hF_h.out, ?_⟩
        simp only [Act.put, nS1, nS2, nS3]
        have hia_h := Lib.hid hia; have hfa_h := Lib.hid hfa; have hb2_h := Lib.hid hb2; have hB2_h := Lib.hid hB2; clear hia hfa hb2 hB2
        refine callZ 7 (f := ?f2) (args := ?args2) rfl (by kernel_rfl) (by rfl) ?hrun2 ?hcall2
        case hrun2 => (go_simp; first | done | with_reducible rfl | (constructor <;> with_reducible rfl))
        case hcall2 =>
          refine (hU_h.out _).mono ?_
          rintro e w3 ⟨Ab, cb, rfl, hib, hfb, hb3⟩
          rw [unitV_length]
          replace hF_h := Lib.hid (box_below hF_h.out hb3)
          have hB3 := below_trans hB2_h.out hb3 hB2_h.out.size
          have hia3 := hia_h.out.below hb3
          refine ⟨_, rfl, fun _ => hF_h.out, ?_⟩
          simp only [Act.put, nS1, nS2, nS3]
          have hal3 := below_alloc w3 (.cells #[.slice Aa n ca, .slice Ab n cb] 33)
          have hlr := laid_rdr (w := w3) [(Aa, ca, unitV n k), (Ab, cb, unitV n k)] (fun y hy => by
            simp only [List.mem_cons, List.not_mem_nil, or_false] at hy
            rcases hy with rfl | rfl
            · exact hia3.rd
            · exact hib.rd) (by unfold maxLen; simp)
          have e : (([(Aa, ca, unitV n k), (Ab, cb, unitV n k)] : List Hd).map Hd.val).toArray = #[.slice Aa n ca, .slice Ab n cb] := by simp [Hd.val]
          rw [e] at hlr
          have e2 : (([(Aa, ca, unitV n k), (Ab, cb, unitV n k)] : List Hd).map fun h : Hd => h.2.2).flatten = row := by rw [hrow_h.out]; simp
          have hJ := joined_any (some ⟨w3.heap.size, 0, none⟩) 2 [(Aa, ca, unitV n k), (Ab, cb, unitV n k)] _ hlr (by simp) (by rw [e2, hrl_h.out, hN_h.out]; omega)
          rw [e2] at hJ
          have hF3 := box_below hF_h.out hal3
          clear hlr e e2; have hB3_h := Lib.hid hB3; have hal3_h := Lib.hid hal3; have hJ_h := Lib.hid hJ; have hF3_h := Lib.hid hF3; clear hB3 hal3 hJ hF3
          refine oneZ 8 rfl (by kernel_rfl) (by rfl) (fun K hK => ?_)
          go_simp
          refine hK _ _ (fun _ => hF3_h.out) ?_
          clear hK K
          refine callZ 9 (f := ?f3) (args := ?args3) rfl (by kernel_rfl) (by rfl) ?hrun3 ?hcall3
          case hrun3 => (go_simp; first | done | with_reducible rfl | (constructor <;> with_reducible rfl))
          case hcall3 =>
            refine (hJ_h.out).mono ?_
            rintro e w4 ⟨A7, c7, rfl, hi7, hf7, hb4⟩
            rw [hrl_h.out]
            replace hF3_h := Lib.hid (box_below hF3_h.out hb4)
            have hB4 := below_trans hB3_h.out (below_trans hal3_h.out hb4 hal3_h.out.size) hB3_h.out.size
            have hfA7 : Fresh wo.heap.size A7 := fun b hb => by have := hf7 b hb; have := hal3_h.out.size; have := hB3_h.out.size; omega
            refine ⟨_, rfl, fun _ => hF3_h.out, ?_⟩
            simp only [Act.put, nS1, nS2, nS3]
            have hal := below_alloc w4 (.cells #[.slice A7 N c7] 33)
            have hba := below_trans hB4 hal hB4.size
            have hF4 := box_below hF3_h.out hal
            obtain ⟨ys, hLy, hOy, hfy, h0y, h1y, h2y⟩ := hOM_h.out
            have hyl : ys.length = q := by have := congrArg List.length hLy; rw [List.length_map, List.length_take, idRows_len] at this; have := hq_h.out; omega
            have hsl : Sl (w4.alloc (.cells #[.slice A7 N c7] 33)) 33 1 A1 q c1 (ys.map Hd.val) := by
              have := (hOy.sl.below hB4).alloc (.cells #[.slice A7 N c7] 33)
              rwa [hyl] at this
            have hi8 := hi7.below hal
            have hF4_h := Lib.hid hF4; have hba_h := Lib.hid hba; have hal_h := Lib.hid hal; have hsl_h := Lib.hid hsl; have hi8_h := Lib.hid hi8; have hfA7_h := Lib.hid hfA7; have hLy_h := Lib.hid hLy; have hOy_h := Lib.hid hOy; have hfy_h := Lib.hid hfy; have h0y_h := Lib.hid h0y; have hyl_h := Lib.hid hyl; have hB4_h := Lib.hid hB4; clear hF4 hba hal hsl hi8 hfA7 hLy hOy hfy h0y hyl hB4
            refine oneZ 10 rfl (by kernel_rfl) (by rfl) (fun K hK => ?_)
            go_simp
            refine hK _ _ (fun _ => hF4_h.out) ?_
            clear hK K
            refine appZ 11 rfl (by kernel_rfl) (by rfl) _ _ _ rfl 33 Tryd.underlying22 info_ints rfl (by omega) rfl hsl_h.out rfl (news := [.slice A7 N c7]) rfl (Sl.rdc (Sl.laid w4 33 1 1 #[.slice A7 N c7] (by unfold maxLen; omega) rfl)) (by intro u hu; simp at hu; subst hu; rfl) (by unfold maxLen; omega) (by omega) ?_
            intro A6 c6 w6 hsA6 hA6 hkA6 hrdA6
            clear hrdA6
            have hO6 := OMx.snoc (l := row) (w1 := w4.alloc (.cells #[.slice A7 N c7] 33)) hLy_h.out hOy_h.out hfy_h.out h0y_h.out h1y h2y hba_h.out hi8_h.out hfA7_h.out (by rw [hyl_h.out]) (by rw [hrl_h.out]; exact hsA6) hA6 hkA6
            have hF7 := box_keeps hF4_h.out hkA6 (fun h => (hfy_h.out _ (List.mem_append_left _ h)).2 rfl)
            refine ⟨fun _ => hF7, ?_⟩
            obtain ⟨s1, s2⟩ := set_f2d (b := .slice A6 (q + 1) c6) hF7
            have hO7 := hO6.store s2
            rw [← htk_h.out] at hO7
            obtain ⟨⟨x0, x1, x2⟩, x3, x4, x5⟩ := box3 hF7
            clear hsA6 hA6 hkA6 hO6 s2; have hF7_h := Lib.hid hF7; have hO7_h := Lib.hid hO7; have s1_h := Lib.hid s1; clear hF7 hO7 s1
            simp only [Act.put, nS1, nS2, nS3]
            refine takeC 12 (v := ?_) rfl (by kernel_rfl) (by kernel_rfl) (by kernel_rfl) (by kernel_rfl) (fun _ _ _ h => h) hF7_h.out (by rfl) (fun W' hW' => ?_) ?_; rotate_left; · (skip; clear hW'; go_simp; first | done | with_reducible rfl)
            simp only [Act.put, nS1, nS2, nS3]
            refine oneZ 13 rfl (by kernel_rfl) (by rfl) (fun K hK => ?_)
            go_simp
            refine hK _ _ (fun h => by cases h) ?_
            clear hK K
            refine doneZ (by kernel_rfl) ?_
            go_wp2_with (fail)
            go_roundw
            case rel => exact ⟨k + 1, q + 1, A6, c6, by omega, by go_num, by have := hq_h.out; omega, s1_h.out, hO7_h.out⟩
            case measure => simp [intOf]; omega
    · obtain rfl : n = k := by omega
      obtain rfl : n = q := hq.symm
      have hO2 : OMx W0 bx wo A1 c1 (idRows n) := by have := hOM; rwa [List.take_of_length_le (by rw [idRows_len]; exact Nat.le_refl _)] at this
      have k0r := box_below k0_h.out hO2.below_
      obtain ⟨⟨x0, x1, x2⟩, x3, x4, x5⟩ := box3 kx
      obtain ⟨⟨y0, y1, y2⟩, y3, y4, y5⟩ := box3 k0r
      obtain ⟨s1, s2⟩ := set3 (a := .int .i64 (n : Int)) (b := .int .i64 (n : Int)) (c := .slice A1 n c1) k0r
      have hbb := below_trans bW0_h.out hO2.below_ bW0_h.out.size
      have hz0 : w.heap.size < W0.heap.size := by have := hbx_h.out; have := hbx1_h.out; omega
      have hbw := below_keeps hbb s2 hbb.size (fun k hk => by omega)
      obtain ⟨fp, h1, h2⟩ := OwSys.of_ret (a := (n : Int)) (b := (n : Int)) hO2.om s2 (fun k hk => by omega) (idRows_len n)
      have h3 := h2.mono bW0_h.out.size
      clear hOM hO2 kx k0r h2 s2 hbb; have s1_h := Lib.hid s1; have h1_h := Lib.hid h1; have h3_h := Lib.hid h3; have hbw_h := Lib.hid hbw; clear s1 h1 h3 hbw
      go_wp2_with (fail)
      refine bodyPost_ret (results_cell_row rfl _ _ w.heap.size _ _ (0, 0) _ rfl s1_h.out Tryd.underlying43 rfl (by kernel_rfl)) rfl ?_
      exact ⟨_, rfl, fp, h1_h.out, h3_h.out, hbw_h.out⟩
theorem leafRows_le (k v : Int) : (leafRows k v).length ≤ 2 := by
  unfold leafRows
  repeat' split
  all_goals simp
set_option maxRecDepth 100000 in
set_option maxHeartbeats 4000000 in
theorem leafRelation_any (p k v : Int) (nm : ByteArray) (w : World) (hf : fieldB p = true) (ok : okLf p (k, v, nm)) :
    Calls Tryd.prog 142 #[.int .i64 p, .agg #[.int .i64 k, .int .i64 v, .string nm]] w fun e w' => ∃ v' fp, e = .returned v' ∧ OwSys w' v' (leafV p (k, v, nm)) fp ∧ FreshL w.heap.size fp ∧ Below w.heap.size w w' := by
  have hpb := fieldB_bounds hf
  obtain ⟨V, hV⟩ : ∃ V, V = leafV p (k, v, nm) := ⟨_, rfl⟩
  rw [← hV]
  have hV0 := hV
  unfold leafV at hV
  obtain ⟨W, hW, bW, k0, k1⟩ := alloc2 w (.cells #[.int .i64 k, .int .i64 v, .string nm] 69) (.cells #[.int .i64 0, .int .i64 0, .slice none 0 0] tRelD)
  have hl := ok.1
  have hl1 := hl
  unfold leafB at hl1
  simp only [decide_eq_true_eq] at hl1
  have hfit := leaf_fit hl
  have hbz := bW.size
  have hbz2 := box_lt k1
  by_cases h1 : k = 1
  · rw [if_pos h1] at hV
    have hv0 : 0 ≤ v ∧ v ≤ 12 := by omega
    obtain ⟨n, rfl⟩ : ∃ n : Nat, v = (n : Int) := ⟨v.toNat, by omega⟩
    have hC := identityRelation_any n W (by omega)
    have e : (((n : Int), (n : Int), idRows n) : Sys) = V := by rw [hV]; rfl
    rw [e] at hC
    have hb1 : (k == 1) = true := by rw [h1]; rfl
    clear hV hl hl1 hfit ok e hV0 h1; have k0_h := Lib.hid k0; have k1_h := Lib.hid k1; have bW_h := Lib.hid bW; have hC_h := Lib.hid hC; clear k0 k1 bW hC
    go_enter Tryd.func142, Tryd.ntmps142
    go_upto_region 1 with (fail)
    rw [← hW]
    clear hW
    obtain ⟨⟨c0, c1, c2⟩, f0, f1, f2⟩ := box3 k0_h.out
    go_wp2_with (fail)
    refine (hC_h.out).mono ?_
    rintro e w2 ⟨v2, fp9, rfl, hO9, hf9, hb2⟩
    obtain ⟨A9, n9, c9, rfl⟩ := hO9.shape
    replace k1_h := Lib.hid (box_below k1_h.out hb2)
    have hB8 := below_trans bW_h.out hb2 bW_h.out.size
    have hBz := bW_h.out.size
    have hw0 := box_lt k1_h.out
    obtain ⟨⟨d0, d1, d2⟩, g0, g1, g2⟩ := box3 k1_h.out
    obtain ⟨s1, s2⟩ := set3 (a := .int .i64 V.1) (b := .int .i64 V.2.1) (c := .slice A9 n9 c9) k1_h.out
    have hB9 := below_keeps hB8 s2 hB8.size (fun k hk => by omega)
    have hO8 := hO9.keeps s2 (fun k hk e => by have := hf9 k hk; omega)
    have hf8 := hf9.mono hBz
    clear hB8 hO9 hf9; have s1_h := Lib.hid s1; have s2_h := Lib.hid s2; have hB9_h := Lib.hid hB9; have hO8_h := Lib.hid hO8; have hf8_h := Lib.hid hf8; clear s1 s2 hB9 hO8 hf8
    go_wp2_with (fail)
    refine bodyPost_ret (results_cell_row rfl _ _ (w.heap.size + 1) _ _ (0, 0) _ rfl s1_h.out Tryd.underlying43 rfl (by kernel_rfl)) rfl ?_
    first | exact ⟨_, fp9, rfl, hO8_h.out, hf8_h.out, hB9_h.out⟩ | exact ⟨_, rfl, fp9, hO8_h.out, hf8_h.out, hB9_h.out⟩
  · rw [if_neg h1] at hV
    have hb1 : (k == 1) = false := by rw [beq_eq_false_iff_ne]; exact h1
    by_cases h2 : k = 2
    · rw [if_pos h2] at hV
      have hb2 : (k == 2) = true := by rw [h2]; rfl
      have r0 := rd_laid (W) [1, 0, 0, 1] (by unfold maxLen; simp)
      have b0 := below_alloc (W) (.cells (ints [1, 0, 0, 1]).toArray 3)
      have r1 := rd_laid ((W).alloc (.cells (ints [1, 0, 0, 1]).toArray 3)) [0, 1, 1, 0] (by unfold maxLen; simp)
      have b1 := below_alloc ((W).alloc (.cells (ints [1, 0, 0, 1]).toArray 3)) (.cells (ints [0, 1, 1, 0]).toArray 3)
      simp only [World.size_alloc] at r1
      have r0 := r0.below b1
      have hlr := laid_rdr (w := ((W).alloc (.cells (ints [1, 0, 0, 1]).toArray 3)).alloc (.cells (ints [0, 1, 1, 0]).toArray 3)) ([((some ⟨W.heap.size, 0, none⟩ : Option Addr), 4, ([1, 0, 0, 1] : List Int)), ((some ⟨W.heap.size + 1, 0, none⟩ : Option Addr), 4, ([0, 1, 1, 0] : List Int))] : List Hd) (fun x hx => by
        simp only [List.mem_cons, List.not_mem_nil, or_false] at hx
        rcases hx with rfl | rfl
        · exact r0
        · exact r1) (by unfold maxLen; simp)
      simp only [World.size_alloc] at hlr
      have hbl := below_trans (below_trans b0 b1 b0.size) (below_alloc _ (.cells (([((some ⟨W.heap.size, 0, none⟩ : Option Addr), 4, ([1, 0, 0, 1] : List Int)), ((some ⟨W.heap.size + 1, 0, none⟩ : Option Addr), 4, ([0, 1, 1, 0] : List Int))] : List Hd).map Hd.val).toArray 33)) (below_trans b0 b1 b0.size).size
      have hC := relation_any p 2 2 4 _ 2 _ _ hlr hf (by omega) (swapRows_mat (by omega)) (by simp) (by omega)
      have e : ((2, 2, redM p 4 swapRows) : Sys) = V := hV.symm
      have hC' : Calls Tryd.prog 130 #[.int .i64 p, .int .i64 2, .int .i64 2, .slice (some ⟨W.heap.size + 1 + 1, 0, none⟩) 2 2] (((W.alloc (.cells (ints [1, 0, 0, 1]).toArray 3)).alloc (.cells (ints [0, 1, 1, 0]).toArray 3)).alloc (.cells (([((some ⟨W.heap.size, 0, none⟩ : Option Addr), 4, ([1, 0, 0, 1] : List Int)), ((some ⟨W.heap.size + 1, 0, none⟩ : Option Addr), 4, ([0, 1, 1, 0] : List Int))] : List Hd).map Hd.val).toArray 33)) (fun e w' => ∃ v' fp, e = .returned v' ∧ OwSys w' v' V fp ∧ FreshL (((W.alloc (.cells (ints [1, 0, 0, 1]).toArray 3)).alloc (.cells (ints [0, 1, 1, 0]).toArray 3)).alloc (.cells (([((some ⟨W.heap.size, 0, none⟩ : Option Addr), 4, ([1, 0, 0, 1] : List Int)), ((some ⟨W.heap.size + 1, 0, none⟩ : Option Addr), 4, ([0, 1, 1, 0] : List Int))] : List Hd).map Hd.val).toArray 33)).heap.size fp ∧ Below (((W.alloc (.cells (ints [1, 0, 0, 1]).toArray 3)).alloc (.cells (ints [0, 1, 1, 0]).toArray 3)).alloc (.cells (([((some ⟨W.heap.size, 0, none⟩ : Option Addr), 4, ([1, 0, 0, 1] : List Int)), ((some ⟨W.heap.size + 1, 0, none⟩ : Option Addr), 4, ([0, 1, 1, 0] : List Int))] : List Hd).map Hd.val).toArray 33)).heap.size (((W.alloc (.cells (ints [1, 0, 0, 1]).toArray 3)).alloc (.cells (ints [0, 1, 1, 0]).toArray 3)).alloc (.cells (([((some ⟨W.heap.size, 0, none⟩ : Option Addr), 4, ([1, 0, 0, 1] : List Int)), ((some ⟨W.heap.size + 1, 0, none⟩ : Option Addr), 4, ([0, 1, 1, 0] : List Int))] : List Hd).map Hd.val).toArray 33)) w') := by rw [← e]; exact hC
      clear hV hl hl1 hfit ok e hV0 hlr hC r0 r1 b0 b1 h1 h2; have k0_h := Lib.hid k0; have k1_h := Lib.hid k1; have bW_h := Lib.hid bW; have hC'_h := Lib.hid hC'; have hbl_h := Lib.hid hbl; clear k0 k1 bW hC' hbl
      go_enter Tryd.func142, Tryd.ntmps142
      go_upto_region 1 with (fail)
      rw [← hW]
      clear hW
      obtain ⟨⟨c0, c1, c2⟩, f0, f1, f2⟩ := box3 k0_h.out
      go_wp2_with (fail)
      refine (hC'_h.out).mono ?_
      rintro e w2 ⟨v2, fp9, rfl, hO9, hf9, hb2'⟩
      obtain ⟨A9, n9, c9, rfl⟩ := hO9.shape
      have hbb := below_trans hbl_h.out hb2' hbl_h.out.size
      replace k1_h := Lib.hid (box_below k1_h.out hbb)
      have hB8 := below_trans bW_h.out hbb bW_h.out.size
      have hBz := Nat.le_trans bW_h.out.size hbl_h.out.size
      have hz7 := hbl_h.out.size
      have hw0 := box_lt k1_h.out
      obtain ⟨⟨d0, d1, d2⟩, g0, g1, g2⟩ := box3 k1_h.out
      obtain ⟨s1, s2⟩ := set3 (a := .int .i64 V.1) (b := .int .i64 V.2.1) (c := .slice A9 n9 c9) k1_h.out
      have hB9 := below_keeps hB8 s2 hB8.size (fun k hk => by omega)
      have hO8 := hO9.keeps s2 (fun k hk e => by have := hf9 k hk; omega)
      have hf8 := hf9.mono hBz
      clear hB8 hO9 hf9; have s1_h := Lib.hid s1; have s2_h := Lib.hid s2; have hB9_h := Lib.hid hB9; have hO8_h := Lib.hid hO8; have hf8_h := Lib.hid hf8; clear s1 s2 hB9 hO8 hf8
      go_wp2_with (fail)
      refine bodyPost_ret (results_cell_row rfl _ _ (w.heap.size + 1) _ _ (0, 0) _ rfl s1_h.out Tryd.underlying43 rfl (by kernel_rfl)) rfl ?_
      first | exact ⟨_, fp9, rfl, hO8_h.out, hf8_h.out, hB9_h.out⟩ | exact ⟨_, rfl, fp9, hO8_h.out, hf8_h.out, hB9_h.out⟩
    · rw [if_neg h2] at hV
      have hb2 : (k == 2) = false := by rw [beq_eq_false_iff_ne]; exact h2
      have hk := gen_of_leaf hl h1 h2 ok.2.1 ok.2.2.1
      have hv := ok.val (by omega) h1
      have hk : genB k := hk
      have hv : 0 ≤ v ∧ v < p := hv
      by_cases h9 : 9 ≤ k
      · have hb9 : decide (9 ≤ k) = true := decide_eq_true h9
        have hb9' : decide (k ≥ 9) = true := decide_eq_true h9
        have hk5 : k = 9 ∨ k = 10 ∨ k = 11 ∨ k = 12 ∨ k = 13 := by unfold genB at hk; omega
        have hcv := conv_leaf hf hk5 hv
        obtain ⟨a, b, c, d⟩ := kindTy_nn (k - 6)
        have hg6 : genB (k - 6) := by unfold genB; omega
        have hrok := RelOk.mk_red hf a b c (by omega) (leafRows_mat (by omega) hg6 hv)
        have hM := fun (W' : World) => mirror_any k W' (by omega) (by omega)
        have hGW := fun (W' : World) => generatorWires_any (k - 6) W' (by omega) (by omega)
        have hGR := fun (W' : World) => generatorRows_any (k - 6) v W' (by omega)
        have hmt := leafRows_mat (p := p) (v := v) (by omega) hg6 hv
        have hV' : ((kindTy k).1, (kindTy k).2, nullM p (kdN k) (leafEq p k v)) = V := hV.symm
        rw [hV'] at hcv
        obtain ⟨x, hx⟩ : ∃ x, x = (kindTy (k - 6)).1 := ⟨_, rfl⟩
        obtain ⟨y, hy⟩ : ∃ y, y = (kindTy (k - 6)).2 := ⟨_, rfl⟩
        obtain ⟨N, hN⟩ : ∃ y, y = kdN (k - 6) := ⟨_, rfl⟩
        simp only [← hx, ← hy] at hGW
        rw [← hx, ← hy, ← hN] at c
        rw [← hx, ← hy, ← hN] at hrok hcv
        rw [← hN] at hmt d
        clear hV hl hl1 hfit ok hV0 hk hv hk5 a b hg6 hV' h1 h2; have k0_h := Lib.hid k0; have k1_h := Lib.hid k1; have bW_h := Lib.hid bW; have hcv_h := Lib.hid hcv; have c_h := Lib.hid c; have d_h := Lib.hid d; have hrok_h := Lib.hid hrok; have hM_h := Lib.hid hM; have hGW_h := Lib.hid hGW; have hGR_h := Lib.hid hGR; have hmt_h := Lib.hid hmt; have hx_h := Lib.hid hx; have hy_h := Lib.hid hy; have hN_h := Lib.hid hN; clear k0 k1 bW hcv c d hrok hM hGW hGR hmt hx hy hN
        go_enter Tryd.func142, Tryd.ntmps142
        go_upto_region 1 with (fail)
        rw [← hW]
        clear hW
        obtain ⟨⟨c0, c1, c2⟩, f0, f1, f2⟩ := box3 k0_h.out
        go_wp2_with (fail)
        refine (hM_h.out _).mono ?_
        rintro e w' ⟨rfl, rfl⟩
        go_wp2_with (fail)
        refine (hGW_h.out _).mono ?_
        rintro e w3 ⟨rfl, hb3⟩
        replace k0_h := Lib.hid (box_below k0_h.out hb3)
        replace k1_h := Lib.hid (box_below k1_h.out hb3)
        obtain ⟨w4, hw4⟩ : ∃ w4, w4 = w3.alloc (.cells #[.int .i64 x, .int .i64 y] 182) := ⟨_, rfl⟩
        have hb4 : Below w3.heap.size w3 w4 := by rw [hw4]; exact below_alloc _ _
        have k5 : w4.heap[w3.heap.size]? = some (.cells #[.int .i64 x, .int .i64 y] 182) := by rw [hw4]; exact heap_alloc_new _ _
        replace k0_h := Lib.hid (box_below k0_h.out hb4)
        replace k1_h := Lib.hid (box_below k1_h.out hb4)
        have hbW4 := below_trans hb3 hb4 hb3.size
        have hz3 := hb3.size
        clear c0 c1 c2 f0 f1 f2 hb3 hb4; have k5_h := Lib.hid k5; have hbW4_h := Lib.hid hbW4; clear k5 hbW4
        go_upto_region 7 with (fail)
        rw [← hw4]
        clear hw4
        have hbd : Below w4.heap.size w4 w4.drew := below_drewN (Below.refl _ _) 1
        have hbd_h := Lib.hid hbd; clear hbd
        refine beginH (fun w' => w'.heap[w.heap.size]? = some (.cells #[.int .i64 k, .int .i64 v, .string nm] 69) ∧ w'.heap[w3.heap.size]? = some (.cells #[.int .i64 x, .int .i64 y] 182)) (by kernel_rfl) ?_
        replace k0_h := Lib.hid (box_below k0_h.out hbd_h.out)
        replace k1_h := Lib.hid (box_below k1_h.out hbd_h.out)
        replace k5_h := Lib.hid (box_below k5_h.out hbd_h.out)
        refine takeH 0 (v := ?_) rfl (by kernel_rfl) (by kernel_rfl) (by kernel_rfl) (fun _ _ _ h => h) ⟨k0_h.out, k5_h.out⟩ (by rfl) (fun W' hW' => ?_) ?_; rotate_left; · (obtain ⟨⟨x0, x1, x2⟩, x3, x4, x5⟩ := box3 hW'.1; obtain ⟨⟨y0, y1⟩, y3, y4⟩ := box2 hW'.2; clear hW'; go_simp; first | done | with_reducible rfl)
        simp only [Act.put, nS1, nS2, nS3]
        refine takeH 1 (v := ?_) rfl (by kernel_rfl) (by kernel_rfl) (by kernel_rfl) (fun _ _ _ h => h) ⟨k0_h.out, k5_h.out⟩ (by rfl) (fun W' hW' => ?_) ?_; rotate_left; · (obtain ⟨⟨x0, x1, x2⟩, x3, x4, x5⟩ := box3 hW'.1; obtain ⟨⟨y0, y1⟩, y3, y4⟩ := box2 hW'.2; clear hW'; go_simp; first | done | with_reducible rfl)
        simp only [Act.put, nS1, nS2, nS3]
        refine takeH 2 (v := ?_) rfl (by kernel_rfl) (by kernel_rfl) (by kernel_rfl) (fun _ _ _ h => h) ⟨k0_h.out, k5_h.out⟩ (by rfl) (fun W' hW' => ?_) ?_; rotate_left; · (obtain ⟨⟨x0, x1, x2⟩, x3, x4, x5⟩ := box3 hW'.1; obtain ⟨⟨y0, y1⟩, y3, y4⟩ := box2 hW'.2; clear hW'; go_simp; first | done | with_reducible rfl)
        simp only [Act.put, nS1, nS2, nS3]
        refine takeH 3 (v := ?_) rfl (by kernel_rfl) (by kernel_rfl) (by kernel_rfl) (fun _ _ _ h => h) ⟨k0_h.out, k5_h.out⟩ (by rfl) (fun W' hW' => ?_) ?_; rotate_left; · (obtain ⟨⟨x0, x1, x2⟩, x3, x4, x5⟩ := box3 hW'.1; obtain ⟨⟨y0, y1⟩, y3, y4⟩ := box2 hW'.2; clear hW'; go_simp; first | done | with_reducible rfl)
        simp only [Act.put, nS1, nS2, nS3]
        refine takeH 4 (v := ?_) rfl (by kernel_rfl) (by kernel_rfl) (by kernel_rfl) (fun _ _ _ h => h) ⟨k0_h.out, k5_h.out⟩ (by rfl) (fun W' hW' => ?_) ?_; rotate_left; · (obtain ⟨⟨x0, x1, x2⟩, x3, x4, x5⟩ := box3 hW'.1; obtain ⟨⟨y0, y1⟩, y3, y4⟩ := box2 hW'.2; clear hW'; go_simp; first | done | with_reducible rfl)
        simp only [Act.put, nS1, nS2, nS3]
        refine takeH 5 (v := ?_) rfl (by kernel_rfl) (by kernel_rfl) (by kernel_rfl) (fun _ _ _ h => h) ⟨k0_h.out, k5_h.out⟩ (by rfl) (fun W' hW' => ?_) ?_; rotate_left; · (obtain ⟨⟨x0, x1, x2⟩, x3, x4, x5⟩ := box3 hW'.1; obtain ⟨⟨y0, y1⟩, y3, y4⟩ := box2 hW'.2; clear hW'; go_simp; first | done | with_reducible rfl)
        simp only [Act.put, nS1, nS2, nS3]
        refine takeH 6 (v := ?_) rfl (by kernel_rfl) (by kernel_rfl) (by kernel_rfl) (fun _ _ _ h => h) ⟨k0_h.out, k5_h.out⟩ (by rfl) (fun W' hW' => ?_) ?_; rotate_left; · (obtain ⟨⟨x0, x1, x2⟩, x3, x4, x5⟩ := box3 hW'.1; obtain ⟨⟨y0, y1⟩, y3, y4⟩ := box2 hW'.2; clear hW'; go_simp; first | done | with_reducible rfl)
        simp only [Act.put, nS1, nS2, nS3]
        refine takeH 7 (v := ?_) rfl (by kernel_rfl) (by kernel_rfl) (by kernel_rfl) (fun _ _ _ h => h) ⟨k0_h.out, k5_h.out⟩ (by rfl) (fun W' hW' => ?_) ?_; rotate_left; · (obtain ⟨⟨x0, x1, x2⟩, x3, x4, x5⟩ := box3 hW'.1; obtain ⟨⟨y0, y1⟩, y3, y4⟩ := box2 hW'.2; clear hW'; go_simp; first | done | with_reducible rfl)
        simp only [Act.put, nS1, nS2, nS3]
        refine takeH 9 (v := ?_) rfl (by kernel_rfl) (by kernel_rfl) (by kernel_rfl) (fun _ _ _ h => h) ⟨k0_h.out, k5_h.out⟩ (by rfl) (fun W' hW' => ?_) ?_; rotate_left; · (obtain ⟨⟨x0, x1, x2⟩, x3, x4, x5⟩ := box3 hW'.1; obtain ⟨⟨y0, y1⟩, y3, y4⟩ := box2 hW'.2; clear hW'; go_simp; first | done | with_reducible rfl)
        simp only [Act.put, nS1, nS2, nS3]
        refine takeH 10 (v := ?_) rfl (by kernel_rfl) (by kernel_rfl) (by kernel_rfl) (fun _ _ _ h => h) ⟨k0_h.out, k5_h.out⟩ (by rfl) (fun W' hW' => ?_) ?_; rotate_left; · (obtain ⟨⟨x0, x1, x2⟩, x3, x4, x5⟩ := box3 hW'.1; obtain ⟨⟨y0, y1⟩, y3, y4⟩ := box2 hW'.2; clear hW'; go_simp; first | done | with_reducible rfl)
        simp only [Act.put, nS1, nS2, nS3]
        refine' callH 8 (f := _) (args := _) rfl (by kernel_rfl) (by rfl) ?_ ?_; rotate_left 2; · (go_simp; first | done | with_reducible rfl | (constructor <;> with_reducible rfl))
        refine (hM_h.out _).mono ?_
        rintro e w' ⟨rfl, hw'⟩
        subst hw'
        refine ⟨_, rfl, ⟨k0_h.out, k5_h.out⟩, ?_⟩
        simp only [Act.put, nS1, nS2, nS3]
        refine' callH 11 (f := _) (args := _) rfl (by kernel_rfl) (by rfl) ?_ ?_; rotate_left 2; · (go_simp; first | done | with_reducible rfl | (constructor <;> with_reducible rfl))
        refine (hGR_h.out _).mono ?_
        rintro e w6 ⟨Ar, cr, hr, nr, rfl, hrn, hrl, hrr, hb6⟩
        replace k0_h := Lib.hid (box_below k0_h.out hb6)
        replace k1_h := Lib.hid (box_below k1_h.out hb6)
        replace k5_h := Lib.hid (box_below k5_h.out hb6)
        have hB6 := below_trans hbW4_h.out (below_trans hbd_h.out hb6 hbd_h.out.size) hbW4_h.out.size
        have hC := relation_any p x y N Ar cr hr w6 hrr hf c_h.out.symm.symm (by rw [hrl]; have := hmt_h.out; rwa [show (leafRows (k - 6) v).length = hr.length by rw [← hrl, List.length_map]] at this) (by have := congrArg List.length hrl; rw [List.length_map] at this; have := leafRows_le (k - 6) v; omega) (by have := d_h.out; omega)
        rw [hrl, hrn] at hC
        refine ⟨_, rfl, ⟨k0_h.out, k5_h.out⟩, ?_⟩
        simp only [Act.put, nS1, nS2, nS3]
        clear hrl hrn hrr; have hb6_h := Lib.hid hb6; have hB6_h := Lib.hid hB6; have hC_h := Lib.hid hC; clear hb6 hB6 hC
        refine' callH 12 (f := _) (args := _) rfl (by kernel_rfl) (by rfl) ?_ ?_; rotate_left 2; · (go_simp; first | done | with_reducible rfl | (constructor <;> with_reducible rfl))
        refine (hC_h.out).mono ?_
        rintro e w7 ⟨v7, fp7, rfl, hO7, hf7, hb7⟩
        obtain ⟨A7, n7, c7, rfl⟩ := id hO7.shape
        replace k0_h := Lib.hid (box_below k0_h.out hb7)
        replace k1_h := Lib.hid (box_below k1_h.out hb7)
        replace k5_h := Lib.hid (box_below k5_h.out hb7)
        have hB7 := below_trans hB6_h.out hb7 hB6_h.out.size
        have hCv := converse_any p w7 hO7 hrok_h.out
        rw [hcv_h.out] at hCv
        refine ⟨_, rfl, ⟨k0_h.out, k5_h.out⟩, ?_⟩
        simp only [Act.put, nS1, nS2, nS3]
        clear hO7 hf7 hb7; have hB7_h := Lib.hid hB7; have hCv_h := Lib.hid hCv; clear hB7 hCv
        refine' callH 13 (f := _) (args := _) rfl (by kernel_rfl) (by rfl) ?_ ?_; rotate_left 2; · (go_simp; first | done | with_reducible rfl | (constructor <;> with_reducible rfl))
        refine (hCv_h.out).mono ?_
        rintro e w8 ⟨v2, fp9, rfl, hO9, hf9, hb8⟩
        obtain ⟨A9, n9, c9, rfl⟩ := hO9.shape
        replace k0_h := Lib.hid (box_below k0_h.out hb8)
        replace k1_h := Lib.hid (box_below k1_h.out hb8)
        replace k5_h := Lib.hid (box_below k5_h.out hb8)
        have hB8' := below_trans hB7_h.out hb8 hB7_h.out.size
        have hB8 := below_trans bW_h.out hB8' bW_h.out.size
        have hBz := Nat.le_trans bW_h.out.size hB7_h.out.size
        have hz7 := hB7_h.out.size
        refine ⟨_, rfl, ⟨k0_h.out, k5_h.out⟩, ?_⟩
        simp only [Act.put, nS1, nS2, nS3]
        have hw3z := box_lt k5_h.out
        have hw0 := box_lt k1_h.out
        obtain ⟨⟨d0, d1, d2⟩, g0, g1, g2⟩ := box3 k1_h.out
        obtain ⟨s1, s2⟩ := set3 (a := .int .i64 V.1) (b := .int .i64 V.2.1) (c := .slice A9 n9 c9) k1_h.out
        have hB9 := below_keeps hB8 s2 hB8.size (fun k hk => by omega)
        have hO8 := hO9.keeps s2 (fun k hk e => by have := hf9 k hk; omega)
        have hf8 := hf9.mono hBz
        clear hB8 hO9 hf9; have s1_h := Lib.hid s1; have s2_h := Lib.hid s2; have hB9_h := Lib.hid hB9; have hO8_h := Lib.hid hO8; have hf8_h := Lib.hid hf8; clear s1 s2 hB9 hO8 hf8
        have k0s := box_keeps k0_h.out s2_h.out (by omega)
        have k5s := box_keeps k5_h.out s2_h.out (by omega)
        have k0s_h := Lib.hid k0s; have k5s_h := Lib.hid k5s; clear k0s k5s
        refine oneH 14 rfl (by kernel_rfl) (by rfl) (fun K hK => ?_)
        go_simp
        refine hK _ _ ⟨k0s_h.out, k5s_h.out⟩ ?_
        clear hK K
        refine doneH (by kernel_rfl) ?_
        go_wp2_with (fail)
        refine bodyPost_ret (results_cell_row rfl _ _ (w.heap.size + 1) _ _ (0, 0) _ rfl s1_h.out Tryd.underlying43 rfl (by kernel_rfl)) rfl ?_
        first | exact ⟨_, fp9, rfl, hO8_h.out, hf8_h.out, hB9_h.out⟩ | exact ⟨_, rfl, fp9, hO8_h.out, hf8_h.out, hB9_h.out⟩
      · have hb9 : decide (9 ≤ k) = false := decide_eq_false h9
        have hk5 : k = 3 ∨ k = 4 ∨ k = 5 ∨ k = 6 ∨ k = 7 := by unfold genB at hk; omega
        obtain ⟨a, b, c, d⟩ := kindTy_nn k
        have hGW := fun (W' : World) => generatorWires_any k W' (by omega) (by omega)
        have hGR := fun (W' : World) => generatorRows_any k v W' hk5
        have hmt := leafRows_mat (p := p) (v := v) (by omega) hk hv
        have hV' : ((kindTy k).1, (kindTy k).2, redM p (kdN k) (leafRows k v)) = V := by rw [leaf_null hf hk hv]; exact hV.symm
        obtain ⟨x, hx⟩ : ∃ x, x = (kindTy k).1 := ⟨_, rfl⟩
        obtain ⟨y, hy⟩ : ∃ y, y = (kindTy k).2 := ⟨_, rfl⟩
        obtain ⟨N, hN⟩ : ∃ y, y = kdN k := ⟨_, rfl⟩
        simp only [← hx, ← hy] at hGW
        rw [← hx, ← hy, ← hN] at c hV'
        rw [← hN] at hmt d
        clear hV hl hl1 hfit ok hV0 hk hv hk5 a b h1 h2; have k0_h := Lib.hid k0; have k1_h := Lib.hid k1; have bW_h := Lib.hid bW; have c_h := Lib.hid c; have d_h := Lib.hid d; have hGW_h := Lib.hid hGW; have hGR_h := Lib.hid hGR; have hmt_h := Lib.hid hmt; have hx_h := Lib.hid hx; have hy_h := Lib.hid hy; have hN_h := Lib.hid hN; have hV'_h := Lib.hid hV'; clear k0 k1 bW c d hGW hGR hmt hx hy hN hV'
        have h9' : ¬ k ≥ 9 := h9
        go_enter Tryd.func142, Tryd.ntmps142
        go_upto_region 1 with (fail)
        rw [← hW]
        clear hW
        obtain ⟨⟨c0, c1, c2⟩, f0, f1, f2⟩ := box3 k0_h.out
        go_wp2_with (fail)
        refine (hGW_h.out _).mono ?_
        rintro e w3 ⟨rfl, hb3⟩
        replace k0_h := Lib.hid (box_below k0_h.out hb3)
        replace k1_h := Lib.hid (box_below k1_h.out hb3)
        obtain ⟨w4, hw4⟩ : ∃ w4, w4 = w3.alloc (.cells #[.int .i64 x, .int .i64 y] 182) := ⟨_, rfl⟩
        have hb4 : Below w3.heap.size w3 w4 := by rw [hw4]; exact below_alloc _ _
        have k5 : w4.heap[w3.heap.size]? = some (.cells #[.int .i64 x, .int .i64 y] 182) := by rw [hw4]; exact heap_alloc_new _ _
        replace k0_h := Lib.hid (box_below k0_h.out hb4)
        replace k1_h := Lib.hid (box_below k1_h.out hb4)
        have hbW4 := below_trans hb3 hb4 hb3.size
        have hz3 := hb3.size
        clear c0 c1 c2 f0 f1 f2 hb3 hb4; have k5_h := Lib.hid k5; have hbW4_h := Lib.hid hbW4; clear k5 hbW4
        go_upto_region 9 with (fail)
        rw [← hw4]
        clear hw4
        have hbd : Below w4.heap.size w4 w4.drew := below_drewN (Below.refl _ _) 1
        have hbd_h := Lib.hid hbd; clear hbd
        refine beginH (fun w' => w'.heap[w.heap.size]? = some (.cells #[.int .i64 k, .int .i64 v, .string nm] 69) ∧ w'.heap[w3.heap.size]? = some (.cells #[.int .i64 x, .int .i64 y] 182)) (by kernel_rfl) ?_
        replace k0_h := Lib.hid (box_below k0_h.out hbd_h.out)
        replace k1_h := Lib.hid (box_below k1_h.out hbd_h.out)
        replace k5_h := Lib.hid (box_below k5_h.out hbd_h.out)
        refine takeH 0 (v := ?_) rfl (by kernel_rfl) (by kernel_rfl) (by kernel_rfl) (fun _ _ _ h => h) ⟨k0_h.out, k5_h.out⟩ (by rfl) (fun W' hW' => ?_) ?_; rotate_left; · (obtain ⟨⟨x0, x1, x2⟩, x3, x4, x5⟩ := box3 hW'.1; obtain ⟨⟨y0, y1⟩, y3, y4⟩ := box2 hW'.2; clear hW'; go_simp; first | done | with_reducible rfl)
        simp only [Act.put, nS1, nS2, nS3]
        refine takeH 1 (v := ?_) rfl (by kernel_rfl) (by kernel_rfl) (by kernel_rfl) (fun _ _ _ h => h) ⟨k0_h.out, k5_h.out⟩ (by rfl) (fun W' hW' => ?_) ?_; rotate_left; · (obtain ⟨⟨x0, x1, x2⟩, x3, x4, x5⟩ := box3 hW'.1; obtain ⟨⟨y0, y1⟩, y3, y4⟩ := box2 hW'.2; clear hW'; go_simp; first | done | with_reducible rfl)
        simp only [Act.put, nS1, nS2, nS3]
        refine takeH 2 (v := ?_) rfl (by kernel_rfl) (by kernel_rfl) (by kernel_rfl) (fun _ _ _ h => h) ⟨k0_h.out, k5_h.out⟩ (by rfl) (fun W' hW' => ?_) ?_; rotate_left; · (obtain ⟨⟨x0, x1, x2⟩, x3, x4, x5⟩ := box3 hW'.1; obtain ⟨⟨y0, y1⟩, y3, y4⟩ := box2 hW'.2; clear hW'; go_simp; first | done | with_reducible rfl)
        simp only [Act.put, nS1, nS2, nS3]
        refine takeH 3 (v := ?_) rfl (by kernel_rfl) (by kernel_rfl) (by kernel_rfl) (fun _ _ _ h => h) ⟨k0_h.out, k5_h.out⟩ (by rfl) (fun W' hW' => ?_) ?_; rotate_left; · (obtain ⟨⟨x0, x1, x2⟩, x3, x4, x5⟩ := box3 hW'.1; obtain ⟨⟨y0, y1⟩, y3, y4⟩ := box2 hW'.2; clear hW'; go_simp; first | done | with_reducible rfl)
        simp only [Act.put, nS1, nS2, nS3]
        refine takeH 4 (v := ?_) rfl (by kernel_rfl) (by kernel_rfl) (by kernel_rfl) (fun _ _ _ h => h) ⟨k0_h.out, k5_h.out⟩ (by rfl) (fun W' hW' => ?_) ?_; rotate_left; · (obtain ⟨⟨x0, x1, x2⟩, x3, x4, x5⟩ := box3 hW'.1; obtain ⟨⟨y0, y1⟩, y3, y4⟩ := box2 hW'.2; clear hW'; go_simp; first | done | with_reducible rfl)
        simp only [Act.put, nS1, nS2, nS3]
        refine takeH 5 (v := ?_) rfl (by kernel_rfl) (by kernel_rfl) (by kernel_rfl) (fun _ _ _ h => h) ⟨k0_h.out, k5_h.out⟩ (by rfl) (fun W' hW' => ?_) ?_; rotate_left; · (obtain ⟨⟨x0, x1, x2⟩, x3, x4, x5⟩ := box3 hW'.1; obtain ⟨⟨y0, y1⟩, y3, y4⟩ := box2 hW'.2; clear hW'; go_simp; first | done | with_reducible rfl)
        simp only [Act.put, nS1, nS2, nS3]
        refine takeH 6 (v := ?_) rfl (by kernel_rfl) (by kernel_rfl) (by kernel_rfl) (fun _ _ _ h => h) ⟨k0_h.out, k5_h.out⟩ (by rfl) (fun W' hW' => ?_) ?_; rotate_left; · (obtain ⟨⟨x0, x1, x2⟩, x3, x4, x5⟩ := box3 hW'.1; obtain ⟨⟨y0, y1⟩, y3, y4⟩ := box2 hW'.2; clear hW'; go_simp; first | done | with_reducible rfl)
        simp only [Act.put, nS1, nS2, nS3]
        refine takeH 7 (v := ?_) rfl (by kernel_rfl) (by kernel_rfl) (by kernel_rfl) (fun _ _ _ h => h) ⟨k0_h.out, k5_h.out⟩ (by rfl) (fun W' hW' => ?_) ?_; rotate_left; · (obtain ⟨⟨x0, x1, x2⟩, x3, x4, x5⟩ := box3 hW'.1; obtain ⟨⟨y0, y1⟩, y3, y4⟩ := box2 hW'.2; clear hW'; go_simp; first | done | with_reducible rfl)
        simp only [Act.put, nS1, nS2, nS3]
        refine takeH 8 (v := ?_) rfl (by kernel_rfl) (by kernel_rfl) (by kernel_rfl) (fun _ _ _ h => h) ⟨k0_h.out, k5_h.out⟩ (by rfl) (fun W' hW' => ?_) ?_; rotate_left; · (obtain ⟨⟨x0, x1, x2⟩, x3, x4, x5⟩ := box3 hW'.1; obtain ⟨⟨y0, y1⟩, y3, y4⟩ := box2 hW'.2; clear hW'; go_simp; first | done | with_reducible rfl)
        simp only [Act.put, nS1, nS2, nS3]
        refine' callH 9 (f := _) (args := _) rfl (by kernel_rfl) (by rfl) ?_ ?_; rotate_left 2; · (go_simp; first | done | with_reducible rfl | (constructor <;> with_reducible rfl))
        refine (hGR_h.out _).mono ?_
        rintro e w6 ⟨Ar, cr, hr, nr, rfl, hrn, hrl, hrr, hb6⟩
        replace k0_h := Lib.hid (box_below k0_h.out hb6)
        replace k1_h := Lib.hid (box_below k1_h.out hb6)
        replace k5_h := Lib.hid (box_below k5_h.out hb6)
        have hB6 := below_trans hbW4_h.out (below_trans hbd_h.out hb6 hbd_h.out.size) hbW4_h.out.size
        have hC := relation_any p x y N Ar cr hr w6 hrr hf c_h.out (by rw [hrl]; have := hmt_h.out; rwa [show (leafRows k v).length = hr.length by rw [← hrl, List.length_map]] at this) (by have := congrArg List.length hrl; rw [List.length_map] at this; have := leafRows_le k v; omega) (by have := d_h.out; omega)
        rw [hrl, hrn, hV'_h.out] at hC
        refine ⟨_, rfl, ⟨k0_h.out, k5_h.out⟩, ?_⟩
        simp only [Act.put, nS1, nS2, nS3]
        clear hrl hrn hrr; have hb6_h := Lib.hid hb6; have hB6_h := Lib.hid hB6; have hC_h := Lib.hid hC; clear hb6 hB6 hC
        refine' callH 10 (f := _) (args := _) rfl (by kernel_rfl) (by rfl) ?_ ?_; rotate_left 2; · (go_simp; first | done | with_reducible rfl | (constructor <;> with_reducible rfl))
        refine (hC_h.out).mono ?_
        rintro e w8 ⟨v2, fp9, rfl, hO9, hf9, hb8⟩
        obtain ⟨A9, n9, c9, rfl⟩ := hO9.shape
        replace k0_h := Lib.hid (box_below k0_h.out hb8)
        replace k1_h := Lib.hid (box_below k1_h.out hb8)
        replace k5_h := Lib.hid (box_below k5_h.out hb8)
        have hB8' := below_trans hB6_h.out hb8 hB6_h.out.size
        have hB8 := below_trans bW_h.out hB8' bW_h.out.size
        have hBz := Nat.le_trans bW_h.out.size hB6_h.out.size
        have hz7 := hB6_h.out.size
        refine ⟨_, rfl, ⟨k0_h.out, k5_h.out⟩, ?_⟩
        simp only [Act.put, nS1, nS2, nS3]
        have hw3z := box_lt k5_h.out
        have hw0 := box_lt k1_h.out
        obtain ⟨⟨d0, d1, d2⟩, g0, g1, g2⟩ := box3 k1_h.out
        obtain ⟨s1, s2⟩ := set3 (a := .int .i64 V.1) (b := .int .i64 V.2.1) (c := .slice A9 n9 c9) k1_h.out
        have hB9 := below_keeps hB8 s2 hB8.size (fun k hk => by omega)
        have hO8 := hO9.keeps s2 (fun k hk e => by have := hf9 k hk; omega)
        have hf8 := hf9.mono hBz
        clear hB8 hO9 hf9; have s1_h := Lib.hid s1; have s2_h := Lib.hid s2; have hB9_h := Lib.hid hB9; have hO8_h := Lib.hid hO8; have hf8_h := Lib.hid hf8; clear s1 s2 hB9 hO8 hf8
        have k0s := box_keeps k0_h.out s2_h.out (by omega)
        have k5s := box_keeps k5_h.out s2_h.out (by omega)
        have k0s_h := Lib.hid k0s; have k5s_h := Lib.hid k5s; clear k0s k5s
        refine oneH 11 rfl (by kernel_rfl) (by rfl) (fun K hK => ?_)
        go_simp
        refine hK _ _ ⟨k0s_h.out, k5s_h.out⟩ ?_
        clear hK K
        refine doneH (by kernel_rfl) ?_
        go_wp2_with (fail)
        refine bodyPost_ret (results_cell_row rfl _ _ (w.heap.size + 1) _ _ (0, 0) _ rfl s1_h.out Tryd.underlying43 rfl (by kernel_rfl)) rfl ?_
        first | exact ⟨_, fp9, rfl, hO8_h.out, hf8_h.out, hB9_h.out⟩ | exact ⟨_, rfl, fp9, hO8_h.out, hf8_h.out, hB9_h.out⟩
end Go.Proofs.YtahnhblodfdfhaaDoor
namespace Go.Proofs.YtahnhblodfdfhaaDoor
open Go.RowKit
theorem IS.ne_outer {w : World} {A B : Option Addr} {c n cap : Nat} {l : List Int} {xs : List Value} (h : IS w A c l) (h' : Sl w 33 1 B n cap xs) : ∀ x, x ∈ fpA A → x ∉ fpA B := by
  intro x hx hx'
  rcases h.2.2.2 with ⟨rfl, _⟩ | ⟨g, off, cur, rfl, hg, _⟩
  · simp at hx
  rcases h'.2.2.2 with ⟨rfl, _⟩ | ⟨g', off', cur', rfl, hg', _⟩
  · simp at hx'
  simp at hx hx'
  subst hx
  subst hx'
  rw [hg] at hg'
  injection hg' with hg'
  injection hg' with _ h2 _
  exact absurd h2 (by decide)
theorem Keeps.after {S T : Nat → Prop} {a w w' : World} (h : Keeps T a w) (hk : Keeps S w w') (hS : ∀ k, k < a.heap.size → S k → T k) : Keeps T a w' :=
  ⟨hk.os.trans h.os, hk.tape.trans h.tape, hk.output.trans h.output, Nat.le_trans h.size hk.size, fun i hi ht => (hk.block i (Nat.lt_of_lt_of_le hi h.size) (fun hs => ht (hS i hi hs))).trans (h.block i hi ht)⟩
structure Aside (w : World) (A : Option Addr) (cap : Nat) (hs : List Hd) (B : Option Addr) : Prop where
  sl : Sl w 33 1 A hs.length cap (hs.map Hd.val)
  rows : ∀ x, x ∈ hs → IS w x.1 x.2.1 x.2.2
  off : ∀ b, b ∈ fpA A → ¬ b ∈ fpA B
theorem Aside.rdr {w : World} {A B : Option Addr} {cap : Nat} {hs : List Hd} (h : Aside w A cap hs B) : RdR w A hs :=
  ⟨fun i x hi => by obtain ⟨ad, hA, _, hc, _⟩ := h.sl.cell (j := i) (u := x.val) (by simp [hi]); exact ⟨ad, hA, by simpa using hc⟩, fun x hx => (h.rows x hx).rd⟩
theorem Aside.step {w w1 w2 : World} {A B B' : Option Addr} {cap n c : Nat} {hs : List Hd} {xs : List Value} (h : Aside w A cap hs B) (hB : Sl w 33 1 B n c xs) (hb : Below w.heap.size w w1) (hk : Keeps (· ∈ fpA B) w1 w2) (hB' : ∀ b, b ∈ fpA B' → b ∈ fpA B ∨ w1.heap.size ≤ b) : Aside w2 A cap hs B' :=
  ⟨(h.sl.below hb).keeps hk fun b hb1 hb2 => h.off b hb1 hb2, fun x hx => ((h.rows x hx).below hb).keeps hk fun b hb1 hb2 => IS.ne_outer (h.rows x hx) hB b hb1 hb2, fun b hb1 hb2 => by
    rcases hB' b hb2 with h1 | h1
    · exact h.off b hb1 h1
    · have := h.sl.lt b hb1; have := hb.size; omega⟩
set_option maxRecDepth 100000 in
set_option maxHeartbeats 2500000 in
theorem composed_any (p : Int) {v v' : Value} {s t : Sys} {fp fp' : List Nat} (w : World) (ha : OwSys w v s fp) (hb : OwSys w v' t fp') (hs : RelOk p s) (ht : RelOk p t) (hm : s.2.1 = t.1) (hsum : s.1 + t.2.1 ≤ 24) :
    Calls Tryd.prog 73 #[.int .i64 p, v, v'] w fun e w' => ∃ v' fp', e = .returned v' ∧ OwSys w' v' (cmpV p s t) fp' ∧ FreshL w.heap.size fp' ∧ Below w.heap.size w w' := by
  have hmat0 := pairs_mat hs ht
  have hmid0 := mid_mat hs ht hm
  have hnull0 := mid_null hs ht hm
  have htr0 := mid_trans (s := s) ht hm
  have hpr0 := pair_ref hs ht hm
  have hEa1 := fun (W' : World) (hbb : Below w.heap.size w W') => eachFirst_any p W' (ha.below hbb) hs
  have hEa2 := fun (W' : World) (hbb : Below w.heap.size w W') => eachSecond_any p W' (ha.below hbb) hs
  have hEb1 := fun (W' : World) (hbb : Below w.heap.size w W') => eachFirst_any p W' (hb.below hbb) ht
  have hEb2 := fun (W' : World) (hbb : Below w.heap.size w W') => eachSecond_any p W' (hb.below hbb) ht
  have hma0 := firstM_mat hs
  have hma2 := secondM_mat hs
  have hmb0 := firstM_mat ht
  have hmb2 := secondM_mat ht
  obtain ⟨Aa, ca, ga, rfl, hLa0, hOa, rfl⟩ := ha
  obtain ⟨ia, ja, La⟩ := s
  have ha0 : 0 ≤ ia := hs.lo
  have ha1 : 0 ≤ ja := hs.hi
  have ha2 : ia + ja ≤ 24 := hs.sum
  have hfld : fieldB p = true := hs.fld
  have hrowa : ∀ u, u ∈ La → (u.length : Int) = ia + ja ∧ Res p u := fun u hu => hs.row hu
  have hlena : (La.length : Int) ≤ ia + ja := hs.len
  clear hs
  obtain ⟨a1, rfl⟩ : ∃ n : Nat, ia = (n : Int) := ⟨ia.toNat, by omega⟩
  obtain ⟨a2, rfl⟩ : ∃ n : Nat, ja = (n : Int) := ⟨ja.toNat, by omega⟩
  have hLa : La = ga.map (fun h : Hd => h.2.2) := hLa0
  clear hLa0
  obtain ⟨ma, hma⟩ : ∃ m, m = ga.length := ⟨_, rfl⟩
  have hLma : La.length = ma := by rw [hLa, List.length_map, hma]
  have hma24 : (ma : Int) ≤ 24 := by have := hlena; rw [hLma] at this; omega
  obtain ⟨Ab, cb, gb, rfl, hLb0, hOb, rfl⟩ := hb
  obtain ⟨ib, jb, Lb⟩ := t
  have hb0 : 0 ≤ ib := ht.lo
  have hb1 : 0 ≤ jb := ht.hi
  have hb2 : ib + jb ≤ 24 := ht.sum
  have hrowb : ∀ u, u ∈ Lb → (u.length : Int) = ib + jb ∧ Res p u := fun u hu => ht.row hu
  have hlenb : (Lb.length : Int) ≤ ib + jb := ht.len
  clear ht
  obtain rfl : ib = (a2 : Int) := hm.symm
  obtain ⟨b2, rfl⟩ : ∃ n : Nat, jb = (n : Int) := ⟨jb.toNat, by omega⟩
  have hLb : Lb = gb.map (fun h : Hd => h.2.2) := hLb0
  clear hLb0
  obtain ⟨mb, hmb⟩ : ∃ m, m = gb.length := ⟨_, rfl⟩
  have hLmb : Lb.length = mb := by rw [hLb, List.length_map, hmb]
  have hmb24 : (mb : Int) ≤ 24 := by have := hlenb; rw [hLmb] at this; omega
  obtain ⟨N, hN⟩ : ∃ N, N = a1 + b2 := ⟨_, rfl⟩
  obtain ⟨M, hM⟩ : ∃ M, M = ma + mb := ⟨_, rfl⟩
  have hNI : (a1 : Int) + (b2 : Int) = (N : Int) := by omega
  have hMI : (ma : Int) + (mb : Int) = (M : Int) := by omega
  obtain ⟨K, hK⟩ : ∃ K, K = kerM p a2 (midR p ((a1 : Int), (a2 : Int), La) ((a2 : Int), (b2 : Int), Lb)) := ⟨_, rfl⟩
  obtain ⟨g, hg⟩ : ∃ g, g = pairV p ((a1 : Int), (a2 : Int), La) ((a2 : Int), (b2 : Int), Lb) := ⟨_, rfl⟩
  have hmat : Mat p (K.map g).length N (K.map g) := by
    have e : (((a1 : Int), (a2 : Int), La) : Sys).1 + (((a2 : Int), (b2 : Int), Lb) : Sys).2.1 = ((N : Nat) : Int) := by show (a1 : Int) + (b2 : Int) = _; omega
    rw [e] at hmat0
    rw [hK, hg]; exact hmat0
  obtain ⟨R, hR⟩ : ∃ R, R = redM p N (K.map g) := ⟨_, rfl⟩
  have hgoal : cmpV p ((a1 : Int), (a2 : Int), La) ((a2 : Int), (b2 : Int), Lb) = ((a1 : Int), (b2 : Int), R) := by
    rw [hR, hK, hg]
    show ((a1 : Int), (b2 : Int), redM p ((a1 : Int) + (b2 : Int)).toNat _) = _
    rw [show ((a1 : Int) + (b2 : Int)).toNat = N by omega]; rfl
  rw [hgoal]
  have hMM : La.length + Lb.length = M := by rw [hLma, hLmb, hM]
  have hmid : Mat p M a2 (midR p ((a1 : Int), (a2 : Int), La) ((a2 : Int), (b2 : Int), Lb)) := by rw [← hMM]; exact hmid0
  have hpbb := fieldB_bounds hfld
  have hKm := kerM_len (L := midR p ((a1 : Int), (a2 : Int), La) ((a2 : Int), (b2 : Int), Lb)) (n := a2) hfld (by rw [hmid.len]; exact hmid)
  rw [← hK, hmid.len] at hKm
  obtain ⟨X, hX⟩ : ∃ X, X = (List.range a2).map (midC p ((a1 : Int), (a2 : Int), La) ((a2 : Int), (b2 : Int), Lb)) := ⟨_, rfl⟩
  have hXl : X.length = a2 := by rw [hX]; simp
  have htr : transM (midR p ((a1 : Int), (a2 : Int), La) ((a2 : Int), (b2 : Int), Lb)) a2 = X := by rw [hX]; exact htr0
  have hXm : Mat p a2 M X := by rw [← htr]; exact transM_mat (by omega) hmid
  have hXat : ∀ j, j < a2 → X[j]? = some (La.map (fun r => r.getD (a1 + j) 0) ++ Lb.map fun r => (-(r.getD j 0)) % p) := fun j hj => by rw [hX]; simp [hj, midC]
  have hnull : nullM p M X = K := by rw [← htr, hK, ← hMM]; exact hnull0
  have hpr : ∀ k, (cmbTo p (a1 + a2) (k.take ma) La ma).take a1 ++ (cmbTo p (a2 + b2) (k.drop ma) Lb mb).drop a2 = g k := fun k => by
    have := hpr0 k
    simp only [Int.toNat_natCast, hLma, hLmb] at this
    rw [hg]; exact this
  have hma48 : ma ≤ 24 := by omega
  have hmb48 : mb ≤ 24 := by omega
  have ha24 : a1 ≤ 24 := by omega
  have ha24' : a2 ≤ 24 := by omega
  have hb24 : b2 ≤ 24 := by omega
  have hM48 : M ≤ 48 := by omega
  obtain ⟨n1, hn1⟩ : ∃ n1, n1 = a1 + a2 := ⟨_, rfl⟩
  obtain ⟨n2, hn2⟩ : ∃ n2, n2 = a2 + b2 := ⟨_, rfl⟩
  have hn1I : (a1 : Int) + (a2 : Int) = (n1 : Int) := by omega
  have hn2I : (a2 : Int) + (b2 : Int) = (n2 : Int) := by omega
  rw [← hn1, ← hn2] at hpr
  have hmata : Mat p La.length n1 La := ⟨rfl, fun u hu => ⟨by have := (hrowa u hu).1; omega, (hrowa u hu).2⟩⟩
  have hmatb : Mat p Lb.length n2 Lb := ⟨rfl, fun u hu => ⟨by have := (hrowb u hu).1; omega, (hrowb u hu).2⟩⟩
  show Calls Tryd.prog _ #[.int .i64 p, .agg #[.int .i64 (a1 : Int), .int .i64 (a2 : Int), .slice Aa ga.length ca], .agg #[.int .i64 (a2 : Int), .int .i64 (b2 : Int), .slice Ab gb.length cb]] w _
  rw [← hma, ← hmb]
  obtain ⟨W, hW, bW, k0, k1, k2⟩ := alloc3 w (.cells #[.int .i64 (a1 : Int), .int .i64 (a2 : Int), .slice Aa ma ca] tRel) (.cells #[.int .i64 (a2 : Int), .int .i64 (b2 : Int), .slice Ab mb cb] tRel) (.cells #[.int .i64 0, .int .i64 0, .slice none 0 0] tRel)
  have hOa := hOa.below bW
  have hOb := hOb.below bW
  simp only [← hma] at hEa1 hEa2
  simp only [← hmb] at hEb1 hEb2
  obtain ⟨F1, hF1⟩ : ∃ F, F = firstM ((a1 : Int), (a2 : Int), La) := ⟨_, rfl⟩
  obtain ⟨S1, hS1⟩ : ∃ F, F = secondM ((a1 : Int), (a2 : Int), La) := ⟨_, rfl⟩
  obtain ⟨F2, hF2⟩ : ∃ F, F = firstM ((a2 : Int), (b2 : Int), Lb) := ⟨_, rfl⟩
  obtain ⟨S2, hS2⟩ : ∃ F, F = secondM ((a2 : Int), (b2 : Int), Lb) := ⟨_, rfl⟩
  simp only [← hF1, ← hS1, ← hF2, ← hS2] at hEa1 hEa2 hEb1 hEb2
  rw [← hF1] at hma0
  rw [← hS1] at hma2
  rw [← hF2] at hmb0
  rw [← hS2] at hmb2
  have hF1l : F1.length = ma := by rw [hma0.len]; exact hLma
  have hS1l : S1.length = ma := by rw [hma2.len]; exact hLma
  have hF2l : F2.length = mb := by rw [hmb0.len]; exact hLmb
  have hS2l : S2.length = mb := by rw [hmb2.len]; exact hLmb
  have hF1m : Mat p F1.length a1 F1 := by rw [hma0.len]; exact hma0
  have hF2m : Mat p F2.length a2 F2 := by rw [hmb0.len]; exact hmb0
  have hS2m : Mat p S2.length b2 S2 := by rw [hmb2.len]; exact hmb2
  have hmidE : midR p ((a1 : Int), (a2 : Int), La) ((a2 : Int), (b2 : Int), Lb) = S1 ++ F2.map (ngV p) := by rw [hS1, hF2]; rfl
  have hgE : ∀ k, g k = cmbTo p a1 (k.take ma) F1 ma ++ cmbTo p b2 (k.drop ma) S2 mb := fun k => by
    rw [hg, hF1, hS2]
    unfold pairV
    show cmbTo p a1 (k.take La.length) _ La.length ++ cmbTo p b2 (k.drop La.length) _ Lb.length = _
    rw [hLma, hLmb]
  clear hma0 hma2 hmb0 hmb2 hF1 hS1 hF2 hS2; have hEa1_h := Lib.hid hEa1; have hEa2_h := Lib.hid hEa2; have hEb1_h := Lib.hid hEb1; have hEb2_h := Lib.hid hEb2; have hF1l_h := Lib.hid hF1l; have hS1l_h := Lib.hid hS1l; have hF2l_h := Lib.hid hF2l; have hS2l_h := Lib.hid hS2l; have hF1m_h := Lib.hid hF1m; have hF2m_h := Lib.hid hF2m; have hS2m_h := Lib.hid hS2m; have hmidE_h := Lib.hid hmidE; have hgE_h := Lib.hid hgE; clear hEa1 hEa2 hEb1 hEb2 hF1l hS1l hF2l hS2l hF1m hF2m hS2m hmidE hgE; clear hmat0 hmid0 hnull0 htr0 hpr0 hgoal hsum hX htr hm hrowa hrowb hlena hlenb hg hMM ha0 ha1 ha2 hb0 hb1 hb2
  have hwz := bW.size
  have hLa_h := Lib.hid hLa; have hLb_h := Lib.hid hLb; have hma_h := Lib.hid hma; have hmb_h := Lib.hid hmb; have hLma_h := Lib.hid hLma; have hLmb_h := Lib.hid hLmb; have bW_h := Lib.hid bW; have k0_h := Lib.hid k0; have k1_h := Lib.hid k1; have k2_h := Lib.hid k2; have hOa_h := Lib.hid hOa; have hOb_h := Lib.hid hOb; have hmata_h := Lib.hid hmata; have hmatb_h := Lib.hid hmatb; have hfld_h := Lib.hid hfld; have hmat_h := Lib.hid hmat; have hR_h := Lib.hid hR; have hN_h := Lib.hid hN; have hM_h := Lib.hid hM; have hK_h := Lib.hid hK; have hKm_h := Lib.hid hKm; have hnull_h := Lib.hid hnull; have hpr_h := Lib.hid hpr; have hXl_h := Lib.hid hXl; have hXm_h := Lib.hid hXm; have hXat_h := Lib.hid hXat; have hmid_h := Lib.hid hmid; have hn1_h := Lib.hid hn1; have hn2_h := Lib.hid hn2; have hpbb_h := Lib.hid hpbb; have hwz_h := Lib.hid hwz; clear hLa hLb hma hmb hLma hLmb bW k0 k1 k2 hOa hOb hmata hmatb hfld hmat hR hN hM hK hKm hnull hpr hXl hXm hXat hmid hn1 hn2 hpbb hwz
  obtain ⟨⟨c0, c1, c2⟩, f0, f1, f2⟩ := box3 k0_h.out
  have hmf : ∀ (fn : Fn) (first cap : Array Value) (w : World), (Instr.makeFunc fn first cap).run Tryd.prog w = .ok (.func fn first cap) w := fun _ _ _ _ => rfl
  have hNI_h := Lib.hid hNI; have hMI_h := Lib.hid hMI; have hn1I_h := Lib.hid hn1I; have hn2I_h := Lib.hid hn2I; clear hNI hMI hn1I hn2I
  go_enter Tryd.func73, Tryd.ntmps73
  go_upto_region 1 with (fail)
  rw [← hW]
  clear hW
  have k00 := k0_h.out
  have k10 := k1_h.out
  have k20 := k2_h.out
  have k00_h := Lib.hid k00; have k10_h := Lib.hid k10; have k20_h := Lib.hid k20; clear k00 k10 k20
  go_wp2_with (fail)
  refine (hEa2_h.out W bW_h.out).mono ?_
  rintro e w1 ⟨A1, e1, g1, m1, rfl, hgl1, hm1, hgm1, hO1⟩
  obtain rfl : ma = m1 := by rw [← hgl1, ← hS1l_h.out, ← hgm1, List.length_map]
  clear c0 c1 c2 f0 f1 f2
  have hb1 := hO1.below_
  replace k0_h := Lib.hid (box_below k0_h.out hb1)
  replace k1_h := Lib.hid (box_below k1_h.out hb1)
  obtain ⟨⟨d0, d1, d2⟩, g0', g1', g2'⟩ := box3 k1_h.out
  have hO1_h := Lib.hid hO1; have hgl1_h := Lib.hid hgl1; have hgm1_h := Lib.hid hgm1; have hb1_h := Lib.hid hb1; clear hO1 hgl1 hgm1 hb1
  go_wp2_with (fail)
  refine (hEb1_h.out w1 (below_trans bW_h.out hb1_h.out bW_h.out.size)).mono ?_
  rintro e w2 ⟨A2, e2, g2, m2, rfl, hgl2, hm2, hgm2, hO2⟩
  obtain rfl : mb = m2 := by rw [← hgl2, ← hF2l_h.out, ← hgm2, List.length_map]
  clear d0 d1 d2 g0' g1' g2'
  have hb2 := hO2.below_
  have hO12 := hO1_h.out.below hb2
  have hbW2 := hO12.below_
  replace k0_h := Lib.hid (box_below k0_h.out hb2)
  replace k1_h := Lib.hid (box_below k1_h.out hb2)
  have hg2l : g2.length = mb := hgl2
  have hAs : Aside w2 A2 e2 g2 A1 := ⟨hO2.sl, hO2.rows, fun b h1 h2 => by have := hO2.new b h1; have := hO1_h.out.sl.lt b h2; omega⟩
  have hO2_h := Lib.hid hO2; have hO12_h := Lib.hid hO12; have hgl2_h := Lib.hid hgl2; have hgm2_h := Lib.hid hgm2; have hb2_h := Lib.hid hb2; have hbW2_h := Lib.hid hbW2; have hg2l_h := Lib.hid hg2l; have hAs_h := Lib.hid hAs; clear hO2 hO12 hgl2 hgm2 hb2 hbW2 hg2l hAs
  go_wp2_with (fail)
  go_loopw [27, 7] (fun i v wr => ∃ (k : Nat) (A' : Option Addr) (c' : Nat) (ys : List Hd) (q : Nat), k ≤ mb ∧ i = .int .i64 k ∧ q = ma + k ∧ v = .slice A' q c' ∧ ys.length = q ∧ ys.map (fun h : Hd => h.2.2) = S1 ++ (F2.take k).map (ngV p) ∧ RdO W wr A' c' ys ∧ Aside wr A2 e2 g2 A') (fun i _ _ => mb - (intOf i).toNat)
  case atStart => exact ⟨0, A1, e1, g1, ma, Nat.zero_le _, rfl, rfl, rfl, hgl1_h.out, by simpa using hgm1_h.out, hO12_h.out, hAs_h.out⟩
  case round =>
    clear hO12_h hAs_h
    obtain ⟨k, A', c', ys, q0, hk, rfl, hq0, rfl, hyl, hym, hO, hAd⟩ := hrel
    obtain ⟨wo, rfl⟩ : ∃ x, x = wr := ⟨_, rfl⟩
    by_cases hlt : k < mb
    · have hkI : (k : Int) < (mb : Int) := by omega
      have hq48 : q0 ≤ 48 := by omega
      obtain ⟨ad, C, d, u, rfl, hx, hcu, hrd⟩ := hAd.rdr.at_ (k := k) (by rw [hg2l_h.out]; exact hlt)
      have hLu : F2[k]? = some u := by rw [← hgm2_h.out, List.getElem?_map, hx]; rfl
      have hur := hF2m_h.out.row u (List.mem_of_getElem? hLu)
      have hul := hur.1
      have hrd2 : ∀ b, 0 < u.length → b ∈ fpA C → b < wo.heap.size := fun b h0 hb => hrd.lt0 h0 b hb
      rw [hul] at hcu
      have hyt : (F2.take (k + 1)).map (ngV p) = (F2.take k).map (ngV p) ++ [ngV p u] := by rw [List.take_add_one, hLu, List.map_append]; rfl
      clear hx hLu; have hyl_h := Lib.hid hyl; have hym_h := Lib.hid hym; have hO_h := Lib.hid hO; have hAd_h := Lib.hid hAd; have hrd_h := Lib.hid hrd; have hur_h := Lib.hid hur; have hul_h := Lib.hid hul; have hrd2_h := Lib.hid hrd2; have hyt_h := Lib.hid hyt; have hq0_h := Lib.hid hq0; clear hyl hym hO hAd hrd hur hul hrd2 hyt hq0
      have hZ := zeros_any a2 wo (by omega)
      have hZ_h := Lib.hid hZ; clear hZ
      go_wp2_with (fail)
      refine (hZ_h.out).mono ?_
      rintro e w3 ⟨Z, cz, rfl, hiz, hfz, hbz⟩
      rw [List.length_replicate]
      have hAT := addTimes_any p (-1) Z C cz d (List.replicate a2 0) u w3 hiz (hrd_h.out.below hbz) (fun h0 b hb hb' => by
        have h1 := hfz b hb'
        have h2 := hrd2_h.out b h0 hb
        omega) (by rw [List.length_replicate, hul_h.out]; exact Nat.le_refl _) (by rw [List.length_replicate]; omega) (by have := hpbb_h.out; omega) hpbb_h.out.2 (fun x hx => by
          obtain rfl := (List.mem_replicate.1 hx).2
          have := hpbb_h.out; omega) hur_h.out.2 (by omega) (by omega)
      have hng : addT p (List.replicate a2 0) (-1) u = ngV p u := by have := ngV_add (p := p) u; rw [hul_h.out] at this; exact this
      rw [hng, List.length_replicate, hul_h.out] at hAT
      have hnl : (ngV p u).length = a2 := by rw [ngV_length, hul_h.out]
      have hnext : ∀ w', Wr w3 w' Z (ints (ngV p u)) → IS w' Z cz (ngV p u) ∧ Below wo.heap.size wo w' := fun w' hw => by
        refine ⟨?_, below_keeps hbz hw.1 hbz.size fun b hb => hfz b hb⟩
        have := hw.sl hiz (by rw [ints_length, hnl, List.length_replicate, Nat.mul_one])
        unfold IS
        rw [hnl]
        rwa [List.length_replicate] at this
      clear hiz hbz hng; have hAT_h := Lib.hid hAT; have hnext_h := Lib.hid hnext; have hnl_h := Lib.hid hnl; have hfz_h := Lib.hid hfz; clear hAT hnext hnl hfz
      go_wp2_with (fail)
      refine (hAT_h.out).mono ?_
      rintro e w4 ⟨rfl, hw4⟩
      obtain ⟨hi4, hb4⟩ := hnext_h.out w4 hw4
      have hsl : Sl (w4.alloc (.cells #[.slice Z a2 cz] 33)) 33 1 A' q0 c' (ys.map Hd.val) := by
        have := (hO_h.out.sl.below hb4).alloc (.cells #[.slice Z a2 cz] 33)
        rwa [hyl_h.out] at this
      clear hw4 hcu; have hi4_h := Lib.hid hi4; have hb4_h := Lib.hid hb4; have hsl_h := Lib.hid hsl; clear hi4 hb4 hsl
      go_wp2_with (at_builtin; refine wpList_append_Sl _ rfl _ _ _ rfl 33 Tryd.underlying22 info_ints rfl (by omega) rfl (hsl_h.out) rfl (news := [.slice Z a2 cz]) rfl (Sl.rdc (Sl.laid w4 33 1 1 #[.slice Z a2 cz] (by unfold maxLen; omega) rfl)) (by intro u hu; simp at hu; subst hu; rfl) (by unfold maxLen; omega) (by omega) ?_; intro A3 c3 w5 hsA3 hA3 hkA3)
      have hal : Below w4.heap.size w4 (w4.alloc (.cells #[.slice Z a2 cz] 33)) := below_alloc _ _
      have hba := below_trans hb4_h.out hal hb4_h.out.size
      have hO2' := hO_h.out.snoc (w1 := w4.alloc (.cells #[.slice Z a2 cz] 33)) hba (x := (Z, cz, ngV p u)) (hi4_h.out.below hal) (fun b hb hb' => by
        have h1 := hO_h.out.sl.lt b hb'
        have h2 := hfz_h.out b hb
        omega) (by rw [hyl_h.out]) (by show Sl w5 _ 1 A3 (q0 + 1) c3 (ys.map Hd.val ++ [.slice Z (ngV p u).length cz]); rw [hnl_h.out]; exact hsA3) hA3 hkA3
      have hAd2 := hAd_h.out.step hO_h.out.sl hba hkA3 hA3
      clear hsA3 hA3 hkA3; have hO2'_h := Lib.hid hO2'; have hAd2_h := Lib.hid hAd2; clear hO2' hAd2
      go_roundw
      case rel => exact ⟨k + 1, A3, c3, ys ++ [(Z, cz, ngV p u)], q0 + 1, by omega, by go_num, by have := hq0_h.out; omega, rfl, by rw [List.length_append, hyl_h.out]; rfl, by rw [List.map_append, hym_h.out, hyt_h.out, List.append_assoc]; rfl, hO2'_h.out, hAd2_h.out⟩
      case measure => simp [intOf]; omega
    · obtain rfl : mb = k := by omega
      have hym2 : ys.map (fun h : Hd => h.2.2) = S1 ++ F2.map (ngV p) := by rw [hym, List.take_of_length_le (by rw [hF2l_h.out]; exact Nat.le_refl _)]
      rw [← hmidE_h.out] at hym2
      have hbW := below_trans bW_h.out hO.below_ bW_h.out.size
      have hbWo := hO.below_
      have k0 := box_below k00_h.out hO.below_
      have k1 := box_below k10_h.out hO.below_
      have k2 := box_below k2_h.out hO.below_
      have hbS : Below wo.heap.size wo wo.drew := below_drewN (Below.refl _ _) 1
      clear hym hAd k0_h k1_h
      have hylen : ys.length = M := by rw [hyl, hq0, hM_h.out]
      have hqM : q0 = M := by rw [← hylen, hyl]
      subst hqM
      have hym2_h := Lib.hid hym2; have hyl_h := Lib.hid hyl; have hO_h := Lib.hid hO; have hbW_h := Lib.hid hbW; have hbWo_h := Lib.hid hbWo; have k0_h := Lib.hid k0; have k1_h := Lib.hid k1; have k2_h := Lib.hid k2; have hbS_h := Lib.hid hbS; have hq0_h := Lib.hid hq0; clear hym2 hyl hO hbW hbWo k0 k1 k2 hbS hq0
      go_wp2_with (fail)
      clear hylen
      refine beginH (fun w' => w'.heap[w.heap.size]? = some (.cells #[.int .i64 (a1 : Int), .int .i64 (a2 : Int), .slice Aa ma ca] tRel) ∧ w'.heap[w.heap.size + 1]? = some (.cells #[.int .i64 (a2 : Int), .int .i64 (b2 : Int), .slice Ab mb cb] tRel)) (by kernel_rfl) ?_
      replace k0_h := Lib.hid (box_below k0_h.out hbS_h.out)
      replace k1_h := Lib.hid (box_below k1_h.out hbS_h.out)
      replace k2_h := Lib.hid (box_below k2_h.out hbS_h.out)
      refine takeH 0 (v := ?_) rfl (by kernel_rfl) (by kernel_rfl) (by kernel_rfl) (fun _ _ _ h => h) ⟨k0_h.out, k1_h.out⟩ (by rfl) (fun W' hW' => ?_) ?_; rotate_left; · (obtain ⟨⟨y0, y1, y2⟩, y3, y4, y5⟩ := box3 hW'.1; obtain ⟨⟨x0, x1, x2⟩, x3, x4, x5⟩ := box3 hW'.2; clear hW'; go_simp; first | done | with_reducible rfl)
      simp only [Act.put, nS1, nS2, nS3]
      refine takeH 1 (v := ?_) rfl (by kernel_rfl) (by kernel_rfl) (by kernel_rfl) (fun _ _ _ h => h) ⟨k0_h.out, k1_h.out⟩ (by rfl) (fun W' hW' => ?_) ?_; rotate_left; · (obtain ⟨⟨y0, y1, y2⟩, y3, y4, y5⟩ := box3 hW'.1; obtain ⟨⟨x0, x1, x2⟩, x3, x4, x5⟩ := box3 hW'.2; clear hW'; go_simp; first | done | with_reducible rfl)
      simp only [Act.put, nS1, nS2, nS3]
      refine takeH 2 (v := ?_) rfl (by kernel_rfl) (by kernel_rfl) (by kernel_rfl) (fun _ _ _ h => h) ⟨k0_h.out, k1_h.out⟩ (by rfl) (fun W' hW' => ?_) ?_; rotate_left; · (obtain ⟨⟨y0, y1, y2⟩, y3, y4, y5⟩ := box3 hW'.1; obtain ⟨⟨x0, x1, x2⟩, x3, x4, x5⟩ := box3 hW'.2; clear hW'; go_simp; first | done | with_reducible rfl)
      simp only [Act.put, nS1, nS2, nS3]
      refine takeH 4 (v := ?_) rfl (by kernel_rfl) (by kernel_rfl) (by kernel_rfl) (fun _ _ _ h => h) ⟨k0_h.out, k1_h.out⟩ (by rfl) (fun W' hW' => ?_) ?_; rotate_left; · (obtain ⟨⟨y0, y1, y2⟩, y3, y4, y5⟩ := box3 hW'.1; obtain ⟨⟨x0, x1, x2⟩, x3, x4, x5⟩ := box3 hW'.2; clear hW'; go_simp; first | done | with_reducible rfl)
      simp only [Act.put, nS1, nS2, nS3]
      refine takeH 5 (v := ?_) rfl (by kernel_rfl) (by kernel_rfl) (by kernel_rfl) (fun _ _ _ h => h) ⟨k0_h.out, k1_h.out⟩ (by rfl) (fun W' hW' => ?_) ?_; rotate_left; · (obtain ⟨⟨y0, y1, y2⟩, y3, y4, y5⟩ := box3 hW'.1; obtain ⟨⟨x0, x1, x2⟩, x3, x4, x5⟩ := box3 hW'.2; clear hW'; go_simp; first | done | with_reducible rfl)
      simp only [Act.put, nS1, nS2, nS3]
      refine takeH 6 (v := ?_) rfl (by kernel_rfl) (by kernel_rfl) (by kernel_rfl) (fun _ _ _ h => h) ⟨k0_h.out, k1_h.out⟩ (by rfl) (fun W' hW' => ?_) ?_; rotate_left; · (obtain ⟨⟨y0, y1, y2⟩, y3, y4, y5⟩ := box3 hW'.1; obtain ⟨⟨x0, x1, x2⟩, x3, x4, x5⟩ := box3 hW'.2; clear hW'; go_simp; first | done | with_reducible rfl)
      simp only [Act.put, nS1, nS2, nS3]
      refine' callH 3 (f := _) (args := _) rfl (by kernel_rfl) (by rfl) ?_ ?_; rotate_left 2; · (go_simp; first | done | with_reducible rfl | (constructor <;> with_reducible rfl))
      refine (hEa1_h.out _ (below_trans hbW_h.out hbS_h.out hbW_h.out.size)).mono ?_
      rintro e w3 ⟨A3, e3, g3, m3, rfl, hgl3, hm3, hgm3, hO3⟩
      obtain rfl : ma = m3 := by rw [← hgl3, ← hF1l_h.out, ← hgm3, List.length_map]
      have hb3 := hO3.below_
      have hbo3 := below_trans hbS_h.out hb3 hbS_h.out.size
      replace k0_h := Lib.hid (box_below k0_h.out hb3)
      replace k1_h := Lib.hid (box_below k1_h.out hb3)
      replace k2_h := Lib.hid (box_below k2_h.out hb3)
      refine ⟨_, rfl, ⟨k0_h.out, k1_h.out⟩, ?_⟩
      simp only [Act.put, nS1, nS2, nS3]
      have hO3_h := Lib.hid hO3; have hgl3_h := Lib.hid hgl3; have hgm3_h := Lib.hid hgm3; have hb3_h := Lib.hid hb3; have hbo3_h := Lib.hid hbo3; clear hO3 hgl3 hgm3 hb3 hbo3
      refine' callH 7 (f := _) (args := _) rfl (by kernel_rfl) (by rfl) ?_ ?_; rotate_left 2; · (go_simp; first | done | with_reducible rfl | (constructor <;> with_reducible rfl))
      refine (hEb2_h.out _ (below_trans hbW_h.out hbo3_h.out hbW_h.out.size)).mono ?_
      rintro e w4 ⟨A4, e4, g4, m4, rfl, hgl4, hm4, hgm4, hO4⟩
      obtain rfl : mb = m4 := by rw [← hgl4, ← hS2l_h.out, ← hgm4, List.length_map]
      have hb4 := hO4.below_
      have hbo4 := below_trans hbo3_h.out hb4 hbo3_h.out.size
      have hO34 := hO3_h.out.rdr.below hb4
      replace k0_h := Lib.hid (box_below k0_h.out hb4)
      replace k1_h := Lib.hid (box_below k1_h.out hb4)
      replace k2_h := Lib.hid (box_below k2_h.out hb4)
      refine ⟨_, rfl, ⟨k0_h.out, k1_h.out⟩, ?_⟩
      simp only [Act.put, nS1, nS2, nS3]
      have hO4_h := Lib.hid hO4; have hgl4_h := Lib.hid hgl4; have hgm4_h := Lib.hid hgm4; have hb4_h := Lib.hid hb4; have hbo4_h := Lib.hid hbo4; have hO34_h := Lib.hid hO34; clear hO4 hgl4 hgm4 hb4 hbo4 hO34
      refine takeH 8 (v := ?_) rfl (by kernel_rfl) (by kernel_rfl) (by kernel_rfl) (fun _ _ _ h => h) ⟨k0_h.out, k1_h.out⟩ (by rfl) (fun W' hW' => ?_) ?_; rotate_left; · (skip; clear hW'; go_simp; first | done | with_reducible rfl)
      simp only [Act.put, nS1, nS2, nS3]
      refine takeH 9 (v := ?_) rfl (by kernel_rfl) (by kernel_rfl) (by kernel_rfl) (fun _ _ _ h => h) ⟨k0_h.out, k1_h.out⟩ (by rfl) (fun W' hW' => ?_) ?_; rotate_left; · (skip; clear hW'; go_simp; first | done | with_reducible rfl)
      simp only [Act.put, nS1, nS2, nS3]
      refine doneH (by kernel_rfl) ?_
      go_upto_region 11 with (fail)
      obtain ⟨w5, hw5⟩ : ∃ w5, w5 = w4.alloc (.cells #[] 33) := ⟨_, rfl⟩
      have hN0 : RdO w4 w5 (some ⟨w4.heap.size, 0, none⟩) 0 [] := by rw [hw5]; exact RdO.start w4 w4 (Below.refl _ _)
      rw [← hw5]
      have hw5s : w5.heap.size = w4.heap.size + 1 := by rw [hw5]; simp
      clear hw5
      have hb5 := hN0.below_
      have hbo5 := below_trans hbo4_h.out hb5 hbo4_h.out.size
      replace k0_h := Lib.hid (box_below k0_h.out hb5)
      replace k1_h := Lib.hid (box_below k1_h.out hb5)
      replace k2_h := Lib.hid (box_below k2_h.out hb5)
      obtain ⟨⟨c0, c1, c2⟩, f0, f1, f2⟩ := box3 k0_h.out
      have hK5 := kernel_any p a2 A' c' ys w5 (hO_h.out.rdr.below hbo5) hfld_h.out (by rw [hym2_h.out, hyl_h.out]; exact hmid_h.out) (by rw [hyl_h.out]; omega) (by omega)
      rw [hym2_h.out, ← hK_h.out, hyl_h.out] at hK5
      have hN0_h := Lib.hid hN0; have hb5_h := Lib.hid hb5; have hbo5_h := Lib.hid hbo5; have hK5_h := Lib.hid hK5; clear hN0 hb5 hbo5 hK5
      go_wp2_with (fail)
      refine (hK5_h.out).mono ?_
      rintro e w6 hret
      obtain ⟨A5, c5, rfl, hKm5⟩ := hret.om
      obtain ⟨hsK, hKL, hKO, hKf, _⟩ := id hKm5
      have hKw5 : w5.heap.size = w4.heap.size + 1 := hw5s
      clear c0 c1 c2 f0 f1 f2
      obtain ⟨kk, hkk⟩ : ∃ kk, kk = K.length := ⟨_, rfl⟩
      rw [← hkk]
      have hk48 : kk ≤ 48 := by rw [hkk]; have := hKm_h.out.1; omega
      have hb6 := hKm5.below_
      have hN1 := hN0_h.out.below hb6
      have hbo6 := below_trans hbo5_h.out hb6 hbo5_h.out.size
      have hb46 := below_trans hb5_h.out hb6 hb5_h.out.size
      have hO36 := hO34_h.out.below hb46
      have hO46 := hO4_h.out.rdr.below hb46
      replace k0_h := Lib.hid (box_below k0_h.out hb6)
      replace k1_h := Lib.hid (box_below k1_h.out hb6)
      replace k2_h := Lib.hid (box_below k2_h.out hb6)
      clear hret hw5s; have hKm5_h := Lib.hid hKm5; have hkk_h := Lib.hid hkk; have hb6_h := Lib.hid hb6; have hN1_h := Lib.hid hN1; have hbo6_h := Lib.hid hbo6; have hb46_h := Lib.hid hb46; have hO36_h := Lib.hid hO36; have hO46_h := Lib.hid hO46; have hKL_h := Lib.hid hKL; have hKO_h := Lib.hid hKO; have hKf_h := Lib.hid hKf; have hKw5_h := Lib.hid hKw5; clear hKm5 hkk hb6 hN1 hbo6 hb46 hO36 hO46 hKL hKO hKf hKw5
      go_wp2_with (fail)
      go_loopw [58, 13] (fun i v wr => ∃ (k : Nat) (A' : Option Addr) (c' : Nat) (zs : List Hd) (q : Nat), k ≤ kk ∧ i = .int .i64 k ∧ q = k ∧ v = .slice A' q c' ∧ zs.length = q ∧ zs.map (fun h : Hd => h.2.2) = (K.take k).map g ∧ RdO w4 wr A' c' zs ∧ Keeps (· = w4.heap.size) w6 wr ∧ ∀ b, b ∈ fpA A' → b = w4.heap.size ∨ w6.heap.size ≤ b) (fun i _ _ => kk - (intOf i).toNat)
      case atStart => exact ⟨0, some ⟨w4.heap.size, 0, none⟩, 0, [], 0, Nat.zero_le _, rfl, rfl, rfl, rfl, rfl, hN1_h.out, Keeps.refl _ _, fun b hb => .inl (by simpa using hb)⟩
      case round =>
        clear hN1_h
        obtain ⟨k, A', c', zs, q0, hk, rfl, hq0, rfl, hzl, hzm, hO, hKe, hfA⟩ := hrel
        obtain ⟨wi, rfl⟩ : ∃ x, x = wr := ⟨_, rfl⟩
        have hb4i := hO.below_
        have hw4l : w4.heap.size < w6.heap.size := by have := hKw5_h.out; have := hb6_h.out.size; omega
        have hbWi := below_trans hbWo_h.out (below_trans hbo4_h.out hb4i hbo4_h.out.size) hbWo_h.out.size
        have k0r := box_below k00_h.out hbWi
        have k1r := box_below k10_h.out hbWi
        by_cases hlt : k < kk
        · have hkI : (k : Int) < (kk : Int) := by omega
          have hq48 : q0 ≤ 48 := by omega
          have hKOi : OwR wi A5 c5 hsK := hKO_h.out.keeps hKe fun b hb e => by have := hKf_h.out b hb; have := hKw5_h.out; omega
          have hsKl : hsK.length = kk := by rw [hkk_h.out, hKL_h.out, List.length_map]
          obtain ⟨ad, B, d, u, hA5, hx, hcu, hfu, hI⟩ := hKOi.get (i := k) (by rw [hsKl]; exact hlt)
          subst hA5
          have hKk : K[k]? = some u := by rw [hKL_h.out, List.getElem?_map, hx]; rfl
          have hur := hKm_h.out.2.row u (List.mem_of_getElem? hKk)
          have hul := hur.1
          rw [hul] at hcu
          obtain ⟨B1, hr1, hI1, hf1⟩ := take_sl hI hul (k := ma) (by rw [hM_h.out]; omega)
          obtain ⟨B2, e2', hr2, hI2, hf2⟩ := drop_sl (r := mb) hI hul (by rw [hM_h.out])
          have hl1 : (u.take ma).length = ma := by rw [List.length_take, hul, hM_h.out]; omega
          have hl2 : (u.drop ma).length = mb := by rw [List.length_drop, hul, hM_h.out]; omega
          have hres1 : Res p (u.take ma) := fun x hx => hur.2 x (List.mem_of_mem_take hx)
          have hres2 : Res p (u.drop ma) := fun x hx => hur.2 x (List.mem_of_mem_drop hx)
          have hC1 := fun (W' : World) (hb : Below wi.heap.size wi W') => combine_any p a1 ma A3 B1 e3 d g3 (u.take ma) F1 W' ((hO34_h.out.below hb4i).below hb) hgm3_h.out hF1l_h.out ((hI1.below hb).rd) hl1 hres1 hF1m_h.out (by have := hpbb_h.out; omega) hpbb_h.out.2 (by omega) (by omega)
          have hC2 := fun (W' : World) (hb : Below wi.heap.size wi W') => combine_any p b2 mb A4 B2 e4 e2' g4 (u.drop ma) S2 W' ((hO4_h.out.rdr.below hb4i).below hb) hgm4_h.out hS2l_h.out ((hI2.below hb).rd) hl2 hres2 hS2m_h.out (by have := hpbb_h.out; omega) hpbb_h.out.2 (by omega) (by omega)
          obtain ⟨x, hxe⟩ : ∃ x, x = cmbTo p a1 (u.take ma) F1 ma := ⟨_, rfl⟩
          obtain ⟨z, hze⟩ : ∃ z, z = cmbTo p b2 (u.drop ma) S2 mb := ⟨_, rfl⟩
          have hxl : x.length = a1 := by rw [hxe]; exact cmbTo_length _ _ _ _ _
          have hzl' : z.length = b2 := by rw [hze]; exact cmbTo_length _ _ _ _ _
          have hgu : x ++ z = g u := by rw [hxe, hze]; exact (hgE_h.out u).symm
          simp only [← hxe] at hC1
          simp only [← hze] at hC2
          have hKt : (K.take (k + 1)).map g = (K.take k).map g ++ [g u] := by rw [List.take_add_one, hKk, List.map_append]; rfl
          have hbS : Below wi.heap.size wi wi.drew := below_drewN (Below.refl _ _) 1
          clear hI1 hI2 hres1 hres2 hl1 hl2 hI hur hul hxe hze hf1 hf2 hKk hfu hx hKOi hsKl hb4i; have hzl_h := Lib.hid hzl; have hzm_h := Lib.hid hzm; have hO_h := Lib.hid hO; have hbWi_h := Lib.hid hbWi; have k0r_h := Lib.hid k0r; have k1r_h := Lib.hid k1r; have hC1_h := Lib.hid hC1; have hC2_h := Lib.hid hC2; have hxl_h := Lib.hid hxl; have hzl'_h := Lib.hid hzl'; have hgu_h := Lib.hid hgu; have hKt_h := Lib.hid hKt; have hr1_h := Lib.hid hr1; have hr2_h := Lib.hid hr2; have hq0_h := Lib.hid hq0; have hbS_h := Lib.hid hbS; have hKe_h := Lib.hid hKe; have hfA_h := Lib.hid hfA; have hw4l_h := Lib.hid hw4l; clear hzl hzm hO hbWi k0r k1r hC1 hC2 hxl hzl' hgu hKt hr1 hr2 hq0 hbS hKe hfA hw4l
          go_wp2_with (fail)
          refine beginH (fun w' => w'.heap[w.heap.size]? = some (.cells #[.int .i64 (a1 : Int), .int .i64 (a2 : Int), .slice Aa ma ca] tRel)) (by kernel_rfl) ?_
          clear hcu
          replace k0r_h := Lib.hid (box_below k0r_h.out hbS_h.out)
          refine takeH 0 (v := ?_) rfl (by kernel_rfl) (by kernel_rfl) (by kernel_rfl) (fun _ _ _ h => h) k0r_h.out (by rfl) (fun W' hW' => ?_) ?_; rotate_left; · (skip; clear hW'; go_simp; first | done | with_reducible rfl)
          simp only [Act.put, nS1, nS2, nS3]
          refine takeH 1 (v := ?_) rfl (by kernel_rfl) (by kernel_rfl) (by kernel_rfl) (fun _ _ _ h => h) k0r_h.out (by rfl) (fun W' hW' => ?_) ?_; rotate_left; · (skip; clear hW'; go_simp; first | done | with_reducible rfl)
          simp only [Act.put, nS1, nS2, nS3]
          refine takeH 2 (v := ?_) rfl (by kernel_rfl) (by kernel_rfl) (by kernel_rfl) (fun _ _ _ h => h) k0r_h.out (by rfl) (fun W' hW' => ?_) ?_; rotate_left; · (skip; clear hW'; go_simp; first | done | with_reducible rfl)
          simp only [Act.put, nS1, nS2, nS3]
          refine takeH 3 (v := ?_) rfl (by kernel_rfl) (by kernel_rfl) (by kernel_rfl) (fun _ _ _ h => h) k0r_h.out (by rfl) (fun W' hW' => ?_) ?_; rotate_left; · (skip; clear hW'; go_simp; first | done | with_reducible rfl)
          simp only [Act.put, nS1, nS2, nS3]
          refine takeH 4 (v := .slice B1 ma d) rfl (by kernel_rfl) (by kernel_rfl) (by kernel_rfl) (fun _ _ _ h => h) k0r_h.out (by rfl) (fun W' _ => xop_sliceW rfl (hr1_h.out W')) ?_
          simp only [Act.put, nS1, nS2, nS3]
          refine takeH 5 (v := ?_) rfl (by kernel_rfl) (by kernel_rfl) (by kernel_rfl) (fun _ _ _ h => h) k0r_h.out (by rfl) (fun W' hW' => ?_) ?_; rotate_left; · (obtain ⟨⟨y0, y1, y2⟩, y3, y4, y5⟩ := box3 hW'; clear hW'; go_simp; first | done | with_reducible rfl)
          simp only [Act.put, nS1, nS2, nS3]
          refine takeH 6 (v := ?_) rfl (by kernel_rfl) (by kernel_rfl) (by kernel_rfl) (fun _ _ _ h => h) k0r_h.out (by rfl) (fun W' hW' => ?_) ?_; rotate_left; · (obtain ⟨⟨y0, y1, y2⟩, y3, y4, y5⟩ := box3 hW'; clear hW'; go_simp; first | done | with_reducible rfl)
          simp only [Act.put, nS1, nS2, nS3]
          refine takeH 7 (v := ?_) rfl (by kernel_rfl) (by kernel_rfl) (by kernel_rfl) (fun _ _ _ h => h) k0r_h.out (by rfl) (fun W' hW' => ?_) ?_; rotate_left; · (obtain ⟨⟨y0, y1, y2⟩, y3, y4, y5⟩ := box3 hW'; clear hW'; go_simp; first | done | with_reducible rfl)
          simp only [Act.put, nS1, nS2, nS3]
          refine' callH 8 (f := _) (args := _) rfl (by kernel_rfl) (by rfl) ?_ ?_; rotate_left 2; · (go_simp; first | done | with_reducible rfl | (constructor <;> with_reducible rfl))
          refine (hC1_h.out _ hbS_h.out).mono ?_
          rintro e w7 ⟨Ax, cx, rfl, hix, hfx, hbx⟩
          rw [hxl_h.out]
          replace k0r_h := Lib.hid (box_below k0r_h.out hbx)
          have hb7 := below_trans hbS_h.out hbx hbS_h.out.size
          have hfx2 : Fresh wi.heap.size Ax := fun b hb => Nat.le_trans hbS_h.out.size (hfx b hb)
          refine ⟨_, rfl, k0r_h.out, ?_⟩
          simp only [Act.put, nS1, nS2, nS3]
          have hix_h := Lib.hid hix; have hfx_h := Lib.hid hfx; have hbx_h := Lib.hid hbx; have hb7_h := Lib.hid hb7; have hfx2_h := Lib.hid hfx2; clear hix hfx hbx hb7 hfx2
          refine takeH 9 (v := ?_) rfl (by kernel_rfl) (by kernel_rfl) (by kernel_rfl) (fun _ _ _ h => h) k0r_h.out (by rfl) (fun W' hW' => ?_) ?_; rotate_left; · (skip; clear hW'; go_simp; first | done | with_reducible rfl)
          simp only [Act.put, nS1, nS2, nS3]
          refine doneH (by kernel_rfl) ?_
          have k1q := box_below k1r_h.out hb7_h.out
          have hbd7 : Below w7.heap.size w7 w7.drew := below_drewN (Below.refl _ _) 1
          have hb8 := below_trans hb7_h.out hbd7 hb7_h.out.size
          have k1q_h := Lib.hid k1q; have hbd7_h := Lib.hid hbd7; have hb8_h := Lib.hid hb8; clear k1q hbd7 hb8
          go_wp2_with (fail)
          refine beginH (fun w' => w'.heap[w.heap.size + 1]? = some (.cells #[.int .i64 (a2 : Int), .int .i64 (b2 : Int), .slice Ab mb cb] tRel)) (by kernel_rfl) ?_
          replace k1q_h := Lib.hid (box_below k1q_h.out hbd7_h.out)
          refine takeH 0 (v := ?_) rfl (by kernel_rfl) (by kernel_rfl) (by kernel_rfl) (fun _ _ _ h => h) k1q_h.out (by rfl) (fun W' hW' => ?_) ?_; rotate_left; · (skip; clear hW'; go_simp; first | done | with_reducible rfl)
          simp only [Act.put, nS1, nS2, nS3]
          refine takeH 1 (v := ?_) rfl (by kernel_rfl) (by kernel_rfl) (by kernel_rfl) (fun _ _ _ h => h) k1q_h.out (by rfl) (fun W' hW' => ?_) ?_; rotate_left; · (skip; clear hW'; go_simp; first | done | with_reducible rfl)
          simp only [Act.put, nS1, nS2, nS3]
          refine takeH 2 (v := ?_) rfl (by kernel_rfl) (by kernel_rfl) (by kernel_rfl) (fun _ _ _ h => h) k1q_h.out (by rfl) (fun W' hW' => ?_) ?_; rotate_left; · (skip; clear hW'; go_simp; first | done | with_reducible rfl)
          simp only [Act.put, nS1, nS2, nS3]
          refine takeH 3 (v := ?_) rfl (by kernel_rfl) (by kernel_rfl) (by kernel_rfl) (fun _ _ _ h => h) k1q_h.out (by rfl) (fun W' hW' => ?_) ?_; rotate_left; · (skip; clear hW'; go_simp; first | done | with_reducible rfl)
          simp only [Act.put, nS1, nS2, nS3]
          refine takeH 4 (v := .slice B2 mb e2') rfl (by kernel_rfl) (by kernel_rfl) (by kernel_rfl) (fun _ _ _ h => h) k1q_h.out (by rfl) (fun W' _ => xop_sliceW rfl (hr2_h.out W')) ?_
          simp only [Act.put, nS1, nS2, nS3]
          refine takeH 5 (v := ?_) rfl (by kernel_rfl) (by kernel_rfl) (by kernel_rfl) (fun _ _ _ h => h) k1q_h.out (by rfl) (fun W' hW' => ?_) ?_; rotate_left; · (obtain ⟨⟨y0, y1, y2⟩, y3, y4, y5⟩ := box3 hW'; clear hW'; go_simp; first | done | with_reducible rfl)
          simp only [Act.put, nS1, nS2, nS3]
          refine takeH 6 (v := ?_) rfl (by kernel_rfl) (by kernel_rfl) (by kernel_rfl) (fun _ _ _ h => h) k1q_h.out (by rfl) (fun W' hW' => ?_) ?_; rotate_left; · (obtain ⟨⟨y0, y1, y2⟩, y3, y4, y5⟩ := box3 hW'; clear hW'; go_simp; first | done | with_reducible rfl)
          simp only [Act.put, nS1, nS2, nS3]
          refine takeH 7 (v := ?_) rfl (by kernel_rfl) (by kernel_rfl) (by kernel_rfl) (fun _ _ _ h => h) k1q_h.out (by rfl) (fun W' hW' => ?_) ?_; rotate_left; · (obtain ⟨⟨y0, y1, y2⟩, y3, y4, y5⟩ := box3 hW'; clear hW'; go_simp; first | done | with_reducible rfl)
          simp only [Act.put, nS1, nS2, nS3]
          refine' callH 8 (f := _) (args := _) rfl (by kernel_rfl) (by rfl) ?_ ?_; rotate_left 2; · (go_simp; first | done | with_reducible rfl | (constructor <;> with_reducible rfl))
          refine (hC2_h.out _ hb8_h.out).mono ?_
          rintro e w8 ⟨Az, cz, rfl, hiz, hfz, hbz⟩
          rw [hzl'_h.out]
          replace k1q_h := Lib.hid (box_below k1q_h.out hbz)
          have hb9 := below_trans hb8_h.out hbz hb8_h.out.size
          have hix8 := hix_h.out.below (below_trans hbd7_h.out hbz hbd7_h.out.size)
          refine ⟨_, rfl, k1q_h.out, ?_⟩
          simp only [Act.put, nS1, nS2, nS3]
          have hiz_h := Lib.hid hiz; have hfz_h := Lib.hid hfz; have hbz_h := Lib.hid hbz; have hb9_h := Lib.hid hb9; have hix8_h := Lib.hid hix8; clear hiz hfz hbz hb9 hix8
          refine takeH 9 (v := ?_) rfl (by kernel_rfl) (by kernel_rfl) (by kernel_rfl) (fun _ _ _ h => h) k1q_h.out (by rfl) (fun W' hW' => ?_) ?_; rotate_left; · (skip; clear hW'; go_simp; first | done | with_reducible rfl)
          simp only [Act.put, nS1, nS2, nS3]
          refine doneH (by kernel_rfl) ?_
          have hlr := laid_rdr (w := w8) [(Ax, cx, x), (Az, cz, z)] (fun y hy => by
            simp only [List.mem_cons, List.not_mem_nil, or_false] at hy
            rcases hy with rfl | rfl
            · exact hix8_h.out.rd
            · exact hiz_h.out.rd) (by unfold maxLen; simp)
          have e : (([(Ax, cx, x), (Az, cz, z)] : List Hd).map Hd.val).toArray = #[.slice Ax a1 cx, .slice Az b2 cz] := by simp [Hd.val, hxl_h.out, hzl'_h.out]
          rw [e] at hlr
          have hgl : (g u).length = N := by rw [← hgu_h.out, List.length_append, hxl_h.out, hzl'_h.out, hN_h.out]
          have e2 : (([(Ax, cx, x), (Az, cz, z)] : List Hd).map fun h : Hd => h.2.2).flatten = g u := by rw [← hgu_h.out]; simp
          have hJ := joined_any (some ⟨w8.heap.size, 0, none⟩) 2 [(Ax, cx, x), (Az, cz, z)] _ hlr (by simp) (by rw [e2, hgl]; have := hN_h.out; omega)
          rw [e2] at hJ
          have hal8 := below_alloc w8 (.cells #[.slice Ax a1 cx, .slice Az b2 cz] 33)
          clear hlr e e2; have hJ_h := Lib.hid hJ; have hal8_h := Lib.hid hal8; have hgl_h := Lib.hid hgl; clear hJ hal8 hgl
          go_wp2_with (fail)
          refine (hJ_h.out).mono ?_
          rintro e w9 ⟨A7, c7, rfl, hi7, hf7, hb10⟩
          rw [hgl_h.out]
          have hb11 := below_trans hb9_h.out (below_trans hal8_h.out hb10 hal8_h.out.size) hb9_h.out.size
          have hal := below_alloc w9 (.cells #[.slice A7 N c7] 33)
          have hba := below_trans hb11 hal hb11.size
          have hfA7 : Fresh wi.heap.size A7 := fun b hb => by have := hf7 b hb; have := hal8_h.out.size; have := hb9_h.out.size; omega
          have hsl : Sl (w9.alloc (.cells #[.slice A7 N c7] 33)) 33 1 A' q0 c' (zs.map Hd.val) := by
            have := (hO_h.out.sl.below hb11).alloc (.cells #[.slice A7 N c7] 33)
            rwa [hzl_h.out] at this
          have hI8 := hi7.below hal
          clear hi7 hf7 hb10; have hb11_h := Lib.hid hb11; have hal_h := Lib.hid hal; have hba_h := Lib.hid hba; have hfA7_h := Lib.hid hfA7; have hsl_h := Lib.hid hsl; have hI8_h := Lib.hid hI8; clear hb11 hal hba hfA7 hsl hI8
          go_wp2_with (at_builtin; refine wpList_append_Sl _ rfl _ _ _ rfl 33 Tryd.underlying22 info_ints rfl (by omega) rfl (hsl_h.out) rfl (news := [.slice A7 N c7]) rfl (Sl.rdc (Sl.laid w9 33 1 1 #[.slice A7 N c7] (by unfold maxLen; omega) rfl)) (by intro u hu; simp at hu; subst hu; rfl) (by unfold maxLen; omega) (by omega) ?_; intro A9 c9 w10 hsA9 hA9 hkA9)
          have hO2 := hO_h.out.snoc hba_h.out (x := (A7, c7, g u)) hI8_h.out (fun b hb hb' => by
            have h1 := hO_h.out.sl.lt b hb'
            have h2 := hfA7_h.out b hb
            omega) (by rw [hzl_h.out]) (by show Sl w10 _ 1 A9 (q0 + 1) c9 (zs.map Hd.val ++ [.slice A7 (g u).length c7]); rw [hgl_h.out]; exact hsA9) hA9 hkA9
          have hKe2 := (hKe_h.out.trans (Keeps.of_below hba_h.out _)).after hkA9 (fun b hb hb2 => by
            rcases hfA_h.out b hb2 with h | h
            · exact h
            · omega)
          have hfA2 : ∀ b, b ∈ fpA A9 → b = w4.heap.size ∨ w6.heap.size ≤ b := fun b hb => by
            rcases hA9 b hb with h | h
            · exact hfA_h.out b h
            · right; have := hba_h.out.size; have := hKe_h.out.size; omega
          clear hsA9 hA9 hkA9; have hO2_h := Lib.hid hO2; have hKe2_h := Lib.hid hKe2; have hfA2_h := Lib.hid hfA2; clear hO2 hKe2 hfA2
          go_roundw
          case rel => exact ⟨k + 1, A9, c9, zs ++ [(A7, c7, g u)], q0 + 1, by omega, by go_num, by have := hq0_h.out; omega, rfl, by rw [List.length_append, hzl_h.out]; rfl, by rw [List.map_append, hzm_h.out, hKt_h.out]; rfl, hO2_h.out, hKe2_h.out, hfA2_h.out⟩
          case measure => simp [intOf]; omega
        · obtain rfl : kk = k := by omega
          have hym2 : zs.map (fun h : Hd => h.2.2) = K.map g := by rw [hzm, List.take_of_length_le (by rw [hkk_h.out]; exact Nat.le_refl _)]
          have hC := relation_any p (a1 : Int) (b2 : Int) N A' c' zs wi hO.rdr hfld_h.out hNI_h.out (by rw [hym2]; have := hmat_h.out; rwa [show (K.map g).length = zs.length by rw [← hym2, List.length_map]] at this) (by omega) (by have := hN_h.out; omega)
          rw [hym2, ← hR_h.out, hzl] at hC
          have k2r := box_below k20_h.out hbWi
          have hBr := below_trans bW_h.out hbWi bW_h.out.size
          have hzr := hbWi.size
          have hz2 := box_lt k20_h.out
          obtain ⟨⟨c0, c1, c2⟩, f0, f1, f2⟩ := box3 k0r
          obtain ⟨⟨d0, d1, d2⟩, g0', g1', g2'⟩ := box3 k1r
          clear hzm hym2 hzl hO k0r k1r hKe hfA; have hC_h := Lib.hid hC; have k2r_h := Lib.hid k2r; have hBr_h := Lib.hid hBr; have hq0_h := Lib.hid hq0; have hbWi_h := Lib.hid hbWi; clear hC k2r hBr hq0 hbWi
          go_wp2_with (fail)
          refine (hC_h.out).mono ?_
          rintro e w1 ⟨v1, fp1, rfl, hO1, hf1, hb1⟩
          clear c0 c1 c2 f0 f1 f2 d0 d1 d2 g0' g1' g2'
          obtain ⟨A1', n1', c1', rfl⟩ := hO1.shape
          have k2' := box_below k2r_h.out hb1
          have hB1 := below_trans hBr_h.out hb1 hBr_h.out.size
          obtain ⟨⟨d0, d1, d2⟩, g0', g1', g2'⟩ := box3 k2'
          obtain ⟨s1, s2⟩ := set3 (a := .int .i64 (a1 : Int)) (b := .int .i64 (b2 : Int)) (c := .slice A1' n1' c1') k2'
          have hB3 := below_keeps hB1 s2 hB1.size (fun k hk => by omega)
          have hBs := hBr_h.out.size
          have hO3 := hO1.keeps s2 (fun k hk e => by have := hf1 k hk; omega)
          have hf3 := hf1.mono hBs
          clear k2' hB1 hO1 hf1; have s1_h := Lib.hid s1; have s2_h := Lib.hid s2; have hO3_h := Lib.hid hO3; have hf3_h := Lib.hid hf3; have hB3_h := Lib.hid hB3; clear s1 s2 hO3 hf3 hB3
          go_wp2_with (fail)
          refine bodyPost_ret (results_cell_row rfl _ _ (w.heap.size + 1 + 1) _ _ (0, 0) _ rfl s1_h.out Tryd.underlying43 rfl (by kernel_rfl)) rfl ?_
          exact ⟨_, fp1, rfl, hO3_h.out, hf3_h.out, hB3_h.out⟩
end Go.Proofs.YtahnhblodfdfhaaDoor
namespace Go.Proofs.YtahnhblodfdfhaaDoor
open Go.RowKit
def t_fitB (i o : Int) : Bool := decide (i ≤ 12 ∧ o ≤ 12)
theorem fit_any (i o : Int) (w : World) :
    Calls Tryd.prog 199 #[.agg #[.int .i64 i, .int .i64 o]] w fun e w' => e = .returned (.bool (t_fitB i o)) ∧ Below w.heap.size w w' := by
  by_cases h1 : i ≤ 12
  · by_cases h2 : o ≤ 12
    all_goals
      go_enter Tryd.func199, Tryd.ntmps199
      go_wp2_with (fail)
      go_ret
      refine ⟨ret_bool ?_, t_below_alloc _ _⟩
      unfold t_fitB
      simp
      omega
  · go_enter Tryd.func199, Tryd.ntmps199
    go_wp2_with (fail)
    go_ret
    refine ⟨ret_bool ?_, t_below_alloc _ _⟩
    unfold t_fitB
    simp
    omega
def JnA (p : Bool) (a b : Int × Int) (w : World) (e : Ending) (w' : World) : Prop :=
  ∃ (c : Bool), e = .returned (.tuple #[.agg #[.int .i64 (joinTy p a b).1, .int .i64 (joinTy p a b).2], .bool c]) ∧ c = joinB p a b ∧ Below w.heap.size w w'
set_option maxRecDepth 8000 in
set_option maxHeartbeats 1000000 in
theorem joinWires_any (p : Bool) (ai ao bi bo : Int) (w : World) (h1 : 0 ≤ ai ∧ ai ≤ 12) (h2 : 0 ≤ ao ∧ ao ≤ 12) (h3 : 0 ≤ bi ∧ bi ≤ 12) (h4 : 0 ≤ bo ∧ bo ≤ 12) :
    Calls Tryd.prog 198 #[.int .i64 (kd p), .agg #[.int .i64 ai, .int .i64 ao], .agg #[.int .i64 bi, .int .i64 bo]] w (JnA p (ai, ao) (bi, bo) w) := by
  obtain ⟨W, hW⟩ : ∃ W, W = ((w.alloc (.cells #[.int .i64 ai, .int .i64 ao] tWires)).alloc (.cells #[.int .i64 bi, .int .i64 bo] tWires)).alloc (.cells #[.int .i64 0, .int .i64 0] tWires) := ⟨_, rfl⟩
  obtain ⟨b0, k0, k1, hz⟩ := two_boxes w (.cells #[.int .i64 ai, .int .i64 ao] tWires) (.cells #[.int .i64 bi, .int .i64 bo] tWires)
  have hbz := b0.alloc (by omega) (.cells #[.int .i64 0, .int .i64 0] tWires)
  have k2 := heap_alloc_new ((w.alloc (.cells #[.int .i64 ai, .int .i64 ao] tWires)).alloc (.cells #[.int .i64 bi, .int .i64 bo] tWires)) (.cells #[.int .i64 0, .int .i64 0] tWires)
  rw [hz] at k2
  have k0 := t_box_below k0 (t_below_alloc _ (.cells #[.int .i64 0, .int .i64 0] tWires))
  have k1 := t_box_below k1 (t_below_alloc _ (.cells #[.int .i64 0, .int .i64 0] tWires))
  rw [← hW] at hbz k0 k1 k2
  clear b0 hz
  cases p
  · show Calls Tryd.prog _ #[.int .i64 15, _, _] _ _
    have k0_h := Lib.hid k0; have k1_h := Lib.hid k1; have k2_h := Lib.hid k2; have hbz_h := Lib.hid hbz; clear k0 k1 k2 hbz
    go_enter Tryd.func198, Tryd.ntmps198
    go_wp2_with (fail)
    rw [← hW]
    clear hW
    have k0d : W.drew.heap[w.heap.size]? = some (.cells #[.int .i64 ai, .int .i64 ao] tWires) := k0_h.out
    have k1d : W.drew.heap[w.heap.size + 1]? = some (.cells #[.int .i64 bi, .int .i64 bo] tWires) := k1_h.out
    have k2d : W.drew.heap[w.heap.size + 2]? = some (.cells #[.int .i64 0, .int .i64 0] tWires) := k2_h.out
    have b0d := below_drew hbz_h.out
    refine beginH (fun w' => w'.heap[w.heap.size]? = some (.cells #[.int .i64 ai, .int .i64 ao] tWires) ∧ w'.heap[w.heap.size + 1]? = some (.cells #[.int .i64 bi, .int .i64 bo] tWires)) (by kernel_rfl) ?_
    clear k0_h k1_h k2_h hbz_h
    generalize W.drew = W1 at k0d k1d k2d b0d ⊢
    obtain ⟨s1, s2⟩ := t_set2 (a := .int .i64 ai) (b := .int .i64 bo) k2d
    have k0s := t_box_keeps k0d s2 (by omega)
    have k1s := t_box_keeps k1d s2 (by omega)
    have hS := And.intro k0d k1d
    have hSs := And.intro k0s k1s
    have hB2 := below_keeps b0d s2 b0d.size (fun k hk => by omega)
    obtain ⟨⟨c0, c1⟩, f0, f1⟩ := t_box2 k2d
    have k0d_h := Lib.hid k0d; have k1d_h := Lib.hid k1d; have k2d_h := Lib.hid k2d; have s1_h := Lib.hid s1; have s2_h := Lib.hid s2; have k0s_h := Lib.hid k0s; have k1s_h := Lib.hid k1s; have hB2_h := Lib.hid hB2; have hS_h := Lib.hid hS; have hSs_h := Lib.hid hSs; have b0d_h := Lib.hid b0d; clear k0d k1d k2d s1 s2 k0s k1s hB2 hS hSs b0d
    refine takeH 0 (v := ?_) rfl (by kernel_rfl) (by kernel_rfl) (by kernel_rfl) (fun _ _ _ h => h) hS_h.out (by rfl) (fun W' hW' => ?_) ?_; rotate_left; · (obtain ⟨⟨d0, d1⟩, e0, e1⟩ := t_box2 hW'.1; obtain ⟨⟨g0, g1⟩, i0, i1⟩ := t_box2 hW'.2; clear hW'; go_simp; first | done | with_reducible rfl)
    simp only [Act.put, nS1, nS2, nS3]
    refine takeH 1 (v := ?_) rfl (by kernel_rfl) (by kernel_rfl) (by kernel_rfl) (fun _ _ _ h => h) hS_h.out (by rfl) (fun W' hW' => ?_) ?_; rotate_left; · (obtain ⟨⟨d0, d1⟩, e0, e1⟩ := t_box2 hW'.1; obtain ⟨⟨g0, g1⟩, i0, i1⟩ := t_box2 hW'.2; clear hW'; go_simp; first | done | with_reducible rfl)
    simp only [Act.put, nS1, nS2, nS3]
    refine takeH 2 (v := ?_) rfl (by kernel_rfl) (by kernel_rfl) (by kernel_rfl) (fun _ _ _ h => h) hS_h.out (by rfl) (fun W' hW' => ?_) ?_; rotate_left; · (obtain ⟨⟨d0, d1⟩, e0, e1⟩ := t_box2 hW'.1; obtain ⟨⟨g0, g1⟩, i0, i1⟩ := t_box2 hW'.2; clear hW'; go_simp; first | done | with_reducible rfl)
    simp only [Act.put, nS1, nS2, nS3]
    refine takeH 3 (v := ?_) rfl (by kernel_rfl) (by kernel_rfl) (by kernel_rfl) (fun _ _ _ h => h) hS_h.out (by rfl) (fun W' hW' => ?_) ?_; rotate_left; · (obtain ⟨⟨d0, d1⟩, e0, e1⟩ := t_box2 hW'.1; obtain ⟨⟨g0, g1⟩, i0, i1⟩ := t_box2 hW'.2; clear hW'; go_simp; first | done | with_reducible rfl)
    simp only [Act.put, nS1, nS2, nS3]
    refine takeH 4 (v := ?_) rfl (by kernel_rfl) (by kernel_rfl) (by kernel_rfl) (fun _ _ _ h => h) hS_h.out (by rfl) (fun W' hW' => ?_) ?_; rotate_left; · (obtain ⟨⟨d0, d1⟩, e0, e1⟩ := t_box2 hW'.1; obtain ⟨⟨g0, g1⟩, i0, i1⟩ := t_box2 hW'.2; clear hW'; go_simp; first | done | with_reducible rfl)
    simp only [Act.put, nS1, nS2, nS3]
    refine takeH 5 (v := ?_) rfl (by kernel_rfl) (by kernel_rfl) (by kernel_rfl) (fun _ _ _ h => h) hS_h.out (by rfl) (fun W' hW' => ?_) ?_; rotate_left; · (obtain ⟨⟨d0, d1⟩, e0, e1⟩ := t_box2 hW'.1; obtain ⟨⟨g0, g1⟩, i0, i1⟩ := t_box2 hW'.2; clear hW'; go_simp; first | done | with_reducible rfl)
    simp only [Act.put, nS1, nS2, nS3]
    refine takeH 6 (v := ?_) rfl (by kernel_rfl) (by kernel_rfl) (by kernel_rfl) (fun _ _ _ h => h) hS_h.out (by rfl) (fun W' hW' => ?_) ?_; rotate_left; · (obtain ⟨⟨d0, d1⟩, e0, e1⟩ := t_box2 hW'.1; obtain ⟨⟨g0, g1⟩, i0, i1⟩ := t_box2 hW'.2; clear hW'; go_simp; first | done | with_reducible rfl)
    simp only [Act.put, nS1, nS2, nS3]
    refine takeH 7 (v := ?_) rfl (by kernel_rfl) (by kernel_rfl) (by kernel_rfl) (fun _ _ _ h => h) hS_h.out (by rfl) (fun W' hW' => ?_) ?_; rotate_left; · (obtain ⟨⟨d0, d1⟩, e0, e1⟩ := t_box2 hW'.1; obtain ⟨⟨g0, g1⟩, i0, i1⟩ := t_box2 hW'.2; clear hW'; go_simp; first | done | with_reducible rfl)
    simp only [Act.put, nS1, nS2, nS3]
    refine takeH 8 (v := ?_) rfl (by kernel_rfl) (by kernel_rfl) (by kernel_rfl) (fun _ _ _ h => h) hS_h.out (by rfl) (fun W' hW' => ?_) ?_; rotate_left; · (obtain ⟨⟨d0, d1⟩, e0, e1⟩ := t_box2 hW'.1; obtain ⟨⟨g0, g1⟩, i0, i1⟩ := t_box2 hW'.2; clear hW'; go_simp; first | done | with_reducible rfl)
    simp only [Act.put, nS1, nS2, nS3]
    refine takeH 9 (v := ?_) rfl (by kernel_rfl) (by kernel_rfl) (by kernel_rfl) (fun _ _ _ h => h) hS_h.out (by rfl) (fun W' hW' => ?_) ?_; rotate_left; · (obtain ⟨⟨d0, d1⟩, e0, e1⟩ := t_box2 hW'.1; obtain ⟨⟨g0, g1⟩, i0, i1⟩ := t_box2 hW'.2; clear hW'; go_simp; first | done | with_reducible rfl)
    simp only [Act.put, nS1, nS2, nS3]
    refine oneH 10 rfl (by kernel_rfl) (by rfl) (fun K hK => ?_)
    go_simp
    refine hK _ _ hSs_h.out ?_
    clear hK K
    refine takeH 11 (v := ?_) rfl (by kernel_rfl) (by kernel_rfl) (by kernel_rfl) (fun _ _ _ h => h) hSs_h.out (by rfl) (fun W' hW' => ?_) ?_; rotate_left; · (skip; clear hW'; go_simp; first | done | with_reducible rfl)
    simp only [Act.put, nS1, nS2, nS3]
    refine doneH (by kernel_rfl) ?_
    go_wp2_with (fail)
    refine bodyPost_ret (t_results_cell_tmp rfl _ _ (w.heap.size + 2) _ _ (0, 0) _ rfl s1_h.out Tryd.underlying182 rfl (by kernel_rfl)) rfl ?_
    refine ⟨(ao == bi), rfl, ?_, hB2_h.out⟩
    simp only [joinB, Bool.false_eq_true, if_false]
    by_cases h0 : ao = bi <;> simp [h0]
  · show Calls Tryd.prog _ #[.int .i64 16, _, _] _ _
    obtain ⟨X, hX⟩ : ∃ X, X = W.alloc (.cells #[.int .i64 (ai + bi), .int .i64 (ao + bo)] tWires) := ⟨_, rfl⟩
    have bx := hbz.alloc hbz.size (.cells #[.int .i64 (ai + bi), .int .i64 (ao + bo)] tWires)
    have kx := heap_alloc_new W (.cells #[.int .i64 (ai + bi), .int .i64 (ao + bo)] tWires)
    have k2x := t_box_below k2 (t_below_alloc _ (.cells #[.int .i64 (ai + bi), .int .i64 (ao + bo)] tWires))
    have hWz : W.heap.size = w.heap.size + 3 := by rw [hW]; simp
    rw [← hX] at bx kx k2x
    rw [hWz] at kx
    have bx_h := Lib.hid bx; have kx_h := Lib.hid kx; have k2x_h := Lib.hid k2x; have k0_h := Lib.hid k0; have k1_h := Lib.hid k1; have k2_h := Lib.hid k2; have hbz_h := Lib.hid hbz; have hWz_h := Lib.hid hWz; clear bx kx k2x k0 k1 k2 hbz hWz
    go_enter Tryd.func198, Tryd.ntmps198
    go_wp2_with (fail)
    rw [← hW, ← hX]
    have kxd : X.drew.heap[w.heap.size + 3]? = some (.cells #[.int .i64 (ai + bi), .int .i64 (ao + bo)] tWires) := kx_h.out
    have k2d : X.drew.heap[w.heap.size + 2]? = some (.cells #[.int .i64 0, .int .i64 0] tWires) := k2x_h.out
    have b0d := below_drew bx_h.out
    refine beginH (fun w' => w'.heap[w.heap.size + 3]? = some (.cells #[.int .i64 (ai + bi), .int .i64 (ao + bo)] tWires)) (by kernel_rfl) ?_
    clear k0_h k1_h k2_h hbz_h bx_h kx_h k2x_h hW hX hWz_h
    generalize X.drew = W1 at kxd k2d b0d ⊢
    have kxd_h := Lib.hid kxd; have k2d_h := Lib.hid k2d; have b0d_h := Lib.hid b0d; clear kxd k2d b0d
    refine takeH 0 (v := ?_) rfl (by kernel_rfl) (by kernel_rfl) (by kernel_rfl) (fun _ _ _ h => h) kxd_h.out (by rfl) (fun W' hW' => ?_) ?_; rotate_left; · (obtain ⟨⟨d0, d1⟩, e0, e1⟩ := t_box2 hW'; clear hW'; go_simp; first | done | with_reducible rfl)
    simp only [Act.put, nS1, nS2, nS3]
    refine takeH 1 (v := ?_) rfl (by kernel_rfl) (by kernel_rfl) (by kernel_rfl) (fun _ _ _ h => h) kxd_h.out (by rfl) (fun W' hW' => ?_) ?_; rotate_left; · (obtain ⟨⟨d0, d1⟩, e0, e1⟩ := t_box2 hW'; clear hW'; go_simp; first | done | with_reducible rfl)
    simp only [Act.put, nS1, nS2, nS3]
    refine' callH 2 (f := _) (args := _) rfl (by kernel_rfl) (by rfl) ?_ ?_; rotate_left 2; · (go_simp; first | done | with_reducible rfl | (constructor <;> with_reducible rfl))
    refine (fit_any _ _ _).mono ?_
    rintro e w2 ⟨rfl, hb2⟩
    have kx2 := t_box_below kxd_h.out hb2
    have k22 := t_box_below k2d_h.out hb2
    have b2 := below_trans b0d_h.out hb2 b0d_h.out.size
    obtain ⟨s1, s2⟩ := t_set2 (a := .int .i64 (ai + bi)) (b := .int .i64 (ao + bo)) k22
    have kxs := t_box_keeps kx2 s2 (by omega)
    have hB2 := below_keeps b2 s2 b2.size (fun k hk => by omega)
    obtain ⟨⟨c0, c1⟩, f0, f1⟩ := t_box2 k22
    refine ⟨_, rfl, kx2, ?_⟩
    have kx2_h := Lib.hid kx2; have k22_h := Lib.hid k22; have b2_h := Lib.hid b2; have s1_h := Lib.hid s1; have s2_h := Lib.hid s2; have kxs_h := Lib.hid kxs; have hB2_h := Lib.hid hB2; have hb2_h := Lib.hid hb2; clear kx2 k22 b2 s1 s2 kxs hB2 hb2
    simp only [Act.put, nS1, nS2, nS3]
    refine oneH 3 rfl (by kernel_rfl) (by rfl) (fun K hK => ?_)
    go_simp
    refine hK _ _ kxs_h.out ?_
    clear hK K
    refine takeH 4 (v := ?_) rfl (by kernel_rfl) (by kernel_rfl) (by kernel_rfl) (fun _ _ _ h => h) kxs_h.out (by rfl) (fun W' hW' => ?_) ?_; rotate_left; · (skip; clear hW'; go_simp; first | done | with_reducible rfl)
    simp only [Act.put, nS1, nS2, nS3]
    refine doneH (by kernel_rfl) ?_
    go_wp2_with (fail)
    refine bodyPost_ret (t_results_cell_tmp rfl _ _ (w.heap.size + 2) _ _ (0, 0) _ rfl s1_h.out Tryd.underlying182 rfl (by kernel_rfl)) rfl ?_
    exact ⟨_, rfl, rfl, hB2_h.out⟩
end Go.Proofs.YtahnhblodfdfhaaDoor
namespace Go.Proofs.YtahnhblodfdfhaaDoor
open Go.RowKit
theorem parse_none {l : List Nd} {k : Nat} {n : Nd} {st : List Tr} (h : parse [] (l.take k) = some st) (hn : l[k]? = some n) (hs : stepT st n = none) : treeM l = none := by
  have hk := (List.getElem?_eq_some_iff.1 hn).1
  have e : l = l.take (k + 1) ++ l.drop (k + 1) := (List.take_append_drop _ _).symm
  have e2 : l.take (k + 1) = l.take k ++ [n] := by rw [List.take_add_one, hn]; rfl
  have : parse [] l = none := by
    rw [e, parse_append, e2, parse_snoc, h, Option.bind_some, hs]; rfl
  unfold treeM
  rw [this]
  split <;> rfl
theorem parse_more {l : List Nd} {k : Nat} {n : Nd} {st st' : List Tr} (h : parse [] (l.take k) = some st) (hn : l[k]? = some n) (hs : stepT st n = some st') : parse [] (l.take (k + 1)) = some st' := by
  have e2 : l.take (k + 1) = l.take k ++ [n] := by rw [List.take_add_one, hn]; rfl
  rw [e2, parse_snoc, h, Option.bind_some, hs]
def oneOf : List Tr → Option Tr
  | [t] => some t
  | _ => none
theorem treeM_of {l : List Nd} {st : List Tr} (h : 1 ≤ l.length ∧ l.length ≤ 400) (hp : parse [] l = some st) : treeM l = oneOf st := by
  unfold treeM
  rw [if_pos h, hp]
  match st with
  | [] => rfl
  | [_] => rfl
  | _ :: _ :: _ => rfl
theorem oneOf_some : ∀ {st : List Tr} {t : Tr}, oneOf st = some t → st = [t]
  | [_], _, h => by rw [Option.some.inj h]
theorem oneOf_one : ∀ {st : List Tr} {n : Nat}, n = st.length → ((n : Int) == 1) = (oneOf st).isSome
  | [], n, h => by obtain rfl : n = 0 := h; rfl
  | [_], n, h => by obtain rfl : n = 1 := h; rfl
  | _ :: _ :: r, n, h => by
    have : ((n : Int) == 1) = false := by simp only [beq_eq_false_iff_ne]; simp only [List.length_cons] at h; omega
    rw [this]; rfl
theorem step_leaf {st : List Tr} {n : Nd} (hj : ¬ isJoin n) : stepT st n = if leafB n = true then some (.leaf n :: st) else none := by
  unfold stepT; rw [if_neg hj]
theorem step_none {st : List Tr} {n : Nd} (hj : isJoin n) (h : n.2.1 ≠ 0 ∨ n.2.2 ≠ noName ∨ st.length < 2) : stepT st n = none := by
  unfold stepT
  rw [if_pos hj]
  match st, h with
  | [], _ => rfl
  | [_], _ => rfl
  | b :: a :: r, h =>
    simp only [List.length_cons]  at h
    simp only
    rw [if_neg]
    rintro ⟨h1, h2, _⟩
    rcases h with h | h | h
    · exact h h1
    · exact h h2
    · omega
theorem step_join {r : List Tr} {a b : Tr} (p : Bool) : stepT (b :: a :: r) (joinNd p) = if joinB p (ty a) (ty b) = true then some (.node p a b :: r) else none := by
  unfold stepT
  rw [if_pos (joinNd_is p)]
  simp only [joinNd_kd]
  by_cases h : joinB p (ty a) (ty b) = true
  · rw [if_pos ⟨rfl, rfl, h⟩, if_pos h]
  · rw [if_neg (fun hh => h hh.2.2), if_neg h]
theorem name_eq {s : ByteArray} (h : s.toList = []) : s = noName := name_yes (by simp [h])
theorem name_ne {s : ByteArray} (h : ¬ s.toList = []) : s ≠ noName := name_no (by simpa using h)
theorem two_of {st : List Tr} {q : Nat} (h : q + 2 = st.length) : ∃ b a r, st = b :: a :: r ∧ r.length = q := by
  match st, h with
  | [], h => simp at h
  | [_], h => simp at h
  | b :: a :: r, h => exact ⟨b, a, r, rfl, by simp at h; omega⟩
end Go.Proofs.YtahnhblodfdfhaaDoor
namespace Go.Proofs.YtahnhblodfdfhaaDoor
open Go.RowKit
theorem info_wires : (Tryd.prog.info? tWires).map (fun i => (i.zero, i.size, i.bytes)) = some (some (.agg #[.int .i64 0, .int .i64 0]), 2, 16) := by kernel_rfl
def wcs : List Tr → List Value
  | [] => []
  | t :: r => wcs r ++ [.int .i64 (ty t).1, .int .i64 (ty t).2]
theorem wcs_length : ∀ st : List Tr, (wcs st).length = st.length * 2
  | [] => rfl
  | t :: r => by simp only [wcs, List.length_append, wcs_length r, List.length_cons, List.length_nil]; omega
theorem wcs_top (t : Tr) (r : List Tr) : (wcs (t :: r))[r.length * 2]? = some (.int .i64 (ty t).1) ∧ (wcs (t :: r))[r.length * 2 + 1]? = some (.int .i64 (ty t).2) := by
  have := wcs_length r
  simp only [wcs]
  rw [List.getElem?_append_right (by omega), List.getElem?_append_right (by omega), this, Nat.sub_self, Nat.add_sub_cancel_left]
  exact ⟨rfl, rfl⟩
theorem wcs_top2 (b a : Tr) (r : List Tr) : (wcs (b :: a :: r))[r.length * 2]? = some (.int .i64 (ty a).1) ∧ (wcs (b :: a :: r))[r.length * 2 + 1]? = some (.int .i64 (ty a).2) := by
  have := wcs_length (a :: r)
  simp only [List.length_cons] at this
  obtain ⟨h1, h2⟩ := wcs_top a r
  show (wcs (a :: r) ++ _)[_]? = _ ∧ (wcs (a :: r) ++ _)[_]? = _
  rw [List.getElem?_append_left (by omega), List.getElem?_append_left (by omega)]
  exact ⟨h1, h2⟩
def TyA (l : List Nd) (w : World) (e : Ending) (w' : World) : Prop :=
  ∃ (i o : Int) (b : Bool), e = .returned (.tuple #[.agg #[.int .i64 i, .int .i64 o], .bool b]) ∧ b = (treeM l).isSome ∧ (∀ t, treeM l = some t → (i, o) = ty t) ∧ Below w.heap.size w w'
structure TyR (B : Nat) (w : World) (l : List Nd) (k : Nat) (st : List Tr) (A1 : Option Addr) (c1 : Nat) (wr : World) : Prop where
  par : parse [] (l.take k) = some st
  sl : Sl wr tWires 2 A1 st.length c1 (wcs st)
  fr : ∀ b, b ∈ fpA A1 → B + 1 ≤ b
  box : wr.heap[B]? = some (.cells #[.int .i64 0, .int .i64 0] tWires)
  bel : Below B w wr
theorem TyR.below {B : Nat} {w wr w1 : World} {l : List Nd} {k : Nat} {st : List Tr} {A1 : Option Addr} {c1 : Nat} (h : TyR B w l k st A1 c1 wr) (hb : Below wr.heap.size wr w1) : TyR B w l k st A1 c1 w1 :=
  ⟨h.par, h.sl.below hb, h.fr, t_box_below h.box hb, below_trans h.bel hb (Nat.le_of_lt (t_box_lt h.box))⟩
theorem TyR.push {B : Nat} {w X w2 : World} {l : List Nd} {k : Nat} {t : Tr} {r : List Tr} {A1 A2 : Option Addr} {c2 n2 : Nat} {i o : Int} (hbel : Below B w X) (hbox : X.heap[B]? = some (.cells #[.int .i64 0, .int .i64 0] tWires)) (hfr : ∀ b, b ∈ fpA A1 → B + 1 ≤ b)
    (hp : parse [] (l.take (k + 1)) = some (t :: r)) (hn : n2 = r.length) (hio : (i, o) = ty t) (hs : Sl w2 tWires 2 A2 (n2 + 1) c2 (wcs r ++ [.int .i64 i, .int .i64 o])) (hA : ∀ b, b ∈ fpA A2 → b ∈ fpA A1 ∨ X.heap.size ≤ b) (hk : Keeps (· ∈ fpA A1) X w2) : TyR B w l (k + 1) (t :: r) A2 c2 w2 := by
  have hB := t_box_lt hbox
  refine ⟨hp, ?_, fun b hb => ?_, t_box_keeps hbox hk (fun h => by have := hfr _ h; omega), below_keeps hbel hk (Nat.le_of_lt hB) (fun b hb => by have := hfr b hb; omega)⟩
  · simp only [wcs, List.length_cons, ← hio, ← hn]; exact hs
  · rcases hA b hb with h | h
    · exact hfr b h
    · omega
theorem TyTop {W1 : World} {A1 : Option Addr} {c1 q n : Nat} {a b : Tr} {r : List Tr} (hs : Sl W1 tWires 2 A1 n c1 (wcs (b :: a :: r))) (hq : r.length = q) : ∃ ad1, A1 = some ad1 ∧ ad1.block < W1.heap.size ∧
    W1.cell? (ad1.add (q * 2)) = some (.int .i64 (ty a).1) ∧ W1.cell? ⟨(ad1.add (q * 2)).block, (ad1.add (q * 2)).off + 1, none⟩ = some (.int .i64 (ty a).2) ∧
    W1.cell? (ad1.add ((q + 1) * 2)) = some (.int .i64 (ty b).1) ∧ W1.cell? ⟨(ad1.add ((q + 1) * 2)).block, (ad1.add ((q + 1) * 2)).off + 1, none⟩ = some (.int .i64 (ty b).2) := by
  obtain ⟨h1, h2⟩ := wcs_top2 b a r
  obtain ⟨h3, h4⟩ := wcs_top b (a :: r)
  rw [List.length_cons] at h3 h4
  rw [hq] at h1 h2 h3 h4
  obtain ⟨ad, hA, hb, c0, _⟩ := Sl.cell hs h1
  obtain ⟨ad', hA', _, c1, _⟩ := Sl.cell hs h2
  obtain ⟨ad2, hA2, _, c2, _⟩ := Sl.cell hs h3
  obtain ⟨ad3, hA3, _, c3, _⟩ := Sl.cell hs h4
  rw [hA] at hA' hA2 hA3
  obtain rfl := Option.some.inj hA'
  obtain rfl := Option.some.inj hA2
  obtain rfl := Option.some.inj hA3
  rw [add_next _ _ 1 (by omega)] at c1 c3
  exact ⟨_, hA, hb, c0, c1, c2, c3⟩
theorem TyTop2 {W1 : World} {ad1 : Addr} {c1 q n : Nat} {a b : Tr} {r : List Tr} (hs : Sl W1 tWires 2 (some ad1) n c1 (wcs (b :: a :: r))) (hq : r.length = q) :
    W1.cell? (ad1.add (q * 2)) = some (.int .i64 (ty a).1) ∧ W1.cell? ⟨(ad1.add (q * 2)).block, (ad1.add (q * 2)).off + 1, none⟩ = some (.int .i64 (ty a).2) ∧
    W1.cell? (ad1.add ((q + 1) * 2)) = some (.int .i64 (ty b).1) ∧ W1.cell? ⟨(ad1.add ((q + 1) * 2)).block, (ad1.add ((q + 1) * 2)).off + 1, none⟩ = some (.int .i64 (ty b).2) := by
  obtain ⟨x, hx, _, h⟩ := TyTop hs hq
  obtain rfl := Option.some.inj hx
  exact h
theorem Sl.take {w : World} {e : TypeId} {sz n cap : Nat} {A : Option Addr} {xs : List Value} (h : Sl w e sz A n cap xs) {k : Nat} (hk : k ≤ n) : Sl w e sz A k cap (xs.take (k * sz)) := by
  obtain ⟨h1, h2, h3, h4⟩ := h
  have hm := Nat.mul_le_mul_right sz hk
  refine ⟨by rw [List.length_take, h1]; omega, by omega, h3, ?_⟩
  rcases h4 with h4 | ⟨g, off, cur, ha, hg, hc, ht⟩
  · exact .inl h4
  · exact .inr ⟨g, off, cur, ha, hg, hc, by rw [← ht, List.take_take]; congr 1; omega⟩
theorem wcs_take (a b : Tr) (r : List Tr) {q : Nat} (hq : r.length = q) : (wcs (b :: a :: r)).take (q * 2) = wcs r := by
  have := wcs_length r
  simp only [wcs, List.append_assoc]
  rw [List.take_append_of_le_length (by omega), List.take_of_length_le (by omega)]
theorem wcs_bot : ∀ {st : List Tr}, st ≠ [] → ∃ i o : Int, (wcs st)[0]? = some (.int .i64 i) ∧ (wcs st)[1]? = some (.int .i64 o) ∧ ∀ t, st = [t] → (i, o) = ty t
  | [], h => absurd rfl h
  | [t], _ => ⟨(ty t).1, (ty t).2, rfl, rfl, fun t' e => by obtain rfl := (List.cons.inj e).1; rfl⟩
  | b :: a :: r, _ => by
    obtain ⟨i, o, h1, h2, _⟩ := wcs_bot (st := a :: r) (by simp)
    refine ⟨i, o, ?_, ?_, fun t e => by cases e⟩
    · show (wcs (a :: r) ++ _)[0]? = _
      rw [List.getElem?_append_left (List.getElem?_eq_some_iff.1 h1).1]; exact h1
    · show (wcs (a :: r) ++ _)[1]? = _
      rw [List.getElem?_append_left (List.getElem?_eq_some_iff.1 h2).1]; exact h2
theorem TyA.no {l : List Nd} {w w' : World} {i o : Int} (hN : treeM l = none) (hb : Below w.heap.size w w') : TyA l w (.returned (.tuple #[.agg #[.int .i64 i, .int .i64 o], .bool false])) w' :=
  ⟨i, o, false, rfl, by rw [hN]; rfl, fun t ht => (by rw [hN] at ht; cases ht), hb⟩
set_option maxRecDepth 8000 in
set_option maxHeartbeats 8000000 in
theorem typed_any (A : Option Addr) (c : Nat) (l : List Nd) (w : World) (h : RdN w A l) :
    Calls Tryd.prog 196 #[.slice A l.length c, .func (.func 197) #[] #[]] w (TyA l w) := by
  by_cases hl : 1 ≤ l.length ∧ l.length ≤ 400
  case neg =>
    have hb : t_inB (l.length : Int) 1 400 = false := by simp [t_inB]; omega
    have hw := t_within_any (l.length : Int) 1 400 (w.alloc (.cells #[.int .i64 0, .int .i64 0] tWires))
    rw [hb] at hw
    have hN : treeM l = none := by unfold treeM; rw [if_neg hl]
    have hw_h := Lib.hid hw; have hN_h := Lib.hid hN; clear hw hN; clear hb hl h
    go_enter Tryd.func196, Tryd.ntmps196
    go_wp2_with (fail)
    refine (hw_h.out).mono ?_
    rintro e w' ⟨rfl, rfl⟩
    go_wp2_with (fail)
    refine bodyPost_ret (v := .tuple #[.agg #[.int .i64 0, .int .i64 0], .bool false]) (by simp [results, Tryd.results196, go_sem]) rfl ⟨_, _, _, rfl, by rw [hN_h.out]; rfl, fun t ht => (by rw [hN_h.out] at ht; cases ht), t_below_alloc _ _⟩
  case pos =>
    have hb : t_inB (l.length : Int) 1 400 = true := by simp [t_inB]; omega
    have hw := t_within_any (l.length : Int) 1 400 (w.alloc (.cells #[.int .i64 0, .int .i64 0] tWires))
    rw [hb] at hw
    obtain ⟨W, hW⟩ : ∃ W, W = (w.alloc (.cells #[.int .i64 0, .int .i64 0] tWires)).alloc (.cells #[] tWires) := ⟨_, rfl⟩
    obtain ⟨b0, k0, k1, hz⟩ := two_boxes w (.cells #[.int .i64 0, .int .i64 0] tWires) (.cells #[] tWires)
    have hsl0 := Sl.laid (w.alloc (.cells #[.int .i64 0, .int .i64 0] tWires)) tWires 2 0 #[] (by unfold maxLen; omega) rfl
    simp only [World.size_alloc] at hsl0
    rw [← hW] at b0 k0 k1 hz hsl0
    have hR0 : TyR w.heap.size w l 0 [] (some ⟨w.heap.size + 1, 0, none⟩) 0 W := ⟨by simp [parse], by simpa [wcs] using hsl0, fun b hb => by simp at hb; omega, k0, b0⟩
    obtain ⟨m, hm⟩ : ∃ m, m = l.length := ⟨_, rfl⟩
    rw [← hm] at hw hl ⊢
    have hw_h := Lib.hid hw; have hR0_h := Lib.hid hR0; have hm_h := Lib.hid hm; clear hw hR0 hm; clear hb b0 k0 k1 hz hsl0
    go_enter Tryd.func196, Tryd.ntmps196
    go_wp2_with (fail)
    refine (hw_h.out).mono ?_
    rintro e w' ⟨rfl, rfl⟩
    go_wp2_with (fail)
    rw [← hW]
    clear hW
    go_loopw [6, 22] (fun sv iv wr => ∃ (k : Nat) (st : List Tr) (A1 : Option Addr) (c1 n1 : Nat), k ≤ m ∧ iv = .int .i64 k ∧ sv = .slice A1 n1 c1 ∧ n1 = st.length ∧ n1 ≤ k ∧ TyR w.heap.size w l k st A1 c1 wr) (fun _ iv _ => m - (intOf iv).toNat)
    case atStart => exact ⟨0, [], _, 0, 0, Nat.zero_le _, rfl, rfl, rfl, Nat.le_refl _, hR0_h.out⟩
    case round =>
      obtain ⟨k, st, A1, c1, n1, hk, rfl, rfl, hn1, hnk, hR⟩ := hrel
      clear hR0_h hw_h
      by_cases hlt : k < m
      · have hwl : w.heap.size ≤ wr.heap.size := hR.bel.size
        obtain ⟨ad, κ, v, s, rfl, hn, d0, d1, d2⟩ := (h.below hR.bel).at_ (j := k) (by rw [← hm_h.out]; exact hlt)
        have hkI : (k : Int) < (m : Int) := by omega
        have hR_h := Lib.hid hR; have hn_h := Lib.hid hn; have hn1_h := Lib.hid hn1; clear hR hn hn1; clear h
        by_cases hj : κ = 15 ∨ κ = 16
        · obtain ⟨p0, p, hpp, hp⟩ : ∃ p0 p, p = p0 ∧ κ = kd p0 := by
            rcases hj with h | h
            · exact ⟨false, false, rfl, h⟩
            · exact ⟨true, true, rfl, h⟩
          have e15 : (κ != 15) = p := by rw [hp, hpp]; cases p0 <;> rfl
          have e16 : (κ != 16) = !p := by rw [hp, hpp]; cases p0 <;> rfl
          have hJ : ∀ (ai ao bi bo : Int) (W : World), 0 ≤ ai ∧ ai ≤ 12 → 0 ≤ ao ∧ ao ≤ 12 → 0 ≤ bi ∧ bi ≤ 12 → 0 ≤ bo ∧ bo ≤ 12 →
              Calls Tryd.prog 198 #[.int .i64 κ, .agg #[.int .i64 ai, .int .i64 ao], .agg #[.int .i64 bi, .int .i64 bo]] W (JnA p0 (ai, ao) (bi, bo) W) := by
            rw [hp]; exact joinWires_any p0
          have hx := hR_h.out.box
          have hxl := t_box_lt hx
          obtain ⟨⟨c00, c01⟩, f0, f1⟩ := t_box2 hx
          obtain ⟨s0, s2⟩ := t_set2 (a := .int .i64 0) (b := .int .i64 0) hx
          have s1 := t_box_below s0 (t_below_alloc _ (.cells #[.int .i64 κ, .int .i64 v, .string s] 69))
          have hB2 := below_trans (below_keeps hR_h.out.bel s2 (by omega) (fun k hk => by omega)) (t_below_alloc _ (.cells #[.int .i64 κ, .int .i64 v, .string s] 69)) (Nat.le_trans (by omega) s2.size)
          have hji : isJoin (κ, v, s) := hj
          have hNo := fun hh => parse_none hR_h.out.par hn_h.out (step_none (st := st) hji hh)
          have s1_h := Lib.hid s1; have s2_h := Lib.hid s2; have hB2_h := Lib.hid hB2; have hNo_h := Lib.hid hNo; have hji_h := Lib.hid hji; have hx_h := Lib.hid hx; have hp_h := Lib.hid hp; have hJ_h := Lib.hid hJ; clear s1 s2 hB2 hNo hji hx hp hJ; clear s0 hj hpp
          cases p
          · simp only [Bool.not_false] at e16
            go_wp2_with (fail)
            · have h0 : (n1 : Int) < 2 := ‹_›
              have hv : v = 0 := ‹_›
              subst hv
              have hN := hNo_h.out (.inr (.inr (by rw [← hn1_h.out]; omega)))
              refine bodyPost_ret (t_results_cell_tmp rfl _ _ w.heap.size _ _ (0, 0) _ rfl s1_h.out Tryd.underlying182 rfl (by kernel_rfl)) rfl ?_
              exact TyA.no hN hB2_h.out
            · have hv : v = 0 := ‹_›
              have hs' := name_eq ‹s.toList = []›
              have h2 : 2 ≤ (n1 : Int) := ‹_›
              subst hv hs'
              obtain ⟨q, rfl⟩ : ∃ q, n1 = q + 2 := ⟨n1 - 2, by omega⟩
              obtain ⟨b, a, r, rfl, hq⟩ := two_of hn1_h.out
              rw [show (((q + 2 : Nat) : Int) - 1) = ((q + 1 : Nat) : Int) by omega]
              clear c00 c01 f0 f1
              go_cut [12, 13] (fun s12 s13 wx => ∃ (G : Nat) (c' : Bool), s12 = .pointer (some ⟨G, 0, none⟩) ∧ s13 = .bool c' ∧ c' = joinB p0 (ty a) (ty b) ∧ wx.heap[G]? = some (.cells #[.int .i64 (joinTy p0 (ty a) (ty b)).1, .int .i64 (joinTy p0 (ty a) (ty b)).2] tWires) ∧ wr.heap.size ≤ G ∧ Below wr.heap.size wr wx)
              case first =>
                refine beginB (by kernel_rfl) (fun W1 hW1 => ?_)
                have hb1 : Below wr.heap.size wr W1 := by rw [hW1]; exact below_drew (t_below_alloc _ _)
                have hN : W1.heap[wr.heap.size]? = some (.cells #[.int .i64 κ, .int .i64 0, .string noName] 69) := by rw [hW1]; exact heap_alloc_new wr _
                have hR1 := hR_h.out.below hb1
                obtain ⟨ad1, hA1, hlt1, -⟩ := TyTop hR1.sl hq
                subst hA1
                obtain ⟨hwb, hwa, -⟩ := (parse_spec _ hR1.par trivial).1
                have fa := wt_fit hwa
                have fb := wt_fit hwb
                have hC := fun W => hJ_h.out (ty a).1 (ty a).2 (ty b).1 (ty b).2 W ⟨fa.1, fa.2.1⟩ ⟨fa.2.2.1, fa.2.2.2⟩ ⟨fb.1, fb.2.1⟩ ⟨fb.2.2.1, fb.2.2.2⟩
                clear hW1 s1_h s2_h hB2_h hNo_h hx_h fa fb hwa hwb; have hb1_h := Lib.hid hb1; have hN_h := Lib.hid hN; have hR1_h := Lib.hid hR1; have hq_h := Lib.hid hq; have hC_h := Lib.hid hC; clear hb1 hN hR1 hq hC
                refine takeH 0 (v := ?_) rfl (by kernel_rfl) (by kernel_rfl) (by kernel_rfl) (fun _ _ _ h => h) (Below.refl _ _) (by rfl) (fun W' hW' => ?_) ?_; rotate_left; · (obtain ⟨⟨c0, c1, c2⟩, f0, f1, f2⟩ := t_box3 (t_box_below hN_h.out hW'); obtain ⟨d0, d1, d2, d3⟩ := TyTop2 (hR1_h.out.sl.below hW') hq_h.out; have r0 : IntKind.i64.wrap (q : Int) = (q : Int) := IntWalk.i64_in _ (by omega); have r2 : (0 : Int) ≤ (q : Int) + 1 := (by omega); have r3 : (q : Int) < (q : Int) + 2 := (by omega); have r4 : (q : Int) + 1 < (q : Int) + 2 := (by omega); clear hW'; go_simp; first | done | with_reducible rfl)
                simp only [Act.put, nS1, nS2, nS3]
                refine takeH 1 (v := ?_) rfl (by kernel_rfl) (by kernel_rfl) (by kernel_rfl) (fun _ _ _ h => h) (Below.refl _ _) (by rfl) (fun W' hW' => ?_) ?_; rotate_left; · (obtain ⟨⟨c0, c1, c2⟩, f0, f1, f2⟩ := t_box3 (t_box_below hN_h.out hW'); obtain ⟨d0, d1, d2, d3⟩ := TyTop2 (hR1_h.out.sl.below hW') hq_h.out; have r0 : IntKind.i64.wrap (q : Int) = (q : Int) := IntWalk.i64_in _ (by omega); have r2 : (0 : Int) ≤ (q : Int) + 1 := (by omega); have r3 : (q : Int) < (q : Int) + 2 := (by omega); have r4 : (q : Int) + 1 < (q : Int) + 2 := (by omega); clear hW'; go_simp; first | done | with_reducible rfl)
                simp only [Act.put, nS1, nS2, nS3]
                refine takeH 2 (v := ?_) rfl (by kernel_rfl) (by kernel_rfl) (by kernel_rfl) (fun _ _ _ h => h) (Below.refl _ _) (by rfl) (fun W' hW' => ?_) ?_; rotate_left; · (obtain ⟨⟨c0, c1, c2⟩, f0, f1, f2⟩ := t_box3 (t_box_below hN_h.out hW'); obtain ⟨d0, d1, d2, d3⟩ := TyTop2 (hR1_h.out.sl.below hW') hq_h.out; have r0 : IntKind.i64.wrap (q : Int) = (q : Int) := IntWalk.i64_in _ (by omega); have r2 : (0 : Int) ≤ (q : Int) + 1 := (by omega); have r3 : (q : Int) < (q : Int) + 2 := (by omega); have r4 : (q : Int) + 1 < (q : Int) + 2 := (by omega); clear hW'; go_simp; first | done | with_reducible rfl)
                simp only [Act.put, nS1, nS2, nS3]
                refine takeH 3 (v := ?_) rfl (by kernel_rfl) (by kernel_rfl) (by kernel_rfl) (fun _ _ _ h => h) (Below.refl _ _) (by rfl) (fun W' hW' => ?_) ?_; rotate_left; · (obtain ⟨⟨c0, c1, c2⟩, f0, f1, f2⟩ := t_box3 (t_box_below hN_h.out hW'); obtain ⟨d0, d1, d2, d3⟩ := TyTop2 (hR1_h.out.sl.below hW') hq_h.out; have r0 : IntKind.i64.wrap (q : Int) = (q : Int) := IntWalk.i64_in _ (by omega); have r2 : (0 : Int) ≤ (q : Int) + 1 := (by omega); have r3 : (q : Int) < (q : Int) + 2 := (by omega); have r4 : (q : Int) + 1 < (q : Int) + 2 := (by omega); clear hW'; go_simp; first | done | with_reducible rfl)
                simp only [Act.put, nS1, nS2, nS3]
                refine takeH 4 (v := ?_) rfl (by kernel_rfl) (by kernel_rfl) (by kernel_rfl) (fun _ _ _ h => h) (Below.refl _ _) (by rfl) (fun W' hW' => ?_) ?_; rotate_left; · (obtain ⟨⟨c0, c1, c2⟩, f0, f1, f2⟩ := t_box3 (t_box_below hN_h.out hW'); obtain ⟨d0, d1, d2, d3⟩ := TyTop2 (hR1_h.out.sl.below hW') hq_h.out; have r0 : IntKind.i64.wrap (q : Int) = (q : Int) := IntWalk.i64_in _ (by omega); have r2 : (0 : Int) ≤ (q : Int) + 1 := (by omega); have r3 : (q : Int) < (q : Int) + 2 := (by omega); have r4 : (q : Int) + 1 < (q : Int) + 2 := (by omega); clear hW'; go_simp; first | done | with_reducible rfl)
                simp only [Act.put, nS1, nS2, nS3]
                refine takeH 5 (v := ?_) rfl (by kernel_rfl) (by kernel_rfl) (by kernel_rfl) (fun _ _ _ h => h) (Below.refl _ _) (by rfl) (fun W' hW' => ?_) ?_; rotate_left; · (obtain ⟨⟨c0, c1, c2⟩, f0, f1, f2⟩ := t_box3 (t_box_below hN_h.out hW'); obtain ⟨d0, d1, d2, d3⟩ := TyTop2 (hR1_h.out.sl.below hW') hq_h.out; have r0 : IntKind.i64.wrap (q : Int) = (q : Int) := IntWalk.i64_in _ (by omega); have r2 : (0 : Int) ≤ (q : Int) + 1 := (by omega); have r3 : (q : Int) < (q : Int) + 2 := (by omega); have r4 : (q : Int) + 1 < (q : Int) + 2 := (by omega); clear hW'; go_simp; first | done | with_reducible rfl)
                simp only [Act.put, nS1, nS2, nS3]
                refine takeH 6 (v := ?_) rfl (by kernel_rfl) (by kernel_rfl) (by kernel_rfl) (fun _ _ _ h => h) (Below.refl _ _) (by rfl) (fun W' hW' => ?_) ?_; rotate_left; · (obtain ⟨⟨c0, c1, c2⟩, f0, f1, f2⟩ := t_box3 (t_box_below hN_h.out hW'); obtain ⟨d0, d1, d2, d3⟩ := TyTop2 (hR1_h.out.sl.below hW') hq_h.out; have r0 : IntKind.i64.wrap (q : Int) = (q : Int) := IntWalk.i64_in _ (by omega); have r2 : (0 : Int) ≤ (q : Int) + 1 := (by omega); have r3 : (q : Int) < (q : Int) + 2 := (by omega); have r4 : (q : Int) + 1 < (q : Int) + 2 := (by omega); clear hW'; go_simp; first | done | with_reducible rfl)
                simp only [Act.put, nS1, nS2, nS3]
                refine takeH 7 (v := ?_) rfl (by kernel_rfl) (by kernel_rfl) (by kernel_rfl) (fun _ _ _ h => h) (Below.refl _ _) (by rfl) (fun W' hW' => ?_) ?_; rotate_left; · (obtain ⟨⟨c0, c1, c2⟩, f0, f1, f2⟩ := t_box3 (t_box_below hN_h.out hW'); obtain ⟨d0, d1, d2, d3⟩ := TyTop2 (hR1_h.out.sl.below hW') hq_h.out; have r0 : IntKind.i64.wrap (q : Int) = (q : Int) := IntWalk.i64_in _ (by omega); have r2 : (0 : Int) ≤ (q : Int) + 1 := (by omega); have r3 : (q : Int) < (q : Int) + 2 := (by omega); have r4 : (q : Int) + 1 < (q : Int) + 2 := (by omega); clear hW'; go_simp; first | done | with_reducible rfl)
                simp only [Act.put, nS1, nS2, nS3]
                refine takeH 8 (v := ?_) rfl (by kernel_rfl) (by kernel_rfl) (by kernel_rfl) (fun _ _ _ h => h) (Below.refl _ _) (by rfl) (fun W' hW' => ?_) ?_; rotate_left; · (obtain ⟨⟨c0, c1, c2⟩, f0, f1, f2⟩ := t_box3 (t_box_below hN_h.out hW'); obtain ⟨d0, d1, d2, d3⟩ := TyTop2 (hR1_h.out.sl.below hW') hq_h.out; have r0 : IntKind.i64.wrap (q : Int) = (q : Int) := IntWalk.i64_in _ (by omega); have r2 : (0 : Int) ≤ (q : Int) + 1 := (by omega); have r3 : (q : Int) < (q : Int) + 2 := (by omega); have r4 : (q : Int) + 1 < (q : Int) + 2 := (by omega); clear hW'; go_simp; first | done | with_reducible rfl)
                simp only [Act.put, nS1, nS2, nS3]
                refine takeH 9 (v := ?_) rfl (by kernel_rfl) (by kernel_rfl) (by kernel_rfl) (fun _ _ _ h => h) (Below.refl _ _) (by rfl) (fun W' hW' => ?_) ?_; rotate_left; · (obtain ⟨⟨c0, c1, c2⟩, f0, f1, f2⟩ := t_box3 (t_box_below hN_h.out hW'); obtain ⟨d0, d1, d2, d3⟩ := TyTop2 (hR1_h.out.sl.below hW') hq_h.out; have r0 : IntKind.i64.wrap (q : Int) = (q : Int) := IntWalk.i64_in _ (by omega); have r2 : (0 : Int) ≤ (q : Int) + 1 := (by omega); have r3 : (q : Int) < (q : Int) + 2 := (by omega); have r4 : (q : Int) + 1 < (q : Int) + 2 := (by omega); clear hW'; go_simp; first | done | with_reducible rfl)
                simp only [Act.put, nS1, nS2, nS3]
                refine takeH 10 (v := ?_) rfl (by kernel_rfl) (by kernel_rfl) (by kernel_rfl) (fun _ _ _ h => h) (Below.refl _ _) (by rfl) (fun W' hW' => ?_) ?_; rotate_left; · (obtain ⟨⟨c0, c1, c2⟩, f0, f1, f2⟩ := t_box3 (t_box_below hN_h.out hW'); obtain ⟨d0, d1, d2, d3⟩ := TyTop2 (hR1_h.out.sl.below hW') hq_h.out; have r0 : IntKind.i64.wrap (q : Int) = (q : Int) := IntWalk.i64_in _ (by omega); have r2 : (0 : Int) ≤ (q : Int) + 1 := (by omega); have r3 : (q : Int) < (q : Int) + 2 := (by omega); have r4 : (q : Int) + 1 < (q : Int) + 2 := (by omega); clear hW'; go_simp; first | done | with_reducible rfl)
                simp only [Act.put, nS1, nS2, nS3]
                refine callOrH 11 15 (f := ?f1) (args := ?args1) (vj := ?vj1) (wj := ?wj1) rfl rfl (by kernel_rfl) (by rfl) (by rfl) ?hrun1 ?hrunj1 ?h11 ?hSj1 ?h21
                case hrun1 => (go_simp; first | done | with_reducible rfl | (constructor <;> with_reducible rfl))
                case hrunj1 => (go_simp; first | done | with_reducible rfl | (constructor <;> with_reducible rfl))
                case hSj1 => exact ((t_below_alloc _ _))
                case h11 =>
                  refine (hC_h.out W1).mono ?_
                  rintro e w2 ⟨c', rfl, hc', hb2⟩
                  have hbx := hb1_h.out.trans (hb2.mono hb1_h.out.size)
                  have hkx := heap_alloc_new w2 (.cells #[.int .i64 (joinTy p0 (ty a) (ty b)).1, .int .i64 (joinTy p0 (ty a) (ty b)).2] tWires)
                  have hb3 := hbx.trans ((t_below_alloc w2 (.cells #[.int .i64 (joinTy p0 (ty a) (ty b)).1, .int .i64 (joinTy p0 (ty a) (ty b)).2] tWires)).mono hbx.size)
                  refine ⟨_, rfl, hb2, ?_⟩
                  have hc'_h := Lib.hid hc'; have hbx_h := Lib.hid hbx; have hkx_h := Lib.hid hkx; have hb3_h := Lib.hid hb3; clear hc' hbx hkx hb3
                  simp only [Act.put, nS1, nS2, nS3]
                  refine takeH 12 (v := ?_) rfl (by kernel_rfl) (by kernel_rfl) (by kernel_rfl) (fun _ _ _ h => h) hb2 (by rfl) (fun W' hW' => ?_) ?_; rotate_left; · (skip; clear hW'; go_simp; first | done | with_reducible rfl)
                  simp only [Act.put, nS1, nS2, nS3]
                  refine takeH 13 (v := ?_) rfl (by kernel_rfl) (by kernel_rfl) (by kernel_rfl) (fun _ _ _ h => h) hb2 (by rfl) (fun W' hW' => ?_) ?_; rotate_left; · (skip; clear hW'; go_simp; first | done | with_reducible rfl)
                  simp only [Act.put, nS1, nS2, nS3]
                  refine takeH 14 (v := ?_) rfl (by kernel_rfl) (by kernel_rfl) (by kernel_rfl) (fun _ _ _ h => h) hb2 (by rfl) (fun W' hW' => ?_) ?_; rotate_left; · (skip; clear hW'; go_simp; first | done | with_reducible rfl)
                  simp only [Act.put, nS1, nS2, nS3]
                  refine oneH 15 rfl (by kernel_rfl) (by rfl) (fun K hK => ?_)
                  go_simp
                  refine hK _ _ (hb2.trans ((t_below_alloc _ _).mono hb2.size)) ?_
                  clear hK K
                  refine oneH 16 rfl (by kernel_rfl) (by rfl) (fun K hK => ?_)
                  go_simp
                  refine hK _ _ (hb2.trans ((t_below_alloc _ _).mono hb2.size)) ?_
                  clear hK K
                  refine takeH 17 (v := ?_) rfl (by kernel_rfl) (by kernel_rfl) (by kernel_rfl) (fun _ _ _ h => h) (hb2.trans ((t_below_alloc _ _).mono hb2.size)) (by rfl) (fun W' hW' => ?_) ?_; rotate_left; · (skip; clear hW'; go_simp; first | done | with_reducible rfl)
                  simp only [Act.put, nS1, nS2, nS3]
                  refine doneH (by kernel_rfl) ?_
                  go_wp2_with (fail)
                  go_meet
                  exact ⟨_, c', rfl, rfl, hc'_h.out, hkx_h.out, hbx_h.out.size, hb3_h.out⟩
                case h21 =>
                  refine' callH 11 (f := _) (args := _) rfl (by kernel_rfl) (by rfl) ?_ ?_; rotate_left 2; · (go_simp; first | done | with_reducible rfl | (constructor <;> with_reducible rfl))
                  refine (hC_h.out _).mono ?_
                  rintro e w2 ⟨c', rfl, hc', hb2⟩
                  have hbs : Below W1.heap.size W1 w2 := (t_below_alloc W1 (.cells #[.int .i64 0, .int .i64 0] tWires)).trans (hb2.mono (by simp))
                  have hk := t_box_below (heap_alloc_new W1 (.cells #[.int .i64 0, .int .i64 0] tWires)) hb2
                  obtain ⟨s1, s2⟩ := t_set2 (a := .int .i64 (joinTy p0 (ty a) (ty b)).1) (b := .int .i64 (joinTy p0 (ty a) (ty b)).2) hk
                  have hbt := below_keeps hbs s2 hbs.size (fun k hk => by omega)
                  have hb3 := hb1_h.out.trans (hbt.mono hb1_h.out.size)
                  obtain ⟨⟨c0, c1⟩, f0, f1⟩ := t_box2 hk
                  refine ⟨_, rfl, hbs, ?_⟩
                  have hc'_h := Lib.hid hc'; have hbs_h := Lib.hid hbs; have hk_h := Lib.hid hk; have s1_h := Lib.hid s1; have s2_h := Lib.hid s2; have hbt_h := Lib.hid hbt; have hb3_h := Lib.hid hb3; have hb2_h := Lib.hid hb2; clear hc' hbs hk s1 s2 hbt hb3 hb2
                  simp only [Act.put, nS1, nS2, nS3]
                  refine takeH 12 (v := ?_) rfl (by kernel_rfl) (by kernel_rfl) (by kernel_rfl) (fun _ _ _ h => h) hbs_h.out (by rfl) (fun W' hW' => ?_) ?_; rotate_left; · (skip; clear hW'; go_simp; first | done | with_reducible rfl)
                  simp only [Act.put, nS1, nS2, nS3]
                  refine takeH 13 (v := ?_) rfl (by kernel_rfl) (by kernel_rfl) (by kernel_rfl) (fun _ _ _ h => h) hbs_h.out (by rfl) (fun W' hW' => ?_) ?_; rotate_left; · (skip; clear hW'; go_simp; first | done | with_reducible rfl)
                  simp only [Act.put, nS1, nS2, nS3]
                  refine takeH 14 (v := ?_) rfl (by kernel_rfl) (by kernel_rfl) (by kernel_rfl) (fun _ _ _ h => h) hbs_h.out (by rfl) (fun W' hW' => ?_) ?_; rotate_left; · (skip; clear hW'; go_simp; first | done | with_reducible rfl)
                  simp only [Act.put, nS1, nS2, nS3]
                  refine oneH 16 rfl (by kernel_rfl) (by rfl) (fun K hK => ?_)
                  go_simp
                  refine hK _ _ hbt_h.out ?_
                  clear hK K
                  refine takeH 17 (v := ?_) rfl (by kernel_rfl) (by kernel_rfl) (by kernel_rfl) (fun _ _ _ h => h) hbt_h.out (by rfl) (fun W' hW' => ?_) ?_; rotate_left; · (skip; clear hW'; go_simp; first | done | with_reducible rfl)
                  simp only [Act.put, nS1, nS2, nS3]
                  refine doneH (by kernel_rfl) ?_
                  go_wp2_with (fail)
                  go_meet
                  exact ⟨_, c', rfl, rfl, hc'_h.out, s1_h.out, hb1_h.out.size, hb3_h.out⟩
              case rest =>
                obtain ⟨G, c', rfl, rfl, hc', hG, hGz, hbc⟩ := hcut
                have hR2 := hR_h.out.below hbc
                obtain ⟨ad1, hA1, hlt1, -⟩ := TyTop hR_h.out.sl hq
                subst hA1
                have hjn : (κ, (0 : Int), noName) = joinNd p0 := by rw [hp_h.out]; rfl
                clear s1_h s2_h hB2_h hx_h hlt1
                cases c'
                · have hN := parse_none hR2.par hn_h.out (by rw [hjn, step_join, ← hc']; rfl)
                  have hx := hR2.box
                  have hxl := t_box_lt hx
                  obtain ⟨⟨c00, c01⟩, f0, f1⟩ := t_box2 hx
                  obtain ⟨s1, s2⟩ := t_set2 (a := .int .i64 0) (b := .int .i64 0) hx
                  have hB2 := below_keeps hR2.bel s2 (by omega) (fun k hk => by omega)
                  have hN_h := Lib.hid hN; have s1_h := Lib.hid s1; have s2_h := Lib.hid s2; have hB2_h := Lib.hid hB2; have hx_h := Lib.hid hx; have hR2_h := Lib.hid hR2; have hc'_h := Lib.hid hc'; have hG_h := Lib.hid hG; have hbc_h := Lib.hid hbc; have hjn_h := Lib.hid hjn; have hq_h := Lib.hid hq; clear hN s1 s2 hB2 hx hR2 hc' hG hbc hjn hq
                  go_wp2_with (fail)
                  refine bodyPost_ret (t_results_cell_tmp rfl _ _ w.heap.size _ _ (0, 0) _ rfl s1_h.out Tryd.underlying182 rfl (by kernel_rfl)) rfl ?_
                  exact TyA.no hN_h.out hB2_h.out
                · have hpm := parse_more hR2.par hn_h.out (by rw [hjn, step_join, ← hc']; rfl)
                  have hGne : ∀ b, b ∈ fpA (some ad1) → ¬ b = G := fun b hb e => by have := hR_h.out.sl.lt b hb; omega
                  have hR2_h := Lib.hid hR2; have hc'_h := Lib.hid hc'; have hbc_h := Lib.hid hbc; have hjn_h := Lib.hid hjn; have hq_h := Lib.hid hq; have hpm_h := Lib.hid hpm; have hG_h := Lib.hid hG; have hGne_h := Lib.hid hGne; clear hR2 hc' hbc hjn hq hpm hG hGne
                  go_wp2_with (fail)
                  refine beginH (fun w' => w'.heap[G]? = some (.cells #[.int .i64 (joinTy p0 (ty a) (ty b)).1, .int .i64 (joinTy p0 (ty a) (ty b)).2] tWires)) (by kernel_rfl) ?_
                  have hGd : wc.drew.heap[G]? = some (.cells #[.int .i64 (joinTy p0 (ty a) (ty b)).1, .int .i64 (joinTy p0 (ty a) (ty b)).2] tWires) := hG_h.out
                  have hR3 : TyR w.heap.size w l k (b :: a :: r) (some ad1) c1 wc.drew := hR2_h.out.below (below_drew (Below.refl _ _))
                  generalize wc.drew = W1 at hGd hR3 ⊢
                  have hW2 := t_below_alloc W1 (.cells #[.int .i64 (joinTy p0 (ty a) (ty b)).1, .int .i64 (joinTy p0 (ty a) (ty b)).2] tWires)
                  have hG2 := t_box_below hGd hW2
                  have hR4 := hR3.below hW2
                  have hSL : Sl (W1.alloc (.cells #[.int .i64 (joinTy p0 (ty a) (ty b)).1, .int .i64 (joinTy p0 (ty a) (ty b)).2] tWires)) tWires 2 (some ad1) q c1 (wcs r) := by
                    have := Sl.take hR4.sl (k := q) (by have := hq_h.out; simp only [List.length_cons]; omega)
                    rwa [wcs_take a b r hq_h.out] at this
                  have hcq : q + 2 ≤ c1 := by have := hR4.sl.2.1; have h2 := hq_h.out; simp only [List.length_cons] at this; omega
                  have hGd_h := Lib.hid hGd; have hR3_h := Lib.hid hR3; have hG2_h := Lib.hid hG2; have hR4_h := Lib.hid hR4; have hSL_h := Lib.hid hSL; have hW2_h := Lib.hid hW2; clear hGd hR3 hG2 hR4 hSL hW2
                  refine takeH 0 (v := ?_) rfl (by kernel_rfl) (by kernel_rfl) (by kernel_rfl) (fun _ _ _ h => h) hGd_h.out (by rfl) (fun W' hW' => ?_) ?_; rotate_left; · (obtain ⟨⟨d0, d1⟩, e0, e1⟩ := t_box2 hW'; have r0 : IntKind.i64.wrap (q : Int) = (q : Int) := IntWalk.i64_in _ (by omega); have r2 : (0 : Int) ≤ (q : Int) := (by omega); have r3 : (q : Int) ≤ (q : Int) + 2 := (by omega); have r4 : q ≤ c1 := (by omega); clear hW'; go_simp; first | done | with_reducible rfl)
                  simp only [Act.put, nS1, nS2, nS3]
                  refine takeH 1 (v := ?_) rfl (by kernel_rfl) (by kernel_rfl) (by kernel_rfl) (fun _ _ _ h => h) hGd_h.out (by rfl) (fun W' hW' => ?_) ?_; rotate_left; · (obtain ⟨⟨d0, d1⟩, e0, e1⟩ := t_box2 hW'; have r0 : IntKind.i64.wrap (q : Int) = (q : Int) := IntWalk.i64_in _ (by omega); have r2 : (0 : Int) ≤ (q : Int) := (by omega); have r3 : (q : Int) ≤ (q : Int) + 2 := (by omega); have r4 : q ≤ c1 := (by omega); clear hW'; go_simp; first | done | with_reducible rfl)
                  simp only [Act.put, nS1, nS2, nS3]
                  refine takeH 2 (v := ?_) rfl (by kernel_rfl) (by kernel_rfl) (by kernel_rfl) (fun _ _ _ h => h) hGd_h.out (by rfl) (fun W' hW' => ?_) ?_; rotate_left; · (obtain ⟨⟨d0, d1⟩, e0, e1⟩ := t_box2 hW'; have r0 : IntKind.i64.wrap (q : Int) = (q : Int) := IntWalk.i64_in _ (by omega); have r2 : (0 : Int) ≤ (q : Int) := (by omega); have r3 : (q : Int) ≤ (q : Int) + 2 := (by omega); have r4 : q ≤ c1 := (by omega); clear hW'; go_simp; first | done | with_reducible rfl)
                  simp only [Act.put, nS1, nS2, nS3]
                  refine takeH 3 (v := ?_) rfl (by kernel_rfl) (by kernel_rfl) (by kernel_rfl) (fun _ _ _ h => h) hGd_h.out (by rfl) (fun W' hW' => ?_) ?_; rotate_left; · (obtain ⟨⟨d0, d1⟩, e0, e1⟩ := t_box2 hW'; have r0 : IntKind.i64.wrap (q : Int) = (q : Int) := IntWalk.i64_in _ (by omega); have r2 : (0 : Int) ≤ (q : Int) := (by omega); have r3 : (q : Int) ≤ (q : Int) + 2 := (by omega); have r4 : q ≤ c1 := (by omega); clear hW'; go_simp; first | done | with_reducible rfl)
                  simp only [Act.put, nS1, nS2, nS3]
                  refine takeH 4 (v := ?_) rfl (by kernel_rfl) (by kernel_rfl) (by kernel_rfl) (fun _ _ _ h => h) hGd_h.out (by rfl) (fun W' hW' => ?_) ?_; rotate_left; · (obtain ⟨⟨d0, d1⟩, e0, e1⟩ := t_box2 hW'; have r0 : IntKind.i64.wrap (q : Int) = (q : Int) := IntWalk.i64_in _ (by omega); have r2 : (0 : Int) ≤ (q : Int) := (by omega); have r3 : (q : Int) ≤ (q : Int) + 2 := (by omega); have r4 : q ≤ c1 := (by omega); clear hW'; go_simp; first | done | with_reducible rfl)
                  simp only [Act.put, nS1, nS2, nS3]
                  refine oneH 5 rfl (by kernel_rfl) (by rfl) (fun K hK => ?_)
                  go_simp
                  refine hK _ _ hG2_h.out ?_
                  clear hK K
                  refine appH 6 rfl (by kernel_rfl) (by rfl) _ _ _ rfl tWires Tryd.underlying215 info_wires rfl (by omega) rfl hSL_h.out rfl (m := 1) rfl (Sl.rdc (Sl.laid W1 tWires 2 1 #[.int .i64 (joinTy p0 (ty a) (ty b)).1, .int .i64 (joinTy p0 (ty a) (ty b)).2] (by unfold maxLen; omega) rfl)) (by simp [Value.oneCell']) (by unfold maxLen; omega) (by omega) ?_
                  intro A2 c2 w2 hs2 hA2 hk2
                  have hG3 := t_box_keeps hG2_h.out hk2 (fun h => hGne_h.out _ h rfl)
                  refine ⟨hG3, ?_⟩
                  simp only [Act.put, nS1, nS2, nS3]
                  refine takeH 7 (v := ?_) rfl (by kernel_rfl) (by kernel_rfl) (by kernel_rfl) (fun _ _ _ h => h) hG3 (by rfl) (fun W' hW' => ?_) ?_; rotate_left; · (skip; clear hW'; go_simp; first | done | with_reducible rfl)
                  simp only [Act.put, nS1, nS2, nS3]
                  refine doneH (by kernel_rfl) ?_
                  go_wp2_with (fail)
                  go_roundw
                  case rel => exact ⟨k + 1, .node p0 a b :: r, A2, c2, q + 1, by omega, by go_num, rfl, by simp [hq_h.out], by omega, TyR.push hR4_h.out.bel hR4_h.out.box hR4_h.out.fr hpm_h.out hq_h.out.symm rfl hs2 hA2 hk2⟩
                  case measure => simp [intOf]; omega
            · have h0 := name_ne ‹_›
              have hv : v = 0 := ‹_›
              subst hv
              have hN := hNo_h.out (.inr (.inl h0))
              refine bodyPost_ret (t_results_cell_tmp rfl _ _ w.heap.size _ _ (0, 0) _ rfl s1_h.out Tryd.underlying182 rfl (by kernel_rfl)) rfl ?_
              exact TyA.no hN hB2_h.out
            · have h0 : v ≠ 0 := ‹_›
              have hN := hNo_h.out (.inl h0)
              refine bodyPost_ret (t_results_cell_tmp rfl _ _ w.heap.size _ _ (0, 0) _ rfl s1_h.out Tryd.underlying182 rfl (by kernel_rfl)) rfl ?_
              exact TyA.no hN hB2_h.out
          · simp only [Bool.not_true] at e16
            go_wp2_with (fail)
            · have h0 : (n1 : Int) < 2 := ‹_›
              have hv : v = 0 := ‹_›
              subst hv
              have hN := hNo_h.out (.inr (.inr (by rw [← hn1_h.out]; omega)))
              refine bodyPost_ret (t_results_cell_tmp rfl _ _ w.heap.size _ _ (0, 0) _ rfl s1_h.out Tryd.underlying182 rfl (by kernel_rfl)) rfl ?_
              exact TyA.no hN hB2_h.out
            · have hv : v = 0 := ‹_›
              have hs' := name_eq ‹s.toList = []›
              have h2 : 2 ≤ (n1 : Int) := ‹_›
              subst hv hs'
              obtain ⟨q, rfl⟩ : ∃ q, n1 = q + 2 := ⟨n1 - 2, by omega⟩
              obtain ⟨b, a, r, rfl, hq⟩ := two_of hn1_h.out
              rw [show (((q + 2 : Nat) : Int) - 1) = ((q + 1 : Nat) : Int) by omega]
              clear c00 c01 f0 f1
              go_cut [12, 13] (fun s12 s13 wx => ∃ (G : Nat) (c' : Bool), s12 = .pointer (some ⟨G, 0, none⟩) ∧ s13 = .bool c' ∧ c' = joinB p0 (ty a) (ty b) ∧ wx.heap[G]? = some (.cells #[.int .i64 (joinTy p0 (ty a) (ty b)).1, .int .i64 (joinTy p0 (ty a) (ty b)).2] tWires) ∧ wr.heap.size ≤ G ∧ Below wr.heap.size wr wx)
              case first =>
                refine beginB (by kernel_rfl) (fun W1 hW1 => ?_)
                have hb1 : Below wr.heap.size wr W1 := by rw [hW1]; exact below_drew (t_below_alloc _ _)
                have hN : W1.heap[wr.heap.size]? = some (.cells #[.int .i64 κ, .int .i64 0, .string noName] 69) := by rw [hW1]; exact heap_alloc_new wr _
                have hR1 := hR_h.out.below hb1
                obtain ⟨ad1, hA1, hlt1, -⟩ := TyTop hR1.sl hq
                subst hA1
                obtain ⟨hwb, hwa, -⟩ := (parse_spec _ hR1.par trivial).1
                have fa := wt_fit hwa
                have fb := wt_fit hwb
                have hC := fun W => hJ_h.out (ty a).1 (ty a).2 (ty b).1 (ty b).2 W ⟨fa.1, fa.2.1⟩ ⟨fa.2.2.1, fa.2.2.2⟩ ⟨fb.1, fb.2.1⟩ ⟨fb.2.2.1, fb.2.2.2⟩
                clear hW1 s1_h s2_h hB2_h hNo_h hx_h fa fb hwa hwb; have hb1_h := Lib.hid hb1; have hN_h := Lib.hid hN; have hR1_h := Lib.hid hR1; have hq_h := Lib.hid hq; have hC_h := Lib.hid hC; clear hb1 hN hR1 hq hC
                refine takeH 0 (v := ?_) rfl (by kernel_rfl) (by kernel_rfl) (by kernel_rfl) (fun _ _ _ h => h) (Below.refl _ _) (by rfl) (fun W' hW' => ?_) ?_; rotate_left; · (obtain ⟨⟨c0, c1, c2⟩, f0, f1, f2⟩ := t_box3 (t_box_below hN_h.out hW'); obtain ⟨d0, d1, d2, d3⟩ := TyTop2 (hR1_h.out.sl.below hW') hq_h.out; have r0 : IntKind.i64.wrap (q : Int) = (q : Int) := IntWalk.i64_in _ (by omega); have r2 : (0 : Int) ≤ (q : Int) + 1 := (by omega); have r3 : (q : Int) < (q : Int) + 2 := (by omega); have r4 : (q : Int) + 1 < (q : Int) + 2 := (by omega); clear hW'; go_simp; first | done | with_reducible rfl)
                simp only [Act.put, nS1, nS2, nS3]
                refine takeH 1 (v := ?_) rfl (by kernel_rfl) (by kernel_rfl) (by kernel_rfl) (fun _ _ _ h => h) (Below.refl _ _) (by rfl) (fun W' hW' => ?_) ?_; rotate_left; · (obtain ⟨⟨c0, c1, c2⟩, f0, f1, f2⟩ := t_box3 (t_box_below hN_h.out hW'); obtain ⟨d0, d1, d2, d3⟩ := TyTop2 (hR1_h.out.sl.below hW') hq_h.out; have r0 : IntKind.i64.wrap (q : Int) = (q : Int) := IntWalk.i64_in _ (by omega); have r2 : (0 : Int) ≤ (q : Int) + 1 := (by omega); have r3 : (q : Int) < (q : Int) + 2 := (by omega); have r4 : (q : Int) + 1 < (q : Int) + 2 := (by omega); clear hW'; go_simp; first | done | with_reducible rfl)
                simp only [Act.put, nS1, nS2, nS3]
                refine takeH 2 (v := ?_) rfl (by kernel_rfl) (by kernel_rfl) (by kernel_rfl) (fun _ _ _ h => h) (Below.refl _ _) (by rfl) (fun W' hW' => ?_) ?_; rotate_left; · (obtain ⟨⟨c0, c1, c2⟩, f0, f1, f2⟩ := t_box3 (t_box_below hN_h.out hW'); obtain ⟨d0, d1, d2, d3⟩ := TyTop2 (hR1_h.out.sl.below hW') hq_h.out; have r0 : IntKind.i64.wrap (q : Int) = (q : Int) := IntWalk.i64_in _ (by omega); have r2 : (0 : Int) ≤ (q : Int) + 1 := (by omega); have r3 : (q : Int) < (q : Int) + 2 := (by omega); have r4 : (q : Int) + 1 < (q : Int) + 2 := (by omega); clear hW'; go_simp; first | done | with_reducible rfl)
                simp only [Act.put, nS1, nS2, nS3]
                refine takeH 3 (v := ?_) rfl (by kernel_rfl) (by kernel_rfl) (by kernel_rfl) (fun _ _ _ h => h) (Below.refl _ _) (by rfl) (fun W' hW' => ?_) ?_; rotate_left; · (obtain ⟨⟨c0, c1, c2⟩, f0, f1, f2⟩ := t_box3 (t_box_below hN_h.out hW'); obtain ⟨d0, d1, d2, d3⟩ := TyTop2 (hR1_h.out.sl.below hW') hq_h.out; have r0 : IntKind.i64.wrap (q : Int) = (q : Int) := IntWalk.i64_in _ (by omega); have r2 : (0 : Int) ≤ (q : Int) + 1 := (by omega); have r3 : (q : Int) < (q : Int) + 2 := (by omega); have r4 : (q : Int) + 1 < (q : Int) + 2 := (by omega); clear hW'; go_simp; first | done | with_reducible rfl)
                simp only [Act.put, nS1, nS2, nS3]
                refine takeH 4 (v := ?_) rfl (by kernel_rfl) (by kernel_rfl) (by kernel_rfl) (fun _ _ _ h => h) (Below.refl _ _) (by rfl) (fun W' hW' => ?_) ?_; rotate_left; · (obtain ⟨⟨c0, c1, c2⟩, f0, f1, f2⟩ := t_box3 (t_box_below hN_h.out hW'); obtain ⟨d0, d1, d2, d3⟩ := TyTop2 (hR1_h.out.sl.below hW') hq_h.out; have r0 : IntKind.i64.wrap (q : Int) = (q : Int) := IntWalk.i64_in _ (by omega); have r2 : (0 : Int) ≤ (q : Int) + 1 := (by omega); have r3 : (q : Int) < (q : Int) + 2 := (by omega); have r4 : (q : Int) + 1 < (q : Int) + 2 := (by omega); clear hW'; go_simp; first | done | with_reducible rfl)
                simp only [Act.put, nS1, nS2, nS3]
                refine takeH 5 (v := ?_) rfl (by kernel_rfl) (by kernel_rfl) (by kernel_rfl) (fun _ _ _ h => h) (Below.refl _ _) (by rfl) (fun W' hW' => ?_) ?_; rotate_left; · (obtain ⟨⟨c0, c1, c2⟩, f0, f1, f2⟩ := t_box3 (t_box_below hN_h.out hW'); obtain ⟨d0, d1, d2, d3⟩ := TyTop2 (hR1_h.out.sl.below hW') hq_h.out; have r0 : IntKind.i64.wrap (q : Int) = (q : Int) := IntWalk.i64_in _ (by omega); have r2 : (0 : Int) ≤ (q : Int) + 1 := (by omega); have r3 : (q : Int) < (q : Int) + 2 := (by omega); have r4 : (q : Int) + 1 < (q : Int) + 2 := (by omega); clear hW'; go_simp; first | done | with_reducible rfl)
                simp only [Act.put, nS1, nS2, nS3]
                refine takeH 6 (v := ?_) rfl (by kernel_rfl) (by kernel_rfl) (by kernel_rfl) (fun _ _ _ h => h) (Below.refl _ _) (by rfl) (fun W' hW' => ?_) ?_; rotate_left; · (obtain ⟨⟨c0, c1, c2⟩, f0, f1, f2⟩ := t_box3 (t_box_below hN_h.out hW'); obtain ⟨d0, d1, d2, d3⟩ := TyTop2 (hR1_h.out.sl.below hW') hq_h.out; have r0 : IntKind.i64.wrap (q : Int) = (q : Int) := IntWalk.i64_in _ (by omega); have r2 : (0 : Int) ≤ (q : Int) + 1 := (by omega); have r3 : (q : Int) < (q : Int) + 2 := (by omega); have r4 : (q : Int) + 1 < (q : Int) + 2 := (by omega); clear hW'; go_simp; first | done | with_reducible rfl)
                simp only [Act.put, nS1, nS2, nS3]
                refine takeH 7 (v := ?_) rfl (by kernel_rfl) (by kernel_rfl) (by kernel_rfl) (fun _ _ _ h => h) (Below.refl _ _) (by rfl) (fun W' hW' => ?_) ?_; rotate_left; · (obtain ⟨⟨c0, c1, c2⟩, f0, f1, f2⟩ := t_box3 (t_box_below hN_h.out hW'); obtain ⟨d0, d1, d2, d3⟩ := TyTop2 (hR1_h.out.sl.below hW') hq_h.out; have r0 : IntKind.i64.wrap (q : Int) = (q : Int) := IntWalk.i64_in _ (by omega); have r2 : (0 : Int) ≤ (q : Int) + 1 := (by omega); have r3 : (q : Int) < (q : Int) + 2 := (by omega); have r4 : (q : Int) + 1 < (q : Int) + 2 := (by omega); clear hW'; go_simp; first | done | with_reducible rfl)
                simp only [Act.put, nS1, nS2, nS3]
                refine takeH 8 (v := ?_) rfl (by kernel_rfl) (by kernel_rfl) (by kernel_rfl) (fun _ _ _ h => h) (Below.refl _ _) (by rfl) (fun W' hW' => ?_) ?_; rotate_left; · (obtain ⟨⟨c0, c1, c2⟩, f0, f1, f2⟩ := t_box3 (t_box_below hN_h.out hW'); obtain ⟨d0, d1, d2, d3⟩ := TyTop2 (hR1_h.out.sl.below hW') hq_h.out; have r0 : IntKind.i64.wrap (q : Int) = (q : Int) := IntWalk.i64_in _ (by omega); have r2 : (0 : Int) ≤ (q : Int) + 1 := (by omega); have r3 : (q : Int) < (q : Int) + 2 := (by omega); have r4 : (q : Int) + 1 < (q : Int) + 2 := (by omega); clear hW'; go_simp; first | done | with_reducible rfl)
                simp only [Act.put, nS1, nS2, nS3]
                refine takeH 9 (v := ?_) rfl (by kernel_rfl) (by kernel_rfl) (by kernel_rfl) (fun _ _ _ h => h) (Below.refl _ _) (by rfl) (fun W' hW' => ?_) ?_; rotate_left; · (obtain ⟨⟨c0, c1, c2⟩, f0, f1, f2⟩ := t_box3 (t_box_below hN_h.out hW'); obtain ⟨d0, d1, d2, d3⟩ := TyTop2 (hR1_h.out.sl.below hW') hq_h.out; have r0 : IntKind.i64.wrap (q : Int) = (q : Int) := IntWalk.i64_in _ (by omega); have r2 : (0 : Int) ≤ (q : Int) + 1 := (by omega); have r3 : (q : Int) < (q : Int) + 2 := (by omega); have r4 : (q : Int) + 1 < (q : Int) + 2 := (by omega); clear hW'; go_simp; first | done | with_reducible rfl)
                simp only [Act.put, nS1, nS2, nS3]
                refine takeH 10 (v := ?_) rfl (by kernel_rfl) (by kernel_rfl) (by kernel_rfl) (fun _ _ _ h => h) (Below.refl _ _) (by rfl) (fun W' hW' => ?_) ?_; rotate_left; · (obtain ⟨⟨c0, c1, c2⟩, f0, f1, f2⟩ := t_box3 (t_box_below hN_h.out hW'); obtain ⟨d0, d1, d2, d3⟩ := TyTop2 (hR1_h.out.sl.below hW') hq_h.out; have r0 : IntKind.i64.wrap (q : Int) = (q : Int) := IntWalk.i64_in _ (by omega); have r2 : (0 : Int) ≤ (q : Int) + 1 := (by omega); have r3 : (q : Int) < (q : Int) + 2 := (by omega); have r4 : (q : Int) + 1 < (q : Int) + 2 := (by omega); clear hW'; go_simp; first | done | with_reducible rfl)
                simp only [Act.put, nS1, nS2, nS3]
                refine callOrH 11 15 (f := ?f2) (args := ?args2) (vj := ?vj2) (wj := ?wj2) rfl rfl (by kernel_rfl) (by rfl) (by rfl) ?hrun2 ?hrunj2 ?h12 ?hSj2 ?h22
                case hrun2 => (go_simp; first | done | with_reducible rfl | (constructor <;> with_reducible rfl))
                case hrunj2 => (go_simp; first | done | with_reducible rfl | (constructor <;> with_reducible rfl))
                case hSj2 => exact ((t_below_alloc _ _))
                case h12 =>
                  refine (hC_h.out W1).mono ?_
                  rintro e w2 ⟨c', rfl, hc', hb2⟩
                  have hbx := hb1_h.out.trans (hb2.mono hb1_h.out.size)
                  have hkx := heap_alloc_new w2 (.cells #[.int .i64 (joinTy p0 (ty a) (ty b)).1, .int .i64 (joinTy p0 (ty a) (ty b)).2] tWires)
                  have hb3 := hbx.trans ((t_below_alloc w2 (.cells #[.int .i64 (joinTy p0 (ty a) (ty b)).1, .int .i64 (joinTy p0 (ty a) (ty b)).2] tWires)).mono hbx.size)
                  refine ⟨_, rfl, hb2, ?_⟩
                  have hc'_h := Lib.hid hc'; have hbx_h := Lib.hid hbx; have hkx_h := Lib.hid hkx; have hb3_h := Lib.hid hb3; clear hc' hbx hkx hb3
                  simp only [Act.put, nS1, nS2, nS3]
                  refine takeH 12 (v := ?_) rfl (by kernel_rfl) (by kernel_rfl) (by kernel_rfl) (fun _ _ _ h => h) hb2 (by rfl) (fun W' hW' => ?_) ?_; rotate_left; · (skip; clear hW'; go_simp; first | done | with_reducible rfl)
                  simp only [Act.put, nS1, nS2, nS3]
                  refine takeH 13 (v := ?_) rfl (by kernel_rfl) (by kernel_rfl) (by kernel_rfl) (fun _ _ _ h => h) hb2 (by rfl) (fun W' hW' => ?_) ?_; rotate_left; · (skip; clear hW'; go_simp; first | done | with_reducible rfl)
                  simp only [Act.put, nS1, nS2, nS3]
                  refine takeH 14 (v := ?_) rfl (by kernel_rfl) (by kernel_rfl) (by kernel_rfl) (fun _ _ _ h => h) hb2 (by rfl) (fun W' hW' => ?_) ?_; rotate_left; · (skip; clear hW'; go_simp; first | done | with_reducible rfl)
                  simp only [Act.put, nS1, nS2, nS3]
                  refine oneH 15 rfl (by kernel_rfl) (by rfl) (fun K hK => ?_)
                  go_simp
                  refine hK _ _ (hb2.trans ((t_below_alloc _ _).mono hb2.size)) ?_
                  clear hK K
                  refine oneH 16 rfl (by kernel_rfl) (by rfl) (fun K hK => ?_)
                  go_simp
                  refine hK _ _ (hb2.trans ((t_below_alloc _ _).mono hb2.size)) ?_
                  clear hK K
                  refine takeH 17 (v := ?_) rfl (by kernel_rfl) (by kernel_rfl) (by kernel_rfl) (fun _ _ _ h => h) (hb2.trans ((t_below_alloc _ _).mono hb2.size)) (by rfl) (fun W' hW' => ?_) ?_; rotate_left; · (skip; clear hW'; go_simp; first | done | with_reducible rfl)
                  simp only [Act.put, nS1, nS2, nS3]
                  refine doneH (by kernel_rfl) ?_
                  go_wp2_with (fail)
                  go_meet
                  exact ⟨_, c', rfl, rfl, hc'_h.out, hkx_h.out, hbx_h.out.size, hb3_h.out⟩
                case h22 =>
                  refine' callH 11 (f := _) (args := _) rfl (by kernel_rfl) (by rfl) ?_ ?_; rotate_left 2; · (go_simp; first | done | with_reducible rfl | (constructor <;> with_reducible rfl))
                  refine (hC_h.out _).mono ?_
                  rintro e w2 ⟨c', rfl, hc', hb2⟩
                  have hbs : Below W1.heap.size W1 w2 := (t_below_alloc W1 (.cells #[.int .i64 0, .int .i64 0] tWires)).trans (hb2.mono (by simp))
                  have hk := t_box_below (heap_alloc_new W1 (.cells #[.int .i64 0, .int .i64 0] tWires)) hb2
                  obtain ⟨s1, s2⟩ := t_set2 (a := .int .i64 (joinTy p0 (ty a) (ty b)).1) (b := .int .i64 (joinTy p0 (ty a) (ty b)).2) hk
                  have hbt := below_keeps hbs s2 hbs.size (fun k hk => by omega)
                  have hb3 := hb1_h.out.trans (hbt.mono hb1_h.out.size)
                  obtain ⟨⟨c0, c1⟩, f0, f1⟩ := t_box2 hk
                  refine ⟨_, rfl, hbs, ?_⟩
                  have hc'_h := Lib.hid hc'; have hbs_h := Lib.hid hbs; have hk_h := Lib.hid hk; have s1_h := Lib.hid s1; have s2_h := Lib.hid s2; have hbt_h := Lib.hid hbt; have hb3_h := Lib.hid hb3; have hb2_h := Lib.hid hb2; clear hc' hbs hk s1 s2 hbt hb3 hb2
                  simp only [Act.put, nS1, nS2, nS3]
                  refine takeH 12 (v := ?_) rfl (by kernel_rfl) (by kernel_rfl) (by kernel_rfl) (fun _ _ _ h => h) hbs_h.out (by rfl) (fun W' hW' => ?_) ?_; rotate_left; · (skip; clear hW'; go_simp; first | done | with_reducible rfl)
                  simp only [Act.put, nS1, nS2, nS3]
                  refine takeH 13 (v := ?_) rfl (by kernel_rfl) (by kernel_rfl) (by kernel_rfl) (fun _ _ _ h => h) hbs_h.out (by rfl) (fun W' hW' => ?_) ?_; rotate_left; · (skip; clear hW'; go_simp; first | done | with_reducible rfl)
                  simp only [Act.put, nS1, nS2, nS3]
                  refine takeH 14 (v := ?_) rfl (by kernel_rfl) (by kernel_rfl) (by kernel_rfl) (fun _ _ _ h => h) hbs_h.out (by rfl) (fun W' hW' => ?_) ?_; rotate_left; · (skip; clear hW'; go_simp; first | done | with_reducible rfl)
                  simp only [Act.put, nS1, nS2, nS3]
                  refine oneH 16 rfl (by kernel_rfl) (by rfl) (fun K hK => ?_)
                  go_simp
                  refine hK _ _ hbt_h.out ?_
                  clear hK K
                  refine takeH 17 (v := ?_) rfl (by kernel_rfl) (by kernel_rfl) (by kernel_rfl) (fun _ _ _ h => h) hbt_h.out (by rfl) (fun W' hW' => ?_) ?_; rotate_left; · (skip; clear hW'; go_simp; first | done | with_reducible rfl)
                  simp only [Act.put, nS1, nS2, nS3]
                  refine doneH (by kernel_rfl) ?_
                  go_wp2_with (fail)
                  go_meet
                  exact ⟨_, c', rfl, rfl, hc'_h.out, s1_h.out, hb1_h.out.size, hb3_h.out⟩
              case rest =>
                obtain ⟨G, c', rfl, rfl, hc', hG, hGz, hbc⟩ := hcut
                have hR2 := hR_h.out.below hbc
                obtain ⟨ad1, hA1, hlt1, -⟩ := TyTop hR_h.out.sl hq
                subst hA1
                have hjn : (κ, (0 : Int), noName) = joinNd p0 := by rw [hp_h.out]; rfl
                clear s1_h s2_h hB2_h hx_h hlt1
                cases c'
                · have hN := parse_none hR2.par hn_h.out (by rw [hjn, step_join, ← hc']; rfl)
                  have hx := hR2.box
                  have hxl := t_box_lt hx
                  obtain ⟨⟨c00, c01⟩, f0, f1⟩ := t_box2 hx
                  obtain ⟨s1, s2⟩ := t_set2 (a := .int .i64 0) (b := .int .i64 0) hx
                  have hB2 := below_keeps hR2.bel s2 (by omega) (fun k hk => by omega)
                  have hN_h := Lib.hid hN; have s1_h := Lib.hid s1; have s2_h := Lib.hid s2; have hB2_h := Lib.hid hB2; have hx_h := Lib.hid hx; have hR2_h := Lib.hid hR2; have hc'_h := Lib.hid hc'; have hG_h := Lib.hid hG; have hbc_h := Lib.hid hbc; have hjn_h := Lib.hid hjn; have hq_h := Lib.hid hq; clear hN s1 s2 hB2 hx hR2 hc' hG hbc hjn hq
                  go_wp2_with (fail)
                  refine bodyPost_ret (t_results_cell_tmp rfl _ _ w.heap.size _ _ (0, 0) _ rfl s1_h.out Tryd.underlying182 rfl (by kernel_rfl)) rfl ?_
                  exact TyA.no hN_h.out hB2_h.out
                · have hpm := parse_more hR2.par hn_h.out (by rw [hjn, step_join, ← hc']; rfl)
                  have hGne : ∀ b, b ∈ fpA (some ad1) → ¬ b = G := fun b hb e => by have := hR_h.out.sl.lt b hb; omega
                  have hR2_h := Lib.hid hR2; have hc'_h := Lib.hid hc'; have hbc_h := Lib.hid hbc; have hjn_h := Lib.hid hjn; have hq_h := Lib.hid hq; have hpm_h := Lib.hid hpm; have hG_h := Lib.hid hG; have hGne_h := Lib.hid hGne; clear hR2 hc' hbc hjn hq hpm hG hGne
                  go_wp2_with (fail)
                  refine beginH (fun w' => w'.heap[G]? = some (.cells #[.int .i64 (joinTy p0 (ty a) (ty b)).1, .int .i64 (joinTy p0 (ty a) (ty b)).2] tWires)) (by kernel_rfl) ?_
                  have hGd : wc.drew.heap[G]? = some (.cells #[.int .i64 (joinTy p0 (ty a) (ty b)).1, .int .i64 (joinTy p0 (ty a) (ty b)).2] tWires) := hG_h.out
                  have hR3 : TyR w.heap.size w l k (b :: a :: r) (some ad1) c1 wc.drew := hR2_h.out.below (below_drew (Below.refl _ _))
                  generalize wc.drew = W1 at hGd hR3 ⊢
                  have hW2 := t_below_alloc W1 (.cells #[.int .i64 (joinTy p0 (ty a) (ty b)).1, .int .i64 (joinTy p0 (ty a) (ty b)).2] tWires)
                  have hG2 := t_box_below hGd hW2
                  have hR4 := hR3.below hW2
                  have hSL : Sl (W1.alloc (.cells #[.int .i64 (joinTy p0 (ty a) (ty b)).1, .int .i64 (joinTy p0 (ty a) (ty b)).2] tWires)) tWires 2 (some ad1) q c1 (wcs r) := by
                    have := Sl.take hR4.sl (k := q) (by have := hq_h.out; simp only [List.length_cons]; omega)
                    rwa [wcs_take a b r hq_h.out] at this
                  have hcq : q + 2 ≤ c1 := by have := hR4.sl.2.1; have h2 := hq_h.out; simp only [List.length_cons] at this; omega
                  have hGd_h := Lib.hid hGd; have hR3_h := Lib.hid hR3; have hG2_h := Lib.hid hG2; have hR4_h := Lib.hid hR4; have hSL_h := Lib.hid hSL; have hW2_h := Lib.hid hW2; clear hGd hR3 hG2 hR4 hSL hW2
                  refine takeH 0 (v := ?_) rfl (by kernel_rfl) (by kernel_rfl) (by kernel_rfl) (fun _ _ _ h => h) hGd_h.out (by rfl) (fun W' hW' => ?_) ?_; rotate_left; · (obtain ⟨⟨d0, d1⟩, e0, e1⟩ := t_box2 hW'; have r0 : IntKind.i64.wrap (q : Int) = (q : Int) := IntWalk.i64_in _ (by omega); have r2 : (0 : Int) ≤ (q : Int) := (by omega); have r3 : (q : Int) ≤ (q : Int) + 2 := (by omega); have r4 : q ≤ c1 := (by omega); clear hW'; go_simp; first | done | with_reducible rfl)
                  simp only [Act.put, nS1, nS2, nS3]
                  refine takeH 1 (v := ?_) rfl (by kernel_rfl) (by kernel_rfl) (by kernel_rfl) (fun _ _ _ h => h) hGd_h.out (by rfl) (fun W' hW' => ?_) ?_; rotate_left; · (obtain ⟨⟨d0, d1⟩, e0, e1⟩ := t_box2 hW'; have r0 : IntKind.i64.wrap (q : Int) = (q : Int) := IntWalk.i64_in _ (by omega); have r2 : (0 : Int) ≤ (q : Int) := (by omega); have r3 : (q : Int) ≤ (q : Int) + 2 := (by omega); have r4 : q ≤ c1 := (by omega); clear hW'; go_simp; first | done | with_reducible rfl)
                  simp only [Act.put, nS1, nS2, nS3]
                  refine takeH 2 (v := ?_) rfl (by kernel_rfl) (by kernel_rfl) (by kernel_rfl) (fun _ _ _ h => h) hGd_h.out (by rfl) (fun W' hW' => ?_) ?_; rotate_left; · (obtain ⟨⟨d0, d1⟩, e0, e1⟩ := t_box2 hW'; have r0 : IntKind.i64.wrap (q : Int) = (q : Int) := IntWalk.i64_in _ (by omega); have r2 : (0 : Int) ≤ (q : Int) := (by omega); have r3 : (q : Int) ≤ (q : Int) + 2 := (by omega); have r4 : q ≤ c1 := (by omega); clear hW'; go_simp; first | done | with_reducible rfl)
                  simp only [Act.put, nS1, nS2, nS3]
                  refine takeH 3 (v := ?_) rfl (by kernel_rfl) (by kernel_rfl) (by kernel_rfl) (fun _ _ _ h => h) hGd_h.out (by rfl) (fun W' hW' => ?_) ?_; rotate_left; · (obtain ⟨⟨d0, d1⟩, e0, e1⟩ := t_box2 hW'; have r0 : IntKind.i64.wrap (q : Int) = (q : Int) := IntWalk.i64_in _ (by omega); have r2 : (0 : Int) ≤ (q : Int) := (by omega); have r3 : (q : Int) ≤ (q : Int) + 2 := (by omega); have r4 : q ≤ c1 := (by omega); clear hW'; go_simp; first | done | with_reducible rfl)
                  simp only [Act.put, nS1, nS2, nS3]
                  refine takeH 4 (v := ?_) rfl (by kernel_rfl) (by kernel_rfl) (by kernel_rfl) (fun _ _ _ h => h) hGd_h.out (by rfl) (fun W' hW' => ?_) ?_; rotate_left; · (obtain ⟨⟨d0, d1⟩, e0, e1⟩ := t_box2 hW'; have r0 : IntKind.i64.wrap (q : Int) = (q : Int) := IntWalk.i64_in _ (by omega); have r2 : (0 : Int) ≤ (q : Int) := (by omega); have r3 : (q : Int) ≤ (q : Int) + 2 := (by omega); have r4 : q ≤ c1 := (by omega); clear hW'; go_simp; first | done | with_reducible rfl)
                  simp only [Act.put, nS1, nS2, nS3]
                  refine oneH 5 rfl (by kernel_rfl) (by rfl) (fun K hK => ?_)
                  go_simp
                  refine hK _ _ hG2_h.out ?_
                  clear hK K
                  refine appH 6 rfl (by kernel_rfl) (by rfl) _ _ _ rfl tWires Tryd.underlying215 info_wires rfl (by omega) rfl hSL_h.out rfl (m := 1) rfl (Sl.rdc (Sl.laid W1 tWires 2 1 #[.int .i64 (joinTy p0 (ty a) (ty b)).1, .int .i64 (joinTy p0 (ty a) (ty b)).2] (by unfold maxLen; omega) rfl)) (by simp [Value.oneCell']) (by unfold maxLen; omega) (by omega) ?_
                  intro A2 c2 w2 hs2 hA2 hk2
                  have hG3 := t_box_keeps hG2_h.out hk2 (fun h => hGne_h.out _ h rfl)
                  refine ⟨hG3, ?_⟩
                  simp only [Act.put, nS1, nS2, nS3]
                  refine takeH 7 (v := ?_) rfl (by kernel_rfl) (by kernel_rfl) (by kernel_rfl) (fun _ _ _ h => h) hG3 (by rfl) (fun W' hW' => ?_) ?_; rotate_left; · (skip; clear hW'; go_simp; first | done | with_reducible rfl)
                  simp only [Act.put, nS1, nS2, nS3]
                  refine doneH (by kernel_rfl) ?_
                  go_wp2_with (fail)
                  go_roundw
                  case rel => exact ⟨k + 1, .node p0 a b :: r, A2, c2, q + 1, by omega, by go_num, rfl, by simp [hq_h.out], by omega, TyR.push hR4_h.out.bel hR4_h.out.box hR4_h.out.fr hpm_h.out hq_h.out.symm rfl hs2 hA2 hk2⟩
                  case measure => simp [intOf]; omega
            · have h0 := name_ne ‹_›
              have hv : v = 0 := ‹_›
              subst hv
              have hN := hNo_h.out (.inr (.inl h0))
              refine bodyPost_ret (t_results_cell_tmp rfl _ _ w.heap.size _ _ (0, 0) _ rfl s1_h.out Tryd.underlying182 rfl (by kernel_rfl)) rfl ?_
              exact TyA.no hN hB2_h.out
            · have h0 : v ≠ 0 := ‹_›
              have hN := hNo_h.out (.inl h0)
              refine bodyPost_ret (t_results_cell_tmp rfl _ _ w.heap.size _ _ (0, 0) _ rfl s1_h.out Tryd.underlying182 rfl (by kernel_rfl)) rfl ?_
              exact TyA.no hN hB2_h.out
        · have e15 : (κ != 15) = true := by simp; omega
          have e16 : (κ != 16) = true := by simp; omega
          have hl := Lib.hid (fun W => leafWires_any κ v s W)
          have hj_h := Lib.hid hj; clear hj
          go_wp2_with (fail)
          refine (hl.out _).mono ?_
          rintro e w1 ⟨i, o, b, rfl, hb, hty, hB1⟩
          have hB1' := (t_below_alloc wr (.cells #[.int .i64 κ, .int .i64 v, .string s] 69)).trans (hB1.mono (by simp))
          have hR1 := hR_h.out.below hB1'
          have hx := hR1.box
          have hxl := t_box_lt hx
          have hx2 := t_box_below hx (t_below_alloc w1 (.cells #[.int .i64 i, .int .i64 o] tWires))
          obtain ⟨⟨c00, c01⟩, f0, f1⟩ := t_box2 hx
          cases b
          · have hN := parse_none hR1.par hn_h.out (by rw [step_leaf (n := (κ, v, s)) (show ¬ isJoin (κ, v, s) from hj_h.out), ← hb]; rfl)
            obtain ⟨s0, s2⟩ := t_set2 (a := .int .i64 0) (b := .int .i64 0) hx
            have s1 := t_box_below s0 (t_below_alloc _ (.cells #[.int .i64 i, .int .i64 o] tWires))
            have hB2 := below_trans (below_keeps hR1.bel s2 (by omega) (fun k hk => by omega)) (t_below_alloc _ (.cells #[.int .i64 i, .int .i64 o] tWires)) (Nat.le_trans (by omega) s2.size)
            clear s0; have hN_h := Lib.hid hN; have s1_h := Lib.hid s1; have s2_h := Lib.hid s2; have hB2_h := Lib.hid hB2; have hx_h := Lib.hid hx; have hx2_h := Lib.hid hx2; have hR1_h := Lib.hid hR1; have hb_h := Lib.hid hb; have hty_h := Lib.hid hty; have hB1_h := Lib.hid hB1; have hB1'_h := Lib.hid hB1'; clear hN s1 s2 hB2 hx hx2 hR1 hb hty hB1 hB1'; clear hl
            go_wp2_with (fail)
            refine bodyPost_ret (t_results_cell_tmp rfl _ _ w.heap.size _ _ (0, 0) _ rfl s1_h.out Tryd.underlying182 rfl (by kernel_rfl)) rfl ?_
            exact TyA.no hN_h.out hB2_h.out
          · have hp := parse_more hR1.par hn_h.out (by rw [step_leaf (n := (κ, v, s)) (show ¬ isJoin (κ, v, s) from hj_h.out), ← hb]; rfl)
            have hio := hty rfl
            have hx_h := Lib.hid hx; have hx2_h := Lib.hid hx2; have hR1_h := Lib.hid hR1; have hb_h := Lib.hid hb; have hty_h := Lib.hid hty; have hB1_h := Lib.hid hB1; have hB1'_h := Lib.hid hB1'; have hp_h := Lib.hid hp; have hio_h := Lib.hid hio; clear hx hx2 hR1 hb hty hB1 hB1' hp hio; clear hl
            have hSL : Sl (w1.alloc (.cells #[.int .i64 i, .int .i64 o] tWires)) tWires 2 A1 n1 c1 (wcs st) := Sl.alloc (by rw [hn1_h.out]; exact hR1_h.out.sl) _
            have HSL := Lib.hid hSL; clear hSL
            go_wp2_with (at_builtin; refine wpList_append1 rfl _ _ _ rfl tWires Tryd.underlying215 info_wires rfl (by omega) rfl HSL.out rfl (by simp) rfl (by simp [Value.oneCell']) (by omega) (by omega) ?_; intro A2 c2 w2 hs2 hA2 hk2)
            go_roundw
            case rel => exact ⟨k + 1, .leaf (κ, v, s) :: st, A2, c2, n1 + 1, by omega, by go_num, rfl, by simp [hn1_h.out], by omega, TyR.push (below_trans hR1_h.out.bel (t_below_alloc _ _) hR1_h.out.bel.size) hx2_h.out hR1_h.out.fr hp_h.out hn1_h.out hio_h.out hs2 hA2 hk2⟩
            case measure => simp [intOf]; omega
      · obtain rfl : k = m := by omega
        have hpar := hR.par
        rw [List.take_of_length_le (by rw [hm_h.out]; omega)] at hpar
        obtain ⟨hws, hfl⟩ := parse_spec _ hpar trivial
        have hne : st ≠ [] := fun e => by
          subst e
          have : l = [] := by simpa [flats] using hfl.symm
          subst this
          have := hm_h.out
          simp at this
          omega
        obtain ⟨i, o, h0, h1, hio⟩ := wcs_bot hne
        obtain ⟨ad1, hA1, hlt1, c0, _⟩ := Sl.cell hR.sl h0
        obtain ⟨ad1', hA1', _, c1', _⟩ := Sl.cell hR.sl h1
        rw [hA1] at hA1'
        obtain rfl := Option.some.inj hA1'
        subst hA1
        rw [show ad1.add 0 = ad1 from rfl] at c0
        rw [show (1 : Nat) = 0 + 1 from rfl, add_next _ _ 1 (by omega), show ad1.add 0 = ad1 from rfl] at c1'
        have hnb : ¬ ad1.block = w.heap.size := fun e => by have := hR.fr ad1.block (by simp); omega
        have hx := hR.box
        have hres : treeM l = oneOf st := treeM_of ⟨by rw [← hm_h.out]; omega, by rw [← hm_h.out]; omega⟩ hpar
        have hn0 : 0 < n1 := by rw [hn1]; exact List.length_pos_iff.2 hne
        have hbl := hR.bel
        have hxl := t_box_lt hx
        obtain ⟨⟨c00, c01⟩, f0, f1⟩ := t_box2 hx
        obtain ⟨s1, s2⟩ := t_set2 (a := .int .i64 i) (b := .int .i64 o) hx
        have hB2 := below_keeps hbl s2 (by omega) (fun k hk => by omega)
        have hR_h := Lib.hid hR; have hn1_h := Lib.hid hn1; have hpar_h := Lib.hid hpar; have hws_h := Lib.hid hws; have hfl_h := Lib.hid hfl; have hne_h := Lib.hid hne; have h0_h := Lib.hid h0; have h1_h := Lib.hid h1; have hio_h := Lib.hid hio; have hres_h := Lib.hid hres; have hx_h := Lib.hid hx; have hbl_h := Lib.hid hbl; have hnb_h := Lib.hid hnb; have s1_h := Lib.hid s1; have s2_h := Lib.hid s2; have hB2_h := Lib.hid hB2; clear hR hn1 hpar hws hfl hne h0 h1 hio hres hx hbl hnb s1 s2 hB2; clear h
        go_wp2_with (fail)
        refine bodyPost_ret (t_results_cell_tmp rfl _ _ w.heap.size _ _ (0, 0) _ rfl s1_h.out Tryd.underlying182 rfl (by kernel_rfl)) rfl ?_
        refine ⟨i, o, ((n1 : Int) == 1), rfl, ?_, fun t ht => ?_, hB2_h.out⟩
        · rw [hres_h.out]; exact oneOf_one hn1_h.out
        · rw [hres_h.out] at ht; exact hio_h.out t (oneOf_some ht)
end Go.Proofs.YtahnhblodfdfhaaDoor
namespace Go.Proofs.YtahnhblodfdfhaaDoor
open Go.RowKit
abbrev tInfo : TypeId := 160
abbrev tTerm : TypeId := 80
def frL (st : List Tr) : List Int := (infos st).map fun x => (x.1 : Int)
def inL (st : List Tr) : List Int := (infos st).map (·.2.1)
def ouL (st : List Tr) : List Int := (infos st).map (·.2.2)
structure Th (w : World) (X : Nat) (A0 A1 A2 : Option Addr) (c0 c1 c2 n0 n1 n2 : Nat) (F I O : List Int) : Prop where
  box : w.heap[X]? = some (.cells #[.slice A0 n0 c0, .slice A1 n1 c1, .slice A2 n2 c2] tInfo)
  f : Sl w tInt 1 A0 n0 c0 (ints F)
  i : Sl w tInt 1 A1 n1 c1 (ints I)
  o : Sl w tInt 1 A2 n2 c2 (ints O)
  fr : ∀ b, b ∈ fpA A0 ∨ b ∈ fpA A1 ∨ b ∈ fpA A2 → X < b
  ap01 : ∀ b, b ∈ fpA A0 → ¬ b ∈ fpA A1
  ap02 : ∀ b, b ∈ fpA A0 → ¬ b ∈ fpA A2
  ap12 : ∀ b, b ∈ fpA A1 → ¬ b ∈ fpA A2
section
variable {w w1 w2 : World} {X : Nat} {A0 A1 A2 A' : Option Addr} {c0 c1 c2 c' n0 n1 n2 : Nat} {F I O : List Int}
theorem Th.below (h : Th w X A0 A1 A2 c0 c1 c2 n0 n1 n2 F I O) (hb : Below w.heap.size w w1) : Th w1 X A0 A1 A2 c0 c1 c2 n0 n1 n2 F I O :=
  ⟨t_box_below h.box hb, h.f.below hb, h.i.below hb, h.o.below hb, h.fr, h.ap01, h.ap02, h.ap12⟩
theorem t_set3 {B : Nat} {t : TypeId} {x y z a b c : Value} (h : w.heap[B]? = some (.cells #[x, y, z] t)) : (((w.setCell ⟨B, 0, none⟩ a).setCell ⟨B, 1, none⟩ b).setCell ⟨B, 2, none⟩ c).heap[B]? = some (.cells #[a, b, c] t) ∧ Keeps (· = B) w (((w.setCell ⟨B, 0, none⟩ a).setCell ⟨B, 1, none⟩ b).setCell ⟨B, 2, none⟩ c) := by
  refine ⟨by simp [World.setCell, Array.getElem?_modify, h], ?_⟩
  exact ((((Keeps.refl (fun x => x = B) w).setCell (p := ⟨B, 0, none⟩) rfl _).setCell (p := ⟨B, 1, none⟩) rfl _).setCell (p := ⟨B, 2, none⟩) rfl _)
theorem keeps_one {B i : Nat} {u : Value} : Keeps (· = B) w (w.setCell ⟨B, i, none⟩ u) := (Keeps.refl (fun x => x = B) w).setCell (p := ⟨B, i, none⟩) rfl u
theorem Th.app0 (h : Th w X A0 A1 A2 c0 c1 c2 n0 n1 n2 F I O) {x : Int} (hs : Sl w2 tInt 1 A' (n0 + 1) c' (ints F ++ [.int .i64 x])) (hA : ∀ b, b ∈ fpA A' → b ∈ fpA A0 ∨ w.heap.size ≤ b) (hk : Keeps (· ∈ fpA A0) w w2) :
    Th (w2.setCell ⟨X, 0, none⟩ (.slice A' (n0 + 1) c')) X A' A1 A2 c' c1 c2 (n0 + 1) n1 n2 (F ++ [x]) I O ∧ (w2.heap[X]? = some (.cells #[.slice A0 n0 c0, .slice A1 n1 c1, .slice A2 n2 c2] tInfo)) ∧ (∀ B, B ≤ X → Below B w (w2.setCell ⟨X, 0, none⟩ (.slice A' (n0 + 1) c'))) := by
  have hX := t_box_lt h.box
  have hb2 := t_box_keeps h.box hk (fun hm => by have := h.fr X (.inl hm); omega)
  have hX2 := t_box_lt hb2
  have f' : ∀ b, b ∈ fpA A' → X < b := fun b hb => (hA b hb).elim (fun h1 => h.fr b (.inl h1)) (fun h1 => by omega)
  refine ⟨⟨by simp [World.setCell, Array.getElem?_modify, hb2], ?_, ?_, ?_, ?_, ?_, ?_, h.ap12⟩, hb2, fun B hB => ?_⟩
  · have e : ints (F ++ [x]) = ints F ++ [.int .i64 x] := by simp [ints]
    rw [e]; exact hs.keeps keeps_one fun b hb hx => by have := f' b hb; omega
  · exact (h.i.keeps hk fun b hb hm => h.ap01 b hm hb).keeps keeps_one fun b hb hx => by have := h.fr b (.inr (.inl hb)); omega
  · exact (h.o.keeps hk fun b hb hm => h.ap02 b hm hb).keeps keeps_one fun b hb hx => by have := h.fr b (.inr (.inr hb)); omega
  · rintro b (hb | hb | hb)
    · exact f' b hb
    · exact h.fr b (.inr (.inl hb))
    · exact h.fr b (.inr (.inr hb))
  · intro b hb hm
    rcases hA b hb with h1 | h1
    · exact h.ap01 b h1 hm
    · have := h.i.lt b hm; omega
  · intro b hb hm
    rcases hA b hb with h1 | h1
    · exact h.ap02 b h1 hm
    · have := h.o.lt b hm; omega
  · exact below_keeps (hk.below (by omega) fun b hb => by have := h.fr b (.inl hb); omega) keeps_one (by omega) (fun b hb => by omega)
theorem Th.app1 (h : Th w X A0 A1 A2 c0 c1 c2 n0 n1 n2 F I O) {x : Int} (hs : Sl w2 tInt 1 A' (n1 + 1) c' (ints I ++ [.int .i64 x])) (hA : ∀ b, b ∈ fpA A' → b ∈ fpA A1 ∨ w.heap.size ≤ b) (hk : Keeps (· ∈ fpA A1) w w2) :
    Th (w2.setCell ⟨X, 1, none⟩ (.slice A' (n1 + 1) c')) X A0 A' A2 c0 c' c2 n0 (n1 + 1) n2 F (I ++ [x]) O ∧ (w2.heap[X]? = some (.cells #[.slice A0 n0 c0, .slice A1 n1 c1, .slice A2 n2 c2] tInfo)) ∧ (∀ B, B ≤ X → Below B w (w2.setCell ⟨X, 1, none⟩ (.slice A' (n1 + 1) c'))) := by
  have hX := t_box_lt h.box
  have hb2 := t_box_keeps h.box hk (fun hm => by have := h.fr X (.inr (.inl hm)); omega)
  have hX2 := t_box_lt hb2
  have f' : ∀ b, b ∈ fpA A' → X < b := fun b hb => (hA b hb).elim (fun h1 => h.fr b (.inr (.inl h1))) (fun h1 => by omega)
  refine ⟨⟨by simp [World.setCell, Array.getElem?_modify, hb2], ?_, ?_, ?_, ?_, ?_, h.ap02, ?_⟩, hb2, fun B hB => ?_⟩
  · exact (h.f.keeps hk fun b hb hm => h.ap01 b hb hm).keeps keeps_one fun b hb hx => by have := h.fr b (.inl hb); omega
  · have e : ints (I ++ [x]) = ints I ++ [.int .i64 x] := by simp [ints]
    rw [e]; exact hs.keeps keeps_one fun b hb hx => by have := f' b hb; omega
  · exact (h.o.keeps hk fun b hb hm => h.ap12 b hm hb).keeps keeps_one fun b hb hx => by have := h.fr b (.inr (.inr hb)); omega
  · rintro b (hb | hb | hb)
    · exact h.fr b (.inl hb)
    · exact f' b hb
    · exact h.fr b (.inr (.inr hb))
  · intro b hb hm
    rcases hA b hm with h1 | h1
    · exact h.ap01 b hb h1
    · have := h.f.lt b hb; omega
  · intro b hb hm
    rcases hA b hb with h1 | h1
    · exact h.ap12 b h1 hm
    · have := h.o.lt b hm; omega
  · exact below_keeps (hk.below (by omega) fun b hb => by have := h.fr b (.inr (.inl hb)); omega) keeps_one (by omega) (fun b hb => by omega)
theorem Th.app2 (h : Th w X A0 A1 A2 c0 c1 c2 n0 n1 n2 F I O) {x : Int} (hs : Sl w2 tInt 1 A' (n2 + 1) c' (ints O ++ [.int .i64 x])) (hA : ∀ b, b ∈ fpA A' → b ∈ fpA A2 ∨ w.heap.size ≤ b) (hk : Keeps (· ∈ fpA A2) w w2) :
    Th (w2.setCell ⟨X, 2, none⟩ (.slice A' (n2 + 1) c')) X A0 A1 A' c0 c1 c' n0 n1 (n2 + 1) F I (O ++ [x]) ∧ (w2.heap[X]? = some (.cells #[.slice A0 n0 c0, .slice A1 n1 c1, .slice A2 n2 c2] tInfo)) ∧ (∀ B, B ≤ X → Below B w (w2.setCell ⟨X, 2, none⟩ (.slice A' (n2 + 1) c'))) := by
  have hX := t_box_lt h.box
  have hb2 := t_box_keeps h.box hk (fun hm => by have := h.fr X (.inr (.inr hm)); omega)
  have hX2 := t_box_lt hb2
  have f' : ∀ b, b ∈ fpA A' → X < b := fun b hb => (hA b hb).elim (fun h1 => h.fr b (.inr (.inr h1))) (fun h1 => by omega)
  refine ⟨⟨by simp [World.setCell, Array.getElem?_modify, hb2], ?_, ?_, ?_, ?_, h.ap01, ?_, ?_⟩, hb2, fun B hB => ?_⟩
  · exact (h.f.keeps hk fun b hb hm => h.ap02 b hb hm).keeps keeps_one fun b hb hx => by have := h.fr b (.inl hb); omega
  · exact (h.i.keeps hk fun b hb hm => h.ap12 b hb hm).keeps keeps_one fun b hb hx => by have := h.fr b (.inr (.inl hb)); omega
  · have e : ints (O ++ [x]) = ints O ++ [.int .i64 x] := by simp [ints]
    rw [e]; exact hs.keeps keeps_one fun b hb hx => by have := f' b hb; omega
  · rintro b (hb | hb | hb)
    · exact h.fr b (.inl hb)
    · exact h.fr b (.inr (.inl hb))
    · exact f' b hb
  · intro b hb hm
    rcases hA b hm with h1 | h1
    · exact h.ap02 b hb h1
    · have := h.f.lt b hb; omega
  · intro b hb hm
    rcases hA b hm with h1 | h1
    · exact h.ap12 b hb h1
    · have := h.i.lt b hb; omega
  · exact below_keeps (hk.below (by omega) fun b hb => by have := h.fr b (.inr (.inr hb)); omega) keeps_one (by omega) (fun b hb => by omega)
end
end Go.Proofs.YtahnhblodfdfhaaDoor
namespace Go.Proofs.YtahnhblodfdfhaaDoor
open Go.RowKit
abbrev RV := Int × Int × Option Addr × Nat × Nat
def rc (h : RV) : List Value := [.int .i64 h.1, .int .i64 h.2.1, .slice h.2.2.1 h.2.2.2.1 h.2.2.2.2]
def rv (h : RV) : Value := .agg #[.int .i64 h.1, .int .i64 h.2.1, .slice h.2.2.1 h.2.2.2.1 h.2.2.2.2]
def rcs : List RV → List Value
  | [] => []
  | n :: r => rc n ++ rcs r
theorem rcs_append (l m : List RV) : rcs (l ++ m) = rcs l ++ rcs m := by
  induction l with
  | nil => rfl
  | cons n r ih => simp [rcs, ih]
@[simp] theorem rcs_length (l : List RV) : (rcs l).length = l.length * 3 := by
  induction l with
  | nil => rfl
  | cons n r ih => simp only [rcs, rc, List.length_append, List.length_cons, List.length_nil, ih]; omega
theorem rcs_take : ∀ (l : List RV) (k : Nat), rcs (l.take k) = (rcs l).take (k * 3)
  | [], k => by simp [rcs]
  | n :: r, 0 => by simp [rcs]
  | n :: r, k + 1 => by
    rw [show (k + 1) * 3 = k * 3 + 1 + 1 + 1 by omega]
    simp only [List.take_succ_cons, rcs, rc, List.cons_append, List.nil_append, rcs_take r k]
theorem rcs_get {l : List RV} {j : Nat} {n : RV} (h : l[j]? = some n) : (rcs l)[j * 3]? = some (.int .i64 n.1) ∧ (rcs l)[j * 3 + 1]? = some (.int .i64 n.2.1) ∧ (rcs l)[j * 3 + 2]? = some (.slice n.2.2.1 n.2.2.2.1 n.2.2.2.2) := by
  induction l generalizing j with
  | nil => simp at h
  | cons a r ih =>
    cases j with
    | zero =>
      obtain rfl : a = n := by simpa using h
      simp [rcs, rc]
    | succ j =>
      have := ih (j := j) (by simpa using h)
      have hl : (rc a).length = 3 := rfl
      simp only [rcs]
      rw [List.getElem?_append_right (by omega), List.getElem?_append_right (by omega), List.getElem?_append_right (by omega), hl]
      rw [show (j + 1) * 3 - 3 = j * 3 by omega, show (j + 1) * 3 + 1 - 3 = j * 3 + 1 by omega, show (j + 1) * 3 + 2 - 3 = j * 3 + 2 by omega]
      exact this
theorem info_rel : (Tryd.prog.info? tRelD).map (fun i => (i.zero, i.size, i.bytes)) = some (some (.agg #[.int .i64 0, .int .i64 0, .slice none 0 0]), 3, 40) := by kernel_rfl
theorem Sl.apart_ty {w : World} {e e' : TypeId} {sz sz' n n' c c' : Nat} {A B : Option Addr} {xs ys : List Value} (h : Sl w e sz A n c xs) (h' : Sl w e' sz' B n' c' ys) (he : e ≠ e') : ∀ b, b ∈ fpA A → ¬ b ∈ fpA B := by
  intro x hx hx'
  rcases h.2.2.2 with ⟨rfl, _⟩ | ⟨g, off, cur, rfl, hg, _⟩
  · simp at hx
  rcases h'.2.2.2 with ⟨rfl, _⟩ | ⟨g', off', cur', rfl, hg', _⟩
  · simp at hx'
  simp at hx hx'
  subst hx
  subst hx'
  rw [hg] at hg'
  injection hg' with hg'
  injection hg' with _ h2 _
  exact he h2
theorem OwSys.apart_rel {w : World} {v : Value} {s : Sys} {fp : List Nat} {n c : Nat} {B : Option Addr} {ys : List Value} (h : OwSys w v s fp) (h' : Sl w tRelD 3 B n c ys) : ∀ b, b ∈ fp → ¬ b ∈ fpA B := by
  obtain ⟨A, c, hs, rfl, _, hO, rfl⟩ := h
  intro b hb
  rcases List.mem_append.1 hb with hb | hb
  · exact hO.sl.apart_ty h' (by decide) b hb
  · obtain ⟨x, hx, hb⟩ := mem_fpR.1 hb
    exact Sl.apart_ty (hO.rows x hx) h' (by decide) b hb
theorem cell_mv {w0 w1 : World} {P : Addr} {u : Value} (hb : Below w0.heap.size w0 w1) (h : w0.cell? P = some u) : w1.cell? P = some u := (hb.cell (World.block_lt_of_cell? _ _ h)).trans h
theorem bx1_d {w : World} {B : Nat} {x : Value} {t : TypeId} (h : w.heap[B]? = some (.cells #[x] t)) : w.cell? ⟨B, 0, none⟩ = some x ∧ w.frozen? ⟨B, 0, none⟩ = false := by simp [World.cell?, World.frozen?, h]
structure Stk (w0 w : World) (A : Option Addr) (cap : Nat) (hs : List RV) (L : List Sys) : Prop where
  sl : Sl w tRelD 3 A hs.length cap (rcs hs)
  els : ∀ (i : Nat) (s : Sys), L[i]? = some s → ∃ h fp, hs[i]? = some h ∧ OwSys w (rv h) s fp ∧ FreshL w0.heap.size fp
  len : hs.length = L.length
  new : ∀ b, b ∈ fpA A → w0.heap.size ≤ b
  below_ : Below w0.heap.size w0 w
theorem Stk.below {w0 w w' : World} {A : Option Addr} {cap : Nat} {hs : List RV} {L : List Sys} (h : Stk w0 w A cap hs L) (hb : Below w.heap.size w w') : Stk w0 w' A cap hs L :=
  ⟨h.sl.below hb, fun i s hi => by obtain ⟨x, fp, h1, h2, h3⟩ := h.els i s hi; exact ⟨x, fp, h1, h2.below hb, h3⟩, h.len, h.new, below_trans h.below_ hb h.below_.size⟩
theorem Stk.take {w0 w : World} {A : Option Addr} {cap : Nat} {hs : List RV} {L : List Sys} (h : Stk w0 w A cap hs L) {k : Nat} (hk : k ≤ hs.length) : Stk w0 w A cap (hs.take k) (L.take k) := by
  have h1 := Sl.take h.sl hk
  rw [← rcs_take] at h1
  refine ⟨by rw [List.length_take, Nat.min_eq_left hk]; exact h1, fun i s hi => ?_, by rw [List.length_take, List.length_take, h.len], h.new, h.below_⟩
  rw [List.getElem?_take] at hi
  split at hi
  · rename_i hlt
    obtain ⟨x, fp, h1, h2, h3⟩ := h.els i s hi
    exact ⟨x, fp, by rw [List.getElem?_take, if_pos hlt]; exact h1, h2, h3⟩
  · cases hi
theorem Stk.push {w0 w w1 w2 : World} {A : Option Addr} {cap : Nat} {hs : List RV} {L : List Sys} (h : Stk w0 w A cap hs L) (hb : Below w.heap.size w w1) {v : RV} {s : Sys} {fp : List Nat} (hv : OwSys w1 (rv v) s fp) (hf : FreshL w0.heap.size fp) {A' : Option Addr} {cap' n : Nat} (hn : n = hs.length + 1) (hs' : Sl w2 tRelD 3 A' n cap' (rcs hs ++ rc v)) (hA' : ∀ b, b ∈ fpA A' → b ∈ fpA A ∨ w1.heap.size ≤ b) (hk : Keeps (· ∈ fpA A) w1 w2) : Stk w0 w2 A' cap' (hs ++ [v]) (L ++ [s]) := by
  have hsl := h.sl.below hb
  have hb1 := below_trans h.below_ hb h.below_.size
  subst hn
  refine ⟨by rw [rcs_append, List.length_append]; simpa [rcs] using hs', fun i x hi => ?_, by rw [List.length_append, List.length_append, h.len]; rfl, fun b hb' => ?_, below_keeps hb1 hk hb1.size h.new⟩
  · by_cases hlt : i < L.length
    · rw [List.getElem?_append_left hlt] at hi
      obtain ⟨y, fq, h1, h2, h3⟩ := h.els i x hi
      exact ⟨y, fq, by rw [List.getElem?_append_left (by rw [h.len]; exact hlt)]; exact h1, (h2.below hb).keeps hk ((h2.below hb).apart_rel hsl), h3⟩
    · rw [List.getElem?_append_right (by omega)] at hi
      have hi0 : i - L.length = 0 := by
        rcases Nat.eq_zero_or_pos (i - L.length) with h0 | h0
        · exact h0
        · rw [List.getElem?_eq_none (by simp; omega)] at hi; cases hi
      rw [hi0] at hi
      obtain rfl : s = x := by simpa using hi
      exact ⟨v, fp, by rw [List.getElem?_append_right (by rw [h.len]; omega), h.len, hi0]; rfl, hv.keeps hk (hv.apart_rel hsl), hf⟩
  · rcases hA' b hb' with h1 | h1
    · exact h.new b h1
    · have := hb1.size; omega
theorem Stk.at_ {w0 w : World} {A : Option Addr} {cap : Nat} {hs : List RV} {L : List Sys} (h : Stk w0 w A cap hs L) {i : Nat} {s : Sys} (hi : L[i]? = some s) : ∃ ad x y B n c fp, A = some ad ∧ w.cell? (ad.add (i * 3)) = some (.int .i64 x) ∧ w.cell? ⟨(ad.add (i * 3)).block, (ad.add (i * 3)).off + 1, none⟩ = some (.int .i64 y) ∧ w.cell? ⟨(ad.add (i * 3)).block, (ad.add (i * 3)).off + 2, none⟩ = some (.slice B n c) ∧ OwSys w (.agg #[.int .i64 x, .int .i64 y, .slice B n c]) s fp ∧ FreshL w0.heap.size fp := by
  obtain ⟨⟨x, y, B, n, c⟩, fp, h1, h2, h3⟩ := h.els i s hi
  obtain ⟨g0, g1, g2⟩ := rcs_get h1
  obtain ⟨ad, hA, _, c0, _⟩ := h.sl.cell g0
  obtain ⟨ad1, hA1, _, c1, _⟩ := h.sl.cell g1
  obtain ⟨ad2, hA2, _, c2, _⟩ := h.sl.cell g2
  rw [hA] at hA1 hA2
  obtain rfl := Option.some.inj hA1
  obtain rfl := Option.some.inj hA2
  rw [add_next _ _ 1 (by omega)] at c1
  rw [add_next _ _ 2 (by omega)] at c2
  exact ⟨ad, x, y, B, n, c, fp, hA, c0, c1, c2, h2, h3⟩
def dens (p : Int) (st : List Tr) : List Sys := (st.map (den p)).reverse
@[simp] theorem dens_length (p : Int) (st : List Tr) : (dens p st).length = st.length := by simp [dens]
theorem dens_push (p : Int) (t : Tr) (r : List Tr) : dens p (t :: r) = dens p r ++ [den p t] := by simp [dens]
theorem dens_two {p : Int} {b a : Tr} {r : List Tr} {q : Nat} (hq : r.length = q) : (dens p (b :: a :: r))[q]? = some (den p a) ∧ (dens p (b :: a :: r))[q + 1]? = some (den p b) ∧ (dens p (b :: a :: r)).take q = dens p r := by
  have hl : (dens p r).length = q := by rw [dens_length, hq]
  rw [dens_push, dens_push, List.append_assoc]
  refine ⟨?_, ?_, ?_⟩
  · rw [List.getElem?_append_right (by omega), hl, Nat.sub_self]; rfl
  · rw [List.getElem?_append_right (by omega), hl, Nat.add_sub_cancel_left]; rfl
  · rw [List.take_append_of_le_length (by omega), List.take_of_length_le (by omega)]
def okNd (p : Int) (n : Nd) : Prop := n.1 ≠ 8 ∧ n.1 ≠ 14 ∧ ((n.1 = 7 ∨ n.1 = 13) → n.2.1 < p)
theorem step_some {l : List Nd} {k : Nat} {n : Nd} {st : List Tr} {t : Tr} (hv : treeM l = some t) (h : parse [] (l.take k) = some st) (hn : l[k]? = some n) : ∃ st', stepT st n = some st' ∧ parse [] (l.take (k + 1)) = some st' := by
  cases e : stepT st n with
  | none => rw [parse_none h hn e] at hv; cases hv
  | some st' => exact ⟨st', rfl, parse_more h hn e⟩
theorem step_leaf_some {st st' : List Tr} {n : Nd} (hj : ¬ isJoin n) (h : stepT st n = some st') : leafB n = true ∧ st' = .leaf n :: st := by
  rw [step_leaf hj] at h
  split at h
  · rename_i hl; exact ⟨hl, (Option.some.inj h).symm⟩
  · cases h
theorem step_join_some {st st' : List Tr} {n : Nd} (hj : isJoin n) (h : stepT st n = some st') : ∃ b a r, st = b :: a :: r ∧ joinB (decide (n.1 = 16)) (ty a) (ty b) = true ∧ st' = .node (decide (n.1 = 16)) a b :: r := by
  unfold stepT at h
  rw [if_pos hj] at h
  split at h
  · rename_i b a r
    split at h
    · rename_i hc; exact ⟨b, a, r, rfl, hc.2.2, (Option.some.inj h).symm⟩
    · cases h
  · cases h
set_option maxRecDepth 100000 in
set_option maxHeartbeats 4000000 in
theorem denote_any (p : Int) {v : Value} {l : List Nd} {t : Tr} (w : World) (h : RdTm w v l) (hf : fieldB p = true) (hv : treeM l = some t) (hok : ∀ n, n ∈ l → okNd p n) :
    Calls Tryd.prog 93 #[.int .i64 p, v] w fun e w' => ∃ v' fp, e = .returned v' ∧ OwSys w' v' (den p t) fp ∧ FreshL w.heap.size fp ∧ Below w.heap.size w w' := by
  obtain ⟨A, c, rfl, h⟩ := h
  obtain ⟨m, hm⟩ : ∃ m, m = l.length := ⟨_, rfl⟩
  rw [← hm]
  have hl400 : m ≤ 400 := by
    unfold treeM at hv
    split at hv
    · rename_i h2; omega
    · cases hv
  obtain ⟨W, hW, bW, k0, k1⟩ := alloc2 w (.cells #[.slice A m c] tTerm) (.cells #[.int .i64 0, .int .i64 0, .slice none 0 0] tRelD)
  have hbz := box_lt k1
  have hr := h.below bW
  obtain ⟨W1, hW1⟩ : ∃ W1, W1 = W.alloc (.cells #[] tRelD) := ⟨_, rfl⟩
  have b1 : Below W.heap.size W W1 := by rw [hW1]; exact below_alloc _ _
  have hWs : W.heap.size = w.heap.size + 1 + 1 := by rw [hW]; simp
  have hS0 : Stk W W1 (some ⟨w.heap.size + 1 + 1, 0, none⟩) 0 [] (dens p []) := by
    rw [hW1, ← hWs]
    exact ⟨Sl.laid W tRelD 3 0 #[] (by unfold maxLen; omega) rfl, fun i s hi => by simp [dens] at hi, rfl, fun b hb => by simp at hb; omega, below_alloc _ _⟩
  have hr1 := hr.below b1
  have k01 := box_below k0 b1
  clear h hWs; have hm_h := Lib.hid hm; have bW_h := Lib.hid bW; have k0_h := Lib.hid k0; have k1_h := Lib.hid k1; have hr_h := Lib.hid hr; have b1_h := Lib.hid b1; have hS0_h := Lib.hid hS0; have hr1_h := Lib.hid hr1; have k01_h := Lib.hid k01; have hok_h := Lib.hid hok; have hv_h := Lib.hid hv; clear hm bW k0 k1 hr b1 hS0 hr1 k01 hok hv
  obtain ⟨k01_c, k01_f⟩ := bx1_d k01_h.out
  go_enter Tryd.func93, Tryd.ntmps93
  go_upto_region 2 with (fail)
  rw [← hW, ← hW1]
  clear hW hW1
  go_wp2_with (fail)
  clear k01_c k01_f
  go_loopw [13, 5] (fun iv sv wr => ∃ (k : Nat) (st : List Tr) (A1 : Option Addr) (c1 n1 : Nat) (hs : List RV), k ≤ m ∧ iv = .int .i64 k ∧ sv = .slice A1 n1 c1 ∧ n1 = st.length ∧ n1 ≤ k ∧ hs.length = n1 ∧ parse [] (l.take k) = some st ∧ (∀ t, t ∈ st → wt t ∧ okTr p t) ∧ Stk W wr A1 c1 hs (dens p st)) (fun iv _ _ => m - (intOf iv).toNat)
  case atStart => exact ⟨0, [], _, 0, 0, [], Nat.zero_le _, rfl, rfl, rfl, Nat.le_refl _, rfl, by simp [parse], fun t ht => (by cases ht), hS0_h.out⟩
  case round =>
    clear hS0_h hr1_h
    obtain ⟨k, st, A1, c1, n1, hs, hk, rfl, rfl, hn1, hnk, hsl, hpar, hall, hS⟩ := hrel
    obtain ⟨wo, rfl⟩ : ∃ x, x = wr := ⟨_, rfl⟩
    by_cases hlt : k < m
    · have hbo := hS.below_
      obtain ⟨ad, κ, v, s, rfl, hn, d0, d1, d2⟩ := (hr_h.out.below hbo).at_ (j := k) (by rw [← hm_h.out]; exact hlt)
      have hkI : (k : Int) < (m : Int) := by omega
      obtain ⟨st', hst, hpar'⟩ := step_some hv_h.out hpar hn
      have hokn := hok_h.out _ (List.mem_of_getElem? hn)
      obtain ⟨wN, hwN⟩ : ∃ wN, wN = wo.alloc (.cells #[.int .i64 κ, .int .i64 v, .string s] 69) := ⟨_, rfl⟩
      have hbN : Below wo.heap.size wo wN := by rw [hwN]; exact below_alloc _ _
      have kN : wN.heap[wo.heap.size]? = some (.cells #[.int .i64 κ, .int .i64 v, .string s] 69) := by rw [hwN]; exact heap_alloc_new _ _
      have hSN := hS.below hbN
      by_cases hj : κ = 15 ∨ κ = 16
      · obtain ⟨b, a, r, rfl, hjb, rfl⟩ := step_join_some (show isJoin (κ, v, s) from hj) hst
        obtain ⟨q, hq⟩ : ∃ q, q = r.length := ⟨_, rfl⟩
        have hnq : n1 = q + 2 := by rw [hn1, hq]; rfl
        obtain ⟨ga, gb, gt⟩ := dens_two (p := p) (b := b) (a := a) hq.symm
        obtain ⟨wa, oa⟩ := hall a (by simp)
        obtain ⟨wb, ob⟩ := hall b (by simp)
        obtain ⟨ra, ta1, ta2⟩ := den_ok hf wa oa
        obtain ⟨rb, tb1, tb2⟩ := den_ok hf wb ob
        have fa := wt_fit wa
        have fb := wt_fit wb
        have hwn : wt (.node (decide (κ = 16)) a b) ∧ okTr p (.node (decide (κ = 16)) a b) := ⟨⟨wa, wb, hjb⟩, oa, ob⟩
        have hall' : ∀ t, t ∈ (Tr.node (decide (κ = 16)) a b :: r) → wt t ∧ okTr p t := fun t ht => by
          rcases List.mem_cons.1 ht with rfl | ht
          · exact hwn
          · exact hall t (by simp [ht])
        obtain ⟨qb, hqb⟩ : ∃ qb, qb = q + 1 := ⟨_, rfl⟩
        rw [← hqb] at gb
        have i1 : (n1 : Int) - 1 = (qb : Int) := by omega
        have i2 : (qb : Int) - 1 = (q : Int) := by omega
        have r1 : IntKind.i64.wrap (qb : Int) = (qb : Int) := IntWalk.i64_in _ (by omega)
        have r2 : IntKind.i64.wrap (q : Int) = (q : Int) := IntWalk.i64_in _ (by omega)
        have hqI : (q : Int) < (n1 : Int) := by omega
        have hqbI : (qb : Int) < (n1 : Int) := by omega
        have hqle : (q : Int) ≤ (n1 : Int) := by omega
        have hq0 : (0 : Int) ≤ (q : Int) := by omega
        have hcap := hSN.sl.2.1
        rw [hsl] at hcap
        have hqc : (q : Int) ≤ (c1 : Int) := by omega
        have hT := hSN.take (k := q) (by omega)
        rw [gt] at hT
        by_cases hp : κ = 15
        · have hdk : decide (κ = 16) = false := decide_eq_false (by omega)
          rw [hdk] at hjb hall' hpar'
          simp only [joinB, Bool.false_eq_true, if_false, decide_eq_true_eq] at hjb
          have hb15 : (κ == 15) = true := by rw [hp]; rfl
          have hden : den p (.node false a b) = cmpV p (den p a) (den p b) := rfl
          have hC := fun (W' : World) (x y x' y' : Int) (B B' : Option Addr) (n c n' c' : Nat) (fp fp' : List Nat) (h1 : OwSys W' (.agg #[.int .i64 x, .int .i64 y, .slice B n c]) (den p a) fp) (h2 : OwSys W' (.agg #[.int .i64 x', .int .i64 y', .slice B' n' c']) (den p b) fp') => composed_any p W' h1 h2 ra rb (by omega) (by omega)
          obtain ⟨V, hV⟩ : ∃ V, V = cmpV p (den p a) (den p b) := ⟨_, rfl⟩
          simp only [← hV] at hC
          rw [← hV] at hden
          have hqk : q + 2 ≤ k := by omega
          clear hwn fa fb ra rb ta1 ta2 tb1 tb2 oa ob wa wb hst hokn hpar hall hj hp  hdk hjb hS hn hnq; have hsl_h := Lib.hid hsl; have hn1_h := Lib.hid hn1; have hpar'_h := Lib.hid hpar'; have hall'_h := Lib.hid hall'; have hSN_h := Lib.hid hSN; have hC_h := Lib.hid hC; have hbN_h := Lib.hid hbN; have kN_h := Lib.hid kN; have hbo_h := Lib.hid hbo; have ga_h := Lib.hid ga; have gb_h := Lib.hid gb; have gt_h := Lib.hid gt; have hden_h := Lib.hid hden; have hV_h := Lib.hid hV; have hT_h := Lib.hid hT; have hqb_h := Lib.hid hqb; have hq_h := Lib.hid hq; clear hsl hn1 hpar' hall' hSN hC hbN kN hbo ga gb gt hden hV hT hqb hq
          obtain ⟨ad1, x, y, B, n, e, fpa, rfl, a0, a1', a2, hoa, hfa⟩ := hSN_h.out.at_ ga_h.out
          obtain ⟨ad2, x', y', B', n', e', fpb, hA2, z0, z1, z2, hob, hfb⟩ := hSN_h.out.at_ gb_h.out
          obtain rfl := Option.some.inj hA2
          clear hA2 hfa hfb; have hoa_h := Lib.hid hoa; have hob_h := Lib.hid hob; clear hoa hob
          go_wp2_with (fail)
          rw [← hwN]
          clear hwN
          refine beginZw 16 (fun w' => (w'.cell? (ad1.add (q * 3)) = some (.int .i64 x) ∧ w'.cell? ⟨(ad1.add (q * 3)).block, (ad1.add (q * 3)).off + 1, none⟩ = some (.int .i64 y) ∧ w'.cell? ⟨(ad1.add (q * 3)).block, (ad1.add (q * 3)).off + 2, none⟩ = some (.slice B n e)) ∧ (w'.cell? (ad1.add (qb * 3)) = some (.int .i64 x') ∧ w'.cell? ⟨(ad1.add (qb * 3)).block, (ad1.add (qb * 3)).off + 1, none⟩ = some (.int .i64 y') ∧ w'.cell? ⟨(ad1.add (qb * 3)).block, (ad1.add (qb * 3)).off + 2, none⟩ = some (.slice B' n' e'))) (by kernel_rfl) (fun W2 hW2 => ?_)
          have hbd : Below wN.heap.size wN W2 := by rw [hW2]; exact below_drewN (Below.refl _ _) 1
          clear hW2
          have hF := And.intro (And.intro (cell_mv hbd a0) (And.intro (cell_mv hbd a1') (cell_mv hbd a2))) (And.intro (cell_mv hbd z0) (And.intro (cell_mv hbd z1) (cell_mv hbd z2)))
          clear a0 a1' a2 z0 z1 z2 d0 d1 d2; have hF_h := Lib.hid hF; have hbd_h := Lib.hid hbd; clear hF hbd
          refine takeC 0 (v := ?_) rfl (by kernel_rfl) (by kernel_rfl) (by kernel_rfl) (by kernel_rfl) (fun _ _ _ h => h) hF_h.out (by rfl) (fun W' hW' => ?_) ?_; rotate_left; · (have y0 := hW'.1.1; have y1 := hW'.1.2.1; have y2 := hW'.1.2.2; have y3 := hW'.2.1; have y4 := hW'.2.2.1; have y5 := hW'.2.2.2; clear hW'; go_simp; first | done | with_reducible rfl)
          simp only [Act.put, nS1, nS2, nS3]
          refine takeC 1 (v := ?_) rfl (by kernel_rfl) (by kernel_rfl) (by kernel_rfl) (by kernel_rfl) (fun _ _ _ h => h) hF_h.out (by rfl) (fun W' hW' => ?_) ?_; rotate_left; · (have y0 := hW'.1.1; have y1 := hW'.1.2.1; have y2 := hW'.1.2.2; have y3 := hW'.2.1; have y4 := hW'.2.2.1; have y5 := hW'.2.2.2; clear hW'; go_simp; first | done | with_reducible rfl)
          simp only [Act.put, nS1, nS2, nS3]
          refine takeC 2 (v := ?_) rfl (by kernel_rfl) (by kernel_rfl) (by kernel_rfl) (by kernel_rfl) (fun _ _ _ h => h) hF_h.out (by rfl) (fun W' hW' => ?_) ?_; rotate_left; · (have y0 := hW'.1.1; have y1 := hW'.1.2.1; have y2 := hW'.1.2.2; have y3 := hW'.2.1; have y4 := hW'.2.2.1; have y5 := hW'.2.2.2; clear hW'; go_simp; first | done | with_reducible rfl)
          simp only [Act.put, nS1, nS2, nS3]
          refine takeC 3 (v := ?_) rfl (by kernel_rfl) (by kernel_rfl) (by kernel_rfl) (by kernel_rfl) (fun _ _ _ h => h) hF_h.out (by rfl) (fun W' hW' => ?_) ?_; rotate_left; · (have y0 := hW'.1.1; have y1 := hW'.1.2.1; have y2 := hW'.1.2.2; have y3 := hW'.2.1; have y4 := hW'.2.2.1; have y5 := hW'.2.2.2; clear hW'; go_simp; first | done | with_reducible rfl)
          simp only [Act.put, nS1, nS2, nS3]
          refine takeC 4 (v := ?_) rfl (by kernel_rfl) (by kernel_rfl) (by kernel_rfl) (by kernel_rfl) (fun _ _ _ h => h) hF_h.out (by rfl) (fun W' hW' => ?_) ?_; rotate_left; · (have y0 := hW'.1.1; have y1 := hW'.1.2.1; have y2 := hW'.1.2.2; have y3 := hW'.2.1; have y4 := hW'.2.2.1; have y5 := hW'.2.2.2; clear hW'; go_simp; first | done | with_reducible rfl)
          simp only [Act.put, nS1, nS2, nS3]
          refine takeC 5 (v := ?_) rfl (by kernel_rfl) (by kernel_rfl) (by kernel_rfl) (by kernel_rfl) (fun _ _ _ h => h) hF_h.out (by rfl) (fun W' hW' => ?_) ?_; rotate_left; · (have y0 := hW'.1.1; have y1 := hW'.1.2.1; have y2 := hW'.1.2.2; have y3 := hW'.2.1; have y4 := hW'.2.2.1; have y5 := hW'.2.2.2; clear hW'; go_simp; first | done | with_reducible rfl)
          simp only [Act.put, nS1, nS2, nS3]
          refine takeC 6 (v := ?_) rfl (by kernel_rfl) (by kernel_rfl) (by kernel_rfl) (by kernel_rfl) (fun _ _ _ h => h) hF_h.out (by rfl) (fun W' hW' => ?_) ?_; rotate_left; · (have y0 := hW'.1.1; have y1 := hW'.1.2.1; have y2 := hW'.1.2.2; have y3 := hW'.2.1; have y4 := hW'.2.2.1; have y5 := hW'.2.2.2; clear hW'; go_simp; first | done | with_reducible rfl)
          simp only [Act.put, nS1, nS2, nS3]
          refine takeC 7 (v := ?_) rfl (by kernel_rfl) (by kernel_rfl) (by kernel_rfl) (by kernel_rfl) (fun _ _ _ h => h) hF_h.out (by rfl) (fun W' hW' => ?_) ?_; rotate_left; · (have y0 := hW'.1.1; have y1 := hW'.1.2.1; have y2 := hW'.1.2.2; have y3 := hW'.2.1; have y4 := hW'.2.2.1; have y5 := hW'.2.2.2; clear hW'; go_simp; first | done | with_reducible rfl)
          simp only [Act.put, nS1, nS2, nS3]
          refine takeC 8 (v := ?_) rfl (by kernel_rfl) (by kernel_rfl) (by kernel_rfl) (by kernel_rfl) (fun _ _ _ h => h) hF_h.out (by rfl) (fun W' hW' => ?_) ?_; rotate_left; · (have y0 := hW'.1.1; have y1 := hW'.1.2.1; have y2 := hW'.1.2.2; have y3 := hW'.2.1; have y4 := hW'.2.2.1; have y5 := hW'.2.2.2; clear hW'; go_simp; first | done | with_reducible rfl)
          simp only [Act.put, nS1, nS2, nS3]
          refine takeC 9 (v := ?_) rfl (by kernel_rfl) (by kernel_rfl) (by kernel_rfl) (by kernel_rfl) (fun _ _ _ h => h) hF_h.out (by rfl) (fun W' hW' => ?_) ?_; rotate_left; · (have y0 := hW'.1.1; have y1 := hW'.1.2.1; have y2 := hW'.1.2.2; have y3 := hW'.2.1; have y4 := hW'.2.2.1; have y5 := hW'.2.2.2; clear hW'; go_simp; first | done | with_reducible rfl)
          simp only [Act.put, nS1, nS2, nS3]
          refine takeC 10 (v := ?_) rfl (by kernel_rfl) (by kernel_rfl) (by kernel_rfl) (by kernel_rfl) (fun _ _ _ h => h) hF_h.out (by rfl) (fun W' hW' => ?_) ?_; rotate_left; · (have y0 := hW'.1.1; have y1 := hW'.1.2.1; have y2 := hW'.1.2.2; have y3 := hW'.2.1; have y4 := hW'.2.2.1; have y5 := hW'.2.2.2; clear hW'; go_simp; first | done | with_reducible rfl)
          simp only [Act.put, nS1, nS2, nS3]
          refine takeC 11 (v := ?_) rfl (by kernel_rfl) (by kernel_rfl) (by kernel_rfl) (by kernel_rfl) (fun _ _ _ h => h) hF_h.out (by rfl) (fun W' hW' => ?_) ?_; rotate_left; · (have y0 := hW'.1.1; have y1 := hW'.1.2.1; have y2 := hW'.1.2.2; have y3 := hW'.2.1; have y4 := hW'.2.2.1; have y5 := hW'.2.2.2; clear hW'; go_simp; first | done | with_reducible rfl)
          simp only [Act.put, nS1, nS2, nS3]
          refine takeC 12 (v := ?_) rfl (by kernel_rfl) (by kernel_rfl) (by kernel_rfl) (by kernel_rfl) (fun _ _ _ h => h) hF_h.out (by rfl) (fun W' hW' => ?_) ?_; rotate_left; · (have y0 := hW'.1.1; have y1 := hW'.1.2.1; have y2 := hW'.1.2.2; have y3 := hW'.2.1; have y4 := hW'.2.2.1; have y5 := hW'.2.2.2; clear hW'; go_simp; first | done | with_reducible rfl)
          simp only [Act.put, nS1, nS2, nS3]
          refine takeC 13 (v := ?_) rfl (by kernel_rfl) (by kernel_rfl) (by kernel_rfl) (by kernel_rfl) (fun _ _ _ h => h) hF_h.out (by rfl) (fun W' hW' => ?_) ?_; rotate_left; · (have y0 := hW'.1.1; have y1 := hW'.1.2.1; have y2 := hW'.1.2.2; have y3 := hW'.2.1; have y4 := hW'.2.2.1; have y5 := hW'.2.2.2; clear hW'; go_simp; first | done | with_reducible rfl)
          simp only [Act.put, nS1, nS2, nS3]
          refine callZ 14 (f := ?f1) (args := ?args1) rfl (by kernel_rfl) (by rfl) ?hrun1 ?hcall1
          case hrun1 => (go_simp; first | done | with_reducible rfl | (constructor <;> with_reducible rfl))
          case hcall1 =>
            refine (hC_h.out W2 _ _ _ _ _ _ _ _ _ _ _ _ (hoa_h.out.below hbd_h.out) (hob_h.out.below hbd_h.out)).mono ?_
            rintro e w2 ⟨v2, fp2, rfl, hO2, hf2, hb2⟩
            obtain ⟨A2, n2, c2, rfl⟩ := hO2.shape
            have hF2 := And.intro (And.intro (cell_mv hb2 hF_h.out.1.1) (And.intro (cell_mv hb2 hF_h.out.1.2.1) (cell_mv hb2 hF_h.out.1.2.2))) (And.intro (cell_mv hb2 hF_h.out.2.1) (And.intro (cell_mv hb2 hF_h.out.2.2.1) (cell_mv hb2 hF_h.out.2.2.2)))
            have hal := below_alloc w2 (.cells #[.int .i64 V.1, .int .i64 V.2.1, .slice A2 n2 c2] tRelD)
            have hF3 := And.intro (And.intro (cell_mv hal hF2.1.1) (And.intro (cell_mv hal hF2.1.2.1) (cell_mv hal hF2.1.2.2))) (And.intro (cell_mv hal hF2.2.1) (And.intro (cell_mv hal hF2.2.2.1) (cell_mv hal hF2.2.2.2)))
            have hba := below_trans (below_trans hbd_h.out hb2 hbd_h.out.size) hal (below_trans hbd_h.out hb2 hbd_h.out.size).size
            have htl : (hs.take q).length = q := by rw [List.length_take, hsl_h.out]; omega
            have hsl' : Sl (w2.alloc (.cells #[.int .i64 V.1, .int .i64 V.2.1, .slice A2 n2 c2] tRelD)) tRelD 3 (some ad1) q c1 (rcs (hs.take q)) := by
              have := hT_h.out.sl.below hba
              rwa [htl] at this
            have hO3 : OwSys (w2.alloc (.cells #[.int .i64 V.1, .int .i64 V.2.1, .slice A2 n2 c2] tRelD)) (rv (V.1, V.2.1, A2, n2, c2)) V fp2 := hO2.below hal
            have hf3 : FreshL W.heap.size fp2 := hf2.mono (by have := hbd_h.out.size; have := hbN_h.out.size; have := hbo_h.out.size; omega)
            clear hO2 hf2; have hF2_h := Lib.hid hF2; have hF3_h := Lib.hid hF3; have hal_h := Lib.hid hal; have hba_h := Lib.hid hba; have hsl'_h := Lib.hid hsl'; have hO3_h := Lib.hid hO3; have hf3_h := Lib.hid hf3; have htl_h := Lib.hid htl; clear hF2 hF3 hal hba hsl' hO3 hf3 htl
            refine ⟨_, rfl, fun _ => hF2_h.out, ?_⟩
            simp only [Act.put, nS1, nS2, nS3]
            refine oneZ 15 rfl (by kernel_rfl) (by rfl) (fun K hK => ?_)
            go_simp
            refine hK _ _ (fun _ => hF3_h.out) ?_
            clear hK K
            refine appZ 16 rfl (by kernel_rfl) (by rfl) _ _ _ rfl tRelD Tryd.underlying165 info_rel rfl (by omega) rfl hsl'_h.out rfl (news := [.int .i64 V.1, .int .i64 V.2.1, .slice A2 n2 c2]) rfl (Sl.rdc (Sl.laid w2 tRelD 3 1 #[.int .i64 V.1, .int .i64 V.2.1, .slice A2 n2 c2] (by unfold maxLen; omega) rfl)) (by intro u hu; simp at hu; rcases hu with rfl | rfl | rfl <;> rfl) (by unfold maxLen; omega) (by omega) ?_
            intro A6 c6 w6 hsA6 hA6 hkA6 hrdA6
            have hS6 := hT_h.out.push hba_h.out (v := (V.1, V.2.1, A2, n2, c2)) hO3_h.out hf3_h.out (n := q + 1) (by rw [htl_h.out]) hsA6 hA6 hkA6
            have hdn : dens p r ++ [V] = dens p (Tr.node false a b :: r) := by rw [dens_push, hden_h.out]
            rw [hdn] at hS6
            clear hdn
            have hl6 : (hs.take q ++ [(V.1, V.2.1, A2, n2, c2)]).length = q + 1 := by rw [List.length_append, htl_h.out]; rfl
            clear hsA6 hA6 hkA6 hrdA6; have hS6_h := Lib.hid hS6; have hl6_h := Lib.hid hl6; clear hS6 hl6
            refine ⟨fun h => (by cases h), ?_⟩
            simp only [Act.put, nS1, nS2, nS3]
            refine oneZ 17 rfl (by kernel_rfl) (by rfl) (fun K hK => ?_)
            go_simp
            refine hK _ _ (fun h => by cases h) ?_
            clear hK K
            refine doneZ (by kernel_rfl) ?_
            go_wp2_with (fail)
            go_roundw
            case rel => exact ⟨k + 1, _, A6, c6, q + 1, _, by omega, by go_num, rfl, by rw [List.length_cons, ← hq_h.out], by omega, hl6_h.out, hpar'_h.out, hall'_h.out, hS6_h.out⟩
            case measure => simp [intOf]; omega
        · have hp16 : κ = 16 := by omega
          have hdk : decide (κ = 16) = true := decide_eq_true hp16
          rw [hdk] at hjb hall' hpar'
          simp only [joinB, if_true, decide_eq_true_eq] at hjb
          have hb15 : (κ == 15) = false := by rw [hp16]; rfl
          have hb16 : (κ == 16) = true := by rw [hp16]; rfl
          have hden : den p (.node true a b) = tenV p (den p a) (den p b) := rfl
          have hC := fun (W' : World) (x y x' y' : Int) (B B' : Option Addr) (n c n' c' : Nat) (fp fp' : List Nat) (h1 : OwSys W' (.agg #[.int .i64 x, .int .i64 y, .slice B n c]) (den p a) fp) (h2 : OwSys W' (.agg #[.int .i64 x', .int .i64 y', .slice B' n' c']) (den p b) fp') => tensor_any p W' h1 h2 ra rb (by omega)
          obtain ⟨V, hV⟩ : ∃ V, V = tenV p (den p a) (den p b) := ⟨_, rfl⟩
          simp only [← hV] at hC
          rw [← hV] at hden
          have hqk : q + 2 ≤ k := by omega
          clear hwn fa fb ra rb ta1 ta2 tb1 tb2 oa ob wa wb hst hokn hpar hall hj hp hp16 hdk hjb hS hn hnq; have hsl_h := Lib.hid hsl; have hn1_h := Lib.hid hn1; have hpar'_h := Lib.hid hpar'; have hall'_h := Lib.hid hall'; have hSN_h := Lib.hid hSN; have hC_h := Lib.hid hC; have hbN_h := Lib.hid hbN; have kN_h := Lib.hid kN; have hbo_h := Lib.hid hbo; have ga_h := Lib.hid ga; have gb_h := Lib.hid gb; have gt_h := Lib.hid gt; have hden_h := Lib.hid hden; have hV_h := Lib.hid hV; have hT_h := Lib.hid hT; have hqb_h := Lib.hid hqb; have hq_h := Lib.hid hq; clear hsl hn1 hpar' hall' hSN hC hbN kN hbo ga gb gt hden hV hT hqb hq
          obtain ⟨ad1, x, y, B, n, e, fpa, rfl, a0, a1', a2, hoa, hfa⟩ := hSN_h.out.at_ ga_h.out
          obtain ⟨ad2, x', y', B', n', e', fpb, hA2, z0, z1, z2, hob, hfb⟩ := hSN_h.out.at_ gb_h.out
          obtain rfl := Option.some.inj hA2
          clear hA2 hfa hfb; have hoa_h := Lib.hid hoa; have hob_h := Lib.hid hob; clear hoa hob
          go_wp2_with (fail)
          rw [← hwN]
          clear hwN
          refine beginZw 16 (fun w' => (w'.cell? (ad1.add (q * 3)) = some (.int .i64 x) ∧ w'.cell? ⟨(ad1.add (q * 3)).block, (ad1.add (q * 3)).off + 1, none⟩ = some (.int .i64 y) ∧ w'.cell? ⟨(ad1.add (q * 3)).block, (ad1.add (q * 3)).off + 2, none⟩ = some (.slice B n e)) ∧ (w'.cell? (ad1.add (qb * 3)) = some (.int .i64 x') ∧ w'.cell? ⟨(ad1.add (qb * 3)).block, (ad1.add (qb * 3)).off + 1, none⟩ = some (.int .i64 y') ∧ w'.cell? ⟨(ad1.add (qb * 3)).block, (ad1.add (qb * 3)).off + 2, none⟩ = some (.slice B' n' e'))) (by kernel_rfl) (fun W2 hW2 => ?_)
          have hbd : Below wN.heap.size wN W2 := by rw [hW2]; exact below_drewN (Below.refl _ _) 1
          clear hW2
          have hF := And.intro (And.intro (cell_mv hbd a0) (And.intro (cell_mv hbd a1') (cell_mv hbd a2))) (And.intro (cell_mv hbd z0) (And.intro (cell_mv hbd z1) (cell_mv hbd z2)))
          clear a0 a1' a2 z0 z1 z2 d0 d1 d2; have hF_h := Lib.hid hF; have hbd_h := Lib.hid hbd; clear hF hbd
          refine takeC 0 (v := ?_) rfl (by kernel_rfl) (by kernel_rfl) (by kernel_rfl) (by kernel_rfl) (fun _ _ _ h => h) hF_h.out (by rfl) (fun W' hW' => ?_) ?_; rotate_left; · (have y0 := hW'.1.1; have y1 := hW'.1.2.1; have y2 := hW'.1.2.2; have y3 := hW'.2.1; have y4 := hW'.2.2.1; have y5 := hW'.2.2.2; clear hW'; go_simp; first | done | with_reducible rfl)
          simp only [Act.put, nS1, nS2, nS3]
          refine takeC 1 (v := ?_) rfl (by kernel_rfl) (by kernel_rfl) (by kernel_rfl) (by kernel_rfl) (fun _ _ _ h => h) hF_h.out (by rfl) (fun W' hW' => ?_) ?_; rotate_left; · (have y0 := hW'.1.1; have y1 := hW'.1.2.1; have y2 := hW'.1.2.2; have y3 := hW'.2.1; have y4 := hW'.2.2.1; have y5 := hW'.2.2.2; clear hW'; go_simp; first | done | with_reducible rfl)
          simp only [Act.put, nS1, nS2, nS3]
          refine takeC 2 (v := ?_) rfl (by kernel_rfl) (by kernel_rfl) (by kernel_rfl) (by kernel_rfl) (fun _ _ _ h => h) hF_h.out (by rfl) (fun W' hW' => ?_) ?_; rotate_left; · (have y0 := hW'.1.1; have y1 := hW'.1.2.1; have y2 := hW'.1.2.2; have y3 := hW'.2.1; have y4 := hW'.2.2.1; have y5 := hW'.2.2.2; clear hW'; go_simp; first | done | with_reducible rfl)
          simp only [Act.put, nS1, nS2, nS3]
          refine takeC 3 (v := ?_) rfl (by kernel_rfl) (by kernel_rfl) (by kernel_rfl) (by kernel_rfl) (fun _ _ _ h => h) hF_h.out (by rfl) (fun W' hW' => ?_) ?_; rotate_left; · (have y0 := hW'.1.1; have y1 := hW'.1.2.1; have y2 := hW'.1.2.2; have y3 := hW'.2.1; have y4 := hW'.2.2.1; have y5 := hW'.2.2.2; clear hW'; go_simp; first | done | with_reducible rfl)
          simp only [Act.put, nS1, nS2, nS3]
          refine takeC 4 (v := ?_) rfl (by kernel_rfl) (by kernel_rfl) (by kernel_rfl) (by kernel_rfl) (fun _ _ _ h => h) hF_h.out (by rfl) (fun W' hW' => ?_) ?_; rotate_left; · (have y0 := hW'.1.1; have y1 := hW'.1.2.1; have y2 := hW'.1.2.2; have y3 := hW'.2.1; have y4 := hW'.2.2.1; have y5 := hW'.2.2.2; clear hW'; go_simp; first | done | with_reducible rfl)
          simp only [Act.put, nS1, nS2, nS3]
          refine takeC 5 (v := ?_) rfl (by kernel_rfl) (by kernel_rfl) (by kernel_rfl) (by kernel_rfl) (fun _ _ _ h => h) hF_h.out (by rfl) (fun W' hW' => ?_) ?_; rotate_left; · (have y0 := hW'.1.1; have y1 := hW'.1.2.1; have y2 := hW'.1.2.2; have y3 := hW'.2.1; have y4 := hW'.2.2.1; have y5 := hW'.2.2.2; clear hW'; go_simp; first | done | with_reducible rfl)
          simp only [Act.put, nS1, nS2, nS3]
          refine takeC 6 (v := ?_) rfl (by kernel_rfl) (by kernel_rfl) (by kernel_rfl) (by kernel_rfl) (fun _ _ _ h => h) hF_h.out (by rfl) (fun W' hW' => ?_) ?_; rotate_left; · (have y0 := hW'.1.1; have y1 := hW'.1.2.1; have y2 := hW'.1.2.2; have y3 := hW'.2.1; have y4 := hW'.2.2.1; have y5 := hW'.2.2.2; clear hW'; go_simp; first | done | with_reducible rfl)
          simp only [Act.put, nS1, nS2, nS3]
          refine takeC 7 (v := ?_) rfl (by kernel_rfl) (by kernel_rfl) (by kernel_rfl) (by kernel_rfl) (fun _ _ _ h => h) hF_h.out (by rfl) (fun W' hW' => ?_) ?_; rotate_left; · (have y0 := hW'.1.1; have y1 := hW'.1.2.1; have y2 := hW'.1.2.2; have y3 := hW'.2.1; have y4 := hW'.2.2.1; have y5 := hW'.2.2.2; clear hW'; go_simp; first | done | with_reducible rfl)
          simp only [Act.put, nS1, nS2, nS3]
          refine takeC 8 (v := ?_) rfl (by kernel_rfl) (by kernel_rfl) (by kernel_rfl) (by kernel_rfl) (fun _ _ _ h => h) hF_h.out (by rfl) (fun W' hW' => ?_) ?_; rotate_left; · (have y0 := hW'.1.1; have y1 := hW'.1.2.1; have y2 := hW'.1.2.2; have y3 := hW'.2.1; have y4 := hW'.2.2.1; have y5 := hW'.2.2.2; clear hW'; go_simp; first | done | with_reducible rfl)
          simp only [Act.put, nS1, nS2, nS3]
          refine takeC 9 (v := ?_) rfl (by kernel_rfl) (by kernel_rfl) (by kernel_rfl) (by kernel_rfl) (fun _ _ _ h => h) hF_h.out (by rfl) (fun W' hW' => ?_) ?_; rotate_left; · (have y0 := hW'.1.1; have y1 := hW'.1.2.1; have y2 := hW'.1.2.2; have y3 := hW'.2.1; have y4 := hW'.2.2.1; have y5 := hW'.2.2.2; clear hW'; go_simp; first | done | with_reducible rfl)
          simp only [Act.put, nS1, nS2, nS3]
          refine takeC 10 (v := ?_) rfl (by kernel_rfl) (by kernel_rfl) (by kernel_rfl) (by kernel_rfl) (fun _ _ _ h => h) hF_h.out (by rfl) (fun W' hW' => ?_) ?_; rotate_left; · (have y0 := hW'.1.1; have y1 := hW'.1.2.1; have y2 := hW'.1.2.2; have y3 := hW'.2.1; have y4 := hW'.2.2.1; have y5 := hW'.2.2.2; clear hW'; go_simp; first | done | with_reducible rfl)
          simp only [Act.put, nS1, nS2, nS3]
          refine takeC 11 (v := ?_) rfl (by kernel_rfl) (by kernel_rfl) (by kernel_rfl) (by kernel_rfl) (fun _ _ _ h => h) hF_h.out (by rfl) (fun W' hW' => ?_) ?_; rotate_left; · (have y0 := hW'.1.1; have y1 := hW'.1.2.1; have y2 := hW'.1.2.2; have y3 := hW'.2.1; have y4 := hW'.2.2.1; have y5 := hW'.2.2.2; clear hW'; go_simp; first | done | with_reducible rfl)
          simp only [Act.put, nS1, nS2, nS3]
          refine takeC 12 (v := ?_) rfl (by kernel_rfl) (by kernel_rfl) (by kernel_rfl) (by kernel_rfl) (fun _ _ _ h => h) hF_h.out (by rfl) (fun W' hW' => ?_) ?_; rotate_left; · (have y0 := hW'.1.1; have y1 := hW'.1.2.1; have y2 := hW'.1.2.2; have y3 := hW'.2.1; have y4 := hW'.2.2.1; have y5 := hW'.2.2.2; clear hW'; go_simp; first | done | with_reducible rfl)
          simp only [Act.put, nS1, nS2, nS3]
          refine takeC 13 (v := ?_) rfl (by kernel_rfl) (by kernel_rfl) (by kernel_rfl) (by kernel_rfl) (fun _ _ _ h => h) hF_h.out (by rfl) (fun W' hW' => ?_) ?_; rotate_left; · (have y0 := hW'.1.1; have y1 := hW'.1.2.1; have y2 := hW'.1.2.2; have y3 := hW'.2.1; have y4 := hW'.2.2.1; have y5 := hW'.2.2.2; clear hW'; go_simp; first | done | with_reducible rfl)
          simp only [Act.put, nS1, nS2, nS3]
          refine callZ 14 (f := ?f2) (args := ?args2) rfl (by kernel_rfl) (by rfl) ?hrun2 ?hcall2
          case hrun2 => (go_simp; first | done | with_reducible rfl | (constructor <;> with_reducible rfl))
          case hcall2 =>
            refine (hC_h.out W2 _ _ _ _ _ _ _ _ _ _ _ _ (hoa_h.out.below hbd_h.out) (hob_h.out.below hbd_h.out)).mono ?_
            rintro e w2 ⟨v2, fp2, rfl, hO2, hf2, hb2⟩
            obtain ⟨A2, n2, c2, rfl⟩ := hO2.shape
            have hF2 := And.intro (And.intro (cell_mv hb2 hF_h.out.1.1) (And.intro (cell_mv hb2 hF_h.out.1.2.1) (cell_mv hb2 hF_h.out.1.2.2))) (And.intro (cell_mv hb2 hF_h.out.2.1) (And.intro (cell_mv hb2 hF_h.out.2.2.1) (cell_mv hb2 hF_h.out.2.2.2)))
            have hal := below_alloc w2 (.cells #[.int .i64 V.1, .int .i64 V.2.1, .slice A2 n2 c2] tRelD)
            have hF3 := And.intro (And.intro (cell_mv hal hF2.1.1) (And.intro (cell_mv hal hF2.1.2.1) (cell_mv hal hF2.1.2.2))) (And.intro (cell_mv hal hF2.2.1) (And.intro (cell_mv hal hF2.2.2.1) (cell_mv hal hF2.2.2.2)))
            have hba := below_trans (below_trans hbd_h.out hb2 hbd_h.out.size) hal (below_trans hbd_h.out hb2 hbd_h.out.size).size
            have htl : (hs.take q).length = q := by rw [List.length_take, hsl_h.out]; omega
            have hsl' : Sl (w2.alloc (.cells #[.int .i64 V.1, .int .i64 V.2.1, .slice A2 n2 c2] tRelD)) tRelD 3 (some ad1) q c1 (rcs (hs.take q)) := by
              have := hT_h.out.sl.below hba
              rwa [htl] at this
            have hO3 : OwSys (w2.alloc (.cells #[.int .i64 V.1, .int .i64 V.2.1, .slice A2 n2 c2] tRelD)) (rv (V.1, V.2.1, A2, n2, c2)) V fp2 := hO2.below hal
            have hf3 : FreshL W.heap.size fp2 := hf2.mono (by have := hbd_h.out.size; have := hbN_h.out.size; have := hbo_h.out.size; omega)
            clear hO2 hf2; have hF2_h := Lib.hid hF2; have hF3_h := Lib.hid hF3; have hal_h := Lib.hid hal; have hba_h := Lib.hid hba; have hsl'_h := Lib.hid hsl'; have hO3_h := Lib.hid hO3; have hf3_h := Lib.hid hf3; have htl_h := Lib.hid htl; clear hF2 hF3 hal hba hsl' hO3 hf3 htl
            refine ⟨_, rfl, fun _ => hF2_h.out, ?_⟩
            simp only [Act.put, nS1, nS2, nS3]
            refine oneZ 15 rfl (by kernel_rfl) (by rfl) (fun K hK => ?_)
            go_simp
            refine hK _ _ (fun _ => hF3_h.out) ?_
            clear hK K
            refine appZ 16 rfl (by kernel_rfl) (by rfl) _ _ _ rfl tRelD Tryd.underlying165 info_rel rfl (by omega) rfl hsl'_h.out rfl (news := [.int .i64 V.1, .int .i64 V.2.1, .slice A2 n2 c2]) rfl (Sl.rdc (Sl.laid w2 tRelD 3 1 #[.int .i64 V.1, .int .i64 V.2.1, .slice A2 n2 c2] (by unfold maxLen; omega) rfl)) (by intro u hu; simp at hu; rcases hu with rfl | rfl | rfl <;> rfl) (by unfold maxLen; omega) (by omega) ?_
            intro A6 c6 w6 hsA6 hA6 hkA6 hrdA6
            have hS6 := hT_h.out.push hba_h.out (v := (V.1, V.2.1, A2, n2, c2)) hO3_h.out hf3_h.out (n := q + 1) (by rw [htl_h.out]) hsA6 hA6 hkA6
            have hdn : dens p r ++ [V] = dens p (Tr.node true a b :: r) := by rw [dens_push, hden_h.out]
            rw [hdn] at hS6
            clear hdn
            have hl6 : (hs.take q ++ [(V.1, V.2.1, A2, n2, c2)]).length = q + 1 := by rw [List.length_append, htl_h.out]; rfl
            clear hsA6 hA6 hkA6 hrdA6; have hS6_h := Lib.hid hS6; have hl6_h := Lib.hid hl6; clear hS6 hl6
            refine ⟨fun h => (by cases h), ?_⟩
            simp only [Act.put, nS1, nS2, nS3]
            refine oneZ 17 rfl (by kernel_rfl) (by rfl) (fun K hK => ?_)
            go_simp
            refine hK _ _ (fun h => by cases h) ?_
            clear hK K
            refine doneZ (by kernel_rfl) ?_
            go_wp2_with (fail)
            go_roundw
            case rel => exact ⟨k + 1, _, A6, c6, q + 1, _, by omega, by go_num, rfl, by rw [List.length_cons, ← hq_h.out], by omega, hl6_h.out, hpar'_h.out, hall'_h.out, hS6_h.out⟩
            case measure => simp [intOf]; omega
      · have hb15 : (κ == 15) = false := by rw [beq_eq_false_iff_ne]; omega
        have hb16 : (κ == 16) = false := by rw [beq_eq_false_iff_ne]; omega
        obtain ⟨hlb, rfl⟩ := step_leaf_some (show ¬ isJoin (κ, v, s) from hj) hst
        have hlf : okLf p (κ, v, s) := ⟨hlb, hokn.1, hokn.2.1, hokn.2.2⟩
        have hC := fun (W' : World) => leafRelation_any p κ v s W' hf hlf
        have hall' : ∀ t, t ∈ (Tr.leaf (κ, v, s) :: st) → wt t ∧ okTr p t := fun t ht => by
          rcases List.mem_cons.1 ht with rfl | ht
          · exact ⟨hlb, hlf⟩
          · exact hall t ht
        clear hj hst hokn hlb hlf hpar hall hS hn; have hsl_h := Lib.hid hsl; have hn1_h := Lib.hid hn1; have hpar'_h := Lib.hid hpar'; have hall'_h := Lib.hid hall'; have hSN_h := Lib.hid hSN; have hC_h := Lib.hid hC; have hbN_h := Lib.hid hbN; have kN_h := Lib.hid kN; have hbo_h := Lib.hid hbo; clear hsl hn1 hpar' hall' hSN hC hbN kN hbo
        go_wp2_with (fail)
        rw [← hwN]
        clear hwN d0 d1 d2
        refine (hC_h.out wN).mono ?_
        rintro e w2 ⟨v2, fp2, rfl, hO2, hf2, hb2⟩
        obtain ⟨V, hV⟩ : ∃ V, V = leafV p (κ, v, s) := ⟨_, rfl⟩
        rw [← hV] at hO2
        obtain ⟨A2, n2, c2, rfl⟩ := hO2.shape
        have hal := below_alloc w2 (.cells #[.int .i64 V.1, .int .i64 V.2.1, .slice A2 n2 c2] tRelD)
        have hba := below_trans hb2 hal hb2.size
        have hsl' : Sl (w2.alloc (.cells #[.int .i64 V.1, .int .i64 V.2.1, .slice A2 n2 c2] tRelD)) tRelD 3 A1 n1 c1 (rcs hs) := by
          have := hSN_h.out.sl.below hba
          rwa [hsl_h.out] at this
        have hO3 : OwSys (w2.alloc (.cells #[.int .i64 V.1, .int .i64 V.2.1, .slice A2 n2 c2] tRelD)) (rv (V.1, V.2.1, A2, n2, c2)) V fp2 := hO2.below hal
        have hf3 : FreshL W.heap.size fp2 := hf2.mono (by have := hbN_h.out.size; have := hbo_h.out.size; omega)
        clear hO2 hf2; have hal_h := Lib.hid hal; have hba_h := Lib.hid hba; have hsl'_h := Lib.hid hsl'; have hO3_h := Lib.hid hO3; have hf3_h := Lib.hid hf3; have hV_h := Lib.hid hV; have hb2_h := Lib.hid hb2; clear hal hba hsl' hO3 hf3 hV hb2
        go_wp2_with (at_builtin; refine wpList_append_Sl _ rfl _ _ _ rfl tRelD Tryd.underlying165 info_rel rfl (by omega) rfl hsl'_h.out rfl (news := [.int .i64 V.1, .int .i64 V.2.1, .slice A2 n2 c2]) rfl (Sl.rdc (Sl.laid w2 tRelD 3 1 #[.int .i64 V.1, .int .i64 V.2.1, .slice A2 n2 c2] (by unfold maxLen; omega) rfl)) (by intro u hu; simp at hu; rcases hu with rfl | rfl | rfl <;> rfl) (by unfold maxLen; omega) (by omega) ?_; intro A6 c6 w6 hsA6 hA6 hkA6)
        have hS6 := hSN_h.out.push hba_h.out (v := (V.1, V.2.1, A2, n2, c2)) hO3_h.out hf3_h.out (n := n1 + 1) (by rw [hsl_h.out]) hsA6 hA6 hkA6
        have hdn : dens p (Tr.leaf (κ, v, s) :: st) = dens p st ++ [V] := by rw [dens_push, hV_h.out]; rfl
        rw [← hdn] at hS6
        have hl6 : (hs ++ [(V.1, V.2.1, A2, n2, c2)]).length = n1 + 1 := by rw [List.length_append, hsl_h.out]; rfl
        clear hsA6 hA6 hkA6 hdn; have hS6_h := Lib.hid hS6; have hl6_h := Lib.hid hl6; clear hS6 hl6
        go_roundw
        case rel => exact ⟨k + 1, _, A6, c6, n1 + 1, _, by omega, by go_num, rfl, by rw [List.length_cons, ← hn1_h.out], by omega, hl6_h.out, hpar'_h.out, hall'_h.out, hS6_h.out⟩
        case measure => simp [intOf]; omega
    · obtain rfl : m = k := by omega
      have hpl : parse [] l = some st := by have := hpar; rwa [List.take_of_length_le (by rw [hm_h.out]; exact Nat.le_refl _)] at this
      have h400 : 1 ≤ l.length ∧ l.length ≤ 400 := by
        have h2 := hv_h.out
        unfold treeM at h2
        split at h2
        · rename_i h3; exact h3
        · cases h2
      have hst := treeM_of h400 hpl
      rw [hv_h.out] at hst
      have hst1 := oneOf_some hst.symm
      subst hst1
      obtain ⟨ad, x, y, B, n, e, fp, rfl, a0, a1', a2, hO, hfp⟩ := hS.at_ (i := 0) (s := den p t) (by simp [dens])
      have hbo := hS.below_
      have k1r := box_below k1_h.out hbo
      obtain ⟨⟨y0, y1, y2⟩, y3, y4, y5⟩ := box3 k1r
      obtain ⟨s1, s2⟩ := set3 (a := .int .i64 x) (b := .int .i64 y) (c := .slice B n e) k1r
      have hbb := below_trans bW_h.out hbo bW_h.out.size
      have hbw := below_keeps hbb s2 hbb.size (fun k hk => by omega)
      have hz1 := bW_h.out.size
      have hO2 := hO.keeps s2 (fun k hk e => by have := hfp k hk; omega)
      have hf2 : FreshL w.heap.size fp := hfp.mono hz1
      have hnz : (0 : Int) < (n1 : Int) := by rw [hn1]; simp
      have hb0 : wo.cell? ad = some (.int .i64 x) := a0
      have hb1 : wo.cell? ⟨ad.block, ad.off + 1, none⟩ = some (.int .i64 y) := a1'
      have hb2 : wo.cell? ⟨ad.block, ad.off + 2, none⟩ = some (.slice B n e) := a2
      have ha : ad.add 0 = ad := rfl
      clear a0 a1' a2; clear hS hst hpl h400 hpar hall hbo k1r s2 hbb hO hfp; have s1_h := Lib.hid s1; have hbw_h := Lib.hid hbw; have hO2_h := Lib.hid hO2; have hf2_h := Lib.hid hf2; have hn1_h := Lib.hid hn1; have hsl_h := Lib.hid hsl; clear s1 hbw hO2 hf2 hn1 hsl
      go_wp2_with (fail)
      refine bodyPost_ret (results_cell_row rfl _ _ (w.heap.size + 1) _ _ (0, 0) _ rfl s1_h.out Tryd.underlying43 rfl (by kernel_rfl)) rfl ?_
      first | exact ⟨_, fp, rfl, hO2_h.out, hf2_h.out, hbw_h.out⟩ | exact ⟨_, rfl, fp, hO2_h.out, hf2_h.out, hbw_h.out⟩
end Go.Proofs.YtahnhblodfdfhaaDoor
namespace Go.Proofs.YtahnhblodfdfhaaDoor
open Go.RowKit
theorem set4_2 {w : World} {B : Nat} {t : TypeId} {x y z u b : Value} (h : w.heap[B]? = some (.cells #[x, y, z, u] t)) : (w.setCell ⟨B, 2, none⟩ b).heap[B]? = some (.cells #[x, y, b, u] t) ∧ Keeps (· = B) w (w.setCell ⟨B, 2, none⟩ b) := by
  refine ⟨by simp [World.setCell, Array.getElem?_modify, h], ?_⟩
  exact (Keeps.refl (fun x => x = B) w).setCell (p := ⟨B, 2, none⟩) rfl _
theorem set4_3 {w : World} {B : Nat} {t : TypeId} {x y z u b : Value} (h : w.heap[B]? = some (.cells #[x, y, z, u] t)) : (w.setCell ⟨B, 3, none⟩ b).heap[B]? = some (.cells #[x, y, z, b] t) ∧ Keeps (· = B) w (w.setCell ⟨B, 3, none⟩ b) := by
  refine ⟨by simp [World.setCell, Array.getElem?_modify, h], ?_⟩
  exact (Keeps.refl (fun x => x = B) w).setCell (p := ⟨B, 3, none⟩) rfl _
theorem set4_1 {w : World} {B : Nat} {t : TypeId} {x y z u b : Value} (h : w.heap[B]? = some (.cells #[x, y, z, u] t)) : (w.setCell ⟨B, 1, none⟩ b).heap[B]? = some (.cells #[x, b, z, u] t) ∧ Keeps (· = B) w (w.setCell ⟨B, 1, none⟩ b) := by
  refine ⟨by simp [World.setCell, Array.getElem?_modify, h], ?_⟩
  exact (Keeps.refl (fun x => x = B) w).setCell (p := ⟨B, 1, none⟩) rfl _
theorem rangeI_succ (k : Nat) : rangeI (k + 1) = rangeI k ++ [(k : Int)] := by unfold rangeI; rw [List.range_succ, List.map_append]; rfl
@[simp] theorem rangeI_length' (k : Nat) : (rangeI k).length = k := by simp [rangeI]
theorem IS.ne_gr {w : World} {A : Option Addr} {c b : Nat} {l : List Int} {cs : Array Value} (h : IS w A c l) (hb : w.heap[b]? = some (.cells cs tGr)) : ∀ x, x ∈ fpA A → x ≠ b := by
  intro x hx e
  subst e
  rcases h.2.2.2 with ⟨rfl, _⟩ | ⟨g, off, cur, rfl, hg, _⟩
  · simp at hx
  · simp at hx
    subst hx
    rw [hb] at hg
    injection hg with hg
    injection hg with _ h2 _
    exact absurd h2 (by decide)
theorem IS.ne_ed {w : World} {A : Option Addr} {c b : Nat} {l : List Int} {cs : Array Value} (h : IS w A c l) (hb : w.heap[b]? = some (.cells cs tEd)) : ∀ x, x ∈ fpA A → x ≠ b := by
  intro x hx e
  subst e
  rcases h.2.2.2 with ⟨rfl, _⟩ | ⟨g, off, cur, rfl, hg, _⟩
  · simp at hx
  · simp at hx
    subst hx
    rw [hb] at hg
    injection hg with hg
    injection hg with _ h2 _
    exact absurd h2 (by decide)
theorem IS.app1 {w2 : World} {A' : Option Addr} {c' k : Nat} {l : List Int} {x : Int} (hl : l.length = k) (hs : Sl w2 3 1 A' (k + 1) c' (ints l ++ [.int .i64 x])) : IS w2 A' c' (l ++ [x]) := by
  have e : ints (l ++ [x]) = ints l ++ [.int .i64 x] := by simp [ints]
  unfold IS
  rw [e, List.length_append, hl]
  exact hs
set_option maxRecDepth 100000 in
set_option maxHeartbeats 4000000 in
theorem hgId_any (n : Nat) (w : World) (hn : n ≤ 100) :
    Calls Tryd.prog 176 #[.int .i64 (n : Int)] w fun e w' => ∃ (Ai Ao : Option Addr) (ci co : Nat), e = .returned (.agg #[.int .i64 (n : Int), .slice none 0 0, .slice Ai n ci, .slice Ao n co]) ∧ IS w' Ai ci (rangeI n) ∧ IS w' Ao co (rangeI n) ∧ Below w.heap.size w w' := by
  obtain ⟨W, hW, bW, k0, k1⟩ := alloc2 w (.cells #[.int .i64 0, .slice none 0 0, .slice none 0 0, .slice none 0 0] tGr) (.cells #[.int .i64 (n : Int), .slice none 0 0, .slice none 0 0, .slice none 0 0] tGr)
  have hWs : W.heap.size = w.heap.size + 1 + 1 := by rw [hW]; simp
  have k0_h := Lib.hid k0; have k1_h := Lib.hid k1; have bW_h := Lib.hid bW; clear k0 k1 bW
  go_enter Tryd.func176, Tryd.ntmps176
  go_upto_region 2 with (fail)
  rw [← hW]
  clear hW
  go_wp2_with (fail)
  go_loopw [4] (fun i wr => ∃ (k : Nat) (Ai Ao : Option Addr) (ci co : Nat), k ≤ n ∧ i = .int .i64 k ∧ wr.heap[w.heap.size + 1]? = some (.cells #[.int .i64 (n : Int), .slice none 0 0, .slice Ai k ci, .slice Ao k co] tGr) ∧ IS wr Ai ci (rangeI k) ∧ IS wr Ao co (rangeI k) ∧ (∀ b, b ∈ fpA Ai → ¬ b ∈ fpA Ao) ∧ ((∀ b, b ∈ fpA Ai → w.heap.size ≤ b) ∧ ∀ b, b ∈ fpA Ao → w.heap.size ≤ b) ∧ wr.heap[w.heap.size]? = some (.cells #[.int .i64 0, .slice none 0 0, .slice none 0 0, .slice none 0 0] tGr) ∧ Below w.heap.size w wr) (fun i _ => n - (intOf i).toNat)
  case atStart => exact ⟨0, none, none, 0, 0, Nat.zero_le _, rfl, k1_h.out, Sl.nil _ _ _, Sl.nil _ _ _, fun b hb => (by simp at hb), ⟨fun b hb => (by simp at hb), fun b hb => (by simp at hb)⟩, k0_h.out, bW_h.out⟩
  case round =>
    clear k0_h k1_h bW_h
    obtain ⟨k, Ai, Ao, ci, co, hk, rfl, kx, hi, ho, hap, ⟨hfi, hfo⟩, kr, hbr⟩ := hrel
    obtain ⟨wo, rfl⟩ : ∃ x, x = wr := ⟨_, rfl⟩
    by_cases hlt : k < n
    · have hkI : (k : Int) < (n : Int) := by omega
      have hal := below_alloc wo (.cells #[.int .i64 (k : Int)] 3)
      have hsl : Sl (wo.alloc (.cells #[.int .i64 (k : Int)] 3)) 3 1 Ai k ci (ints (rangeI k)) := by
        have := hi.below hal
        unfold IS at this
        rw [rangeI_length'] at this
        exact this
      have kx1 := box_below kx hal
      have kr1 := box_below kr hal
      have hi1 := hi.below hal
      have ho1 := ho.below hal
      have hlto := ho.lt
      obtain ⟨⟨x0, x1, x2, x3⟩, x4, x5, x6, x7⟩ := box4 kx
      have hb1 := below_trans hbr hal hbr.size
      have hsl_h := Lib.hid hsl; have hal_h := Lib.hid hal; have kx1_h := Lib.hid kx1; have kr1_h := Lib.hid kr1; have hi1_h := Lib.hid hi1; have ho1_h := Lib.hid ho1; have hap_h := Lib.hid hap; have kx_h := Lib.hid kx; have kr_h := Lib.hid kr; have hb1_h := Lib.hid hb1; have hlto_h := Lib.hid hlto; clear hsl hal kx1 kr1 hi1 ho1 hap kx kr hb1 hlto; clear hi ho
      go_upto_region 6 with (at_builtin; refine wpList_append_Sl _ rfl _ _ _ rfl 3 Tryd.underlying33 info_int rfl (by omega) rfl hsl_h.out rfl (news := [.int .i64 (k : Int)]) rfl (Sl.rdc (Sl.laid wo 3 1 1 #[.int .i64 (k : Int)] (by unfold maxLen; omega) rfl)) (by intro u hu; simp at hu; subst hu; rfl) (by unfold maxLen; omega) (by omega) ?_; intro A3 c3 w3 hs3 hA3 hk3; have kx3 := box_keeps kx1_h.out hk3 (fun hb => IS.ne_gr hi1_h.out kx1_h.out _ hb rfl); obtain ⟨⟨y0, y1, y2, y3⟩, y4, y5, y6, y7⟩ := box4 kx3)
      have hi3 : IS w3 A3 c3 (rangeI (k + 1)) := by rw [rangeI_succ]; exact IS.app1 (rangeI_length' k) hs3
      have ho3 := ho1_h.out.keeps hk3 (fun b hb hb' => hap_h.out b hb' hb)
      have kr3 := box_keeps kr1_h.out hk3 (fun hb => IS.ne_gr hi1_h.out kr1_h.out _ hb rfl)
      have hap3 : ∀ b, b ∈ fpA A3 → ¬ b ∈ fpA Ao := fun b hb hb' => by
        rcases hA3 b hb with h | h
        · exact hap_h.out b h hb'
        · have := hlto_h.out b hb'; have := hal_h.out.size; omega
      have hb3 := below_keeps hb1_h.out hk3 hb1_h.out.size hfi
      have hfi3 : ∀ b, b ∈ fpA A3 → w.heap.size ≤ b := fun b hb => by
        rcases hA3 b hb with h | h
        · exact hfi b h
        · have := hb1_h.out.size; omega
      obtain ⟨s1, s2⟩ := set4_2 (b := .slice A3 (k + 1) c3) kx3
      have hi5 := hi3.keeps s2 (fun b hb e => IS.ne_gr hi3 kx3 b hb e)
      have ho5 := ho3.keeps s2 (fun b hb e => IS.ne_gr ho3 kx3 b hb e)
      have kr5 := box_keeps kr3 s2 (by omega)
      have hb5 := below_keeps hb3 s2 hb3.size (fun q e => by omega)
      obtain ⟨W5, hW5⟩ : ∃ W5, W5 = w3.setCell ⟨w.heap.size + 1, 2, none⟩ (.slice A3 (k + 1) c3) := ⟨_, rfl⟩
      rw [← hW5] at s1 hi5 ho5 kr5 hb5 ⊢
      clear hW5 s2 hi3 ho3 kr3 hb3 kx3 hs3 hA3 hk3 x0 x1 x2 x3 x4 x5 x6 x7 hsl_h hal_h kx1_h kr1_h hi1_h ho1_h hap_h kx_h kr_h hb1_h hlto_h y0 y1 y2 y3 y4 y5 y6 y7
      have hal := below_alloc W5 (.cells #[.int .i64 (k : Int)] 3)
      have hsl : Sl (W5.alloc (.cells #[.int .i64 (k : Int)] 3)) 3 1 Ao k co (ints (rangeI k)) := by
        have := ho5.below hal
        unfold IS at this
        rw [rangeI_length'] at this
        exact this
      have kx1 := box_below s1 hal
      have kr1 := box_below kr5 hal
      have hi1 := hi5.below hal
      have ho1 := ho5.below hal
      have hlti := hi5.lt
      have hb1 := below_trans hb5 hal hb5.size
      obtain ⟨⟨x0, x1, x2, x3⟩, x4, x5, x6, x7⟩ := box4 s1
      have hsl_h := Lib.hid hsl; have hal_h := Lib.hid hal; have kx1_h := Lib.hid kx1; have kr1_h := Lib.hid kr1; have hi1_h := Lib.hid hi1; have ho1_h := Lib.hid ho1; have hap3_h := Lib.hid hap3; have hb1_h := Lib.hid hb1; have hlti_h := Lib.hid hlti; have s1_h := Lib.hid s1; have hb5_h := Lib.hid hb5; have hi5_h := Lib.hid hi5; have ho5_h := Lib.hid ho5; have kr5_h := Lib.hid kr5; clear hsl hal kx1 kr1 hi1 ho1 hap3 hb1 hlti s1 hb5 hi5 ho5 kr5
      go_upto_region 4 with (at_builtin; refine wpList_append_Sl _ rfl _ _ _ rfl 3 Tryd.underlying33 info_int rfl (by omega) rfl hsl_h.out rfl (news := [.int .i64 (k : Int)]) rfl (Sl.rdc (Sl.laid W5 3 1 1 #[.int .i64 (k : Int)] (by unfold maxLen; omega) rfl)) (by intro u hu; simp at hu; subst hu; rfl) (by unfold maxLen; omega) (by omega) ?_; intro A6 c6 w6 hs6 hA6 hk6; have kx6 := box_keeps kx1_h.out hk6 (fun hb => IS.ne_gr ho1_h.out kx1_h.out _ hb rfl); obtain ⟨⟨y0, y1, y2, y3⟩, y4, y5, y6, y7⟩ := box4 kx6)
      have ho6 : IS w6 A6 c6 (rangeI (k + 1)) := by rw [rangeI_succ]; exact IS.app1 (rangeI_length' k) hs6
      have hi6 := hi1_h.out.keeps hk6 (fun b hb hb' => hap3_h.out b hb hb')
      have kr6 := box_keeps kr1_h.out hk6 (fun hb => IS.ne_gr ho1_h.out kr1_h.out _ hb rfl)
      have hap6 : ∀ b, b ∈ fpA A3 → ¬ b ∈ fpA A6 := fun b hb hb' => by
        rcases hA6 b hb' with h | h
        · exact hap3_h.out b hb h
        · have := hlti_h.out b hb; have := hal_h.out.size; omega
      have hb6 := below_keeps hb1_h.out hk6 hb1_h.out.size hfo
      have hfo6 : ∀ b, b ∈ fpA A6 → w.heap.size ≤ b := fun b hb => by
        rcases hA6 b hb with h | h
        · exact hfo b h
        · have := hb1_h.out.size; omega
      obtain ⟨s1, s2⟩ := set4_3 (b := .slice A6 (k + 1) c6) kx6
      have hi7 := hi6.keeps s2 (fun b hb e => IS.ne_gr hi6 kx6 b hb e)
      have ho7 := ho6.keeps s2 (fun b hb e => IS.ne_gr ho6 kx6 b hb e)
      have kr7 := box_keeps kr6 s2 (by omega)
      have hb7 := below_keeps hb6 s2 hb6.size (fun q e => by omega)
      clear s2 hi6 ho6 kr6 hb6 hs6 hA6 hk6; have s1_h := Lib.hid s1; have hi7_h := Lib.hid hi7; have ho7_h := Lib.hid ho7; have kr7_h := Lib.hid kr7; have hb7_h := Lib.hid hb7; have hap6_h := Lib.hid hap6; have hfi3_h := Lib.hid hfi3; have hfo6_h := Lib.hid hfo6; clear s1 hi7 ho7 kr7 hb7 hap6 hfi3 hfo6
      go_wp2_with (fail)
      go_roundw
      case rel => exact ⟨k + 1, A3, A6, c3, c6, by omega, by go_num, s1_h.out, hi7_h.out, ho7_h.out, hap6_h.out, ⟨hfi3_h.out, hfo6_h.out⟩, kr7_h.out, hb7_h.out⟩
      case measure => simp [intOf]; omega
    · obtain rfl : n = k := by omega
      obtain ⟨⟨x0, x1, x2, x3⟩, x4, x5, x6, x7⟩ := box4 kx
      obtain ⟨⟨y0, y1, y2, y3⟩, y4, y5, y6, y7⟩ := box4 kr
      obtain ⟨s1, s2⟩ := set4 (a := .int .i64 (n : Int)) (b := .slice none 0 0) (c := .slice Ai n ci) (d := .slice Ao n co) kr
      have hi7 := hi.keeps s2 (fun b hb e => IS.ne_gr hi kr b hb e)
      have ho7 := ho.keeps s2 (fun b hb e => IS.ne_gr ho kr b hb e)
      have hb7 := below_keeps hbr s2 hbr.size (fun q e => by omega)
      clear s2 hi ho hap hfi hfo hbr kx kr; have s1_h := Lib.hid s1; have hi7_h := Lib.hid hi7; have ho7_h := Lib.hid ho7; have hb7_h := Lib.hid hb7; clear s1 hi7 ho7 hb7
      go_wp2_with (fail)
      refine bodyPost_ret (results_cell_row rfl _ _ w.heap.size _ _ (0, 0) _ rfl s1_h.out Tryd.underlying57 rfl (by kernel_rfl)) rfl ?_
      exact ⟨Ai, Ao, ci, co, rfl, hi7_h.out, ho7_h.out, hb7_h.out⟩
end Go.Proofs.YtahnhblodfdfhaaDoor
