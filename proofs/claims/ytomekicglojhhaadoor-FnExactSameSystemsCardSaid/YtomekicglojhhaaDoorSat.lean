/-
  THE WALKS: (System).size, (System).satisfying, impl.canonicalSystem.
-/
import Derived.Test.YtomekicglojhhaaDoorKer
import Derived.Test.YtomekicglojhhaaDoorSyCanon
namespace Go.Proofs.YtomekicglojhhaaDoor
open Go.RowKit

set_option maxHeartbeats 400000 in
theorem sizeV_any {v : Value} {s : Sys} (w : World) (h : RdSysV w v s) (ha : 0 ≤ s.1 ∧ s.1 ≤ 1000) (hb : 0 ≤ s.2.1 ∧ s.2.1 ≤ 1000) :
    Calls Tryd.prog 72 #[v] w fun e w' => e = .returned (.int .i64 (s.1 + s.2.1)) ∧ Below w.heap.size w w' := by
  obtain ⟨A, n, c, rfl⟩ := h.shape
  clear h
  obtain ⟨W, hW⟩ : ∃ W, W = w.alloc (.cells #[.int .i64 s.1, .int .i64 s.2.1, .slice A n c] 27) := ⟨_, rfl⟩
  have hB0 : Below w.heap.size w W := by rw [hW]; exact (Below.refl _ _).alloc (Nat.le_refl _) _
  have k0 : W.heap[w.heap.size]? = some (.cells #[.int .i64 s.1, .int .i64 s.2.1, .slice A n c] 27) := by rw [hW]; exact heap_alloc_new w _
  obtain ⟨⟨c0, c1, c2⟩, f0, f1, f2⟩ := box3 k0
  have HB := Lib.hid hB0
  clear k0 hB0
  go_enter Tryd.func72, Tryd.ntmps72
  go_wp2_with (fail)
  rw [← hW]
  clear hW
  go_wp2_with (fail)
  go_ret
  exact ⟨by go_num, HB.out⟩

theorem pick_range {v : List Int} {k : Nat} (h : k ≤ v.length) : pick v (List.range k) = v.take k := by
  apply List.ext_getElem?
  intro i
  unfold pick
  by_cases hi : i < k
  · rw [List.getElem?_map, List.getElem?_range hi, List.getElem?_take, if_pos hi]
    have : i < v.length := by omega
    simp [List.getD, this]
  · rw [List.getElem?_eq_none (by simpa using hi), List.getElem?_eq_none (by simp; omega)]

/-- What the solutions span. -/
def satM (p : Int) (s : Sys) : List (List Int) := redM p s.1.toNat (solvM p s)
theorem nullM_redM {p : Int} (hp : fieldB p = true) {n : Nat} {L : List (List Int)} (hm : Mat p L.length n L) : nullM p n (redM p n L) = nullM p n L := by
  obtain ⟨h1, _, _⟩ := redM_spec hp hm
  obtain ⟨h2, h3, _⟩ := redM_spec hp h1.1
  have hpb := fieldB_bounds hp
  have e : redM p n (redM p n L) = redM p n L := RedL.unique (by omega) h2 h1 h3
  unfold nullM
  rw [e]

set_option maxRecDepth 100000 in
set_option maxHeartbeats 2000000 in
theorem satisfying_any (p : Int) {v : Value} {s : Sys} (w : World) (h : RdSysV w v s) (hs : SysOk p s) :
    Calls Tryd.prog 81 #[v, .int .i64 p] w (RetSS w (satM p s)) := by
  obtain ⟨A, c, gs, rfl, hL, hR⟩ := h
  obtain ⟨a, b, L⟩ := s
  have hL' : L = gs.map (fun h : Hd => h.2.2) := hL
  subst hL'
  have hva : 0 ≤ a ∧ a ≤ 24 := hs.vis
  have hvb : 0 ≤ b ∧ b ≤ 100 := hs.hid
  obtain ⟨na, rfl⟩ := Int.eq_ofNat_of_zero_le hva.1
  obtain ⟨nb, rfl⟩ := Int.eq_ofNat_of_zero_le hvb.1
  have hgl : gs.length ≤ 160 := by have := hs.len; simpa using this
  have hmat : Mat p gs.length (na + nb) (gs.map fun h : Hd => h.2.2) := by have := hs.mat; rw [List.length_map] at this; exact this
  have hmat' : Mat p (gs.map fun h : Hd => h.2.2).length (na + nb) (gs.map fun h : Hd => h.2.2) := by rw [List.length_map]; exact hmat
  obtain ⟨W, hW⟩ : ∃ W, W = w.alloc (.cells #[.int .i64 (na : Int), .int .i64 (nb : Int), .slice A gs.length c] 27) := ⟨_, rfl⟩
  have hB0 : Below w.heap.size w W := by rw [hW]; exact (Below.refl _ _).alloc (Nat.le_refl _) _
  have k0 : W.heap[w.heap.size]? = some (.cells #[.int .i64 (na : Int), .int .i64 (nb : Int), .slice A gs.length c] 27) := by rw [hW]; exact heap_alloc_new w _
  have hD : Below W.heap.size W W.drew := below_drewN (Below.refl _ _) 1
  have hBd := below_trans hB0 hD hB0.size
  have hS := sizeV_any (s := ((na : Int), (nb : Int), gs.map fun h : Hd => h.2.2)) W.drew ⟨A, c, gs, rfl, rfl, hR.below hBd⟩ (by simp; omega) (by simp; omega)
  have hO := fun (w' : World) (hb : Below W.drew.heap.size W.drew w') => orthogonal_any p (na + nb) A c gs w' ((hR.below hBd).below hb) hs.fld hmat (by omega) (by omega)
  rw [← null_eq_perp hs.fld hmat'] at hO
  have hsolv : solvM p ((na : Int), (nb : Int), gs.map fun h : Hd => h.2.2) = (nullM p (na + nb) (gs.map fun h : Hd => h.2.2)).map fun v => v.take na := rfl
  have hred := nullM_red hs.fld (na + nb) (gs.map fun h : Hd => h.2.2)
  obtain ⟨hsm, hsl⟩ := solvM_mat hs
  have hsat : satM p ((na : Int), (nb : Int), gs.map fun h : Hd => h.2.2) = redM p na (solvM p ((na : Int), (nb : Int), gs.map fun h : Hd => h.2.2)) := rfl
  rw [hsat]
  rw [hsolv] at hsm hsl ⊢
  obtain ⟨X, hX⟩ : ∃ X, X = nullM p (na + nb) (gs.map fun h : Hd => h.2.2) := ⟨_, rfl⟩
  rw [← hX] at hO hred hsm hsl ⊢
  have hsm' : Mat p (X.map fun v => v.take na).length na (X.map fun v => v.take na) := hsm
  obtain ⟨m, hm⟩ : ∃ m, m = X.length := ⟨_, rfl⟩
  have hrl := red_len hred
  rw [← hm] at hrl
  have hpk : (X.map fun v => pick v (List.range na)) = X.map fun v => v.take na := List.map_congr_left fun v hv => pick_range (by rw [(hred.1.row v hv).1]; omega)
  have HM := Lib.hid hm
  have HPK := Lib.hid hpk
  have HSM := Lib.hid hsm'
  have HRED := Lib.hid hred
  have HS := Lib.hid hS
  have HO := Lib.hid hO
  have HP := Lib.hid hs.fld
  have HB := Lib.hid hBd
  have HB0 := Lib.hid hB0
  have K0 := Lib.hid (box_below k0 hD)
  have e0 : ((na : Int) + (nb : Int)) = ((na + nb : Nat) : Int) := by omega
  have E0 := Lib.hid e0
  clear hS hO hred hsm hsm' hpk hm hX hsolv hsat hL hR hs hmat hmat' hBd hB0 hD k0 e0 hsl
  go_enter Tryd.func81, Tryd.ntmps81
  go_wp2_with (fail)
  rw [← hW]
  clear hW
  refine beginH (fun w' => w'.heap[w.heap.size]? = some (.cells #[.int .i64 (na : Int), .int .i64 (nb : Int), .slice A gs.length c] 27)) (by kernel_rfl) ?_
  refine takeH 0 (v := ?_) rfl (by kernel_rfl) (by kernel_rfl) (by kernel_rfl) (fun _ _ _ h => h) K0.out (by rfl) (fun W' hW' => ?_) ?_; rotate_left; · (obtain ⟨⟨c0, c1, c2⟩, f0, f1, f2⟩ := box3 hW'; clear hW'; go_simp; first | done | with_reducible rfl)
  simp only [Act.put, List.setIfInBounds_toArray, List.set_cons_zero, List.set_cons_succ]
  refine takeH 1 (v := ?_) rfl (by kernel_rfl) (by kernel_rfl) (by kernel_rfl) (fun _ _ _ h => h) K0.out (by rfl) (fun W' hW' => ?_) ?_; rotate_left; · (obtain ⟨⟨c0, c1, c2⟩, f0, f1, f2⟩ := box3 hW'; clear hW'; go_simp; first | done | with_reducible rfl)
  simp only [Act.put, List.setIfInBounds_toArray, List.set_cons_zero, List.set_cons_succ]
  refine takeH 2 (v := ?_) rfl (by kernel_rfl) (by kernel_rfl) (by kernel_rfl) (fun _ _ _ h => h) K0.out (by rfl) (fun W' hW' => ?_) ?_; rotate_left; · (obtain ⟨⟨c0, c1, c2⟩, f0, f1, f2⟩ := box3 hW'; clear hW'; go_simp; first | done | with_reducible rfl)
  simp only [Act.put, List.setIfInBounds_toArray, List.set_cons_zero, List.set_cons_succ]
  refine takeH 3 (v := ?_) rfl (by kernel_rfl) (by kernel_rfl) (by kernel_rfl) (fun _ _ _ h => h) K0.out (by rfl) (fun W' hW' => ?_) ?_; rotate_left; · (obtain ⟨⟨c0, c1, c2⟩, f0, f1, f2⟩ := box3 hW'; clear hW'; go_simp; first | done | with_reducible rfl)
  simp only [Act.put, List.setIfInBounds_toArray, List.set_cons_zero, List.set_cons_succ]
  refine' callH 4 (f := _) (args := _) rfl (by kernel_rfl) (by rfl) ?_ ?_; rotate_left 2; · (go_simp; first | done | with_reducible rfl | (constructor <;> with_reducible rfl))
  refine HS.out.mono ?_
  rintro e w1 ⟨rfl, hb1⟩
  refine ⟨_, rfl, box_below K0.out hb1, ?_⟩
  have k1 := box_below K0.out hb1
  have K1 := Lib.hid k1
  have HO1 := Lib.hid (HO.out w1 hb1)
  have hB1 := Lib.hid (below_trans HB.out hb1 HB.out.size)
  simp only [E0.out]
  clear HO HS hb1 k1 K0
  simp only [Act.put, List.setIfInBounds_toArray, List.set_cons_zero, List.set_cons_succ]
  refine' callH 5 (f := _) (args := _) rfl (by kernel_rfl) (by rfl) ?_ ?_; rotate_left 2; · (go_simp; first | done | with_reducible rfl | (constructor <;> with_reducible rfl))
  refine HO1.out.mono ?_
  rintro e w2 hret
  obtain ⟨A2, c2, rfl, hO2⟩ := hret.om
  rw [← HM.out]
  refine ⟨_, rfl, box_below K1.out hO2.below_, ?_⟩
  have K2 := Lib.hid (box_below K1.out hO2.below_)
  have hB2 := Lib.hid (below_trans hB1.out hO2.below_ hB1.out.size)
  obtain ⟨xs, hLx, hrdx⟩ := hO2.rdr
  have hxl : xs.length = m := by rw [HM.out, hLx, List.length_map]
  have HLX := Lib.hid hLx
  have HXL := Lib.hid hxl
  have HRX := Lib.hid hrdx
  clear HO1 hret hO2 K1 hLx hxl hrdx
  simp only [Act.put, List.setIfInBounds_toArray, List.set_cons_zero, List.set_cons_succ]
  refine takeH 6 (v := ?_) rfl (by kernel_rfl) (by kernel_rfl) (by kernel_rfl) (fun _ _ _ h => h) K2.out (by rfl) (fun W' hW' => ?_) ?_; rotate_left; · (clear hW'; go_simp; first | done | with_reducible rfl)
  simp only [Act.put, List.setIfInBounds_toArray, List.set_cons_zero, List.set_cons_succ]
  refine doneH (by kernel_rfl) ?_
  go_wp2_with (fail)
  have hD2 : Below w2.heap.size w2 w2.drew := below_drewN (Below.refl _ _) 1
  have hU := upTo_any na w2.drew (by omega)
  have HU := Lib.hid hU
  have K3 := Lib.hid (box_below K2.out hD2)
  have HRX2 := Lib.hid (HRX.out.below hD2)
  have hB3 := Lib.hid (below_trans hB2.out hD2 hB2.out.size)
  clear hU hD2
  refine beginH (fun w' => w'.heap[w.heap.size]? = some (.cells #[.int .i64 (na : Int), .int .i64 (nb : Int), .slice A gs.length c] 27)) (by kernel_rfl) ?_
  refine takeH 0 (v := ?_) rfl (by kernel_rfl) (by kernel_rfl) (by kernel_rfl) (fun _ _ _ h => h) K3.out (by rfl) (fun W' hW' => ?_) ?_; rotate_left; · (obtain ⟨⟨c0, c1, c2⟩, f0, f1, f2⟩ := box3 hW'; clear hW'; go_simp; first | done | with_reducible rfl)
  simp only [Act.put, List.setIfInBounds_toArray, List.set_cons_zero, List.set_cons_succ]
  refine takeH 1 (v := ?_) rfl (by kernel_rfl) (by kernel_rfl) (by kernel_rfl) (fun _ _ _ h => h) K3.out (by rfl) (fun W' hW' => ?_) ?_; rotate_left; · (obtain ⟨⟨c0, c1, c2⟩, f0, f1, f2⟩ := box3 hW'; clear hW'; go_simp; first | done | with_reducible rfl)
  simp only [Act.put, List.setIfInBounds_toArray, List.set_cons_zero, List.set_cons_succ]
  refine takeH 2 (v := ?_) rfl (by kernel_rfl) (by kernel_rfl) (by kernel_rfl) (fun _ _ _ h => h) K3.out (by rfl) (fun W' hW' => ?_) ?_; rotate_left; · (obtain ⟨⟨c0, c1, c2⟩, f0, f1, f2⟩ := box3 hW'; clear hW'; go_simp; first | done | with_reducible rfl)
  simp only [Act.put, List.setIfInBounds_toArray, List.set_cons_zero, List.set_cons_succ]
  refine takeH 3 (v := ?_) rfl (by kernel_rfl) (by kernel_rfl) (by kernel_rfl) (fun _ _ _ h => h) K3.out (by rfl) (fun W' hW' => ?_) ?_; rotate_left; · (obtain ⟨⟨c0, c1, c2⟩, f0, f1, f2⟩ := box3 hW'; clear hW'; go_simp; first | done | with_reducible rfl)
  simp only [Act.put, List.setIfInBounds_toArray, List.set_cons_zero, List.set_cons_succ]
  refine takeH 6 (v := ?_) rfl (by kernel_rfl) (by kernel_rfl) (by kernel_rfl) (fun _ _ _ h => h) K3.out (by rfl) (fun W' hW' => ?_) ?_; rotate_left; · (obtain ⟨⟨c0, c1, c2⟩, f0, f1, f2⟩ := box3 hW'; clear hW'; go_simp; first | done | with_reducible rfl)
  simp only [Act.put, List.setIfInBounds_toArray, List.set_cons_zero, List.set_cons_succ]
  refine takeH 7 (v := ?_) rfl (by kernel_rfl) (by kernel_rfl) (by kernel_rfl) (fun _ _ _ h => h) K3.out (by rfl) (fun W' hW' => ?_) ?_; rotate_left; · (obtain ⟨⟨c0, c1, c2⟩, f0, f1, f2⟩ := box3 hW'; clear hW'; go_simp; first | done | with_reducible rfl)
  simp only [Act.put, List.setIfInBounds_toArray, List.set_cons_zero, List.set_cons_succ]
  refine' callH 4 (f := _) (args := _) rfl (by kernel_rfl) (by rfl) ?_ ?_; rotate_left 2; · (go_simp; first | done | with_reducible rfl | (constructor <;> with_reducible rfl))
  refine HU.out.mono ?_
  rintro e w4 ⟨A4, c4, rfl, his4, hf4, hb4⟩
  rw [rangeI_length]
  refine ⟨_, rfl, box_below K3.out hb4, ?_⟩
  have K4 := Lib.hid (box_below K3.out hb4)
  have hB4 := Lib.hid (below_trans hB3.out hb4 hB3.out.size)
  have hC := chosenAll_any A2 A4 c2 c4 (na + nb) xs (List.range na) w4 (HRX2.out.below hb4) (fun x hx => (HRED.out.1.row _ (by rw [HLX.out]; exact List.mem_map_of_mem hx)).1) his4.rd (fun i hi => by have := List.mem_range.1 hi; omega) (by omega) (by simp; omega) (by rw [HXL.out]; omega)
  rw [← HLX.out, HXL.out, HPK.out, List.length_range] at hC
  have HC := Lib.hid hC
  clear hC HU his4 hf4 hb4
  simp only [Act.put, List.setIfInBounds_toArray, List.set_cons_zero, List.set_cons_succ]
  refine' callH 5 (f := _) (args := _) rfl (by kernel_rfl) (by rfl) ?_ ?_; rotate_left 2; · (go_simp; first | done | with_reducible rfl | (constructor <;> with_reducible rfl))
  refine HC.out.mono ?_
  rintro e w5 hret
  obtain ⟨A5, c5, rfl, hO5⟩ := hret.om
  rw [List.length_map, ← HM.out]
  refine ⟨_, rfl, box_below K4.out hO5.below_, ?_⟩
  have K5 := Lib.hid (box_below K4.out hO5.below_)
  have hB5 := Lib.hid (below_trans hB4.out hO5.below_ hB4.out.size)
  obtain ⟨ys, hLy, hrdy⟩ := hO5.rdr
  have hml : (X.map fun v => v.take na).length = m := by rw [List.length_map, HM.out]
  have hyl : ys.length = m := by rw [← hml, hLy, List.length_map]
  have hR := reduced_any p na A5 c5 ys w5 hrdy HP.out (by rw [hyl, ← hLy]; have := HSM.out; rwa [hml] at this) (by rw [hyl]; omega) (by omega)
  rw [hyl, ← hLy] at hR
  have HR := Lib.hid hR
  clear hR hyl hml hLy hrdy hO5 hret HC
  simp only [Act.put, List.setIfInBounds_toArray, List.set_cons_zero, List.set_cons_succ]
  refine' callH 8 (f := _) (args := _) rfl (by kernel_rfl) (by rfl) ?_ ?_; rotate_left 2; · (go_simp; first | done | with_reducible rfl | (constructor <;> with_reducible rfl))
  refine HR.out.mono ?_
  rintro e w6 hret
  obtain ⟨A6, c6, rfl, hO6⟩ := hret.om
  refine ⟨_, rfl, box_below K5.out hO6.below_, ?_⟩
  have K6 := Lib.hid (box_below K5.out hO6.below_)
  have HRET := Lib.hid (hret.mono hB5.out)
  clear HR hret hO6
  simp only [Act.put, List.setIfInBounds_toArray, List.set_cons_zero, List.set_cons_succ]
  refine takeH 9 (v := ?_) rfl (by kernel_rfl) (by kernel_rfl) (by kernel_rfl) (fun _ _ _ h => h) K6.out (by rfl) (fun W' hW' => ?_) ?_; rotate_left; · (clear hW'; go_simp; first | done | with_reducible rfl)
  simp only [Act.put, List.setIfInBounds_toArray, List.set_cons_zero, List.set_cons_succ]
  refine doneH (by kernel_rfl) ?_
  go_wp2_with (fail)
  go_ret
  exact HRET.out
end Go.Proofs.YtomekicglojhhaaDoor
