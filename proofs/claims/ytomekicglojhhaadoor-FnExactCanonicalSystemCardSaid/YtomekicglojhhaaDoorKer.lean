/-
  THE WALKS: impl.kernel, impl.orthogonal.
-/
import Derived.Test.YtomekicglojhhaaDoorTrans
namespace Go.Proofs.YtomekicglojhhaaDoor
open Go.RowKit

theorem redTo_mat3 {p : Int} (hp : fieldB p = true) {m n : Nat} {L A : List (List Int)} (hm : Mat p m n L) (hA : Mat p m m A) : ∀ c, c ≤ n → Mat p m m (redTo p L A c).2.2
  | 0, _ => hA
  | c + 1, hc => by
    have hpb := fieldB_bounds hp
    obtain ⟨ld, hR⟩ := redTo_inv hp hm A c (by omega)
    have h1 := redTo_mat3 hp hm hA c (by omega)
    rw [redTo]
    obtain ⟨s, hs⟩ : ∃ s, s = redTo p L A c := ⟨_, rfl⟩
    rw [← hs] at hR h1 ⊢
    rcases colStep_cases hp (show c < n by omega) hR.mat hR.inv.le with ⟨e, _⟩ | ⟨k, iv, k1, k2, k3, _, _, k6, k7, k8⟩
    · rw [e]; exact h1
    · rw [k7]
      have hr : s.1 < m := by omega
      have hse := step_en (p := p) (by omega) h1 hr k2 iv (fun i => en (scaleL p s.1 iv (swapL s.2.1 s.1 k)) i c)
      rw [h1.len]
      exact hse.1

theorem Mat.drop {p : Int} {m n r : Nat} {L : List (List Int)} (h : Mat p m n L) : Mat p (m - r) n (L.drop r) :=
  ⟨by rw [List.length_drop, h.len], fun v hv => h.row v (List.mem_of_mem_drop hv)⟩
theorem RdR.cut {w : World} {A A' : Option Addr} {n : Nat} {hs : List Hd} (h : RdR w A hs) {r c : Nat} (hsl : Sl w 47 1 A' n c ((hs.drop r).map Hd.val)) : RdR w A' (hs.drop r) := by
  refine ⟨fun i x hx => ?_, fun x hx => h.2 x (List.mem_of_mem_drop hx)⟩
  obtain ⟨ad, hA, _, hc, _⟩ := hsl.cell (j := i) (u := x.val) (by rw [List.getElem?_map, hx]; rfl)
  exact ⟨ad, hA, hc⟩

set_option maxRecDepth 100000 in
theorem kernel_any (p : Int) (n : Nat) (A : Option Addr) (c : Nat) (hs : List Hd) (w : World) (h : RdR w A hs) (hp : fieldB p = true) (hm : Mat p hs.length n (hs.map fun h : Hd => h.2.2)) (hl : hs.length ≤ 1048576) (hn : n ≤ 1048576) :
    Calls Tryd.prog 142 #[.int .i64 p, .slice A hs.length c, .int .i64 n] w (RetSS w (kerM p n (hs.map fun h : Hd => h.2.2))) := by
  have hC := clones_any A c hs w h hl (fun x hx => by have := (hm.row _ (List.mem_map_of_mem hx)).1; omega)
  obtain ⟨L, hLh⟩ : ∃ L, L = hs.map fun h : Hd => h.2.2 := ⟨_, rfl⟩
  rw [← hLh] at hm hC ⊢
  obtain ⟨m, hmm⟩ : ∃ m, m = hs.length := ⟨_, rfl⟩
  rw [← hmm] at hl hm hC ⊢
  have hpb := fieldB_bounds hp
  have HC := Lib.hid hC
  have HMat := Lib.hid hm
  have HL := Lib.hid hm.len
  clear hC hLh hmm hm h
  go_enter Tryd.func142, Tryd.ntmps142
  go_wp2_with (fail)
  refine HC.out.mono ?_
  rintro e w1 hret
  obtain ⟨A1, c1, rfl, hO1⟩ := hret.om
  rw [HL.out]
  have hI := Lib.hid (identityRows_any m w1 hl)
  clear hret
  go_wp2_with (fail)
  refine hI.out.mono ?_
  rintro e w2 hret
  obtain ⟨A2, c2, rfl, hO2⟩ := hret.om
  rw [show (idM m).length = m by simp [idM]]
  clear hret
  obtain ⟨fp, hR1, hfr, hlt⟩ := hO1.rw_
  have hR2 := hR1.below hO2.below_
  obtain ⟨fp2, hK, hfr2, hlt2⟩ := hO2.rw_
  have hmI : Mat p m m (idM m) := idM_mat (by omega) m
  have hRd := reduction_any p n m m A1 c1 L fp A2 c2 (idM m) fp2 w2 hR2 hK (fun b hb hb' => by
    have := hlt b hb
    have := hfr2 b hb'
    omega) (fun b hb => Nat.lt_of_lt_of_le (hlt b hb) hO2.size) hlt2 hp HMat.out hmI hl hn hl
  have hB2 : Below w.heap.size w w2 := below_trans hO1.below_ hO2.below_ hO1.below_.size
  have hres : kerM p n L = redM p m ((redTo p L (idM m) n).2.2.drop (redTo p L (idM m) n).1) := by unfold kerM; rw [HL.out]
  have hM3 := redTo_mat3 hp HMat.out hmI n (Nat.le_refl n)
  have hRm := (redTo_mat hp HMat.out (idM m) (Nat.le_refl n)).2
  obtain ⟨R, hR⟩ : ∃ R, R = (redTo p L (idM m) n).1 := ⟨_, rfl⟩
  obtain ⟨M, hM⟩ : ∃ M, M = (redTo p L (idM m) n).2.2 := ⟨_, rfl⟩
  rw [← hR, ← hM] at hRd hres
  rw [← hM] at hM3
  rw [← hR] at hRm
  have HRd := Lib.hid hRd
  have HRES := Lib.hid hres
  have HM3 := Lib.hid hM3
  have HP := Lib.hid hp
  have HFR := Lib.hid hfr
  have HFR2 := Lib.hid (hfr2.mono hO1.size)
  clear hRd hres hK hR1 hR2 hmI hO1 hO2 hR hM hp hfr hfr2 hlt hlt2 hM3
  go_wp2_with (fail)
  refine HRd.out.mono ?_
  rintro e w3 ⟨rfl, _, h2, hk3⟩
  have hB3 : Below w.heap.size w w3 := below_keeps hB2 hk3 hB2.size fun b hb => by
    rcases hb with hb | hb
    · exact HFR.out b hb
    · exact HFR2.out b hb
  obtain ⟨gs, hLg, hO, hf, h0⟩ := h2.om (w0 := w) HFR2.out hB3
  have hgl : gs.length = m := by
    have := congrArg List.length hLg
    rw [HM3.out.len, List.length_map] at this; omega
  have hsl : Sl w3 47 1 A2 m c2 (gs.map Hd.val) := by have := hO.sl; rwa [hgl] at this
  have hRd3 := Lib.hid hO.rd
  have HG := Lib.hid hLg
  have HGL := Lib.hid hgl
  have hmc := hsl.2.1
  clear hLg hgl h2 hO hf
  go_wp2_with (refine wpList_slice_Sl rfl (.tmp 21) (some (.tmp 22)) none none 22 rfl 47 Tryd.underlying22 info_ints rfl hsl R m c2 (optSome (by omega)) (optNone ⟨rfl, rfl⟩) (optNone rfl) (by omega) (Nat.le_refl _) (by omega) (Nat.le_refl _) ?_; intro A3 hcut hfp _)
  have hcut' : Sl w3 47 1 A3 (m - R) (c2 - R) ((gs.drop R).map Hd.val) := by
    have := hcut
    simp only [Nat.mul_one] at this
    rw [List.take_of_length_le (by simp [HGL.out]), ← List.map_drop] at this
    exact this
  have hdl : (gs.drop R).length = m - R := by rw [List.length_drop, HGL.out]
  have hmd : Mat p (gs.drop R).length m ((gs.drop R).map fun h : Hd => h.2.2) := by
    rw [hdl, List.map_drop, ← HG.out]; exact HM3.out.drop
  have hC3 := reduced_any p m A3 (c2 - R) (gs.drop R) w3 (RdR.cut hRd3.out hcut') HP.out hmd (by omega) hl
  rw [hdl, List.map_drop, ← HG.out, ← HRES.out] at hC3
  have HC3 := Lib.hid hC3
  clear hC3 hmd hdl hcut' hcut hsl
  go_wp2_with (fail)
  refine HC3.out.mono ?_
  rintro e w4 hret
  obtain ⟨A4, c4, rfl, hO4⟩ := hret.om
  go_wp2_with (fail)
  go_ret
  exact hret.mono hB3

set_option maxRecDepth 100000 in
theorem orthogonal_any (p : Int) (n : Nat) (A : Option Addr) (c : Nat) (hs : List Hd) (w : World) (h : RdR w A hs) (hp : fieldB p = true) (hm : Mat p hs.length n (hs.map fun h : Hd => h.2.2)) (hl : hs.length ≤ 1048576) (hn : n ≤ 1048576) :
    Calls Tryd.prog 122 #[.int .i64 p, .slice A hs.length c, .int .i64 n] w (RetSS w (perpM p n (hs.map fun h : Hd => h.2.2))) := by
  have hpb := fieldB_bounds hp
  have hC := transposed_any A c n hs w h (fun x hx => (hm.row _ (List.mem_map_of_mem hx)).1) hn hl
  have hT := transM_mat (p := p) (by omega) hm
  have hpe : perpM p n (hs.map fun h : Hd => h.2.2) = kerM p hs.length (transM (hs.map fun h : Hd => h.2.2) n) := by unfold perpM; rw [List.length_map]
  rw [hpe]
  obtain ⟨m, hmm⟩ : ∃ m, m = hs.length := ⟨_, rfl⟩
  rw [← hmm] at hl hC hT ⊢
  obtain ⟨T, hTT⟩ : ∃ T, T = transM (hs.map fun h : Hd => h.2.2) n := ⟨_, rfl⟩
  rw [← hTT] at hC hT ⊢
  have HC := Lib.hid hC
  have HT := Lib.hid hT
  have HP := Lib.hid hp
  clear hC hT hp hpe hm hmm hTT h
  go_enter Tryd.func122, Tryd.ntmps122
  go_wp2_with (fail)
  refine HC.out.mono ?_
  rintro e w1 hret
  obtain ⟨A1, c1, rfl, hO1⟩ := hret.om
  rw [HT.out.len]
  obtain ⟨gs, hLg, hrd⟩ := hO1.rdr
  have hgl : gs.length = n := by
    have := congrArg List.length hLg
    rw [HT.out.len, List.length_map] at this; omega
  have hmg : Mat p gs.length m (gs.map fun h : Hd => h.2.2) := by rw [hgl, ← hLg]; exact HT.out
  have hC2 := kernel_any p m A1 c1 gs w1 hrd HP.out hmg (by omega) hl
  rw [hgl, ← hLg] at hC2
  have HC2 := Lib.hid hC2
  have hB1 := hO1.below_
  clear hC2 hmg hgl hLg hrd hret hO1
  go_wp2_with (fail)
  refine HC2.out.mono ?_
  rintro e w2 hret
  obtain ⟨A2, c2, rfl, hO2⟩ := hret.om
  go_wp2_with (fail)
  go_ret
  exact hret.mono hB1
end Go.Proofs.YtomekicglojhhaaDoor
