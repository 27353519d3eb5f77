/-
  THE WALKS: a part of a term: tmOwn, slices.Clone, partStart.
-/
import Derived.Test.YtlmnmdahphahfaaTmV
import Derived.Test.YtlmnmdahphahfaaTmLaw
import Derived.Test.YtlmnmdahphahfaaRegZ
namespace Go.Proofs.Ytlmnmdahphahfaa
open Go.RowKit

/-- A new term. -/
def RetTm (w : World) (l : List Nd) (e : Ending) (w' : World) : Prop := ∃ v' fp, e = .returned v' ∧ OwTm w' v' l fp ∧ FreshL w.heap.size fp ∧ Below w.heap.size w w'
set_option maxHeartbeats 1000000 in
theorem tmOwn_any (A : Option Addr) (n c : Nat) (l : List Nd) (w : World) (h : RdN w A l) (hn : n = l.length) (hl : l.length ≤ 1048576) :
    Calls Try.prog 56 #[.slice A n c] w (RetTm w l) := by
  obtain ⟨W, hW⟩ : ∃ W, W = (w.alloc (.cells #[.slice none 0 0] tTerm)).alloc (.cells #[] tNd) := ⟨_, rfl⟩
  obtain ⟨b0, k0, k1, hz⟩ := two_boxes w (.cells #[.slice none 0 0] tTerm) (.cells #[] tNd)
  have hs0 := Sl.laid (w.alloc (.cells #[.slice none 0 0] tTerm)) tNd 3 0 #[] (by unfold maxLen; omega) rfl
  simp only [World.size_alloc] at hs0
  rw [← hW] at b0 k0 k1 hz hs0
  have hr := h.below b0
  subst hn
  obtain ⟨m, hm⟩ : ∃ m, m = l.length := ⟨_, rfl⟩
  rw [← hm] at hl ⊢
  have hnl : (ncs l).length = m * 3 := by rw [ncs_length, hm]
  have b0_h := Lib.hid b0
  have k0_h := Lib.hid k0
  have k1_h := Lib.hid k1
  have hz_h := Lib.hid hz
  have hm_h := Lib.hid hm
  have hnl_h := Lib.hid hnl
  have hr_h := Lib.hid hr
  clear b0 k0 k1 hz hm hnl hr
  clear h
  go_enter Try.func56, Try.ntmps56
  go_upto_region 1 with (fail)
  go_wp2_with (at_builtin; rw [← hW]; refine wpList_append_Sl _ rfl _ _ _ rfl tNd Try.underlying28 info_nd rfl (by omega) rfl hs0 rfl hnl_h.out hr_h.out (ncs_one l) (by unfold maxLen; omega) (by omega) ?_; intro A1 c1 w1 hs1 hA1 hk1; have k2 := box_keeps k0_h.out hk1 (by simp [fpA]); obtain ⟨z0, z1⟩ := bx1 k2)
  have hz1 := hk1.size
  have hz2 := hz_h.out
  have hs2 : NS w1 A1 c1 l := by
    have e0 : 0 + m = l.length := by rw [hm_h.out, Nat.zero_add]
    rw [e0] at hs1
    exact hs1
  have hkp : Keeps (fun k => k = w.heap.size) w1 (w1.setCell ⟨w.heap.size, 0, none⟩ (.slice A1 m c1)) := Keeps.setCell (S := fun k => k = w.heap.size) (Keeps.refl _ w1) (p := ⟨w.heap.size, 0, none⟩) rfl _
  have hx : (w1.setCell ⟨w.heap.size, 0, none⟩ (.slice A1 m c1)).heap[w.heap.size]? = some (.cells #[.slice A1 m c1] tTerm) := by simp [World.setCell, Array.getElem?_modify, k2]
  have hf2 : FreshL (w.heap.size + 1) (fpA A1) := fun b hb => by
    rcases hA1 b hb with h | h
    · have : b = w.heap.size + 1 := by simpa [fpA] using h
      omega
    · omega
  have hN2 := Sl.keeps hs2 hkp (fun b hb e => by have := hf2 b hb; omega)
  have hB1 := below_keeps b0_h.out hk1 (by omega) (fun k hk => by rcases (by simpa [fpA] using hk : k = w.heap.size + 1) with rfl; omega)
  have hB3 := below_keeps hB1 hkp (by omega) (fun k hk => by omega)
  refine bodyPost_ret (results_cell_row rfl _ _ w.heap.size _ _ (0, 0) _ rfl hx Try.underlying30 rfl (by kernel_rfl)) rfl ?_
  exact ⟨_, fpA A1, rfl, ⟨A1, c1, by rw [hm_h.out], hN2, rfl⟩, fun b hb => by have := hf2 b hb; omega, hB3⟩

theorem nil_no {P : Program} {t e : TypeId} (ht : P.underlying t = some (.slice e)) (ad : Addr) (n c : Nat) (W : World) :
    (binOp .eql t (.slice (some ad) n c) (.slice none 0 0)).run P W = .ok (.bool false) W := by
  have hk : ∀ d, (Op.equalIn (d + 1) t (.slice (some ad) n c) (.slice none 0 0)).run P W = .ok false W := by
    intro d
    unfold Op.equalIn
    simp [run_underlying ht]
  have e0 : Op.maxDepth = (Op.maxDepth - 1) + 1 := rfl
  simp only [binOp, Op.equal, Sem.run_bind]
  rw [e0, hk]
  rfl
set_option maxRecDepth 8000 in
set_option maxHeartbeats 1000000 in
theorem cloneN_any (A : Option Addr) (n c : Nat) (l : List Nd) (w : World) (h : RdN w A l) (hn : n = l.length) (h0 : 0 < n) (hl : l.length ≤ 1048576) :
    Calls Try.prog 58 #[.slice A n c] w fun e w' => ∃ A1 c1, e = .returned (.slice A1 n c1) ∧ NS w' A1 c1 l ∧ FreshL w.heap.size (fpA A1) ∧ Below w.heap.size w w' := by
  obtain ⟨W, hW⟩ : ∃ W, W = w.alloc (.cells #[] tNd) := ⟨_, rfl⟩
  have b0 := below_alloc w (.cells #[] tNd)
  have hz : W.heap.size = w.heap.size + 1 := by rw [hW]; simp
  have hs0 := Sl.laid w tNd 3 0 #[] (by unfold maxLen; omega) rfl
  rw [← hW] at b0 hs0
  have hr := h.below b0
  subst hn
  obtain ⟨m, hm⟩ : ∃ m, m = l.length := ⟨_, rfl⟩
  rw [← hm] at hl h0 ⊢
  have hnl : (ncs l).length = m * 3 := by rw [ncs_length, hm]
  obtain ⟨ad, k, v, s, rfl, -, -⟩ := h.at_ (j := 0) (by omega)
  have b0_h := Lib.hid b0
  have hz_h := Lib.hid hz
  have hm_h := Lib.hid hm
  have hnl_h := Lib.hid hnl
  have hr_h := Lib.hid hr
  clear b0 hz hm hnl hr
  clear h
  have hnil := fun W => nil_no (P := Try.prog) Try.underlying28 ad m c W
  go_enter Try.func58, Try.ntmps58
  go_upto_region 3 with (fail)
  go_wp2_with (at_builtin; rw [← hW]; refine wpList_append_Sl _ rfl _ _ _ rfl tNd Try.underlying28 info_nd rfl (by omega) rfl hs0 rfl hnl_h.out hr_h.out (ncs_one l) (by unfold maxLen; omega) (by omega) ?_; intro A1 c1 w1 hs1 hA1 hk1)
  have hz1 := hk1.size
  have hz2 := hz_h.out
  have hs2 : NS w1 A1 c1 l := by
    have e0 : 0 + m = l.length := by rw [hm_h.out, Nat.zero_add]
    rw [e0] at hs1
    exact hs1
  go_ret
  refine ⟨A1, c1, rfl, hs2, fun b hb => ?_, below_keeps b0_h.out hk1 (by omega) (fun k hk => by rcases (by simpa [fpA] using hk : k = w.heap.size) with rfl; omega)⟩
  rcases hA1 b hb with h | h
  · have : b = w.heap.size := by simpa [fpA] using h
    omega
  · omega
end Go.Proofs.Ytlmnmdahphahfaa
