/-
  THE WALKS under impl.eliminateLast: its closure, slices.IndexFunc.
-/
import Derived.Test.YtahnhblodfdfhaaDoorRowsOp
namespace Go.Proofs.YtahnhblodfdfhaaDoor
open Go.RowKit

theorem elimClosure_any (B : Option Addr) (d n c g : Nat) (l : List Int) (w : World) (h : RdI w B l) (hl : l.length = n) (hc : c < n) (hg : w.cell? ⟨g, 0, none⟩ = some (.int .i64 c)) :
    Calls Tryd.prog 107 #[.slice B n d, .pointer (some ⟨g, 0, none⟩)] w fun e w' => e = .returned (.bool (l.getD c 0 != 0)) ∧ w' = w := by
  obtain ⟨ad, x, hB, hx, hcx⟩ := h.at_ (j := c) (by omega)
  subst hB
  have hxe : l.getD c 0 = x := by simp [List.getD, hx]
  rw [hxe]
  have hcn : (c : Int) < (n : Int) := by omega
  clear hxe hx hl h
  go_enter Tryd.func107, Tryd.ntmps107
  go_wp2_with (fail)
  go_ret
  exact ⟨rfl, rfl⟩

/-- The first row that is not zero at c. -/
def pvI (L : List (List Int)) (c : Nat) : Nat := L.findIdx fun v => v.getD c 0 != 0
theorem pvI_step {L : List (List Int)} {c k : Nat} (h : ∀ i, i < k → (L.getD i []).getD c 0 = 0) (hk : k < L.length) (hx : (L.getD k []).getD c 0 ≠ 0) : pvI L c = k := by
  unfold pvI
  refine List.findIdx_eq hk |>.2 ⟨?_, fun i hi => ?_⟩
  · have : L.getD k [] = L[k] := by simp [List.getD, hk]
    rw [← this]; simpa using hx
  · have hi' : i < L.length := by omega
    have e : L.getD i [] = L[i] := by simp [List.getD, hi']
    rw [← e]; simpa using h i hi
theorem pvI_none {L : List (List Int)} {c : Nat} (h : ∀ i, i < L.length → (L.getD i []).getD c 0 = 0) : pvI L c = L.length := by
  unfold pvI
  refine List.findIdx_eq_length.2 fun v hv => ?_
  obtain ⟨i, hi, rfl⟩ := List.getElem_of_mem hv
  have e : L.getD i [] = L[i] := by simp [List.getD, hi]
  rw [← e]; simpa using h i hi

set_option maxHeartbeats 1000000 in
theorem indexFunc_any (A : Option Addr) (cap n c g : Nat) (hs : List Hd) (w : World) (h : RdR w A hs) (hrow : ∀ x, x ∈ hs → x.2.2.length = n) (hc : c < n) (hg : w.cell? ⟨g, 0, none⟩ = some (.int .i64 c)) (hl : hs.length ≤ 1048576) :
    Calls Tryd.prog 106 #[.slice A hs.length cap, .func (.func 107) #[] #[.pointer (some ⟨g, 0, none⟩)]] w fun e w' =>
      e = .returned (.int .i64 (if pvI (hs.map fun h : Hd => h.2.2) c < hs.length then (pvI (hs.map fun h : Hd => h.2.2) c : Int) else -1)) ∧ w' = w := by
  obtain ⟨L, hLh⟩ : ∃ L, L = hs.map fun h : Hd => h.2.2 := ⟨_, rfl⟩
  rw [← hLh]
  obtain ⟨m, hmm⟩ : ∃ m, m = hs.length := ⟨_, rfl⟩
  rw [← hmm] at hl ⊢
  have HLh := Lib.hid hLh
  have HM := Lib.hid hmm
  have hLen := Lib.hid (show L.length = m by rw [hLh, List.length_map, hmm])
  have HROW := Lib.hid hrow
  obtain ⟨r, hr⟩ : ∃ r : Int, r = if pvI L c < m then (pvI L c : Int) else -1 := ⟨_, rfl⟩
  rw [← hr]
  have HR := Lib.hid hr
  have HG := Lib.hid hg
  clear hLh hmm hrow hr hg
  go_enter Tryd.func106, Tryd.ntmps106
  go_wp2_with (fail)
  go_loopw [8] (fun i wr => ∃ k : Nat, k ≤ m ∧ i = .int .i64 k ∧ (∀ i, i < k → (L.getD i []).getD c 0 = 0) ∧ wr = w) (fun i _ => m - (intOf i).toNat)
  case atStart => exact ⟨0, Nat.zero_le _, rfl, fun i hi => by omega, rfl⟩
  case round =>
    obtain ⟨k, hk, rfl, hz, rfl⟩ := hrel
    by_cases hlt : k < m
    · obtain ⟨ad, C, d, l, rfl, hx, hcx, hri⟩ := h.at_ (k := k) (by rw [← HM.out]; exact hlt)
      have hlx : L.getD k [] = l := by rw [HLh.out]; simp [List.getD, hx]
      have hll : l.length = n := HROW.out _ (List.mem_of_getElem? hx)
      have hC := elimClosure_any C d n c g l wr hri hll hc HG.out
      rw [hll] at hcx
      have HX := Lib.hid hlx
      have HZ := Lib.hid hz
      have hkI : (k : Int) < (m : Int) := by omega
      by_cases h0 : l.getD c 0 = 0
      · have e : (l.getD c 0 != 0) = false := by rw [h0]; rfl
        rw [e] at hC
        have HC := Lib.hid hC
        have H0 := Lib.hid h0
        clear hx hlx hll hC h hz hri e h0
        go_wp2_with (fail)
        refine HC.out.mono ?_
        rintro e w1 ⟨rfl, rfl⟩
        go_wp2_with (fail)
        go_roundw
        case rel => exact ⟨k + 1, by omega, by go_num, fun i hi => by
          by_cases hik : i < k
          · exact HZ.out i hik
          · obtain rfl : i = k := by omega
            rw [HX.out]; exact H0.out, trivial⟩
        case measure => simp [intOf]; omega
      · have e : (l.getD c 0 != 0) = true := by simpa using h0
        rw [e] at hC
        have hpv : pvI L c = k := pvI_step hz (by rw [hLen.out]; exact hlt) (by rw [hlx]; exact h0)
        have hr : r = (k : Int) := by rw [HR.out, hpv, if_pos hlt]
        have HC := Lib.hid hC
        subst hr
        clear hx hlx hll hC h hz hri e h0 hpv HR
        go_wp2_with (fail)
        refine HC.out.mono ?_
        rintro e w1 ⟨rfl, rfl⟩
        go_wp2_with (fail)
        go_ret
        exact ⟨rfl, rfl⟩
    · obtain rfl : m = k := by omega
      have hpv : pvI L c = m := by rw [pvI_none (by rw [hLen.out]; exact hz), hLen.out]
      have hr : r = -1 := by rw [HR.out, hpv, if_neg (by omega)]
      subst hr
      clear h hz hpv HR
      go_wp2_with (fail)
      go_ret
      exact ⟨rfl, rfl⟩
end Go.Proofs.YtahnhblodfdfhaaDoor
