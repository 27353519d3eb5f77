/-
  THE WALKS: tmTidy of the reference.
-/
import Derived.Test.YtlmnmdahphahfaaTmTm
import Derived.Deep.DeepCutAuto
namespace Go.Proofs.Ytlmnmdahphahfaa
open Go.RowKit

theorem id_cell {w : World} {A : Option Addr} {c : Nat} {t : Tr} (h : NS w A c (flat t)) (hi : isIdT t = true) : ∃ ad, A = some ad ∧ (flat t).length = 1 ∧ w.cell? ⟨ad.block, ad.off + 1, none⟩ = some (.int .i64 (valT t)) := by
  cases t with
  | node p a b => cases hi
  | leaf nd =>
    obtain ⟨k, x, s⟩ := nd
    obtain ⟨ad, k', x', s', hA, hl, -, c1, -⟩ := h.rd.at_ (j := 0) (by simp [flat])
    obtain ⟨rfl, rfl, rfl⟩ : k' = k ∧ x' = x ∧ s' = s := by simpa [flat, eq_comm] using hl
    rw [Nat.zero_mul, add0] at c1
    exact ⟨ad, hA, rfl, c1⟩
theorem OwTs.set_last {w : World} {vs : List Value} {f : List Tr} {q n : Nat} {t : Tr} {A : Option Addr} {c : Nat} (h : OwTs w vs f) (hq : f.length = q + 1) (hn : n = (flat t).length) (hN : NS w A c (flat t)) : OwTs w (vs.set q (.slice A n c)) (f.dropLast ++ [t]) := by
  rw [← _root_.Go.Proofs.Ytlmnmdahphahfaa.set_last hq]
  refine ⟨by simp [h.len], fun j u hj => ?_⟩
  by_cases e : q = j
  · subst e
    rw [List.getElem?_set_self (by omega)] at hj
    obtain rfl := Option.some.inj hj
    exact ⟨A, c, by rw [List.getElem?_set_self (by rw [h.len]; omega), hn], hN⟩
  · rw [List.getElem?_set_ne e] at hj
    obtain ⟨A', c', h1, h2⟩ := h.at_ j u hj
    exact ⟨A', c', by rw [List.getElem?_set_ne e]; exact h1, h2⟩
theorem OwTs.cons_of {w : World} {vs : List Value} {f : List Tr} {a : Tr} {r : List Tr} (h : OwTs w vs f) (hf : f = a :: r) : ∃ u, vs = u :: vs.tail := by
  cases vs with
  | nil => have := h.len; rw [hf] at this; cases this
  | cons u r => exact ⟨u, rfl⟩
theorem OwTs.tail_ {w : World} {vs : List Value} {a : Tr} {r : List Tr} (h : OwTs w vs (a :: r)) : OwTs w vs.tail r := by
  cases vs with
  | nil => have := h.len; cases this
  | cons u s => exact ⟨by simpa using h.len, fun j t hj => h.at_ (j + 1) t (by simpa using hj)⟩
theorem RdC.tailV {w : World} {ad : Addr} {vs : List Value} (h : RdC w (some ad) vs) (hv : ∃ u, vs = u :: vs.tail) : RdC w (some ⟨ad.block, ad.off + 1, none⟩) vs.tail := fun j u hj => by
  obtain ⟨x, hx⟩ := hv
  obtain ⟨ad', e, hc⟩ := h (j + 1) u (by rw [hx]; simpa using hj)
  obtain rfl := Option.some.inj e
  refine ⟨_, rfl, ?_⟩
  rw [show (⟨ad.block, ad.off + 1, none⟩ : Addr) = ad.add 1 from (add_suc ad 0).symm, add_of_add, Nat.add_comm]
  exact hc
theorem midL_sz {f s : List Tr} (hf : f ≠ []) (hs : s ≠ []) : szL (midL f s) + (midL f s).length ≤ szL f + f.length + (szL s + s.length) := by
  unfold midL
  split
  · have h1 := last_split hf
    have h2 := head_split hs
    have p1 := sz_pos (lastL f)
    have p2 := sz_pos (headL s)
    have e1 : szL f = szL f.dropLast + sz (lastL f) := by conv => lhs; rw [h1, szL_append]; simp [szL]
    have e2 : szL s = sz (headL s) + szL s.tail := by conv => lhs; rw [h2]; simp [szL]
    have l1 : f.length = f.dropLast.length + 1 := by
      have h0 : f.length ≠ 0 := by simpa using hf
      rw [List.length_dropLast]; omega
    have l2 : s.length = s.tail.length + 1 := by
      have h0 : s.length ≠ 0 := by simpa using hs
      rw [List.length_tail]; omega
    rw [szL_append, List.length_append]
    simp only [szL, List.length_cons]
    have e3 : sz (idT (valT (lastL f) + valT (headL s))) = 1 := rfl
    omega
  · rw [szL_append, List.length_append]; omega
end Go.Proofs.Ytlmnmdahphahfaa
