/-
  OWNED ROWS WITHIN A LIST OF BLOCKS: RwF w A cap L fp: the header (A, L.length, cap) holds the rows L, all in blocks of fp.
-/
import Derived.Test.YtahnhblodfdfhaaDoorOM
import Derived.Test.YtahnhblodfdfhaaDoorRedM
namespace Go.Proofs.YtahnhblodfdfhaaDoor
open Go.RowKit

def RwF (w : World) (A : Option Addr) (cap : Nat) (L : List (List Int)) (fp : List Nat) : Prop :=
  ∃ hs : List Hd, L = hs.map (fun h : Hd => h.2.2) ∧ OwR w A cap hs ∧ ∀ b, b ∈ fpA A ++ fpR hs → b ∈ fp

section
variable {w0 w w' : World} {A : Option Addr} {cap : Nat} {L : List (List Int)} {fp : List Nat}
theorem OM.rw_ (h : OM w0 w A cap L) : ∃ fp, RwF w A cap L fp ∧ FreshL w0.heap.size fp ∧ LtL w.heap.size fp := by
  obtain ⟨hs, hL, hO, hf, h0⟩ := h
  exact ⟨fpA A ++ fpR hs, ⟨hs, hL, hO, fun b hb => hb⟩, hf, hO.lt⟩
theorem RwF.om (h : RwF w A cap L fp) (hf : FreshL w0.heap.size fp) (h0 : Below w0.heap.size w0 w) : OM w0 w A cap L := by
  obtain ⟨hs, hL, hO, hfp⟩ := h
  exact ⟨hs, hL, hO, fun b hb => hf b (hfp b hb), h0⟩
theorem RwF.below (h : RwF w A cap L fp) (hb : Below w.heap.size w w') : RwF w' A cap L fp := by
  obtain ⟨hs, hL, hO, hfp⟩ := h; exact ⟨hs, hL, hO.below hb, hfp⟩
theorem RwF.keeps {S : Nat → Prop} (h : RwF w A cap L fp) (hk : Keeps S w w') (hS : ∀ b, b ∈ fp → ¬ S b) : RwF w' A cap L fp := by
  obtain ⟨hs, hL, hO, hfp⟩ := h; exact ⟨hs, hL, hO.keeps hk fun b hb => hS b (hfp b hb), hfp⟩
theorem RwF.drew (h : RwF w A cap L fp) : RwF w.drew A cap L fp := h.below (below_drewN (Below.refl _ _) 1)
theorem RwF.get (h : RwF w A cap L fp) {i : Nat} (hi : i < L.length) : ∃ ad B c, A = some ad ∧ w.cell? (ad.add i) = some (.slice B (L.getD i []).length c) ∧ w.frozen? (ad.add i) = false ∧ IS w B c (L.getD i []) ∧ ∀ b, b ∈ fpA B → b ∈ fp := by
  obtain ⟨hs, rfl, hO, hf⟩ := h
  obtain ⟨ad, B, c, l, hA, hx, hc, hz, hi'⟩ := hO.get (i := i) (by simpa using hi)
  rw [getD_map_hd hx]
  exact ⟨ad, B, c, hA, hc, hz, hi', fun b hb => hf b (List.mem_append_right _ (mem_fpR.2 ⟨_, List.mem_of_getElem? hx, hb⟩))⟩
/-- Two rows lie apart. -/
theorem RwF.apart (h : RwF w A cap L fp) {i k : Nat} (hi : i < L.length) (hk : k < L.length) (hne : i ≠ k) {ad : Addr} (hA : A = some ad) {B C : Option Addr} {n c n' c' : Nat} (hB : w.cell? (ad.add i) = some (.slice B n c)) (hC : w.cell? (ad.add k) = some (.slice C n' c')) : ∀ b, b ∈ fpA B → b ∉ fpA C := by
  obtain ⟨hs, rfl, hO, hf⟩ := h
  obtain ⟨ad1, B1, c1, l1, hA1, hx1, hc1, _⟩ := hO.get (i := i) (by simpa using hi)
  obtain ⟨ad2, B2, c2, l2, hA2, hx2, hc2, _⟩ := hO.get (i := k) (by simpa using hk)
  rw [hA] at hA1 hA2
  obtain rfl := Option.some.inj hA1
  obtain rfl := Option.some.inj hA2
  rw [hB] at hc1; rw [hC] at hc2
  injection hc1 with hc1; injection hc1 with e1 _ _
  injection hc2 with hc2; injection hc2 with e2 _ _
  subst e1 e2
  exact hO.apart_get hx1 hx2 hne
theorem RwF.wr (h : RwF w A cap L fp) {i : Nat} (hi : i < L.length) {ad : Addr} (hA : A = some ad) {B : Option Addr} {n c : Nat} (hc : w.cell? (ad.add i) = some (.slice B n c)) {l' : List Int} (hl : l'.length = (L.getD i []).length) (hw : Wr w w' B (ints l')) : RwF w' A cap (L.set i l') fp ∧ Keeps (· ∈ fp) w w' := by
  obtain ⟨hs, rfl, hO, hf⟩ := h
  obtain ⟨ad', B', c', l, hA', hx, hc', hz, hi'⟩ := hO.get (i := i) (by simpa using hi)
  rw [hA] at hA'
  obtain rfl := Option.some.inj hA'
  rw [hc] at hc'
  injection hc' with hc'
  injection hc' with e1 e2 e3
  subst e1
  rw [getD_map_hd hx] at hl
  have hm := List.mem_of_getElem? hx
  refine ⟨⟨hs.set i (B, c', l'), by rw [List.map_set], hO.wr hx hw hl, fun b hb => ?_⟩, hw.1.mono fun b _ hb => hf b (List.mem_append_right _ (mem_fpR.2 ⟨_, hm, hb⟩))⟩
  rcases List.mem_append.1 hb with hb | hb
  · exact hf b (List.mem_append_left _ hb)
  · exact hf b (List.mem_append_right _ (fpR_set hx b hb))
theorem RwF.set (h : RwF w A cap L fp) {i : Nat} (hi : i < L.length) {ad : Addr} (hA : A = some ad) {bd : Addr} {n c : Nat} (hc : w.cell? (ad.add i) = some (.slice (some bd) n c)) {j : Nat} (hj : j < (L.getD i []).length) (x : Int) :
    RwF (w.setCell (bd.add j) (.int .i64 x)) A cap (L.set i ((L.getD i []).set j x)) fp ∧ Keeps (· ∈ fp) w (w.setCell (bd.add j) (.int .i64 x)) := by
  obtain ⟨ad', B, c', hA', hc', _, hI, _⟩ := h.get hi
  rw [hA] at hA'
  obtain rfl := Option.some.inj hA'
  have hc2 := hc'
  rw [hc] at hc2
  injection hc2 with hc2
  injection hc2 with e1 e2 e3
  exact h.wr hi hA hc (by simp) (IS.wr1 (e1 ▸ hI) rfl hj x)
theorem RwF.swap (h : RwF w A cap L fp) {r k : Nat} (hr : r < L.length) (hk : k < L.length) {ad : Addr} (hA : A = some ad) {V U : Value} (hV : w.cell? (ad.add k) = some V) (hU : w.cell? (ad.add r) = some U) :
    RwF ((w.setCell (ad.add r) V).setCell (ad.add k) U) A cap (swapL L r k) fp ∧ Keeps (· ∈ fp) w ((w.setCell (ad.add r) V).setCell (ad.add k) U) := by
  obtain ⟨hs, rfl, hO, hf⟩ := h
  have hr' : r < hs.length := by simpa using hr
  have hk' : k < hs.length := by simpa using hk
  have cellOf : ∀ i (hi : i < hs.length) X, w.cell? (ad.add i) = some X → X = hs[i].val := by
    intro i hi X hX
    obtain ⟨ad', B, c, l, hA', hx, hc, _⟩ := hO.get (i := i) hi
    rw [hA] at hA'
    obtain rfl := Option.some.inj hA'
    rw [hX] at hc
    rw [List.getElem?_eq_getElem hi] at hx
    rw [Option.some.inj hx]
    exact Option.some.inj hc
  rw [cellOf k hk' V hV, cellOf r hr' U hU]
  have hp := swapH_perm hr' hk'
  have hblk : ad.block ∈ fp := hf _ (List.mem_append_left _ (by rw [hA]; simp))
  refine ⟨⟨_, (swapH_map hr' hk').symm, hO.swap hr' hk' hA, fun b hb => ?_⟩, ((Keeps.refl _ w).setCell (p := ad.add r) (by rw [block_of_add]; exact hblk) _).setCell (p := ad.add k) (by rw [block_of_add]; exact hblk) _⟩
  rcases List.mem_append.1 hb with hb | hb
  · exact hf b (List.mem_append_left _ hb)
  · exact hf b (List.mem_append_right _ (fpR_perm hp b hb))
theorem RwF.outer (h : RwF w A cap L fp) {i : Nat} (hi : i < L.length) {ad : Addr} (hA : A = some ad) {B : Option Addr} {n c : Nat} (hB : w.cell? (ad.add i) = some (.slice B n c)) : ∀ b, b ∈ fpA B → b ≠ ad.block := by
  obtain ⟨hs, rfl, hO, hf⟩ := h
  obtain ⟨ad1, B1, c1, l1, hA1, hx1, hc1, _⟩ := hO.get (i := i) (by simpa using hi)
  rw [hA] at hA1
  obtain rfl := Option.some.inj hA1
  rw [hB] at hc1
  injection hc1 with hc1; injection hc1 with e1 _ _
  subst e1
  intro b hb e
  exact hO.outer _ (List.mem_of_getElem? hx1) b hb (by rw [hA, e]; simp)
theorem keeps_cell {S : Nat → Prop} (hk : Keeps S w w') {a : Addr} {u : Value} (h : w.cell? a = some u) (hS : ¬ S a.block) : w'.cell? a = some u :=
  (World.cell?_of_block (hk.block _ (World.block_lt_of_cell? w a h) hS)).trans h
theorem RwF.lt (h : RwF w A cap L fp) : ∃ fp', RwF w A cap L fp' ∧ LtL w.heap.size fp' ∧ ∀ b, b ∈ fp' → b ∈ fp := by
  obtain ⟨hs, hL, hO, hf⟩ := h
  exact ⟨fpA A ++ fpR hs, ⟨hs, hL, hO, fun b hb => hb⟩, hO.lt, hf⟩
end
end Go.Proofs.YtahnhblodfdfhaaDoor
