/-
  ROWS OF A CALL's OWN, as one word: OM w0 w A cap L: the header (A, L.length, cap) holds the rows L, in memory made since w0; all memory of w0 is as it was.
-/
import Derived.Test.YtahnhblodfdfhaaDoorRowsOp
namespace Go.Proofs.YtahnhblodfdfhaaDoor
open Go.RowKit

def OM (w0 w : World) (A : Option Addr) (cap : Nat) (L : List (List Int)) : Prop :=
  ∃ hs : List Hd, L = hs.map (fun h : Hd => h.2.2) ∧ OwR w A cap hs ∧ (∀ b, b ∈ fpA A ++ fpR hs → w0.heap.size ≤ b) ∧ Below w0.heap.size w0 w

section
variable {w0 w w' : World} {A : Option Addr} {cap : Nat} {L : List (List Int)}
theorem OM.below_ (h : OM w0 w A cap L) : Below w0.heap.size w0 w := by obtain ⟨_, _, _, _, h⟩ := h; exact h
theorem OM.size (h : OM w0 w A cap L) : w0.heap.size ≤ w.heap.size := h.below_.size
theorem OM.nil (w : World) : OM w w none 0 [] := ⟨[], rfl, OwR.nil w, fun b hb => by simp [fpR] at hb, Below.refl _ _⟩
theorem OM.below (h : OM w0 w A cap L) (hb : Below w.heap.size w w') : OM w0 w' A cap L := by
  obtain ⟨hs, hL, hO, hf, h0⟩ := h
  exact ⟨hs, hL, hO.below hb, hf, below_trans h0 hb h0.size⟩
theorem OM.drew (h : OM w0 w A cap L) : OM w0 w.drew A cap L := h.below (below_drewN (Below.refl _ _) 1)
theorem OM.drewN (h : OM w0 w A cap L) (n : Nat) : OM w0 (w.drewN n) A cap L := h.below (below_drewN (Below.refl _ _) n)
theorem getD_map_hd {hs : List Hd} {i : Nat} {B : Option Addr} {c : Nat} {l : List Int} (h : hs[i]? = some (B, c, l)) : (hs.map (fun h : Hd => h.2.2)).getD i [] = l := by simp [List.getD, h]

/-- A row. -/
theorem OM.get (h : OM w0 w A cap L) {i : Nat} (hi : i < L.length) : ∃ ad B c, A = some ad ∧ w.cell? (ad.add i) = some (.slice B (L.getD i []).length c) ∧ w.frozen? (ad.add i) = false ∧ IS w B c (L.getD i []) := by
  obtain ⟨hs, rfl, hO, hf, h0⟩ := h
  obtain ⟨ad, B, c, l, hA, hx, hc, hz, hi'⟩ := hO.get (i := i) (by simpa using hi)
  rw [getD_map_hd hx]
  exact ⟨ad, B, c, hA, hc, hz, hi'⟩

/-- The row at i is written in its place: by a callee, or a store. -/
theorem OM.wr (h : OM w0 w A cap L) {i : Nat} (hi : i < L.length) {ad : Addr} (hA : A = some ad) {B : Option Addr} {n c : Nat} (hc : w.cell? (ad.add i) = some (.slice B n c)) {l' : List Int} (hl : l'.length = (L.getD i []).length) (hw : Wr w w' B (ints l')) : OM w0 w' A cap (L.set i l') := by
  obtain ⟨hs, rfl, hO, hf, h0⟩ := h
  obtain ⟨ad', B', c', l, hA', hx, hc', hz, hi'⟩ := hO.get (i := i) (by simpa using hi)
  rw [hA] at hA'
  obtain rfl := Option.some.inj hA'
  rw [hc] at hc'
  injection hc' with hc'
  injection hc' with e1 e2 e3
  subst e1
  rw [getD_map_hd hx] at hl
  have hm := List.mem_of_getElem? hx
  refine ⟨hs.set i (B, c', l'), by rw [List.map_set], hO.wr hx hw hl, fun b hb => ?_, ?_⟩
  · rcases List.mem_append.1 hb with hb | hb
    · exact hf b (List.mem_append_left _ hb)
    · exact hf b (List.mem_append_right _ (fpR_set hx b hb))
  · exact below_keeps h0 hw.1 h0.size fun b hb => hf b (List.mem_append_right _ (mem_fpR.2 ⟨_, hm, hb⟩))
theorem OM.set (h : OM w0 w A cap L) {i : Nat} (hi : i < L.length) {ad : Addr} (hA : A = some ad) {bd : Addr} {n c : Nat} (hc : w.cell? (ad.add i) = some (.slice (some bd) n c)) {j : Nat} (hj : j < (L.getD i []).length) (x : Int) :
    OM w0 (w.setCell (bd.add j) (.int .i64 x)) A cap (L.set i ((L.getD i []).set j x)) := by
  obtain ⟨ad', B, c', hA', hc', _, hI⟩ := h.get hi
  rw [hA] at hA'
  obtain rfl := Option.some.inj hA'
  have hc2 := hc'
  rw [hc] at hc2
  injection hc2 with hc2
  injection hc2 with e1 e2 e3
  exact h.wr hi hA hc (by simp) (IS.wr1 (e1 ▸ hI) rfl hj x)

/-- Two rows are exchanged. -/
theorem OM.swap (h : OM w0 w A cap L) {r k : Nat} (hr : r < L.length) (hk : k < L.length) {ad : Addr} (hA : A = some ad) {V U : Value} (hV : w.cell? (ad.add k) = some V) (hU : w.cell? (ad.add r) = some U) :
    OM w0 ((w.setCell (ad.add r) V).setCell (ad.add k) U) A cap (swapL L r k) := by
  obtain ⟨hs, rfl, hO, hf, h0⟩ := h
  have hr' : r < hs.length := by simpa using hr
  have hk' : k < hs.length := by simpa using hk
  have cellOf : ∀ i (hi : i < hs.length) X, w.cell? (ad.add i) = some X → X = hs[i].val := by
    intro i hi X hX
    obtain ⟨ad', B, c, l, hA', hx, hc, _⟩ := hO.get (i := i) hi
    rw [hA] at hA'
    obtain rfl := Option.some.inj hA'
    rw [hX] at hc
    rw [List.getElem?_eq_getElem hi] at hx
    rw [Option.some.inj hx]
    exact Option.some.inj hc
  rw [cellOf k hk' V hV, cellOf r hr' U hU]
  have hp := swapH_perm hr' hk'
  refine ⟨_, (swapH_map hr' hk').symm, hO.swap hr' hk' hA, fun b hb => ?_, ?_⟩
  · rcases List.mem_append.1 hb with hb | hb
    · exact hf b (List.mem_append_left _ hb)
    · exact hf b (List.mem_append_right _ (fpR_perm hp b hb))
  · have hkp : Keeps (· ∈ fpA A) w ((w.setCell (ad.add r) hs[k].val).setCell (ad.add k) hs[r].val) :=
      ((Keeps.refl _ w).setCell (p := ad.add r) (by rw [block_of_add, hA]; simp) _).setCell (p := ad.add k) (by rw [block_of_add, hA]; simp) _
    exact below_keeps h0 hkp h0.size fun b hb => hf b (List.mem_append_left _ hb)

/-- A new row behind them, as append leaves it. -/
theorem OM.snoc {w1 w2 : World} {hs : List Hd} (hL : L = hs.map (fun h : Hd => h.2.2)) (hO : OwR w A cap hs) (hf : ∀ b, b ∈ fpA A ++ fpR hs → w0.heap.size ≤ b) (h0 : Below w0.heap.size w0 w) {l : List Int} {B : Option Addr} {c : Nat} (hb : Below w.heap.size w w1) (hx : IS w1 B c l) (hf1 : Fresh w.heap.size B)
    {A' : Option Addr} {cap' n : Nat} (hn : n = hs.length + 1) (hs' : Sl w2 33 1 A' n cap' (hs.map Hd.val ++ [.slice B l.length c])) (hA' : ∀ b, b ∈ fpA A' → b ∈ fpA A ∨ w1.heap.size ≤ b) (hk : Keeps (· ∈ fpA A) w1 w2) : OM w0 w2 A' cap' (L ++ [l]) := by
  subst hL hn
  have hbw := below_trans h0 hb h0.size
  refine ⟨hs ++ [(B, c, l)], by simp, hO.snoc hb (x := (B, c, l)) hx hf1 (by simpa [Hd.val] using hs') hA' hk, fun b hb' => ?_, ?_⟩
  · rcases List.mem_append.1 hb' with hb' | hb'
    · rcases hA' b hb' with h1 | h1
      · exact hf b (List.mem_append_left _ h1)
      · have := hbw.size; omega
    · rcases fpR_snoc hs (B, c, l) b hb' with h1 | h1
      · exact hf b (List.mem_append_right _ h1)
      · have := hf1 b h1; have := h0.size; omega
  · exact below_keeps hbw hk hbw.size fun b hb' => hf b (List.mem_append_left _ hb')

/-- The outer row as it lies. -/
theorem OM.sl (h : OM w0 w A cap L) : ∃ vs, Sl w 33 1 A L.length cap vs ∧ vs.length = L.length := by
  obtain ⟨hs, rfl, hO, _⟩ := h
  exact ⟨hs.map Hd.val, by simpa using hO.sl, by simp⟩
/-- The first rows. -/
theorem OM.take {hs : List Hd} (hL : L = hs.map (fun h : Hd => h.2.2)) (hO : OwR w A cap hs) (hf : ∀ b, b ∈ fpA A ++ fpR hs → w0.heap.size ≤ b) (h0 : Below w0.heap.size w0 w) {k m : Nat} (hk : k ≤ hs.length) {A' : Option Addr} (hsl : Sl w 33 1 A' k m ((hs.take k).map Hd.val)) (hfp : ∀ b, b ∈ fpA A' → b ∈ fpA A) : OM w0 w A' m (L.take k) := by
  subst hL
  refine ⟨hs.take k, by rw [List.map_take], hO.take hk hsl hfp, fun b hb => ?_, h0⟩
  rcases List.mem_append.1 hb with hb | hb
  · exact hf b (List.mem_append_left _ (hfp b hb))
  · exact hf b (List.mem_append_right _ (fpR_take b hb))
theorem OM.ret (h : OM w0 w A cap L) : RetSS w0 L (.returned (.slice A L.length cap)) w := by
  obtain ⟨hs, rfl, hO, hf, h0⟩ := h
  exact ⟨A, cap, hs, rfl, rfl, hO, hf, h0⟩
theorem OM.rdr (h : OM w0 w A cap L) : ∃ hs : List Hd, L = hs.map (fun h : Hd => h.2.2) ∧ RdR w A hs := by
  obtain ⟨hs, hL, hO, _⟩ := h; exact ⟨hs, hL, hO.rd⟩
end
theorem RetSS.om {w0 w : World} {L : List (List Int)} {e : Ending} (h : RetSS w0 L e w) : ∃ A cap, e = .returned (.slice A L.length cap) ∧ OM w0 w A cap L := by
  obtain ⟨A, cap, hs, rfl, hL, hO, hf, h0⟩ := h; exact ⟨A, cap, rfl, hs, hL, hO, hf, h0⟩
end Go.Proofs.YtahnhblodfdfhaaDoor
