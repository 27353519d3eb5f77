/-
  OWNED ROWS: what reading, writing a row in its place, exchanging two rows, appending a row and cutting do to them.
-/
import Derived.Test.YtahnhblodfdfhaaDoorHelpSS
import Derived.Test.YtahnhblodfdfhaaDoorArith
import Derived.Test.YtahnhblodfdfhaaDoorLinB
namespace Go.Proofs.YtahnhblodfdfhaaDoor
open Go.RowKit

section
variable {w w' : World} {A : Option Addr} {cap : Nat} {hs : List Hd}

theorem OwR.get (h : OwR w A cap hs) {i : Nat} (hi : i < hs.length) : ∃ ad B c l, A = some ad ∧ hs[i]? = some (B, c, l) ∧ w.cell? (ad.add i) = some (.slice B l.length c) ∧ w.frozen? (ad.add i) = false ∧ IS w B c l := by
  obtain ⟨x, hx⟩ : ∃ x, hs[i]? = some x := ⟨_, List.getElem?_eq_getElem hi⟩
  obtain ⟨B, c, l⟩ := x
  obtain ⟨ad, hA, _, hc, hf⟩ := h.sl.cell (j := i) (u := Hd.val (B, c, l)) (by simp [hx])
  exact ⟨ad, B, c, l, hA, hx, hc, hf i, h.rows _ (List.mem_of_getElem? hx)⟩

theorem OwR.apart_get (h : OwR w A cap hs) {i k : Nat} {x y : Hd} (hi : hs[i]? = some x) (hk : hs[k]? = some y) (hne : i ≠ k) : ∀ b, b ∈ fpA x.1 → ¬ b ∈ fpA y.1 := by
  have hil := (List.getElem?_eq_some_iff.1 hi).1
  have hkl := (List.getElem?_eq_some_iff.1 hk).1
  have hp := List.pairwise_iff_getElem.1 h.apart
  have e1 : hs[i] = x := by rw [List.getElem?_eq_getElem hil] at hi; exact Option.some.inj hi
  have e2 : hs[k] = y := by rw [List.getElem?_eq_getElem hkl] at hk; exact Option.some.inj hk
  intro b hb hb'
  rcases Nat.lt_or_ge i k with hlt | hge
  · have := hp i k hil hkl hlt b; rw [e1, e2] at this; exact this hb hb'
  · have := hp k i hkl hil (by omega) b; rw [e1, e2] at this; exact this hb' hb

/-- A row is written in its place. -/
theorem OwR.wr (h : OwR w A cap hs) {i : Nat} {B : Option Addr} {c : Nat} {l l' : List Int} (hi : hs[i]? = some (B, c, l)) (hw : Wr w w' B (ints l')) (hl : l'.length = l.length) : OwR w' A cap (hs.set i (B, c, l')) := by
  have hil := (List.getElem?_eq_some_iff.1 hi).1
  have hm := List.mem_of_getElem? hi
  have hsetm : (hs.set i (B, c, l')).map Hd.val = hs.map Hd.val := by
    rw [List.map_set]
    have : Hd.val (B, c, l') = Hd.val (B, c, l) := by simp [Hd.val, hl]
    rw [this]
    apply List.ext_getElem?
    intro k
    rw [List.getElem?_set]
    split
    · rename_i hk; subst hk
      rw [List.getElem?_map, hi]
      simp [hil]
    · rfl
  have hmem : ∀ x, x ∈ hs.set i (B, c, l') → ∃ y : Hd, y ∈ hs ∧ y.1 = x.1 := by
    intro x hx
    rcases List.mem_or_eq_of_mem_set hx with hx | hx
    · exact ⟨x, hx, rfl⟩
    · exact ⟨_, hm, by rw [hx]⟩
  have hget : ∀ (k : Nat) (x : Hd), (hs.set i (B, c, l'))[k]? = some x → ∃ y : Hd, hs[k]? = some y ∧ y.1 = x.1 := by
    intro k x hx
    rw [List.getElem?_set] at hx
    split at hx
    · rename_i hk; subst hk
      simp at hx
      exact ⟨_, hi, by rw [← hx]⟩
    · exact ⟨x, hx, rfl⟩
  refine ⟨?_, fun x hx => ?_, ?_, fun x hx => ?_⟩
  · rw [List.length_set, hsetm]
    exact h.sl.keeps hw.1 fun b hb hb' => h.outer _ hm b hb' hb
  · obtain ⟨k, hk⟩ := List.mem_iff_getElem?.1 hx
    rw [List.getElem?_set] at hk
    split at hk
    · rename_i hik; subst hik
      simp at hk
      subst hk
      have h0 := h.rows _ hm
      have := hw.sl h0 (by simp [hl])
      unfold IS
      rw [show (B, c, l').2.2.length = l.length from hl]
      exact this
    · rename_i hik
      exact (h.rows x (List.mem_of_getElem? hk)).keeps hw.1 fun b hb hb' => h.apart_get hi hk hik b hb' hb
  · refine List.pairwise_iff_getElem.2 fun a b ha hb hab => ?_
    obtain ⟨x, hx, ex⟩ := hget a _ (List.getElem?_eq_getElem ha)
    obtain ⟨y, hy, ey⟩ := hget b _ (List.getElem?_eq_getElem hb)
    rw [← ex, ← ey]
    exact h.apart_get hx hy (by omega)
  · obtain ⟨y, hy, e⟩ := hmem x hx
    rw [← e]; exact h.outer y hy

theorem IS.wr1 {B : Option Addr} {c : Nat} {l : List Int} (h : IS w B c l) {ad : Addr} (hA : B = some ad) {j : Nat} (hj : j < l.length) (x : Int) : Wr w (w.setCell (ad.add j) (.int .i64 x)) B (ints (l.set j x)) := by
  have h0 : Wr w w B (ints l) := Wr.start h
  have := h0.set hA (j := j) (by simpa using hj) (.int .i64 x)
  rwa [ints_set] at this

/-- Two rows are exchanged. -/
def swapH (hs : List Hd) (r k : Nat) (hr : r < hs.length) (hk : k < hs.length) : List Hd := (hs.set r hs[k]).set k hs[r]
theorem swapH_perm {r k : Nat} (hr : r < hs.length) (hk : k < hs.length) : (swapH hs r k hr hk).Perm hs := by
  unfold swapH
  exact List.set_set_perm hr hk
theorem swapH_map {r k : Nat} (hr : r < hs.length) (hk : k < hs.length) : (swapH hs r k hr hk).map (fun h : Hd => h.2.2) = swapL (hs.map fun h : Hd => h.2.2) r k := by
  unfold swapH swapL
  rw [List.map_set, List.map_set]
  simp [List.getD, hr, hk]
theorem OwR.swap (h : OwR w A cap hs) {r k : Nat} (hr : r < hs.length) (hk : k < hs.length) {ad : Addr} (hA : A = some ad) :
    OwR ((w.setCell (ad.add r) hs[k].val).setCell (ad.add k) hs[r].val) A cap (swapH hs r k hr hk) := by
  have hp := swapH_perm hr hk
  have hkp : Keeps (· ∈ fpA A) w ((w.setCell (ad.add r) hs[k].val).setCell (ad.add k) hs[r].val) :=
    ((Keeps.refl _ w).setCell (p := ad.add r) (by rw [block_of_add, hA]; simp) _).setCell (p := ad.add k) (by rw [block_of_add, hA]; simp) _
  refine ⟨?_, fun x hx => ?_, ?_, fun x hx => h.outer x (hp.mem_iff.1 hx)⟩
  · have h1 := (h.sl.set hA r hs[k].val (by simpa using hr)).set hA k hs[r].val (by simpa using hk)
    rw [← List.map_set, ← List.map_set] at h1
    have : (swapH hs r k hr hk).length = hs.length := by simp [swapH]
    rw [this]; exact h1
  · have hx' := hp.mem_iff.1 hx
    exact (h.rows x hx').keeps hkp fun b hb => h.outer x hx' b hb
  · exact (hp.pairwise_iff (fun {x y} hxy b hb hb' => hxy b hb' hb)).2 h.apart

/-- A row more. -/
theorem OwR.snoc {w1 w2 : World} (h : OwR w A cap hs) (hb : Below w.heap.size w w1) {x : Hd} (hx : IS w1 x.1 x.2.1 x.2.2) (hf : Fresh w.heap.size x.1)
    {A' : Option Addr} {cap' : Nat} (hs' : Sl w2 33 1 A' (hs.length + 1) cap' (hs.map Hd.val ++ [x.val])) (hA' : ∀ b, b ∈ fpA A' → b ∈ fpA A ∨ w1.heap.size ≤ b) (hk : Keeps (· ∈ fpA A) w1 w2) : OwR w2 A' cap' (hs ++ [x]) := by
  have hrows : ∀ y, y ∈ hs → (∀ b, b ∈ fpA y.1 → b < w.heap.size) := fun y hy b hb' => (h.rows y hy).lt b hb'
  refine ⟨by simpa using hs', fun y hy => ?_, ?_, fun y hy b hb' hb'' => ?_⟩
  · rcases List.mem_append.1 hy with hy | hy
    · exact ((h.rows y hy).below hb).keeps hk fun b hb' => h.outer y hy b hb'
    · obtain rfl := List.mem_singleton.1 hy
      exact hx.keeps hk fun b hb' hb'' => by
        have := hf b hb'
        have := h.sl.lt b hb''
        omega
  · refine List.pairwise_append.2 ⟨h.apart, List.pairwise_singleton _ _, fun y hy z hz b hb1 hb2 => ?_⟩
    obtain rfl := List.mem_singleton.1 hz
    have := hrows y hy b hb1
    have := hf b hb2
    omega
  · rcases List.mem_append.1 hy with hy | hy
    · rcases hA' b hb'' with h1 | h1
      · exact h.outer y hy b hb' h1
      · have := hrows y hy b hb'
        have := hb.size
        omega
    · obtain rfl := List.mem_singleton.1 hy
      rcases hA' b hb'' with h1 | h1
      · have := hf b hb'
        have := h.sl.lt b h1
        omega
      · have := hx.lt b hb'
        omega

/-- The first rows. -/
theorem OwR.take {k m : Nat} (h : OwR w A cap hs) (hk : k ≤ hs.length) {A' : Option Addr} (hsl : Sl w 33 1 A' k m ((hs.take k).map Hd.val)) (hfp : ∀ b, b ∈ fpA A' → b ∈ fpA A) : OwR w A' m (hs.take k) := by
  refine ⟨by rw [List.length_take, Nat.min_eq_left hk]; exact hsl, fun x hx => h.rows x (List.mem_of_mem_take hx), h.apart.sublist (List.take_sublist _ _), fun x hx b hb hb' => h.outer x (List.mem_of_mem_take hx) b hb (hfp b hb')⟩
end

/-- No rows. -/
theorem OwR.nil (w : World) : OwR w none 0 [] := ⟨Sl.nil _ _ _, fun h hh => (by cases hh), .nil, fun h hh => (by cases hh)⟩
theorem fpR_snoc (hs : List Hd) (x : Hd) : ∀ b, b ∈ fpR (hs ++ [x]) → b ∈ fpR hs ∨ b ∈ fpA x.1 := by
  intro b hb
  obtain ⟨y, hy, hy2⟩ := mem_fpR.1 hb
  rcases List.mem_append.1 hy with hy | hy
  · exact .inl (mem_fpR.2 ⟨y, hy, hy2⟩)
  · have e := List.mem_singleton.1 hy
    subst e; exact .inr hy2
theorem fpR_set {hs : List Hd} {i : Nat} {B : Option Addr} {c : Nat} {l l' : List Int} (hi : hs[i]? = some (B, c, l)) : ∀ b, b ∈ fpR (hs.set i (B, c, l')) → b ∈ fpR hs := by
  intro b hb
  obtain ⟨y, hy, hb⟩ := mem_fpR.1 hb
  rcases List.mem_or_eq_of_mem_set hy with hy | hy
  · exact mem_fpR.2 ⟨y, hy, hb⟩
  · subst hy; exact mem_fpR.2 ⟨_, List.mem_of_getElem? hi, hb⟩
theorem fpR_perm {hs gs : List Hd} (h : gs.Perm hs) : ∀ b, b ∈ fpR gs → b ∈ fpR hs := by
  intro b hb
  obtain ⟨y, hy, hb⟩ := mem_fpR.1 hb
  exact mem_fpR.2 ⟨y, h.mem_iff.1 hy, hb⟩
theorem fpR_take {hs : List Hd} {k : Nat} : ∀ b, b ∈ fpR (hs.take k) → b ∈ fpR hs := by
  intro b hb
  obtain ⟨y, hy, hb⟩ := mem_fpR.1 hb
  exact mem_fpR.2 ⟨y, List.mem_of_mem_take hy, hb⟩
end Go.Proofs.YtahnhblodfdfhaaDoor
