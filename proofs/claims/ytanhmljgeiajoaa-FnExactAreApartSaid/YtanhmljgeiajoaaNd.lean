/-
  SLICES OF NODES (structs of two ints and a string): how they lie in memory.
-/
import Derived.Test.YtanhmljgeiajoaaOps
import Derived.Test.YtanhmljgeiajoaaLawI
import Derived.Test.YtanhmljgeiajoaaTmM
namespace Go.Proofs.Ytanhmljgeiajoaa
open Go.RowKit

abbrev tNd : TypeId := 148
def nc (n : Nd) : List Value := [.int .i64 n.1, .int .i64 n.2.1, .string n.2.2]
def ncs : List Nd → List Value
  | [] => []
  | n :: r => nc n ++ ncs r
theorem ncs_append (l m : List Nd) : ncs (l ++ m) = ncs l ++ ncs m := by
  induction l with
  | nil => rfl
  | cons n r ih => simp [ncs, ih]
@[simp] theorem ncs_length (l : List Nd) : (ncs l).length = l.length * 3 := by
  induction l with
  | nil => rfl
  | cons n r ih => simp only [ncs, nc, List.length_append, List.length_cons, List.length_nil, ih]; omega
theorem ncs_one (l : List Nd) : ∀ u ∈ ncs l, u.oneCell' = true := by
  induction l with
  | nil => intro u h; cases h
  | cons n r ih =>
    intro u h
    rcases List.mem_append.1 h with h | h
    · simp only [nc, List.mem_cons, List.not_mem_nil, or_false] at h
      rcases h with rfl | rfl | rfl <;> rfl
    · exact ih u h
theorem ncs_take : ∀ (l : List Nd) (k : Nat), ncs (l.take k) = (ncs l).take (k * 3)
  | [], k => by simp [ncs]
  | n :: r, 0 => by simp [ncs]
  | n :: r, k + 1 => by
    rw [show (k + 1) * 3 = k * 3 + 1 + 1 + 1 by omega]
    simp only [List.take_succ_cons, ncs, nc, List.cons_append, List.nil_append, ncs_take r k]
theorem ncs_drop : ∀ (l : List Nd) (k : Nat), ncs (l.drop k) = (ncs l).drop (k * 3)
  | [], k => by simp [ncs]
  | n :: r, 0 => by simp [ncs]
  | n :: r, k + 1 => by
    rw [show (k + 1) * 3 = k * 3 + 1 + 1 + 1 by omega]
    simp only [List.drop_succ_cons, ncs, nc, List.cons_append, List.nil_append, ncs_drop r k]
theorem ncs_get {l : List Nd} {j : Nat} {n : Nd} (h : l[j]? = some n) : (ncs l)[j * 3]? = some (.int .i64 n.1) ∧ (ncs l)[j * 3 + 1]? = some (.int .i64 n.2.1) ∧ (ncs l)[j * 3 + 2]? = some (.string n.2.2) := by
  induction l generalizing j with
  | nil => simp at h
  | cons a r ih =>
    cases j with
    | zero =>
      obtain rfl : a = n := by simpa using h
      simp [ncs, nc]
    | succ j =>
      have := ih (j := j) (by simpa using h)
      have hl : (nc a).length = 3 := rfl
      simp only [ncs]
      rw [List.getElem?_append_right (by omega), List.getElem?_append_right (by omega), List.getElem?_append_right (by omega), hl]
      rw [show (j + 1) * 3 - 3 = j * 3 by omega, show (j + 1) * 3 + 1 - 3 = j * 3 + 1 by omega, show (j + 1) * 3 + 2 - 3 = j * 3 + 2 by omega]
      exact this
theorem ncs_set {l : List Nd} {j : Nat} (n : Nd) (h : j < l.length) : (((ncs l).set (j * 3) (.int .i64 n.1)).set (j * 3 + 1) (.int .i64 n.2.1)).set (j * 3 + 2) (.string n.2.2) = ncs (l.set j n) := by
  induction l generalizing j with
  | nil => simp at h
  | cons a r ih =>
    cases j with
    | zero => simp [ncs, nc]
    | succ j =>
      have := ih (j := j) (by simpa using h)
      have hl : (nc a).length = 3 := rfl
      simp only [ncs, List.set_cons_succ]
      rw [List.set_append_right _ _ (by omega), List.set_append_right _ _ (by omega), List.set_append_right _ _ (by omega), hl]
      rw [show (j + 1) * 3 - 3 = j * 3 by omega, show (j + 1) * 3 + 1 - 3 = j * 3 + 1 by omega, show (j + 1) * 3 + 2 - 3 = j * 3 + 2 by omega]
      rw [this]

/-- The header may be read as nodes. -/
def RdN (w : World) (A : Option Addr) (l : List Nd) : Prop := RdC w A (ncs l)
/-- The header (A, l.length, cap) is a slice of nodes of the program's own. -/
def NS (w : World) (A : Option Addr) (cap : Nat) (l : List Nd) : Prop := Sl w tNd 3 A l.length cap (ncs l)
section
variable {w w' : World} {A : Option Addr} {cap : Nat} {l : List Nd}
theorem add_next (ad : Addr) (n i : Nat) (hi : 0 < i) : ad.add (n + i) = ⟨(ad.add n).block, (ad.add n).off + i, none⟩ := by
  unfold Addr.add
  have : ¬ n + i = 0 := by omega
  rw [if_neg this]
  by_cases h : n = 0 <;> simp [h, Nat.add_assoc]
theorem RdN.at_ (h : RdN w A l) {j : Nat} (hj : j < l.length) : ∃ ad k v s, A = some ad ∧ l[j]? = some (k, v, s) ∧ w.cell? (ad.add (j * 3)) = some (.int .i64 k) ∧ w.cell? ⟨(ad.add (j * 3)).block, (ad.add (j * 3)).off + 1, none⟩ = some (.int .i64 v) ∧ w.cell? ⟨(ad.add (j * 3)).block, (ad.add (j * 3)).off + 2, none⟩ = some (.string s) := by
  obtain ⟨n, hn⟩ : ∃ n, l[j]? = some n := ⟨_, List.getElem?_eq_getElem hj⟩
  obtain ⟨h0, h1, h2⟩ := ncs_get hn
  obtain ⟨ad, hA, c0⟩ := h _ _ h0
  obtain ⟨ad1, hA1, c1⟩ := h _ _ h1
  obtain ⟨ad2, hA2, c2⟩ := h _ _ h2
  rw [hA] at hA1 hA2
  obtain rfl := Option.some.inj hA1
  obtain rfl := Option.some.inj hA2
  obtain ⟨k, v, s⟩ := n
  rw [add_next _ _ 1 (by omega)] at c1
  rw [add_next _ _ 2 (by omega)] at c2
  exact ⟨ad, k, v, s, hA, hn, c0, c1, c2⟩
theorem RdN.below (h : RdN w A l) (hb : Below w.heap.size w w') : RdN w' A l := RdC.below h hb
theorem RdN.nil (w : World) (A : Option Addr) : RdN w A [] := RdC.nil w A
theorem NS.rd (h : NS w A cap l) : RdN w A l := Sl.rdc h
theorem NS.below (h : NS w A cap l) (hb : Below w.heap.size w w') : NS w' A cap l := Sl.below h hb
theorem NS.keeps (h : NS w A cap l) {S : Nat → Prop} (hk : Keeps S w w') (hS : ∀ b, b ∈ fpA A → ¬ S b) : NS w' A cap l := Sl.keeps h hk hS
theorem NS.lt (h : NS w A cap l) : ∀ b, b ∈ fpA A → b < w.heap.size := Sl.lt h
theorem NS.at_ (h : NS w A cap l) {j : Nat} (hj : j < l.length) : ∃ ad, A = some ad ∧ ad.block < w.heap.size ∧ ∀ k, w.frozen? (ad.add k) = false := by
  obtain ⟨n, hn⟩ : ∃ n, l[j]? = some n := ⟨_, List.getElem?_eq_getElem hj⟩
  obtain ⟨ad, hA, hb, _, hf⟩ := Sl.cell h (ncs_get hn).1
  exact ⟨ad, hA, hb, hf⟩
end

/-- WHAT A FUNCTION LEAVES THAT RETURNS A NEW SLICE OF NODES. -/
def RetN (w : World) (l : List Nd) (e : Ending) (w' : World) : Prop :=
  ∃ A cap, e = .returned (.slice A l.length cap) ∧ NS w' A cap l ∧ Fresh w.heap.size A ∧ Below w.heap.size w w'
/-- A TERM. -/
def RdTm (w : World) (v : Value) (l : List Nd) : Prop := ∃ A cap, v = .agg #[.slice A l.length cap] ∧ RdN w A l
def OwTm (w : World) (v : Value) (l : List Nd) (fp : List Nat) : Prop := ∃ A cap, v = .agg #[.slice A l.length cap] ∧ NS w A cap l ∧ fp = fpA A
section
variable {w w' : World} {v : Value} {l : List Nd} {fp : List Nat}
theorem RdTm.below (h : RdTm w v l) (hb : Below w.heap.size w w') : RdTm w' v l := by obtain ⟨A, c, rfl, h⟩ := h; exact ⟨A, c, rfl, h.below hb⟩
theorem OwTm.rd (h : OwTm w v l fp) : RdTm w v l := by obtain ⟨A, c, rfl, h, _⟩ := h; exact ⟨A, c, rfl, h.rd⟩
theorem OwTm.below (h : OwTm w v l fp) (hb : Below w.heap.size w w') : OwTm w' v l fp := by obtain ⟨A, c, rfl, h, e⟩ := h; exact ⟨A, c, rfl, h.below hb, e⟩
theorem OwTm.keeps (h : OwTm w v l fp) {S : Nat → Prop} (hk : Keeps S w w') (hS : ∀ b, b ∈ fp → ¬ S b) : OwTm w' v l fp := by
  obtain ⟨A, c, rfl, h, rfl⟩ := h; exact ⟨A, c, rfl, h.keeps hk hS, rfl⟩
theorem OwTm.lt (h : OwTm w v l fp) : LtL w.heap.size fp := by obtain ⟨A, c, rfl, h, rfl⟩ := h; exact h.lt
end
end Go.Proofs.Ytanhmljgeiajoaa
