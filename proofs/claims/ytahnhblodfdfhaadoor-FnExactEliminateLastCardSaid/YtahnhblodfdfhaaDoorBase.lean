/-
  WORDS FOR MEMORY (our own): what a slice reads as, what a call leaves as it was, what lies in new memory; and what append, make and a store do to these words. No program is looked at here but for the number of the type int.
-/
import Derived.Test.YtahnhblodfdfhaaDoorRows
import Derived.WalkKit
import Derived.WalkSpells
import Derived.WalkLawsBesides
import Derived.Deep.Draws
import Derived.Lib.Hide
namespace Go.Proofs.YtahnhblodfdfhaaDoor
open Go.RowKit

theorem ret_bool {a b : Bool} (h : a = b) : Ending.returned (.bool a) = .returned (.bool b) := by rw [h]
theorem ret_int {k : IntKind} {a b : Int} (h : a = b) : Ending.returned (.int k a) = .returned (.int k b) := by rw [h]

/-! ### Addresses -/
theorem block_of_add (a : Addr) (n : Nat) : (a.add n).block = a.block := by unfold Addr.add; split <;> rfl
theorem add_of_add (a : Addr) (i j : Nat) : (a.add i).add j = a.add (i + j) := by
  unfold Addr.add
  by_cases hi : i = 0 <;> by_cases hj : j = 0 <;> simp [hi, hj, Nat.add_assoc]

/-- The blocks that a slice's header names. -/
def fpA (A : Option Addr) : List Nat := A.toList.map (·.block)
@[simp] theorem fpA_none : fpA none = [] := rfl
@[simp] theorem fpA_some (a : Addr) : fpA (some a) = [a.block] := rfl
theorem mem_fpA {A : Option Addr} {b : Nat} : b ∈ fpA A ↔ ∃ a, A = some a ∧ a.block = b := by
  cases A <;> simp [fpA, eq_comm]

/-! ### What is left as it was -/
/-- Outside the blocks S (and new ones) w' is as w was. -/
structure Keeps (S : Nat → Prop) (w w' : World) : Prop where
  os : w'.os = w.os
  tape : w'.tape = w.tape
  output : w'.output = w.output
  size : w.heap.size ≤ w'.heap.size
  block : ∀ k, k < w.heap.size → ¬ S k → w'.heap[k]? = w.heap[k]?

theorem Keeps.refl (S : Nat → Prop) (w : World) : Keeps S w w := ⟨rfl, rfl, rfl, Nat.le_refl _, fun _ _ _ => rfl⟩
theorem Keeps.trans {S : Nat → Prop} {a b c : World} (h : Keeps S a b) (k : Keeps S b c) : Keeps S a c :=
  ⟨k.os.trans h.os, k.tape.trans h.tape, k.output.trans h.output, Nat.le_trans h.size k.size, fun i hi hs => (k.block i (Nat.lt_of_lt_of_le hi h.size) hs).trans (h.block i hi hs)⟩
theorem Keeps.mono {S T : Nat → Prop} {w w' : World} (h : Keeps S w w') (hS : ∀ k, k < w.heap.size → S k → T k) : Keeps T w w' :=
  ⟨h.os, h.tape, h.output, h.size, fun k hk ht => h.block k hk fun hs => ht (hS k hk hs)⟩
theorem Keeps.of_below {w w' : World} (h : Below w.heap.size w w') (S : Nat → Prop) : Keeps S w w' := ⟨h.os, h.tape, h.output, h.size, fun k hk _ => h.block k hk⟩
theorem Keeps.below {S : Nat → Prop} {w w' : World} (h : Keeps S w w') {B : Nat} (hB : B ≤ w.heap.size) (hS : ∀ k, S k → B ≤ k) : Below B w w' :=
  ⟨h.os, h.tape, h.output, h.size, fun k hk => h.block k (Nat.lt_of_lt_of_le hk hB) fun hs => by have := hS k hs; omega⟩
theorem Keeps.drew {S : Nat → Prop} {a w : World} (h : Keeps S a w) : Keeps S a w.drew := ⟨h.os, h.tape, h.output, h.size, h.block⟩
theorem Keeps.drewN {S : Nat → Prop} {a w : World} (h : Keeps S a w) (n : Nat) : Keeps S a (w.drewN n) := ⟨h.os, h.tape, h.output, h.size, h.block⟩
theorem Keeps.alloc {S : Nat → Prop} {a w : World} (h : Keeps S a w) (o : Obj) : Keeps S a (w.alloc o) :=
  h.trans ⟨rfl, rfl, rfl, by simp, fun k hk _ => Below.heap_alloc _ _ _ hk⟩
theorem Keeps.setCell {S : Nat → Prop} {a w : World} (h : Keeps S a w) {p : Addr} (hp : S p.block) (u : Value) : Keeps S a (w.setCell p u) :=
  h.trans ⟨rfl, rfl, rfl, by simp [World.setCell], fun k _ hs => Below.heap_setCell _ _ _ _ (fun e => hs (e ▸ hp))⟩
theorem below_drewN {B : Nat} {a w : World} (h : Below B a w) (n : Nat) : Below B a (w.drewN n) := ⟨h.os, h.tape, h.output, h.size, h.block⟩
theorem below_keeps {B : Nat} {a w w' : World} {S : Nat → Prop} (h : Below B a w) (hk : Keeps S w w') (hB : B ≤ w.heap.size) (hS : ∀ k, S k → B ≤ k) : Below B a w' := h.trans (hk.below hB hS)
theorem below_trans {B B' : Nat} {a b c : World} (h : Below B a b) (k : Below B' b c) (hB : B ≤ B') : Below B a c := h.trans (k.mono hB)

/-- The blocks of a list read the same. -/
def SameOn (l : List Nat) (w w' : World) : Prop := ∀ b, b ∈ l → w'.heap[b]? = w.heap[b]?
theorem SameOn.of_below {l : List Nat} {B : Nat} {w w' : World} (h : Below B w w') (hl : ∀ b, b ∈ l → b < B) : SameOn l w w' := fun b hb => h.block b (hl b hb)
theorem SameOn.of_keeps {l : List Nat} {S : Nat → Prop} {w w' : World} (h : Keeps S w w') (hl : ∀ b, b ∈ l → b < w.heap.size) (hS : ∀ b, b ∈ l → ¬ S b) : SameOn l w w' := fun b hb => h.block b (hl b hb) (hS b hb)

/-- All blocks of a header are new: from B on. -/
def Fresh (B : Nat) (A : Option Addr) : Prop := ∀ b, b ∈ fpA A → B ≤ b
theorem Fresh.none_ (B : Nat) : Fresh B none := by simp [Fresh]
theorem Fresh.mono {B B' : Nat} {A : Option Addr} (h : Fresh B A) (hB : B' ≤ B) : Fresh B' A := fun b hb => Nat.le_trans hB (h b hb)

/-! ### Slices -/
/-- The slice header (A, n, cap) over elements of type e (sz cells each) reads as the cells xs; its block is a row of such elements, whole, not frozen. -/
def Sl (w : World) (e : TypeId) (sz : Nat) (A : Option Addr) (n cap : Nat) (xs : List Value) : Prop :=
  xs.length = n * sz ∧ n ≤ cap ∧ cap ≤ maxLen ∧
  ((A = none ∧ cap = 0) ∨ ∃ g off cur, A = some ⟨g, off, none⟩ ∧ w.heap[g]? = some (.cells cur e (0, 0)) ∧ off + cap * sz ≤ cur.size ∧ (cur.toList.drop off).take (n * sz) = xs)

section
variable {w w' : World} {e : TypeId} {sz n cap : Nat} {A : Option Addr} {xs : List Value}

theorem Sl.nil (w : World) (e : TypeId) (sz : Nat) : Sl w e sz none 0 0 [] := ⟨by simp, Nat.le_refl _, Nat.zero_le _, .inl ⟨rfl, rfl⟩⟩
theorem Sl.lt (h : Sl w e sz A n cap xs) : ∀ b, b ∈ fpA A → b < w.heap.size := by
  intro b hb
  rcases h.2.2.2 with ⟨rfl, _⟩ | ⟨g, off, cur, rfl, hg, _⟩
  · simp at hb
  · simp at hb; subst hb
    exact (Array.getElem?_eq_some_iff.1 hg).1
theorem Sl.frame (h : Sl w e sz A n cap xs) (hs : SameOn (fpA A) w w') : Sl w' e sz A n cap xs := by
  refine ⟨h.1, h.2.1, h.2.2.1, ?_⟩
  rcases h.2.2.2 with hn | ⟨g, off, cur, rfl, hg, r⟩
  · exact .inl hn
  · exact .inr ⟨g, off, cur, rfl, by rw [hs g (by simp)]; exact hg, r⟩
theorem Sl.below (h : Sl w e sz A n cap xs) (hb : Below w.heap.size w w') : Sl w' e sz A n cap xs := h.frame (.of_below hb h.lt)
theorem Sl.keeps (h : Sl w e sz A n cap xs) {S : Nat → Prop} (hk : Keeps S w w') (hS : ∀ b, b ∈ fpA A → ¬ S b) : Sl w' e sz A n cap xs := h.frame (.of_keeps hk h.lt hS)
theorem Sl.drew (h : Sl w e sz A n cap xs) : Sl w.drew e sz A n cap xs := h
theorem Sl.drewN (h : Sl w e sz A n cap xs) (k : Nat) : Sl (w.drewN k) e sz A n cap xs := h
theorem Sl.alloc (h : Sl w e sz A n cap xs) (o : Obj) : Sl (w.alloc o) e sz A n cap xs := h.below ((Below.refl _ _).alloc (Nat.le_refl _) o)
theorem Sl.cell (h : Sl w e sz A n cap xs) {j : Nat} {u : Value} (hj : xs[j]? = some u) : ∃ ad, A = some ad ∧ ad.block < w.heap.size ∧ w.cell? (ad.add j) = some u ∧ ∀ k, w.frozen? (ad.add k) = false := by
  obtain ⟨hl, hn, hm, hh⟩ := h
  have hj' : j < xs.length := (List.getElem?_eq_some_iff.1 hj).1
  rcases hh with ⟨_, h0⟩ | ⟨g, off, cur, rfl, hg, hc, ht⟩
  · have : n = 0 := by omega
    subst this
    simp at hl
    simp [hl] at hj'
  · have hadd : ∀ k, (⟨g, off, none⟩ : Addr).add k = ⟨g, off + k, none⟩ := by intro k; unfold Addr.add; split <;> simp_all
    refine ⟨_, rfl, (Array.getElem?_eq_some_iff.1 hg).1, ?_, fun k => ?_⟩
    · rw [hadd, cell_of_row w g (off + j) cur e (0, 0) hg]
      rw [← ht, List.getElem?_take] at hj
      split at hj
      · rw [List.getElem?_drop] at hj; simpa using hj
      · cases hj
    · rw [hadd]; simp [World.frozen?, hg]
/-- A store into the slice. -/
theorem Sl.set (h : Sl w e sz A n cap xs) {ad : Addr} (hA : A = some ad) (j : Nat) (u : Value) (hj : j < xs.length) : Sl (w.setCell (ad.add j) u) e sz A n cap (xs.set j u) := by
  obtain ⟨hl, hn, hm, hh⟩ := h
  refine ⟨by simpa using hl, hn, hm, ?_⟩
  rcases hh with ⟨h0, _⟩ | ⟨g, off, cur, hA', hg, hc, ht⟩
  · rw [h0] at hA; cases hA
  · rw [hA'] at hA; obtain rfl := Option.some.inj hA
    have hadd : (⟨g, off, none⟩ : Addr).add j = ⟨g, off + j, none⟩ := by unfold Addr.add; split <;> simp_all
    rw [hadd]
    refine .inr ⟨g, off, cur.setIfInBounds (off + j) u, hA', ?_, by simpa using hc, ?_⟩
    · simp [World.setCell, Array.getElem?_modify, hg]
    · rw [Array.toList_setIfInBounds, ← ht]
      apply List.ext_getElem?
      intro i
      simp only [List.getElem?_take, List.getElem?_drop, List.getElem?_set, List.length_take, List.length_drop]
      have hjn : j < n * sz := by omega
      have hsz : off + n * sz ≤ cur.size := by have := Nat.mul_le_mul_right sz hn; omega
      by_cases hij : j = i
      · subst hij; simp [hjn]; split <;> simp <;> omega
      · have : ¬ off + j = off + i := by omega
        simp [hij]
end

/-! ### A slice that is written in its place -/
/-- From w to w' the cells at A have become 'new'; nothing else has turned but for new blocks. -/
def Wr (w w' : World) (A : Option Addr) (new : List Value) : Prop :=
  Keeps (· ∈ fpA A) w w' ∧ ∀ g off cur e, A = some ⟨g, off, none⟩ → w.heap[g]? = some (.cells cur e (0, 0)) → off + new.length ≤ cur.size →
    ∃ cur' : Array Value, w'.heap[g]? = some (.cells cur' e (0, 0)) ∧ cur'.toList = cur.toList.take off ++ (new ++ cur.toList.drop (off + new.length))
/-- The header A' begins k cells behind A (if it has a cell at all). -/
def SubA (A A' : Option Addr) (k n : Nat) : Prop := 0 < n → ∃ ad, A = some ad ∧ A' = some (ad.add k)

theorem addr_lit (g off k : Nat) : (⟨g, off, none⟩ : Addr).add k = ⟨g, off + k, none⟩ := by unfold Addr.add; split <;> simp_all

section
variable {w w' wr : World} {e : TypeId} {sz n cap : Nat} {A A' : Option Addr} {xs new l : List Value}
theorem Wr.start (h : Sl w e sz A n cap xs) : Wr w w A xs := by
  refine ⟨Keeps.refl _ _, fun g off cur e' hA hg hc => ⟨cur, hg, ?_⟩⟩
  rcases h.2.2.2 with ⟨h0, _⟩ | ⟨g', off', cur', hA', hg', hc', ht⟩
  · rw [h0] at hA; cases hA
  · rw [hA] at hA'; injection hA' with hA'; injection hA' with e1 e2; subst e1; subst e2
    rw [hg] at hg'; injection hg' with hg'; injection hg' with e1 e2; subst e1
    have e3 : xs = (cur.toList.drop off).take xs.length := by rw [h.1]; exact ht.symm
    conv => rhs; rw [e3]
    simp only [List.length_take, List.length_drop, Array.length_toList]
    have : min xs.length (cur.size - off) = xs.length := by omega
    rw [this, ← List.drop_drop, List.take_append_drop, List.take_append_drop]
theorem Wr.set (h : Wr w wr A l) {ad : Addr} (hA : A = some ad) {j : Nat} (hj : j < l.length) (u : Value) : Wr w (wr.setCell (ad.add j) u) A (l.set j u) := by
  refine ⟨h.1.setCell (by rw [block_of_add, hA]; simp) u, fun g off cur e' hA' hg hc => ?_⟩
  rw [List.length_set] at hc
  obtain ⟨cur', hg', hl'⟩ := h.2 g off cur e' hA' hg hc
  rw [hA'] at hA; obtain rfl := Option.some.inj hA
  rw [addr_lit]
  refine ⟨cur'.setIfInBounds (off + j) u, by simp [World.setCell, Array.getElem?_modify, hg'], ?_⟩
  have h1 : (List.take off cur.toList).length = off := by simp; omega
  rw [Array.toList_setIfInBounds, hl', List.set_append_right _ _ (by omega), h1, List.length_set, Nat.add_sub_cancel_left, List.set_append_left _ _ hj]
theorem Wr.drew (h : Wr w w' A new) : Wr w w'.drew A new := ⟨h.1.drew, h.2⟩
theorem Wr.drewN (h : Wr w w' A new) (n : Nat) : Wr w (w'.drewN n) A new := ⟨h.1.drewN n, h.2⟩
theorem Wr.sl (h : Wr w w' A new) (hs : Sl w e sz A n cap xs) (hn : new.length = n * sz) : Sl w' e sz A n cap new := by
  refine ⟨hn, hs.2.1, hs.2.2.1, ?_⟩
  rcases hs.2.2.2 with h0 | ⟨g, off, cur, hA, hg, hc, ht⟩
  · exact .inl h0
  · have := Nat.mul_le_mul_right sz hs.2.1
    obtain ⟨cur', hg', hl'⟩ := h.2 g off cur e hA hg (by omega)
    have hsz : cur'.size = cur.size := by
      have := congrArg List.length hl'
      simp at this; omega
    refine .inr ⟨g, off, cur', hA, hg', by omega, ?_⟩
    have h1 : (List.take off cur.toList).length = off := by simp; omega
    rw [hl', List.drop_append_of_le_length (by omega), List.drop_of_length_le (by omega), List.nil_append, ← hn]
    exact List.take_left
theorem Wr.trans {w1 : World} (h : Wr w w1 A l) (h' : Wr w1 w' A new) (hl : l.length = new.length) : Wr w w' A new := by
  refine ⟨h.1.trans h'.1, fun g off cur e' hA hg hc => ?_⟩
  obtain ⟨c1, hg1, hl1⟩ := h.2 g off cur e' hA hg (by omega)
  have hsz : c1.size = cur.size := by
    have := congrArg List.length hl1
    simp at this; omega
  obtain ⟨c2, hg2, hl2⟩ := h'.2 g off c1 e' hA hg1 (by omega)
  refine ⟨c2, hg2, ?_⟩
  have h1 : (List.take off cur.toList).length = off := by simp; omega
  rw [hl2, hl1, List.take_append_of_le_length (by omega), List.take_of_length_le (by omega), ← hl, List.drop_append, h1, List.drop_of_length_le (by omega), Nat.add_sub_cancel_left, List.drop_left, List.nil_append]
/-- What is written into a part of a slice, seen from the slice. -/
theorem Wr.super (hs : Sl w e sz A n cap xs) {k n' cap' : Nat} {xs' : List Value} (hs' : Sl w e sz A' n' cap' xs') (hsub : SubA A A' k new.length) (hfp : ∀ b, b ∈ fpA A' → b ∈ fpA A) (h : Wr w w' A' new) (hk : k + new.length ≤ n * sz) :
    Wr w w' A (xs.take k ++ (new ++ xs.drop (k + new.length))) := by
  refine ⟨h.1.mono fun b _ hb => hfp b hb, fun g off cur e' hA hg hc => ?_⟩
  rcases hs.2.2.2 with ⟨h0, _⟩ | ⟨g0, off0, cur0, hA0, hg0, hc0, ht⟩
  · rw [h0] at hA; cases hA
  · rw [hA] at hA0; injection hA0 with hA0; injection hA0 with e1 e2; subst e1; subst e2
    rw [hg] at hg0; injection hg0 with hg0; injection hg0 with e1 e2; subst e1
    have hcap := Nat.mul_le_mul_right sz hs.2.1
    have hxl := hs.1
    have hcl : (xs.take k ++ (new ++ xs.drop (k + new.length))).length = xs.length := by simp; omega
    rw [hcl]
    have hcur : cur.toList = cur.toList.take off ++ (xs ++ cur.toList.drop (off + xs.length)) := by
      rw [hxl]; conv => rhs; rw [← ht]
      rw [← List.drop_drop, List.take_append_drop, List.take_append_drop]
    have h1 : (List.take off cur.toList).length = off := by simp; omega
    by_cases h0 : new.length = 0
    · obtain rfl : new = [] := List.eq_nil_of_length_eq_zero h0
      simp only [List.nil_append, List.length_nil, Nat.add_zero, List.take_append_drop]
      rcases hs'.2.2.2 with ⟨h0', _⟩ | ⟨g1, off1, cur1, hA1, hg1, hc1, _⟩
      · refine ⟨cur, ?_, hcur⟩
        rw [h.1.block g (Array.getElem?_eq_some_iff.1 hg).1 (by simp [h0'])]; exact hg
      · have hgg : g1 = g := by have := hfp g1 (by simp [hA1]); simpa [hA] using this
        subst hgg
        rw [hg] at hg1; injection hg1 with hg1; injection hg1 with e1 e2; subst e1
        obtain ⟨c2, hg2, hl2⟩ := h.2 g1 off1 cur e' hA1 hg (by simp; omega)
        refine ⟨c2, hg2, ?_⟩
        rw [hl2]; simpa using hcur
    · obtain ⟨ad, h2, h3⟩ := hsub (by omega)
      rw [hA] at h2; obtain rfl := Option.some.inj h2
      rw [addr_lit] at h3
      obtain ⟨c2, hg2, hl2⟩ := h.2 g (off + k) cur e' h3 hg (by omega)
      refine ⟨c2, hg2, ?_⟩
      rw [hl2]
      have ea : List.take (off + k) cur.toList = List.take off cur.toList ++ xs.take k := by
        rw [List.take_add]; congr 1
        rw [← ht, List.take_take]; congr 1; omega
      have eb : List.drop (off + k + new.length) cur.toList = xs.drop (k + new.length) ++ cur.toList.drop (off + xs.length) := by
        conv => lhs; rw [hcur]
        rw [List.drop_append, h1, List.drop_of_length_le (by omega), List.nil_append, List.drop_append_of_le_length (by omega)]
        congr 2; omega
      rw [ea, eb]; simp [List.append_assoc]
end

/-! ### Slices of integers -/
/-- the number of the type int -/
abbrev tInt : TypeId := 3

def ints (l : List Int) : List Value := l.map (Value.int .i64)
@[simp] theorem ints_length (l : List Int) : (ints l).length = l.length := by simp [ints]
theorem ints_get {l : List Int} {j : Nat} {x : Int} (h : l[j]? = some x) : (ints l)[j]? = some (.int .i64 x) := by simp [ints, h]
theorem ints_set (l : List Int) (j : Nat) (x : Int) : (ints l).set j (.int .i64 x) = ints (l.set j x) := by simp [ints, List.map_set]

/-- The header (A, l.length, cap) is a slice of ints that reads as l. -/
def IS (w : World) (A : Option Addr) (cap : Nat) (l : List Int) : Prop := Sl w tInt 1 A l.length cap (ints l)
/-- The header (A, l.length, _) may be read as l. -/
def RdI (w : World) (A : Option Addr) (l : List Int) : Prop := ∀ j x, l[j]? = some x → ∃ ad, A = some ad ∧ w.cell? (ad.add j) = some (.int .i64 x)

section
variable {w w' : World} {A : Option Addr} {cap : Nat} {l : List Int}
theorem RdI.block_lt (h : RdI w A l) {j : Nat} {x : Int} (hj : l[j]? = some x) : ∀ b, b ∈ fpA A → b < w.heap.size := by
  obtain ⟨ad, rfl, hc⟩ := h j x hj
  intro b hb
  simp at hb; subst hb
  have := World.block_lt_of_cell? w _ hc
  rwa [block_of_add] at this
theorem RdI.frame (h : RdI w A l) (hs : SameOn (fpA A) w w') : RdI w' A l := fun j x hj => by
  obtain ⟨ad, rfl, hc⟩ := h j x hj
  exact ⟨ad, rfl, (World.cell?_of_block (w := w) (by rw [block_of_add]; exact hs _ (by simp))).trans hc⟩
theorem RdI.below (h : RdI w A l) (hb : Below w.heap.size w w') : RdI w' A l := fun j x hj =>
  (h.frame (.of_below hb (h.block_lt hj))) j x hj
theorem RdI.keeps (h : RdI w A l) {S : Nat → Prop} (hk : Keeps S w w') (hS : ∀ b, b ∈ fpA A → ¬ S b) : RdI w' A l := fun j x hj =>
  (h.frame (.of_keeps hk (h.block_lt hj) hS)) j x hj
theorem RdI.drewN (h : RdI w A l) (k : Nat) : RdI (w.drewN k) A l := h
theorem IS.rd (h : IS w A cap l) : RdI w A l := fun j x hj => by
  obtain ⟨ad, hA, _, hc, _⟩ := Sl.cell h (ints_get hj)
  exact ⟨ad, hA, hc⟩
theorem IS.below (h : IS w A cap l) (hb : Below w.heap.size w w') : IS w' A cap l := Sl.below h hb
theorem IS.keeps (h : IS w A cap l) {S : Nat → Prop} (hk : Keeps S w w') (hS : ∀ b, b ∈ fpA A → ¬ S b) : IS w' A cap l := Sl.keeps h hk hS
theorem IS.frame (h : IS w A cap l) (hs : SameOn (fpA A) w w') : IS w' A cap l := Sl.frame h hs
theorem IS.lt (h : IS w A cap l) : ∀ b, b ∈ fpA A → b < w.heap.size := Sl.lt h
theorem IS.at_ (h : IS w A cap l) {j : Nat} (hj : j < l.length) : ∃ ad x, A = some ad ∧ l[j]? = some x ∧ ad.block < w.heap.size ∧ w.cell? (ad.add j) = some (.int .i64 x) ∧ ∀ k, w.frozen? (ad.add k) = false := by
  obtain ⟨ad, hA, hb, hc, hf⟩ := Sl.cell h (ints_get (List.getElem?_eq_getElem hj))
  exact ⟨ad, _, hA, List.getElem?_eq_getElem hj, hb, hc, hf⟩
theorem RdI.at_ (h : RdI w A l) {j : Nat} (hj : j < l.length) : ∃ ad x, A = some ad ∧ l[j]? = some x ∧ w.cell? (ad.add j) = some (.int .i64 x) := by
  obtain ⟨ad, hA, hc⟩ := h j _ (List.getElem?_eq_getElem hj)
  exact ⟨ad, _, hA, List.getElem?_eq_getElem hj, hc⟩
theorem IS.set (h : IS w A cap l) {ad : Addr} (hA : A = some ad) {j : Nat} (x : Int) (hj : j < l.length) : IS (w.setCell (ad.add j) (.int .i64 x)) A cap (l.set j x) := by
  have := Sl.set h hA j (.int .i64 x) (by simpa using hj)
  rw [ints_set] at this
  unfold IS; rw [List.length_set]; exact this
end

/-- WHAT A FUNCTION LEAVES THAT RETURNS A NEW SLICE OF INTS. -/
def RetI (w : World) (l : List Int) (e : Ending) (w' : World) : Prop :=
  ∃ A cap, e = .returned (.slice A l.length cap) ∧ IS w' A cap l ∧ Fresh w.heap.size A ∧ Below w.heap.size w w'

theorem IS.made (w : World) (n : Nat) (hn : n ≤ maxLen) : IS (w.alloc (.cells (madeCells #[.int .i64 0] n) tInt)) (some ⟨w.heap.size, 0, none⟩) n (List.replicate n 0) := by
  refine ⟨by simp, by simp, hn, .inr ⟨w.heap.size, 0, _, rfl, heap_alloc_new w _, by simp [size_madeCells], ?_⟩⟩
  rw [toList_madeCells_one]
  simp [ints]
end Go.Proofs.YtahnhblodfdfhaaDoor
