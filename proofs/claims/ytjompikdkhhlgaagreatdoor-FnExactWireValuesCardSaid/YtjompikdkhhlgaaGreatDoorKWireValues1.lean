/-
  What the texts above it need, part 1.
-/
import Derived.Test.YtjompikdkhhlgaaGreatDoorRows
import Derived.WalkKit
import Derived.WalkSpells
import Derived.WalkLawsBesides
import Derived.Deep.Draws
import Derived.Lib.Hide
import Derived.Deep.OwnRows
import Derived.Deep.QuietTactic
import Derived.BigQuiet
import Derived.Deep.LoopGhost
import Derived.StillTail
import Derived.KernelRfl
import Derived.OrdersHeld
import Derived.StillTailTactics
import Derived.Deep.RegionHeld
import Derived.IntWalk
namespace Go.Proofs.YtjompikdkhhlgaaGreatDoor
open Go.RowKit
theorem nS {α : Type} : (∀ (l : List α) (i : Nat) (a : α), l.toArray.setIfInBounds i a = (l.set i a).toArray) ∧ (∀ (x a : α) (l : List α), (x :: l).set 0 a = a :: l) ∧ ∀ (x a : α) (l : List α) (n : Nat), (x :: l).set (n + 1) a = x :: l.set n a := ⟨fun _ _ _ => List.setIfInBounds_toArray .., fun _ _ _ => List.set_cons_zero .., fun _ _ _ _ => List.set_cons_succ ..⟩
theorem lH {p : Prop} (h : p) : RowKit.Hid p := h
end Go.Proofs.YtjompikdkhhlgaaGreatDoor

namespace Go.Proofs.YtjompikdkhhlgaaGreatDoor
open Go.RowKit
theorem ret_bool {a b : Bool} (h : a = b) : Ending.returned (.bool a) = .returned (.bool b) := by rw [h]
theorem ret_int {k : IntKind} {a b : Int} (h : a = b) : Ending.returned (.int k a) = .returned (.int k b) := by rw [h]
theorem block_of_add (a : Addr) (n : Nat) : (a.add n).block = a.block := by unfold Addr.add; split <;> rfl
theorem add_of_add (a : Addr) (i j : Nat) : (a.add i).add j = a.add (i + j) := by
 unfold Addr.add
 by_cases hi : i = 0 <;> by_cases hj : j = 0 <;> simp [hi, hj, Nat.add_assoc]
def fpA (A : Option Addr) : List Nat := A.toList.map (·.block)
@[simp] theorem fpA_none : fpA none = [] := rfl
@[simp] theorem fpA_some (a : Addr) : fpA (some a) = [a.block] := rfl
structure Keeps (S : Nat → Prop) (w w' : World) : Prop where
 os : w'.os = w.os
 tape : w'.tape = w.tape
 output : w'.output = w.output
 size : w.heap.size ≤ w'.heap.size
 block : ∀ k, k < w.heap.size → ¬ S k → w'.heap[k]? = w.heap[k]?
theorem Keeps.refl (S : Nat → Prop) (w : World) : Keeps S w w := ⟨rfl, rfl, rfl, Nat.le_refl _, fun _ _ _ => rfl⟩
theorem Keeps.trans {S : Nat → Prop} {a b c : World} (h : Keeps S a b) (k : Keeps S b c) : Keeps S a c :=
 ⟨k.os.trans h.os, k.tape.trans h.tape, k.output.trans h.output, Nat.le_trans h.size k.size, fun i hi hs => (k.block i (Nat.lt_of_lt_of_le hi h.size) hs).trans (h.block i hi hs)⟩
theorem Keeps.mono {S T : Nat → Prop} {w w' : World} (h : Keeps S w w') (hS : ∀ k, k < w.heap.size → S k → T k) : Keeps T w w' :=
 ⟨h.os, h.tape, h.output, h.size, fun k hk ht => h.block k hk fun hs => ht (hS k hk hs)⟩
theorem Keeps.of_below {w w' : World} (h : Below w.heap.size w w') (S : Nat → Prop) : Keeps S w w' := ⟨h.os, h.tape, h.output, h.size, fun k hk _ => h.block k hk⟩
theorem Keeps.below {S : Nat → Prop} {w w' : World} (h : Keeps S w w') {B : Nat} (hB : B ≤ w.heap.size) (hS : ∀ k, S k → B ≤ k) : Below B w w' :=
 ⟨h.os, h.tape, h.output, h.size, fun k hk => h.block k (Nat.lt_of_lt_of_le hk hB) fun hs => by have := hS k hs; omega⟩
theorem Keeps.drew {S : Nat → Prop} {a w : World} (h : Keeps S a w) : Keeps S a w.drew := ⟨h.os, h.tape, h.output, h.size, h.block⟩
theorem Keeps.drewN {S : Nat → Prop} {a w : World} (h : Keeps S a w) (n : Nat) : Keeps S a (w.drewN n) := ⟨h.os, h.tape, h.output, h.size, h.block⟩
theorem Keeps.alloc {S : Nat → Prop} {a w : World} (h : Keeps S a w) (o : Obj) : Keeps S a (w.alloc o) :=
 h.trans ⟨rfl, rfl, rfl, by simp, fun k hk _ => Below.heap_alloc _ _ _ hk⟩
theorem Keeps.setCell {S : Nat → Prop} {a w : World} (h : Keeps S a w) {p : Addr} (hp : S p.block) (u : Value) : Keeps S a (w.setCell p u) :=
 h.trans ⟨rfl, rfl, rfl, by simp [World.setCell], fun k _ hs => Below.heap_setCell _ _ _ _ (fun e => hs (e ▸ hp))⟩
theorem below_drewN {B : Nat} {a w : World} (h : Below B a w) (n : Nat) : Below B a (w.drewN n) := ⟨h.os, h.tape, h.output, h.size, h.block⟩
theorem below_keeps {B : Nat} {a w w' : World} {S : Nat → Prop} (h : Below B a w) (hk : Keeps S w w') (hB : B ≤ w.heap.size) (hS : ∀ k, S k → B ≤ k) : Below B a w' := h.trans (hk.below hB hS)
theorem below_trans {B B' : Nat} {a b c : World} (h : Below B a b) (k : Below B' b c) (hB : B ≤ B') : Below B a c := h.trans (k.mono hB)
def SameOn (l : List Nat) (w w' : World) : Prop := ∀ b, b ∈ l → w'.heap[b]? = w.heap[b]?
theorem SameOn.of_below {l : List Nat} {B : Nat} {w w' : World} (h : Below B w w') (hl : ∀ b, b ∈ l → b < B) : SameOn l w w' := fun b hb => h.block b (hl b hb)
theorem SameOn.of_keeps {l : List Nat} {S : Nat → Prop} {w w' : World} (h : Keeps S w w') (hl : ∀ b, b ∈ l → b < w.heap.size) (hS : ∀ b, b ∈ l → ¬ S b) : SameOn l w w' := fun b hb => h.block b (hl b hb) (hS b hb)
def Fresh (B : Nat) (A : Option Addr) : Prop := ∀ b, b ∈ fpA A → B ≤ b
theorem Fresh.none_ (B : Nat) : Fresh B none := by simp [Fresh]
theorem Fresh.mono {B B' : Nat} {A : Option Addr} (h : Fresh B A) (hB : B' ≤ B) : Fresh B' A := fun b hb => Nat.le_trans hB (h b hb)
def Sl (w : World) (e : TypeId) (sz : Nat) (A : Option Addr) (n cap : Nat) (xs : List Value) : Prop :=
 xs.length = n * sz ∧ n ≤ cap ∧ cap ≤ maxLen ∧
 ((A = none ∧ cap = 0) ∨ ∃ g off cur, A = some ⟨g, off, none⟩ ∧ w.heap[g]? = some (.cells cur e (0, 0)) ∧ off + cap * sz ≤ cur.size ∧ (cur.toList.drop off).take (n * sz) = xs)
section
variable {w w' : World} {e : TypeId} {sz n cap : Nat} {A : Option Addr} {xs : List Value}
theorem Sl.nil (w : World) (e : TypeId) (sz : Nat) : Sl w e sz none 0 0 [] := ⟨by simp, Nat.le_refl _, Nat.zero_le _, .inl ⟨rfl, rfl⟩⟩
theorem Sl.lt (h : Sl w e sz A n cap xs) : ∀ b, b ∈ fpA A → b < w.heap.size := by
 intro b hb
 rcases h.2.2.2 with ⟨rfl, _⟩ | ⟨g, off, cur, rfl, hg, _⟩
 · simp at hb
 · simp at hb; subst hb
   exact (Array.getElem?_eq_some_iff.1 hg).1
theorem Sl.frame (h : Sl w e sz A n cap xs) (hs : SameOn (fpA A) w w') : Sl w' e sz A n cap xs := by
 refine ⟨h.1, h.2.1, h.2.2.1, ?_⟩
 rcases h.2.2.2 with hn | ⟨g, off, cur, rfl, hg, r⟩
 · exact .inl hn
 · exact .inr ⟨g, off, cur, rfl, by rw [hs g (by simp)]; exact hg, r⟩
theorem Sl.below (h : Sl w e sz A n cap xs) (hb : Below w.heap.size w w') : Sl w' e sz A n cap xs := h.frame (.of_below hb h.lt)
theorem Sl.keeps (h : Sl w e sz A n cap xs) {S : Nat → Prop} (hk : Keeps S w w') (hS : ∀ b, b ∈ fpA A → ¬ S b) : Sl w' e sz A n cap xs := h.frame (.of_keeps hk h.lt hS)
theorem Sl.drew (h : Sl w e sz A n cap xs) : Sl w.drew e sz A n cap xs := h
theorem Sl.drewN (h : Sl w e sz A n cap xs) (k : Nat) : Sl (w.drewN k) e sz A n cap xs := h
theorem Sl.alloc (h : Sl w e sz A n cap xs) (o : Obj) : Sl (w.alloc o) e sz A n cap xs := h.below ((Below.refl _ _).alloc (Nat.le_refl _) o)
theorem Sl.cell (h : Sl w e sz A n cap xs) {j : Nat} {u : Value} (hj : xs[j]? = some u) : ∃ ad, A = some ad ∧ ad.block < w.heap.size ∧ w.cell? (ad.add j) = some u ∧ ∀ k, w.frozen? (ad.add k) = false := by
 obtain ⟨hl, hn, hm, hh⟩ := h
 have hj' : j < xs.length := (List.getElem?_eq_some_iff.1 hj).1
 rcases hh with ⟨_, h0⟩ | ⟨g, off, cur, rfl, hg, hc, ht⟩
 · have : n = 0 := by omega
   subst this
   simp at hl
   simp [hl] at hj'
 · have hadd : ∀ k, (⟨g, off, none⟩ : Addr).add k = ⟨g, off + k, none⟩ := by intro k; unfold Addr.add; split <;> simp_all
   refine ⟨_, rfl, (Array.getElem?_eq_some_iff.1 hg).1, ?_, fun k => ?_⟩
   · rw [hadd, cell_of_row w g (off + j) cur e (0, 0) hg]
     rw [← ht, List.getElem?_take] at hj
     split at hj
     · rw [List.getElem?_drop] at hj; simpa using hj
     · cases hj
   · rw [hadd]; simp [World.frozen?, hg]
theorem Sl.set (h : Sl w e sz A n cap xs) {ad : Addr} (hA : A = some ad) (j : Nat) (u : Value) (hj : j < xs.length) : Sl (w.setCell (ad.add j) u) e sz A n cap (xs.set j u) := by
 obtain ⟨hl, hn, hm, hh⟩ := h
 refine ⟨by simpa using hl, hn, hm, ?_⟩
 rcases hh with ⟨h0, _⟩ | ⟨g, off, cur, hA', hg, hc, ht⟩
 · rw [h0] at hA; cases hA
 · rw [hA'] at hA; obtain rfl := Option.some.inj hA
   have hadd : (⟨g, off, none⟩ : Addr).add j = ⟨g, off + j, none⟩ := by unfold Addr.add; split <;> simp_all
   rw [hadd]
   refine .inr ⟨g, off, cur.setIfInBounds (off + j) u, hA', ?_, by simpa using hc, ?_⟩
   · simp [World.setCell, Array.getElem?_modify, hg]
   · rw [Array.toList_setIfInBounds, ← ht]
     apply List.ext_getElem?
     intro i
     simp only [List.getElem?_take, List.getElem?_drop, List.getElem?_set, List.length_take, List.length_drop]
     have hjn : j < n * sz := by omega
     have hsz : off + n * sz ≤ cur.size := by have := Nat.mul_le_mul_right sz hn; omega
     by_cases hij : j = i
     · subst hij; simp [hjn]; split <;> simp <;> omega
     · have : ¬ off + j = off + i := by omega
       simp [hij]
end
def Wr (w w' : World) (A : Option Addr) (new : List Value) : Prop :=
 Keeps (· ∈ fpA A) w w' ∧ ∀ g off cur e, A = some ⟨g, off, none⟩ → w.heap[g]? = some (.cells cur e (0, 0)) → off + new.length ≤ cur.size →
  ∃ cur' : Array Value, w'.heap[g]? = some (.cells cur' e (0, 0)) ∧ cur'.toList = cur.toList.take off ++ (new ++ cur.toList.drop (off + new.length))
def SubA (A A' : Option Addr) (k n : Nat) : Prop := 0 < n → ∃ ad, A = some ad ∧ A' = some (ad.add k)
theorem addr_lit (g off k : Nat) : (⟨g, off, none⟩ : Addr).add k = ⟨g, off + k, none⟩ := by unfold Addr.add; split <;> simp_all
section
variable {w w' wr : World} {e : TypeId} {sz n cap : Nat} {A A' : Option Addr} {xs new l : List Value}
theorem Wr.start (h : Sl w e sz A n cap xs) : Wr w w A xs := by
 refine ⟨Keeps.refl _ _, fun g off cur e' hA hg hc => ⟨cur, hg, ?_⟩⟩
 rcases h.2.2.2 with ⟨h0, _⟩ | ⟨g', off', cur', hA', hg', hc', ht⟩
 · rw [h0] at hA; cases hA
 · rw [hA] at hA'; injection hA' with hA'; injection hA' with e1 e2; subst e1; subst e2
   rw [hg] at hg'; injection hg' with hg'; injection hg' with e1 e2; subst e1
   have e3 : xs = (cur.toList.drop off).take xs.length := by rw [h.1]; exact ht.symm
   conv => rhs; rw [e3]
   simp only [List.length_take, List.length_drop, Array.length_toList]
   have : min xs.length (cur.size - off) = xs.length := by omega
   rw [this, ← List.drop_drop, List.take_append_drop, List.take_append_drop]
theorem Wr.set (h : Wr w wr A l) {ad : Addr} (hA : A = some ad) {j : Nat} (hj : j < l.length) (u : Value) : Wr w (wr.setCell (ad.add j) u) A (l.set j u) := by
 refine ⟨h.1.setCell (by rw [block_of_add, hA]; simp) u, fun g off cur e' hA' hg hc => ?_⟩
 rw [List.length_set] at hc
 obtain ⟨cur', hg', hl'⟩ := h.2 g off cur e' hA' hg hc
 rw [hA'] at hA; obtain rfl := Option.some.inj hA
 rw [addr_lit]
 refine ⟨cur'.setIfInBounds (off + j) u, by simp [World.setCell, Array.getElem?_modify, hg'], ?_⟩
 have h1 : (List.take off cur.toList).length = off := by simp; omega
 rw [Array.toList_setIfInBounds, hl', List.set_append_right _ _ (by omega), h1, List.length_set, Nat.add_sub_cancel_left, List.set_append_left _ _ hj]
theorem Wr.drew (h : Wr w w' A new) : Wr w w'.drew A new := ⟨h.1.drew, h.2⟩
theorem Wr.drewN (h : Wr w w' A new) (n : Nat) : Wr w (w'.drewN n) A new := ⟨h.1.drewN n, h.2⟩
theorem Wr.sl (h : Wr w w' A new) (hs : Sl w e sz A n cap xs) (hn : new.length = n * sz) : Sl w' e sz A n cap new := by
 refine ⟨hn, hs.2.1, hs.2.2.1, ?_⟩
 rcases hs.2.2.2 with h0 | ⟨g, off, cur, hA, hg, hc, ht⟩
 · exact .inl h0
 · have := Nat.mul_le_mul_right sz hs.2.1
   obtain ⟨cur', hg', hl'⟩ := h.2 g off cur e hA hg (by omega)
   have hsz : cur'.size = cur.size := by
    have := congrArg List.length hl'
    simp at this; omega
   refine .inr ⟨g, off, cur', hA, hg', by omega, ?_⟩
   have h1 : (List.take off cur.toList).length = off := by simp; omega
   rw [hl', List.drop_append_of_le_length (by omega), List.drop_of_length_le (by omega), List.nil_append, ← hn]
   exact List.take_left
theorem Wr.trans {w1 : World} (h : Wr w w1 A l) (h' : Wr w1 w' A new) (hl : l.length = new.length) : Wr w w' A new := by
 refine ⟨h.1.trans h'.1, fun g off cur e' hA hg hc => ?_⟩
 obtain ⟨c1, hg1, hl1⟩ := h.2 g off cur e' hA hg (by omega)
 have hsz : c1.size = cur.size := by
  have := congrArg List.length hl1
  simp at this; omega
 obtain ⟨c2, hg2, hl2⟩ := h'.2 g off c1 e' hA hg1 (by omega)
 refine ⟨c2, hg2, ?_⟩
 have h1 : (List.take off cur.toList).length = off := by simp; omega
 rw [hl2, hl1, List.take_append_of_le_length (by omega), List.take_of_length_le (by omega), ← hl, List.drop_append, h1, List.drop_of_length_le (by omega), Nat.add_sub_cancel_left, List.drop_left, List.nil_append]
end
abbrev tInt : TypeId := 3
def ints (l : List Int) : List Value := l.map (Value.int .i64)
@[simp] theorem ints_length (l : List Int) : (ints l).length = l.length := by simp [ints]
theorem ints_get {l : List Int} {j : Nat} {x : Int} (h : l[j]? = some x) : (ints l)[j]? = some (.int .i64 x) := by simp [ints, h]
theorem ints_set (l : List Int) (j : Nat) (x : Int) : (ints l).set j (.int .i64 x) = ints (l.set j x) := by simp [ints, List.map_set]
def IS (w : World) (A : Option Addr) (cap : Nat) (l : List Int) : Prop := Sl w tInt 1 A l.length cap (ints l)
def RdI (w : World) (A : Option Addr) (l : List Int) : Prop := ∀ j x, l[j]? = some x → ∃ ad, A = some ad ∧ w.cell? (ad.add j) = some (.int .i64 x)
section
variable {w w' : World} {A : Option Addr} {cap : Nat} {l : List Int}
theorem RdI.block_lt (h : RdI w A l) {j : Nat} {x : Int} (hj : l[j]? = some x) : ∀ b, b ∈ fpA A → b < w.heap.size := by
 obtain ⟨ad, rfl, hc⟩ := h j x hj
 intro b hb
 simp at hb; subst hb
 have := World.block_lt_of_cell? w _ hc
 rwa [block_of_add] at this
theorem RdI.frame (h : RdI w A l) (hs : SameOn (fpA A) w w') : RdI w' A l := fun j x hj => by
 obtain ⟨ad, rfl, hc⟩ := h j x hj
 exact ⟨ad, rfl, (World.cell?_of_block (w := w) (by rw [block_of_add]; exact hs _ (by simp))).trans hc⟩
theorem RdI.below (h : RdI w A l) (hb : Below w.heap.size w w') : RdI w' A l := fun j x hj =>
 (h.frame (.of_below hb (h.block_lt hj))) j x hj
theorem RdI.keeps (h : RdI w A l) {S : Nat → Prop} (hk : Keeps S w w') (hS : ∀ b, b ∈ fpA A → ¬ S b) : RdI w' A l := fun j x hj =>
 (h.frame (.of_keeps hk (h.block_lt hj) hS)) j x hj
theorem RdI.drewN (h : RdI w A l) (k : Nat) : RdI (w.drewN k) A l := h
theorem IS.rd (h : IS w A cap l) : RdI w A l := fun j x hj => by
 obtain ⟨ad, hA, _, hc, _⟩ := Sl.cell h (ints_get hj)
 exact ⟨ad, hA, hc⟩
theorem IS.below (h : IS w A cap l) (hb : Below w.heap.size w w') : IS w' A cap l := Sl.below h hb
theorem IS.keeps (h : IS w A cap l) {S : Nat → Prop} (hk : Keeps S w w') (hS : ∀ b, b ∈ fpA A → ¬ S b) : IS w' A cap l := Sl.keeps h hk hS
theorem IS.frame (h : IS w A cap l) (hs : SameOn (fpA A) w w') : IS w' A cap l := Sl.frame h hs
theorem IS.lt (h : IS w A cap l) : ∀ b, b ∈ fpA A → b < w.heap.size := Sl.lt h
theorem IS.at_ (h : IS w A cap l) {j : Nat} (hj : j < l.length) : ∃ ad x, A = some ad ∧ l[j]? = some x ∧ ad.block < w.heap.size ∧ w.cell? (ad.add j) = some (.int .i64 x) ∧ ∀ k, w.frozen? (ad.add k) = false := by
 obtain ⟨ad, hA, hb, hc, hf⟩ := Sl.cell h (ints_get (List.getElem?_eq_getElem hj))
 exact ⟨ad, _, hA, List.getElem?_eq_getElem hj, hb, hc, hf⟩
theorem RdI.at_ (h : RdI w A l) {j : Nat} (hj : j < l.length) : ∃ ad x, A = some ad ∧ l[j]? = some x ∧ w.cell? (ad.add j) = some (.int .i64 x) := by
 obtain ⟨ad, hA, hc⟩ := h j _ (List.getElem?_eq_getElem hj)
 exact ⟨ad, _, hA, List.getElem?_eq_getElem hj, hc⟩
theorem IS.set (h : IS w A cap l) {ad : Addr} (hA : A = some ad) {j : Nat} (x : Int) (hj : j < l.length) : IS (w.setCell (ad.add j) (.int .i64 x)) A cap (l.set j x) := by
 have := Sl.set h hA j (.int .i64 x) (by simpa using hj)
 rw [ints_set] at this
 unfold IS; rw [List.length_set]; exact this
end
def RetI (w : World) (l : List Int) (e : Ending) (w' : World) : Prop :=
 ∃ A cap, e = .returned (.slice A l.length cap) ∧ IS w' A cap l ∧ Fresh w.heap.size A ∧ Below w.heap.size w w'
theorem IS.made (w : World) (n : Nat) (hn : n ≤ maxLen) : IS (w.alloc (.cells (madeCells #[.int .i64 0] n) tInt)) (some ⟨w.heap.size, 0, none⟩) n (List.replicate n 0) := by
 refine ⟨by simp, by simp, hn, .inr ⟨w.heap.size, 0, _, rfl, heap_alloc_new w _, by simp [size_madeCells], ?_⟩⟩
 rw [toList_madeCells_one]
 simp [ints]
def RdC (w : World) (A : Option Addr) (xs : List Value) : Prop := ∀ j u, xs[j]? = some u → ∃ ad, A = some ad ∧ w.cell? (ad.add j) = some u
theorem Sl.rdc {w : World} {e : TypeId} {sz n cap : Nat} {A : Option Addr} {xs : List Value} (h : Sl w e sz A n cap xs) : RdC w A xs := fun j u hj => by
 obtain ⟨ad, hA, _, hc, _⟩ := Sl.cell h hj
 exact ⟨ad, hA, hc⟩
theorem RdC.below {w w' : World} {A : Option Addr} {xs : List Value} (h : RdC w A xs) (hb : Below w.heap.size w w') : RdC w' A xs := fun j u hj => by
 obtain ⟨ad, hA, hc⟩ := h j u hj
 exact ⟨ad, hA, (hb.cell (World.block_lt_of_cell? w _ hc)).trans hc⟩
theorem RdC.alloc {w : World} {A : Option Addr} {xs : List Value} (h : RdC w A xs) (o : Obj) : RdC (w.alloc o) A xs := h.below ((Below.refl _ _).alloc (Nat.le_refl _) o)
theorem RdI.rdc {w : World} {A : Option Addr} {l : List Int} (h : RdI w A l) : RdC w A (ints l) := fun j u hj => by
 simp only [ints, List.getElem?_map, Option.map_eq_some_iff] at hj
 obtain ⟨x, hx, rfl⟩ := hj
 exact h j x hx
theorem ints_one (l : List Int) : ∀ u ∈ ints l, u.oneCell' = true := by
 intro u hu
 simp only [ints, List.mem_map] at hu
 obtain ⟨x, _, rfl⟩ := hu
 rfl
theorem RdC.nil (w : World) (A : Option Addr) : RdC w A [] := fun j u h => by simp at h
theorem Sl.laid (w : World) (e : TypeId) (sz n : Nat) (cs : Array Value) (hn : n ≤ maxLen) (hc : cs.size = n * sz) : Sl (w.alloc (.cells cs e)) e sz (some ⟨w.heap.size, 0, none⟩) n n cs.toList :=
 ⟨by simpa using hc, Nat.le_refl _, hn, .inr ⟨w.heap.size, 0, cs, rfl, heap_alloc_new w _, by omega, by rw [List.drop_zero]; exact List.take_of_length_le (by simp; omega)⟩⟩
section
variable {P : Program} (w : World)
theorem run_append_Sl_rd (t ty e : TypeId) (i : TypeInfo) (z : Value) (size bytes : Nat) (ht : P.underlying t = some (.slice e)) (hi : P.info? e = some i) (hz : i.zero = some z)
  (hsize : i.size = size) (hby : i.bytes = bytes) (hzs : z.cells.size = size) (hsz : 0 < size)
  (A : Option Addr) (n cap : Nat) (xs : List Value) (hs : Sl w e size A n cap xs)
  (B : Option Addr) (m c : Nat) (news : List Value) (hl : news.length = m * size) (hr : RdC w B news) (h1 : ∀ u ∈ news, u.oneCell' = true)
  (h63 : n + m ≤ maxLen) (hbytes : (n + m) * bytes ≤ 140737488355328) :
  ∃ A' cap' w', (Builtin.append_ #[t, t] ty #[.slice A n cap, .slice B m c]).run P w = .ok (.slice A' (n + m) cap') w' ∧ Sl w' e size A' (n + m) cap' (xs ++ news) ∧
    (∀ b, b ∈ fpA A' → b ∈ fpA A ∨ w.heap.size ≤ b) ∧ Keeps (· ∈ fpA A) w w' ∧ RdC w' A xs := by
 subst hsize
 subst hby
 have hsmall : n + m ≤ 9223372036854775807 := by simp only [maxLen] at h63; omega
 have hlen : (xs ++ news).length = (n + m) * i.size := by rw [List.length_append, hs.1, hl, Nat.add_mul]
 have hrd0 := hs.rdc
 obtain ⟨hxl, hnc, hcm, hh⟩ := hs
 rcases B with _ | a
 · -- nothing is appended
   have hn0 : news = [] := by
    cases news with
    | nil => rfl
    | cons u r => obtain ⟨ad, h, _⟩ := hr 0 u (by simp); cases h
   subst hn0
   have hm : m = 0 := by
    rcases Nat.eq_zero_or_pos m with h | h
    · exact h
    · have := Nat.mul_pos h hsz; simp at hl; omega
   subst hm
   refine ⟨A, cap, w, ?_, ?_, fun b hb => .inl hb, Keeps.refl _ _, hrd0⟩
   · rcases hh with ⟨rfl, rfl⟩ | ⟨g, off, cur, rfl, hg, hc, hx⟩
     · have : n = 0 := by omega
       subst this
       simp [Builtin.append_, run_underlying ht, sizeOf, typeInfo, hi, Builtin.lenOf, Builtin.firstCells]
     · simp [Builtin.append_, run_underlying ht, sizeOf, typeInfo, hi, Builtin.lenOf, Builtin.firstCells, hnc, storeCells]
   · have hS : Sl w e i.size A n cap xs := ⟨hxl, hnc, hcm, hh⟩
     rw [List.append_nil]; exact hS
 · have hnews : ∀ j u, news[j]? = some u → w.cell? (a.add j) = some u := by
    intro j u hj
    obtain ⟨ad, h, hc⟩ := hr j u hj
    obtain rfl := Option.some.inj h
    exact hc
   have grown : ∀ (old : Nat), old < n + m → ∀ (S : Nat → Prop),
     Sl (w.drew.alloc (.cells (xs.toArray ++ news.toArray ++ Builtin.zeroCells z.cells (grownCap w (n + m) old e - (n + m))) e)) e i.size (some ⟨w.heap.size, 0, none⟩) (n + m) (grownCap w (n + m) old e) (xs ++ news) ∧
     Keeps S w (w.drew.alloc (.cells (xs.toArray ++ news.toArray ++ Builtin.zeroCells z.cells (grownCap w (n + m) old e - (n + m))) e)) := by
    intro old ho S
    have hge := grownCap_ge w (n + m) old e
    have hcm : grownCap w (n + m) old e ≤ maxLen := grownCap_le_maxLen w (n + m) old e h63
    refine ⟨⟨hlen, hge, hcm, .inr ⟨w.heap.size, 0, _, rfl, heap_alloc_new w.drew _, ?_, ?_⟩⟩, ⟨rfl, rfl, rfl, by simp, fun k hk _ => Below.heap_alloc w.drew _ k hk⟩⟩
    · simp only [Array.size_append, List.size_toArray, size_zeroCells, hzs, hxl, hl, ← Nat.add_mul]
      rw [Nat.add_sub_of_le hge]; omega
    · simp only [Array.toList_append, List.append_assoc, List.drop_zero]
      rw [← List.append_assoc, ← hlen]
      exact List.take_left
   rcases hh with ⟨rfl, rfl⟩ | ⟨g, off, cur, rfl, hg, hc, htake⟩
   · have hn0 : n = 0 := by omega
     subst hn0
     have hx : xs = [] := List.eq_nil_of_length_eq_zero (by simpa using hxl)
     subst hx
     by_cases hm : m = 0
     · subst hm
       have hn : news = [] := List.eq_nil_of_length_eq_zero (by simpa using hl)
       subst hn
       refine ⟨none, 0, w, ?_, by simpa using Sl.nil w e i.size, by simp, Keeps.refl _ _, RdC.nil _ _⟩
       simp [Builtin.append_, run_underlying ht, sizeOf, typeInfo, hi, Builtin.lenOf, Builtin.firstCells, loadCells, loadCellsFrom]
     · have hr := run_append_nil (P := P) w t ty e i z ht hi hz a m c news hl hnews (by omega) (by omega) (by have hb := hbytes; simp only [Nat.zero_add] at hb; omega)
       have hgr := grown 0 (by omega) (· ∈ fpA none)
       simp only [Nat.zero_add, List.nil_append, Array.empty_append] at hgr ⊢
       exact ⟨_, _, _, hr, hgr.1, by simp, hgr.2, RdC.nil _ _⟩
   · by_cases hroom : n + m ≤ cap
     · have hfit : off + n * i.size + news.length ≤ cur.size := by
        rw [hl]
        have h2 := Nat.mul_le_mul_right i.size hroom
        rw [Nat.add_mul] at h2; omega
       have hf := run_firstCells_some (P := P) w i.size m a m c news hl hnews
       have hst := run_storeCells_at P g (off + n * i.size) e news 0 cur w hg (by simpa using hfit) h1
       simp only [Nat.add_zero] at hst
       refine ⟨some ⟨g, off, none⟩, cap, w.setRow g (cur.toList.take (off + n * i.size) ++ news ++ cur.toList.drop (off + n * i.size + news.length)).toArray, ?_, ⟨hlen, hroom, hcm, .inr ⟨g, off, _, rfl, setRow_heap w g cur _ e _ hg, ?_, ?_⟩⟩, fun b hb => .inl hb, ⟨rfl, rfl, rfl, by simp, fun k _ hk => setRow_other w g k _ (fun e => hk (by simp [e]))⟩, ?_⟩
       · simp [Builtin.append_, run_underlying ht, sizeOf, typeInfo, hi, Builtin.lenOf, hroom, hf, addr_lit, hst]
       · simp only [List.size_toArray, List.length_append, List.length_take, List.length_drop, Array.length_toList]
         omega
       · have hcl : off + n * i.size ≤ cur.toList.length := by simp; omega
         have e1 : (List.take (off + n * i.size) cur.toList).drop off = xs := by
          rw [List.drop_take, ← htake, Nat.add_sub_cancel_left]
         have e2 : off ≤ (List.take (off + n * i.size) cur.toList).length := by simp; omega
         rw [List.append_assoc, List.drop_append_of_le_length e2, e1, ← List.append_assoc, ← hlen]
         exact List.take_left
       · have hS' : Sl (w.setRow g (cur.toList.take (off + n * i.size) ++ news ++ cur.toList.drop (off + n * i.size + news.length)).toArray) e i.size (some ⟨g, off, none⟩) (n + m) cap (xs ++ news) := by
          refine ⟨hlen, hroom, hcm, .inr ⟨g, off, _, rfl, setRow_heap w g cur _ e _ hg, ?_, ?_⟩⟩
          · simp only [List.size_toArray, List.length_append, List.length_take, List.length_drop, Array.length_toList]
            omega
          · have hcl : off + n * i.size ≤ cur.toList.length := by simp; omega
            have e1 : (List.take (off + n * i.size) cur.toList).drop off = xs := by
             rw [List.drop_take, ← htake, Nat.add_sub_cancel_left]
            have e2 : off ≤ (List.take (off + n * i.size) cur.toList).length := by simp; omega
            rw [List.append_assoc, List.drop_append_of_le_length e2, e1, ← List.append_assoc, ← hlen]
            exact List.take_left
         intro j u hj
         exact hS'.rdc j u (by rw [List.getElem?_append_left (List.getElem?_eq_some_iff.1 hj).1]; exact hj)
     · have holds : ∀ j u, xs[j]? = some u → w.cell? ((⟨g, off, none⟩ : Addr).add j) = some u := by
        intro j u hj
        have hS : Sl w e i.size (some ⟨g, off, none⟩) n cap xs := ⟨hxl, hnc, hcm, .inr ⟨g, off, cur, rfl, hg, hc, htake⟩⟩
        obtain ⟨ad, h, _, hcell, _⟩ := hS.cell hj
        obtain rfl := Option.some.inj h
        exact hcell
       have hr := run_append_grow (P := P) w t ty e i z ht hi hz ⟨g, off, none⟩ n cap xs hxl holds a m c news hl hnews (by omega) (by omega) (growslice_fits (by omega) hbytes)
       have hgr := grown cap (by omega) (· ∈ fpA (some ⟨g, off, none⟩))
       refine ⟨_, _, _, hr, hgr.1, by simp, hgr.2, fun j u hj => ?_⟩
       have hk := hgr.2
       exact ⟨_, rfl, (World.cell?_of_block (w := w) (by rw [block_of_add]; exact Below.heap_alloc w.drew _ _ (Array.getElem?_eq_some_iff.1 hg).1)).trans (holds j u hj)⟩
theorem run_append_Sl (t ty e : TypeId) (i : TypeInfo) (z : Value) (size bytes : Nat) (ht : P.underlying t = some (.slice e)) (hi : P.info? e = some i) (hz : i.zero = some z)
  (hsize : i.size = size) (hby : i.bytes = bytes) (hzs : z.cells.size = size) (hsz : 0 < size)
  (A : Option Addr) (n cap : Nat) (xs : List Value) (hs : Sl w e size A n cap xs)
  (B : Option Addr) (m c : Nat) (news : List Value) (hl : news.length = m * size) (hr : RdC w B news) (h1 : ∀ u ∈ news, u.oneCell' = true)
  (h63 : n + m ≤ maxLen) (hbytes : (n + m) * bytes ≤ 140737488355328) :
  ∃ A' cap' w', (Builtin.append_ #[t, t] ty #[.slice A n cap, .slice B m c]).run P w = .ok (.slice A' (n + m) cap') w' ∧ Sl w' e size A' (n + m) cap' (xs ++ news) ∧
    (∀ b, b ∈ fpA A' → b ∈ fpA A ∨ w.heap.size ≤ b) ∧ Keeps (· ∈ fpA A) w w' := by
 obtain ⟨A', c', w', h1, h2, h3, h4, _⟩ := run_append_Sl_rd (P := P) w t ty e i z size bytes ht hi hz hsize hby hzs hsz A n cap xs hs B m c news hl hr h1 h63 hbytes
 exact ⟨A', c', w', h1, h2, h3, h4⟩
theorem wpList_append_Sl {ops : Array Oper} {rest : List Oper} {o : Oper} {a : Act} {Q : Exit → Act → World → Prop} (hgd : o.guard = none) (s x : Operand) (t : TypeId)
  (ho : o.op = .call { callee := .builtin .append, args := #[s, x], argTypes := #[t, t] })
  (e : TypeId) {z : Value} {size bytes : Nat} (ht : P.underlying t = some (.slice e)) (hinfo : (P.info? e).map (fun i => (i.zero, i.size, i.bytes)) = some (some z, size, bytes)) (hzs : z.cells.size = size) (hsz : 0 < size)
  {A : Option Addr} {n cap : Nat} {xs : List Value} (he : a.eval s = .slice A n cap) (hs : Sl w e size A n cap xs)
  {B : Option Addr} {m c : Nat} {news : List Value} (hx : a.eval x = .slice B m c) (hl : news.length = m * size) (hr : RdC w B news) (h1 : ∀ u ∈ news, u.oneCell' = true)
  (h63 : n + m ≤ maxLen) (hbytes : (n + m) * bytes ≤ 140737488355328)
  (h : ∀ A' cap' w', Sl w' e size A' (n + m) cap' (xs ++ news) → (∀ b, b ∈ fpA A' → b ∈ fpA A ∨ w.heap.size ≤ b) → Keeps (· ∈ fpA A) w w' → wpList P ops Q rest (a.put o.dst (.slice A' (n + m) cap')) w') : wpList P ops Q (o :: rest) a w := by
 obtain ⟨i, hi, hz, hz1, hz2⟩ := info_parts hinfo
 refine wpList_plain hgd fun K hK => ?_
 obtain ⟨A', cap', w', hrun, h2, h3, h4⟩ := run_append_Sl (P := P) w t o.type e i z size bytes ht hi hz hz1 hz2 hzs hsz A n cap xs hs B m c news hl hr h1 h63 hbytes
 unfold Oper.wp execOp
 simp only [ho, resolve, invoke, builtin, Sem.run_bind, Sem.run_pure, Result.andThen_ok, List.map_toArray, List.map_cons, List.map_nil, he, hx, hrun]
 exact hK _ _ (h A' cap' w' h2 h3 h4)
theorem wpList_make_Sl {ops : Array Oper} {rest : List Oper} {o : Oper} {a : Act} {Q : Exit → Act → World → Prop} (hgd : o.guard = none) (l c : Operand) (t : TypeId)
  (ho : o.op = .makeSlice t l c)
  (e : TypeId) {z : Value} {size bytes : Nat} (ht : P.underlying t = some (.slice e)) (hinfo : (P.info? e).map (fun i => (i.zero, i.size, i.bytes)) = some (some z, size, bytes))
  {kl kc : IntKind} {L C : Int} (n k : Nat) (hel : a.eval l = .int kl L) (hec : a.eval c = .int kc C) (hL : L = (n : Int)) (hC : C = (k : Int)) (hnk : n ≤ k) (hbytes : bytes * k ≤ 281474976710656) (h63 : k ≤ maxLen)
  (h : ∀ (G : Addr) w', Sl w' e size (some G) n k ((madeCells z.cells (k * size)).toList.take (n * size)) → w.heap.size ≤ G.block → Below w.heap.size w w' → wpList P ops Q rest (a.put o.dst (.slice (some G) n k)) w') : wpList P ops Q (o :: rest) a w := by
 obtain ⟨i, hi, hz, hz1, hz2⟩ := info_parts hinfo
 subst hz1 hz2 hL hC
 refine wpList_plain hgd fun K hK => ?_
 have h63' : (k : Int) ≤ 9223372036854775807 := by simp only [maxLen] at h63; omega
 have hb' : (i.bytes : Int) * (k : Int) ≤ 281474976710656 := by
  have h : ((i.bytes * k : Nat) : Int) ≤ 281474976710656 := by omega
  rwa [Int.natCast_mul] at h
 have hrun := run_make (P := P) w t e i z ht hi hz kl kc n k (by omega) (by omega) hb' h63'
 simp only [Int.toNat_natCast] at hrun
 unfold Oper.wp
 simp only [execOp, ho, hel, hec, hrun, Sem.run_bind, Sem.run_pure, Result.andThen_ok]
 refine hK _ _ (h ⟨w.heap.size, 0, none⟩ _ ⟨?_, hnk, h63, .inr ⟨w.heap.size, 0, _, rfl, heap_alloc_new w _, by simp [size_madeCells], by simp⟩⟩ (Nat.le_refl _) ((Below.refl _ _).alloc (Nat.le_refl _) _))
 simp only [List.length_take, Array.length_toList, size_madeCells]
 have := Nat.mul_le_mul_right i.size hnk
 omega
end
section
variable {w : World} {e : TypeId} {sz n cap : Nat} {A : Option Addr} {xs : List Value}
theorem Sl.cut (h : Sl w e sz A n cap xs) {l hgh m : Nat} (h1 : l ≤ hgh) (h2 : hgh ≤ n) (h3 : hgh ≤ m) (h4 : m ≤ cap) :
  Sl w e sz (if m = l then A else A.map (·.add (l * sz))) (hgh - l) (m - l) ((xs.drop (l * sz)).take ((hgh - l) * sz)) ∧ (∀ b, b ∈ fpA (if m = l then A else A.map (·.add (l * sz))) → b ∈ fpA A) ∧
   SubA A (if m = l then A else A.map (·.add (l * sz))) (l * sz) ((hgh - l) * sz) := by
 obtain ⟨hxl, hnc, hcm, hh⟩ := h
 refine ⟨?_, ?_, ?_⟩
 · refine ⟨?_, by omega, by omega, ?_⟩
   · have := Nat.mul_le_mul_right sz h2
     simp only [List.length_take, List.length_drop, hxl, Nat.sub_mul]; omega
   · rcases hh with ⟨rfl, rfl⟩ | ⟨g, off, cur, rfl, hg, hc, htake⟩
     · left; refine ⟨by split <;> rfl, by omega⟩
     · right
       have a1 := Nat.mul_le_mul_right sz h2
       have a2 := Nat.mul_le_mul_right sz h1
       have a3 := Nat.mul_le_mul_right sz h3
       have a4 := Nat.mul_le_mul_right sz h4
       by_cases hml : m = l
       · subst hml
         have : hgh = m := by omega
         subst this
         refine ⟨g, off, cur, by simp, hg, by simp; omega, by simp⟩
       · rw [if_neg hml]
         refine ⟨g, off + l * sz, cur, by simp [addr_lit], hg, by rw [Nat.sub_mul]; omega, ?_⟩
         rw [← htake, List.drop_take, List.take_take, List.drop_drop]
         congr 1
         rw [Nat.sub_mul]; omega
 · intro b hb
   split at hb
   · exact hb
   · cases A with
     | none => simp at hb
     | some a => simpa [block_of_add] using hb
 · intro hp
   have h0 : 0 < hgh - l := Nat.pos_of_mul_pos_right hp
   rw [if_neg (by omega)]
   rcases hh with ⟨rfl, rfl⟩ | ⟨g, off, cur, rfl, _⟩
   · omega
   · exact ⟨_, rfl, rfl⟩
def OptIs (v : Option Value) (n : Nat) (d : Prop) : Prop := match v with | none => d | some v => ∃ k L, v = .int k L ∧ L = (n : Int)
theorem optNone {n : Nat} {d : Prop} (h : d) : OptIs none n d := h
theorem optSome {k : IntKind} {L : Int} {n : Nat} {d : Prop} (h : L = (n : Int)) : OptIs (some (.int k L)) n d := ⟨k, L, rfl, h⟩
variable {P : Program} {ops : Array Oper} {rest : List Oper} {o : Oper} {a : Act} {Q : Exit → Act → World → Prop}
theorem wpList_slice_Sl (hgd : o.guard = none) (x : Operand) (lo hi mx : Option Operand) (t : TypeId) (ho : o.op = .slice t x lo hi mx)
  (e : TypeId) {z : Option Value} {sz bytes : Nat} (ht : P.underlying t = some (.slice e)) (hinfo : (P.info? e).map (fun i => (i.zero, i.size, i.bytes)) = some (z, sz, bytes))
  {A : Option Addr} {n cap : Nat} {xs : List Value} (hx : a.eval x = .slice A n cap) (hs : Sl w e sz A n cap xs)
  (l hgh m : Nat) (hlo : OptIs (lo.map a.eval) l (l = 0))
  (hhi : OptIs (hi.map a.eval) hgh (hgh = n ∧ mx = none))
  (hmx : OptIs (mx.map a.eval) m (m = cap))
  (h1 : l ≤ hgh) (h2 : hgh ≤ n) (h3 : hgh ≤ m) (h4 : m ≤ cap)
  (h : ∀ A', Sl w e sz A' (hgh - l) (m - l) ((xs.drop (l * sz)).take ((hgh - l) * sz)) → (∀ b, b ∈ fpA A' → b ∈ fpA A) → SubA A A' (l * sz) ((hgh - l) * sz) → wpList P ops Q rest (a.put o.dst (.slice A' (hgh - l) (m - l))) w) :
  wpList P ops Q (o :: rest) a w := by
 obtain ⟨hcut, hfp, hsub⟩ := hs.cut h1 h2 h3 h4
 unfold OptIs at hlo hhi hmx
 refine wpList_plain hgd fun K hK => ?_
 obtain ⟨i, hi', hzz⟩ := Option.map_eq_some_iff.1 hinfo
 simp only [Prod.mk.injEq] at hzz
 have hb : ∀ (k : IntKind) (i : Int) (j y : Nat) (code : BoundsCode), i = (j : Int) → j ≤ y → (Instr.sliceBound (.int k i) y code).run P w = .ok j w := by
  intro k i j y code e hj
  subst e
  rw [run_sliceBound w k _ y code (by omega) (by omega)]; simp
 have hsb : (Instr.sliceBounds true n cap (lo.map a.eval) (hi.map a.eval) (mx.map a.eval)).run P w = .ok (l, hgh, m) w := by
  unfold Instr.sliceBounds
  cases hmv : mx.map a.eval with
  | none =>
    rw [hmv] at hmx; subst hmx
    cases hhv : hi.map a.eval with
    | none =>
      rw [hhv] at hhi; obtain ⟨rfl, _⟩ := hhi
      cases hlv : lo.map a.eval with
      | none => rw [hlv] at hlo; subst hlo; simp
      | some v => rw [hlv] at hlo; obtain ⟨k, L, rfl, hL⟩ := hlo; simp [hb k L l _ _ hL h1]
    | some v =>
      rw [hhv] at hhi; obtain ⟨k, L, rfl, hL⟩ := hhi
      have hb1 := hb k L hgh m .sliceAcap hL h3
      cases hlv : lo.map a.eval with
      | none => rw [hlv] at hlo; subst hlo; simp [hb1]
      | some v => rw [hlv] at hlo; obtain ⟨k', L', rfl, hL'⟩ := hlo; simp [hb1, hb k' L' l _ _ hL' h1]
  | some vm =>
    rw [hmv] at hmx; obtain ⟨km, M, rfl, hM⟩ := hmx
    have hb0 := hb km M m cap .slice3Acap hM h4
    cases hhv : hi.map a.eval with
    | none =>
      rw [hhv] at hhi; obtain ⟨_, h0⟩ := hhi; subst h0; simp at hmv
    | some v =>
      rw [hhv] at hhi; obtain ⟨k, L, rfl, hL⟩ := hhi
      have hb1 := hb k L hgh m .slice3B hL h3
      cases hlv : lo.map a.eval with
      | none => rw [hlv] at hlo; subst hlo; simp [hb0, hb1]
      | some v => rw [hlv] at hlo; obtain ⟨k', L', rfl, hL'⟩ := hlo; simp [hb0, hb1, hb k' L' l _ _ hL' h1]
 have hrun : (Instr.slice t (.slice A n cap) (lo.map a.eval) (hi.map a.eval) (mx.map a.eval)).run P w = .ok (.slice (if m = l then A else A.map (·.add (l * sz))) (hgh - l) (m - l)) w := by
  simp only [Instr.slice, Sem.run_bind, run_underlying ht, Result.andThen_ok, hsb]
  simp [sizeOf, typeInfo, hi', hzz.2.1]
 unfold Oper.wp
 simp only [execOp, ho, hx]
 have hrun' : (Instr.sliceAt t (.slice A n cap) (lo.map a.eval) (hi.map a.eval) (mx.map a.eval)).run P w = .ok (.slice (if m = l then A else A.map (·.add (l * sz))) (hgh - l) (m - l)) w := by
  simp [Instr.sliceAt, run_underlying ht, hrun]
 simp only [hrun', Sem.run_bind, Sem.run_pure, Result.andThen_ok]
 exact hK _ _ (h _ hcut hfp hsub)
end
theorem info_int : (Tryz.prog.info? 3).map (fun i => (i.zero, i.size, i.bytes)) = some (some (.int .i64 0), 1, 8) := by kernel_rfl
theorem take_replicate_step {l : List Int} {k : Nat} {x : Int} (h : l[k]? = some x) :
  (l.take k ++ List.replicate (l.length - k) 0).set k x = l.take (k + 1) ++ List.replicate (l.length - (k + 1)) 0 := by
 have hk : k < l.length := (List.getElem?_eq_some_iff.1 h).1
 apply List.ext_getElem?
 intro i
 simp only [List.getElem?_set, List.getElem?_append, List.getElem?_take, List.length_take, List.getElem?_replicate, List.length_append, List.length_replicate]
 by_cases hi : k = i
 · subst hi
   have a1 : k < min k l.length + (l.length - k) := by omega
   have a2 : k < min (k + 1) l.length := by omega
   simp [h, a1, a2]
 · simp only [hi, if_false]
   by_cases h1 : i < k
   · have : i < k + 1 := by omega
     have : i < min k l.length := by omega
     have : i < min (k+1) l.length := by omega
     simp [*]
   · have a1 : ¬ i < min k l.length := by omega
     have a2 : ¬ i < min (k+1) l.length := by omega
     simp only [a1, a2, if_false]
     have e1 : (i - min k l.length < l.length - k) = (i - min (k+1) l.length < l.length - (k + 1)) := by
      apply propext; omega
     simp only [e1]
theorem madeZeros (n : Nat) : (madeCells (Value.int .i64 0).cells (n * 1)).toList.take (n * 1) = ints (List.replicate n 0) := by
 show (madeCells #[Value.int .i64 0] (n * 1)).toList.take (n * 1) = _
 rw [toList_madeCells_one]; simp [ints]
set_option maxHeartbeats 400000 in
theorem toIntS_any (A : Option Addr) (cap : Nat) (l : List Int) (w : World) (h : RdI w A l) (hl : l.length ≤ 17592186044416) :
  Calls Tryz.prog 7 #[.slice A l.length cap] w (RetI w l) := by
 go_enter Tryz.func7, Tryz.ntmps7
 go_wp2_with (at_make; refine wpList_make_Sl _ rfl _ _ _ rfl 3 Tryz.underlying23 info_int l.length l.length rfl rfl rfl rfl (Nat.le_refl _) (by omega) (by unfold maxLen; omega) ?_; intro G w1 hs hG hb1)
 have his0 : IS w1 (some G) l.length (List.replicate l.length 0) := by unfold IS; rw [← madeZeros]; simpa using hs
 clear hs
 go_loopw [4] (fun i wr => ∃ k : Nat, k ≤ l.length ∧ i = .int .i64 k ∧ IS wr (some G) l.length (l.take k ++ List.replicate (l.length - k) 0) ∧ Below w.heap.size w wr)
  (fun i _ => l.length - (intOf i).toNat)
 case atStart => exact ⟨0, Nat.zero_le _, rfl, by simpa using his0, hb1⟩
 case round =>
  obtain ⟨k, hk, rfl, his, hb⟩ := hrel
  by_cases hlt : k < l.length
  · obtain ⟨ad, x, rfl, hx, hc⟩ := (h.below hb).at_ hlt
    obtain ⟨ad', y, hA', hy, hlt', hc', hf'⟩ := his.at_ (j := k) (by simp; omega)
    obtain rfl := Option.some.inj hA'
    have hf := hf' k
    have his' := his.set (ad := G) rfl (j := k) x (by simp; omega)
    rw [take_replicate_step hx] at his'
    have HI := lH his'
    have hb' := lH (hb.setCell (p := G.add k) (by rw [block_of_add]; exact hG) (.int .i64 x))
    clear his' hf' hA' his hy hx his0 h
    go_wp2
    go_roundw
    case rel => exact ⟨k + 1, by omega, by go_num, HI.out, hb'.out⟩
    case measure => simp [intOf]; omega
  · obtain rfl : k = l.length := by omega
    clear his0
    go_wp2
    go_ret
    exact ⟨_, _, rfl, by simpa using his, fun b hb => by simp at hb; subst hb; exact hG, hb⟩
def Qt (w w' : World) : Prop := ∃ n, w' = w.drewN n
set_option maxHeartbeats 400000 in
theorem eqIntS_any (A B : Option Addr) (c d : Nat) (l m : List Int) (w : World) (ha : RdI w A l) (hb : RdI w B m) (hl : l.length ≤ 17592186044416) :
  Calls Tryz.prog 9 #[.slice A l.length c, .slice B m.length d] w fun e w' => e = .returned (.bool (decide (l = m))) ∧ Qt w w' := by
 by_cases hlen : l.length = m.length
 · have h0 : ((l.length : Int) != (m.length : Int)) = false := by rw [hlen]; simp
   go_enter Tryz.func9, Tryz.ntmps9
   go_wp2
   go_loopw [5] (fun i wr => ∃ k n : Nat, k ≤ l.length ∧ i = .int .i64 k ∧ l.take k = m.take k ∧ wr = w.drewN n)
    (fun i _ => l.length - (intOf i).toNat)
   case atStart => exact ⟨0, 0, Nat.zero_le _, rfl, by simp, rfl⟩
   case round =>
    obtain ⟨k, n, hk, rfl, htk, rfl⟩ := hrel
    by_cases hlt : k < l.length
    · obtain ⟨ad, x, rfl, hx, hc⟩ := ha.at_ hlt
      obtain ⟨ad', y, rfl, hy, hc'⟩ := hb.at_ (j := k) (by omega)
      have hlt2 : (k : Int) < (m.length : Int) := by omega
      have HT := lH htk; have HL := lH hlen; have HX := lH hx; have HY := lH hy; clear htk hlen hx hy ha hb h0
      go_wp2
      go_quiet (fail)
      go_wp2
      · have hne : (x != y) = true := by assumption
        go_ret
        refine ⟨ret_bool ?_, _, World.drewN_drewN _ _ _⟩
        have : ¬ l = m := by
         intro e
         have h1 := HX.out; have h2 := HY.out
         rw [e, h2] at h1
         simp at hne; exact hne (Option.some.inj h1).symm
        simp [this]
      · have heq : (x != y) = false := by assumption
        go_roundw
        case rel =>
         refine ⟨k + 1, _, by omega, by go_num, ?_, rfl⟩
         have e : x = y := by simpa using heq
         rw [List.take_add_one, List.take_add_one, HT.out, HX.out, HY.out, e]
        case measure => simp [intOf]; omega
    · obtain rfl : k = l.length := by omega
      have HT := lH htk; clear htk
      go_wp2
      go_ret
      refine ⟨ret_bool ?_, _, rfl⟩
      have := HT.out
      rw [List.take_of_length_le (Nat.le_refl _), List.take_of_length_le (by omega)] at this
      simp [this]
 · have h0 : ((l.length : Int) != (m.length : Int)) = true := by simp; omega
   go_enter Tryz.func9, Tryz.ntmps9
   go_wp2
   go_ret
   refine ⟨ret_bool ?_, 0, rfl⟩
   have : ¬ l = m := fun e => hlen (by rw [e])
   simp [this]
theorem take_append_step {α : Type} {l m : List α} {k : Nat} {x : α} (hlen : m.length = l.length) (h : l[k]? = some x) :
  (l.take k ++ m.drop k).set k x = l.take (k + 1) ++ m.drop (k + 1) := by
 have hk : k < l.length := (List.getElem?_eq_some_iff.1 h).1
 have e : (l.take k).length = k := by simp; omega
 rw [List.set_append_right _ _ (by omega), e, Nat.sub_self, List.drop_eq_getElem_cons (by omega), List.set_cons_zero, List.take_add_one, h]
 simp
def marks (k n : Nat) : List Int := (List.range n).map fun i => ((k + i : Nat) : Int)
@[simp] theorem marks_length (k n : Nat) : (marks k n).length = n := by simp [marks]
theorem marks_get {k n j : Nat} (h : j < n) : (marks k n)[j]? = some ((k + j : Nat) : Int) := by simp [marks, h]
set_option maxHeartbeats 400000 in
theorem markIntS_any (A : Option Addr) (c : Nat) (l : List Int) (k : Nat) (w : World) (h : IS w A c l) (hl : k + l.length ≤ 17592186044416) :
  Calls Tryz.prog 12 #[.slice A l.length c, .int .i64 k] w fun e w' => e = .returned (.int .i64 ((k + l.length : Nat) : Int)) ∧ IS w' A c (marks k l.length) ∧ Keeps (· ∈ fpA A) w w' := by
 go_enter Tryz.func12, Tryz.ntmps12
 go_wp2
 go_loopw [1, 5] (fun q i wr => ∃ j : Nat, j ≤ l.length ∧ i = .int .i64 j ∧ q = .int .i64 ((k + j : Nat) : Int) ∧ IS wr A c ((marks k l.length).take j ++ l.drop j) ∧ Keeps (· ∈ fpA A) w wr)
  (fun _ i _ => l.length - (intOf i).toNat)
 case atStart => exact ⟨0, Nat.zero_le _, rfl, rfl, by simpa using h, Keeps.refl _ _⟩
 case round =>
  obtain ⟨j, hj, rfl, rfl, his, hk⟩ := hrel
  have hlen : ((marks k l.length).take j ++ l.drop j).length = l.length := by simp; omega
  by_cases hlt : j < l.length
  · obtain ⟨ad, y, hA, hy, hlt', hc', hf'⟩ := his.at_ (j := j) (by omega)
    subst hA
    have hf := hf' j
    have his' := his.set (ad := ad) rfl (j := j) ((k + j : Nat) : Int) (by omega)
    rw [take_append_step (by simp) (marks_get hlt)] at his'
    have HI := lH his'
    have hk' := lH (hk.setCell (p := ad.add j) (by rw [block_of_add]; simp) (.int .i64 ((k + j : Nat) : Int)))
    clear his' hf' his hy h hlen hk
    go_wp2
    go_roundw
    case rel => exact ⟨j + 1, by omega, by go_num, by go_num, HI.out, hk'.out⟩
    case measure => simp [intOf]; omega
  · obtain rfl : j = l.length := by omega
    have HI := lH his; clear his hlen
    go_wp2
    go_ret
    exact ⟨rfl, by have := HI.out; simpa [List.take_of_length_le] using this, hk⟩
set_option maxHeartbeats 400000 in
theorem heldIntS_any (A : Option Addr) (c n : Nat) (k : Nat) (w : World) (h : RdI w A (marks k n)) (hl : k + n ≤ 17592186044416) :
  Calls Tryz.prog 13 #[.slice A n c, .int .i64 k] w fun e w' => e = .returned (.int .i64 ((k + n : Nat) : Int)) ∧ w = w' := by
 go_enter Tryz.func13, Tryz.ntmps13
 go_wp2
 go_loop [1, 5] (fun q i => ∃ j : Nat, j ≤ n ∧ i = .int .i64 j ∧ q = .int .i64 ((k + j : Nat) : Int))
  (fun _ i => n - (intOf i).toNat)
 case atStart => exact ⟨0, Nat.zero_le _, rfl, rfl⟩
 case round =>
  obtain ⟨j, hj, rfl, rfl⟩ := hrel
  by_cases hlt : j < n
  · obtain ⟨ad, rfl, hc⟩ := h j _ (marks_get hlt)
    clear h
    go_wp2
    go_round
    case rel => exact ⟨j + 1, by omega, by go_num, by go_num⟩
    case measure => simp [intOf]; omega
  · obtain rfl : j = n := by omega
    go_wp2
    go_ret
    exact ⟨rfl, rfl⟩
def FreshL (B : Nat) (fp : List Nat) : Prop := ∀ b, b ∈ fp → B ≤ b
def LtL (B : Nat) (fp : List Nat) : Prop := ∀ b, b ∈ fp → b < B
theorem FreshL.mono {B B' : Nat} {fp : List Nat} (h : FreshL B fp) (hB : B' ≤ B) : FreshL B' fp := fun b hb => Nat.le_trans hB (h b hb)
theorem LtL.mono {B B' : Nat} {fp : List Nat} (h : LtL B fp) (hB : B ≤ B') : LtL B' fp := fun b hb => Nat.lt_of_lt_of_le (h b hb) hB
theorem apart_of {B : Nat} {f1 f2 : List Nat} (h1 : LtL B f1) (h2 : FreshL B f2) : ∀ b, b ∈ f1 → ¬ b ∈ f2 := fun b hb hb' => by
 have := h1 b hb; have := h2 b hb'; omega
theorem apart_of' {B : Nat} {f1 f2 : List Nat} (h1 : LtL B f1) (h2 : FreshL B f2) : ∀ b, b ∈ f2 → ¬ b ∈ f1 := fun b hb hb' => by
 have := h1 b hb'; have := h2 b hb; omega
def RdIV (w : World) (v : Value) (l : List Int) : Prop := ∃ A cap, v = .slice A l.length cap ∧ RdI w A l
def OwI (w : World) (v : Value) (l : List Int) (fp : List Nat) : Prop := ∃ A cap, v = .slice A l.length cap ∧ IS w A cap l ∧ fp = fpA A
theorem RdIV.below {w w' : World} {v : Value} {l : List Int} (h : RdIV w v l) (hb : Below w.heap.size w w') : RdIV w' v l := by
 obtain ⟨A, c, rfl, h⟩ := h; exact ⟨A, c, rfl, h.below hb⟩
theorem OwI.rd {w : World} {v : Value} {l : List Int} {fp : List Nat} (h : OwI w v l fp) : RdIV w v l := by
 obtain ⟨A, c, rfl, h, _⟩ := h; exact ⟨A, c, rfl, h.rd⟩
theorem OwI.below {w w' : World} {v : Value} {l : List Int} {fp : List Nat} (h : OwI w v l fp) (hb : Below w.heap.size w w') : OwI w' v l fp := by
 obtain ⟨A, c, rfl, h, e⟩ := h; exact ⟨A, c, rfl, h.below hb, e⟩
theorem OwI.keeps {w w' : World} {v : Value} {l : List Int} {fp : List Nat} (h : OwI w v l fp) {S : Nat → Prop} (hk : Keeps S w w') (hS : ∀ b, b ∈ fp → ¬ S b) : OwI w' v l fp := by
 obtain ⟨A, c, rfl, h, rfl⟩ := h; exact ⟨A, c, rfl, h.keeps hk hS, rfl⟩
theorem OwI.lt {w : World} {v : Value} {l : List Int} {fp : List Nat} (h : OwI w v l fp) : LtL w.heap.size fp := by
 obtain ⟨A, c, rfl, h, rfl⟩ := h; exact h.lt
def HeI (w : World) (v : Value) (n k : Nat) (fp : List Nat) : Prop := ∃ A cap, v = .slice A n cap ∧ IS w A cap (marks k n) ∧ fp = fpA A
theorem HeI.below {w w' : World} {v : Value} {n k : Nat} {fp : List Nat} (h : HeI w v n k fp) (hb : Below w.heap.size w w') : HeI w' v n k fp := by
 obtain ⟨A, c, rfl, h, e⟩ := h; exact ⟨A, c, rfl, h.below hb, e⟩
theorem HeI.keeps {w w' : World} {v : Value} {n k : Nat} {fp : List Nat} (h : HeI w v n k fp) {S : Nat → Prop} (hk : Keeps S w w') (hS : ∀ b, b ∈ fp → ¬ S b) : HeI w' v n k fp := by
 obtain ⟨A, c, rfl, h, rfl⟩ := h; exact ⟨A, c, rfl, h.keeps hk hS, rfl⟩
theorem toI_law {v : Value} {l : List Int} {w : World} (h : RdIV w v l) (hl : l.length ≤ 17592186044416) :
  Calls Tryz.prog 7 #[v] w fun e w' => ∃ v' fp, e = .returned v' ∧ OwI w' v' l fp ∧ FreshL w.heap.size fp ∧ Below w.heap.size w w' := by
 obtain ⟨A, c, rfl, h⟩ := h
 refine (toIntS_any A c l w h hl).mono ?_
 rintro e w' ⟨A', c', rfl, h1, h2, h3⟩
 exact ⟨_, _, rfl, ⟨A', c', rfl, h1, rfl⟩, h2, h3⟩
theorem eqI_law {v v' : Value} {l m : List Int} {w : World} (h : RdIV w v l) (h' : RdIV w v' m) (hl : l.length ≤ 17592186044416) :
  Calls Tryz.prog 9 #[v, v'] w fun e w' => e = .returned (.bool (decide (l = m))) ∧ Below w.heap.size w w' := by
 obtain ⟨A, c, rfl, h⟩ := h
 obtain ⟨B, d, rfl, h'⟩ := h'
 refine (eqIntS_any A B c d l m w h h' hl).mono ?_
 rintro e w' ⟨rfl, n, rfl⟩
 exact ⟨rfl, below_drewN (Below.refl _ _) n⟩
theorem markI_law {v : Value} {l : List Int} {fp : List Nat} {K : Int} {w : World} (k : Nat) (h : OwI w v l fp) (hK : K = (k : Int)) (hl : k + l.length ≤ 17592186044416) :
  Calls Tryz.prog 12 #[v, .int .i64 K] w fun e w' => e = .returned (.int .i64 (K + (l.length : Int))) ∧ HeI w' v l.length k fp ∧ Keeps (· ∈ fp) w w' := by
 obtain ⟨A, c, rfl, h, rfl⟩ := h
 subst hK
 refine (markIntS_any A c l k w h hl).mono ?_
 rintro e w' ⟨rfl, h1, h2⟩
 refine ⟨ret_int (by omega), ⟨A, c, rfl, ?_, rfl⟩, h2⟩
 exact h1
theorem heldI_law {v : Value} {n k : Nat} {fp : List Nat} {K : Int} {w : World} (h : HeI w v n k fp) (hK : K = (k : Int)) (hl : k + n ≤ 17592186044416) :
  Calls Tryz.prog 13 #[v, .int .i64 K] w fun e w' => e = .returned (.int .i64 (K + (n : Int))) ∧ Below w.heap.size w w' := by
 obtain ⟨A, c, rfl, h, rfl⟩ := h
 subst hK
 refine (heldIntS_any A c n k w h.rd hl).mono ?_
 rintro e w' ⟨rfl, rfl⟩
 exact ⟨ret_int (by omega), Below.refl _ _⟩
abbrev Hd := Option Addr × Nat × List Int
def Hd.val (h : Hd) : Value := .slice h.1 h.2.2.length h.2.1
theorem Hd.val_one (h : Hd) : h.val.oneCell' = true := rfl
def RdR (w : World) (A : Option Addr) (hs : List Hd) : Prop := (∀ i h, hs[i]? = some h → ∃ ad, A = some ad ∧ w.cell? (ad.add i) = some h.val) ∧ ∀ h, h ∈ hs → RdI w h.1 h.2.2
structure OwR (w : World) (A : Option Addr) (cap : Nat) (hs : List Hd) : Prop where
 sl : Sl w 23 1 A hs.length cap (hs.map Hd.val)
 rows : ∀ h, h ∈ hs → IS w h.1 h.2.1 h.2.2
 apart : hs.Pairwise fun h h' => ∀ b, b ∈ fpA h.1 → ¬ b ∈ fpA h'.1
 outer : ∀ h, h ∈ hs → ∀ b, b ∈ fpA h.1 → ¬ b ∈ fpA A
theorem RdR.below {w w' : World} {A : Option Addr} {hs : List Hd} (h : RdR w A hs) (hb : Below w.heap.size w w') : RdR w' A hs :=
 ⟨fun i x hx => let ⟨ad, hA, hc⟩ := h.1 i x hx; ⟨ad, hA, (hb.cell (World.block_lt_of_cell? w _ hc)).trans hc⟩, fun x hx => (h.2 x hx).below hb⟩
theorem OwR.rd {w : World} {A : Option Addr} {cap : Nat} {hs : List Hd} (h : OwR w A cap hs) : RdR w A hs := by
 refine ⟨fun i x hx => ?_, fun x hx => (h.rows x hx).rd⟩
 obtain ⟨ad, hA, _, hc, _⟩ := h.sl.cell (j := i) (u := x.val) (by simp [hx])
 exact ⟨ad, hA, hc⟩
def fpR (hs : List Hd) : List Nat := hs.flatMap fun h => fpA h.1
theorem mem_fpR {hs : List Hd} {b : Nat} : b ∈ fpR hs ↔ ∃ h, h ∈ hs ∧ b ∈ fpA h.1 := by simp [fpR]
theorem OwR.lt {w : World} {A : Option Addr} {cap : Nat} {hs : List Hd} (h : OwR w A cap hs) : ∀ b, b ∈ fpA A ++ fpR hs → b < w.heap.size := by
 intro b hb
 rcases List.mem_append.1 hb with hb | hb
 · exact h.sl.lt b hb
 · obtain ⟨x, hx, hb⟩ := mem_fpR.1 hb
   exact (h.rows x hx).lt b hb
theorem OwR.below {w w' : World} {A : Option Addr} {cap : Nat} {hs : List Hd} (h : OwR w A cap hs) (hb : Below w.heap.size w w') : OwR w' A cap hs :=
 ⟨h.sl.below hb, fun x hx => (h.rows x hx).below hb, h.apart, h.outer⟩
theorem OwR.keeps {w w' : World} {A : Option Addr} {cap : Nat} {hs : List Hd} (h : OwR w A cap hs) {S : Nat → Prop} (hk : Keeps S w w') (hS : ∀ b, b ∈ fpA A ++ fpR hs → ¬ S b) : OwR w' A cap hs :=
 ⟨h.sl.keeps hk fun b hb => hS b (List.mem_append_left _ hb), fun x hx => (h.rows x hx).keeps hk fun b hb => hS b (List.mem_append_right _ (mem_fpR.2 ⟨x, hx, hb⟩)), h.apart, h.outer⟩
def RdRV (w : World) (v : Value) (L : List (List Int)) : Prop := ∃ A cap hs, v = .slice A L.length cap ∧ L = hs.map (fun h : Hd => h.2.2) ∧ RdR w A hs
def OwRV (w : World) (v : Value) (L : List (List Int)) (fp : List Nat) : Prop := ∃ A cap hs, v = .slice A L.length cap ∧ L = hs.map (fun h : Hd => h.2.2) ∧ OwR w A cap hs ∧ fp = fpA A ++ fpR hs
theorem RdRV.below {w w' : World} {v : Value} {L : List (List Int)} (h : RdRV w v L) (hb : Below w.heap.size w w') : RdRV w' v L := by
 obtain ⟨A, c, hs, rfl, hL, h⟩ := h; exact ⟨A, c, hs, rfl, hL, h.below hb⟩
theorem OwRV.rd {w : World} {v : Value} {L : List (List Int)} {fp : List Nat} (h : OwRV w v L fp) : RdRV w v L := by
 obtain ⟨A, c, hs, rfl, hL, h, _⟩ := h; exact ⟨A, c, hs, rfl, hL, h.rd⟩
theorem OwRV.below {w w' : World} {v : Value} {L : List (List Int)} {fp : List Nat} (h : OwRV w v L fp) (hb : Below w.heap.size w w') : OwRV w' v L fp := by
 obtain ⟨A, c, hs, rfl, hL, h, e⟩ := h; exact ⟨A, c, hs, rfl, hL, h.below hb, e⟩
theorem OwRV.keeps {w w' : World} {v : Value} {L : List (List Int)} {fp : List Nat} (h : OwRV w v L fp) {S : Nat → Prop} (hk : Keeps S w w') (hS : ∀ b, b ∈ fp → ¬ S b) : OwRV w' v L fp := by
 obtain ⟨A, c, hs, rfl, hL, h, rfl⟩ := h; exact ⟨A, c, hs, rfl, hL, h.keeps hk hS, rfl⟩
theorem OwRV.lt {w : World} {v : Value} {L : List (List Int)} {fp : List Nat} (h : OwRV w v L fp) : LtL w.heap.size fp := by
 obtain ⟨A, c, hs, rfl, hL, h, rfl⟩ := h; exact h.lt
def marksR : Nat → List Nat → List (List Int)
 | _, [] => []
 | k, n :: ns => marks k n :: marksR (k + n) ns
def HeRV (w : World) (v : Value) (L : List (List Int)) (k : Nat) (fp : List Nat) : Prop := OwRV w v (marksR k (L.map List.length)) fp
theorem HeRV.below {w w' : World} {v : Value} {L : List (List Int)} {k : Nat} {fp : List Nat} (h : HeRV w v L k fp) (hb : Below w.heap.size w w') : HeRV w' v L k fp := OwRV.below h hb
theorem HeRV.keeps {w w' : World} {v : Value} {L : List (List Int)} {k : Nat} {fp : List Nat} (h : HeRV w v L k fp) {S : Nat → Prop} (hk : Keeps S w w') (hS : ∀ b, b ∈ fp → ¬ S b) : HeRV w' v L k fp := OwRV.keeps h hk hS
theorem info_ints : (Tryz.prog.info? 23).map (fun i => (i.zero, i.size, i.bytes)) = some (some (.slice none 0 0), 1, 24) := by kernel_rfl
def nilHd : Hd := (none, 0, [])
theorem madeNils (n : Nat) : (madeCells (Value.slice none 0 0).cells (n * 1)).toList.take (n * 1) = (List.replicate n nilHd).map Hd.val := by
 show (madeCells #[Value.slice none 0 0] (n * 1)).toList.take (n * 1) = _
 rw [toList_madeCells_one]; simp [nilHd, Hd.val]
theorem set_replicate_step {α : Type} (hs : List α) (x d : α) {n : Nat} (h : hs.length < n) : (hs ++ List.replicate (n - hs.length) d).set hs.length x = (hs ++ [x]) ++ List.replicate (n - (hs.length + 1)) d := by
 rw [List.set_append_right _ _ (Nat.le_refl _), Nat.sub_self, show n - hs.length = (n - (hs.length + 1)) + 1 by omega, List.replicate_succ, List.set_cons_zero, List.append_assoc]
 rfl
structure NewR (w : World) (B : Nat) (hs : List Hd) : Prop where
 rows : ∀ h, h ∈ hs → IS w h.1 h.2.1 h.2.2
 apart : hs.Pairwise fun h h' => ∀ b, b ∈ fpA h.1 → ¬ b ∈ fpA h'.1
 new : ∀ h, h ∈ hs → ∀ b, b ∈ fpA h.1 → B ≤ b
theorem NewR.nil (w : World) (B : Nat) : NewR w B [] := ⟨fun h hh => (by cases hh), .nil, fun h hh => (by cases hh)⟩
theorem NewR.below {w w' : World} {B : Nat} {hs : List Hd} (h : NewR w B hs) (hb : Below w.heap.size w w') : NewR w' B hs := ⟨fun x hx => (h.rows x hx).below hb, h.apart, h.new⟩
theorem NewR.keeps {w w' : World} {B : Nat} {hs : List Hd} (h : NewR w B hs) {S : Nat → Prop} (hk : Keeps S w w') (hS : ∀ b, B ≤ b → ¬ S b) : NewR w' B hs := ⟨fun x hx => (h.rows x hx).keeps hk fun b hb => hS b (h.new x hx b hb), h.apart, h.new⟩
theorem NewR.snoc {w w' : World} {B : Nat} {hs : List Hd} (h : NewR w B hs) (hb : Below w.heap.size w w') (hB : B ≤ w.heap.size) {x : Hd} (hx : IS w' x.1 x.2.1 x.2.2) (hf : Fresh w.heap.size x.1) : NewR w' B (hs ++ [x]) := by
 refine ⟨fun y hy => ?_, ?_, fun y hy b hb' => ?_⟩
 · rcases List.mem_append.1 hy with hy | hy
   · exact (h.rows y hy).below hb
   · obtain rfl := List.mem_singleton.1 hy; exact hx
 · refine List.pairwise_append.2 ⟨h.apart, List.pairwise_singleton _ _, fun y hy z hz b hb1 hb2 => ?_⟩
   obtain rfl := List.mem_singleton.1 hz
   have := (h.rows y hy).lt b hb1
   have := hf b hb2
   omega
 · rcases List.mem_append.1 hy with hy | hy
   · exact h.new y hy b hb'
   · obtain rfl := List.mem_singleton.1 hy; exact Nat.le_trans hB (hf b hb')
def RetSS (w : World) (L : List (List Int)) (e : Ending) (w' : World) : Prop :=
 ∃ A cap hs, e = .returned (.slice A L.length cap) ∧ L = hs.map (fun h : Hd => h.2.2) ∧ OwR w' A cap hs ∧ (∀ b, b ∈ fpA A ++ fpR hs → w.heap.size ≤ b) ∧ Below w.heap.size w w'
theorem RdR.at_ {w : World} {A : Option Addr} {hs : List Hd} (h : RdR w A hs) {k : Nat} (hk : k < hs.length) : ∃ ad B c l, A = some ad ∧ hs[k]? = some (B, c, l) ∧ w.cell? (ad.add k) = some (.slice B l.length c) ∧ RdI w B l := by
 obtain ⟨x, hx⟩ : ∃ x, hs[k]? = some x := ⟨_, List.getElem?_eq_getElem hk⟩
 obtain ⟨ad, hA, hc⟩ := h.1 k x hx
 obtain ⟨B, c, l⟩ := x
 exact ⟨ad, B, c, l, hA, hx, hc, h.2 _ (List.mem_of_getElem? hx)⟩
end Go.Proofs.YtjompikdkhhlgaaGreatDoor
namespace Go.Proofs.YtjompikdkhhlgaaGreatDoor
def fieldB (p : Int) : Bool := decide (2 ≤ p ∧ p ≤ 97 ∧ (p % 2 = 0 → p = 2) ∧ (p % 3 = 0 → p = 3) ∧ (p % 5 = 0 → p = 5) ∧ (p % 7 = 0 → p = 7))
theorem fieldB_bounds {p : Int} (h : fieldB p = true) : 2 ≤ p ∧ p ≤ 97 := by
 simp only [fieldB, decide_eq_true_eq] at h; exact ⟨h.1, h.2.1⟩
def fdTest (p : Int) (k : Nat) : Bool := (List.range k).all fun j => !decide (2 ≤ j ∧ p % (j : Int) = 0)
theorem fdTest_succ (p : Int) (k : Nat) : fdTest p (k + 1) = (fdTest p k && !decide (2 ≤ k ∧ p % (k : Int) = 0)) := by
 simp [fdTest, List.range_succ]
theorem fdTest_end_nat : ∀ p : Fin 98, ∀ k : Fin 12, 2 ≤ p.val → p.val < k.val * k.val → ((k.val - 1) * (k.val - 1) ≤ p.val ∨ k.val = 2) → fdTest (p.val : Int) k.val = fieldB (p.val : Int) := by decide +kernel
theorem fdTest_stop_nat : ∀ p : Fin 98, ∀ k : Fin 12, 2 ≤ p.val → 2 ≤ k.val → k.val * k.val ≤ p.val → (p.val : Int) % (k.val : Int) = 0 → fieldB (p.val : Int) = false := by decide +kernel
theorem fdTest_end {p : Int} {k : Nat} (h2 : 2 ≤ p) (h97 : p ≤ 97) (hk : p < (k : Int) * k) (hlast : ((k : Int) - 1) * ((k : Int) - 1) ≤ p ∨ k = 2) (hk11 : k ≤ 11) (h2k : 2 ≤ k) : fdTest p k = fieldB p := by
 obtain ⟨n, rfl⟩ := Int.eq_ofNat_of_zero_le (show 0 ≤ p by omega)
 refine fdTest_end_nat ⟨n, by omega⟩ ⟨k, by omega⟩ (by show 2 ≤ n; omega) (by show n < k * k; exact_mod_cast hk) ?_
 rcases hlast with h | h
 · left
   show (k - 1) * (k - 1) ≤ n
   have e : ((k : Int) - 1) = ((k - 1 : Nat) : Int) := by omega
   rw [e] at h; exact_mod_cast h
 · right; exact h
theorem fdTest_stop {p : Int} {k : Nat} (h2 : 2 ≤ p) (h97 : p ≤ 97) (h2k : 2 ≤ k) (hk : (k : Int) * k ≤ p) (hd : p % (k : Int) = 0) : fieldB p = false := by
 obtain ⟨n, rfl⟩ := Int.eq_ofNat_of_zero_le (show 0 ≤ p by omega)
 have hk' : k * k ≤ n := by exact_mod_cast hk
 have : k ≤ 11 := by
  by_cases h : k ≤ 11
  · exact h
  · exfalso
    have := Nat.mul_le_mul (show 12 ≤ k by omega) (show 12 ≤ k by omega)
    omega
 exact fdTest_stop_nat ⟨n, by omega⟩ ⟨k, by omega⟩ (by show 2 ≤ n; omega) h2k hk' hd
def inB (lo hi : Int) (l : List Int) : Bool := l.all fun x => decide (lo ≤ x) && decide (x ≤ hi)
theorem inB_iff {lo hi : Int} {l : List Int} : inB lo hi l = true ↔ ∀ x, x ∈ l → lo ≤ x ∧ x ≤ hi := by simp [inB]
theorem inB_get {lo hi : Int} {l : List Int} (h : inB lo hi l = true) {j : Nat} {x : Int} (hj : l[j]? = some x) : lo ≤ x ∧ x ≤ hi := inB_iff.1 h x (List.mem_of_getElem? hj)
theorem inB_take_succ {lo hi : Int} {l : List Int} {k : Nat} {x : Int} (h : l[k]? = some x) : inB lo hi (l.take (k + 1)) = (inB lo hi (l.take k) && (decide (lo ≤ x) && decide (x ≤ hi))) := by
 rw [List.take_add_one, h]; simp [inB]
theorem inB_false_of {lo hi : Int} {l : List Int} {k : Nat} {x : Int} (h : l[k]? = some x) (hx : ¬ (lo ≤ x ∧ x ≤ hi)) : inB lo hi l = false := by
 rw [Bool.eq_false_iff]; intro h'; exact hx (inB_get h' h)
end Go.Proofs.YtjompikdkhhlgaaGreatDoor
namespace Go.Proofs.YtjompikdkhhlgaaGreatDoor
theorem getD_of_some {l : List Int} {k : Nat} {x : Int} (h : l[k]? = some x) : l.getD k 0 = x := by simp [List.getD, h]
def addT (p : Int) (v : List Int) (c : Int) (w : List Int) : List Int := (List.range v.length).map fun i => if i < w.length then (v.getD i 0 + c * w.getD i 0) % p else v.getD i 0
@[simp] theorem addT_length (p : Int) (v : List Int) (c : Int) (w : List Int) : (addT p v c w).length = v.length := by simp [addT]
theorem addT_get {p c : Int} {v w : List Int} {k : Nat} {x y : Int} (hv : v[k]? = some x) (hw : w[k]? = some y) : (addT p v c w)[k]? = some ((x + c * y) % p) := by
 have h1 : k < v.length := (List.getElem?_eq_some_iff.1 hv).1
 have h2 : k < w.length := (List.getElem?_eq_some_iff.1 hw).1
 simp only [addT, List.getElem?_map, List.getElem?_range h1, Option.map_some, h2, if_true, getD_of_some hv, getD_of_some hw]
theorem addT_getD (p c : Int) (v w : List Int) (k : Nat) : (addT p v c w).getD k 0 = if k < v.length then (if k < w.length then (v.getD k 0 + c * w.getD k 0) % p else v.getD k 0) else 0 := by
 by_cases h : k < v.length
 · simp [addT, List.getD, h]
 · simp [addT, List.getD, h]
theorem addT_drop {p c : Int} {v w : List Int} (_h : w.length ≤ v.length) : (addT p v c w).drop w.length = v.drop w.length := by
 apply List.ext_getElem?
 intro i
 simp only [List.getElem?_drop, addT, List.getElem?_map]
 by_cases h1 : w.length + i < v.length
 · simp [h1]; intro h; omega
 · simp [h1]
theorem addT_take_end {p c : Int} {v w : List Int} (h : w.length ≤ v.length) : (addT p v c w).take w.length ++ v.drop w.length = addT p v c w := by
 rw [← addT_drop (p := p) (c := c) h, List.take_append_drop]
theorem addT_bounds {p c : Int} (hp : 0 < p) {v w : List Int} (hv : ∀ x, x ∈ v → 0 ≤ x ∧ x < p) : ∀ x, x ∈ addT p v c w → 0 ≤ x ∧ x < p := by
 intro x hx
 simp only [addT, List.mem_map, List.mem_range] at hx
 obtain ⟨i, hi, rfl⟩ := hx
 split
 · exact ⟨Int.emod_nonneg _ (by omega), Int.emod_lt_of_pos _ hp⟩
 · apply hv
   simp [List.getD, hi]
def powM (p : Int) : Nat → Int → Nat → Int → Int
 | 0, _, _, out => out
 | fuel + 1, a, n, out => if n = 0 then out else powM p fuel (a * a % p) (n / 2) (if n % 2 = 1 then out * a % p else out)
def invM (p a : Int) : Int := powM p 8 a ((p - 2).toNat + (if p = 2 then 1 else 0)) (1 % p)
theorem invM_nat : ∀ p : Fin 98, fieldB (p.val : Int) = true → ∀ a : Fin 98, 1 ≤ a.val → a.val < p.val → ((a.val : Int) * invM p.val a.val) % (p.val : Int) = 1 ∧ 1 ≤ invM p.val a.val ∧ invM p.val a.val < (p.val : Int) := by decide +kernel
theorem invM_spec {p a : Int} (hp : fieldB p = true) (h1 : 1 ≤ a) (h2 : a < p) : (a * invM p a) % p = 1 ∧ 1 ≤ invM p a ∧ invM p a < p := by
 have hb := fieldB_bounds hp
 obtain ⟨n, rfl⟩ := Int.eq_ofNat_of_zero_le (show 0 ≤ p by omega)
 obtain ⟨m, rfl⟩ := Int.eq_ofNat_of_zero_le (show 0 ≤ a by omega)
 exact invM_nat ⟨n, by omega⟩ hp ⟨m, by omega⟩ (by show 1 ≤ m; omega) (by show m < n; omega)
theorem inv_unique {p a x y : Int} (_hp : 0 < p) (hx : 0 ≤ x ∧ x < p) (hy : 0 ≤ y ∧ y < p) (h1 : a * x % p = 1 % p) (h2 : a * y % p = 1 % p) : x = y := by
 have e1 : x % p = (x * (a * y)) % p := by
  conv => rhs; rw [Int.mul_emod, h2, ← Int.mul_emod, Int.mul_one]
 have e2 : y % p = (y * (a * x)) % p := by
  conv => rhs; rw [Int.mul_emod, h1, ← Int.mul_emod, Int.mul_one]
 have e3 : x * (a * y) = y * (a * x) := by rw [← Int.mul_assoc, ← Int.mul_assoc, Int.mul_comm x a, Int.mul_comm y a, Int.mul_assoc, Int.mul_assoc, Int.mul_comm x y]
 rw [e3, ← e2] at e1
 rwa [Int.emod_eq_of_lt hx.1 hx.2, Int.emod_eq_of_lt hy.1 hy.2] at e1
end Go.Proofs.YtjompikdkhhlgaaGreatDoor
namespace Go.Proofs.YtjompikdkhhlgaaGreatDoor
def Res (p : Int) (l : List Int) : Prop := ∀ x, x ∈ l → 0 ≤ x ∧ x < p
theorem Res.getD {p : Int} {l : List Int} (h : Res p l) (hp : 0 < p) (j : Nat) : 0 ≤ l.getD j 0 ∧ l.getD j 0 < p := by
 by_cases hj : j < l.length
 · rw [List.getD_eq_getElem?_getD, List.getElem?_eq_getElem hj]; exact h _ (List.getElem_mem hj)
 · rw [List.getD_eq_getElem?_getD, List.getElem?_eq_none (by omega)]; simp; exact hp
theorem Res.take {p : Int} {l : List Int} (h : Res p l) (k : Nat) : Res p (l.take k) := fun x hx => h x (List.mem_of_mem_take hx)
theorem Res.drop {p : Int} {l : List Int} (h : Res p l) (k : Nat) : Res p (l.drop k) := fun x hx => h x (List.mem_of_mem_drop hx)
theorem Res.append {p : Int} {l m : List Int} (h : Res p l) (h' : Res p m) : Res p (l ++ m) := fun x hx => by
 rcases List.mem_append.1 hx with hx | hx
 · exact h x hx
 · exact h' x hx
theorem Res.addT {p c : Int} {v w : List Int} (hp : 0 < p) (h : Res p v) : Res p (addT p v c w) := addT_bounds hp h
theorem Res.replicate {p : Int} (hp : 0 < p) (n : Nat) : Res p (List.replicate n 0) := fun x hx => by
 rw [List.mem_replicate] at hx; omega
theorem Res.set {p : Int} {l : List Int} (h : Res p l) {x : Int} (hx : 0 ≤ x ∧ x < p) (k : Nat) : Res p (l.set k x) := fun y hy => by
 rcases List.mem_or_eq_of_mem_set hy with h1 | rfl
 · exact h y h1
 · exact hx
open Go.RowKit
def Tab (w : World) : Prop := w.cell? ⟨0, 0, none⟩ = some (.int .i64 2) ∧ w.cell? ⟨0, 1, none⟩ = some (.int .i64 3) ∧ w.cell? ⟨0, 2, none⟩ = some (.int .i64 5) ∧ w.cell? ⟨0, 3, none⟩ = some (.int .i64 7)
theorem Tab.lt {w : World} (h : Tab w) : 0 < w.heap.size := World.block_lt_of_cell? w _ h.1
theorem Tab.below {w w' : World} {B : Nat} (h : Tab w) (hb : Below B w w') (hB : 0 < B) : Tab w' := by
 unfold Tab
 have hc : ∀ k, w'.cell? ⟨0, k, none⟩ = w.cell? ⟨0, k, none⟩ := fun k => hb.cell hB
 simp only [hc]; exact h
theorem Tab.drewN {w : World} (h : Tab w) (n : Nat) : Tab (w.drewN n) := h
set_option maxHeartbeats 400000 in
theorem l1In_any (n lo hi : Int) (w : World) :
  Calls Tryz.prog 49 #[.int .i64 n, .int .i64 lo, .int .i64 hi] w fun e w' => e = .returned (.bool (decide (lo ≤ n) && decide (n ≤ hi))) ∧ w = w' := by
 go_enter Tryz.func49, Tryz.ntmps49
 go_wp2
 all_goals go_ret
 all_goals (refine ⟨ret_bool ?_, rfl⟩; simp; try omega)
set_option maxHeartbeats 400000 in
theorem isElement_any (p a : Int) (w : World) :
  Calls Tryz.prog 42 #[.int .i64 p, .int .i64 a] w fun e w' => e = .returned (.bool (decide (0 ≤ a) && decide (a ≤ p - 1))) ∧ w = w' := by
 go_enter Tryz.func42, Tryz.ntmps42
 go_wp2
 all_goals go_ret
 all_goals (refine ⟨ret_bool ?_, rfl⟩; rw [Bool.eq_iff_iff]; simp; try omega)
set_option maxHeartbeats 400000 in
theorem fdGood_any (p : Int) (w : World) :
  Calls Tryz.prog 47 #[.int .i64 p] w fun e w' => e = .returned (.bool (fieldB p)) ∧ w = w' := by
 by_cases hp : 2 ≤ p ∧ p ≤ 97
 · obtain ⟨h2, h97⟩ := hp
   have hin : (decide (2 ≤ p) && decide (p ≤ 97)) = true := by simp [h2, h97]
   go_enter Tryz.func47, Tryz.ntmps47
   go_wp2_with (go_at_call 49; refine (l1In_any _ _ _ _).mono ?_; rintro e w' ⟨rfl, rfl⟩)
   clear hin
   go_loop [3] (fun i => ∃ k : Nat, 2 ≤ k ∧ k ≤ 11 ∧ i = .int .i64 k ∧ fdTest p k = true ∧ (((k : Int) - 1) * ((k : Int) - 1) ≤ p ∨ k = 2)) (fun i => 12 - (intOf i).toNat)
   case atStart => exact ⟨2, by omega, by omega, rfl, by simp [fdTest, List.range_succ], .inr rfl⟩
   case round =>
    obtain ⟨k, h2k, hk, rfl, ht, hlast⟩ := hrel
    have HT := lH ht; have HL := lH hlast; clear ht hlast
    have hkk : (k : Int) * k ≤ 121 := by
     have := Nat.mul_le_mul hk hk
     exact_mod_cast this
    have hkk0 : (0 : Int) ≤ (k : Int) * k := Int.mul_nonneg (by omega) (by omega)
    by_cases hlt : (k : Int) * k ≤ p
    · have hk9 : k ≤ 9 := by
       by_cases h : k ≤ 9
       · exact h
       · exfalso
         have h1 : (10 : Int) * 10 ≤ (k : Int) * k := Int.mul_le_mul (by omega) (by omega) (by omega) (by omega)
         omega
      go_wp2
      · have hd : (p % (k : Int) == 0) = true := by assumption
        go_ret
        refine ⟨ret_bool ?_, rfl⟩
        exact (fdTest_stop h2 h97 h2k hlt (by simpa using hd)).symm
      · have hd : (p % (k : Int) == 0) = false := by assumption
        go_round
        case rel =>
         refine ⟨k + 1, by omega, by omega, by go_num, ?_, .inl ?_⟩
         · rw [fdTest_succ, HT.out]
           have : ¬ p % (k : Int) = 0 := by simpa using hd
           simp [this]
         · have e : (((k + 1 : Nat) : Int) - 1) = (k : Int) := by omega
           rw [e]; exact hlt
        case measure => simp [intOf]; omega
    · go_wp2
      go_ret
      refine ⟨ret_bool ?_, rfl⟩
      rw [← fdTest_end h2 h97 (by omega) HL.out hk h2k]; exact HT.out.symm
 · have hin : (decide (2 ≤ p) && decide (p ≤ 97)) = false := by simp; omega
   go_enter Tryz.func47, Tryz.ntmps47
   go_wp2_with (go_at_call 49; refine (l1In_any _ _ _ _).mono ?_; rintro e w' ⟨rfl, rfl⟩)
   go_ret
   exact ⟨ret_bool (by simp [fieldB]; omega), rfl⟩
set_option maxHeartbeats 400000 in
theorem isField_any (p : Int) (w : World) (hT : Tab w) :
  Calls Tryz.prog 57 #[.int .i64 p] w fun e w' => e = .returned (.bool (fieldB p)) ∧ w = w' := by
 obtain ⟨h0, h1, h2, h3⟩ := hT
 have i0 : ∀ w, (Instr.index 98 (.agg #[.int .i64 2, .int .i64 3, .int .i64 5, .int .i64 7]) (.int .i64 0)).run Tryz.prog w = .ok (.int .i64 2) w := fun _ => by kernel_rfl
 have i1 : ∀ w, (Instr.index 98 (.agg #[.int .i64 2, .int .i64 3, .int .i64 5, .int .i64 7]) (.int .i64 1)).run Tryz.prog w = .ok (.int .i64 3) w := fun _ => by kernel_rfl
 have i2 : ∀ w, (Instr.index 98 (.agg #[.int .i64 2, .int .i64 3, .int .i64 5, .int .i64 7]) (.int .i64 2)).run Tryz.prog w = .ok (.int .i64 5) w := fun _ => by kernel_rfl
 have i3 : ∀ w, (Instr.index 98 (.agg #[.int .i64 2, .int .i64 3, .int .i64 5, .int .i64 7]) (.int .i64 3)).run Tryz.prog w = .ok (.int .i64 7) w := fun _ => by kernel_rfl
 by_cases hp : 2 ≤ p ∧ p ≤ 97
 · obtain ⟨h2, h97⟩ := hp
   go_enter Tryz.func57, Tryz.ntmps57
   go_wp2_with (fail)
   go_loop [12] (fun i => (i = .int .i64 0) ∨ (i = .int .i64 1 ∧ (p % 2 = 0 → p = 2)) ∨ (i = .int .i64 2 ∧ (p % 2 = 0 → p = 2) ∧ (p % 3 = 0 → p = 3)) ∨ (i = .int .i64 3 ∧ (p % 2 = 0 → p = 2) ∧ (p % 3 = 0 → p = 3) ∧ (p % 5 = 0 → p = 5)) ∨ (i = .int .i64 4 ∧ (p % 2 = 0 → p = 2) ∧ (p % 3 = 0 → p = 3) ∧ (p % 5 = 0 → p = 5) ∧ (p % 7 = 0 → p = 7)))
    (fun i => 4 - (intOf i).toNat)
   case atStart => exact .inl rfl
   case round =>
    rcases hrel with rfl | ⟨rfl, HH⟩ | ⟨rfl, HH⟩ | ⟨rfl, HH⟩ | ⟨rfl, HH⟩
    · by_cases ha : p % 2 = 0
      · by_cases hb : p = 2
        · subst hb
          have ht : (2 : Int) % 2 = 0 → (2 : Int) = 2 := fun _ => rfl
          have HX := lH ht; clear ht ha
          go_wp2_with (fail)
          go_round
          case rel => have ht := HX.out; exact .inr (.inl ⟨by go_num, (by first | exact ht | (intro _; trivial))⟩)
          case measure => simp [intOf]
        · have hn : (p == 2) = false := by simpa using hb
          have hn' : (p != 2) = true := by simpa using hb
          have hz : (p % 2 == 0) = true := by simpa using ha
          have HA := lH ha; have HB := lH hb; clear ha hb
          go_wp2_with (fail)
          go_ret
          exact ⟨ret_bool (by have h1 := HA.out; have h2 := HB.out; simp [fieldB, h1, h2]), rfl⟩
      · have hz : (p % 2 == 0) = false := by simpa using ha
        have ht : p % 2 = 0 → p = 2 := fun h => absurd h ha
        have HX := lH ht; clear ht ha
        go_wp2_with (fail)
        go_round
        case rel => have ht := HX.out; exact .inr (.inl ⟨by go_num, (by first | exact ht | (intro _; trivial))⟩)
        case measure => simp [intOf]
    · have HI := lH HH
      clear HH
      by_cases ha : p % 3 = 0
      · by_cases hb : p = 3
        · subst hb
          have ht : (3 : Int) % 3 = 0 → (3 : Int) = 3 := fun _ => rfl
          have HX := lH ht; clear ht ha
          go_wp2_with (fail)
          go_round
          case rel => have ht := HX.out; exact .inr (.inr (.inl ⟨by go_num, HI.out, (by first | exact ht | (intro _; trivial))⟩))
          case measure => simp [intOf]
        · have hn : (p == 3) = false := by simpa using hb
          have hn' : (p != 3) = true := by simpa using hb
          have hz : (p % 3 == 0) = true := by simpa using ha
          have HA := lH ha; have HB := lH hb; clear ha hb
          go_wp2_with (fail)
          go_ret
          exact ⟨ret_bool (by have h1 := HA.out; have h2 := HB.out; simp [fieldB, h1, h2]), rfl⟩
      · have hz : (p % 3 == 0) = false := by simpa using ha
        have ht : p % 3 = 0 → p = 3 := fun h => absurd h ha
        have HX := lH ht; clear ht ha
        go_wp2_with (fail)
        go_round
        case rel => have ht := HX.out; exact .inr (.inr (.inl ⟨by go_num, HI.out, (by first | exact ht | (intro _; trivial))⟩))
        case measure => simp [intOf]
    · have HI := lH HH
      clear HH
      by_cases ha : p % 5 = 0
      · by_cases hb : p = 5
        · subst hb
          have ht : (5 : Int) % 5 = 0 → (5 : Int) = 5 := fun _ => rfl
          have HX := lH ht; clear ht ha
          go_wp2_with (fail)
          go_round
          case rel => have ht := HX.out; exact .inr (.inr (.inr (.inl ⟨by go_num, HI.out.1, HI.out.2, (by first | exact ht | (intro _; trivial))⟩)))
          case measure => simp [intOf]
        · have hn : (p == 5) = false := by simpa using hb
          have hn' : (p != 5) = true := by simpa using hb
          have hz : (p % 5 == 0) = true := by simpa using ha
          have HA := lH ha; have HB := lH hb; clear ha hb
          go_wp2_with (fail)
          go_ret
          exact ⟨ret_bool (by have h1 := HA.out; have h2 := HB.out; simp [fieldB, h1, h2]), rfl⟩
      · have hz : (p % 5 == 0) = false := by simpa using ha
        have ht : p % 5 = 0 → p = 5 := fun h => absurd h ha
        have HX := lH ht; clear ht ha
        go_wp2_with (fail)
        go_round
        case rel => have ht := HX.out; exact .inr (.inr (.inr (.inl ⟨by go_num, HI.out.1, HI.out.2, (by first | exact ht | (intro _; trivial))⟩)))
        case measure => simp [intOf]
    · have HI := lH HH
      clear HH
      by_cases ha : p % 7 = 0
      · by_cases hb : p = 7
        · subst hb
          have ht : (7 : Int) % 7 = 0 → (7 : Int) = 7 := fun _ => rfl
          have HX := lH ht; clear ht ha
          go_wp2_with (fail)
          go_round
          case rel => have ht := HX.out; exact .inr (.inr (.inr (.inr (⟨by go_num, HI.out.1, HI.out.2.1, HI.out.2.2, (by first | exact ht | (intro _; trivial))⟩))))
          case measure => simp [intOf]
        · have hn : (p == 7) = false := by simpa using hb
          have hn' : (p != 7) = true := by simpa using hb
          have hz : (p % 7 == 0) = true := by simpa using ha
          have HA := lH ha; have HB := lH hb; clear ha hb
          go_wp2_with (fail)
          go_ret
          exact ⟨ret_bool (by have h1 := HA.out; have h2 := HB.out; simp [fieldB, h1, h2]), rfl⟩
      · have hz : (p % 7 == 0) = false := by simpa using ha
        have ht : p % 7 = 0 → p = 7 := fun h => absurd h ha
        have HX := lH ht; clear ht ha
        go_wp2_with (fail)
        go_round
        case rel => have ht := HX.out; exact .inr (.inr (.inr (.inr (⟨by go_num, HI.out.1, HI.out.2.1, HI.out.2.2, (by first | exact ht | (intro _; trivial))⟩))))
        case measure => simp [intOf]
    · have HI := lH HH
      clear HH
      go_wp2_with (fail)
      go_ret
      exact ⟨ret_bool (by have h : fieldB p = true := by (simp only [fieldB, decide_eq_true_eq]; exact ⟨h2, h97, HI.out⟩)
                          exact h.symm), rfl⟩
 · go_enter Tryz.func57, Tryz.ntmps57
   by_cases hlt : p < 2
   · go_wp2_with (fail)
     go_ret
     exact ⟨ret_bool (by simp [fieldB]; omega), rfl⟩
   · have hgt : 97 < p := by omega
     go_wp2_with (fail)
     go_ret
     exact ⟨ret_bool (by simp [fieldB]; omega), rfl⟩
set_option maxHeartbeats 400000 in
theorem isVector_any (p : Int) (A : Option Addr) (c : Nat) (l : List Int) (n : Int) (w : World) (h : RdI w A l) (hl : l.length ≤ 17592186044416) :
  Calls Tryz.prog 21 #[.int .i64 p, .slice A l.length c, .int .i64 n] w fun e w' => e = .returned (.bool (decide ((l.length : Int) = n) && inB 0 (p - 1) l)) ∧ w = w' := by
 by_cases hlen : (l.length : Int) = n
 · have h0 : ((l.length : Int) != n) = false := by simp [hlen]
   have HN := lH hlen; clear hlen
   go_enter Tryz.func21, Tryz.ntmps21
   go_wp2_with (fail)
   go_loop [15] (fun i => ∃ k : Nat, k ≤ l.length ∧ i = .int .i64 k ∧ inB 0 (p - 1) (l.take k) = true) (fun i => l.length - (intOf i).toNat)
   case atStart => exact ⟨0, Nat.zero_le _, rfl, rfl⟩
   case round =>
    obtain ⟨k, hk, rfl, ht⟩ := hrel
    have HT := lH ht; clear ht h0
    by_cases hlt : k < l.length
    · obtain ⟨ad, x, rfl, hx, hc⟩ := h.at_ hlt
      have HX := lH hx; clear hx h
      by_cases hin : 0 ≤ x ∧ x ≤ p - 1
      · have hd : (decide (0 ≤ x) && decide (x ≤ p - 1)) = true := by simp [hin.1, hin.2]
        go_wp2_with (go_at_call 42; refine (isElement_any _ _ _).mono ?_; rintro e w' ⟨rfl, rfl⟩)
        go_round
        case rel => exact ⟨k + 1, by omega, by go_num, by rw [inB_take_succ HX.out, HT.out]; simp [hin.1, hin.2]⟩
        case measure => simp [intOf]; omega
      · have hd : (decide (0 ≤ x) && decide (x ≤ p - 1)) = false := by rw [Bool.eq_false_iff]; intro h; apply hin; simpa using h
        clear hin
        go_wp2_with (go_at_call 42; refine (isElement_any _ _ _).mono ?_; rintro e w' ⟨rfl, rfl⟩)
        go_ret
        exact ⟨ret_bool (by rw [inB_false_of HX.out (fun h => by simp [h.1, h.2] at hd)]; simp), rfl⟩
    · obtain rfl : k = l.length := by omega
      clear h
      go_wp2_with (fail)
      go_ret
      exact ⟨ret_bool (by have := HT.out; rw [List.take_of_length_le (Nat.le_refl _)] at this; simp [this, HN.out]), rfl⟩
 · have h0 : ((l.length : Int) != n) = true := by simp [hlen]
   go_enter Tryz.func21, Tryz.ntmps21
   go_wp2_with (fail)
   go_ret
   exact ⟨ret_bool (by simp [hlen]), rfl⟩
set_option maxHeartbeats 400000 in
theorem l1All_any (A : Option Addr) (c : Nat) (l : List Int) (lo hi : Int) (w : World) (h : RdI w A l) (hl : l.length ≤ 17592186044416) :
  Calls Tryz.prog 28 #[.slice A l.length c, .int .i64 lo, .int .i64 hi] w fun e w' => e = .returned (.bool (inB lo hi l)) ∧ w = w' := by
 go_enter Tryz.func28, Tryz.ntmps28
 go_wp2_with (fail)
 go_loop [11] (fun i => ∃ k : Nat, k ≤ l.length ∧ i = .int .i64 k ∧ inB lo hi (l.take k) = true) (fun i => l.length - (intOf i).toNat)
 case atStart => exact ⟨0, Nat.zero_le _, rfl, rfl⟩
 case round =>
  obtain ⟨k, hk, rfl, ht⟩ := hrel
  have HT := lH ht; clear ht
  by_cases hlt : k < l.length
  · obtain ⟨ad, x, rfl, hx, hc⟩ := h.at_ hlt
    have HX := lH hx; clear hx h
    by_cases hin : lo ≤ x ∧ x ≤ hi
    · have hd : (decide (lo ≤ x) && decide (x ≤ hi)) = true := by simp [hin.1, hin.2]
      go_wp2_with (go_at_call 49; refine (l1In_any _ _ _ _).mono ?_; rintro e w' ⟨rfl, rfl⟩)
      go_round
      case rel => exact ⟨k + 1, by omega, by go_num, by rw [inB_take_succ HX.out, HT.out]; simp [hin.1, hin.2]⟩
      case measure => simp [intOf]; omega
    · have hd : (decide (lo ≤ x) && decide (x ≤ hi)) = false := by rw [Bool.eq_false_iff]; intro h; apply hin; simpa using h
      clear hin
      go_wp2_with (go_at_call 49; refine (l1In_any _ _ _ _).mono ?_; rintro e w' ⟨rfl, rfl⟩)
      go_ret
      exact ⟨ret_bool (by rw [inB_false_of HX.out (fun h => by simp [h.1, h.2] at hd)]), rfl⟩
  · obtain rfl : k = l.length := by omega
    clear h
    go_wp2_with (fail)
    go_ret
    exact ⟨ret_bool (by have := HT.out; rw [List.take_of_length_le (Nat.le_refl _)] at this; simp [this]), rfl⟩
set_option maxHeartbeats 400000 in
theorem fdIn_any (p : Int) (A : Option Addr) (c : Nat) (l : List Int) (w : World) (h : RdI w A l) (hl : l.length ≤ 17592186044416) (hp : 0 ≤ p) (hp' : p ≤ 97) :
  Calls Tryz.prog 17 #[.int .i64 p, .slice A l.length c] w fun e w' => e = .returned (.bool (inB 0 (p - 1) l)) ∧ w = w' := by
 go_enter Tryz.func17, Tryz.ntmps17
 go_wp2_with (go_at_call 28; refine (l1All_any _ _ _ _ _ _ h hl).mono ?_; rintro e w' ⟨rfl, rfl⟩)
 go_ret
 exact ⟨rfl, rfl⟩
theorem tmod_neg {a p : Int} (ha : a < 0) (hp : 0 < p) : (a.tmod p = 0 ∧ a % p = 0) ∨ (a.tmod p < 0 ∧ a.tmod p + p = a % p) := by
 have e : a.tmod p = -((-a) % p) := by
  have h1 : (-a).tmod p = (-a) % p := Int.tmod_eq_emod_of_nonneg (by omega)
  rw [← h1, Int.neg_tmod, Int.neg_neg]
 have h2 := Int.emod_nonneg (-a) (show p ≠ 0 by omega)
 have h3 := Int.emod_lt_of_pos (-a) hp
 have h4 := Int.emod_nonneg a (show p ≠ 0 by omega)
 have h5 := Int.emod_lt_of_pos a hp
 have h6 : (a % p + (-a) % p) % p = 0 := by rw [← Int.add_emod, show a + -a = 0 by omega]; simp
 rw [e]
 by_cases h0 : (-a) % p = 0
 · left; refine ⟨by omega, ?_⟩
   rw [h0, Int.add_zero, Int.emod_eq_of_lt h4 h5] at h6; exact h6
 · right; refine ⟨by omega, ?_⟩
   by_cases h7 : a % p + (-a) % p < p
   · rw [Int.emod_eq_of_lt (by omega) h7] at h6; omega
   · have h8 : (a % p + (-a) % p) % p = a % p + (-a) % p - p := by
      rw [← Int.sub_emod_right, Int.emod_eq_of_lt (by omega) (by omega)]
     omega
set_option maxHeartbeats 400000 in
theorem mod_any (p a : Int) (w : World) (h0 : 0 < p) (h97 : p ≤ 97) (ha : -1000000000 ≤ a) (ha' : a ≤ 1000000000) :
  Calls Tryz.prog 67 #[.int .i64 p, .int .i64 a] w fun e w' => e = .returned (.int .i64 (a % p)) ∧ w = w' := by
 have hz : (p == 0) = false := by rw [beq_eq_false_iff_ne]; omega
 have h1 := Int.emod_nonneg a (show p ≠ 0 by omega)
 have h2 := Int.emod_lt_of_pos a h0
 by_cases hneg : 0 ≤ a
 · go_enter Tryz.func67, Tryz.ntmps67
   go_wp2_with (fail)
   go_ret
   exact ⟨ret_int rfl, rfl⟩
 · obtain ⟨t, ht⟩ : ∃ t, a.tmod p = t := ⟨_, rfl⟩
   have hcase := tmod_neg (a := a) (p := p) (by omega) h0
   rw [ht] at hcase
   rcases hcase with ⟨rfl, he⟩ | ⟨hlt, he⟩
   · have HE := lH he
     clear he
     go_enter Tryz.func67, Tryz.ntmps67
     go_wp2_with (fail)
     go_ret
     exact ⟨ret_int HE.out.symm, rfl⟩
   · have HE := lH he
     have hgt : -97 ≤ t := by omega
     clear he
     go_enter Tryz.func67, Tryz.ntmps67
     go_wp2_with (fail)
     go_ret
     exact ⟨ret_int HE.out, rfl⟩
set_option maxHeartbeats 400000 in
theorem zeros_any (n : Nat) (w : World) (hn : n ≤ 17592186044416) :
  Calls Tryz.prog 66 #[.int .i64 n] w (RetI w (List.replicate n 0)) := by
 go_enter Tryz.func66, Tryz.ntmps66
 go_wp2_with (at_make; refine wpList_make_Sl _ rfl _ _ _ rfl 3 Tryz.underlying23 info_int n n rfl rfl rfl rfl (Nat.le_refl _) (by omega) (by unfold maxLen; omega) ?_; intro G w1 hs hG hb1)
 go_ret
 refine ⟨some G, n, by simp, ?_, fun b hb => by simp at hb; subst hb; exact hG, hb1⟩
 unfold IS; rw [← madeZeros]; simpa using hs
set_option maxHeartbeats 400000 in
theorem l1Own_any (A : Option Addr) (c : Nat) (l : List Int) (w : World) (h : RdI w A l) (hl : l.length ≤ 17592186044416) :
  Calls Tryz.prog 29 #[.slice A l.length c] w (RetI w l) := by
 go_enter Tryz.func29, Tryz.ntmps29
 have hs0 := Sl.laid w 3 1 0 #[] (Nat.zero_le _) rfl
 go_wp2_with (at_builtin; refine wpList_append_Sl _ rfl _ _ _ rfl 3 Tryz.underlying23 info_int rfl (by omega) rfl hs0 rfl (by simp) (h.rdc.alloc _) (ints_one l) (by unfold maxLen; omega) (by omega) ?_; intro A1 cap1 w1 hs hA hk)
 go_ret
 refine ⟨A1, cap1, by simp, ?_, ?_, ?_⟩
 · simpa [IS] using hs
 · intro b hb
   rcases hA b hb with h1 | h1
   · simp at h1; omega
   · simp at h1; omega
 · exact ((Below.refl w.heap.size w).alloc (Nat.le_refl _) _).trans (hk.below (by simp) (by simp))
set_option maxHeartbeats 400000 in
theorem clone_any (A : Option Addr) (c : Nat) (l : List Int) (w : World) (h : RdI w A l) (hl : l.length ≤ 17592186044416) :
  Calls Tryz.prog 101 #[.slice A l.length c] w (RetI w l) := by
 go_enter Tryz.func101, Tryz.ntmps101
 have hs0 := Sl.laid w 3 1 0 #[] (Nat.zero_le _) rfl
 go_wp2_with (at_builtin; refine wpList_append_Sl _ rfl _ _ _ rfl 3 Tryz.underlying23 info_int rfl (by omega) rfl hs0 rfl (by simp) (h.rdc.alloc _) (ints_one l) (by unfold maxLen; omega) (by omega) ?_; intro A1 cap1 w1 hs hA hk)
 go_ret
 refine ⟨A1, cap1, by simp, ?_, ?_, ?_⟩
 · simpa [IS] using hs
 · intro b hb
   rcases hA b hb with h1 | h1
   · simp at h1; omega
   · simp at h1; omega
 · exact ((Below.refl w.heap.size w).alloc (Nat.le_refl _) _).trans (hk.below (by simp) (by simp))
theorem get_take_drop {α : Type} {l m : List α} {k : Nat} (hl : l.length = m.length) (hk : k < m.length) : (l.take k ++ m.drop k)[k]? = m[k]? := by
 rw [List.getElem?_append_right (by simp; omega)]
 simp [show min k l.length = k by omega]
theorem len_take_drop {α : Type} {l m : List α} {k : Nat} (hl : l.length = m.length) (hk : k ≤ m.length) : (l.take k ++ m.drop k).length = m.length := by simp; omega
set_option maxHeartbeats 400000 in
theorem addTimes_any (p c : Int) (A B : Option Addr) (ca cb : Nat) (v m : List Int) (w : World) (hA : IS w A ca v) (hB : RdI w B m) (hd : 0 < m.length → ∀ b, b ∈ fpA B → b ∉ fpA A) (hlen : m.length ≤ v.length) (hvl : v.length ≤ 17592186044416)
  (h0 : 0 < p) (h97 : p ≤ 97) (hv : ∀ x, x ∈ v → 0 ≤ x ∧ x < p) (hm : ∀ x, x ∈ m → 0 ≤ x ∧ x < p) (hc : -10000 ≤ c) (hc' : c ≤ 10000) :
  Calls Tryz.prog 105 #[.int .i64 p, .slice A v.length ca, .int .i64 c, .slice B m.length cb] w fun e w' => e = .returned (.tuple #[]) ∧ Wr w w' A (ints (addT p v c m)) := by
 go_enter Tryz.func105, Tryz.ntmps105
 go_wp2_with (fail)
 go_loopw [12] (fun i wr => ∃ k : Nat, k ≤ m.length ∧ i = .int .i64 k ∧ Wr w wr A (ints ((addT p v c m).take k ++ v.drop k))) (fun i _ => m.length - (intOf i).toNat)
 case atStart => exact ⟨0, Nat.zero_le _, rfl, by simpa using Wr.start hA⟩
 case round =>
  obtain ⟨k, hk, rfl, hw⟩ := hrel
  have hll : ((addT p v c m).take k ++ v.drop k).length = v.length := len_take_drop (by simp) (by omega)
  by_cases hlt : k < m.length
  · obtain ⟨bd, y, hB', hy, hcb⟩ := (hB.keeps hw.1 (hd (by omega))).at_ hlt
    have his : IS wr A ca ((addT p v c m).take k ++ v.drop k) := by
     have := hw.sl hA (by simp; omega)
     unfold IS; rw [hll]; exact this
    obtain ⟨ad, x, hA', hx, hbl, hca, hf'⟩ := his.at_ (j := k) (by omega)
    rw [get_take_drop (by simp) (by omega)] at hx
    have hf := hf' k
    have hxb := hv x (List.mem_of_getElem? hx)
    have hyb := hm y (List.mem_of_getElem? hy)
    have hw2 := hw.set hA' (j := k) (by rw [ints_length, hll]; omega) (.int .i64 ((x + c * y) % p))
    rw [ints_set, take_append_step (by simp) (addT_get hx hy)] at hw2
    have HW := lH hw2
    have hkv : (k : Int) < (v.length : Int) := by omega
    have hp1 : -1000000 ≤ c * y ∧ c * y ≤ 1000000 := by
     have h1 : c * y ≤ 10000 * y := Int.mul_le_mul_of_nonneg_right hc' hyb.1
     have h2 : (-10000) * y ≤ c * y := Int.mul_le_mul_of_nonneg_right hc hyb.1
     omega
    obtain ⟨hp1a, hp1b⟩ := hp1
    subst hA'
    subst hB'
    clear hw2 hx hy hw his hA hB hd hll hf' hv hm
    go_wp2_with (go_at_call 67; refine (mod_any _ _ _ h0 h97 (by omega) (by omega)).mono ?_; rintro e w' ⟨rfl, rfl⟩)
    go_roundw
    case rel => exact ⟨k + 1, by omega, by go_num, HW.out⟩
    case measure => simp [intOf]; omega
  · obtain rfl : k = m.length := by omega
    rw [addT_take_end hlen] at hw
    clear hll hA hB hd hv hm
    go_wp2_with (fail)
    go_end0
    exact ⟨rfl, hw⟩
theorem mul_bound {a b : Int} (ha : 0 ≤ a) (ha' : a ≤ 10000) (hb : 0 ≤ b) (hb' : b ≤ 10000) : 0 ≤ a * b ∧ a * b ≤ 100000000 := by
 refine ⟨Int.mul_nonneg ha hb, ?_⟩
 have h1 : a * b ≤ 10000 * b := Int.mul_le_mul_of_nonneg_right ha' hb
 omega
set_option maxHeartbeats 400000 in
theorem fdMul_any (p a b : Int) (w : World) (h0 : 0 < p) (ha : 0 ≤ a) (ha' : a ≤ 10000) (hb : 0 ≤ b) (hb' : b ≤ 10000) :
  Calls Tryz.prog 55 #[.int .i64 p, .int .i64 a, .int .i64 b] w fun e w' => e = .returned (.int .i64 (a * b % p)) ∧ w = w' := by
 have hz : (p == 0) = false := by rw [beq_eq_false_iff_ne]; omega
 obtain ⟨h1, h2⟩ := mul_bound ha ha' hb hb'
 go_enter Tryz.func55, Tryz.ntmps55
 go_wp2_with (fail)
 go_ret
 exact ⟨rfl, rfl⟩
theorem powM_step (p : Int) (fuel : Nat) (a : Int) (n : Nat) (out : Int) (h : n ≠ 0) : powM p (fuel + 1) a n out = powM p fuel (a * a % p) (n / 2) (if n % 2 = 1 then out * a % p else out) := by rw [powM, if_neg h]
theorem powM_zero (p : Int) (fuel : Nat) (a out : Int) : powM p fuel a 0 out = out := by cases fuel <;> simp [powM]
set_option maxHeartbeats 400000 in
theorem power_any (p a : Int) (n : Nat) (w : World) (h2 : 2 ≤ p) (h97 : p ≤ 97) (ha : 0 ≤ a) (ha' : a < p) (hn : n < 256) :
  Calls Tryz.prog 106 #[.int .i64 p, .int .i64 a, .int .i64 n] w fun e w' => e = .returned (.int .i64 (powM p 8 a n (1 % p))) ∧ w = w' := by
 have hz : (p == 0) = false := by rw [beq_eq_false_iff_ne]; omega
 have h1p : 1 % p = 1 := Int.emod_eq_of_lt (by omega) (by omega)
 rw [h1p]
 have H1 := lH h1p
 go_enter Tryz.func106, Tryz.ntmps106
 go_wp2_with (fail)
 go_loop [1, 2, 7] (fun va vn vo => ∃ (fuel m : Nat) (b o : Int), fuel ≤ 8 ∧ m < 2 ^ fuel ∧ va = .int .i64 b ∧ vn = .int .i64 m ∧ vo = .int .i64 o ∧ 0 ≤ b ∧ b < p ∧ 0 ≤ o ∧ o < p ∧ powM p fuel b m o = powM p 8 a n 1) (fun _ vn _ => (intOf vn).toNat)
 case atStart => exact ⟨8, n, a, 1, by omega, by simpa using hn, rfl, rfl, by first | rfl | simp [h1p], ha, ha', by omega, by omega, rfl⟩
 case round =>
  obtain ⟨fuel, m, b, o, hfu, hm, rfl, rfl, rfl, hb0, hb1, ho0, ho1, hp⟩ := hrel
  by_cases h0 : m = 0
  · subst h0
    rw [powM_zero] at hp
    have HP := lH hp; clear hp
    go_wp2_with (fail)
    go_ret
    exact ⟨ret_int HP.out, rfl⟩
  · obtain ⟨f, rfl⟩ : ∃ f, fuel = f + 1 := by
     rcases fuel with _ | f
     · simp at hm; omega
     · exact ⟨f, rfl⟩
    rw [powM_step _ _ _ _ _ h0] at hp
    have hm2 : m < 256 := Nat.lt_of_lt_of_le hm (Nat.pow_le_pow_right (by omega) hfu)
    have hmf : m / 2 < 2 ^ f := by rw [Nat.pow_succ] at hm; omega
    have hpos : (0 : Int) < (m : Int) := by omega
    obtain ⟨x1, x2⟩ := mul_bound (a := b) (b := b) hb0 (by omega) hb0 (by omega)
    obtain ⟨y1, y2⟩ := mul_bound (a := o) (b := b) ho0 (by omega) hb0 (by omega)
    have z1 := Int.emod_nonneg (b * b) (show p ≠ 0 by omega)
    have z2 := Int.emod_lt_of_pos (b * b) (show 0 < p by omega)
    have z3 := Int.emod_nonneg (o * b) (show p ≠ 0 by omega)
    have z4 := Int.emod_lt_of_pos (o * b) (show 0 < p by omega)
    by_cases hodd : m % 2 = 1
    · rw [if_pos hodd] at hp
      have ho : ((m : Int) % 2 == 1) = true := by rw [beq_iff_eq]; omega
      have HP := lH hp; have HO := lH hodd; clear hp hodd
      go_wp2_with (fail)
      go_round
      case rel => exact ⟨f, m / 2, b * b % p, o * b % p, by omega, hmf, rfl, by go_num, rfl, z1, z2, z3, z4, HP.out⟩
      case measure => simp [intOf]; omega
    · rw [if_neg hodd] at hp
      have ho : ((m : Int) % 2 == 1) = false := by rw [beq_eq_false_iff_ne]; omega
      have HP := lH hp; clear hp hodd
      go_wp2_with (fail)
      go_round
      case rel => exact ⟨f, m / 2, b * b % p, o, by omega, hmf, rfl, by go_num, rfl, z1, z2, ho0, ho1, HP.out⟩
      case measure => simp [intOf]; omega
set_option maxHeartbeats 400000 in
theorem inverse_any (p a : Int) (w : World) (h2 : 2 ≤ p) (h97 : p ≤ 97) (ha : 0 ≤ a) (ha' : a < p) :
  Calls Tryz.prog 104 #[.int .i64 p, .int .i64 a] w fun e w' => e = .returned (.int .i64 (invM p a)) ∧ w = w' := by
 by_cases hp2 : p = 2
 · have hb : (p == 2) = true := by rw [beq_iff_eq]; exact hp2
   have H := power_any p a 1 w h2 h97 ha ha' (by omega)
   have e : powM p 8 a 1 (1 % p) = invM p a := by unfold invM; rw [hp2]; rfl
   rw [e] at H
   have H' : Calls Tryz.prog 106 #[.int .i64 p, .int .i64 a, .int .i64 (p - 2 + 1)] w fun e w' => e = .returned (.int .i64 (invM p a)) ∧ w = w' := by
    have e2 : p - 2 + 1 = ((1 : Nat) : Int) := by omega
    rw [e2]; exact H
   have HH := lH H'; have HP := lH hp2; clear H H' e hp2
   go_enter Tryz.func104, Tryz.ntmps104
   go_wp2_with (go_at_call 107; go_in)
   refine HH.out.mono ?_
   rintro e w' ⟨rfl, rfl⟩
   go_wp2_with (fail)
   go_ret
   exact ⟨rfl, rfl⟩
 · have hb : (p == 2) = false := by rw [beq_eq_false_iff_ne]; exact hp2
   have H := power_any p a (p - 2).toNat w h2 h97 ha ha' (by omega)
   have e : powM p 8 a (p - 2).toNat (1 % p) = invM p a := by unfold invM; rw [if_neg hp2, Nat.add_zero]
   rw [e] at H
   have H' : Calls Tryz.prog 106 #[.int .i64 p, .int .i64 a, .int .i64 (p - 2)] w fun e w' => e = .returned (.int .i64 (invM p a)) ∧ w = w' := by
    have e2 : p - 2 = (((p - 2).toNat : Nat) : Int) := by omega
    rw [e2]; exact H
   have HH := lH H'; clear H H' e hp2
   go_enter Tryz.func104, Tryz.ntmps104
   go_wp2_with (go_at_call 107; go_in)
   refine HH.out.mono ?_
   rintro e w' ⟨rfl, rfl⟩
   go_wp2_with (fail)
   go_ret
   exact ⟨rfl, rfl⟩
set_option maxHeartbeats 400000 in
theorem fdInv_any (p a : Int) (w : World) (hp : fieldB p = true) (ha : 1 ≤ a) (ha' : a < p) :
  Calls Tryz.prog 54 #[.int .i64 p, .int .i64 a] w fun e w' => e = .returned (.int .i64 (invM p a)) ∧ w = w' := by
 have hpb := fieldB_bounds hp
 have hz : (p == 0) = false := by rw [beq_eq_false_iff_ne]; omega
 obtain ⟨i1, i2, i3⟩ := invM_spec hp ha ha'
 obtain ⟨v, hv⟩ : ∃ v, v = invM p a := ⟨_, rfl⟩
 rw [← hv] at i1 i2 i3
 rw [← hv]
 have HI := lH i1; clear i1 hv
 go_enter Tryz.func54, Tryz.ntmps54
 go_wp2_with (fail)
 go_loop [5] (fun vx => ∃ x : Int, 1 ≤ x ∧ x ≤ v ∧ vx = .int .i64 x) (fun vx => (p - intOf vx).toNat)
 case atStart => exact ⟨1, by omega, by omega, rfl⟩
 case round =>
  obtain ⟨x, hx1, hx2, rfl⟩ := hrel
  obtain ⟨x1, x2⟩ := mul_bound (a := a) (b := x) (by omega) (by omega) (by omega) (by omega)
  by_cases hd : a * x % p = 1
  · have hxv : x = v := inv_unique (p := p) (a := a) (by omega) ⟨by omega, by omega⟩ ⟨by omega, by omega⟩ (by rw [hd, Int.emod_eq_of_lt (by omega) (by omega)]) (by rw [HI.out, Int.emod_eq_of_lt (by omega) (by omega)])
    have ht : (a * x % p == 1) = true := by rw [beq_iff_eq]; exact hd
    have HX := lH hxv; clear hd hxv
    go_wp2_with (fail)
    go_ret
    exact ⟨ret_int HX.out, rfl⟩
  · have ht : (a * x % p == 1) = false := by rw [beq_eq_false_iff_ne]; exact hd
    have hne : x ≠ v := by intro e; subst e; exact hd HI.out
    have hlt : x < v := by omega
    clear hd hne
    go_wp2_with (fail)
    go_round
    case rel => exact ⟨x + 1, by omega, by omega, rfl⟩
    case measure => simp [intOf]; omega
set_option maxHeartbeats 400000 in
theorem fdSub_any (p a b : Int) (w : World) (h0 : 0 < p) (h97 : p ≤ 97) (ha : 0 ≤ a) (ha' : a ≤ 10000) (hb : 0 ≤ b) (hb' : b ≤ p) :
  Calls Tryz.prog 56 #[.int .i64 p, .int .i64 a, .int .i64 b] w fun e w' => e = .returned (.int .i64 ((a - b) % p)) ∧ w = w' := by
 have hz : (p == 0) = false := by rw [beq_eq_false_iff_ne]; omega
 go_enter Tryz.func56, Tryz.ntmps56
 go_wp2_with (fail)
 go_ret
 refine ⟨ret_int ?_, rfl⟩
 rw [show a + p - b = (a - b) + p by omega, Int.add_emod_right]
end Go.Proofs.YtjompikdkhhlgaaGreatDoor
namespace Go.Proofs.YtjompikdkhhlgaaGreatDoor
theorem dvd_l {p a : Int} (h : p ∣ a) (b : Int) : p ∣ a * b := by
 obtain ⟨k, rfl⟩ := h; exact ⟨k * b, Int.mul_assoc _ _ _⟩
theorem dvd_r {p a : Int} (h : p ∣ a) (b : Int) : p ∣ b * a := by
 rw [Int.mul_comm]; exact dvd_l h b
def sm : Nat → (Nat → Int) → Int
 | 0, _ => 0
 | n + 1, f => sm n f + f n
theorem sm_congr {n : Nat} {f g : Nat → Int} (h : ∀ i, i < n → f i = g i) : sm n f = sm n g := by
 induction n with
 | zero => rfl
 | succ n ih => rw [sm, sm, ih fun i hi => h i (by omega), h n (by omega)]
theorem sm_zero (n : Nat) : sm n (fun _ => 0) = 0 := by
 induction n with
 | zero => rfl
 | succ n ih => rw [sm, ih]; rfl
theorem sm_add (n : Nat) (f g : Nat → Int) : sm n (fun i => f i + g i) = sm n f + sm n g := by
 induction n with
 | zero => rfl
 | succ n ih => rw [sm, sm, sm, ih]; omega
theorem sm_sub (n : Nat) (f g : Nat → Int) : sm n (fun i => f i - g i) = sm n f - sm n g := by
 induction n with
 | zero => rfl
 | succ n ih => rw [sm, sm, sm, ih]; omega
theorem sm_mul (n : Nat) (c : Int) (f : Nat → Int) : sm n (fun i => c * f i) = c * sm n f := by
 induction n with
 | zero => simp [sm]
 | succ n ih => rw [sm, sm, ih, Int.mul_add]
theorem sm_swap (n m : Nat) (f : Nat → Nat → Int) : sm n (fun i => sm m (fun j => f i j)) = sm m (fun j => sm n (fun i => f i j)) := by
 induction n with
 | zero => simp only [sm]; exact (sm_zero m).symm
 | succ n ih => simp only [sm]; rw [ih, sm_add]
theorem sm_one {n k : Nat} (hk : k < n) {f : Nat → Int} (h : ∀ i, i < n → i ≠ k → f i = 0) : sm n f = f k := by
 induction n with
 | zero => omega
 | succ n ih =>
   rw [sm]
   by_cases e : k = n
   · subst e
     rw [sm_congr (g := fun _ => 0) (fun i hi => h i (by omega) (by omega)), sm_zero, Int.zero_add]
   · rw [ih (by omega) fun i hi hik => h i (by omega) hik, h n (by omega) (by omega), Int.add_zero]
theorem sm_dvd {p : Int} {n : Nat} {f : Nat → Int} (h : ∀ i, i < n → p ∣ f i) : p ∣ sm n f := by
 induction n with
 | zero => exact Int.dvd_zero p
 | succ n ih => exact Int.dvd_add (ih fun i hi => h i (by omega)) (h n (by omega))
theorem sm_dvd_sub {p : Int} {n : Nat} {f g : Nat → Int} (h : ∀ i, i < n → p ∣ f i - g i) : p ∣ sm n f - sm n g := by
 rw [← sm_sub]; exact sm_dvd h
def Nul (p : Int) (n : Nat) (R : Nat → Nat → Int) (r : Nat) (x : Nat → Int) : Prop := ∀ i, i < r → p ∣ sm n fun j => R i j * x j
structure Red (p : Int) (n : Nat) (R : Nat → Nat → Int) (r : Nat) (c : Nat → Nat) : Prop where
 lt : ∀ i, i < r → c i < n
 one : ∀ i, i < r → R i (c i) = 1
 zero : ∀ i k, i < r → k < r → k ≠ i → R k (c i) = 0
 before : ∀ i j, i < r → j < c i → R i j = 0
 mono : ∀ i k, i < k → k < r → c i < c k
 res : ∀ i j, i < r → j < n → 0 ≤ R i j ∧ R i j < p
def nv (R : Nat → Nat → Int) (r : Nat) (c : Nat → Nat) (j : Nat) (k : Nat) : Int := (if k = j then 1 else 0) - sm r fun i => (if k = c i then 1 else 0) * R i j
theorem dot_delta {n j : Nat} (hj : j < n) (v : Nat → Int) : sm n (fun k => v k * (if k = j then 1 else 0)) = v j := by
 rw [sm_one hj (fun i _ hij => by simp [hij])]; simp
theorem dot_nv {n r : Nat} {c : Nat → Nat} (hc : ∀ i, i < r → c i < n) (R : Nat → Nat → Int) {j : Nat} (hj : j < n) (v : Nat → Int) :
  sm n (fun k => v k * nv R r c j k) = v j - sm r fun i => v (c i) * R i j := by
 have e1 : (fun k => v k * nv R r c j k) = fun k => v k * (if k = j then 1 else 0) - sm r fun i => R i j * (v k * (if k = c i then 1 else 0)) := by
  funext k
  unfold nv
  rw [Int.mul_sub, ← sm_mul]
  congr 2
  funext i
  rw [Int.mul_comm (R i j), Int.mul_assoc]
 rw [e1, sm_sub, dot_delta hj, sm_swap]
 congr 1
 refine sm_congr fun i hi => ?_
 rw [sm_mul, dot_delta (hc i hi), Int.mul_comm]
theorem Red.nul_nv {p : Int} {n r : Nat} {R : Nat → Nat → Int} {c : Nat → Nat} (h : Red p n R r c) {j : Nat} (hj : j < n) : Nul p n R r (nv R r c j) := by
 intro i hi
 rw [dot_nv h.lt R hj, sm_one hi (fun k hk hki => by rw [h.zero k i hk hi (fun e => hki e.symm), Int.zero_mul]), h.one i hi, Int.one_mul, Int.sub_self]
 exact Int.dvd_zero p
theorem Red.expand {p : Int} {n r : Nat} {R : Nat → Nat → Int} {c : Nat → Nat} (h : Red p n R r c) {v : Nat → Int} (hv : ∀ x, Nul p n R r x → p ∣ sm n fun j => v j * x j) {j : Nat} (hj : j < n) :
  p ∣ v j - sm r fun i => v (c i) * R i j := by
 rw [← dot_nv h.lt R hj]; exact hv _ (h.nul_nv hj)
theorem res_eq {p a b : Int} (ha : 0 ≤ a ∧ a < p) (hb : 0 ≤ b ∧ b < p) (h : p ∣ a - b) : a = b := by
 obtain ⟨k, hk⟩ := h
 have h1 : p * k < p * 1 := by omega
 have h2 : p * (-1) < p * k := by omega
 have h3 := Int.lt_of_mul_lt_mul_left h1 (by omega)
 have h4 := Int.lt_of_mul_lt_mul_left h2 (by omega)
 have : k = 0 := by omega
 subst this
 omega
theorem least_of {P : Nat → Prop} {n : Nat} (h : ∃ i, i < n ∧ P i) : ∃ i, i < n ∧ P i ∧ ∀ j, j < i → ¬ P j := by
 obtain ⟨i, hi, hp⟩ := h
 induction i using Nat.strongRecOn with
 | _ i ih =>
   by_cases hh : ∃ j, j < i ∧ P j
   · obtain ⟨j, hj, hpj⟩ := hh
     exact ih j hj (by omega) hpj
   · exact ⟨i, hi, hp, fun j hj hpj => hh ⟨j, hj, hpj⟩⟩
theorem Red.lead_mem {p : Int} (hp : 1 < p) {n r s : Nat} {R T : Nat → Nat → Int} {c d : Nat → Nat} (h : Red p n R r c) (h' : Red p n T s d) (hN : ∀ x, Nul p n R r x → Nul p n T s x) {k : Nat} (hk : k < s) :
  ∃ i, i < r ∧ c i = d k := by
 have hx := fun j hj => h.expand (v := T k) (fun x hx => hN x hx k hk) (j := j) hj
 obtain ⟨i0, h1, h2, h3⟩ : ∃ i, i < r ∧ T k (c i) ≠ 0 ∧ ∀ j, j < i → ¬ T k (c j) ≠ 0 := by
  apply least_of
  apply Classical.byContradiction
  intro hno
  have := hx (d k) (h'.lt k hk)
  rw [sm_congr (g := fun _ => 0) (fun i hi => by
   have : T k (c i) = 0 := Classical.byContradiction fun e => hno ⟨i, hi, e⟩
   rw [this, Int.zero_mul]), sm_zero, h'.one k hk] at this
  obtain ⟨m, hm⟩ := this
  have : p ∣ 1 := ⟨m, by omega⟩
  have := Int.le_of_dvd (by decide) this
  omega
 refine ⟨i0, h1, ?_⟩
 have hle : d k ≤ c i0 := by
  apply Nat.le_of_not_lt
  intro hlt
  exact h2 (h'.before k (c i0) hk hlt)
 have hge : c i0 ≤ d k := by
  apply Nat.le_of_not_lt
  intro hlt
  have := hx (d k) (h'.lt k hk)
  rw [sm_congr (g := fun _ => 0) (fun i hi => by
   by_cases hii : i < i0
   · have : T k (c i) = 0 := Classical.byContradiction fun e => h3 i hii e
     rw [this, Int.zero_mul]
   · have : d k < c i := by
      rcases Nat.lt_or_ge i0 i with hl | hl
      · have := h.mono i0 i hl hi; omega
      · obtain rfl : i = i0 := by omega
        exact hlt
     rw [h.before i (d k) hi this, Int.mul_zero]), sm_zero, h'.one k hk] at this
  obtain ⟨m, hm⟩ := this
  have : p ∣ 1 := ⟨m, by omega⟩
  have := Int.le_of_dvd (by decide) this
  omega
 omega
theorem seq_eq {r s : Nat} {c d : Nat → Nat} (hc : ∀ i k, i < k → k < r → c i < c k) (hd : ∀ i k, i < k → k < s → d i < d k) (h1 : ∀ i, i < r → ∃ k, k < s ∧ d k = c i) (h2 : ∀ k, k < s → ∃ i, i < r ∧ c i = d k) :
  ∀ i, i < r → i < s ∧ c i = d i := by
 intro i
 induction i using Nat.strongRecOn with
 | _ i ih =>
   intro hi
   obtain ⟨k, hk, e⟩ := h1 i hi
   rcases Nat.lt_trichotomy k i with hlt | rfl | hgt
   · have h3 := (ih k hlt (by omega)).2
     have h4 := hc k i hlt hi
     omega
   · exact ⟨hk, e.symm⟩
   · have h3 := hd i k hgt hk
     obtain ⟨m, hm, e'⟩ := h2 i (by omega)
     have hmi : m < i := by
      rcases Nat.lt_trichotomy m i with h | rfl | h
      · exact h
      · omega
      · have := hc i m h hm; omega
     have h4 := (ih m hmi (by omega)).2
     have h5 := hd m i hmi (by omega)
     omega
theorem Red.unique {p : Int} (hp : 1 < p) {n r s : Nat} {R T : Nat → Nat → Int} {c d : Nat → Nat} (h : Red p n R r c) (h' : Red p n T s d) (hN : ∀ x, Nul p n R r x ↔ Nul p n T s x) :
  r = s ∧ ∀ i j, i < r → j < n → R i j = T i j := by
 have m1 := fun k hk => Red.lead_mem hp h h' (fun x hx => (hN x).1 hx) (k := k) hk
 have m2 := fun k hk => Red.lead_mem hp h' h (fun x hx => (hN x).2 hx) (k := k) hk
 have e1 := seq_eq h.mono h'.mono m2 m1
 have e2 := seq_eq h'.mono h.mono m1 m2
 have hrs : r = s := by
  rcases Nat.lt_trichotomy r s with hh | hh | hh
  · have := (e2 r hh).1; omega
  · exact hh
  · have := (e1 s hh).1; omega
 refine ⟨hrs, fun i j hi hj => ?_⟩
 subst hrs
 have hx := h.expand (v := T i) (fun x hx => (hN x).1 hx i hi) hj
 rw [sm_one hi (fun k hk hki => by rw [(e1 k hk).2, h'.zero k i hk hi (fun e => hki e.symm), Int.zero_mul]), (e1 i hi).2, h'.one i hi, Int.one_mul] at hx
 exact (res_eq (h'.res i j hi hj) (h.res i j hi hj) hx).symm
end Go.Proofs.YtjompikdkhhlgaaGreatDoor
namespace Go.Proofs.YtjompikdkhhlgaaGreatDoor
theorem dvd_emod_sub (p a : Int) : p ∣ a % p - a := by
 have := Int.emod_add_mul_ediv a p
 exact ⟨-(a / p), by rw [Int.mul_neg]; omega⟩
theorem dvd_sub_emod (p a : Int) : p ∣ a - a % p := by
 have := Int.emod_add_mul_ediv a p
 exact ⟨a / p, by omega⟩
theorem comb_dvd {p : Int} {n : Nat} {A B C x : Nat → Int} (a b : Int) (h : ∀ j, j < n → p ∣ A j - (a * B j + b * C j)) (hB : p ∣ sm n fun j => B j * x j) (hC : p ∣ sm n fun j => C j * x j) : p ∣ sm n fun j => A j * x j := by
 have h1 : p ∣ (sm n fun j => A j * x j) - sm n fun j => (a * (B j * x j) + b * (C j * x j)) := sm_dvd_sub fun j hj => by
  have := dvd_l (h j hj) (x j)
  have e : (A j - (a * B j + b * C j)) * x j = A j * x j - (a * (B j * x j) + b * (C j * x j)) := by
   rw [Int.sub_mul, Int.add_mul, Int.mul_assoc, Int.mul_assoc]
  rwa [e] at this
 rw [sm_add, sm_mul, sm_mul] at h1
 have h2 : p ∣ a * (sm n fun j => B j * x j) + b * (sm n fun j => C j * x j) := Int.dvd_add (dvd_r hB a) (dvd_r hC b)
 have := Int.dvd_add h1 h2
 rwa [Int.sub_add_cancel] at this
def tr (r k i : Nat) : Nat := if i = k then r else i
def stepE (p : Int) (c r k : Nat) (iv : Int) (E : Nat → Nat → Int) (i j : Nat) : Int :=
 if i = r then E k j * iv % p else (E (tr r k i) j - E (tr r k i) c * (E k j * iv % p)) % p
structure Inv (p : Int) (n m c r : Nat) (E : Nat → Nat → Int) (ld : Nat → Nat) : Prop where
 le : r ≤ m
 lt : ∀ i, i < r → ld i < c
 one : ∀ i, i < r → E i (ld i) = 1
 zero : ∀ i k, i < r → k < m → k ≠ i → E k (ld i) = 0
 before : ∀ i j, i < r → j < ld i → E i j = 0
 mono : ∀ i k, i < k → k < r → ld i < ld k
 rest : ∀ k j, r ≤ k → k < m → j < c → E k j = 0
 res : ∀ i j, i < m → j < n → 0 ≤ E i j ∧ E i j < p
theorem Inv.start {p : Int} {n m : Nat} {E : Nat → Nat → Int} (h : ∀ i j, i < m → j < n → 0 ≤ E i j ∧ E i j < p) (ld : Nat → Nat) : Inv p n m 0 0 E ld :=
 ⟨Nat.zero_le _, fun i hi => by omega, fun i hi => by omega, fun i k hi => by omega, fun i j hi => by omega, fun i k _ hk => by omega, fun k j _ _ hj => by omega, h⟩
theorem Inv.skip {p : Int} {n m c r : Nat} {E : Nat → Nat → Int} {ld : Nat → Nat} (h : Inv p n m c r E ld) (hz : ∀ k, r ≤ k → k < m → E k c = 0) : Inv p n m (c + 1) r E ld :=
 ⟨h.le, fun i hi => by have := h.lt i hi; omega, h.one, h.zero, h.before, h.mono, fun k j hk hm hj => by
  rcases Nat.lt_or_ge j c with hl | hl
  · exact h.rest k j hk hm hl
  · obtain rfl : j = c := by omega
    exact hz k hk hm, h.res⟩
section
variable {p : Int} {n m c r k : Nat} {E : Nat → Nat → Int} {ld : Nat → Nat} {iv : Int}
theorem tr_lt (hr : r < m) {i : Nat} (hi : i < m) : tr r k i < m := by unfold tr; split <;> omega
theorem step_low (h : Inv p n m c r E ld) (hc : c < n) (hrk : r ≤ k) (hk : k < m) {i j : Nat} (hi : i < m) (hj : j < c) (hir : i ≠ r) : stepE p c r k iv E i j = E (tr r k i) j := by
 unfold stepE
 rw [if_neg hir, h.rest k j hrk hk hj]
 have := h.res (tr r k i) j (tr_lt (by omega) hi) (by omega)
 simp only [Int.zero_mul, Int.zero_emod, Int.mul_zero, Int.sub_zero]
 exact Int.emod_eq_of_lt this.1 this.2
theorem step_piv (h : Inv p n m c r E ld) (hrk : r ≤ k) (hk : k < m) {j : Nat} (hj : j < c) : stepE p c r k iv E r j = 0 := by
 unfold stepE
 rw [if_pos rfl, h.rest k j hrk hk hj, Int.zero_mul, Int.zero_emod]
theorem Inv.step (h : Inv p n m c r E ld) (hp : 0 < p) (hc : c < n) (hrk : r ≤ k) (hk : k < m) (hiv : E k c * iv % p = 1) :
  Inv p n m (c + 1) (r + 1) (stepE p c r k iv E) (fun i => if i < r then ld i else c) := by
 have hcol : ∀ i, i < m → i ≠ r → stepE p c r k iv E i c = 0 := by
  intro i hi hir
  unfold stepE
  rw [if_neg hir, hiv, Int.mul_one, Int.sub_self, Int.zero_emod]
 refine ⟨by omega, ?_, ?_, ?_, ?_, ?_, ?_, ?_⟩
 · intro i hi
   by_cases hir : i < r
   · have := h.lt i hir; simp only [hir, if_true]; omega
   · simp only [hir, if_false]; omega
 · intro i hi
   by_cases hir : i < r
   · simp only [hir, if_true]
     rw [step_low h hc hrk hk (by omega) (h.lt i hir) (by omega)]
     unfold tr; rw [if_neg (by omega)]; exact h.one i hir
   · obtain rfl : i = r := by omega
     simp only [hir, if_false]
     unfold stepE; rw [if_pos rfl]; exact hiv
 · intro i k' hi hk' hne
   by_cases hir : i < r
   · simp only [hir, if_true]
     by_cases hkr : k' = r
     · subst hkr; exact step_piv h hrk hk (h.lt i hir)
     · rw [step_low h hc hrk hk hk' (h.lt i hir) hkr]
       refine h.zero i _ hir (tr_lt (by omega) hk') ?_
       unfold tr; split <;> omega
   · obtain rfl : i = r := by omega
     simp only [hir, if_false]
     exact hcol k' hk' hne
 · intro i j hi hj
   by_cases hir : i < r
   · simp only [hir, if_true] at hj
     have := h.lt i hir
     rw [step_low h hc hrk hk (by omega) (by omega) (by omega)]
     unfold tr; rw [if_neg (by omega)]; exact h.before i j hir hj
   · obtain rfl : i = r := by omega
     simp only [hir, if_false] at hj
     exact step_piv h hrk hk hj
 · intro i k' hik hk'
   have h1 : i < r := by omega
   by_cases hkr : k' < r
   · simp only [h1, hkr, if_true]; exact h.mono i k' hik hkr
   · simp only [h1, hkr, if_true, if_false]; exact h.lt i h1
 · intro k' j hk' hm hj
   rcases Nat.lt_or_ge j c with hl | hl
   · rw [step_low h hc hrk hk hm hl (by omega)]
     exact h.rest _ j (by unfold tr; split <;> omega) (tr_lt (by omega) hm) hl
   · obtain rfl : j = c := by omega
     exact hcol k' hm (by omega)
 · intro i j _ _
   unfold stepE
   split <;> exact ⟨Int.emod_nonneg _ (by omega), Int.emod_lt_of_pos _ hp⟩
theorem step_rowr (j : Nat) : p ∣ stepE p c r k iv E r j - (iv * E k j + 0 * E k j) := by
 unfold stepE
 rw [if_pos rfl, Int.zero_mul, Int.add_zero, Int.mul_comm iv]
 exact dvd_emod_sub _ _
theorem step_rowi {i : Nat} (hir : i ≠ r) (j : Nat) : p ∣ stepE p c r k iv E i j - (1 * E (tr r k i) j + (-(E (tr r k i) c)) * stepE p c r k iv E r j) := by
 have e : stepE p c r k iv E r j = E k j * iv % p := by unfold stepE; rw [if_pos rfl]
 rw [e]
 unfold stepE
 rw [if_neg hir, Int.one_mul, Int.neg_mul, ← Int.sub_eq_add_neg]
 exact dvd_emod_sub _ _
theorem step_nul (hr : r < m) (hk : k < m) (hiv : E k c * iv % p = 1) (x : Nat → Int) : Nul p n (stepE p c r k iv E) m x ↔ Nul p n E m x := by
 constructor
 · intro hx i hi
   have hkk : p ∣ sm n fun j => E k j * x j := by
    refine comb_dvd (E k c) 0 (B := stepE p c r k iv E r) (C := stepE p c r k iv E r) (fun j _ => ?_) (hx r hr) (hx r hr)
    have h1 := dvd_sub_emod p (E k j * iv)
    have h2 := dvd_sub_emod p (E k c * iv)
    rw [hiv] at h2
    have e : stepE p c r k iv E r j = E k j * iv % p := by unfold stepE; rw [if_pos rfl]
    rw [e, Int.zero_mul, Int.add_zero]
    obtain ⟨a, ha⟩ := h1
    obtain ⟨b, hb⟩ := h2
    refine ⟨E k c * a - E k j * b, ?_⟩
    have e1 : E k j * iv % p = E k j * iv - p * a := by omega
    have e2 : E k c * (E k j * iv) = E k j * (E k c * iv) := by rw [Int.mul_left_comm]
    have e3 : E k c * iv = p * b + 1 := by omega
    rw [e1, Int.mul_sub, e2, e3, Int.mul_add, Int.mul_one, Int.mul_sub, Int.mul_left_comm p (E k c) a, Int.mul_left_comm p (E k j) b]
    omega
   by_cases hik : i = k
   · subst hik; exact hkk
   · have hi' : tr r k (if i = r then k else i) = i := by
      unfold tr
      by_cases h1 : i = r
      · simp [h1]
      · simp [h1, hik]
     have hne : (if i = r then k else i) ≠ r := by
      by_cases h1 : i = r
      · simp only [h1, if_true]; omega
      · simp only [h1, if_false]; exact h1
     have hlt : (if i = r then k else i) < m := by split <;> omega
     refine comb_dvd 1 (E i c) (B := stepE p c r k iv E (if i = r then k else i)) (C := stepE p c r k iv E r) (fun j _ => ?_) (hx _ hlt) (hx r hr)
     have := step_rowi (p := p) (c := c) (k := k) (iv := iv) (E := E) hne j
     rw [hi'] at this
     obtain ⟨a, ha⟩ := this
     rw [Int.one_mul, Int.neg_mul] at ha
     exact ⟨-a, by rw [Int.mul_neg, ← ha, Int.one_mul]; omega⟩
 · intro hx i hi
   have hrr : p ∣ sm n fun j => stepE p c r k iv E r j * x j := comb_dvd iv 0 (fun j _ => step_rowr j) (hx k hk) (hx k hk)
   by_cases hir : i = r
   · subst hir; exact hrr
   · exact comb_dvd 1 (-(E (tr r k i) c)) (fun j _ => step_rowi hir j) (hx _ (tr_lt hr hi)) hrr
theorem Inv.red (h : Inv p n m n r E ld) : Red p n E r ld :=
 ⟨h.lt, h.one, fun i k hi hk hne => h.zero i k hi (Nat.lt_of_lt_of_le hk h.le) hne, h.before, h.mono, fun i j hi hj => h.res i j (Nat.lt_of_lt_of_le hi h.le) hj⟩
theorem Inv.nul (h : Inv p n m n r E ld) (x : Nat → Int) : Nul p n E m x ↔ Nul p n E r x := by
 constructor
 · intro hx i hi; exact hx i (Nat.lt_of_lt_of_le hi h.le)
 · intro hx i hi
   rcases Nat.lt_or_ge i r with hl | hl
   · exact hx i hl
   · rw [sm_congr (g := fun _ => 0) (fun j hj => by rw [h.rest i j hl hi hj, Int.zero_mul]), sm_zero]; exact Int.dvd_zero p
end
def Gen (p : Int) (n : Nat) (N : (Nat → Int) → Prop) (K : Nat → Nat → Int) (s : Nat) : Prop :=
 (∀ k, k < s → N (K k)) ∧ ∀ x, Nul p n K s x → ∀ y, N y → p ∣ sm n fun j => x j * y j
theorem Gen.nul {p : Int} {n : Nat} {N : (Nat → Int) → Prop} {K K' : Nat → Nat → Int} {s s' : Nat} (h : Gen p n N K s) (h' : Gen p n N K' s') (x : Nat → Int) (hx : Nul p n K s x) : Nul p n K' s' x := by
 intro k hk
 have := h.2 x hx _ (h'.1 k hk)
 rw [sm_congr (g := fun j => x j * K' k j) (fun j _ => Int.mul_comm _ _)]
 exact this
theorem Red.gen {p : Int} {n r : Nat} {R : Nat → Nat → Int} {c : Nat → Nat} (h : Red p n R r c) {K : Nat → Nat → Int} {s : Nat} (at_ : Nat → Nat) (hat : ∀ k, k < s → at_ k < n)
  (hK : ∀ k, k < s → ∀ j, j < n → p ∣ K k j - nv R r c (at_ k) j) (hall : ∀ j, j < n → (∀ i, i < r → c i ≠ j) → ∃ k, k < s ∧ at_ k = j) : Gen p n (Nul p n R r) K s := by
 refine ⟨fun k hk i hi => ?_, fun x hx y hy => ?_⟩
 · have := h.nul_nv (hat k hk) i hi
   have h2 : p ∣ (sm n fun j => R i j * K k j) - sm n fun j => R i j * nv R r c (at_ k) j := sm_dvd_sub fun j hj => by
    rw [← Int.mul_sub]; exact dvd_r (hK k hk j hj) _
   have := Int.dvd_add h2 this
   rwa [Int.sub_add_cancel] at this
 · have hxj : ∀ j, j < n → p ∣ x j - sm r fun i => x (c i) * R i j := by
    intro j hj
    by_cases hl : ∀ i, i < r → c i ≠ j
    · obtain ⟨k, hk, e⟩ := hall j hj hl
      rw [← dot_nv h.lt R hj, ← e]
      have h2 : p ∣ (sm n fun l => x l * nv R r c (at_ k) l) - sm n fun l => K k l * x l := sm_dvd_sub fun l hl => by
       obtain ⟨a, ha⟩ := hK k hk l hl
       exact ⟨-(x l * a), by rw [Int.mul_neg, Int.mul_left_comm, ← ha, Int.mul_sub, Int.mul_comm (K k l)]; omega⟩
      have := Int.dvd_add h2 (hx k hk)
      rwa [Int.sub_add_cancel] at this
    · obtain ⟨i, hi, e⟩ : ∃ i, i < r ∧ c i = j := Classical.byContradiction fun hno => hl fun i hi e => hno ⟨i, hi, e⟩
      rw [sm_one hi (fun k hk hki => by rw [← e, h.zero i k hi hk hki, Int.mul_zero]), ← e, h.one i hi, Int.mul_one, Int.sub_self]
      exact Int.dvd_zero p
   have h2 : p ∣ (sm n fun j => x j * y j) - sm n fun j => sm r fun i => x (c i) * (R i j * y j) := sm_dvd_sub fun j hj => by
    have e : (fun i => x (c i) * (R i j * y j)) = fun i => y j * (x (c i) * R i j) := by funext i; rw [← Int.mul_assoc, Int.mul_comm]
    rw [e, sm_mul, Int.mul_comm (x j), ← Int.mul_sub]
    exact dvd_r (hxj j hj) _
   rw [sm_swap] at h2
   have h3 : p ∣ sm r fun i => sm n fun j => x (c i) * (R i j * y j) := sm_dvd fun i hi => by
    rw [sm_mul]; exact dvd_r (hy i hi) _
   have := Int.dvd_add h2 h3
   rwa [Int.sub_add_cancel] at this
end Go.Proofs.YtjompikdkhhlgaaGreatDoor
namespace Go.Proofs.YtjompikdkhhlgaaGreatDoor
def stepG (p : Int) (r k : Nat) (iv : Int) (f : Nat → Int) (A : Nat → Nat → Int) (i j : Nat) : Int :=
 if i = r then A k j * iv % p else (A (tr r k i) j - f i * (A k j * iv % p)) % p
theorem stepE_eq (p : Int) (c r k : Nat) (iv : Int) (E : Nat → Nat → Int) : stepE p c r k iv E = stepG p r k iv (fun i => E (tr r k i) c) E := rfl
section
variable {p : Int} {n m r k : Nat} {A : Nat → Nat → Int} {iv : Int} {f : Nat → Int}
theorem stepG_rowr (j : Nat) : p ∣ stepG p r k iv f A r j - iv * A k j := by
 unfold stepG
 rw [if_pos rfl, Int.mul_comm iv]
 exact dvd_emod_sub _ _
theorem stepG_rowi {i : Nat} (hir : i ≠ r) (j : Nat) : p ∣ stepG p r k iv f A i j - (A (tr r k i) j - f i * stepG p r k iv f A r j) := by
 have e : stepG p r k iv f A r j = A k j * iv % p := by unfold stepG; rw [if_pos rfl]
 rw [e]
 unfold stepG
 rw [if_neg hir]
 exact dvd_emod_sub _ _
def InSp (p : Int) (n : Nat) (A : Nat → Nat → Int) (m : Nat) (y : Nat → Int) : Prop := ∃ z : Nat → Int, ∀ l, l < n → p ∣ y l - sm m fun i => z i * A i l
theorem InSp.row {i : Nat} (hi : i < m) : InSp p n A m (A i) :=
 ⟨fun k => if k = i then 1 else 0, fun l _ => by rw [sm_one hi (fun k _ hk => by simp [hk])]; simp⟩
theorem InSp.comb {y y1 y2 : Nat → Int} (a b : Int) (h1 : InSp p n A m y1) (h2 : InSp p n A m y2) (h : ∀ l, l < n → p ∣ y l - (a * y1 l + b * y2 l)) : InSp p n A m y := by
 obtain ⟨z1, h1⟩ := h1
 obtain ⟨z2, h2⟩ := h2
 refine ⟨fun i => a * z1 i + b * z2 i, fun l hl => ?_⟩
 have e : (fun i => (a * z1 i + b * z2 i) * A i l) = fun i => a * (z1 i * A i l) + b * (z2 i * A i l) := by
  funext i; rw [Int.add_mul, Int.mul_assoc, Int.mul_assoc]
 rw [e, sm_add, sm_mul, sm_mul]
 obtain ⟨c, hc⟩ := h l hl
 obtain ⟨c1, hc1⟩ := h1 l hl
 obtain ⟨c2, hc2⟩ := h2 l hl
 refine ⟨c + a * c1 + b * c2, ?_⟩
 rw [Int.mul_add, Int.mul_add, Int.mul_left_comm p a, Int.mul_left_comm p b, ← hc1, ← hc2, ← hc, Int.mul_sub, Int.mul_sub]
 omega
theorem InSp.zero : InSp p n A m (fun _ => 0) := ⟨fun _ => 0, fun l _ => by
 rw [sm_congr (g := fun _ => 0) (fun i _ => Int.zero_mul _), sm_zero]; simp⟩
theorem InSp.sum {B : Nat → Nat → Int} {s : Nat} (z : Nat → Int) (h : ∀ i, i < s → InSp p n A m (B i)) : InSp p n A m (fun l => sm s fun i => z i * B i l) := by
 induction s with
 | zero => exact InSp.zero
 | succ s ih =>
   refine InSp.comb 1 (z s) (ih fun i hi => h i (by omega)) (h s (by omega)) fun l _ => ?_
   rw [sm, Int.one_mul, Int.sub_self]; exact Int.dvd_zero p
theorem InSp.trans {B : Nat → Nat → Int} {s : Nat} {y : Nat → Int} (h : InSp p n B s y) (hB : ∀ i, i < s → InSp p n A m (B i)) : InSp p n A m y := by
 obtain ⟨z, hz⟩ := h
 refine InSp.comb 1 0 (InSp.sum z hB) InSp.zero fun l hl => ?_
 rw [Int.one_mul, Int.mul_zero, Int.add_zero]; exact hz l hl
theorem stepG_span (hr : r < m) (hk : k < m) {pv : Int} (hiv : pv * iv % p = 1) {i : Nat} (hi : i < m) : InSp p n (stepG p r k iv f A) m (A i) := by
 have hR : InSp p n (stepG p r k iv f A) m (stepG p r k iv f A r) := InSp.row hr
 by_cases hik : i = k
 · subst hik
   refine InSp.comb pv 0 hR hR fun j _ => ?_
   have h2 := dvd_sub_emod p (pv * iv)
   rw [hiv] at h2
   obtain ⟨a, ha⟩ := stepG_rowr (p := p) (r := r) (k := i) (iv := iv) (f := f) (A := A) j
   obtain ⟨b, hb⟩ := h2
   have e1 : stepG p r i iv f A r j = p * a + iv * A i j := by omega
   have e2 : pv * iv = p * b + 1 := by omega
   refine ⟨-(pv * a + b * A i j), ?_⟩
   rw [e1, Int.mul_add, ← Int.mul_assoc pv iv, e2, Int.add_mul, Int.one_mul, Int.zero_mul, Int.mul_neg, Int.mul_add, Int.mul_left_comm pv p, Int.mul_assoc p b]
   omega
 · have hi' : tr r k (if i = r then k else i) = i := by
    unfold tr
    by_cases h1 : i = r
    · simp [h1]
    · simp [h1, hik]
   have hne : (if i = r then k else i) ≠ r := by
    by_cases h1 : i = r
    · simp only [h1, if_true]; omega
    · simp only [h1, if_false]; exact h1
   have hlt : (if i = r then k else i) < m := by split <;> omega
   refine InSp.comb 1 (f (if i = r then k else i)) (InSp.row hlt) hR fun j _ => ?_
   obtain ⟨a, ha⟩ := stepG_rowi (p := p) (k := k) (iv := iv) (f := f) (A := A) hne j
   rw [hi'] at ha
   exact ⟨-a, by rw [Int.mul_neg, ← ha, Int.one_mul]; omega⟩
def Makes (p : Int) (M n : Nat) (E A T : Nat → Nat → Int) : Prop := ∀ i, i < M → ∀ k, k < n → p ∣ E i k - sm M fun l => A i l * T l k
theorem Makes.step {M : Nat} {E T : Nat → Nat → Int} (h : Makes p M n E A T) (hr : r < M) (hk : k < M) : Makes p M n (stepG p r k iv f E) (stepG p r k iv f A) T := by
 have hR : ∀ q, q < n → p ∣ stepG p r k iv f E r q - sm M fun l => stepG p r k iv f A r l * T l q := by
  intro q hq
  obtain ⟨a, ha⟩ := h k hk q hq
  obtain ⟨b, hb⟩ := stepG_rowr (p := p) (r := r) (k := k) (iv := iv) (f := f) (A := E) q
  have h3 : p ∣ (sm M fun l => stepG p r k iv f A r l * T l q) - sm M fun l => iv * (A k l * T l q) := sm_dvd_sub fun l _ => by
   rw [← Int.mul_assoc, ← Int.sub_mul]; exact dvd_l (stepG_rowr l) _
  rw [sm_mul] at h3
  obtain ⟨c, hc⟩ := h3
  refine ⟨b + iv * a - c, ?_⟩
  rw [Int.mul_sub, Int.mul_add, Int.mul_left_comm p iv, ← ha, ← hb, ← hc, Int.mul_sub]
  omega
 intro i hi q hq
 by_cases hir : i = r
 · subst hir; exact hR q hq
 · obtain ⟨a, ha⟩ := h (tr r k i) (tr_lt (k := k) hr hi) q hq
   obtain ⟨b, hb⟩ := stepG_rowi (p := p) (k := k) (iv := iv) (f := f) (A := E) hir q
   obtain ⟨d, hd⟩ := hR q hq
   have h3 : p ∣ (sm M fun l => stepG p r k iv f A i l * T l q) - sm M fun l => (A (tr r k i) l * T l q - f i * (stepG p r k iv f A r l * T l q)) := sm_dvd_sub fun l _ => by
    rw [← Int.mul_assoc, ← Int.sub_mul, ← Int.sub_mul]; exact dvd_l (stepG_rowi hir l) _
   rw [sm_sub, sm_mul] at h3
   obtain ⟨c, hc⟩ := h3
   refine ⟨b + a - f i * d - c, ?_⟩
   rw [Int.mul_sub, Int.mul_sub, Int.mul_add, Int.mul_left_comm p (f i), ← ha, ← hb, ← hc, ← hd, Int.mul_sub]
   omega
theorem makes_gen {M : Nat} {E T : Nat → Nat → Int} {ld : Nat → Nat} (hI : Inv p n M n r E ld) (h : Makes p M n E A T) (hS : ∀ y, InSp p M A M y) :
  Gen p M (fun y => ∀ q, q < n → p ∣ sm M fun l => y l * T l q) (fun k => A (r + k)) (M - r) := by
 have hrM := hI.le
 refine ⟨fun k hk q hq => ?_, fun x hx y hy => ?_⟩
 · have := h (r + k) (by omega) q hq
   rw [hI.rest (r + k) q (by omega) (by omega) hq, Int.zero_sub] at this
   exact (Int.dvd_neg).1 this
 · obtain ⟨z, hz⟩ := hS y
   -- y T = 0, so z E = 0
   have hzE : ∀ q, q < n → p ∣ sm M fun i => z i * E i q := by
    intro q hq
    have h1 : p ∣ (sm M fun i => z i * E i q) - sm M fun i => sm M fun l => z i * (A i l * T l q) := sm_dvd_sub fun i hi => by
     rw [sm_mul, ← Int.mul_sub]; exact dvd_r (h i hi q hq) _
    rw [sm_swap] at h1
    have h2 : p ∣ (sm M fun l => y l * T l q) - sm M fun l => sm M fun i => z i * (A i l * T l q) := sm_dvd_sub fun l hl => by
     have e : (fun i => z i * (A i l * T l q)) = fun i => T l q * (z i * A i l) := by funext i; rw [← Int.mul_assoc, Int.mul_comm]
     rw [e, sm_mul, Int.mul_comm (y l), ← Int.mul_sub]
     exact dvd_r (hz l hl) _
    have h3 := Int.dvd_sub (hy q hq) h2
    rw [Int.sub_sub_self] at h3
    have := Int.dvd_add h1 h3
    rwa [Int.sub_add_cancel] at this
   have hz0 : ∀ i, i < r → p ∣ z i := by
    intro i hi
    have := hzE (ld i) (hI.lt i hi)
    rwa [sm_one (show i < M by omega) (fun k hk hki => by rw [hI.zero i k hi hk hki, Int.mul_zero]), hI.one i hi, Int.mul_one] at this
   have hxA : ∀ i, i < M → p ∣ z i * sm M fun l => A i l * x l := by
    intro i hi
    rcases Nat.lt_or_ge i r with hl | hl
    · exact dvd_l (hz0 i hl) _
    · have := hx (i - r) (by omega)
      simp only [show r + (i - r) = i by omega] at this
      exact dvd_r this _
   have h1 : p ∣ (sm M fun l => x l * y l) - sm M fun l => sm M fun i => z i * (A i l * x l) := sm_dvd_sub fun l hl => by
    have e : (fun i => z i * (A i l * x l)) = fun i => x l * (z i * A i l) := by funext i; rw [← Int.mul_assoc, Int.mul_comm]
    rw [e, sm_mul, ← Int.mul_sub]
    exact dvd_r (hz l hl) _
   rw [sm_swap] at h1
   have h2 : p ∣ sm M fun i => sm M fun l => z i * (A i l * x l) := sm_dvd fun i hi => by rw [sm_mul]; exact hxA i hi
   have := Int.dvd_add h1 h2
   rwa [Int.sub_add_cancel] at this
end
end Go.Proofs.YtjompikdkhhlgaaGreatDoor
namespace Go.Proofs.YtjompikdkhhlgaaGreatDoor
def en (L : List (List Int)) (i j : Nat) : Int := (L.getD i []).getD j 0
structure Mat (p : Int) (m n : Nat) (L : List (List Int)) : Prop where
 len : L.length = m
 row : ∀ v, v ∈ L → v.length = n ∧ Res p v
theorem Mat.get {p : Int} {m n : Nat} {L : List (List Int)} (h : Mat p m n L) {i : Nat} (hi : i < m) : (L.getD i []).length = n ∧ Res p (L.getD i []) := by
 have hl : i < L.length := by rw [h.len]; exact hi
 have : L.getD i [] = L[i] := by simp [List.getD, hl]
 rw [this]; exact h.row _ (List.getElem_mem hl)
theorem Mat.en {p : Int} (hp : 0 < p) {m n : Nat} {L : List (List Int)} (h : Mat p m n L) {i : Nat} (hi : i < m) (j : Nat) : 0 ≤ en L i j ∧ en L i j < p := (h.get hi).2.getD hp j
def pvFrom (L : List (List Int)) (c : Nat) : Nat → Nat → Nat
 | 0, k => k
 | f + 1, k => if en L k c = 0 then pvFrom L c f (k + 1) else k
theorem pvFrom_spec (L : List (List Int)) (c : Nat) : ∀ (f k : Nat), k ≤ pvFrom L c f k ∧ pvFrom L c f k ≤ k + f ∧ (∀ i, k ≤ i → i < pvFrom L c f k → en L i c = 0) ∧ (pvFrom L c f k < k + f → en L (pvFrom L c f k) c ≠ 0)
 | 0, k => ⟨Nat.le_refl _, Nat.le_refl _, fun i h1 h2 => by unfold pvFrom at h2; omega, fun h => by unfold pvFrom at h; omega⟩
 | f + 1, k => by
   rw [pvFrom]
   split
   · rename_i h0
     obtain ⟨h1, h2, h3, h4⟩ := pvFrom_spec L c f (k + 1)
     refine ⟨by omega, by omega, fun i hi hlt => ?_, fun h => h4 (by omega)⟩
     rcases Nat.lt_or_ge k i with hk | hk
     · exact h3 i (by omega) hlt
     · obtain rfl : i = k := by omega
       exact h0
   · rename_i h0
     exact ⟨Nat.le_refl _, by omega, fun i hi hlt => by omega, fun _ => h0⟩
def swapL (L : List (List Int)) (r k : Nat) : List (List Int) := (L.set r (L.getD k [])).set k (L.getD r [])
def scaleV (p iv : Int) (v : List Int) : List Int := v.map fun a => a * iv % p
def scaleL (p : Int) (r : Nat) (iv : Int) (L : List (List Int)) : List (List Int) := L.set r (scaleV p iv (L.getD r []))
def elimTo (p : Int) (r : Nat) (f : Nat → Int) (L : List (List Int)) (q : Nat) : List (List Int) :=
 (List.range L.length).map fun i => if i < q ∧ i ≠ r ∧ f i ≠ 0 then addT p (L.getD i []) (-(f i)) (L.getD r []) else L.getD i []
theorem getD_set {α : Type} (L : List α) (i k : Nat) (x d : α) (hi : i < L.length) : (L.set i x).getD k d = if k = i then x else L.getD k d := by
 by_cases h : k = i
 · subst h; simp [List.getD, hi]
 · rw [if_neg h]; simp [List.getD, List.getElem?_set_ne (Ne.symm h)]
@[simp] theorem swapL_length (L : List (List Int)) (r k : Nat) : (swapL L r k).length = L.length := by simp [swapL]
theorem swapL_get {L : List (List Int)} {r k : Nat} (hr : r < L.length) (hk : k < L.length) (i : Nat) : (swapL L r k).getD i [] = if i = k then L.getD r [] else if i = r then L.getD k [] else L.getD i [] := by
 unfold swapL
 rw [getD_set _ _ _ _ _ (by rw [List.length_set]; exact hk)]
 split
 · rfl
 · exact getD_set _ _ _ _ _ hr
@[simp] theorem scaleL_length (p : Int) (r : Nat) (iv : Int) (L : List (List Int)) : (scaleL p r iv L).length = L.length := by simp [scaleL]
theorem scaleL_get {p : Int} {r : Nat} {iv : Int} {L : List (List Int)} (hr : r < L.length) (i : Nat) : (scaleL p r iv L).getD i [] = if i = r then scaleV p iv (L.getD r []) else L.getD i [] := getD_set _ _ _ _ _ hr
@[simp] theorem elimTo_length (p : Int) (r : Nat) (f : Nat → Int) (L : List (List Int)) (q : Nat) : (elimTo p r f L q).length = L.length := by simp [elimTo]
theorem elimTo_get {p : Int} {r : Nat} {f : Nat → Int} {L : List (List Int)} {q i : Nat} (hi : i < L.length) : (elimTo p r f L q).getD i [] = if i < q ∧ i ≠ r ∧ f i ≠ 0 then addT p (L.getD i []) (-(f i)) (L.getD r []) else L.getD i [] := by
 simp [elimTo, List.getD, hi]
theorem scaleV_get (p iv : Int) (v : List Int) (j : Nat) : (scaleV p iv v).getD j 0 = v.getD j 0 * iv % p := by
 unfold scaleV
 by_cases h : j < v.length
 · simp [List.getD, h]
 · simp [List.getD, h]
def colStep (p : Int) (c : Nat) (s : Nat × List (List Int) × List (List Int)) : Nat × List (List Int) × List (List Int) :=
 if pvFrom s.2.1 c (s.2.1.length - s.1) s.1 < s.2.1.length then
  let k := pvFrom s.2.1 c (s.2.1.length - s.1) s.1
  let iv := invM p (en s.2.1 k c)
  let L2 := scaleL p s.1 iv (swapL s.2.1 s.1 k)
  (s.1 + 1, elimTo p s.1 (fun i => en L2 i c) L2 L2.length, elimTo p s.1 (fun i => en L2 i c) (scaleL p s.1 iv (swapL s.2.2 s.1 k)) s.2.2.length)
 else s
def redTo (p : Int) (L A : List (List Int)) : Nat → Nat × List (List Int) × List (List Int)
 | 0 => (0, L, A)
 | c + 1 => colStep p c (redTo p L A c)
def redM (p : Int) (n : Nat) (L : List (List Int)) : List (List Int) := (redTo p L [] n).2.1.take (redTo p L [] n).1
end Go.Proofs.YtjompikdkhhlgaaGreatDoor
namespace Go.Proofs.YtjompikdkhhlgaaGreatDoor
theorem stepG_congr {p : Int} {r k : Nat} {iv : Int} {f g : Nat → Int} {A B : Nat → Nat → Int} {m n : Nat} (hr : r < m) (hk : k < m) (hf : ∀ i, i ≠ r → f i = g i) (hA : ∀ i j, i < m → j < n → A i j = B i j) {i j : Nat} (hi : i < m) (hj : j < n) :
  stepG p r k iv f A i j = stepG p r k iv g B i j := by
 unfold stepG
 split
 · rw [hA k j hk hj]
 · rename_i h
   rw [hA k j hk hj, hA _ j (tr_lt hr hi) hj, hf i h]
theorem Inv.congr {p : Int} {n m c r : Nat} {E F : Nat → Nat → Int} {ld : Nat → Nat} (h : Inv p n m c r E ld) (hc : c ≤ n) (he : ∀ i j, i < m → j < n → E i j = F i j) : Inv p n m c r F ld := by
 have hle := h.le
 exact ⟨h.le, h.lt, fun i hi => by have := h.lt i hi; rw [← he i _ (by omega) (by omega)]; exact h.one i hi,
  fun i k hi hk hne => by have := h.lt i hi; rw [← he k _ hk (by omega)]; exact h.zero i k hi hk hne,
  fun i j hi hj => by have := h.lt i hi; rw [← he i j (by omega) (by omega)]; exact h.before i j hi hj, h.mono,
  fun k j hk hm hj => by rw [← he k j hm (by omega)]; exact h.rest k j hk hm hj,
  fun i j hi hj => by rw [← he i j hi hj]; exact h.res i j hi hj⟩
theorem Nul.congr {p : Int} {n m : Nat} {E F : Nat → Nat → Int} (he : ∀ i j, i < m → j < n → E i j = F i j) (x : Nat → Int) : Nul p n E m x ↔ Nul p n F m x := by
 constructor
 · intro h i hi; rw [sm_congr (g := fun j => E i j * x j) (fun j hj => by rw [he i j hi hj])]; exact h i hi
 · intro h i hi; rw [sm_congr (g := fun j => F i j * x j) (fun j hj => by rw [he i j hi hj])]; exact h i hi
theorem Makes.congr {p : Int} {M n : Nat} {E E' A A' T : Nat → Nat → Int} (h : Makes p M n E A T) (he : ∀ i j, i < M → j < n → E i j = E' i j) (ha : ∀ i j, i < M → j < M → A i j = A' i j) : Makes p M n E' A' T := by
 intro i hi k hk
 rw [← he i k hi hk, sm_congr (g := fun l => A i l * T l k) (fun l hl => by rw [ha i l hi hl])]
 exact h i hi k hk
theorem InSp.congr {p : Int} {n m : Nat} {A B : Nat → Nat → Int} (h : ∀ i j, i < m → j < n → A i j = B i j) {y : Nat → Int} (hy : InSp p n A m y) : InSp p n B m y := by
 obtain ⟨z, hz⟩ := hy
 exact ⟨z, fun l hl => by rw [sm_congr (g := fun i => z i * A i l) (fun i hi => by rw [h i l hi hl])]; exact hz l hl⟩
theorem scaleV_res {p iv : Int} (hp : 0 < p) (v : List Int) : Res p (scaleV p iv v) := by
 intro x hx
 simp only [scaleV, List.mem_map] at hx
 obtain ⟨a, _, rfl⟩ := hx
 exact ⟨Int.emod_nonneg _ (by omega), Int.emod_lt_of_pos _ hp⟩
theorem Mat.of_get {p : Int} {m n : Nat} {L : List (List Int)} (hl : L.length = m) (h : ∀ i, i < m → (L.getD i []).length = n ∧ Res p (L.getD i [])) : Mat p m n L := by
 refine ⟨hl, fun v hv => ?_⟩
 obtain ⟨i, hi, rfl⟩ := List.getElem_of_mem hv
 have := h i (by omega)
 simpa [List.getD, hi] using this
theorem step_en {p : Int} (hp : 0 < p) {m n r k : Nat} {L : List (List Int)} (h : Mat p m n L) (hr : r < m) (hk : k < m) (iv : Int) (f : Nat → Int) :
  Mat p m n (elimTo p r f (scaleL p r iv (swapL L r k)) m) ∧ ∀ i j, i < m → j < n → en (elimTo p r f (scaleL p r iv (swapL L r k)) m) i j = stepG p r k iv f (en L) i j := by
 have hl := h.len
 have l1 : r < (swapL L r k).length := by rw [swapL_length]; omega
 have g1 : ∀ i, i ≠ r → (swapL L r k).getD i [] = L.getD (tr r k i) [] := by
  intro i hi
  rw [swapL_get (by omega) (by omega)]
  unfold tr
  split
  · rfl
  · first | rfl | rw [if_neg hi]
 have g2 : (swapL L r k).getD r [] = L.getD k [] := by
  rw [swapL_get (by omega) (by omega)]
  split
  · rename_i e; rw [e]
  · rw [if_pos rfl]
 have s1 : ∀ i, i ≠ r → (scaleL p r iv (swapL L r k)).getD i [] = L.getD (tr r k i) [] := by
  intro i hi; rw [scaleL_get l1, if_neg hi, g1 i hi]
 have s2 : (scaleL p r iv (swapL L r k)).getD r [] = scaleV p iv (L.getD k []) := by rw [scaleL_get l1, if_pos rfl, g2]
 have hsl : (scaleL p r iv (swapL L r k)).length = m := by rw [scaleL_length, swapL_length, hl]
 have hrow := (h.get hk).1
 have hsv : (scaleV p iv (L.getD k [])).length = n := by unfold scaleV; rw [List.length_map]; exact hrow
 constructor
 · refine Mat.of_get (by rw [elimTo_length, hsl]) fun i hi => ?_
   rw [elimTo_get (by omega)]
   by_cases hir : i = r
   · subst hir
     rw [if_neg (by simp), s2]
     exact ⟨hsv, scaleV_res hp _⟩
   · have h3 := h.get (tr_lt (k := k) hr hi)
     rw [s1 i hir, s2]
     split
     · exact ⟨by rw [addT_length]; exact h3.1, Res.addT hp h3.2⟩
     · exact h3
 · intro i j hi hj
   show ((elimTo p r f (scaleL p r iv (swapL L r k)) m).getD i []).getD j 0 = _
   rw [elimTo_get (by omega)]
   unfold stepG
   by_cases hir : i = r
   · subst hir
     rw [if_neg (by simp), s2, if_pos rfl, scaleV_get]; rfl
   · have h3 := h.get (tr_lt (k := k) hr hi)
     rw [s1 i hir, s2, if_neg hir]
     by_cases hf : f i = 0
     · rw [if_neg (by simp [hf]), hf, Int.zero_mul, Int.sub_zero]
       have := h.en hp (tr_lt (k := k) hr hi) j
       exact (Int.emod_eq_of_lt this.1 this.2).symm
     · rw [if_pos ⟨hi, hir, hf⟩, addT_getD, if_pos (by rw [h3.1]; exact hj), if_pos (by rw [hsv]; exact hj), scaleV_get, Int.neg_mul, ← Int.sub_eq_add_neg]; rfl
structure RInv (p : Int) (m n c : Nat) (L0 : List (List Int)) (s : Nat × List (List Int) × List (List Int)) (ld : Nat → Nat) : Prop where
 mat : Mat p m n s.2.1
 inv : Inv p n m c s.1 (en s.2.1) ld
 nul : ∀ x, Nul p n (en s.2.1) m x ↔ Nul p n (en L0) m x
theorem colStep_cases {p : Int} (hp : fieldB p = true) {m n c : Nat} (_hc : c < n) {s : Nat × List (List Int) × List (List Int)} (hm : Mat p m n s.2.1) (hs : s.1 ≤ m) :
  (colStep p c s = s ∧ ∀ k, s.1 ≤ k → k < m → en s.2.1 k c = 0) ∨
  ∃ k iv, s.1 ≤ k ∧ k < m ∧ en s.2.1 k c * iv % p = 1 ∧ (colStep p c s).1 = s.1 + 1 ∧ Mat p m n (colStep p c s).2.1 ∧ (∀ i j, i < m → j < n → en (colStep p c s).2.1 i j = stepE p c s.1 k iv (en s.2.1) i j) ∧
    (colStep p c s).2.2 = elimTo p s.1 (fun i => en (scaleL p s.1 iv (swapL s.2.1 s.1 k)) i c) (scaleL p s.1 iv (swapL s.2.2 s.1 k)) s.2.2.length ∧ ∀ i, i ≠ s.1 → en (scaleL p s.1 iv (swapL s.2.1 s.1 k)) i c = en s.2.1 (tr s.1 k i) c := by
 have hpb := fieldB_bounds hp
 obtain ⟨r, L, A⟩ := s
 have hl : L.length = m := hm.len
 have hrm : r ≤ m := hs
 obtain ⟨p1, p2, p3, p4⟩ := pvFrom_spec L c (L.length - r) r
 unfold colStep
 simp only
 split
 · rename_i hlt
   right
   obtain ⟨k, hk⟩ : ∃ k, k = pvFrom L c (L.length - r) r := ⟨_, rfl⟩
   rw [← hk] at p1 p2 p3 p4 hlt ⊢
   have hne := p4 (by omega)
   have hb := hm.en (by omega) (show k < m by omega) c
   have hiv := invM_spec hp (a := en L k c) (by show 1 ≤ en L k c; have : 0 ≤ en L k c := hb.1; omega) hb.2
   have hse := step_en (p := p) (by omega) hm (r := r) (k := k) (by omega) (by omega) (invM p (en L k c)) (fun i => en (scaleL p r (invM p (en L k c)) (swapL L r k)) i c)
   have hsl : (scaleL p r (invM p (en L k c)) (swapL L r k)).length = m := by rw [scaleL_length, swapL_length]; exact hl
   have hcoef : ∀ i, i ≠ r → en (scaleL p r (invM p (en L k c)) (swapL L r k)) i c = en L (tr r k i) c := by
    intro i hi
    unfold en
    rw [scaleL_get (by rw [swapL_length]; omega), if_neg hi, swapL_get (by omega) (by omega)]
    unfold tr
    split
    · rfl
    · first | rfl | rw [if_neg hi]
   refine ⟨k, invM p (en L k c), p1, by omega, hiv.1, rfl, ?_, ?_, rfl, hcoef⟩
   · rw [hsl]; exact hse.1
   · intro i j hi hj
     rw [hsl, hse.2 i j hi hj, stepE_eq]
     exact stepG_congr (by omega) (by omega) hcoef (fun _ _ _ _ => rfl) hi hj
 · rename_i hlt
   left
   exact ⟨rfl, fun k h1 h2 => p3 k h1 (by omega)⟩
theorem RInv.next {p : Int} (hp : fieldB p = true) {m n c : Nat} (hc : c < n) {L0 : List (List Int)} {s : Nat × List (List Int) × List (List Int)} {ld : Nat → Nat} (h : RInv p m n c L0 s ld) : ∃ ld', RInv p m n (c + 1) L0 (colStep p c s) ld' := by
 have hpb := fieldB_bounds hp
 rcases colStep_cases hp hc h.mat h.inv.le with ⟨e, hz⟩ | ⟨k, iv, h1, h2, h3, h4, h5, h6, _⟩
 · rw [e]; exact ⟨ld, h.mat, h.inv.skip hz, h.nul⟩
 · refine ⟨fun i => if i < s.1 then ld i else c, h5, ?_, fun x => ?_⟩
   · rw [h4]
     exact (h.inv.step (by omega) hc h1 h2 h3).congr (by omega) fun i j hi hj => (h6 i j hi hj).symm
   · rw [Nul.congr h6 x, step_nul (by omega) h2 h3 x]; exact h.nul x
theorem redTo_inv {p : Int} (hp : fieldB p = true) {m n : Nat} {L : List (List Int)} (hm : Mat p m n L) (A : List (List Int)) : ∀ c, c ≤ n → ∃ ld, RInv p m n c L (redTo p L A c) ld
 | 0, _ => ⟨fun _ => 0, hm, Inv.start (fun i j hi _ => hm.en (by have := fieldB_bounds hp; omega) hi j) _, fun _ => Iff.rfl⟩
 | c + 1, hc => by
   obtain ⟨ld, h⟩ := redTo_inv hp hm A c (by omega)
   exact h.next hp (by omega)
theorem redTo_fst (p : Int) (L A B : List (List Int)) : ∀ c, (redTo p L A c).1 = (redTo p L B c).1 ∧ (redTo p L A c).2.1 = (redTo p L B c).2.1
 | 0 => ⟨rfl, rfl⟩
 | c + 1 => by
   obtain ⟨h1, h2⟩ := redTo_fst p L A B c
   simp only [redTo, colStep]
   rw [h1, h2]
   split <;> exact ⟨by simp [h1], by simp [h2]⟩
theorem en_take {L : List (List Int)} {r i : Nat} (hi : i < r) (j : Nat) : en (L.take r) i j = en L i j := by
 unfold en
 congr 1
 simp [List.getD, hi]
def RedL (p : Int) (n : Nat) (R : List (List Int)) : Prop := Mat p R.length n R ∧ ∃ ld, Red p n (en R) R.length ld
def NulL (p : Int) (n : Nat) (L : List (List Int)) (x : Nat → Int) : Prop := Nul p n (en L) L.length x
theorem redM_spec {p : Int} (hp : fieldB p = true) {n : Nat} {L : List (List Int)} (hm : Mat p L.length n L) : RedL p n (redM p n L) ∧ (∀ x, NulL p n (redM p n L) x ↔ NulL p n L x) ∧ (redM p n L).length ≤ L.length := by
 obtain ⟨ld, h⟩ := redTo_inv hp hm [] n (Nat.le_refl _)
 have hle := h.inv.le
 have hlen : (redM p n L).length = (redTo p L [] n).1 := by
  unfold redM; rw [List.length_take, h.mat.len]; omega
 have he : ∀ i j, i < (redTo p L [] n).1 → j < n → en (redTo p L [] n).2.1 i j = en (redM p n L) i j := fun i j hi _ => (en_take hi j).symm
 refine ⟨⟨⟨rfl, fun v hv => h.mat.row v (List.mem_of_mem_take hv)⟩, ld, ?_⟩, fun x => ?_, by rw [hlen]; exact hle⟩
 · rw [hlen]
   have hr := h.inv.red
   exact ⟨hr.lt, fun i hi => by rw [← he i _ hi (hr.lt i hi)]; exact hr.one i hi, fun i k hi hk hne => by rw [← he k _ hk (hr.lt i hi)]; exact hr.zero i k hi hk hne,
    fun i j hi hj => by rw [← he i j hi (by have := hr.lt i hi; omega)]; exact hr.before i j hi hj, hr.mono, fun i j hi hj => by rw [← he i j hi hj]; exact hr.res i j hi hj⟩
 · unfold NulL
   rw [hlen, ← Nul.congr he x, ← h.inv.nul x]
   exact h.nul x
theorem RedL.unique {p : Int} (hp : 1 < p) {n : Nat} {R T : List (List Int)} (h : RedL p n R) (h' : RedL p n T) (hN : ∀ x, NulL p n R x ↔ NulL p n T x) : R = T := by
 obtain ⟨m1, c, h1⟩ := h
 obtain ⟨m2, d, h2⟩ := h'
 obtain ⟨e1, e2⟩ := h1.unique hp h2 hN
 apply List.ext_getElem e1
 intro i hi hi'
 have r1 := m1.row _ (List.getElem_mem hi)
 have r2 := m2.row _ (List.getElem_mem hi')
 apply List.ext_getElem (by rw [r1.1, r2.1])
 intro j hj hj'
 have := e2 i j hi (by rw [← r1.1]; exact hj)
 simpa [en, List.getD, hi, hi', hj, hj'] using this
open Go.RowKit
section
variable {w w' : World} {A : Option Addr} {cap : Nat} {hs : List Hd}
theorem OwR.get (h : OwR w A cap hs) {i : Nat} (hi : i < hs.length) : ∃ ad B c l, A = some ad ∧ hs[i]? = some (B, c, l) ∧ w.cell? (ad.add i) = some (.slice B l.length c) ∧ w.frozen? (ad.add i) = false ∧ IS w B c l := by
 obtain ⟨x, hx⟩ : ∃ x, hs[i]? = some x := ⟨_, List.getElem?_eq_getElem hi⟩
 obtain ⟨B, c, l⟩ := x
 obtain ⟨ad, hA, _, hc, hf⟩ := h.sl.cell (j := i) (u := Hd.val (B, c, l)) (by simp [hx])
 exact ⟨ad, B, c, l, hA, hx, hc, hf i, h.rows _ (List.mem_of_getElem? hx)⟩
theorem OwR.apart_get (h : OwR w A cap hs) {i k : Nat} {x y : Hd} (hi : hs[i]? = some x) (hk : hs[k]? = some y) (hne : i ≠ k) : ∀ b, b ∈ fpA x.1 → ¬ b ∈ fpA y.1 := by
 have hil := (List.getElem?_eq_some_iff.1 hi).1
 have hkl := (List.getElem?_eq_some_iff.1 hk).1
 have hp := List.pairwise_iff_getElem.1 h.apart
 have e1 : hs[i] = x := by rw [List.getElem?_eq_getElem hil] at hi; exact Option.some.inj hi
 have e2 : hs[k] = y := by rw [List.getElem?_eq_getElem hkl] at hk; exact Option.some.inj hk
 intro b hb hb'
 rcases Nat.lt_or_ge i k with hlt | hge
 · have := hp i k hil hkl hlt b; rw [e1, e2] at this; exact this hb hb'
 · have := hp k i hkl hil (by omega) b; rw [e1, e2] at this; exact this hb' hb
theorem OwR.wr (h : OwR w A cap hs) {i : Nat} {B : Option Addr} {c : Nat} {l l' : List Int} (hi : hs[i]? = some (B, c, l)) (hw : Wr w w' B (ints l')) (hl : l'.length = l.length) : OwR w' A cap (hs.set i (B, c, l')) := by
 have hil := (List.getElem?_eq_some_iff.1 hi).1
 have hm := List.mem_of_getElem? hi
 have hsetm : (hs.set i (B, c, l')).map Hd.val = hs.map Hd.val := by
  rw [List.map_set]
  have : Hd.val (B, c, l') = Hd.val (B, c, l) := by simp [Hd.val, hl]
  rw [this]
  apply List.ext_getElem?
  intro k
  rw [List.getElem?_set]
  split
  · rename_i hk; subst hk
    rw [List.getElem?_map, hi]
    simp [hil]
  · rfl
 have hmem : ∀ x, x ∈ hs.set i (B, c, l') → ∃ y : Hd, y ∈ hs ∧ y.1 = x.1 := by
  intro x hx
  rcases List.mem_or_eq_of_mem_set hx with hx | hx
  · exact ⟨x, hx, rfl⟩
  · exact ⟨_, hm, by rw [hx]⟩
 have hget : ∀ (k : Nat) (x : Hd), (hs.set i (B, c, l'))[k]? = some x → ∃ y : Hd, hs[k]? = some y ∧ y.1 = x.1 := by
  intro k x hx
  rw [List.getElem?_set] at hx
  split at hx
  · rename_i hk; subst hk
    simp at hx
    exact ⟨_, hi, by rw [← hx]⟩
  · exact ⟨x, hx, rfl⟩
 refine ⟨?_, fun x hx => ?_, ?_, fun x hx => ?_⟩
 · rw [List.length_set, hsetm]
   exact h.sl.keeps hw.1 fun b hb hb' => h.outer _ hm b hb' hb
 · obtain ⟨k, hk⟩ := List.mem_iff_getElem?.1 hx
   rw [List.getElem?_set] at hk
   split at hk
   · rename_i hik; subst hik
     simp at hk
     subst hk
     have h0 := h.rows _ hm
     have := hw.sl h0 (by simp [hl])
     unfold IS
     rw [show (B, c, l').2.2.length = l.length from hl]
     exact this
   · rename_i hik
     exact (h.rows x (List.mem_of_getElem? hk)).keeps hw.1 fun b hb hb' => h.apart_get hi hk hik b hb' hb
 · refine List.pairwise_iff_getElem.2 fun a b ha hb hab => ?_
   obtain ⟨x, hx, ex⟩ := hget a _ (List.getElem?_eq_getElem ha)
   obtain ⟨y, hy, ey⟩ := hget b _ (List.getElem?_eq_getElem hb)
   rw [← ex, ← ey]
   exact h.apart_get hx hy (by omega)
 · obtain ⟨y, hy, e⟩ := hmem x hx
   rw [← e]; exact h.outer y hy
theorem IS.wr1 {B : Option Addr} {c : Nat} {l : List Int} (h : IS w B c l) {ad : Addr} (hA : B = some ad) {j : Nat} (hj : j < l.length) (x : Int) : Wr w (w.setCell (ad.add j) (.int .i64 x)) B (ints (l.set j x)) := by
 have h0 : Wr w w B (ints l) := Wr.start h
 have := h0.set hA (j := j) (by simpa using hj) (.int .i64 x)
 rwa [ints_set] at this
def swapH (hs : List Hd) (r k : Nat) (hr : r < hs.length) (hk : k < hs.length) : List Hd := (hs.set r hs[k]).set k hs[r]
theorem swapH_perm {r k : Nat} (hr : r < hs.length) (hk : k < hs.length) : (swapH hs r k hr hk).Perm hs := by
 unfold swapH
 exact List.set_set_perm hr hk
theorem swapH_map {r k : Nat} (hr : r < hs.length) (hk : k < hs.length) : (swapH hs r k hr hk).map (fun h : Hd => h.2.2) = swapL (hs.map fun h : Hd => h.2.2) r k := by
 unfold swapH swapL
 rw [List.map_set, List.map_set]
 simp [List.getD, hr, hk]
theorem OwR.swap (h : OwR w A cap hs) {r k : Nat} (hr : r < hs.length) (hk : k < hs.length) {ad : Addr} (hA : A = some ad) :
  OwR ((w.setCell (ad.add r) hs[k].val).setCell (ad.add k) hs[r].val) A cap (swapH hs r k hr hk) := by
 have hp := swapH_perm hr hk
 have hkp : Keeps (· ∈ fpA A) w ((w.setCell (ad.add r) hs[k].val).setCell (ad.add k) hs[r].val) :=
  ((Keeps.refl _ w).setCell (p := ad.add r) (by rw [block_of_add, hA]; simp) _).setCell (p := ad.add k) (by rw [block_of_add, hA]; simp) _
 refine ⟨?_, fun x hx => ?_, ?_, fun x hx => h.outer x (hp.mem_iff.1 hx)⟩
 · have h1 := (h.sl.set hA r hs[k].val (by simpa using hr)).set hA k hs[r].val (by simpa using hk)
   rw [← List.map_set, ← List.map_set] at h1
   have : (swapH hs r k hr hk).length = hs.length := by simp [swapH]
   rw [this]; exact h1
 · have hx' := hp.mem_iff.1 hx
   exact (h.rows x hx').keeps hkp fun b hb => h.outer x hx' b hb
 · exact (hp.pairwise_iff (fun {x y} hxy b hb hb' => hxy b hb' hb)).2 h.apart
theorem OwR.snoc {w1 w2 : World} (h : OwR w A cap hs) (hb : Below w.heap.size w w1) {x : Hd} (hx : IS w1 x.1 x.2.1 x.2.2) (hf : Fresh w.heap.size x.1)
  {A' : Option Addr} {cap' : Nat} (hs' : Sl w2 23 1 A' (hs.length + 1) cap' (hs.map Hd.val ++ [x.val])) (hA' : ∀ b, b ∈ fpA A' → b ∈ fpA A ∨ w1.heap.size ≤ b) (hk : Keeps (· ∈ fpA A) w1 w2) : OwR w2 A' cap' (hs ++ [x]) := by
 have hrows : ∀ y, y ∈ hs → (∀ b, b ∈ fpA y.1 → b < w.heap.size) := fun y hy b hb' => (h.rows y hy).lt b hb'
 refine ⟨by simpa using hs', fun y hy => ?_, ?_, fun y hy b hb' hb'' => ?_⟩
 · rcases List.mem_append.1 hy with hy | hy
   · exact ((h.rows y hy).below hb).keeps hk fun b hb' => h.outer y hy b hb'
   · obtain rfl := List.mem_singleton.1 hy
     exact hx.keeps hk fun b hb' hb'' => by
      have := hf b hb'
      have := h.sl.lt b hb''
      omega
 · refine List.pairwise_append.2 ⟨h.apart, List.pairwise_singleton _ _, fun y hy z hz b hb1 hb2 => ?_⟩
   obtain rfl := List.mem_singleton.1 hz
   have := hrows y hy b hb1
   have := hf b hb2
   omega
 · rcases List.mem_append.1 hy with hy | hy
   · rcases hA' b hb'' with h1 | h1
     · exact h.outer y hy b hb' h1
     · have := hrows y hy b hb'
       have := hb.size
       omega
   · obtain rfl := List.mem_singleton.1 hy
     rcases hA' b hb'' with h1 | h1
     · have := hf b hb'
       have := h.sl.lt b h1
       omega
     · have := hx.lt b hb'
       omega
theorem OwR.take {k m : Nat} (h : OwR w A cap hs) (hk : k ≤ hs.length) {A' : Option Addr} (hsl : Sl w 23 1 A' k m ((hs.take k).map Hd.val)) (hfp : ∀ b, b ∈ fpA A' → b ∈ fpA A) : OwR w A' m (hs.take k) := by
 refine ⟨by rw [List.length_take, Nat.min_eq_left hk]; exact hsl, fun x hx => h.rows x (List.mem_of_mem_take hx), h.apart.sublist (List.take_sublist _ _), fun x hx b hb hb' => h.outer x (List.mem_of_mem_take hx) b hb (hfp b hb')⟩
end
theorem OwR.nil (w : World) : OwR w none 0 [] := ⟨Sl.nil _ _ _, fun h hh => (by cases hh), .nil, fun h hh => (by cases hh)⟩
theorem fpR_snoc (hs : List Hd) (x : Hd) : ∀ b, b ∈ fpR (hs ++ [x]) → b ∈ fpR hs ∨ b ∈ fpA x.1 := by
 intro b hb
 obtain ⟨y, hy, hy2⟩ := mem_fpR.1 hb
 rcases List.mem_append.1 hy with hy | hy
 · exact .inl (mem_fpR.2 ⟨y, hy, hy2⟩)
 · have e := List.mem_singleton.1 hy
   subst e; exact .inr hy2
theorem fpR_set {hs : List Hd} {i : Nat} {B : Option Addr} {c : Nat} {l l' : List Int} (hi : hs[i]? = some (B, c, l)) : ∀ b, b ∈ fpR (hs.set i (B, c, l')) → b ∈ fpR hs := by
 intro b hb
 obtain ⟨y, hy, hb⟩ := mem_fpR.1 hb
 rcases List.mem_or_eq_of_mem_set hy with hy | hy
 · exact mem_fpR.2 ⟨y, hy, hb⟩
 · subst hy; exact mem_fpR.2 ⟨_, List.mem_of_getElem? hi, hb⟩
theorem fpR_perm {hs gs : List Hd} (h : gs.Perm hs) : ∀ b, b ∈ fpR gs → b ∈ fpR hs := by
 intro b hb
 obtain ⟨y, hy, hb⟩ := mem_fpR.1 hb
 exact mem_fpR.2 ⟨y, h.mem_iff.1 hy, hb⟩
theorem fpR_take {hs : List Hd} {k : Nat} : ∀ b, b ∈ fpR (hs.take k) → b ∈ fpR hs := by
 intro b hb
 obtain ⟨y, hy, hb⟩ := mem_fpR.1 hb
 exact mem_fpR.2 ⟨y, List.mem_of_mem_take hy, hb⟩
def OM (w0 w : World) (A : Option Addr) (cap : Nat) (L : List (List Int)) : Prop :=
 ∃ hs : List Hd, L = hs.map (fun h : Hd => h.2.2) ∧ OwR w A cap hs ∧ (∀ b, b ∈ fpA A ++ fpR hs → w0.heap.size ≤ b) ∧ Below w0.heap.size w0 w
section
variable {w0 w w' : World} {A : Option Addr} {cap : Nat} {L : List (List Int)}
theorem OM.below_ (h : OM w0 w A cap L) : Below w0.heap.size w0 w := by obtain ⟨_, _, _, _, h⟩ := h; exact h
theorem OM.size (h : OM w0 w A cap L) : w0.heap.size ≤ w.heap.size := h.below_.size
theorem OM.nil (w : World) : OM w w none 0 [] := ⟨[], rfl, OwR.nil w, fun b hb => by simp [fpR] at hb, Below.refl _ _⟩
theorem OM.below (h : OM w0 w A cap L) (hb : Below w.heap.size w w') : OM w0 w' A cap L := by
 obtain ⟨hs, hL, hO, hf, h0⟩ := h
 exact ⟨hs, hL, hO.below hb, hf, below_trans h0 hb h0.size⟩
theorem OM.drew (h : OM w0 w A cap L) : OM w0 w.drew A cap L := h.below (below_drewN (Below.refl _ _) 1)
theorem OM.drewN (h : OM w0 w A cap L) (n : Nat) : OM w0 (w.drewN n) A cap L := h.below (below_drewN (Below.refl _ _) n)
theorem getD_map_hd {hs : List Hd} {i : Nat} {B : Option Addr} {c : Nat} {l : List Int} (h : hs[i]? = some (B, c, l)) : (hs.map (fun h : Hd => h.2.2)).getD i [] = l := by simp [List.getD, h]
theorem OM.get (h : OM w0 w A cap L) {i : Nat} (hi : i < L.length) : ∃ ad B c, A = some ad ∧ w.cell? (ad.add i) = some (.slice B (L.getD i []).length c) ∧ w.frozen? (ad.add i) = false ∧ IS w B c (L.getD i []) := by
 obtain ⟨hs, rfl, hO, hf, h0⟩ := h
 obtain ⟨ad, B, c, l, hA, hx, hc, hz, hi'⟩ := hO.get (i := i) (by simpa using hi)
 rw [getD_map_hd hx]
 exact ⟨ad, B, c, hA, hc, hz, hi'⟩
theorem OM.wr (h : OM w0 w A cap L) {i : Nat} (hi : i < L.length) {ad : Addr} (hA : A = some ad) {B : Option Addr} {n c : Nat} (hc : w.cell? (ad.add i) = some (.slice B n c)) {l' : List Int} (hl : l'.length = (L.getD i []).length) (hw : Wr w w' B (ints l')) : OM w0 w' A cap (L.set i l') := by
 obtain ⟨hs, rfl, hO, hf, h0⟩ := h
 obtain ⟨ad', B', c', l, hA', hx, hc', hz, hi'⟩ := hO.get (i := i) (by simpa using hi)
 rw [hA] at hA'
 obtain rfl := Option.some.inj hA'
 rw [hc] at hc'
 injection hc' with hc'
 injection hc' with e1 e2 e3
 subst e1
 rw [getD_map_hd hx] at hl
 have hm := List.mem_of_getElem? hx
 refine ⟨hs.set i (B, c', l'), by rw [List.map_set], hO.wr hx hw hl, fun b hb => ?_, ?_⟩
 · rcases List.mem_append.1 hb with hb | hb
   · exact hf b (List.mem_append_left _ hb)
   · exact hf b (List.mem_append_right _ (fpR_set hx b hb))
 · exact below_keeps h0 hw.1 h0.size fun b hb => hf b (List.mem_append_right _ (mem_fpR.2 ⟨_, hm, hb⟩))
theorem OM.set (h : OM w0 w A cap L) {i : Nat} (hi : i < L.length) {ad : Addr} (hA : A = some ad) {bd : Addr} {n c : Nat} (hc : w.cell? (ad.add i) = some (.slice (some bd) n c)) {j : Nat} (hj : j < (L.getD i []).length) (x : Int) :
  OM w0 (w.setCell (bd.add j) (.int .i64 x)) A cap (L.set i ((L.getD i []).set j x)) := by
 obtain ⟨ad', B, c', hA', hc', _, hI⟩ := h.get hi
 rw [hA] at hA'
 obtain rfl := Option.some.inj hA'
 have hc2 := hc'
 rw [hc] at hc2
 injection hc2 with hc2
 injection hc2 with e1 e2 e3
 exact h.wr hi hA hc (by simp) (IS.wr1 (e1 ▸ hI) rfl hj x)
theorem OM.swap (h : OM w0 w A cap L) {r k : Nat} (hr : r < L.length) (hk : k < L.length) {ad : Addr} (hA : A = some ad) {V U : Value} (hV : w.cell? (ad.add k) = some V) (hU : w.cell? (ad.add r) = some U) :
  OM w0 ((w.setCell (ad.add r) V).setCell (ad.add k) U) A cap (swapL L r k) := by
 obtain ⟨hs, rfl, hO, hf, h0⟩ := h
 have hr' : r < hs.length := by simpa using hr
 have hk' : k < hs.length := by simpa using hk
 have cellOf : ∀ i (hi : i < hs.length) X, w.cell? (ad.add i) = some X → X = hs[i].val := by
  intro i hi X hX
  obtain ⟨ad', B, c, l, hA', hx, hc, _⟩ := hO.get (i := i) hi
  rw [hA] at hA'
  obtain rfl := Option.some.inj hA'
  rw [hX] at hc
  rw [List.getElem?_eq_getElem hi] at hx
  rw [Option.some.inj hx]
  exact Option.some.inj hc
 rw [cellOf k hk' V hV, cellOf r hr' U hU]
 have hp := swapH_perm hr' hk'
 refine ⟨_, (swapH_map hr' hk').symm, hO.swap hr' hk' hA, fun b hb => ?_, ?_⟩
 · rcases List.mem_append.1 hb with hb | hb
   · exact hf b (List.mem_append_left _ hb)
   · exact hf b (List.mem_append_right _ (fpR_perm hp b hb))
 · have hkp : Keeps (· ∈ fpA A) w ((w.setCell (ad.add r) hs[k].val).setCell (ad.add k) hs[r].val) :=
    ((Keeps.refl _ w).setCell (p := ad.add r) (by rw [block_of_add, hA]; simp) _).setCell (p := ad.add k) (by rw [block_of_add, hA]; simp) _
   exact below_keeps h0 hkp h0.size fun b hb => hf b (List.mem_append_left _ hb)
theorem OM.snoc {w1 w2 : World} {hs : List Hd} (hL : L = hs.map (fun h : Hd => h.2.2)) (hO : OwR w A cap hs) (hf : ∀ b, b ∈ fpA A ++ fpR hs → w0.heap.size ≤ b) (h0 : Below w0.heap.size w0 w) {l : List Int} {B : Option Addr} {c : Nat} (hb : Below w.heap.size w w1) (hx : IS w1 B c l) (hf1 : Fresh w.heap.size B)
  {A' : Option Addr} {cap' n : Nat} (hn : n = hs.length + 1) (hs' : Sl w2 23 1 A' n cap' (hs.map Hd.val ++ [.slice B l.length c])) (hA' : ∀ b, b ∈ fpA A' → b ∈ fpA A ∨ w1.heap.size ≤ b) (hk : Keeps (· ∈ fpA A) w1 w2) : OM w0 w2 A' cap' (L ++ [l]) := by
 subst hL hn
 have hbw := below_trans h0 hb h0.size
 refine ⟨hs ++ [(B, c, l)], by simp, hO.snoc hb (x := (B, c, l)) hx hf1 (by simpa [Hd.val] using hs') hA' hk, fun b hb' => ?_, ?_⟩
 · rcases List.mem_append.1 hb' with hb' | hb'
   · rcases hA' b hb' with h1 | h1
     · exact hf b (List.mem_append_left _ h1)
     · have := hbw.size; omega
   · rcases fpR_snoc hs (B, c, l) b hb' with h1 | h1
     · exact hf b (List.mem_append_right _ h1)
     · have := hf1 b h1; have := h0.size; omega
 · exact below_keeps hbw hk hbw.size fun b hb' => hf b (List.mem_append_left _ hb')
theorem OM.sl (h : OM w0 w A cap L) : ∃ vs, Sl w 23 1 A L.length cap vs ∧ vs.length = L.length := by
 obtain ⟨hs, rfl, hO, _⟩ := h
 exact ⟨hs.map Hd.val, by simpa using hO.sl, by simp⟩
theorem OM.take {hs : List Hd} (hL : L = hs.map (fun h : Hd => h.2.2)) (hO : OwR w A cap hs) (hf : ∀ b, b ∈ fpA A ++ fpR hs → w0.heap.size ≤ b) (h0 : Below w0.heap.size w0 w) {k m : Nat} (hk : k ≤ hs.length) {A' : Option Addr} (hsl : Sl w 23 1 A' k m ((hs.take k).map Hd.val)) (hfp : ∀ b, b ∈ fpA A' → b ∈ fpA A) : OM w0 w A' m (L.take k) := by
 subst hL
 refine ⟨hs.take k, by rw [List.map_take], hO.take hk hsl hfp, fun b hb => ?_, h0⟩
 rcases List.mem_append.1 hb with hb | hb
 · exact hf b (List.mem_append_left _ (hfp b hb))
 · exact hf b (List.mem_append_right _ (fpR_take b hb))
theorem OM.ret (h : OM w0 w A cap L) : RetSS w0 L (.returned (.slice A L.length cap)) w := by
 obtain ⟨hs, rfl, hO, hf, h0⟩ := h
 exact ⟨A, cap, hs, rfl, rfl, hO, hf, h0⟩
theorem OM.rdr (h : OM w0 w A cap L) : ∃ hs : List Hd, L = hs.map (fun h : Hd => h.2.2) ∧ RdR w A hs := by
 obtain ⟨hs, hL, hO, _⟩ := h; exact ⟨hs, hL, hO.rd⟩
end
theorem RetSS.om {w0 w : World} {L : List (List Int)} {e : Ending} (h : RetSS w0 L e w) : ∃ A cap, e = .returned (.slice A L.length cap) ∧ OM w0 w A cap L := by
 obtain ⟨A, cap, hs, rfl, hL, hO, hf, h0⟩ := h; exact ⟨A, cap, rfl, hs, hL, hO, hf, h0⟩
end Go.Proofs.YtjompikdkhhlgaaGreatDoor
namespace Go.Proofs.YtjompikdkhhlgaaGreatDoor
theorem getD_lt {α : Type} {L : List α} {i : Nat} {d : α} (h : i < L.length) : L.getD i d = L[i] := by simp [List.getD, h]
theorem getElem?_getD {α : Type} {L : List α} {i : Nat} {d : α} (h : i < L.length) : L[i]? = some (L.getD i d) := by rw [getD_lt h]; exact List.getElem?_eq_getElem h
theorem set_getD {α : Type} {L : List α} {i : Nat} {d : α} : L.set i (L.getD i d) = L := by
 by_cases h : i < L.length
 · rw [getD_lt h]; exact List.set_getElem_self h
 · exact List.set_eq_of_length_le (by omega)
theorem getD_set_self {α : Type} {L : List α} {i : Nat} {x d : α} (h : i < L.length) : (L.set i x).getD i d = x := by rw [getD_set _ _ _ _ _ h, if_pos rfl]
theorem getD_set_ne' {α : Type} {L : List α} {i k : Nat} {x d : α} (h : i ≠ k) : (L.set i x).getD k d = L.getD k d := by simp [List.getD, List.getElem?_set_ne h]
section
variable {p : Int} {m n r q : Nat} {L : List (List Int)} {f : Nat → Int}
theorem Mat.set (h : Mat p m n L) {i : Nat} {l : List Int} (hl : l.length = n) (hr : Res p l) : Mat p m n (L.set i l) := by
 refine ⟨by rw [List.length_set]; exact h.len, fun v hv => ?_⟩
 rcases List.mem_or_eq_of_mem_set hv with hv | hv
 · exact h.row v hv
 · subst hv; exact ⟨hl, hr⟩
theorem Mat.swap (h : Mat p m n L) {k : Nat} (hr : r < m) (hk : k < m) : Mat p m n (swapL L r k) :=
 (h.set (h.get hk).1 (h.get hk).2).set (h.get hr).1 (h.get hr).2
theorem scaleV_length (p iv : Int) (v : List Int) : (scaleV p iv v).length = v.length := by simp [scaleV]
theorem Mat.scale (h : Mat p m n L) (hp : 0 < p) (hr : r < m) (iv : Int) : Mat p m n (scaleL p r iv L) :=
 h.set (by rw [scaleV_length]; exact (h.get hr).1) (scaleV_res hp _)
theorem elimTo_zero : elimTo p r f L 0 = L := by
 apply List.ext_getElem?
 intro i
 simp only [elimTo, List.getElem?_map, Nat.not_lt_zero, false_and, if_false]
 by_cases h : i < L.length
 · rw [List.getElem?_range h]; simp [List.getD, h]
 · rw [List.getElem?_eq_none (by simpa using h), List.getElem?_eq_none (by omega)]; rfl
theorem elimTo_at (hq : q < L.length) : (elimTo p r f L q).getD q [] = L.getD q [] := by
 rw [elimTo_get hq, if_neg (by omega)]
theorem elimTo_piv (hr : r < L.length) : (elimTo p r f L q).getD r [] = L.getD r [] := by
 rw [elimTo_get hr, if_neg (by simp)]
theorem elimTo_skip (h : q = r ∨ f q = 0) : elimTo p r f L (q + 1) = elimTo p r f L q := by
 unfold elimTo
 apply List.map_congr_left
 intro i _
 by_cases hi : i = q
 · subst hi
   rcases h with h | h
   · simp [h]
   · simp [h]
 · have : (i < q + 1) = (i < q) := by apply propext; omega
   simp only [this]
theorem elimTo_step (hq : q < L.length) (h1 : q ≠ r) (h2 : f q ≠ 0) : elimTo p r f L (q + 1) = (elimTo p r f L q).set q (addT p (L.getD q []) (-(f q)) (L.getD r [])) := by
 apply List.ext_getElem?
 intro i
 by_cases hi : i < L.length
 · have e1 : (elimTo p r f L (q + 1))[i]? = some ((elimTo p r f L (q + 1)).getD i []) := getElem?_getD (by simpa using hi)
   have e2 : ((elimTo p r f L q).set q (addT p (L.getD q []) (-(f q)) (L.getD r [])))[i]? = some (((elimTo p r f L q).set q (addT p (L.getD q []) (-(f q)) (L.getD r []))).getD i []) := getElem?_getD (by simpa using hi)
   rw [e1, e2, elimTo_get hi, getD_set _ _ _ _ _ (by simpa using hq), elimTo_get hi]
   by_cases hiq : i = q
   · subst hiq; simp [h1, h2]
   · have : (i < q + 1) = (i < q) := by apply propext; omega
     simp only [this, if_neg hiq]
 · rw [List.getElem?_eq_none (by simpa using hi), List.getElem?_eq_none (by simpa using hi)]
theorem Mat.elim (h : Mat p m n L) (hp : 0 < p) : Mat p m n (elimTo p r f L q) := by
 refine Mat.of_get (by rw [elimTo_length]; exact h.len) fun i hi => ?_
 rw [elimTo_get (by rw [h.len]; exact hi)]
 split
 · exact ⟨by rw [addT_length]; exact (h.get hi).1, Res.addT hp (h.get hi).2⟩
 · exact h.get hi
end
theorem redTo_stable {p : Int} {L A : List (List Int)} {c : Nat} (h : (redTo p L A c).2.1.length ≤ (redTo p L A c).1) : ∀ d, redTo p L A (c + d) = redTo p L A c
 | 0 => rfl
 | d + 1 => by
   have ih := redTo_stable h d
   show colStep p (c + d) (redTo p L A (c + d)) = _
   rw [ih]
   unfold colStep
   have : (redTo p L A c).2.1.length - (redTo p L A c).1 = 0 := by omega
   rw [this]
   have h2 : ¬ (redTo p L A c).1 < (redTo p L A c).2.1.length := by omega
   simp only [pvFrom, h2, if_false]
theorem redTo_mat {p : Int} (hp : fieldB p = true) {m n : Nat} {L : List (List Int)} (hm : Mat p m n L) (A : List (List Int)) {c : Nat} (hc : c ≤ n) : Mat p m n (redTo p L A c).2.1 ∧ (redTo p L A c).1 ≤ m := by
 obtain ⟨ld, h⟩ := redTo_inv hp hm A c hc
 exact ⟨h.mat, h.inv.le⟩
theorem redTo_none {p : Int} {L A : List (List Int)} {c : Nat} (h : ¬ pvFrom (redTo p L A c).2.1 c ((redTo p L A c).2.1.length - (redTo p L A c).1) (redTo p L A c).1 < (redTo p L A c).2.1.length) : redTo p L A (c + 1) = redTo p L A c := by
 show colStep p c (redTo p L A c) = _
 unfold colStep
 rw [if_neg h]
theorem redTo_some {p : Int} {L A : List (List Int)} {c k : Nat} (hk : pvFrom (redTo p L A c).2.1 c ((redTo p L A c).2.1.length - (redTo p L A c).1) (redTo p L A c).1 = k) (h : k < (redTo p L A c).2.1.length) {M : List (List Int)} (hM : M = scaleL p (redTo p L A c).1 (invM p (en (redTo p L A c).2.1 k c)) (swapL (redTo p L A c).2.1 (redTo p L A c).1 k)) :
  (redTo p L A (c + 1)).1 = (redTo p L A c).1 + 1 ∧ (redTo p L A (c + 1)).2.1 = elimTo p (redTo p L A c).1 (fun i => en M i c) M M.length ∧
   (redTo p L A (c + 1)).2.2 = elimTo p (redTo p L A c).1 (fun i => en M i c) (scaleL p (redTo p L A c).1 (invM p (en (redTo p L A c).2.1 k c)) (swapL (redTo p L A c).2.2 (redTo p L A c).1 k)) (redTo p L A c).2.2.length := by
 subst hM
 show (colStep p c (redTo p L A c)).1 = _ ∧ _
 have e : redTo p L A (c + 1) = colStep p c (redTo p L A c) := rfl
 rw [e]
 unfold colStep
 rw [hk, if_pos h]
 exact ⟨rfl, rfl, rfl⟩
theorem sub_mod_mul (p x f y : Int) : (x - f * y % p) % p = (x + -f * y) % p := by
 rw [Int.sub_emod, Int.emod_emod_of_dvd _ (Int.dvd_refl p), ← Int.sub_emod, Int.neg_mul, Int.sub_eq_add_neg]
open Go.RowKit
def RwF (w : World) (A : Option Addr) (cap : Nat) (L : List (List Int)) (fp : List Nat) : Prop :=
 ∃ hs : List Hd, L = hs.map (fun h : Hd => h.2.2) ∧ OwR w A cap hs ∧ ∀ b, b ∈ fpA A ++ fpR hs → b ∈ fp
section
variable {w0 w w' : World} {A : Option Addr} {cap : Nat} {L : List (List Int)} {fp : List Nat}
theorem OM.rw_ (h : OM w0 w A cap L) : ∃ fp, RwF w A cap L fp ∧ FreshL w0.heap.size fp ∧ LtL w.heap.size fp := by
 obtain ⟨hs, hL, hO, hf, h0⟩ := h
 exact ⟨fpA A ++ fpR hs, ⟨hs, hL, hO, fun b hb => hb⟩, hf, hO.lt⟩
theorem RwF.om (h : RwF w A cap L fp) (hf : FreshL w0.heap.size fp) (h0 : Below w0.heap.size w0 w) : OM w0 w A cap L := by
 obtain ⟨hs, hL, hO, hfp⟩ := h
 exact ⟨hs, hL, hO, fun b hb => hf b (hfp b hb), h0⟩
theorem RwF.below (h : RwF w A cap L fp) (hb : Below w.heap.size w w') : RwF w' A cap L fp := by
 obtain ⟨hs, hL, hO, hfp⟩ := h; exact ⟨hs, hL, hO.below hb, hfp⟩
theorem RwF.keeps {S : Nat → Prop} (h : RwF w A cap L fp) (hk : Keeps S w w') (hS : ∀ b, b ∈ fp → ¬ S b) : RwF w' A cap L fp := by
 obtain ⟨hs, hL, hO, hfp⟩ := h; exact ⟨hs, hL, hO.keeps hk fun b hb => hS b (hfp b hb), hfp⟩
theorem RwF.drew (h : RwF w A cap L fp) : RwF w.drew A cap L fp := h.below (below_drewN (Below.refl _ _) 1)
theorem RwF.get (h : RwF w A cap L fp) {i : Nat} (hi : i < L.length) : ∃ ad B c, A = some ad ∧ w.cell? (ad.add i) = some (.slice B (L.getD i []).length c) ∧ w.frozen? (ad.add i) = false ∧ IS w B c (L.getD i []) ∧ ∀ b, b ∈ fpA B → b ∈ fp := by
 obtain ⟨hs, rfl, hO, hf⟩ := h
 obtain ⟨ad, B, c, l, hA, hx, hc, hz, hi'⟩ := hO.get (i := i) (by simpa using hi)
 rw [getD_map_hd hx]
 exact ⟨ad, B, c, hA, hc, hz, hi', fun b hb => hf b (List.mem_append_right _ (mem_fpR.2 ⟨_, List.mem_of_getElem? hx, hb⟩))⟩
theorem RwF.apart (h : RwF w A cap L fp) {i k : Nat} (hi : i < L.length) (hk : k < L.length) (hne : i ≠ k) {ad : Addr} (hA : A = some ad) {B C : Option Addr} {n c n' c' : Nat} (hB : w.cell? (ad.add i) = some (.slice B n c)) (hC : w.cell? (ad.add k) = some (.slice C n' c')) : ∀ b, b ∈ fpA B → b ∉ fpA C := by
 obtain ⟨hs, rfl, hO, hf⟩ := h
 obtain ⟨ad1, B1, c1, l1, hA1, hx1, hc1, _⟩ := hO.get (i := i) (by simpa using hi)
 obtain ⟨ad2, B2, c2, l2, hA2, hx2, hc2, _⟩ := hO.get (i := k) (by simpa using hk)
 rw [hA] at hA1 hA2
 obtain rfl := Option.some.inj hA1
 obtain rfl := Option.some.inj hA2
 rw [hB] at hc1; rw [hC] at hc2
 injection hc1 with hc1; injection hc1 with e1 _ _
 injection hc2 with hc2; injection hc2 with e2 _ _
 subst e1 e2
 exact hO.apart_get hx1 hx2 hne
theorem RwF.wr (h : RwF w A cap L fp) {i : Nat} (hi : i < L.length) {ad : Addr} (hA : A = some ad) {B : Option Addr} {n c : Nat} (hc : w.cell? (ad.add i) = some (.slice B n c)) {l' : List Int} (hl : l'.length = (L.getD i []).length) (hw : Wr w w' B (ints l')) : RwF w' A cap (L.set i l') fp ∧ Keeps (· ∈ fp) w w' := by
 obtain ⟨hs, rfl, hO, hf⟩ := h
 obtain ⟨ad', B', c', l, hA', hx, hc', hz, hi'⟩ := hO.get (i := i) (by simpa using hi)
 rw [hA] at hA'
 obtain rfl := Option.some.inj hA'
 rw [hc] at hc'
 injection hc' with hc'
 injection hc' with e1 e2 e3
 subst e1
 rw [getD_map_hd hx] at hl
 have hm := List.mem_of_getElem? hx
 refine ⟨⟨hs.set i (B, c', l'), by rw [List.map_set], hO.wr hx hw hl, fun b hb => ?_⟩, hw.1.mono fun b _ hb => hf b (List.mem_append_right _ (mem_fpR.2 ⟨_, hm, hb⟩))⟩
 rcases List.mem_append.1 hb with hb | hb
 · exact hf b (List.mem_append_left _ hb)
 · exact hf b (List.mem_append_right _ (fpR_set hx b hb))
theorem RwF.set (h : RwF w A cap L fp) {i : Nat} (hi : i < L.length) {ad : Addr} (hA : A = some ad) {bd : Addr} {n c : Nat} (hc : w.cell? (ad.add i) = some (.slice (some bd) n c)) {j : Nat} (hj : j < (L.getD i []).length) (x : Int) :
  RwF (w.setCell (bd.add j) (.int .i64 x)) A cap (L.set i ((L.getD i []).set j x)) fp ∧ Keeps (· ∈ fp) w (w.setCell (bd.add j) (.int .i64 x)) := by
 obtain ⟨ad', B, c', hA', hc', _, hI, _⟩ := h.get hi
 rw [hA] at hA'
 obtain rfl := Option.some.inj hA'
 have hc2 := hc'
 rw [hc] at hc2
 injection hc2 with hc2
 injection hc2 with e1 e2 e3
 exact h.wr hi hA hc (by simp) (IS.wr1 (e1 ▸ hI) rfl hj x)
theorem RwF.swap (h : RwF w A cap L fp) {r k : Nat} (hr : r < L.length) (hk : k < L.length) {ad : Addr} (hA : A = some ad) {V U : Value} (hV : w.cell? (ad.add k) = some V) (hU : w.cell? (ad.add r) = some U) :
  RwF ((w.setCell (ad.add r) V).setCell (ad.add k) U) A cap (swapL L r k) fp ∧ Keeps (· ∈ fp) w ((w.setCell (ad.add r) V).setCell (ad.add k) U) := by
 obtain ⟨hs, rfl, hO, hf⟩ := h
 have hr' : r < hs.length := by simpa using hr
 have hk' : k < hs.length := by simpa using hk
 have cellOf : ∀ i (hi : i < hs.length) X, w.cell? (ad.add i) = some X → X = hs[i].val := by
  intro i hi X hX
  obtain ⟨ad', B, c, l, hA', hx, hc, _⟩ := hO.get (i := i) hi
  rw [hA] at hA'
  obtain rfl := Option.some.inj hA'
  rw [hX] at hc
  rw [List.getElem?_eq_getElem hi] at hx
  rw [Option.some.inj hx]
  exact Option.some.inj hc
 rw [cellOf k hk' V hV, cellOf r hr' U hU]
 have hp := swapH_perm hr' hk'
 have hblk : ad.block ∈ fp := hf _ (List.mem_append_left _ (by rw [hA]; simp))
 refine ⟨⟨_, (swapH_map hr' hk').symm, hO.swap hr' hk' hA, fun b hb => ?_⟩, ((Keeps.refl _ w).setCell (p := ad.add r) (by rw [block_of_add]; exact hblk) _).setCell (p := ad.add k) (by rw [block_of_add]; exact hblk) _⟩
 rcases List.mem_append.1 hb with hb | hb
 · exact hf b (List.mem_append_left _ hb)
 · exact hf b (List.mem_append_right _ (fpR_perm hp b hb))
theorem RwF.outer (h : RwF w A cap L fp) {i : Nat} (hi : i < L.length) {ad : Addr} (hA : A = some ad) {B : Option Addr} {n c : Nat} (hB : w.cell? (ad.add i) = some (.slice B n c)) : ∀ b, b ∈ fpA B → b ≠ ad.block := by
 obtain ⟨hs, rfl, hO, hf⟩ := h
 obtain ⟨ad1, B1, c1, l1, hA1, hx1, hc1, _⟩ := hO.get (i := i) (by simpa using hi)
 rw [hA] at hA1
 obtain rfl := Option.some.inj hA1
 rw [hB] at hc1
 injection hc1 with hc1; injection hc1 with e1 _ _
 subst e1
 intro b hb e
 exact hO.outer _ (List.mem_of_getElem? hx1) b hb (by rw [hA, e]; simp)
theorem keeps_cell {S : Nat → Prop} (hk : Keeps S w w') {a : Addr} {u : Value} (h : w.cell? a = some u) (hS : ¬ S a.block) : w'.cell? a = some u :=
 (World.cell?_of_block (hk.block _ (World.block_lt_of_cell? w a h) hS)).trans h
theorem RwF.lt (h : RwF w A cap L fp) : ∃ fp', RwF w A cap L fp' ∧ LtL w.heap.size fp' ∧ ∀ b, b ∈ fp' → b ∈ fp := by
 obtain ⟨hs, hL, hO, hf⟩ := h
 exact ⟨fpA A ++ fpR hs, ⟨hs, hL, hO, fun b hb => hb⟩, hO.lt, hf⟩
end
end Go.Proofs.YtjompikdkhhlgaaGreatDoor
namespace Go.Proofs.YtjompikdkhhlgaaGreatDoor
section
variable {P : Program} {ops : Array Oper} {md : Region.Mode} {S : World → Prop}
def YieldsS (P : Program) (ops : Array Oper) (S : World → Prop) (o : Oper) (v : Value) (a : Act) : Prop :=
 (Region.wanted o (yielded ops a.tmps) = true ∧ ∀ w, S w →
  (∃ w', (execOp a.eval o).run P w = .ok (.value v) w' ∧ S w') ∨ (∃ w', (execOp a.eval o).run P w = .ok .skip w' ∧ v = undef ∧ S w') ∨
  ∃ f args w', (execOp a.eval o).run P w = .ok (.enter f args) w' ∧ Calls P f args w' (fun e w'' => e = .returned v ∧ S w'')) ∨
 (Region.wanted o (yielded ops a.tmps) = false ∧ v = undef)
theorem YieldsS.of_same {o : Oper} {v : Value} {a a' : Act} (hy : YieldsS P ops S o v a) (he : execOp a'.eval o = execOp a.eval o)
  (hw : Region.wanted o (yielded ops a'.tmps) = Region.wanted o (yielded ops a.tmps)) : YieldsS P ops S o v a' := by
 unfold YieldsS at *
 rw [he, hw]
 exact hy
theorem YieldsS.put {oi oj : Oper} {v u : Value} {a : Act} (hy : YieldsS P ops S oi v a) (hap : oj.apart ops oi = true) (hsi : ∀ cs b, oi.op ≠ .select cs b) : YieldsS P ops S oi v (a.put oj.dst u) := by
 obtain ⟨h1, _, _⟩ := Oper.apart_spec hap
 exact hy.of_same (execOp_put oi hsi a oj.dst u h1) (wanted_put oi a oj.dst u h1)
theorem YieldsS.wpOp {i : Nat} {o : Oper} {v : Value} {a : Act} {Q : Exit → Act → World → Prop} (hi : ops[i]? = some o) (hy : YieldsS P ops S o v a) {K : Act → World → Prop} {w : World} (hS : S w) (h : ∀ w', S w' → K (a.put o.dst v) w') : wpOp P ops Q i K a w := by
 unfold Go.wpOp
 simp only [hi]
 rcases hy with ⟨hw, hv⟩ | ⟨hw, rfl⟩
 · simp only [hw, if_true]
   refine .inl ?_
   unfold Oper.wp
   rcases hv w hS with ⟨w', hr, hs⟩ | ⟨w', hr, rfl, hs⟩ | ⟨f, args, w', hr, hc⟩
   · rw [hr]; exact h _ hs
   · rw [hr]; exact h _ hs
   · rw [hr]
     exact hc.mono fun e w'' ⟨he, hs⟩ => by subst he; exact h _ hs
 · simp only [hw, Bool.false_eq_true, if_false]; exact h _ hS
end
end Go.Proofs.YtjompikdkhhlgaaGreatDoor
namespace Go.Proofs.YtjompikdkhhlgaaGreatDoor
section
variable {P : Program} {l : List Oper} {Q : Exit → Act → World → Prop} {md : Region.Mode} {S : World → Prop}
theorem at_drop {l l' : List Oper} {i : Nat} {o : Oper} (h : l.drop i = o :: l') : l.toArray[i]? = some o := by
 have := congrArg (·[0]?) h
 simpa [List.getElem?_drop] using this
theorem takeH (i : Nat) {oi : Oper} {v : Value} {fuel : Nat} {listed : Array Bool} {a : Act} {w : World} {l' : List Oper} (hd : l.drop i = oi :: l')
  (hs : Region.noSelect l.toArray = true) (hf : Region.free md l.toArray listed i = true) (hr : (Region.ready md l.toArray listed).contains i = true)
  (hQ : ∀ c a w, Q (.panic c) (a.put oi.dst v) w → Q (.panic c) a w) (hS : S w) (hw : Region.wanted oi (yielded l.toArray a.tmps) = true) (hy : ∀ w, S w → (execOp a.eval oi).run P w = .ok (.value v) w)
  (h : wpAnyH P md l.toArray Q S fuel (listed.setIfInBounds i true) (a.put oi.dst v) w) : wpAnyH P md l.toArray Q S (fuel + 1) listed a w :=
 wpAnyH_take (at_drop hd) hs hf hr hQ (.inl ⟨hw, hy⟩) hS h
theorem tkH (i : Nat) {oi : Oper} (v : Value) {fuel : Nat} {listed : Array Bool} {a : Act} {w : World} {l' : List Oper} (hd : l.drop i = oi :: l') (hS : S w) (hy : ∀ w, S w → (execOp a.eval oi).run P w = .ok (.value v) w)
 (h : wpAnyH P md l.toArray Q S fuel (listed.setIfInBounds i true) (a.put oi.dst v) w) (hs : Region.noSelect l.toArray = true := by kernel_rfl) (hf : Region.free md l.toArray listed i = true := by kernel_rfl) (hr : (Region.ready md l.toArray listed).contains i = true := by kernel_rfl)
 (hQ : ∀ c a w, Q (.panic c) (a.put oi.dst v) w → Q (.panic c) a w := by exact fun _ _ _ h => h) (hw : Region.wanted oi (yielded l.toArray a.tmps) = true := by rfl) : wpAnyH P md l.toArray Q S (fuel + 1) listed a w := takeH i hd hs hf hr hQ hS hw hy h
theorem oneH (i : Nat) {o : Oper} {fuel : Nat} {listed : Array Bool} {a : Act} {w : World} {l' : List Oper} (hd : l.drop i = o :: l') (hr : Region.ready md l.toArray listed = [i]) (hw : Region.wanted o (yielded l.toArray a.tmps) = true)
  (h : ∀ K : Act → World → Prop, (∀ a' w', S w' → wpAnyH P md l.toArray Q S fuel (listed.setIfInBounds i true) a' w' → K a' w') → o.wp P a w K Q) : wpAnyH P md l.toArray Q S (fuel + 1) listed a w := by
 refine wpAnyH_all hr (by simp) fun j hj => ?_
 obtain rfl := List.mem_singleton.1 hj
 unfold wpOp
 simp only [at_drop hd, hw, if_true]
 exact .inl (h _ fun a' w' h1 h2 => ⟨h1, h2⟩)
theorem callH (i : Nat) {o : Oper} {f : FuncId} {args : Array Value} {fuel : Nat} {listed : Array Bool} {a : Act} {w : World} {l' : List Oper} (hd : l.drop i = o :: l') (hr : Region.ready md l.toArray listed = [i]) (hw : Region.wanted o (yielded l.toArray a.tmps) = true)
  (hrun : (execOp a.eval o).run P w = .ok (.enter f args) w)
  (h : Calls P f args w fun e w' => ∃ v, e = .returned v ∧ S w' ∧ wpAnyH P md l.toArray Q S fuel (listed.setIfInBounds i true) (a.put o.dst v) w') : wpAnyH P md l.toArray Q S (fuel + 1) listed a w := by
 refine oneH i hd hr hw fun K hK => ?_
 unfold Oper.wp
 rw [hrun]
 exact h.mono fun e w' ⟨v, he, h1, h2⟩ => by subst he; exact hK _ _ h1 h2
theorem twoValH (i j : Nat) {oi oj : Oper} {vi vj : Value} {fuel : Nat} {listed : Array Bool} {a : Act} {w : World} {li lj : List Oper} (hdi : l.drop i = oi :: li) (hdj : l.drop j = oj :: lj) (hij : i ≠ j)
  (hr : Region.ready md l.toArray listed = [i, j]) (hri : Region.ready md l.toArray (listed.setIfInBounds i true) = [j]) (hrj : Region.ready md l.toArray (listed.setIfInBounds j true) = [i])
  (hsel : Region.noSelect l.toArray = true) (hap : oi.apart l.toArray oj = true) (hwi : Region.wanted oi (yielded l.toArray a.tmps) = true) (hwj : Region.wanted oj (yielded l.toArray a.tmps) = true)
  (hvi : (execOp a.eval oi).run P w = .ok (.value vi) w) (hvj : (execOp a.eval oj).run P w = .ok (.value vj) w) (hS : S w)
  (h : wpAnyH P md l.toArray Q S fuel ((listed.setIfInBounds i true).setIfInBounds j true) ((a.put oi.dst vi).put oj.dst vj) w) : wpAnyH P md l.toArray Q S (fuel + 2) listed a w := by
 obtain ⟨h1, h2, h3⟩ := Oper.apart_spec hap
 have si : ∀ cs b, oi.op ≠ .select cs b := fun cs b => Region.noSelect_spec hsel i oi cs b (at_drop hdi)
 have sj : ∀ cs b, oj.op ≠ .select cs b := fun cs b => Region.noSelect_spec hsel j oj cs b (at_drop hdj)
 refine wpAnyH_all hr (by simp) fun k hk => ?_
 have hk' : k = i ∨ k = j := by simpa using hk
 rcases hk' with rfl | rfl
 · unfold wpOp
   simp only [at_drop hdi, hwi, if_true]
   refine .inl ?_
   unfold Oper.wp
   rw [hvi]
   refine ⟨hS, wpAnyH_all hri (by simp) fun k' hk' => ?_⟩
   obtain rfl := List.mem_singleton.1 hk'
   unfold wpOp
   have hw' : Region.wanted oj (yielded l.toArray (a.put oi.dst vi).tmps) = true := by rw [wanted_put oj a oi.dst vi h1]; exact hwj
   simp only [at_drop hdj, hw', if_true]
   refine .inl ?_
   unfold Oper.wp
   rw [execOp_put oj sj a oi.dst vi h1, hvj]
   exact ⟨hS, h⟩
 · unfold wpOp
   simp only [at_drop hdj, hwj, if_true]
   refine .inl ?_
   unfold Oper.wp
   rw [hvj]
   refine ⟨hS, wpAnyH_all hrj (by simp) fun k' hk' => ?_⟩
   obtain rfl := List.mem_singleton.1 hk'
   unfold wpOp
   have hw' : Region.wanted oi (yielded l.toArray (a.put oj.dst vj).tmps) = true := by rw [wanted_put oi a oj.dst vj h3]; exact hwi
   simp only [at_drop hdi, hw', if_true]
   refine .inl ?_
   unfold Oper.wp
   rw [execOp_put oi si a oj.dst vj h3, hvi]
   refine ⟨hS, ?_⟩
   rw [Array.setIfInBounds_comm _ _ (Ne.symm hij), ← Act.put_comm a vi vj h2]
   exact h
theorem doneH {fuel : Nat} {listed : Array Bool} {a : Act} {w : World} (hr : Region.ready md l.toArray listed = []) (h : Q .normal a w) : wpAnyH P md l.toArray Q S fuel listed a w := wpAnyH_done hr h fuel
theorem beginH {id : Nat} {a : Act} {w : World} (S : World → Prop) (hm : P.follows .mixedOrders = true) (h : wpAnyH P .any l.toArray Q S l.toArray.size (Array.replicate l.toArray.size false) a w.drew) : (Code.region id l.toArray true).wp P Q a w := wp_region_held hm h
end
open Go.RowKit
theorem box4 {w : World} {B : Nat} {x y z u : Value} {t : TypeId} (h : w.heap[B]? = some (.cells #[x, y, z, u] t)) :
  (w.cell? ⟨B, 0, none⟩ = some x ∧ w.cell? ⟨B, 1, none⟩ = some y ∧ w.cell? ⟨B, 2, none⟩ = some z ∧ w.cell? ⟨B, 3, none⟩ = some u) ∧ (w.frozen? ⟨B, 0, none⟩ = false ∧ w.frozen? ⟨B, 1, none⟩ = false ∧ w.frozen? ⟨B, 2, none⟩ = false ∧ w.frozen? ⟨B, 3, none⟩ = false) := by
 refine ⟨⟨?_, ?_, ?_, ?_⟩, ?_, ?_, ?_, ?_⟩ <;> simp [World.cell?, World.frozen?, h]
abbrev tOp : TypeId := 120
set_option maxRecDepth 8000 in
set_option maxHeartbeats 2000000 in
theorem applyX_any (p : Int) (r q m : Nat) (A : Option Addr) (cap : Nat) (L : List (List Int)) (fp : List Nat) (w : World) (h : RwF w A cap L fp) (hm : L.length = m) (hr : r < m) (hq : q < m) (_hml : m ≤ 1048576) :
  Calls Tryz.prog 103 #[.agg #[.int .i64 0, .int .i64 r, .int .i64 q, .int .i64 0], .int .i64 p, .slice A m cap] w fun e w' => e = .returned (.tuple #[]) ∧ RwF w' A cap (swapL L r q) fp ∧ Keeps (· ∈ fp) w w' := by
 have hbw : Below w.heap.size w (w.alloc (.cells #[.int .i64 0, .int .i64 r, .int .i64 q, .int .i64 0] tOp)) := (Below.refl _ _).alloc (Nat.le_refl _) _
 obtain ⟨W, hW⟩ : ∃ W, W = w.alloc (.cells #[.int .i64 0, .int .i64 r, .int .i64 q, .int .i64 0] tOp) := ⟨_, rfl⟩
 have hk : W.heap[w.heap.size]? = some (.cells #[.int .i64 0, .int .i64 r, .int .i64 q, .int .i64 0] tOp) := by rw [hW]; exact heap_alloc_new w _
 obtain ⟨⟨c0, c1, c2, c3⟩, f0, f1, f2, f3⟩ := box4 hk
 rw [← hW] at hbw
 have hR := h.below hbw
 obtain ⟨ad0, _, _, hA0, hc0, _⟩ := h.get (i := r) (by omega)
 have hlt := World.block_lt_of_cell? w _ hc0
 rw [block_of_add] at hlt
 obtain ⟨ad, B, c, hA, hcr, hfr, _⟩ := hR.get (i := r) (by omega)
 rw [hA] at hA0
 obtain rfl := Option.some.inj hA0
 subst hA
 obtain ⟨ad', C, d, hA', hcq, hfq, _⟩ := hR.get (i := q) (by omega)
 obtain rfl := Option.some.inj hA'
 obtain ⟨nr, hnr⟩ : ∃ nr, nr = (L.getD r []).length := ⟨_, rfl⟩
 obtain ⟨nq, hnq⟩ : ∃ nq, nq = (L.getD q []).length := ⟨_, rfl⟩
 rw [← hnr] at hcr
 rw [← hnq] at hcq
 have hsw := hR.drew.swap (r := r) (k := q) (by omega) (by omega) rfl (V := .slice C nq d) (U := .slice B nr c) hcq hcr
 have HSW := lH hsw; have HB := lH hbw
 have hrI : (r : Int) < (m : Int) := by omega
 have hqI : (q : Int) < (m : Int) := by omega
 have hdc1 : W.drew.cell? (ad.add r) = some (.slice B nr c) := hcr
 have hdc2 : W.drew.cell? (ad.add q) = some (.slice C nq d) := hcq
 have hdf1 : W.drew.frozen? (ad.add r) = false := hfr
 have hdf2 : W.drew.frozen? (ad.add q) = false := hfq
 have e1 : W.drew.cell? ⟨w.heap.size, 1, none⟩ = some (.int .i64 r) := c1
 have e2 : W.drew.cell? ⟨w.heap.size, 2, none⟩ = some (.int .i64 q) := c2
 have hst1 : (W.drew.setCell (ad.add r) (.slice C nq d)).cell? ⟨w.heap.size, 1, none⟩ = some (.int .i64 r) := (World.cell?_setCell_far _ _ _ _ (by rw [block_of_add]; show ad.block ≠ w.heap.size; omega)).trans c1
 have hst2 : (W.drew.setCell (ad.add r) (.slice C nq d)).cell? ⟨w.heap.size, 2, none⟩ = some (.int .i64 q) := (World.cell?_setCell_far _ _ _ _ (by rw [block_of_add]; show ad.block ≠ w.heap.size; omega)).trans c2
 have hst3 : ((W.drew.setCell (ad.add r) (.slice C nq d)).setCell (ad.add q) (.slice B nr c)).cell? ⟨w.heap.size, 1, none⟩ = some (.int .i64 r) := (World.cell?_setCell_far _ _ _ _ (by rw [block_of_add]; show ad.block ≠ w.heap.size; omega)).trans hst1
 have hst4 : ((W.drew.setCell (ad.add r) (.slice C nq d)).setCell (ad.add q) (.slice B nr c)).cell? ⟨w.heap.size, 2, none⟩ = some (.int .i64 q) := (World.cell?_setCell_far _ _ _ _ (by rw [block_of_add]; show ad.block ≠ w.heap.size; omega)).trans hst2
 have hcq2 : ((W.setCell (ad.add r) (.slice C nq d)).cell? (ad.add q)).isSome = true := by
  by_cases e : ad.add r = ad.add q
  · rw [e, World.cell?_setCell_same' _ _ _ (by rw [hcq]; rfl)]; rfl
  · rw [World.cell?_setCell_other _ _ _ _ e, hcq]; rfl
 obtain ⟨V2, hcq2⟩ := Option.isSome_iff_exists.1 hcq2
 clear hk hR h hsw hnr hnq hc0 hbw
 go_enter Tryz.func103, Tryz.ntmps103
 go_wp2_with (fail)
 rw [← hW]
 clear hW
 refine beginH (fun w' => w'.cell? ⟨w.heap.size, 1, none⟩ = some (.int .i64 r) ∧ w'.cell? ⟨w.heap.size, 2, none⟩ = some (.int .i64 q)) (by kernel_rfl) ?_
 refine tkH 0 ?_ rfl ⟨c1, c2⟩ (fun W' hW' => ?_) ?_; rotate_left; · (obtain ⟨c1, c2⟩ := hW'; go_simp; first | done | with_reducible rfl)
 simp only [Act.put, nS]
 refine tkH 1 ?_ rfl ⟨c1, c2⟩ (fun W' hW' => ?_) ?_; rotate_left; · (obtain ⟨c1, c2⟩ := hW'; go_simp; first | done | with_reducible rfl)
 simp only [Act.put, nS]
 refine tkH 2 ?_ rfl ⟨c1, c2⟩ (fun W' hW' => ?_) ?_; rotate_left; · (obtain ⟨c1, c2⟩ := hW'; go_simp; first | done | with_reducible rfl)
 simp only [Act.put, nS]
 refine tkH 3 ?_ rfl ⟨c1, c2⟩ (fun W' hW' => ?_) ?_; rotate_left; · (obtain ⟨c1, c2⟩ := hW'; go_simp; first | done | with_reducible rfl)
 simp only [Act.put, nS]
 refine tkH 4 ?_ rfl ⟨c1, c2⟩ (fun W' hW' => ?_) ?_; rotate_left; · (obtain ⟨c1, c2⟩ := hW'; go_simp; first | done | with_reducible rfl)
 simp only [Act.put, nS]
 refine tkH 5 ?_ rfl ⟨c1, c2⟩ (fun W' hW' => ?_) ?_; rotate_left; · (obtain ⟨c1, c2⟩ := hW'; go_simp; first | done | with_reducible rfl)
 simp only [Act.put, nS]
 refine tkH 6 ?_ rfl ⟨c1, c2⟩ (fun W' hW' => ?_) ?_; rotate_left; · (obtain ⟨c1, c2⟩ := hW'; go_simp; first | done | with_reducible rfl)
 simp only [Act.put, nS]
 refine tkH 7 ?_ rfl ⟨c1, c2⟩ (fun W' hW' => ?_) ?_; rotate_left; · (obtain ⟨c1, c2⟩ := hW'; go_simp; first | done | with_reducible rfl)
 simp only [Act.put, nS]
 refine tkH 8 ?_ rfl ⟨c1, c2⟩ (fun W' hW' => ?_) ?_; rotate_left; · (obtain ⟨c1, c2⟩ := hW'; go_simp; first | done | with_reducible rfl)
 simp only [Act.put, nS]
 refine tkH 9 ?_ rfl ⟨c1, c2⟩ (fun W' hW' => ?_) ?_; rotate_left; · (obtain ⟨c1, c2⟩ := hW'; go_simp; first | done | with_reducible rfl)
 simp only [Act.put, nS]
 refine tkH 11 ?_ rfl ⟨c1, c2⟩ (fun W' hW' => ?_) ?_; rotate_left; · (obtain ⟨c1, c2⟩ := hW'; go_simp; first | done | with_reducible rfl)
 simp only [Act.put, nS]
 refine tkH 12 ?_ rfl ⟨c1, c2⟩ (fun W' hW' => ?_) ?_; rotate_left; · (obtain ⟨c1, c2⟩ := hW'; go_simp; first | done | with_reducible rfl)
 simp only [Act.put, nS]
 refine tkH 13 ?_ rfl ⟨c1, c2⟩ (fun W' hW' => ?_) ?_; rotate_left; · (obtain ⟨c1, c2⟩ := hW'; go_simp; first | done | with_reducible rfl)
 simp only [Act.put, nS]
 refine tkH 14 ?_ rfl ⟨c1, c2⟩ (fun W' hW' => ?_) ?_; rotate_left; · (obtain ⟨c1, c2⟩ := hW'; go_simp; first | done | with_reducible rfl)
 simp only [Act.put, nS]
 refine twoValH 10 15 (vi := .slice C nq d) (vj := .slice B nr c) rfl rfl (by decide) (by kernel_rfl) (by kernel_rfl) (by kernel_rfl) (by kernel_rfl) (by kernel_rfl) (by rfl) (by rfl) (by go_simp; first | done | with_reducible rfl) (by go_simp; first | done | with_reducible rfl) ⟨e1, e2⟩ ?_
 simp only [Act.put, nS]
 refine oneH 16 rfl (by kernel_rfl) (by rfl) (fun K hK => ?_)
 go_simp
 refine hK _ _ ⟨e1, e2⟩ ?_
 clear hK K
 refine oneH 17 rfl (by kernel_rfl) (by rfl) (fun K hK => ?_)
 go_simp
 refine hK _ _ ⟨hst1, hst2⟩ ?_
 clear hK K
 refine oneH 18 rfl (by kernel_rfl) (by rfl) (fun K hK => ?_)
 go_simp
 refine hK _ _ ⟨hst1, hst2⟩ ?_
 clear hK K
 refine oneH 19 rfl (by kernel_rfl) (by rfl) (fun K hK => ?_)
 go_simp
 refine hK _ _ ⟨hst3, hst4⟩ ?_
 clear hK K
 refine doneH (by kernel_rfl) ?_
 go_wp2_with (fail)
 go_end0
 exact ⟨rfl, HSW.out.1, (Keeps.of_below HB.out _).trans ((Keeps.refl _ _).drew.trans HSW.out.2)⟩
set_option maxRecDepth 8000 in
set_option maxHeartbeats 2000000 in
theorem applyD_any (p by_ : Int) (r m nn : Nat) (A : Option Addr) (cap : Nat) (L : List (List Int)) (fp : List Nat) (w : World) (h : RwF w A cap L fp) (hm : Mat p m nn L) (hr : r < m) (_hml : m ≤ 1048576) (hnl : nn ≤ 1048576) (h2 : 2 ≤ p) (h97 : p ≤ 97) (hb0 : 0 ≤ by_) (hb1 : by_ < p) (hi0 : 0 ≤ invM p by_) (hi1 : invM p by_ < p) :
  Calls Tryz.prog 103 #[.agg #[.int .i64 1, .int .i64 r, .int .i64 0, .int .i64 by_], .int .i64 p, .slice A m cap] w fun e w' => e = .returned (.tuple #[]) ∧ RwF w' A cap (scaleL p r (invM p by_) L) fp ∧ Keeps (· ∈ fp) w w' := by
 obtain ⟨fq, h, hlt, hsub⟩ := h.lt
 have hml' := hm.len
 have hbw : Below w.heap.size w (w.alloc (.cells #[.int .i64 1, .int .i64 r, .int .i64 0, .int .i64 by_] tOp)) := (Below.refl _ _).alloc (Nat.le_refl _) _
 obtain ⟨W, hW⟩ : ∃ W, W = w.alloc (.cells #[.int .i64 1, .int .i64 r, .int .i64 0, .int .i64 by_] tOp) := ⟨_, rfl⟩
 have hk : W.heap[w.heap.size]? = some (.cells #[.int .i64 1, .int .i64 r, .int .i64 0, .int .i64 by_] tOp) := by rw [hW]; exact heap_alloc_new w _
 obtain ⟨⟨c0, c1, c2, c3⟩, f0, f1, f2, f3⟩ := box4 hk
 rw [← hW] at hbw
 have hR := h.below hbw
 obtain ⟨ad, B, c, hA, hcr, hfr, _, _⟩ := hR.get (i := r) (by omega)
 obtain ⟨V, hV⟩ : ∃ V, V = L.getD r [] := ⟨_, rfl⟩
 have hVl : V.length = nn := by rw [hV]; exact (hm.get hr).1
 have hVr : Res p V := by rw [hV]; exact (hm.get hr).2
 rw [← hV, hVl] at hcr
 subst hA
 have hout := hR.outer (i := r) (by omega) rfl hcr
 obtain ⟨iv, hiv⟩ : ∃ iv, iv = invM p by_ := ⟨_, rfl⟩
 have hI := fun w => inverse_any p by_ w h2 h97 hb0 hb1
 rw [← hiv] at hI hi0 hi1
 have HI := lH hI; have HV := lH hV; have HVl := lH hVl; have HIV := lH hiv; have HM := lH hml'; have HB := lH hbw; have HLT := lH hlt; have HSUB := lH hsub; have HOUT := lH hout
 have hrI : (r : Int) < (m : Int) := by omega
 clear hk h hV hVl hiv hI hml' hbw hlt hsub hout
 go_enter Tryz.func103, Tryz.ntmps103
 go_wp2_with (fail)
 rw [← hW]
 clear hW
 refine (HI.out _).mono ?_
 rintro e w' ⟨rfl, rfl⟩
 go_wp2_with (fail)
 go_loopw [43] (fun i wr => ∃ j : Nat, j ≤ nn ∧ i = .int .i64 j ∧ RwF wr (some ad) cap (L.set r ((scaleV p iv V).take j ++ V.drop j)) fq ∧ Keeps (· ∈ fq) W wr ∧ wr.cell? (ad.add r) = some (.slice B nn c)) (fun i _ => nn - (intOf i).toNat)
 case atStart => exact ⟨0, Nat.zero_le _, rfl, by rw [List.take_zero, List.nil_append, List.drop_zero, HV.out, set_getD]; exact hR, Keeps.refl _ _, hcr⟩
 case round =>
  obtain ⟨j, hj, rfl, hOj, hkp, hcj⟩ := hrel
  clear hR hcr hfr
  have hlc : ((scaleV p iv V).take j ++ V.drop j).length = nn := by rw [len_take_drop (by rw [scaleV_length]) (by rw [HVl.out]; exact hj)]; exact HVl.out
  have hm' := HM.out
  by_cases hjn : j < nn
  · obtain ⟨ad4, B4, c4, hA4, hc4, hf4, hI4, _⟩ := hOj.get (i := r) (by rw [List.length_set]; omega)
    obtain rfl := Option.some.inj hA4
    rw [getD_set_self (by omega)] at hc4 hI4
    rw [hlc, hcj] at hc4
    injection hc4 with hc4
    injection hc4 with e1 e2 e3
    subst e1 e3
    obtain ⟨bd, z, hB, hz, hbl, hcz, hfz'⟩ := hI4.at_ (j := j) (by rw [hlc]; exact hjn)
    rw [get_take_drop (by rw [scaleV_length]) (by rw [HVl.out]; exact hjn)] at hz
    have hfz := hfz' j
    have hzb := hVr z (List.mem_of_getElem? hz)
    subst hB
    have hd1 : wr.cell? ⟨w.heap.size, 1, none⟩ = some (.int .i64 r) := keeps_cell hkp c1 (fun hh => by have := HLT.out _ hh; exact absurd this (Nat.lt_irrefl _))
    obtain ⟨hset, hks⟩ := hOj.set (i := r) (by rw [List.length_set]; omega) rfl hcj (j := j) (by rw [getD_set_self (by omega), hlc]; exact hjn) (z * iv % p)
    have hsz : (scaleV p iv V)[j]? = some (z * iv % p) := by simp [scaleV, hz]
    rw [getD_set_self (by omega), List.set_set, take_append_step (by rw [scaleV_length]) hsz] at hset
    have hcn : (wr.setCell (bd.add j) (.int .i64 (z * iv % p))).cell? (ad.add r) = some (.slice (some bd) nn c) := (World.cell?_setCell_far _ _ _ _ (by rw [block_of_add, block_of_add]; exact HOUT.out _ (by simp))).trans hcj
    have HST := lH (And.intro hset.drew (And.intro (hkp.trans hks).drew hcn))
    have hjI : (j : Int) < (nn : Int) := by omega
    obtain ⟨x1, x2⟩ := mul_bound (a := z) (b := iv) hzb.1 (by omega) hi0 (by omega)
    have hp0 : (p == 0) = false := by rw [beq_eq_false_iff_ne]; omega
    clear hset hsz hz hI4 hfz' hlc hOj hm' hkp hks hcn
    go_wp2_with (fail)
    refine wp_region_still_tail 11 (by kernel_rfl) (by kernel_rfl) ?_
    simp only [List.take_succ_cons, List.take_zero, List.drop_succ_cons, List.drop_zero]
    change wpStill _ _ wr.drew (fun a' => wpList _ _ _ _ a' wr.drew) _ _
    have q1 := Int.emod_nonneg (z * iv) (show p ≠ 0 by omega)
    have q2 := Int.emod_lt_of_pos (z * iv) (show 0 < p by omega)
    have ws : IntKind.i64.wrap (z * iv) = z * iv := IntWalk.i64_in _ (by omega)
    have ws2 : IntKind.i64.wrap (z * iv % p) = z * iv % p := IntWalk.i64_in _ (by omega)
    have tm : (z * iv).tmod p = z * iv % p := Int.tmod_eq_emod_of_nonneg x1
    have hpz : ¬ p = 0 := by omega
    repeat still_step
    refine wpStill_nil ?_
    clear ws ws2 tm hpz
    go_wp2_with (fail)
    go_roundw
    case rel => exact ⟨j + 1, by omega, by go_num, HST.out.1, HST.out.2.1, HST.out.2.2⟩
    case measure => simp [intOf]; omega
  · obtain rfl : nn = j := by omega
    have hO2 : RwF wr (some ad) cap (scaleL p r (invM p by_) L) fp := by
     have := hOj
     rw [List.take_of_length_le (by rw [scaleV_length, HVl.out]; omega), List.drop_of_length_le (by rw [HVl.out]; omega), List.append_nil, HV.out, HIV.out] at this
     obtain ⟨hs, e1, e2, e3⟩ := this
     exact ⟨hs, e1, e2, fun b hb => HSUB.out b (e3 b hb)⟩
    have hkk : Keeps (· ∈ fp) w wr := (Keeps.of_below HB.out _).trans (hkp.mono fun b _ hb => HSUB.out b hb)
    clear hOj hlc hm'
    go_wp2_with (fail)
    go_end0
    exact ⟨rfl, hO2, hkk⟩
set_option maxRecDepth 8000 in
set_option maxHeartbeats 2000000 in
theorem applyS_any (p by_ : Int) (i r m nn : Nat) (A : Option Addr) (cap : Nat) (L : List (List Int)) (fp : List Nat) (w : World) (h : RwF w A cap L fp) (hm : Mat p m nn L) (hi : i < m) (hr : r < m) (hne : i ≠ r) (_hml : m ≤ 1048576) (hnl : nn ≤ 1048576) (h2 : 2 ≤ p) (h97 : p ≤ 97) (hb0 : 0 ≤ by_) (hb1 : by_ < p) :
  Calls Tryz.prog 103 #[.agg #[.int .i64 2, .int .i64 i, .int .i64 r, .int .i64 by_], .int .i64 p, .slice A m cap] w fun e w' => e = .returned (.tuple #[]) ∧ RwF w' A cap (L.set i (addT p (L.getD i []) (-by_) (L.getD r []))) fp ∧ Keeps (· ∈ fp) w w' := by
 have hml' := hm.len
 have hbw : Below w.heap.size w (w.alloc (.cells #[.int .i64 2, .int .i64 i, .int .i64 r, .int .i64 by_] tOp)) := (Below.refl _ _).alloc (Nat.le_refl _) _
 obtain ⟨W, hW⟩ : ∃ W, W = w.alloc (.cells #[.int .i64 2, .int .i64 i, .int .i64 r, .int .i64 by_] tOp) := ⟨_, rfl⟩
 have hk : W.heap[w.heap.size]? = some (.cells #[.int .i64 2, .int .i64 i, .int .i64 r, .int .i64 by_] tOp) := by rw [hW]; exact heap_alloc_new w _
 obtain ⟨⟨c0, c1, c2, c3⟩, f0, f1, f2, f3⟩ := box4 hk
 rw [← hW] at hbw
 have hR := h.below hbw
 obtain ⟨ad, B, c, hA, hci, hfi, hIi, _⟩ := hR.get (i := i) (by omega)
 subst hA
 obtain ⟨ad', C, d, hA', hcr, hfr, hIr, _⟩ := hR.get (i := r) (by omega)
 obtain rfl := Option.some.inj hA'
 have hap := hR.apart (i := r) (k := i) (by omega) (by omega) (Ne.symm hne) rfl hcr hci
 have hli := (hm.get hi).1
 have hlr := (hm.get hr).1
 have hC := addTimes_any p (-by_) B C c d (L.getD i []) (L.getD r []) W.drew hIi hIr.rd (fun _ b hb => hap b hb) (by omega) (by omega) (by omega) h97 (hm.get hi).2 (hm.get hr).2 (by omega) (by omega)
 rw [hli, hlr] at hC
 rw [hli] at hci
 rw [hlr] at hcr
 have HW := lH (fun (w' : World) (hw : Wr W.drew w' B (ints (addT p (L.getD i []) (-by_) (L.getD r [])))) => hR.drew.wr (i := i) (by omega) rfl hci (l' := addT p (L.getD i []) (-by_) (L.getD r [])) (by rw [addT_length]) hw)
 have HC := lH hC; have HB := lH hbw
 have hrI : (r : Int) < (m : Int) := by omega
 have hiI : (i : Int) < (m : Int) := by omega
 clear hk h hC hml' hbw hR hIi hIr hap hli hlr hfi hfr
 go_enter Tryz.func103, Tryz.ntmps103
 go_wp2_with (fail)
 rw [← hW]
 clear hW
 refine wp_region_still_tail 14 (by kernel_rfl) (by kernel_rfl) ?_
 simp only [List.take_succ_cons, List.take_zero, List.drop_succ_cons, List.drop_zero]
 change wpStill _ _ W.drew (fun a' => wpList _ _ _ _ a' W.drew) _ _
 repeat still_step
 refine wpStill_nil ?_
 go_wp2_with (fail)
 refine HC.out.mono ?_
 rintro e w' ⟨rfl, hw⟩
 obtain ⟨h1, h2⟩ := HW.out w' hw
 go_wp2_with (fail)
 go_end0
 exact ⟨rfl, h1, (Keeps.of_below HB.out _).trans ((Keeps.refl _ _).drew.trans h2)⟩
structure Cap (w : World) (p : Int) (P4 P5 P7 : Nat) (A : Option Addr) (cap : Nat) (L : List (List Int)) (fp : List Nat) (A' : Option Addr) (cap' : Nat) (K : List (List Int)) (fp' : List Nat) (m : Nat) : Prop where
 c4 : w.cell? ⟨P4, 0, none⟩ = some (.int .i64 p)
 c5 : w.cell? ⟨P5, 0, none⟩ = some (.slice A m cap)
 c7 : w.cell? ⟨P7, 0, none⟩ = some (.slice A' m cap')
 rows : RwF w A cap L fp
 also : RwF w A' cap' K fp'
 ap : ∀ b, b ∈ fp → ¬ b ∈ fp'
 n4 : ¬ P4 ∈ fp ∧ ¬ P4 ∈ fp'
 n5 : ¬ P5 ∈ fp ∧ ¬ P5 ∈ fp'
 n7 : ¬ P7 ∈ fp ∧ ¬ P7 ∈ fp'
section
variable {w w' : World} {p : Int} {P4 P5 P7 : Nat} {A : Option Addr} {cap : Nat} {L L' : List (List Int)} {fp : List Nat} {A' : Option Addr} {cap' : Nat} {K K' : List (List Int)} {fp' : List Nat} {m : Nat}
theorem Cap.below (h : Cap w p P4 P5 P7 A cap L fp A' cap' K fp' m) (hb : Below w.heap.size w w') : Cap w' p P4 P5 P7 A cap L fp A' cap' K fp' m :=
 ⟨(hb.cell (World.block_lt_of_cell? _ _ h.c4)).trans h.c4, (hb.cell (World.block_lt_of_cell? _ _ h.c5)).trans h.c5, (hb.cell (World.block_lt_of_cell? _ _ h.c7)).trans h.c7, h.rows.below hb, h.also.below hb, h.ap, h.n4, h.n5, h.n7⟩
theorem Cap.first (h : Cap w p P4 P5 P7 A cap L fp A' cap' K fp' m) (hR : RwF w' A cap L' fp) (hk : Keeps (· ∈ fp) w w') : Cap w' p P4 P5 P7 A cap L' fp A' cap' K fp' m :=
 ⟨keeps_cell hk h.c4 h.n4.1, keeps_cell hk h.c5 h.n5.1, keeps_cell hk h.c7 h.n7.1, hR, h.also.keeps hk fun b hb hb' => h.ap b hb' hb, h.ap, h.n4, h.n5, h.n7⟩
theorem Cap.second (h : Cap w p P4 P5 P7 A cap L fp A' cap' K fp' m) (hR : RwF w' A' cap' K' fp') (hk : Keeps (· ∈ fp') w w') : Cap w' p P4 P5 P7 A cap L fp A' cap' K' fp' m :=
 ⟨keeps_cell hk h.c4 h.n4.2, keeps_cell hk h.c5 h.n5.2, keeps_cell hk h.c7 h.n7.2, h.rows.keeps hk fun b hb hb' => h.ap b hb hb', hR, h.ap, h.n4, h.n5, h.n7⟩
end
theorem swapL_self (L : List (List Int)) (r : Nat) : swapL L r r = L := by
 unfold swapL; rw [set_getD, set_getD]
set_option maxRecDepth 8000 in
set_option maxHeartbeats 2000000 in
theorem stepX_any (p : Int) (r q m : Nat) (P4 P5 P7 : Nat) (A : Option Addr) (cap : Nat) (L : List (List Int)) (fp : List Nat) (A' : Option Addr) (cap' : Nat) (K : List (List Int)) (fp' : List Nat) (w : World)
  (h : Cap w p P4 P5 P7 A cap L fp A' cap' K fp' m) (hL : L.length = m) (hK : K.length = m) (hr : r < m) (hq : q < m) (hm : m ≤ 1048576) (hnf : ¬ w.heap.size ∈ fp) :
  Calls Tryz.prog 102 #[.agg #[.int .i64 0, .int .i64 r, .int .i64 q, .int .i64 0], .pointer (some ⟨P4, 0, none⟩), .pointer (some ⟨P5, 0, none⟩), .pointer (some ⟨P7, 0, none⟩)] w
   fun e w' => e = .returned (.tuple #[]) ∧ Cap w' p P4 P5 P7 A cap (swapL L r q) fp A' cap' (swapL K r q) fp' m ∧ Keeps (fun b => b ∈ fp ∨ b ∈ fp') w w' := by
 have hbw : Below w.heap.size w (w.alloc (.cells #[.int .i64 0, .int .i64 r, .int .i64 q, .int .i64 0] tOp)) := (Below.refl _ _).alloc (Nat.le_refl _) _
 by_cases hrq : r = q
 · subst hrq
   go_enter Tryz.func102, Tryz.ntmps102
   go_wp2_with (fail)
   refine bodyPost_ret (results_none rfl _ _ _) rfl ?_
   refine ⟨rfl, ?_, Keeps.of_below hbw _⟩
   rw [swapL_self, swapL_self]
   exact h.below hbw
 · have hne : ((q : Int) == (r : Int)) = false := by rw [beq_eq_false_iff_ne]; omega
   have hne2 : ((r : Int) == (q : Int)) = false := by rw [beq_eq_false_iff_ne]; omega
   clear hbw
   have hbw : Below w.heap.size w (w.alloc (.cells #[.int .i64 0, .int .i64 r, .int .i64 q, .int .i64 0] tOp)) := (Below.refl _ _).alloc (Nat.le_refl _) _
   have hW := h.below hbw
   have HB := lH hbw; have HC := lH hW
   have d4 := hW.c4
   have d5 := hW.c5
   have d7 := hW.c7
   clear hbw hW h
   go_enter Tryz.func102, Tryz.ntmps102
   go_wp2_with (fail)
   refine (applyX_any p r q m A cap L fp _ HC.out.rows hL hr hq hm).mono ?_
   rintro e w1 ⟨rfl, h1, k1⟩
   have hF := HC.out.first h1 k1
   have HF := lH hF
   have e4 := hF.c4
   have e5 := hF.c5
   have e7 := hF.c7
   obtain ⟨g0, g1, g2, g3⟩ : w1.cell? ⟨w.heap.size, 0, none⟩ = some (.int .i64 0) ∧ w1.cell? ⟨w.heap.size, 1, none⟩ = some (.int .i64 r) ∧ w1.cell? ⟨w.heap.size, 2, none⟩ = some (.int .i64 q) ∧ w1.cell? ⟨w.heap.size, 3, none⟩ = some (.int .i64 0) := by
    obtain ⟨⟨a0, a1, a2, a3⟩, _⟩ := box4 (heap_alloc_new w (.cells #[.int .i64 0, .int .i64 r, .int .i64 q, .int .i64 0] tOp))
    exact ⟨keeps_cell k1 a0 hnf, keeps_cell k1 a1 hnf, keeps_cell k1 a2 hnf, keeps_cell k1 a3 hnf⟩
   clear d4 d5 d7 hF h1
   go_wp2_with (fail)
   refine (applyX_any p r q m A' cap' K fp' _ HF.out.also hK hr hq hm).mono ?_
   rintro e w2 ⟨rfl, h2, k2⟩
   go_wp2_with (fail)
   go_end0
   exact ⟨rfl, HF.out.second h2 k2, (Keeps.of_below HB.out _).trans ((k1.mono fun b _ hb => .inl hb).trans (k2.mono fun b _ hb => .inr hb))⟩
set_option maxRecDepth 8000 in
set_option maxHeartbeats 2000000 in
theorem stepD_any (p by_ : Int) (r : Nat) (m nn n2 : Nat) (P4 P5 P7 : Nat) (A : Option Addr) (cap : Nat) (L : List (List Int)) (fp : List Nat) (A' : Option Addr) (cap' : Nat) (K : List (List Int)) (fp' : List Nat) (w : World)
  (h : Cap w p P4 P5 P7 A cap L fp A' cap' K fp' m) (hL : Mat p m nn L) (hK : Mat p m n2 K) (hr : r < m) (hm : m ≤ 1048576) (hnl : nn ≤ 1048576) (hn2 : n2 ≤ 1048576) (h2 : 2 ≤ p) (h97 : p ≤ 97) (hb0 : 0 ≤ by_) (hb1 : by_ < p) (hi0 : 0 ≤ invM p by_) (hi1 : invM p by_ < p) (hnf : ¬ w.heap.size ∈ fp) :
  Calls Tryz.prog 102 #[.agg #[.int .i64 1, .int .i64 r, .int .i64 0, .int .i64 by_], .pointer (some ⟨P4, 0, none⟩), .pointer (some ⟨P5, 0, none⟩), .pointer (some ⟨P7, 0, none⟩)] w
   fun e w' => e = .returned (.tuple #[]) ∧ Cap w' p P4 P5 P7 A cap (scaleL p r (invM p by_) L) fp A' cap' (scaleL p r (invM p by_) K) fp' m ∧ Keeps (fun b => b ∈ fp ∨ b ∈ fp') w w' := by
 have hbw : Below w.heap.size w (w.alloc (.cells #[.int .i64 1, .int .i64 r, .int .i64 0, .int .i64 by_] tOp)) := (Below.refl _ _).alloc (Nat.le_refl _) _
 have hW := h.below hbw
 have HB := lH hbw; have HC := lH hW
 have d4 := hW.c4
 have d5 := hW.c5
 have d7 := hW.c7
 clear hbw hW h
 go_enter Tryz.func102, Tryz.ntmps102
 go_wp2_with (fail)
 refine (applyD_any p by_ r m nn A cap L fp _ HC.out.rows hL hr hm hnl h2 h97 hb0 hb1 hi0 hi1).mono ?_
 rintro e w1 ⟨rfl, h1, k1⟩
 have hF := HC.out.first h1 k1
 have HF := lH hF
 have e4 := hF.c4
 have e5 := hF.c5
 have e7 := hF.c7
 obtain ⟨g0, g1, g2, g3⟩ : w1.cell? ⟨w.heap.size, 0, none⟩ = some (.int .i64 1) ∧ w1.cell? ⟨w.heap.size, 1, none⟩ = some (.int .i64 r) ∧ w1.cell? ⟨w.heap.size, 2, none⟩ = some (.int .i64 0) ∧ w1.cell? ⟨w.heap.size, 3, none⟩ = some (.int .i64 by_) := by
  obtain ⟨⟨a0, a1, a2, a3⟩, _⟩ := box4 (heap_alloc_new w (.cells #[.int .i64 1, .int .i64 r, .int .i64 0, .int .i64 by_] tOp))
  exact ⟨keeps_cell k1 a0 hnf, keeps_cell k1 a1 hnf, keeps_cell k1 a2 hnf, keeps_cell k1 a3 hnf⟩
 clear d4 d5 d7 hF h1
 go_wp2_with (fail)
 refine (applyD_any p by_ r m n2 A' cap' K fp' _ HF.out.also hK hr hm hn2 h2 h97 hb0 hb1 hi0 hi1).mono ?_
 rintro e w2 ⟨rfl, h2, k2⟩
 go_wp2_with (fail)
 go_end0
 exact ⟨rfl, HF.out.second h2 k2, (Keeps.of_below HB.out _).trans ((k1.mono fun b _ hb => .inl hb).trans (k2.mono fun b _ hb => .inr hb))⟩
set_option maxRecDepth 8000 in
set_option maxHeartbeats 2000000 in
theorem stepS_any (p by_ : Int) (i r : Nat) (m nn n2 : Nat) (P4 P5 P7 : Nat) (A : Option Addr) (cap : Nat) (L : List (List Int)) (fp : List Nat) (A' : Option Addr) (cap' : Nat) (K : List (List Int)) (fp' : List Nat) (w : World)
  (h : Cap w p P4 P5 P7 A cap L fp A' cap' K fp' m) (hL : Mat p m nn L) (hK : Mat p m n2 K) (hi : i < m) (hr : r < m) (hne : i ≠ r) (hm : m ≤ 1048576) (hnl : nn ≤ 1048576) (hn2 : n2 ≤ 1048576) (h2 : 2 ≤ p) (h97 : p ≤ 97) (hb0 : 0 ≤ by_) (hb1 : by_ < p) (hnf : ¬ w.heap.size ∈ fp) :
  Calls Tryz.prog 102 #[.agg #[.int .i64 2, .int .i64 i, .int .i64 r, .int .i64 by_], .pointer (some ⟨P4, 0, none⟩), .pointer (some ⟨P5, 0, none⟩), .pointer (some ⟨P7, 0, none⟩)] w
   fun e w' => e = .returned (.tuple #[]) ∧ Cap w' p P4 P5 P7 A cap (L.set i (addT p (L.getD i []) (-by_) (L.getD r []))) fp A' cap' (K.set i (addT p (K.getD i []) (-by_) (K.getD r []))) fp' m ∧ Keeps (fun b => b ∈ fp ∨ b ∈ fp') w w' := by
 have hbw : Below w.heap.size w (w.alloc (.cells #[.int .i64 2, .int .i64 i, .int .i64 r, .int .i64 by_] tOp)) := (Below.refl _ _).alloc (Nat.le_refl _) _
 have hW := h.below hbw
 have HB := lH hbw; have HC := lH hW
 have d4 := hW.c4
 have d5 := hW.c5
 have d7 := hW.c7
 clear hbw hW h
 go_enter Tryz.func102, Tryz.ntmps102
 go_wp2_with (fail)
 refine (applyS_any p by_ i r m nn A cap L fp _ HC.out.rows hL hi hr hne hm hnl h2 h97 hb0 hb1).mono ?_
 rintro e w1 ⟨rfl, h1, k1⟩
 have hF := HC.out.first h1 k1
 have HF := lH hF
 have e4 := hF.c4
 have e5 := hF.c5
 have e7 := hF.c7
 obtain ⟨g0, g1, g2, g3⟩ : w1.cell? ⟨w.heap.size, 0, none⟩ = some (.int .i64 2) ∧ w1.cell? ⟨w.heap.size, 1, none⟩ = some (.int .i64 i) ∧ w1.cell? ⟨w.heap.size, 2, none⟩ = some (.int .i64 r) ∧ w1.cell? ⟨w.heap.size, 3, none⟩ = some (.int .i64 by_) := by
  obtain ⟨⟨a0, a1, a2, a3⟩, _⟩ := box4 (heap_alloc_new w (.cells #[.int .i64 2, .int .i64 i, .int .i64 r, .int .i64 by_] tOp))
  exact ⟨keeps_cell k1 a0 hnf, keeps_cell k1 a1 hnf, keeps_cell k1 a2 hnf, keeps_cell k1 a3 hnf⟩
 clear d4 d5 d7 hF h1
 go_wp2_with (fail)
 refine (applyS_any p by_ i r m n2 A' cap' K fp' _ HF.out.also hK hi hr hne hm hn2 h2 h97 hb0 hb1).mono ?_
 rintro e w2 ⟨rfl, h2, k2⟩
 go_wp2_with (fail)
 go_end0
 exact ⟨rfl, HF.out.second h2 k2, (Keeps.of_below HB.out _).trans ((k1.mono fun b _ hb => .inl hb).trans (k2.mono fun b _ hb => .inr hb))⟩
theorem stillC2 {P : Program} {f : FuncId} {args : Array Value} {w : World} {v : Value} (h : Calls P f args w fun e w' => e = .returned v ∧ w = w') : Calls P f args w fun e w'' => e = .returned v ∧ w'' = w :=
 h.mono fun _ _ ⟨h1, h2⟩ => ⟨h1, h2.symm⟩
theorem pvFrom_eq {L : List (List Int)} {c m k : Nat} (hk : k < m) (h : en L k c = 0) : pvFrom L c (m - k) k = pvFrom L c (m - (k + 1)) (k + 1) := by
 obtain ⟨f, hf⟩ : ∃ f, m - k = f + 1 := ⟨m - k - 1, by omega⟩
 rw [hf, pvFrom, if_pos h, show f = m - (k + 1) by omega]
theorem pvFrom_hit {L : List (List Int)} {c m k : Nat} (hk : k < m) (h : en L k c ≠ 0) : pvFrom L c (m - k) k = k := by
 obtain ⟨f, hf⟩ : ∃ f, m - k = f + 1 := ⟨m - k - 1, by omega⟩
 rw [hf, pvFrom, if_neg h]
theorem pvFrom_end {L : List (List Int)} {c m : Nat} : pvFrom L c (m - m) m = m := by rw [Nat.sub_self]; rfl
set_option maxRecDepth 100000 in
set_option maxHeartbeats 4000000 in
theorem spReduce_any (p : Int) (n : Nat) (A : Option Addr) (c : Nat) (hs : List Hd) (w : World) (h : RdR w A hs) (hp : fieldB p = true) (hm : Mat p hs.length n (hs.map fun h : Hd => h.2.2)) (hl : hs.length ≤ 1048576) (hn : n ≤ 1048576) :
  Calls Tryz.prog 36 #[.int .i64 p, .int .i64 n, .slice A hs.length c] w (RetSS w (redM p n (hs.map fun h : Hd => h.2.2))) := by
 obtain ⟨L, hLh⟩ : ∃ L, L = hs.map fun h : Hd => h.2.2 := ⟨_, rfl⟩
 rw [← hLh] at hm ⊢
 obtain ⟨m, hmm⟩ : ∃ m, m = hs.length := ⟨_, rfl⟩
 rw [← hmm] at hm hl ⊢
 have HLh := lH hLh; have HM := lH hmm; have HMat := lH hm
 have hpb := fieldB_bounds hp
 have HP := lH hp; have hLen := lH hm.len; clear hLh hmm hm hp
 go_enter Tryz.func36, Tryz.ntmps36
 go_wp2_with (fail)
 go_loopw [21, 7] (fun i v wr => ∃ (k : Nat) (A' : Option Addr) (c' : Nat), k ≤ m ∧ i = .int .i64 k ∧ v = .slice A' k c' ∧ OM w wr A' c' (L.take k)) (fun i _ _ => m - (intOf i).toNat)
 case atStart => exact ⟨0, none, 0, Nat.zero_le _, rfl, rfl, by simpa using OM.nil w⟩
 case round =>
  obtain ⟨k, A', c', hk, rfl, rfl, hOM⟩ := hrel
  by_cases hlt : k < m
  · obtain ⟨ad, B, d, l, rfl, hx, hc, hri⟩ := (h.below hOM.below_).at_ (k := k) (by rw [← HM.out]; exact hlt)
    have hlx : L[k]? = some l := by rw [HLh.out, List.getElem?_map, hx]; rfl
    have hln : l.length = n := (HMat.out.row l (List.mem_of_getElem? hlx)).1
    have hll : l.length ≤ 1048576 := by omega
    obtain ⟨gs, hLg, hO, hf, h0⟩ := hOM
    have hgl : gs.length = k := by
     have := congrArg List.length hLg
     rw [List.length_take, hLen.out, List.length_map] at this
     omega
    have HX := lH hlx; have HG := lH hLg; have HGL := lH hgl; have HLN := lH hln
    have hkI : (k : Int) < (m : Int) := by omega
    have hC := l1Own_any B d l wr hri (by omega)
    have HC := lH hC; clear hx hlx hLg hgl hln hC h
    go_wp2_with (fail)
    refine HC.out.mono ?_
    rintro e w1 ⟨B1, c1, rfl, hi1, hf1, hb1⟩
    have hsl : Sl (w1.alloc (.cells #[.slice B1 l.length c1] 23)) 23 1 A' k c' (gs.map Hd.val) := by
     have := (hO.sl.below hb1).alloc (.cells #[.slice B1 l.length c1] 23)
     rwa [HGL.out] at this
    go_wp2_with (at_builtin; refine wpList_append_Sl _ rfl _ _ _ rfl 23 Tryz.underlying52 info_ints rfl (by omega) rfl hsl rfl (news := [.slice B1 l.length c1]) rfl (Sl.rdc (Sl.laid w1 23 1 1 #[.slice B1 l.length c1] (by unfold maxLen; omega) rfl)) (by intro u hu; simp at hu; subst hu; rfl) (by unfold maxLen; omega) (by omega) ?_; intro A2 c2 w2 hs2 hA2 hk2)
    have hal : Below w1.heap.size w1 (w1.alloc (.cells #[.slice B1 l.length c1] 23)) := (Below.refl _ _).alloc (Nat.le_refl _) _
    have hOM2 := OM.snoc (w1 := w1.alloc (.cells #[.slice B1 l.length c1] 23)) HG.out hO hf h0 (below_trans hb1 hal hb1.size) (hi1.below hal) hf1 (by rw [HGL.out]) hs2 hA2 hk2
    have HO := lH hOM2; clear hOM2 hs2 hsl hO hf
    go_roundw
    case rel => exact ⟨k + 1, A2, c2, by omega, by go_num, rfl, by rw [List.take_add_one, HX.out]; exact HO.out⟩
    case measure => simp [intOf]; omega
  · obtain rfl : k = m := by omega
    have hOM' : OM w wr A' c' L := by have := hOM; rwa [List.take_of_length_le (by rw [hLen.out]; omega)] at this
    clear hOM h
    go_wp2_with (fail)
    go_loopw [11, 10] (fun ci ri wr => ∃ (col R : Nat) (M : List (List Int)), col ≤ n ∧ ci = .int .i64 col ∧ ri = .int .i64 R ∧ (redTo p L [] col).1 = R ∧ (redTo p L [] col).2.1 = M ∧ OM w wr A' c' M) (fun ci _ _ => n - (intOf ci).toNat)
    case atStart => exact ⟨0, 0, L, Nat.zero_le _, rfl, rfl, rfl, rfl, hOM'⟩
    case round =>
     clear hOM'
     obtain ⟨col, R, M, hcol, rfl, rfl, hR, hMd, hOM⟩ := hrel
     obtain ⟨hMm, hRm⟩ := redTo_mat HP.out HMat.out [] hcol
     rw [hMd] at hMm
     rw [hR] at hRm
     have HR := lH hR; have HMd := lH hMd; have HMm := lH hMm; have HMl := lH hMm.len; clear hR hMd hMm
     by_cases hgo : col < n ∧ R < k
     case neg =>
      -- the end
      have hend : redM p n L = M.take R := by
       unfold redM
       by_cases hc : col < n
       · have hRk : R = k := by omega
         have hs := redTo_stable (p := p) (L := L) (A := []) (c := col) (by rw [HR.out, HMd.out, HMl.out]; omega) (n - col)
         rw [show col + (n - col) = n by omega] at hs
         rw [hs, HR.out, HMd.out]
       · obtain rfl : col = n := by omega
         rw [HR.out, HMd.out]
      have HE := lH hend
      obtain ⟨gs, hLg, hO, hf, h0⟩ := hOM
      have hgl : gs.length = k := by
       have := congrArg List.length hLg
       rw [HMl.out, List.length_map] at this; omega
      have HG := lH hLg; have HGL := lH hgl
      have hsl : Sl wr 23 1 A' k c' (gs.map Hd.val) := by have := hO.sl; rwa [hgl] at this
      have hRI : (R : Int) ≤ (k : Int) := by omega
      clear hLg hgl hend
      by_cases hc : col < n
      · have hRk : ¬ ((R : Int) < (k : Int)) := by omega
        go_wp2_with (refine wpList_slice_Sl rfl (.tmp 174) none (some (.tmp 175)) none 52 rfl 23 Tryz.underlying52 info_ints rfl hsl 0 R c' (optNone rfl) (optSome (by omega)) (optNone rfl) (by omega) (by omega) (by have := hsl.2.1; omega) (Nat.le_refl _) ?_; intro A2 hcut hfp _)
        go_ret
        have hT := OM.take (k := R) (m := c') (A' := A2) HG.out hO hf h0 (by rw [HGL.out]; omega) (by rw [List.map_take]; simpa using hcut) hfp
        have hlen : (M.take R).length = R := by rw [List.length_take, HMl.out]; omega
        have hr := hT.ret
        rw [hlen] at hr
        rw [HE.out]
        exact hr
      · have hcI : ¬ ((col : Int) < (n : Int)) := by omega
        go_wp2_with (refine wpList_slice_Sl rfl (.tmp 174) none (some (.tmp 175)) none 52 rfl 23 Tryz.underlying52 info_ints rfl hsl 0 R c' (optNone rfl) (optSome (by omega)) (optNone rfl) (by omega) (by omega) (by have := hsl.2.1; omega) (Nat.le_refl _) ?_; intro A2 hcut hfp _)
        go_ret
        have hT := OM.take (k := R) (m := c') (A' := A2) HG.out hO hf h0 (by rw [HGL.out]; omega) (by rw [List.map_take]; simpa using hcut) hfp
        have hlen : (M.take R).length = R := by rw [List.length_take, HMl.out]; omega
        have hr := hT.ret
        rw [hlen] at hr
        rw [HE.out]
        exact hr
     case pos =>
      obtain ⟨hcn, hRk⟩ := hgo
      have hcI : (col : Int) < (n : Int) := by omega
      have hRI : (R : Int) < (k : Int) := by omega
      go_wp2_with (fail)
      go_loop [12] (fun v => ∃ q : Nat, R ≤ q ∧ q ≤ k ∧ v = .int .i64 q ∧ pvFrom M col (k - q) q = pvFrom M col (k - R) R) (fun v => k - (intOf v).toNat)
      case atStart => exact ⟨R, Nat.le_refl _, by omega, rfl, rfl⟩
      case round =>
       obtain ⟨q, hRq, hqk, rfl, hpv⟩ := hrel
       have HPV := lH hpv; clear hpv
       by_cases hlt : q < k
       · obtain ⟨ad, B, d, hA', hcq, hfq, hIq⟩ := hOM.get (i := q) (by rw [HMl.out]; exact hlt)
         have hrl := (HMm.out.get hlt).1
         obtain ⟨bd, x, hB, hx, _, hcx, _⟩ := hIq.at_ (j := col) (by rw [hrl]; exact hcn)
         have hxe : x = en M q col := by unfold en; simp [List.getD] at hx ⊢; rw [hx]; rfl
         have hxb := HMm.out.en (by omega) hlt col
         rw [← hxe] at hxb
         rw [hrl] at hcq
         have HXE := lH hxe; have HA' := lH hA'
         have hqI : (q : Int) < (k : Int) := by omega
         subst hA'
         subst hB
         by_cases hx0 : x = 0
         · subst hx0
           have hpn := pvFrom_eq hlt HXE.out.symm
           have HPN := lH hpn; clear hpn hxe hIq hOM hrl hx hfq
           go_wp2_with (fail)
           go_round
           case rel => exact ⟨q + 1, by omega, by omega, by go_num, by rw [← HPN.out]; exact HPV.out⟩
           case measure => simp [intOf]; omega
         · have hx1 : (x == 0) = false := by rw [beq_eq_false_iff_ne]; exact hx0
           have hpn : pvFrom M col (k - R) R = q := by rw [← HPV.out]; exact pvFrom_hit hlt (by rw [← HXE.out]; exact hx0)
           have HPN := lH hpn
           obtain ⟨ad2, BR, cR, hA2, hcR, hfR, _⟩ := hOM.get (i := R) (by rw [HMl.out]; omega)
           obtain rfl := Option.some.inj hA2
           rw [(HMm.out.get (show R < k by omega)).1] at hcR
           have hOS := hOM.swap (r := R) (k := q) (by rw [HMl.out]; omega) (by rw [HMl.out]; omega) rfl hcq hcR
           have hSm := HMm.out.swap (r := R) (k := q) (by omega) (by omega)
           obtain ⟨S, hS⟩ : ∃ S, S = swapL M R q := ⟨_, rfl⟩
           have hSx : en S R col = x := by
            rw [hxe, hS]; unfold en
            rw [swapL_get (by rw [HMl.out]; omega) (by rw [HMl.out]; omega)]
            by_cases e : R = q
            · rw [if_pos e, e]
            · rw [if_neg e, if_pos rfl]
           rw [← hS] at hOS hSm
           obtain ⟨ad3, B3, c3, hA3, hc3, hf3, hI3⟩ := hOS.get (i := R) (by rw [hSm.len]; omega)
           obtain rfl := Option.some.inj hA3
           have hl3 := (hSm.get (show R < k by omega)).1
           obtain ⟨b3, y, hB3, hy, _, hcy, _⟩ := hI3.at_ (j := col) (by rw [hl3]; exact hcn)
           have hyx : y = x := by rw [← hSx]; unfold en; simp [List.getD] at hy ⊢; rw [hy]; rfl
           subst hyx
           subst hB3
           rw [hl3] at hc3
           have hcq2 : ((wr.setCell (ad.add R) (.slice (some bd) n d)).cell? (ad.add q)).isSome = true := by
            by_cases e : ad.add R = ad.add q
            · rw [e, World.cell?_setCell_same' _ _ _ (by rw [hcq]; rfl)]; rfl
            · rw [World.cell?_setCell_other _ _ _ _ e, hcq]; rfl
           obtain ⟨V2, hcq2⟩ := Option.isSome_iff_exists.1 hcq2
           have HS := lH hS; have HSm := lH hSm; have HOS := lH hOS; have HSX := lH hSx; have HL3 := lH hl3; clear hpn HPV hxe hIq hOM hrl hx hS hSm hOS hSx hI3 hl3 hy hf3
           have hy1 : 1 ≤ y := by omega
           have hy2 : y < p := hxb.2
           obtain ⟨W2, hW2⟩ : ∃ W2, W2 = (wr.setCell (ad.add R) (.slice (some bd) n d)).setCell (ad.add q) (.slice BR n cR) := ⟨_, rfl⟩
           rw [← hW2] at hc3 hcy
           have hOS2 : OM w W2 (some ad) c' S := by rw [hW2]; exact HOS.out
           have HOS2 := lH hOS2
           obtain ⟨iv, hiv⟩ : ∃ iv, iv = invM p y := ⟨_, rfl⟩
           have hinv := invM_spec HP.out hy1 hy2
           rw [← hiv] at hinv
           have hiv1 := hinv.2.1
           have hiv2 := hinv.2.2
           have HIV := lH hiv
           have hI := fdInv_any p y W2 HP.out hy1 hy2
           rw [← hiv] at hI
           have HI := lH hI; clear hinv hiv HOS hOS2 hI
           rw [hW2] at hc3 hcy
           go_wp2_with (fail)
           rw [← hW2] at hc3 hcy ⊢
           clear hW2 hcq2 hcR hfR hcq hcx hfq
           refine HI.out.mono ?_
           clear HI
           rintro e w' ⟨rfl, rfl⟩
           go_wp2_with (fail)
           obtain ⟨V, hVd⟩ : ∃ V, V = S.getD R [] := ⟨_, rfl⟩
           have hVl : V.length = n := by rw [hVd]; exact HL3.out
           have hVr : Res p V := by rw [hVd]; exact (HSm.out.get hRk).2
           have HVd := lH hVd; have HVl := lH hVl; clear hVd hVl hc3 hcy
           go_loopw [92] (fun i wr3 => ∃ j : Nat, j ≤ n ∧ i = .int .i64 j ∧ OM w wr3 (some ad) c' (S.set R ((scaleV p iv V).take j ++ V.drop j))) (fun i _ => n - (intOf i).toNat)
           case atStart => exact ⟨0, Nat.zero_le _, rfl, by rw [List.take_zero, List.nil_append, List.drop_zero, HVd.out, set_getD]; exact HOS2.out⟩
           case round =>
            obtain ⟨j, hj, rfl, hOj⟩ := hrel
            have hlc : ((scaleV p iv V).take j ++ V.drop j).length = n := by rw [len_take_drop (by rw [scaleV_length]) (by rw [HVl.out]; exact hj)]; exact HVl.out
            by_cases hjn : j < n
            · obtain ⟨ad4, B4, c4, hA4, hc4, hf4, hI4⟩ := hOj.get (i := R) (by rw [List.length_set, HSm.out.len]; omega)
              obtain rfl := Option.some.inj hA4
              rw [getD_set_self (by rw [HSm.out.len]; omega)] at hc4 hI4
              obtain ⟨b4, z, hB4, hz, hbl, hcz, hfz'⟩ := hI4.at_ (j := j) (by rw [hlc]; exact hjn)
              rw [get_take_drop (by rw [scaleV_length]) (by rw [HVl.out]; exact hjn)] at hz
              have hfz := hfz' j
              have hzb := hVr z (List.mem_of_getElem? hz)
              subst hB4
              have hset := hOj.set (i := R) (by rw [List.length_set, HSm.out.len]; omega) rfl hc4 (j := j) (by rw [getD_set_self (by rw [HSm.out.len]; omega), hlc]; exact hjn) (z * iv % p)
              have hsz : (scaleV p iv V)[j]? = some (z * iv % p) := by simp [scaleV, hz]
              rw [getD_set_self (by rw [HSm.out.len]; omega), List.set_set, take_append_step (by rw [scaleV_length]) hsz] at hset
              rw [hlc] at hc4
              have HST := lH hset
              have hjI : (j : Int) < (n : Int) := by omega
              have C1 := lH (stillC2 (fdMul_any p z iv wr.drew (by omega) hzb.1 (by omega) (by omega) (by omega)))
              clear hset hsz hz hI4 hfz' hlc hOj
              go_wp2_with (fail)
              refine wp_region_still_tail 15 (by kernel_rfl) (by kernel_rfl) ?_
              simp only [List.take_succ_cons, List.take_zero, List.drop_succ_cons, List.drop_zero]
              change wpStill _ _ wr.drew (fun a' => wpList _ _ _ _ a' wr.drew) _ _
              repeat still_step
              still_call C1.out
              repeat still_step
              refine wpStill_nil ?_
              go_wp2_with (fail)
              go_roundw
              case rel => exact ⟨j + 1, by omega, by go_num, HST.out.drew⟩
              case measure => simp [intOf]; omega
            · obtain rfl : n = j := by omega
              obtain ⟨M2, hM2⟩ : ∃ M2, M2 = scaleL p R iv S := ⟨_, rfl⟩
              have hO2 : OM w wr (some ad) c' M2 := by
               have := hOj
               rw [List.take_of_length_le (by rw [scaleV_length, HVl.out]; omega), List.drop_of_length_le (by rw [HVl.out]; omega), List.append_nil, HVd.out] at this
               rw [hM2]; exact this
              have hm2 : Mat p k n M2 := by rw [hM2]; exact HSm.out.scale (by omega) hRk iv
              have HM2 := lH hM2; have Hm2 := lH hm2; have hml2 := lH hm2.len; clear hM2 hm2 hOj hlc
              go_wp2_with (fail)
              go_loopw [114] (fun i wr5 => ∃ g : Nat, g ≤ k ∧ i = .int .i64 g ∧ OM w wr5 (some ad) c' (elimTo p R (fun i => en M2 i col) M2 g)) (fun i _ => k - (intOf i).toNat)
              case atStart => exact ⟨0, Nat.zero_le _, rfl, by rw [elimTo_zero]; exact hO2⟩
              case round =>
               clear hO2
               obtain ⟨g, hg, rfl, hOg⟩ := hrel
               have hEm := Hm2.out.elim (r := R) (q := g) (f := fun i => en M2 i col) (by omega)
               by_cases hgk : g < k
               · have hgI : (g : Int) < (k : Int) := by omega
                 by_cases hgR : g = R
                 · have hb : ((g : Int) == (R : Int)) = true := by rw [beq_iff_eq]; omega
                   have hsk := elimTo_skip (p := p) (L := M2) (f := fun i => en M2 i col) (.inl hgR)
                   have HSK := lH hsk; have HGR := lH hgR; clear hsk hgR hEm
                   go_wp2_with (fail)
                   go_roundw
                   case rel => exact ⟨g + 1, by omega, by go_num, by rw [HSK.out]; exact hOg⟩
                   case measure => simp [intOf]; omega
                 · have hb : ((g : Int) == (R : Int)) = false := by rw [beq_eq_false_iff_ne]; omega
                   have hml2' := hml2.out
                   obtain ⟨ad4, B4, c4, hA4, hc4, hf4, hI4⟩ := hOg.get (i := g) (by rw [elimTo_length, hml2']; exact hgk)
                   obtain rfl := Option.some.inj hA4
                   rw [elimTo_at (by rw [hml2']; exact hgk)] at hc4 hI4
                   have hgl := (Hm2.out.get hgk).1
                   rw [hgl] at hc4
                   obtain ⟨b4, x2, hB4, hx2, _, hcx2, _⟩ := hI4.at_ (j := col) (by rw [hgl]; exact hcn)
                   have hx2e : x2 = en M2 g col := by unfold en; simp [List.getD] at hx2 ⊢; rw [hx2]; rfl
                   have hx2b := Hm2.out.en (by omega) hgk col
                   rw [← hx2e] at hx2b
                   subst hB4
                   have HX2 := lH hx2e; have HML := lH hml2'; clear hI4 hx2 hx2e hml2' hgl
                   by_cases hx20 : x2 = 0
                   · subst hx20
                     have hsk := elimTo_skip (p := p) (r := R) (q := g) (L := M2) (f := fun i => en M2 i col) (.inr HX2.out.symm)
                     have HSK := lH hsk; clear hsk hEm
                     go_wp2_with (fail)
                     go_roundw
                     case rel => exact ⟨g + 1, by omega, by go_num, by rw [HSK.out]; exact hOg⟩
                     case measure => simp [intOf]; omega
                   · have hx21 : (x2 == 0) = false := by rw [beq_eq_false_iff_ne]; exact hx20
                     have hst := elimTo_step (p := p) (r := R) (q := g) (L := M2) (f := fun i => en M2 i col) (by rw [HML.out]; exact hgk) hgR (by rw [← HX2.out]; exact hx20)
                     obtain ⟨E, hE⟩ : ∃ E, E = elimTo p R (fun i => en M2 i col) M2 g := ⟨_, rfl⟩
                     rw [← hE] at hOg hEm hst
                     obtain ⟨Vg, hVg⟩ : ∃ Vg, Vg = M2.getD g [] := ⟨_, rfl⟩
                     obtain ⟨VR, hVR⟩ : ∃ VR, VR = M2.getD R [] := ⟨_, rfl⟩
                     have hst' : elimTo p R (fun i => en M2 i col) M2 (g + 1) = E.set g (addT p Vg (-x2) VR) := by rw [hst, hVg, hVR, HX2.out]
                     have hEg : E.getD g [] = Vg := by rw [hE, elimTo_at (by rw [HML.out]; exact hgk), hVg]
                     have hER : E.getD R [] = VR := by rw [hE, elimTo_piv (by rw [HML.out]; exact hRk), hVR]
                     have hVgl : Vg.length = n := by rw [hVg]; exact (Hm2.out.get hgk).1
                     have hVRl : VR.length = n := by rw [hVR]; exact (Hm2.out.get hRk).1
                     have hVgr : Res p Vg := by rw [hVg]; exact (Hm2.out.get hgk).2
                     have hVRr : Res p VR := by rw [hVR]; exact (Hm2.out.get hRk).2
                     have HST := lH hst'; have HEG := lH hEg; have HER := lH hER; have HVGL := lH hVgl; have HVRL := lH hVRl; have HEL := lH hEm.len; have HOG := lH hOg; have HGR := lH hgR; clear hst hst' hEg hER hVgl hVRl hE hVg hVR hEm hOg hgR
                     go_wp2_with (fail)
                     clear hc4 hf4 hcx2
                     go_loopw [142] (fun i wr6 => ∃ j : Nat, j ≤ n ∧ i = .int .i64 j ∧ OM w wr6 (some ad) c' (E.set g ((addT p Vg (-x2) VR).take j ++ Vg.drop j))) (fun i _ => n - (intOf i).toNat)
                     case atStart => exact ⟨0, Nat.zero_le _, rfl, by rw [List.take_zero, List.nil_append, List.drop_zero, ← HEG.out, set_getD]; exact HOG.out⟩
                     case round =>
                      obtain ⟨j, hj, rfl, hOj⟩ := hrel
                      have hlc : ((addT p Vg (-x2) VR).take j ++ Vg.drop j).length = n := by rw [len_take_drop (by rw [addT_length]) (by rw [HVGL.out]; exact hj)]; exact HVGL.out
                      by_cases hjn : j < n
                      · obtain ⟨ad4, B4, c4, hA4, hc4, hf4, hI4⟩ := hOj.get (i := g) (by rw [List.length_set, HEL.out]; exact hgk)
                        obtain rfl := Option.some.inj hA4
                        rw [getD_set_self (by rw [HEL.out]; exact hgk)] at hc4 hI4
                        obtain ⟨b4, z, hB4, hz, _, hcz, hfz'⟩ := hI4.at_ (j := j) (by rw [hlc]; exact hjn)
                        rw [get_take_drop (by rw [addT_length]) (by rw [HVGL.out]; exact hjn)] at hz
                        have hfz := hfz' j
                        have hzb := hVgr z (List.mem_of_getElem? hz)
                        obtain ⟨ad5, B5, c5, hA5, hc5, hf5, hI5⟩ := hOj.get (i := R) (by rw [List.length_set, HEL.out]; exact hRk)
                        obtain rfl := Option.some.inj hA5
                        rw [getD_set_ne' HGR.out, HER.out] at hc5 hI5
                        obtain ⟨b5, y2, hB5, hy2', _, hcy2, _⟩ := hI5.at_ (j := j) (by rw [HVRL.out]; exact hjn)
                        have hyb := hVRr y2 (List.mem_of_getElem? hy2')
                        rw [HVRL.out] at hc5
                        subst hB4
                        subst hB5
                        have hset := hOj.set (i := g) (by rw [List.length_set, HEL.out]; exact hgk) rfl hc4 (j := j) (by rw [getD_set_self (by rw [HEL.out]; exact hgk), hlc]; exact hjn) ((z - x2 * y2) % p)
                        have hsz : (addT p Vg (-x2) VR)[j]? = some ((z - x2 * y2) % p) := by rw [show z - x2 * y2 = z + -x2 * y2 by rw [Int.neg_mul]; omega]; exact addT_get hz hy2'
                        rw [getD_set_self (by rw [HEL.out]; exact hgk), List.set_set, take_append_step (by rw [addT_length]) hsz] at hset
                        rw [hlc] at hc4
                        have HSE := lH hset
                        have hjI : (j : Int) < (n : Int) := by omega
                        have q1 := Int.emod_nonneg (x2 * y2) (show p ≠ 0 by omega)
                        have q2 := Int.emod_lt_of_pos (x2 * y2) (show 0 < p by omega)
                        have C1 := lH (stillC2 (fdMul_any p x2 y2 wr.drew (by omega) hx2b.1 (by omega) hyb.1 (by omega)))
                        have C2 := lH (stillC2 (fdSub_any p z (x2 * y2 % p) wr.drew (by omega) (by omega) hzb.1 (by omega) (by omega) (by omega)))
                        clear hset hsz hz hI4 hfz' hlc hOj hI5 hy2' hf4 hf5
                        go_wp2_with (fail)
                        refine wp_region_still_tail 24 (by kernel_rfl) (by kernel_rfl) ?_
                        simp only [List.take_succ_cons, List.take_zero, List.drop_succ_cons, List.drop_zero]
                        change wpStill _ _ wr.drew (fun a' => wpList _ _ _ _ a' wr.drew) _ _
                        repeat still_step
                        still_call C1.out
                        repeat still_step
                        still_call C2.out
                        repeat still_step
                        refine wpStill_nil ?_
                        go_wp2_with (fail)
                        go_roundw
                        case rel => exact ⟨j + 1, by omega, by go_num, HSE.out.drew⟩
                        case measure => simp [intOf]; omega
                      · obtain rfl : n = j := by omega
                        have hO6 : OM w wr (some ad) c' (elimTo p R (fun i => en M2 i col) M2 (g + 1)) := by
                         have := hOj
                         rw [List.take_of_length_le (by rw [addT_length, HVGL.out]; omega), List.drop_of_length_le (by rw [HVGL.out]; omega), List.append_nil] at this
                         rw [HST.out]; exact this
                        clear hOj hlc
                        go_wp2_with (fail)
                        go_roundw
                        case rel => exact ⟨g + 1, by omega, by go_num, hO6⟩
                        case measure => simp [intOf]; omega
               · obtain rfl : k = g := by omega
                 obtain ⟨e1, e2, _⟩ := redTo_some (p := p) (L := L) (A := []) (c := col) (k := q) (by rw [HMd.out, HR.out, HMl.out]; exact HPN.out) (by rw [HMd.out, HMl.out]; omega) (M := M2) (by rw [HM2.out, HMd.out, HR.out, HS.out, HIV.out, HXE.out])
                 rw [HR.out] at e1 e2
                 rw [hml2.out] at e2
                 have E1 := lH e1; have E2 := lH e2; clear e1 e2 hEm
                 go_wp2_with (fail)
                 go_roundw
                 case rel => exact ⟨col + 1, R + 1, _, by omega, by go_num, by go_num, E1.out, E2.out, hOg⟩
                 case measure => simp [intOf]; omega
       · obtain rfl : q = k := by omega
         have hpn : ¬ pvFrom M col (M.length - R) R < M.length := by rw [HMl.out, ← HPV.out, pvFrom_end]; omega
         have hred := redTo_none (p := p) (L := L) (A := []) (c := col) (by rw [HMd.out, HR.out]; exact hpn)
         have HRD := lH hred; clear hpn hred
         go_wp2_with (fail)
         go_roundw
         case rel => exact ⟨col + 1, R, M, by omega, by go_num, rfl, by rw [HRD.out]; exact HR.out, by rw [HRD.out]; exact HMd.out, hOM⟩
         case measure => simp [intOf]; omega
end Go.Proofs.YtjompikdkhhlgaaGreatDoor
