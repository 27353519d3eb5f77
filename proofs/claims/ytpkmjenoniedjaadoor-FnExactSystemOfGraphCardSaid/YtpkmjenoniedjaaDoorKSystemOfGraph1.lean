/-
  What the texts above it need, part 1.
-/
import Derived.Test.YtpkmjenoniedjaaDoorRows
import Derived.WalkKit
import Derived.WalkSpells
import Derived.WalkLawsBesides
import Derived.Deep.Draws
import Derived.Lib.Hide
import Derived.Deep.OwnRows
import Derived.Deep.QuietTactic
import Derived.BigQuiet
import Derived.Deep.LoopGhost
import Derived.StillTail
import Derived.KernelRfl
import Derived.OrdersHeld
import Derived.StillTailTactics
import Derived.IntWalk
import Derived.Outline
import Derived.Maps.RangeWalk
import Derived.Maps.OwnSet
import Derived.Deep.DeepCutAuto
import Derived.Deep.WholeRow
import Derived.Deep.RegionHeld
import Derived.Stop.BytesEq
namespace Go.Proofs.YtpkmjenoniedjaaDoor
open Go.RowKit
theorem nS {α : Type} : (∀ (l : List α) (i : Nat) (a : α), l.toArray.setIfInBounds i a = (l.set i a).toArray) ∧ (∀ (x a : α) (l : List α), (x :: l).set 0 a = a :: l) ∧ ∀ (x a : α) (l : List α) (n : Nat), (x :: l).set (n + 1) a = x :: l.set n a := ⟨fun _ _ _ => List.setIfInBounds_toArray .., fun _ _ _ => List.set_cons_zero .., fun _ _ _ _ => List.set_cons_succ ..⟩
theorem lH {p : Prop} (h : p) : RowKit.Hid p := h
end Go.Proofs.YtpkmjenoniedjaaDoor

namespace Go.Proofs.YtpkmjenoniedjaaDoor
open Go.RowKit
theorem ret_bool {a b : Bool} (h : a = b) : Ending.returned (.bool a) = .returned (.bool b) := by rw [h]
theorem ret_int {k : IntKind} {a b : Int} (h : a = b) : Ending.returned (.int k a) = .returned (.int k b) := by rw [h]
theorem block_of_add (a : Addr) (n : Nat) : (a.add n).block = a.block := by unfold Addr.add; split <;> rfl
theorem add_of_add (a : Addr) (i j : Nat) : (a.add i).add j = a.add (i + j) := by
 unfold Addr.add
 by_cases hi : i = 0 <;> by_cases hj : j = 0 <;> simp [hi, hj, Nat.add_assoc]
def fpA (A : Option Addr) : List Nat := A.toList.map (·.block)
@[simp] theorem fpA_none : fpA none = [] := rfl
@[simp] theorem fpA_some (a : Addr) : fpA (some a) = [a.block] := rfl
structure Keeps (S : Nat → Prop) (w w' : World) : Prop where
 os : w'.os = w.os
 tape : w'.tape = w.tape
 output : w'.output = w.output
 size : w.heap.size ≤ w'.heap.size
 block : ∀ k, k < w.heap.size → ¬ S k → w'.heap[k]? = w.heap[k]?
theorem Keeps.refl (S : Nat → Prop) (w : World) : Keeps S w w := ⟨rfl, rfl, rfl, Nat.le_refl _, fun _ _ _ => rfl⟩
theorem Keeps.trans {S : Nat → Prop} {a b c : World} (h : Keeps S a b) (k : Keeps S b c) : Keeps S a c :=
 ⟨k.os.trans h.os, k.tape.trans h.tape, k.output.trans h.output, Nat.le_trans h.size k.size, fun i hi hs => (k.block i (Nat.lt_of_lt_of_le hi h.size) hs).trans (h.block i hi hs)⟩
theorem Keeps.mono {S T : Nat → Prop} {w w' : World} (h : Keeps S w w') (hS : ∀ k, k < w.heap.size → S k → T k) : Keeps T w w' :=
 ⟨h.os, h.tape, h.output, h.size, fun k hk ht => h.block k hk fun hs => ht (hS k hk hs)⟩
theorem Keeps.of_below {w w' : World} (h : Below w.heap.size w w') (S : Nat → Prop) : Keeps S w w' := ⟨h.os, h.tape, h.output, h.size, fun k hk _ => h.block k hk⟩
theorem Keeps.below {S : Nat → Prop} {w w' : World} (h : Keeps S w w') {B : Nat} (hB : B ≤ w.heap.size) (hS : ∀ k, S k → B ≤ k) : Below B w w' :=
 ⟨h.os, h.tape, h.output, h.size, fun k hk => h.block k (Nat.lt_of_lt_of_le hk hB) fun hs => by have := hS k hs; omega⟩
theorem Keeps.drew {S : Nat → Prop} {a w : World} (h : Keeps S a w) : Keeps S a w.drew := ⟨h.os, h.tape, h.output, h.size, h.block⟩
theorem Keeps.drewN {S : Nat → Prop} {a w : World} (h : Keeps S a w) (n : Nat) : Keeps S a (w.drewN n) := ⟨h.os, h.tape, h.output, h.size, h.block⟩
theorem Keeps.alloc {S : Nat → Prop} {a w : World} (h : Keeps S a w) (o : Obj) : Keeps S a (w.alloc o) :=
 h.trans ⟨rfl, rfl, rfl, by simp, fun k hk _ => Below.heap_alloc _ _ _ hk⟩
theorem Keeps.setCell {S : Nat → Prop} {a w : World} (h : Keeps S a w) {p : Addr} (hp : S p.block) (u : Value) : Keeps S a (w.setCell p u) :=
 h.trans ⟨rfl, rfl, rfl, by simp [World.setCell], fun k _ hs => Below.heap_setCell _ _ _ _ (fun e => hs (e ▸ hp))⟩
theorem below_drewN {B : Nat} {a w : World} (h : Below B a w) (n : Nat) : Below B a (w.drewN n) := ⟨h.os, h.tape, h.output, h.size, h.block⟩
theorem below_keeps {B : Nat} {a w w' : World} {S : Nat → Prop} (h : Below B a w) (hk : Keeps S w w') (hB : B ≤ w.heap.size) (hS : ∀ k, S k → B ≤ k) : Below B a w' := h.trans (hk.below hB hS)
theorem below_trans {B B' : Nat} {a b c : World} (h : Below B a b) (k : Below B' b c) (hB : B ≤ B') : Below B a c := h.trans (k.mono hB)
def SameOn (l : List Nat) (w w' : World) : Prop := ∀ b, b ∈ l → w'.heap[b]? = w.heap[b]?
theorem SameOn.of_below {l : List Nat} {B : Nat} {w w' : World} (h : Below B w w') (hl : ∀ b, b ∈ l → b < B) : SameOn l w w' := fun b hb => h.block b (hl b hb)
theorem SameOn.of_keeps {l : List Nat} {S : Nat → Prop} {w w' : World} (h : Keeps S w w') (hl : ∀ b, b ∈ l → b < w.heap.size) (hS : ∀ b, b ∈ l → ¬ S b) : SameOn l w w' := fun b hb => h.block b (hl b hb) (hS b hb)
def Fresh (B : Nat) (A : Option Addr) : Prop := ∀ b, b ∈ fpA A → B ≤ b
theorem Fresh.mono {B B' : Nat} {A : Option Addr} (h : Fresh B A) (hB : B' ≤ B) : Fresh B' A := fun b hb => Nat.le_trans hB (h b hb)
def Sl (w : World) (e : TypeId) (sz : Nat) (A : Option Addr) (n cap : Nat) (xs : List Value) : Prop :=
 xs.length = n * sz ∧ n ≤ cap ∧ cap ≤ maxLen ∧
 ((A = none ∧ cap = 0) ∨ ∃ g off cur, A = some ⟨g, off, none⟩ ∧ w.heap[g]? = some (.cells cur e (0, 0)) ∧ off + cap * sz ≤ cur.size ∧ (cur.toList.drop off).take (n * sz) = xs)
section
variable {w w' : World} {e : TypeId} {sz n cap : Nat} {A : Option Addr} {xs : List Value}
theorem Sl.nil (w : World) (e : TypeId) (sz : Nat) : Sl w e sz none 0 0 [] := ⟨by simp, Nat.le_refl _, Nat.zero_le _, .inl ⟨rfl, rfl⟩⟩
theorem Sl.lt (h : Sl w e sz A n cap xs) : ∀ b, b ∈ fpA A → b < w.heap.size := by
 intro b hb
 rcases h.2.2.2 with ⟨rfl, _⟩ | ⟨g, off, cur, rfl, hg, _⟩
 · simp at hb
 · simp at hb; subst hb
   exact (Array.getElem?_eq_some_iff.1 hg).1
theorem Sl.frame (h : Sl w e sz A n cap xs) (hs : SameOn (fpA A) w w') : Sl w' e sz A n cap xs := by
 refine ⟨h.1, h.2.1, h.2.2.1, ?_⟩
 rcases h.2.2.2 with hn | ⟨g, off, cur, rfl, hg, r⟩
 · exact .inl hn
 · exact .inr ⟨g, off, cur, rfl, by rw [hs g (by simp)]; exact hg, r⟩
theorem Sl.below (h : Sl w e sz A n cap xs) (hb : Below w.heap.size w w') : Sl w' e sz A n cap xs := h.frame (.of_below hb h.lt)
theorem Sl.keeps (h : Sl w e sz A n cap xs) {S : Nat → Prop} (hk : Keeps S w w') (hS : ∀ b, b ∈ fpA A → ¬ S b) : Sl w' e sz A n cap xs := h.frame (.of_keeps hk h.lt hS)
theorem Sl.drew (h : Sl w e sz A n cap xs) : Sl w.drew e sz A n cap xs := h
theorem Sl.drewN (h : Sl w e sz A n cap xs) (k : Nat) : Sl (w.drewN k) e sz A n cap xs := h
theorem Sl.alloc (h : Sl w e sz A n cap xs) (o : Obj) : Sl (w.alloc o) e sz A n cap xs := h.below ((Below.refl _ _).alloc (Nat.le_refl _) o)
theorem Sl.cell (h : Sl w e sz A n cap xs) {j : Nat} {u : Value} (hj : xs[j]? = some u) : ∃ ad, A = some ad ∧ ad.block < w.heap.size ∧ w.cell? (ad.add j) = some u ∧ ∀ k, w.frozen? (ad.add k) = false := by
 obtain ⟨hl, hn, hm, hh⟩ := h
 have hj' : j < xs.length := (List.getElem?_eq_some_iff.1 hj).1
 rcases hh with ⟨_, h0⟩ | ⟨g, off, cur, rfl, hg, hc, ht⟩
 · have : n = 0 := by omega
   subst this
   simp at hl
   simp [hl] at hj'
 · have hadd : ∀ k, (⟨g, off, none⟩ : Addr).add k = ⟨g, off + k, none⟩ := by intro k; unfold Addr.add; split <;> simp_all
   refine ⟨_, rfl, (Array.getElem?_eq_some_iff.1 hg).1, ?_, fun k => ?_⟩
   · rw [hadd, cell_of_row w g (off + j) cur e (0, 0) hg]
     rw [← ht, List.getElem?_take] at hj
     split at hj
     · rw [List.getElem?_drop] at hj; simpa using hj
     · cases hj
   · rw [hadd]; simp [World.frozen?, hg]
theorem Sl.set (h : Sl w e sz A n cap xs) {ad : Addr} (hA : A = some ad) (j : Nat) (u : Value) (hj : j < xs.length) : Sl (w.setCell (ad.add j) u) e sz A n cap (xs.set j u) := by
 obtain ⟨hl, hn, hm, hh⟩ := h
 refine ⟨by simpa using hl, hn, hm, ?_⟩
 rcases hh with ⟨h0, _⟩ | ⟨g, off, cur, hA', hg, hc, ht⟩
 · rw [h0] at hA; cases hA
 · rw [hA'] at hA; obtain rfl := Option.some.inj hA
   have hadd : (⟨g, off, none⟩ : Addr).add j = ⟨g, off + j, none⟩ := by unfold Addr.add; split <;> simp_all
   rw [hadd]
   refine .inr ⟨g, off, cur.setIfInBounds (off + j) u, hA', ?_, by simpa using hc, ?_⟩
   · simp [World.setCell, Array.getElem?_modify, hg]
   · rw [Array.toList_setIfInBounds, ← ht]
     apply List.ext_getElem?
     intro i
     simp only [List.getElem?_take, List.getElem?_drop, List.getElem?_set, List.length_take, List.length_drop]
     have hjn : j < n * sz := by omega
     have hsz : off + n * sz ≤ cur.size := by have := Nat.mul_le_mul_right sz hn; omega
     by_cases hij : j = i
     · subst hij; simp [hjn]; split <;> simp <;> omega
     · have : ¬ off + j = off + i := by omega
       simp [hij]
end
def Wr (w w' : World) (A : Option Addr) (new : List Value) : Prop :=
 Keeps (· ∈ fpA A) w w' ∧ ∀ g off cur e, A = some ⟨g, off, none⟩ → w.heap[g]? = some (.cells cur e (0, 0)) → off + new.length ≤ cur.size →
  ∃ cur' : Array Value, w'.heap[g]? = some (.cells cur' e (0, 0)) ∧ cur'.toList = cur.toList.take off ++ (new ++ cur.toList.drop (off + new.length))
theorem addr_lit (g off k : Nat) : (⟨g, off, none⟩ : Addr).add k = ⟨g, off + k, none⟩ := by unfold Addr.add; split <;> simp_all
section
variable {w w' wr : World} {e : TypeId} {sz n cap : Nat} {A A' : Option Addr} {xs new l : List Value}
theorem Wr.start (h : Sl w e sz A n cap xs) : Wr w w A xs := by
 refine ⟨Keeps.refl _ _, fun g off cur e' hA hg hc => ⟨cur, hg, ?_⟩⟩
 rcases h.2.2.2 with ⟨h0, _⟩ | ⟨g', off', cur', hA', hg', hc', ht⟩
 · rw [h0] at hA; cases hA
 · rw [hA] at hA'; injection hA' with hA'; injection hA' with e1 e2; subst e1; subst e2
   rw [hg] at hg'; injection hg' with hg'; injection hg' with e1 e2; subst e1
   have e3 : xs = (cur.toList.drop off).take xs.length := by rw [h.1]; exact ht.symm
   conv => rhs; rw [e3]
   simp only [List.length_take, List.length_drop, Array.length_toList]
   have : min xs.length (cur.size - off) = xs.length := by omega
   rw [this, ← List.drop_drop, List.take_append_drop, List.take_append_drop]
theorem Wr.set (h : Wr w wr A l) {ad : Addr} (hA : A = some ad) {j : Nat} (hj : j < l.length) (u : Value) : Wr w (wr.setCell (ad.add j) u) A (l.set j u) := by
 refine ⟨h.1.setCell (by rw [block_of_add, hA]; simp) u, fun g off cur e' hA' hg hc => ?_⟩
 rw [List.length_set] at hc
 obtain ⟨cur', hg', hl'⟩ := h.2 g off cur e' hA' hg hc
 rw [hA'] at hA; obtain rfl := Option.some.inj hA
 rw [addr_lit]
 refine ⟨cur'.setIfInBounds (off + j) u, by simp [World.setCell, Array.getElem?_modify, hg'], ?_⟩
 have h1 : (List.take off cur.toList).length = off := by simp; omega
 rw [Array.toList_setIfInBounds, hl', List.set_append_right _ _ (by omega), h1, List.length_set, Nat.add_sub_cancel_left, List.set_append_left _ _ hj]
theorem Wr.drew (h : Wr w w' A new) : Wr w w'.drew A new := ⟨h.1.drew, h.2⟩
theorem Wr.drewN (h : Wr w w' A new) (n : Nat) : Wr w (w'.drewN n) A new := ⟨h.1.drewN n, h.2⟩
theorem Wr.sl (h : Wr w w' A new) (hs : Sl w e sz A n cap xs) (hn : new.length = n * sz) : Sl w' e sz A n cap new := by
 refine ⟨hn, hs.2.1, hs.2.2.1, ?_⟩
 rcases hs.2.2.2 with h0 | ⟨g, off, cur, hA, hg, hc, ht⟩
 · exact .inl h0
 · have := Nat.mul_le_mul_right sz hs.2.1
   obtain ⟨cur', hg', hl'⟩ := h.2 g off cur e hA hg (by omega)
   have hsz : cur'.size = cur.size := by
    have := congrArg List.length hl'
    simp at this; omega
   refine .inr ⟨g, off, cur', hA, hg', by omega, ?_⟩
   have h1 : (List.take off cur.toList).length = off := by simp; omega
   rw [hl', List.drop_append_of_le_length (by omega), List.drop_of_length_le (by omega), List.nil_append, ← hn]
   exact List.take_left
theorem Wr.trans {w1 : World} (h : Wr w w1 A l) (h' : Wr w1 w' A new) (hl : l.length = new.length) : Wr w w' A new := by
 refine ⟨h.1.trans h'.1, fun g off cur e' hA hg hc => ?_⟩
 obtain ⟨c1, hg1, hl1⟩ := h.2 g off cur e' hA hg (by omega)
 have hsz : c1.size = cur.size := by
  have := congrArg List.length hl1
  simp at this; omega
 obtain ⟨c2, hg2, hl2⟩ := h'.2 g off c1 e' hA hg1 (by omega)
 refine ⟨c2, hg2, ?_⟩
 have h1 : (List.take off cur.toList).length = off := by simp; omega
 rw [hl2, hl1, List.take_append_of_le_length (by omega), List.take_of_length_le (by omega), ← hl, List.drop_append, h1, List.drop_of_length_le (by omega), Nat.add_sub_cancel_left, List.drop_left, List.nil_append]
end
abbrev tInt : TypeId := 3
def ints (l : List Int) : List Value := l.map (Value.int .i64)
@[simp] theorem ints_length (l : List Int) : (ints l).length = l.length := by simp [ints]
theorem ints_get {l : List Int} {j : Nat} {x : Int} (h : l[j]? = some x) : (ints l)[j]? = some (.int .i64 x) := by simp [ints, h]
theorem ints_set (l : List Int) (j : Nat) (x : Int) : (ints l).set j (.int .i64 x) = ints (l.set j x) := by simp [ints, List.map_set]
def IS (w : World) (A : Option Addr) (cap : Nat) (l : List Int) : Prop := Sl w tInt 1 A l.length cap (ints l)
def RdI (w : World) (A : Option Addr) (l : List Int) : Prop := ∀ j x, l[j]? = some x → ∃ ad, A = some ad ∧ w.cell? (ad.add j) = some (.int .i64 x)
section
variable {w w' : World} {A : Option Addr} {cap : Nat} {l : List Int}
theorem RdI.block_lt (h : RdI w A l) {j : Nat} {x : Int} (hj : l[j]? = some x) : ∀ b, b ∈ fpA A → b < w.heap.size := by
 obtain ⟨ad, rfl, hc⟩ := h j x hj
 intro b hb
 simp at hb; subst hb
 have := World.block_lt_of_cell? w _ hc
 rwa [block_of_add] at this
theorem RdI.frame (h : RdI w A l) (hs : SameOn (fpA A) w w') : RdI w' A l := fun j x hj => by
 obtain ⟨ad, rfl, hc⟩ := h j x hj
 exact ⟨ad, rfl, (World.cell?_of_block (w := w) (by rw [block_of_add]; exact hs _ (by simp))).trans hc⟩
theorem RdI.below (h : RdI w A l) (hb : Below w.heap.size w w') : RdI w' A l := fun j x hj =>
 (h.frame (.of_below hb (h.block_lt hj))) j x hj
theorem RdI.keeps (h : RdI w A l) {S : Nat → Prop} (hk : Keeps S w w') (hS : ∀ b, b ∈ fpA A → ¬ S b) : RdI w' A l := fun j x hj =>
 (h.frame (.of_keeps hk (h.block_lt hj) hS)) j x hj
theorem RdI.drewN (h : RdI w A l) (k : Nat) : RdI (w.drewN k) A l := h
theorem IS.rd (h : IS w A cap l) : RdI w A l := fun j x hj => by
 obtain ⟨ad, hA, _, hc, _⟩ := Sl.cell h (ints_get hj)
 exact ⟨ad, hA, hc⟩
theorem IS.below (h : IS w A cap l) (hb : Below w.heap.size w w') : IS w' A cap l := Sl.below h hb
theorem IS.keeps (h : IS w A cap l) {S : Nat → Prop} (hk : Keeps S w w') (hS : ∀ b, b ∈ fpA A → ¬ S b) : IS w' A cap l := Sl.keeps h hk hS
theorem IS.frame (h : IS w A cap l) (hs : SameOn (fpA A) w w') : IS w' A cap l := Sl.frame h hs
theorem IS.lt (h : IS w A cap l) : ∀ b, b ∈ fpA A → b < w.heap.size := Sl.lt h
theorem IS.at_ (h : IS w A cap l) {j : Nat} (hj : j < l.length) : ∃ ad x, A = some ad ∧ l[j]? = some x ∧ ad.block < w.heap.size ∧ w.cell? (ad.add j) = some (.int .i64 x) ∧ ∀ k, w.frozen? (ad.add k) = false := by
 obtain ⟨ad, hA, hb, hc, hf⟩ := Sl.cell h (ints_get (List.getElem?_eq_getElem hj))
 exact ⟨ad, _, hA, List.getElem?_eq_getElem hj, hb, hc, hf⟩
theorem RdI.at_ (h : RdI w A l) {j : Nat} (hj : j < l.length) : ∃ ad x, A = some ad ∧ l[j]? = some x ∧ w.cell? (ad.add j) = some (.int .i64 x) := by
 obtain ⟨ad, hA, hc⟩ := h j _ (List.getElem?_eq_getElem hj)
 exact ⟨ad, _, hA, List.getElem?_eq_getElem hj, hc⟩
theorem IS.set (h : IS w A cap l) {ad : Addr} (hA : A = some ad) {j : Nat} (x : Int) (hj : j < l.length) : IS (w.setCell (ad.add j) (.int .i64 x)) A cap (l.set j x) := by
 have := Sl.set h hA j (.int .i64 x) (by simpa using hj)
 rw [ints_set] at this
 unfold IS; rw [List.length_set]; exact this
end
def RetI (w : World) (l : List Int) (e : Ending) (w' : World) : Prop :=
 ∃ A cap, e = .returned (.slice A l.length cap) ∧ IS w' A cap l ∧ Fresh w.heap.size A ∧ Below w.heap.size w w'
theorem IS.made (w : World) (n : Nat) (hn : n ≤ maxLen) : IS (w.alloc (.cells (madeCells #[.int .i64 0] n) tInt)) (some ⟨w.heap.size, 0, none⟩) n (List.replicate n 0) := by
 refine ⟨by simp, by simp, hn, .inr ⟨w.heap.size, 0, _, rfl, heap_alloc_new w _, by simp [size_madeCells], ?_⟩⟩
 rw [toList_madeCells_one]
 simp [ints]
def RdC (w : World) (A : Option Addr) (xs : List Value) : Prop := ∀ j u, xs[j]? = some u → ∃ ad, A = some ad ∧ w.cell? (ad.add j) = some u
theorem Sl.rdc {w : World} {e : TypeId} {sz n cap : Nat} {A : Option Addr} {xs : List Value} (h : Sl w e sz A n cap xs) : RdC w A xs := fun j u hj => by
 obtain ⟨ad, hA, _, hc, _⟩ := Sl.cell h hj
 exact ⟨ad, hA, hc⟩
theorem RdC.below {w w' : World} {A : Option Addr} {xs : List Value} (h : RdC w A xs) (hb : Below w.heap.size w w') : RdC w' A xs := fun j u hj => by
 obtain ⟨ad, hA, hc⟩ := h j u hj
 exact ⟨ad, hA, (hb.cell (World.block_lt_of_cell? w _ hc)).trans hc⟩
theorem RdC.alloc {w : World} {A : Option Addr} {xs : List Value} (h : RdC w A xs) (o : Obj) : RdC (w.alloc o) A xs := h.below ((Below.refl _ _).alloc (Nat.le_refl _) o)
theorem RdI.rdc {w : World} {A : Option Addr} {l : List Int} (h : RdI w A l) : RdC w A (ints l) := fun j u hj => by
 simp only [ints, List.getElem?_map, Option.map_eq_some_iff] at hj
 obtain ⟨x, hx, rfl⟩ := hj
 exact h j x hx
theorem ints_one (l : List Int) : ∀ u ∈ ints l, u.oneCell' = true := by
 intro u hu
 simp only [ints, List.mem_map] at hu
 obtain ⟨x, _, rfl⟩ := hu
 rfl
theorem RdC.nil (w : World) (A : Option Addr) : RdC w A [] := fun j u h => by simp at h
theorem Sl.laid (w : World) (e : TypeId) (sz n : Nat) (cs : Array Value) (hn : n ≤ maxLen) (hc : cs.size = n * sz) : Sl (w.alloc (.cells cs e)) e sz (some ⟨w.heap.size, 0, none⟩) n n cs.toList :=
 ⟨by simpa using hc, Nat.le_refl _, hn, .inr ⟨w.heap.size, 0, cs, rfl, heap_alloc_new w _, by omega, by rw [List.drop_zero]; exact List.take_of_length_le (by simp; omega)⟩⟩
section
variable {P : Program} (w : World)
theorem run_append_Sl_rd (t ty e : TypeId) (i : TypeInfo) (z : Value) (size bytes : Nat) (ht : P.underlying t = some (.slice e)) (hi : P.info? e = some i) (hz : i.zero = some z)
  (hsize : i.size = size) (hby : i.bytes = bytes) (hzs : z.cells.size = size) (hsz : 0 < size)
  (A : Option Addr) (n cap : Nat) (xs : List Value) (hs : Sl w e size A n cap xs)
  (B : Option Addr) (m c : Nat) (news : List Value) (hl : news.length = m * size) (hr : RdC w B news) (h1 : ∀ u ∈ news, u.oneCell' = true)
  (h63 : n + m ≤ maxLen) (hbytes : (n + m) * bytes ≤ 140737488355328) :
  ∃ A' cap' w', (Builtin.append_ #[t, t] ty #[.slice A n cap, .slice B m c]).run P w = .ok (.slice A' (n + m) cap') w' ∧ Sl w' e size A' (n + m) cap' (xs ++ news) ∧
    (∀ b, b ∈ fpA A' → b ∈ fpA A ∨ w.heap.size ≤ b) ∧ Keeps (· ∈ fpA A) w w' ∧ RdC w' A xs := by
 subst hsize
 subst hby
 have hsmall : n + m ≤ 9223372036854775807 := by simp only [maxLen] at h63; omega
 have hlen : (xs ++ news).length = (n + m) * i.size := by rw [List.length_append, hs.1, hl, Nat.add_mul]
 have hrd0 := hs.rdc
 obtain ⟨hxl, hnc, hcm, hh⟩ := hs
 rcases B with _ | a
 · -- nothing is appended
   have hn0 : news = [] := by
    cases news with
    | nil => rfl
    | cons u r => obtain ⟨ad, h, _⟩ := hr 0 u (by simp); cases h
   subst hn0
   have hm : m = 0 := by
    rcases Nat.eq_zero_or_pos m with h | h
    · exact h
    · have := Nat.mul_pos h hsz; simp at hl; omega
   subst hm
   refine ⟨A, cap, w, ?_, ?_, fun b hb => .inl hb, Keeps.refl _ _, hrd0⟩
   · rcases hh with ⟨rfl, rfl⟩ | ⟨g, off, cur, rfl, hg, hc, hx⟩
     · have : n = 0 := by omega
       subst this
       simp [Builtin.append_, run_underlying ht, sizeOf, typeInfo, hi, Builtin.lenOf, Builtin.firstCells]
     · simp [Builtin.append_, run_underlying ht, sizeOf, typeInfo, hi, Builtin.lenOf, Builtin.firstCells, hnc, storeCells]
   · have hS : Sl w e i.size A n cap xs := ⟨hxl, hnc, hcm, hh⟩
     rw [List.append_nil]; exact hS
 · have hnews : ∀ j u, news[j]? = some u → w.cell? (a.add j) = some u := by
    intro j u hj
    obtain ⟨ad, h, hc⟩ := hr j u hj
    obtain rfl := Option.some.inj h
    exact hc
   have grown : ∀ (old : Nat), old < n + m → ∀ (S : Nat → Prop),
     Sl (w.drew.alloc (.cells (xs.toArray ++ news.toArray ++ Builtin.zeroCells z.cells (grownCap w (n + m) old e - (n + m))) e)) e i.size (some ⟨w.heap.size, 0, none⟩) (n + m) (grownCap w (n + m) old e) (xs ++ news) ∧
     Keeps S w (w.drew.alloc (.cells (xs.toArray ++ news.toArray ++ Builtin.zeroCells z.cells (grownCap w (n + m) old e - (n + m))) e)) := by
    intro old ho S
    have hge := grownCap_ge w (n + m) old e
    have hcm : grownCap w (n + m) old e ≤ maxLen := grownCap_le_maxLen w (n + m) old e h63
    refine ⟨⟨hlen, hge, hcm, .inr ⟨w.heap.size, 0, _, rfl, heap_alloc_new w.drew _, ?_, ?_⟩⟩, ⟨rfl, rfl, rfl, by simp, fun k hk _ => Below.heap_alloc w.drew _ k hk⟩⟩
    · simp only [Array.size_append, List.size_toArray, size_zeroCells, hzs, hxl, hl, ← Nat.add_mul]
      rw [Nat.add_sub_of_le hge]; omega
    · simp only [Array.toList_append, List.append_assoc, List.drop_zero]
      rw [← List.append_assoc, ← hlen]
      exact List.take_left
   rcases hh with ⟨rfl, rfl⟩ | ⟨g, off, cur, rfl, hg, hc, htake⟩
   · have hn0 : n = 0 := by omega
     subst hn0
     have hx : xs = [] := List.eq_nil_of_length_eq_zero (by simpa using hxl)
     subst hx
     by_cases hm : m = 0
     · subst hm
       have hn : news = [] := List.eq_nil_of_length_eq_zero (by simpa using hl)
       subst hn
       refine ⟨none, 0, w, ?_, by simpa using Sl.nil w e i.size, by simp, Keeps.refl _ _, RdC.nil _ _⟩
       simp [Builtin.append_, run_underlying ht, sizeOf, typeInfo, hi, Builtin.lenOf, Builtin.firstCells, loadCells, loadCellsFrom]
     · have hr := run_append_nil (P := P) w t ty e i z ht hi hz a m c news hl hnews (by omega) (by omega) (by have hb := hbytes; simp only [Nat.zero_add] at hb; omega)
       have hgr := grown 0 (by omega) (· ∈ fpA none)
       simp only [Nat.zero_add, List.nil_append, Array.empty_append] at hgr ⊢
       exact ⟨_, _, _, hr, hgr.1, by simp, hgr.2, RdC.nil _ _⟩
   · by_cases hroom : n + m ≤ cap
     · have hfit : off + n * i.size + news.length ≤ cur.size := by
        rw [hl]
        have h2 := Nat.mul_le_mul_right i.size hroom
        rw [Nat.add_mul] at h2; omega
       have hf := run_firstCells_some (P := P) w i.size m a m c news hl hnews
       have hst := run_storeCells_at P g (off + n * i.size) e news 0 cur w hg (by simpa using hfit) h1
       simp only [Nat.add_zero] at hst
       refine ⟨some ⟨g, off, none⟩, cap, w.setRow g (cur.toList.take (off + n * i.size) ++ news ++ cur.toList.drop (off + n * i.size + news.length)).toArray, ?_, ⟨hlen, hroom, hcm, .inr ⟨g, off, _, rfl, setRow_heap w g cur _ e _ hg, ?_, ?_⟩⟩, fun b hb => .inl hb, ⟨rfl, rfl, rfl, by simp, fun k _ hk => setRow_other w g k _ (fun e => hk (by simp [e]))⟩, ?_⟩
       · simp [Builtin.append_, run_underlying ht, sizeOf, typeInfo, hi, Builtin.lenOf, hroom, hf, addr_lit, hst]
       · simp only [List.size_toArray, List.length_append, List.length_take, List.length_drop, Array.length_toList]
         omega
       · have hcl : off + n * i.size ≤ cur.toList.length := by simp; omega
         have e1 : (List.take (off + n * i.size) cur.toList).drop off = xs := by
          rw [List.drop_take, ← htake, Nat.add_sub_cancel_left]
         have e2 : off ≤ (List.take (off + n * i.size) cur.toList).length := by simp; omega
         rw [List.append_assoc, List.drop_append_of_le_length e2, e1, ← List.append_assoc, ← hlen]
         exact List.take_left
       · have hS' : Sl (w.setRow g (cur.toList.take (off + n * i.size) ++ news ++ cur.toList.drop (off + n * i.size + news.length)).toArray) e i.size (some ⟨g, off, none⟩) (n + m) cap (xs ++ news) := by
          refine ⟨hlen, hroom, hcm, .inr ⟨g, off, _, rfl, setRow_heap w g cur _ e _ hg, ?_, ?_⟩⟩
          · simp only [List.size_toArray, List.length_append, List.length_take, List.length_drop, Array.length_toList]
            omega
          · have hcl : off + n * i.size ≤ cur.toList.length := by simp; omega
            have e1 : (List.take (off + n * i.size) cur.toList).drop off = xs := by
             rw [List.drop_take, ← htake, Nat.add_sub_cancel_left]
            have e2 : off ≤ (List.take (off + n * i.size) cur.toList).length := by simp; omega
            rw [List.append_assoc, List.drop_append_of_le_length e2, e1, ← List.append_assoc, ← hlen]
            exact List.take_left
         intro j u hj
         exact hS'.rdc j u (by rw [List.getElem?_append_left (List.getElem?_eq_some_iff.1 hj).1]; exact hj)
     · have holds : ∀ j u, xs[j]? = some u → w.cell? ((⟨g, off, none⟩ : Addr).add j) = some u := by
        intro j u hj
        have hS : Sl w e i.size (some ⟨g, off, none⟩) n cap xs := ⟨hxl, hnc, hcm, .inr ⟨g, off, cur, rfl, hg, hc, htake⟩⟩
        obtain ⟨ad, h, _, hcell, _⟩ := hS.cell hj
        obtain rfl := Option.some.inj h
        exact hcell
       have hr := run_append_grow (P := P) w t ty e i z ht hi hz ⟨g, off, none⟩ n cap xs hxl holds a m c news hl hnews (by omega) (by omega) (growslice_fits (by omega) hbytes)
       have hgr := grown cap (by omega) (· ∈ fpA (some ⟨g, off, none⟩))
       refine ⟨_, _, _, hr, hgr.1, by simp, hgr.2, fun j u hj => ?_⟩
       have hk := hgr.2
       exact ⟨_, rfl, (World.cell?_of_block (w := w) (by rw [block_of_add]; exact Below.heap_alloc w.drew _ _ (Array.getElem?_eq_some_iff.1 hg).1)).trans (holds j u hj)⟩
theorem run_append_Sl (t ty e : TypeId) (i : TypeInfo) (z : Value) (size bytes : Nat) (ht : P.underlying t = some (.slice e)) (hi : P.info? e = some i) (hz : i.zero = some z)
  (hsize : i.size = size) (hby : i.bytes = bytes) (hzs : z.cells.size = size) (hsz : 0 < size)
  (A : Option Addr) (n cap : Nat) (xs : List Value) (hs : Sl w e size A n cap xs)
  (B : Option Addr) (m c : Nat) (news : List Value) (hl : news.length = m * size) (hr : RdC w B news) (h1 : ∀ u ∈ news, u.oneCell' = true)
  (h63 : n + m ≤ maxLen) (hbytes : (n + m) * bytes ≤ 140737488355328) :
  ∃ A' cap' w', (Builtin.append_ #[t, t] ty #[.slice A n cap, .slice B m c]).run P w = .ok (.slice A' (n + m) cap') w' ∧ Sl w' e size A' (n + m) cap' (xs ++ news) ∧
    (∀ b, b ∈ fpA A' → b ∈ fpA A ∨ w.heap.size ≤ b) ∧ Keeps (· ∈ fpA A) w w' := by
 obtain ⟨A', c', w', h1, h2, h3, h4, _⟩ := run_append_Sl_rd (P := P) w t ty e i z size bytes ht hi hz hsize hby hzs hsz A n cap xs hs B m c news hl hr h1 h63 hbytes
 exact ⟨A', c', w', h1, h2, h3, h4⟩
theorem wpList_append_Sl {ops : Array Oper} {rest : List Oper} {o : Oper} {a : Act} {Q : Exit → Act → World → Prop} (hgd : o.guard = none) (s x : Operand) (t : TypeId)
  (ho : o.op = .call { callee := .builtin .append, args := #[s, x], argTypes := #[t, t] })
  (e : TypeId) {z : Value} {size bytes : Nat} (ht : P.underlying t = some (.slice e)) (hinfo : (P.info? e).map (fun i => (i.zero, i.size, i.bytes)) = some (some z, size, bytes)) (hzs : z.cells.size = size) (hsz : 0 < size)
  {A : Option Addr} {n cap : Nat} {xs : List Value} (he : a.eval s = .slice A n cap) (hs : Sl w e size A n cap xs)
  {B : Option Addr} {m c : Nat} {news : List Value} (hx : a.eval x = .slice B m c) (hl : news.length = m * size) (hr : RdC w B news) (h1 : ∀ u ∈ news, u.oneCell' = true)
  (h63 : n + m ≤ maxLen) (hbytes : (n + m) * bytes ≤ 140737488355328)
  (h : ∀ A' cap' w', Sl w' e size A' (n + m) cap' (xs ++ news) → (∀ b, b ∈ fpA A' → b ∈ fpA A ∨ w.heap.size ≤ b) → Keeps (· ∈ fpA A) w w' → wpList P ops Q rest (a.put o.dst (.slice A' (n + m) cap')) w') : wpList P ops Q (o :: rest) a w := by
 obtain ⟨i, hi, hz, hz1, hz2⟩ := info_parts hinfo
 refine wpList_plain hgd fun K hK => ?_
 obtain ⟨A', cap', w', hrun, h2, h3, h4⟩ := run_append_Sl (P := P) w t o.type e i z size bytes ht hi hz hz1 hz2 hzs hsz A n cap xs hs B m c news hl hr h1 h63 hbytes
 unfold Oper.wp execOp
 simp only [ho, resolve, invoke, builtin, Sem.run_bind, Sem.run_pure, Result.andThen_ok, List.map_toArray, List.map_cons, List.map_nil, he, hx, hrun]
 exact hK _ _ (h A' cap' w' h2 h3 h4)
theorem wpList_make_Sl {ops : Array Oper} {rest : List Oper} {o : Oper} {a : Act} {Q : Exit → Act → World → Prop} (hgd : o.guard = none) (l c : Operand) (t : TypeId)
  (ho : o.op = .makeSlice t l c)
  (e : TypeId) {z : Value} {size bytes : Nat} (ht : P.underlying t = some (.slice e)) (hinfo : (P.info? e).map (fun i => (i.zero, i.size, i.bytes)) = some (some z, size, bytes))
  {kl kc : IntKind} {L C : Int} (n k : Nat) (hel : a.eval l = .int kl L) (hec : a.eval c = .int kc C) (hL : L = (n : Int)) (hC : C = (k : Int)) (hnk : n ≤ k) (hbytes : bytes * k ≤ 281474976710656) (h63 : k ≤ maxLen)
  (h : ∀ (G : Addr) w', Sl w' e size (some G) n k ((madeCells z.cells (k * size)).toList.take (n * size)) → w.heap.size ≤ G.block → Below w.heap.size w w' → wpList P ops Q rest (a.put o.dst (.slice (some G) n k)) w') : wpList P ops Q (o :: rest) a w := by
 obtain ⟨i, hi, hz, hz1, hz2⟩ := info_parts hinfo
 subst hz1 hz2 hL hC
 refine wpList_plain hgd fun K hK => ?_
 have h63' : (k : Int) ≤ 9223372036854775807 := by simp only [maxLen] at h63; omega
 have hb' : (i.bytes : Int) * (k : Int) ≤ 281474976710656 := by
  have h : ((i.bytes * k : Nat) : Int) ≤ 281474976710656 := by omega
  rwa [Int.natCast_mul] at h
 have hrun := run_make (P := P) w t e i z ht hi hz kl kc n k (by omega) (by omega) hb' h63'
 simp only [Int.toNat_natCast] at hrun
 unfold Oper.wp
 simp only [execOp, ho, hel, hec, hrun, Sem.run_bind, Sem.run_pure, Result.andThen_ok]
 refine hK _ _ (h ⟨w.heap.size, 0, none⟩ _ ⟨?_, hnk, h63, .inr ⟨w.heap.size, 0, _, rfl, heap_alloc_new w _, by simp [size_madeCells], by simp⟩⟩ (Nat.le_refl _) ((Below.refl _ _).alloc (Nat.le_refl _) _))
 simp only [List.length_take, Array.length_toList, size_madeCells]
 have := Nat.mul_le_mul_right i.size hnk
 omega
end
theorem info_int : (Tryd.prog.info? 3).map (fun i => (i.zero, i.size, i.bytes)) = some (some (.int .i64 0), 1, 8) := by kernel_rfl
theorem take_replicate_step {l : List Int} {k : Nat} {x : Int} (h : l[k]? = some x) :
  (l.take k ++ List.replicate (l.length - k) 0).set k x = l.take (k + 1) ++ List.replicate (l.length - (k + 1)) 0 := by
 have hk : k < l.length := (List.getElem?_eq_some_iff.1 h).1
 apply List.ext_getElem?
 intro i
 simp only [List.getElem?_set, List.getElem?_append, List.getElem?_take, List.length_take, List.getElem?_replicate, List.length_append, List.length_replicate]
 by_cases hi : k = i
 · subst hi
   have a1 : k < min k l.length + (l.length - k) := by omega
   have a2 : k < min (k + 1) l.length := by omega
   simp [h, a1, a2]
 · simp only [hi, if_false]
   by_cases h1 : i < k
   · have : i < k + 1 := by omega
     have : i < min k l.length := by omega
     have : i < min (k+1) l.length := by omega
     simp [*]
   · have a1 : ¬ i < min k l.length := by omega
     have a2 : ¬ i < min (k+1) l.length := by omega
     simp only [a1, a2, if_false]
     have e1 : (i - min k l.length < l.length - k) = (i - min (k+1) l.length < l.length - (k + 1)) := by
      apply propext; omega
     simp only [e1]
theorem madeZeros (n : Nat) : (madeCells (Value.int .i64 0).cells (n * 1)).toList.take (n * 1) = ints (List.replicate n 0) := by
 show (madeCells #[Value.int .i64 0] (n * 1)).toList.take (n * 1) = _
 rw [toList_madeCells_one]; simp [ints]
set_option maxHeartbeats 400000 in
theorem toIntS_any (A : Option Addr) (cap : Nat) (l : List Int) (w : World) (h : RdI w A l) (hl : l.length ≤ 17592186044416) :
  Calls Tryd.prog 18 #[.slice A l.length cap] w (RetI w l) := by
 go_enter Tryd.func18, Tryd.ntmps18
 go_wp2_with (at_make; refine wpList_make_Sl _ rfl _ _ _ rfl 3 Tryd.underlying23 info_int l.length l.length rfl rfl rfl rfl (Nat.le_refl _) (by omega) (by unfold maxLen; omega) ?_; intro G w1 hs hG hb1)
 have his0 : IS w1 (some G) l.length (List.replicate l.length 0) := by unfold IS; rw [← madeZeros]; simpa using hs
 clear hs
 go_loopw [4] (fun i wr => ∃ k : Nat, k ≤ l.length ∧ i = .int .i64 k ∧ IS wr (some G) l.length (l.take k ++ List.replicate (l.length - k) 0) ∧ Below w.heap.size w wr)
  (fun i _ => l.length - (intOf i).toNat)
 case atStart => exact ⟨0, Nat.zero_le _, rfl, by simpa using his0, hb1⟩
 case round =>
  obtain ⟨k, hk, rfl, his, hb⟩ := hrel
  by_cases hlt : k < l.length
  · obtain ⟨ad, x, rfl, hx, hc⟩ := (h.below hb).at_ hlt
    obtain ⟨ad', y, hA', hy, hlt', hc', hf'⟩ := his.at_ (j := k) (by simp; omega)
    obtain rfl := Option.some.inj hA'
    have hf := hf' k
    have his' := his.set (ad := G) rfl (j := k) x (by simp; omega)
    rw [take_replicate_step hx] at his'
    have HI := lH his'
    have hb' := lH (hb.setCell (p := G.add k) (by rw [block_of_add]; exact hG) (.int .i64 x))
    clear his' hf' hA' his hy hx his0 h
    go_wp2
    go_roundw
    case rel => exact ⟨k + 1, by omega, by go_num, HI.out, hb'.out⟩
    case measure => simp [intOf]; omega
  · obtain rfl : k = l.length := by omega
    clear his0
    go_wp2
    go_ret
    exact ⟨_, _, rfl, by simpa using his, fun b hb => by simp at hb; subst hb; exact hG, hb⟩
def Qt (w w' : World) : Prop := ∃ n, w' = w.drewN n
set_option maxHeartbeats 400000 in
theorem eqIntS_any (A B : Option Addr) (c d : Nat) (l m : List Int) (w : World) (ha : RdI w A l) (hb : RdI w B m) (hl : l.length ≤ 17592186044416) :
  Calls Tryd.prog 23 #[.slice A l.length c, .slice B m.length d] w fun e w' => e = .returned (.bool (decide (l = m))) ∧ Qt w w' := by
 by_cases hlen : l.length = m.length
 · have h0 : ((l.length : Int) != (m.length : Int)) = false := by rw [hlen]; simp
   go_enter Tryd.func23, Tryd.ntmps23
   go_wp2
   go_loopw [5] (fun i wr => ∃ k n : Nat, k ≤ l.length ∧ i = .int .i64 k ∧ l.take k = m.take k ∧ wr = w.drewN n)
    (fun i _ => l.length - (intOf i).toNat)
   case atStart => exact ⟨0, 0, Nat.zero_le _, rfl, by simp, rfl⟩
   case round =>
    obtain ⟨k, n, hk, rfl, htk, rfl⟩ := hrel
    by_cases hlt : k < l.length
    · obtain ⟨ad, x, rfl, hx, hc⟩ := ha.at_ hlt
      obtain ⟨ad', y, rfl, hy, hc'⟩ := hb.at_ (j := k) (by omega)
      have hlt2 : (k : Int) < (m.length : Int) := by omega
      have HT := lH htk; have HL := lH hlen; have HX := lH hx; have HY := lH hy; clear htk hlen hx hy ha hb h0
      go_wp2
      go_quiet (fail)
      go_wp2
      · have hne : (x != y) = true := by assumption
        go_ret
        refine ⟨ret_bool ?_, _, World.drewN_drewN _ _ _⟩
        have : ¬ l = m := by
         intro e
         have h1 := HX.out; have h2 := HY.out
         rw [e, h2] at h1
         simp at hne; exact hne (Option.some.inj h1).symm
        simp [this]
      · have heq : (x != y) = false := by assumption
        go_roundw
        case rel =>
         refine ⟨k + 1, _, by omega, by go_num, ?_, rfl⟩
         have e : x = y := by simpa using heq
         rw [List.take_add_one, List.take_add_one, HT.out, HX.out, HY.out, e]
        case measure => simp [intOf]; omega
    · obtain rfl : k = l.length := by omega
      have HT := lH htk; clear htk
      go_wp2
      go_ret
      refine ⟨ret_bool ?_, _, rfl⟩
      have := HT.out
      rw [List.take_of_length_le (Nat.le_refl _), List.take_of_length_le (by omega)] at this
      simp [this]
 · have h0 : ((l.length : Int) != (m.length : Int)) = true := by simp; omega
   go_enter Tryd.func23, Tryd.ntmps23
   go_wp2
   go_ret
   refine ⟨ret_bool ?_, 0, rfl⟩
   have : ¬ l = m := fun e => hlen (by rw [e])
   simp [this]
theorem take_append_step {α : Type} {l m : List α} {k : Nat} {x : α} (hlen : m.length = l.length) (h : l[k]? = some x) :
  (l.take k ++ m.drop k).set k x = l.take (k + 1) ++ m.drop (k + 1) := by
 have hk : k < l.length := (List.getElem?_eq_some_iff.1 h).1
 have e : (l.take k).length = k := by simp; omega
 rw [List.set_append_right _ _ (by omega), e, Nat.sub_self, List.drop_eq_getElem_cons (by omega), List.set_cons_zero, List.take_add_one, h]
 simp
def marks (k n : Nat) : List Int := (List.range n).map fun i => ((k + i : Nat) : Int)
@[simp] theorem marks_length (k n : Nat) : (marks k n).length = n := by simp [marks]
theorem marks_get {k n j : Nat} (h : j < n) : (marks k n)[j]? = some ((k + j : Nat) : Int) := by simp [marks, h]
set_option maxHeartbeats 400000 in
theorem markIntS_any (A : Option Addr) (c : Nat) (l : List Int) (k : Nat) (w : World) (h : IS w A c l) (hl : k + l.length ≤ 17592186044416) :
  Calls Tryd.prog 25 #[.slice A l.length c, .int .i64 k] w fun e w' => e = .returned (.int .i64 ((k + l.length : Nat) : Int)) ∧ IS w' A c (marks k l.length) ∧ Keeps (· ∈ fpA A) w w' := by
 go_enter Tryd.func25, Tryd.ntmps25
 go_wp2
 go_loopw [1, 5] (fun q i wr => ∃ j : Nat, j ≤ l.length ∧ i = .int .i64 j ∧ q = .int .i64 ((k + j : Nat) : Int) ∧ IS wr A c ((marks k l.length).take j ++ l.drop j) ∧ Keeps (· ∈ fpA A) w wr)
  (fun _ i _ => l.length - (intOf i).toNat)
 case atStart => exact ⟨0, Nat.zero_le _, rfl, rfl, by simpa using h, Keeps.refl _ _⟩
 case round =>
  obtain ⟨j, hj, rfl, rfl, his, hk⟩ := hrel
  have hlen : ((marks k l.length).take j ++ l.drop j).length = l.length := by simp; omega
  by_cases hlt : j < l.length
  · obtain ⟨ad, y, hA, hy, hlt', hc', hf'⟩ := his.at_ (j := j) (by omega)
    subst hA
    have hf := hf' j
    have his' := his.set (ad := ad) rfl (j := j) ((k + j : Nat) : Int) (by omega)
    rw [take_append_step (by simp) (marks_get hlt)] at his'
    have HI := lH his'
    have hk' := lH (hk.setCell (p := ad.add j) (by rw [block_of_add]; simp) (.int .i64 ((k + j : Nat) : Int)))
    clear his' hf' his hy h hlen hk
    go_wp2
    go_roundw
    case rel => exact ⟨j + 1, by omega, by go_num, by go_num, HI.out, hk'.out⟩
    case measure => simp [intOf]; omega
  · obtain rfl : j = l.length := by omega
    have HI := lH his; clear his hlen
    go_wp2
    go_ret
    exact ⟨rfl, by have := HI.out; simpa [List.take_of_length_le] using this, hk⟩
set_option maxHeartbeats 400000 in
theorem heldIntS_any (A : Option Addr) (c n : Nat) (k : Nat) (w : World) (h : RdI w A (marks k n)) (hl : k + n ≤ 17592186044416) :
  Calls Tryd.prog 44 #[.slice A n c, .int .i64 k] w fun e w' => e = .returned (.int .i64 ((k + n : Nat) : Int)) ∧ w = w' := by
 go_enter Tryd.func44, Tryd.ntmps44
 go_wp2
 go_loop [1, 5] (fun q i => ∃ j : Nat, j ≤ n ∧ i = .int .i64 j ∧ q = .int .i64 ((k + j : Nat) : Int))
  (fun _ i => n - (intOf i).toNat)
 case atStart => exact ⟨0, Nat.zero_le _, rfl, rfl⟩
 case round =>
  obtain ⟨j, hj, rfl, rfl⟩ := hrel
  by_cases hlt : j < n
  · obtain ⟨ad, rfl, hc⟩ := h j _ (marks_get hlt)
    clear h
    go_wp2
    go_round
    case rel => exact ⟨j + 1, by omega, by go_num, by go_num⟩
    case measure => simp [intOf]; omega
  · obtain rfl : j = n := by omega
    go_wp2
    go_ret
    exact ⟨rfl, rfl⟩
def FreshL (B : Nat) (fp : List Nat) : Prop := ∀ b, b ∈ fp → B ≤ b
def LtL (B : Nat) (fp : List Nat) : Prop := ∀ b, b ∈ fp → b < B
theorem FreshL.mono {B B' : Nat} {fp : List Nat} (h : FreshL B fp) (hB : B' ≤ B) : FreshL B' fp := fun b hb => Nat.le_trans hB (h b hb)
theorem LtL.mono {B B' : Nat} {fp : List Nat} (h : LtL B fp) (hB : B ≤ B') : LtL B' fp := fun b hb => Nat.lt_of_lt_of_le (h b hb) hB
theorem apart_of {B : Nat} {f1 f2 : List Nat} (h1 : LtL B f1) (h2 : FreshL B f2) : ∀ b, b ∈ f1 → ¬ b ∈ f2 := fun b hb hb' => by
 have := h1 b hb; have := h2 b hb'; omega
theorem apart_of' {B : Nat} {f1 f2 : List Nat} (h1 : LtL B f1) (h2 : FreshL B f2) : ∀ b, b ∈ f2 → ¬ b ∈ f1 := fun b hb hb' => by
 have := h1 b hb'; have := h2 b hb; omega
def RdIV (w : World) (v : Value) (l : List Int) : Prop := ∃ A cap, v = .slice A l.length cap ∧ RdI w A l
def OwI (w : World) (v : Value) (l : List Int) (fp : List Nat) : Prop := ∃ A cap, v = .slice A l.length cap ∧ IS w A cap l ∧ fp = fpA A
theorem RdIV.below {w w' : World} {v : Value} {l : List Int} (h : RdIV w v l) (hb : Below w.heap.size w w') : RdIV w' v l := by
 obtain ⟨A, c, rfl, h⟩ := h; exact ⟨A, c, rfl, h.below hb⟩
theorem OwI.rd {w : World} {v : Value} {l : List Int} {fp : List Nat} (h : OwI w v l fp) : RdIV w v l := by
 obtain ⟨A, c, rfl, h, _⟩ := h; exact ⟨A, c, rfl, h.rd⟩
theorem OwI.below {w w' : World} {v : Value} {l : List Int} {fp : List Nat} (h : OwI w v l fp) (hb : Below w.heap.size w w') : OwI w' v l fp := by
 obtain ⟨A, c, rfl, h, e⟩ := h; exact ⟨A, c, rfl, h.below hb, e⟩
theorem OwI.keeps {w w' : World} {v : Value} {l : List Int} {fp : List Nat} (h : OwI w v l fp) {S : Nat → Prop} (hk : Keeps S w w') (hS : ∀ b, b ∈ fp → ¬ S b) : OwI w' v l fp := by
 obtain ⟨A, c, rfl, h, rfl⟩ := h; exact ⟨A, c, rfl, h.keeps hk hS, rfl⟩
theorem OwI.lt {w : World} {v : Value} {l : List Int} {fp : List Nat} (h : OwI w v l fp) : LtL w.heap.size fp := by
 obtain ⟨A, c, rfl, h, rfl⟩ := h; exact h.lt
def HeI (w : World) (v : Value) (n k : Nat) (fp : List Nat) : Prop := ∃ A cap, v = .slice A n cap ∧ IS w A cap (marks k n) ∧ fp = fpA A
theorem HeI.below {w w' : World} {v : Value} {n k : Nat} {fp : List Nat} (h : HeI w v n k fp) (hb : Below w.heap.size w w') : HeI w' v n k fp := by
 obtain ⟨A, c, rfl, h, e⟩ := h; exact ⟨A, c, rfl, h.below hb, e⟩
theorem HeI.keeps {w w' : World} {v : Value} {n k : Nat} {fp : List Nat} (h : HeI w v n k fp) {S : Nat → Prop} (hk : Keeps S w w') (hS : ∀ b, b ∈ fp → ¬ S b) : HeI w' v n k fp := by
 obtain ⟨A, c, rfl, h, rfl⟩ := h; exact ⟨A, c, rfl, h.keeps hk hS, rfl⟩
abbrev Hd := Option Addr × Nat × List Int
def Hd.val (h : Hd) : Value := .slice h.1 h.2.2.length h.2.1
def RdR (w : World) (A : Option Addr) (hs : List Hd) : Prop := (∀ i h, hs[i]? = some h → ∃ ad, A = some ad ∧ w.cell? (ad.add i) = some h.val) ∧ ∀ h, h ∈ hs → RdI w h.1 h.2.2
structure OwR (w : World) (A : Option Addr) (cap : Nat) (hs : List Hd) : Prop where
 sl : Sl w 23 1 A hs.length cap (hs.map Hd.val)
 rows : ∀ h, h ∈ hs → IS w h.1 h.2.1 h.2.2
 apart : hs.Pairwise fun h h' => ∀ b, b ∈ fpA h.1 → ¬ b ∈ fpA h'.1
 outer : ∀ h, h ∈ hs → ∀ b, b ∈ fpA h.1 → ¬ b ∈ fpA A
theorem RdR.below {w w' : World} {A : Option Addr} {hs : List Hd} (h : RdR w A hs) (hb : Below w.heap.size w w') : RdR w' A hs :=
 ⟨fun i x hx => let ⟨ad, hA, hc⟩ := h.1 i x hx; ⟨ad, hA, (hb.cell (World.block_lt_of_cell? w _ hc)).trans hc⟩, fun x hx => (h.2 x hx).below hb⟩
theorem OwR.rd {w : World} {A : Option Addr} {cap : Nat} {hs : List Hd} (h : OwR w A cap hs) : RdR w A hs := by
 refine ⟨fun i x hx => ?_, fun x hx => (h.rows x hx).rd⟩
 obtain ⟨ad, hA, _, hc, _⟩ := h.sl.cell (j := i) (u := x.val) (by simp [hx])
 exact ⟨ad, hA, hc⟩
def fpR (hs : List Hd) : List Nat := hs.flatMap fun h => fpA h.1
theorem mem_fpR {hs : List Hd} {b : Nat} : b ∈ fpR hs ↔ ∃ h, h ∈ hs ∧ b ∈ fpA h.1 := by simp [fpR]
theorem OwR.lt {w : World} {A : Option Addr} {cap : Nat} {hs : List Hd} (h : OwR w A cap hs) : ∀ b, b ∈ fpA A ++ fpR hs → b < w.heap.size := by
 intro b hb
 rcases List.mem_append.1 hb with hb | hb
 · exact h.sl.lt b hb
 · obtain ⟨x, hx, hb⟩ := mem_fpR.1 hb
   exact (h.rows x hx).lt b hb
theorem OwR.below {w w' : World} {A : Option Addr} {cap : Nat} {hs : List Hd} (h : OwR w A cap hs) (hb : Below w.heap.size w w') : OwR w' A cap hs :=
 ⟨h.sl.below hb, fun x hx => (h.rows x hx).below hb, h.apart, h.outer⟩
theorem OwR.keeps {w w' : World} {A : Option Addr} {cap : Nat} {hs : List Hd} (h : OwR w A cap hs) {S : Nat → Prop} (hk : Keeps S w w') (hS : ∀ b, b ∈ fpA A ++ fpR hs → ¬ S b) : OwR w' A cap hs :=
 ⟨h.sl.keeps hk fun b hb => hS b (List.mem_append_left _ hb), fun x hx => (h.rows x hx).keeps hk fun b hb => hS b (List.mem_append_right _ (mem_fpR.2 ⟨x, hx, hb⟩)), h.apart, h.outer⟩
def RdRV (w : World) (v : Value) (L : List (List Int)) : Prop := ∃ A cap hs, v = .slice A L.length cap ∧ L = hs.map (fun h : Hd => h.2.2) ∧ RdR w A hs
def OwRV (w : World) (v : Value) (L : List (List Int)) (fp : List Nat) : Prop := ∃ A cap hs, v = .slice A L.length cap ∧ L = hs.map (fun h : Hd => h.2.2) ∧ OwR w A cap hs ∧ fp = fpA A ++ fpR hs
theorem RdRV.below {w w' : World} {v : Value} {L : List (List Int)} (h : RdRV w v L) (hb : Below w.heap.size w w') : RdRV w' v L := by
 obtain ⟨A, c, hs, rfl, hL, h⟩ := h; exact ⟨A, c, hs, rfl, hL, h.below hb⟩
theorem OwRV.rd {w : World} {v : Value} {L : List (List Int)} {fp : List Nat} (h : OwRV w v L fp) : RdRV w v L := by
 obtain ⟨A, c, hs, rfl, hL, h, _⟩ := h; exact ⟨A, c, hs, rfl, hL, h.rd⟩
theorem OwRV.below {w w' : World} {v : Value} {L : List (List Int)} {fp : List Nat} (h : OwRV w v L fp) (hb : Below w.heap.size w w') : OwRV w' v L fp := by
 obtain ⟨A, c, hs, rfl, hL, h, e⟩ := h; exact ⟨A, c, hs, rfl, hL, h.below hb, e⟩
theorem OwRV.keeps {w w' : World} {v : Value} {L : List (List Int)} {fp : List Nat} (h : OwRV w v L fp) {S : Nat → Prop} (hk : Keeps S w w') (hS : ∀ b, b ∈ fp → ¬ S b) : OwRV w' v L fp := by
 obtain ⟨A, c, hs, rfl, hL, h, rfl⟩ := h; exact ⟨A, c, hs, rfl, hL, h.keeps hk hS, rfl⟩
theorem OwRV.lt {w : World} {v : Value} {L : List (List Int)} {fp : List Nat} (h : OwRV w v L fp) : LtL w.heap.size fp := by
 obtain ⟨A, c, hs, rfl, hL, h, rfl⟩ := h; exact h.lt
def cntR : List (List Int) → Nat
 | [] => 0
 | l :: L => l.length + cntR L
def marksR : Nat → List Nat → List (List Int)
 | _, [] => []
 | k, n :: ns => marks k n :: marksR (k + n) ns
def HeRV (w : World) (v : Value) (L : List (List Int)) (k : Nat) (fp : List Nat) : Prop := OwRV w v (marksR k (L.map List.length)) fp
theorem HeRV.below {w w' : World} {v : Value} {L : List (List Int)} {k : Nat} {fp : List Nat} (h : HeRV w v L k fp) (hb : Below w.heap.size w w') : HeRV w' v L k fp := OwRV.below h hb
theorem HeRV.keeps {w w' : World} {v : Value} {L : List (List Int)} {k : Nat} {fp : List Nat} (h : HeRV w v L k fp) {S : Nat → Prop} (hk : Keeps S w w') (hS : ∀ b, b ∈ fp → ¬ S b) : HeRV w' v L k fp := OwRV.keeps h hk hS
theorem info_ints : (Tryd.prog.info? 23).map (fun i => (i.zero, i.size, i.bytes)) = some (some (.slice none 0 0), 1, 24) := by kernel_rfl
structure NewR (w : World) (B : Nat) (hs : List Hd) : Prop where
 rows : ∀ h, h ∈ hs → IS w h.1 h.2.1 h.2.2
 apart : hs.Pairwise fun h h' => ∀ b, b ∈ fpA h.1 → ¬ b ∈ fpA h'.1
 new : ∀ h, h ∈ hs → ∀ b, b ∈ fpA h.1 → B ≤ b
theorem NewR.nil (w : World) (B : Nat) : NewR w B [] := ⟨fun h hh => (by cases hh), .nil, fun h hh => (by cases hh)⟩
theorem NewR.below {w w' : World} {B : Nat} {hs : List Hd} (h : NewR w B hs) (hb : Below w.heap.size w w') : NewR w' B hs := ⟨fun x hx => (h.rows x hx).below hb, h.apart, h.new⟩
theorem NewR.keeps {w w' : World} {B : Nat} {hs : List Hd} (h : NewR w B hs) {S : Nat → Prop} (hk : Keeps S w w') (hS : ∀ b, B ≤ b → ¬ S b) : NewR w' B hs := ⟨fun x hx => (h.rows x hx).keeps hk fun b hb => hS b (h.new x hx b hb), h.apart, h.new⟩
theorem NewR.snoc {w w' : World} {B : Nat} {hs : List Hd} (h : NewR w B hs) (hb : Below w.heap.size w w') (hB : B ≤ w.heap.size) {x : Hd} (hx : IS w' x.1 x.2.1 x.2.2) (hf : Fresh w.heap.size x.1) : NewR w' B (hs ++ [x]) := by
 refine ⟨fun y hy => ?_, ?_, fun y hy b hb' => ?_⟩
 · rcases List.mem_append.1 hy with hy | hy
   · exact (h.rows y hy).below hb
   · obtain rfl := List.mem_singleton.1 hy; exact hx
 · refine List.pairwise_append.2 ⟨h.apart, List.pairwise_singleton _ _, fun y hy z hz b hb1 hb2 => ?_⟩
   obtain rfl := List.mem_singleton.1 hz
   have := (h.rows y hy).lt b hb1
   have := hf b hb2
   omega
 · rcases List.mem_append.1 hy with hy | hy
   · exact h.new y hy b hb'
   · obtain rfl := List.mem_singleton.1 hy; exact Nat.le_trans hB (hf b hb')
def RetSS (w : World) (L : List (List Int)) (e : Ending) (w' : World) : Prop :=
 ∃ A cap hs, e = .returned (.slice A L.length cap) ∧ L = hs.map (fun h : Hd => h.2.2) ∧ OwR w' A cap hs ∧ (∀ b, b ∈ fpA A ++ fpR hs → w.heap.size ≤ b) ∧ Below w.heap.size w w'
theorem RdR.at_ {w : World} {A : Option Addr} {hs : List Hd} (h : RdR w A hs) {k : Nat} (hk : k < hs.length) : ∃ ad B c l, A = some ad ∧ hs[k]? = some (B, c, l) ∧ w.cell? (ad.add k) = some (.slice B l.length c) ∧ RdI w B l := by
 obtain ⟨x, hx⟩ : ∃ x, hs[k]? = some x := ⟨_, List.getElem?_eq_getElem hk⟩
 obtain ⟨ad, hA, hc⟩ := h.1 k x hx
 obtain ⟨B, c, l⟩ := x
 exact ⟨ad, B, c, l, hA, hx, hc, h.2 _ (List.mem_of_getElem? hx)⟩
set_option maxHeartbeats 1000000 in
theorem eqIntSS_any (A B : Option Addr) (c d : Nat) (hs gs : List Hd) (w : World) (ha : RdR w A hs) (hb : RdR w B gs) (hl : hs.length ≤ 17592186044416) (hr : ∀ x, x ∈ hs → x.2.2.length ≤ 17592186044416) :
  Calls Tryd.prog 21 #[.slice A hs.length c, .slice B gs.length d] w fun e w' => e = .returned (.bool (decide (hs.map (fun h : Hd => h.2.2) = gs.map (fun h : Hd => h.2.2)))) ∧ Qt w w' := by
 by_cases hlen : hs.length = gs.length
 · have h0 : ((hs.length : Int) != (gs.length : Int)) = false := by rw [hlen]; simp
   go_enter Tryd.func21, Tryd.ntmps21
   go_wp2
   go_loopw [5] (fun i wr => ∃ k n : Nat, k ≤ hs.length ∧ i = .int .i64 k ∧ (hs.take k).map (fun h : Hd => h.2.2) = (gs.take k).map (fun h : Hd => h.2.2) ∧ wr = w.drewN n)
    (fun i _ => hs.length - (intOf i).toNat)
   case atStart => exact ⟨0, 0, Nat.zero_le _, rfl, by simp, rfl⟩
   case round =>
    obtain ⟨k, n, hk, rfl, htk, hwr⟩ := hrel
    have ha : RdR wr A hs := by rw [hwr]; exact ha
    have hb : RdR wr B gs := by rw [hwr]; exact hb
    have HW := lH hwr; clear hwr
    by_cases hlt : k < hs.length
    · obtain ⟨ad, B1, c1, l, rfl, hx, hc1, hr1⟩ := ha.at_ hlt
      obtain ⟨bd, B2, c2, m, rfl, hy, hc2, hr2⟩ := hb.at_ (k := k) (by omega)
      have hll : l.length ≤ 17592186044416 := hr _ (List.mem_of_getElem? hx)
      have hlt2 : (k : Int) < (gs.length : Int) := by omega
      have HT := lH htk; have HL := lH hlen; have HX := lH hx; have HY := lH hy; clear htk hlen hx hy ha hb h0 hr
      by_cases hlm : l = m
      · have hd : decide (l = m) = true := decide_eq_true hlm
        have hQ := fun q => eqIntS_any B1 B2 c1 c2 l m (wr.drewN q) hr1 hr2 hll
        rw [hd] at hQ
        have HQ := lH hQ; have HLM := lH hlm; clear hQ hd hlm
        go_wp2
        go_quiet (first | (go_at_call 23; refine Calls.quiet_of (HQ.out _)))
        go_wp2
        go_roundw
        case rel => exact ⟨k + 1, _, by omega, by go_num, by rw [List.take_add_one, List.take_add_one, List.map_append, List.map_append, HT.out, HX.out, HY.out, HLM.out]; rfl, by rw [HW.out]; exact World.drewN_drewN _ _ _⟩
        case measure => simp [intOf]; omega
      · have hd : decide (l = m) = false := decide_eq_false hlm
        have hQ := fun q => eqIntS_any B1 B2 c1 c2 l m (wr.drewN q) hr1 hr2 hll
        rw [hd] at hQ
        have HQ := lH hQ; have HLM := lH hlm; clear hQ hd hlm
        go_wp2
        go_quiet (first | (go_at_call 23; refine Calls.quiet_of (HQ.out _)))
        go_wp2
        go_ret
        refine ⟨ret_bool ?_, _, by rw [HW.out]; exact World.drewN_drewN _ _ _⟩
        symm
        apply decide_eq_false
        intro e
        have h1 := congrArg (·[k]?) e
        simp only [List.getElem?_map, HX.out, HY.out, Option.map_some, Option.some.injEq] at h1
        exact HLM.out h1
    · obtain rfl : k = hs.length := by omega
      have HT := lH htk; clear htk
      go_wp2
      go_ret
      refine ⟨ret_bool ?_, _, HW.out⟩
      have := HT.out
      rw [List.take_of_length_le (Nat.le_refl _), List.take_of_length_le (by omega)] at this
      exact (decide_eq_true this).symm
 · have h0 : ((hs.length : Int) != (gs.length : Int)) = true := by simp; omega
   go_enter Tryd.func21, Tryd.ntmps21
   go_wp2
   go_ret
   refine ⟨ret_bool ?_, 0, rfl⟩
   symm
   apply decide_eq_false
   intro e
   have := congrArg List.length e
   simp at this
   exact hlen this
end Go.Proofs.YtpkmjenoniedjaaDoor
namespace Go.Proofs.YtpkmjenoniedjaaDoor
def fieldB (p : Int) : Bool := decide (2 ≤ p ∧ p ≤ 97 ∧ (p % 2 = 0 → p = 2) ∧ (p % 3 = 0 → p = 3) ∧ (p % 5 = 0 → p = 5) ∧ (p % 7 = 0 → p = 7))
theorem fieldB_bounds {p : Int} (h : fieldB p = true) : 2 ≤ p ∧ p ≤ 97 := by
 simp only [fieldB, decide_eq_true_eq] at h; exact ⟨h.1, h.2.1⟩
def fdTest (p : Int) (k : Nat) : Bool := (List.range k).all fun j => !decide (2 ≤ j ∧ p % (j : Int) = 0)
theorem fdTest_succ (p : Int) (k : Nat) : fdTest p (k + 1) = (fdTest p k && !decide (2 ≤ k ∧ p % (k : Int) = 0)) := by
 simp [fdTest, List.range_succ]
theorem fdTest_end_nat : ∀ p : Fin 98, ∀ k : Fin 12, 2 ≤ p.val → p.val < k.val * k.val → ((k.val - 1) * (k.val - 1) ≤ p.val ∨ k.val = 2) → fdTest (p.val : Int) k.val = fieldB (p.val : Int) := by decide +kernel
theorem fdTest_stop_nat : ∀ p : Fin 98, ∀ k : Fin 12, 2 ≤ p.val → 2 ≤ k.val → k.val * k.val ≤ p.val → (p.val : Int) % (k.val : Int) = 0 → fieldB (p.val : Int) = false := by decide +kernel
theorem fdTest_end {p : Int} {k : Nat} (h2 : 2 ≤ p) (h97 : p ≤ 97) (hk : p < (k : Int) * k) (hlast : ((k : Int) - 1) * ((k : Int) - 1) ≤ p ∨ k = 2) (hk11 : k ≤ 11) (h2k : 2 ≤ k) : fdTest p k = fieldB p := by
 obtain ⟨n, rfl⟩ := Int.eq_ofNat_of_zero_le (show 0 ≤ p by omega)
 refine fdTest_end_nat ⟨n, by omega⟩ ⟨k, by omega⟩ (by show 2 ≤ n; omega) (by show n < k * k; exact_mod_cast hk) ?_
 rcases hlast with h | h
 · left
   show (k - 1) * (k - 1) ≤ n
   have e : ((k : Int) - 1) = ((k - 1 : Nat) : Int) := by omega
   rw [e] at h; exact_mod_cast h
 · right; exact h
theorem fdTest_stop {p : Int} {k : Nat} (h2 : 2 ≤ p) (h97 : p ≤ 97) (h2k : 2 ≤ k) (hk : (k : Int) * k ≤ p) (hd : p % (k : Int) = 0) : fieldB p = false := by
 obtain ⟨n, rfl⟩ := Int.eq_ofNat_of_zero_le (show 0 ≤ p by omega)
 have hk' : k * k ≤ n := by exact_mod_cast hk
 have : k ≤ 11 := by
  by_cases h : k ≤ 11
  · exact h
  · exfalso
    have := Nat.mul_le_mul (show 12 ≤ k by omega) (show 12 ≤ k by omega)
    omega
 exact fdTest_stop_nat ⟨n, by omega⟩ ⟨k, by omega⟩ (by show 2 ≤ n; omega) h2k hk' hd
def inB (lo hi : Int) (l : List Int) : Bool := l.all fun x => decide (lo ≤ x) && decide (x ≤ hi)
theorem inB_iff {lo hi : Int} {l : List Int} : inB lo hi l = true ↔ ∀ x, x ∈ l → lo ≤ x ∧ x ≤ hi := by simp [inB]
end Go.Proofs.YtpkmjenoniedjaaDoor
namespace Go.Proofs.YtpkmjenoniedjaaDoor
def addT (p : Int) (v : List Int) (c : Int) (w : List Int) : List Int := (List.range v.length).map fun i => if i < w.length then (v.getD i 0 + c * w.getD i 0) % p else v.getD i 0
@[simp] theorem addT_length (p : Int) (v : List Int) (c : Int) (w : List Int) : (addT p v c w).length = v.length := by simp [addT]
theorem addT_getD (p c : Int) (v w : List Int) (k : Nat) : (addT p v c w).getD k 0 = if k < v.length then (if k < w.length then (v.getD k 0 + c * w.getD k 0) % p else v.getD k 0) else 0 := by
 by_cases h : k < v.length
 · simp [addT, List.getD, h]
 · simp [addT, List.getD, h]
theorem addT_bounds {p c : Int} (hp : 0 < p) {v w : List Int} (hv : ∀ x, x ∈ v → 0 ≤ x ∧ x < p) : ∀ x, x ∈ addT p v c w → 0 ≤ x ∧ x < p := by
 intro x hx
 simp only [addT, List.mem_map, List.mem_range] at hx
 obtain ⟨i, hi, rfl⟩ := hx
 split
 · exact ⟨Int.emod_nonneg _ (by omega), Int.emod_lt_of_pos _ hp⟩
 · apply hv
   simp [List.getD, hi]
def powM (p : Int) : Nat → Int → Nat → Int → Int
 | 0, _, _, out => out
 | fuel + 1, a, n, out => if n = 0 then out else powM p fuel (a * a % p) (n / 2) (if n % 2 = 1 then out * a % p else out)
def invM (p a : Int) : Int := powM p 8 a ((p - 2).toNat + (if p = 2 then 1 else 0)) (1 % p)
theorem invM_nat : ∀ p : Fin 98, fieldB (p.val : Int) = true → ∀ a : Fin 98, 1 ≤ a.val → a.val < p.val → ((a.val : Int) * invM p.val a.val) % (p.val : Int) = 1 ∧ 1 ≤ invM p.val a.val ∧ invM p.val a.val < (p.val : Int) := by decide +kernel
theorem invM_spec {p a : Int} (hp : fieldB p = true) (h1 : 1 ≤ a) (h2 : a < p) : (a * invM p a) % p = 1 ∧ 1 ≤ invM p a ∧ invM p a < p := by
 have hb := fieldB_bounds hp
 obtain ⟨n, rfl⟩ := Int.eq_ofNat_of_zero_le (show 0 ≤ p by omega)
 obtain ⟨m, rfl⟩ := Int.eq_ofNat_of_zero_le (show 0 ≤ a by omega)
 exact invM_nat ⟨n, by omega⟩ hp ⟨m, by omega⟩ (by show 1 ≤ m; omega) (by show m < n; omega)
end Go.Proofs.YtpkmjenoniedjaaDoor
namespace Go.Proofs.YtpkmjenoniedjaaDoor
def Res (p : Int) (l : List Int) : Prop := ∀ x, x ∈ l → 0 ≤ x ∧ x < p
theorem Res.getD {p : Int} {l : List Int} (h : Res p l) (hp : 0 < p) (j : Nat) : 0 ≤ l.getD j 0 ∧ l.getD j 0 < p := by
 by_cases hj : j < l.length
 · rw [List.getD_eq_getElem?_getD, List.getElem?_eq_getElem hj]; exact h _ (List.getElem_mem hj)
 · rw [List.getD_eq_getElem?_getD, List.getElem?_eq_none (by omega)]; simp; exact hp
theorem Res.take {p : Int} {l : List Int} (h : Res p l) (k : Nat) : Res p (l.take k) := fun x hx => h x (List.mem_of_mem_take hx)
theorem Res.drop {p : Int} {l : List Int} (h : Res p l) (k : Nat) : Res p (l.drop k) := fun x hx => h x (List.mem_of_mem_drop hx)
theorem Res.append {p : Int} {l m : List Int} (h : Res p l) (h' : Res p m) : Res p (l ++ m) := fun x hx => by
 rcases List.mem_append.1 hx with hx | hx
 · exact h x hx
 · exact h' x hx
theorem Res.addT {p c : Int} {v w : List Int} (hp : 0 < p) (h : Res p v) : Res p (addT p v c w) := addT_bounds hp h
theorem Res.replicate {p : Int} (hp : 0 < p) (n : Nat) : Res p (List.replicate n 0) := fun x hx => by
 rw [List.mem_replicate] at hx; omega
theorem Res.set {p : Int} {l : List Int} (h : Res p l) {x : Int} (hx : 0 ≤ x ∧ x < p) (k : Nat) : Res p (l.set k x) := fun y hy => by
 rcases List.mem_or_eq_of_mem_set hy with h1 | rfl
 · exact h y h1
 · exact hx
open Go.RowKit
def Tab (w : World) : Prop := w.cell? ⟨0, 0, none⟩ = some (.int .i64 2) ∧ w.cell? ⟨0, 1, none⟩ = some (.int .i64 3) ∧ w.cell? ⟨0, 2, none⟩ = some (.int .i64 5) ∧ w.cell? ⟨0, 3, none⟩ = some (.int .i64 7)
theorem Tab.lt {w : World} (h : Tab w) : 0 < w.heap.size := World.block_lt_of_cell? w _ h.1
theorem Tab.below {w w' : World} {B : Nat} (h : Tab w) (hb : Below B w w') (hB : 0 < B) : Tab w' := by
 unfold Tab
 have hc : ∀ k, w'.cell? ⟨0, k, none⟩ = w.cell? ⟨0, k, none⟩ := fun k => hb.cell hB
 simp only [hc]; exact h
theorem Tab.drewN {w : World} (h : Tab w) (n : Nat) : Tab (w.drewN n) := h
set_option maxHeartbeats 400000 in
theorem l1In_any (n lo hi : Int) (w : World) :
  Calls Tryd.prog 54 #[.int .i64 n, .int .i64 lo, .int .i64 hi] w fun e w' => e = .returned (.bool (decide (lo ≤ n) && decide (n ≤ hi))) ∧ w = w' := by
 go_enter Tryd.func54, Tryd.ntmps54
 go_wp2
 all_goals go_ret
 all_goals (refine ⟨ret_bool ?_, rfl⟩; simp; try omega)
set_option maxHeartbeats 400000 in
theorem fdGood_any (p : Int) (w : World) :
  Calls Tryd.prog 45 #[.int .i64 p] w fun e w' => e = .returned (.bool (fieldB p)) ∧ w = w' := by
 by_cases hp : 2 ≤ p ∧ p ≤ 97
 · obtain ⟨h2, h97⟩ := hp
   have hin : (decide (2 ≤ p) && decide (p ≤ 97)) = true := by simp [h2, h97]
   go_enter Tryd.func45, Tryd.ntmps45
   go_wp2_with (go_at_call 54; refine (l1In_any _ _ _ _).mono ?_; rintro e w' ⟨rfl, rfl⟩)
   clear hin
   go_loop [3] (fun i => ∃ k : Nat, 2 ≤ k ∧ k ≤ 11 ∧ i = .int .i64 k ∧ fdTest p k = true ∧ (((k : Int) - 1) * ((k : Int) - 1) ≤ p ∨ k = 2)) (fun i => 12 - (intOf i).toNat)
   case atStart => exact ⟨2, by omega, by omega, rfl, by simp [fdTest, List.range_succ], .inr rfl⟩
   case round =>
    obtain ⟨k, h2k, hk, rfl, ht, hlast⟩ := hrel
    have HT := lH ht; have HL := lH hlast; clear ht hlast
    have hkk : (k : Int) * k ≤ 121 := by
     have := Nat.mul_le_mul hk hk
     exact_mod_cast this
    have hkk0 : (0 : Int) ≤ (k : Int) * k := Int.mul_nonneg (by omega) (by omega)
    by_cases hlt : (k : Int) * k ≤ p
    · have hk9 : k ≤ 9 := by
       by_cases h : k ≤ 9
       · exact h
       · exfalso
         have h1 : (10 : Int) * 10 ≤ (k : Int) * k := Int.mul_le_mul (by omega) (by omega) (by omega) (by omega)
         omega
      go_wp2
      · have hd : (p % (k : Int) == 0) = true := by assumption
        go_ret
        refine ⟨ret_bool ?_, rfl⟩
        exact (fdTest_stop h2 h97 h2k hlt (by simpa using hd)).symm
      · have hd : (p % (k : Int) == 0) = false := by assumption
        go_round
        case rel =>
         refine ⟨k + 1, by omega, by omega, by go_num, ?_, .inl ?_⟩
         · rw [fdTest_succ, HT.out]
           have : ¬ p % (k : Int) = 0 := by simpa using hd
           simp [this]
         · have e : (((k + 1 : Nat) : Int) - 1) = (k : Int) := by omega
           rw [e]; exact hlt
        case measure => simp [intOf]; omega
    · go_wp2
      go_ret
      refine ⟨ret_bool ?_, rfl⟩
      rw [← fdTest_end h2 h97 (by omega) HL.out hk h2k]; exact HT.out.symm
 · have hin : (decide (2 ≤ p) && decide (p ≤ 97)) = false := by simp; omega
   go_enter Tryd.func45, Tryd.ntmps45
   go_wp2_with (go_at_call 54; refine (l1In_any _ _ _ _).mono ?_; rintro e w' ⟨rfl, rfl⟩)
   go_ret
   exact ⟨ret_bool (by simp [fieldB]; omega), rfl⟩
set_option maxHeartbeats 400000 in
theorem isField_any (p : Int) (w : World) (hT : Tab w) :
  Calls Tryd.prog 49 #[.int .i64 p] w fun e w' => e = .returned (.bool (fieldB p)) ∧ w = w' := by
 obtain ⟨h0, h1, h2, h3⟩ := hT
 have i0 : ∀ w, (Instr.index 80 (.agg #[.int .i64 2, .int .i64 3, .int .i64 5, .int .i64 7]) (.int .i64 0)).run Tryd.prog w = .ok (.int .i64 2) w := fun _ => by kernel_rfl
 have i1 : ∀ w, (Instr.index 80 (.agg #[.int .i64 2, .int .i64 3, .int .i64 5, .int .i64 7]) (.int .i64 1)).run Tryd.prog w = .ok (.int .i64 3) w := fun _ => by kernel_rfl
 have i2 : ∀ w, (Instr.index 80 (.agg #[.int .i64 2, .int .i64 3, .int .i64 5, .int .i64 7]) (.int .i64 2)).run Tryd.prog w = .ok (.int .i64 5) w := fun _ => by kernel_rfl
 have i3 : ∀ w, (Instr.index 80 (.agg #[.int .i64 2, .int .i64 3, .int .i64 5, .int .i64 7]) (.int .i64 3)).run Tryd.prog w = .ok (.int .i64 7) w := fun _ => by kernel_rfl
 by_cases hp : 2 ≤ p ∧ p ≤ 97
 · obtain ⟨h2, h97⟩ := hp
   go_enter Tryd.func49, Tryd.ntmps49
   go_wp2_with (fail)
   go_loop [12] (fun i => (i = .int .i64 0) ∨ (i = .int .i64 1 ∧ (p % 2 = 0 → p = 2)) ∨ (i = .int .i64 2 ∧ (p % 2 = 0 → p = 2) ∧ (p % 3 = 0 → p = 3)) ∨ (i = .int .i64 3 ∧ (p % 2 = 0 → p = 2) ∧ (p % 3 = 0 → p = 3) ∧ (p % 5 = 0 → p = 5)) ∨ (i = .int .i64 4 ∧ (p % 2 = 0 → p = 2) ∧ (p % 3 = 0 → p = 3) ∧ (p % 5 = 0 → p = 5) ∧ (p % 7 = 0 → p = 7)))
    (fun i => 4 - (intOf i).toNat)
   case atStart => exact .inl rfl
   case round =>
    rcases hrel with rfl | ⟨rfl, HH⟩ | ⟨rfl, HH⟩ | ⟨rfl, HH⟩ | ⟨rfl, HH⟩
    · by_cases ha : p % 2 = 0
      · by_cases hb : p = 2
        · subst hb
          have ht : (2 : Int) % 2 = 0 → (2 : Int) = 2 := fun _ => rfl
          have HX := lH ht; clear ht ha
          go_wp2_with (fail)
          go_round
          case rel => have ht := HX.out; exact .inr (.inl ⟨by go_num, (by first | exact ht | (intro _; trivial))⟩)
          case measure => simp [intOf]
        · have hn : (p == 2) = false := by simpa using hb
          have hn' : (p != 2) = true := by simpa using hb
          have hz : (p % 2 == 0) = true := by simpa using ha
          have HA := lH ha; have HB := lH hb; clear ha hb
          go_wp2_with (fail)
          go_ret
          exact ⟨ret_bool (by have h1 := HA.out; have h2 := HB.out; simp [fieldB, h1, h2]), rfl⟩
      · have hz : (p % 2 == 0) = false := by simpa using ha
        have ht : p % 2 = 0 → p = 2 := fun h => absurd h ha
        have HX := lH ht; clear ht ha
        go_wp2_with (fail)
        go_round
        case rel => have ht := HX.out; exact .inr (.inl ⟨by go_num, (by first | exact ht | (intro _; trivial))⟩)
        case measure => simp [intOf]
    · have HI := lH HH
      clear HH
      by_cases ha : p % 3 = 0
      · by_cases hb : p = 3
        · subst hb
          have ht : (3 : Int) % 3 = 0 → (3 : Int) = 3 := fun _ => rfl
          have HX := lH ht; clear ht ha
          go_wp2_with (fail)
          go_round
          case rel => have ht := HX.out; exact .inr (.inr (.inl ⟨by go_num, HI.out, (by first | exact ht | (intro _; trivial))⟩))
          case measure => simp [intOf]
        · have hn : (p == 3) = false := by simpa using hb
          have hn' : (p != 3) = true := by simpa using hb
          have hz : (p % 3 == 0) = true := by simpa using ha
          have HA := lH ha; have HB := lH hb; clear ha hb
          go_wp2_with (fail)
          go_ret
          exact ⟨ret_bool (by have h1 := HA.out; have h2 := HB.out; simp [fieldB, h1, h2]), rfl⟩
      · have hz : (p % 3 == 0) = false := by simpa using ha
        have ht : p % 3 = 0 → p = 3 := fun h => absurd h ha
        have HX := lH ht; clear ht ha
        go_wp2_with (fail)
        go_round
        case rel => have ht := HX.out; exact .inr (.inr (.inl ⟨by go_num, HI.out, (by first | exact ht | (intro _; trivial))⟩))
        case measure => simp [intOf]
    · have HI := lH HH
      clear HH
      by_cases ha : p % 5 = 0
      · by_cases hb : p = 5
        · subst hb
          have ht : (5 : Int) % 5 = 0 → (5 : Int) = 5 := fun _ => rfl
          have HX := lH ht; clear ht ha
          go_wp2_with (fail)
          go_round
          case rel => have ht := HX.out; exact .inr (.inr (.inr (.inl ⟨by go_num, HI.out.1, HI.out.2, (by first | exact ht | (intro _; trivial))⟩)))
          case measure => simp [intOf]
        · have hn : (p == 5) = false := by simpa using hb
          have hn' : (p != 5) = true := by simpa using hb
          have hz : (p % 5 == 0) = true := by simpa using ha
          have HA := lH ha; have HB := lH hb; clear ha hb
          go_wp2_with (fail)
          go_ret
          exact ⟨ret_bool (by have h1 := HA.out; have h2 := HB.out; simp [fieldB, h1, h2]), rfl⟩
      · have hz : (p % 5 == 0) = false := by simpa using ha
        have ht : p % 5 = 0 → p = 5 := fun h => absurd h ha
        have HX := lH ht; clear ht ha
        go_wp2_with (fail)
        go_round
        case rel => have ht := HX.out; exact .inr (.inr (.inr (.inl ⟨by go_num, HI.out.1, HI.out.2, (by first | exact ht | (intro _; trivial))⟩)))
        case measure => simp [intOf]
    · have HI := lH HH
      clear HH
      by_cases ha : p % 7 = 0
      · by_cases hb : p = 7
        · subst hb
          have ht : (7 : Int) % 7 = 0 → (7 : Int) = 7 := fun _ => rfl
          have HX := lH ht; clear ht ha
          go_wp2_with (fail)
          go_round
          case rel => have ht := HX.out; exact .inr (.inr (.inr (.inr (⟨by go_num, HI.out.1, HI.out.2.1, HI.out.2.2, (by first | exact ht | (intro _; trivial))⟩))))
          case measure => simp [intOf]
        · have hn : (p == 7) = false := by simpa using hb
          have hn' : (p != 7) = true := by simpa using hb
          have hz : (p % 7 == 0) = true := by simpa using ha
          have HA := lH ha; have HB := lH hb; clear ha hb
          go_wp2_with (fail)
          go_ret
          exact ⟨ret_bool (by have h1 := HA.out; have h2 := HB.out; simp [fieldB, h1, h2]), rfl⟩
      · have hz : (p % 7 == 0) = false := by simpa using ha
        have ht : p % 7 = 0 → p = 7 := fun h => absurd h ha
        have HX := lH ht; clear ht ha
        go_wp2_with (fail)
        go_round
        case rel => have ht := HX.out; exact .inr (.inr (.inr (.inr (⟨by go_num, HI.out.1, HI.out.2.1, HI.out.2.2, (by first | exact ht | (intro _; trivial))⟩))))
        case measure => simp [intOf]
    · have HI := lH HH
      clear HH
      go_wp2_with (fail)
      go_ret
      exact ⟨ret_bool (by have h : fieldB p = true := by (simp only [fieldB, decide_eq_true_eq]; exact ⟨h2, h97, HI.out⟩)
                          exact h.symm), rfl⟩
 · go_enter Tryd.func49, Tryd.ntmps49
   by_cases hlt : p < 2
   · go_wp2_with (fail)
     go_ret
     exact ⟨ret_bool (by simp [fieldB]; omega), rfl⟩
   · have hgt : 97 < p := by omega
     go_wp2_with (fail)
     go_ret
     exact ⟨ret_bool (by simp [fieldB]; omega), rfl⟩
theorem tmod_neg {a p : Int} (ha : a < 0) (hp : 0 < p) : (a.tmod p = 0 ∧ a % p = 0) ∨ (a.tmod p < 0 ∧ a.tmod p + p = a % p) := by
 have e : a.tmod p = -((-a) % p) := by
  have h1 : (-a).tmod p = (-a) % p := Int.tmod_eq_emod_of_nonneg (by omega)
  rw [← h1, Int.neg_tmod, Int.neg_neg]
 have h2 := Int.emod_nonneg (-a) (show p ≠ 0 by omega)
 have h3 := Int.emod_lt_of_pos (-a) hp
 have h4 := Int.emod_nonneg a (show p ≠ 0 by omega)
 have h5 := Int.emod_lt_of_pos a hp
 have h6 : (a % p + (-a) % p) % p = 0 := by rw [← Int.add_emod, show a + -a = 0 by omega]; simp
 rw [e]
 by_cases h0 : (-a) % p = 0
 · left; refine ⟨by omega, ?_⟩
   rw [h0, Int.add_zero, Int.emod_eq_of_lt h4 h5] at h6; exact h6
 · right; refine ⟨by omega, ?_⟩
   by_cases h7 : a % p + (-a) % p < p
   · rw [Int.emod_eq_of_lt (by omega) h7] at h6; omega
   · have h8 : (a % p + (-a) % p) % p = a % p + (-a) % p - p := by
      rw [← Int.sub_emod_right, Int.emod_eq_of_lt (by omega) (by omega)]
     omega
set_option maxHeartbeats 400000 in
theorem mod_any (p a : Int) (w : World) (h0 : 0 < p) (h97 : p ≤ 97) (ha : -1000000000 ≤ a) (ha' : a ≤ 1000000000) :
  Calls Tryd.prog 42 #[.int .i64 p, .int .i64 a] w fun e w' => e = .returned (.int .i64 (a % p)) ∧ w = w' := by
 have hz : (p == 0) = false := by rw [beq_eq_false_iff_ne]; omega
 have h1 := Int.emod_nonneg a (show p ≠ 0 by omega)
 have h2 := Int.emod_lt_of_pos a h0
 by_cases hneg : 0 ≤ a
 · go_enter Tryd.func42, Tryd.ntmps42
   go_wp2_with (fail)
   go_ret
   exact ⟨ret_int rfl, rfl⟩
 · obtain ⟨t, ht⟩ : ∃ t, a.tmod p = t := ⟨_, rfl⟩
   have hcase := tmod_neg (a := a) (p := p) (by omega) h0
   rw [ht] at hcase
   rcases hcase with ⟨rfl, he⟩ | ⟨hlt, he⟩
   · have HE := lH he
     clear he
     go_enter Tryd.func42, Tryd.ntmps42
     go_wp2_with (fail)
     go_ret
     exact ⟨ret_int HE.out.symm, rfl⟩
   · have HE := lH he
     have hgt : -97 ≤ t := by omega
     clear he
     go_enter Tryd.func42, Tryd.ntmps42
     go_wp2_with (fail)
     go_ret
     exact ⟨ret_int HE.out, rfl⟩
set_option maxHeartbeats 400000 in
theorem zeros_any (n : Nat) (w : World) (hn : n ≤ 17592186044416) :
  Calls Tryd.prog 41 #[.int .i64 n] w (RetI w (List.replicate n 0)) := by
 go_enter Tryd.func41, Tryd.ntmps41
 go_wp2_with (at_make; refine wpList_make_Sl _ rfl _ _ _ rfl 3 Tryd.underlying23 info_int n n rfl rfl rfl rfl (Nat.le_refl _) (by omega) (by unfold maxLen; omega) ?_; intro G w1 hs hG hb1)
 go_ret
 refine ⟨some G, n, by simp, ?_, fun b hb => by simp at hb; subst hb; exact hG, hb1⟩
 unfold IS; rw [← madeZeros]; simpa using hs
set_option maxHeartbeats 400000 in
theorem l1Own_any (A : Option Addr) (c : Nat) (l : List Int) (w : World) (h : RdI w A l) (hl : l.length ≤ 17592186044416) :
  Calls Tryd.prog 31 #[.slice A l.length c] w (RetI w l) := by
 go_enter Tryd.func31, Tryd.ntmps31
 have hs0 := Sl.laid w 3 1 0 #[] (Nat.zero_le _) rfl
 go_wp2_with (at_builtin; refine wpList_append_Sl _ rfl _ _ _ rfl 3 Tryd.underlying23 info_int rfl (by omega) rfl hs0 rfl (by simp) (h.rdc.alloc _) (ints_one l) (by unfold maxLen; omega) (by omega) ?_; intro A1 cap1 w1 hs hA hk)
 go_ret
 refine ⟨A1, cap1, by simp, ?_, ?_, ?_⟩
 · simpa [IS] using hs
 · intro b hb
   rcases hA b hb with h1 | h1
   · simp at h1; omega
   · simp at h1; omega
 · exact ((Below.refl w.heap.size w).alloc (Nat.le_refl _) _).trans (hk.below (by simp) (by simp))
theorem get_take_drop {α : Type} {l m : List α} {k : Nat} (hl : l.length = m.length) (hk : k < m.length) : (l.take k ++ m.drop k)[k]? = m[k]? := by
 rw [List.getElem?_append_right (by simp; omega)]
 simp [show min k l.length = k by omega]
end Go.Proofs.YtpkmjenoniedjaaDoor
namespace Go.Proofs.YtpkmjenoniedjaaDoor
theorem dvd_l {p a : Int} (h : p ∣ a) (b : Int) : p ∣ a * b := by
 obtain ⟨k, rfl⟩ := h; exact ⟨k * b, Int.mul_assoc _ _ _⟩
theorem dvd_r {p a : Int} (h : p ∣ a) (b : Int) : p ∣ b * a := by
 rw [Int.mul_comm]; exact dvd_l h b
def sm : Nat → (Nat → Int) → Int
 | 0, _ => 0
 | n + 1, f => sm n f + f n
theorem sm_congr {n : Nat} {f g : Nat → Int} (h : ∀ i, i < n → f i = g i) : sm n f = sm n g := by
 induction n with
 | zero => rfl
 | succ n ih => rw [sm, sm, ih fun i hi => h i (by omega), h n (by omega)]
theorem sm_zero (n : Nat) : sm n (fun _ => 0) = 0 := by
 induction n with
 | zero => rfl
 | succ n ih => rw [sm, ih]; rfl
theorem sm_add (n : Nat) (f g : Nat → Int) : sm n (fun i => f i + g i) = sm n f + sm n g := by
 induction n with
 | zero => rfl
 | succ n ih => rw [sm, sm, sm, ih]; omega
theorem sm_sub (n : Nat) (f g : Nat → Int) : sm n (fun i => f i - g i) = sm n f - sm n g := by
 induction n with
 | zero => rfl
 | succ n ih => rw [sm, sm, sm, ih]; omega
theorem sm_mul (n : Nat) (c : Int) (f : Nat → Int) : sm n (fun i => c * f i) = c * sm n f := by
 induction n with
 | zero => simp [sm]
 | succ n ih => rw [sm, sm, ih, Int.mul_add]
theorem sm_one {n k : Nat} (hk : k < n) {f : Nat → Int} (h : ∀ i, i < n → i ≠ k → f i = 0) : sm n f = f k := by
 induction n with
 | zero => omega
 | succ n ih =>
   rw [sm]
   by_cases e : k = n
   · subst e
     rw [sm_congr (g := fun _ => 0) (fun i hi => h i (by omega) (by omega)), sm_zero, Int.zero_add]
   · rw [ih (by omega) fun i hi hik => h i (by omega) hik, h n (by omega) (by omega), Int.add_zero]
theorem sm_dvd {p : Int} {n : Nat} {f : Nat → Int} (h : ∀ i, i < n → p ∣ f i) : p ∣ sm n f := by
 induction n with
 | zero => exact Int.dvd_zero p
 | succ n ih => exact Int.dvd_add (ih fun i hi => h i (by omega)) (h n (by omega))
theorem sm_dvd_sub {p : Int} {n : Nat} {f g : Nat → Int} (h : ∀ i, i < n → p ∣ f i - g i) : p ∣ sm n f - sm n g := by
 rw [← sm_sub]; exact sm_dvd h
def Nul (p : Int) (n : Nat) (R : Nat → Nat → Int) (r : Nat) (x : Nat → Int) : Prop := ∀ i, i < r → p ∣ sm n fun j => R i j * x j
structure Red (p : Int) (n : Nat) (R : Nat → Nat → Int) (r : Nat) (c : Nat → Nat) : Prop where
 lt : ∀ i, i < r → c i < n
 one : ∀ i, i < r → R i (c i) = 1
 zero : ∀ i k, i < r → k < r → k ≠ i → R k (c i) = 0
 before : ∀ i j, i < r → j < c i → R i j = 0
 mono : ∀ i k, i < k → k < r → c i < c k
 res : ∀ i j, i < r → j < n → 0 ≤ R i j ∧ R i j < p
end Go.Proofs.YtpkmjenoniedjaaDoor
namespace Go.Proofs.YtpkmjenoniedjaaDoor
theorem dvd_emod_sub (p a : Int) : p ∣ a % p - a := by
 have := Int.emod_add_mul_ediv a p
 exact ⟨-(a / p), by rw [Int.mul_neg]; omega⟩
theorem dvd_sub_emod (p a : Int) : p ∣ a - a % p := by
 have := Int.emod_add_mul_ediv a p
 exact ⟨a / p, by omega⟩
theorem comb_dvd {p : Int} {n : Nat} {A B C x : Nat → Int} (a b : Int) (h : ∀ j, j < n → p ∣ A j - (a * B j + b * C j)) (hB : p ∣ sm n fun j => B j * x j) (hC : p ∣ sm n fun j => C j * x j) : p ∣ sm n fun j => A j * x j := by
 have h1 : p ∣ (sm n fun j => A j * x j) - sm n fun j => (a * (B j * x j) + b * (C j * x j)) := sm_dvd_sub fun j hj => by
  have := dvd_l (h j hj) (x j)
  have e : (A j - (a * B j + b * C j)) * x j = A j * x j - (a * (B j * x j) + b * (C j * x j)) := by
   rw [Int.sub_mul, Int.add_mul, Int.mul_assoc, Int.mul_assoc]
  rwa [e] at this
 rw [sm_add, sm_mul, sm_mul] at h1
 have h2 : p ∣ a * (sm n fun j => B j * x j) + b * (sm n fun j => C j * x j) := Int.dvd_add (dvd_r hB a) (dvd_r hC b)
 have := Int.dvd_add h1 h2
 rwa [Int.sub_add_cancel] at this
def tr (r k i : Nat) : Nat := if i = k then r else i
def stepE (p : Int) (c r k : Nat) (iv : Int) (E : Nat → Nat → Int) (i j : Nat) : Int :=
 if i = r then E k j * iv % p else (E (tr r k i) j - E (tr r k i) c * (E k j * iv % p)) % p
structure Inv (p : Int) (n m c r : Nat) (E : Nat → Nat → Int) (ld : Nat → Nat) : Prop where
 le : r ≤ m
 lt : ∀ i, i < r → ld i < c
 one : ∀ i, i < r → E i (ld i) = 1
 zero : ∀ i k, i < r → k < m → k ≠ i → E k (ld i) = 0
 before : ∀ i j, i < r → j < ld i → E i j = 0
 mono : ∀ i k, i < k → k < r → ld i < ld k
 rest : ∀ k j, r ≤ k → k < m → j < c → E k j = 0
 res : ∀ i j, i < m → j < n → 0 ≤ E i j ∧ E i j < p
theorem Inv.start {p : Int} {n m : Nat} {E : Nat → Nat → Int} (h : ∀ i j, i < m → j < n → 0 ≤ E i j ∧ E i j < p) (ld : Nat → Nat) : Inv p n m 0 0 E ld :=
 ⟨Nat.zero_le _, fun i hi => by omega, fun i hi => by omega, fun i k hi => by omega, fun i j hi => by omega, fun i k _ hk => by omega, fun k j _ _ hj => by omega, h⟩
theorem Inv.skip {p : Int} {n m c r : Nat} {E : Nat → Nat → Int} {ld : Nat → Nat} (h : Inv p n m c r E ld) (hz : ∀ k, r ≤ k → k < m → E k c = 0) : Inv p n m (c + 1) r E ld :=
 ⟨h.le, fun i hi => by have := h.lt i hi; omega, h.one, h.zero, h.before, h.mono, fun k j hk hm hj => by
  rcases Nat.lt_or_ge j c with hl | hl
  · exact h.rest k j hk hm hl
  · obtain rfl : j = c := by omega
    exact hz k hk hm, h.res⟩
section
variable {p : Int} {n m c r k : Nat} {E : Nat → Nat → Int} {ld : Nat → Nat} {iv : Int}
theorem tr_lt (hr : r < m) {i : Nat} (hi : i < m) : tr r k i < m := by unfold tr; split <;> omega
theorem step_low (h : Inv p n m c r E ld) (hc : c < n) (hrk : r ≤ k) (hk : k < m) {i j : Nat} (hi : i < m) (hj : j < c) (hir : i ≠ r) : stepE p c r k iv E i j = E (tr r k i) j := by
 unfold stepE
 rw [if_neg hir, h.rest k j hrk hk hj]
 have := h.res (tr r k i) j (tr_lt (by omega) hi) (by omega)
 simp only [Int.zero_mul, Int.zero_emod, Int.mul_zero, Int.sub_zero]
 exact Int.emod_eq_of_lt this.1 this.2
theorem step_piv (h : Inv p n m c r E ld) (hrk : r ≤ k) (hk : k < m) {j : Nat} (hj : j < c) : stepE p c r k iv E r j = 0 := by
 unfold stepE
 rw [if_pos rfl, h.rest k j hrk hk hj, Int.zero_mul, Int.zero_emod]
theorem Inv.step (h : Inv p n m c r E ld) (hp : 0 < p) (hc : c < n) (hrk : r ≤ k) (hk : k < m) (hiv : E k c * iv % p = 1) :
  Inv p n m (c + 1) (r + 1) (stepE p c r k iv E) (fun i => if i < r then ld i else c) := by
 have hcol : ∀ i, i < m → i ≠ r → stepE p c r k iv E i c = 0 := by
  intro i hi hir
  unfold stepE
  rw [if_neg hir, hiv, Int.mul_one, Int.sub_self, Int.zero_emod]
 refine ⟨by omega, ?_, ?_, ?_, ?_, ?_, ?_, ?_⟩
 · intro i hi
   by_cases hir : i < r
   · have := h.lt i hir; simp only [hir, if_true]; omega
   · simp only [hir, if_false]; omega
 · intro i hi
   by_cases hir : i < r
   · simp only [hir, if_true]
     rw [step_low h hc hrk hk (by omega) (h.lt i hir) (by omega)]
     unfold tr; rw [if_neg (by omega)]; exact h.one i hir
   · obtain rfl : i = r := by omega
     simp only [hir, if_false]
     unfold stepE; rw [if_pos rfl]; exact hiv
 · intro i k' hi hk' hne
   by_cases hir : i < r
   · simp only [hir, if_true]
     by_cases hkr : k' = r
     · subst hkr; exact step_piv h hrk hk (h.lt i hir)
     · rw [step_low h hc hrk hk hk' (h.lt i hir) hkr]
       refine h.zero i _ hir (tr_lt (by omega) hk') ?_
       unfold tr; split <;> omega
   · obtain rfl : i = r := by omega
     simp only [hir, if_false]
     exact hcol k' hk' hne
 · intro i j hi hj
   by_cases hir : i < r
   · simp only [hir, if_true] at hj
     have := h.lt i hir
     rw [step_low h hc hrk hk (by omega) (by omega) (by omega)]
     unfold tr; rw [if_neg (by omega)]; exact h.before i j hir hj
   · obtain rfl : i = r := by omega
     simp only [hir, if_false] at hj
     exact step_piv h hrk hk hj
 · intro i k' hik hk'
   have h1 : i < r := by omega
   by_cases hkr : k' < r
   · simp only [h1, hkr, if_true]; exact h.mono i k' hik hkr
   · simp only [h1, hkr, if_true, if_false]; exact h.lt i h1
 · intro k' j hk' hm hj
   rcases Nat.lt_or_ge j c with hl | hl
   · rw [step_low h hc hrk hk hm hl (by omega)]
     exact h.rest _ j (by unfold tr; split <;> omega) (tr_lt (by omega) hm) hl
   · obtain rfl : j = c := by omega
     exact hcol k' hm (by omega)
 · intro i j _ _
   unfold stepE
   split <;> exact ⟨Int.emod_nonneg _ (by omega), Int.emod_lt_of_pos _ hp⟩
theorem step_rowr (j : Nat) : p ∣ stepE p c r k iv E r j - (iv * E k j + 0 * E k j) := by
 unfold stepE
 rw [if_pos rfl, Int.zero_mul, Int.add_zero, Int.mul_comm iv]
 exact dvd_emod_sub _ _
theorem step_rowi {i : Nat} (hir : i ≠ r) (j : Nat) : p ∣ stepE p c r k iv E i j - (1 * E (tr r k i) j + (-(E (tr r k i) c)) * stepE p c r k iv E r j) := by
 have e : stepE p c r k iv E r j = E k j * iv % p := by unfold stepE; rw [if_pos rfl]
 rw [e]
 unfold stepE
 rw [if_neg hir, Int.one_mul, Int.neg_mul, ← Int.sub_eq_add_neg]
 exact dvd_emod_sub _ _
theorem step_nul (hr : r < m) (hk : k < m) (hiv : E k c * iv % p = 1) (x : Nat → Int) : Nul p n (stepE p c r k iv E) m x ↔ Nul p n E m x := by
 constructor
 · intro hx i hi
   have hkk : p ∣ sm n fun j => E k j * x j := by
    refine comb_dvd (E k c) 0 (B := stepE p c r k iv E r) (C := stepE p c r k iv E r) (fun j _ => ?_) (hx r hr) (hx r hr)
    have h1 := dvd_sub_emod p (E k j * iv)
    have h2 := dvd_sub_emod p (E k c * iv)
    rw [hiv] at h2
    have e : stepE p c r k iv E r j = E k j * iv % p := by unfold stepE; rw [if_pos rfl]
    rw [e, Int.zero_mul, Int.add_zero]
    obtain ⟨a, ha⟩ := h1
    obtain ⟨b, hb⟩ := h2
    refine ⟨E k c * a - E k j * b, ?_⟩
    have e1 : E k j * iv % p = E k j * iv - p * a := by omega
    have e2 : E k c * (E k j * iv) = E k j * (E k c * iv) := by rw [Int.mul_left_comm]
    have e3 : E k c * iv = p * b + 1 := by omega
    rw [e1, Int.mul_sub, e2, e3, Int.mul_add, Int.mul_one, Int.mul_sub, Int.mul_left_comm p (E k c) a, Int.mul_left_comm p (E k j) b]
    omega
   by_cases hik : i = k
   · subst hik; exact hkk
   · have hi' : tr r k (if i = r then k else i) = i := by
      unfold tr
      by_cases h1 : i = r
      · simp [h1]
      · simp [h1, hik]
     have hne : (if i = r then k else i) ≠ r := by
      by_cases h1 : i = r
      · simp only [h1, if_true]; omega
      · simp only [h1, if_false]; exact h1
     have hlt : (if i = r then k else i) < m := by split <;> omega
     refine comb_dvd 1 (E i c) (B := stepE p c r k iv E (if i = r then k else i)) (C := stepE p c r k iv E r) (fun j _ => ?_) (hx _ hlt) (hx r hr)
     have := step_rowi (p := p) (c := c) (k := k) (iv := iv) (E := E) hne j
     rw [hi'] at this
     obtain ⟨a, ha⟩ := this
     rw [Int.one_mul, Int.neg_mul] at ha
     exact ⟨-a, by rw [Int.mul_neg, ← ha, Int.one_mul]; omega⟩
 · intro hx i hi
   have hrr : p ∣ sm n fun j => stepE p c r k iv E r j * x j := comb_dvd iv 0 (fun j _ => step_rowr j) (hx k hk) (hx k hk)
   by_cases hir : i = r
   · subst hir; exact hrr
   · exact comb_dvd 1 (-(E (tr r k i) c)) (fun j _ => step_rowi hir j) (hx _ (tr_lt hr hi)) hrr
theorem Inv.red (h : Inv p n m n r E ld) : Red p n E r ld :=
 ⟨h.lt, h.one, fun i k hi hk hne => h.zero i k hi (Nat.lt_of_lt_of_le hk h.le) hne, h.before, h.mono, fun i j hi hj => h.res i j (Nat.lt_of_lt_of_le hi h.le) hj⟩
theorem Inv.nul (h : Inv p n m n r E ld) (x : Nat → Int) : Nul p n E m x ↔ Nul p n E r x := by
 constructor
 · intro hx i hi; exact hx i (Nat.lt_of_lt_of_le hi h.le)
 · intro hx i hi
   rcases Nat.lt_or_ge i r with hl | hl
   · exact hx i hl
   · rw [sm_congr (g := fun _ => 0) (fun j hj => by rw [h.rest i j hl hi hj, Int.zero_mul]), sm_zero]; exact Int.dvd_zero p
end
def Gen (p : Int) (n : Nat) (N : (Nat → Int) → Prop) (K : Nat → Nat → Int) (s : Nat) : Prop :=
 (∀ k, k < s → N (K k)) ∧ ∀ x, Nul p n K s x → ∀ y, N y → p ∣ sm n fun j => x j * y j
theorem Gen.nul {p : Int} {n : Nat} {N : (Nat → Int) → Prop} {K K' : Nat → Nat → Int} {s s' : Nat} (h : Gen p n N K s) (h' : Gen p n N K' s') (x : Nat → Int) (hx : Nul p n K s x) : Nul p n K' s' x := by
 intro k hk
 have := h.2 x hx _ (h'.1 k hk)
 rw [sm_congr (g := fun j => x j * K' k j) (fun j _ => Int.mul_comm _ _)]
 exact this
end Go.Proofs.YtpkmjenoniedjaaDoor
namespace Go.Proofs.YtpkmjenoniedjaaDoor
def stepG (p : Int) (r k : Nat) (iv : Int) (f : Nat → Int) (A : Nat → Nat → Int) (i j : Nat) : Int :=
 if i = r then A k j * iv % p else (A (tr r k i) j - f i * (A k j * iv % p)) % p
theorem stepE_eq (p : Int) (c r k : Nat) (iv : Int) (E : Nat → Nat → Int) : stepE p c r k iv E = stepG p r k iv (fun i => E (tr r k i) c) E := rfl
section
variable {p : Int} {n m r k : Nat} {A : Nat → Nat → Int} {iv : Int} {f : Nat → Int}
theorem stepG_rowr (j : Nat) : p ∣ stepG p r k iv f A r j - iv * A k j := by
 unfold stepG
 rw [if_pos rfl, Int.mul_comm iv]
 exact dvd_emod_sub _ _
theorem stepG_rowi {i : Nat} (hir : i ≠ r) (j : Nat) : p ∣ stepG p r k iv f A i j - (A (tr r k i) j - f i * stepG p r k iv f A r j) := by
 have e : stepG p r k iv f A r j = A k j * iv % p := by unfold stepG; rw [if_pos rfl]
 rw [e]
 unfold stepG
 rw [if_neg hir]
 exact dvd_emod_sub _ _
def InSp (p : Int) (n : Nat) (A : Nat → Nat → Int) (m : Nat) (y : Nat → Int) : Prop := ∃ z : Nat → Int, ∀ l, l < n → p ∣ y l - sm m fun i => z i * A i l
theorem InSp.row {i : Nat} (hi : i < m) : InSp p n A m (A i) :=
 ⟨fun k => if k = i then 1 else 0, fun l _ => by rw [sm_one hi (fun k _ hk => by simp [hk])]; simp⟩
theorem InSp.comb {y y1 y2 : Nat → Int} (a b : Int) (h1 : InSp p n A m y1) (h2 : InSp p n A m y2) (h : ∀ l, l < n → p ∣ y l - (a * y1 l + b * y2 l)) : InSp p n A m y := by
 obtain ⟨z1, h1⟩ := h1
 obtain ⟨z2, h2⟩ := h2
 refine ⟨fun i => a * z1 i + b * z2 i, fun l hl => ?_⟩
 have e : (fun i => (a * z1 i + b * z2 i) * A i l) = fun i => a * (z1 i * A i l) + b * (z2 i * A i l) := by
  funext i; rw [Int.add_mul, Int.mul_assoc, Int.mul_assoc]
 rw [e, sm_add, sm_mul, sm_mul]
 obtain ⟨c, hc⟩ := h l hl
 obtain ⟨c1, hc1⟩ := h1 l hl
 obtain ⟨c2, hc2⟩ := h2 l hl
 refine ⟨c + a * c1 + b * c2, ?_⟩
 rw [Int.mul_add, Int.mul_add, Int.mul_left_comm p a, Int.mul_left_comm p b, ← hc1, ← hc2, ← hc, Int.mul_sub, Int.mul_sub]
 omega
theorem InSp.zero : InSp p n A m (fun _ => 0) := ⟨fun _ => 0, fun l _ => by
 rw [sm_congr (g := fun _ => 0) (fun i _ => Int.zero_mul _), sm_zero]; simp⟩
theorem InSp.sum {B : Nat → Nat → Int} {s : Nat} (z : Nat → Int) (h : ∀ i, i < s → InSp p n A m (B i)) : InSp p n A m (fun l => sm s fun i => z i * B i l) := by
 induction s with
 | zero => exact InSp.zero
 | succ s ih =>
   refine InSp.comb 1 (z s) (ih fun i hi => h i (by omega)) (h s (by omega)) fun l _ => ?_
   rw [sm, Int.one_mul, Int.sub_self]; exact Int.dvd_zero p
theorem InSp.trans {B : Nat → Nat → Int} {s : Nat} {y : Nat → Int} (h : InSp p n B s y) (hB : ∀ i, i < s → InSp p n A m (B i)) : InSp p n A m y := by
 obtain ⟨z, hz⟩ := h
 refine InSp.comb 1 0 (InSp.sum z hB) InSp.zero fun l hl => ?_
 rw [Int.one_mul, Int.mul_zero, Int.add_zero]; exact hz l hl
def Makes (p : Int) (M n : Nat) (E A T : Nat → Nat → Int) : Prop := ∀ i, i < M → ∀ k, k < n → p ∣ E i k - sm M fun l => A i l * T l k
theorem Makes.step {M : Nat} {E T : Nat → Nat → Int} (h : Makes p M n E A T) (hr : r < M) (hk : k < M) : Makes p M n (stepG p r k iv f E) (stepG p r k iv f A) T := by
 have hR : ∀ q, q < n → p ∣ stepG p r k iv f E r q - sm M fun l => stepG p r k iv f A r l * T l q := by
  intro q hq
  obtain ⟨a, ha⟩ := h k hk q hq
  obtain ⟨b, hb⟩ := stepG_rowr (p := p) (r := r) (k := k) (iv := iv) (f := f) (A := E) q
  have h3 : p ∣ (sm M fun l => stepG p r k iv f A r l * T l q) - sm M fun l => iv * (A k l * T l q) := sm_dvd_sub fun l _ => by
   rw [← Int.mul_assoc, ← Int.sub_mul]; exact dvd_l (stepG_rowr l) _
  rw [sm_mul] at h3
  obtain ⟨c, hc⟩ := h3
  refine ⟨b + iv * a - c, ?_⟩
  rw [Int.mul_sub, Int.mul_add, Int.mul_left_comm p iv, ← ha, ← hb, ← hc, Int.mul_sub]
  omega
 intro i hi q hq
 by_cases hir : i = r
 · subst hir; exact hR q hq
 · obtain ⟨a, ha⟩ := h (tr r k i) (tr_lt (k := k) hr hi) q hq
   obtain ⟨b, hb⟩ := stepG_rowi (p := p) (k := k) (iv := iv) (f := f) (A := E) hir q
   obtain ⟨d, hd⟩ := hR q hq
   have h3 : p ∣ (sm M fun l => stepG p r k iv f A i l * T l q) - sm M fun l => (A (tr r k i) l * T l q - f i * (stepG p r k iv f A r l * T l q)) := sm_dvd_sub fun l _ => by
    rw [← Int.mul_assoc, ← Int.sub_mul, ← Int.sub_mul]; exact dvd_l (stepG_rowi hir l) _
   rw [sm_sub, sm_mul] at h3
   obtain ⟨c, hc⟩ := h3
   refine ⟨b + a - f i * d - c, ?_⟩
   rw [Int.mul_sub, Int.mul_sub, Int.mul_add, Int.mul_left_comm p (f i), ← ha, ← hb, ← hc, ← hd, Int.mul_sub]
   omega
end
end Go.Proofs.YtpkmjenoniedjaaDoor
namespace Go.Proofs.YtpkmjenoniedjaaDoor
def en (L : List (List Int)) (i j : Nat) : Int := (L.getD i []).getD j 0
structure Mat (p : Int) (m n : Nat) (L : List (List Int)) : Prop where
 len : L.length = m
 row : ∀ v, v ∈ L → v.length = n ∧ Res p v
theorem Mat.get {p : Int} {m n : Nat} {L : List (List Int)} (h : Mat p m n L) {i : Nat} (hi : i < m) : (L.getD i []).length = n ∧ Res p (L.getD i []) := by
 have hl : i < L.length := by rw [h.len]; exact hi
 have : L.getD i [] = L[i] := by simp [List.getD, hl]
 rw [this]; exact h.row _ (List.getElem_mem hl)
theorem Mat.en {p : Int} (hp : 0 < p) {m n : Nat} {L : List (List Int)} (h : Mat p m n L) {i : Nat} (hi : i < m) (j : Nat) : 0 ≤ en L i j ∧ en L i j < p := (h.get hi).2.getD hp j
def pvFrom (L : List (List Int)) (c : Nat) : Nat → Nat → Nat
 | 0, k => k
 | f + 1, k => if en L k c = 0 then pvFrom L c f (k + 1) else k
theorem pvFrom_spec (L : List (List Int)) (c : Nat) : ∀ (f k : Nat), k ≤ pvFrom L c f k ∧ pvFrom L c f k ≤ k + f ∧ (∀ i, k ≤ i → i < pvFrom L c f k → en L i c = 0) ∧ (pvFrom L c f k < k + f → en L (pvFrom L c f k) c ≠ 0)
 | 0, k => ⟨Nat.le_refl _, Nat.le_refl _, fun i h1 h2 => by unfold pvFrom at h2; omega, fun h => by unfold pvFrom at h; omega⟩
 | f + 1, k => by
   rw [pvFrom]
   split
   · rename_i h0
     obtain ⟨h1, h2, h3, h4⟩ := pvFrom_spec L c f (k + 1)
     refine ⟨by omega, by omega, fun i hi hlt => ?_, fun h => h4 (by omega)⟩
     rcases Nat.lt_or_ge k i with hk | hk
     · exact h3 i (by omega) hlt
     · obtain rfl : i = k := by omega
       exact h0
   · rename_i h0
     exact ⟨Nat.le_refl _, by omega, fun i hi hlt => by omega, fun _ => h0⟩
def swapL (L : List (List Int)) (r k : Nat) : List (List Int) := (L.set r (L.getD k [])).set k (L.getD r [])
def scaleV (p iv : Int) (v : List Int) : List Int := v.map fun a => a * iv % p
def scaleL (p : Int) (r : Nat) (iv : Int) (L : List (List Int)) : List (List Int) := L.set r (scaleV p iv (L.getD r []))
def elimTo (p : Int) (r : Nat) (f : Nat → Int) (L : List (List Int)) (q : Nat) : List (List Int) :=
 (List.range L.length).map fun i => if i < q ∧ i ≠ r ∧ f i ≠ 0 then addT p (L.getD i []) (-(f i)) (L.getD r []) else L.getD i []
theorem getD_set {α : Type} (L : List α) (i k : Nat) (x d : α) (hi : i < L.length) : (L.set i x).getD k d = if k = i then x else L.getD k d := by
 by_cases h : k = i
 · subst h; simp [List.getD, hi]
 · rw [if_neg h]; simp [List.getD, List.getElem?_set_ne (Ne.symm h)]
@[simp] theorem swapL_length (L : List (List Int)) (r k : Nat) : (swapL L r k).length = L.length := by simp [swapL]
theorem swapL_get {L : List (List Int)} {r k : Nat} (hr : r < L.length) (hk : k < L.length) (i : Nat) : (swapL L r k).getD i [] = if i = k then L.getD r [] else if i = r then L.getD k [] else L.getD i [] := by
 unfold swapL
 rw [getD_set _ _ _ _ _ (by rw [List.length_set]; exact hk)]
 split
 · rfl
 · exact getD_set _ _ _ _ _ hr
@[simp] theorem scaleL_length (p : Int) (r : Nat) (iv : Int) (L : List (List Int)) : (scaleL p r iv L).length = L.length := by simp [scaleL]
theorem scaleL_get {p : Int} {r : Nat} {iv : Int} {L : List (List Int)} (hr : r < L.length) (i : Nat) : (scaleL p r iv L).getD i [] = if i = r then scaleV p iv (L.getD r []) else L.getD i [] := getD_set _ _ _ _ _ hr
@[simp] theorem elimTo_length (p : Int) (r : Nat) (f : Nat → Int) (L : List (List Int)) (q : Nat) : (elimTo p r f L q).length = L.length := by simp [elimTo]
theorem elimTo_get {p : Int} {r : Nat} {f : Nat → Int} {L : List (List Int)} {q i : Nat} (hi : i < L.length) : (elimTo p r f L q).getD i [] = if i < q ∧ i ≠ r ∧ f i ≠ 0 then addT p (L.getD i []) (-(f i)) (L.getD r []) else L.getD i [] := by
 simp [elimTo, List.getD, hi]
theorem scaleV_get (p iv : Int) (v : List Int) (j : Nat) : (scaleV p iv v).getD j 0 = v.getD j 0 * iv % p := by
 unfold scaleV
 by_cases h : j < v.length
 · simp [List.getD, h]
 · simp [List.getD, h]
def colStep (p : Int) (c : Nat) (s : Nat × List (List Int) × List (List Int)) : Nat × List (List Int) × List (List Int) :=
 if pvFrom s.2.1 c (s.2.1.length - s.1) s.1 < s.2.1.length then
  let k := pvFrom s.2.1 c (s.2.1.length - s.1) s.1
  let iv := invM p (en s.2.1 k c)
  let L2 := scaleL p s.1 iv (swapL s.2.1 s.1 k)
  (s.1 + 1, elimTo p s.1 (fun i => en L2 i c) L2 L2.length, elimTo p s.1 (fun i => en L2 i c) (scaleL p s.1 iv (swapL s.2.2 s.1 k)) s.2.2.length)
 else s
def redTo (p : Int) (L A : List (List Int)) : Nat → Nat × List (List Int) × List (List Int)
 | 0 => (0, L, A)
 | c + 1 => colStep p c (redTo p L A c)
def redM (p : Int) (n : Nat) (L : List (List Int)) : List (List Int) := (redTo p L [] n).2.1.take (redTo p L [] n).1
end Go.Proofs.YtpkmjenoniedjaaDoor
namespace Go.Proofs.YtpkmjenoniedjaaDoor
theorem stepG_congr {p : Int} {r k : Nat} {iv : Int} {f g : Nat → Int} {A B : Nat → Nat → Int} {m n : Nat} (hr : r < m) (hk : k < m) (hf : ∀ i, i ≠ r → f i = g i) (hA : ∀ i j, i < m → j < n → A i j = B i j) {i j : Nat} (hi : i < m) (hj : j < n) :
  stepG p r k iv f A i j = stepG p r k iv g B i j := by
 unfold stepG
 split
 · rw [hA k j hk hj]
 · rename_i h
   rw [hA k j hk hj, hA _ j (tr_lt hr hi) hj, hf i h]
theorem Inv.congr {p : Int} {n m c r : Nat} {E F : Nat → Nat → Int} {ld : Nat → Nat} (h : Inv p n m c r E ld) (hc : c ≤ n) (he : ∀ i j, i < m → j < n → E i j = F i j) : Inv p n m c r F ld := by
 have hle := h.le
 exact ⟨h.le, h.lt, fun i hi => by have := h.lt i hi; rw [← he i _ (by omega) (by omega)]; exact h.one i hi,
  fun i k hi hk hne => by have := h.lt i hi; rw [← he k _ hk (by omega)]; exact h.zero i k hi hk hne,
  fun i j hi hj => by have := h.lt i hi; rw [← he i j (by omega) (by omega)]; exact h.before i j hi hj, h.mono,
  fun k j hk hm hj => by rw [← he k j hm (by omega)]; exact h.rest k j hk hm hj,
  fun i j hi hj => by rw [← he i j hi hj]; exact h.res i j hi hj⟩
theorem Nul.congr {p : Int} {n m : Nat} {E F : Nat → Nat → Int} (he : ∀ i j, i < m → j < n → E i j = F i j) (x : Nat → Int) : Nul p n E m x ↔ Nul p n F m x := by
 constructor
 · intro h i hi; rw [sm_congr (g := fun j => E i j * x j) (fun j hj => by rw [he i j hi hj])]; exact h i hi
 · intro h i hi; rw [sm_congr (g := fun j => F i j * x j) (fun j hj => by rw [he i j hi hj])]; exact h i hi
theorem Makes.congr {p : Int} {M n : Nat} {E E' A A' T : Nat → Nat → Int} (h : Makes p M n E A T) (he : ∀ i j, i < M → j < n → E i j = E' i j) (ha : ∀ i j, i < M → j < M → A i j = A' i j) : Makes p M n E' A' T := by
 intro i hi k hk
 rw [← he i k hi hk, sm_congr (g := fun l => A i l * T l k) (fun l hl => by rw [ha i l hi hl])]
 exact h i hi k hk
theorem InSp.congr {p : Int} {n m : Nat} {A B : Nat → Nat → Int} (h : ∀ i j, i < m → j < n → A i j = B i j) {y : Nat → Int} (hy : InSp p n A m y) : InSp p n B m y := by
 obtain ⟨z, hz⟩ := hy
 exact ⟨z, fun l hl => by rw [sm_congr (g := fun i => z i * A i l) (fun i hi => by rw [h i l hi hl])]; exact hz l hl⟩
theorem scaleV_res {p iv : Int} (hp : 0 < p) (v : List Int) : Res p (scaleV p iv v) := by
 intro x hx
 simp only [scaleV, List.mem_map] at hx
 obtain ⟨a, _, rfl⟩ := hx
 exact ⟨Int.emod_nonneg _ (by omega), Int.emod_lt_of_pos _ hp⟩
theorem Mat.of_get {p : Int} {m n : Nat} {L : List (List Int)} (hl : L.length = m) (h : ∀ i, i < m → (L.getD i []).length = n ∧ Res p (L.getD i [])) : Mat p m n L := by
 refine ⟨hl, fun v hv => ?_⟩
 obtain ⟨i, hi, rfl⟩ := List.getElem_of_mem hv
 have := h i (by omega)
 simpa [List.getD, hi] using this
theorem step_en {p : Int} (hp : 0 < p) {m n r k : Nat} {L : List (List Int)} (h : Mat p m n L) (hr : r < m) (hk : k < m) (iv : Int) (f : Nat → Int) :
  Mat p m n (elimTo p r f (scaleL p r iv (swapL L r k)) m) ∧ ∀ i j, i < m → j < n → en (elimTo p r f (scaleL p r iv (swapL L r k)) m) i j = stepG p r k iv f (en L) i j := by
 have hl := h.len
 have l1 : r < (swapL L r k).length := by rw [swapL_length]; omega
 have g1 : ∀ i, i ≠ r → (swapL L r k).getD i [] = L.getD (tr r k i) [] := by
  intro i hi
  rw [swapL_get (by omega) (by omega)]
  unfold tr
  split
  · rfl
  · first | rfl | rw [if_neg hi]
 have g2 : (swapL L r k).getD r [] = L.getD k [] := by
  rw [swapL_get (by omega) (by omega)]
  split
  · rename_i e; rw [e]
  · rw [if_pos rfl]
 have s1 : ∀ i, i ≠ r → (scaleL p r iv (swapL L r k)).getD i [] = L.getD (tr r k i) [] := by
  intro i hi; rw [scaleL_get l1, if_neg hi, g1 i hi]
 have s2 : (scaleL p r iv (swapL L r k)).getD r [] = scaleV p iv (L.getD k []) := by rw [scaleL_get l1, if_pos rfl, g2]
 have hsl : (scaleL p r iv (swapL L r k)).length = m := by rw [scaleL_length, swapL_length, hl]
 have hrow := (h.get hk).1
 have hsv : (scaleV p iv (L.getD k [])).length = n := by unfold scaleV; rw [List.length_map]; exact hrow
 constructor
 · refine Mat.of_get (by rw [elimTo_length, hsl]) fun i hi => ?_
   rw [elimTo_get (by omega)]
   by_cases hir : i = r
   · subst hir
     rw [if_neg (by simp), s2]
     exact ⟨hsv, scaleV_res hp _⟩
   · have h3 := h.get (tr_lt (k := k) hr hi)
     rw [s1 i hir, s2]
     split
     · exact ⟨by rw [addT_length]; exact h3.1, Res.addT hp h3.2⟩
     · exact h3
 · intro i j hi hj
   show ((elimTo p r f (scaleL p r iv (swapL L r k)) m).getD i []).getD j 0 = _
   rw [elimTo_get (by omega)]
   unfold stepG
   by_cases hir : i = r
   · subst hir
     rw [if_neg (by simp), s2, if_pos rfl, scaleV_get]; rfl
   · have h3 := h.get (tr_lt (k := k) hr hi)
     rw [s1 i hir, s2, if_neg hir]
     by_cases hf : f i = 0
     · rw [if_neg (by simp [hf]), hf, Int.zero_mul, Int.sub_zero]
       have := h.en hp (tr_lt (k := k) hr hi) j
       exact (Int.emod_eq_of_lt this.1 this.2).symm
     · rw [if_pos ⟨hi, hir, hf⟩, addT_getD, if_pos (by rw [h3.1]; exact hj), if_pos (by rw [hsv]; exact hj), scaleV_get, Int.neg_mul, ← Int.sub_eq_add_neg]; rfl
structure RInv (p : Int) (m n c : Nat) (L0 : List (List Int)) (s : Nat × List (List Int) × List (List Int)) (ld : Nat → Nat) : Prop where
 mat : Mat p m n s.2.1
 inv : Inv p n m c s.1 (en s.2.1) ld
 nul : ∀ x, Nul p n (en s.2.1) m x ↔ Nul p n (en L0) m x
theorem colStep_cases {p : Int} (hp : fieldB p = true) {m n c : Nat} (_hc : c < n) {s : Nat × List (List Int) × List (List Int)} (hm : Mat p m n s.2.1) (hs : s.1 ≤ m) :
  (colStep p c s = s ∧ ∀ k, s.1 ≤ k → k < m → en s.2.1 k c = 0) ∨
  ∃ k iv, s.1 ≤ k ∧ k < m ∧ en s.2.1 k c * iv % p = 1 ∧ (colStep p c s).1 = s.1 + 1 ∧ Mat p m n (colStep p c s).2.1 ∧ (∀ i j, i < m → j < n → en (colStep p c s).2.1 i j = stepE p c s.1 k iv (en s.2.1) i j) ∧
    (colStep p c s).2.2 = elimTo p s.1 (fun i => en (scaleL p s.1 iv (swapL s.2.1 s.1 k)) i c) (scaleL p s.1 iv (swapL s.2.2 s.1 k)) s.2.2.length ∧ ∀ i, i ≠ s.1 → en (scaleL p s.1 iv (swapL s.2.1 s.1 k)) i c = en s.2.1 (tr s.1 k i) c := by
 have hpb := fieldB_bounds hp
 obtain ⟨r, L, A⟩ := s
 have hl : L.length = m := hm.len
 have hrm : r ≤ m := hs
 obtain ⟨p1, p2, p3, p4⟩ := pvFrom_spec L c (L.length - r) r
 unfold colStep
 simp only
 split
 · rename_i hlt
   right
   obtain ⟨k, hk⟩ : ∃ k, k = pvFrom L c (L.length - r) r := ⟨_, rfl⟩
   rw [← hk] at p1 p2 p3 p4 hlt ⊢
   have hne := p4 (by omega)
   have hb := hm.en (by omega) (show k < m by omega) c
   have hiv := invM_spec hp (a := en L k c) (by show 1 ≤ en L k c; have : 0 ≤ en L k c := hb.1; omega) hb.2
   have hse := step_en (p := p) (by omega) hm (r := r) (k := k) (by omega) (by omega) (invM p (en L k c)) (fun i => en (scaleL p r (invM p (en L k c)) (swapL L r k)) i c)
   have hsl : (scaleL p r (invM p (en L k c)) (swapL L r k)).length = m := by rw [scaleL_length, swapL_length]; exact hl
   have hcoef : ∀ i, i ≠ r → en (scaleL p r (invM p (en L k c)) (swapL L r k)) i c = en L (tr r k i) c := by
    intro i hi
    unfold en
    rw [scaleL_get (by rw [swapL_length]; omega), if_neg hi, swapL_get (by omega) (by omega)]
    unfold tr
    split
    · rfl
    · first | rfl | rw [if_neg hi]
   refine ⟨k, invM p (en L k c), p1, by omega, hiv.1, rfl, ?_, ?_, rfl, hcoef⟩
   · rw [hsl]; exact hse.1
   · intro i j hi hj
     rw [hsl, hse.2 i j hi hj, stepE_eq]
     exact stepG_congr (by omega) (by omega) hcoef (fun _ _ _ _ => rfl) hi hj
 · rename_i hlt
   left
   exact ⟨rfl, fun k h1 h2 => p3 k h1 (by omega)⟩
theorem RInv.next {p : Int} (hp : fieldB p = true) {m n c : Nat} (hc : c < n) {L0 : List (List Int)} {s : Nat × List (List Int) × List (List Int)} {ld : Nat → Nat} (h : RInv p m n c L0 s ld) : ∃ ld', RInv p m n (c + 1) L0 (colStep p c s) ld' := by
 have hpb := fieldB_bounds hp
 rcases colStep_cases hp hc h.mat h.inv.le with ⟨e, hz⟩ | ⟨k, iv, h1, h2, h3, h4, h5, h6, _⟩
 · rw [e]; exact ⟨ld, h.mat, h.inv.skip hz, h.nul⟩
 · refine ⟨fun i => if i < s.1 then ld i else c, h5, ?_, fun x => ?_⟩
   · rw [h4]
     exact (h.inv.step (by omega) hc h1 h2 h3).congr (by omega) fun i j hi hj => (h6 i j hi hj).symm
   · rw [Nul.congr h6 x, step_nul (by omega) h2 h3 x]; exact h.nul x
open Go.RowKit
section
variable {w w' : World} {A : Option Addr} {cap : Nat} {hs : List Hd}
theorem OwR.get (h : OwR w A cap hs) {i : Nat} (hi : i < hs.length) : ∃ ad B c l, A = some ad ∧ hs[i]? = some (B, c, l) ∧ w.cell? (ad.add i) = some (.slice B l.length c) ∧ w.frozen? (ad.add i) = false ∧ IS w B c l := by
 obtain ⟨x, hx⟩ : ∃ x, hs[i]? = some x := ⟨_, List.getElem?_eq_getElem hi⟩
 obtain ⟨B, c, l⟩ := x
 obtain ⟨ad, hA, _, hc, hf⟩ := h.sl.cell (j := i) (u := Hd.val (B, c, l)) (by simp [hx])
 exact ⟨ad, B, c, l, hA, hx, hc, hf i, h.rows _ (List.mem_of_getElem? hx)⟩
theorem OwR.apart_get (h : OwR w A cap hs) {i k : Nat} {x y : Hd} (hi : hs[i]? = some x) (hk : hs[k]? = some y) (hne : i ≠ k) : ∀ b, b ∈ fpA x.1 → ¬ b ∈ fpA y.1 := by
 have hil := (List.getElem?_eq_some_iff.1 hi).1
 have hkl := (List.getElem?_eq_some_iff.1 hk).1
 have hp := List.pairwise_iff_getElem.1 h.apart
 have e1 : hs[i] = x := by rw [List.getElem?_eq_getElem hil] at hi; exact Option.some.inj hi
 have e2 : hs[k] = y := by rw [List.getElem?_eq_getElem hkl] at hk; exact Option.some.inj hk
 intro b hb hb'
 rcases Nat.lt_or_ge i k with hlt | hge
 · have := hp i k hil hkl hlt b; rw [e1, e2] at this; exact this hb hb'
 · have := hp k i hkl hil (by omega) b; rw [e1, e2] at this; exact this hb' hb
theorem OwR.wr (h : OwR w A cap hs) {i : Nat} {B : Option Addr} {c : Nat} {l l' : List Int} (hi : hs[i]? = some (B, c, l)) (hw : Wr w w' B (ints l')) (hl : l'.length = l.length) : OwR w' A cap (hs.set i (B, c, l')) := by
 have hil := (List.getElem?_eq_some_iff.1 hi).1
 have hm := List.mem_of_getElem? hi
 have hsetm : (hs.set i (B, c, l')).map Hd.val = hs.map Hd.val := by
  rw [List.map_set]
  have : Hd.val (B, c, l') = Hd.val (B, c, l) := by simp [Hd.val, hl]
  rw [this]
  apply List.ext_getElem?
  intro k
  rw [List.getElem?_set]
  split
  · rename_i hk; subst hk
    rw [List.getElem?_map, hi]
    simp [hil]
  · rfl
 have hmem : ∀ x, x ∈ hs.set i (B, c, l') → ∃ y : Hd, y ∈ hs ∧ y.1 = x.1 := by
  intro x hx
  rcases List.mem_or_eq_of_mem_set hx with hx | hx
  · exact ⟨x, hx, rfl⟩
  · exact ⟨_, hm, by rw [hx]⟩
 have hget : ∀ (k : Nat) (x : Hd), (hs.set i (B, c, l'))[k]? = some x → ∃ y : Hd, hs[k]? = some y ∧ y.1 = x.1 := by
  intro k x hx
  rw [List.getElem?_set] at hx
  split at hx
  · rename_i hk; subst hk
    simp at hx
    exact ⟨_, hi, by rw [← hx]⟩
  · exact ⟨x, hx, rfl⟩
 refine ⟨?_, fun x hx => ?_, ?_, fun x hx => ?_⟩
 · rw [List.length_set, hsetm]
   exact h.sl.keeps hw.1 fun b hb hb' => h.outer _ hm b hb' hb
 · obtain ⟨k, hk⟩ := List.mem_iff_getElem?.1 hx
   rw [List.getElem?_set] at hk
   split at hk
   · rename_i hik; subst hik
     simp at hk
     subst hk
     have h0 := h.rows _ hm
     have := hw.sl h0 (by simp [hl])
     unfold IS
     rw [show (B, c, l').2.2.length = l.length from hl]
     exact this
   · rename_i hik
     exact (h.rows x (List.mem_of_getElem? hk)).keeps hw.1 fun b hb hb' => h.apart_get hi hk hik b hb' hb
 · refine List.pairwise_iff_getElem.2 fun a b ha hb hab => ?_
   obtain ⟨x, hx, ex⟩ := hget a _ (List.getElem?_eq_getElem ha)
   obtain ⟨y, hy, ey⟩ := hget b _ (List.getElem?_eq_getElem hb)
   rw [← ex, ← ey]
   exact h.apart_get hx hy (by omega)
 · obtain ⟨y, hy, e⟩ := hmem x hx
   rw [← e]; exact h.outer y hy
theorem IS.wr1 {B : Option Addr} {c : Nat} {l : List Int} (h : IS w B c l) {ad : Addr} (hA : B = some ad) {j : Nat} (hj : j < l.length) (x : Int) : Wr w (w.setCell (ad.add j) (.int .i64 x)) B (ints (l.set j x)) := by
 have h0 : Wr w w B (ints l) := Wr.start h
 have := h0.set hA (j := j) (by simpa using hj) (.int .i64 x)
 rwa [ints_set] at this
def swapH (hs : List Hd) (r k : Nat) (hr : r < hs.length) (hk : k < hs.length) : List Hd := (hs.set r hs[k]).set k hs[r]
theorem swapH_perm {r k : Nat} (hr : r < hs.length) (hk : k < hs.length) : (swapH hs r k hr hk).Perm hs := by
 unfold swapH
 exact List.set_set_perm hr hk
theorem swapH_map {r k : Nat} (hr : r < hs.length) (hk : k < hs.length) : (swapH hs r k hr hk).map (fun h : Hd => h.2.2) = swapL (hs.map fun h : Hd => h.2.2) r k := by
 unfold swapH swapL
 rw [List.map_set, List.map_set]
 simp [List.getD, hr, hk]
theorem OwR.swap (h : OwR w A cap hs) {r k : Nat} (hr : r < hs.length) (hk : k < hs.length) {ad : Addr} (hA : A = some ad) :
  OwR ((w.setCell (ad.add r) hs[k].val).setCell (ad.add k) hs[r].val) A cap (swapH hs r k hr hk) := by
 have hp := swapH_perm hr hk
 have hkp : Keeps (· ∈ fpA A) w ((w.setCell (ad.add r) hs[k].val).setCell (ad.add k) hs[r].val) :=
  ((Keeps.refl _ w).setCell (p := ad.add r) (by rw [block_of_add, hA]; simp) _).setCell (p := ad.add k) (by rw [block_of_add, hA]; simp) _
 refine ⟨?_, fun x hx => ?_, ?_, fun x hx => h.outer x (hp.mem_iff.1 hx)⟩
 · have h1 := (h.sl.set hA r hs[k].val (by simpa using hr)).set hA k hs[r].val (by simpa using hk)
   rw [← List.map_set, ← List.map_set] at h1
   have : (swapH hs r k hr hk).length = hs.length := by simp [swapH]
   rw [this]; exact h1
 · have hx' := hp.mem_iff.1 hx
   exact (h.rows x hx').keeps hkp fun b hb => h.outer x hx' b hb
 · exact (hp.pairwise_iff (fun {x y} hxy b hb hb' => hxy b hb' hb)).2 h.apart
theorem OwR.snoc {w1 w2 : World} (h : OwR w A cap hs) (hb : Below w.heap.size w w1) {x : Hd} (hx : IS w1 x.1 x.2.1 x.2.2) (hf : Fresh w.heap.size x.1)
  {A' : Option Addr} {cap' : Nat} (hs' : Sl w2 23 1 A' (hs.length + 1) cap' (hs.map Hd.val ++ [x.val])) (hA' : ∀ b, b ∈ fpA A' → b ∈ fpA A ∨ w1.heap.size ≤ b) (hk : Keeps (· ∈ fpA A) w1 w2) : OwR w2 A' cap' (hs ++ [x]) := by
 have hrows : ∀ y, y ∈ hs → (∀ b, b ∈ fpA y.1 → b < w.heap.size) := fun y hy b hb' => (h.rows y hy).lt b hb'
 refine ⟨by simpa using hs', fun y hy => ?_, ?_, fun y hy b hb' hb'' => ?_⟩
 · rcases List.mem_append.1 hy with hy | hy
   · exact ((h.rows y hy).below hb).keeps hk fun b hb' => h.outer y hy b hb'
   · obtain rfl := List.mem_singleton.1 hy
     exact hx.keeps hk fun b hb' hb'' => by
      have := hf b hb'
      have := h.sl.lt b hb''
      omega
 · refine List.pairwise_append.2 ⟨h.apart, List.pairwise_singleton _ _, fun y hy z hz b hb1 hb2 => ?_⟩
   obtain rfl := List.mem_singleton.1 hz
   have := hrows y hy b hb1
   have := hf b hb2
   omega
 · rcases List.mem_append.1 hy with hy | hy
   · rcases hA' b hb'' with h1 | h1
     · exact h.outer y hy b hb' h1
     · have := hrows y hy b hb'
       have := hb.size
       omega
   · obtain rfl := List.mem_singleton.1 hy
     rcases hA' b hb'' with h1 | h1
     · have := hf b hb'
       have := h.sl.lt b h1
       omega
     · have := hx.lt b hb'
       omega
theorem OwR.take {k m : Nat} (h : OwR w A cap hs) (hk : k ≤ hs.length) {A' : Option Addr} (hsl : Sl w 23 1 A' k m ((hs.take k).map Hd.val)) (hfp : ∀ b, b ∈ fpA A' → b ∈ fpA A) : OwR w A' m (hs.take k) := by
 refine ⟨by rw [List.length_take, Nat.min_eq_left hk]; exact hsl, fun x hx => h.rows x (List.mem_of_mem_take hx), h.apart.sublist (List.take_sublist _ _), fun x hx b hb hb' => h.outer x (List.mem_of_mem_take hx) b hb (hfp b hb')⟩
end
theorem OwR.nil (w : World) : OwR w none 0 [] := ⟨Sl.nil _ _ _, fun h hh => (by cases hh), .nil, fun h hh => (by cases hh)⟩
theorem fpR_snoc (hs : List Hd) (x : Hd) : ∀ b, b ∈ fpR (hs ++ [x]) → b ∈ fpR hs ∨ b ∈ fpA x.1 := by
 intro b hb
 obtain ⟨y, hy, hy2⟩ := mem_fpR.1 hb
 rcases List.mem_append.1 hy with hy | hy
 · exact .inl (mem_fpR.2 ⟨y, hy, hy2⟩)
 · have e := List.mem_singleton.1 hy
   subst e; exact .inr hy2
theorem fpR_set {hs : List Hd} {i : Nat} {B : Option Addr} {c : Nat} {l l' : List Int} (hi : hs[i]? = some (B, c, l)) : ∀ b, b ∈ fpR (hs.set i (B, c, l')) → b ∈ fpR hs := by
 intro b hb
 obtain ⟨y, hy, hb⟩ := mem_fpR.1 hb
 rcases List.mem_or_eq_of_mem_set hy with hy | hy
 · exact mem_fpR.2 ⟨y, hy, hb⟩
 · subst hy; exact mem_fpR.2 ⟨_, List.mem_of_getElem? hi, hb⟩
theorem fpR_perm {hs gs : List Hd} (h : gs.Perm hs) : ∀ b, b ∈ fpR gs → b ∈ fpR hs := by
 intro b hb
 obtain ⟨y, hy, hb⟩ := mem_fpR.1 hb
 exact mem_fpR.2 ⟨y, h.mem_iff.1 hy, hb⟩
theorem fpR_take {hs : List Hd} {k : Nat} : ∀ b, b ∈ fpR (hs.take k) → b ∈ fpR hs := by
 intro b hb
 obtain ⟨y, hy, hb⟩ := mem_fpR.1 hb
 exact mem_fpR.2 ⟨y, List.mem_of_mem_take hy, hb⟩
def OM (w0 w : World) (A : Option Addr) (cap : Nat) (L : List (List Int)) : Prop :=
 ∃ hs : List Hd, L = hs.map (fun h : Hd => h.2.2) ∧ OwR w A cap hs ∧ (∀ b, b ∈ fpA A ++ fpR hs → w0.heap.size ≤ b) ∧ Below w0.heap.size w0 w
section
variable {w0 w w' : World} {A : Option Addr} {cap : Nat} {L : List (List Int)}
theorem OM.below_ (h : OM w0 w A cap L) : Below w0.heap.size w0 w := by obtain ⟨_, _, _, _, h⟩ := h; exact h
theorem OM.size (h : OM w0 w A cap L) : w0.heap.size ≤ w.heap.size := h.below_.size
theorem OM.nil (w : World) : OM w w none 0 [] := ⟨[], rfl, OwR.nil w, fun b hb => by simp [fpR] at hb, Below.refl _ _⟩
theorem OM.below (h : OM w0 w A cap L) (hb : Below w.heap.size w w') : OM w0 w' A cap L := by
 obtain ⟨hs, hL, hO, hf, h0⟩ := h
 exact ⟨hs, hL, hO.below hb, hf, below_trans h0 hb h0.size⟩
theorem OM.drew (h : OM w0 w A cap L) : OM w0 w.drew A cap L := h.below (below_drewN (Below.refl _ _) 1)
theorem OM.drewN (h : OM w0 w A cap L) (n : Nat) : OM w0 (w.drewN n) A cap L := h.below (below_drewN (Below.refl _ _) n)
theorem getD_map_hd {hs : List Hd} {i : Nat} {B : Option Addr} {c : Nat} {l : List Int} (h : hs[i]? = some (B, c, l)) : (hs.map (fun h : Hd => h.2.2)).getD i [] = l := by simp [List.getD, h]
theorem OM.get (h : OM w0 w A cap L) {i : Nat} (hi : i < L.length) : ∃ ad B c, A = some ad ∧ w.cell? (ad.add i) = some (.slice B (L.getD i []).length c) ∧ w.frozen? (ad.add i) = false ∧ IS w B c (L.getD i []) := by
 obtain ⟨hs, rfl, hO, hf, h0⟩ := h
 obtain ⟨ad, B, c, l, hA, hx, hc, hz, hi'⟩ := hO.get (i := i) (by simpa using hi)
 rw [getD_map_hd hx]
 exact ⟨ad, B, c, hA, hc, hz, hi'⟩
theorem OM.wr (h : OM w0 w A cap L) {i : Nat} (hi : i < L.length) {ad : Addr} (hA : A = some ad) {B : Option Addr} {n c : Nat} (hc : w.cell? (ad.add i) = some (.slice B n c)) {l' : List Int} (hl : l'.length = (L.getD i []).length) (hw : Wr w w' B (ints l')) : OM w0 w' A cap (L.set i l') := by
 obtain ⟨hs, rfl, hO, hf, h0⟩ := h
 obtain ⟨ad', B', c', l, hA', hx, hc', hz, hi'⟩ := hO.get (i := i) (by simpa using hi)
 rw [hA] at hA'
 obtain rfl := Option.some.inj hA'
 rw [hc] at hc'
 injection hc' with hc'
 injection hc' with e1 e2 e3
 subst e1
 rw [getD_map_hd hx] at hl
 have hm := List.mem_of_getElem? hx
 refine ⟨hs.set i (B, c', l'), by rw [List.map_set], hO.wr hx hw hl, fun b hb => ?_, ?_⟩
 · rcases List.mem_append.1 hb with hb | hb
   · exact hf b (List.mem_append_left _ hb)
   · exact hf b (List.mem_append_right _ (fpR_set hx b hb))
 · exact below_keeps h0 hw.1 h0.size fun b hb => hf b (List.mem_append_right _ (mem_fpR.2 ⟨_, hm, hb⟩))
theorem OM.set (h : OM w0 w A cap L) {i : Nat} (hi : i < L.length) {ad : Addr} (hA : A = some ad) {bd : Addr} {n c : Nat} (hc : w.cell? (ad.add i) = some (.slice (some bd) n c)) {j : Nat} (hj : j < (L.getD i []).length) (x : Int) :
  OM w0 (w.setCell (bd.add j) (.int .i64 x)) A cap (L.set i ((L.getD i []).set j x)) := by
 obtain ⟨ad', B, c', hA', hc', _, hI⟩ := h.get hi
 rw [hA] at hA'
 obtain rfl := Option.some.inj hA'
 have hc2 := hc'
 rw [hc] at hc2
 injection hc2 with hc2
 injection hc2 with e1 e2 e3
 exact h.wr hi hA hc (by simp) (IS.wr1 (e1 ▸ hI) rfl hj x)
theorem OM.swap (h : OM w0 w A cap L) {r k : Nat} (hr : r < L.length) (hk : k < L.length) {ad : Addr} (hA : A = some ad) {V U : Value} (hV : w.cell? (ad.add k) = some V) (hU : w.cell? (ad.add r) = some U) :
  OM w0 ((w.setCell (ad.add r) V).setCell (ad.add k) U) A cap (swapL L r k) := by
 obtain ⟨hs, rfl, hO, hf, h0⟩ := h
 have hr' : r < hs.length := by simpa using hr
 have hk' : k < hs.length := by simpa using hk
 have cellOf : ∀ i (hi : i < hs.length) X, w.cell? (ad.add i) = some X → X = hs[i].val := by
  intro i hi X hX
  obtain ⟨ad', B, c, l, hA', hx, hc, _⟩ := hO.get (i := i) hi
  rw [hA] at hA'
  obtain rfl := Option.some.inj hA'
  rw [hX] at hc
  rw [List.getElem?_eq_getElem hi] at hx
  rw [Option.some.inj hx]
  exact Option.some.inj hc
 rw [cellOf k hk' V hV, cellOf r hr' U hU]
 have hp := swapH_perm hr' hk'
 refine ⟨_, (swapH_map hr' hk').symm, hO.swap hr' hk' hA, fun b hb => ?_, ?_⟩
 · rcases List.mem_append.1 hb with hb | hb
   · exact hf b (List.mem_append_left _ hb)
   · exact hf b (List.mem_append_right _ (fpR_perm hp b hb))
 · have hkp : Keeps (· ∈ fpA A) w ((w.setCell (ad.add r) hs[k].val).setCell (ad.add k) hs[r].val) :=
    ((Keeps.refl _ w).setCell (p := ad.add r) (by rw [block_of_add, hA]; simp) _).setCell (p := ad.add k) (by rw [block_of_add, hA]; simp) _
   exact below_keeps h0 hkp h0.size fun b hb => hf b (List.mem_append_left _ hb)
theorem OM.snoc {w1 w2 : World} {hs : List Hd} (hL : L = hs.map (fun h : Hd => h.2.2)) (hO : OwR w A cap hs) (hf : ∀ b, b ∈ fpA A ++ fpR hs → w0.heap.size ≤ b) (h0 : Below w0.heap.size w0 w) {l : List Int} {B : Option Addr} {c : Nat} (hb : Below w.heap.size w w1) (hx : IS w1 B c l) (hf1 : Fresh w.heap.size B)
  {A' : Option Addr} {cap' n : Nat} (hn : n = hs.length + 1) (hs' : Sl w2 23 1 A' n cap' (hs.map Hd.val ++ [.slice B l.length c])) (hA' : ∀ b, b ∈ fpA A' → b ∈ fpA A ∨ w1.heap.size ≤ b) (hk : Keeps (· ∈ fpA A) w1 w2) : OM w0 w2 A' cap' (L ++ [l]) := by
 subst hL hn
 have hbw := below_trans h0 hb h0.size
 refine ⟨hs ++ [(B, c, l)], by simp, hO.snoc hb (x := (B, c, l)) hx hf1 (by simpa [Hd.val] using hs') hA' hk, fun b hb' => ?_, ?_⟩
 · rcases List.mem_append.1 hb' with hb' | hb'
   · rcases hA' b hb' with h1 | h1
     · exact hf b (List.mem_append_left _ h1)
     · have := hbw.size; omega
   · rcases fpR_snoc hs (B, c, l) b hb' with h1 | h1
     · exact hf b (List.mem_append_right _ h1)
     · have := hf1 b h1; have := h0.size; omega
 · exact below_keeps hbw hk hbw.size fun b hb' => hf b (List.mem_append_left _ hb')
theorem OM.sl (h : OM w0 w A cap L) : ∃ vs, Sl w 23 1 A L.length cap vs ∧ vs.length = L.length := by
 obtain ⟨hs, rfl, hO, _⟩ := h
 exact ⟨hs.map Hd.val, by simpa using hO.sl, by simp⟩
theorem OM.take {hs : List Hd} (hL : L = hs.map (fun h : Hd => h.2.2)) (hO : OwR w A cap hs) (hf : ∀ b, b ∈ fpA A ++ fpR hs → w0.heap.size ≤ b) (h0 : Below w0.heap.size w0 w) {k m : Nat} (hk : k ≤ hs.length) {A' : Option Addr} (hsl : Sl w 23 1 A' k m ((hs.take k).map Hd.val)) (hfp : ∀ b, b ∈ fpA A' → b ∈ fpA A) : OM w0 w A' m (L.take k) := by
 subst hL
 refine ⟨hs.take k, by rw [List.map_take], hO.take hk hsl hfp, fun b hb => ?_, h0⟩
 rcases List.mem_append.1 hb with hb | hb
 · exact hf b (List.mem_append_left _ (hfp b hb))
 · exact hf b (List.mem_append_right _ (fpR_take b hb))
end
theorem RetSS.om {w0 w : World} {L : List (List Int)} {e : Ending} (h : RetSS w0 L e w) : ∃ A cap, e = .returned (.slice A L.length cap) ∧ OM w0 w A cap L := by
 obtain ⟨A, cap, hs, rfl, hL, hO, hf, h0⟩ := h; exact ⟨A, cap, rfl, hs, hL, hO, hf, h0⟩
end Go.Proofs.YtpkmjenoniedjaaDoor
namespace Go.Proofs.YtpkmjenoniedjaaDoor
abbrev Nd := Int × Int × ByteArray
def noName : ByteArray := ⟨#[]⟩
inductive Tr where
 | leaf (n : Nd)
 | node (p : Bool) (a b : Tr)
def kd (p : Bool) : Int := if p then 16 else 15
def joinNd (p : Bool) : Nd := (kd p, 0, noName)
def flat : Tr → List Nd
 | .leaf n => [n]
 | .node p a b => flat a ++ (flat b ++ [joinNd p])
def sz (t : Tr) : Nat := (flat t).length
def kindTy (k : Int) : Int × Int :=
 if k = 2 then (2, 2) else if k = 3 ∨ k = 11 then (1, 2) else if k = 4 ∨ k = 12 then (1, 0) else if k = 5 ∨ k = 9 then (2, 1) else if k = 6 ∨ k = 10 then (0, 1) else (1, 1)
def leafTy (n : Nd) : Int × Int := if n.1 = 1 then (n.2.1, n.2.1) else kindTy n.1
def leafB (n : Nd) : Bool := decide (n.2.2 = noName ∧ ((n.1 = 1 ∧ 0 ≤ n.2.1 ∧ n.2.1 ≤ 12) ∨ ((n.1 = 7 ∨ n.1 = 13) ∧ 0 ≤ n.2.1 ∧ n.2.1 ≤ 96) ∨ (2 ≤ n.1 ∧ n.1 ≤ 14 ∧ n.1 ≠ 7 ∧ n.1 ≠ 13 ∧ n.2.1 = 0)))
def joinTy (p : Bool) (a b : Int × Int) : Int × Int := if p then (a.1 + b.1, a.2 + b.2) else (a.1, b.2)
def joinB (p : Bool) (a b : Int × Int) : Bool := if p then decide (a.1 + b.1 ≤ 12 ∧ a.2 + b.2 ≤ 12) else decide (a.2 = b.1)
def ty : Tr → Int × Int
 | .leaf n => leafTy n
 | .node p a b => joinTy p (ty a) (ty b)
def isJoin (n : Nd) : Prop := n.1 = 15 ∨ n.1 = 16
instance (n : Nd) : Decidable (isJoin n) := by unfold isJoin; exact inferInstance
def stepT (st : List Tr) (n : Nd) : Option (List Tr) :=
 if isJoin n then
  match st with
  | b :: a :: r => if n.2.1 = 0 ∧ n.2.2 = noName ∧ joinB (decide (n.1 = 16)) (ty a) (ty b) = true then some (.node (decide (n.1 = 16)) a b :: r) else none
  | _ => none
 else if leafB n = true then some (.leaf n :: st) else none
def parse (st : List Tr) : List Nd → Option (List Tr)
 | [] => some st
 | n :: r => (stepT st n).bind fun st' => parse st' r
def flats : List Tr → List Nd
 | [] => []
 | t :: r => flats r ++ flat t
def treeM (l : List Nd) : Option Tr := if 1 ≤ l.length ∧ l.length ≤ 400 then (match parse [] l with | some [t] => some t | _ => none) else none
def info : Tr → Nat → List (Nat × (Int × Int))
 | .leaf n, o => [(o, leafTy n)]
 | .node p a b, o => info a o ++ (info b (o + sz a) ++ [(o, joinTy p (ty a) (ty b))])
def infos : List Tr → List (Nat × (Int × Int))
 | [] => []
 | t :: r => infos r ++ info t (flats r).length
open Go.RowKit
abbrev tNd : TypeId := 86
def nc (n : Nd) : List Value := [.int .i64 n.1, .int .i64 n.2.1, .string n.2.2]
def ncs : List Nd → List Value
 | [] => []
 | n :: r => nc n ++ ncs r
@[simp] theorem ncs_length (l : List Nd) : (ncs l).length = l.length * 3 := by
  induction l with
  | nil => rfl
  | cons n r ih => simp only [ncs, nc, List.length_append, List.length_cons, List.length_nil, ih]; omega
theorem ncs_get {l : List Nd} {j : Nat} {n : Nd} (h : l[j]? = some n) : (ncs l)[j * 3]? = some (.int .i64 n.1) ∧ (ncs l)[j * 3 + 1]? = some (.int .i64 n.2.1) ∧ (ncs l)[j * 3 + 2]? = some (.string n.2.2) := by
 induction l generalizing j with
 | nil => simp at h
 | cons a r ih =>
   cases j with
   | zero =>
     obtain rfl : a = n := by simpa using h
     simp [ncs, nc]
   | succ j =>
     have := ih (j := j) (by simpa using h)
     have hl : (nc a).length = 3 := rfl
     simp only [ncs]
     rw [List.getElem?_append_right (by omega), List.getElem?_append_right (by omega), List.getElem?_append_right (by omega), hl]
     rw [show (j + 1) * 3 - 3 = j * 3 by omega, show (j + 1) * 3 + 1 - 3 = j * 3 + 1 by omega, show (j + 1) * 3 + 2 - 3 = j * 3 + 2 by omega]
     exact this
theorem ncs_set {l : List Nd} {j : Nat} (n : Nd) (h : j < l.length) : (((ncs l).set (j * 3) (.int .i64 n.1)).set (j * 3 + 1) (.int .i64 n.2.1)).set (j * 3 + 2) (.string n.2.2) = ncs (l.set j n) := by
 induction l generalizing j with
 | nil => simp at h
 | cons a r ih =>
   cases j with
   | zero => simp [ncs, nc]
   | succ j =>
     have := ih (j := j) (by simpa using h)
     have hl : (nc a).length = 3 := rfl
     simp only [ncs, List.set_cons_succ]
     rw [List.set_append_right _ _ (by omega), List.set_append_right _ _ (by omega), List.set_append_right _ _ (by omega), hl]
     rw [show (j + 1) * 3 - 3 = j * 3 by omega, show (j + 1) * 3 + 1 - 3 = j * 3 + 1 by omega, show (j + 1) * 3 + 2 - 3 = j * 3 + 2 by omega]
     rw [this]
def RdN (w : World) (A : Option Addr) (l : List Nd) : Prop := RdC w A (ncs l)
def NS (w : World) (A : Option Addr) (cap : Nat) (l : List Nd) : Prop := Sl w tNd 3 A l.length cap (ncs l)
section
variable {w w' : World} {A : Option Addr} {cap : Nat} {l : List Nd}
theorem add_next (ad : Addr) (n i : Nat) (hi : 0 < i) : ad.add (n + i) = ⟨(ad.add n).block, (ad.add n).off + i, none⟩ := by
 unfold Addr.add
 have : ¬ n + i = 0 := by omega
 rw [if_neg this]
 by_cases h : n = 0 <;> simp [h, Nat.add_assoc]
theorem RdN.at_ (h : RdN w A l) {j : Nat} (hj : j < l.length) : ∃ ad k v s, A = some ad ∧ l[j]? = some (k, v, s) ∧ w.cell? (ad.add (j * 3)) = some (.int .i64 k) ∧ w.cell? ⟨(ad.add (j * 3)).block, (ad.add (j * 3)).off + 1, none⟩ = some (.int .i64 v) ∧ w.cell? ⟨(ad.add (j * 3)).block, (ad.add (j * 3)).off + 2, none⟩ = some (.string s) := by
 obtain ⟨n, hn⟩ : ∃ n, l[j]? = some n := ⟨_, List.getElem?_eq_getElem hj⟩
 obtain ⟨h0, h1, h2⟩ := ncs_get hn
 obtain ⟨ad, hA, c0⟩ := h _ _ h0
 obtain ⟨ad1, hA1, c1⟩ := h _ _ h1
 obtain ⟨ad2, hA2, c2⟩ := h _ _ h2
 rw [hA] at hA1 hA2
 obtain rfl := Option.some.inj hA1
 obtain rfl := Option.some.inj hA2
 obtain ⟨k, v, s⟩ := n
 rw [add_next _ _ 1 (by omega)] at c1
 rw [add_next _ _ 2 (by omega)] at c2
 exact ⟨ad, k, v, s, hA, hn, c0, c1, c2⟩
theorem RdN.below (h : RdN w A l) (hb : Below w.heap.size w w') : RdN w' A l := RdC.below h hb
theorem RdN.nil (w : World) (A : Option Addr) : RdN w A [] := RdC.nil w A
theorem NS.rd (h : NS w A cap l) : RdN w A l := Sl.rdc h
theorem NS.below (h : NS w A cap l) (hb : Below w.heap.size w w') : NS w' A cap l := Sl.below h hb
theorem NS.keeps (h : NS w A cap l) {S : Nat → Prop} (hk : Keeps S w w') (hS : ∀ b, b ∈ fpA A → ¬ S b) : NS w' A cap l := Sl.keeps h hk hS
theorem NS.lt (h : NS w A cap l) : ∀ b, b ∈ fpA A → b < w.heap.size := Sl.lt h
theorem NS.at_ (h : NS w A cap l) {j : Nat} (hj : j < l.length) : ∃ ad, A = some ad ∧ ad.block < w.heap.size ∧ ∀ k, w.frozen? (ad.add k) = false := by
 obtain ⟨n, hn⟩ : ∃ n, l[j]? = some n := ⟨_, List.getElem?_eq_getElem hj⟩
 obtain ⟨ad, hA, hb, _, hf⟩ := Sl.cell h (ncs_get hn).1
 exact ⟨ad, hA, hb, hf⟩
end
def RdTm (w : World) (v : Value) (l : List Nd) : Prop := ∃ A cap, v = .agg #[.slice A l.length cap] ∧ RdN w A l
def OwTm (w : World) (v : Value) (l : List Nd) (fp : List Nat) : Prop := ∃ A cap, v = .agg #[.slice A l.length cap] ∧ NS w A cap l ∧ fp = fpA A
section
variable {w w' : World} {v : Value} {l : List Nd} {fp : List Nat}
theorem RdTm.below (h : RdTm w v l) (hb : Below w.heap.size w w') : RdTm w' v l := by obtain ⟨A, c, rfl, h⟩ := h; exact ⟨A, c, rfl, h.below hb⟩
theorem OwTm.rd (h : OwTm w v l fp) : RdTm w v l := by obtain ⟨A, c, rfl, h, _⟩ := h; exact ⟨A, c, rfl, h.rd⟩
theorem OwTm.below (h : OwTm w v l fp) (hb : Below w.heap.size w w') : OwTm w' v l fp := by obtain ⟨A, c, rfl, h, e⟩ := h; exact ⟨A, c, rfl, h.below hb, e⟩
theorem OwTm.keeps (h : OwTm w v l fp) {S : Nat → Prop} (hk : Keeps S w w') (hS : ∀ b, b ∈ fp → ¬ S b) : OwTm w' v l fp := by
 obtain ⟨A, c, rfl, h, rfl⟩ := h; exact ⟨A, c, rfl, h.keeps hk hS, rfl⟩
theorem OwTm.lt (h : OwTm w v l fp) : LtL w.heap.size fp := by obtain ⟨A, c, rfl, h, rfl⟩ := h; exact h.lt
end
end Go.Proofs.YtpkmjenoniedjaaDoor
namespace Go.Proofs.YtpkmjenoniedjaaDoor
section
variable {P : Program} {ops : Array Oper} {md : Region.Mode} {S : World → Prop}
def YieldsS (P : Program) (ops : Array Oper) (S : World → Prop) (o : Oper) (v : Value) (a : Act) : Prop :=
 (Region.wanted o (yielded ops a.tmps) = true ∧ ∀ w, S w →
  (∃ w', (execOp a.eval o).run P w = .ok (.value v) w' ∧ S w') ∨ (∃ w', (execOp a.eval o).run P w = .ok .skip w' ∧ v = undef ∧ S w') ∨
  ∃ f args w', (execOp a.eval o).run P w = .ok (.enter f args) w' ∧ Calls P f args w' (fun e w'' => e = .returned v ∧ S w'')) ∨
 (Region.wanted o (yielded ops a.tmps) = false ∧ v = undef)
theorem YieldsS.of_same {o : Oper} {v : Value} {a a' : Act} (hy : YieldsS P ops S o v a) (he : execOp a'.eval o = execOp a.eval o)
  (hw : Region.wanted o (yielded ops a'.tmps) = Region.wanted o (yielded ops a.tmps)) : YieldsS P ops S o v a' := by
 unfold YieldsS at *
 rw [he, hw]
 exact hy
theorem YieldsS.put {oi oj : Oper} {v u : Value} {a : Act} (hy : YieldsS P ops S oi v a) (hap : oj.apart ops oi = true) (hsi : ∀ cs b, oi.op ≠ .select cs b) : YieldsS P ops S oi v (a.put oj.dst u) := by
 obtain ⟨h1, _, _⟩ := Oper.apart_spec hap
 exact hy.of_same (execOp_put oi hsi a oj.dst u h1) (wanted_put oi a oj.dst u h1)
theorem YieldsS.wpOp {i : Nat} {o : Oper} {v : Value} {a : Act} {Q : Exit → Act → World → Prop} (hi : ops[i]? = some o) (hy : YieldsS P ops S o v a) {K : Act → World → Prop} {w : World} (hS : S w) (h : ∀ w', S w' → K (a.put o.dst v) w') : wpOp P ops Q i K a w := by
 unfold Go.wpOp
 simp only [hi]
 rcases hy with ⟨hw, hv⟩ | ⟨hw, rfl⟩
 · simp only [hw, if_true]
   refine .inl ?_
   unfold Oper.wp
   rcases hv w hS with ⟨w', hr, hs⟩ | ⟨w', hr, rfl, hs⟩ | ⟨f, args, w', hr, hc⟩
   · rw [hr]; exact h _ hs
   · rw [hr]; exact h _ hs
   · rw [hr]
     exact hc.mono fun e w'' ⟨he, hs⟩ => by subst he; exact h _ hs
 · simp only [hw, Bool.false_eq_true, if_false]; exact h _ hS
end
end Go.Proofs.YtpkmjenoniedjaaDoor
namespace Go.Proofs.YtpkmjenoniedjaaDoor
section
variable {P : Program} {l : List Oper} {Q : Exit → Act → World → Prop} {md : Region.Mode} {S : World → Prop}
theorem at_drop {l l' : List Oper} {i : Nat} {o : Oper} (h : l.drop i = o :: l') : l.toArray[i]? = some o := by
 have := congrArg (·[0]?) h
 simpa [List.getElem?_drop] using this
theorem takeH (i : Nat) {oi : Oper} {v : Value} {fuel : Nat} {listed : Array Bool} {a : Act} {w : World} {l' : List Oper} (hd : l.drop i = oi :: l')
  (hs : Region.noSelect l.toArray = true) (hf : Region.free md l.toArray listed i = true) (hr : (Region.ready md l.toArray listed).contains i = true)
  (hQ : ∀ c a w, Q (.panic c) (a.put oi.dst v) w → Q (.panic c) a w) (hS : S w) (hw : Region.wanted oi (yielded l.toArray a.tmps) = true) (hy : ∀ w, S w → (execOp a.eval oi).run P w = .ok (.value v) w)
  (h : wpAnyH P md l.toArray Q S fuel (listed.setIfInBounds i true) (a.put oi.dst v) w) : wpAnyH P md l.toArray Q S (fuel + 1) listed a w :=
 wpAnyH_take (at_drop hd) hs hf hr hQ (.inl ⟨hw, hy⟩) hS h
theorem tkH (i : Nat) {oi : Oper} (v : Value) {fuel : Nat} {listed : Array Bool} {a : Act} {w : World} {l' : List Oper} (hd : l.drop i = oi :: l') (hS : S w) (hy : ∀ w, S w → (execOp a.eval oi).run P w = .ok (.value v) w)
 (h : wpAnyH P md l.toArray Q S fuel (listed.setIfInBounds i true) (a.put oi.dst v) w) (hs : Region.noSelect l.toArray = true := by kernel_rfl) (hf : Region.free md l.toArray listed i = true := by kernel_rfl) (hr : (Region.ready md l.toArray listed).contains i = true := by kernel_rfl)
 (hQ : ∀ c a w, Q (.panic c) (a.put oi.dst v) w → Q (.panic c) a w := by exact fun _ _ _ h => h) (hw : Region.wanted oi (yielded l.toArray a.tmps) = true := by rfl) : wpAnyH P md l.toArray Q S (fuel + 1) listed a w := takeH i hd hs hf hr hQ hS hw hy h
theorem oneH (i : Nat) {o : Oper} {fuel : Nat} {listed : Array Bool} {a : Act} {w : World} {l' : List Oper} (hd : l.drop i = o :: l') (hr : Region.ready md l.toArray listed = [i]) (hw : Region.wanted o (yielded l.toArray a.tmps) = true)
  (h : ∀ K : Act → World → Prop, (∀ a' w', S w' → wpAnyH P md l.toArray Q S fuel (listed.setIfInBounds i true) a' w' → K a' w') → o.wp P a w K Q) : wpAnyH P md l.toArray Q S (fuel + 1) listed a w := by
 refine wpAnyH_all hr (by simp) fun j hj => ?_
 obtain rfl := List.mem_singleton.1 hj
 unfold wpOp
 simp only [at_drop hd, hw, if_true]
 exact .inl (h _ fun a' w' h1 h2 => ⟨h1, h2⟩)
theorem callH (i : Nat) {o : Oper} {f : FuncId} {args : Array Value} {fuel : Nat} {listed : Array Bool} {a : Act} {w : World} {l' : List Oper} (hd : l.drop i = o :: l') (hr : Region.ready md l.toArray listed = [i]) (hw : Region.wanted o (yielded l.toArray a.tmps) = true)
  (hrun : (execOp a.eval o).run P w = .ok (.enter f args) w)
  (h : Calls P f args w fun e w' => ∃ v, e = .returned v ∧ S w' ∧ wpAnyH P md l.toArray Q S fuel (listed.setIfInBounds i true) (a.put o.dst v) w') : wpAnyH P md l.toArray Q S (fuel + 1) listed a w := by
 refine oneH i hd hr hw fun K hK => ?_
 unfold Oper.wp
 rw [hrun]
 exact h.mono fun e w' ⟨v, he, h1, h2⟩ => by subst he; exact hK _ _ h1 h2
theorem doneH {fuel : Nat} {listed : Array Bool} {a : Act} {w : World} (hr : Region.ready md l.toArray listed = []) (h : Q .normal a w) : wpAnyH P md l.toArray Q S fuel listed a w := wpAnyH_done hr h fuel
theorem beginH {id : Nat} {a : Act} {w : World} (S : World → Prop) (hm : P.follows .mixedOrders = true) (h : wpAnyH P .any l.toArray Q S l.toArray.size (Array.replicate l.toArray.size false) a w.drew) : (Code.region id l.toArray true).wp P Q a w := wp_region_held hm h
end
open Go.RowKit
def t_inB (n lo hi : Int) : Bool := decide (lo ≤ n ∧ n ≤ hi)
def hvB (k : Int) : Bool := decide (k = 7 ∨ k = 13)
def gvB (k v : Int) : Bool := if hvB k then t_inB v 0 96 else decide (v = 0)
theorem t_within_any (n lo hi : Int) (w : World) :
  Calls Tryd.prog 58 #[.int .i64 n, .int .i64 lo, .int .i64 hi] w fun e w' => e = .returned (.bool (t_inB n lo hi)) ∧ w' = w := by
 go_enter Tryd.func58, Tryd.ntmps58
 go_wp2
 all_goals go_ret
 all_goals (refine ⟨ret_bool ?_, rfl⟩; unfold t_inB; simp; try omega)
theorem t_l1In_any (n lo hi : Int) (w : World) :
  Calls Tryd.prog 54 #[.int .i64 n, .int .i64 lo, .int .i64 hi] w fun e w' => e = .returned (.bool (t_inB n lo hi)) ∧ w' = w := by
 go_enter Tryd.func54, Tryd.ntmps54
 go_wp2
 all_goals go_ret
 all_goals (refine ⟨ret_bool ?_, rfl⟩; unfold t_inB; simp; try omega)
theorem hasValue_any (k : Int) (w : World) :
  Calls Tryd.prog 51 #[.int .i64 k] w fun e w' => e = .returned (.bool (hvB k)) ∧ w' = w := by
 go_enter Tryd.func51, Tryd.ntmps51
 go_wp2
 all_goals go_ret
 all_goals (refine ⟨ret_bool ?_, rfl⟩; unfold hvB; by_cases h7 : k = 7 <;> by_cases h13 : k = 13 <;> simp_all)
theorem isGenerator_any (k : Int) (w : World) :
  Calls Tryd.prog 64 #[.int .i64 k] w fun e w' => e = .returned (.bool (t_inB k 3 14)) ∧ w' = w := by
 go_enter Tryd.func64, Tryd.ntmps64
 go_wp2_with (fail)
 refine (t_within_any _ _ _ _).mono ?_
 rintro e w' ⟨rfl, rfl⟩
 go_wp2_with (fail)
 go_ret
 exact ⟨rfl, rfl⟩
theorem isGeneratorValue_any (k v : Int) (w : World) :
  Calls Tryd.prog 65 #[.int .i64 k, .int .i64 v] w fun e w' => e = .returned (.bool (gvB k v)) ∧ w' = w := by
 have hb := hasValue_any k w
 unfold gvB
 cases hk : hvB k
 · rw [hk] at hb
   have HB := lH hb; clear hb hk
   go_enter Tryd.func65, Tryd.ntmps65
   go_wp2_with (fail)
   refine HB.out.mono ?_
   rintro e w' ⟨rfl, rfl⟩
   go_wp2_with (fail)
   go_ret
   exact ⟨rfl, rfl⟩
 · rw [hk] at hb
   have HB := lH hb; clear hb hk
   go_enter Tryd.func65, Tryd.ntmps65
   go_wp2_with (fail)
   refine HB.out.mono ?_
   rintro e w' ⟨rfl, rfl⟩
   go_wp2_with (fail)
   refine (t_within_any _ _ _ _).mono ?_
   rintro e w' ⟨rfl, rfl⟩
   go_wp2_with (fail)
   go_ret
   exact ⟨rfl, rfl⟩
set_option maxHeartbeats 1600000 in
theorem generatorWires_any (k : Int) (w : World) (h1 : 3 ≤ k) (h2 : k ≤ 14) :
  Calls Tryd.prog 66 #[.int .i64 k] w fun e w' => e = .returned (.agg #[.int .i64 (kindTy k).1, .int .i64 (kindTy k).2]) ∧ Below w.heap.size w w' := by
 have hc : k = 3 ∨ k = 4 ∨ k = 5 ∨ k = 6 ∨ k = 7 ∨ k = 8 ∨ k = 9 ∨ k = 10 ∨ k = 11 ∨ k = 12 ∨ k = 13 ∨ k = 14 := by omega
 rcases hc with rfl | rfl | rfl | rfl | rfl | rfl | rfl | rfl | rfl | rfl | rfl | rfl
 all_goals
  clear h1 h2
  go_enter Tryd.func66, Tryd.ntmps66
  go_wp2_with (fail)
  refine bodyPost_ret (v := .agg #[.int .i64 (kindTy _).1, .int .i64 (kindTy _).2]) (by simp [results, Tryd.results66, go_sem]; exact ⟨rfl, rfl⟩) rfl ⟨rfl, ?_⟩
  first
  | exact ((Below.refl _ _).alloc (Nat.le_refl _) _).alloc (by simp) _
  | exact (((Below.refl _ _).alloc (Nat.le_refl _) _).alloc (by simp) _).alloc (by simp; omega) _
section
variable {P : Program} {l : List Oper} {Q : Exit → Act → World → Prop} {md : Region.Mode} {S : World → Prop}
theorem beginB {id : Nat} {a : Act} {w : World} (hm : P.follows .mixedOrders = true) (h : ∀ W1, W1 = w.drew → wpAnyH P .any l.toArray Q (fun w' => Below W1.heap.size W1 w') l.toArray.size (Array.replicate l.toArray.size false) a W1) : (Code.region id l.toArray true).wp P Q a w :=
 beginH _ hm (h _ rfl)
theorem runH (i : Nat) {o : Oper} {v : Value} {fuel : Nat} {listed : Array Bool} {a : Act} {w w1 : World} {l' : List Oper} (hd : l.drop i = o :: l') (hr : Region.ready md l.toArray listed = [i]) (hw : Region.wanted o (yielded l.toArray a.tmps) = true)
  (hrun : (execOp a.eval o).run P w = .ok (.value v) w1) (hS : S w1) (h : wpAnyH P md l.toArray Q S fuel (listed.setIfInBounds i true) (a.put o.dst v) w1) : wpAnyH P md l.toArray Q S (fuel + 1) listed a w :=
 oneH i hd hr hw fun K hK => by
  unfold Oper.wp
  rw [hrun]
  exact hK _ _ hS h
theorem appH (i : Nat) {o : Oper} {fuel : Nat} {listed : Array Bool} {a : Act} {w : World} {l' : List Oper} (hd : l.drop i = o :: l') (hr : Region.ready md l.toArray listed = [i]) (hw : Region.wanted o (yielded l.toArray a.tmps) = true)
  (s x : Operand) (t : TypeId) (ho : o.op = .call { callee := .builtin .append, args := #[s, x], argTypes := #[t, t] })
  (e : TypeId) {z : Value} {size bytes : Nat} (ht : P.underlying t = some (.slice e)) (hinfo : (P.info? e).map (fun i => (i.zero, i.size, i.bytes)) = some (some z, size, bytes)) (hzs : z.cells.size = size) (hsz : 0 < size)
  {A : Option Addr} {n cap : Nat} {xs : List Value} (he : a.eval s = .slice A n cap) (hs : Sl w e size A n cap xs)
  {B : Option Addr} {m c : Nat} {news : List Value} (hx : a.eval x = .slice B m c) (hl : news.length = m * size) (hrd : RdC w B news) (h1 : ∀ u ∈ news, u.oneCell' = true)
  (h63 : n + m ≤ maxLen) (hbytes : (n + m) * bytes ≤ 140737488355328)
  (h : ∀ A' cap' w', Sl w' e size A' (n + m) cap' (xs ++ news) → (∀ b, b ∈ fpA A' → b ∈ fpA A ∨ w.heap.size ≤ b) → Keeps (· ∈ fpA A) w w' → S w' ∧ wpAnyH P md l.toArray Q S fuel (listed.setIfInBounds i true) (a.put o.dst (.slice A' (n + m) cap')) w') : wpAnyH P md l.toArray Q S (fuel + 1) listed a w := by
 obtain ⟨i', hi, hz, hz1, hz2⟩ := info_parts hinfo
 obtain ⟨A', cap', w', hrun, h2, h3, h4⟩ := run_append_Sl (P := P) w t o.type e i' z size bytes ht hi hz hz1 hz2 hzs hsz A n cap xs hs B m c news hl hrd h1 h63 hbytes
 obtain ⟨hS, hh⟩ := h A' cap' w' h2 h3 h4
 refine runH i hd hr hw (w1 := w') (v := .slice A' (n + m) cap') ?_ hS hh
 unfold execOp
 simp only [ho, resolve, invoke, builtin, Sem.run_bind, Sem.run_pure, Result.andThen_ok, List.map_toArray, List.map_cons, List.map_nil, he, hx, hrun]
end
theorem name_yes {s : ByteArray} (h : (!s.toList.isEmpty) = false) : s = noName := by
 have h1 : s.toList = [] := by simpa using h
 have h2 : s.data.toList = [] := by rw [← h1]; exact (ByteArray.toList_eq s).symm ▸ rfl
 have h3 : s.data = #[] := by simpa using h2
 cases s; simp_all [noName]
theorem t_below_alloc (w : World) (o : Obj) : Below w.heap.size w (w.alloc o) := (Below.refl _ _).alloc (Nat.le_refl _) _
theorem below_drew {B : Nat} {a w : World} (h : Below B a w) : Below B a w.drew := below_drewN h 1
theorem t_box_below {w w' : World} {B : Nat} {o : Obj} (h : w.heap[B]? = some o) (hb : Below w.heap.size w w') : w'.heap[B]? = some o := (hb.block B (Array.getElem?_eq_some_iff.1 h).1).trans h
theorem t_box_keeps {w w' : World} {S : Nat → Prop} {B : Nat} {o : Obj} (h : w.heap[B]? = some o) (hk : Keeps S w w') (hS : ¬ S B) : w'.heap[B]? = some o := (hk.block B (Array.getElem?_eq_some_iff.1 h).1 hS).trans h
theorem t_box_lt {w : World} {B : Nat} {o : Obj} (h : w.heap[B]? = some o) : B < w.heap.size := (Array.getElem?_eq_some_iff.1 h).1
theorem two_boxes (w : World) (o o' : Obj) : Below w.heap.size w ((w.alloc o).alloc o') ∧ ((w.alloc o).alloc o').heap[w.heap.size]? = some o ∧ ((w.alloc o).alloc o').heap[w.heap.size + 1]? = some o' ∧ ((w.alloc o).alloc o').heap.size = w.heap.size + 2 := by
 refine ⟨((Below.refl _ _).alloc (Nat.le_refl _) _).alloc (by simp) _, t_box_below (heap_alloc_new w o) (t_below_alloc _ _), ?_, by simp⟩
 have := heap_alloc_new (w.alloc o) o'
 rwa [World.size_alloc] at this
abbrev tWires : TypeId := 91
theorem sg_lawI : Maps.Keyed Tryd.prog tInt := Maps.int_keyed Tryd.underlying3
theorem sg_zeroI (w : World) : (zeroValue tInt).run Tryd.prog w = .ok (.int .i64 0) w := by kernel_rfl
def sg_kI (x : Int) : Lit := .int .i64 x
def sg_vI (x : Int) : DataW Unit := .lit (.int .i64 x)
theorem sg_kI_key (x : Int) : WideAt.IsKeyLit (sg_kI x) := True.intro
theorem sg_kI_inj {x y : Int} (h : sg_kI x = sg_kI y) : x = y := by cases h; rfl
theorem sg_keeps_of_grown {w w' : World} {row : Option Nat} (h : w.grownBy w' row) : Keeps (fun b => some b = row) w w' := ⟨h.os, h.tape, h.output, h.size, fun k hk hs => h.block k hk hs⟩
abbrev tRow : TypeId := 66
structure DN (D : DataW Unit) (K : List Int) (H : Int → Int) : Prop where
 has : ∀ q, Maps.has D (sg_kI q) = decide (q ∈ K)
 at_ : ∀ q, D.atKey (sg_kI q) (sg_vI 0) = sg_vI (H q)
 no : ∀ q, q ∉ K → H q = 0
 map : Maps.IsMap D
def MN (w : World) (mb nb : Nat) (K : List Int) (H : Int → Int) : Prop := ∃ D, w.ownsMap (H := Unit) Tryd.prog tInt (plainElem Tryd.prog tInt) mb nb D ∧ DN D K H
def RN (w : World) (mb r nb : Nat) (K : List Int) (H : Int → Int) (L : Int → Bool) (cnt : Nat) : Prop := ∃ D left, w.ranges (H := Unit) Tryd.prog tInt (plainElem Tryd.prog tInt) mb r nb D left cnt ∧ DN D K H ∧ ∀ x, left (sg_kI x) = L x
def setN (H : Int → Int) (q h : Int) (x : Int) : Int := if x = q then h else H x
def addQ (K : List Int) (q : Int) : List Int := if q ∈ K then K else K ++ [q]
theorem mem_addQ {K : List Int} {q x : Int} : x ∈ addQ K q ↔ x ∈ K ∨ x = q := by
 unfold addQ
 split
 · rename_i h
   exact ⟨.inl, fun e => e.elim id fun e => e ▸ h⟩
 · simp
theorem DN.put {D : DataW Unit} {K : List Int} {H : Int → Int} (h : DN D K H) (q v : Int) : DN (D.put (sg_kI q) (sg_vI v)) (addQ K q) (setN H q v) := by
 refine ⟨fun x => ?_, fun x => ?_, fun x hx => ?_, h.map.put _ _⟩
 · by_cases e : x = q
   · subst e
     rw [Maps.has_put_same h.map (sg_kI_key x), decide_eq_true (mem_addQ.2 (.inr rfl))]
   · rw [Maps.has_put_other (fun h => e (sg_kI_inj h)), h.has]
     congr 1
     exact propext ⟨fun hx => mem_addQ.2 (.inl hx), fun hx => (mem_addQ.1 hx).resolve_right e⟩
 · unfold setN
   by_cases e : x = q
   · subst e
     rw [Maps.atKey_put_same h.map (sg_kI_key x), if_pos rfl]
   · rw [Maps.atKey_put_other (fun h => e (sg_kI_inj h)), h.at_, if_neg e]
 · unfold setN
   rw [if_neg fun e => hx (mem_addQ.2 (.inr e))]
   exact h.no x fun hk => hx (mem_addQ.2 (.inl hk))
section
variable {w w' : World} {mb r nb cnt : Nat} {K : List Int} {H : Int → Int} {L : Int → Bool}
theorem MN.lt (h : MN w mb nb K H) : mb < w.heap.size := h.choose_spec.1.lt
theorem MN.frame (h : MN w mb nb K H) (hs : w'.heap[mb]? = w.heap[mb]?) : MN w' mb nb K H := by
 obtain ⟨D, ⟨es, clock, hb, q⟩, hD⟩ := h
 exact ⟨D, ⟨es, clock, hs.trans hb, q⟩, hD⟩
theorem MN.below (h : MN w mb nb K H) (hb : Below w.heap.size w w') : MN w' mb nb K H := h.frame (hb.block mb h.lt)
theorem MN.keeps (h : MN w mb nb K H) {S : Nat → Prop} (hk : Keeps S w w') (hS : ¬ S mb) : MN w' mb nb K H := h.frame (hk.block mb h.lt hS)
theorem MN.made (w : World) : MN (w.alloc (.map #[] 0)) w.heap.size 0 [] (fun _ => 0) :=
 ⟨_, World.ownsMap_made w _ _ _, ⟨fun _ => rfl, fun _ => rfl, fun _ _ => rfl, Maps.isMap_empty⟩⟩
theorem RN.owns (h : RN w mb r nb K H L cnt) : MN w mb nb K H := by
 obtain ⟨D, left, h1, h2, _⟩ := h
 exact ⟨D, h1.owns, h2⟩
theorem RN.frame (h : RN w mb r nb K H L cnt) (hs : w'.heap[mb]? = w.heap[mb]?) (hr : w'.heap[r]? = w.heap[r]?) : RN w' mb r nb K H L cnt := by
 obtain ⟨D, left, ⟨es, clock, since, seen, c0, h1, h2, h3, h4, h5, q⟩, hD, hL⟩ := h
 exact ⟨D, left, ⟨es, clock, since, seen, c0, hs.trans h1, h2, h3, h4, hr.trans h5, q⟩, hD, hL⟩
theorem RN.lt (h : RN w mb r nb K H L cnt) : r < w.heap.size := by obtain ⟨D, left, h1, _⟩ := h; exact h1.lt
theorem RN.below (h : RN w mb r nb K H L cnt) (hb : Below w.heap.size w w') : RN w' mb r nb K H L cnt := h.frame (hb.block mb h.owns.lt) (hb.block r h.lt)
theorem RN.keeps (h : RN w mb r nb K H L cnt) {S : Nat → Prop} (hk : Keeps S w w') (hS : ¬ S mb) (hr : ¬ S r) : RN w' mb r nb K H L cnt := h.frame (hk.block mb h.owns.lt hS) (hk.block r h.lt hr)
theorem RN.left_eq (h : RN w mb r nb K H L cnt) : w.rangeLeft mb r = cnt := by obtain ⟨D, left, h1, _⟩ := h; exact h1.left_eq
theorem MN.ne_cells {g : Nat} {cs : Array Value} {t : TypeId} {fr : Nat × Nat} (h : MN w mb nb K H) (hg : w.heap[g]? = some (.cells cs t fr)) : mb ≠ g := fun e => by
 obtain ⟨D, ⟨es, clock, hb, _⟩, _⟩ := h
 rw [e, hg] at hb
 cases hb
theorem MN.ne_sl {x : Nat} {e : TypeId} {sz n cap : Nat} {A : Option Addr} {xs : List Value} (h : MN w mb nb K H) (hs : Sl w e sz A n cap xs) (hx : x ∈ fpA A) : mb ≠ x := by
 rcases hs.2.2.2 with ⟨rfl, _⟩ | ⟨g, off, cur, rfl, hg, _⟩
 · simp at hx
 · obtain rfl : x = g := by simpa using hx
   exact h.ne_cells hg
end
section
variable {w : World} {ops : Array Oper} {rest : List Oper} {o : Oper} {a : Act} {Q : Exit → Act → World → Prop} {mb nb : Nat} {K : List Int} {H : Int → Int}
theorem wp_mn_get (hg : o.guard = none) (m x : Operand) (hop : o.op = Op.lookup tRow m x false) (hm : a.eval m = .map (some mb)) (h : MN w mb nb K H) (y : Int) (hx : a.eval x = .int .i64 y) (hw : (Lit.int .i64 y).wf = true)
  (q : Int) (hq : H y = q) (hK : wpList Tryd.prog ops Q rest (a.put o.dst (.int .i64 q)) w) : wpList Tryd.prog ops Q (o :: rest) a w := by
 subst hq
 obtain ⟨D, h1, hD⟩ := h
 refine wpList_lookup_own_int w hg m x tRow hop tInt tInt .i64 sg_lawI Tryd.underlying66 Tryd.underlying3 (sg_zeroI w) mb nb D hm h1 _ (sg_kI y) hx (Maps.keyOf_int_mk Tryd.underlying3 hw) fun c hat _ => ?_
 rw [show (DataW.lit (Lit.int .i64 0) : DataW Unit) = sg_vI 0 from rfl, hD.at_] at hat
 obtain rfl : H y = c := by
  unfold sg_vI at hat
  injection hat with e
  injection e
 exact hK
theorem wp_mn_put (hg : o.guard = none) (m x v : Operand) (hop : o.op = Op.mapUpdate tRow m x v) (hm : a.eval m = .map (some mb)) (h : MN w mb nb K H) (hl : nb < maxLen) (y : Int) (hx : a.eval x = .int .i64 y) (hw : (Lit.int .i64 y).wf = true) (q : Int) (hv : a.eval v = .int .i64 q) (hwq : (Lit.int .i64 q).wf = true)
  (hK : ∀ w', MN w' mb (nb + 1) (addQ K y) (setN H y q) → Keeps (fun k => k = mb) w w' → wpList Tryd.prog ops Q rest (a.put o.dst undef) w') : wpList Tryd.prog ops Q (o :: rest) a w := by
 obtain ⟨D, h1, hD⟩ := h
 refine wpList_mapUpdate_own w hg m x v tRow hop tInt tInt sg_lawI Tryd.underlying66 (plainElem Tryd.prog tInt) mb nb D hm h1 hl _ _ (sg_kI y) hx hv (Maps.keyOf_int_mk Tryd.underlying3 hw) (sg_vI q) [] (plainElem_int Tryd.underlying3 hwq) fun w' h2 h3 => ?_
 exact hK w' ⟨_, h2, hD.put y q⟩ ((sg_keeps_of_grown h3).mono fun k _ e => Option.some.inj e)
theorem wp_mn_ins (hg : o.guard = none) (m x v : Operand) (hop : o.op = Op.insert tRow m x v) (hm : a.eval m = .map (some mb)) (h : MN w mb nb K H) (hl : nb < maxLen) (y : Int) (hx : a.eval x = .int .i64 y) (hw : (Lit.int .i64 y).wf = true) (q : Int) (hv : a.eval v = .int .i64 q) (hwq : (Lit.int .i64 q).wf = true)
  (hK : ∀ w', MN w' mb (nb + 1) (addQ K y) (setN H y q) → Keeps (fun k => k = mb) w w' → wpList Tryd.prog ops Q rest (a.put o.dst undef) w') : wpList Tryd.prog ops Q (o :: rest) a w := by
 obtain ⟨D, h1, hD⟩ := h
 refine wpList_plain hg fun K' hK' => ?_
 obtain ⟨w', hrun, r1, r2⟩ := h1.update sg_lawI Tryd.underlying66 hl (Maps.keyOf_int_mk Tryd.underlying3 hw) (d := sg_vI q) (ps := []) (plainElem_int Tryd.underlying3 hwq)
 unfold Oper.wp
 simp [execOp, hop, hm, hx, hv, hrun, Result.andThen]
 exact hK' _ _ (hK w' ⟨_, r1, hD.put y q⟩ ((sg_keeps_of_grown r2).mono fun k _ e => Option.some.inj e))
theorem wp_mn_range (hg : o.guard = none) (m : Operand) (hop : o.op = Op.range tRow m) (hm : a.eval m = .map (some mb)) (h : MN w mb nb K H)
  (hK : ∀ w' cnt, RN w' mb w.heap.size nb K H (fun x => decide (x ∈ K)) cnt → Below w.heap.size w w' → w'.heap.size = w.heap.size + 1 → wpList Tryd.prog ops Q rest (a.put o.dst (.pointer (some ⟨w.heap.size, 0, none⟩))) w') : wpList Tryd.prog ops Q (o :: rest) a w := by
 obtain ⟨D, h1, hD⟩ := h
 refine wpList_range_own w hg m tRow hop tInt tInt sg_lawI Tryd.underlying66 (plainElem Tryd.prog tInt) mb nb D hm h1 fun w' h2 h3 h4 => ?_
 exact hK w' _ ⟨D, _, h2, hD, fun x => hD.has x⟩ ⟨h3.os, h3.tape, h3.output, h3.size, fun k hk => h3.block k hk (by simp)⟩ h4
theorem wp_rn_next (hg : o.guard = none) (it : Operand) (hop : o.op = Op.next it false) {r cnt : Nat} {L : Int → Bool} (hit : a.eval it = .pointer (some ⟨r, 0, none⟩)) (h : RN w mb r nb K H L cnt)
  (hDone : cnt = 0 → (∀ x, L x = false) → wpList Tryd.prog ops Q rest (a.put o.dst (.tuple #[.bool false])) w)
  (hMore : ∀ (x : Int) (w' : World) (cnt' : Nat), x ∈ K → L x = true → (Lit.int .i64 x).wf = true → RN w' mb r nb K H (fun z => L z && !decide (z = x)) cnt' → cnt' < cnt → Keeps (fun k => k = r) w w' → w'.heap.size = w.heap.size →
   (Instr.entry (.pointer (some ⟨r, 0, none⟩))).run Tryd.prog w' = .ok (.tuple #[.int .i64 x, .int .i64 (H x)]) w' → wpList Tryd.prog ops Q rest (a.put o.dst (.tuple #[.bool true, .int .i64 x, .int .i64 (H x)])) w') :
  wpList Tryd.prog ops Q (o :: rest) a w := by
 obtain ⟨D, left, hr, hD, hL⟩ := h
 refine wpList_next_ranges_ii w hg it hop tInt tInt .i64 .i64 sg_lawI Tryd.underlying3 Tryd.underlying3 mb r nb D left cnt hit hr (fun h0 h1 => hDone h0 fun x => by rw [← hL]; exact h1 _) fun x c w' cnt' hwx _ hl hat h1 h2 h3 h4 h5 => ?_
 have hx : x ∈ K := by
  have := Maps.has_true_of_atKey (k := sg_kI x) hat
  rw [hD.has] at this
  simpa using this
 obtain rfl : H x = c := by
  have e := hat (sg_vI 0)
  rw [show (Lit.int .i64 x : Lit) = sg_kI x from rfl, hD.at_] at e
  unfold sg_vI at e
  injection e with e
  injection e
 refine hMore x w' cnt' hx (by rw [← hL]; exact hl) hwx ⟨D, _, h1, hD, fun z => ?_⟩ h2 ((sg_keeps_of_grown h3).mono fun k _ e => Option.some.inj e) h4 h5
 rw [hL]
 congr 2
 by_cases e : z = x
 · subst e
   rw [show (sg_kI z).sameKey (.int .i64 z) = true from WideAt.sameKey_self (a := sg_kI z) (sg_kI_key z)]
   simp
 · rw [show (Lit.int .i64 x : Lit) = sg_kI x from rfl, Maps.sameKey_ne (fun h => e (sg_kI_inj h))]
   simp [e]
end
end Go.Proofs.YtpkmjenoniedjaaDoor
namespace Go.Proofs.YtpkmjenoniedjaaDoor
theorem getD_lt {α : Type} {L : List α} {i : Nat} {d : α} (h : i < L.length) : L.getD i d = L[i] := by simp [List.getD, h]
theorem getElem?_getD {α : Type} {L : List α} {i : Nat} {d : α} (h : i < L.length) : L[i]? = some (L.getD i d) := by rw [getD_lt h]; exact List.getElem?_eq_getElem h
section
variable {p : Int} {m n r q : Nat} {L : List (List Int)} {f : Nat → Int}
theorem Mat.set (h : Mat p m n L) {i : Nat} {l : List Int} (hl : l.length = n) (hr : Res p l) : Mat p m n (L.set i l) := by
 refine ⟨by rw [List.length_set]; exact h.len, fun v hv => ?_⟩
 rcases List.mem_or_eq_of_mem_set hv with hv | hv
 · exact h.row v hv
 · subst hv; exact ⟨hl, hr⟩
theorem Mat.swap (h : Mat p m n L) {k : Nat} (hr : r < m) (hk : k < m) : Mat p m n (swapL L r k) :=
 (h.set (h.get hk).1 (h.get hk).2).set (h.get hr).1 (h.get hr).2
theorem Mat.elim (h : Mat p m n L) (hp : 0 < p) : Mat p m n (elimTo p r f L q) := by
 refine Mat.of_get (by rw [elimTo_length]; exact h.len) fun i hi => ?_
 rw [elimTo_get (by rw [h.len]; exact hi)]
 split
 · exact ⟨by rw [addT_length]; exact (h.get hi).1, Res.addT hp (h.get hi).2⟩
 · exact h.get hi
end
open Go.RowKit
theorem stillC2 {P : Program} {f : FuncId} {args : Array Value} {w : World} {v : Value} (h : Calls P f args w fun e w' => e = .returned v ∧ w = w') : Calls P f args w fun e w'' => e = .returned v ∧ w'' = w :=
 h.mono fun _ _ ⟨h1, h2⟩ => ⟨h1, h2.symm⟩
end Go.Proofs.YtpkmjenoniedjaaDoor
namespace Go.Proofs.YtpkmjenoniedjaaDoor
def unitV (n i : Nat) : List Int := (List.range n).map fun j => if j = i then 1 else 0
def idM (n : Nat) : List (List Int) := (List.range n).map (unitV n)
def kerM (p : Int) (n : Nat) (L : List (List Int)) : List (List Int) := redM p L.length ((redTo p L (idM L.length) n).2.2.drop (redTo p L (idM L.length) n).1)
def GenL (p : Int) (n : Nat) (N : (Nat → Int) → Prop) (K : List (List Int)) : Prop := Mat p K.length n K ∧ Gen p n N (en K) K.length
def leadV (v : List Int) : Nat := v.findIdx fun a => a != 0
def nvL (p : Int) (n : Nat) (R : List (List Int)) (j : Nat) : Nat → List Int
 | 0 => (List.replicate n 0).set j 1
 | i + 1 => (nvL p n R j i).set (leadV (R.getD i [])) (-(en R i j) % p)
def freeCols (n : Nat) (R : List (List Int)) : List Nat := (List.range n).filter fun j => R.all fun v => leadV v != j
def nvecs (p : Int) (n : Nat) (R : List (List Int)) : List (List Int) := (freeCols n R).map fun j => nvL p n R j R.length
def nullM (p : Int) (n : Nat) (L : List (List Int)) : List (List Int) := redM p n (nvecs p n (redM p n L))
end Go.Proofs.YtpkmjenoniedjaaDoor
namespace Go.Proofs.YtpkmjenoniedjaaDoor
theorem GenL.congr {p : Int} {n : Nat} {N N' : (Nat → Int) → Prop} (hN : ∀ x, N x ↔ N' x) {K : List (List Int)} (h : GenL p n N K) : GenL p n N' K :=
 ⟨h.1, fun k hk => (hN _).1 (h.2.1 k hk), fun x hx y hy => h.2.2 x hx y ((hN y).2 hy)⟩
end Go.Proofs.YtpkmjenoniedjaaDoor
namespace Go.Proofs.YtpkmjenoniedjaaDoor
def leadTo (R : List (List Int)) (n : Nat) : Nat → List Int
 | 0 => List.replicate n (-1)
 | i + 1 => (leadTo R n i).set (leadV (R.getD i [])) (i : Nat)
@[simp] theorem leadTo_length (R : List (List Int)) (n : Nat) : ∀ i, (leadTo R n i).length = n
  | 0 => by simp [leadTo]
  | i + 1 => by simp [leadTo, leadTo_length R n i]
open Go.RowKit
set_option maxHeartbeats 400000 in
theorem fdNeg_any (p a : Int) (w : World) (h0 : 0 < p) (h97 : p ≤ 97) (ha : 0 ≤ a) (ha' : a < p) :
  Calls Tryd.prog 48 #[.int .i64 p, .int .i64 a] w fun e w' => e = .returned (.int .i64 (-a % p)) ∧ w = w' := by
 have hz : (p == 0) = false := by rw [beq_eq_false_iff_ne]; omega
 have he : (p - a) % p = -a % p := by rw [show p - a = -a + p by omega, Int.add_emod_right]
 have HE := lH he; clear he
 go_enter Tryd.func48, Tryd.ntmps48
 go_wp2_with (fail)
 go_ret
 exact ⟨ret_int HE.out, rfl⟩
theorem RetSS.mono {w0 w w' : World} {L : List (List Int)} {e : Ending} (h : RetSS w L e w') (hb : Below w0.heap.size w0 w) : RetSS w0 L e w' := by
 obtain ⟨A, cap, hs, rfl, hL, hO, hf, h0⟩ := h
 exact ⟨A, cap, hs, rfl, hL, hO, fun b hb' => Nat.le_trans hb.size (hf b hb'), below_trans hb h0 hb.size⟩
def RwF (w : World) (A : Option Addr) (cap : Nat) (L : List (List Int)) (fp : List Nat) : Prop :=
 ∃ hs : List Hd, L = hs.map (fun h : Hd => h.2.2) ∧ OwR w A cap hs ∧ ∀ b, b ∈ fpA A ++ fpR hs → b ∈ fp
section
variable {w0 w w' : World} {A : Option Addr} {cap : Nat} {L : List (List Int)} {fp : List Nat}
theorem RwF.om (h : RwF w A cap L fp) (hf : FreshL w0.heap.size fp) (h0 : Below w0.heap.size w0 w) : OM w0 w A cap L := by
 obtain ⟨hs, hL, hO, hfp⟩ := h
 exact ⟨hs, hL, hO, fun b hb => hf b (hfp b hb), h0⟩
theorem RwF.below (h : RwF w A cap L fp) (hb : Below w.heap.size w w') : RwF w' A cap L fp := by
 obtain ⟨hs, hL, hO, hfp⟩ := h; exact ⟨hs, hL, hO.below hb, hfp⟩
theorem RwF.keeps {S : Nat → Prop} (h : RwF w A cap L fp) (hk : Keeps S w w') (hS : ∀ b, b ∈ fp → ¬ S b) : RwF w' A cap L fp := by
 obtain ⟨hs, hL, hO, hfp⟩ := h; exact ⟨hs, hL, hO.keeps hk fun b hb => hS b (hfp b hb), hfp⟩
theorem RwF.drew (h : RwF w A cap L fp) : RwF w.drew A cap L fp := h.below (below_drewN (Below.refl _ _) 1)
theorem RwF.get (h : RwF w A cap L fp) {i : Nat} (hi : i < L.length) : ∃ ad B c, A = some ad ∧ w.cell? (ad.add i) = some (.slice B (L.getD i []).length c) ∧ w.frozen? (ad.add i) = false ∧ IS w B c (L.getD i []) ∧ ∀ b, b ∈ fpA B → b ∈ fp := by
 obtain ⟨hs, rfl, hO, hf⟩ := h
 obtain ⟨ad, B, c, l, hA, hx, hc, hz, hi'⟩ := hO.get (i := i) (by simpa using hi)
 rw [getD_map_hd hx]
 exact ⟨ad, B, c, hA, hc, hz, hi', fun b hb => hf b (List.mem_append_right _ (mem_fpR.2 ⟨_, List.mem_of_getElem? hx, hb⟩))⟩
theorem RwF.apart (h : RwF w A cap L fp) {i k : Nat} (hi : i < L.length) (hk : k < L.length) (hne : i ≠ k) {ad : Addr} (hA : A = some ad) {B C : Option Addr} {n c n' c' : Nat} (hB : w.cell? (ad.add i) = some (.slice B n c)) (hC : w.cell? (ad.add k) = some (.slice C n' c')) : ∀ b, b ∈ fpA B → b ∉ fpA C := by
 obtain ⟨hs, rfl, hO, hf⟩ := h
 obtain ⟨ad1, B1, c1, l1, hA1, hx1, hc1, _⟩ := hO.get (i := i) (by simpa using hi)
 obtain ⟨ad2, B2, c2, l2, hA2, hx2, hc2, _⟩ := hO.get (i := k) (by simpa using hk)
 rw [hA] at hA1 hA2
 obtain rfl := Option.some.inj hA1
 obtain rfl := Option.some.inj hA2
 rw [hB] at hc1; rw [hC] at hc2
 injection hc1 with hc1; injection hc1 with e1 _ _
 injection hc2 with hc2; injection hc2 with e2 _ _
 subst e1 e2
 exact hO.apart_get hx1 hx2 hne
theorem RwF.wr (h : RwF w A cap L fp) {i : Nat} (hi : i < L.length) {ad : Addr} (hA : A = some ad) {B : Option Addr} {n c : Nat} (hc : w.cell? (ad.add i) = some (.slice B n c)) {l' : List Int} (hl : l'.length = (L.getD i []).length) (hw : Wr w w' B (ints l')) : RwF w' A cap (L.set i l') fp ∧ Keeps (· ∈ fp) w w' := by
 obtain ⟨hs, rfl, hO, hf⟩ := h
 obtain ⟨ad', B', c', l, hA', hx, hc', hz, hi'⟩ := hO.get (i := i) (by simpa using hi)
 rw [hA] at hA'
 obtain rfl := Option.some.inj hA'
 rw [hc] at hc'
 injection hc' with hc'
 injection hc' with e1 e2 e3
 subst e1
 rw [getD_map_hd hx] at hl
 have hm := List.mem_of_getElem? hx
 refine ⟨⟨hs.set i (B, c', l'), by rw [List.map_set], hO.wr hx hw hl, fun b hb => ?_⟩, hw.1.mono fun b _ hb => hf b (List.mem_append_right _ (mem_fpR.2 ⟨_, hm, hb⟩))⟩
 rcases List.mem_append.1 hb with hb | hb
 · exact hf b (List.mem_append_left _ hb)
 · exact hf b (List.mem_append_right _ (fpR_set hx b hb))
theorem RwF.set (h : RwF w A cap L fp) {i : Nat} (hi : i < L.length) {ad : Addr} (hA : A = some ad) {bd : Addr} {n c : Nat} (hc : w.cell? (ad.add i) = some (.slice (some bd) n c)) {j : Nat} (hj : j < (L.getD i []).length) (x : Int) :
  RwF (w.setCell (bd.add j) (.int .i64 x)) A cap (L.set i ((L.getD i []).set j x)) fp ∧ Keeps (· ∈ fp) w (w.setCell (bd.add j) (.int .i64 x)) := by
 obtain ⟨ad', B, c', hA', hc', _, hI, _⟩ := h.get hi
 rw [hA] at hA'
 obtain rfl := Option.some.inj hA'
 have hc2 := hc'
 rw [hc] at hc2
 injection hc2 with hc2
 injection hc2 with e1 e2 e3
 exact h.wr hi hA hc (by simp) (IS.wr1 (e1 ▸ hI) rfl hj x)
theorem RwF.swap (h : RwF w A cap L fp) {r k : Nat} (hr : r < L.length) (hk : k < L.length) {ad : Addr} (hA : A = some ad) {V U : Value} (hV : w.cell? (ad.add k) = some V) (hU : w.cell? (ad.add r) = some U) :
  RwF ((w.setCell (ad.add r) V).setCell (ad.add k) U) A cap (swapL L r k) fp ∧ Keeps (· ∈ fp) w ((w.setCell (ad.add r) V).setCell (ad.add k) U) := by
 obtain ⟨hs, rfl, hO, hf⟩ := h
 have hr' : r < hs.length := by simpa using hr
 have hk' : k < hs.length := by simpa using hk
 have cellOf : ∀ i (hi : i < hs.length) X, w.cell? (ad.add i) = some X → X = hs[i].val := by
  intro i hi X hX
  obtain ⟨ad', B, c, l, hA', hx, hc, _⟩ := hO.get (i := i) hi
  rw [hA] at hA'
  obtain rfl := Option.some.inj hA'
  rw [hX] at hc
  rw [List.getElem?_eq_getElem hi] at hx
  rw [Option.some.inj hx]
  exact Option.some.inj hc
 rw [cellOf k hk' V hV, cellOf r hr' U hU]
 have hp := swapH_perm hr' hk'
 have hblk : ad.block ∈ fp := hf _ (List.mem_append_left _ (by rw [hA]; simp))
 refine ⟨⟨_, (swapH_map hr' hk').symm, hO.swap hr' hk' hA, fun b hb => ?_⟩, ((Keeps.refl _ w).setCell (p := ad.add r) (by rw [block_of_add]; exact hblk) _).setCell (p := ad.add k) (by rw [block_of_add]; exact hblk) _⟩
 rcases List.mem_append.1 hb with hb | hb
 · exact hf b (List.mem_append_left _ hb)
 · exact hf b (List.mem_append_right _ (fpR_perm hp b hb))
theorem RwF.outer (h : RwF w A cap L fp) {i : Nat} (hi : i < L.length) {ad : Addr} (hA : A = some ad) {B : Option Addr} {n c : Nat} (hB : w.cell? (ad.add i) = some (.slice B n c)) : ∀ b, b ∈ fpA B → b ≠ ad.block := by
 obtain ⟨hs, rfl, hO, hf⟩ := h
 obtain ⟨ad1, B1, c1, l1, hA1, hx1, hc1, _⟩ := hO.get (i := i) (by simpa using hi)
 rw [hA] at hA1
 obtain rfl := Option.some.inj hA1
 rw [hB] at hc1
 injection hc1 with hc1; injection hc1 with e1 _ _
 subst e1
 intro b hb e
 exact hO.outer _ (List.mem_of_getElem? hx1) b hb (by rw [hA, e]; simp)
theorem keeps_cell {S : Nat → Prop} (hk : Keeps S w w') {a : Addr} {u : Value} (h : w.cell? a = some u) (hS : ¬ S a.block) : w'.cell? a = some u :=
 (World.cell?_of_block (hk.block _ (World.block_lt_of_cell? w a h) hS)).trans h
theorem RwF.lt (h : RwF w A cap L fp) : ∃ fp', RwF w A cap L fp' ∧ LtL w.heap.size fp' ∧ ∀ b, b ∈ fp' → b ∈ fp := by
 obtain ⟨hs, hL, hO, hf⟩ := h
 exact ⟨fpA A ++ fpR hs, ⟨hs, hL, hO, fun b hb => hb⟩, hO.lt, hf⟩
end
section
variable {w w' : World} {A : Option Addr} {cap : Nat} {hs : List Hd} {L : List (List Int)} {fp : List Nat}
theorem OwR.wr2 (h : OwR w A cap hs) {i : Nat} {B : Option Addr} {c : Nat} {l l' : List Int} (hi : hs[i]? = some (B, c, l)) (hk : Keeps (· ∈ fpA B) w w') (hI : IS w' B c l') (hl : l'.length = l.length) : OwR w' A cap (hs.set i (B, c, l')) := by
 have hil := (List.getElem?_eq_some_iff.1 hi).1
 have hm := List.mem_of_getElem? hi
 have hsetm : (hs.set i (B, c, l')).map Hd.val = hs.map Hd.val := by
  rw [List.map_set]
  have : Hd.val (B, c, l') = Hd.val (B, c, l) := by simp [Hd.val, hl]
  rw [this]
  apply List.ext_getElem?
  intro k
  rw [List.getElem?_set]
  split
  · rename_i hk; subst hk
    rw [List.getElem?_map, hi]
    simp [hil]
  · rfl
 have hget : ∀ (k : Nat) (x : Hd), (hs.set i (B, c, l'))[k]? = some x → ∃ y : Hd, hs[k]? = some y ∧ y.1 = x.1 := by
  intro k x hx
  rw [List.getElem?_set] at hx
  split at hx
  · rename_i hk; subst hk
    simp at hx
    exact ⟨_, hi, by rw [← hx]⟩
  · exact ⟨x, hx, rfl⟩
 refine ⟨?_, fun x hx => ?_, ?_, fun x hx => ?_⟩
 · rw [List.length_set, hsetm]
   exact h.sl.keeps hk fun b hb hb' => h.outer _ hm b hb' hb
 · obtain ⟨k, hkk⟩ := List.mem_iff_getElem?.1 hx
   rw [List.getElem?_set] at hkk
   split at hkk
   · simp at hkk
     rw [← hkk]
     exact hI
   · rename_i hik
     exact (h.rows x (List.mem_of_getElem? hkk)).keeps hk fun b hb hb' => h.apart_get hi hkk hik b hb' hb
 · refine List.pairwise_iff_getElem.2 fun a b ha hb hab => ?_
   obtain ⟨x, hx, ex⟩ := hget a _ (List.getElem?_eq_getElem ha)
   obtain ⟨y, hy, ey⟩ := hget b _ (List.getElem?_eq_getElem hb)
   rw [← ex, ← ey]
   exact h.apart_get hx hy (by omega)
 · obtain ⟨k, hkk⟩ := List.mem_iff_getElem?.1 hx
   obtain ⟨y, hy, e⟩ := hget k x hkk
   rw [← e]; exact h.outer y (List.mem_of_getElem? hy)
theorem RwF.wr2 (h : RwF w A cap L fp) {i : Nat} (hi : i < L.length) {ad : Addr} (hA : A = some ad) {B : Option Addr} {n c : Nat} (hc : w.cell? (ad.add i) = some (.slice B n c)) {l' : List Int} (hl : l'.length = (L.getD i []).length) (hk : Keeps (· ∈ fpA B) w w') (hI : IS w' B c l') : RwF w' A cap (L.set i l') fp ∧ Keeps (· ∈ fp) w w' := by
 obtain ⟨hs, rfl, hO, hf⟩ := h
 obtain ⟨ad', B', c', l, hA', hx, hc', hz, hi'⟩ := hO.get (i := i) (by simpa using hi)
 rw [hA] at hA'
 obtain rfl := Option.some.inj hA'
 rw [hc] at hc'
 injection hc' with hc'
 injection hc' with e1 e2 e3
 subst e1 e3
 rw [getD_map_hd hx] at hl
 have hm := List.mem_of_getElem? hx
 refine ⟨⟨hs.set i (B, c, l'), by rw [List.map_set], hO.wr2 hx hk hI hl, fun b hb => ?_⟩, hk.mono fun b _ hb => hf b (List.mem_append_right _ (mem_fpR.2 ⟨_, hm, hb⟩))⟩
 rcases List.mem_append.1 hb with hb | hb
 · exact hf b (List.mem_append_left _ hb)
 · exact hf b (List.mem_append_right _ (fpR_set hx b hb))
end
theorem cntR_append (L M : List (List Int)) : cntR (L ++ M) = cntR L + cntR M := by
 induction L with
 | nil => simp [cntR]
 | cons l L ih => simp [cntR, ih]; omega
theorem cntR_take_succ {L : List (List Int)} {i : Nat} (h : i < L.length) : cntR (L.take (i + 1)) = cntR (L.take i) + (L.getD i []).length := by
 rw [List.take_add_one, getElem?_getD (d := []) h, cntR_append]; simp [cntR]
theorem cntR_take_le (L : List (List Int)) (i : Nat) : cntR (L.take i) ≤ cntR L := by
 conv => rhs; rw [← List.take_append_drop i L, cntR_append]
 omega
theorem marksR_length (k : Nat) (ns : List Nat) : (marksR k ns).length = ns.length := by
 induction ns generalizing k with
 | nil => rfl
 | cons n ns ih => simp [marksR, ih]
theorem marksR_get : ∀ (L : List (List Int)) (k i : Nat), i < L.length → (marksR k (L.map List.length))[i]? = some (marks (k + cntR (L.take i)) (L.getD i []).length)
 | l :: L, k, 0, _ => by simp [marksR, cntR]
 | l :: L, k, i + 1, h => by
   have := marksR_get L (k + l.length) i (by simpa using h)
   simp only [List.map_cons, marksR, List.getElem?_cons_succ, this, List.take_succ_cons, cntR]
   simp [Nat.add_assoc]
set_option maxHeartbeats 1000000 in
theorem markIntSS_any (A : Option Addr) (c m : Nat) (L : List (List Int)) (fp : List Nat) (k : Nat) (w : World) (h : RwF w A c L fp) (hm : L.length = m) (hml : m ≤ 1048576) (hl : k + cntR L ≤ 17592186044416) :
  Calls Tryd.prog 26 #[.slice A m c, .int .i64 k] w fun e w' => e = .returned (.int .i64 ((k + cntR L : Nat) : Int)) ∧ RwF w' A c (marksR k (L.map List.length)) fp ∧ Keeps (· ∈ fp) w w' := by
 have HM := lH hm; clear hm
 go_enter Tryd.func26, Tryd.ntmps26
 go_wp2_with (fail)
 go_loopw [1, 5] (fun q i wr => ∃ j : Nat, j ≤ m ∧ i = .int .i64 j ∧ q = .int .i64 ((k + cntR (L.take j) : Nat) : Int) ∧ RwF wr A c ((marksR k (L.map List.length)).take j ++ L.drop j) fp ∧ Keeps (· ∈ fp) w wr) (fun _ i _ => m - (intOf i).toNat)
 case atStart => exact ⟨0, Nat.zero_le _, rfl, by simp [cntR], by simpa using h, Keeps.refl _ _⟩
 case round =>
  obtain ⟨j, hj, rfl, rfl, hR, hkp⟩ := hrel
  have hln : ((marksR k (L.map List.length)).take j ++ L.drop j).length = L.length := by rw [List.length_append, List.length_take, marksR_length, List.length_map, List.length_drop, HM.out]; omega
  by_cases hlt : j < m
  · obtain ⟨ad, B, d, hA, hc, _, hI, _⟩ := hR.get (i := j) (by rw [hln, HM.out]; exact hlt)
    have hrow : ((marksR k (L.map List.length)).take j ++ L.drop j).getD j [] = L.getD j [] := by
     have e := get_take_drop (l := marksR k (L.map List.length)) (m := L) (k := j) (by rw [marksR_length, List.length_map]) (by rw [HM.out]; exact hlt)
     simp only [List.getD, e]
    rw [hrow] at hc hI
    have hsz := cntR_take_succ (L := L) (i := j) (by rw [HM.out]; exact hlt)
    have hle := cntR_take_le L (j + 1)
    have hC := markIntS_any B d (L.getD j []) (k + cntR (L.take j)) wr hI (by omega)
    have HC := lH hC
    have HW := lH (fun (w' : World) (hk' : Keeps (· ∈ fpA B) wr w') (hI' : IS w' B d (marks (k + cntR (L.take j)) (L.getD j []).length)) =>
     hR.wr2 (i := j) (by rw [hln, HM.out]; exact hlt) hA hc (l' := marks (k + cntR (L.take j)) (L.getD j []).length) (by rw [marks_length, hrow]) hk' hI')
    have hst := take_append_step (l := marksR k (L.map List.length)) (m := L) (k := j) (by rw [marksR_length, List.length_map]) (marksR_get L k j (by rw [HM.out]; exact hlt))
    have HST := lH hst; have HSZ := lH hsz
    obtain ⟨nj, hnj⟩ : ∃ nj, nj = (L.getD j []).length := ⟨_, rfl⟩
    obtain ⟨cj, hcj⟩ : ∃ cj, cj = cntR (L.take j) := ⟨_, rfl⟩
    have HNJ := lH hnj; have HCJ := lH hcj
    have hC2 := HC.out
    rw [← hnj, ← hcj] at hC2
    rw [← hnj] at hc
    rw [← hcj]
    subst hA
    have hjI : (j : Int) < (m : Int) := by omega
    have HC2 := lH hC2; have HKP := lH hkp; clear hC hC2 HC hst hsz hR hI hrow hln hnj hcj hle hkp h
    go_wp2_with (fail)
    refine HC2.out.mono ?_
    rintro e w1 ⟨rfl, hI1, hk1⟩
    rw [HNJ.out, HCJ.out] at hI1
    obtain ⟨hR1, hk2⟩ := HW.out w1 hk1 hI1
    rw [HST.out] at hR1
    have HR1 := lH hR1
    have HK2 := lH (HKP.out.trans hk2)
    clear hR1 hk2 hI1 hk1
    go_wp2_with (fail)
    go_roundw
    case rel => exact ⟨j + 1, by omega, by go_num, by rw [HSZ.out, ← HNJ.out, ← HCJ.out]; congr 2; omega, HR1.out, HK2.out⟩
    case measure => simp [intOf]; omega
  · obtain rfl : m = j := by omega
    have hR2 : RwF wr A c (marksR k (L.map List.length)) fp := by
     have := hR
     rwa [List.take_of_length_le (by rw [marksR_length, List.length_map, HM.out]; omega), List.drop_of_length_le (by rw [HM.out]; omega), List.append_nil] at this
    have hcn : cntR (L.take m) = cntR L := by rw [List.take_of_length_le (by rw [HM.out]; omega)]
    have HCN := lH hcn; clear hR hln hcn
    go_wp2_with (fail)
    go_ret
    exact ⟨ret_int (by rw [HCN.out]), hR2, hkp⟩
set_option maxHeartbeats 1000000 in
theorem heldIntSS_any (A : Option Addr) (c : Nat) (hs : List Hd) (L : List (List Int)) (k : Nat) (w : World) (h : RdR w A hs) (hm : hs.map (fun h : Hd => h.2.2) = marksR k (L.map List.length)) (hml : hs.length ≤ 1048576) (hl : k + cntR L ≤ 17592186044416) :
  Calls Tryd.prog 27 #[.slice A hs.length c, .int .i64 k] w fun e w' => e = .returned (.int .i64 ((k + cntR L : Nat) : Int)) ∧ w = w' := by
 have hlen : L.length = hs.length := by have := congrArg List.length hm; rw [List.length_map, marksR_length, List.length_map] at this; omega
 obtain ⟨m, hmm⟩ : ∃ m, m = hs.length := ⟨_, rfl⟩
 rw [← hmm] at hml ⊢
 have HM := lH hmm
 have HL := lH (hlen.trans hmm.symm)
 have HE := lH hm; clear hmm hlen hm
 go_enter Tryd.func27, Tryd.ntmps27
 go_wp2_with (fail)
 go_loop [1, 5] (fun q i => ∃ j : Nat, j ≤ m ∧ i = .int .i64 j ∧ q = .int .i64 ((k + cntR (L.take j) : Nat) : Int)) (fun _ i => m - (intOf i).toNat)
 case atStart => exact ⟨0, Nat.zero_le _, rfl, by simp [cntR]⟩
 case round =>
  obtain ⟨j, hj, rfl, rfl⟩ := hrel
  by_cases hlt : j < m
  · obtain ⟨ad, B, d, l, rfl, hx, hc, hri⟩ := h.at_ (k := j) (by rw [← HM.out]; exact hlt)
    have hgl := marksR_get L k j (by rw [HL.out]; exact hlt)
    have hll : l = marks (k + cntR (L.take j)) (L.getD j []).length := by
     rw [← HE.out, List.getElem?_map, hx] at hgl
     exact Option.some.inj hgl
    have hsz := cntR_take_succ (L := L) (i := j) (by rw [HL.out]; exact hlt)
    have hle := cntR_take_le L (j + 1)
    rw [hll] at hri
    have hC := heldIntS_any B d (L.getD j []).length (k + cntR (L.take j)) w hri (by omega)
    rw [hll, marks_length] at hc
    obtain ⟨nj, hnj⟩ : ∃ nj, nj = (L.getD j []).length := ⟨_, rfl⟩
    obtain ⟨cj, hcj⟩ : ∃ cj, cj = cntR (L.take j) := ⟨_, rfl⟩
    rw [← hnj] at hC hc hsz
    rw [← hcj] at hC hsz ⊢
    have HC := lH hC; have HSZ := lH hsz
    have hjI : (j : Int) < (m : Int) := by omega
    clear hC hsz hri hll hgl hx hnj hcj hle h
    go_wp2_with (fail)
    refine HC.out.mono ?_
    rintro e w1 ⟨rfl, rfl⟩
    go_wp2_with (fail)
    go_round
    case rel => exact ⟨j + 1, by omega, by go_num, by rw [HSZ.out]; congr 2; omega⟩
    case measure => simp [intOf]; omega
  · obtain rfl : m = j := by omega
    have hcn : cntR (L.take m) = cntR L := by rw [List.take_of_length_le (by rw [HL.out]; omega)]
    have HCN := lH hcn; clear hcn h
    go_wp2_with (fail)
    go_ret
    exact ⟨ret_int (by rw [HCN.out]), rfl⟩
def OkR (L : List (List Int)) : Prop := L.length ≤ 1048576 ∧ (∀ x, x ∈ L → x.length ≤ 1048576) ∧ cntR L ≤ 1048576
abbrev Sys := Int × Int × List (List Int)
def RdSysV (w : World) (v : Value) (s : Sys) : Prop := ∃ A c hs, v = .agg #[.int .i64 s.1, .int .i64 s.2.1, .slice A hs.length c] ∧ s.2.2 = hs.map (fun h : Hd => h.2.2) ∧ RdR w A hs
def OwSys (w : World) (v : Value) (s : Sys) (fp : List Nat) : Prop := ∃ A c hs, v = .agg #[.int .i64 s.1, .int .i64 s.2.1, .slice A hs.length c] ∧ s.2.2 = hs.map (fun h : Hd => h.2.2) ∧ OwR w A c hs ∧ fp = fpA A ++ fpR hs
def HeSys (w : World) (v : Value) (s : Sys) (k : Nat) (fp : List Nat) : Prop := ∃ A c hs, v = .agg #[.int .i64 s.1, .int .i64 s.2.1, .slice A hs.length c] ∧ hs.map (fun h : Hd => h.2.2) = marksR k (s.2.2.map List.length) ∧ OwR w A c hs ∧ (∀ b, b ∈ fpA A ++ fpR hs → b ∈ fp)
theorem box3 {w : World} {B : Nat} {x y z : Value} {t : TypeId} (h : w.heap[B]? = some (.cells #[x, y, z] t)) :
  (w.cell? ⟨B, 0, none⟩ = some x ∧ w.cell? ⟨B, 1, none⟩ = some y ∧ w.cell? ⟨B, 2, none⟩ = some z) ∧ (w.frozen? ⟨B, 0, none⟩ = false ∧ w.frozen? ⟨B, 1, none⟩ = false ∧ w.frozen? ⟨B, 2, none⟩ = false) := by
 refine ⟨⟨?_, ?_, ?_⟩, ?_, ?_, ?_⟩ <;> simp [World.cell?, World.frozen?, h]
section
variable {w w' : World} {v : Value} {s : Sys} {k : Nat} {fp : List Nat}
theorem RdSysV.shape (h : RdSysV w v s) : ∃ A n c, v = .agg #[.int .i64 s.1, .int .i64 s.2.1, .slice A n c] := by
 obtain ⟨A, c, hs, rfl, _⟩ := h; exact ⟨_, _, _, rfl⟩
theorem OwSys.shape (h : OwSys w v s fp) : ∃ A n c, v = .agg #[.int .i64 s.1, .int .i64 s.2.1, .slice A n c] := by
 obtain ⟨A, c, hs, rfl, _⟩ := h; exact ⟨_, _, _, rfl⟩
theorem OwSys.rd (h : OwSys w v s fp) : RdSysV w v s := by
 obtain ⟨A, c, hs, rfl, hL, h, _⟩ := h; exact ⟨A, c, hs, rfl, hL, h.rd⟩
theorem RdSysV.below (h : RdSysV w v s) (hb : Below w.heap.size w w') : RdSysV w' v s := by
 obtain ⟨A, c, hs, rfl, hL, h⟩ := h; exact ⟨A, c, hs, rfl, hL, h.below hb⟩
theorem OwSys.below (h : OwSys w v s fp) (hb : Below w.heap.size w w') : OwSys w' v s fp := by
 obtain ⟨A, c, hs, rfl, hL, h, e⟩ := h; exact ⟨A, c, hs, rfl, hL, h.below hb, e⟩
theorem OwSys.keeps (h : OwSys w v s fp) {S : Nat → Prop} (hk : Keeps S w w') (hS : ∀ b, b ∈ fp → ¬ S b) : OwSys w' v s fp := by
 obtain ⟨A, c, hs, rfl, hL, h, rfl⟩ := h; exact ⟨A, c, hs, rfl, hL, h.keeps hk hS, rfl⟩
theorem OwSys.lt (h : OwSys w v s fp) : LtL w.heap.size fp := by
 obtain ⟨A, c, hs, rfl, hL, h, rfl⟩ := h; exact h.lt
theorem HeSys.below (h : HeSys w v s k fp) (hb : Below w.heap.size w w') : HeSys w' v s k fp := by
 obtain ⟨A, c, hs, rfl, hL, h, e⟩ := h; exact ⟨A, c, hs, rfl, hL, h.below hb, e⟩
theorem HeSys.keeps (h : HeSys w v s k fp) {S : Nat → Prop} (hk : Keeps S w w') (hS : ∀ b, b ∈ fp → ¬ S b) : HeSys w' v s k fp := by
 obtain ⟨A, c, hs, rfl, hL, h, e⟩ := h; exact ⟨A, c, hs, rfl, hL, h.keeps hk fun b hb => hS b (e b hb), e⟩
theorem OwSys.of_om {w0 : World} {A : Option Addr} {c : Nat} {L : List (List Int)} {a b : Int} (h : OM w0 w A c L) : ∃ fp, OwSys w (.agg #[.int .i64 a, .int .i64 b, .slice A L.length c]) (a, b, L) fp ∧ FreshL w0.heap.size fp := by
 obtain ⟨hs, rfl, hO, hf, _⟩ := h
 exact ⟨fpA A ++ fpR hs, ⟨A, c, hs, by rw [List.length_map], rfl, hO, rfl⟩, hf⟩
end
abbrev Mt := Int × List (List Int)
def RdMtV (w : World) (v : Value) (s : Mt) : Prop := ∃ A c hs, v = .agg #[.int .i64 s.1, .slice A hs.length c] ∧ s.2 = hs.map (fun h : Hd => h.2.2) ∧ RdR w A hs
def OwMt (w : World) (v : Value) (s : Mt) (fp : List Nat) : Prop := ∃ A c hs, v = .agg #[.int .i64 s.1, .slice A hs.length c] ∧ s.2 = hs.map (fun h : Hd => h.2.2) ∧ OwR w A c hs ∧ fp = fpA A ++ fpR hs
def HeMt (w : World) (v : Value) (s : Mt) (k : Nat) (fp : List Nat) : Prop := ∃ A c hs, v = .agg #[.int .i64 s.1, .slice A hs.length c] ∧ hs.map (fun h : Hd => h.2.2) = marksR k (s.2.map List.length) ∧ OwR w A c hs ∧ (∀ b, b ∈ fpA A ++ fpR hs → b ∈ fp)
section
variable {w w' : World} {v : Value} {s : Mt} {k : Nat} {fp : List Nat}
theorem RdMtV.shape (h : RdMtV w v s) : ∃ A n c, v = .agg #[.int .i64 s.1, .slice A n c] := by
 obtain ⟨A, c, hs, rfl, _⟩ := h; exact ⟨_, _, _, rfl⟩
theorem OwMt.shape (h : OwMt w v s fp) : ∃ A n c, v = .agg #[.int .i64 s.1, .slice A n c] := by
 obtain ⟨A, c, hs, rfl, _⟩ := h; exact ⟨_, _, _, rfl⟩
theorem OwMt.rd (h : OwMt w v s fp) : RdMtV w v s := by
 obtain ⟨A, c, hs, rfl, hL, h, _⟩ := h; exact ⟨A, c, hs, rfl, hL, h.rd⟩
theorem RdMtV.below (h : RdMtV w v s) (hb : Below w.heap.size w w') : RdMtV w' v s := by
 obtain ⟨A, c, hs, rfl, hL, h⟩ := h; exact ⟨A, c, hs, rfl, hL, h.below hb⟩
theorem OwMt.below (h : OwMt w v s fp) (hb : Below w.heap.size w w') : OwMt w' v s fp := by
 obtain ⟨A, c, hs, rfl, hL, h, e⟩ := h; exact ⟨A, c, hs, rfl, hL, h.below hb, e⟩
theorem OwMt.keeps (h : OwMt w v s fp) {S : Nat → Prop} (hk : Keeps S w w') (hS : ∀ b, b ∈ fp → ¬ S b) : OwMt w' v s fp := by
 obtain ⟨A, c, hs, rfl, hL, h, rfl⟩ := h; exact ⟨A, c, hs, rfl, hL, h.keeps hk hS, rfl⟩
theorem OwMt.lt (h : OwMt w v s fp) : LtL w.heap.size fp := by
 obtain ⟨A, c, hs, rfl, hL, h, rfl⟩ := h; exact h.lt
theorem HeMt.below (h : HeMt w v s k fp) (hb : Below w.heap.size w w') : HeMt w' v s k fp := by
 obtain ⟨A, c, hs, rfl, hL, h, e⟩ := h; exact ⟨A, c, hs, rfl, hL, h.below hb, e⟩
theorem HeMt.keeps (h : HeMt w v s k fp) {S : Nat → Prop} (hk : Keeps S w w') (hS : ∀ b, b ∈ fp → ¬ S b) : HeMt w' v s k fp := by
 obtain ⟨A, c, hs, rfl, hL, h, e⟩ := h; exact ⟨A, c, hs, rfl, hL, h.keeps hk fun b hb => hS b (e b hb), e⟩
theorem OwMt.of_om {w0 : World} {A : Option Addr} {c : Nat} {L : List (List Int)} {a : Int} (h : OM w0 w A c L) : ∃ fp, OwMt w (.agg #[.int .i64 a, .slice A L.length c]) (a, L) fp ∧ FreshL w0.heap.size fp := by
 obtain ⟨hs, rfl, hO, hf, _⟩ := h
 exact ⟨fpA A ++ fpR hs, ⟨A, c, hs, by rw [List.length_map], rfl, hO, rfl⟩, hf⟩
end
theorem box_below {w w' : World} {B : Nat} {o : Obj} (h : w.heap[B]? = some o) (hb : Below w.heap.size w w') : w'.heap[B]? = some o := (hb.block B (Array.getElem?_eq_some_iff.1 h).1).trans h
theorem box_keeps {w w' : World} {S : Nat → Prop} {B : Nat} {o : Obj} (h : w.heap[B]? = some o) (hk : Keeps S w w') (hS : ¬ S B) : w'.heap[B]? = some o := (hk.block B (Array.getElem?_eq_some_iff.1 h).1 hS).trans h
theorem box_lt {w : World} {B : Nat} {o : Obj} (h : w.heap[B]? = some o) : B < w.heap.size := (Array.getElem?_eq_some_iff.1 h).1
theorem below_alloc (w : World) (o : Obj) : Below w.heap.size w (w.alloc o) := (Below.refl _ _).alloc (Nat.le_refl _) _
def rowsB (p n : Int) (L : List (List Int)) : Bool := L.all fun l => decide ((l.length : Int) = n) && inB 0 (p - 1) l
def sysB (p : Int) (s : Sys) : Bool := fieldB p && ((decide (0 ≤ s.1) && decide (s.1 ≤ 24)) && ((decide (0 ≤ s.2.1) && decide (s.2.1 ≤ 100)) && (decide (s.2.2.length ≤ 160) && rowsB p (s.1 + s.2.1) s.2.2)))
set_option maxHeartbeats 1000000 in
theorem eqSystem_law {v v' : Value} {s t : Sys} {w : World} (h : RdSysV w v s) (h' : RdSysV w v' t) (ok : OkR s.2.2) :
  Calls Tryd.prog 8 #[v, v'] w fun e w' => e = .returned (.bool (decide (s = t))) ∧ Below w.heap.size w w' := by
 obtain ⟨hn, hr, _⟩ := ok
 obtain ⟨A, c, hs, rfl, hL, hR⟩ := h
 obtain ⟨B, d, gs, rfl, hM, hS⟩ := h'
 obtain ⟨a1, b1, L⟩ := s
 obtain ⟨a2, b2, M⟩ := t
 have hL' : L = hs.map (fun h : Hd => h.2.2) := hL
 have hM' : M = gs.map (fun h : Hd => h.2.2) := hM
 subst hL' hM'
 have hb : Below w.heap.size w ((w.alloc (.cells #[.int .i64 a1, .int .i64 b1, .slice A hs.length c] 29)).alloc (.cells #[.int .i64 a2, .int .i64 b2, .slice B gs.length d] 29)) :=
  ((Below.refl _ _).alloc (Nat.le_refl _) _).alloc (by simp) _
 have hC := eqIntSS_any A B c d hs gs _ (hR.below hb) (hS.below hb) (by have : (hs.map fun h : Hd => h.2.2).length ≤ 1048576 := hn; simp at this; omega) (fun x hx => by have := hr _ (List.mem_map_of_mem hx); omega)
 have HC := lH hC; clear hC hL hM hR hS hr
 by_cases e0 : a1 = a2
 · have h0 : (a1 != a2) = false := by simp [e0]
   have E0 := lH e0; clear e0
   by_cases e1 : b1 = b2
   · have h1 : (b1 != b2) = false := by simp [e1]
     have E1 := lH e1; clear e1
     go_enter Tryd.func8, Tryd.ntmps8
     go_wp2_with (fail)
     have hC2 := HC.out
     by_cases e9 : (hs.map fun h : Hd => h.2.2) = gs.map fun h : Hd => h.2.2
     · rw [decide_eq_true e9] at hC2
       have E9 := lH e9; clear e9
       refine hC2.mono ?_
       clear hC2
       rintro e w1 ⟨rfl, n, rfl⟩
       go_wp2_with (fail)
       go_ret
       exact ⟨ret_bool (decide_eq_true (by rw [E0.out, E1.out, E9.out])).symm, below_drewN hb n⟩
     · rw [decide_eq_false e9] at hC2
       have E9 := lH e9; clear e9
       refine hC2.mono ?_
       clear hC2
       rintro e w1 ⟨rfl, n, rfl⟩
       go_wp2_with (fail)
       go_ret
       exact ⟨ret_bool (decide_eq_false (fun e => E9.out (congrArg (·.2.2) e))).symm, below_drewN hb n⟩
   · have h1 : (b1 != b2) = true := by simp [e1]
     have E1 := lH e1; clear e1
     go_enter Tryd.func8, Tryd.ntmps8
     go_wp2_with (fail)
     go_ret
     exact ⟨ret_bool (by have := E1.out; simp [this]), hb⟩
 · have h0 : (a1 != a2) = true := by simp [e0]
   have E0 := lH e0; clear e0
   go_enter Tryd.func8, Tryd.ntmps8
   go_wp2_with (fail)
   go_ret
   exact ⟨ret_bool (by have := E0.out; simp [this]), hb⟩
set_option maxHeartbeats 1000000 in
theorem markSystem_law {v : Value} {s : Sys} {fp : List Nat} {K : Int} {w : World} (k : Nat) (h : OwSys w v s fp) (hK : K = (k : Int)) (ok : OkR s.2.2) (hl : k + cntR s.2.2 ≤ 17592186044416) :
  Calls Tryd.prog 11 #[v, .int .i64 K] w fun e w' => e = .returned (.int .i64 (K + (cntR s.2.2 : Int))) ∧ HeSys w' v s k fp ∧ Keeps (· ∈ fp) w w' := by
 obtain ⟨A, c, hs, rfl, hL, hO, rfl⟩ := h
 subst hK
 have hb : Below w.heap.size w (w.alloc (.cells #[.int .i64 s.1, .int .i64 s.2.1, .slice A hs.length c] 29)) := below_alloc _ _
 have hlen : s.2.2.length = hs.length := by rw [hL, List.length_map]
 have hC := markIntSS_any A c hs.length s.2.2 (fpA A ++ fpR hs) k _ ⟨hs, hL, hO.below hb, fun b hb => hb⟩ hlen (by have := ok.1; omega) hl
 have HC := lH hC; have HL := lH hlen; clear hC hlen hL ok
 go_enter Tryd.func11, Tryd.ntmps11
 go_wp2_with (fail)
 refine HC.out.mono ?_
 rintro e w1 ⟨rfl, hR, hk⟩
 go_wp2_with (fail)
 go_ret
 obtain ⟨gs, hg, hO', hf⟩ := hR
 have hgl : gs.length = hs.length := by
  have := congrArg List.length hg
  rw [marksR_length, List.length_map, List.length_map, HL.out] at this; exact this.symm
 refine ⟨ret_int (by omega), ⟨A, c, gs, by rw [hgl], hg.symm, hO', hf⟩, (Keeps.of_below hb _).trans hk⟩
set_option maxHeartbeats 1000000 in
theorem heldSystem_law {v : Value} {s : Sys} {k : Nat} {fp : List Nat} {K : Int} {w : World} (h : HeSys w v s k fp) (hK : K = (k : Int)) (ok : OkR s.2.2) (hl : k + cntR s.2.2 ≤ 17592186044416) :
  Calls Tryd.prog 12 #[v, .int .i64 K] w fun e w' => e = .returned (.int .i64 (K + (cntR s.2.2 : Int))) ∧ Below w.heap.size w w' := by
 obtain ⟨A, c, hs, rfl, hL, hO, _⟩ := h
 subst hK
 have hb : Below w.heap.size w (w.alloc (.cells #[.int .i64 s.1, .int .i64 s.2.1, .slice A hs.length c] 29)) := below_alloc _ _
 have hlen : s.2.2.length = hs.length := by have := congrArg List.length hL; rw [List.length_map, marksR_length, List.length_map] at this; exact this.symm
 have hC := heldIntSS_any A c hs s.2.2 k _ (hO.rd.below hb) hL (by have := ok.1; omega) hl
 have HC := lH hC
 have hnn : ¬ ((k + cntR s.2.2 : Nat) : Int) < 0 := by omega
 clear hC hlen hL ok
 go_enter Tryd.func12, Tryd.ntmps12
 go_wp2_with (fail)
 refine HC.out.mono ?_
 rintro e w1 ⟨rfl, rfl⟩
 go_wp2_with (fail)
 go_ret
 exact ⟨ret_int (by omega), hb⟩
structure OuR (w0 w : World) (A : Option Addr) (cap : Nat) (hs : List Hd) : Prop where
 sl : Sl w 23 1 A hs.length cap (hs.map Hd.val)
 rows : ∀ h, h ∈ hs → RdI w0 h.1 h.2.2
 new : ∀ b, b ∈ fpA A → w0.heap.size ≤ b
 below_ : Below w0.heap.size w0 w
section
variable {w0 w w' : World} {A : Option Addr} {cap : Nat} {hs : List Hd}
theorem OuR.nil (w : World) : OuR w w none 0 [] := ⟨Sl.nil _ _ _, fun h hh => (by cases hh), fun b hb => by simp at hb, Below.refl _ _⟩
theorem OuR.below (h : OuR w0 w A cap hs) (hb : Below w.heap.size w w') : OuR w0 w' A cap hs := ⟨h.sl.below hb, h.rows, h.new, below_trans h.below_ hb h.below_.size⟩
theorem OuR.snoc {w1 w2 : World} (h : OuR w0 w A cap hs) (hb : Below w.heap.size w w1) {x : Hd} (hx : RdI w0 x.1 x.2.2) {A' : Option Addr} {cap' n : Nat} (hn : n = hs.length + 1) (hs' : Sl w2 23 1 A' n cap' (hs.map Hd.val ++ [x.val])) (hA' : ∀ b, b ∈ fpA A' → b ∈ fpA A ∨ w1.heap.size ≤ b) (hk : Keeps (· ∈ fpA A) w1 w2) : OuR w0 w2 A' cap' (hs ++ [x]) := by
 subst hn
 have hbw := below_trans h.below_ hb h.below_.size
 refine ⟨by simpa using hs', fun y hy => ?_, fun b hb' => ?_, below_keeps hbw hk hbw.size h.new⟩
 · rcases List.mem_append.1 hy with hy | hy
   · exact h.rows y hy
   · obtain rfl := List.mem_singleton.1 hy; exact hx
 · rcases hA' b hb' with h1 | h1
   · exact h.new b h1
   · have := hbw.size; omega
end
theorem rowsB_mat {p n : Int} {L : List (List Int)} {k : Nat} (h : rowsB p n L = true) (hk : n = (k : Int)) : Mat p L.length k L := by
 refine ⟨rfl, fun v hv => ?_⟩
 have := List.all_eq_true.1 h v hv
 simp only [Bool.and_eq_true, decide_eq_true_eq] at this
 refine ⟨by omega, fun x hx => ?_⟩
 have := inB_iff.1 this.2 x hx
 omega
structure SysOk (p : Int) (s : Sys) : Prop where
 fld : fieldB p = true
 vis : 0 ≤ s.1 ∧ s.1 ≤ 24
 hid : 0 ≤ s.2.1 ∧ s.2.1 ≤ 100
 len : s.2.2.length ≤ 160
 mat : Mat p s.2.2.length (s.1 + s.2.1).toNat s.2.2
theorem SysOk.of {p : Int} {s : Sys} (h : sysB p s = true) : SysOk p s := by
 unfold sysB at h
 simp only [Bool.and_eq_true, decide_eq_true_eq] at h
 obtain ⟨h1, h2, h3, h4, h5⟩ := h
 exact ⟨h1, h2, h3, h4, rowsB_mat h5 (by omega)⟩
theorem SysOk.ok {p : Int} {s : Sys} (h : SysOk p s) : s.2.2.length ≤ 1048576 ∧ ∀ x, x ∈ s.2.2 → x.length ≤ 1048576 :=
 ⟨by have := h.len; omega, fun x hx => by have := (h.mat.row x hx).1; have := h.vis; have := h.hid; omega⟩
def redB (p n : Int) (L : List (List Int)) : Bool := decide ((L.length : Int) ≤ n) && (rowsB p n L && decide (redM p n.toNat L = L))
def relB (p : Int) (s : Sys) : Bool := (decide (0 ≤ s.1) && decide (s.1 ≤ 24)) && ((decide (0 ≤ s.2.1) && decide (s.2.1 ≤ 24 - s.1)) && (fieldB p && redB p (s.1 + s.2.1) s.2.2))
structure RelOk (p : Int) (s : Sys) : Prop where
 lo : 0 ≤ s.1
 hi : 0 ≤ s.2.1
 sum : s.1 + s.2.1 ≤ 24
 fld : fieldB p = true
 len : (s.2.2.length : Int) ≤ s.1 + s.2.1
 mat : Mat p s.2.2.length (s.1 + s.2.1).toNat s.2.2
 red : redM p (s.1 + s.2.1).toNat s.2.2 = s.2.2
theorem RelOk.of {p : Int} {s : Sys} (h : relB p s = true) : RelOk p s := by
 unfold relB redB at h
 simp only [Bool.and_eq_true, decide_eq_true_eq] at h
 obtain ⟨⟨h1, h2⟩, ⟨h3, h4⟩, h5, h6, h7, h8⟩ := h
 exact ⟨h1, h3, by omega, h5, h6, rowsB_mat h7 (by omega), h8⟩
theorem RelOk.row {p : Int} {s : Sys} (h : RelOk p s) {v : List Int} (hv : v ∈ s.2.2) : (v.length : Int) = s.1 + s.2.1 ∧ Res p v := by
 have := h.mat.row v hv
 have h1 := h.lo
 have h2 := h.hi
 exact ⟨by omega, this.2⟩
theorem Mat.map {p : Int} {m n k : Nat} {L : List (List Int)} {f : List Int → List Int} (h : Mat p m n L) (hf : ∀ v, v.length = n → Res p v → (f v).length = k ∧ Res p (f v)) : Mat p m k (L.map f) := by
 refine ⟨by rw [List.length_map]; exact h.len, fun v hv => ?_⟩
 obtain ⟨u, hu, rfl⟩ := List.mem_map.1 hv
 exact hf u (h.row u hu).1 (h.row u hu).2
def firstM (s : Sys) : List (List Int) := s.2.2.map fun v => v.take s.1.toNat
def secondM (s : Sys) : List (List Int) := s.2.2.map fun v => v.drop s.1.toNat
theorem box4 {w : World} {B : Nat} {x y z u : Value} {t : TypeId} (h : w.heap[B]? = some (.cells #[x, y, z, u] t)) :
  (w.cell? ⟨B, 0, none⟩ = some x ∧ w.cell? ⟨B, 1, none⟩ = some y ∧ w.cell? ⟨B, 2, none⟩ = some z ∧ w.cell? ⟨B, 3, none⟩ = some u) ∧ (w.frozen? ⟨B, 0, none⟩ = false ∧ w.frozen? ⟨B, 1, none⟩ = false ∧ w.frozen? ⟨B, 2, none⟩ = false ∧ w.frozen? ⟨B, 3, none⟩ = false) := by
 refine ⟨⟨?_, ?_, ?_, ?_⟩, ?_, ?_, ?_, ?_⟩ <;> simp [World.cell?, World.frozen?, h]
structure Cap (w : World) (p : Int) (P4 P5 P7 : Nat) (A : Option Addr) (cap : Nat) (L : List (List Int)) (fp : List Nat) (A' : Option Addr) (cap' : Nat) (K : List (List Int)) (fp' : List Nat) (m : Nat) : Prop where
 c4 : w.cell? ⟨P4, 0, none⟩ = some (.int .i64 p)
 c5 : w.cell? ⟨P5, 0, none⟩ = some (.slice A m cap)
 c7 : w.cell? ⟨P7, 0, none⟩ = some (.slice A' m cap')
 rows : RwF w A cap L fp
 also : RwF w A' cap' K fp'
 ap : ∀ b, b ∈ fp → ¬ b ∈ fp'
 n4 : ¬ P4 ∈ fp ∧ ¬ P4 ∈ fp'
 n5 : ¬ P5 ∈ fp ∧ ¬ P5 ∈ fp'
 n7 : ¬ P7 ∈ fp ∧ ¬ P7 ∈ fp'
section
variable {w w' : World} {p : Int} {P4 P5 P7 : Nat} {A : Option Addr} {cap : Nat} {L L' : List (List Int)} {fp : List Nat} {A' : Option Addr} {cap' : Nat} {K K' : List (List Int)} {fp' : List Nat} {m : Nat}
theorem Cap.below (h : Cap w p P4 P5 P7 A cap L fp A' cap' K fp' m) (hb : Below w.heap.size w w') : Cap w' p P4 P5 P7 A cap L fp A' cap' K fp' m :=
 ⟨(hb.cell (World.block_lt_of_cell? _ _ h.c4)).trans h.c4, (hb.cell (World.block_lt_of_cell? _ _ h.c5)).trans h.c5, (hb.cell (World.block_lt_of_cell? _ _ h.c7)).trans h.c7, h.rows.below hb, h.also.below hb, h.ap, h.n4, h.n5, h.n7⟩
theorem Cap.first (h : Cap w p P4 P5 P7 A cap L fp A' cap' K fp' m) (hR : RwF w' A cap L' fp) (hk : Keeps (· ∈ fp) w w') : Cap w' p P4 P5 P7 A cap L' fp A' cap' K fp' m :=
 ⟨keeps_cell hk h.c4 h.n4.1, keeps_cell hk h.c5 h.n5.1, keeps_cell hk h.c7 h.n7.1, hR, h.also.keeps hk fun b hb hb' => h.ap b hb' hb, h.ap, h.n4, h.n5, h.n7⟩
theorem Cap.second (h : Cap w p P4 P5 P7 A cap L fp A' cap' K fp' m) (hR : RwF w' A' cap' K' fp') (hk : Keeps (· ∈ fp') w w') : Cap w' p P4 P5 P7 A cap L fp A' cap' K' fp' m :=
 ⟨keeps_cell hk h.c4 h.n4.2, keeps_cell hk h.c5 h.n5.2, keeps_cell hk h.c7 h.n7.2, h.rows.keeps hk fun b hb hb' => h.ap b hb hb', hR, h.ap, h.n4, h.n5, h.n7⟩
end
def rangeI (n : Nat) : List Int := (List.range n).map fun i => ((i : Nat) : Int)
@[simp] theorem rangeI_length (n : Nat) : (rangeI n).length = n := by simp [rangeI]
structure OI (w0 w : World) (A : Option Addr) (cap : Nat) (l : List Int) : Prop where
 is : IS w A cap l
 new : Fresh w0.heap.size A
 below_ : Below w0.heap.size w0 w
theorem OI.snoc {w0 w w2 : World} {A : Option Addr} {cap : Nat} {l : List Int} (h : OI w0 w A cap l) {o : Obj} {x : Int} {A' : Option Addr} {cap' n : Nat} (hn : n = l.length + 1) (hs' : Sl w2 tInt 1 A' n cap' (ints l ++ [.int .i64 x])) (hA' : ∀ b, b ∈ fpA A' → b ∈ fpA A ∨ (w.alloc o).heap.size ≤ b) (hk : Keeps (· ∈ fpA A) (w.alloc o) w2) : OI w0 w2 A' cap' (l ++ [x]) := by
 subst hn
 have hb := below_trans h.below_ ((Below.refl w.heap.size w).alloc (Nat.le_refl _) o) h.below_.size
 refine ⟨?_, fun b hb' => ?_, below_keeps hb hk hb.size h.new⟩
 · unfold IS
   have : ints (l ++ [x]) = ints l ++ [.int .i64 x] := by simp [ints]
   rw [this, List.length_append]; exact hs'
 · rcases hA' b hb' with h1 | h1
   · exact h.new b h1
   · have := hb.size; omega
set_option maxHeartbeats 400000 in
theorem unit_any (n i : Nat) (w : World) (hn : n ≤ 1048576) (hi : i < n) :
  Calls Tryd.prog 38 #[.int .i64 n, .int .i64 i] w (RetI w (unitV n i)) := by
 have hC := zeros_any n w (by omega)
 have he : (List.replicate n (0 : Int)).set i 1 = unitV n i := by
  apply List.ext_getElem?
  intro k
  by_cases hk : k < n
  · unfold unitV
    rw [List.getElem?_set, List.getElem?_map, List.getElem?_range hk]
    by_cases h : i = k
    · subst h; simp [hk]
    · simp [h, hk]; intro e; exact absurd e.symm h
  · unfold unitV
    rw [List.getElem?_eq_none (by simpa using hk), List.getElem?_eq_none (by simpa using hk)]
 have HC := lH hC; have HE := lH he
 have hul := lH (show (unitV n i).length = n by simp [unitV])
 have hiI : (i : Int) < (n : Int) := by omega
 clear hC he
 go_enter Tryd.func38, Tryd.ntmps38
 go_wp2_with (fail)
 refine HC.out.mono ?_
 rintro e w1 ⟨A, c, rfl, his, hf, hb1⟩
 rw [List.length_replicate]
 obtain ⟨ad, y, hA, hy, _, hc', hf'⟩ := his.at_ (j := i) (by simpa using hi)
 subst hA
 have hfz := hf' i
 have his' := his.set (ad := ad) rfl (j := i) 1 (by simpa using hi)
 rw [HE.out] at his'
 have HI := lH his'
 have hb' := lH (hb1.setCell (p := ad.add i) (by rw [block_of_add]; exact hf _ (by simp)) (.int .i64 1))
 clear his' hf' his hy hb1
 go_wp2_with (fail)
 go_ret
 exact ⟨some ad, c, by rw [hul.out]; rfl, HI.out, hf, hb'.out⟩
theorem OM.put {w0 w w1 : World} {A : Option Addr} {cap : Nat} {L : List (List Int)} (h : OM w0 w A cap L) {i : Nat} (hi : i < L.length) {ad : Addr} (hA : A = some ad) (hb : Below w.heap.size w w1) {B : Option Addr} {c : Nat} {l : List Int} (hx : IS w1 B c l) (hf1 : Fresh w.heap.size B) :
  OM w0 (w1.setCell (ad.add i) (.slice B l.length c)) A cap (L.set i l) := by
 subst hA
 obtain ⟨hs, rfl, hO, hf, h0⟩ := h
 have hi' : i < hs.length := by simpa using hi
 have hAl : ∀ b, b ∈ fpA (some ad) → b < w.heap.size := fun b hb' => hO.sl.lt b hb'
 have hRl : ∀ y, y ∈ hs → (∀ b, b ∈ fpA y.1 → b < w.heap.size) := fun y hy b hb' => (hO.rows y hy).lt b hb'
 have hk : Keeps (· ∈ fpA (some ad)) w1 (w1.setCell (ad.add i) (.slice B l.length c)) := (Keeps.refl _ w1).setCell (p := ad.add i) (by rw [block_of_add]; simp) _
 have hget : ∀ (k : Nat) (x : Hd), (hs.set i (B, c, l))[k]? = some x → (k = i ∧ x = (B, c, l)) ∨ (k ≠ i ∧ hs[k]? = some x) := by
  intro k x hx
  rw [List.getElem?_set] at hx
  split at hx
  · rename_i hk; subst hk
    simp at hx
    exact .inl ⟨rfl, hx.symm⟩
  · rename_i hk; exact .inr ⟨fun e => hk e.symm, hx⟩
 have hsz := h0.size
 have hbs := hb.size
 refine ⟨hs.set i (B, c, l), by rw [List.map_set], ⟨?_, fun x hx' => ?_, ?_, fun x hx' b hb1 hb2 => ?_⟩, fun b hb' => ?_, ?_⟩
 · have := (hO.sl.below hb).set (ad := ad) rfl i (Hd.val (B, c, l)) (by simpa using hi')
   rw [← List.map_set] at this
   rw [List.length_set]; exact this
 · rcases List.mem_or_eq_of_mem_set hx' with hx' | hx'
   · exact ((hO.rows x hx').below hb).keeps hk fun b hb' => hO.outer x hx' b hb'
   · subst hx'
     exact hx.keeps hk fun b hb' hb'' => by
      have := hf1 b hb'
      have := hAl b hb''
      omega
 · refine List.pairwise_iff_getElem.2 fun a b ha hb' hab c' h1 h2 => ?_
   rcases hget a _ (List.getElem?_eq_getElem ha) with ⟨ea, e1⟩ | ⟨ea, e1⟩ <;> rcases hget b _ (List.getElem?_eq_getElem hb') with ⟨eb, e2⟩ | ⟨eb, e2⟩
   · omega
   · rw [e1] at h1
     have := hf1 c' h1
     have := hRl _ (List.mem_of_getElem? e2) c' h2
     omega
   · rw [e2] at h2
     have := hf1 c' h2
     have := hRl _ (List.mem_of_getElem? e1) c' h1
     omega
   · exact hO.apart_get e1 e2 (by omega) c' h1 h2
 · rcases List.mem_or_eq_of_mem_set hx' with hx' | hx'
   · exact hO.outer x hx' b hb1 hb2
   · subst hx'
     have := hf1 b hb1
     have := hAl b hb2
     omega
 · rcases List.mem_append.1 hb' with hb' | hb'
   · exact hf b (List.mem_append_left _ hb')
   · obtain ⟨y, hy, hb'⟩ := mem_fpR.1 hb'
     rcases List.mem_or_eq_of_mem_set hy with hy | hy
     · exact hf b (List.mem_append_right _ (mem_fpR.2 ⟨_, hy, hb'⟩))
     · subst hy
       have := hf1 b hb'
       omega
 · exact below_keeps (below_trans h0 hb hsz) hk (by omega) fun b hb' => hf b (List.mem_append_left _ hb')
theorem Mat.drop {p : Int} {m n r : Nat} {L : List (List Int)} (h : Mat p m n L) : Mat p (m - r) n (L.drop r) :=
 ⟨by rw [List.length_drop, h.len], fun v hv => h.row v (List.mem_of_mem_drop hv)⟩
set_option maxHeartbeats 400000 in
theorem size_any (a b : Int) (r : Value) (w : World) (ha : 0 ≤ a ∧ a ≤ 24) (hb : 0 ≤ b ∧ b ≤ 100) :
  Calls Tryd.prog 39 #[.agg #[.int .i64 a, .int .i64 b, r]] w fun e w' => e = .returned (.int .i64 (a + b)) ∧ w' = w.alloc (.cells #[.int .i64 a, .int .i64 b, r] 29) := by
 have ww : IntKind.i64.wrap (a + b) = a + b := IntWalk.i64_in _ (by omega)
 go_enter Tryd.func39, Tryd.ntmps39
 go_wp2_with (fail)
 go_ret
 exact ⟨rfl, rfl⟩
theorem results_cell_tmp {P : Program} {fn : Func} {p u : Tmp} {ty : TypeId} (h : fn.results = #[.cell p ty, .tmp u]) (tmps : Array Value) (w : World) (g : Nat) (t : TypeId) (cs : Array Value) (fr : Nat × Nat) (d : TypeDesc)
  (hp : tmps.getD p undef = .pointer (some ⟨g, 0, none⟩)) (hg : w.heap[g]? = some (.cells cs t fr))
  (hu : P.underlying ty = some d) (hd : (match d with | .struct _ | .array _ _ => true | _ => false) = true) (hi : (P.info? ty).map (·.size) = some cs.size) :
  (results fn tmps).run P w = .ok (.tuple #[.agg cs, tmps.getD u undef]) w := by
 have hp' : tmps[p]?.getD undef = .pointer (some ⟨g, 0, none⟩) := by simpa using hp
 simp [results, h, hp', asAddr, run_loadVar_row w g t ty cs fr d hg hu hd hi]
section
variable {w : World} {B : Nat} {t : TypeId} {x y z a b c : Value}
theorem set3 (h : w.heap[B]? = some (.cells #[x, y, z] t)) : (((w.setCell ⟨B, 0, none⟩ a).setCell ⟨B, 1, none⟩ b).setCell ⟨B, 2, none⟩ c).heap[B]? = some (.cells #[a, b, c] t) ∧ Keeps (· = B) w (((w.setCell ⟨B, 0, none⟩ a).setCell ⟨B, 1, none⟩ b).setCell ⟨B, 2, none⟩ c) := by
 refine ⟨by simp [World.setCell, Array.getElem?_modify, h], ?_⟩
 exact ((((Keeps.refl (fun x => x = B) w).setCell (p := ⟨B, 0, none⟩) rfl _).setCell (p := ⟨B, 1, none⟩) rfl _).setCell (p := ⟨B, 2, none⟩) rfl _)
end
theorem OwSys.zero (w : World) (a b : Int) : OwSys w (.agg #[.int .i64 a, .int .i64 b, .slice none 0 0]) (a, b, []) [] := ⟨none, 0, [], rfl, rfl, OwR.nil w, by simp [fpR]⟩
theorem OwMt.zero (w : World) (a : Int) : OwMt w (.agg #[.int .i64 a, .slice none 0 0]) (a, []) [] := ⟨none, 0, [], rfl, rfl, OwR.nil w, by simp [fpR]⟩
theorem FreshL.nil (B : Nat) : FreshL B [] := fun b hb => (by cases hb)
theorem okR_nil : OkR [] := ⟨by simp, fun x hx => (by cases hx), by simp [cntR]⟩
theorem OwSys.of_ret {w0 w : World} {L : List (List Int)} {A : Option Addr} {c : Nat} {a b : Int} (h : OM w0 w A c L) {w' : World} {S : Nat → Prop} (hk : Keeps S w w') (hS : ∀ k, S k → k < w0.heap.size) {n : Nat} (hn : L.length = n) : ∃ fp, OwSys w' (.agg #[.int .i64 a, .int .i64 b, .slice A n c]) (a, b, L) fp ∧ FreshL w0.heap.size fp := by
 subst hn
 obtain ⟨fp, h1, h2⟩ := OwSys.of_om (a := a) (b := b) h
 exact ⟨fp, h1.keeps hk fun k hk' hs => by have := h2 k hk'; have := hS k hs; omega, h2⟩
theorem cntR_le {L : List (List Int)} {k : Nat} (h : ∀ x, x ∈ L → x.length ≤ k) : cntR L ≤ L.length * k := by
 induction L with
 | nil => simp [cntR]
 | cons a L ih =>
   have h1 := ih fun x hx => h x (List.mem_cons_of_mem _ hx)
   have h2 := h a (List.mem_cons_self ..)
   rw [cntR, List.length_cons, Nat.succ_mul]; omega
def fromI (a : Int) (n : Nat) : List Int := (List.range n).map fun i => ((i : Nat) : Int) + a
@[simp] theorem fromI_length (a : Int) (n : Nat) : (fromI a n).length = n := by simp [fromI]
theorem OI.join {w0 w w2 : World} {A : Option Addr} {cap : Nat} {l v : List Int} (h : OI w0 w A cap l) {A' : Option Addr} {cap' n : Nat} (hn : n = l.length + v.length) (hs' : Sl w2 tInt 1 A' n cap' (ints l ++ ints v)) (hA' : ∀ b, b ∈ fpA A' → b ∈ fpA A ∨ w.heap.size ≤ b) (hk : Keeps (· ∈ fpA A) w w2) : OI w0 w2 A' cap' (l ++ v) := by
 subst hn
 refine ⟨?_, fun b hb' => ?_, below_keeps h.below_ hk h.below_.size h.new⟩
 · unfold IS
   have : ints (l ++ v) = ints l ++ ints v := by simp [ints]
   rw [this, List.length_append]; exact hs'
 · rcases hA' b hb' with h1 | h1
   · exact h.new b h1
   · have := h.below_.size; omega
theorem flat_take_le {L : List (List Int)} {k : Nat} {N : Nat} (h : L.flatten.length ≤ N) : (L.take k).flatten.length ≤ N := by
 have e : L.flatten.length = (L.take k).flatten.length + (L.drop k).flatten.length := by
  have := congrArg (fun x => x.flatten.length) (List.take_append_drop k L)
  simp only [List.flatten_append, List.length_append] at this; omega
 omega
set_option maxHeartbeats 1000000 in
theorem joined_any (A : Option Addr) (c : Nat) (hs : List Hd) (w : World) (h : RdR w A hs) (hl : hs.length ≤ 1048576) (hN : (hs.map fun h : Hd => h.2.2).flatten.length ≤ 1048576) :
  Calls Tryd.prog 37 #[.slice A hs.length c] w (RetI w (hs.map fun h : Hd => h.2.2).flatten) := by
 obtain ⟨L, hLh⟩ : ∃ L, L = hs.map fun h : Hd => h.2.2 := ⟨_, rfl⟩
 rw [← hLh] at hN ⊢
 obtain ⟨m, hmm⟩ : ∃ m, m = hs.length := ⟨_, rfl⟩
 rw [← hmm] at hl ⊢
 have HLh := lH hLh; have HM := lH hmm
 have hLen := lH (show L.length = m by rw [hLh, List.length_map, hmm])
 clear hLh hmm
 have hO0 : OI w (w.alloc (.cells #[] 3)) (some ⟨w.heap.size, 0, none⟩) 0 [] := by
  refine ⟨by unfold IS; simpa [ints] using Sl.laid w 3 1 0 #[] (Nat.zero_le _) rfl, fun b hb => ?_, (Below.refl _ _).alloc (Nat.le_refl _) _⟩
  have : b = w.heap.size := by simpa using hb
  subst this; exact Nat.le_refl _
 go_enter Tryd.func37, Tryd.ntmps37
 go_wp2_with (fail)
 go_loopw [9, 3] (fun i v wr => ∃ (k : Nat) (A' : Option Addr) (c' n : Nat), k ≤ m ∧ i = .int .i64 k ∧ v = .slice A' n c' ∧ n = ((L.take k).flatten).length ∧ OI w wr A' c' (L.take k).flatten) (fun i _ _ => m - (intOf i).toNat)
 case atStart => exact ⟨0, _, 0, 0, Nat.zero_le _, rfl, rfl, rfl, by simpa using hO0⟩
 case round =>
  clear hO0
  obtain ⟨k, A', c', n, hk, rfl, rfl, hn, hO⟩ := hrel
  by_cases hlt : k < m
  · obtain ⟨ad, C, d, l, rfl, hx, hc, hri⟩ := (h.below hO.below_).at_ (k := k) (by rw [← HM.out]; exact hlt)
    have hlx : L[k]? = some l := by rw [HLh.out, List.getElem?_map, hx]; rfl
    have hnx : (L.take (k + 1)).flatten = (L.take k).flatten ++ l := by rw [List.take_add_one, hlx]; simp
    have hb1 := flat_take_le (k := k + 1) hN
    rw [hnx, List.length_append] at hb1
    have hsl : Sl wr 3 1 A' n c' (ints (L.take k).flatten) := by rw [hn]; exact hO.is
    obtain ⟨q, hq⟩ : ∃ q, q = l.length := ⟨_, rfl⟩
    rw [← hq] at hc hb1
    rw [← hn] at hb1
    have hil : (ints l).length = q * 1 := by rw [ints_length, hq, Nat.mul_one]
    have HNX := lH hnx; have HQ := lH hq; have HN := lH hn; have HIL := lH hil
    have hkI : (k : Int) < (m : Int) := by omega
    clear hx hlx hnx hq hn hil h
    go_wp2_with (at_builtin; refine wpList_append_Sl _ rfl _ _ _ rfl 3 Tryd.underlying23 info_int rfl (by omega) rfl hsl rfl HIL.out hri.rdc (ints_one l) (by unfold maxLen; omega) (by omega) ?_; intro A3 c3 w3 hs3 hA3 hk3)
    have hO2 := lH (hO.join (v := l) (by rw [← HN.out, ← HQ.out]) hs3 hA3 hk3)
    clear hs3 hO hsl
    go_roundw
    case rel => exact ⟨k + 1, A3, c3, n + q, by omega, by go_num, rfl, by rw [HNX.out, List.length_append, HN.out, HQ.out], by rw [HNX.out]; exact hO2.out⟩
    case measure => simp [intOf]; omega
  · obtain rfl : m = k := by omega
    have hO2 : OI w wr A' c' L.flatten := by have := hO; rwa [List.take_of_length_le (by rw [hLen.out]; omega)] at this
    have hn2 : n = L.flatten.length := by rw [hn, List.take_of_length_le (by rw [hLen.out]; omega)]
    have HN2 := lH hn2; clear hO h hn hn2
    go_wp2_with (fail)
    go_ret
    exact ⟨A', c', by rw [← HN2.out]; rfl, hO2.is, hO2.new, hO2.below_⟩
def placeTo (n : Nat) (at_ : List Nat) (v : List Int) : Nat → List Int
 | 0 => List.replicate n 0
 | i + 1 => (placeTo n at_ v i).set (at_.getD i 0) (v.getD i 0)
@[simp] theorem placeTo_length (n : Nat) (at_ : List Nat) (v : List Int) : ∀ i, (placeTo n at_ v i).length = n
  | 0 => by simp [placeTo]
  | i + 1 => by rw [placeTo, List.length_set]; exact placeTo_length n at_ v i
structure RdO (w0 w : World) (A : Option Addr) (cap : Nat) (hs : List Hd) : Prop where
 sl : Sl w 23 1 A hs.length cap (hs.map Hd.val)
 rows : ∀ h, h ∈ hs → IS w h.1 h.2.1 h.2.2
 outer : ∀ h, h ∈ hs → ∀ b, b ∈ fpA h.1 → ¬ b ∈ fpA A
 new : ∀ b, b ∈ fpA A → w0.heap.size ≤ b
 below_ : Below w0.heap.size w0 w
section
variable {w0 w w' : World} {A : Option Addr} {cap : Nat} {hs : List Hd}
theorem RdO.below (h : RdO w0 w A cap hs) (hb : Below w.heap.size w w') : RdO w0 w' A cap hs := ⟨h.sl.below hb, fun x hx => (h.rows x hx).below hb, h.outer, h.new, below_trans h.below_ hb h.below_.size⟩
theorem RdO.snoc {w1 w2 : World} (h : RdO w0 w A cap hs) (hb : Below w.heap.size w w1) {x : Hd} (hx : IS w1 x.1 x.2.1 x.2.2) (hxo : ∀ b, b ∈ fpA x.1 → ¬ b ∈ fpA A) {A' : Option Addr} {cap' n : Nat} (hn : n = hs.length + 1) (hs' : Sl w2 23 1 A' n cap' (hs.map Hd.val ++ [x.val])) (hA' : ∀ b, b ∈ fpA A' → b ∈ fpA A ∨ w1.heap.size ≤ b) (hk : Keeps (· ∈ fpA A) w1 w2) : RdO w0 w2 A' cap' (hs ++ [x]) := by
 subst hn
 have hbw := below_trans h.below_ hb h.below_.size
 refine ⟨by simpa using hs', fun y hy => ?_, fun y hy b hb1 hb2 => ?_, fun b hb' => ?_, below_keeps hbw hk hbw.size h.new⟩
 · rcases List.mem_append.1 hy with hy | hy
   · exact ((h.rows y hy).below hb).keeps hk (h.outer y hy)
   · obtain rfl := List.mem_singleton.1 hy; exact hx.keeps hk hxo
 · rcases List.mem_append.1 hy with hy | hy
   · rcases hA' b hb2 with h1 | h1
     · exact h.outer y hy b hb1 h1
     · have := (h.rows y hy).lt b hb1; have := hb.size; omega
   · obtain rfl := List.mem_singleton.1 hy
     rcases hA' b hb2 with h1 | h1
     · exact hxo b hb1 h1
     · have := hx.lt b hb1; omega
 · rcases hA' b hb' with h1 | h1
   · exact h.new b h1
   · have := hbw.size; omega
theorem RdO.start (w W : World) (hb : Below w.heap.size w W) : RdO w (W.alloc (.cells #[] 23)) (some ⟨W.heap.size, 0, none⟩) 0 [] := by
 refine ⟨by simpa using Sl.laid W 23 1 0 #[] (Nat.zero_le _) rfl, fun x hx => (by cases hx), fun x hx => (by cases hx), fun b hb' => ?_, below_trans hb (below_alloc _ _) hb.size⟩
 simp at hb'; subst hb'; exact hb.size
end
theorem OwMt.of_ret {w0 w : World} {L : List (List Int)} {A : Option Addr} {c : Nat} {a : Int} (h : OM w0 w A c L) {w' : World} {S : Nat → Prop} (hk : Keeps S w w') (hS : ∀ k, S k → k < w0.heap.size) {n : Nat} (hn : L.length = n) : ∃ fp, OwMt w' (.agg #[.int .i64 a, .slice A n c]) (a, L) fp ∧ FreshL w0.heap.size fp := by
 subst hn
 obtain ⟨fp, h1, h2⟩ := OwMt.of_om (a := a) h
 exact ⟨fp, h1.keeps hk fun k hk' hs => by have := h2 k hk'; have := hS k hs; omega, h2⟩
theorem alloc2 (w : World) (o o' : Obj) : ∃ W, W = (w.alloc o).alloc o' ∧ Below w.heap.size w W ∧ W.heap[w.heap.size]? = some o ∧ W.heap[w.heap.size + 1]? = some o' := by
 refine ⟨_, rfl, ((Below.refl _ _).alloc (Nat.le_refl _) _).alloc (by simp) _, box_below (heap_alloc_new w _) (below_alloc _ _), ?_⟩
 have := heap_alloc_new (w.alloc o) o'
 rwa [World.size_alloc] at this
theorem RdO.nil (w W : World) (hb : Below w.heap.size w W) : RdO w W none 0 [] := ⟨Sl.nil _ _ _, fun x hx => (by cases hx), fun x hx => (by cases hx), fun b hb' => (by simp at hb'), hb⟩
def negTo (p : Int) (a : Nat) (u : List Int) (k : Nat) : List Int := u.mapIdx fun j x => if a ≤ j ∧ j < k then -x % p else x
def negV (p : Int) (a : Nat) (u : List Int) : List Int := negTo p a u u.length
@[simp] theorem negTo_length (p : Int) (a : Nat) (u : List Int) (k : Nat) : (negTo p a u k).length = u.length := by simp [negTo]
@[simp] theorem negV_length (p : Int) (a : Nat) (u : List Int) : (negV p a u).length = u.length := negTo_length _ _ _ _
def layTo (n : Nat) (f : Nat → Nat) (v : List Int) : Nat → List Int
 | 0 => List.replicate n 0
 | k + 1 => (layTo n f v k).set (f k) (v.getD k 0)
@[simp] theorem layTo_length (n : Nat) (f : Nat → Nat) (v : List Int) : ∀ k, (layTo n f v k).length = n
  | 0 => by simp [layTo]
  | k + 1 => by rw [layTo, List.length_set]; exact layTo_length n f v k
def tA (a1 b1 j : Nat) : Nat := if j < a1 then j else b1 + j
def tB (a1 a2 b1 j : Nat) : Nat := if j < b1 then a1 + j else a1 + a2 + j
def pA (a1 a2 b1 b2 : Nat) (u : List Int) : List Int := layTo (a1 + a2 + b1 + b2) (tA a1 b1) u (a1 + a2)
def pB (a1 a2 b1 b2 : Nat) (u : List Int) : List Int := layTo (a1 + a2 + b1 + b2) (tB a1 a2 b1) u (b1 + b2)
def tenRows (s t : Sys) : List (List Int) := s.2.2.map (pA s.1.toNat s.2.1.toNat t.1.toNat t.2.1.toNat) ++ t.2.2.map (pB s.1.toNat s.2.1.toNat t.1.toNat t.2.1.toNat)
def tenV (p : Int) (s t : Sys) : Sys := (s.1 + t.1, s.2.1 + t.2.1, redM p (s.1.toNat + s.2.1.toNat + t.1.toNat + t.2.1.toNat) (tenRows s t))
end Go.Proofs.YtpkmjenoniedjaaDoor
namespace Go.Proofs.YtpkmjenoniedjaaDoor
def cmbTo (p : Int) (n : Nat) (x : List Int) (L : List (List Int)) : Nat → List Int
 | 0 => List.replicate n 0
 | k + 1 => addT p (cmbTo p n x L k) (x.getD k 0) (L.getD k [])
@[simp] theorem cmbTo_length (p : Int) (n : Nat) (x : List Int) (L : List (List Int)) : ∀ k, (cmbTo p n x L k).length = n
  | 0 => by simp [cmbTo]
  | k + 1 => by simp [cmbTo, cmbTo_length p n x L k]
def ngV (p : Int) (v : List Int) : List Int := v.map fun a => (-a) % p
@[simp] theorem ngV_length (p : Int) (v : List Int) : (ngV p v).length = v.length := by simp [ngV]
def midR (p : Int) (s t : Sys) : List (List Int) := secondM s ++ (firstM t).map (ngV p)
def pairV (p : Int) (s t : Sys) (k : List Int) : List Int := cmbTo p s.1.toNat (k.take s.2.2.length) (firstM s) s.2.2.length ++ cmbTo p t.2.1.toNat (k.drop s.2.2.length) (secondM t) t.2.2.length
def pairsM (p : Int) (s t : Sys) : List (List Int) := (kerM p s.2.1.toNat (midR p s t)).map (pairV p s t)
def cmpV (p : Int) (s t : Sys) : Sys := (s.1, t.2.1, redM p (s.1 + t.2.1).toNat (pairsM p s t))
open Go.RowKit
def leafEq (p k v : Int) : List (List Int) :=
 if k = 3 then [[p - 1, 1, 0], [p - 1, 0, 1]] else if k = 5 then [[p - 1, p - 1, 1]] else if k = 6 then [[1]] else if k = 7 then [[(-v) % p, 1]]
 else if k = 9 then [[1, 0, p - 1], [0, 1, p - 1]] else if k = 11 then [[1, p - 1, p - 1]] else if k = 12 then [[1]] else if k = 13 then [[1, (-v) % p]] else []
def kdN (k : Int) : Nat := (kindTy k).1.toNat + (kindTy k).2.toNat
def idRows (n : Nat) : List (List Int) := (List.range n).map fun i => unitV n i ++ unitV n i
def swapRows : List (List Int) := [[1, 0, 0, 1], [0, 1, 1, 0]]
def leafV (p : Int) (n : Nd) : Sys :=
 if n.1 = 1 then (n.2.1, n.2.1, idRows n.2.1.toNat) else if n.1 = 2 then (2, 2, redM p 4 swapRows)
 else ((kindTy n.1).1, (kindTy n.1).2, nullM p (kdN n.1) (leafEq p n.1 n.2.1))
def den (p : Int) : Tr → Sys
 | .leaf n => leafV p n
 | .node q a b => if q then tenV p (den p a) (den p b) else cmpV p (den p a) (den p b)
@[simp] theorem unitV_length (n i : Nat) : (unitV n i).length = n := by simp [unitV]
def okLf (p : Int) (n : Nd) : Prop := leafB n = true ∧ n.1 ≠ 8 ∧ n.1 ≠ 14 ∧ ((n.1 = 7 ∨ n.1 = 13) → n.2.1 < p)
theorem okLf.val {p : Int} {n : Nd} (hp : 2 ≤ p) (h : okLf p n) (h1 : n.1 ≠ 1) : 0 ≤ n.2.1 ∧ n.2.1 < p := by
 obtain ⟨hl, _, _, h4⟩ := h
 unfold leafB at hl
 simp only [decide_eq_true_eq] at hl
 omega
abbrev tEd : TypeId := 56
abbrev tGr : TypeId := 34
abbrev Eg := Int × Int × List Int × List Int
abbrev EHd := Int × Int × Hd × Hd
abbrev Gr := Int × List Eg × List Int × List Int
instance decEg : DecidableEq Eg := inferInstance
instance decEgs : DecidableEq (List Eg) := inferInstance
instance decGr : DecidableEq Gr := inferInstance
def egOf (h : EHd) : Eg := (h.1, h.2.1, h.2.2.1.2.2, h.2.2.2.2.2)
def ec (h : EHd) : List Value := [.int .i64 h.1, .int .i64 h.2.1, Hd.val h.2.2.1, Hd.val h.2.2.2]
def ecs : List EHd → List Value
 | [] => []
 | h :: r => ec h ++ ecs r
theorem ecs_append (l m : List EHd) : ecs (l ++ m) = ecs l ++ ecs m := by
 induction l with
 | nil => rfl
 | cons n r ih => simp [ecs, ih]
@[simp] theorem ecs_length (l : List EHd) : (ecs l).length = l.length * 4 := by
  induction l with
  | nil => rfl
  | cons n r ih => simp only [ecs, ec, List.length_append, List.length_cons, List.length_nil, ih]; omega
theorem ecs_get {l : List EHd} {j : Nat} {n : EHd} (h : l[j]? = some n) : (ecs l)[j * 4]? = some (.int .i64 n.1) ∧ (ecs l)[j * 4 + 1]? = some (.int .i64 n.2.1) ∧ (ecs l)[j * 4 + 2]? = some (Hd.val n.2.2.1) ∧ (ecs l)[j * 4 + 3]? = some (Hd.val n.2.2.2) := by
 induction l generalizing j with
 | nil => simp at h
 | cons a r ih =>
   cases j with
   | zero =>
     obtain rfl : a = n := by simpa using h
     simp [ecs, ec]
   | succ j =>
     have := ih (j := j) (by simpa using h)
     have hl : (ec a).length = 4 := rfl
     simp only [ecs]
     rw [List.getElem?_append_right (by omega), List.getElem?_append_right (by omega), List.getElem?_append_right (by omega), List.getElem?_append_right (by omega), hl]
     rw [show (j + 1) * 4 - 4 = j * 4 by omega, show (j + 1) * 4 + 1 - 4 = j * 4 + 1 by omega, show (j + 1) * 4 + 2 - 4 = j * 4 + 2 by omega, show (j + 1) * 4 + 3 - 4 = j * 4 + 3 by omega]
     exact this
theorem ecs_set {l : List EHd} {j : Nat} (n : EHd) (h : j < l.length) : ((((ecs l).set (j * 4) (.int .i64 n.1)).set (j * 4 + 1) (.int .i64 n.2.1)).set (j * 4 + 2) (Hd.val n.2.2.1)).set (j * 4 + 3) (Hd.val n.2.2.2) = ecs (l.set j n) := by
 induction l generalizing j with
 | nil => simp at h
 | cons a r ih =>
   cases j with
   | zero => simp [ecs, ec]
   | succ j =>
     have := ih (j := j) (by simpa using h)
     have hl : (ec a).length = 4 := rfl
     simp only [ecs, List.set_cons_succ]
     rw [List.set_append_right _ _ (by omega), List.set_append_right _ _ (by omega), List.set_append_right _ _ (by omega), List.set_append_right _ _ (by omega), hl]
     rw [show (j + 1) * 4 - 4 = j * 4 by omega, show (j + 1) * 4 + 1 - 4 = j * 4 + 1 by omega, show (j + 1) * 4 + 2 - 4 = j * 4 + 2 by omega, show (j + 1) * 4 + 3 - 4 = j * 4 + 3 by omega]
     rw [this]
def eh : List EHd → List Hd
 | [] => []
 | h :: r => h.2.2.1 :: h.2.2.2 :: eh r
theorem eh_append (l m : List EHd) : eh (l ++ m) = eh l ++ eh m := by
 induction l with
 | nil => rfl
 | cons n r ih => simp [eh, ih]
theorem mem_eh {l : List EHd} {x : Hd} : x ∈ eh l ↔ ∃ h, h ∈ l ∧ (x = h.2.2.1 ∨ x = h.2.2.2) := by
 induction l with
 | nil => simp [eh]
 | cons n r ih =>
   simp only [eh, List.mem_cons, ih]
   constructor
   · rintro (h | h | ⟨y, hy, h⟩)
     · exact ⟨n, .inl rfl, .inl h⟩
     · exact ⟨n, .inl rfl, .inr h⟩
     · exact ⟨y, .inr hy, h⟩
   · rintro ⟨y, rfl | hy, h⟩
     · rcases h with h | h
       · exact .inl h
       · exact .inr (.inl h)
     · exact .inr (.inr ⟨y, hy, h⟩)
def RdE (w : World) (A : Option Addr) (hs : List EHd) : Prop := RdC w A (ecs hs) ∧ ∀ h, h ∈ hs → RdI w h.2.2.1.1 h.2.2.1.2.2 ∧ RdI w h.2.2.2.1 h.2.2.2.2.2
structure OwLs (w : World) (fp : List Nat) (ls : List Hd) : Prop where
 rows : ∀ h, h ∈ ls → IS w h.1 h.2.1 h.2.2
 apart : ls.Pairwise fun h h' => ∀ b, b ∈ fpA h.1 → ¬ b ∈ fpA h'.1
 outer : ∀ h, h ∈ ls → ∀ b, b ∈ fpA h.1 → ¬ b ∈ fp
section
variable {w w' : World} {A : Option Addr} {cap : Nat} {hs : List EHd} {fp : List Nat} {ls : List Hd}
theorem OwLs.below (h : OwLs w fp ls) (hb : Below w.heap.size w w') : OwLs w' fp ls := ⟨fun x hx => (h.rows x hx).below hb, h.apart, h.outer⟩
theorem OwLs.keeps (h : OwLs w fp ls) {S : Nat → Prop} (hk : Keeps S w w') (hS : ∀ b, b ∈ fpR ls → ¬ S b) : OwLs w' fp ls :=
 ⟨fun x hx => (h.rows x hx).keeps hk fun b hb => hS b (mem_fpR.2 ⟨x, hx, hb⟩), h.apart, h.outer⟩
theorem OwLs.lt (h : OwLs w fp ls) : ∀ b, b ∈ fpR ls → b < w.heap.size := fun b hb => by
 obtain ⟨x, hx, hb⟩ := mem_fpR.1 hb; exact (h.rows x hx).lt b hb
theorem OwLs.nil (w : World) (fp : List Nat) : OwLs w fp [] := ⟨fun h hh => (by cases hh), .nil, fun h hh => (by cases hh)⟩
theorem fpR_append (l m : List Hd) : fpR (l ++ m) = fpR l ++ fpR m := by simp [fpR]
theorem fpR_cons (x : Hd) (m : List Hd) : fpR (x :: m) = fpA x.1 ++ fpR m := by simp [fpR]
theorem OwLs.app (h : OwLs w fp ls) (hb : Below w.heap.size w w') {ms : List Hd} (hm : OwLs w' [] ms) (hf : FreshL w.heap.size (fpR ms)) (hlt : ∀ b, b ∈ fp → b < w.heap.size) : OwLs w' fp (ls ++ ms) := by
 refine ⟨fun y hy => ?_, ?_, fun y hy b hb1 hb2 => ?_⟩
 · rcases List.mem_append.1 hy with hy | hy
   · exact (h.rows y hy).below hb
   · exact hm.rows y hy
 · refine List.pairwise_append.2 ⟨h.apart, hm.apart, fun y hy z hz b hb1 hb2 => ?_⟩
   have := (h.rows y hy).lt b hb1
   have := hf b (mem_fpR.2 ⟨z, hz, hb2⟩)
   omega
 · rcases List.mem_append.1 hy with hy | hy
   · exact h.outer y hy b hb1 hb2
   · have := hf b (mem_fpR.2 ⟨y, hy, hb1⟩); have := hlt b hb2; omega
theorem OwLs.grow (h : OwLs w fp ls) {fp' : List Nat} (hf : ∀ b, b ∈ fp' → b ∈ fp ∨ w.heap.size ≤ b) (hk : Keeps (· ∈ fp) w w') : OwLs w' fp' ls := by
 refine ⟨fun x hx => (h.rows x hx).keeps hk fun b hb hb' => h.outer x hx b hb hb', h.apart, fun x hx b hb hb' => ?_⟩
 rcases hf b hb' with h1 | h1
 · exact h.outer x hx b hb h1
 · have := (h.rows x hx).lt b hb; omega
theorem OwLs.one {x : Hd} (hx : IS w x.1 x.2.1 x.2.2) : OwLs w [] [x] := ⟨fun y hy => by obtain rfl := List.mem_singleton.1 hy; exact hx, List.pairwise_singleton _ _, fun y _ b _ hb => by cases hb⟩
theorem OwLs.two {x y : Hd} (hx : IS w x.1 x.2.1 x.2.2) (hb : Below w.heap.size w w') (hy : IS w' y.1 y.2.1 y.2.2) (hf : Fresh w.heap.size y.1) : OwLs w' [] [x, y] :=
 (OwLs.one hx).app (ms := [y]) hb (OwLs.one hy) (fun b hb' => hf b (by simpa [fpR] using hb')) (fun b hb' => by cases hb')
theorem OwLs.cons (h : OwLs w fp ls) (hb : Below w.heap.size w w') {x : Hd} (hx : IS w' x.1 x.2.1 x.2.2) (hf : Fresh w.heap.size x.1) (hlt : ∀ b, b ∈ fp → b < w.heap.size) : OwLs w' fp (x :: ls) := by
 refine ⟨fun y hy => ?_, ?_, fun y hy b hb1 hb2 => ?_⟩
 · rcases List.mem_cons.1 hy with rfl | hy
   · exact hx
   · exact (h.rows y hy).below hb
 · refine List.pairwise_cons.2 ⟨fun y hy b hb1 hb2 => ?_, h.apart⟩
   have := (h.rows y hy).lt b hb2
   have := hf b hb1
   omega
 · rcases List.mem_cons.1 hy with rfl | hy
   · have := hf b hb1; have := hlt b hb2; omega
   · exact h.outer y hy b hb1 hb2
theorem OwLs.perm (h : OwLs w fp ls) {ms : List Hd} (hp : ms.Perm ls) : OwLs w fp ms :=
 ⟨fun x hx => h.rows x (hp.mem_iff.1 hx), (hp.pairwise_iff (fun hxy b hb1 hb2 => hxy b hb2 hb1)).2 h.apart, fun x hx => h.outer x (hp.mem_iff.1 hx)⟩
theorem RdE.below (h : RdE w A hs) (hb : Below w.heap.size w w') : RdE w' A hs := ⟨RdC.below h.1 hb, fun x hx => ⟨(h.2 x hx).1.below hb, (h.2 x hx).2.below hb⟩⟩
theorem RdE.nil (w : World) (A : Option Addr) : RdE w A [] := ⟨RdC.nil w A, fun x hx => by cases hx⟩
theorem RdE.at_ (h : RdE w A hs) {j : Nat} (hj : j < hs.length) : ∃ ad k v B b l C c m, A = some ad ∧ hs[j]? = some (k, v, (B, b, l), (C, c, m)) ∧
  (w.cell? (ad.add (j * 4)) = some (.int .i64 k) ∧ w.cell? ⟨(ad.add (j * 4)).block, (ad.add (j * 4)).off + 1, none⟩ = some (.int .i64 v) ∧ w.cell? ⟨(ad.add (j * 4)).block, (ad.add (j * 4)).off + 2, none⟩ = some (.slice B l.length b) ∧ w.cell? ⟨(ad.add (j * 4)).block, (ad.add (j * 4)).off + 3, none⟩ = some (.slice C m.length c)) ∧ RdI w B l ∧ RdI w C m := by
 obtain ⟨n, hn⟩ : ∃ n, hs[j]? = some n := ⟨_, List.getElem?_eq_getElem hj⟩
 obtain ⟨h0, h1, h2, h3⟩ := ecs_get hn
 obtain ⟨ad, hA, c0⟩ := h.1 _ _ h0
 obtain ⟨ad1, hA1, c1⟩ := h.1 _ _ h1
 obtain ⟨ad2, hA2, c2⟩ := h.1 _ _ h2
 obtain ⟨ad3, hA3, c3⟩ := h.1 _ _ h3
 rw [hA] at hA1 hA2 hA3
 obtain rfl := Option.some.inj hA1
 obtain rfl := Option.some.inj hA2
 obtain rfl := Option.some.inj hA3
 obtain ⟨k, v, ⟨B, b, l⟩, ⟨C, c, m⟩⟩ := n
 have hr := h.2 _ (List.mem_of_getElem? hn)
 rw [add_next _ _ 1 (by omega)] at c1
 rw [add_next _ _ 2 (by omega)] at c2
 rw [add_next _ _ 3 (by omega)] at c3
 exact ⟨ad, k, v, B, b, l, C, c, m, hA, hn, ⟨c0, c1, c2, c3⟩, hr.1, hr.2⟩
end
def RdGr (w : World) (v : Value) (g : Gr) : Prop := ∃ (A : Option Addr) (cap : Nat) (hs : List EHd) (a b : Hd), v = .agg #[.int .i64 g.1, .slice A hs.length cap, .slice a.1 a.2.2.length a.2.1, .slice b.1 b.2.2.length b.2.1] ∧ g.2.1 = hs.map egOf ∧ a.2.2 = g.2.2.1 ∧ b.2.2 = g.2.2.2 ∧ RdE w A hs ∧ RdI w a.1 a.2.2 ∧ RdI w b.1 b.2.2
def OwGr (w : World) (v : Value) (g : Gr) (fp : List Nat) : Prop := ∃ (A : Option Addr) (cap : Nat) (hs : List EHd) (a b : Hd), v = .agg #[.int .i64 g.1, .slice A hs.length cap, .slice a.1 a.2.2.length a.2.1, .slice b.1 b.2.2.length b.2.1] ∧ g.2.1 = hs.map egOf ∧ a.2.2 = g.2.2.1 ∧ b.2.2 = g.2.2.2 ∧ Sl w tEd 4 A hs.length cap (ecs hs) ∧ OwLs w (fpA A) (a :: b :: eh hs) ∧ fp = fpA A ++ fpR (a :: b :: eh hs)
section
variable {w w' : World} {v : Value} {g : Gr} {fp : List Nat}
theorem RdGr.below (h : RdGr w v g) (hb : Below w.heap.size w w') : RdGr w' v g := by
 obtain ⟨A, c, hs, a, b, rfl, e1, e2, e3, h1, h2, h3⟩ := h; exact ⟨A, c, hs, a, b, rfl, e1, e2, e3, h1.below hb, h2.below hb, h3.below hb⟩
theorem OwGr.rd (h : OwGr w v g fp) : RdGr w v g := by
 obtain ⟨A, c, hs, a, b, rfl, e1, e2, e3, h1, h2, _⟩ := h
 refine ⟨A, c, hs, a, b, rfl, e1, e2, e3, ⟨Sl.rdc h1, fun x hx => ⟨(h2.rows _ ?_).rd, (h2.rows _ ?_).rd⟩⟩, (h2.rows a (by simp)).rd, (h2.rows b (by simp)).rd⟩
 · exact List.mem_cons_of_mem _ (List.mem_cons_of_mem _ (mem_eh.2 ⟨x, hx, .inl rfl⟩))
 · exact List.mem_cons_of_mem _ (List.mem_cons_of_mem _ (mem_eh.2 ⟨x, hx, .inr rfl⟩))
theorem OwGr.below (h : OwGr w v g fp) (hb : Below w.heap.size w w') : OwGr w' v g fp := by
 obtain ⟨A, c, hs, a, b, rfl, e1, e2, e3, h1, h2, e⟩ := h; exact ⟨A, c, hs, a, b, rfl, e1, e2, e3, h1.below hb, h2.below hb, e⟩
theorem OwGr.keeps (h : OwGr w v g fp) {S : Nat → Prop} (hk : Keeps S w w') (hS : ∀ b, b ∈ fp → ¬ S b) : OwGr w' v g fp := by
 obtain ⟨A, c, hs, a, b, rfl, e1, e2, e3, h1, h2, rfl⟩ := h
 exact ⟨A, c, hs, a, b, rfl, e1, e2, e3, h1.keeps hk fun x hx => hS x (List.mem_append_left _ hx), h2.keeps hk fun x hx => hS x (List.mem_append_right _ hx), rfl⟩
theorem OwGr.lt (h : OwGr w v g fp) : LtL w.heap.size fp := by
 obtain ⟨A, c, hs, a, b, rfl, e1, e2, e3, h1, h2, rfl⟩ := h
 intro x hx
 rcases List.mem_append.1 hx with hx | hx
 · exact h1.lt x hx
 · exact h2.lt x hx
theorem RdGr.shape (h : RdGr w v g) : ∃ A n c B m d C k e, v = .agg #[.int .i64 g.1, .slice A n c, .slice B m d, .slice C k e] := by
 obtain ⟨A, c, hs, a, b, rfl, _⟩ := h; exact ⟨_, _, _, _, _, _, _, _, _, rfl⟩
theorem OwGr.shape (h : OwGr w v g fp) : ∃ A n c B m d C k e, v = .agg #[.int .i64 g.1, .slice A n c, .slice B m d, .slice C k e] := h.rd.shape
theorem OwGr.zero (w : World) : OwGr w (.agg #[.int .i64 0, .slice none 0 0, .slice none 0 0, .slice none 0 0]) (0, [], [], []) [] :=
 ⟨none, 0, [], (none, 0, []), (none, 0, []), rfl, rfl, rfl, rfl, Sl.nil _ _ _, ⟨fun x hx => by
  simp [eh] at hx; subst hx; exact Sl.nil _ _ _, by simp [eh], fun x hx b hb => by simp [eh] at hx; subst hx; simp at hb⟩, rfl⟩
theorem t_box4 {B : Nat} {x y z u : Value} {t : TypeId} (h : w.heap[B]? = some (.cells #[x, y, z, u] t)) :
  (w.cell? ⟨B, 0, none⟩ = some x ∧ w.cell? ⟨B, 1, none⟩ = some y ∧ w.cell? ⟨B, 2, none⟩ = some z ∧ w.cell? ⟨B, 3, none⟩ = some u) ∧ w.frozen? ⟨B, 0, none⟩ = false ∧ w.frozen? ⟨B, 1, none⟩ = false ∧ w.frozen? ⟨B, 2, none⟩ = false ∧ w.frozen? ⟨B, 3, none⟩ = false := by
 simp [World.cell?, World.frozen?, h]
end
def cntE : List Eg → Nat
 | [] => 0
 | e :: r => 2 + e.2.2.1.length + e.2.2.2.length + cntE r
def cntG (g : Gr) : Nat := cntE g.2.1 + g.2.2.1.length + g.2.2.2.length
def OkG (g : Gr) : Prop := (g.2.1.length ≤ 1048576 ∧ g.2.2.1.length ≤ 1048576 ∧ g.2.2.2.length ≤ 1048576) ∧ (∀ e, e ∈ g.2.1 → e.2.2.1.length ≤ 1048576 ∧ e.2.2.2.length ≤ 1048576) ∧ cntG g ≤ 8388608
def marksE : Nat → List Eg → List Eg
 | _, [] => []
 | k, e :: r => ((k : Int), ((k + 1 : Nat) : Int), marks (k + 2) e.2.2.1.length, marks (k + 2 + e.2.2.1.length) e.2.2.2.length) :: marksE (k + 2 + e.2.2.1.length + e.2.2.2.length) r
def marksG (k : Nat) (g : Gr) : Gr := (g.1, marksE k g.2.1, marks (k + cntE g.2.1) g.2.2.1.length, marks (k + cntE g.2.1 + g.2.2.1.length) g.2.2.2.length)
def HeGr (w : World) (v : Value) (g : Gr) (k : Nat) (fp : List Nat) : Prop := OwGr w v (marksG k g) fp
theorem HeGr.below {w w' : World} {v : Value} {g : Gr} {k : Nat} {fp : List Nat} (h : HeGr w v g k fp) (hb : Below w.heap.size w w') : HeGr w' v g k fp := OwGr.below h hb
theorem HeGr.keeps {w w' : World} {v : Value} {g : Gr} {k : Nat} {fp : List Nat} (h : HeGr w v g k fp) {S : Nat → Prop} (hk : Keeps S w w') (hS : ∀ b, b ∈ fp → ¬ S b) : HeGr w' v g k fp := OwGr.keeps h hk hS
theorem cntE_append (l m : List Eg) : cntE (l ++ m) = cntE l + cntE m := by
 induction l with
 | nil => simp [cntE]
 | cons e r ih => simp [cntE, ih]; omega
def egB (e : Eg) : Bool := t_inB e.1 3 14 && (gvB e.1 e.2.1 && decide (((e.2.2.1.length : Int), (e.2.2.2.length : Int)) = kindTy e.1))
def inW (n : Int) (l : List Int) : Bool := l.all fun x => t_inB x 0 (n - 1)
def edW : List Eg → List Int
 | [] => []
 | e :: r => e.2.2.1 ++ (e.2.2.2 ++ edW r)
def t_allW (g : Gr) : List Int := g.2.2.1 ++ (g.2.2.2 ++ edW g.2.1)
def fullW (n : Int) (l : List Int) : Bool := (List.range n.toNat).all fun w : Nat => l.contains (w : Int)
def grB (g : Gr) : Bool := (t_inB g.1 0 100 && (decide (g.2.1.length ≤ 60) && (decide (g.2.2.1.length ≤ 12) && decide (g.2.2.2.length ≤ 12)))) && (g.2.1.all egB && (inW g.1 (t_allW g) && fullW g.1 (t_allW g)))
theorem edW_append (l m : List Eg) : edW (l ++ m) = edW l ++ edW m := by
 induction l with
 | nil => rfl
 | cons e r ih => simp [edW, ih]
theorem inW_append (n : Int) (l m : List Int) : inW n (l ++ m) = (inW n l && inW n m) := by simp [inW]
theorem inW_iff {n : Int} {l : List Int} : inW n l = true ↔ ∀ x, x ∈ l → 0 ≤ x ∧ x < n := by
 unfold inW
 rw [List.all_eq_true]
 constructor
 · intro h x hx
   have := h x hx
   unfold t_inB at this
   have := of_decide_eq_true this
   omega
 · intro h x hx
   have := h x hx
   unfold t_inB
   exact decide_eq_true (by omega)
theorem inW_sub {n : Int} {l m : List Int} (h : inW n l = true) (hs : ∀ x, x ∈ m → x ∈ l) : inW n m = true := inW_iff.2 fun x hx => inW_iff.1 h x (hs x hx)
def seenM (n : Nat) (l : List Int) : List Bool := (List.range n).map fun w : Nat => l.contains (w : Int)
@[simp] theorem seenM_length (n : Nat) (l : List Int) : (seenM n l).length = n := by simp [seenM]
theorem seenM_get {n : Nat} {l : List Int} {w : Nat} (h : w < n) : (seenM n l)[w]? = some (l.contains (w : Int)) := by simp [seenM, h]
theorem seenM_nil (n : Nat) : seenM n [] = List.replicate n false := by
 apply List.ext_getElem?
 intro w
 by_cases h : w < n
 · rw [seenM_get h, List.getElem?_replicate, if_pos h]; rfl
 · rw [List.getElem?_eq_none (by simp; omega), List.getElem?_eq_none (by simp; omega)]
theorem contains_snoc (l : List Int) (x y : Int) : (l ++ [x]).contains y = (l.contains y || (x == y)) := by
 rw [Bool.eq_iff_iff, List.contains_iff_mem, Bool.or_eq_true, List.contains_iff_mem, List.mem_append, List.mem_singleton, beq_iff_eq]
 exact ⟨fun h => h.imp id Eq.symm, fun h => h.imp id Eq.symm⟩
theorem seenM_in {n w : Nat} {l : List Int} (h : w < n) : seenM n (l ++ [(w : Int)]) = (seenM n l).set w true := by
 apply List.ext_getElem?
 intro i
 rw [List.getElem?_set]
 by_cases hi : i < n
 · rw [seenM_get hi, contains_snoc]
   by_cases hw : w = i
   · subst hw; simp [hi]
   · rw [if_neg hw, seenM_get hi]
     have : ((w : Int) == (i : Int)) = false := by rw [beq_eq_false_iff_ne]; omega
     rw [this, Bool.or_false]
 · rw [List.getElem?_eq_none (by simp; omega)]
   split
   · rename_i h2; omega
   · rw [List.getElem?_eq_none (by simp; omega)]
theorem seenM_out {n : Nat} {l : List Int} {x : Int} (h : ¬ (0 ≤ x ∧ x < n)) : seenM n (l ++ [x]) = seenM n l := by
 unfold seenM
 apply List.map_congr_left
 intro w hw
 have hw' : w < n := List.mem_range.1 hw
 rw [contains_snoc]
 have : (x == (w : Int)) = false := by rw [beq_eq_false_iff_ne]; omega
 rw [this, Bool.or_false]
theorem seenM_old {n w : Nat} {l : List Int} (h : w < n) (hs : l.contains (w : Int) = true) : seenM n (l ++ [(w : Int)]) = seenM n l := by
 rw [seenM_in h]
 apply List.ext_getElem?
 intro i
 rw [List.getElem?_set]
 split
 · rename_i e; subst e; rw [seenM_get h, hs]; simp [h]
 · rfl
def seenC (n : Nat) (l : List Int) : Nat := (seenM n l).count true
theorem count_set_true : ∀ {s : List Bool} {w : Nat}, s[w]? = some false → (s.set w true).count true = s.count true + 1
 | b :: s, 0, h => by
   obtain rfl : b = false := by simpa using h
   simp
 | b :: s, w + 1, h => by
   have := count_set_true (s := s) (w := w) (by simpa using h)
   simp only [List.set_cons_succ, List.count_cons, this]
   omega
theorem seenC_le (n : Nat) (l : List Int) : seenC n l ≤ n := by
 have := List.count_le_length (a := true) (l := seenM n l)
 rw [seenM_length] at this; exact this
theorem seenC_new {n w : Nat} {l : List Int} (h : w < n) (hs : l.contains (w : Int) = false) : seenC n (l ++ [(w : Int)]) = seenC n l + 1 := by
 unfold seenC
 rw [seenM_in h]
 exact count_set_true (by rw [seenM_get h, hs])
theorem count_all : ∀ (s : List Bool), s.count true = s.length ↔ s.all id = true
 | [] => by simp
 | b :: s => by
   have ih := count_all s
   have hle := List.count_le_length (a := true) (l := s)
   cases b
   · simp; omega
   · simpa using ih
theorem seenC_full (n : Nat) (l : List Int) : (decide (seenC n l = n)) = (List.range n).all fun w : Nat => l.contains (w : Int) := by
 have h := count_all (seenM n l)
 rw [seenM_length] at h
 have e : (seenM n l).all id = (List.range n).all fun w : Nat => l.contains (w : Int) := by
  unfold seenM; rw [List.all_map]; rfl
 rw [Bool.eq_iff_iff, ← e, ← h]
 unfold seenC
 simp
def cntM (n : Nat) (l : List Int) : List Int := (List.range n).map fun w : Nat => (l.count (w : Int) : Int)
@[simp] theorem cntM_length (n : Nat) (l : List Int) : (cntM n l).length = n := by simp [cntM]
theorem cntM_get {n : Nat} {l : List Int} {w : Nat} (h : w < n) : (cntM n l)[w]? = some (l.count (w : Int) : Int) := by simp [cntM, h]
theorem cntM_nil (n : Nat) : cntM n [] = List.replicate n 0 := by
 apply List.ext_getElem?
 intro w
 by_cases h : w < n
 · rw [cntM_get h, List.getElem?_replicate, if_pos h]; rfl
 · rw [List.getElem?_eq_none (by simp; omega), List.getElem?_eq_none (by simp; omega)]
theorem cntM_step {n w : Nat} {l : List Int} (h : w < n) : cntM n (l ++ [(w : Int)]) = (cntM n l).set w ((l.count (w : Int) : Int) + 1) := by
 apply List.ext_getElem?
 intro i
 rw [List.getElem?_set]
 by_cases hi : i < n
 · rw [cntM_get hi, List.count_append]
   by_cases hw : w = i
   · subst hw; simp [hi]
   · rw [if_neg hw, cntM_get hi]
     have : List.count (i : Int) [(w : Int)] = 0 := List.count_eq_zero.2 fun hm => by
      have := List.mem_singleton.1 hm; omega
     rw [this, Nat.add_zero]
 · rw [List.getElem?_eq_none (by simp; omega)]
   split
   · rename_i h2; omega
   · rw [List.getElem?_eq_none (by simp; omega)]
theorem count_le (l : List Int) (x : Int) : l.count x ≤ l.length := List.count_le_length
def outW : List Eg → List Int
 | [] => []
 | e :: r => e.2.2.2 ++ outW r
def inpW : List Eg → List Int
 | [] => []
 | e :: r => e.2.2.1 ++ inpW r
def orgW (g : Gr) : List Int := g.2.2.1 ++ outW g.2.1
def dstW (g : Gr) : List Int := g.2.2.2 ++ inpW g.2.1
theorem mem_edW {l : List Eg} {x : Int} : x ∈ edW l ↔ x ∈ outW l ∨ x ∈ inpW l := by
 induction l with
 | nil => simp [edW, outW, inpW]
 | cons e r ih => simp only [edW, outW, inpW, List.mem_append, ih]; exact ⟨fun h => by rcases h with h | h | h | h <;> simp [h], fun h => by rcases h with (h | h) | (h | h) <;> simp [h]⟩
theorem mem_allW {g : Gr} {x : Int} : x ∈ t_allW g ↔ x ∈ orgW g ∨ x ∈ dstW g := by
 simp only [t_allW, orgW, dstW, List.mem_append, mem_edW]
 exact ⟨fun h => by rcases h with h | h | h | h <;> simp [h], fun h => by rcases h with (h | h) | (h | h) <;> simp [h]⟩
theorem outW_append (l m : List Eg) : outW (l ++ m) = outW l ++ outW m := by
 induction l with
 | nil => rfl
 | cons e r ih => simp [outW, ih]
theorem inpW_append (l m : List Eg) : inpW (l ++ m) = inpW l ++ inpW m := by
 induction l with
 | nil => rfl
 | cons e r ih => simp [inpW, ih]
def hgB (n : Int) (e : Eg) : Bool := egB e && (inW n e.2.2.1 && inW n e.2.2.2)
theorem hgB_all (n : Int) (l : List Eg) : l.all (hgB n) = (l.all egB && inW n (edW l)) := by
 induction l with
 | nil => rfl
 | cons e r ih =>
   rw [List.all_cons, List.all_cons, ih, edW, inW_append, inW_append, hgB]
   cases egB e <;> cases inW n e.2.2.1 <;> cases inW n e.2.2.2 <;> cases r.all egB <;> rfl
end Go.Proofs.YtpkmjenoniedjaaDoor
namespace Go.Proofs.YtpkmjenoniedjaaDoor
def cnt (a : Int) : List Int → Nat
 | [] => 0
 | b :: r => (if b < a then 1 else 0) + cnt a r
def inv : List Int → Nat
 | [] => 0
 | a :: r => cnt a r + inv r
open Go.RowKit
def mapL (tw : List Int) (l : List Int) : List Int := l.map fun w => tw.getD w.toNat 0
@[simp] theorem mapL_length (tw l : List Int) : (mapL tw l).length = l.length := by simp [mapL]
def lay {α : Type} (d : α) (p : List Int) (xs : List α) : Nat → List α
 | 0 => List.replicate xs.length d
 | k + 1 => (lay d p xs k).set (p.getD k 0).toNat (xs.getD k d)
section
variable {α β : Type} {d : α} {p : List Int} {xs : List α}
@[simp] theorem lay_length : ∀ k, (lay d p xs k).length = xs.length
  | 0 => by simp [lay]
  | k + 1 => by simp [lay, lay_length k]
end
end Go.Proofs.YtpkmjenoniedjaaDoor
