/-
  What the texts above it need, part 1.
-/
import Derived.Test.YtpkmjenoniedjaaGreatRows
import Derived.WalkKit
import Derived.WalkSpells
import Derived.WalkLawsBesides
import Derived.Deep.Draws
import Derived.Lib.Hide
import Derived.Deep.OwnRows
import Derived.Deep.QuietTactic
import Derived.BigQuiet
import Derived.Deep.LoopGhost
import Derived.StillTail
import Derived.KernelRfl
import Derived.OrdersHeld
import Derived.StillTailTactics
import Derived.IntWalk
import Derived.Outline
import Derived.ProofKit
import Derived.OpenShut
import Derived.Deep.DeepHandedRow
import Derived.Deep.Slices
import Derived.Deep.Fields
import Derived.Lib.SmallJoins
import Derived.Deep.Cut
namespace Go.Proofs.YtpkmjenoniedjaaGreat
open Go.RowKit
theorem nS {α : Type} : (∀ (l : List α) (i : Nat) (a : α), l.toArray.setIfInBounds i a = (l.set i a).toArray) ∧ (∀ (x a : α) (l : List α), (x :: l).set 0 a = a :: l) ∧ ∀ (x a : α) (l : List α) (n : Nat), (x :: l).set (n + 1) a = x :: l.set n a := ⟨fun _ _ _ => List.setIfInBounds_toArray .., fun _ _ _ => List.set_cons_zero .., fun _ _ _ _ => List.set_cons_succ ..⟩
theorem lH {p : Prop} (h : p) : RowKit.Hid p := h
end Go.Proofs.YtpkmjenoniedjaaGreat

namespace Go.Proofs.YtpkmjenoniedjaaGreat
open Go.RowKit
theorem ret_bool {a b : Bool} (h : a = b) : Ending.returned (.bool a) = .returned (.bool b) := by rw [h]
theorem ret_int {k : IntKind} {a b : Int} (h : a = b) : Ending.returned (.int k a) = .returned (.int k b) := by rw [h]
theorem block_of_add (a : Addr) (n : Nat) : (a.add n).block = a.block := by unfold Addr.add; split <;> rfl
def fpA (A : Option Addr) : List Nat := A.toList.map (·.block)
@[simp] theorem fpA_none : fpA none = [] := rfl
@[simp] theorem fpA_some (a : Addr) : fpA (some a) = [a.block] := rfl
theorem mem_fpA {A : Option Addr} {b : Nat} : b ∈ fpA A ↔ ∃ a, A = some a ∧ a.block = b := by
 cases A <;> simp [fpA, eq_comm]
structure Keeps (S : Nat → Prop) (w w' : World) : Prop where
 os : w'.os = w.os
 tape : w'.tape = w.tape
 output : w'.output = w.output
 size : w.heap.size ≤ w'.heap.size
 block : ∀ k, k < w.heap.size → ¬ S k → w'.heap[k]? = w.heap[k]?
theorem Keeps.refl (S : Nat → Prop) (w : World) : Keeps S w w := ⟨rfl, rfl, rfl, Nat.le_refl _, fun _ _ _ => rfl⟩
theorem Keeps.trans {S : Nat → Prop} {a b c : World} (h : Keeps S a b) (k : Keeps S b c) : Keeps S a c :=
 ⟨k.os.trans h.os, k.tape.trans h.tape, k.output.trans h.output, Nat.le_trans h.size k.size, fun i hi hs => (k.block i (Nat.lt_of_lt_of_le hi h.size) hs).trans (h.block i hi hs)⟩
theorem Keeps.mono {S T : Nat → Prop} {w w' : World} (h : Keeps S w w') (hS : ∀ k, k < w.heap.size → S k → T k) : Keeps T w w' :=
 ⟨h.os, h.tape, h.output, h.size, fun k hk ht => h.block k hk fun hs => ht (hS k hk hs)⟩
theorem Keeps.of_below {w w' : World} (h : Below w.heap.size w w') (S : Nat → Prop) : Keeps S w w' := ⟨h.os, h.tape, h.output, h.size, fun k hk _ => h.block k hk⟩
theorem Keeps.below {S : Nat → Prop} {w w' : World} (h : Keeps S w w') {B : Nat} (hB : B ≤ w.heap.size) (hS : ∀ k, S k → B ≤ k) : Below B w w' :=
 ⟨h.os, h.tape, h.output, h.size, fun k hk => h.block k (Nat.lt_of_lt_of_le hk hB) fun hs => by have := hS k hs; omega⟩
theorem Keeps.drew {S : Nat → Prop} {a w : World} (h : Keeps S a w) : Keeps S a w.drew := ⟨h.os, h.tape, h.output, h.size, h.block⟩
theorem Keeps.drewN {S : Nat → Prop} {a w : World} (h : Keeps S a w) (n : Nat) : Keeps S a (w.drewN n) := ⟨h.os, h.tape, h.output, h.size, h.block⟩
theorem Keeps.alloc {S : Nat → Prop} {a w : World} (h : Keeps S a w) (o : Obj) : Keeps S a (w.alloc o) :=
 h.trans ⟨rfl, rfl, rfl, by simp, fun k hk _ => Below.heap_alloc _ _ _ hk⟩
theorem Keeps.setCell {S : Nat → Prop} {a w : World} (h : Keeps S a w) {p : Addr} (hp : S p.block) (u : Value) : Keeps S a (w.setCell p u) :=
 h.trans ⟨rfl, rfl, rfl, by simp [World.setCell], fun k _ hs => Below.heap_setCell _ _ _ _ (fun e => hs (e ▸ hp))⟩
theorem below_drewN {B : Nat} {a w : World} (h : Below B a w) (n : Nat) : Below B a (w.drewN n) := ⟨h.os, h.tape, h.output, h.size, h.block⟩
theorem below_keeps {B : Nat} {a w w' : World} {S : Nat → Prop} (h : Below B a w) (hk : Keeps S w w') (hB : B ≤ w.heap.size) (hS : ∀ k, S k → B ≤ k) : Below B a w' := h.trans (hk.below hB hS)
theorem below_trans {B B' : Nat} {a b c : World} (h : Below B a b) (k : Below B' b c) (hB : B ≤ B') : Below B a c := h.trans (k.mono hB)
def SameOn (l : List Nat) (w w' : World) : Prop := ∀ b, b ∈ l → w'.heap[b]? = w.heap[b]?
theorem SameOn.of_below {l : List Nat} {B : Nat} {w w' : World} (h : Below B w w') (hl : ∀ b, b ∈ l → b < B) : SameOn l w w' := fun b hb => h.block b (hl b hb)
theorem SameOn.of_keeps {l : List Nat} {S : Nat → Prop} {w w' : World} (h : Keeps S w w') (hl : ∀ b, b ∈ l → b < w.heap.size) (hS : ∀ b, b ∈ l → ¬ S b) : SameOn l w w' := fun b hb => h.block b (hl b hb) (hS b hb)
def Fresh (B : Nat) (A : Option Addr) : Prop := ∀ b, b ∈ fpA A → B ≤ b
theorem Fresh.none_ (B : Nat) : Fresh B none := by simp [Fresh]
theorem Fresh.mono {B B' : Nat} {A : Option Addr} (h : Fresh B A) (hB : B' ≤ B) : Fresh B' A := fun b hb => Nat.le_trans hB (h b hb)
def Sl (w : World) (e : TypeId) (sz : Nat) (A : Option Addr) (n cap : Nat) (xs : List Value) : Prop :=
 xs.length = n * sz ∧ n ≤ cap ∧ cap ≤ maxLen ∧
 ((A = none ∧ cap = 0) ∨ ∃ g off cur, A = some ⟨g, off, none⟩ ∧ w.heap[g]? = some (.cells cur e (0, 0)) ∧ off + cap * sz ≤ cur.size ∧ (cur.toList.drop off).take (n * sz) = xs)
section
variable {w w' : World} {e : TypeId} {sz n cap : Nat} {A : Option Addr} {xs : List Value}
theorem Sl.nil (w : World) (e : TypeId) (sz : Nat) : Sl w e sz none 0 0 [] := ⟨by simp, Nat.le_refl _, Nat.zero_le _, .inl ⟨rfl, rfl⟩⟩
theorem Sl.lt (h : Sl w e sz A n cap xs) : ∀ b, b ∈ fpA A → b < w.heap.size := by
 intro b hb
 rcases h.2.2.2 with ⟨rfl, _⟩ | ⟨g, off, cur, rfl, hg, _⟩
 · simp at hb
 · simp at hb; subst hb
   exact (Array.getElem?_eq_some_iff.1 hg).1
theorem Sl.frame (h : Sl w e sz A n cap xs) (hs : SameOn (fpA A) w w') : Sl w' e sz A n cap xs := by
 refine ⟨h.1, h.2.1, h.2.2.1, ?_⟩
 rcases h.2.2.2 with hn | ⟨g, off, cur, rfl, hg, r⟩
 · exact .inl hn
 · exact .inr ⟨g, off, cur, rfl, by rw [hs g (by simp)]; exact hg, r⟩
theorem Sl.below (h : Sl w e sz A n cap xs) (hb : Below w.heap.size w w') : Sl w' e sz A n cap xs := h.frame (.of_below hb h.lt)
theorem Sl.keeps (h : Sl w e sz A n cap xs) {S : Nat → Prop} (hk : Keeps S w w') (hS : ∀ b, b ∈ fpA A → ¬ S b) : Sl w' e sz A n cap xs := h.frame (.of_keeps hk h.lt hS)
theorem Sl.drew (h : Sl w e sz A n cap xs) : Sl w.drew e sz A n cap xs := h
theorem Sl.drewN (h : Sl w e sz A n cap xs) (k : Nat) : Sl (w.drewN k) e sz A n cap xs := h
theorem Sl.alloc (h : Sl w e sz A n cap xs) (o : Obj) : Sl (w.alloc o) e sz A n cap xs := h.below ((Below.refl _ _).alloc (Nat.le_refl _) o)
theorem Sl.cell (h : Sl w e sz A n cap xs) {j : Nat} {u : Value} (hj : xs[j]? = some u) : ∃ ad, A = some ad ∧ ad.block < w.heap.size ∧ w.cell? (ad.add j) = some u ∧ ∀ k, w.frozen? (ad.add k) = false := by
 obtain ⟨hl, hn, hm, hh⟩ := h
 have hj' : j < xs.length := (List.getElem?_eq_some_iff.1 hj).1
 rcases hh with ⟨_, h0⟩ | ⟨g, off, cur, rfl, hg, hc, ht⟩
 · have : n = 0 := by omega
   subst this
   simp at hl
   simp [hl] at hj'
 · have hadd : ∀ k, (⟨g, off, none⟩ : Addr).add k = ⟨g, off + k, none⟩ := by intro k; unfold Addr.add; split <;> simp_all
   refine ⟨_, rfl, (Array.getElem?_eq_some_iff.1 hg).1, ?_, fun k => ?_⟩
   · rw [hadd, cell_of_row w g (off + j) cur e (0, 0) hg]
     rw [← ht, List.getElem?_take] at hj
     split at hj
     · rw [List.getElem?_drop] at hj; simpa using hj
     · cases hj
   · rw [hadd]; simp [World.frozen?, hg]
theorem Sl.set (h : Sl w e sz A n cap xs) {ad : Addr} (hA : A = some ad) (j : Nat) (u : Value) (hj : j < xs.length) : Sl (w.setCell (ad.add j) u) e sz A n cap (xs.set j u) := by
 obtain ⟨hl, hn, hm, hh⟩ := h
 refine ⟨by simpa using hl, hn, hm, ?_⟩
 rcases hh with ⟨h0, _⟩ | ⟨g, off, cur, hA', hg, hc, ht⟩
 · rw [h0] at hA; cases hA
 · rw [hA'] at hA; obtain rfl := Option.some.inj hA
   have hadd : (⟨g, off, none⟩ : Addr).add j = ⟨g, off + j, none⟩ := by unfold Addr.add; split <;> simp_all
   rw [hadd]
   refine .inr ⟨g, off, cur.setIfInBounds (off + j) u, hA', ?_, by simpa using hc, ?_⟩
   · simp [World.setCell, Array.getElem?_modify, hg]
   · rw [Array.toList_setIfInBounds, ← ht]
     apply List.ext_getElem?
     intro i
     simp only [List.getElem?_take, List.getElem?_drop, List.getElem?_set, List.length_take, List.length_drop]
     have hjn : j < n * sz := by omega
     have hsz : off + n * sz ≤ cur.size := by have := Nat.mul_le_mul_right sz hn; omega
     by_cases hij : j = i
     · subst hij; simp [hjn]; split <;> simp <;> omega
     · have : ¬ off + j = off + i := by omega
       simp [hij]
end
def Wr (w w' : World) (A : Option Addr) (new : List Value) : Prop :=
 Keeps (· ∈ fpA A) w w' ∧ ∀ g off cur e, A = some ⟨g, off, none⟩ → w.heap[g]? = some (.cells cur e (0, 0)) → off + new.length ≤ cur.size →
  ∃ cur' : Array Value, w'.heap[g]? = some (.cells cur' e (0, 0)) ∧ cur'.toList = cur.toList.take off ++ (new ++ cur.toList.drop (off + new.length))
def SubA (A A' : Option Addr) (k n : Nat) : Prop := 0 < n → ∃ ad, A = some ad ∧ A' = some (ad.add k)
theorem addr_lit (g off k : Nat) : (⟨g, off, none⟩ : Addr).add k = ⟨g, off + k, none⟩ := by unfold Addr.add; split <;> simp_all
section
variable {w w' wr : World} {e : TypeId} {sz n cap : Nat} {A A' : Option Addr} {xs new l : List Value}
theorem Wr.set (h : Wr w wr A l) {ad : Addr} (hA : A = some ad) {j : Nat} (hj : j < l.length) (u : Value) : Wr w (wr.setCell (ad.add j) u) A (l.set j u) := by
 refine ⟨h.1.setCell (by rw [block_of_add, hA]; simp) u, fun g off cur e' hA' hg hc => ?_⟩
 rw [List.length_set] at hc
 obtain ⟨cur', hg', hl'⟩ := h.2 g off cur e' hA' hg hc
 rw [hA'] at hA; obtain rfl := Option.some.inj hA
 rw [addr_lit]
 refine ⟨cur'.setIfInBounds (off + j) u, by simp [World.setCell, Array.getElem?_modify, hg'], ?_⟩
 have h1 : (List.take off cur.toList).length = off := by simp; omega
 rw [Array.toList_setIfInBounds, hl', List.set_append_right _ _ (by omega), h1, List.length_set, Nat.add_sub_cancel_left, List.set_append_left _ _ hj]
theorem Wr.drew (h : Wr w w' A new) : Wr w w'.drew A new := ⟨h.1.drew, h.2⟩
theorem Wr.drewN (h : Wr w w' A new) (n : Nat) : Wr w (w'.drewN n) A new := ⟨h.1.drewN n, h.2⟩
theorem Wr.sl (h : Wr w w' A new) (hs : Sl w e sz A n cap xs) (hn : new.length = n * sz) : Sl w' e sz A n cap new := by
 refine ⟨hn, hs.2.1, hs.2.2.1, ?_⟩
 rcases hs.2.2.2 with h0 | ⟨g, off, cur, hA, hg, hc, ht⟩
 · exact .inl h0
 · have := Nat.mul_le_mul_right sz hs.2.1
   obtain ⟨cur', hg', hl'⟩ := h.2 g off cur e hA hg (by omega)
   have hsz : cur'.size = cur.size := by
    have := congrArg List.length hl'
    simp at this; omega
   refine .inr ⟨g, off, cur', hA, hg', by omega, ?_⟩
   have h1 : (List.take off cur.toList).length = off := by simp; omega
   rw [hl', List.drop_append_of_le_length (by omega), List.drop_of_length_le (by omega), List.nil_append, ← hn]
   exact List.take_left
theorem Wr.trans {w1 : World} (h : Wr w w1 A l) (h' : Wr w1 w' A new) (hl : l.length = new.length) : Wr w w' A new := by
 refine ⟨h.1.trans h'.1, fun g off cur e' hA hg hc => ?_⟩
 obtain ⟨c1, hg1, hl1⟩ := h.2 g off cur e' hA hg (by omega)
 have hsz : c1.size = cur.size := by
  have := congrArg List.length hl1
  simp at this; omega
 obtain ⟨c2, hg2, hl2⟩ := h'.2 g off c1 e' hA hg1 (by omega)
 refine ⟨c2, hg2, ?_⟩
 have h1 : (List.take off cur.toList).length = off := by simp; omega
 rw [hl2, hl1, List.take_append_of_le_length (by omega), List.take_of_length_le (by omega), ← hl, List.drop_append, h1, List.drop_of_length_le (by omega), Nat.add_sub_cancel_left, List.drop_left, List.nil_append]
end
abbrev tInt : TypeId := 3
def ints (l : List Int) : List Value := l.map (Value.int .i64)
@[simp] theorem ints_length (l : List Int) : (ints l).length = l.length := by simp [ints]
theorem ints_get {l : List Int} {j : Nat} {x : Int} (h : l[j]? = some x) : (ints l)[j]? = some (.int .i64 x) := by simp [ints, h]
theorem ints_set (l : List Int) (j : Nat) (x : Int) : (ints l).set j (.int .i64 x) = ints (l.set j x) := by simp [ints, List.map_set]
def IS (w : World) (A : Option Addr) (cap : Nat) (l : List Int) : Prop := Sl w tInt 1 A l.length cap (ints l)
def RdI (w : World) (A : Option Addr) (l : List Int) : Prop := ∀ j x, l[j]? = some x → ∃ ad, A = some ad ∧ w.cell? (ad.add j) = some (.int .i64 x)
section
variable {w w' : World} {A : Option Addr} {cap : Nat} {l : List Int}
theorem RdI.block_lt (h : RdI w A l) {j : Nat} {x : Int} (hj : l[j]? = some x) : ∀ b, b ∈ fpA A → b < w.heap.size := by
 obtain ⟨ad, rfl, hc⟩ := h j x hj
 intro b hb
 simp at hb; subst hb
 have := World.block_lt_of_cell? w _ hc
 rwa [block_of_add] at this
theorem RdI.frame (h : RdI w A l) (hs : SameOn (fpA A) w w') : RdI w' A l := fun j x hj => by
 obtain ⟨ad, rfl, hc⟩ := h j x hj
 exact ⟨ad, rfl, (World.cell?_of_block (w := w) (by rw [block_of_add]; exact hs _ (by simp))).trans hc⟩
theorem RdI.below (h : RdI w A l) (hb : Below w.heap.size w w') : RdI w' A l := fun j x hj =>
 (h.frame (.of_below hb (h.block_lt hj))) j x hj
theorem RdI.keeps (h : RdI w A l) {S : Nat → Prop} (hk : Keeps S w w') (hS : ∀ b, b ∈ fpA A → ¬ S b) : RdI w' A l := fun j x hj =>
 (h.frame (.of_keeps hk (h.block_lt hj) hS)) j x hj
theorem RdI.drewN (h : RdI w A l) (k : Nat) : RdI (w.drewN k) A l := h
theorem IS.rd (h : IS w A cap l) : RdI w A l := fun j x hj => by
 obtain ⟨ad, hA, _, hc, _⟩ := Sl.cell h (ints_get hj)
 exact ⟨ad, hA, hc⟩
theorem IS.below (h : IS w A cap l) (hb : Below w.heap.size w w') : IS w' A cap l := Sl.below h hb
theorem IS.keeps (h : IS w A cap l) {S : Nat → Prop} (hk : Keeps S w w') (hS : ∀ b, b ∈ fpA A → ¬ S b) : IS w' A cap l := Sl.keeps h hk hS
theorem IS.frame (h : IS w A cap l) (hs : SameOn (fpA A) w w') : IS w' A cap l := Sl.frame h hs
theorem IS.lt (h : IS w A cap l) : ∀ b, b ∈ fpA A → b < w.heap.size := Sl.lt h
theorem IS.at_ (h : IS w A cap l) {j : Nat} (hj : j < l.length) : ∃ ad x, A = some ad ∧ l[j]? = some x ∧ ad.block < w.heap.size ∧ w.cell? (ad.add j) = some (.int .i64 x) ∧ ∀ k, w.frozen? (ad.add k) = false := by
 obtain ⟨ad, hA, hb, hc, hf⟩ := Sl.cell h (ints_get (List.getElem?_eq_getElem hj))
 exact ⟨ad, _, hA, List.getElem?_eq_getElem hj, hb, hc, hf⟩
theorem RdI.at_ (h : RdI w A l) {j : Nat} (hj : j < l.length) : ∃ ad x, A = some ad ∧ l[j]? = some x ∧ w.cell? (ad.add j) = some (.int .i64 x) := by
 obtain ⟨ad, hA, hc⟩ := h j _ (List.getElem?_eq_getElem hj)
 exact ⟨ad, _, hA, List.getElem?_eq_getElem hj, hc⟩
theorem IS.set (h : IS w A cap l) {ad : Addr} (hA : A = some ad) {j : Nat} (x : Int) (hj : j < l.length) : IS (w.setCell (ad.add j) (.int .i64 x)) A cap (l.set j x) := by
 have := Sl.set h hA j (.int .i64 x) (by simpa using hj)
 rw [ints_set] at this
 unfold IS; rw [List.length_set]; exact this
end
def RetI (w : World) (l : List Int) (e : Ending) (w' : World) : Prop :=
 ∃ A cap, e = .returned (.slice A l.length cap) ∧ IS w' A cap l ∧ Fresh w.heap.size A ∧ Below w.heap.size w w'
theorem IS.made (w : World) (n : Nat) (hn : n ≤ maxLen) : IS (w.alloc (.cells (madeCells #[.int .i64 0] n) tInt)) (some ⟨w.heap.size, 0, none⟩) n (List.replicate n 0) := by
 refine ⟨by simp, by simp, hn, .inr ⟨w.heap.size, 0, _, rfl, heap_alloc_new w _, by simp [size_madeCells], ?_⟩⟩
 rw [toList_madeCells_one]
 simp [ints]
def RdC (w : World) (A : Option Addr) (xs : List Value) : Prop := ∀ j u, xs[j]? = some u → ∃ ad, A = some ad ∧ w.cell? (ad.add j) = some u
theorem Sl.rdc {w : World} {e : TypeId} {sz n cap : Nat} {A : Option Addr} {xs : List Value} (h : Sl w e sz A n cap xs) : RdC w A xs := fun j u hj => by
 obtain ⟨ad, hA, _, hc, _⟩ := Sl.cell h hj
 exact ⟨ad, hA, hc⟩
theorem RdC.below {w w' : World} {A : Option Addr} {xs : List Value} (h : RdC w A xs) (hb : Below w.heap.size w w') : RdC w' A xs := fun j u hj => by
 obtain ⟨ad, hA, hc⟩ := h j u hj
 exact ⟨ad, hA, (hb.cell (World.block_lt_of_cell? w _ hc)).trans hc⟩
theorem RdC.alloc {w : World} {A : Option Addr} {xs : List Value} (h : RdC w A xs) (o : Obj) : RdC (w.alloc o) A xs := h.below ((Below.refl _ _).alloc (Nat.le_refl _) o)
theorem RdI.rdc {w : World} {A : Option Addr} {l : List Int} (h : RdI w A l) : RdC w A (ints l) := fun j u hj => by
 simp only [ints, List.getElem?_map, Option.map_eq_some_iff] at hj
 obtain ⟨x, hx, rfl⟩ := hj
 exact h j x hx
theorem ints_one (l : List Int) : ∀ u ∈ ints l, u.oneCell' = true := by
 intro u hu
 simp only [ints, List.mem_map] at hu
 obtain ⟨x, _, rfl⟩ := hu
 rfl
theorem RdC.nil (w : World) (A : Option Addr) : RdC w A [] := fun j u h => by simp at h
theorem Sl.laid (w : World) (e : TypeId) (sz n : Nat) (cs : Array Value) (hn : n ≤ maxLen) (hc : cs.size = n * sz) : Sl (w.alloc (.cells cs e)) e sz (some ⟨w.heap.size, 0, none⟩) n n cs.toList :=
 ⟨by simpa using hc, Nat.le_refl _, hn, .inr ⟨w.heap.size, 0, cs, rfl, heap_alloc_new w _, by omega, by rw [List.drop_zero]; exact List.take_of_length_le (by simp; omega)⟩⟩
section
variable {P : Program} (w : World)
theorem run_append_Sl_rd (t ty e : TypeId) (i : TypeInfo) (z : Value) (size bytes : Nat) (ht : P.underlying t = some (.slice e)) (hi : P.info? e = some i) (hz : i.zero = some z)
  (hsize : i.size = size) (hby : i.bytes = bytes) (hzs : z.cells.size = size) (hsz : 0 < size)
  (A : Option Addr) (n cap : Nat) (xs : List Value) (hs : Sl w e size A n cap xs)
  (B : Option Addr) (m c : Nat) (news : List Value) (hl : news.length = m * size) (hr : RdC w B news) (h1 : ∀ u ∈ news, u.oneCell' = true)
  (h63 : n + m ≤ maxLen) (hbytes : (n + m) * bytes ≤ 140737488355328) :
  ∃ A' cap' w', (Builtin.append_ #[t, t] ty #[.slice A n cap, .slice B m c]).run P w = .ok (.slice A' (n + m) cap') w' ∧ Sl w' e size A' (n + m) cap' (xs ++ news) ∧
    (∀ b, b ∈ fpA A' → b ∈ fpA A ∨ w.heap.size ≤ b) ∧ Keeps (· ∈ fpA A) w w' ∧ RdC w' A xs := by
 subst hsize
 subst hby
 have hsmall : n + m ≤ 9223372036854775807 := by simp only [maxLen] at h63; omega
 have hlen : (xs ++ news).length = (n + m) * i.size := by rw [List.length_append, hs.1, hl, Nat.add_mul]
 have hrd0 := hs.rdc
 obtain ⟨hxl, hnc, hcm, hh⟩ := hs
 rcases B with _ | a
 · -- nothing is appended
   have hn0 : news = [] := by
    cases news with
    | nil => rfl
    | cons u r => obtain ⟨ad, h, _⟩ := hr 0 u (by simp); cases h
   subst hn0
   have hm : m = 0 := by
    rcases Nat.eq_zero_or_pos m with h | h
    · exact h
    · have := Nat.mul_pos h hsz; simp at hl; omega
   subst hm
   refine ⟨A, cap, w, ?_, ?_, fun b hb => .inl hb, Keeps.refl _ _, hrd0⟩
   · rcases hh with ⟨rfl, rfl⟩ | ⟨g, off, cur, rfl, hg, hc, hx⟩
     · have : n = 0 := by omega
       subst this
       simp [Builtin.append_, run_underlying ht, sizeOf, typeInfo, hi, Builtin.lenOf, Builtin.firstCells]
     · simp [Builtin.append_, run_underlying ht, sizeOf, typeInfo, hi, Builtin.lenOf, Builtin.firstCells, hnc, storeCells]
   · have hS : Sl w e i.size A n cap xs := ⟨hxl, hnc, hcm, hh⟩
     rw [List.append_nil]; exact hS
 · have hnews : ∀ j u, news[j]? = some u → w.cell? (a.add j) = some u := by
    intro j u hj
    obtain ⟨ad, h, hc⟩ := hr j u hj
    obtain rfl := Option.some.inj h
    exact hc
   have grown : ∀ (old : Nat), old < n + m → ∀ (S : Nat → Prop),
     Sl (w.drew.alloc (.cells (xs.toArray ++ news.toArray ++ Builtin.zeroCells z.cells (grownCap w (n + m) old e - (n + m))) e)) e i.size (some ⟨w.heap.size, 0, none⟩) (n + m) (grownCap w (n + m) old e) (xs ++ news) ∧
     Keeps S w (w.drew.alloc (.cells (xs.toArray ++ news.toArray ++ Builtin.zeroCells z.cells (grownCap w (n + m) old e - (n + m))) e)) := by
    intro old ho S
    have hge := grownCap_ge w (n + m) old e
    have hcm : grownCap w (n + m) old e ≤ maxLen := grownCap_le_maxLen w (n + m) old e h63
    refine ⟨⟨hlen, hge, hcm, .inr ⟨w.heap.size, 0, _, rfl, heap_alloc_new w.drew _, ?_, ?_⟩⟩, ⟨rfl, rfl, rfl, by simp, fun k hk _ => Below.heap_alloc w.drew _ k hk⟩⟩
    · simp only [Array.size_append, List.size_toArray, size_zeroCells, hzs, hxl, hl, ← Nat.add_mul]
      rw [Nat.add_sub_of_le hge]; omega
    · simp only [Array.toList_append, List.append_assoc, List.drop_zero]
      rw [← List.append_assoc, ← hlen]
      exact List.take_left
   rcases hh with ⟨rfl, rfl⟩ | ⟨g, off, cur, rfl, hg, hc, htake⟩
   · have hn0 : n = 0 := by omega
     subst hn0
     have hx : xs = [] := List.eq_nil_of_length_eq_zero (by simpa using hxl)
     subst hx
     by_cases hm : m = 0
     · subst hm
       have hn : news = [] := List.eq_nil_of_length_eq_zero (by simpa using hl)
       subst hn
       refine ⟨none, 0, w, ?_, by simpa using Sl.nil w e i.size, by simp, Keeps.refl _ _, RdC.nil _ _⟩
       simp [Builtin.append_, run_underlying ht, sizeOf, typeInfo, hi, Builtin.lenOf, Builtin.firstCells, loadCells, loadCellsFrom]
     · have hr := run_append_nil (P := P) w t ty e i z ht hi hz a m c news hl hnews (by omega) (by omega) (by have hb := hbytes; simp only [Nat.zero_add] at hb; omega)
       have hgr := grown 0 (by omega) (· ∈ fpA none)
       simp only [Nat.zero_add, List.nil_append, Array.empty_append] at hgr ⊢
       exact ⟨_, _, _, hr, hgr.1, by simp, hgr.2, RdC.nil _ _⟩
   · by_cases hroom : n + m ≤ cap
     · have hfit : off + n * i.size + news.length ≤ cur.size := by
        rw [hl]
        have h2 := Nat.mul_le_mul_right i.size hroom
        rw [Nat.add_mul] at h2; omega
       have hf := run_firstCells_some (P := P) w i.size m a m c news hl hnews
       have hst := run_storeCells_at P g (off + n * i.size) e news 0 cur w hg (by simpa using hfit) h1
       simp only [Nat.add_zero] at hst
       refine ⟨some ⟨g, off, none⟩, cap, w.setRow g (cur.toList.take (off + n * i.size) ++ news ++ cur.toList.drop (off + n * i.size + news.length)).toArray, ?_, ⟨hlen, hroom, hcm, .inr ⟨g, off, _, rfl, setRow_heap w g cur _ e _ hg, ?_, ?_⟩⟩, fun b hb => .inl hb, ⟨rfl, rfl, rfl, by simp, fun k _ hk => setRow_other w g k _ (fun e => hk (by simp [e]))⟩, ?_⟩
       · simp [Builtin.append_, run_underlying ht, sizeOf, typeInfo, hi, Builtin.lenOf, hroom, hf, addr_lit, hst]
       · simp only [List.size_toArray, List.length_append, List.length_take, List.length_drop, Array.length_toList]
         omega
       · have hcl : off + n * i.size ≤ cur.toList.length := by simp; omega
         have e1 : (List.take (off + n * i.size) cur.toList).drop off = xs := by
          rw [List.drop_take, ← htake, Nat.add_sub_cancel_left]
         have e2 : off ≤ (List.take (off + n * i.size) cur.toList).length := by simp; omega
         rw [List.append_assoc, List.drop_append_of_le_length e2, e1, ← List.append_assoc, ← hlen]
         exact List.take_left
       · have hS' : Sl (w.setRow g (cur.toList.take (off + n * i.size) ++ news ++ cur.toList.drop (off + n * i.size + news.length)).toArray) e i.size (some ⟨g, off, none⟩) (n + m) cap (xs ++ news) := by
          refine ⟨hlen, hroom, hcm, .inr ⟨g, off, _, rfl, setRow_heap w g cur _ e _ hg, ?_, ?_⟩⟩
          · simp only [List.size_toArray, List.length_append, List.length_take, List.length_drop, Array.length_toList]
            omega
          · have hcl : off + n * i.size ≤ cur.toList.length := by simp; omega
            have e1 : (List.take (off + n * i.size) cur.toList).drop off = xs := by
             rw [List.drop_take, ← htake, Nat.add_sub_cancel_left]
            have e2 : off ≤ (List.take (off + n * i.size) cur.toList).length := by simp; omega
            rw [List.append_assoc, List.drop_append_of_le_length e2, e1, ← List.append_assoc, ← hlen]
            exact List.take_left
         intro j u hj
         exact hS'.rdc j u (by rw [List.getElem?_append_left (List.getElem?_eq_some_iff.1 hj).1]; exact hj)
     · have holds : ∀ j u, xs[j]? = some u → w.cell? ((⟨g, off, none⟩ : Addr).add j) = some u := by
        intro j u hj
        have hS : Sl w e i.size (some ⟨g, off, none⟩) n cap xs := ⟨hxl, hnc, hcm, .inr ⟨g, off, cur, rfl, hg, hc, htake⟩⟩
        obtain ⟨ad, h, _, hcell, _⟩ := hS.cell hj
        obtain rfl := Option.some.inj h
        exact hcell
       have hr := run_append_grow (P := P) w t ty e i z ht hi hz ⟨g, off, none⟩ n cap xs hxl holds a m c news hl hnews (by omega) (by omega) (growslice_fits (by omega) hbytes)
       have hgr := grown cap (by omega) (· ∈ fpA (some ⟨g, off, none⟩))
       refine ⟨_, _, _, hr, hgr.1, by simp, hgr.2, fun j u hj => ?_⟩
       have hk := hgr.2
       exact ⟨_, rfl, (World.cell?_of_block (w := w) (by rw [block_of_add]; exact Below.heap_alloc w.drew _ _ (Array.getElem?_eq_some_iff.1 hg).1)).trans (holds j u hj)⟩
theorem run_append_Sl (t ty e : TypeId) (i : TypeInfo) (z : Value) (size bytes : Nat) (ht : P.underlying t = some (.slice e)) (hi : P.info? e = some i) (hz : i.zero = some z)
  (hsize : i.size = size) (hby : i.bytes = bytes) (hzs : z.cells.size = size) (hsz : 0 < size)
  (A : Option Addr) (n cap : Nat) (xs : List Value) (hs : Sl w e size A n cap xs)
  (B : Option Addr) (m c : Nat) (news : List Value) (hl : news.length = m * size) (hr : RdC w B news) (h1 : ∀ u ∈ news, u.oneCell' = true)
  (h63 : n + m ≤ maxLen) (hbytes : (n + m) * bytes ≤ 140737488355328) :
  ∃ A' cap' w', (Builtin.append_ #[t, t] ty #[.slice A n cap, .slice B m c]).run P w = .ok (.slice A' (n + m) cap') w' ∧ Sl w' e size A' (n + m) cap' (xs ++ news) ∧
    (∀ b, b ∈ fpA A' → b ∈ fpA A ∨ w.heap.size ≤ b) ∧ Keeps (· ∈ fpA A) w w' := by
 obtain ⟨A', c', w', h1, h2, h3, h4, _⟩ := run_append_Sl_rd (P := P) w t ty e i z size bytes ht hi hz hsize hby hzs hsz A n cap xs hs B m c news hl hr h1 h63 hbytes
 exact ⟨A', c', w', h1, h2, h3, h4⟩
theorem wpList_append_Sl {ops : Array Oper} {rest : List Oper} {o : Oper} {a : Act} {Q : Exit → Act → World → Prop} (hgd : o.guard = none) (s x : Operand) (t : TypeId)
  (ho : o.op = .call { callee := .builtin .append, args := #[s, x], argTypes := #[t, t] })
  (e : TypeId) {z : Value} {size bytes : Nat} (ht : P.underlying t = some (.slice e)) (hinfo : (P.info? e).map (fun i => (i.zero, i.size, i.bytes)) = some (some z, size, bytes)) (hzs : z.cells.size = size) (hsz : 0 < size)
  {A : Option Addr} {n cap : Nat} {xs : List Value} (he : a.eval s = .slice A n cap) (hs : Sl w e size A n cap xs)
  {B : Option Addr} {m c : Nat} {news : List Value} (hx : a.eval x = .slice B m c) (hl : news.length = m * size) (hr : RdC w B news) (h1 : ∀ u ∈ news, u.oneCell' = true)
  (h63 : n + m ≤ maxLen) (hbytes : (n + m) * bytes ≤ 140737488355328)
  (h : ∀ A' cap' w', Sl w' e size A' (n + m) cap' (xs ++ news) → (∀ b, b ∈ fpA A' → b ∈ fpA A ∨ w.heap.size ≤ b) → Keeps (· ∈ fpA A) w w' → wpList P ops Q rest (a.put o.dst (.slice A' (n + m) cap')) w') : wpList P ops Q (o :: rest) a w := by
 obtain ⟨i, hi, hz, hz1, hz2⟩ := info_parts hinfo
 refine wpList_plain hgd fun K hK => ?_
 obtain ⟨A', cap', w', hrun, h2, h3, h4⟩ := run_append_Sl (P := P) w t o.type e i z size bytes ht hi hz hz1 hz2 hzs hsz A n cap xs hs B m c news hl hr h1 h63 hbytes
 unfold Oper.wp execOp
 simp only [ho, resolve, invoke, builtin, Sem.run_bind, Sem.run_pure, Result.andThen_ok, List.map_toArray, List.map_cons, List.map_nil, he, hx, hrun]
 exact hK _ _ (h A' cap' w' h2 h3 h4)
theorem wpList_make_Sl {ops : Array Oper} {rest : List Oper} {o : Oper} {a : Act} {Q : Exit → Act → World → Prop} (hgd : o.guard = none) (l c : Operand) (t : TypeId)
  (ho : o.op = .makeSlice t l c)
  (e : TypeId) {z : Value} {size bytes : Nat} (ht : P.underlying t = some (.slice e)) (hinfo : (P.info? e).map (fun i => (i.zero, i.size, i.bytes)) = some (some z, size, bytes))
  {kl kc : IntKind} {L C : Int} (n k : Nat) (hel : a.eval l = .int kl L) (hec : a.eval c = .int kc C) (hL : L = (n : Int)) (hC : C = (k : Int)) (hnk : n ≤ k) (hbytes : bytes * k ≤ 281474976710656) (h63 : k ≤ maxLen)
  (h : ∀ (G : Addr) w', Sl w' e size (some G) n k ((madeCells z.cells (k * size)).toList.take (n * size)) → w.heap.size ≤ G.block → Below w.heap.size w w' → wpList P ops Q rest (a.put o.dst (.slice (some G) n k)) w') : wpList P ops Q (o :: rest) a w := by
 obtain ⟨i, hi, hz, hz1, hz2⟩ := info_parts hinfo
 subst hz1 hz2 hL hC
 refine wpList_plain hgd fun K hK => ?_
 have h63' : (k : Int) ≤ 9223372036854775807 := by simp only [maxLen] at h63; omega
 have hb' : (i.bytes : Int) * (k : Int) ≤ 281474976710656 := by
  have h : ((i.bytes * k : Nat) : Int) ≤ 281474976710656 := by omega
  rwa [Int.natCast_mul] at h
 have hrun := run_make (P := P) w t e i z ht hi hz kl kc n k (by omega) (by omega) hb' h63'
 simp only [Int.toNat_natCast] at hrun
 unfold Oper.wp
 simp only [execOp, ho, hel, hec, hrun, Sem.run_bind, Sem.run_pure, Result.andThen_ok]
 refine hK _ _ (h ⟨w.heap.size, 0, none⟩ _ ⟨?_, hnk, h63, .inr ⟨w.heap.size, 0, _, rfl, heap_alloc_new w _, by simp [size_madeCells], by simp⟩⟩ (Nat.le_refl _) ((Below.refl _ _).alloc (Nat.le_refl _) _))
 simp only [List.length_take, Array.length_toList, size_madeCells]
 have := Nat.mul_le_mul_right i.size hnk
 omega
end
section
variable {w : World} {e : TypeId} {sz n cap : Nat} {A : Option Addr} {xs : List Value}
theorem Sl.cut (h : Sl w e sz A n cap xs) {l hgh m : Nat} (h1 : l ≤ hgh) (h2 : hgh ≤ n) (h3 : hgh ≤ m) (h4 : m ≤ cap) :
  Sl w e sz (if m = l then A else A.map (·.add (l * sz))) (hgh - l) (m - l) ((xs.drop (l * sz)).take ((hgh - l) * sz)) ∧ (∀ b, b ∈ fpA (if m = l then A else A.map (·.add (l * sz))) → b ∈ fpA A) ∧
   SubA A (if m = l then A else A.map (·.add (l * sz))) (l * sz) ((hgh - l) * sz) := by
 obtain ⟨hxl, hnc, hcm, hh⟩ := h
 refine ⟨?_, ?_, ?_⟩
 · refine ⟨?_, by omega, by omega, ?_⟩
   · have := Nat.mul_le_mul_right sz h2
     simp only [List.length_take, List.length_drop, hxl, Nat.sub_mul]; omega
   · rcases hh with ⟨rfl, rfl⟩ | ⟨g, off, cur, rfl, hg, hc, htake⟩
     · left; refine ⟨by split <;> rfl, by omega⟩
     · right
       have a1 := Nat.mul_le_mul_right sz h2
       have a2 := Nat.mul_le_mul_right sz h1
       have a3 := Nat.mul_le_mul_right sz h3
       have a4 := Nat.mul_le_mul_right sz h4
       by_cases hml : m = l
       · subst hml
         have : hgh = m := by omega
         subst this
         refine ⟨g, off, cur, by simp, hg, by simp; omega, by simp⟩
       · rw [if_neg hml]
         refine ⟨g, off + l * sz, cur, by simp [addr_lit], hg, by rw [Nat.sub_mul]; omega, ?_⟩
         rw [← htake, List.drop_take, List.take_take, List.drop_drop]
         congr 1
         rw [Nat.sub_mul]; omega
 · intro b hb
   split at hb
   · exact hb
   · cases A with
     | none => simp at hb
     | some a => simpa [block_of_add] using hb
 · intro hp
   have h0 : 0 < hgh - l := Nat.pos_of_mul_pos_right hp
   rw [if_neg (by omega)]
   rcases hh with ⟨rfl, rfl⟩ | ⟨g, off, cur, rfl, _⟩
   · omega
   · exact ⟨_, rfl, rfl⟩
def OptIs (v : Option Value) (n : Nat) (d : Prop) : Prop := match v with | none => d | some v => ∃ k L, v = .int k L ∧ L = (n : Int)
theorem optNone {n : Nat} {d : Prop} (h : d) : OptIs none n d := h
theorem optSome {k : IntKind} {L : Int} {n : Nat} {d : Prop} (h : L = (n : Int)) : OptIs (some (.int k L)) n d := ⟨k, L, rfl, h⟩
variable {P : Program} {ops : Array Oper} {rest : List Oper} {o : Oper} {a : Act} {Q : Exit → Act → World → Prop}
end
theorem info_int : (Tryz.prog.info? 3).map (fun i => (i.zero, i.size, i.bytes)) = some (some (.int .i64 0), 1, 8) := by kernel_rfl
theorem madeZeros (n : Nat) : (madeCells (Value.int .i64 0).cells (n * 1)).toList.take (n * 1) = ints (List.replicate n 0) := by
 show (madeCells #[Value.int .i64 0] (n * 1)).toList.take (n * 1) = _
 rw [toList_madeCells_one]; simp [ints]
def Qt (w w' : World) : Prop := ∃ n, w' = w.drewN n
set_option maxHeartbeats 400000 in
theorem eqIntS_any (A B : Option Addr) (c d : Nat) (l m : List Int) (w : World) (ha : RdI w A l) (hb : RdI w B m) (hl : l.length ≤ 17592186044416) :
  Calls Tryz.prog 19 #[.slice A l.length c, .slice B m.length d] w fun e w' => e = .returned (.bool (decide (l = m))) ∧ Qt w w' := by
 by_cases hlen : l.length = m.length
 · have h0 : ((l.length : Int) != (m.length : Int)) = false := by rw [hlen]; simp
   go_enter Tryz.func19, Tryz.ntmps19
   go_wp2
   go_loopw [5] (fun i wr => ∃ k n : Nat, k ≤ l.length ∧ i = .int .i64 k ∧ l.take k = m.take k ∧ wr = w.drewN n)
    (fun i _ => l.length - (intOf i).toNat)
   case atStart => exact ⟨0, 0, Nat.zero_le _, rfl, by simp, rfl⟩
   case round =>
    obtain ⟨k, n, hk, rfl, htk, rfl⟩ := hrel
    by_cases hlt : k < l.length
    · obtain ⟨ad, x, rfl, hx, hc⟩ := ha.at_ hlt
      obtain ⟨ad', y, rfl, hy, hc'⟩ := hb.at_ (j := k) (by omega)
      have hlt2 : (k : Int) < (m.length : Int) := by omega
      have HT := lH htk; have HL := lH hlen; have HX := lH hx; have HY := lH hy; clear htk hlen hx hy ha hb h0
      go_wp2
      go_quiet (fail)
      go_wp2
      · have hne : (x != y) = true := by assumption
        go_ret
        refine ⟨ret_bool ?_, _, World.drewN_drewN _ _ _⟩
        have : ¬ l = m := by
         intro e
         have h1 := HX.out; have h2 := HY.out
         rw [e, h2] at h1
         simp at hne; exact hne (Option.some.inj h1).symm
        simp [this]
      · have heq : (x != y) = false := by assumption
        go_roundw
        case rel =>
         refine ⟨k + 1, _, by omega, by go_num, ?_, rfl⟩
         have e : x = y := by simpa using heq
         rw [List.take_add_one, List.take_add_one, HT.out, HX.out, HY.out, e]
        case measure => simp [intOf]; omega
    · obtain rfl : k = l.length := by omega
      have HT := lH htk; clear htk
      go_wp2
      go_ret
      refine ⟨ret_bool ?_, _, rfl⟩
      have := HT.out
      rw [List.take_of_length_le (Nat.le_refl _), List.take_of_length_le (by omega)] at this
      simp [this]
 · have h0 : ((l.length : Int) != (m.length : Int)) = true := by simp; omega
   go_enter Tryz.func19, Tryz.ntmps19
   go_wp2
   go_ret
   refine ⟨ret_bool ?_, 0, rfl⟩
   have : ¬ l = m := fun e => hlen (by rw [e])
   simp [this]
theorem take_append_step {α : Type} {l m : List α} {k : Nat} {x : α} (hlen : m.length = l.length) (h : l[k]? = some x) :
  (l.take k ++ m.drop k).set k x = l.take (k + 1) ++ m.drop (k + 1) := by
 have hk : k < l.length := (List.getElem?_eq_some_iff.1 h).1
 have e : (l.take k).length = k := by simp; omega
 rw [List.set_append_right _ _ (by omega), e, Nat.sub_self, List.drop_eq_getElem_cons (by omega), List.set_cons_zero, List.take_add_one, h]
 simp
def marks (k n : Nat) : List Int := (List.range n).map fun i => ((k + i : Nat) : Int)
@[simp] theorem marks_length (k n : Nat) : (marks k n).length = n := by simp [marks]
theorem marks_get {k n j : Nat} (h : j < n) : (marks k n)[j]? = some ((k + j : Nat) : Int) := by simp [marks, h]
set_option maxHeartbeats 400000 in
theorem markIntS_any (A : Option Addr) (c : Nat) (l : List Int) (k : Nat) (w : World) (h : IS w A c l) (hl : k + l.length ≤ 17592186044416) :
  Calls Tryz.prog 21 #[.slice A l.length c, .int .i64 k] w fun e w' => e = .returned (.int .i64 ((k + l.length : Nat) : Int)) ∧ IS w' A c (marks k l.length) ∧ Keeps (· ∈ fpA A) w w' := by
 go_enter Tryz.func21, Tryz.ntmps21
 go_wp2
 go_loopw [1, 5] (fun q i wr => ∃ j : Nat, j ≤ l.length ∧ i = .int .i64 j ∧ q = .int .i64 ((k + j : Nat) : Int) ∧ IS wr A c ((marks k l.length).take j ++ l.drop j) ∧ Keeps (· ∈ fpA A) w wr)
  (fun _ i _ => l.length - (intOf i).toNat)
 case atStart => exact ⟨0, Nat.zero_le _, rfl, rfl, by simpa using h, Keeps.refl _ _⟩
 case round =>
  obtain ⟨j, hj, rfl, rfl, his, hk⟩ := hrel
  have hlen : ((marks k l.length).take j ++ l.drop j).length = l.length := by simp; omega
  by_cases hlt : j < l.length
  · obtain ⟨ad, y, hA, hy, hlt', hc', hf'⟩ := his.at_ (j := j) (by omega)
    subst hA
    have hf := hf' j
    have his' := his.set (ad := ad) rfl (j := j) ((k + j : Nat) : Int) (by omega)
    rw [take_append_step (by simp) (marks_get hlt)] at his'
    have HI := lH his'
    have hk' := lH (hk.setCell (p := ad.add j) (by rw [block_of_add]; simp) (.int .i64 ((k + j : Nat) : Int)))
    clear his' hf' his hy h hlen hk
    go_wp2
    go_roundw
    case rel => exact ⟨j + 1, by omega, by go_num, by go_num, HI.out, hk'.out⟩
    case measure => simp [intOf]; omega
  · obtain rfl : j = l.length := by omega
    have HI := lH his; clear his hlen
    go_wp2
    go_ret
    exact ⟨rfl, by have := HI.out; simpa [List.take_of_length_le] using this, hk⟩
set_option maxHeartbeats 400000 in
theorem heldIntS_any (A : Option Addr) (c n : Nat) (k : Nat) (w : World) (h : RdI w A (marks k n)) (hl : k + n ≤ 17592186044416) :
  Calls Tryz.prog 23 #[.slice A n c, .int .i64 k] w fun e w' => e = .returned (.int .i64 ((k + n : Nat) : Int)) ∧ w = w' := by
 go_enter Tryz.func23, Tryz.ntmps23
 go_wp2
 go_loop [1, 5] (fun q i => ∃ j : Nat, j ≤ n ∧ i = .int .i64 j ∧ q = .int .i64 ((k + j : Nat) : Int))
  (fun _ i => n - (intOf i).toNat)
 case atStart => exact ⟨0, Nat.zero_le _, rfl, rfl⟩
 case round =>
  obtain ⟨j, hj, rfl, rfl⟩ := hrel
  by_cases hlt : j < n
  · obtain ⟨ad, rfl, hc⟩ := h j _ (marks_get hlt)
    clear h
    go_wp2
    go_round
    case rel => exact ⟨j + 1, by omega, by go_num, by go_num⟩
    case measure => simp [intOf]; omega
  · obtain rfl : j = n := by omega
    go_wp2
    go_ret
    exact ⟨rfl, rfl⟩
def FreshL (B : Nat) (fp : List Nat) : Prop := ∀ b, b ∈ fp → B ≤ b
def LtL (B : Nat) (fp : List Nat) : Prop := ∀ b, b ∈ fp → b < B
theorem FreshL.mono {B B' : Nat} {fp : List Nat} (h : FreshL B fp) (hB : B' ≤ B) : FreshL B' fp := fun b hb => Nat.le_trans hB (h b hb)
theorem LtL.mono {B B' : Nat} {fp : List Nat} (h : LtL B fp) (hB : B ≤ B') : LtL B' fp := fun b hb => Nat.lt_of_lt_of_le (h b hb) hB
theorem apart_of {B : Nat} {f1 f2 : List Nat} (h1 : LtL B f1) (h2 : FreshL B f2) : ∀ b, b ∈ f1 → ¬ b ∈ f2 := fun b hb hb' => by
 have := h1 b hb; have := h2 b hb'; omega
theorem apart_of' {B : Nat} {f1 f2 : List Nat} (h1 : LtL B f1) (h2 : FreshL B f2) : ∀ b, b ∈ f2 → ¬ b ∈ f1 := fun b hb hb' => by
 have := h1 b hb'; have := h2 b hb; omega
def RdIV (w : World) (v : Value) (l : List Int) : Prop := ∃ A cap, v = .slice A l.length cap ∧ RdI w A l
def OwI (w : World) (v : Value) (l : List Int) (fp : List Nat) : Prop := ∃ A cap, v = .slice A l.length cap ∧ IS w A cap l ∧ fp = fpA A
theorem RdIV.below {w w' : World} {v : Value} {l : List Int} (h : RdIV w v l) (hb : Below w.heap.size w w') : RdIV w' v l := by
 obtain ⟨A, c, rfl, h⟩ := h; exact ⟨A, c, rfl, h.below hb⟩
theorem OwI.rd {w : World} {v : Value} {l : List Int} {fp : List Nat} (h : OwI w v l fp) : RdIV w v l := by
 obtain ⟨A, c, rfl, h, _⟩ := h; exact ⟨A, c, rfl, h.rd⟩
theorem OwI.below {w w' : World} {v : Value} {l : List Int} {fp : List Nat} (h : OwI w v l fp) (hb : Below w.heap.size w w') : OwI w' v l fp := by
 obtain ⟨A, c, rfl, h, e⟩ := h; exact ⟨A, c, rfl, h.below hb, e⟩
theorem OwI.keeps {w w' : World} {v : Value} {l : List Int} {fp : List Nat} (h : OwI w v l fp) {S : Nat → Prop} (hk : Keeps S w w') (hS : ∀ b, b ∈ fp → ¬ S b) : OwI w' v l fp := by
 obtain ⟨A, c, rfl, h, rfl⟩ := h; exact ⟨A, c, rfl, h.keeps hk hS, rfl⟩
theorem OwI.lt {w : World} {v : Value} {l : List Int} {fp : List Nat} (h : OwI w v l fp) : LtL w.heap.size fp := by
 obtain ⟨A, c, rfl, h, rfl⟩ := h; exact h.lt
def HeI (w : World) (v : Value) (n k : Nat) (fp : List Nat) : Prop := ∃ A cap, v = .slice A n cap ∧ IS w A cap (marks k n) ∧ fp = fpA A
theorem HeI.below {w w' : World} {v : Value} {n k : Nat} {fp : List Nat} (h : HeI w v n k fp) (hb : Below w.heap.size w w') : HeI w' v n k fp := by
 obtain ⟨A, c, rfl, h, e⟩ := h; exact ⟨A, c, rfl, h.below hb, e⟩
theorem HeI.keeps {w w' : World} {v : Value} {n k : Nat} {fp : List Nat} (h : HeI w v n k fp) {S : Nat → Prop} (hk : Keeps S w w') (hS : ∀ b, b ∈ fp → ¬ S b) : HeI w' v n k fp := by
 obtain ⟨A, c, rfl, h, rfl⟩ := h; exact ⟨A, c, rfl, h.keeps hk hS, rfl⟩
abbrev Hd := Option Addr × Nat × List Int
def Hd.val (h : Hd) : Value := .slice h.1 h.2.2.length h.2.1
def RdR (w : World) (A : Option Addr) (hs : List Hd) : Prop := (∀ i h, hs[i]? = some h → ∃ ad, A = some ad ∧ w.cell? (ad.add i) = some h.val) ∧ ∀ h, h ∈ hs → RdI w h.1 h.2.2
structure OwR (w : World) (A : Option Addr) (cap : Nat) (hs : List Hd) : Prop where
 sl : Sl w 23 1 A hs.length cap (hs.map Hd.val)
 rows : ∀ h, h ∈ hs → IS w h.1 h.2.1 h.2.2
 apart : hs.Pairwise fun h h' => ∀ b, b ∈ fpA h.1 → ¬ b ∈ fpA h'.1
 outer : ∀ h, h ∈ hs → ∀ b, b ∈ fpA h.1 → ¬ b ∈ fpA A
theorem RdR.below {w w' : World} {A : Option Addr} {hs : List Hd} (h : RdR w A hs) (hb : Below w.heap.size w w') : RdR w' A hs :=
 ⟨fun i x hx => let ⟨ad, hA, hc⟩ := h.1 i x hx; ⟨ad, hA, (hb.cell (World.block_lt_of_cell? w _ hc)).trans hc⟩, fun x hx => (h.2 x hx).below hb⟩
theorem OwR.rd {w : World} {A : Option Addr} {cap : Nat} {hs : List Hd} (h : OwR w A cap hs) : RdR w A hs := by
 refine ⟨fun i x hx => ?_, fun x hx => (h.rows x hx).rd⟩
 obtain ⟨ad, hA, _, hc, _⟩ := h.sl.cell (j := i) (u := x.val) (by simp [hx])
 exact ⟨ad, hA, hc⟩
def fpR (hs : List Hd) : List Nat := hs.flatMap fun h => fpA h.1
theorem mem_fpR {hs : List Hd} {b : Nat} : b ∈ fpR hs ↔ ∃ h, h ∈ hs ∧ b ∈ fpA h.1 := by simp [fpR]
theorem OwR.lt {w : World} {A : Option Addr} {cap : Nat} {hs : List Hd} (h : OwR w A cap hs) : ∀ b, b ∈ fpA A ++ fpR hs → b < w.heap.size := by
 intro b hb
 rcases List.mem_append.1 hb with hb | hb
 · exact h.sl.lt b hb
 · obtain ⟨x, hx, hb⟩ := mem_fpR.1 hb
   exact (h.rows x hx).lt b hb
theorem OwR.below {w w' : World} {A : Option Addr} {cap : Nat} {hs : List Hd} (h : OwR w A cap hs) (hb : Below w.heap.size w w') : OwR w' A cap hs :=
 ⟨h.sl.below hb, fun x hx => (h.rows x hx).below hb, h.apart, h.outer⟩
theorem OwR.keeps {w w' : World} {A : Option Addr} {cap : Nat} {hs : List Hd} (h : OwR w A cap hs) {S : Nat → Prop} (hk : Keeps S w w') (hS : ∀ b, b ∈ fpA A ++ fpR hs → ¬ S b) : OwR w' A cap hs :=
 ⟨h.sl.keeps hk fun b hb => hS b (List.mem_append_left _ hb), fun x hx => (h.rows x hx).keeps hk fun b hb => hS b (List.mem_append_right _ (mem_fpR.2 ⟨x, hx, hb⟩)), h.apart, h.outer⟩
def RdRV (w : World) (v : Value) (L : List (List Int)) : Prop := ∃ A cap hs, v = .slice A L.length cap ∧ L = hs.map (fun h : Hd => h.2.2) ∧ RdR w A hs
def OwRV (w : World) (v : Value) (L : List (List Int)) (fp : List Nat) : Prop := ∃ A cap hs, v = .slice A L.length cap ∧ L = hs.map (fun h : Hd => h.2.2) ∧ OwR w A cap hs ∧ fp = fpA A ++ fpR hs
theorem RdRV.below {w w' : World} {v : Value} {L : List (List Int)} (h : RdRV w v L) (hb : Below w.heap.size w w') : RdRV w' v L := by
 obtain ⟨A, c, hs, rfl, hL, h⟩ := h; exact ⟨A, c, hs, rfl, hL, h.below hb⟩
theorem OwRV.rd {w : World} {v : Value} {L : List (List Int)} {fp : List Nat} (h : OwRV w v L fp) : RdRV w v L := by
 obtain ⟨A, c, hs, rfl, hL, h, _⟩ := h; exact ⟨A, c, hs, rfl, hL, h.rd⟩
theorem OwRV.below {w w' : World} {v : Value} {L : List (List Int)} {fp : List Nat} (h : OwRV w v L fp) (hb : Below w.heap.size w w') : OwRV w' v L fp := by
 obtain ⟨A, c, hs, rfl, hL, h, e⟩ := h; exact ⟨A, c, hs, rfl, hL, h.below hb, e⟩
theorem OwRV.keeps {w w' : World} {v : Value} {L : List (List Int)} {fp : List Nat} (h : OwRV w v L fp) {S : Nat → Prop} (hk : Keeps S w w') (hS : ∀ b, b ∈ fp → ¬ S b) : OwRV w' v L fp := by
 obtain ⟨A, c, hs, rfl, hL, h, rfl⟩ := h; exact ⟨A, c, hs, rfl, hL, h.keeps hk hS, rfl⟩
theorem OwRV.lt {w : World} {v : Value} {L : List (List Int)} {fp : List Nat} (h : OwRV w v L fp) : LtL w.heap.size fp := by
 obtain ⟨A, c, hs, rfl, hL, h, rfl⟩ := h; exact h.lt
def marksR : Nat → List Nat → List (List Int)
 | _, [] => []
 | k, n :: ns => marks k n :: marksR (k + n) ns
def HeRV (w : World) (v : Value) (L : List (List Int)) (k : Nat) (fp : List Nat) : Prop := OwRV w v (marksR k (L.map List.length)) fp
theorem HeRV.below {w w' : World} {v : Value} {L : List (List Int)} {k : Nat} {fp : List Nat} (h : HeRV w v L k fp) (hb : Below w.heap.size w w') : HeRV w' v L k fp := OwRV.below h hb
theorem HeRV.keeps {w w' : World} {v : Value} {L : List (List Int)} {k : Nat} {fp : List Nat} (h : HeRV w v L k fp) {S : Nat → Prop} (hk : Keeps S w w') (hS : ∀ b, b ∈ fp → ¬ S b) : HeRV w' v L k fp := OwRV.keeps h hk hS
end Go.Proofs.YtpkmjenoniedjaaGreat
namespace Go.Proofs.YtpkmjenoniedjaaGreat
abbrev Nd := Int × Int × ByteArray
def noName : ByteArray := ⟨#[]⟩
inductive Tr where
 | leaf (n : Nd)
 | node (p : Bool) (a b : Tr)
def kd (p : Bool) : Int := if p then 16 else 15
def joinNd (p : Bool) : Nd := (kd p, 0, noName)
def flat : Tr → List Nd
 | .leaf n => [n]
 | .node p a b => flat a ++ (flat b ++ [joinNd p])
def sz (t : Tr) : Nat := (flat t).length
def kindTy (k : Int) : Int × Int :=
 if k = 2 then (2, 2) else if k = 3 ∨ k = 11 then (1, 2) else if k = 4 ∨ k = 12 then (1, 0) else if k = 5 ∨ k = 9 then (2, 1) else if k = 6 ∨ k = 10 then (0, 1) else (1, 1)
def leafTy (n : Nd) : Int × Int := if n.1 = 1 then (n.2.1, n.2.1) else kindTy n.1
def leafB (n : Nd) : Bool := decide (n.2.2 = noName ∧ ((n.1 = 1 ∧ 0 ≤ n.2.1 ∧ n.2.1 ≤ 12) ∨ ((n.1 = 7 ∨ n.1 = 13) ∧ 0 ≤ n.2.1 ∧ n.2.1 ≤ 96) ∨ (2 ≤ n.1 ∧ n.1 ≤ 14 ∧ n.1 ≠ 7 ∧ n.1 ≠ 13 ∧ n.2.1 = 0)))
def joinTy (p : Bool) (a b : Int × Int) : Int × Int := if p then (a.1 + b.1, a.2 + b.2) else (a.1, b.2)
def ty : Tr → Int × Int
 | .leaf n => leafTy n
 | .node p a b => joinTy p (ty a) (ty b)
def isJoin (n : Nd) : Prop := n.1 = 15 ∨ n.1 = 16
instance (n : Nd) : Decidable (isJoin n) := by unfold isJoin; exact inferInstance
open Go.RowKit
abbrev tNd : TypeId := 69
def nc (n : Nd) : List Value := [.int .i64 n.1, .int .i64 n.2.1, .string n.2.2]
def ncs : List Nd → List Value
 | [] => []
 | n :: r => nc n ++ ncs r
@[simp] theorem ncs_length (l : List Nd) : (ncs l).length = l.length * 3 := by
  induction l with
  | nil => rfl
  | cons n r ih => simp only [ncs, nc, List.length_append, List.length_cons, List.length_nil, ih]; omega
theorem ncs_get {l : List Nd} {j : Nat} {n : Nd} (h : l[j]? = some n) : (ncs l)[j * 3]? = some (.int .i64 n.1) ∧ (ncs l)[j * 3 + 1]? = some (.int .i64 n.2.1) ∧ (ncs l)[j * 3 + 2]? = some (.string n.2.2) := by
 induction l generalizing j with
 | nil => simp at h
 | cons a r ih =>
   cases j with
   | zero =>
     obtain rfl : a = n := by simpa using h
     simp [ncs, nc]
   | succ j =>
     have := ih (j := j) (by simpa using h)
     have hl : (nc a).length = 3 := rfl
     simp only [ncs]
     rw [List.getElem?_append_right (by omega), List.getElem?_append_right (by omega), List.getElem?_append_right (by omega), hl]
     rw [show (j + 1) * 3 - 3 = j * 3 by omega, show (j + 1) * 3 + 1 - 3 = j * 3 + 1 by omega, show (j + 1) * 3 + 2 - 3 = j * 3 + 2 by omega]
     exact this
def RdN (w : World) (A : Option Addr) (l : List Nd) : Prop := RdC w A (ncs l)
def NS (w : World) (A : Option Addr) (cap : Nat) (l : List Nd) : Prop := Sl w tNd 3 A l.length cap (ncs l)
section
variable {w w' : World} {A : Option Addr} {cap : Nat} {l : List Nd}
theorem add_next (ad : Addr) (n i : Nat) (hi : 0 < i) : ad.add (n + i) = ⟨(ad.add n).block, (ad.add n).off + i, none⟩ := by
 unfold Addr.add
 have : ¬ n + i = 0 := by omega
 rw [if_neg this]
 by_cases h : n = 0 <;> simp [h, Nat.add_assoc]
theorem RdN.at_ (h : RdN w A l) {j : Nat} (hj : j < l.length) : ∃ ad k v s, A = some ad ∧ l[j]? = some (k, v, s) ∧ w.cell? (ad.add (j * 3)) = some (.int .i64 k) ∧ w.cell? ⟨(ad.add (j * 3)).block, (ad.add (j * 3)).off + 1, none⟩ = some (.int .i64 v) ∧ w.cell? ⟨(ad.add (j * 3)).block, (ad.add (j * 3)).off + 2, none⟩ = some (.string s) := by
 obtain ⟨n, hn⟩ : ∃ n, l[j]? = some n := ⟨_, List.getElem?_eq_getElem hj⟩
 obtain ⟨h0, h1, h2⟩ := ncs_get hn
 obtain ⟨ad, hA, c0⟩ := h _ _ h0
 obtain ⟨ad1, hA1, c1⟩ := h _ _ h1
 obtain ⟨ad2, hA2, c2⟩ := h _ _ h2
 rw [hA] at hA1 hA2
 obtain rfl := Option.some.inj hA1
 obtain rfl := Option.some.inj hA2
 obtain ⟨k, v, s⟩ := n
 rw [add_next _ _ 1 (by omega)] at c1
 rw [add_next _ _ 2 (by omega)] at c2
 exact ⟨ad, k, v, s, hA, hn, c0, c1, c2⟩
theorem RdN.below (h : RdN w A l) (hb : Below w.heap.size w w') : RdN w' A l := RdC.below h hb
theorem RdN.nil (w : World) (A : Option Addr) : RdN w A [] := RdC.nil w A
theorem NS.rd (h : NS w A cap l) : RdN w A l := Sl.rdc h
theorem NS.below (h : NS w A cap l) (hb : Below w.heap.size w w') : NS w' A cap l := Sl.below h hb
theorem NS.keeps (h : NS w A cap l) {S : Nat → Prop} (hk : Keeps S w w') (hS : ∀ b, b ∈ fpA A → ¬ S b) : NS w' A cap l := Sl.keeps h hk hS
theorem NS.lt (h : NS w A cap l) : ∀ b, b ∈ fpA A → b < w.heap.size := Sl.lt h
theorem NS.at_ (h : NS w A cap l) {j : Nat} (hj : j < l.length) : ∃ ad, A = some ad ∧ ad.block < w.heap.size ∧ ∀ k, w.frozen? (ad.add k) = false := by
 obtain ⟨n, hn⟩ : ∃ n, l[j]? = some n := ⟨_, List.getElem?_eq_getElem hj⟩
 obtain ⟨ad, hA, hb, _, hf⟩ := Sl.cell h (ncs_get hn).1
 exact ⟨ad, hA, hb, hf⟩
end
def RdTm (w : World) (v : Value) (l : List Nd) : Prop := ∃ A cap, v = .agg #[.slice A l.length cap] ∧ RdN w A l
def OwTm (w : World) (v : Value) (l : List Nd) (fp : List Nat) : Prop := ∃ A cap, v = .agg #[.slice A l.length cap] ∧ NS w A cap l ∧ fp = fpA A
section
variable {w w' : World} {v : Value} {l : List Nd} {fp : List Nat}
theorem RdTm.below (h : RdTm w v l) (hb : Below w.heap.size w w') : RdTm w' v l := by obtain ⟨A, c, rfl, h⟩ := h; exact ⟨A, c, rfl, h.below hb⟩
theorem OwTm.rd (h : OwTm w v l fp) : RdTm w v l := by obtain ⟨A, c, rfl, h, _⟩ := h; exact ⟨A, c, rfl, h.rd⟩
theorem OwTm.below (h : OwTm w v l fp) (hb : Below w.heap.size w w') : OwTm w' v l fp := by obtain ⟨A, c, rfl, h, e⟩ := h; exact ⟨A, c, rfl, h.below hb, e⟩
theorem OwTm.keeps (h : OwTm w v l fp) {S : Nat → Prop} (hk : Keeps S w w') (hS : ∀ b, b ∈ fp → ¬ S b) : OwTm w' v l fp := by
 obtain ⟨A, c, rfl, h, rfl⟩ := h; exact ⟨A, c, rfl, h.keeps hk hS, rfl⟩
theorem OwTm.lt (h : OwTm w v l fp) : LtL w.heap.size fp := by obtain ⟨A, c, rfl, h, rfl⟩ := h; exact h.lt
end
end Go.Proofs.YtpkmjenoniedjaaGreat
namespace Go.Proofs.YtpkmjenoniedjaaGreat
section
variable {P : Program} {ops : Array Oper} {md : Region.Mode} {S : World → Prop}
def YieldsS (P : Program) (ops : Array Oper) (S : World → Prop) (o : Oper) (v : Value) (a : Act) : Prop :=
 (Region.wanted o (yielded ops a.tmps) = true ∧ ∀ w, S w →
  (∃ w', (execOp a.eval o).run P w = .ok (.value v) w' ∧ S w') ∨ (∃ w', (execOp a.eval o).run P w = .ok .skip w' ∧ v = undef ∧ S w') ∨
  ∃ f args w', (execOp a.eval o).run P w = .ok (.enter f args) w' ∧ Calls P f args w' (fun e w'' => e = .returned v ∧ S w'')) ∨
 (Region.wanted o (yielded ops a.tmps) = false ∧ v = undef)
theorem YieldsS.of_same {o : Oper} {v : Value} {a a' : Act} (hy : YieldsS P ops S o v a) (he : execOp a'.eval o = execOp a.eval o)
  (hw : Region.wanted o (yielded ops a'.tmps) = Region.wanted o (yielded ops a.tmps)) : YieldsS P ops S o v a' := by
 unfold YieldsS at *
 rw [he, hw]
 exact hy
theorem YieldsS.put {oi oj : Oper} {v u : Value} {a : Act} (hy : YieldsS P ops S oi v a) (hap : oj.apart ops oi = true) (hsi : ∀ cs b, oi.op ≠ .select cs b) : YieldsS P ops S oi v (a.put oj.dst u) := by
 obtain ⟨h1, _, _⟩ := Oper.apart_spec hap
 exact hy.of_same (execOp_put oi hsi a oj.dst u h1) (wanted_put oi a oj.dst u h1)
theorem YieldsS.wpOp {i : Nat} {o : Oper} {v : Value} {a : Act} {Q : Exit → Act → World → Prop} (hi : ops[i]? = some o) (hy : YieldsS P ops S o v a) {K : Act → World → Prop} {w : World} (hS : S w) (h : ∀ w', S w' → K (a.put o.dst v) w') : wpOp P ops Q i K a w := by
 unfold Go.wpOp
 simp only [hi]
 rcases hy with ⟨hw, hv⟩ | ⟨hw, rfl⟩
 · simp only [hw, if_true]
   refine .inl ?_
   unfold Oper.wp
   rcases hv w hS with ⟨w', hr, hs⟩ | ⟨w', hr, rfl, hs⟩ | ⟨f, args, w', hr, hc⟩
   · rw [hr]; exact h _ hs
   · rw [hr]; exact h _ hs
   · rw [hr]
     exact hc.mono fun e w'' ⟨he, hs⟩ => by subst he; exact h _ hs
 · simp only [hw, Bool.false_eq_true, if_false]; exact h _ hS
end
end Go.Proofs.YtpkmjenoniedjaaGreat
namespace Go.Proofs.YtpkmjenoniedjaaGreat
section
variable {P : Program} {l : List Oper} {Q : Exit → Act → World → Prop} {md : Region.Mode} {S : World → Prop}
theorem at_drop {l l' : List Oper} {i : Nat} {o : Oper} (h : l.drop i = o :: l') : l.toArray[i]? = some o := by
 have := congrArg (·[0]?) h
 simpa [List.getElem?_drop] using this
theorem takeH (i : Nat) {oi : Oper} {v : Value} {fuel : Nat} {listed : Array Bool} {a : Act} {w : World} {l' : List Oper} (hd : l.drop i = oi :: l')
  (hs : Region.noSelect l.toArray = true) (hf : Region.free md l.toArray listed i = true) (hr : (Region.ready md l.toArray listed).contains i = true)
  (hQ : ∀ c a w, Q (.panic c) (a.put oi.dst v) w → Q (.panic c) a w) (hS : S w) (hw : Region.wanted oi (yielded l.toArray a.tmps) = true) (hy : ∀ w, S w → (execOp a.eval oi).run P w = .ok (.value v) w)
  (h : wpAnyH P md l.toArray Q S fuel (listed.setIfInBounds i true) (a.put oi.dst v) w) : wpAnyH P md l.toArray Q S (fuel + 1) listed a w :=
 wpAnyH_take (at_drop hd) hs hf hr hQ (.inl ⟨hw, hy⟩) hS h
theorem tkH (i : Nat) {oi : Oper} (v : Value) {fuel : Nat} {listed : Array Bool} {a : Act} {w : World} {l' : List Oper} (hd : l.drop i = oi :: l') (hS : S w) (hy : ∀ w, S w → (execOp a.eval oi).run P w = .ok (.value v) w)
 (h : wpAnyH P md l.toArray Q S fuel (listed.setIfInBounds i true) (a.put oi.dst v) w) (hs : Region.noSelect l.toArray = true := by kernel_rfl) (hf : Region.free md l.toArray listed i = true := by kernel_rfl) (hr : (Region.ready md l.toArray listed).contains i = true := by kernel_rfl)
 (hQ : ∀ c a w, Q (.panic c) (a.put oi.dst v) w → Q (.panic c) a w := by exact fun _ _ _ h => h) (hw : Region.wanted oi (yielded l.toArray a.tmps) = true := by rfl) : wpAnyH P md l.toArray Q S (fuel + 1) listed a w := takeH i hd hs hf hr hQ hS hw hy h
theorem offH (i : Nat) {oi : Oper} {fuel : Nat} {listed : Array Bool} {a : Act} {w : World} {l' : List Oper} (hd : l.drop i = oi :: l')
  (hs : Region.noSelect l.toArray = true) (hf : Region.free md l.toArray listed i = true) (hr : (Region.ready md l.toArray listed).contains i = true)
  (hQ : ∀ c a w, Q (.panic c) (a.put oi.dst undef) w → Q (.panic c) a w) (hS : S w) (hw : Region.wanted oi (yielded l.toArray a.tmps) = false)
  (h : wpAnyH P md l.toArray Q S fuel (listed.setIfInBounds i true) (a.put oi.dst undef) w) : wpAnyH P md l.toArray Q S (fuel + 1) listed a w :=
 wpAnyH_take (at_drop hd) hs hf hr hQ (.inr ⟨hw, rfl⟩) hS h
theorem oneH (i : Nat) {o : Oper} {fuel : Nat} {listed : Array Bool} {a : Act} {w : World} {l' : List Oper} (hd : l.drop i = o :: l') (hr : Region.ready md l.toArray listed = [i]) (hw : Region.wanted o (yielded l.toArray a.tmps) = true)
  (h : ∀ K : Act → World → Prop, (∀ a' w', S w' → wpAnyH P md l.toArray Q S fuel (listed.setIfInBounds i true) a' w' → K a' w') → o.wp P a w K Q) : wpAnyH P md l.toArray Q S (fuel + 1) listed a w := by
 refine wpAnyH_all hr (by simp) fun j hj => ?_
 obtain rfl := List.mem_singleton.1 hj
 unfold wpOp
 simp only [at_drop hd, hw, if_true]
 exact .inl (h _ fun a' w' h1 h2 => ⟨h1, h2⟩)
theorem callH (i : Nat) {o : Oper} {f : FuncId} {args : Array Value} {fuel : Nat} {listed : Array Bool} {a : Act} {w : World} {l' : List Oper} (hd : l.drop i = o :: l') (hr : Region.ready md l.toArray listed = [i]) (hw : Region.wanted o (yielded l.toArray a.tmps) = true)
  (hrun : (execOp a.eval o).run P w = .ok (.enter f args) w)
  (h : Calls P f args w fun e w' => ∃ v, e = .returned v ∧ S w' ∧ wpAnyH P md l.toArray Q S fuel (listed.setIfInBounds i true) (a.put o.dst v) w') : wpAnyH P md l.toArray Q S (fuel + 1) listed a w := by
 refine oneH i hd hr hw fun K hK => ?_
 unfold Oper.wp
 rw [hrun]
 exact h.mono fun e w' ⟨v, he, h1, h2⟩ => by subst he; exact hK _ _ h1 h2
theorem doneH {fuel : Nat} {listed : Array Bool} {a : Act} {w : World} (hr : Region.ready md l.toArray listed = []) (h : Q .normal a w) : wpAnyH P md l.toArray Q S fuel listed a w := wpAnyH_done hr h fuel
theorem beginH {id : Nat} {a : Act} {w : World} (S : World → Prop) (hm : P.follows .mixedOrders = true) (h : wpAnyH P .any l.toArray Q S l.toArray.size (Array.replicate l.toArray.size false) a w.drew) : (Code.region id l.toArray true).wp P Q a w := wp_region_held hm h
end
open Go.RowKit
def t_inB (n lo hi : Int) : Bool := decide (lo ≤ n ∧ n ≤ hi)
def hvB (k : Int) : Bool := decide (k = 7 ∨ k = 13)
def gvB (k v : Int) : Bool := if hvB k then t_inB v 0 96 else decide (v = 0)
theorem t_within_any (n lo hi : Int) (w : World) :
  Calls Tryz.prog 14 #[.int .i64 n, .int .i64 lo, .int .i64 hi] w fun e w' => e = .returned (.bool (t_inB n lo hi)) ∧ w' = w := by
 go_enter Tryz.func14, Tryz.ntmps14
 go_wp2
 all_goals go_ret
 all_goals (refine ⟨ret_bool ?_, rfl⟩; unfold t_inB; simp; try omega)
theorem t_l1In_any (n lo hi : Int) (w : World) :
  Calls Tryz.prog 9 #[.int .i64 n, .int .i64 lo, .int .i64 hi] w fun e w' => e = .returned (.bool (t_inB n lo hi)) ∧ w' = w := by
 go_enter Tryz.func9, Tryz.ntmps9
 go_wp2
 all_goals go_ret
 all_goals (refine ⟨ret_bool ?_, rfl⟩; unfold t_inB; simp; try omega)
theorem hasValue_any (k : Int) (w : World) :
  Calls Tryz.prog 83 #[.int .i64 k] w fun e w' => e = .returned (.bool (hvB k)) ∧ w' = w := by
 go_enter Tryz.func83, Tryz.ntmps83
 go_wp2
 all_goals go_ret
 all_goals (refine ⟨ret_bool ?_, rfl⟩; unfold hvB; by_cases h7 : k = 7 <;> by_cases h13 : k = 13 <;> simp_all)
theorem isGenerator_any (k : Int) (w : World) :
  Calls Tryz.prog 67 #[.int .i64 k] w fun e w' => e = .returned (.bool (t_inB k 3 14)) ∧ w' = w := by
 go_enter Tryz.func67, Tryz.ntmps67
 go_wp2_with (fail)
 refine (t_within_any _ _ _ _).mono ?_
 rintro e w' ⟨rfl, rfl⟩
 go_wp2_with (fail)
 go_ret
 exact ⟨rfl, rfl⟩
theorem isGeneratorValue_any (k v : Int) (w : World) :
  Calls Tryz.prog 68 #[.int .i64 k, .int .i64 v] w fun e w' => e = .returned (.bool (gvB k v)) ∧ w' = w := by
 have hb := hasValue_any k w
 unfold gvB
 cases hk : hvB k
 · rw [hk] at hb
   have HB := lH hb; clear hb hk
   go_enter Tryz.func68, Tryz.ntmps68
   go_wp2_with (fail)
   refine HB.out.mono ?_
   rintro e w' ⟨rfl, rfl⟩
   go_wp2_with (fail)
   go_ret
   exact ⟨rfl, rfl⟩
 · rw [hk] at hb
   have HB := lH hb; clear hb hk
   go_enter Tryz.func68, Tryz.ntmps68
   go_wp2_with (fail)
   refine HB.out.mono ?_
   rintro e w' ⟨rfl, rfl⟩
   go_wp2_with (fail)
   refine (t_within_any _ _ _ _).mono ?_
   rintro e w' ⟨rfl, rfl⟩
   go_wp2_with (fail)
   go_ret
   exact ⟨rfl, rfl⟩
set_option maxHeartbeats 1600000 in
theorem generatorWires_any (k : Int) (w : World) (h1 : 3 ≤ k) (h2 : k ≤ 14) :
  Calls Tryz.prog 69 #[.int .i64 k] w fun e w' => e = .returned (.agg #[.int .i64 (kindTy k).1, .int .i64 (kindTy k).2]) ∧ Below w.heap.size w w' := by
 have hc : k = 3 ∨ k = 4 ∨ k = 5 ∨ k = 6 ∨ k = 7 ∨ k = 8 ∨ k = 9 ∨ k = 10 ∨ k = 11 ∨ k = 12 ∨ k = 13 ∨ k = 14 := by omega
 rcases hc with rfl | rfl | rfl | rfl | rfl | rfl | rfl | rfl | rfl | rfl | rfl | rfl
 all_goals
  clear h1 h2
  go_enter Tryz.func69, Tryz.ntmps69
  go_wp2_with (fail)
  refine bodyPost_ret (v := .agg #[.int .i64 (kindTy _).1, .int .i64 (kindTy _).2]) (by simp [results, Tryz.results69, go_sem]; exact ⟨rfl, rfl⟩) rfl ⟨rfl, ?_⟩
  first
  | exact ((Below.refl _ _).alloc (Nat.le_refl _) _).alloc (by simp) _
  | exact (((Below.refl _ _).alloc (Nat.le_refl _) _).alloc (by simp) _).alloc (by simp; omega) _
section
variable {P : Program} {l : List Oper} {Q : Exit → Act → World → Prop} {md : Region.Mode} {S : World → Prop}
theorem beginB {id : Nat} {a : Act} {w : World} (hm : P.follows .mixedOrders = true) (h : ∀ W1, W1 = w.drew → wpAnyH P .any l.toArray Q (fun w' => Below W1.heap.size W1 w') l.toArray.size (Array.replicate l.toArray.size false) a W1) : (Code.region id l.toArray true).wp P Q a w :=
 beginH _ hm (h _ rfl)
theorem runH (i : Nat) {o : Oper} {v : Value} {fuel : Nat} {listed : Array Bool} {a : Act} {w w1 : World} {l' : List Oper} (hd : l.drop i = o :: l') (hr : Region.ready md l.toArray listed = [i]) (hw : Region.wanted o (yielded l.toArray a.tmps) = true)
  (hrun : (execOp a.eval o).run P w = .ok (.value v) w1) (hS : S w1) (h : wpAnyH P md l.toArray Q S fuel (listed.setIfInBounds i true) (a.put o.dst v) w1) : wpAnyH P md l.toArray Q S (fuel + 1) listed a w :=
 oneH i hd hr hw fun K hK => by
  unfold Oper.wp
  rw [hrun]
  exact hK _ _ hS h
theorem callOrH (i j : Nat) {oi oj : Oper} {f : FuncId} {args : Array Value} {vj : Value} {wj : World} {fuel : Nat} {listed : Array Bool} {a : Act} {w : World} {li lj : List Oper} (hdi : l.drop i = oi :: li) (hdj : l.drop j = oj :: lj)
  (hr : Region.ready md l.toArray listed = [i, j]) (hwi : Region.wanted oi (yielded l.toArray a.tmps) = true) (hwj : Region.wanted oj (yielded l.toArray a.tmps) = true)
  (hrun : (execOp a.eval oi).run P w = .ok (.enter f args) w) (hrunj : (execOp a.eval oj).run P w = .ok (.value vj) wj)
  (h1 : Calls P f args w fun e w' => ∃ v, e = .returned v ∧ S w' ∧ wpAnyH P md l.toArray Q S fuel (listed.setIfInBounds i true) (a.put oi.dst v) w')
  (hSj : S wj) (h2 : wpAnyH P md l.toArray Q S fuel (listed.setIfInBounds j true) (a.put oj.dst vj) wj) : wpAnyH P md l.toArray Q S (fuel + 1) listed a w := by
 refine wpAnyH_all hr (by simp) fun k hk => ?_
 have hk' : k = i ∨ k = j := by simpa using hk
 rcases hk' with rfl | rfl
 · unfold wpOp
   simp only [at_drop hdi, hwi, if_true]
   refine .inl ?_
   unfold Oper.wp
   rw [hrun]
   exact h1.mono fun e w' ⟨v, he, a1, a2⟩ => by subst he; exact ⟨a1, a2⟩
 · unfold wpOp
   simp only [at_drop hdj, hwj, if_true]
   refine .inl ?_
   unfold Oper.wp
   rw [hrunj]
   exact ⟨hSj, h2⟩
theorem appH (i : Nat) {o : Oper} {fuel : Nat} {listed : Array Bool} {a : Act} {w : World} {l' : List Oper} (hd : l.drop i = o :: l') (hr : Region.ready md l.toArray listed = [i]) (hw : Region.wanted o (yielded l.toArray a.tmps) = true)
  (s x : Operand) (t : TypeId) (ho : o.op = .call { callee := .builtin .append, args := #[s, x], argTypes := #[t, t] })
  (e : TypeId) {z : Value} {size bytes : Nat} (ht : P.underlying t = some (.slice e)) (hinfo : (P.info? e).map (fun i => (i.zero, i.size, i.bytes)) = some (some z, size, bytes)) (hzs : z.cells.size = size) (hsz : 0 < size)
  {A : Option Addr} {n cap : Nat} {xs : List Value} (he : a.eval s = .slice A n cap) (hs : Sl w e size A n cap xs)
  {B : Option Addr} {m c : Nat} {news : List Value} (hx : a.eval x = .slice B m c) (hl : news.length = m * size) (hrd : RdC w B news) (h1 : ∀ u ∈ news, u.oneCell' = true)
  (h63 : n + m ≤ maxLen) (hbytes : (n + m) * bytes ≤ 140737488355328)
  (h : ∀ A' cap' w', Sl w' e size A' (n + m) cap' (xs ++ news) → (∀ b, b ∈ fpA A' → b ∈ fpA A ∨ w.heap.size ≤ b) → Keeps (· ∈ fpA A) w w' → S w' ∧ wpAnyH P md l.toArray Q S fuel (listed.setIfInBounds i true) (a.put o.dst (.slice A' (n + m) cap')) w') : wpAnyH P md l.toArray Q S (fuel + 1) listed a w := by
 obtain ⟨i', hi, hz, hz1, hz2⟩ := info_parts hinfo
 obtain ⟨A', cap', w', hrun, h2, h3, h4⟩ := run_append_Sl (P := P) w t o.type e i' z size bytes ht hi hz hz1 hz2 hzs hsz A n cap xs hs B m c news hl hrd h1 h63 hbytes
 obtain ⟨hS, hh⟩ := h A' cap' w' h2 h3 h4
 refine runH i hd hr hw (w1 := w') (v := .slice A' (n + m) cap') ?_ hS hh
 unfold execOp
 simp only [ho, resolve, invoke, builtin, Sem.run_bind, Sem.run_pure, Result.andThen_ok, List.map_toArray, List.map_cons, List.map_nil, he, hx, hrun]
end
theorem name_yes {s : ByteArray} (h : (!s.toList.isEmpty) = false) : s = noName := by
 have h1 : s.toList = [] := by simpa using h
 have h2 : s.data.toList = [] := by rw [← h1]; exact (ByteArray.toList_eq s).symm ▸ rfl
 have h3 : s.data = #[] := by simpa using h2
 cases s; simp_all [noName]
theorem t_box2 {w : World} {B : Nat} {x y : Value} {t : TypeId} (h : w.heap[B]? = some (.cells #[x, y] t)) :
  (w.cell? ⟨B, 0, none⟩ = some x ∧ w.cell? ⟨B, 1, none⟩ = some y) ∧ (w.frozen? ⟨B, 0, none⟩ = false ∧ w.frozen? ⟨B, 1, none⟩ = false) := by
 refine ⟨⟨?_, ?_⟩, ?_, ?_⟩ <;> simp [World.cell?, World.frozen?, h]
theorem t_below_alloc (w : World) (o : Obj) : Below w.heap.size w (w.alloc o) := (Below.refl _ _).alloc (Nat.le_refl _) _
theorem below_drew {B : Nat} {a w : World} (h : Below B a w) : Below B a w.drew := below_drewN h 1
theorem t_box_below {w w' : World} {B : Nat} {o : Obj} (h : w.heap[B]? = some o) (hb : Below w.heap.size w w') : w'.heap[B]? = some o := (hb.block B (Array.getElem?_eq_some_iff.1 h).1).trans h
theorem t_box_keeps {w w' : World} {S : Nat → Prop} {B : Nat} {o : Obj} (h : w.heap[B]? = some o) (hk : Keeps S w w') (hS : ¬ S B) : w'.heap[B]? = some o := (hk.block B (Array.getElem?_eq_some_iff.1 h).1 hS).trans h
theorem t_box_lt {w : World} {B : Nat} {o : Obj} (h : w.heap[B]? = some o) : B < w.heap.size := (Array.getElem?_eq_some_iff.1 h).1
theorem two_boxes (w : World) (o o' : Obj) : Below w.heap.size w ((w.alloc o).alloc o') ∧ ((w.alloc o).alloc o').heap[w.heap.size]? = some o ∧ ((w.alloc o).alloc o').heap[w.heap.size + 1]? = some o' ∧ ((w.alloc o).alloc o').heap.size = w.heap.size + 2 := by
 refine ⟨((Below.refl _ _).alloc (Nat.le_refl _) _).alloc (by simp) _, t_box_below (heap_alloc_new w o) (t_below_alloc _ _), ?_, by simp⟩
 have := heap_alloc_new (w.alloc o) o'
 rwa [World.size_alloc] at this
theorem t_set2 {w : World} {B : Nat} {t : TypeId} {x y a b : Value} (h : w.heap[B]? = some (.cells #[x, y] t)) : ((w.setCell ⟨B, 0, none⟩ a).setCell ⟨B, 1, none⟩ b).heap[B]? = some (.cells #[a, b] t) ∧ Keeps (· = B) w ((w.setCell ⟨B, 0, none⟩ a).setCell ⟨B, 1, none⟩ b) := by
 refine ⟨by simp [World.setCell, Array.getElem?_modify, h], ?_⟩
 exact (((Keeps.refl (fun x => x = B) w).setCell (p := ⟨B, 0, none⟩) rfl _).setCell (p := ⟨B, 1, none⟩) rfl _)
theorem t_results_cell_tmp {P : Program} {fn : Func} {p u : Tmp} {ty : TypeId} (h : fn.results = #[.cell p ty, .tmp u]) (tmps : Array Value) (w : World) (g : Nat) (t : TypeId) (cs : Array Value) (fr : Nat × Nat) (d : TypeDesc)
  (hp : tmps.getD p undef = .pointer (some ⟨g, 0, none⟩)) (hg : w.heap[g]? = some (.cells cs t fr))
  (hu : P.underlying ty = some d) (hd : (match d with | .struct _ | .array _ _ => true | _ => false) = true) (hi : (P.info? ty).map (·.size) = some cs.size) :
  (results fn tmps).run P w = .ok (.tuple #[.agg cs, tmps.getD u undef]) w := by
 have hp' : tmps[p]?.getD undef = .pointer (some ⟨g, 0, none⟩) := by simpa using hp
 simp [results, h, hp', asAddr, run_loadVar_row w g t ty cs fr d hg hu hd hi]
abbrev tWires : TypeId := 105
abbrev tEd : TypeId := 57
abbrev tGr : TypeId := 25
abbrev Eg := Int × Int × List Int × List Int
abbrev EHd := Int × Int × Hd × Hd
abbrev Gr := Int × List Eg × List Int × List Int
instance decEg : DecidableEq Eg := inferInstance
instance decEgs : DecidableEq (List Eg) := inferInstance
instance decGr : DecidableEq Gr := inferInstance
def egOf (h : EHd) : Eg := (h.1, h.2.1, h.2.2.1.2.2, h.2.2.2.2.2)
def ec (h : EHd) : List Value := [.int .i64 h.1, .int .i64 h.2.1, Hd.val h.2.2.1, Hd.val h.2.2.2]
def ecs : List EHd → List Value
 | [] => []
 | h :: r => ec h ++ ecs r
theorem ecs_append (l m : List EHd) : ecs (l ++ m) = ecs l ++ ecs m := by
 induction l with
 | nil => rfl
 | cons n r ih => simp [ecs, ih]
@[simp] theorem ecs_length (l : List EHd) : (ecs l).length = l.length * 4 := by
  induction l with
  | nil => rfl
  | cons n r ih => simp only [ecs, ec, List.length_append, List.length_cons, List.length_nil, ih]; omega
theorem ecs_get {l : List EHd} {j : Nat} {n : EHd} (h : l[j]? = some n) : (ecs l)[j * 4]? = some (.int .i64 n.1) ∧ (ecs l)[j * 4 + 1]? = some (.int .i64 n.2.1) ∧ (ecs l)[j * 4 + 2]? = some (Hd.val n.2.2.1) ∧ (ecs l)[j * 4 + 3]? = some (Hd.val n.2.2.2) := by
 induction l generalizing j with
 | nil => simp at h
 | cons a r ih =>
   cases j with
   | zero =>
     obtain rfl : a = n := by simpa using h
     simp [ecs, ec]
   | succ j =>
     have := ih (j := j) (by simpa using h)
     have hl : (ec a).length = 4 := rfl
     simp only [ecs]
     rw [List.getElem?_append_right (by omega), List.getElem?_append_right (by omega), List.getElem?_append_right (by omega), List.getElem?_append_right (by omega), hl]
     rw [show (j + 1) * 4 - 4 = j * 4 by omega, show (j + 1) * 4 + 1 - 4 = j * 4 + 1 by omega, show (j + 1) * 4 + 2 - 4 = j * 4 + 2 by omega, show (j + 1) * 4 + 3 - 4 = j * 4 + 3 by omega]
     exact this
theorem ecs_set {l : List EHd} {j : Nat} (n : EHd) (h : j < l.length) : ((((ecs l).set (j * 4) (.int .i64 n.1)).set (j * 4 + 1) (.int .i64 n.2.1)).set (j * 4 + 2) (Hd.val n.2.2.1)).set (j * 4 + 3) (Hd.val n.2.2.2) = ecs (l.set j n) := by
 induction l generalizing j with
 | nil => simp at h
 | cons a r ih =>
   cases j with
   | zero => simp [ecs, ec]
   | succ j =>
     have := ih (j := j) (by simpa using h)
     have hl : (ec a).length = 4 := rfl
     simp only [ecs, List.set_cons_succ]
     rw [List.set_append_right _ _ (by omega), List.set_append_right _ _ (by omega), List.set_append_right _ _ (by omega), List.set_append_right _ _ (by omega), hl]
     rw [show (j + 1) * 4 - 4 = j * 4 by omega, show (j + 1) * 4 + 1 - 4 = j * 4 + 1 by omega, show (j + 1) * 4 + 2 - 4 = j * 4 + 2 by omega, show (j + 1) * 4 + 3 - 4 = j * 4 + 3 by omega]
     rw [this]
def eh : List EHd → List Hd
 | [] => []
 | h :: r => h.2.2.1 :: h.2.2.2 :: eh r
theorem eh_append (l m : List EHd) : eh (l ++ m) = eh l ++ eh m := by
 induction l with
 | nil => rfl
 | cons n r ih => simp [eh, ih]
theorem mem_eh {l : List EHd} {x : Hd} : x ∈ eh l ↔ ∃ h, h ∈ l ∧ (x = h.2.2.1 ∨ x = h.2.2.2) := by
 induction l with
 | nil => simp [eh]
 | cons n r ih =>
   simp only [eh, List.mem_cons, ih]
   constructor
   · rintro (h | h | ⟨y, hy, h⟩)
     · exact ⟨n, .inl rfl, .inl h⟩
     · exact ⟨n, .inl rfl, .inr h⟩
     · exact ⟨y, .inr hy, h⟩
   · rintro ⟨y, rfl | hy, h⟩
     · rcases h with h | h
       · exact .inl h
       · exact .inr (.inl h)
     · exact .inr (.inr ⟨y, hy, h⟩)
def RdE (w : World) (A : Option Addr) (hs : List EHd) : Prop := RdC w A (ecs hs) ∧ ∀ h, h ∈ hs → RdI w h.2.2.1.1 h.2.2.1.2.2 ∧ RdI w h.2.2.2.1 h.2.2.2.2.2
structure OwLs (w : World) (fp : List Nat) (ls : List Hd) : Prop where
 rows : ∀ h, h ∈ ls → IS w h.1 h.2.1 h.2.2
 apart : ls.Pairwise fun h h' => ∀ b, b ∈ fpA h.1 → ¬ b ∈ fpA h'.1
 outer : ∀ h, h ∈ ls → ∀ b, b ∈ fpA h.1 → ¬ b ∈ fp
section
variable {w w' : World} {A : Option Addr} {cap : Nat} {hs : List EHd} {fp : List Nat} {ls : List Hd}
theorem OwLs.below (h : OwLs w fp ls) (hb : Below w.heap.size w w') : OwLs w' fp ls := ⟨fun x hx => (h.rows x hx).below hb, h.apart, h.outer⟩
theorem OwLs.keeps (h : OwLs w fp ls) {S : Nat → Prop} (hk : Keeps S w w') (hS : ∀ b, b ∈ fpR ls → ¬ S b) : OwLs w' fp ls :=
 ⟨fun x hx => (h.rows x hx).keeps hk fun b hb => hS b (mem_fpR.2 ⟨x, hx, hb⟩), h.apart, h.outer⟩
theorem OwLs.lt (h : OwLs w fp ls) : ∀ b, b ∈ fpR ls → b < w.heap.size := fun b hb => by
 obtain ⟨x, hx, hb⟩ := mem_fpR.1 hb; exact (h.rows x hx).lt b hb
theorem OwLs.nil (w : World) (fp : List Nat) : OwLs w fp [] := ⟨fun h hh => (by cases hh), .nil, fun h hh => (by cases hh)⟩
theorem fpR_append (l m : List Hd) : fpR (l ++ m) = fpR l ++ fpR m := by simp [fpR]
theorem fpR_cons (x : Hd) (m : List Hd) : fpR (x :: m) = fpA x.1 ++ fpR m := by simp [fpR]
theorem OwLs.app (h : OwLs w fp ls) (hb : Below w.heap.size w w') {ms : List Hd} (hm : OwLs w' [] ms) (hf : FreshL w.heap.size (fpR ms)) (hlt : ∀ b, b ∈ fp → b < w.heap.size) : OwLs w' fp (ls ++ ms) := by
 refine ⟨fun y hy => ?_, ?_, fun y hy b hb1 hb2 => ?_⟩
 · rcases List.mem_append.1 hy with hy | hy
   · exact (h.rows y hy).below hb
   · exact hm.rows y hy
 · refine List.pairwise_append.2 ⟨h.apart, hm.apart, fun y hy z hz b hb1 hb2 => ?_⟩
   have := (h.rows y hy).lt b hb1
   have := hf b (mem_fpR.2 ⟨z, hz, hb2⟩)
   omega
 · rcases List.mem_append.1 hy with hy | hy
   · exact h.outer y hy b hb1 hb2
   · have := hf b (mem_fpR.2 ⟨y, hy, hb1⟩); have := hlt b hb2; omega
theorem OwLs.grow (h : OwLs w fp ls) {fp' : List Nat} (hf : ∀ b, b ∈ fp' → b ∈ fp ∨ w.heap.size ≤ b) (hk : Keeps (· ∈ fp) w w') : OwLs w' fp' ls := by
 refine ⟨fun x hx => (h.rows x hx).keeps hk fun b hb hb' => h.outer x hx b hb hb', h.apart, fun x hx b hb hb' => ?_⟩
 rcases hf b hb' with h1 | h1
 · exact h.outer x hx b hb h1
 · have := (h.rows x hx).lt b hb; omega
theorem OwLs.one {x : Hd} (hx : IS w x.1 x.2.1 x.2.2) : OwLs w [] [x] := ⟨fun y hy => by obtain rfl := List.mem_singleton.1 hy; exact hx, List.pairwise_singleton _ _, fun y _ b _ hb => by cases hb⟩
theorem OwLs.two {x y : Hd} (hx : IS w x.1 x.2.1 x.2.2) (hb : Below w.heap.size w w') (hy : IS w' y.1 y.2.1 y.2.2) (hf : Fresh w.heap.size y.1) : OwLs w' [] [x, y] :=
 (OwLs.one hx).app (ms := [y]) hb (OwLs.one hy) (fun b hb' => hf b (by simpa [fpR] using hb')) (fun b hb' => by cases hb')
theorem OwLs.cons (h : OwLs w fp ls) (hb : Below w.heap.size w w') {x : Hd} (hx : IS w' x.1 x.2.1 x.2.2) (hf : Fresh w.heap.size x.1) (hlt : ∀ b, b ∈ fp → b < w.heap.size) : OwLs w' fp (x :: ls) := by
 refine ⟨fun y hy => ?_, ?_, fun y hy b hb1 hb2 => ?_⟩
 · rcases List.mem_cons.1 hy with rfl | hy
   · exact hx
   · exact (h.rows y hy).below hb
 · refine List.pairwise_cons.2 ⟨fun y hy b hb1 hb2 => ?_, h.apart⟩
   have := (h.rows y hy).lt b hb2
   have := hf b hb1
   omega
 · rcases List.mem_cons.1 hy with rfl | hy
   · have := hf b hb1; have := hlt b hb2; omega
   · exact h.outer y hy b hb1 hb2
theorem OwLs.perm (h : OwLs w fp ls) {ms : List Hd} (hp : ms.Perm ls) : OwLs w fp ms :=
 ⟨fun x hx => h.rows x (hp.mem_iff.1 hx), (hp.pairwise_iff (fun hxy b hb1 hb2 => hxy b hb2 hb1)).2 h.apart, fun x hx => h.outer x (hp.mem_iff.1 hx)⟩
theorem RdE.below (h : RdE w A hs) (hb : Below w.heap.size w w') : RdE w' A hs := ⟨RdC.below h.1 hb, fun x hx => ⟨(h.2 x hx).1.below hb, (h.2 x hx).2.below hb⟩⟩
theorem RdE.nil (w : World) (A : Option Addr) : RdE w A [] := ⟨RdC.nil w A, fun x hx => by cases hx⟩
theorem RdE.at_ (h : RdE w A hs) {j : Nat} (hj : j < hs.length) : ∃ ad k v B b l C c m, A = some ad ∧ hs[j]? = some (k, v, (B, b, l), (C, c, m)) ∧
  (w.cell? (ad.add (j * 4)) = some (.int .i64 k) ∧ w.cell? ⟨(ad.add (j * 4)).block, (ad.add (j * 4)).off + 1, none⟩ = some (.int .i64 v) ∧ w.cell? ⟨(ad.add (j * 4)).block, (ad.add (j * 4)).off + 2, none⟩ = some (.slice B l.length b) ∧ w.cell? ⟨(ad.add (j * 4)).block, (ad.add (j * 4)).off + 3, none⟩ = some (.slice C m.length c)) ∧ RdI w B l ∧ RdI w C m := by
 obtain ⟨n, hn⟩ : ∃ n, hs[j]? = some n := ⟨_, List.getElem?_eq_getElem hj⟩
 obtain ⟨h0, h1, h2, h3⟩ := ecs_get hn
 obtain ⟨ad, hA, c0⟩ := h.1 _ _ h0
 obtain ⟨ad1, hA1, c1⟩ := h.1 _ _ h1
 obtain ⟨ad2, hA2, c2⟩ := h.1 _ _ h2
 obtain ⟨ad3, hA3, c3⟩ := h.1 _ _ h3
 rw [hA] at hA1 hA2 hA3
 obtain rfl := Option.some.inj hA1
 obtain rfl := Option.some.inj hA2
 obtain rfl := Option.some.inj hA3
 obtain ⟨k, v, ⟨B, b, l⟩, ⟨C, c, m⟩⟩ := n
 have hr := h.2 _ (List.mem_of_getElem? hn)
 rw [add_next _ _ 1 (by omega)] at c1
 rw [add_next _ _ 2 (by omega)] at c2
 rw [add_next _ _ 3 (by omega)] at c3
 exact ⟨ad, k, v, B, b, l, C, c, m, hA, hn, ⟨c0, c1, c2, c3⟩, hr.1, hr.2⟩
end
def RdGr (w : World) (v : Value) (g : Gr) : Prop := ∃ (A : Option Addr) (cap : Nat) (hs : List EHd) (a b : Hd), v = .agg #[.int .i64 g.1, .slice A hs.length cap, .slice a.1 a.2.2.length a.2.1, .slice b.1 b.2.2.length b.2.1] ∧ g.2.1 = hs.map egOf ∧ a.2.2 = g.2.2.1 ∧ b.2.2 = g.2.2.2 ∧ RdE w A hs ∧ RdI w a.1 a.2.2 ∧ RdI w b.1 b.2.2
def OwGr (w : World) (v : Value) (g : Gr) (fp : List Nat) : Prop := ∃ (A : Option Addr) (cap : Nat) (hs : List EHd) (a b : Hd), v = .agg #[.int .i64 g.1, .slice A hs.length cap, .slice a.1 a.2.2.length a.2.1, .slice b.1 b.2.2.length b.2.1] ∧ g.2.1 = hs.map egOf ∧ a.2.2 = g.2.2.1 ∧ b.2.2 = g.2.2.2 ∧ Sl w tEd 4 A hs.length cap (ecs hs) ∧ OwLs w (fpA A) (a :: b :: eh hs) ∧ fp = fpA A ++ fpR (a :: b :: eh hs)
section
variable {w w' : World} {v : Value} {g : Gr} {fp : List Nat}
theorem RdGr.below (h : RdGr w v g) (hb : Below w.heap.size w w') : RdGr w' v g := by
 obtain ⟨A, c, hs, a, b, rfl, e1, e2, e3, h1, h2, h3⟩ := h; exact ⟨A, c, hs, a, b, rfl, e1, e2, e3, h1.below hb, h2.below hb, h3.below hb⟩
theorem OwGr.rd (h : OwGr w v g fp) : RdGr w v g := by
 obtain ⟨A, c, hs, a, b, rfl, e1, e2, e3, h1, h2, _⟩ := h
 refine ⟨A, c, hs, a, b, rfl, e1, e2, e3, ⟨Sl.rdc h1, fun x hx => ⟨(h2.rows _ ?_).rd, (h2.rows _ ?_).rd⟩⟩, (h2.rows a (by simp)).rd, (h2.rows b (by simp)).rd⟩
 · exact List.mem_cons_of_mem _ (List.mem_cons_of_mem _ (mem_eh.2 ⟨x, hx, .inl rfl⟩))
 · exact List.mem_cons_of_mem _ (List.mem_cons_of_mem _ (mem_eh.2 ⟨x, hx, .inr rfl⟩))
theorem OwGr.below (h : OwGr w v g fp) (hb : Below w.heap.size w w') : OwGr w' v g fp := by
 obtain ⟨A, c, hs, a, b, rfl, e1, e2, e3, h1, h2, e⟩ := h; exact ⟨A, c, hs, a, b, rfl, e1, e2, e3, h1.below hb, h2.below hb, e⟩
theorem OwGr.keeps (h : OwGr w v g fp) {S : Nat → Prop} (hk : Keeps S w w') (hS : ∀ b, b ∈ fp → ¬ S b) : OwGr w' v g fp := by
 obtain ⟨A, c, hs, a, b, rfl, e1, e2, e3, h1, h2, rfl⟩ := h
 exact ⟨A, c, hs, a, b, rfl, e1, e2, e3, h1.keeps hk fun x hx => hS x (List.mem_append_left _ hx), h2.keeps hk fun x hx => hS x (List.mem_append_right _ hx), rfl⟩
theorem OwGr.lt (h : OwGr w v g fp) : LtL w.heap.size fp := by
 obtain ⟨A, c, hs, a, b, rfl, e1, e2, e3, h1, h2, rfl⟩ := h
 intro x hx
 rcases List.mem_append.1 hx with hx | hx
 · exact h1.lt x hx
 · exact h2.lt x hx
theorem RdGr.shape (h : RdGr w v g) : ∃ A n c B m d C k e, v = .agg #[.int .i64 g.1, .slice A n c, .slice B m d, .slice C k e] := by
 obtain ⟨A, c, hs, a, b, rfl, _⟩ := h; exact ⟨_, _, _, _, _, _, _, _, _, rfl⟩
theorem OwGr.shape (h : OwGr w v g fp) : ∃ A n c B m d C k e, v = .agg #[.int .i64 g.1, .slice A n c, .slice B m d, .slice C k e] := h.rd.shape
theorem OwGr.zero (w : World) : OwGr w (.agg #[.int .i64 0, .slice none 0 0, .slice none 0 0, .slice none 0 0]) (0, [], [], []) [] :=
 ⟨none, 0, [], (none, 0, []), (none, 0, []), rfl, rfl, rfl, rfl, Sl.nil _ _ _, ⟨fun x hx => by
  simp [eh] at hx; subst hx; exact Sl.nil _ _ _, by simp [eh], fun x hx b hb => by simp [eh] at hx; subst hx; simp at hb⟩, rfl⟩
theorem t_box4 {B : Nat} {x y z u : Value} {t : TypeId} (h : w.heap[B]? = some (.cells #[x, y, z, u] t)) :
  (w.cell? ⟨B, 0, none⟩ = some x ∧ w.cell? ⟨B, 1, none⟩ = some y ∧ w.cell? ⟨B, 2, none⟩ = some z ∧ w.cell? ⟨B, 3, none⟩ = some u) ∧ w.frozen? ⟨B, 0, none⟩ = false ∧ w.frozen? ⟨B, 1, none⟩ = false ∧ w.frozen? ⟨B, 2, none⟩ = false ∧ w.frozen? ⟨B, 3, none⟩ = false := by
 simp [World.cell?, World.frozen?, h]
end
def cntE : List Eg → Nat
 | [] => 0
 | e :: r => 2 + e.2.2.1.length + e.2.2.2.length + cntE r
def cntG (g : Gr) : Nat := cntE g.2.1 + g.2.2.1.length + g.2.2.2.length
def OkG (g : Gr) : Prop := (g.2.1.length ≤ 1048576 ∧ g.2.2.1.length ≤ 1048576 ∧ g.2.2.2.length ≤ 1048576) ∧ (∀ e, e ∈ g.2.1 → e.2.2.1.length ≤ 1048576 ∧ e.2.2.2.length ≤ 1048576) ∧ cntG g ≤ 8388608
def marksE : Nat → List Eg → List Eg
 | _, [] => []
 | k, e :: r => ((k : Int), ((k + 1 : Nat) : Int), marks (k + 2) e.2.2.1.length, marks (k + 2 + e.2.2.1.length) e.2.2.2.length) :: marksE (k + 2 + e.2.2.1.length + e.2.2.2.length) r
def marksG (k : Nat) (g : Gr) : Gr := (g.1, marksE k g.2.1, marks (k + cntE g.2.1) g.2.2.1.length, marks (k + cntE g.2.1 + g.2.2.1.length) g.2.2.2.length)
def HeGr (w : World) (v : Value) (g : Gr) (k : Nat) (fp : List Nat) : Prop := OwGr w v (marksG k g) fp
theorem HeGr.below {w w' : World} {v : Value} {g : Gr} {k : Nat} {fp : List Nat} (h : HeGr w v g k fp) (hb : Below w.heap.size w w') : HeGr w' v g k fp := OwGr.below h hb
theorem HeGr.keeps {w w' : World} {v : Value} {g : Gr} {k : Nat} {fp : List Nat} (h : HeGr w v g k fp) {S : Nat → Prop} (hk : Keeps S w w') (hS : ∀ b, b ∈ fp → ¬ S b) : HeGr w' v g k fp := OwGr.keeps h hk hS
theorem cntE_append (l m : List Eg) : cntE (l ++ m) = cntE l + cntE m := by
 induction l with
 | nil => simp [cntE]
 | cons e r ih => simp [cntE, ih]; omega
def egB (e : Eg) : Bool := t_inB e.1 3 14 && (gvB e.1 e.2.1 && decide (((e.2.2.1.length : Int), (e.2.2.2.length : Int)) = kindTy e.1))
def inW (n : Int) (l : List Int) : Bool := l.all fun x => t_inB x 0 (n - 1)
def edW : List Eg → List Int
 | [] => []
 | e :: r => e.2.2.1 ++ (e.2.2.2 ++ edW r)
def t_allW (g : Gr) : List Int := g.2.2.1 ++ (g.2.2.2 ++ edW g.2.1)
def fullW (n : Int) (l : List Int) : Bool := (List.range n.toNat).all fun w : Nat => l.contains (w : Int)
def grB (g : Gr) : Bool := (t_inB g.1 0 100 && (decide (g.2.1.length ≤ 60) && (decide (g.2.2.1.length ≤ 12) && decide (g.2.2.2.length ≤ 12)))) && (g.2.1.all egB && (inW g.1 (t_allW g) && fullW g.1 (t_allW g)))
theorem edW_append (l m : List Eg) : edW (l ++ m) = edW l ++ edW m := by
 induction l with
 | nil => rfl
 | cons e r ih => simp [edW, ih]
theorem inW_append (n : Int) (l m : List Int) : inW n (l ++ m) = (inW n l && inW n m) := by simp [inW]
theorem inW_iff {n : Int} {l : List Int} : inW n l = true ↔ ∀ x, x ∈ l → 0 ≤ x ∧ x < n := by
 unfold inW
 rw [List.all_eq_true]
 constructor
 · intro h x hx
   have := h x hx
   unfold t_inB at this
   have := of_decide_eq_true this
   omega
 · intro h x hx
   have := h x hx
   unfold t_inB
   exact decide_eq_true (by omega)
theorem inW_sub {n : Int} {l m : List Int} (h : inW n l = true) (hs : ∀ x, x ∈ m → x ∈ l) : inW n m = true := inW_iff.2 fun x hx => inW_iff.1 h x (hs x hx)
def seenM (n : Nat) (l : List Int) : List Bool := (List.range n).map fun w : Nat => l.contains (w : Int)
@[simp] theorem seenM_length (n : Nat) (l : List Int) : (seenM n l).length = n := by simp [seenM]
theorem seenM_get {n : Nat} {l : List Int} {w : Nat} (h : w < n) : (seenM n l)[w]? = some (l.contains (w : Int)) := by simp [seenM, h]
theorem seenM_nil (n : Nat) : seenM n [] = List.replicate n false := by
 apply List.ext_getElem?
 intro w
 by_cases h : w < n
 · rw [seenM_get h, List.getElem?_replicate, if_pos h]; rfl
 · rw [List.getElem?_eq_none (by simp; omega), List.getElem?_eq_none (by simp; omega)]
theorem contains_snoc (l : List Int) (x y : Int) : (l ++ [x]).contains y = (l.contains y || (x == y)) := by
 rw [Bool.eq_iff_iff, List.contains_iff_mem, Bool.or_eq_true, List.contains_iff_mem, List.mem_append, List.mem_singleton, beq_iff_eq]
 exact ⟨fun h => h.imp id Eq.symm, fun h => h.imp id Eq.symm⟩
theorem seenM_in {n w : Nat} {l : List Int} (h : w < n) : seenM n (l ++ [(w : Int)]) = (seenM n l).set w true := by
 apply List.ext_getElem?
 intro i
 rw [List.getElem?_set]
 by_cases hi : i < n
 · rw [seenM_get hi, contains_snoc]
   by_cases hw : w = i
   · subst hw; simp [hi]
   · rw [if_neg hw, seenM_get hi]
     have : ((w : Int) == (i : Int)) = false := by rw [beq_eq_false_iff_ne]; omega
     rw [this, Bool.or_false]
 · rw [List.getElem?_eq_none (by simp; omega)]
   split
   · rename_i h2; omega
   · rw [List.getElem?_eq_none (by simp; omega)]
theorem seenM_out {n : Nat} {l : List Int} {x : Int} (h : ¬ (0 ≤ x ∧ x < n)) : seenM n (l ++ [x]) = seenM n l := by
 unfold seenM
 apply List.map_congr_left
 intro w hw
 have hw' : w < n := List.mem_range.1 hw
 rw [contains_snoc]
 have : (x == (w : Int)) = false := by rw [beq_eq_false_iff_ne]; omega
 rw [this, Bool.or_false]
theorem seenM_old {n w : Nat} {l : List Int} (h : w < n) (hs : l.contains (w : Int) = true) : seenM n (l ++ [(w : Int)]) = seenM n l := by
 rw [seenM_in h]
 apply List.ext_getElem?
 intro i
 rw [List.getElem?_set]
 split
 · rename_i e; subst e; rw [seenM_get h, hs]; simp [h]
 · rfl
def seenC (n : Nat) (l : List Int) : Nat := (seenM n l).count true
theorem count_set_true : ∀ {s : List Bool} {w : Nat}, s[w]? = some false → (s.set w true).count true = s.count true + 1
 | b :: s, 0, h => by
   obtain rfl : b = false := by simpa using h
   simp
 | b :: s, w + 1, h => by
   have := count_set_true (s := s) (w := w) (by simpa using h)
   simp only [List.set_cons_succ, List.count_cons, this]
   omega
theorem seenC_le (n : Nat) (l : List Int) : seenC n l ≤ n := by
 have := List.count_le_length (a := true) (l := seenM n l)
 rw [seenM_length] at this; exact this
theorem seenC_new {n w : Nat} {l : List Int} (h : w < n) (hs : l.contains (w : Int) = false) : seenC n (l ++ [(w : Int)]) = seenC n l + 1 := by
 unfold seenC
 rw [seenM_in h]
 exact count_set_true (by rw [seenM_get h, hs])
theorem count_all : ∀ (s : List Bool), s.count true = s.length ↔ s.all id = true
 | [] => by simp
 | b :: s => by
   have ih := count_all s
   have hle := List.count_le_length (a := true) (l := s)
   cases b
   · simp; omega
   · simpa using ih
theorem seenC_full (n : Nat) (l : List Int) : (decide (seenC n l = n)) = (List.range n).all fun w : Nat => l.contains (w : Int) := by
 have h := count_all (seenM n l)
 rw [seenM_length] at h
 have e : (seenM n l).all id = (List.range n).all fun w : Nat => l.contains (w : Int) := by
  unfold seenM; rw [List.all_map]; rfl
 rw [Bool.eq_iff_iff, ← e, ← h]
 unfold seenC
 simp
def cntM (n : Nat) (l : List Int) : List Int := (List.range n).map fun w : Nat => (l.count (w : Int) : Int)
@[simp] theorem cntM_length (n : Nat) (l : List Int) : (cntM n l).length = n := by simp [cntM]
theorem cntM_get {n : Nat} {l : List Int} {w : Nat} (h : w < n) : (cntM n l)[w]? = some (l.count (w : Int) : Int) := by simp [cntM, h]
theorem cntM_nil (n : Nat) : cntM n [] = List.replicate n 0 := by
 apply List.ext_getElem?
 intro w
 by_cases h : w < n
 · rw [cntM_get h, List.getElem?_replicate, if_pos h]; rfl
 · rw [List.getElem?_eq_none (by simp; omega), List.getElem?_eq_none (by simp; omega)]
theorem cntM_step {n w : Nat} {l : List Int} (h : w < n) : cntM n (l ++ [(w : Int)]) = (cntM n l).set w ((l.count (w : Int) : Int) + 1) := by
 apply List.ext_getElem?
 intro i
 rw [List.getElem?_set]
 by_cases hi : i < n
 · rw [cntM_get hi, List.count_append]
   by_cases hw : w = i
   · subst hw; simp [hi]
   · rw [if_neg hw, cntM_get hi]
     have : List.count (i : Int) [(w : Int)] = 0 := List.count_eq_zero.2 fun hm => by
      have := List.mem_singleton.1 hm; omega
     rw [this, Nat.add_zero]
 · rw [List.getElem?_eq_none (by simp; omega)]
   split
   · rename_i h2; omega
   · rw [List.getElem?_eq_none (by simp; omega)]
theorem count_le (l : List Int) (x : Int) : l.count x ≤ l.length := List.count_le_length
def outW : List Eg → List Int
 | [] => []
 | e :: r => e.2.2.2 ++ outW r
def inpW : List Eg → List Int
 | [] => []
 | e :: r => e.2.2.1 ++ inpW r
def orgW (g : Gr) : List Int := g.2.2.1 ++ outW g.2.1
def dstW (g : Gr) : List Int := g.2.2.2 ++ inpW g.2.1
theorem mem_edW {l : List Eg} {x : Int} : x ∈ edW l ↔ x ∈ outW l ∨ x ∈ inpW l := by
 induction l with
 | nil => simp [edW, outW, inpW]
 | cons e r ih => simp only [edW, outW, inpW, List.mem_append, ih]; exact ⟨fun h => by rcases h with h | h | h | h <;> simp [h], fun h => by rcases h with (h | h) | (h | h) <;> simp [h]⟩
theorem mem_allW {g : Gr} {x : Int} : x ∈ t_allW g ↔ x ∈ orgW g ∨ x ∈ dstW g := by
 simp only [t_allW, orgW, dstW, List.mem_append, mem_edW]
 exact ⟨fun h => by rcases h with h | h | h | h <;> simp [h], fun h => by rcases h with (h | h) | (h | h) <;> simp [h]⟩
theorem outW_append (l m : List Eg) : outW (l ++ m) = outW l ++ outW m := by
 induction l with
 | nil => rfl
 | cons e r ih => simp [outW, ih]
theorem inpW_append (l m : List Eg) : inpW (l ++ m) = inpW l ++ inpW m := by
 induction l with
 | nil => rfl
 | cons e r ih => simp [inpW, ih]
def hgB (n : Int) (e : Eg) : Bool := egB e && (inW n e.2.2.1 && inW n e.2.2.2)
theorem hgB_all (n : Int) (l : List Eg) : l.all (hgB n) = (l.all egB && inW n (edW l)) := by
 induction l with
 | nil => rfl
 | cons e r ih =>
   rw [List.all_cons, List.all_cons, ih, edW, inW_append, inW_append, hgB]
   cases egB e <;> cases inW n e.2.2.1 <;> cases inW n e.2.2.2 <;> cases r.all egB <;> rfl
theorem kindTy_le {k : Int} (h1 : 3 ≤ k) (h2 : k ≤ 14) : (0 ≤ (kindTy k).1 ∧ (kindTy k).1 ≤ 2) ∧ (0 ≤ (kindTy k).2 ∧ (kindTy k).2 ≤ 2) ∧ 1 ≤ (kindTy k).1 + (kindTy k).2 := by
 have hk : k = 3 ∨ k = 4 ∨ k = 5 ∨ k = 6 ∨ k = 7 ∨ k = 8 ∨ k = 9 ∨ k = 10 ∨ k = 11 ∨ k = 12 ∨ k = 13 ∨ k = 14 := by omega
 rcases hk with rfl | rfl | rfl | rfl | rfl | rfl | rfl | rfl | rfl | rfl | rfl | rfl <;> decide
theorem egB_len {e : Eg} (h : egB e = true) : (e.2.2.1.length ≤ 2 ∧ e.2.2.2.length ≤ 2) ∧ 1 ≤ e.2.2.1.length + e.2.2.2.length := by
 unfold egB t_inB at h
 simp only [Bool.and_eq_true, decide_eq_true_eq] at h
 obtain ⟨⟨h1, h2⟩, _, h5⟩ := h
 have h3 : (e.2.2.1.length : Int) = (kindTy e.1).1 := congrArg Prod.fst h5
 have h4 : (e.2.2.2.length : Int) = (kindTy e.1).2 := congrArg Prod.snd h5
 have := kindTy_le h1 h2
 omega
end Go.Proofs.YtpkmjenoniedjaaGreat
namespace Go.Proofs.YtpkmjenoniedjaaGreat
def permGo : List Int → List Bool → Bool
 | [], _ => true
 | k :: r, seen => if 0 ≤ k ∧ k < seen.length ∧ seen.getD k.toNat true = false then permGo r (seen.set k.toNat true) else false
def permB (l : List Int) : Bool := permGo l (List.replicate l.length false)
theorem permGo_nodup : ∀ {l : List Int} {seen : List Bool}, permGo l seen = true → l.Nodup ∧ ∀ k, k ∈ l → seen.getD k.toNat true = false ∧ 0 ≤ k
 | [], _, _ => ⟨List.nodup_nil, fun k hk => by cases hk⟩
 | k :: r, seen, h => by
   unfold permGo at h
   split at h
   · rename_i hc
     obtain ⟨h1, h2⟩ := permGo_nodup h
     refine ⟨List.nodup_cons.2 ⟨fun hm => ?_, h1⟩, fun x hx => ?_⟩
     · have := (h2 k hm).1
       have hlt : k.toNat < seen.length := by omega
       simp [List.getD, hlt] at this
     · rcases List.mem_cons.1 hx with rfl | hx
       · exact ⟨hc.2.2, hc.1⟩
       · obtain ⟨a, b⟩ := h2 x hx
         refine ⟨?_, b⟩
         by_cases e : k.toNat = x.toNat
         · rw [← e]; exact hc.2.2
         · simpa [List.getD, List.getElem?_set, e] using a
   · cases h
def cnt (a : Int) : List Int → Nat
 | [] => 0
 | b :: r => (if b < a then 1 else 0) + cnt a r
open Go.RowKit
def mapL (tw : List Int) (l : List Int) : List Int := l.map fun w => tw.getD w.toNat 0
def mapE (tw : List Int) (e : Eg) : Eg := (e.1, e.2.1, mapL tw e.2.2.1, mapL tw e.2.2.2)
def mapG (tw : List Int) (n : Int) (g : Gr) : Gr := (n, g.2.1.map (mapE tw), mapL tw g.2.2.1, mapL tw g.2.2.2)
@[simp] theorem mapL_length (tw l : List Int) : (mapL tw l).length = l.length := by simp [mapL]
theorem mapL_take_step {tw l : List Int} {k : Nat} {x : Int} (h : l[k]? = some x) : mapL tw (l.take (k + 1)) = mapL tw (l.take k) ++ [tw.getD x.toNat 0] := by
 rw [List.take_add_one, h]; simp [mapL]
theorem perm_in {l : List Int} (h : permB l = true) : ∀ k, k ∈ l → 0 ≤ k ∧ k < l.length := by
 intro k hk
 obtain ⟨h1, h2⟩ := (permGo_nodup h).2 k hk
 refine ⟨h2, ?_⟩
 by_cases hlt : k.toNat < l.length
 · omega
 · rw [List.getD_eq_getElem?_getD, List.getElem?_eq_none (by simp; omega)] at h1
   simp at h1
theorem perm_nodup {l : List Int} (h : permB l = true) : l.Nodup := (permGo_nodup h).1
def lay {α : Type} (d : α) (p : List Int) (xs : List α) : Nat → List α
 | 0 => List.replicate xs.length d
 | k + 1 => (lay d p xs k).set (p.getD k 0).toNat (xs.getD k d)
section
variable {α β : Type} {d : α} {p : List Int} {xs : List α}
@[simp] theorem lay_length : ∀ k, (lay d p xs k).length = xs.length
  | 0 => by simp [lay]
  | k + 1 => by simp [lay, lay_length k]
theorem lay_map (f : α → β) : ∀ k, (lay d p xs k).map f = lay (f d) p (xs.map f) k
 | 0 => by simp [lay]
 | k + 1 => by
   simp only [lay, List.map_set, lay_map f k]
   congr 1
   rw [List.getD_eq_getElem?_getD, List.getD_eq_getElem?_getD, List.getElem?_map]
   cases xs[k]? <;> rfl
theorem lay_old {j : Nat} (hj : j < xs.length) : ∀ k, (∀ i, i < k → (p.getD i 0).toNat ≠ j) → (lay d p xs k)[j]? = some d
 | 0, _ => by simp [lay, hj]
 | k + 1, h => by
   rw [lay, List.getElem?_set, if_neg (h k (by omega))]
   exact lay_old hj k fun i hi => h i (by omega)
theorem set_perm {l : List α} {i : Nat} {x y : α} (h : l[i]? = some y) : l.Perm (y :: l.eraseIdx i) ∧ (l.set i x).Perm (x :: l.eraseIdx i) := by
 induction l generalizing i with
 | nil => simp at h
 | cons a r ih =>
   cases i with
   | zero =>
     obtain rfl : a = y := by simpa using h
     exact ⟨.refl _, .refl _⟩
   | succ i =>
     obtain ⟨h1, h2⟩ := ih (i := i) (by simpa using h)
     exact ⟨(h1.cons a).trans (.swap _ _ _), (h2.cons a).trans (.swap _ _ _)⟩
theorem lay_perm (hp : permB p = true) (hl : p.length = xs.length) : ∀ k, k ≤ xs.length → (lay d p xs k).Perm (xs.take k ++ List.replicate (xs.length - k) d)
 | 0, _ => by simp [lay]
 | k + 1, hk => by
   have ih := lay_perm hp hl k (by omega)
   have hnd := perm_nodup hp
   have hpk : p[k]? = some (p.getD k 0) := by rw [List.getD_eq_getElem?_getD, List.getElem?_eq_getElem (by omega)]; rfl
   have hin := perm_in hp _ (List.mem_of_getElem? hpk)
   have hxk : xs[k]? = some (xs.getD k d) := by rw [List.getD_eq_getElem?_getD, List.getElem?_eq_getElem (by omega)]; rfl
   have hold : (lay d p xs k)[(p.getD k 0).toNat]? = some d := by
    refine lay_old (by omega) k fun i hi e => ?_
    have hpi : p[i]? = some (p.getD i 0) := by rw [List.getD_eq_getElem?_getD, List.getElem?_eq_getElem (by omega)]; rfl
    have hin' := perm_in hp _ (List.mem_of_getElem? hpi)
    have e2 : p.getD i 0 = p.getD k 0 := by omega
    rw [e2, ← hpk] at hpi
    have := (List.getElem?_inj (by omega) hnd).1 hpi
    omega
   obtain ⟨h1, h2⟩ := set_perm (x := xs.getD k d) hold
   have h3 : (d :: (lay d p xs k).eraseIdx (p.getD k 0).toNat).Perm (d :: (xs.take k ++ List.replicate (xs.length - (k + 1)) d)) := by
    refine h1.symm.trans (ih.trans ?_)
    rw [show xs.length - k = (xs.length - (k + 1)) + 1 by omega, List.replicate_succ]
    exact List.perm_middle
   have h4 := h3.cons_inv
   rw [lay, List.take_add_one, hxk]
   refine h2.trans ((h4.cons _).trans ?_)
   show ((xs.getD k d) :: (xs.take k ++ _)).Perm (xs.take k ++ [xs.getD k d] ++ _)
   rw [List.append_assoc]
   exact List.perm_middle.symm
theorem lay_all (hp : permB p = true) (hl : p.length = xs.length) : (lay d p xs xs.length).Perm xs := by
 have := lay_perm (d := d) hp hl xs.length (Nat.le_refl _)
 simpa using this
end
theorem eh_perm {l m : List EHd} (h : l.Perm m) : (eh l).Perm (eh m) := by
 induction h with
 | nil => exact .refl _
 | cons x _ ih => exact (ih.cons _).cons _
 | swap x y l =>
   simp only [eh]
   exact (List.perm_append_comm (l₁ := [y.2.2.1, y.2.2.2]) (l₂ := [x.2.2.1, x.2.2.2])).append_right (eh l)
 | trans _ _ h1 h2 => exact h1.trans h2
def eg0 : Eg := (0, 0, [], [])
def renG (g : Gr) (ws es : List Int) : Gr := (g.1, lay eg0 es (g.2.1.map (mapE ws)) g.2.1.length, mapL ws g.2.2.1, mapL ws g.2.2.2)
end Go.Proofs.YtpkmjenoniedjaaGreat
namespace Go.Proofs.YtpkmjenoniedjaaGreat
open Go.ChangeShapes Go.WideShapes Go.ChangeAt Go.RowKit
theorem own : ownKnob Tryz.prog.godebug = none := by kernel_rfl
theorem laidOut : laidOutB Tryz.prog = true := by kernel_rfl
section
variable {H : Type} {enc : TypeId × Value → H} {P : Program} {W W' : World}
theorem trodAll_below (hl : laidOutB P = true) (hb : Below W.heap.size W W') : ∀ (ts : List TypeId) (vs : List Value) (ds : List (DataW H)) (p : List MemPlace),
  (∀ t ∈ ts, P.readableRec t = true ∧ t < P.types.size) → DataW.TrodAll enc P W 0 (fun _ => true) true ts vs ds p → (∀ x ∈ p, x.block < W.heap.size) →
  DataW.TrodAll enc P W' 0 (fun b => decide (b < W.heap.size)) true ts vs ds p
 | [], vs, ds, p, _, h, _ => by obtain ⟨rfl, rfl, rfl⟩ := trodAll_nil h; exact trodAll_mk0
 | t :: ts, vs, ds, p, hr, h, hp => by
   obtain ⟨v, vs', d, ds', p1, q1, rfl, rfl, rfl, h1, h2⟩ := trodAll_cons h
   exact trodAll_cons_mk (Below.trod hl (hr t (by simp)).1 (hr t (by simp)).2 h1 hb fun x hx => hp x (by simp [hx]))
    (trodAll_below hl hb ts vs' ds' q1 (fun t' ht' => hr t' (by simp [ht'])) h2 fun x hx => hp x (by simp [hx]))
theorem trodVars_below (hl : laidOutB P = true) (hb : Below W.heap.size W W') : ∀ (ns : List String) (gs : List (DataW H)) (p : List MemPlace),
  (∀ n ∈ ns, ∀ g t, P.globalNamed n = some g → (P.globals[g]?).map (·.type) = some t → P.readableRec t = true ∧ t < P.types.size) → DataW.TrodVars enc P W (fun _ => true) ns gs p → (∀ x ∈ p, x.block < W.heap.size) →
  DataW.TrodVars enc P W' (fun b => decide (b < W.heap.size)) ns gs p
 | [], [], p, _, h, _ => h
 | [], _ :: _, p, _, h, _ => by simp [DataW.TrodVars] at h
 | _ :: _, [], p, _, h, _ => by simp [DataW.TrodVars] at h
 | n :: ns, d :: ds, p, hr, h, hp => by
   obtain ⟨g, t, cs, fuel, p1, q1, h1, h2, h3, h4, h5, rfl⟩ := h
   have hg : g < W.heap.size := by
    simp only [World.var?, h1, Option.bind_some] at h3
    rcases Nat.lt_or_ge g W.heap.size with hlt | hge
    · exact hlt
    · rw [Array.getElem?_eq_none hge] at h3; simp at h3
   have hT : DataW.Trod enc P W 0 (fun _ => true) true t (.agg cs) d p1 := ⟨fuel, h4⟩
   obtain ⟨fuel', h4'⟩ := Below.trod hl (hr n (by simp) g t h1 h2).1 (hr n (by simp) g t h1 h2).2 hT hb fun x hx => hp x (by simp [hx])
   exact ⟨g, t, cs, fuel', p1, q1, h1, h2, var?_below hb h1 hg h3, h4', trodVars_below hl hb ns ds q1 (fun n' hn' => hr n' (by simp [hn'])) h5 fun x hx => hp x (by simp [hx]), rfl⟩
theorem post_true {f : Func} {s : ChangeSpec} {tB : TypeId} {args : Array Value} {ds gs : List (DataW H)} {before : List MemPlace} (hl : laidOutB P = true)
  (hW : DataW.Whole enc P f.params.toList s.vars false W args.toList ds gs before) (hb : Below W.heap.size W W')
  (hr : ∀ t ∈ f.params.toList, P.readableRec t = true ∧ t < P.types.size)
  (hv : ∀ n ∈ s.vars, ∀ g t, P.globalNamed n = some g → (P.globals[g]?).map (·.type) = some t → P.readableRec t = true ∧ t < P.types.size)
  (hfn : s.fn H (ds ++ gs) = { results := [.lit (.bool true)], args := ds, vars := gs }) (hres : f.resultTypes = #[tB]) (htB : P.underlying tB = some .bool) :
  s.post enc P f false true false false W args (.bool true) W' := by
 have hW' := hW
 obtain ⟨p, q, hA, hV, rfl, _, _⟩ := hW
 have hlt : ∀ x ∈ p ++ q, x.block < W.heap.size := fun x hx => hW'.lt x hx
 refine ⟨ds, gs, p ++ q, [], p, q, hW', ?_, ?_, ?_, hb.frame _, fun h => by cases h⟩
 · rw [hfn, hres]; exact trodAll_cons_mk (shut_bool htB true) trodAll_mk0
 · rw [hfn]; exact trodAll_below hl hb _ _ _ _ hr hA fun x hx => hlt x (by simp [hx])
 · rw [hfn]; exact trodVars_below hl hb _ _ _ hv hV fun x hx => hlt x (by simp [hx])
end
set_option maxRecDepth 100000 in
theorem in_int {H : Type} {enc : TypeId × Value → H} {W : World} {v : Value} {d : DataW H} {p : List MemPlace} {base : Nat} (hv : Value.okWide Tryz.prog W .any base 3 v) (h : DataW.Trod enc Tryz.prog W 0 (fun _ => true) true 3 v d p) :
  ∃ n, v = .int .i64 n ∧ -9223372036854775808 ≤ n ∧ n ≤ 9223372036854775807 := by
 obtain ⟨n, rfl, rfl, rfl, wf⟩ := open_int Tryz.underlying3 hv h
 refine ⟨n, rfl, ?_⟩
 simp [Lit.wf, IntKind.min, IntKind.max, IntKind.signed, IntKind.bits] at wf
 omega
end Go.Proofs.YtpkmjenoniedjaaGreat
namespace Go.Proofs.YtpkmjenoniedjaaGreat
open Go.ChangeShapes Go.WideShapes Go.ChangeAt Go.RowKit
abbrev Ma := List Int × List Int
def RdMa (w : World) (v : Value) (m : Ma) : Prop := ∃ (a b : Hd), v = .agg #[.slice a.1 a.2.2.length a.2.1, .slice b.1 b.2.2.length b.2.1] ∧ a.2.2 = m.1 ∧ b.2.2 = m.2 ∧ RdI w a.1 a.2.2 ∧ RdI w b.1 b.2.2
def OwMa (w : World) (v : Value) (m : Ma) (fp : List Nat) : Prop := ∃ (a b : Hd), v = .agg #[.slice a.1 a.2.2.length a.2.1, .slice b.1 b.2.2.length b.2.1] ∧ a.2.2 = m.1 ∧ b.2.2 = m.2 ∧ OwLs w [] [a, b] ∧ fp = fpR [a, b]
section
variable {w w' : World} {v : Value} {m : Ma} {fp : List Nat}
theorem RdMa.below (h : RdMa w v m) (hb : Below w.heap.size w w') : RdMa w' v m := by
 obtain ⟨a, b, rfl, e1, e2, h1, h2⟩ := h; exact ⟨a, b, rfl, e1, e2, h1.below hb, h2.below hb⟩
theorem OwMa.rd (h : OwMa w v m fp) : RdMa w v m := by
 obtain ⟨a, b, rfl, e1, e2, h1, _⟩ := h
 exact ⟨a, b, rfl, e1, e2, (h1.rows a (by simp)).rd, (h1.rows b (by simp)).rd⟩
theorem OwMa.below (h : OwMa w v m fp) (hb : Below w.heap.size w w') : OwMa w' v m fp := by
 obtain ⟨a, b, rfl, e1, e2, h1, e⟩ := h; exact ⟨a, b, rfl, e1, e2, h1.below hb, e⟩
theorem OwMa.keeps (h : OwMa w v m fp) {S : Nat → Prop} (hk : Keeps S w w') (hS : ∀ b, b ∈ fp → ¬ S b) : OwMa w' v m fp := by
 obtain ⟨a, b, rfl, e1, e2, h1, rfl⟩ := h
 exact ⟨a, b, rfl, e1, e2, h1.keeps hk hS, rfl⟩
theorem OwMa.lt (h : OwMa w v m fp) : LtL w.heap.size fp := by
 obtain ⟨a, b, rfl, e1, e2, h1, rfl⟩ := h; exact h1.lt
theorem RdMa.shape (h : RdMa w v m) : ∃ A n c B q d, v = .agg #[.slice A n c, .slice B q d] := by
 obtain ⟨a, b, rfl, _⟩ := h; exact ⟨_, _, _, _, _, _, rfl⟩
theorem OwMa.shape (h : OwMa w v m fp) : ∃ A n c B q d, v = .agg #[.slice A n c, .slice B q d] := h.rd.shape
theorem OwMa.zero (w : World) : OwMa w (.agg #[.slice none 0 0, .slice none 0 0]) ([], []) [] :=
 ⟨(none, 0, []), (none, 0, []), rfl, rfl, rfl, ⟨fun x hx => by
   simp at hx; subst hx; exact Sl.nil _ _ _, by simp, fun x hx b hb => by simp at hx; subst hx; simp at hb⟩, rfl⟩
end
end Go.Proofs.YtpkmjenoniedjaaGreat
namespace Go.Proofs.YtpkmjenoniedjaaGreat
open Go.RowKit
theorem permGo_of : ∀ {l : List Int} {seen : List Bool}, l.Nodup → (∀ k, k ∈ l → 0 ≤ k ∧ k < seen.length ∧ seen.getD k.toNat true = false) → permGo l seen = true
 | [], _, _, _ => rfl
 | k :: r, seen, hn, h => by
   unfold permGo
   obtain ⟨h1, h2⟩ := List.nodup_cons.1 hn
   rw [if_pos (h k (by simp))]
   refine permGo_of h2 fun x hx => ?_
   obtain ⟨a, b, c⟩ := h x (by simp [hx])
   refine ⟨a, by simpa using b, ?_⟩
   have hne : ¬ k.toNat = x.toNat := fun e => by
    have hk := (h k (by simp)).1
    have : k = x := by omega
    exact h1 (this ▸ hx)
   rw [List.getD_eq_getElem?_getD, List.getElem?_set, if_neg hne]
   rw [List.getD_eq_getElem?_getD] at c
   exact c
def prmN (n : Int) (l : List Int) : Bool := decide ((l.length : Int) = n) && permB l
theorem permB_of {l : List Int} (hn : l.Nodup) (h : ∀ k, k ∈ l → 0 ≤ k ∧ k < l.length) : permB l = true := by
 refine permGo_of hn fun k hk => ?_
 have := h k hk
 refine ⟨this.1, by simpa using this.2, ?_⟩
 rw [List.getD_eq_getElem?_getD, List.getElem?_replicate, if_pos (by omega)]; rfl
theorem seenC_nodup {n : Nat} {l : List Int} (hn : l.Nodup) (h : ∀ k, k ∈ l → 0 ≤ k ∧ k < (n : Int)) : ∀ k, k ≤ l.length → seenC n (l.take k) = k
 | 0, _ => by
   rw [List.take_zero]
   unfold seenC
   rw [seenM_nil]
   simp [List.count_replicate]
 | k + 1, hk => by
   have ih := seenC_nodup hn h k (by omega)
   have hx : l[k]? = some l[k] := List.getElem?_eq_getElem (by omega)
   have hin := h _ (List.mem_of_getElem? hx)
   obtain ⟨w, hw⟩ : ∃ w : Nat, l[k] = (w : Int) := ⟨l[k].toNat, by omega⟩
   rw [List.take_add_one, hx]
   show seenC n (l.take k ++ [l[k]]) = _
   rw [hw, seenC_new (by omega), ih]
   rw [← hw, Bool.eq_false_iff]
   intro hc
   have hm : l[k] ∈ l.take k := by simpa using hc
   obtain ⟨i, hi, e⟩ := List.getElem_of_mem hm
   rw [List.length_take] at hi
   have e2 : l[i]'(by omega) = l[k] := by rw [← e, List.getElem_take]
   have := (List.getElem_inj hn).1 e2
   omega
theorem perm_full {n : Nat} {l : List Int} (hn : l.Nodup) (h : ∀ k, k ∈ l → 0 ≤ k ∧ k < (n : Int)) (hl : l.length = n) {w : Nat} (hw : w < n) : (w : Int) ∈ l := by
 have h1 := seenC_nodup hn h l.length (Nat.le_refl _)
 rw [List.take_length] at h1
 have h2 := seenC_full n l
 rw [h1, hl, decide_eq_true rfl] at h2
 have := List.all_eq_true.1 h2.symm w (List.mem_range.2 hw)
 simpa using this
theorem full_len {n : Nat} {l : List Int} (hn : l.Nodup) (h : ∀ k, k ∈ l → 0 ≤ k ∧ k < (n : Int)) (hf : ∀ w : Nat, w < n → (w : Int) ∈ l) : l.length = n := by
 have h1 := seenC_nodup hn h l.length (Nat.le_refl _)
 rw [List.take_length] at h1
 have h2 := seenC_full n l
 rw [h1, show ((List.range n).all fun w : Nat => l.contains (w : Int)) = true from List.all_eq_true.2 fun w hw => by simpa using hf w (List.mem_range.1 hw)] at h2
 exact of_decide_eq_true h2
def monoB (g : Gr) : Bool := grB g && (prmN g.1 (orgW g) && prmN g.1 (dstW g))
theorem info_ed : (Tryz.prog.info? tEd).map (fun i => (i.zero, i.size, i.bytes)) = some (some (.agg #[.int .i64 0, .int .i64 0, .slice none 0 0, .slice none 0 0]), 4, 64) := by kernel_rfl
def eh0 : EHd := (0, 0, (none, 0, []), (none, 0, []))
theorem madeEdges (n : Nat) : (madeCells (Value.agg #[.int .i64 0, .int .i64 0, .slice none 0 0, .slice none 0 0]).cells (n * 4)).toList.take (n * 4) = ecs (List.replicate n eh0) := by
 have hs : (madeCells (Value.agg #[.int .i64 0, .int .i64 0, .slice none 0 0, .slice none 0 0]).cells (n * 4)).toList.length = n * 4 := by rw [Array.length_toList, size_madeCells]
 rw [List.take_of_length_le (by omega)]
 apply List.ext_getElem?
 intro j
 by_cases hj : j < n * 4
 · have key : ∀ q r, q * 4 + r < n * 4 → r < 4 → (madeCells (Value.agg #[.int .i64 0, .int .i64 0, .slice none 0 0, .slice none 0 0]).cells (n * 4)).toList[q * 4 + r]? = (ec eh0)[r]? := by
    intro q r h hr
    have hm : (q * 4 + r) % 4 = r := by omega
    have hr' : r = 0 ∨ r = 1 ∨ r = 2 ∨ r = 3 := by omega
    simp only [madeCells, Value.cells, Array.toList_map, List.getElem?_map, Array.toList_range, List.getElem?_range h, Option.map_some]
    show some (_[(q * 4 + r) % 4]!) = _
    rw [hm]
    rcases hr' with rfl | rfl | rfl | rfl <;> rfl
   have hq : j / 4 < n := by omega
   have hg := ecs_get (l := List.replicate n eh0) (j := j / 4) (n := eh0) (by simp [hq])
   have e : j = j / 4 * 4 + j % 4 := by omega
   have hr' : j % 4 = 0 ∨ j % 4 = 1 ∨ j % 4 = 2 ∨ j % 4 = 3 := by omega
   rw [e]
   rcases hr' with h | h | h | h <;> rw [h] at e ⊢
   · rw [key _ 0 (by omega) (by omega)]; exact hg.1.symm
   · rw [key _ 1 (by omega) (by omega)]; exact hg.2.1.symm
   · rw [key _ 2 (by omega) (by omega)]; exact hg.2.2.1.symm
   · rw [key _ 3 (by omega) (by omega)]; exact hg.2.2.2.symm
 · rw [List.getElem?_eq_none (by omega), List.getElem?_eq_none (by simp; omega)]
section
variable {w : World} {A : Option Addr} {n cap : Nat} {hs : List EHd}
theorem ES.set (h : Sl w tEd 4 A n cap (ecs hs)) (hn : hs.length = n) {ad : Addr} (hA : A = some ad) {j : Nat} (k v : Int) (B C : Option Addr) (b c : Nat) (l m : List Int) (hj : j < n) :
  Sl ((((w.setCell (ad.add (j * 4)) (.int .i64 k)).setCell ⟨(ad.add (j * 4)).block, (ad.add (j * 4)).off + 1, none⟩ (.int .i64 v)).setCell ⟨(ad.add (j * 4)).block, (ad.add (j * 4)).off + 2, none⟩ (.slice B l.length b)).setCell ⟨(ad.add (j * 4)).block, (ad.add (j * 4)).off + 3, none⟩ (.slice C m.length c)) tEd 4 A n cap (ecs (hs.set j (k, v, (B, b, l), (C, c, m)))) ∧
  Keeps (· ∈ fpA A) w ((((w.setCell (ad.add (j * 4)) (.int .i64 k)).setCell ⟨(ad.add (j * 4)).block, (ad.add (j * 4)).off + 1, none⟩ (.int .i64 v)).setCell ⟨(ad.add (j * 4)).block, (ad.add (j * 4)).off + 2, none⟩ (.slice B l.length b)).setCell ⟨(ad.add (j * 4)).block, (ad.add (j * 4)).off + 3, none⟩ (.slice C m.length c)) := by
 have hl : (ecs hs).length = n * 4 := by rw [ecs_length, hn]
 have s1 := Sl.set h hA (j * 4) (.int .i64 k) (by omega)
 have s2 := Sl.set s1 hA (j * 4 + 1) (.int .i64 v) (by rw [List.length_set]; omega)
 have s3 := Sl.set s2 hA (j * 4 + 2) (.slice B l.length b) (by rw [List.length_set, List.length_set]; omega)
 have s4 := Sl.set s3 hA (j * 4 + 3) (.slice C m.length c) (by rw [List.length_set, List.length_set, List.length_set]; omega)
 have e := ecs_set (l := hs) (j := j) (k, v, (B, b, l), (C, c, m)) (by omega)
 simp only [Hd.val] at e
 rw [e, add_next ad (j * 4) 1 (by omega), add_next ad (j * 4) 2 (by omega), add_next ad (j * 4) 3 (by omega)] at s4
 refine ⟨s4, ?_⟩
 have hb : (ad.add (j * 4)).block ∈ fpA A := by rw [block_of_add, hA]; simp
 exact ((((Keeps.refl _ w).setCell (p := ad.add (j * 4)) hb _).setCell (p := ⟨(ad.add (j * 4)).block, (ad.add (j * 4)).off + 1, none⟩) hb _).setCell (p := ⟨(ad.add (j * 4)).block, (ad.add (j * 4)).off + 2, none⟩) hb _).setCell (p := ⟨(ad.add (j * 4)).block, (ad.add (j * 4)).off + 3, none⟩) hb _
theorem ES.mid {ad : Addr} (h : Sl w tEd 4 (some ad) n cap (ecs hs)) (hn : hs.length = n) {j : Nat} (k v : Int) (s : Value) (hj : j < n) :
  ((∃ x, w.cell? (ad.add (j * 4)) = some x) ∧ w.frozen? (ad.add (j * 4)) = false) ∧
  ((∃ x, (w.setCell (ad.add (j * 4)) (.int .i64 k)).cell? ⟨(ad.add (j * 4)).block, (ad.add (j * 4)).off + 1, none⟩ = some x) ∧ (w.setCell (ad.add (j * 4)) (.int .i64 k)).frozen? ⟨(ad.add (j * 4)).block, (ad.add (j * 4)).off + 1, none⟩ = false) ∧
  ((∃ x, ((w.setCell (ad.add (j * 4)) (.int .i64 k)).setCell ⟨(ad.add (j * 4)).block, (ad.add (j * 4)).off + 1, none⟩ (.int .i64 v)).cell? ⟨(ad.add (j * 4)).block, (ad.add (j * 4)).off + 2, none⟩ = some x) ∧
  ((w.setCell (ad.add (j * 4)) (.int .i64 k)).setCell ⟨(ad.add (j * 4)).block, (ad.add (j * 4)).off + 1, none⟩ (.int .i64 v)).frozen? ⟨(ad.add (j * 4)).block, (ad.add (j * 4)).off + 2, none⟩ = false) ∧
  ((∃ x, (((w.setCell (ad.add (j * 4)) (.int .i64 k)).setCell ⟨(ad.add (j * 4)).block, (ad.add (j * 4)).off + 1, none⟩ (.int .i64 v)).setCell ⟨(ad.add (j * 4)).block, (ad.add (j * 4)).off + 2, none⟩ s).cell? ⟨(ad.add (j * 4)).block, (ad.add (j * 4)).off + 3, none⟩ = some x) ∧
  (((w.setCell (ad.add (j * 4)) (.int .i64 k)).setCell ⟨(ad.add (j * 4)).block, (ad.add (j * 4)).off + 1, none⟩ (.int .i64 v)).setCell ⟨(ad.add (j * 4)).block, (ad.add (j * 4)).off + 2, none⟩ s).frozen? ⟨(ad.add (j * 4)).block, (ad.add (j * 4)).off + 3, none⟩ = false) := by
 have hl : (ecs hs).length = n * 4 := by rw [ecs_length, hn]
 have s1 := Sl.set h rfl (j * 4) (.int .i64 k) (by omega)
 have s2 := Sl.set s1 rfl (j * 4 + 1) (.int .i64 v) (by rw [List.length_set]; omega)
 have s3 := Sl.set s2 rfl (j * 4 + 2) s (by rw [List.length_set, List.length_set]; omega)
 rw [← add_next ad (j * 4) 1 (by omega), ← add_next ad (j * 4) 2 (by omega), ← add_next ad (j * 4) 3 (by omega)]
 obtain ⟨a0, h0, _, c0, f0⟩ := Sl.cell h (j := j * 4) (u := _) (List.getElem?_eq_getElem (by omega))
 obtain ⟨a1, h1, _, c1, f1⟩ := Sl.cell s1 (j := j * 4 + 1) (u := _) (List.getElem?_eq_getElem (by rw [List.length_set]; omega))
 obtain ⟨a2, h2, _, c2, f2⟩ := Sl.cell s2 (j := j * 4 + 2) (u := _) (List.getElem?_eq_getElem (by rw [List.length_set, List.length_set]; omega))
 obtain ⟨a3, h3, _, c3, f3⟩ := Sl.cell s3 (j := j * 4 + 3) (u := _) (List.getElem?_eq_getElem (by rw [List.length_set, List.length_set, List.length_set]; omega))
 obtain rfl := Option.some.inj h0
 obtain rfl := Option.some.inj h1
 obtain rfl := Option.some.inj h2
 obtain rfl := Option.some.inj h3
 exact ⟨⟨⟨_, c0⟩, f0 _⟩, ⟨⟨_, c1⟩, f1 _⟩, ⟨⟨_, c2⟩, f2 _⟩, ⟨_, c3⟩, f3 _⟩
end
theorem set_rep_step {α : Type} (hs : List α) (x d : α) {n k : Nat} (hk : hs.length = k) (h : k < n) : (hs ++ List.replicate (n - k) d).set k x = (hs ++ [x]) ++ List.replicate (n - (k + 1)) d := by
 subst hk
 rw [List.set_append_right _ _ (Nat.le_refl _), Nat.sub_self, show n - hs.length = (n - (hs.length + 1)) + 1 by omega, List.replicate_succ, List.set_cons_zero, List.append_assoc]
 rfl
theorem box_set {w : World} {B : Nat} {cs : Array Value} {t : TypeId} (h : w.heap[B]? = some (.cells cs t)) (i : Nat) (x : Value) : (w.setCell ⟨B, i, none⟩ x).heap[B]? = some (.cells (cs.setIfInBounds i x) t) ∧ Keeps (· = B) w (w.setCell ⟨B, i, none⟩ x) :=
 ⟨by simp [World.setCell, Array.getElem?_modify, h], (Keeps.refl (fun x => x = B) w).setCell (p := ⟨B, i, none⟩) rfl _⟩
theorem allocs3 (w : World) (o o' o'' : Obj) : ∃ W, W = ((w.alloc o).alloc o').alloc o'' ∧ Below w.heap.size w W ∧ W.heap[w.heap.size]? = some o ∧ W.heap[w.heap.size + 1]? = some o' ∧ W.heap[w.heap.size + 1 + 1]? = some o'' := by
 refine ⟨_, rfl, ((t_below_alloc w o).alloc (by simp) _).alloc (by simp; omega) _, ?_, ?_, ?_⟩
 · exact t_box_below (t_box_below (heap_alloc_new w o) (t_below_alloc _ _)) (t_below_alloc _ _)
 · have := heap_alloc_new (w.alloc o) o'
   rw [World.size_alloc] at this
   exact t_box_below this (t_below_alloc _ _)
 · have := heap_alloc_new ((w.alloc o).alloc o') o''
   rw [World.size_alloc, World.size_alloc] at this
   exact this
theorem set4 {w : World} {B : Nat} {t : TypeId} {x y z u a b c d : Value} (h : w.heap[B]? = some (.cells #[x, y, z, u] t)) : ((((w.setCell ⟨B, 0, none⟩ a).setCell ⟨B, 1, none⟩ b).setCell ⟨B, 2, none⟩ c).setCell ⟨B, 3, none⟩ d).heap[B]? = some (.cells #[a, b, c, d] t) ∧ Keeps (· = B) w ((((w.setCell ⟨B, 0, none⟩ a).setCell ⟨B, 1, none⟩ b).setCell ⟨B, 2, none⟩ c).setCell ⟨B, 3, none⟩ d) := by
 obtain ⟨h1, k1⟩ := box_set h 0 a
 obtain ⟨h2, k2⟩ := box_set h1 1 b
 obtain ⟨h3, k3⟩ := box_set h2 2 c
 obtain ⟨h4, k4⟩ := box_set h3 3 d
 exact ⟨h4, ((k1.trans k2).trans k3).trans k4⟩
theorem Qt.below {w w' : World} (h : Qt w w') : Below w.heap.size w w' := by obtain ⟨n, rfl⟩ := h; exact below_drewN (Below.refl _ _) n
theorem box_qt {w w' : World} {B : Nat} {o : Obj} (h : w.heap[B]? = some o) (hq : Qt w w') : w'.heap[B]? = some o := t_box_below h hq.below
theorem allocs2 (w : World) (o o' : Obj) : ∃ W, W = (w.alloc o).alloc o' ∧ Below w.heap.size w W ∧ W.heap[w.heap.size]? = some o ∧ W.heap[w.heap.size + 1]? = some o' := by
 obtain ⟨h1, h2, h3, -⟩ := two_boxes w o o'
 exact ⟨_, rfl, h1, h2, h3⟩
set_option maxRecDepth 100000 in
set_option maxHeartbeats 2000000 in
theorem eqEdge_any (k v : Int) (B C : Option Addr) (b c : Nat) (l m : List Int) (k' v' : Int) (B' C' : Option Addr) (b' c' : Nat) (l' m' : List Int) (w : World) (h1 : RdI w B l) (h2 : RdI w C m) (h1' : RdI w B' l') (h2' : RdI w C' m') (hl : l.length ≤ 1048576) (hm : m.length ≤ 1048576) :
  Calls Tryz.prog 33 #[.agg #[.int .i64 k, .int .i64 v, .slice B l.length b, .slice C m.length c], .agg #[.int .i64 k', .int .i64 v', .slice B' l'.length b', .slice C' m'.length c']] w fun e w' => e = .returned (.bool (decide (((k, v, l, m) : Eg) = (k', v', l', m')))) ∧ Below w.heap.size w w' := by
 have hQ1 := fun (W : World) (hb : Below w.heap.size w W) => eqIntS_any B B' b b' l l' W (h1.below hb) (h1'.below hb) (by omega)
 have hQ2 := fun (W : World) (hb : Below w.heap.size w W) => eqIntS_any C C' c c' m m' W (h2.below hb) (h2'.below hb) (by omega)
 obtain ⟨D, hD⟩ : ∃ D, D = decide (((k, v, l, m) : Eg) = (k', v', l', m')) := ⟨_, rfl⟩
 obtain ⟨D1, hD1⟩ : ∃ D, D = decide (l = l') := ⟨_, rfl⟩
 obtain ⟨D2, hD2⟩ : ∃ D, D = decide (m = m') := ⟨_, rfl⟩
 rw [← hD]
 simp only [← hD1] at hQ1
 simp only [← hD2] at hQ2
 have hDD : D = (decide (k = k') && (decide (v = v') && (D1 && D2))) := by
  rw [hD, hD1, hD2, Bool.eq_iff_iff]; simp
 obtain ⟨p, hp⟩ : ∃ p, p = l.length := ⟨_, rfl⟩
 obtain ⟨q, hq⟩ : ∃ q, q = m.length := ⟨_, rfl⟩
 obtain ⟨p', hp'⟩ : ∃ p, p = l'.length := ⟨_, rfl⟩
 obtain ⟨q', hq'⟩ : ∃ q, q = m'.length := ⟨_, rfl⟩
 simp only [← hp, ← hp'] at hQ1
 simp only [← hq, ← hq'] at hQ2
 rw [← hp, ← hq, ← hp', ← hq']
 obtain ⟨W, hW, bW, k0, k1⟩ := allocs2 w (.cells #[.int .i64 k, .int .i64 v, .slice B p b, .slice C q c] tEd) (.cells #[.int .i64 k', .int .i64 v', .slice B' p' b', .slice C' q' c'] tEd)
 obtain ⟨⟨c0, c1, c2, c3⟩, f0, f1, f2, f3⟩ := t_box4 k0
 obtain ⟨⟨d0, d1, d2, d3⟩, g0, g1, g2, g3⟩ := t_box4 k1
 clear h1 h2 h1' h2' hD hD1 hD2 hp hq hp' hq'
 by_cases e0 : k = k'
 · have t0 : (k != k') = false := by simp [e0]
   rw [decide_eq_true e0] at hDD
   by_cases e1 : v = v'
   · have t1 : (v != v') = false := by simp [e1]
     rw [decide_eq_true e1] at hDD
     cases D1
     · obtain rfl : D = false := by rw [hDD]; rfl
       clear e0 e1 hDD; have hQ1_h := lH hQ1; have hQ2_h := lH hQ2; have k0_h := lH k0; have k1_h := lH k1; have bW_h := lH bW; clear hQ1 hQ2 k0 k1 bW
       go_enter Tryz.func33, Tryz.ntmps33
       go_upto_region 1 with (fail)
       rw [← hW]
       clear hW
       go_wp2_with (fail)
       refine (hQ1_h.out W bW_h.out).mono ?_
       rintro e w1 ⟨rfl, hq1⟩
       go_wp2_with (fail)
       go_ret
       exact ⟨rfl, below_trans bW_h.out hq1.below bW_h.out.size⟩
     · obtain rfl : D = D2 := by rw [hDD]; rfl
       clear e0 e1 hDD; have hQ1_h := lH hQ1; have hQ2_h := lH hQ2; have k0_h := lH k0; have k1_h := lH k1; have bW_h := lH bW; clear hQ1 hQ2 k0 k1 bW
       go_enter Tryz.func33, Tryz.ntmps33
       go_upto_region 1 with (fail)
       rw [← hW]
       clear hW
       go_wp2_with (fail)
       refine (hQ1_h.out W bW_h.out).mono ?_
       rintro e w1 ⟨rfl, hq1⟩
       clear c0 c1 c2 c3 f0 f1 f2 f3 d0 d1 d2 d3 g0 g1 g2 g3
       obtain ⟨⟨c0, c1, c2, c3⟩, f0, f1, f2, f3⟩ := t_box4 (box_qt k0_h.out hq1)
       obtain ⟨⟨d0, d1, d2, d3⟩, g0, g1, g2, g3⟩ := t_box4 (box_qt k1_h.out hq1)
       have hB1 := below_trans bW_h.out hq1.below bW_h.out.size
       clear hq1; have hB1_h := lH hB1; clear hB1
       go_wp2_with (fail)
       refine (hQ2_h.out w1 hB1_h.out).mono ?_
       rintro e w2 ⟨rfl, hq2⟩
       have hB2 := below_trans hB1_h.out hq2.below hB1_h.out.size
       clear hq2; have hB2_h := lH hB2; clear hB2
       cases D
       · go_wp2_with (fail)
         go_ret
         exact ⟨rfl, hB2_h.out⟩
       · go_wp2_with (fail)
         go_ret
         exact ⟨rfl, hB2_h.out⟩
   · have t1 : (v != v') = true := by simp [e1]
     obtain rfl : D = false := by rw [hDD, decide_eq_false e1]; rfl
     clear e0 e1 hDD; have hQ1_h := lH hQ1; have hQ2_h := lH hQ2; have k0_h := lH k0; have k1_h := lH k1; have bW_h := lH bW; clear hQ1 hQ2 k0 k1 bW
     go_enter Tryz.func33, Tryz.ntmps33
     go_upto_region 1 with (fail)
     rw [← hW]
     clear hW
     go_wp2_with (fail)
     go_ret
     exact ⟨rfl, bW_h.out⟩
 · have t0 : (k != k') = true := by simp [e0]
   obtain rfl : D = false := by rw [hDD, decide_eq_false e0]; rfl
   clear e0 hDD; have hQ1_h := lH hQ1; have hQ2_h := lH hQ2; have k0_h := lH k0; have k1_h := lH k1; have bW_h := lH bW; clear hQ1 hQ2 k0 k1 bW
   go_enter Tryz.func33, Tryz.ntmps33
   go_upto_region 1 with (fail)
   rw [← hW]
   clear hW
   go_wp2_with (fail)
   go_ret
   exact ⟨rfl, bW_h.out⟩
set_option maxRecDepth 100000 in
set_option maxHeartbeats 2000000 in
theorem eqEdgeS_any (A B : Option Addr) (c d : Nat) (l l' : List EHd) (w : World) (ha : RdE w A l) (hb : RdE w B l') (hl : l.length ≤ 1048576) (hr : ∀ x, x ∈ l → x.2.2.1.2.2.length ≤ 1048576 ∧ x.2.2.2.2.2.length ≤ 1048576) :
  Calls Tryz.prog 18 #[.slice A l.length c, .slice B l'.length d] w fun e w' => e = .returned (.bool (decide (l.map egOf = l'.map egOf))) ∧ Below w.heap.size w w' := by
 obtain ⟨m, hm⟩ : ∃ m, m = l.length := ⟨_, rfl⟩
 obtain ⟨n, hn⟩ : ∃ n, n = l'.length := ⟨_, rfl⟩
 rw [← hm] at hl ⊢
 rw [← hn]
 by_cases hmn : m = n
 · subst hmn
   have h0 : ((m : Int) != (m : Int)) = false := by simp
   have hm_h := lH hm; have hn_h := lH hn; have hr_h := lH hr; clear hm hn hr
   go_enter Tryz.func18, Tryz.ntmps18
   go_wp2_with (fail)
   go_loopw [5] (fun i wr => ∃ k : Nat, k ≤ m ∧ i = .int .i64 k ∧ (l.take k).map egOf = (l'.take k).map egOf ∧ Below w.heap.size w wr) (fun i _ => m - (intOf i).toNat)
   case atStart => exact ⟨0, Nat.zero_le _, rfl, rfl, Below.refl _ _⟩
   case round =>
    obtain ⟨k, hk, rfl, htk, hbl⟩ := hrel
    by_cases hlt : k < m
    · have hkI : (k : Int) < (m : Int) := by omega
      have hk0 : (0 : Int) ≤ (k : Int) := by omega
      obtain ⟨ad, κ, v, B1, b1, s, C1, c1, t, rfl, hn1, -, hr1, hr2⟩ := (ha.below hbl).at_ (j := k) (by rw [← hm_h.out]; exact hlt)
      obtain ⟨bd, κ', v', B2, b2, s', C2, c2, t', rfl, hn2, -, hr3, hr4⟩ := (hb.below hbl).at_ (j := k) (by rw [← hn_h.out]; exact hlt)
      have hAB : ∀ W', Below wr.heap.size wr W' → (W'.cell? (ad.add (k * 4)) = some (.int .i64 κ) ∧ W'.cell? ⟨(ad.add (k * 4)).block, (ad.add (k * 4)).off + 1, none⟩ = some (.int .i64 v) ∧ W'.cell? ⟨(ad.add (k * 4)).block, (ad.add (k * 4)).off + 2, none⟩ = some (.slice B1 s.length b1) ∧ W'.cell? ⟨(ad.add (k * 4)).block, (ad.add (k * 4)).off + 3, none⟩ = some (.slice C1 t.length c1)) ∧ (W'.cell? (bd.add (k * 4)) = some (.int .i64 κ') ∧ W'.cell? ⟨(bd.add (k * 4)).block, (bd.add (k * 4)).off + 1, none⟩ = some (.int .i64 v') ∧ W'.cell? ⟨(bd.add (k * 4)).block, (bd.add (k * 4)).off + 2, none⟩ = some (.slice B2 s'.length b2) ∧ W'.cell? ⟨(bd.add (k * 4)).block, (bd.add (k * 4)).off + 3, none⟩ = some (.slice C2 t'.length c2)) := by
       intro W' hW'
       obtain ⟨x1, _, _, _, _, _, _, _, _, e1, e2, q, -, -⟩ := ((ha.below hbl).below hW').at_ (j := k) (by rw [← hm_h.out]; exact hlt)
       obtain ⟨y1, _, _, _, _, _, _, _, _, f1, f2, r, -, -⟩ := ((hb.below hbl).below hW').at_ (j := k) (by rw [← hn_h.out]; exact hlt)
       rw [hn1] at e2
       rw [hn2] at f2
       cases e1; cases e2; cases f1; cases f2
       exact ⟨q, r⟩
      have hrr := hr_h.out _ (List.mem_of_getElem? hn1)
      have hC := fun (W : World) (hW : Below wr.heap.size wr W) => eqEdge_any κ v B1 C1 b1 c1 s t κ' v' B2 C2 b2 c2 s' t' W (hr1.below hW) (hr2.below hW) (hr3.below hW) (hr4.below hW) hrr.1 hrr.2
      obtain ⟨D, hD⟩ : ∃ D, D = decide (((κ, v, s, t) : Eg) = (κ', v', s', t')) := ⟨_, rfl⟩
      simp only [← hD] at hC
      obtain ⟨p, hp⟩ : ∃ p, p = s.length := ⟨_, rfl⟩
      obtain ⟨q, hq⟩ : ∃ q, q = t.length := ⟨_, rfl⟩
      obtain ⟨p', hp'⟩ : ∃ p, p = s'.length := ⟨_, rfl⟩
      obtain ⟨q', hq'⟩ : ∃ q, q = t'.length := ⟨_, rfl⟩
      simp only [← hp, ← hp', ← hq, ← hq'] at hC hAB
      have htk_h := lH htk; have hn1_h := lH hn1; have hn2_h := lH hn2; have hAB_h := lH hAB; have hC_h := lH hC; have hD_h := lH hD; have hp_h := lH hp; have hq_h := lH hq; have hp'_h := lH hp'; have hq'_h := lH hq'; clear htk hn1 hn2 hAB hC hD hp hq hp' hq'; clear ha hb hr1 hr2 hr3 hr4 hrr
      go_wp2_with (fail)
      refine beginB (by kernel_rfl) (fun W1 hW1 => ?_)
      have hbw : Below wr.heap.size wr W1 := by rw [hW1]; exact below_drew (Below.refl _ _)
      clear hW1
      refine tkH 0 ?_ rfl (Below.refl _ _) (fun W' hW' => ?_) ?_; rotate_left; · (obtain ⟨⟨a0, a1, a2, a3⟩, b0, b1, b2, b3⟩ := hAB_h.out W' (hbw.trans (hW'.mono hbw.size)); clear hW'; go_simp; first | done | with_reducible rfl)
      simp only [Act.put, nS]
      refine tkH 1 ?_ rfl (Below.refl _ _) (fun W' hW' => ?_) ?_; rotate_left; · (obtain ⟨⟨a0, a1, a2, a3⟩, b0, b1, b2, b3⟩ := hAB_h.out W' (hbw.trans (hW'.mono hbw.size)); clear hW'; go_simp; first | done | with_reducible rfl)
      simp only [Act.put, nS]
      refine tkH 2 ?_ rfl (Below.refl _ _) (fun W' hW' => ?_) ?_; rotate_left; · (obtain ⟨⟨a0, a1, a2, a3⟩, b0, b1, b2, b3⟩ := hAB_h.out W' (hbw.trans (hW'.mono hbw.size)); clear hW'; go_simp; first | done | with_reducible rfl)
      simp only [Act.put, nS]
      refine tkH 3 ?_ rfl (Below.refl _ _) (fun W' hW' => ?_) ?_; rotate_left; · (obtain ⟨⟨a0, a1, a2, a3⟩, b0, b1, b2, b3⟩ := hAB_h.out W' (hbw.trans (hW'.mono hbw.size)); clear hW'; go_simp; first | done | with_reducible rfl)
      simp only [Act.put, nS]
      refine tkH 4 ?_ rfl (Below.refl _ _) (fun W' hW' => ?_) ?_; rotate_left; · (obtain ⟨⟨a0, a1, a2, a3⟩, b0, b1, b2, b3⟩ := hAB_h.out W' (hbw.trans (hW'.mono hbw.size)); clear hW'; go_simp; first | done | with_reducible rfl)
      simp only [Act.put, nS]
      refine tkH 5 ?_ rfl (Below.refl _ _) (fun W' hW' => ?_) ?_; rotate_left; · (obtain ⟨⟨a0, a1, a2, a3⟩, b0, b1, b2, b3⟩ := hAB_h.out W' (hbw.trans (hW'.mono hbw.size)); clear hW'; go_simp; first | done | with_reducible rfl)
      simp only [Act.put, nS]
      refine tkH 6 ?_ rfl (Below.refl _ _) (fun W' hW' => ?_) ?_; rotate_left; · (obtain ⟨⟨a0, a1, a2, a3⟩, b0, b1, b2, b3⟩ := hAB_h.out W' (hbw.trans (hW'.mono hbw.size)); clear hW'; go_simp; first | done | with_reducible rfl)
      simp only [Act.put, nS]
      refine tkH 7 ?_ rfl (Below.refl _ _) (fun W' hW' => ?_) ?_; rotate_left; · (obtain ⟨⟨a0, a1, a2, a3⟩, b0, b1, b2, b3⟩ := hAB_h.out W' (hbw.trans (hW'.mono hbw.size)); clear hW'; go_simp; first | done | with_reducible rfl)
      simp only [Act.put, nS]
      refine' callH 8 (f := _) (args := _) rfl (by kernel_rfl) (by rfl) ?_ ?_; rotate_left 2; · (go_simp; first | done | with_reducible rfl | (constructor <;> with_reducible rfl))
      refine (hC_h.out W1 hbw).mono ?_
      rintro e w2 ⟨rfl, hb2⟩
      refine ⟨_, rfl, hb2, ?_⟩
      have hb3 := below_trans (below_trans hbl hbw hbl.size) hb2 (Nat.le_trans hbl.size hbw.size)
      have hb3_h := lH hb3; clear hb3
      simp only [Act.put, nS]
      refine tkH 9 ?_ rfl hb2 (fun W' hW' => ?_) ?_; rotate_left; · (skip; clear hW'; go_simp; first | done | with_reducible rfl)
      simp only [Act.put, nS]
      refine doneH (by kernel_rfl) ?_
      cases D
      · go_wp2_with (fail)
        go_ret
        refine ⟨ret_bool ?_, hb3_h.out⟩
        symm
        apply decide_eq_false
        intro h
        have h1 := congrArg (·[k]?) h
        simp only [List.getElem?_map, hn1_h.out, hn2_h.out, Option.map_some, Option.some.injEq] at h1
        exact of_decide_eq_false hD_h.out.symm h1
      · go_wp2_with (fail)
        go_roundw
        case rel => exact ⟨k + 1, by omega, by go_num, by rw [List.take_add_one, List.take_add_one, List.map_append, List.map_append, htk_h.out, hn1_h.out, hn2_h.out]; simp only [Option.toList_some, List.map_cons, List.map_nil]; rw [show egOf (κ, v, (B1, b1, s), (C1, c1, t)) = egOf (κ', v', (B2, b2, s'), (C2, c2, t')) from of_decide_eq_true hD_h.out.symm], hb3_h.out⟩
        case measure => simp [intOf]; omega
    · obtain rfl : k = m := by omega
      have htk_h := lH htk; clear htk; clear ha hb
      go_wp2_with (fail)
      go_ret
      refine ⟨ret_bool ?_, hbl⟩
      symm
      apply decide_eq_true
      have := htk_h.out
      rwa [List.take_of_length_le (by rw [← hm_h.out]; exact Nat.le_refl _), List.take_of_length_le (by rw [← hn_h.out]; exact Nat.le_refl _)] at this
 · have h0 : ((m : Int) != (n : Int)) = true := by simp; omega
   have hm_h := lH hm; have hn_h := lH hn; have hmn_h := lH hmn; clear hm hn hmn
   go_enter Tryz.func18, Tryz.ntmps18
   go_wp2_with (fail)
   go_ret
   refine ⟨ret_bool ?_, Below.refl _ _⟩
   symm
   apply decide_eq_false
   intro h
   have := congrArg List.length h
   rw [List.length_map, List.length_map, ← hm_h.out, ← hn_h.out] at this
   exact hmn_h.out this
theorem ret_two {a b c d : Int} (h : (a, b) = (c, d)) : Ending.returned (.tuple #[.int .i64 a, .int .i64 b]) = .returned (.tuple #[.int .i64 c, .int .i64 d]) := by
 rw [(Prod.mk.inj h).1, (Prod.mk.inj h).2]
set_option maxHeartbeats 1000000 in
theorem tmKind_any (k : Int) (w : World) :
  Calls Tryz.prog 44 #[.int .i64 k] w fun e w' => e = .returned (.tuple #[.int .i64 (kindTy k).1, .int .i64 (kindTy k).2]) ∧ w' = w := by
 go_enter Tryz.func44, Tryz.ntmps44
 go_wp2
 all_goals go_ret2
 all_goals (refine ⟨ret_two ?_, rfl⟩; simp_all [kindTy])
theorem leafB_of {k v : Int} {s : ByteArray} {b : Bool} (h : b = true ↔ (s = noName ∧ ((k = 1 ∧ 0 ≤ v ∧ v ≤ 12) ∨ ((k = 7 ∨ k = 13) ∧ 0 ≤ v ∧ v ≤ 96) ∨ (2 ≤ k ∧ k ≤ 14 ∧ k ≠ 7 ∧ k ≠ 13 ∧ v = 0)))) : b = leafB (k, v, s) := by
 rw [Bool.eq_iff_iff, h]; simp [leafB]
set_option maxHeartbeats 2000000 in
theorem tmLeaf_any (k v : Int) (s : ByteArray) (w : World) :
  Calls Tryz.prog 43 #[.agg #[.int .i64 k, .int .i64 v, .string s]] w fun e w' => ∃ b, e = .returned (.bool b) ∧ b = leafB (k, v, s) ∧ Below w.heap.size w w' := by
 by_cases hs : s = noName
 · subst hs
   have he : (!noName.toList.isEmpty) = false := by rw [ByteArray.toList_eq]; rfl
   have he2 : noName.toList = [] := by rw [ByteArray.toList_eq]; rfl
   go_enter Tryz.func43, Tryz.ntmps43
   go_wp2_with (fail)
   refine (t_l1In_any _ _ _ _).mono ?_
   rintro e w' ⟨rfl, rfl⟩
   cases h14 : t_inB k 1 14
   · have H14 := lH h14
     clear h14
     go_wp2_with (fail)
     go_ret
     refine ⟨_, rfl, leafB_of ?_, t_below_alloc _ _⟩
     have : ¬ (1 ≤ k ∧ k ≤ 14) := by simpa [t_inB] using H14.out
     simp
     omega
   · have H14 := lH h14
     clear h14
     by_cases h1 : k = 1
     · have hb : (k == 1) = true := by simp [h1]
       have h1_h := lH h1; clear h1
       go_wp2_with (fail)
       refine (t_l1In_any _ _ _ _).mono ?_
       rintro e w' ⟨rfl, rfl⟩
       go_wp2_with (fail)
       go_ret
       refine ⟨_, rfl, leafB_of ?_, t_below_alloc _ _⟩
       have := h1_h.out
       simp [t_inB]
       omega
     · have hb : (k == 1) = false := by simp [h1]
       by_cases h7 : k = 7 ∨ k = 13
       · have h3 : 1 ≤ k ∧ k ≤ 14 := by omega
         by_cases h77 : k = 7
         · have hb7 : (k == 7) = true := by simp [h77]
           have h1_h := lH h1; have h7_h := lH h7; have h77_h := lH h77; clear h1 h7 h77
           go_wp2_with (fail)
           refine (t_l1In_any _ _ _ _).mono ?_
           rintro e w' ⟨rfl, rfl⟩
           go_wp2_with (fail)
           go_ret
           refine ⟨_, rfl, leafB_of ?_, t_below_alloc _ _⟩
           have := h77_h.out
           simp [t_inB]
           omega
         · have h13 : k = 13 := by omega
           have hb7 : (k == 7) = false := by simp [h77]
           have hb13 : (k == 13) = true := by simp [h13]
           have h1_h := lH h1; have h7_h := lH h7; have h77_h := lH h77; have h13_h := lH h13; clear h1 h7 h77 h13
           go_wp2_with (fail)
           refine (t_l1In_any _ _ _ _).mono ?_
           rintro e w' ⟨rfl, rfl⟩
           go_wp2_with (fail)
           go_ret
           refine ⟨_, rfl, leafB_of ?_, t_below_alloc _ _⟩
           have := h13_h.out
           simp [t_inB]
           omega
       · have hb7 : (k == 7) = false := by simp; omega
         have hb13 : (k == 13) = false := by simp; omega
         have h1_h := lH h1; have h7_h := lH h7; clear h1 h7
         go_wp2_with (fail)
         go_ret
         refine ⟨_, rfl, leafB_of ?_, t_below_alloc _ _⟩
         have h14 : 1 ≤ k ∧ k ≤ 14 := by simpa [t_inB] using H14.out
         have a1 := h1_h.out
         have a2 := h7_h.out
         simp
         omega
 · have he : (!s.toList.isEmpty) = true := by
    simp only [Bool.not_eq_true', List.isEmpty_eq_false_iff]
    exact fun h => hs (name_yes (by simp [h]))
   have hs_h := lH hs; clear hs
   go_enter Tryz.func43, Tryz.ntmps43
   go_wp2_with (fail)
   go_ret
   refine ⟨_, rfl, leafB_of ?_, t_below_alloc _ _⟩
   have := hs_h.out
   simp [this]
theorem gvB_iff (k v : Int) : gvB k v = true ↔ ((k = 7 ∨ k = 13) ∧ 0 ≤ v ∧ v ≤ 96) ∨ (k ≠ 7 ∧ k ≠ 13 ∧ v = 0) := by
 unfold gvB hvB t_inB
 by_cases h : k = 7 ∨ k = 13
 · rw [decide_eq_true h, if_pos rfl, decide_eq_true_eq]
   constructor
   · intro h3; exact .inl ⟨h, h3⟩
   · intro h3; omega
 · rw [decide_eq_false h, if_neg (by simp), decide_eq_true_eq]
   constructor
   · intro h3; exact .inr ⟨by omega, by omega, h3⟩
   · intro h3; omega
theorem leafB_gv {k v : Int} (h1 : 3 ≤ k) (h2 : k ≤ 14) : leafB (k, v, noName) = gvB k v := by
 rw [Bool.eq_iff_iff, gvB_iff]
 unfold leafB
 simp only [decide_eq_true_eq]
 constructor
 · rintro ⟨-, h3⟩; omega
 · intro h3; exact ⟨trivial, by omega⟩
set_option maxHeartbeats 1000000 in
theorem t_l1All_any (A : Option Addr) (c n : Nat) (l : List Int) (lo hi : Int) (w : World) (h : RdI w A l) (hn : l.length = n) (hnb : n ≤ 17592186044416) :
  Calls Tryz.prog 34 #[.slice A n c, .int .i64 lo, .int .i64 hi] w fun e w' => e = .returned (.bool (l.all fun x => t_inB x lo hi)) ∧ w' = w := by
 obtain ⟨D, hD⟩ : ∃ D, D = l.all fun x => t_inB x lo hi := ⟨_, rfl⟩
 rw [← hD]
 have hD_h := lH hD; have hn_h := lH hn; clear hD hn
 go_enter Tryz.func34, Tryz.ntmps34
 go_wp2_with (fail)
 go_loop [11] (fun i => ∃ k : Nat, k ≤ n ∧ i = .int .i64 k ∧ (l.take k).all (fun x => t_inB x lo hi) = true) (fun i => n - (intOf i).toNat)
 case atStart => exact ⟨0, Nat.zero_le _, rfl, by simp⟩
 case round =>
  obtain ⟨k, hk, rfl, hall⟩ := hrel
  by_cases hlt : k < n
  · obtain ⟨ad, x, rfl, hx, hc⟩ := h.at_ (j := k) (by rw [hn_h.out]; exact hlt)
    have hkI : (k : Int) < (n : Int) := by omega
    have hC := t_l1In_any x lo hi w
    cases hb : t_inB x lo hi
    · rw [hb] at hC
      have hf : D = false := by
       rw [hD_h.out, Bool.eq_false_iff]
       intro hh
       have := List.all_eq_true.1 hh x (List.mem_of_getElem? hx)
       rw [hb] at this; cases this
      subst hf
      have hC_h := lH hC; have hall_h := lH hall; have hx_h := lH hx; clear hC hall hx; clear h hb
      go_wp2_with (fail)
      refine (hC_h.out).mono ?_
      rintro e w1 ⟨rfl, rfl⟩
      go_wp2_with (fail)
      go_ret
      exact ⟨rfl, rfl⟩
    · rw [hb] at hC
      have hst : (l.take (k + 1)).all (fun x => t_inB x lo hi) = true := by
       rw [List.take_add_one, hx, List.all_append, hall]; simp [hb]
      have hC_h := lH hC; have hst_h := lH hst; clear hC hst; clear h hb hall hx
      go_wp2_with (fail)
      refine (hC_h.out).mono ?_
      rintro e w1 ⟨rfl, rfl⟩
      go_wp2_with (fail)
      go_round
      case rel => exact ⟨k + 1, by omega, by go_num, hst_h.out⟩
      case measure => simp [intOf]; omega
  · obtain rfl : n = k := by omega
    have ht : D = true := by rw [hD_h.out, ← hall, List.take_of_length_le (by rw [hn_h.out]; exact Nat.le_refl _)]
    subst ht
    have hall_h := lH hall; clear hall; clear h
    go_wp2_with (fail)
    go_ret
    exact ⟨rfl, rfl⟩
set_option maxRecDepth 100000 in
set_option maxHeartbeats 4000000 in
theorem hgEdge_any (k v : Int) (B C : Option Addr) (b c : Nat) (l m : List Int) (n : Int) (w : World) (hB : RdI w B l) (hC : RdI w C m) (hl : l.length ≤ 1048576) (hm : m.length ≤ 1048576) (n0 : -1000000 ≤ n) (n1 : n ≤ 1000000) :
  Calls Tryz.prog 35 #[.agg #[.int .i64 k, .int .i64 v, .slice B l.length b, .slice C m.length c], .int .i64 n] w fun e w' => e = .returned (.bool (hgB n (k, v, l, m))) ∧ Below w.heap.size w w' := by
 obtain ⟨p, hp⟩ : ∃ p, p = l.length := ⟨_, rfl⟩
 obtain ⟨q, hq⟩ : ∃ q, q = m.length := ⟨_, rfl⟩
 have hA1 := fun (W : World) (hb : Below w.heap.size w W) => t_l1All_any B b p l 0 (n - 1) W (hB.below hb) hp.symm (by omega)
 have hA2 := fun (W : World) (hb : Below w.heap.size w W) => t_l1All_any C c q m 0 (n - 1) W (hC.below hb) hq.symm (by omega)
 obtain ⟨D, hD⟩ : ∃ D, D = hgB n (k, v, l, m) := ⟨_, rfl⟩
 have hDD : D = ((t_inB k 3 14 && (gvB k v && decide (((p : Int), (q : Int)) = kindTy k))) && ((l.all fun x => t_inB x 0 (n - 1)) && (m.all fun x => t_inB x 0 (n - 1)))) := by rw [hD, hp, hq]; rfl
 rw [← hD, ← hp, ← hq]
 obtain ⟨D1, hD1⟩ : ∃ D, D = l.all fun x => t_inB x 0 (n - 1) := ⟨_, rfl⟩
 obtain ⟨D2, hD2⟩ : ∃ D, D = m.all fun x => t_inB x 0 (n - 1) := ⟨_, rfl⟩
 simp only [← hD1] at hA1 hDD
 simp only [← hD2] at hA2 hDD
 have hkd : decide (((p : Int), (q : Int)) = kindTy k) = (((p : Int) == (kindTy k).1) && ((q : Int) == (kindTy k).2)) := by
  rw [Bool.eq_iff_iff]
  simp only [decide_eq_true_eq, Bool.and_eq_true, beq_iff_eq]
  exact ⟨fun h => ⟨congrArg Prod.fst h, congrArg Prod.snd h⟩, fun h => Prod.ext h.1 h.2⟩
 rw [hkd] at hDD
 have hTL := fun (W : World) => tmLeaf_any k v noName W
 have hIn := fun (W : World) => t_l1In_any k 3 14 W
 have hTK := fun (W : World) => tmKind_any k W
 obtain ⟨i1, hi1⟩ : ∃ i, i = (kindTy k).1 := ⟨_, rfl⟩
 obtain ⟨i2, hi2⟩ : ∃ i, i = (kindTy k).2 := ⟨_, rfl⟩
 simp only [← hi1, ← hi2] at hTK hDD
 have wn : IntKind.i64.wrap (n - 1) = n - 1 := IntWalk.i64_in _ (by omega)
 obtain ⟨W, hW, bW, k0⟩ : ∃ W, W = w.alloc (.cells #[.int .i64 k, .int .i64 v, .slice B p b, .slice C q c] tEd) ∧ Below w.heap.size w W ∧ W.heap[w.heap.size]? = some (.cells #[.int .i64 k, .int .i64 v, .slice B p b, .slice C q c] tEd) := ⟨_, rfl, t_below_alloc _ _, heap_alloc_new _ _⟩
 obtain ⟨⟨c0, c1, c2, c3⟩, f0, f1, f2, f3⟩ := t_box4 k0
 clear hB hC hD hkd hD1 hD2 hi1 hi2
 by_cases h0 : t_inB k 3 14 = true
 case neg =>
  have h0' : t_inB k 3 14 = false := by simpa using h0
  obtain rfl : D = false := by rw [hDD, h0']; rfl
  simp only [h0'] at hIn
  clear h0 h0' hDD; have hA1_h := lH hA1; have hA2_h := lH hA2; have hTL_h := lH hTL; have hIn_h := lH hIn; have hTK_h := lH hTK; have k0_h := lH k0; have bW_h := lH bW; have hp_h := lH hp; have hq_h := lH hq; clear hA1 hA2 hTL hIn hTK k0 bW hp hq
  go_enter Tryz.func35, Tryz.ntmps35
  go_upto_region 1 with (fail)
  rw [← hW]
  clear hW
  go_wp2_with (fail)
  refine (hIn_h.out _).mono ?_
  rintro e w1 ⟨rfl, rfl⟩
  go_wp2_with (fail)
  go_ret
  exact ⟨rfl, bW_h.out⟩
 have hb14 : 3 ≤ k ∧ k ≤ 14 := of_decide_eq_true h0
 have hlf0 := leafB_gv (v := v) hb14.1 hb14.2
 simp only [h0] at hIn
 rw [h0, Bool.true_and] at hDD
 by_cases h1 : gvB k v = true
 case neg =>
  have h1' : gvB k v = false := by simpa using h1
  obtain rfl : D = false := by rw [hDD, h1']; rfl
  have hlf : leafB (k, v, noName) = false := by rw [hlf0, h1']
  clear h0 h1 h1' hDD hlf0 hb14; have hA1_h := lH hA1; have hA2_h := lH hA2; have hTL_h := lH hTL; have hIn_h := lH hIn; have hTK_h := lH hTK; have k0_h := lH k0; have bW_h := lH bW; have hp_h := lH hp; have hq_h := lH hq; clear hA1 hA2 hTL hIn hTK k0 bW hp hq
  go_enter Tryz.func35, Tryz.ntmps35
  go_upto_region 1 with (fail)
  rw [← hW]
  clear hW
  go_wp2_with (fail)
  refine (hIn_h.out _).mono ?_
  rintro e w1 ⟨rfl, rfl⟩
  go_wp2_with (fail)
  refine (hTL_h.out _).mono ?_
  rintro e w2 ⟨lb, rfl, hlb, hb2⟩
  rw [hlf] at hlb
  subst hlb
  clear c0 c1 c2 c3 f0 f1 f2 f3
  have k2 := t_box_below k0_h.out hb2
  obtain ⟨⟨c0, c1, c2, c3⟩, f0, f1, f2, f3⟩ := t_box4 k2
  have hB2 := below_trans bW_h.out hb2 bW_h.out.size
  clear hb2 k2; have hB2_h := lH hB2; clear hB2
  go_wp2_with (fail)
  go_ret
  exact ⟨rfl, hB2_h.out⟩
 have hlf : leafB (k, v, noName) = true := by rw [hlf0, h1]
 rw [h1, Bool.true_and] at hDD
 clear h0 h1 hlf0 hb14
 by_cases h2 : (p : Int) = i1
 case neg =>
  have h2' : ((p : Int) == i1) = false := by rw [beq_eq_false_iff_ne]; exact h2
  obtain rfl : D = false := by rw [hDD, h2']; rfl
  clear h2 hDD; have hA1_h := lH hA1; have hA2_h := lH hA2; have hTL_h := lH hTL; have hIn_h := lH hIn; have hTK_h := lH hTK; have k0_h := lH k0; have bW_h := lH bW; have hp_h := lH hp; have hq_h := lH hq; clear hA1 hA2 hTL hIn hTK k0 bW hp hq
  go_enter Tryz.func35, Tryz.ntmps35
  go_upto_region 1 with (fail)
  rw [← hW]
  clear hW
  go_wp2_with (fail)
  refine (hIn_h.out _).mono ?_
  rintro e w1 ⟨rfl, rfl⟩
  go_wp2_with (fail)
  refine (hTL_h.out _).mono ?_
  rintro e w2 ⟨lb, rfl, hlb, hb2⟩
  rw [hlf] at hlb
  subst hlb
  clear c0 c1 c2 c3 f0 f1 f2 f3
  have k2 := t_box_below k0_h.out hb2
  obtain ⟨⟨c0, c1, c2, c3⟩, f0, f1, f2, f3⟩ := t_box4 k2
  have hB2 := below_trans bW_h.out hb2 bW_h.out.size
  clear hb2 k2; have hB2_h := lH hB2; clear hB2
  go_wp2_with (fail)
  refine (hTK_h.out _).mono ?_
  rintro e w3 ⟨rfl, rfl⟩
  go_wp2_with (fail)
  go_ret
  exact ⟨rfl, hB2_h.out⟩
 have h2' : ((p : Int) == i1) = true := by rw [beq_iff_eq]; exact h2
 rw [h2', Bool.true_and] at hDD
 clear h2
 by_cases h3 : (q : Int) = i2
 case neg =>
  have h3' : ((q : Int) == i2) = false := by rw [beq_eq_false_iff_ne]; exact h3
  obtain rfl : D = false := by rw [hDD, h3']; rfl
  clear h3 hDD; have hA1_h := lH hA1; have hA2_h := lH hA2; have hTL_h := lH hTL; have hIn_h := lH hIn; have hTK_h := lH hTK; have k0_h := lH k0; have bW_h := lH bW; have hp_h := lH hp; have hq_h := lH hq; clear hA1 hA2 hTL hIn hTK k0 bW hp hq
  go_enter Tryz.func35, Tryz.ntmps35
  go_upto_region 1 with (fail)
  rw [← hW]
  clear hW
  go_wp2_with (fail)
  refine (hIn_h.out _).mono ?_
  rintro e w1 ⟨rfl, rfl⟩
  go_wp2_with (fail)
  refine (hTL_h.out _).mono ?_
  rintro e w2 ⟨lb, rfl, hlb, hb2⟩
  rw [hlf] at hlb
  subst hlb
  clear c0 c1 c2 c3 f0 f1 f2 f3
  have k2 := t_box_below k0_h.out hb2
  obtain ⟨⟨c0, c1, c2, c3⟩, f0, f1, f2, f3⟩ := t_box4 k2
  have hB2 := below_trans bW_h.out hb2 bW_h.out.size
  clear hb2 k2; have hB2_h := lH hB2; clear hB2
  go_wp2_with (fail)
  refine (hTK_h.out _).mono ?_
  rintro e w3 ⟨rfl, rfl⟩
  go_wp2_with (fail)
  go_ret
  exact ⟨rfl, hB2_h.out⟩
 have h3' : ((q : Int) == i2) = true := by rw [beq_iff_eq]; exact h3
 rw [h3', Bool.true_and] at hDD
 clear h3
 cases D1
 case false =>
  obtain rfl : D = false := by rw [hDD]; rfl
  clear hDD; have hA1_h := lH hA1; have hA2_h := lH hA2; have hTL_h := lH hTL; have hIn_h := lH hIn; have hTK_h := lH hTK; have k0_h := lH k0; have bW_h := lH bW; have hp_h := lH hp; have hq_h := lH hq; clear hA1 hA2 hTL hIn hTK k0 bW hp hq
  go_enter Tryz.func35, Tryz.ntmps35
  go_upto_region 1 with (fail)
  rw [← hW]
  clear hW
  go_wp2_with (fail)
  refine (hIn_h.out _).mono ?_
  rintro e w1 ⟨rfl, rfl⟩
  go_wp2_with (fail)
  refine (hTL_h.out _).mono ?_
  rintro e w2 ⟨lb, rfl, hlb, hb2⟩
  rw [hlf] at hlb
  subst hlb
  clear c0 c1 c2 c3 f0 f1 f2 f3
  have k2 := t_box_below k0_h.out hb2
  obtain ⟨⟨c0, c1, c2, c3⟩, f0, f1, f2, f3⟩ := t_box4 k2
  have hB2 := below_trans bW_h.out hb2 bW_h.out.size
  clear hb2 k2; have hB2_h := lH hB2; clear hB2
  go_wp2_with (fail)
  refine (hTK_h.out _).mono ?_
  rintro e w3 ⟨rfl, rfl⟩
  go_wp2_with (fail)
  refine (hA1_h.out _ hB2_h.out).mono ?_
  rintro e w4 ⟨rfl, rfl⟩
  go_wp2_with (fail)
  go_ret
  exact ⟨rfl, hB2_h.out⟩
 obtain rfl : D = D2 := by rw [hDD]; rfl
 clear hDD; have hA1_h := lH hA1; have hA2_h := lH hA2; have hTL_h := lH hTL; have hIn_h := lH hIn; have hTK_h := lH hTK; have k0_h := lH k0; have bW_h := lH bW; have hp_h := lH hp; have hq_h := lH hq; clear hA1 hA2 hTL hIn hTK k0 bW hp hq
 go_enter Tryz.func35, Tryz.ntmps35
 go_upto_region 1 with (fail)
 rw [← hW]
 clear hW
 go_wp2_with (fail)
 refine (hIn_h.out _).mono ?_
 rintro e w1 ⟨rfl, rfl⟩
 go_wp2_with (fail)
 refine (hTL_h.out _).mono ?_
 rintro e w2 ⟨lb, rfl, hlb, hb2⟩
 rw [hlf] at hlb
 subst hlb
 clear c0 c1 c2 c3 f0 f1 f2 f3
 have k2 := t_box_below k0_h.out hb2
 obtain ⟨⟨c0, c1, c2, c3⟩, f0, f1, f2, f3⟩ := t_box4 k2
 have hB2 := below_trans bW_h.out hb2 bW_h.out.size
 clear hb2 k2; have hB2_h := lH hB2; clear hB2
 go_wp2_with (fail)
 refine (hTK_h.out _).mono ?_
 rintro e w3 ⟨rfl, rfl⟩
 go_wp2_with (fail)
 refine (hA1_h.out _ hB2_h.out).mono ?_
 rintro e w4 ⟨rfl, rfl⟩
 go_wp2_with (fail)
 refine (hA2_h.out _ hB2_h.out).mono ?_
 rintro e w4 ⟨rfl, rfl⟩
 go_wp2_with (fail)
 go_ret
 exact ⟨rfl, hB2_h.out⟩
theorem IS.getc {w : World} {A : Option Addr} {c n : Nat} {l : List Int} (h : IS w A c (cntM n l)) {q : Nat} (hq : q < n) : ∃ ad, A = some ad ∧ ad.block < w.heap.size ∧ w.cell? (ad.add q) = some (.int .i64 (l.count (q : Int) : Int)) ∧ w.frozen? (ad.add q) = false := by
 obtain ⟨ad, x, hA, hx, hb, hc, hf⟩ := h.at_ (j := q) (by rw [cntM_length]; exact hq)
 rw [cntM_get hq] at hx
 obtain rfl := Option.some.inj hx
 exact ⟨ad, hA, hb, hc, hf q⟩
theorem madeCnt (n : Nat) : ints (List.replicate n 0) = ints (cntM n []) := by rw [cntM_nil]
theorem inW_app_left {n : Int} {l m : List Int} (h : inW n (l ++ m) = true) : inW n l = true := by rw [inW_append] at h; simp at h; exact h.1
theorem inW_app_right {n : Int} {l m : List Int} (h : inW n (l ++ m) = true) : inW n m = true := by rw [inW_append] at h; simp at h; exact h.2
theorem inW_at {n : Nat} {l : List Int} (h : inW (n : Int) l = true) {k : Nat} {x : Int} (hx : l[k]? = some x) : ∃ q : Nat, x = (q : Int) ∧ q < n := by
 have := inW_iff.1 h x (List.mem_of_getElem? hx)
 exact ⟨x.toNat, by omega, by omega⟩
theorem mem_edW_of {l : List Eg} {e : Eg} (h : e ∈ l) : (∀ x, x ∈ e.2.2.1 → x ∈ edW l) ∧ ∀ x, x ∈ e.2.2.2 → x ∈ edW l := by
 induction l with
 | nil => cases h
 | cons a r ih =>
   rcases List.mem_cons.1 h with rfl | h
   · exact ⟨fun x hx => by simp [edW, hx], fun x hx => by simp [edW, hx]⟩
   · obtain ⟨h1, h2⟩ := ih h
     exact ⟨fun x hx => by simp [edW, h1 x hx], fun x hx => by simp [edW, h2 x hx]⟩
theorem out_len : ∀ (l : List Eg), (outW l).length + (inpW l).length + 2 * l.length = cntE l
 | [] => rfl
 | e :: r => by have := out_len r; simp only [outW, inpW, cntE, List.length_append, List.length_cons]; omega
theorem outW_take {es : List Eg} {k : Nat} {e : Eg} (h : es[k]? = some e) : outW (es.take (k + 1)) = outW (es.take k) ++ e.2.2.2 := by rw [List.take_add_one, h, outW_append]; simp [outW]
theorem inpW_take {es : List Eg} {k : Nat} {e : Eg} (h : es[k]? = some e) : inpW (es.take (k + 1)) = inpW (es.take k) ++ e.2.2.1 := by rw [List.take_add_one, h, inpW_append]; simp [inpW]
theorem outW_le (es : List Eg) (k : Nat) : (outW (es.take k)).length ≤ (outW es).length := by
 conv => rhs; rw [← List.take_append_drop k es, outW_append, List.length_append]
 omega
theorem inpW_le (es : List Eg) (k : Nat) : (inpW (es.take k)).length ≤ (inpW es).length := by
 conv => rhs; rw [← List.take_append_drop k es, inpW_append, List.length_append]
 omega
set_option maxRecDepth 100000 in
set_option maxHeartbeats 8000000 in
theorem hgCounts_any {v : Value} {g : Gr} (w : World) (n : Nat) (h : RdGr w v g) (ok : OkG g) (hgn : g.1 = (n : Int)) (hnb : n ≤ 1048576) (hin : inW (n : Int) (t_allW g) = true) :
  Calls Tryz.prog 36 #[v] w fun e w' => ∃ (A B : Option Addr) (a b : Nat), e = .returned (.tuple #[.slice A n a, .slice B n b]) ∧ IS w' A a (cntM n (orgW g)) ∧ IS w' B b (cntM n (dstW g)) ∧ Fresh w.heap.size A ∧ Fresh w.heap.size B ∧ Below w.heap.size w w' := by
 obtain ⟨A, c, hs, ⟨B, b, s⟩, ⟨C, d, t⟩, rfl, e1, e2, e3, hE, hRa, hRb⟩ := h
 obtain ⟨z, es, s0, t0⟩ := g
 have a1 : es = hs.map egOf := e1
 have a2 : s = s0 := e2
 have a3 : t = t0 := e3
 have a4 : z = (n : Int) := hgn
 subst a2 a3 a4
 have hin0 : inW (n : Int) (s ++ (t ++ edW es)) = true := hin
 have hinS := inW_app_left hin0
 have hinT := inW_app_left (inW_app_right hin0)
 have hinE := inW_app_right (inW_app_right hin0)
 have hlen1 : es.length ≤ 1048576 := ok.1.1
 have hlen2 : s.length ≤ 1048576 := ok.1.2.1
 have hlen3 : t.length ≤ 1048576 := ok.1.2.2
 have hcnt : cntE es ≤ 8388608 := by have : cntE es + s.length + t.length ≤ 8388608 := ok.2.2; omega
 have hol := out_len es
 have hXl : s.length + (outW es).length ≤ 20000000 ∧ t.length + (inpW es).length ≤ 20000000 := by omega
 obtain ⟨m, hm⟩ : ∃ m, m = hs.length := ⟨_, rfl⟩
 obtain ⟨p, hp⟩ : ∃ p, p = s.length := ⟨_, rfl⟩
 obtain ⟨r, hr⟩ : ∃ r, r = t.length := ⟨_, rfl⟩
 have hmes : es.length = m := by rw [a1, List.length_map, hm]
 have horg : orgW ((n : Int), es, s, t) = s ++ outW es := rfl
 have hdst : dstW ((n : Int), es, s, t) = t ++ inpW es := rfl
 rw [horg, hdst]
 show Calls Tryz.prog _ #[.agg #[.int .i64 (n : Int), .slice A hs.length c, .slice B s.length b, .slice C t.length d]] w _
 rw [← hm, ← hp, ← hr]
 have hRa0 : RdI w B s := hRa
 have hRb0 : RdI w C t := hRb
 obtain ⟨W, hW, bW, k0⟩ := (⟨_, rfl, t_below_alloc _ _, heap_alloc_new _ _⟩ : ∃ W, W = w.alloc (.cells #[.int .i64 (n : Int), .slice A m c, .slice B p b, .slice C r d] tGr) ∧ Below w.heap.size w W ∧ W.heap[w.heap.size]? = some (.cells #[.int .i64 (n : Int), .slice A m c, .slice B p b, .slice C r d] tGr))
 obtain ⟨⟨c0, c1, c2, c3⟩, f0, f1, f2, f3⟩ := t_box4 k0
 have hpb : (p : Int) ≤ 1048576 := by omega
 have hrb : (r : Int) ≤ 1048576 := by omega
 have hmb : (m : Int) ≤ 1048576 := by omega
 clear hRa hRb hin hin0 ok e1 e2 e3 hgn hlen1 hlen2 hlen3 hol horg hdst; have hE_h := lH hE; have hRa0_h := lH hRa0; have hRb0_h := lH hRb0; have a1_h := lH a1; have hinS_h := lH hinS; have hinT_h := lH hinT; have hinE_h := lH hinE; have hcnt_h := lH hcnt; have hm_h := lH hm; have hp_h := lH hp; have hr_h := lH hr; have hmes_h := lH hmes; have bW_h := lH bW; have k0_h := lH k0; have hXl_h := lH hXl; clear hE hRa0 hRb0 a1 hinS hinT hinE hcnt hm hp hr hmes bW k0 hXl
 go_enter Tryz.func36, Tryz.ntmps36
 go_upto_region 1 with (fail)
 rw [← hW]
 clear hW
 go_upto_region 2 with (at_make; refine wpList_make_Sl _ rfl _ _ _ rfl 3 Tryz.underlying23 info_int n n rfl rfl rfl rfl (Nat.le_refl _) (by omega) (by unfold maxLen; omega) ?_; intro G1 w2 hs2 hG1 hb2)
 have hi2 : IS w2 (some G1) n (cntM n []) := by unfold IS; rw [cntM_length, ← madeCnt, ← madeZeros]; exact hs2
 have k2 := t_box_below k0_h.out hb2
 have hB2 := below_trans bW_h.out hb2 bW_h.out.size
 have hWw2 := hb2.size
 clear hs2 c0 c1 c2 c3 f0 f1 f2 f3 hb2
 obtain ⟨⟨c0, c1, c2, c3⟩, f0, f1, f2, f3⟩ := t_box4 k2
 have hi2_h := lH hi2; have k2_h := lH k2; have hB2_h := lH hB2; clear hi2 k2 hB2
 go_upto_region 3 with (at_make; refine wpList_make_Sl _ rfl _ _ _ rfl 3 Tryz.underlying23 info_int n n rfl rfl rfl rfl (Nat.le_refl _) (by omega) (by unfold maxLen; omega) ?_; intro G2 w3 hs3 hG2 hb3)
 have hi3 : IS w3 (some G2) n (cntM n []) := by unfold IS; rw [cntM_length, ← madeCnt, ← madeZeros]; exact hs3
 have hi1 := hi2_h.out.below hb3
 have k3 := t_box_below k2_h.out hb3
 have hB3 := below_trans hB2_h.out hb3 hB2_h.out.size
 have hWs := bW_h.out.size
 have h2s := hB2_h.out.size
 have hG12 : G1.block ≠ G2.block := by have := hi2_h.out.lt G1.block (by simp); omega
 have hG1w : w.heap.size ≤ G1.block := by omega
 have hG2w : w.heap.size ≤ G2.block := by omega
 clear hs3 c0 c1 c2 c3 f0 f1 f2 f3 hb3 hi2_h k2_h
 obtain ⟨⟨c0, c1, c2, c3⟩, f0, f1, f2, f3⟩ := t_box4 k3
 have hi3_h := lH hi3; have hi1_h := lH hi1; have k3_h := lH k3; have hB3_h := lH hB3; have hG12_h := lH hG12; clear hi3 hi1 k3 hB3 hG12
 go_wp2_with (fail)
 clear c0 c1 c2 c3 f0 f1 f2 f3
 go_loopw [25] (fun i wr => ∃ k : Nat, k ≤ p ∧ i = .int .i64 k ∧ IS wr (some G1) n (cntM n (([] : List Int) ++ s.take k)) ∧ Keeps (fun b => b = G1.block) w3 wr) (fun i _ => p - (intOf i).toNat)
 case atStart => exact ⟨0, Nat.zero_le _, rfl, by simpa using hi1_h.out, Keeps.refl _ _⟩
 case round =>
  obtain ⟨j, hj, rfl, hIS, hkp⟩ := hrel
  have hBr := below_keeps hB3_h.out hkp hB3_h.out.size (fun b e => by omega)
  by_cases hlj : j < p
  · obtain ⟨xd, x, rfl, hx, hxc⟩ := (hRa0_h.out.below hBr).at_ (j := j) (by rw [← hp_h.out]; exact hlj)
    obtain ⟨q, rfl, hqn⟩ := inW_at hinS_h.out hx
    obtain ⟨gd, hgd, hgb, hgc, hgf⟩ := hIS.getc hqn
    obtain rfl := Option.some.inj hgd
    have hset := hIS.set rfl (j := q) (((([] : List Int) ++ s.take j).count (q : Int) : Int) + 1) (by rw [cntM_length]; exact hqn)
    rw [← cntM_step hqn, List.append_assoc, show s.take j ++ [(q : Int)] = s.take (j + 1) by rw [List.take_add_one, hx]; rfl] at hset
    have hks := hkp.setCell (p := G1.add q) (by rw [block_of_add]) (.int .i64 (((([] : List Int) ++ s.take j).count (q : Int) : Int) + 1))
    have hcl := count_le (([] : List Int) ++ s.take j) (q : Int)
    rw [List.length_append, List.length_take] at hcl
    try rw [List.length_nil] at hcl
    obtain ⟨cv, hcv⟩ : ∃ cv : Nat, cv = (([] : List Int) ++ s.take j).count (q : Int) := ⟨_, rfl⟩
    rw [← hcv] at hgc hset hks hcl
    have hcvb : cv ≤ 100000000 := by have := hXl_h.out; omega
    have hqI : (q : Int) < (n : Int) := by omega
    have hjI : (j : Int) < (p : Int) := by omega
    clear hIS hkp hx hcv hcl hgd; have hset_h := lH hset; have hks_h := lH hks; have hBr_h := lH hBr; clear hset hks hBr
    skip
    go_wp2_with (fail)
    go_roundw
    case rel => exact ⟨j + 1, by omega, by go_num, hset_h.out, hks_h.out⟩
    case measure => simp [intOf]; omega
  · obtain rfl : p = j := by omega
    have hIS2 : IS wr (some G1) n (cntM n (([] : List Int) ++ s)) := by rwa [List.take_of_length_le (by rw [← hp_h.out]; exact Nat.le_refl _)] at hIS
    clear hIS
    obtain ⟨w4, rfl⟩ : ∃ x, x = wr := ⟨_, rfl⟩
    have k4 := t_box_keeps k3_h.out hkp (by have := t_box_lt k0_h.out; omega)
    have hi4 := hi3_h.out.keeps hkp (fun b hb e => by have := hG12_h.out; simp at hb; omega)
    obtain ⟨⟨c0, c1, c2, c3⟩, f0, f1, f2, f3⟩ := t_box4 k4
    rw [List.nil_append] at hIS2
    clear hkp k3_h hi3_h hi1_h hB3_h; have hi4_h := lH hi4; have hIS2_h := lH hIS2; have k4_h := lH k4; have hBr_h := lH hBr; clear hi4 hIS2 k4 hBr
    go_wp2_with (fail)
    clear c0 c1 c2 c3 f0 f1 f2 f3
    go_loopw [39] (fun i wr => ∃ k : Nat, k ≤ r ∧ i = .int .i64 k ∧ IS wr (some G2) n (cntM n (([] : List Int) ++ t.take k)) ∧ Keeps (fun b => b = G2.block) w4 wr) (fun i _ => r - (intOf i).toNat)
    case atStart => exact ⟨0, Nat.zero_le _, rfl, by simpa using hi4_h.out, Keeps.refl _ _⟩
    case round =>
     obtain ⟨j, hj, rfl, hIS, hkp⟩ := hrel
     have hBr := below_keeps hBr_h.out hkp hBr_h.out.size (fun b e => by omega)
     by_cases hlj : j < r
     · obtain ⟨xd, x, rfl, hx, hxc⟩ := (hRb0_h.out.below hBr).at_ (j := j) (by rw [← hr_h.out]; exact hlj)
       obtain ⟨q, rfl, hqn⟩ := inW_at hinT_h.out hx
       obtain ⟨gd, hgd, hgb, hgc, hgf⟩ := hIS.getc hqn
       obtain rfl := Option.some.inj hgd
       have hset := hIS.set rfl (j := q) (((([] : List Int) ++ t.take j).count (q : Int) : Int) + 1) (by rw [cntM_length]; exact hqn)
       rw [← cntM_step hqn, List.append_assoc, show t.take j ++ [(q : Int)] = t.take (j + 1) by rw [List.take_add_one, hx]; rfl] at hset
       have hks := hkp.setCell (p := G2.add q) (by rw [block_of_add]) (.int .i64 (((([] : List Int) ++ t.take j).count (q : Int) : Int) + 1))
       have hcl := count_le (([] : List Int) ++ t.take j) (q : Int)
       rw [List.length_append, List.length_take] at hcl
       try rw [List.length_nil] at hcl
       obtain ⟨cv, hcv⟩ : ∃ cv : Nat, cv = (([] : List Int) ++ t.take j).count (q : Int) := ⟨_, rfl⟩
       rw [← hcv] at hgc hset hks hcl
       have hcvb : cv ≤ 100000000 := by have := hXl_h.out; omega
       have hqI : (q : Int) < (n : Int) := by omega
       have hjI : (j : Int) < (r : Int) := by omega
       clear hIS hkp hx hcv hcl hgd; have hset_h := lH hset; have hks_h := lH hks; have hBr_h := lH hBr; clear hset hks hBr
       skip
       go_wp2_with (fail)
       go_roundw
       case rel => exact ⟨j + 1, by omega, by go_num, hset_h.out, hks_h.out⟩
       case measure => simp [intOf]; omega
     · obtain rfl : r = j := by omega
       have hIS2 : IS wr (some G2) n (cntM n (([] : List Int) ++ t)) := by rwa [List.take_of_length_le (by rw [← hr_h.out]; exact Nat.le_refl _)] at hIS
       clear hIS
       obtain ⟨w5, rfl⟩ : ∃ x, x = wr := ⟨_, rfl⟩
       have k5 := t_box_keeps k4_h.out hkp (by have := t_box_lt k0_h.out; omega)
       have hi5 := hIS2_h.out.keeps hkp (fun b hb e => by have := hG12_h.out; simp at hb; omega)
       obtain ⟨⟨c0, c1, c2, c3⟩, f0, f1, f2, f3⟩ := t_box4 k5
       rw [List.nil_append] at hIS2
       have hB5 := hBr
       clear hkp k4_h hi4_h hIS2_h hBr hBr_h
       have hs0 : IS w5 (some G1) n (cntM n (s ++ outW (es.take 0))) := by simpa [outW] using hi5
       have ht0 : IS w5 (some G2) n (cntM n (t ++ inpW (es.take 0))) := by simpa [inpW] using hIS2
       clear hi5 hIS2; have hs0_h := lH hs0; have ht0_h := lH ht0; have k5_h := lH k5; have hB5_h := lH hB5; clear hs0 ht0 k5 hB5
       go_wp2_with (fail)
       clear c0 c1 c2 c3 f0 f1 f2 f3 k5_h
       go_loopw [53] (fun i wr => ∃ k : Nat, k ≤ m ∧ i = .int .i64 k ∧ IS wr (some G1) n (cntM n (s ++ outW (es.take k))) ∧ IS wr (some G2) n (cntM n (t ++ inpW (es.take k))) ∧ Below w.heap.size w wr) (fun i _ => m - (intOf i).toNat)
       case atStart => exact ⟨0, Nat.zero_le _, rfl, hs0_h.out, ht0_h.out, hB5_h.out⟩
       case round =>
        clear hs0_h ht0_h hB5_h
        obtain ⟨k, hk, rfl, hi1, hi2, hB6⟩ := hrel
        by_cases hlt : k < m
        · obtain ⟨ad, κ, vv, B1, b1, s1, C1, b2, t1, rfl, hn, ⟨d0, d1, d2, d3⟩, hr1, hr2⟩ := (hE_h.out.below hB6).at_ (j := k) (by rw [← hm_h.out]; exact hlt)
          have hek : es[k]? = some (κ, vv, s1, t1) := by rw [a1_h.out, List.getElem?_map, hn]; rfl
          obtain ⟨hm1, hm2⟩ := mem_edW_of (List.mem_of_getElem? hek)
          have hinA := inW_sub hinE_h.out hm1
          have hinB := inW_sub hinE_h.out hm2
          have htk1 := outW_take hek
          have htk2 := inpW_take hek
          have hle1 := outW_le es (k + 1)
          have hle2 := inpW_le es (k + 1)
          rw [htk1, List.length_append] at hle1
          rw [htk2, List.length_append] at hle2
          have hXl0 := hXl_h.out
          have hXl : (s ++ outW (es.take k)).length + t1.length ≤ 20000000 ∧ (t ++ inpW (es.take k)).length + s1.length ≤ 20000000 := by
           rw [List.length_append, List.length_append]
           have e1 : ((κ, vv, s1, t1) : Eg).2.2.2.length = t1.length := rfl
           have e2 : ((κ, vv, s1, t1) : Eg).2.2.1.length = s1.length := rfl
           omega
          obtain ⟨X, hX⟩ : ∃ X, X = s ++ outW (es.take k) := ⟨_, rfl⟩
          obtain ⟨Y, hY⟩ : ∃ Y, Y = t ++ inpW (es.take k) := ⟨_, rfl⟩
          rw [← hX] at hi1 hXl
          rw [← hY] at hi2 hXl
          obtain ⟨p1, hp1⟩ : ∃ p1, p1 = s1.length := ⟨_, rfl⟩
          obtain ⟨r1, hr1'⟩ : ∃ r1, r1 = t1.length := ⟨_, rfl⟩
          rw [← hp1] at d2
          rw [← hr1'] at d3
          have hp1b : (p1 : Int) ≤ 20000000 := by omega
          have hr1b : (r1 : Int) ≤ 20000000 := by omega
          have hkI : (k : Int) < (m : Int) := by omega
          obtain ⟨wo, rfl⟩ : ∃ x, x = wr := ⟨_, rfl⟩
          obtain ⟨W6, hW6, bW6, k6⟩ := (⟨_, rfl, t_below_alloc _ _, heap_alloc_new _ _⟩ : ∃ W, W = wo.alloc (.cells #[.int .i64 κ, .int .i64 vv, .slice B1 p1 b1, .slice C1 r1 b2] tEd) ∧ Below wo.heap.size wo W ∧ W.heap[wo.heap.size]? = some (.cells #[.int .i64 κ, .int .i64 vv, .slice B1 p1 b1, .slice C1 r1 b2] tEd))
          have hB7 := below_trans hB6 bW6 hB6.size
          have hj1 := hi1.below bW6
          have hj2 := hi2.below bW6
          have hq1 : G1.block < wo.heap.size := hi1.lt G1.block (by simp)
          have hq2 : G2.block < wo.heap.size := hi2.lt G2.block (by simp)
          have hrA : RdI w B1 s1 := (hE_h.out.2 _ (List.mem_of_getElem? hn)).1
          have hrB : RdI w C1 t1 := (hE_h.out.2 _ (List.mem_of_getElem? hn)).2
          obtain ⟨⟨c0, c1, c2, c3⟩, f0, f1, f2, f3⟩ := t_box4 k6
          clear hr1 hr2 hn hm1 hm2 hle1 hle2 hXl0 hi1 hi2 hek; have hr1_h := lH hr1'; clear hr1'; have hinA_h := lH hinA; have hinB_h := lH hinB; have htk1_h := lH htk1; have htk2_h := lH htk2; have hXl_h := lH hXl; have hX_h := lH hX; have hY_h := lH hY; have hp1_h := lH hp1; have bW6_h := lH bW6; have k6_h := lH k6; have hB7_h := lH hB7; have hj1_h := lH hj1; have hj2_h := lH hj2; have hrA_h := lH hrA; have hrB_h := lH hrB; have hB6_h := lH hB6; clear hinA hinB htk1 htk2 hXl hX hY hp1 bW6 k6 hB7 hj1 hj2 hrA hrB hB6
          go_upto_region 16 with (fail)
          rw [← hW6]
          clear hW6
          go_wp2_with (fail)
          clear c0 c1 c2 c3 f0 f1 f2 f3 d0 d1 d2 d3
          go_loopw [60] (fun i wr => ∃ k : Nat, k ≤ r1 ∧ i = .int .i64 k ∧ IS wr (some G1) n (cntM n (X ++ t1.take k)) ∧ Keeps (fun b => b = G1.block) W6 wr) (fun i _ => r1 - (intOf i).toNat)
          case atStart => exact ⟨0, Nat.zero_le _, rfl, by simpa using hj1_h.out, Keeps.refl _ _⟩
          case round =>
           obtain ⟨j, hj, rfl, hIS, hkp⟩ := hrel
           have hBr := below_keeps hB7_h.out hkp hB7_h.out.size (fun b e => by omega)
           by_cases hlj : j < r1
           · obtain ⟨xd, x, rfl, hx, hxc⟩ := (hrB_h.out.below hBr).at_ (j := j) (by rw [← hr1_h.out]; exact hlj)
             obtain ⟨q, rfl, hqn⟩ := inW_at hinB_h.out hx
             obtain ⟨gd, hgd, hgb, hgc, hgf⟩ := hIS.getc hqn
             obtain rfl := Option.some.inj hgd
             have hset := hIS.set rfl (j := q) (((X ++ t1.take j).count (q : Int) : Int) + 1) (by rw [cntM_length]; exact hqn)
             rw [← cntM_step hqn, List.append_assoc, show t1.take j ++ [(q : Int)] = t1.take (j + 1) by rw [List.take_add_one, hx]; rfl] at hset
             have hks := hkp.setCell (p := G1.add q) (by rw [block_of_add]) (.int .i64 (((X ++ t1.take j).count (q : Int) : Int) + 1))
             have hcl := count_le (X ++ t1.take j) (q : Int)
             rw [List.length_append, List.length_take] at hcl
             try rw [List.length_nil] at hcl
             obtain ⟨cv, hcv⟩ : ∃ cv : Nat, cv = (X ++ t1.take j).count (q : Int) := ⟨_, rfl⟩
             rw [← hcv] at hgc hset hks hcl
             have hcvb : cv ≤ 100000000 := by have := hXl_h.out; omega
             have hqI : (q : Int) < (n : Int) := by omega
             have hjI : (j : Int) < (r1 : Int) := by omega
             clear hIS hkp hx hcv hcl hgd; have hset_h := lH hset; have hks_h := lH hks; have hBr_h := lH hBr; clear hset hks hBr
             skip
             go_wp2_with (fail)
             go_roundw
             case rel => exact ⟨j + 1, by omega, by go_num, hset_h.out, hks_h.out⟩
             case measure => simp [intOf]; omega
           · obtain rfl : r1 = j := by omega
             have hIS2 : IS wr (some G1) n (cntM n (X ++ t1)) := by rwa [List.take_of_length_le (by rw [← hr1_h.out]; exact Nat.le_refl _)] at hIS
             clear hIS
             obtain ⟨w7, rfl⟩ : ∃ x, x = wr := ⟨_, rfl⟩
             have k7 := t_box_keeps k6_h.out hkp (by omega)
             have hj7 := hj2_h.out.keeps hkp (fun b hb e => by have := hG12_h.out; simp at hb; omega)
             obtain ⟨⟨c0, c1, c2, c3⟩, f0, f1, f2, f3⟩ := t_box4 k7
             have hB8 := hBr
             clear hkp k6_h hj1_h hj2_h hB7_h k7 hBr; have hj7_h := lH hj7; have hIS2_h := lH hIS2; have hB8_h := lH hB8; clear hj7 hIS2 hB8
             go_wp2_with (fail)
             clear c0 c1 c2 c3 f0 f1 f2 f3
             go_loopw [74] (fun i wr => ∃ k : Nat, k ≤ p1 ∧ i = .int .i64 k ∧ IS wr (some G2) n (cntM n (Y ++ s1.take k)) ∧ Keeps (fun b => b = G2.block) w7 wr) (fun i _ => p1 - (intOf i).toNat)
             case atStart => exact ⟨0, Nat.zero_le _, rfl, by simpa using hj7_h.out, Keeps.refl _ _⟩
             case round =>
              obtain ⟨j, hj, rfl, hIS, hkp⟩ := hrel
              have hBr := below_keeps hB8_h.out hkp hB8_h.out.size (fun b e => by omega)
              by_cases hlj : j < p1
              · obtain ⟨xd, x, rfl, hx, hxc⟩ := (hrA_h.out.below hBr).at_ (j := j) (by rw [← hp1_h.out]; exact hlj)
                obtain ⟨q, rfl, hqn⟩ := inW_at hinA_h.out hx
                obtain ⟨gd, hgd, hgb, hgc, hgf⟩ := hIS.getc hqn
                obtain rfl := Option.some.inj hgd
                have hset := hIS.set rfl (j := q) (((Y ++ s1.take j).count (q : Int) : Int) + 1) (by rw [cntM_length]; exact hqn)
                rw [← cntM_step hqn, List.append_assoc, show s1.take j ++ [(q : Int)] = s1.take (j + 1) by rw [List.take_add_one, hx]; rfl] at hset
                have hks := hkp.setCell (p := G2.add q) (by rw [block_of_add]) (.int .i64 (((Y ++ s1.take j).count (q : Int) : Int) + 1))
                have hcl := count_le (Y ++ s1.take j) (q : Int)
                rw [List.length_append, List.length_take] at hcl
                try rw [List.length_nil] at hcl
                obtain ⟨cv, hcv⟩ : ∃ cv : Nat, cv = (Y ++ s1.take j).count (q : Int) := ⟨_, rfl⟩
                rw [← hcv] at hgc hset hks hcl
                have hcvb : cv ≤ 100000000 := by have := hXl_h.out; omega
                have hqI : (q : Int) < (n : Int) := by omega
                have hjI : (j : Int) < (p1 : Int) := by omega
                clear hIS hkp hx hcv hcl hgd; have hset_h := lH hset; have hks_h := lH hks; have hBr_h := lH hBr; clear hset hks hBr
                skip
                go_wp2_with (fail)
                go_roundw
                case rel => exact ⟨j + 1, by omega, by go_num, hset_h.out, hks_h.out⟩
                case measure => simp [intOf]; omega
              · obtain rfl : p1 = j := by omega
                have hIS2 : IS wr (some G2) n (cntM n (Y ++ s1)) := by rwa [List.take_of_length_le (by rw [← hp1_h.out]; exact Nat.le_refl _)] at hIS
                clear hIS
                have hj8 := hIS2_h.out.keeps hkp (fun b hb e => by have := hG12_h.out; simp at hb; omega)
                have e1 : IS wr (some G1) n (cntM n (s ++ outW (es.take (k + 1)))) := by rw [htk1_h.out, ← List.append_assoc, ← hX_h.out]; exact hj8
                have e2 : IS wr (some G2) n (cntM n (t ++ inpW (es.take (k + 1)))) := by rw [htk2_h.out, ← List.append_assoc, ← hY_h.out]; exact hIS2
                clear hj8 hIS2 hkp; have e1_h := lH e1; have e2_h := lH e2; have hBr_h := lH hBr; clear e1 e2 hBr
                go_wp2_with (fail)
                go_roundw
                case rel => exact ⟨k + 1, by omega, by go_num, e1_h.out, e2_h.out, hBr_h.out⟩
                case measure => simp [intOf]; omega
        · obtain rfl : m = k := by omega
          rw [List.take_of_length_le (by rw [hmes_h.out]; exact Nat.le_refl _)] at hi1 hi2
          have hff1 : Fresh w.heap.size (some G1) := fun b hb => by simp at hb; omega
          have hff2 : Fresh w.heap.size (some G2) := fun b hb => by simp at hb; omega
          have hi1_h := lH hi1; have hi2_h := lH hi2; have hB6_h := lH hB6; have hff1_h := lH hff1; have hff2_h := lH hff2; clear hi1 hi2 hB6 hff1 hff2
          go_wp2_with (fail)
          go_ret2
          exact ⟨some G1, some G2, n, n, rfl, hi1_h.out, hi2_h.out, hff1_h.out, hff2_h.out, hB6_h.out⟩
theorem grB_eq (g : Gr) : grB g = (t_inB g.1 0 100 && (decide (g.2.1.length ≤ 60) && (decide (g.2.2.1.length ≤ 12) && (decide (g.2.2.2.length ≤ 12) && (inW g.1 g.2.2.1 && (inW g.1 g.2.2.2 && (g.2.1.all (hgB g.1) && fullW g.1 (t_allW g)))))))) := by
 unfold grB
 rw [hgB_all]
 have e : inW g.1 (t_allW g) = (inW g.1 g.2.2.1 && (inW g.1 g.2.2.2 && inW g.1 (edW g.2.1))) := by unfold t_allW; rw [inW_append, inW_append]
 rw [e]
 cases t_inB g.1 0 100 <;> cases decide (g.2.1.length ≤ 60) <;> cases decide (g.2.2.1.length ≤ 12) <;> cases decide (g.2.2.2.length ≤ 12) <;> cases inW g.1 g.2.2.1 <;> cases inW g.1 g.2.2.2 <;> cases g.2.1.all egB <;> cases inW g.1 (edW g.2.1) <;> cases fullW g.1 (t_allW g) <;> rfl
theorem count_zero {g : Gr} {k : Nat} : ((orgW g).count (k : Int) = 0 ∧ (dstW g).count (k : Int) = 0) ↔ (t_allW g).contains (k : Int) = false := by
 rw [List.count_eq_zero, List.count_eq_zero, Bool.eq_false_iff, ne_eq, List.contains_iff_mem, mem_allW]
 exact ⟨fun h hm => hm.elim h.1 h.2, fun h => ⟨fun a => h (.inl a), fun a => h (.inr a)⟩⟩
set_option maxRecDepth 100000 in
set_option maxHeartbeats 8000000 in
theorem hgValid_any {v : Value} {g : Gr} (w : World) (h : RdGr w v g) (ok : OkG g) :
  Calls Tryz.prog 26 #[v] w fun e w' => e = .returned (.bool (grB g)) ∧ Below w.heap.size w w' := by
 have hG0 := h
 obtain ⟨A, c, hs, ⟨B, b, s⟩, ⟨C, d, t⟩, rfl, e1, e2, e3, hE, hRa, hRb⟩ := h
 obtain ⟨z, es, s0, t0⟩ := g
 have a1 : es = hs.map egOf := e1
 have a2 : s = s0 := e2
 have a3 : t = t0 := e3
 subst a2 a3
 have hok := ok
 have hlen1 : es.length ≤ 1048576 := ok.1.1
 have hlen2 : s.length ≤ 1048576 := ok.1.2.1
 have hlen3 : t.length ≤ 1048576 := ok.1.2.2
 have hlE : ∀ x, x ∈ hs → x.2.2.1.2.2.length ≤ 1048576 ∧ x.2.2.2.2.2.length ≤ 1048576 := fun x hx => ok.2.1 _ (by show egOf x ∈ es; rw [a1]; exact List.mem_map_of_mem hx)
 obtain ⟨D, hD⟩ : ∃ D, D = grB (z, es, s, t) := ⟨_, rfl⟩
 have hDD := hD
 rw [grB_eq] at hDD
 simp only at hDD
 rw [← hD]
 obtain ⟨m, hm⟩ : ∃ m, m = hs.length := ⟨_, rfl⟩
 obtain ⟨p, hp⟩ : ∃ p, p = s.length := ⟨_, rfl⟩
 obtain ⟨r, hr⟩ : ∃ r, r = t.length := ⟨_, rfl⟩
 have hmes : es.length = m := by rw [a1, List.length_map, hm]
 have hRa0 : RdI w B s := hRa
 have hRb0 : RdI w C t := hRb
 rw [hmes, ← hp, ← hr] at hDD
 change RdGr w (.agg #[.int .i64 z, .slice A hs.length c, .slice B s.length b, .slice C t.length d]) (z, es, s, t) at hG0
 rw [← hm, ← hp, ← hr] at hG0
 show Calls Tryz.prog _ #[.agg #[.int .i64 z, .slice A hs.length c, .slice B s.length b, .slice C t.length d]] w _
 rw [← hm, ← hp, ← hr]
 obtain ⟨W, hW, bW, k0⟩ := (⟨_, rfl, t_below_alloc _ _, heap_alloc_new _ _⟩ : ∃ W, W = w.alloc (.cells #[.int .i64 z, .slice A m c, .slice B p b, .slice C r d] tGr) ∧ Below w.heap.size w W ∧ W.heap[w.heap.size]? = some (.cells #[.int .i64 z, .slice A m c, .slice B p b, .slice C r d] tGr))
 obtain ⟨⟨c0, c1, c2, c3⟩, f0, f1, f2, f3⟩ := t_box4 k0
 have hI := fun (W : World) => t_l1In_any z 0 100 W
 have hA1 := fun (W : World) (hb : Below w.heap.size w W) => t_l1All_any B b p s 0 (z - 1) W (RdI.below hRa0 hb) hp.symm (by omega)
 have hA2 := fun (W : World) (hb : Below w.heap.size w W) => t_l1All_any C d r t 0 (z - 1) W (RdI.below hRb0 hb) hr.symm (by omega)
 obtain ⟨D1, hD1⟩ : ∃ D, D = inW z s := ⟨_, rfl⟩
 obtain ⟨D2, hD2⟩ : ∃ D, D = inW z t := ⟨_, rfl⟩
 have hD1' : (s.all fun x => t_inB x 0 (z - 1)) = D1 := hD1.symm
 have hD2' : (t.all fun x => t_inB x 0 (z - 1)) = D2 := hD2.symm
 simp only [hD1'] at hA1
 simp only [hD2'] at hA2
 rw [← hD1, ← hD2] at hDD
 clear hRa hRb ok e1 e2 e3 hD1' hD2' hRa0 hRb0
 by_cases h0 : t_inB z 0 100 = true
 case neg =>
  have h0' : t_inB z 0 100 = false := by simpa using h0
  obtain rfl : D = false := by rw [hDD, h0']; rfl
  simp only [h0'] at hI
  clear h0 h0'; have hI_h := lH hI; have hA1_h := lH hA1; have hA2_h := lH hA2; have k0_h := lH k0; have bW_h := lH bW; have hm_h := lH hm; have hp_h := lH hp; have hr_h := lH hr; have hD_h := lH hD; have hDD_h := lH hDD; have hmes_h := lH hmes; have hlE_h := lH hlE; have hok_h := lH hok; have a1_h := lH a1; have hE_h := lH hE; have hG0_h := lH hG0; have hD1_h := lH hD1; have hD2_h := lH hD2; clear hI hA1 hA2 k0 bW hm hp hr hD hDD hmes hlE hok a1 hE hG0 hD1 hD2
  go_enter Tryz.func26, Tryz.ntmps26
  go_upto_region 1 with (fail)
  rw [← hW]
  clear hW
  go_wp2_with (fail)
  refine (hI_h.out _).mono ?_
  rintro e w1 ⟨rfl, rfl⟩
  go_wp2_with (fail)
  go_ret
  exact ⟨rfl, bW_h.out⟩
 have hz : 0 ≤ z ∧ z ≤ 100 := of_decide_eq_true h0
 simp only [h0] at hI
 rw [h0, Bool.true_and] at hDD
 clear h0
 have wz : IntKind.i64.wrap (z - 1) = z - 1 := IntWalk.i64_in _ (by omega)
 by_cases h1 : m ≤ 60
 case neg =>
  obtain rfl : D = false := by rw [hDD, decide_eq_false h1]; rfl
  have h1' : ¬ ((m : Int) ≤ 60) := by omega
  have hI_h := lH hI; have hA1_h := lH hA1; have hA2_h := lH hA2; have k0_h := lH k0; have bW_h := lH bW; have hm_h := lH hm; have hp_h := lH hp; have hr_h := lH hr; have hD_h := lH hD; have hDD_h := lH hDD; have hmes_h := lH hmes; have hlE_h := lH hlE; have hok_h := lH hok; have a1_h := lH a1; have hE_h := lH hE; have hG0_h := lH hG0; have hD1_h := lH hD1; have hD2_h := lH hD2; clear hI hA1 hA2 k0 bW hm hp hr hD hDD hmes hlE hok a1 hE hG0 hD1 hD2
  go_enter Tryz.func26, Tryz.ntmps26
  go_upto_region 1 with (fail)
  rw [← hW]
  clear hW
  go_wp2_with (fail)
  refine (hI_h.out _).mono ?_
  rintro e w1 ⟨rfl, rfl⟩
  go_wp2_with (fail)
  go_ret
  exact ⟨rfl, bW_h.out⟩
 rw [decide_eq_true h1, Bool.true_and] at hDD
 have h1' : (m : Int) ≤ 60 := by omega
 by_cases h2 : p ≤ 12
 case neg =>
  obtain rfl : D = false := by rw [hDD, decide_eq_false h2]; rfl
  have h2' : ¬ ((p : Int) ≤ 12) := by omega
  have hI_h := lH hI; have hA1_h := lH hA1; have hA2_h := lH hA2; have k0_h := lH k0; have bW_h := lH bW; have hm_h := lH hm; have hp_h := lH hp; have hr_h := lH hr; have hD_h := lH hD; have hDD_h := lH hDD; have hmes_h := lH hmes; have hlE_h := lH hlE; have hok_h := lH hok; have a1_h := lH a1; have hE_h := lH hE; have hG0_h := lH hG0; have hD1_h := lH hD1; have hD2_h := lH hD2; clear hI hA1 hA2 k0 bW hm hp hr hD hDD hmes hlE hok a1 hE hG0 hD1 hD2
  go_enter Tryz.func26, Tryz.ntmps26
  go_upto_region 1 with (fail)
  rw [← hW]
  clear hW
  go_wp2_with (fail)
  refine (hI_h.out _).mono ?_
  rintro e w1 ⟨rfl, rfl⟩
  go_wp2_with (fail)
  go_ret
  exact ⟨rfl, bW_h.out⟩
 rw [decide_eq_true h2, Bool.true_and] at hDD
 have h2' : (p : Int) ≤ 12 := by omega
 by_cases h3 : r ≤ 12
 case neg =>
  obtain rfl : D = false := by rw [hDD, decide_eq_false h3]; rfl
  have h3' : ¬ ((r : Int) ≤ 12) := by omega
  have hI_h := lH hI; have hA1_h := lH hA1; have hA2_h := lH hA2; have k0_h := lH k0; have bW_h := lH bW; have hm_h := lH hm; have hp_h := lH hp; have hr_h := lH hr; have hD_h := lH hD; have hDD_h := lH hDD; have hmes_h := lH hmes; have hlE_h := lH hlE; have hok_h := lH hok; have a1_h := lH a1; have hE_h := lH hE; have hG0_h := lH hG0; have hD1_h := lH hD1; have hD2_h := lH hD2; clear hI hA1 hA2 k0 bW hm hp hr hD hDD hmes hlE hok a1 hE hG0 hD1 hD2
  go_enter Tryz.func26, Tryz.ntmps26
  go_upto_region 1 with (fail)
  rw [← hW]
  clear hW
  go_wp2_with (fail)
  refine (hI_h.out _).mono ?_
  rintro e w1 ⟨rfl, rfl⟩
  go_wp2_with (fail)
  go_ret
  exact ⟨rfl, bW_h.out⟩
 rw [decide_eq_true h3, Bool.true_and] at hDD
 have h3' : (r : Int) ≤ 12 := by omega
 cases D1
 case false =>
  obtain rfl : D = false := by rw [hDD]; rfl
  have hI_h := lH hI; have hA1_h := lH hA1; have hA2_h := lH hA2; have k0_h := lH k0; have bW_h := lH bW; have hm_h := lH hm; have hp_h := lH hp; have hr_h := lH hr; have hD_h := lH hD; have hDD_h := lH hDD; have hmes_h := lH hmes; have hlE_h := lH hlE; have hok_h := lH hok; have a1_h := lH a1; have hE_h := lH hE; have hG0_h := lH hG0; have hD1_h := lH hD1; have hD2_h := lH hD2; clear hI hA1 hA2 k0 bW hm hp hr hD hDD hmes hlE hok a1 hE hG0 hD1 hD2
  go_enter Tryz.func26, Tryz.ntmps26
  go_upto_region 1 with (fail)
  rw [← hW]
  clear hW
  go_wp2_with (fail)
  refine (hI_h.out _).mono ?_
  rintro e w1 ⟨rfl, rfl⟩
  go_wp2_with (fail)
  refine (hA1_h.out _ bW_h.out).mono ?_
  rintro e w1 ⟨rfl, rfl⟩
  go_wp2_with (fail)
  go_ret
  exact ⟨rfl, bW_h.out⟩
 rw [Bool.true_and] at hDD
 cases D2
 case false =>
  obtain rfl : D = false := by rw [hDD]; rfl
  have hI_h := lH hI; have hA1_h := lH hA1; have hA2_h := lH hA2; have k0_h := lH k0; have bW_h := lH bW; have hm_h := lH hm; have hp_h := lH hp; have hr_h := lH hr; have hD_h := lH hD; have hDD_h := lH hDD; have hmes_h := lH hmes; have hlE_h := lH hlE; have hok_h := lH hok; have a1_h := lH a1; have hE_h := lH hE; have hG0_h := lH hG0; have hD1_h := lH hD1; have hD2_h := lH hD2; clear hI hA1 hA2 k0 bW hm hp hr hD hDD hmes hlE hok a1 hE hG0 hD1 hD2
  go_enter Tryz.func26, Tryz.ntmps26
  go_upto_region 1 with (fail)
  rw [← hW]
  clear hW
  go_wp2_with (fail)
  refine (hI_h.out _).mono ?_
  rintro e w1 ⟨rfl, rfl⟩
  go_wp2_with (fail)
  refine (hA1_h.out _ bW_h.out).mono ?_
  rintro e w1 ⟨rfl, rfl⟩
  go_wp2_with (fail)
  refine (hA2_h.out _ bW_h.out).mono ?_
  rintro e w1 ⟨rfl, rfl⟩
  go_wp2_with (fail)
  go_ret
  exact ⟨rfl, bW_h.out⟩
 rw [Bool.true_and] at hDD
 have hI_h := lH hI; have hA1_h := lH hA1; have hA2_h := lH hA2; have k0_h := lH k0; have bW_h := lH bW; have hm_h := lH hm; have hp_h := lH hp; have hr_h := lH hr; have hD_h := lH hD; have hDD_h := lH hDD; have hmes_h := lH hmes; have hlE_h := lH hlE; have hok_h := lH hok; have a1_h := lH a1; have hE_h := lH hE; have hG0_h := lH hG0; have hD1_h := lH hD1; have hD2_h := lH hD2; clear hI hA1 hA2 k0 bW hm hp hr hD hDD hmes hlE hok a1 hE hG0 hD1 hD2
 go_enter Tryz.func26, Tryz.ntmps26
 go_upto_region 1 with (fail)
 rw [← hW]
 clear hW
 go_wp2_with (fail)
 refine (hI_h.out _).mono ?_
 rintro e w1 ⟨rfl, rfl⟩
 go_wp2_with (fail)
 refine (hA1_h.out _ bW_h.out).mono ?_
 rintro e w1 ⟨rfl, rfl⟩
 go_wp2_with (fail)
 refine (hA2_h.out _ bW_h.out).mono ?_
 rintro e w1 ⟨rfl, rfl⟩
 obtain ⟨W, rfl⟩ : ∃ x, x = w1 := ⟨_, rfl⟩
 go_wp2_with (fail)
 clear c0 c1 c2 c3 f0 f1 f2 f3
 go_loopw [51] (fun i wr => ∃ k : Nat, k ≤ m ∧ i = .int .i64 k ∧ (es.take k).all (hgB z) = true ∧ Below W.heap.size W wr) (fun i _ => m - (intOf i).toNat)
 case atStart => exact ⟨0, Nat.zero_le _, rfl, by simp, Below.refl _ _⟩
 case round =>
  obtain ⟨k, hk, rfl, hall, hB1⟩ := hrel
  have kr := t_box_below k0_h.out hB1
  have hBw := below_trans bW_h.out hB1 bW_h.out.size
  by_cases hlt : k < m
  · obtain ⟨ad, κ, vv, B1, b1, s1, C1, b2, t1, rfl, hn, ⟨d0, d1, d2, d3⟩, hr1, hr2⟩ := (hE_h.out.below hBw).at_ (j := k) (by rw [← hm_h.out]; exact hlt)
    have hek : es[k]? = some (κ, vv, s1, t1) := by rw [a1_h.out, List.getElem?_map, hn]; rfl
    have hln := hlE_h.out _ (List.mem_of_getElem? hn)
    obtain ⟨wo, rfl⟩ : ∃ x, x = wr := ⟨_, rfl⟩
    have hC := fun (W' : World) (hb : Below wo.heap.size wo W') => hgEdge_any κ vv B1 C1 b1 b2 s1 t1 z W' (hr1.below hb) (hr2.below hb) hln.1 hln.2 (by omega) (by omega)
    obtain ⟨p1, hp1⟩ : ∃ p1, p1 = s1.length := ⟨_, rfl⟩
    obtain ⟨r1, hr1'⟩ : ∃ r1, r1 = t1.length := ⟨_, rfl⟩
    simp only [← hp1, ← hr1'] at hC
    rw [← hp1] at d2
    rw [← hr1'] at d3
    obtain ⟨W6, hW6, bW6, k6⟩ := (⟨_, rfl, t_below_alloc _ _, heap_alloc_new _ _⟩ : ∃ W, W = wo.alloc (.cells #[.int .i64 κ, .int .i64 vv, .slice B1 p1 b1, .slice C1 r1 b2] tEd) ∧ Below wo.heap.size wo W ∧ W.heap[wo.heap.size]? = some (.cells #[.int .i64 κ, .int .i64 vv, .slice B1 p1 b1, .slice C1 r1 b2] tEd))
    have hCW := hC W6 bW6
    have hkI : (k : Int) < (m : Int) := by omega
    have kr6 := t_box_below kr bW6
    have hBW6 := below_trans hB1 bW6 hB1.size
    obtain ⟨⟨c0, c1, c2, c3⟩, f0, f1, f2, f3⟩ := t_box4 k6
    obtain ⟨⟨y0, y1, y2, y3⟩, g0, g1, g2, g3⟩ := t_box4 kr6
    obtain ⟨H, hH⟩ : ∃ H, H = hgB z (κ, vv, s1, t1) := ⟨_, rfl⟩
    rw [← hH] at hCW
    have hr1_h := lH hr1'; clear hr1' hr1 hr2 hn hln hC kr hB1 kr6; have hCW_h := lH hCW; have hek_h := lH hek; have hall_h := lH hall; have hp1_h := lH hp1; have bW6_h := lH bW6; have k6_h := lH k6; have hBW6_h := lH hBW6; have hBw_h := lH hBw; have hH_h := lH hH; clear hCW hek hall hp1 bW6 k6 hBW6 hBw hH
    go_upto_region 6 with (fail)
    rw [← hW6]
    clear hW6
    go_wp2_with (fail)
    refine (hCW_h.out).mono ?_
    rintro e w7 ⟨rfl, hb7⟩
    have hB8 := below_trans hBW6_h.out hb7 hBW6_h.out.size
    clear hb7 c0 c1 c2 c3 f0 f1 f2 f3 y0 y1 y2 y3 g0 g1 g2 g3 d0 d1 d2 d3
    cases H
    · have hf : D = false := by
       rw [hDD_h.out, show es.all (hgB z) = false from ?_]; rfl
       rw [Bool.eq_false_iff]
       intro hh
       have := List.all_eq_true.1 hh _ (List.mem_of_getElem? hek_h.out)
       rw [← hH_h.out] at this; cases this
      subst hf
      have hBz := below_trans bW_h.out hB8 bW_h.out.size
      have hB8_h := lH hB8; have hBz_h := lH hBz; clear hB8 hBz
      go_wp2_with (fail)
      go_ret
      exact ⟨rfl, hBz_h.out⟩
    · have hall2 : (es.take (k + 1)).all (hgB z) = true := by rw [List.take_add_one, hek_h.out, List.all_append, hall_h.out]; simp [← hH_h.out]
      have hB8_h := lH hB8; have hall2_h := lH hall2; clear hB8 hall2
      go_wp2_with (fail)
      go_roundw
      case rel => exact ⟨k + 1, by omega, by go_num, hall2_h.out, hB8_h.out⟩
      case measure => simp [intOf]; omega
  · obtain rfl : m = k := by omega
    rw [List.take_of_length_le (by rw [hmes_h.out]; exact Nat.le_refl _)] at hall
    have hD3 := hDD_h.out
    rw [hall, Bool.true_and] at hD3
    obtain ⟨n, rfl⟩ : ∃ n : Nat, z = (n : Int) := ⟨z.toNat, by omega⟩
    have hD4 : D = (List.range n).all fun w : Nat => (t_allW ((n : Int), es, s, t)).contains (w : Int) := by rw [hD3]; rfl
    have hinW : inW (n : Int) (t_allW ((n : Int), es, s, t)) = true := by
     have h3 : inW (n : Int) (edW es) = true := by have := hgB_all (n : Int) es; rw [hall] at this; simp at this; exact this.2
     show inW (n : Int) (s ++ (t ++ edW es)) = true
     rw [inW_append, inW_append, ← hD1_h.out, ← hD2_h.out, h3]; rfl
    have hC := hgCounts_any wr n (hG0_h.out.below hBw) hok_h.out rfl (by omega) hinW
    obtain ⟨O, hO⟩ : ∃ O, O = orgW ((n : Int), es, s, t) := ⟨_, rfl⟩
    obtain ⟨T, hT⟩ : ∃ T, T = dstW ((n : Int), es, s, t) := ⟨_, rfl⟩
    obtain ⟨L, hL⟩ : ∃ L, L = t_allW ((n : Int), es, s, t) := ⟨_, rfl⟩
    have hcz := fun k : Nat => count_zero (g := ((n : Int), es, s, t)) (k := k)
    have hOl : O.length + T.length ≤ 20000000 := by
     have h1 := out_len es
     have h2 : cntE es + s.length + t.length ≤ 8388608 := hok_h.out.2.2
     have h3 : O.length = s.length + (outW es).length := by rw [hO]; show (s ++ outW es).length = _; rw [List.length_append]
     have h4 : T.length = t.length + (inpW es).length := by rw [hT]; show (t ++ inpW es).length = _; rw [List.length_append]
     omega
    rw [← hO, ← hT] at hC
    simp only [← hO, ← hT, ← hL] at hcz
    rw [← hL] at hD4
    obtain ⟨⟨y0, y1, y2, y3⟩, g0, g1, g2, g3⟩ := t_box4 kr
    clear hall hD3 kr hB1 hinW hD_h hD1_h hD2_h hDD_h; have hC_h := lH hC; have hO_h := lH hO; have hT_h := lH hT; have hL_h := lH hL; have hcz_h := lH hcz; have hD4_h := lH hD4; have hBw_h := lH hBw; have hOl_h := lH hOl; clear hC hO hT hL hcz hD4 hBw hOl
    go_wp2_with (fail)
    refine (hC_h.out).mono ?_
    rintro e w8 ⟨A8, B8, a8, b8, rfl, hI8, hJ8, -, -, hb8⟩
    have hB9 := below_trans hBw_h.out hb8 hBw_h.out.size
    clear y0 y1 y2 y3 g0 g1 g2 g3 hb8; have hB9_h := lH hB9; clear hB9
    go_wp2_with (fail)
    go_loopw [68] (fun i wr => ∃ (k nq : Nat), k ≤ n ∧ i = .int .i64 k ∧ (∀ q : Nat, q < k → L.contains (q : Int) = true) ∧ wr = w8.drewN nq) (fun i _ => n - (intOf i).toNat)
    case atStart => exact ⟨0, 0, Nat.zero_le _, rfl, fun q hq => by omega, rfl⟩
    case round =>
     obtain ⟨k, nq, hk, rfl, hall, hwr⟩ := hrel
     by_cases hlt : k < n
     · obtain ⟨gd, rfl, hgb, hgc, -⟩ := hI8.getc hlt
       obtain ⟨jd, rfl, hjb, hjc, -⟩ := hJ8.getc hlt
       have e1 : wr.cell? (gd.add k) = some (.int .i64 (O.count (k : Int) : Int)) := by rw [hwr]; exact hgc
       have e2 : wr.cell? (jd.add k) = some (.int .i64 (T.count (k : Int) : Int)) := by rw [hwr]; exact hjc
       have l1 := count_le O (k : Int)
       have l2 := count_le T (k : Int)
       obtain ⟨x, hx⟩ : ∃ x, x = O.count (k : Int) := ⟨_, rfl⟩
       obtain ⟨y, hy⟩ : ∃ y, y = T.count (k : Int) := ⟨_, rfl⟩
       rw [← hx] at e1 l1
       rw [← hy] at e2 l2
       have hcz1 := hcz_h.out k
       rw [← hx, ← hy] at hcz1
       have hkI : (k : Int) < (n : Int) := by omega
       have hxb : x ≤ 20000000 := by have := hOl_h.out; omega
       have hyb : y ≤ 20000000 := by have := hOl_h.out; omega
       clear hgc hjc hx hy l1 l2
       by_cases hc : L.contains (k : Int) = true
       · have hne : ¬ (x = 0 ∧ y = 0) := fun h => by rw [hcz1.1 h] at hc; cases hc
         have hb0 : ((x : Int) + (y : Int) == 0) = false := by rw [beq_eq_false_iff_ne]; omega
         have hall2 : ∀ q : Nat, q < k + 1 → L.contains (q : Int) = true := fun q hq => by
          by_cases h : q < k
          · exact hall q h
          · obtain rfl : q = k := by omega
            exact hc
         clear hne hcz1 hc hall; have hall2_h := lH hall2; have hwr_h := lH hwr; have hI8_h := lH hI8; have hJ8_h := lH hJ8; clear hall2 hwr hI8 hJ8
         go_wp2_with (fail)
         go_quiet (fail)
         go_wp2_with (fail)
         go_roundw
         case rel => exact ⟨k + 1, _, by omega, by go_num, hall2_h.out, by rw [hwr_h.out]; exact World.drewN_drewN _ _ _⟩
         case measure => simp [intOf]; omega
       · have hc' : L.contains (k : Int) = false := by simpa using hc
         obtain ⟨rfl, rfl⟩ := hcz1.2 hc'
         have hf : D = false := by
          rw [hD4_h.out, Bool.eq_false_iff]
          intro hh
          have := List.all_eq_true.1 hh k (List.mem_range.2 hlt)
          rw [hc'] at this; cases this
         subst hf
         have hBf : Below w.heap.size w wr := by rw [hwr]; exact below_drewN hB9_h.out nq
         clear hcz1 hc hc' hall; have hwr_h := lH hwr; have hI8_h := lH hI8; have hJ8_h := lH hJ8; have hBf_h := lH hBf; clear hwr hI8 hJ8 hBf
         go_wp2_with (fail)
         go_quiet (fail)
         go_wp2_with (fail)
         go_ret
         exact ⟨rfl, below_drewN hBf_h.out _⟩
     · obtain rfl : n = k := by omega
       have ht : D = true := by
        rw [hD4_h.out]
        exact List.all_eq_true.2 fun q hq => hall q (List.mem_range.1 hq)
       subst ht
       have hBf : Below w.heap.size w wr := by rw [hwr]; exact below_drewN hB9_h.out nq
       clear hall; have hwr_h := lH hwr; have hI8_h := lH hI8; have hJ8_h := lH hJ8; have hBf_h := lH hBf; clear hwr hI8 hJ8 hBf
       go_wp2_with (fail)
       go_ret
       exact ⟨rfl, hBf_h.out⟩
abbrev tBool : TypeId := 4
abbrev tBools : TypeId := 79
theorem info_bool : (Tryz.prog.info? tBool).map (fun i => (i.zero, i.size, i.bytes)) = some (some (.bool false), 1, 1) := by kernel_rfl
def bls (l : List Bool) : List Value := l.map Value.bool
theorem bls_get {l : List Bool} {j : Nat} {b : Bool} (h : l[j]? = some b) : (bls l)[j]? = some (.bool b) := by simp [bls, h]
theorem bls_set (l : List Bool) (j : Nat) (b : Bool) : (bls l).set j (.bool b) = bls (l.set j b) := by simp [bls, List.map_set]
theorem madeBls (m : Nat) : (madeCells (Value.bool false).cells (m * 1)).toList.take (m * 1) = bls (List.replicate m false) := by
 rw [Nat.mul_one]; simp [Value.cells, toList_madeCells_one, bls]
abbrev tWiresG : TypeId := 105
theorem run_eq_intG (d : Nat) (x y : Int) (W : World) : (Op.equalIn (d + 1) tInt (.int .i64 x) (.int .i64 y)).run Tryz.prog W = .ok (x == y) W := by
 unfold Op.equalIn
 simp [run_underlying Tryz.underlying3]
theorem part_g0 (a b : Int) (W : World) : (part tInt #[.int .i64 a, .int .i64 b] 0).run Tryz.prog W = .ok (.int .i64 a) W := by kernel_rfl
theorem part_g1 (a b : Int) (W : World) : (part tInt #[.int .i64 a, .int .i64 b] 1).run Tryz.prog W = .ok (.int .i64 b) W := by kernel_rfl
theorem wires_eq (a b c d : Int) (W : World) : (binOp .eql tWiresG (.agg #[.int .i64 a, .int .i64 b]) (.agg #[.int .i64 c, .int .i64 d])).run Tryz.prog W = .ok (.bool (decide (a = c ∧ b = d))) W := by
 have hk : ∀ m, (Op.equalIn (m + 1 + 1) tWiresG (.agg #[.int .i64 a, .int .i64 b]) (.agg #[.int .i64 c, .int .i64 d])).run Tryz.prog W = .ok (decide (a = c ∧ b = d)) W := by
  intro m
  conv => lhs; unfold Op.equalIn
  simp only [Sem.run_bind, run_underlying Tryz.underlying105, Result.andThen_ok]
  simp [part_g0, part_g1, run_eq_intG]
  by_cases h1 : a = c <;> by_cases h2 : b = d <;> simp [h1, h2]
 have e0 : Op.maxDepth = (Op.maxDepth - 2) + 1 + 1 := rfl
 simp only [binOp, Op.equal, Sem.run_bind]
 rw [e0, hk]
 simp
def egH (k v : Int) (p q : Nat) : Bool := t_inB k 3 14 && (gvB k v && decide (((p : Int), (q : Int)) = kindTy k))
set_option maxRecDepth 100000 in
set_option maxHeartbeats 4000000 in
theorem isEdge_any (k v : Int) (B C : Option Addr) (b c p q : Nat) (w : World) :
  Calls Tryz.prog 48 #[.agg #[.int .i64 k, .int .i64 v, .slice B p b, .slice C q c]] w fun e w' => e = .returned (.bool (egH k v p q)) ∧ Below w.heap.size w w' := by
 obtain ⟨D, hD⟩ : ∃ D, D = egH k v p q := ⟨_, rfl⟩
 have hDD := hD
 unfold egH at hDD
 rw [← hD]
 have hG := fun (W : World) => isGenerator_any k W
 have hV := fun (W : World) => isGeneratorValue_any k v W
 obtain ⟨W, hW, bW, k0⟩ := (⟨_, rfl, t_below_alloc _ _, heap_alloc_new _ _⟩ : ∃ W, W = w.alloc (.cells #[.int .i64 k, .int .i64 v, .slice B p b, .slice C q c] tEd) ∧ Below w.heap.size w W ∧ W.heap[w.heap.size]? = some (.cells #[.int .i64 k, .int .i64 v, .slice B p b, .slice C q c] tEd))
 obtain ⟨⟨c0, c1, c2, c3⟩, f0, f1, f2, f3⟩ := t_box4 k0
 by_cases h0 : t_inB k 3 14 = true
 case neg =>
  have h0' : t_inB k 3 14 = false := by simpa using h0
  obtain rfl : D = false := by rw [hDD, h0']; rfl
  simp only [h0'] at hG
  clear h0 h0' hDD; have hG_h := lH hG; have hV_h := lH hV; have k0_h := lH k0; have bW_h := lH bW; have hD_h := lH hD; clear hG hV k0 bW hD
  go_enter Tryz.func48, Tryz.ntmps48
  go_upto_region 1 with (fail)
  rw [← hW]
  clear hW
  go_wp2_with (fail)
  refine (hG_h.out _).mono ?_
  rintro e w1 ⟨rfl, rfl⟩
  go_wp2_with (fail)
  go_ret
  exact ⟨rfl, bW_h.out⟩
 have hkb : 3 ≤ k ∧ k ≤ 14 := of_decide_eq_true h0
 simp only [h0] at hG
 rw [h0, Bool.true_and] at hDD
 by_cases h1 : gvB k v = true
 case neg =>
  have h1' : gvB k v = false := by simpa using h1
  obtain rfl : D = false := by rw [hDD, h1']; rfl
  simp only [h1'] at hV
  clear h0 h1 h1' hDD; have hG_h := lH hG; have hV_h := lH hV; have k0_h := lH k0; have bW_h := lH bW; have hD_h := lH hD; clear hG hV k0 bW hD
  go_enter Tryz.func48, Tryz.ntmps48
  go_upto_region 1 with (fail)
  rw [← hW]
  clear hW
  go_wp2_with (fail)
  refine (hG_h.out _).mono ?_
  rintro e w1 ⟨rfl, rfl⟩
  go_wp2_with (fail)
  refine (hV_h.out _).mono ?_
  rintro e w1 ⟨rfl, rfl⟩
  go_wp2_with (fail)
  go_ret
  exact ⟨rfl, bW_h.out⟩
 simp only [h1] at hV
 rw [h1, Bool.true_and] at hDD
 have hgw := fun (W : World) => generatorWires_any k W hkb.1 hkb.2
 obtain ⟨i1, hi1⟩ : ∃ i, i = (kindTy k).1 := ⟨_, rfl⟩
 obtain ⟨i2, hi2⟩ : ∃ i, i = (kindTy k).2 := ⟨_, rfl⟩
 have hDw : D = decide (i1 = (p : Int) ∧ i2 = (q : Int)) := by
  rw [hDD, Bool.eq_iff_iff, decide_eq_true_eq, decide_eq_true_eq, hi1, hi2]
  exact ⟨fun h => ⟨(congrArg Prod.fst h).symm, (congrArg Prod.snd h).symm⟩, fun h => Prod.ext h.1.symm h.2.symm⟩
 simp only [← hi1, ← hi2] at hgw
 have hwe := fun (W : World) => wires_eq i1 i2 (p : Int) (q : Int) W
 simp only [← hDw] at hwe
 clear h0 h1 hDD hkb hi1 hi2; have hG_h := lH hG; have hV_h := lH hV; have hgw_h := lH hgw; have k0_h := lH k0; have bW_h := lH bW; have hD_h := lH hD; have hDw_h := lH hDw; clear hG hV hgw k0 bW hD hDw
 go_enter Tryz.func48, Tryz.ntmps48
 go_upto_region 1 with (fail)
 rw [← hW]
 clear hW
 go_wp2_with (fail)
 refine (hG_h.out _).mono ?_
 rintro e w1 ⟨rfl, rfl⟩
 go_wp2_with (fail)
 refine (hV_h.out _).mono ?_
 rintro e w1 ⟨rfl, rfl⟩
 go_wp2_with (fail)
 obtain ⟨W, rfl⟩ : ∃ x, x = w1 := ⟨_, rfl⟩
 clear c0 c1 c2 c3 f0 f1 f2 f3
 refine beginB (by kernel_rfl) (fun W1 hW1 => ?_)
 have hbw : Below W.heap.size W W1 := by rw [hW1]; exact below_drew (Below.refl _ _)
 clear hW1
 have k1 := t_box_below k0_h.out hbw
 have k1_h := lH k1; clear k1
 refine tkH 0 ?_ rfl (Below.refl _ _) (fun W' hW' => ?_) ?_; rotate_left; · (obtain ⟨⟨a0, a1, a2, a3⟩, b0, b1, b2, b3⟩ := t_box4 (t_box_below k1_h.out hW'); clear hW'; go_simp; first | done | with_reducible rfl)
 simp only [Act.put, nS]
 refine tkH 1 ?_ rfl (Below.refl _ _) (fun W' hW' => ?_) ?_; rotate_left; · (obtain ⟨⟨a0, a1, a2, a3⟩, b0, b1, b2, b3⟩ := t_box4 (t_box_below k1_h.out hW'); clear hW'; go_simp; first | done | with_reducible rfl)
 simp only [Act.put, nS]
 refine tkH 3 ?_ rfl (Below.refl _ _) (fun W' hW' => ?_) ?_; rotate_left; · (obtain ⟨⟨a0, a1, a2, a3⟩, b0, b1, b2, b3⟩ := t_box4 (t_box_below k1_h.out hW'); clear hW'; go_simp; first | done | with_reducible rfl)
 simp only [Act.put, nS]
 refine tkH 4 ?_ rfl (Below.refl _ _) (fun W' hW' => ?_) ?_; rotate_left; · (obtain ⟨⟨a0, a1, a2, a3⟩, b0, b1, b2, b3⟩ := t_box4 (t_box_below k1_h.out hW'); clear hW'; go_simp; first | done | with_reducible rfl)
 simp only [Act.put, nS]
 refine tkH 5 ?_ rfl (Below.refl _ _) (fun W' hW' => ?_) ?_; rotate_left; · (obtain ⟨⟨a0, a1, a2, a3⟩, b0, b1, b2, b3⟩ := t_box4 (t_box_below k1_h.out hW'); clear hW'; go_simp; first | done | with_reducible rfl)
 simp only [Act.put, nS]
 refine tkH 6 ?_ rfl (Below.refl _ _) (fun W' hW' => ?_) ?_; rotate_left; · (obtain ⟨⟨a0, a1, a2, a3⟩, b0, b1, b2, b3⟩ := t_box4 (t_box_below k1_h.out hW'); clear hW'; go_simp; first | done | with_reducible rfl)
 simp only [Act.put, nS]
 refine tkH 7 ?_ rfl (Below.refl _ _) (fun W' hW' => ?_) ?_; rotate_left; · (obtain ⟨⟨a0, a1, a2, a3⟩, b0, b1, b2, b3⟩ := t_box4 (t_box_below k1_h.out hW'); clear hW'; go_simp; first | done | with_reducible rfl)
 simp only [Act.put, nS]
 refine tkH 8 ?_ rfl (Below.refl _ _) (fun W' hW' => ?_) ?_; rotate_left; · (obtain ⟨⟨a0, a1, a2, a3⟩, b0, b1, b2, b3⟩ := t_box4 (t_box_below k1_h.out hW'); clear hW'; go_simp; first | done | with_reducible rfl)
 simp only [Act.put, nS]
 refine tkH 9 ?_ rfl (Below.refl _ _) (fun W' hW' => ?_) ?_; rotate_left; · (obtain ⟨⟨a0, a1, a2, a3⟩, b0, b1, b2, b3⟩ := t_box4 (t_box_below k1_h.out hW'); clear hW'; go_simp; first | done | with_reducible rfl)
 simp only [Act.put, nS]
 refine' callH 2 (f := _) (args := _) rfl (by kernel_rfl) (by rfl) ?_ ?_; rotate_left 2; · (go_simp; first | done | with_reducible rfl | (constructor <;> with_reducible rfl))
 refine (hgw_h.out _).mono ?_
 rintro e w2 ⟨rfl, hb2⟩
 refine ⟨_, rfl, hb2, ?_⟩
 simp only [Act.put, nS]
 refine tkH 10 ?_ rfl hb2 (fun W' hW' => ?_) ?_; rotate_left; · (have hwe' := hwe W'; clear hW'; go_simp; first | done | with_reducible rfl)
 simp only [Act.put, nS]
 refine tkH 11 ?_ rfl hb2 (fun W' hW' => ?_) ?_; rotate_left; · (have hwe' := hwe W'; clear hW'; go_simp; first | done | with_reducible rfl)
 simp only [Act.put, nS]
 refine doneH (by kernel_rfl) ?_
 have hB2 := below_trans (below_trans bW_h.out hbw bW_h.out.size) hb2 (Nat.le_trans bW_h.out.size hbw.size)
 have hB2_h := lH hB2; clear hB2
 go_wp2_with (fail)
 go_ret
 exact ⟨rfl, hB2_h.out⟩
set_option maxRecDepth 100000 in
set_option maxHeartbeats 4000000 in
theorem lists_any {v : Value} {g : Gr} (wE : World) (h : RdGr wE v g) (ok : OkG g) (F : FuncId) (cap : Array Value) (hE : ∀ (args : Array Value) (w : World), (callFunc F args).run Tryz.prog w = .ok (.enter F args) w)
  (I : List Int → World → Prop) (S : List Nat) (hS : ∀ b, b ∈ S → wE.heap.size ≤ b) (hal : ∀ l W W', I l W → Below W.heap.size W W' → I l W')
  (hF : ∀ l B c (m : List Int) W, I l W → (∀ W', Keeps (· ∈ S) W W' → RdI W' B m) → (∀ x, x ∈ m → x ∈ t_allW g) → m.length ≤ 1048576 → Calls Tryz.prog F (#[.slice B m.length c] ++ cap) W fun e w' => e = .returned (.tuple #[]) ∧ I (l ++ m) w' ∧ Keeps (· ∈ S) W w')
  (w : World) (hw : I [] w) (hbw : Below wE.heap.size wE w) (hSw : ∀ b, b ∈ S → b < w.heap.size) :
  Calls Tryz.prog 49 #[v, .func (.func F) #[] cap] w fun e w' => e = .returned (.tuple #[]) ∧ I (t_allW g) w' ∧ Keeps (· ∈ S) w w' := by
 obtain ⟨A, c, hs, ⟨B, b, s⟩, ⟨C, d, t⟩, rfl, e1, e2, e3, hEd, hRa, hRb⟩ := h
 obtain ⟨z, es, s0, t0⟩ := g
 have a1 : es = hs.map egOf := e1
 have a2 : s = s0 := e2
 have a3 : t = t0 := e3
 subst a2 a3
 have hlen1 : es.length ≤ 1048576 := ok.1.1
 have hlen2 : s.length ≤ 1048576 := ok.1.2.1
 have hlen3 : t.length ≤ 1048576 := ok.1.2.2
 have hlE : ∀ x, x ∈ es → x.2.2.1.length ≤ 1048576 ∧ x.2.2.2.length ≤ 1048576 := ok.2.1
 have hall : t_allW (z, es, s, t) = s ++ (t ++ edW es) := rfl
 rw [hall] at hF ⊢
 have hRa0 : RdI wE B s := hRa
 have hRb0 : RdI wE C t := hRb
 obtain ⟨m, hm⟩ : ∃ m, m = hs.length := ⟨_, rfl⟩
 obtain ⟨p, hp⟩ : ∃ p, p = s.length := ⟨_, rfl⟩
 obtain ⟨r, hr⟩ : ∃ r, r = t.length := ⟨_, rfl⟩
 have hmes : es.length = m := by rw [a1, List.length_map, hm]
 show Calls Tryz.prog _ #[.agg #[.int .i64 z, .slice A hs.length c, .slice B s.length b, .slice C t.length d], .func (.func F) #[] cap] w _
 rw [← hm, ← hp, ← hr]
 obtain ⟨W, hW, bW, k0⟩ := (⟨_, rfl, t_below_alloc _ _, heap_alloc_new _ _⟩ : ∃ W, W = w.alloc (.cells #[.int .i64 z, .slice A m c, .slice B p b, .slice C r d] tGr) ∧ Below w.heap.size w W ∧ W.heap[w.heap.size]? = some (.cells #[.int .i64 z, .slice A m c, .slice B p b, .slice C r d] tGr))
 have hbW := below_trans hbw bW hbw.size
 have hI0 := hal _ _ _ hw bW
 have hC1 := hF [] B b s W hI0 (fun W' hk => hRa0.below (below_keeps hbW hk hbW.size hS)) (fun x hx => by simp [hx]) hlen2
 rw [← hp, List.nil_append] at hC1
 obtain ⟨⟨c0, c1, c2, c3⟩, f0, f1, f2, f3⟩ := t_box4 k0
 have hmb : (m : Int) ≤ 1048576 := by omega
 have hE1 := hE (#[.slice B p b] ++ cap) W
 have hnS : ¬ w.heap.size ∈ S := fun hh => by have := hSw _ hh; omega
 clear hRa hRb ok e1 e2 e3 hlen1 hlen2 hall hw hI0; have hS_h := lH hS; have hal_h := lH hal; have hF_h := lH hF; have hSw_h := lH hSw; have hbw_h := lH hbw; have hbW_h := lH hbW; have bW_h := lH bW; have k0_h := lH k0; have hC1_h := lH hC1; have hEd_h := lH hEd; have hRa0_h := lH hRa0; have hRb0_h := lH hRb0; have a1_h := lH a1; have hlE_h := lH hlE; have hm_h := lH hm; have hp_h := lH hp; have hr_h := lH hr; have hmes_h := lH hmes; have hE_h := lH hE; have hnS_h := lH hnS; clear hS hal hF hSw hbw hbW bW k0 hC1 hEd hRa0 hRb0 a1 hlE hm hp hr hmes hE hnS
 go_enter Tryz.func49, Tryz.ntmps49
 go_upto_region 1 with (fail)
 rw [← hW]
 clear hW
 go_wp2_with (fail)
 refine (hC1_h.out).mono ?_
 rintro e w1 ⟨rfl, hI1, hk1⟩
 have k1 := t_box_keeps k0_h.out hk1 hnS_h.out
 have hb1 := below_keeps hbW_h.out hk1 hbW_h.out.size hS_h.out
 have hC2 := hF_h.out s C d t w1 hI1 (fun W' hk => hRb0_h.out.below (below_keeps hb1 hk hb1.size hS_h.out)) (fun x hx => by simp [hx]) hlen3
 rw [← hr_h.out] at hC2
 clear c0 c1 c2 c3 f0 f1 f2 f3 hI1 hE1
 obtain ⟨⟨c0, c1, c2, c3⟩, f0, f1, f2, f3⟩ := t_box4 k1
 have hE1 := hE_h.out (#[.slice C r d] ++ cap) w1
 have hk1_h := lH hk1; have k1_h := lH k1; have hb1_h := lH hb1; have hC2_h := lH hC2; clear hk1 k1 hb1 hC2
 go_wp2_with (fail)
 refine (hC2_h.out).mono ?_
 rintro e w2 ⟨rfl, hI2, hk2⟩
 have k2 := t_box_keeps k1_h.out hk2 hnS_h.out
 have hb2 := below_keeps hb1_h.out hk2 hb1_h.out.size hS_h.out
 have hk02 := hk1_h.out.trans hk2
 clear c0 c1 c2 c3 f0 f1 f2 f3 hE1 hk2
 obtain ⟨⟨c0, c1, c2, c3⟩, f0, f1, f2, f3⟩ := t_box4 k2
 have hI20 : I (s ++ (t ++ edW (es.take 0))) w2 := by simpa [edW] using hI2
 have hk02_h := lH hk02; have k2_h := lH k2; have hb2_h := lH hb2; have hI20_h := lH hI20; clear hk02 k2 hb2 hI20; clear hI2
 go_wp2_with (fail)
 clear c0 c1 c2 c3 f0 f1 f2 f3
 go_loopw [17] (fun i wr => ∃ k : Nat, k ≤ m ∧ i = .int .i64 k ∧ I (s ++ (t ++ edW (es.take k))) wr ∧ Keeps (· ∈ S) W wr) (fun i _ => m - (intOf i).toNat)
 case atStart => exact ⟨0, Nat.zero_le _, rfl, hI20_h.out, hk02_h.out⟩
 case round =>
  clear hI20_h hk02_h
  obtain ⟨k, hk, rfl, hI3, hk3⟩ := hrel
  have hb3 := below_keeps hbW_h.out hk3 hbW_h.out.size hS_h.out
  by_cases hlt : k < m
  · obtain ⟨ad, κ, vv, B1, b1, s1, C1, b2, t1, rfl, hn, ⟨d0, d1, d2, d3⟩, hr1, hr2⟩ := (hEd_h.out.below hb3).at_ (j := k) (by rw [← hm_h.out]; exact hlt)
    have hek : es[k]? = some (κ, vv, s1, t1) := by rw [a1_h.out, List.getElem?_map, hn]; rfl
    have hln := hlE_h.out _ (List.mem_of_getElem? hek)
    obtain ⟨hm1, hm2⟩ := mem_edW_of (List.mem_of_getElem? hek)
    obtain ⟨wo, rfl⟩ : ∃ x, x = wr := ⟨_, rfl⟩
    obtain ⟨p1, hp1⟩ : ∃ p1, p1 = s1.length := ⟨_, rfl⟩
    obtain ⟨r1, hr1'⟩ : ∃ r1, r1 = t1.length := ⟨_, rfl⟩
    rw [← hp1] at d2
    rw [← hr1'] at d3
    obtain ⟨W6, hW6, bW6, k6⟩ := (⟨_, rfl, t_below_alloc _ _, heap_alloc_new _ _⟩ : ∃ W, W = wo.alloc (.cells #[.int .i64 κ, .int .i64 vv, .slice B1 p1 b1, .slice C1 r1 b2] tEd) ∧ Below wo.heap.size wo W ∧ W.heap[wo.heap.size]? = some (.cells #[.int .i64 κ, .int .i64 vv, .slice B1 p1 b1, .slice C1 r1 b2] tEd))
    have hb6 := below_trans hb3 bW6 hb3.size
    have hI6 := hal_h.out _ _ _ hI3 bW6
    have hRB : RdI wE B1 s1 := (hEd_h.out.2 _ (List.mem_of_getElem? hn)).1
    have hC3 := hF_h.out _ B1 b1 s1 W6 hI6 (fun W' hk => hRB.below (below_keeps hb6 hk hb6.size hS_h.out)) (fun x hx => by simp [hm1 x hx]) hln.1
    rw [← hp1] at hC3
    have hk6 := hk3.trans (Keeps.of_below bW6 _)
    have hnS6 : ¬ wo.heap.size ∈ S := fun hh => by have := hSw_h.out _ hh; have := hk3.size; have := bW_h.out.size; omega
    have hRC : RdI wE C1 t1 := (hEd_h.out.2 _ (List.mem_of_getElem? hn)).2
    have hkI : (k : Int) < (m : Int) := by omega
    obtain ⟨⟨c0, c1, c2, c3⟩, f0, f1, f2, f3⟩ := t_box4 k6
    have hE1 := hE_h.out (#[.slice B1 p1 b1] ++ cap) W6
    have hr1_h := lH hr1'; clear hr1' hI6 hI3 hr1 hr2 hn hm1 hb3 hk3 hRB; have hek_h := lH hek; have hp1_h := lH hp1; have bW6_h := lH bW6; have k6_h := lH k6; have hC3_h := lH hC3; have hk6_h := lH hk6; have hnS6_h := lH hnS6; have hb6_h := lH hb6; have hRC_h := lH hRC; have hm2_h := lH hm2; have hln_h := lH hln; clear hek hp1 bW6 k6 hC3 hk6 hnS6 hb6 hRC hm2 hln
    go_upto_region 6 with (fail)
    rw [← hW6]
    clear hW6
    go_wp2_with (fail)
    refine (hC3_h.out).mono ?_
    rintro e w7 ⟨rfl, hI7, hk7⟩
    have k7 := t_box_keeps k6_h.out hk7 hnS6_h.out
    have hb7 := below_keeps hb6_h.out hk7 hb6_h.out.size hS_h.out
    have hC4 := hF_h.out _ C1 b2 t1 w7 hI7 (fun W' hk => hRC_h.out.below (below_keeps hb7 hk hb7.size hS_h.out)) (fun x hx => by simp [hm2_h.out x hx]) hln_h.out.2
    rw [← hr1_h.out] at hC4
    have hk8 := hk6_h.out.trans hk7
    clear c0 c1 c2 c3 f0 f1 f2 f3 hE1 hI7 hk7 d0 d1 d2 d3
    obtain ⟨⟨c0, c1, c2, c3⟩, f0, f1, f2, f3⟩ := t_box4 k7
    have hE1 := hE_h.out (#[.slice C1 r1 b2] ++ cap) w7
    have k7_h := lH k7; have hb7_h := lH hb7; have hC4_h := lH hC4; have hk8_h := lH hk8; clear k7 hb7 hC4 hk8
    go_wp2_with (fail)
    refine (hC4_h.out).mono ?_
    rintro e w8 ⟨rfl, hI8, hk9⟩
    have hk10 := hk8_h.out.trans hk9
    have hI9 : I (s ++ (t ++ edW (es.take (k + 1)))) w8 := by
     have e : s ++ (t ++ edW (es.take (k + 1))) = s ++ (t ++ edW (es.take k)) ++ s1 ++ t1 := by
      rw [List.take_add_one, hek_h.out, edW_append]; simp [edW]
     rw [e]; exact hI8
    clear c0 c1 c2 c3 f0 f1 f2 f3 hE1 hI8 hk9; have hk10_h := lH hk10; have hI9_h := lH hI9; clear hk10 hI9
    go_wp2_with (fail)
    go_roundw
    case rel => exact ⟨k + 1, by omega, by go_num, hI9_h.out, hk10_h.out⟩
    case measure => simp [intOf]; omega
  · obtain rfl : m = k := by omega
    rw [List.take_of_length_le (by rw [hmes_h.out]; exact Nat.le_refl _)] at hI3
    have hkf := (Keeps.of_below bW_h.out (· ∈ S)).trans hk3
    have hI3_h := lH hI3; have hkf_h := lH hkf; clear hI3 hkf; clear hk3
    go_wp2_with (fail)
    go_end0
    exact ⟨rfl, hI3_h.out, hkf_h.out⟩
theorem boxg1 {w : World} {B : Nat} {x : Value} {t : TypeId} (h : w.heap[B]? = some (.cells #[x] t)) : w.cell? ⟨B, 0, none⟩ = some x ∧ w.frozen? ⟨B, 0, none⟩ = false := by simp [World.cell?, World.frozen?, h]
theorem seenM_step {n : Nat} {l : List Int} {q : Nat} (hq : q < n) (hs : l.contains (q : Int) = true) : seenC n (l ++ [(q : Int)]) = seenC n l := by unfold seenC; rw [seenM_old hq hs]
theorem inW_snoc (n : Int) (l : List Int) (x : Int) : inW n (l ++ [x]) = (inW n l && t_inB x 0 (n - 1)) := by rw [inW_append]; simp [inW]
structure GI (n gB bG bS bC : Nat) (Gs : Addr) (V1 V2 V3 : Value) (l : List Int) (W : World) : Prop where
 hg : W.heap[gB]? = some (.cells #[.int .i64 (n : Int), V1, V2, V3] tGr)
 hgd : W.heap[bG]? = some (.cells #[.bool (inW n l)] tBool)
 hsl : W.heap[bS]? = some (.cells #[.slice (some Gs) n n] tBools)
 hct : W.heap[bC]? = some (.cells #[.int .i64 (seenC n l : Int)] tInt)
 hse : Sl W tBool 1 (some Gs) n n (bls (seenM n l))
theorem GI.below {n gB bG bS bC : Nat} {Gs : Addr} {V1 V2 V3 : Value} {l : List Int} {W W' : World} (h : GI n gB bG bS bC Gs V1 V2 V3 l W) (hb : Below W.heap.size W W') : GI n gB bG bS bC Gs V1 V2 V3 l W' :=
 ⟨t_box_below h.hg hb, t_box_below h.hgd hb, t_box_below h.hsl hb, t_box_below h.hct hb, h.hse.below hb⟩
set_option maxRecDepth 100000 in
set_option maxHeartbeats 4000000 in
theorem isGraphC_any (n gB bG bS bC : Nat) (Gs : Addr) (V1 V2 V3 : Value) (l : List Int) (B : Option Addr) (c : Nat) (m : List Int) (W : World) (hn : n ≤ 100) (hml : m.length ≤ 1048576)
  (h1 : bG ≠ bC) (h2 : bG ≠ Gs.block) (h3 : bC ≠ Gs.block) (h4 : gB ≠ bG ∧ gB ≠ bC ∧ gB ≠ Gs.block) (h5 : bS ≠ bG ∧ bS ≠ bC ∧ bS ≠ Gs.block)
  (hI : GI n gB bG bS bC Gs V1 V2 V3 l W) (hm : ∀ W', Keeps (· ∈ [bG, bC, Gs.block]) W W' → RdI W' B m) :
  Calls Tryz.prog 50 #[.slice B m.length c, .pointer (some ⟨gB, 0, none⟩), .pointer (some ⟨bG, 0, none⟩), .pointer (some ⟨bS, 0, none⟩), .pointer (some ⟨bC, 0, none⟩)] W fun e w' => e = .returned (.tuple #[]) ∧ GI n gB bG bS bC Gs V1 V2 V3 (l ++ m) w' ∧ Keeps (· ∈ [bG, bC, Gs.block]) W w' := by
 obtain ⟨p, hp⟩ : ∃ p, p = m.length := ⟨_, rfl⟩
 rw [← hp] at hml ⊢
 have hp_h := lH hp; have hm_h := lH hm; have hI_h := lH hI; clear hp hm hI
 go_enter Tryz.func50, Tryz.ntmps50
 go_wp2_with (fail)
 go_loopw [10] (fun i wr => ∃ k : Nat, k ≤ p ∧ i = .int .i64 k ∧ GI n gB bG bS bC Gs V1 V2 V3 (l ++ m.take k) wr ∧ Keeps (· ∈ [bG, bC, Gs.block]) W wr) (fun i _ => p - (intOf i).toNat)
 case atStart => exact ⟨0, Nat.zero_le _, rfl, by simpa using hI_h.out, Keeps.refl _ _⟩
 case round =>
  clear hI_h
  obtain ⟨k, hk, rfl, hI, hkp⟩ := hrel
  by_cases hlt : k < p
  · obtain ⟨xd, x, rfl, hx, hxc⟩ := (hm_h.out wr hkp).at_ (j := k) (by rw [← hp_h.out]; exact hlt)
    have hkI : (k : Int) < (p : Int) := by omega
    have htk : m.take (k + 1) = m.take k ++ [x] := by rw [List.take_add_one, hx]; rfl
    have hlx : l ++ m.take (k + 1) = (l ++ m.take k) ++ [x] := by rw [htk, List.append_assoc]
    obtain ⟨L, hL⟩ : ∃ L, L = l ++ m.take k := ⟨_, rfl⟩
    rw [← hL] at hI hlx
    have hC := fun (W : World) => t_within_any x 0 ((n : Int) - 1) W
    have wn : IntKind.i64.wrap ((n : Int) - 1) = (n : Int) - 1 := IntWalk.i64_in _ (by omega)
    obtain ⟨⟨c0, c1, c2, c3⟩, f0, f1, f2, f3⟩ := t_box4 hI.hg
    by_cases hin : t_inB x 0 ((n : Int) - 1) = true
    · have hb : 0 ≤ x ∧ x ≤ (n : Int) - 1 := of_decide_eq_true hin
      obtain ⟨q, rfl⟩ : ∃ q : Nat, x = (q : Int) := ⟨x.toNat, by omega⟩
      have hqn : q < n := by omega
      simp only [hin] at hC
      have hinL : inW n (L ++ [(q : Int)]) = inW n L := by rw [inW_snoc, hin, Bool.and_true]
      obtain ⟨gd, hgd, hgb, hgc, hgf⟩ := Sl.cell hI.hse (bls_get (seenM_get hqn))
      obtain rfl := Option.some.inj hgd
      obtain ⟨s0, s1⟩ := boxg1 hI.hsl
      have hqI : (q : Int) < (n : Int) := by omega
      have hq0 : (0 : Int) ≤ (q : Int) := by omega
      by_cases hc : L.contains (q : Int) = true
      · have hI2 : GI n gB bG bS bC Gs V1 V2 V3 (l ++ m.take (k + 1)) wr := by
         rw [hlx]
         exact ⟨hI.hg, by rw [hinL]; exact hI.hgd, hI.hsl, by rw [seenM_step hqn hc]; exact hI.hct, by rw [seenM_old hqn hc]; exact hI.hse⟩
        rw [hc] at hgc
        clear hI hin hb hx htk hlx hL hinL hgf hgd; have hC_h := lH hC; have hI2_h := lH hI2; have hkp_h := lH hkp; have hc_h := lH hc; clear hC hI2 hkp hc
        go_wp2_with (fail)
        refine (hC_h.out _).mono ?_
        rintro e w1 ⟨rfl, rfl⟩
        go_wp2_with (fail)
        go_roundw
        case rel => exact ⟨k + 1, by omega, by go_num, hI2_h.out, hkp_h.out⟩
        case measure => simp [intOf]; omega
      · have hc' : L.contains (q : Int) = false := by simpa using hc
        rw [hc'] at hgc
        have hfq := hgf q
        obtain ⟨W1, hW1⟩ : ∃ W1, W1 = wr.setCell (Gs.add q) (.bool true) := ⟨_, rfl⟩
        have hset := Sl.set hI.hse rfl q (.bool true) (by simp [bls]; omega)
        rw [bls_set, ← seenM_in hqn, ← hW1] at hset
        have hk1 : Keeps (· = Gs.block) wr W1 := by rw [hW1]; exact (Keeps.refl (fun b => b = Gs.block) wr).setCell (p := Gs.add q) (by rw [block_of_add]) _
        have g1 := t_box_keeps hI.hg hk1 h4.2.2
        have g2 := t_box_keeps hI.hgd hk1 h2
        have g3 := t_box_keeps hI.hsl hk1 h5.2.2
        have g4 := t_box_keeps hI.hct hk1 h3
        obtain ⟨t0, t1⟩ := boxg1 g4
        obtain ⟨W2, hW2⟩ : ∃ W2, W2 = W1.setCell ⟨bC, 0, none⟩ (.int .i64 ((seenC n L : Int) + 1)) := ⟨_, rfl⟩
        obtain ⟨n4, hk2⟩ := box_set g4 0 (.int .i64 ((seenC n L : Int) + 1))
        rw [← hW2] at n4 hk2
        have n4' : W2.heap[bC]? = some (.cells #[.int .i64 ((seenC n L : Int) + 1)] tInt) := n4
        have hcle := seenC_le n L
        have hI2 : GI n gB bG bS bC Gs V1 V2 V3 (l ++ m.take (k + 1)) W2 := by
         rw [hlx]
         refine ⟨t_box_keeps g1 hk2 h4.2.1, by rw [hinL]; exact t_box_keeps g2 hk2 h1, t_box_keeps g3 hk2 h5.2.1, ?_, hset.keeps hk2 (fun b hb e => by simp at hb; omega)⟩
         rw [seenC_new hqn hc', show ((seenC n L + 1 : Nat) : Int) = (seenC n L : Int) + 1 by omega]; exact n4'
        have hkf : Keeps (· ∈ [bG, bC, Gs.block]) W W2 := (hkp.trans (hk1.mono fun b _ hb => by simp [hb])).trans (hk2.mono fun b _ hb => by simp [hb])
        have hsz : (seenC n L : Int) ≤ 100 := by omega
        have hsz0 : (0 : Int) ≤ (seenC n L : Int) := by omega
        clear hI hin hb hx htk hlx hL hinL hgf hgd hset hk1 g1 g2 g3 g4 n4 hk2 n4' hkp hcle; have hC_h := lH hC; have hI2_h := lH hI2; have hc_h := lH hc; have hc'_h := lH hc'; have hkf_h := lH hkf; clear hC hI2 hc hc' hkf
        go_wp2_with (fail)
        refine (hC_h.out _).mono ?_
        rintro e w1 ⟨rfl, rfl⟩
        go_upto_region 7 with (fail)
        rw [← hW1]
        clear hW1
        go_upto_region 8 with (fail)
        rw [← hW2]
        clear hW2
        go_wp2_with (fail)
        go_roundw
        case rel => exact ⟨k + 1, by omega, by go_num, hI2_h.out, hkf_h.out⟩
        case measure => simp [intOf]; omega
    · have hin' : t_inB x 0 ((n : Int) - 1) = false := by simpa using hin
      simp only [hin'] at hC
      have hinL : inW n (L ++ [x]) = false := by rw [inW_snoc, hin', Bool.and_false]
      have hxo : ¬ (0 ≤ x ∧ x < (n : Int)) := fun hh => by
       rw [show t_inB x 0 ((n : Int) - 1) = true from decide_eq_true ⟨hh.1, by omega⟩] at hin'; cases hin'
      obtain ⟨s0, s1⟩ := boxg1 hI.hgd
      obtain ⟨W1, hW1⟩ : ∃ W1, W1 = wr.setCell ⟨bG, 0, none⟩ (.bool false) := ⟨_, rfl⟩
      obtain ⟨n2, hk1⟩ := box_set hI.hgd 0 (.bool false)
      rw [← hW1] at n2 hk1
      have n2' : W1.heap[bG]? = some (.cells #[.bool false] tBool) := n2
      have hI2 : GI n gB bG bS bC Gs V1 V2 V3 (l ++ m.take (k + 1)) W1 := by
       rw [hlx]
       refine ⟨t_box_keeps hI.hg hk1 h4.1, by rw [hinL]; exact n2', t_box_keeps hI.hsl hk1 h5.1, ?_, ?_⟩
       · have e : seenC n (L ++ [x]) = seenC n L := by unfold seenC; rw [seenM_out hxo]
         rw [e]; exact t_box_keeps hI.hct hk1 (fun e => h1 e.symm)
       · rw [seenM_out hxo]; exact hI.hse.keeps hk1 (fun b hb e => by simp at hb; omega)
      have hkf : Keeps (· ∈ [bG, bC, Gs.block]) W W1 := hkp.trans (hk1.mono fun b _ hb => by simp [hb])
      clear hI hin hin' hx htk hlx hL hinL n2 hk1 n2' hkp; have hC_h := lH hC; have hI2_h := lH hI2; have hkf_h := lH hkf; have hxo_h := lH hxo; clear hC hI2 hkf hxo
      go_wp2_with (fail)
      refine (hC_h.out _).mono ?_
      rintro e w1 ⟨rfl, rfl⟩
      go_upto_region 8 with (fail)
      rw [← hW1]
      clear hW1
      go_wp2_with (fail)
      go_roundw
      case rel => exact ⟨k + 1, by omega, by go_num, hI2_h.out, hkf_h.out⟩
      case measure => simp [intOf]; omega
  · obtain rfl : p = k := by omega
    rw [List.take_of_length_le (by rw [← hp_h.out]; exact Nat.le_refl _)] at hI
    have hI_h := lH hI; have hkp_h := lH hkp; clear hI hkp
    go_wp2_with (fail)
    go_end0
    exact ⟨rfl, hI_h.out, hkp_h.out⟩
theorem egH_eg (k v : Int) (l m : List Int) : egH k v l.length m.length = egB (k, v, l, m) := rfl
theorem madeSeen (n : Nat) : bls (List.replicate n false) = bls (seenM n []) := by rw [seenM_nil]
set_option maxRecDepth 100000 in
set_option maxHeartbeats 8000000 in
theorem isGraph_any {v : Value} {g : Gr} (w : World) (h : RdGr w v g) (ok : OkG g) :
  Calls Tryz.prog 39 #[v] w fun e w' => e = .returned (.bool (grB g)) ∧ Below w.heap.size w w' := by
 have hG0 := h
 obtain ⟨A, c, hs, ⟨B, b, s⟩, ⟨C, d, t⟩, rfl, e1, e2, e3, hE, hRa, hRb⟩ := h
 obtain ⟨z, es, s0, t0⟩ := g
 have a1 : es = hs.map egOf := e1
 have a2 : s = s0 := e2
 have a3 : t = t0 := e3
 subst a2 a3
 have hok := ok
 have hlen1 : es.length ≤ 1048576 := ok.1.1
 have hlen2 : s.length ≤ 1048576 := ok.1.2.1
 have hlen3 : t.length ≤ 1048576 := ok.1.2.2
 have hlE : ∀ x, x ∈ hs → x.2.2.1.2.2.length ≤ 1048576 ∧ x.2.2.2.2.2.length ≤ 1048576 := fun x hx => ok.2.1 _ (by show egOf x ∈ es; rw [a1]; exact List.mem_map_of_mem hx)
 obtain ⟨D, hD⟩ : ∃ D, D = grB (z, es, s, t) := ⟨_, rfl⟩
 have hDD := hD
 unfold grB at hDD
 simp only [Bool.and_assoc] at hDD
 rw [← hD]
 obtain ⟨m, hm⟩ : ∃ m, m = hs.length := ⟨_, rfl⟩
 obtain ⟨p, hp⟩ : ∃ p, p = s.length := ⟨_, rfl⟩
 obtain ⟨r, hr⟩ : ∃ r, r = t.length := ⟨_, rfl⟩
 have hmes : es.length = m := by rw [a1, List.length_map, hm]
 have hRa0 : RdI w B s := hRa
 have hRb0 : RdI w C t := hRb
 rw [hmes, ← hp, ← hr] at hDD
 change RdGr w (.agg #[.int .i64 z, .slice A hs.length c, .slice B s.length b, .slice C t.length d]) (z, es, s, t) at hG0
 rw [← hm, ← hp, ← hr] at hG0
 show Calls Tryz.prog _ #[.agg #[.int .i64 z, .slice A hs.length c, .slice B s.length b, .slice C t.length d]] w _
 rw [← hm, ← hp, ← hr]
 obtain ⟨W, hW, bW, k0⟩ := (⟨_, rfl, t_below_alloc _ _, heap_alloc_new _ _⟩ : ∃ W, W = w.alloc (.cells #[.int .i64 z, .slice A m c, .slice B p b, .slice C r d] tGr) ∧ Below w.heap.size w W ∧ W.heap[w.heap.size]? = some (.cells #[.int .i64 z, .slice A m c, .slice B p b, .slice C r d] tGr))
 obtain ⟨⟨c0, c1, c2, c3⟩, f0, f1, f2, f3⟩ := t_box4 k0
 have hI := fun (W : World) => t_within_any z 0 100 W
 clear hRa hRb ok e1 e2 e3 hRa0 hRb0
 by_cases h0 : t_inB z 0 100 = true
 case neg =>
  have h0' : t_inB z 0 100 = false := by simpa using h0
  obtain rfl : D = false := by rw [hDD, h0']; rfl
  simp only [h0'] at hI
  clear h0 h0'; have hI_h := lH hI; have k0_h := lH k0; have bW_h := lH bW; have hm_h := lH hm; have hp_h := lH hp; have hr_h := lH hr; have hD_h := lH hD; have hDD_h := lH hDD; have hmes_h := lH hmes; have hlE_h := lH hlE; have hok_h := lH hok; have a1_h := lH a1; have hE_h := lH hE; have hG0_h := lH hG0; clear hI k0 bW hm hp hr hD hDD hmes hlE hok a1 hE hG0
  go_enter Tryz.func39, Tryz.ntmps39
  go_upto_region 1 with (fail)
  rw [← hW]
  clear hW
  go_wp2_with (fail)
  refine (hI_h.out _).mono ?_
  rintro e w1 ⟨rfl, rfl⟩
  go_wp2_with (fail)
  go_ret
  exact ⟨rfl, bW_h.out⟩
 have hz : 0 ≤ z ∧ z ≤ 100 := of_decide_eq_true h0
 simp only [h0] at hI
 rw [h0, Bool.true_and] at hDD
 clear h0
 have wz : IntKind.i64.wrap (z - 1) = z - 1 := IntWalk.i64_in _ (by omega)
 by_cases h1 : m ≤ 60
 case neg =>
  obtain rfl : D = false := by rw [hDD, decide_eq_false h1]; rfl
  have h1' : ¬ ((m : Int) ≤ 60) := by omega
  have hI_h := lH hI; have k0_h := lH k0; have bW_h := lH bW; have hm_h := lH hm; have hp_h := lH hp; have hr_h := lH hr; have hD_h := lH hD; have hDD_h := lH hDD; have hmes_h := lH hmes; have hlE_h := lH hlE; have hok_h := lH hok; have a1_h := lH a1; have hE_h := lH hE; have hG0_h := lH hG0; clear hI k0 bW hm hp hr hD hDD hmes hlE hok a1 hE hG0
  go_enter Tryz.func39, Tryz.ntmps39
  go_upto_region 1 with (fail)
  rw [← hW]
  clear hW
  go_wp2_with (fail)
  refine (hI_h.out _).mono ?_
  rintro e w1 ⟨rfl, rfl⟩
  go_wp2_with (fail)
  go_ret
  exact ⟨rfl, bW_h.out⟩
 rw [decide_eq_true h1, Bool.true_and] at hDD
 have h1' : (m : Int) ≤ 60 := by omega
 by_cases h2 : p ≤ 12
 case neg =>
  obtain rfl : D = false := by rw [hDD, decide_eq_false h2]; rfl
  have h2' : ¬ ((p : Int) ≤ 12) := by omega
  have hI_h := lH hI; have k0_h := lH k0; have bW_h := lH bW; have hm_h := lH hm; have hp_h := lH hp; have hr_h := lH hr; have hD_h := lH hD; have hDD_h := lH hDD; have hmes_h := lH hmes; have hlE_h := lH hlE; have hok_h := lH hok; have a1_h := lH a1; have hE_h := lH hE; have hG0_h := lH hG0; clear hI k0 bW hm hp hr hD hDD hmes hlE hok a1 hE hG0
  go_enter Tryz.func39, Tryz.ntmps39
  go_upto_region 1 with (fail)
  rw [← hW]
  clear hW
  go_wp2_with (fail)
  refine (hI_h.out _).mono ?_
  rintro e w1 ⟨rfl, rfl⟩
  go_wp2_with (fail)
  go_ret
  exact ⟨rfl, bW_h.out⟩
 rw [decide_eq_true h2, Bool.true_and] at hDD
 have h2' : (p : Int) ≤ 12 := by omega
 by_cases h3 : r ≤ 12
 case neg =>
  obtain rfl : D = false := by rw [hDD, decide_eq_false h3]; rfl
  have h3' : ¬ ((r : Int) ≤ 12) := by omega
  have hI_h := lH hI; have k0_h := lH k0; have bW_h := lH bW; have hm_h := lH hm; have hp_h := lH hp; have hr_h := lH hr; have hD_h := lH hD; have hDD_h := lH hDD; have hmes_h := lH hmes; have hlE_h := lH hlE; have hok_h := lH hok; have a1_h := lH a1; have hE_h := lH hE; have hG0_h := lH hG0; clear hI k0 bW hm hp hr hD hDD hmes hlE hok a1 hE hG0
  go_enter Tryz.func39, Tryz.ntmps39
  go_upto_region 1 with (fail)
  rw [← hW]
  clear hW
  go_wp2_with (fail)
  refine (hI_h.out _).mono ?_
  rintro e w1 ⟨rfl, rfl⟩
  go_wp2_with (fail)
  go_ret
  exact ⟨rfl, bW_h.out⟩
 rw [decide_eq_true h3, Bool.true_and] at hDD
 have h3' : (r : Int) ≤ 12 := by omega
 have hI_h := lH hI; have k0_h := lH k0; have bW_h := lH bW; have hm_h := lH hm; have hp_h := lH hp; have hr_h := lH hr; have hD_h := lH hD; have hDD_h := lH hDD; have hmes_h := lH hmes; have hlE_h := lH hlE; have hok_h := lH hok; have a1_h := lH a1; have hE_h := lH hE; have hG0_h := lH hG0; clear hI k0 bW hm hp hr hD hDD hmes hlE hok a1 hE hG0
 go_enter Tryz.func39, Tryz.ntmps39
 go_upto_region 1 with (fail)
 rw [← hW]
 clear hW
 go_wp2_with (fail)
 refine (hI_h.out _).mono ?_
 rintro e w1 ⟨rfl, rfl⟩
 obtain ⟨W, rfl⟩ : ∃ x, x = w1 := ⟨_, rfl⟩
 go_wp2_with (fail)
 clear c0 c1 c2 c3 f0 f1 f2 f3
 go_loopw [33] (fun i wr => ∃ k : Nat, k ≤ m ∧ i = .int .i64 k ∧ (es.take k).all egB = true ∧ Below W.heap.size W wr) (fun i _ => m - (intOf i).toNat)
 case atStart => exact ⟨0, Nat.zero_le _, rfl, by simp, Below.refl _ _⟩
 case round =>
  obtain ⟨k, hk, rfl, hall, hB1⟩ := hrel
  have kr := t_box_below k0_h.out hB1
  have hBw := below_trans bW_h.out hB1 bW_h.out.size
  by_cases hlt : k < m
  · obtain ⟨ad, κ, vv, B1, b1, s1, C1, b2, t1, rfl, hn, ⟨d0, d1, d2, d3⟩, hr1, hr2⟩ := (hE_h.out.below hBw).at_ (j := k) (by rw [← hm_h.out]; exact hlt)
    have hek : es[k]? = some (κ, vv, s1, t1) := by rw [a1_h.out, List.getElem?_map, hn]; rfl
    have hln := hlE_h.out _ (List.mem_of_getElem? hn)
    obtain ⟨wo, rfl⟩ : ∃ x, x = wr := ⟨_, rfl⟩
    have hC := fun (W' : World) (_ : Below wo.heap.size wo W') => isEdge_any κ vv B1 C1 b1 b2 s1.length t1.length W'
    obtain ⟨p1, hp1⟩ : ∃ p1, p1 = s1.length := ⟨_, rfl⟩
    obtain ⟨r1, hr1'⟩ : ∃ r1, r1 = t1.length := ⟨_, rfl⟩
    simp only [egH_eg] at hC
    simp only [← hp1, ← hr1'] at hC
    rw [← hp1] at d2
    rw [← hr1'] at d3
    obtain ⟨W6, hW6, bW6, k6⟩ := (⟨_, rfl, t_below_alloc _ _, heap_alloc_new _ _⟩ : ∃ W, W = wo.alloc (.cells #[.int .i64 κ, .int .i64 vv, .slice B1 p1 b1, .slice C1 r1 b2] tEd) ∧ Below wo.heap.size wo W ∧ W.heap[wo.heap.size]? = some (.cells #[.int .i64 κ, .int .i64 vv, .slice B1 p1 b1, .slice C1 r1 b2] tEd))
    have hCW := hC W6 bW6
    have hkI : (k : Int) < (m : Int) := by omega
    have kr6 := t_box_below kr bW6
    have hBW6 := below_trans hB1 bW6 hB1.size
    obtain ⟨⟨c0, c1, c2, c3⟩, f0, f1, f2, f3⟩ := t_box4 k6
    obtain ⟨⟨y0, y1, y2, y3⟩, g0, g1, g2, g3⟩ := t_box4 kr6
    obtain ⟨H, hH⟩ : ∃ H, H = egB (κ, vv, s1, t1) := ⟨_, rfl⟩
    rw [← hH] at hCW
    have hr1_h := lH hr1'; clear hr1' hr1 hr2 hn hln hC kr hB1 kr6; have hCW_h := lH hCW; have hek_h := lH hek; have hall_h := lH hall; have hp1_h := lH hp1; have bW6_h := lH bW6; have k6_h := lH k6; have hBW6_h := lH hBW6; have hBw_h := lH hBw; have hH_h := lH hH; clear hCW hek hall hp1 bW6 k6 hBW6 hBw hH
    go_upto_region 6 with (fail)
    rw [← hW6]
    clear hW6
    go_wp2_with (fail)
    refine (hCW_h.out).mono ?_
    rintro e w7 ⟨rfl, hb7⟩
    have hB8 := below_trans hBW6_h.out hb7 hBW6_h.out.size
    clear hb7 c0 c1 c2 c3 f0 f1 f2 f3 y0 y1 y2 y3 g0 g1 g2 g3 d0 d1 d2 d3
    cases H
    · have hf : D = false := by
       rw [hDD_h.out, show es.all egB = false from ?_]; rfl
       rw [Bool.eq_false_iff]
       intro hh
       have := List.all_eq_true.1 hh _ (List.mem_of_getElem? hek_h.out)
       rw [← hH_h.out] at this; cases this
      subst hf
      have hBz := below_trans bW_h.out hB8 bW_h.out.size
      have hB8_h := lH hB8; have hBz_h := lH hBz; clear hB8 hBz
      go_wp2_with (fail)
      go_ret
      exact ⟨rfl, hBz_h.out⟩
    · have hall2 : (es.take (k + 1)).all egB = true := by rw [List.take_add_one, hek_h.out, List.all_append, hall_h.out]; simp [← hH_h.out]
      have hB8_h := lH hB8; have hall2_h := lH hall2; clear hB8 hall2
      go_wp2_with (fail)
      go_roundw
      case rel => exact ⟨k + 1, by omega, by go_num, hall2_h.out, hB8_h.out⟩
      case measure => simp [intOf]; omega
  · obtain rfl : m = k := by omega
    rw [List.take_of_length_le (by rw [hmes_h.out]; exact Nat.le_refl _)] at hall
    have hD3 := hDD_h.out
    rw [hall, Bool.true_and] at hD3
    obtain ⟨n, rfl⟩ : ∃ n : Nat, z = (n : Int) := ⟨z.toNat, by omega⟩
    obtain ⟨⟨y0, y1, y2, y3⟩, g0, g1, g2, g3⟩ := t_box4 kr
    have hn100 : n ≤ 100 := by omega
    clear hall hDD_h hB1; have hD3_h := lH hD3; have kr_h := lH kr; have hBw_h := lH hBw; clear hD3 kr hBw
    go_upto_region 10 with (at_make; refine wpList_make_Sl _ rfl _ _ _ rfl tBool Tryz.underlying79 info_bool n n rfl rfl rfl rfl (Nat.le_refl _) (by omega) (by unfold maxLen; omega) ?_; intro Gs w2 hs2 hG2 hb2)
    have hsn : Sl w2 tBool 1 (some Gs) n n (bls (seenM n [])) := by rw [← madeSeen, ← madeBls]; exact hs2
    have hB2 := below_trans hBw_h.out hb2 hBw_h.out.size
    have kr2 := t_box_below kr_h.out hb2
    have hGl : Gs.block < w2.heap.size := hsn.lt Gs.block (by simp)
    obtain ⟨W3, hW3, bW3, j0, j1, j2⟩ := allocs3 w2 (.cells #[.slice (some Gs) n n] tBools) (.cells #[.bool true] tBool) (.cells #[.int .i64 0] tInt)
    have hB3 := below_trans hB2 bW3 hB2.size
    have hws := hBw_h.out.size
    have hw1 := t_box_lt kr_h.out
    have hI0 : GI n w.heap.size (w2.heap.size + 1) w2.heap.size (w2.heap.size + 1 + 1) Gs (.slice A m c) (.slice B p b) (.slice C r d) [] W3 :=
     ⟨t_box_below kr2 bW3, j1, j0, by
      have e : seenC n [] = 0 := by unfold seenC; rw [seenM_nil]; simp [List.count_replicate]
      rw [e]; exact j2, hsn.below bW3⟩
    have hLI := lists_any w hG0_h.out hok_h.out 50 #[.pointer (some ⟨w.heap.size, 0, none⟩), .pointer (some ⟨w2.heap.size + 1, 0, none⟩), .pointer (some ⟨w2.heap.size, 0, none⟩), .pointer (some ⟨w2.heap.size + 1 + 1, 0, none⟩)] (fun _ _ => rfl)
     (fun l W => GI n w.heap.size (w2.heap.size + 1) w2.heap.size (w2.heap.size + 1 + 1) Gs (.slice A m c) (.slice B p b) (.slice C r d) l W) [w2.heap.size + 1, w2.heap.size + 1 + 1, Gs.block]
     (fun x hx => by simp at hx; omega) (fun l W W' h hb => h.below hb)
     (fun l B' c' m' W' hI hm' _ hml => isGraphC_any n w.heap.size (w2.heap.size + 1) w2.heap.size (w2.heap.size + 1 + 1) Gs (.slice A m c) (.slice B p b) (.slice C r d) l B' c' m' W' hn100 hml (by omega) (by omega) (by omega) ⟨by omega, by omega, by omega⟩ ⟨by omega, by omega, by omega⟩ hI hm')
     W3 hI0 hB3 (fun x hx => by have := t_box_lt j2; simp at hx; omega)
    have hmf : ∀ (fn : Fn) (first cap : Array Value) (w : World), (Instr.makeFunc fn first cap).run Tryz.prog w = .ok (.func fn first cap) w := fun _ _ _ _ => rfl
    have kr3 := t_box_below kr2 bW3
    obtain ⟨L, hL⟩ : ∃ L, L = t_allW ((n : Int), es, s, t) := ⟨_, rfl⟩
    have hsf := seenC_full n L
    have hD5 : D = (inW (n : Int) L && decide (seenC n L = n)) := by rw [hD3_h.out, hsf, hL]; rfl
    rw [← hL] at hLI
    have hSge : ∀ x, x ∈ [w2.heap.size + 1, w2.heap.size + 1 + 1, Gs.block] → w.heap.size ≤ x := fun x hx => by simp at hx; omega
    clear hs2 hsn hB2 kr2 hI0 hsf y0 y1 y2 y3 g0 g1 g2 g3 j0 j1 j2
    obtain ⟨⟨y0, y1, y2, y3⟩, g0, g1, g2, g3⟩ := t_box4 kr3
    have hB3_h := lH hB3; have kr3_h := lH kr3; have hLI_h := lH hLI; have hL_h := lH hL; have hD5_h := lH hD5; have bW3_h := lH bW3; have hSge_h := lH hSge; clear hB3 kr3 hLI hL hD5 bW3 hSge
    rw [← hW3]
    clear hW3
    go_wp2_with (fail)
    refine (hLI_h.out).mono ?_
    rintro e w9 ⟨rfl, hI9, hk9⟩
    have hB9 := below_keeps hB3_h.out hk9 hB3_h.out.size hSge_h.out
    clear y0 y1 y2 y3 g0 g1 g2 g3 hmf
    obtain ⟨⟨y0, y1, y2, y3⟩, g0, g1, g2, g3⟩ := t_box4 hI9.hg
    obtain ⟨z0, z1⟩ := boxg1 hI9.hgd
    obtain ⟨z2, z3⟩ := boxg1 hI9.hct
    have hD6 := hD5_h.out
    clear hI9 hk9
    cases hiw : inW (n : Int) L
    · rw [hiw] at hD6 z0
      obtain rfl : D = false := hD6
      have hB9_h := lH hB9; have hiw_h := lH hiw; clear hB9 hiw
      go_wp2_with (fail)
      go_ret
      exact ⟨rfl, hB9_h.out⟩
    · rw [hiw, Bool.true_and] at hD6
      rw [hiw] at z0
      obtain ⟨x, hx⟩ : ∃ x, x = seenC n L := ⟨_, rfl⟩
      rw [← hx] at z2 hD6
      by_cases hxn : x = n
      · subst hxn
        obtain rfl : D = true := by rw [hD6]; exact decide_eq_true rfl
        have hbe : ((x : Int) == (x : Int)) = true := by simp
        clear hD6; have hB9_h := lH hB9; have hiw_h := lH hiw; have hx_h := lH hx; clear hB9 hiw hx
        go_wp2_with (fail)
        go_ret
        exact ⟨rfl, hB9_h.out⟩
      · obtain rfl : D = false := by rw [hD6]; exact decide_eq_false hxn
        have hbe : ((x : Int) == (n : Int)) = false := by rw [beq_eq_false_iff_ne]; omega
        clear hD6; have hB9_h := lH hB9; have hiw_h := lH hiw; have hx_h := lH hx; clear hB9 hiw hx
        go_wp2_with (fail)
        go_ret
        exact ⟨rfl, hB9_h.out⟩
end Go.Proofs.YtpkmjenoniedjaaGreat
