/-
  What the texts above it need, part 3.
-/
import Derived.Test.YtahnhblodfdfhaaDoorKComposeRelations2
import Derived.StillTail
import Derived.Test.YtahnhblodfdfhaaDoorCards
import Derived.Test.YtahnhblodfdfhaaDoorTie
import Derived.ProofKit
import Derived.OpenShut
import Derived.Deep.DeepHandedRow
import Derived.Lib.LaidTab
import Derived.Deep.Matrix
import Derived.Lib.SmallJoins
namespace Go.Proofs.YtahnhblodfdfhaaDoor
open Go.RowKit
section
variable {P : Program} {ops : Array Oper} {Q : Exit → Act → World → Prop} {md : Region.Mode} {z : Nat} {F : World → Prop}
def wpAnyZ (P : Program) (md : Region.Mode) (ops : Array Oper) (Q : Exit → Act → World → Prop) (z : Nat) (F : World → Prop) : Nat → Array Bool → Act → World → Prop
  | 0, listed, a, w => Region.ready md ops listed = [] ∧ Q .normal a w
  | fuel + 1, listed, a, w =>
    (Region.ready md ops listed = [] → Q .normal a w) ∧
    ∀ i ∈ Region.ready md ops listed, wpOp P ops Q i (fun a' w' => ((listed.setIfInBounds i true).getD z true = false → F w') ∧ wpAnyZ P md ops Q z F fuel (listed.setIfInBounds i true) a' w') a w
theorem wpAny_of_z : ∀ (fuel : Nat) (listed : Array Bool) (a : Act) (w : World), wpAnyZ P md ops Q z F fuel listed a w → wpAny P md ops Q fuel listed a w
  | 0, _, _, _, h => h
  | fuel + 1, _, _, _, h => ⟨h.1, fun i hi => wpOp_mono (fun a' w' h' => wpAny_of_z fuel _ a' w' h'.2) (h.2 i hi)⟩
end
section
variable {P : Program} {l : List Oper} {Q : Exit → Act → World → Prop} {md : Region.Mode} {z : Nat} {F : World → Prop}
theorem beginZ (z : Nat) (F : World → Prop) {id : Nat} {a : Act} {w : World} (hm : P.follows .mixedOrders = true) (h : wpAnyZ P .any l.toArray Q z F l.toArray.size (Array.replicate l.toArray.size false) a w.drew) : (Code.region id l.toArray true).wp P Q a w :=
  wp_region_any hm (wpAny_of_z _ _ _ _ h)
theorem beginZw (z : Nat) (F : World → Prop) {id : Nat} {a : Act} {w : World} (hm : P.follows .mixedOrders = true) (h : ∀ W1, W1 = w.drew → wpAnyZ P .any l.toArray Q z F l.toArray.size (Array.replicate l.toArray.size false) a W1) : (Code.region id l.toArray true).wp P Q a w :=
  beginZ z F hm (h _ rfl)
/-- The one operation that may come up. -/
theorem oneZ (i : Nat) {o : Oper} {fuel : Nat} {listed : Array Bool} {a : Act} {w : World} {l' : List Oper} (hd : l.drop i = o :: l') (hr : Region.ready md l.toArray listed = [i]) (hw : Region.wanted o (yielded l.toArray a.tmps) = true)
    (h : ∀ K : Act → World → Prop, (∀ a' w', ((listed.setIfInBounds i true).getD z true = false → F w') → wpAnyZ P md l.toArray Q z F fuel (listed.setIfInBounds i true) a' w' → K a' w') → o.wp P a w K Q) : wpAnyZ P md l.toArray Q z F (fuel + 1) listed a w := by
  refine ⟨fun h0 => (by rw [hr] at h0; cases h0), fun j hj => ?_⟩
  rw [hr] at hj
  obtain rfl := List.mem_singleton.1 hj
  unfold wpOp
  simp only [at_drop hd, hw, if_true]
  exact .inl (h _ fun a' w' h1 h2 => ⟨h1, h2⟩)
theorem runZ (i : Nat) {o : Oper} {v : Value} {fuel : Nat} {listed : Array Bool} {a : Act} {w w1 : World} {l' : List Oper} (hd : l.drop i = o :: l') (hr : Region.ready md l.toArray listed = [i]) (hw : Region.wanted o (yielded l.toArray a.tmps) = true)
    (hrun : (execOp a.eval o).run P w = .ok (.value v) w1) (hS : (listed.setIfInBounds i true).getD z true = false → F w1) (h : wpAnyZ P md l.toArray Q z F fuel (listed.setIfInBounds i true) (a.put o.dst v) w1) : wpAnyZ P md l.toArray Q z F (fuel + 1) listed a w :=
  oneZ i hd hr hw fun K hK => by
    unfold Oper.wp
    rw [hrun]
    exact hK _ _ hS h
theorem callZ (i : Nat) {o : Oper} {f : FuncId} {args : Array Value} {fuel : Nat} {listed : Array Bool} {a : Act} {w : World} {l' : List Oper} (hd : l.drop i = o :: l') (hr : Region.ready md l.toArray listed = [i]) (hw : Region.wanted o (yielded l.toArray a.tmps) = true)
    (hrun : (execOp a.eval o).run P w = .ok (.enter f args) w)
    (h : Calls P f args w fun e w' => ∃ v, e = .returned v ∧ ((listed.setIfInBounds i true).getD z true = false → F w') ∧ wpAnyZ P md l.toArray Q z F fuel (listed.setIfInBounds i true) (a.put o.dst v) w') : wpAnyZ P md l.toArray Q z F (fuel + 1) listed a w := by
  refine oneZ i hd hr hw fun K hK => ?_
  unfold Oper.wp
  rw [hrun]
  exact h.mono fun e w' ⟨v, he, h1, h2⟩ => by subst he; exact hK _ _ h1 h2
theorem appZ (i : Nat) {o : Oper} {fuel : Nat} {listed : Array Bool} {a : Act} {w : World} {l' : List Oper} (hd : l.drop i = o :: l') (hr : Region.ready md l.toArray listed = [i]) (hw : Region.wanted o (yielded l.toArray a.tmps) = true)
    (s x : Operand) (t : TypeId) (ho : o.op = .call { callee := .builtin .append, args := #[s, x], argTypes := #[t, t] })
    (e : TypeId) {z0 : Value} {size bytes : Nat} (ht : P.underlying t = some (.slice e)) (hinfo : (P.info? e).map (fun i => (i.zero, i.size, i.bytes)) = some (some z0, size, bytes)) (hzs : z0.cells.size = size) (hsz : 0 < size)
    {A : Option Addr} {n cap : Nat} {xs : List Value} (he : a.eval s = .slice A n cap) (hs : Sl w e size A n cap xs)
    {B : Option Addr} {m c : Nat} {news : List Value} (hx : a.eval x = .slice B m c) (hl : news.length = m * size) (hrd : RdC w B news) (h1 : ∀ u ∈ news, u.oneCell' = true)
    (h63 : n + m ≤ maxLen) (hbytes : (n + m) * bytes ≤ 140737488355328)
    (h : ∀ A' cap' w', Sl w' e size A' (n + m) cap' (xs ++ news) → (∀ b, b ∈ fpA A' → b ∈ fpA A ∨ w.heap.size ≤ b) → Keeps (· ∈ fpA A) w w' → RdC w' A xs → ((listed.setIfInBounds i true).getD z true = false → F w') ∧ wpAnyZ P md l.toArray Q z F fuel (listed.setIfInBounds i true) (a.put o.dst (.slice A' (n + m) cap')) w') : wpAnyZ P md l.toArray Q z F (fuel + 1) listed a w := by
  obtain ⟨i', hi, hz, hz1, hz2⟩ := info_parts hinfo
  obtain ⟨A', cap', w', hrun, h2, h3, h4, h5⟩ := run_append_Sl_rd (P := P) w t o.type e i' z0 size bytes ht hi hz hz1 hz2 hzs hsz A n cap xs hs B m c news hl hrd h1 h63 hbytes
  obtain ⟨hS, hh⟩ := h A' cap' w' h2 h3 h4 h5
  refine runZ i hd hr hw (w1 := w') (v := .slice A' (n + m) cap') ?_ hS hh
  unfold execOp
  simp only [ho, resolve, invoke, builtin, Sem.run_bind, Sem.run_pure, Result.andThen_ok, List.map_toArray, List.map_cons, List.map_nil, he, hx, hrun]
theorem doneZ {fuel : Nat} {listed : Array Bool} {a : Act} {w : World} (hr : Region.ready md l.toArray listed = []) (h : Q .normal a w) : wpAnyZ P md l.toArray Q z F fuel listed a w := by
  cases fuel with
  | zero => exact ⟨hr, h⟩
  | succ f => exact ⟨fun _ => h, fun i hi => (by rw [hr] at hi; cases hi)⟩
end
end Go.Proofs.YtahnhblodfdfhaaDoor
namespace Go.Proofs.YtahnhblodfdfhaaDoor
open Go.RowKit
section
variable {P : Program} {ops : Array Oper} {Q : Exit → Act → World → Prop} {md : Region.Mode} {z : Nat} {F : World → Prop}
theorem wpAnyZ_firstC {i : Nat} {oi : Oper} {v : Value} {C : List Nat} (hi : ops[i]? = some oi) (hsel : ∀ (j : Nat) (o : Oper) cs b, ops[j]? = some o → o.op ≠ .select cs b)
    (hQ : ∀ c a w, Q (.panic c) (a.put oi.dst v) w → Q (.panic c) a w) (hzC : z ∈ C) (hiC : ¬ i ∈ C) (hC : ∀ c ∈ C, ∃ oc, ops[c]? = some oc ∧ ∃ e ∈ oc.after, Region.binds md e = true ∧ (e.on = i ∨ e.on ∈ C)) :
    ∀ (fuel : Nat) (listed : Array Bool) (a : Act) (w : World), (∀ c ∈ C, listed.getD c true = false) →
      (∀ j oj, ops[j]? = some oj → j ≠ i → listed.getD j true = false → (∀ e ∈ oj.after, Region.binds md e = true → e.on ≠ i) → oi.apart ops oj = true) →
      i ∈ Region.ready md ops listed → YieldsIf P ops F oi v a → F w →
      wpAnyZ P md ops Q z F fuel (listed.setIfInBounds i true) (a.put oi.dst v) w → wpAnyZ P md ops Q z F (fuel + 1) listed a w := by
  intro fuel
  have hiz : i ≠ z := fun e => hiC (e ▸ hzC)
  induction fuel with
  | zero =>
    intro listed a w _ _ hr hy hS H
    refine ⟨fun h => (by rw [h] at hr; cases hr), fun j hj => ?_⟩
    by_cases hji : j = i
    · subst hji; exact hy.wpOp hi hS ⟨fun _ => hS, H⟩
    · have := ready_mono hj hji
      rw [H.1] at this
      cases this
  | succ fuel ih =>
    intro listed a w hlz hfree hr hy hS H
    refine ⟨fun h => (by rw [h] at hr; cases hr), fun j hj => ?_⟩
    by_cases hji : j = i
    · subst hji; exact hy.wpOp hi hS ⟨fun _ => hS, H⟩
    · have h1 := H.2 j (ready_mono hj hji)
      obtain ⟨hjun, oj, hoj, hall⟩ := mem_ready.1 hj
      have hblock : ∀ k, listed.getD k true = false → ∀ e ∈ oj.after, Region.binds md e = true → e.on ≠ k := fun k h0 e he hb heq => by
        have h1 := hall e he hb
        rw [heq] at h1
        rcases Nat.lt_or_ge k listed.size with h' | h'
        · simp [h'] at h0 h1; rw [h0] at h1; cases h1
        · simp [Array.getElem?_eq_none h'] at h1
      have hnot : ∀ e ∈ oj.after, Region.binds md e = true → e.on ≠ i := hblock i (mem_ready.1 hr).1
      have hjC : ¬ j ∈ C := fun hm => by
        obtain ⟨oc, hoc, e, he, hb, hon⟩ := hC j hm
        rw [hoj] at hoc
        obtain rfl := Option.some.inj hoc
        rcases hon with h | h
        · exact hnot e he hb h
        · exact hblock _ (hlz _ h) e he hb rfl
      have hjz : j ≠ z := fun e => hjC (e ▸ hzC)
      have h2 := wpOp_putIf hoj (hfree j oj hoj hji hjun hnot) (fun cs b => hsel i oi cs b hi) (fun cs b => hsel j oj cs b hoj) hQ hy h1
      have hfree' : ∀ k ok, ops[k]? = some ok → k ≠ i → (listed.setIfInBounds j true).getD k true = false →
          (∀ e ∈ ok.after, Region.binds md e = true → e.on ≠ i) → oi.apart ops ok = true := fun k ok hk hki hun hno => by
        refine hfree k ok hk hki ?_ hno
        by_cases hjk : j = k
        · subst hjk; exact hjun
        · rw [getD_set_ne true hjk] at hun; exact hun
      have hlz' : ∀ c ∈ C, (listed.setIfInBounds j true).getD c true = false := fun c hc => by
        have hjc : j ≠ c := fun e => hjC (by rw [e]; exact hc)
        rw [getD_set_ne true hjc]; exact hlz c hc
      have hlz2 : ((listed.setIfInBounds i true).setIfInBounds j true).getD z true = false := by rw [getD_set_ne true hjz, getD_set_ne true hiz]; exact hlz z hzC
      refine wpOp_mono (fun a' w' h3 => ⟨fun _ => h3.2.1 hlz2, ih (listed.setIfInBounds j true) a' w' hlz' hfree' (ready_mono hr (Ne.symm hji)) h3.1 (h3.2.1 hlz2) ?_⟩) h2
      rw [Array.setIfInBounds_comm _ _ hji]
      exact h3.2.2
/-- What waits for i, directly or through others. -/
def descC (md : Region.Mode) (ops : Array Oper) (i : Nat) : List Nat :=
  (List.range ops.size).foldl (fun acc k => if (i :: acc).any fun d => Region.waitsFor md ops k d then k :: acc else acc) []
/-- Each of the chain waits for i or for one of the chain; none is listed. -/
def chainC (md : Region.Mode) (ops : Array Oper) (listed : Array Bool) (C : List Nat) (z i : Nat) : Bool :=
  C.contains z && !C.contains i && C.all fun c => !listed.getD c true && (i :: C).any fun d => Region.waitsFor md ops c d
end
section
variable {P : Program} {l : List Oper} {Q : Exit → Act → World → Prop} {md : Region.Mode} {z : Nat} {F : World → Prop}
theorem takeC (i : Nat) {oi : Oper} {v : Value} {fuel : Nat} {listed : Array Bool} {a : Act} {w : World} {l' : List Oper} (hd : l.drop i = oi :: l')
    (hs : Region.noSelect l.toArray = true) (hf : Region.free md l.toArray listed i = true) (hr : (Region.ready md l.toArray listed).contains i = true) (hz : chainC md l.toArray listed (descC md l.toArray i) z i = true)
    (hQ : ∀ c a w, Q (.panic c) (a.put oi.dst v) w → Q (.panic c) a w) (hS : F w) (hw : Region.wanted oi (yielded l.toArray a.tmps) = true) (hy : ∀ w, F w → (execOp a.eval oi).run P w = .ok (.value v) w)
    (h : wpAnyZ P md l.toArray Q z F fuel (listed.setIfInBounds i true) (a.put oi.dst v) w) : wpAnyZ P md l.toArray Q z F (fuel + 1) listed a w := by
  simp only [chainC, Bool.and_eq_true, Bool.not_eq_true', List.all_eq_true, List.any_eq_true] at hz
  obtain ⟨⟨h1, h2⟩, h3⟩ := hz
  refine wpAnyZ_firstC (C := descC md l.toArray i) (at_drop hd) (Region.noSelect_spec hs) hQ (by simpa using h1) (by simpa using h2) (fun c hc => ?_) fuel listed a w (fun c hc => (h3 c hc).1) (Region.free_spec (at_drop hd) hf) (by simpa using hr) (.inl ⟨hw, hy⟩) hS h
  obtain ⟨-, d, hd', hwt⟩ := h3 c hc
  obtain ⟨oz, hoz, e, he, hb, heq⟩ := Region.waitsFor_spec hwt
  refine ⟨oz, hoz, e, he, hb, ?_⟩
  rw [heq]
  rcases List.mem_cons.1 hd' with h | h
  · exact .inl h
  · exact .inr h
end
section
variable {P : Program} {ops : Array Oper} {Q : Exit → Act → World → Prop} {md : Region.Mode} {z : Nat} {F : World → Prop}
end
section
variable {P : Program} {l : List Oper} {Q : Exit → Act → World → Prop} {md : Region.Mode} {z : Nat} {F : World → Prop}
end
end Go.Proofs.YtahnhblodfdfhaaDoor

namespace Go.Proofs.YtahnhblodfdfhaaDoor
open Go.RowKit
theorem take_sl {w : World} {A : Option Addr} {n cap k : Nat} {l : List Int} (h : IS w A cap l) (hn : l.length = n) (hk : k ≤ n) :
    ∃ A', (∀ w', (Instr.sliceAt 33 (.slice A n cap) none (some (.int .i64 (k : Int))) none).run Tryd.prog w' = .ok (.slice A' k cap) w') ∧ IS w A' cap (l.take k) ∧ ∀ b, b ∈ fpA A' → b ∈ fpA A := by
  have hS : Sl w 3 1 A n cap (ints l) := by have := h; unfold IS at this; rw [hn] at this; exact this
  obtain ⟨A', h1, h2, h3⟩ := hS.sliced (P := Tryd.prog) 33 Tryd.underlying33 info_int none (some (.int .i64 (k : Int))) none 0 k cap (optNone rfl) (optSome rfl) (optNone rfl) (Nat.zero_le _) hk (by have := hS.2.1; omega) (Nat.le_refl _)
  refine ⟨A', h1, ?_, h3⟩
  have hlk : (l.take k).length = k := by rw [List.length_take, hn]; omega
  unfold IS
  rw [hlk]
  have e : ints (l.take k) = ((ints l).drop (0 * 1)).take ((k - 0) * 1) := by simp [ints, List.map_take]
  rw [e]
  exact h2
theorem drop_sl {w : World} {A : Option Addr} {n cap k r : Nat} {l : List Int} (h : IS w A cap l) (hn : l.length = n) (hk : n = k + r) :
    ∃ A' c', (∀ w', (Instr.sliceAt 33 (.slice A n cap) (some (.int .i64 (k : Int))) none none).run Tryd.prog w' = .ok (.slice A' r c') w') ∧ IS w A' c' (l.drop k) ∧ ∀ b, b ∈ fpA A' → b ∈ fpA A := by
  have hS : Sl w 3 1 A n cap (ints l) := by have := h; unfold IS at this; rw [hn] at this; exact this
  obtain ⟨A', h1, h2, h3⟩ := hS.sliced (P := Tryd.prog) 33 Tryd.underlying33 info_int (some (.int .i64 (k : Int))) none none k n cap (optSome rfl) (optNone ⟨rfl, rfl⟩) (optNone rfl) (by omega) (Nat.le_refl _) (by have := hS.2.1; omega) (Nat.le_refl _)
  have hr : n - k = r := by omega
  rw [hr] at h1 h2
  refine ⟨A', cap - k, h1, ?_, h3⟩
  have hlk : (l.drop k).length = r := by rw [List.length_drop, hn]; omega
  unfold IS
  rw [hlk]
  have e : ints (l.drop k) = ((ints l).drop (k * 1)).take (r * 1) := by
    rw [List.take_of_length_le (by rw [List.length_drop, ints_length, hn]; omega)]
    simp [ints, List.map_drop]
  rw [e]
  exact h2
theorem Keeps.cellK {S : Nat → Prop} {w w' : World} (hk : Keeps S w w') {p : Addr} (hp : p.block < w.heap.size) (hS : ¬ S p.block) : w'.cell? p = w.cell? p := World.cell?_of_block (w := w) (hk.block p.block hp hS)
theorem Keeps.frozenK {S : Nat → Prop} {w w' : World} (hk : Keeps S w w') {p : Addr} (hp : p.block < w.heap.size) (hS : ¬ S p.block) : w'.frozen? p = w.frozen? p := World.frozen?_of_block (w := w) (hk.block p.block hp hS)
theorem OM.rowfp {w0 w : World} {A : Option Addr} {cap : Nat} {L : List (List Int)} (h : OM w0 w A cap L) {i : Nat} (hi : i < L.length) {ad : Addr} (hA : A = some ad) {B : Option Addr} {n c : Nat} (hc : w.cell? (ad.add i) = some (.slice B n c)) : ∀ b, b ∈ fpA B → w0.heap.size ≤ b ∧ b ≠ ad.block := by
  subst hA
  obtain ⟨hs, rfl, hO, hf, h0⟩ := h
  obtain ⟨ad', B0, c0, l0, hA', hx0, hc', _, _⟩ := hO.get (i := i) (by simpa using hi)
  obtain rfl := Option.some.inj hA'
  rw [hc] at hc'
  injection hc' with hc'
  injection hc' with e1 e2 e3
  subst e1
  intro b hb
  refine ⟨hf b (List.mem_append_right _ (mem_fpR.2 ⟨_, List.mem_of_getElem? hx0, hb⟩)), fun e => hO.outer _ (List.mem_of_getElem? hx0) b hb (by simp [e])⟩
/-- A row is appended to. -/
theorem OM.grow {w0 w w1 w2 : World} {A : Option Addr} {cap : Nat} {L : List (List Int)} (h : OM w0 w A cap L) {i : Nat} (hi : i < L.length) {ad : Addr} (hA : A = some ad) {B : Option Addr} {n c : Nat} (hc : w.cell? (ad.add i) = some (.slice B n c)) (hb : Below w.heap.size w w1) {B' : Option Addr} {c' : Nat} {l' : List Int} (hx : IS w2 B' c' l') (hf1 : ∀ b, b ∈ fpA B' → b ∈ fpA B ∨ w.heap.size ≤ b) (hkB : Keeps (· ∈ fpA B) w1 w2) :
    OM w0 (w2.setCell (ad.add i) (.slice B' l'.length c')) A cap (L.set i l') := by
  subst hA
  obtain ⟨hs, rfl, hO, hf, h0⟩ := h
  have hi' : i < hs.length := by simpa using hi
  obtain ⟨ad', B0, c0, l0, hA', hx0, hc', _, _⟩ := hO.get (i := i) hi'
  obtain rfl := Option.some.inj hA'
  rw [hc] at hc'
  injection hc' with hc'
  injection hc' with e1 e2 e3
  subst e1
  have hm0 := List.mem_of_getElem? hx0
  have hAl : ∀ b, b ∈ fpA (some ad) → b < w.heap.size := fun b hb' => hO.sl.lt b hb'
  have hRl : ∀ y, y ∈ hs → (∀ b, b ∈ fpA y.1 → b < w.heap.size) := fun y hy b hb' => (hO.rows y hy).lt b hb'
  have hBA : ∀ b, b ∈ fpA B → ¬ b ∈ fpA (some ad) := fun b hb' => hO.outer _ hm0 b hb'
  have hk : Keeps (· ∈ fpA (some ad)) w2 (w2.setCell (ad.add i) (.slice B' l'.length c')) := (Keeps.refl _ w2).setCell (p := ad.add i) (by rw [block_of_add]; simp) _
  have hget : ∀ (k : Nat) (x : Hd), (hs.set i (B', c', l'))[k]? = some x → (k = i ∧ x = (B', c', l')) ∨ (k ≠ i ∧ hs[k]? = some x) := by
    intro k x hx
    rw [List.getElem?_set] at hx
    split at hx
    · rename_i hk; subst hk
      simp at hx
      exact .inl ⟨rfl, hx.symm⟩
    · rename_i hk; exact .inr ⟨fun e => hk e.symm, hx⟩
  have hsz := h0.size
  have hbs := hb.size
  refine ⟨hs.set i (B', c', l'), by rw [List.map_set], ⟨?_, fun x hx' => ?_, ?_, fun x hx' b hb1 hb2 => ?_⟩, fun b hb' => ?_, ?_⟩
  · have := ((hO.sl.below hb).keeps hkB (fun b hb1 hb2 => hBA b hb2 hb1)).set (ad := ad) rfl i (Hd.val (B', c', l')) (by simpa using hi')
    rw [← List.map_set] at this
    rw [List.length_set]; exact this
  · obtain ⟨k, hk', rfl⟩ := List.getElem_of_mem hx'
    rcases hget k _ (List.getElem?_eq_getElem hk') with ⟨_, e⟩ | ⟨hne, e⟩
    · rw [e]
      exact hx.keeps hk fun b hb' hb'' => by
        rcases hf1 b hb' with h1 | h1
        · exact hBA b h1 hb''
        · have := hAl b hb''
          omega
    · exact ((hO.rows _ (List.mem_of_getElem? e)).below hb |>.keeps hkB (fun b hb1 hb2 => hO.apart_get e hx0 hne b hb1 hb2)).keeps hk fun b hb' => hO.outer _ (List.mem_of_getElem? e) b hb'
  · refine List.pairwise_iff_getElem.2 fun a b ha hb' hab c'' h1 h2 => ?_
    rcases hget a _ (List.getElem?_eq_getElem ha) with ⟨ea, e1⟩ | ⟨ea, e1⟩ <;> rcases hget b _ (List.getElem?_eq_getElem hb') with ⟨eb, e2⟩ | ⟨eb, e2⟩
    · omega
    · rw [e1] at h1
      have h3 := hRl _ (List.mem_of_getElem? e2) c'' h2
      rcases hf1 c'' h1 with h4 | h4
      · exact hO.apart_get e2 hx0 eb c'' h2 h4
      · omega
    · rw [e2] at h2
      have h3 := hRl _ (List.mem_of_getElem? e1) c'' h1
      rcases hf1 c'' h2 with h4 | h4
      · exact hO.apart_get e1 hx0 ea c'' h1 h4
      · omega
    · exact hO.apart_get e1 e2 (by omega) c'' h1 h2
  · rcases List.mem_or_eq_of_mem_set hx' with hx' | hx'
    · exact hO.outer x hx' b hb1 hb2
    · subst hx'
      rcases hf1 b hb1 with h1 | h1
      · exact hBA b h1 hb2
      · have := hAl b hb2
        omega
  · rcases List.mem_append.1 hb' with hb' | hb'
    · exact hf b (List.mem_append_left _ hb')
    · obtain ⟨y, hy, hb'⟩ := mem_fpR.1 hb'
      rcases List.mem_or_eq_of_mem_set hy with hy | hy
      · exact hf b (List.mem_append_right _ (mem_fpR.2 ⟨_, hy, hb'⟩))
      · subst hy
        rcases hf1 b hb' with h1 | h1
        · exact hf b (List.mem_append_right _ (mem_fpR.2 ⟨_, hm0, h1⟩))
        · omega
  · have hB2 := below_keeps (below_trans h0 hb hsz) hkB (by omega) fun b hb' => hf b (List.mem_append_right _ (mem_fpR.2 ⟨_, hm0, hb'⟩))
    exact below_keeps hB2 hk hB2.size fun b hb' => hf b (List.mem_append_left _ hb')
theorem set_take_drop {bs : List (List Int)} {j : Nat} {x : List Int} {X : List (List Int)} {n : Nat} (hb : bs = X.take j ++ (List.replicate n ([] : List Int)).drop j) (hX : X.length = n) (hx : X[j]? = some x) : bs.set j x = X.take (j + 1) ++ (List.replicate n ([] : List Int)).drop (j + 1) := by
  rw [hb, take_append_step (by rw [hX, List.length_replicate]) hx]
theorem nil_at {bs : List (List Int)} {j : Nat} {X : List (List Int)} {n : Nat} (hb : bs = X.take j ++ (List.replicate n ([] : List Int)).drop j) (hX : X.length = n) (hj : j < n) : bs.getD j [] = [] := by
  have hl : (X.take j).length = j := by rw [List.length_take]; omega
  rw [hb, List.getD_eq_getElem?_getD, List.getElem?_append_right (by omega), hl, Nat.sub_self, List.getElem?_drop, List.getElem?_replicate]
  split <;> rfl
set_option maxRecDepth 100000 in
set_option maxHeartbeats 8000000 in
theorem rlCompose_any (p : Int) {v v' : Value} {s t : Sys} {fp fp' : List Nat} (w : World) (ha : OwSys w v s fp) (hb : OwSys w v' t fp') (hs : RelOk p s) (ht : RelOk p t) (hm : s.2.1 = t.1) (hsum : s.1 + t.2.1 ≤ 24) :
    Calls Tryd.prog 70 #[.int .i64 p, v, v'] w fun e w' => ∃ v' fp', e = .returned v' ∧ OwSys w' v' (cmpV p s t) fp' ∧ FreshL w.heap.size fp' ∧ Below w.heap.size w w' := by
  have hmat0 := pairs_mat hs ht
  have hmid0 := mid_mat hs ht hm
  have hnull0 := mid_null hs ht hm
  have htr0 := mid_trans (s := s) ht hm
  have hpr0 := pair_ref hs ht hm
  obtain ⟨Aa, ca, ga, rfl, hLa0, hOa, rfl⟩ := ha
  obtain ⟨ia, ja, La⟩ := s
  have ha0 : 0 ≤ ia := hs.lo
  have ha1 : 0 ≤ ja := hs.hi
  have ha2 : ia + ja ≤ 24 := hs.sum
  have hfld : fieldB p = true := hs.fld
  have hrowa : ∀ u, u ∈ La → (u.length : Int) = ia + ja ∧ Res p u := fun u hu => hs.row hu
  have hlena : (La.length : Int) ≤ ia + ja := hs.len
  clear hs
  obtain ⟨a1, rfl⟩ : ∃ n : Nat, ia = (n : Int) := ⟨ia.toNat, by omega⟩
  obtain ⟨a2, rfl⟩ : ∃ n : Nat, ja = (n : Int) := ⟨ja.toNat, by omega⟩
  have hLa : La = ga.map (fun h : Hd => h.2.2) := hLa0
  clear hLa0
  obtain ⟨ma, hma⟩ : ∃ m, m = ga.length := ⟨_, rfl⟩
  have hLma : La.length = ma := by rw [hLa, List.length_map, hma]
  have hma24 : (ma : Int) ≤ 24 := by have := hlena; rw [hLma] at this; omega
  obtain ⟨Ab, cb, gb, rfl, hLb0, hOb, rfl⟩ := hb
  obtain ⟨ib, jb, Lb⟩ := t
  have hb0 : 0 ≤ ib := ht.lo
  have hb1 : 0 ≤ jb := ht.hi
  have hb2 : ib + jb ≤ 24 := ht.sum
  have hrowb : ∀ u, u ∈ Lb → (u.length : Int) = ib + jb ∧ Res p u := fun u hu => ht.row hu
  have hlenb : (Lb.length : Int) ≤ ib + jb := ht.len
  clear ht
  obtain rfl : ib = (a2 : Int) := hm.symm
  obtain ⟨b2, rfl⟩ : ∃ n : Nat, jb = (n : Int) := ⟨jb.toNat, by omega⟩
  have hLb : Lb = gb.map (fun h : Hd => h.2.2) := hLb0
  clear hLb0
  obtain ⟨mb, hmb⟩ : ∃ m, m = gb.length := ⟨_, rfl⟩
  have hLmb : Lb.length = mb := by rw [hLb, List.length_map, hmb]
  have hmb24 : (mb : Int) ≤ 24 := by have := hlenb; rw [hLmb] at this; omega
  obtain ⟨N, hN⟩ : ∃ N, N = a1 + b2 := ⟨_, rfl⟩
  obtain ⟨M, hM⟩ : ∃ M, M = ma + mb := ⟨_, rfl⟩
  have hNI : (a1 : Int) + (b2 : Int) = (N : Int) := by omega
  have hMI : (ma : Int) + (mb : Int) = (M : Int) := by omega
  obtain ⟨K, hK⟩ : ∃ K, K = kerM p a2 (midR p ((a1 : Int), (a2 : Int), La) ((a2 : Int), (b2 : Int), Lb)) := ⟨_, rfl⟩
  obtain ⟨g, hg⟩ : ∃ g, g = pairV p ((a1 : Int), (a2 : Int), La) ((a2 : Int), (b2 : Int), Lb) := ⟨_, rfl⟩
  have hmat : Mat p (K.map g).length N (K.map g) := by
    have e : (((a1 : Int), (a2 : Int), La) : Sys).1 + (((a2 : Int), (b2 : Int), Lb) : Sys).2.1 = ((N : Nat) : Int) := by show (a1 : Int) + (b2 : Int) = _; omega
    rw [e] at hmat0
    rw [hK, hg]; exact hmat0
  obtain ⟨R, hR⟩ : ∃ R, R = redM p N (K.map g) := ⟨_, rfl⟩
  have hgoal : cmpV p ((a1 : Int), (a2 : Int), La) ((a2 : Int), (b2 : Int), Lb) = ((a1 : Int), (b2 : Int), R) := by
    rw [hR, hK, hg]
    show ((a1 : Int), (b2 : Int), redM p ((a1 : Int) + (b2 : Int)).toNat _) = _
    rw [show ((a1 : Int) + (b2 : Int)).toNat = N by omega]; rfl
  rw [hgoal]
  have hMM : La.length + Lb.length = M := by rw [hLma, hLmb, hM]
  have hmid : Mat p M a2 (midR p ((a1 : Int), (a2 : Int), La) ((a2 : Int), (b2 : Int), Lb)) := by rw [← hMM]; exact hmid0
  have hpbb := fieldB_bounds hfld
  have hKm := kerM_len (L := midR p ((a1 : Int), (a2 : Int), La) ((a2 : Int), (b2 : Int), Lb)) (n := a2) hfld (by rw [hmid.len]; exact hmid)
  rw [← hK, hmid.len] at hKm
  obtain ⟨X, hX⟩ : ∃ X, X = (List.range a2).map (midC p ((a1 : Int), (a2 : Int), La) ((a2 : Int), (b2 : Int), Lb)) := ⟨_, rfl⟩
  have hXl : X.length = a2 := by rw [hX]; simp
  have htr : transM (midR p ((a1 : Int), (a2 : Int), La) ((a2 : Int), (b2 : Int), Lb)) a2 = X := by rw [hX]; exact htr0
  have hXm : Mat p a2 M X := by rw [← htr]; exact transM_mat (by omega) hmid
  have hXat : ∀ j, j < a2 → X[j]? = some (La.map (fun r => r.getD (a1 + j) 0) ++ Lb.map fun r => (-(r.getD j 0)) % p) := fun j hj => by rw [hX]; simp [hj, midC]
  have hnull : nullM p M X = K := by rw [← htr, hK, ← hMM]; exact hnull0
  have hpr : ∀ k, (cmbTo p (a1 + a2) (k.take ma) La ma).take a1 ++ (cmbTo p (a2 + b2) (k.drop ma) Lb mb).drop a2 = g k := fun k => by
    have := hpr0 k
    simp only [Int.toNat_natCast, hLma, hLmb] at this
    rw [hg]; exact this
  have hma48 : ma ≤ 24 := by omega
  have hmb48 : mb ≤ 24 := by omega
  have ha24 : a1 ≤ 24 := by omega
  have ha24' : a2 ≤ 24 := by omega
  have hb24 : b2 ≤ 24 := by omega
  have hM48 : M ≤ 48 := by omega
  obtain ⟨n1, hn1⟩ : ∃ n1, n1 = a1 + a2 := ⟨_, rfl⟩
  obtain ⟨n2, hn2⟩ : ∃ n2, n2 = a2 + b2 := ⟨_, rfl⟩
  have hn1I : (a1 : Int) + (a2 : Int) = (n1 : Int) := by omega
  have hn2I : (a2 : Int) + (b2 : Int) = (n2 : Int) := by omega
  rw [← hn1, ← hn2] at hpr
  have hmata : Mat p La.length n1 La := ⟨rfl, fun u hu => ⟨by have := (hrowa u hu).1; omega, (hrowa u hu).2⟩⟩
  have hmatb : Mat p Lb.length n2 Lb := ⟨rfl, fun u hu => ⟨by have := (hrowb u hu).1; omega, (hrowb u hu).2⟩⟩
  show Calls Tryd.prog _ #[.int .i64 p, .agg #[.int .i64 (a1 : Int), .int .i64 (a2 : Int), .slice Aa ga.length ca], .agg #[.int .i64 (a2 : Int), .int .i64 (b2 : Int), .slice Ab gb.length cb]] w _
  rw [← hma, ← hmb]
  obtain ⟨W, hW, bW, k0, k1, k2⟩ := alloc3 w (.cells #[.int .i64 (a1 : Int), .int .i64 (a2 : Int), .slice Aa ma ca] tRel) (.cells #[.int .i64 (a2 : Int), .int .i64 (b2 : Int), .slice Ab mb cb] tRel) (.cells #[.int .i64 0, .int .i64 0, .slice none 0 0] tRel)
  have hOa := hOa.below bW
  have hOb := hOb.below bW
  clear hmat0 hmid0 hnull0 htr0 hpr0 hgoal hsum hX htr hm hrowa hrowb hlena hlenb hg hMM ha0 ha1 ha2 hb0 hb1 hb2
  have hwz := bW.size
  have hLa_h := Lib.hid hLa
  have hLb_h := Lib.hid hLb
  have hma_h := Lib.hid hma
  have hmb_h := Lib.hid hmb
  have hLma_h := Lib.hid hLma
  have hLmb_h := Lib.hid hLmb
  have bW_h := Lib.hid bW
  have k0_h := Lib.hid k0
  have k1_h := Lib.hid k1
  have k2_h := Lib.hid k2
  have hOa_h := Lib.hid hOa
  have hOb_h := Lib.hid hOb
  have hmata_h := Lib.hid hmata
  have hmatb_h := Lib.hid hmatb
  have hfld_h := Lib.hid hfld
  have hmat_h := Lib.hid hmat
  have hR_h := Lib.hid hR
  have hN_h := Lib.hid hN
  have hM_h := Lib.hid hM
  have hK_h := Lib.hid hK
  have hKm_h := Lib.hid hKm
  have hnull_h := Lib.hid hnull
  have hpr_h := Lib.hid hpr
  have hXl_h := Lib.hid hXl
  have hXm_h := Lib.hid hXm
  have hXat_h := Lib.hid hXat
  have hmid_h := Lib.hid hmid
  have hn1_h := Lib.hid hn1
  have hn2_h := Lib.hid hn2
  have hpbb_h := Lib.hid hpbb
  have hwz_h := Lib.hid hwz
  clear hLa hLb hma hmb hLma hLmb bW k0 k1 k2 hOa hOb hmata hmatb hfld hmat hR hN hM hK hKm hnull hpr hXl hXm hXat hmid hn1 hn2 hpbb hwz
  obtain ⟨⟨c0, c1, c2⟩, f0, f1, f2⟩ := box3 k0_h.out
  go_enter Tryd.func70, Tryd.ntmps70
  go_upto_region 1 with (fail)
  rw [← hW]
  clear hW
  go_wp2_with (at_make; refine wpList_make_Sl _ rfl _ _ _ rfl 33 Tryd.underlying22 info_ints a2 a2 rfl rfl rfl rfl (Nat.le_refl _) (by omega) (by unfold maxLen; omega) ?_; intro G w2 hs2 hG hb2)
  have hOM0 : OM W w2 (some G) a2 (X.take 0 ++ (List.replicate a2 []).drop 0) := by
    have := nils_om (w := W) (w1 := w2) (G := G) (m := a2) (by rw [← madeNils]; simpa using hs2) hG hb2
    simpa using this
  clear hs2 hb2 c0 c1 c2 f0 f1 f2
  have hOM0_h := Lib.hid hOM0
  have hG_h := Lib.hid hG
  have hNI_h := Lib.hid hNI
  have hMI_h := Lib.hid hMI
  have hn1I_h := Lib.hid hn1I
  have hn2I_h := Lib.hid hn2I
  clear hOM0 hG hNI hMI hn1I hn2I
  go_loopw [25] (fun i wr => ∃ (j : Nat), j ≤ a2 ∧ i = .int .i64 j ∧ OM W wr (some G) a2 (X.take j ++ (List.replicate a2 []).drop j)) (fun i _ => a2 - (intOf i).toNat)
  case atStart => exact ⟨0, Nat.zero_le _, rfl, hOM0_h.out⟩
  case round =>
    clear hOM0_h
    obtain ⟨j, hj, rfl, hOM⟩ := hrel
    by_cases hlt : j < a2
    · have hjI : (j : Int) < (a2 : Int) := by omega
      obtain ⟨bs, hbs⟩ : ∃ bs, bs = X.take j ++ (List.replicate a2 ([] : List Int)).drop j := ⟨_, rfl⟩
      rw [← hbs] at hOM
      have hnil := nil_at hbs hXl_h.out hlt
      have hbl : bs.length = a2 := by rw [hbs, List.length_append, List.length_take, List.length_drop, List.length_replicate, hXl_h.out]; omega
      have hfin := set_take_drop hbs hXl_h.out (hXat_h.out j hlt)
      obtain ⟨L1, hL1⟩ : ∃ L1, L1 = La.map (fun r => r.getD (a1 + j) 0) := ⟨_, rfl⟩
      obtain ⟨L2, hL2⟩ : ∃ L2, L2 = Lb.map (fun r => (-(r.getD j 0)) % p) := ⟨_, rfl⟩
      rw [← hL1, ← hL2] at hfin
      have hL1l : L1.length = ma := by rw [hL1, List.length_map, hLma_h.out]
      have hL2l : L2.length = mb := by rw [hL2, List.length_map, hLmb_h.out]
      have hst : OM W wr (some G) a2 (bs.set j (L1.take 0)) := by
        rw [List.take_zero, ← hnil, set_getD]; exact hOM
      have k0r := box_below k0_h.out hOM.below_
      obtain ⟨⟨c0, c1, c2⟩, f0, f1, f2⟩ := box3 k0r
      have hbs_h := Lib.hid hbs
      have hnil_h := Lib.hid hnil
      have hbl_h := Lib.hid hbl
      have hfin_h := Lib.hid hfin
      have hL1_h := Lib.hid hL1
      have hL2_h := Lib.hid hL2
      have hL1l_h := Lib.hid hL1l
      have hL2l_h := Lib.hid hL2l
      have hst_h := Lib.hid hst
      have k0r_h := Lib.hid k0r
      clear hbs hnil hbl hfin hL1 hL2 hL1l hL2l hst k0r
      clear hOM
      go_wp2_with (fail)
      clear c0 c1 c2 f0 f1 f2
      go_loopw [31] (fun i wr => ∃ (k : Nat), k ≤ ma ∧ i = .int .i64 k ∧ OM W wr (some G) a2 (bs.set j (L1.take k))) (fun i _ => ma - (intOf i).toNat)
      case atStart => exact ⟨0, Nat.zero_le _, rfl, hst_h.out⟩
      case round =>
        clear hst_h k0r_h
        obtain ⟨k, hk, rfl, hOM⟩ := hrel
        obtain ⟨wo, rfl⟩ : ∃ x, x = wr := ⟨_, rfl⟩
        have k0r := box_below k0_h.out hOM.below_
        by_cases hlt2 : k < ma
        · have hkI : (k : Int) < (ma : Int) := by omega
          obtain ⟨ad, C, d, u, rfl, hx, hcu, hrd⟩ := (hOa_h.out.below hOM.below_).rd.at_ (k := k) (by rw [← hma_h.out]; exact hlt2)
          have hLu : La[k]? = some u := by rw [hLa_h.out, List.getElem?_map, hx]; rfl
          have hur := hmata_h.out.row u (List.mem_of_getElem? hLu)
          have hul : u.length = n1 := hur.1
          obtain ⟨q, hq⟩ : ∃ q, q = a1 + j := ⟨_, rfl⟩
          have hqn : q < n1 := by rw [hq]; have := hn1_h.out; omega
          obtain ⟨ud, x, rfl, hxx, hcx⟩ := hrd.at_ (j := q) (by rw [hul]; exact hqn)
          have hL1k : L1.take (k + 1) = L1.take k ++ [x] := by
            rw [List.take_add_one, hL1_h.out, List.getElem?_map, hLu]
            show _ ++ [u.getD (a1 + j) 0] = _
            rw [← hq, List.getD_eq_getElem?_getD, hxx]; rfl
          obtain ⟨R0, hR0⟩ : ∃ R0, R0 = L1.take k := ⟨_, rfl⟩
          have hlk : R0.length = k := by rw [hR0, List.length_take, hL1l_h.out]; omega
          obtain ⟨q0, hq0⟩ : ∃ q0, q0 = k := ⟨_, rfl⟩
          rw [← hq0] at hlk
          rw [← hR0] at hL1k hOM
          obtain ⟨xx, hxe⟩ : ∃ y, y = x := ⟨_, rfl⟩
          rw [← hxe] at hL1k
          have hq48 : q0 ≤ 48 := by omega
          obtain ⟨gd, B, cB, hGg, hcB, hfB, hIB⟩ := hOM.get (i := j) (by rw [List.length_set, hbl_h.out]; exact hlt)
          obtain rfl := Option.some.inj hGg
          have hgd : (bs.set j R0).getD j [] = R0 := getD_set_self (by rw [hbl_h.out]; exact hlt)
          rw [hgd, hlk] at hcB
          rw [hgd] at hIB
          rw [hul] at hcu
          have hqI : (q : Int) < (n1 : Int) := by omega
          have e1 : IntKind.i64.wrap (q : Int) = (q : Int) := IntWalk.i64_in _ (by omega)
          have e2 : (a1 : Int) + (j : Int) = (q : Int) := by rw [hq]; omega
          have hbk := hOM.rowfp (i := j) (by rw [List.length_set, hbl_h.out]; exact hlt) rfl hcB
          have hul2 : ud.block < W.heap.size := by
            obtain ⟨ud', x', hu', _, hc'⟩ := (hOa_h.out.rows _ (List.mem_of_getElem? hx)).rd.at_ (j := q) (by rw [hul]; exact hqn)
            obtain rfl := Option.some.inj hu'
            have h2 := World.block_lt_of_cell? W _ hc'
            rw [block_of_add] at h2
            exact h2
          clear hx hLu hrd hxx hgd hur hq
          have hOM_h := Lib.hid hOM
          have hul_h := Lib.hid hul
          have hL1k_h := Lib.hid hL1k
          have hIB_h := Lib.hid hIB
          have hlk_h := Lib.hid hlk
          have hbk_h := Lib.hid hbk
          have k0r_h := Lib.hid k0r
          have hul2_h := Lib.hid hul2
          have hR0_h := Lib.hid hR0
          have hq0_h := Lib.hid hq0
          clear hOM hul hL1k hIB hlk hbk k0r hul2 hR0 hq0
          subst hxe
          go_wp2_with (fail)
          refine beginZw 16 (fun w' => w'.heap[w.heap.size]? = some (.cells #[.int .i64 (a1 : Int), .int .i64 (a2 : Int), .slice (some ad) ma ca] tRel) ∧ w'.cell? (G.add j) = some (.slice B q0 cB) ∧ w'.cell? (ud.add q) = some (.int .i64 xx)) (by kernel_rfl) (fun W1 hW1 => ?_)
          have hbd : Below wo.heap.size wo W1 := by rw [hW1]; exact below_drewN (Below.refl _ _) 1
          clear hW1
          have hF0 := And.intro (box_below k0r_h.out hbd) (And.intro ((hbd.cell (World.block_lt_of_cell? _ _ hcB)).trans hcB) ((hbd.cell (World.block_lt_of_cell? _ _ hcx)).trans hcx))
          have hfB1 := (hbd.frozen (World.block_lt_of_cell? _ _ hcB)).trans hfB
          have hF0_h := Lib.hid hF0
          have hbd_h := Lib.hid hbd
          have hfB1_h := Lib.hid hfB1
          clear hF0 hbd hfB1
          refine takeC 0 (v := ?_) rfl (by kernel_rfl) (by kernel_rfl) (by kernel_rfl) (by kernel_rfl) (fun _ _ _ h => h) hF0_h.out (by rfl) (fun W' hW' => ?_) ?_; rotate_left; · (obtain ⟨⟨x0, x1, x2⟩, x3, x4, x5⟩ := box3 hW'.1; have y0 := hW'.2.1; have y1 := hW'.2.2; clear hW'; go_simp; first | done | with_reducible rfl)
          simp only [Act.put, List.setIfInBounds_toArray, List.set_cons_zero, List.set_cons_succ]
          refine takeC 1 (v := ?_) rfl (by kernel_rfl) (by kernel_rfl) (by kernel_rfl) (by kernel_rfl) (fun _ _ _ h => h) hF0_h.out (by rfl) (fun W' hW' => ?_) ?_; rotate_left; · (obtain ⟨⟨x0, x1, x2⟩, x3, x4, x5⟩ := box3 hW'.1; have y0 := hW'.2.1; have y1 := hW'.2.2; clear hW'; go_simp; first | done | with_reducible rfl)
          simp only [Act.put, List.setIfInBounds_toArray, List.set_cons_zero, List.set_cons_succ]
          refine takeC 2 (v := ?_) rfl (by kernel_rfl) (by kernel_rfl) (by kernel_rfl) (by kernel_rfl) (fun _ _ _ h => h) hF0_h.out (by rfl) (fun W' hW' => ?_) ?_; rotate_left; · (obtain ⟨⟨x0, x1, x2⟩, x3, x4, x5⟩ := box3 hW'.1; have y0 := hW'.2.1; have y1 := hW'.2.2; clear hW'; go_simp; first | done | with_reducible rfl)
          simp only [Act.put, List.setIfInBounds_toArray, List.set_cons_zero, List.set_cons_succ]
          refine takeC 3 (v := ?_) rfl (by kernel_rfl) (by kernel_rfl) (by kernel_rfl) (by kernel_rfl) (fun _ _ _ h => h) hF0_h.out (by rfl) (fun W' hW' => ?_) ?_; rotate_left; · (obtain ⟨⟨x0, x1, x2⟩, x3, x4, x5⟩ := box3 hW'.1; have y0 := hW'.2.1; have y1 := hW'.2.2; clear hW'; go_simp; first | done | with_reducible rfl)
          simp only [Act.put, List.setIfInBounds_toArray, List.set_cons_zero, List.set_cons_succ]
          refine takeC 4 (v := ?_) rfl (by kernel_rfl) (by kernel_rfl) (by kernel_rfl) (by kernel_rfl) (fun _ _ _ h => h) hF0_h.out (by rfl) (fun W' hW' => ?_) ?_; rotate_left; · (obtain ⟨⟨x0, x1, x2⟩, x3, x4, x5⟩ := box3 hW'.1; have y0 := hW'.2.1; have y1 := hW'.2.2; clear hW'; go_simp; first | done | with_reducible rfl)
          simp only [Act.put, List.setIfInBounds_toArray, List.set_cons_zero, List.set_cons_succ]
          refine takeC 5 (v := ?_) rfl (by kernel_rfl) (by kernel_rfl) (by kernel_rfl) (by kernel_rfl) (fun _ _ _ h => h) hF0_h.out (by rfl) (fun W' hW' => ?_) ?_; rotate_left; · (obtain ⟨⟨x0, x1, x2⟩, x3, x4, x5⟩ := box3 hW'.1; have y0 := hW'.2.1; have y1 := hW'.2.2; clear hW'; go_simp; first | done | with_reducible rfl)
          simp only [Act.put, List.setIfInBounds_toArray, List.set_cons_zero, List.set_cons_succ]
          refine takeC 6 (v := ?_) rfl (by kernel_rfl) (by kernel_rfl) (by kernel_rfl) (by kernel_rfl) (fun _ _ _ h => h) hF0_h.out (by rfl) (fun W' hW' => ?_) ?_; rotate_left; · (obtain ⟨⟨x0, x1, x2⟩, x3, x4, x5⟩ := box3 hW'.1; have y0 := hW'.2.1; have y1 := hW'.2.2; clear hW'; go_simp; first | done | with_reducible rfl)
          simp only [Act.put, List.setIfInBounds_toArray, List.set_cons_zero, List.set_cons_succ]
          refine takeC 7 (v := ?_) rfl (by kernel_rfl) (by kernel_rfl) (by kernel_rfl) (by kernel_rfl) (fun _ _ _ h => h) hF0_h.out (by rfl) (fun W' hW' => ?_) ?_; rotate_left; · (obtain ⟨⟨x0, x1, x2⟩, x3, x4, x5⟩ := box3 hW'.1; have y0 := hW'.2.1; have y1 := hW'.2.2; clear hW'; go_simp; first | done | with_reducible rfl)
          simp only [Act.put, List.setIfInBounds_toArray, List.set_cons_zero, List.set_cons_succ]
          refine takeC 8 (v := ?_) rfl (by kernel_rfl) (by kernel_rfl) (by kernel_rfl) (by kernel_rfl) (fun _ _ _ h => h) hF0_h.out (by rfl) (fun W' hW' => ?_) ?_; rotate_left; · (obtain ⟨⟨x0, x1, x2⟩, x3, x4, x5⟩ := box3 hW'.1; have y0 := hW'.2.1; have y1 := hW'.2.2; clear hW'; go_simp; first | done | with_reducible rfl)
          simp only [Act.put, List.setIfInBounds_toArray, List.set_cons_zero, List.set_cons_succ]
          refine takeC 9 (v := ?_) rfl (by kernel_rfl) (by kernel_rfl) (by kernel_rfl) (by kernel_rfl) (fun _ _ _ h => h) hF0_h.out (by rfl) (fun W' hW' => ?_) ?_; rotate_left; · (obtain ⟨⟨x0, x1, x2⟩, x3, x4, x5⟩ := box3 hW'.1; have y0 := hW'.2.1; have y1 := hW'.2.2; clear hW'; go_simp; first | done | with_reducible rfl)
          simp only [Act.put, List.setIfInBounds_toArray, List.set_cons_zero, List.set_cons_succ]
          refine takeC 10 (v := ?_) rfl (by kernel_rfl) (by kernel_rfl) (by kernel_rfl) (by kernel_rfl) (fun _ _ _ h => h) hF0_h.out (by rfl) (fun W' hW' => ?_) ?_; rotate_left; · (obtain ⟨⟨x0, x1, x2⟩, x3, x4, x5⟩ := box3 hW'.1; have y0 := hW'.2.1; have y1 := hW'.2.2; clear hW'; go_simp; first | done | with_reducible rfl)
          simp only [Act.put, List.setIfInBounds_toArray, List.set_cons_zero, List.set_cons_succ]
          refine takeC 11 (v := ?_) rfl (by kernel_rfl) (by kernel_rfl) (by kernel_rfl) (by kernel_rfl) (fun _ _ _ h => h) hF0_h.out (by rfl) (fun W' hW' => ?_) ?_; rotate_left; · (obtain ⟨⟨x0, x1, x2⟩, x3, x4, x5⟩ := box3 hW'.1; have y0 := hW'.2.1; have y1 := hW'.2.2; clear hW'; go_simp; first | done | with_reducible rfl)
          simp only [Act.put, List.setIfInBounds_toArray, List.set_cons_zero, List.set_cons_succ]
          refine takeC 12 (v := ?_) rfl (by kernel_rfl) (by kernel_rfl) (by kernel_rfl) (by kernel_rfl) (fun _ _ _ h => h) hF0_h.out (by rfl) (fun W' hW' => ?_) ?_; rotate_left; · (obtain ⟨⟨x0, x1, x2⟩, x3, x4, x5⟩ := box3 hW'.1; have y0 := hW'.2.1; have y1 := hW'.2.2; clear hW'; go_simp; first | done | with_reducible rfl)
          simp only [Act.put, List.setIfInBounds_toArray, List.set_cons_zero, List.set_cons_succ]
          have hal := below_alloc W1 (.cells #[.int .i64 xx] 3)
          have hF1 := And.intro (box_below hF0_h.out.1 hal) (And.intro ((hal.cell (World.block_lt_of_cell? _ _ hF0_h.out.2.1)).trans hF0_h.out.2.1) ((hal.cell (World.block_lt_of_cell? _ _ hF0_h.out.2.2)).trans hF0_h.out.2.2))
          have hfB2 := (hal.frozen (World.block_lt_of_cell? _ _ hF0_h.out.2.1)).trans hfB1_h.out
          have hsl : Sl (W1.alloc (.cells #[.int .i64 xx] 3)) 3 1 B q0 cB (ints R0) := by
            have := (hIB_h.out.below hbd_h.out).alloc (.cells #[.int .i64 xx] 3)
            rw [hlk_h.out] at this
            exact this
          have hba := below_trans hbd_h.out hal hbd_h.out.size
          have hF1_h := Lib.hid hF1
          have hfB2_h := Lib.hid hfB2
          have hsl_h := Lib.hid hsl
          have hal_h := Lib.hid hal
          have hba_h := Lib.hid hba
          clear hF1 hfB2 hsl hal hba
          refine oneZ 13 rfl (by kernel_rfl) (by rfl) (fun K hK => ?_)
          go_simp
          refine hK _ _ (fun _ => hF1_h.out) ?_
          clear hK K
          refine appZ 14 rfl (by kernel_rfl) (by rfl) _ _ _ rfl 3 Tryd.underlying33 info_int rfl (by omega) rfl hsl_h.out rfl (news := [.int .i64 xx]) rfl (Sl.rdc (Sl.laid W1 3 1 1 #[.int .i64 xx] (by unfold maxLen; omega) rfl)) (by intro u hu; simp at hu; subst hu; rfl) (by unfold maxLen; omega) (by omega) ?_
          intro A6 c6 w6 hsA6 hA6 hkA6 hrdA6
          clear hrdA6
          have hF2 := And.intro (box_keeps hF1_h.out.1 hkA6 (fun h => by have h3 := (hbk_h.out _ h).1; have := box_lt k0_h.out; omega)) (And.intro ((hkA6.cellK (World.block_lt_of_cell? _ _ hF1_h.out.2.1) (by rw [block_of_add]; exact fun h => (hbk_h.out _ h).2 rfl)).trans hF1_h.out.2.1) ((hkA6.cellK (World.block_lt_of_cell? _ _ hF1_h.out.2.2) (by rw [block_of_add]; exact fun h => by have := (hbk_h.out _ h).1; have := hul2_h.out; omega)).trans hF1_h.out.2.2))
          have hfB3 := (hkA6.frozenK (World.block_lt_of_cell? _ _ hF1_h.out.2.1) (by rw [block_of_add]; exact fun h => (hbk_h.out _ h).2 rfl)).trans hfB2_h.out
          have hI6 : IS w6 A6 c6 (R0 ++ [xx]) := by
            have e : ints (R0 ++ [xx]) = ints R0 ++ [.int .i64 xx] := by simp [ints]
            unfold IS
            rw [e, List.length_append, hlk_h.out]
            exact hsA6
          have hO6 := hOM_h.out.grow (i := j) (by rw [List.length_set, hbl_h.out]; exact hlt) rfl hcB hba_h.out hI6 (fun b hb => by
            rcases hA6 b hb with h | h
            · exact .inl h
            · exact .inr (by have := hba_h.out.size; omega)) hkA6
          rw [List.length_append, hlk_h.out, List.set_set, ← hL1k_h.out] at hO6
          clear hsA6 hA6 hkA6 hI6
          have hF2_h := Lib.hid hF2
          have hfB3_h := Lib.hid hfB3
          have hO6_h := Lib.hid hO6
          clear hF2 hfB3 hO6
          refine ⟨fun _ => hF2_h.out, ?_⟩
          simp only [Act.put, List.setIfInBounds_toArray, List.set_cons_zero, List.set_cons_succ]
          refine takeC 15 (v := ?_) rfl (by kernel_rfl) (by kernel_rfl) (by kernel_rfl) (by kernel_rfl) (fun _ _ _ h => h) hF2_h.out (by rfl) (fun W' hW' => ?_) ?_; rotate_left; · (skip; clear hW'; go_simp; first | done | with_reducible rfl)
          simp only [Act.put, List.setIfInBounds_toArray, List.set_cons_zero, List.set_cons_succ]
          have hz1 := hF2_h.out.2.1
          have hz2 := hfB3_h.out
          refine oneZ 16 rfl (by kernel_rfl) (by rfl) (fun K hK => ?_)
          go_simp
          refine hK _ _ (fun h => by cases h) ?_
          clear hK K
          clear hz1 hz2 hfB hcx hcu
          refine doneZ (by kernel_rfl) ?_
          go_wp2_with (fail)
          go_roundw
          case rel => exact ⟨k + 1, by omega, by go_num, hO6_h.out⟩
          case measure => simp [intOf]; omega
        · obtain rfl : ma = k := by omega
          have hst : OM W wo (some G) a2 (bs.set j (L1 ++ L2.take 0)) := by
            have := hOM
            rw [List.take_of_length_le (by rw [hL1l_h.out]; exact Nat.le_refl _)] at this
            rw [List.take_zero, List.append_nil]
            exact this
          have k0r := box_below k1_h.out hOM.below_
          obtain ⟨⟨c0, c1, c2⟩, f0, f1, f2⟩ := box3 k0r
          have k0r_h := Lib.hid k0r
          have hst_h := Lib.hid hst
          clear k0r hst
          clear hOM
          go_wp2_with (fail)
          clear c0 c1 c2 f0 f1 f2
          go_loopw [55] (fun i wr => ∃ (k : Nat), k ≤ mb ∧ i = .int .i64 k ∧ OM W wr (some G) a2 (bs.set j (L1 ++ L2.take k))) (fun i _ => mb - (intOf i).toNat)
          case atStart => exact ⟨0, Nat.zero_le _, rfl, hst_h.out⟩
          case round =>
            clear hst_h k0r_h
            obtain ⟨k, hk, rfl, hOM⟩ := hrel
            obtain ⟨wo, rfl⟩ : ∃ x, x = wr := ⟨_, rfl⟩
            have k0r := box_below k1_h.out hOM.below_
            by_cases hlt2 : k < mb
            · have hkI : (k : Int) < (mb : Int) := by omega
              obtain ⟨ad, C, d, u, rfl, hx, hcu, hrd⟩ := (hOb_h.out.below hOM.below_).rd.at_ (k := k) (by rw [← hmb_h.out]; exact hlt2)
              have hLu : Lb[k]? = some u := by rw [hLb_h.out, List.getElem?_map, hx]; rfl
              have hur := hmatb_h.out.row u (List.mem_of_getElem? hLu)
              have hul : u.length = n2 := hur.1
              have hqn : j < n2 := by have := hn2_h.out; omega
              obtain ⟨ud, x, rfl, hxx, hcx⟩ := hrd.at_ (j := j) (by rw [hul]; exact hqn)
              have hxb := hur.2 x (List.mem_of_getElem? hxx)
              obtain ⟨xx, hxe⟩ : ∃ y, y = -x % p := ⟨_, rfl⟩
              have hL1k : L1 ++ L2.take (k + 1) = L1 ++ L2.take k ++ [xx] := by
                rw [List.take_add_one, hL2_h.out, List.getElem?_map, hLu, List.append_assoc]
                show _ ++ (_ ++ [(-(u.getD j 0)) % p]) = _
                rw [List.getD_eq_getElem?_getD, hxx, hxe]; rfl
              obtain ⟨R0, hR0⟩ : ∃ R0, R0 = L1 ++ L2.take k := ⟨_, rfl⟩
              obtain ⟨q0, hq0⟩ : ∃ q0, q0 = ma + k := ⟨_, rfl⟩
              have hlk : R0.length = q0 := by rw [hR0, List.length_append, List.length_take, hL1l_h.out, hL2l_h.out, hq0]; omega
              rw [← hR0] at hL1k hOM
              have hNEG := fun (W' : World) => fdNeg_any p x W' (by have := hpbb_h.out; omega) hpbb_h.out.2 hxb.1 hxb.2
              simp only [← hxe] at hNEG
              have hq48 : q0 ≤ 48 := by omega
              obtain ⟨gd, B, cB, hGg, hcB, hfB, hIB⟩ := hOM.get (i := j) (by rw [List.length_set, hbl_h.out]; exact hlt)
              obtain rfl := Option.some.inj hGg
              have hgd : (bs.set j R0).getD j [] = R0 := getD_set_self (by rw [hbl_h.out]; exact hlt)
              rw [hgd, hlk] at hcB
              rw [hgd] at hIB
              rw [hul] at hcu
              have hqI : (j : Int) < (n2 : Int) := by omega
              have e1 : IntKind.i64.wrap (j : Int) = (j : Int) := IntWalk.i64_in _ (by omega)
              have hbk := hOM.rowfp (i := j) (by rw [List.length_set, hbl_h.out]; exact hlt) rfl hcB
              have hul2 : ud.block < W.heap.size := by
                obtain ⟨ud', x', hu', _, hc'⟩ := (hOb_h.out.rows _ (List.mem_of_getElem? hx)).rd.at_ (j := j) (by rw [hul]; exact hqn)
                obtain rfl := Option.some.inj hu'
                have h2 := World.block_lt_of_cell? W _ hc'
                rw [block_of_add] at h2
                exact h2
              clear hx hLu hrd hxx hgd hur hxb
              have hOM_h := Lib.hid hOM
              have hul_h := Lib.hid hul
              have hL1k_h := Lib.hid hL1k
              have hIB_h := Lib.hid hIB
              have hlk_h := Lib.hid hlk
              have hbk_h := Lib.hid hbk
              have k0r_h := Lib.hid k0r
              have hul2_h := Lib.hid hul2
              have hR0_h := Lib.hid hR0
              have hq0_h := Lib.hid hq0
              have hNEG_h := Lib.hid hNEG
              clear hOM hul hL1k hIB hlk hbk k0r hul2 hR0 hq0 hNEG
              have hxe_h := Lib.hid hxe
              clear hxe
              go_wp2_with (fail)
              refine beginZw 15 (fun w' => w'.heap[w.heap.size + 1]? = some (.cells #[.int .i64 (a2 : Int), .int .i64 (b2 : Int), .slice (some ad) mb cb] tRel) ∧ w'.cell? (G.add j) = some (.slice B q0 cB) ∧ w'.cell? (ud.add j) = some (.int .i64 x)) (by kernel_rfl) (fun W1 hW1 => ?_)
              have hbd : Below wo.heap.size wo W1 := by rw [hW1]; exact below_drewN (Below.refl _ _) 1
              clear hW1
              have hF0 := And.intro (box_below k0r_h.out hbd) (And.intro ((hbd.cell (World.block_lt_of_cell? _ _ hcB)).trans hcB) ((hbd.cell (World.block_lt_of_cell? _ _ hcx)).trans hcx))
              have hfB1 := (hbd.frozen (World.block_lt_of_cell? _ _ hcB)).trans hfB
              have hF0_h := Lib.hid hF0
              have hbd_h := Lib.hid hbd
              have hfB1_h := Lib.hid hfB1
              clear hF0 hbd hfB1
              refine takeC 0 (v := ?_) rfl (by kernel_rfl) (by kernel_rfl) (by kernel_rfl) (by kernel_rfl) (fun _ _ _ h => h) hF0_h.out (by rfl) (fun W' hW' => ?_) ?_; rotate_left; · (obtain ⟨⟨x0, x1, x2⟩, x3, x4, x5⟩ := box3 hW'.1; have y0 := hW'.2.1; have y1 := hW'.2.2; clear hW'; go_simp; first | done | with_reducible rfl)
              simp only [Act.put, List.setIfInBounds_toArray, List.set_cons_zero, List.set_cons_succ]
              refine takeC 1 (v := ?_) rfl (by kernel_rfl) (by kernel_rfl) (by kernel_rfl) (by kernel_rfl) (fun _ _ _ h => h) hF0_h.out (by rfl) (fun W' hW' => ?_) ?_; rotate_left; · (obtain ⟨⟨x0, x1, x2⟩, x3, x4, x5⟩ := box3 hW'.1; have y0 := hW'.2.1; have y1 := hW'.2.2; clear hW'; go_simp; first | done | with_reducible rfl)
              simp only [Act.put, List.setIfInBounds_toArray, List.set_cons_zero, List.set_cons_succ]
              refine takeC 2 (v := ?_) rfl (by kernel_rfl) (by kernel_rfl) (by kernel_rfl) (by kernel_rfl) (fun _ _ _ h => h) hF0_h.out (by rfl) (fun W' hW' => ?_) ?_; rotate_left; · (obtain ⟨⟨x0, x1, x2⟩, x3, x4, x5⟩ := box3 hW'.1; have y0 := hW'.2.1; have y1 := hW'.2.2; clear hW'; go_simp; first | done | with_reducible rfl)
              simp only [Act.put, List.setIfInBounds_toArray, List.set_cons_zero, List.set_cons_succ]
              refine takeC 3 (v := ?_) rfl (by kernel_rfl) (by kernel_rfl) (by kernel_rfl) (by kernel_rfl) (fun _ _ _ h => h) hF0_h.out (by rfl) (fun W' hW' => ?_) ?_; rotate_left; · (obtain ⟨⟨x0, x1, x2⟩, x3, x4, x5⟩ := box3 hW'.1; have y0 := hW'.2.1; have y1 := hW'.2.2; clear hW'; go_simp; first | done | with_reducible rfl)
              simp only [Act.put, List.setIfInBounds_toArray, List.set_cons_zero, List.set_cons_succ]
              refine takeC 4 (v := ?_) rfl (by kernel_rfl) (by kernel_rfl) (by kernel_rfl) (by kernel_rfl) (fun _ _ _ h => h) hF0_h.out (by rfl) (fun W' hW' => ?_) ?_; rotate_left; · (obtain ⟨⟨x0, x1, x2⟩, x3, x4, x5⟩ := box3 hW'.1; have y0 := hW'.2.1; have y1 := hW'.2.2; clear hW'; go_simp; first | done | with_reducible rfl)
              simp only [Act.put, List.setIfInBounds_toArray, List.set_cons_zero, List.set_cons_succ]
              refine takeC 5 (v := ?_) rfl (by kernel_rfl) (by kernel_rfl) (by kernel_rfl) (by kernel_rfl) (fun _ _ _ h => h) hF0_h.out (by rfl) (fun W' hW' => ?_) ?_; rotate_left; · (obtain ⟨⟨x0, x1, x2⟩, x3, x4, x5⟩ := box3 hW'.1; have y0 := hW'.2.1; have y1 := hW'.2.2; clear hW'; go_simp; first | done | with_reducible rfl)
              simp only [Act.put, List.setIfInBounds_toArray, List.set_cons_zero, List.set_cons_succ]
              refine takeC 6 (v := ?_) rfl (by kernel_rfl) (by kernel_rfl) (by kernel_rfl) (by kernel_rfl) (fun _ _ _ h => h) hF0_h.out (by rfl) (fun W' hW' => ?_) ?_; rotate_left; · (obtain ⟨⟨x0, x1, x2⟩, x3, x4, x5⟩ := box3 hW'.1; have y0 := hW'.2.1; have y1 := hW'.2.2; clear hW'; go_simp; first | done | with_reducible rfl)
              simp only [Act.put, List.setIfInBounds_toArray, List.set_cons_zero, List.set_cons_succ]
              refine takeC 7 (v := ?_) rfl (by kernel_rfl) (by kernel_rfl) (by kernel_rfl) (by kernel_rfl) (fun _ _ _ h => h) hF0_h.out (by rfl) (fun W' hW' => ?_) ?_; rotate_left; · (obtain ⟨⟨x0, x1, x2⟩, x3, x4, x5⟩ := box3 hW'.1; have y0 := hW'.2.1; have y1 := hW'.2.2; clear hW'; go_simp; first | done | with_reducible rfl)
              simp only [Act.put, List.setIfInBounds_toArray, List.set_cons_zero, List.set_cons_succ]
              refine takeC 8 (v := ?_) rfl (by kernel_rfl) (by kernel_rfl) (by kernel_rfl) (by kernel_rfl) (fun _ _ _ h => h) hF0_h.out (by rfl) (fun W' hW' => ?_) ?_; rotate_left; · (obtain ⟨⟨x0, x1, x2⟩, x3, x4, x5⟩ := box3 hW'.1; have y0 := hW'.2.1; have y1 := hW'.2.2; clear hW'; go_simp; first | done | with_reducible rfl)
              simp only [Act.put, List.setIfInBounds_toArray, List.set_cons_zero, List.set_cons_succ]
              refine takeC 9 (v := ?_) rfl (by kernel_rfl) (by kernel_rfl) (by kernel_rfl) (by kernel_rfl) (fun _ _ _ h => h) hF0_h.out (by rfl) (fun W' hW' => ?_) ?_; rotate_left; · (obtain ⟨⟨x0, x1, x2⟩, x3, x4, x5⟩ := box3 hW'.1; have y0 := hW'.2.1; have y1 := hW'.2.2; clear hW'; go_simp; first | done | with_reducible rfl)
              simp only [Act.put, List.setIfInBounds_toArray, List.set_cons_zero, List.set_cons_succ]
              refine takeC 10 (v := ?_) rfl (by kernel_rfl) (by kernel_rfl) (by kernel_rfl) (by kernel_rfl) (fun _ _ _ h => h) hF0_h.out (by rfl) (fun W' hW' => ?_) ?_; rotate_left; · (obtain ⟨⟨x0, x1, x2⟩, x3, x4, x5⟩ := box3 hW'.1; have y0 := hW'.2.1; have y1 := hW'.2.2; clear hW'; go_simp; first | done | with_reducible rfl)
              simp only [Act.put, List.setIfInBounds_toArray, List.set_cons_zero, List.set_cons_succ]
              refine callZ 11 (f := ?f1) (args := ?args1) rfl (by kernel_rfl) (by rfl) ?hrun1 ?hcall1
              case hrun1 => (go_simp; first | done | with_reducible rfl | (constructor <;> with_reducible rfl))
              case hcall1 =>
                refine (hNEG_h.out _).mono ?_
                rintro e w' ⟨rfl, rfl⟩
                refine ⟨_, rfl, fun _ => hF0_h.out, ?_⟩
                simp only [Act.put, List.setIfInBounds_toArray, List.set_cons_zero, List.set_cons_succ]
                have hal := below_alloc W1 (.cells #[.int .i64 xx] 3)
                have hF1 := And.intro (box_below hF0_h.out.1 hal) (And.intro ((hal.cell (World.block_lt_of_cell? _ _ hF0_h.out.2.1)).trans hF0_h.out.2.1) ((hal.cell (World.block_lt_of_cell? _ _ hF0_h.out.2.2)).trans hF0_h.out.2.2))
                have hfB2 := (hal.frozen (World.block_lt_of_cell? _ _ hF0_h.out.2.1)).trans hfB1_h.out
                have hsl : Sl (W1.alloc (.cells #[.int .i64 xx] 3)) 3 1 B q0 cB (ints R0) := by
                  have := (hIB_h.out.below hbd_h.out).alloc (.cells #[.int .i64 xx] 3)
                  rw [hlk_h.out] at this
                  exact this
                have hba := below_trans hbd_h.out hal hbd_h.out.size
                have hF1_h := Lib.hid hF1
                have hfB2_h := Lib.hid hfB2
                have hsl_h := Lib.hid hsl
                have hal_h := Lib.hid hal
                have hba_h := Lib.hid hba
                clear hF1 hfB2 hsl hal hba
                refine oneZ 12 rfl (by kernel_rfl) (by rfl) (fun K hK => ?_)
                go_simp
                refine hK _ _ (fun _ => hF1_h.out) ?_
                clear hK K
                refine appZ 13 rfl (by kernel_rfl) (by rfl) _ _ _ rfl 3 Tryd.underlying33 info_int rfl (by omega) rfl hsl_h.out rfl (news := [.int .i64 xx]) rfl (Sl.rdc (Sl.laid W1 3 1 1 #[.int .i64 xx] (by unfold maxLen; omega) rfl)) (by intro u hu; simp at hu; subst hu; rfl) (by unfold maxLen; omega) (by omega) ?_
                intro A6 c6 w6 hsA6 hA6 hkA6 hrdA6
                clear hrdA6
                have hF2 := And.intro (box_keeps hF1_h.out.1 hkA6 (fun h => by have h3 := (hbk_h.out _ h).1; have := box_lt k1_h.out; omega)) (And.intro ((hkA6.cellK (World.block_lt_of_cell? _ _ hF1_h.out.2.1) (by rw [block_of_add]; exact fun h => (hbk_h.out _ h).2 rfl)).trans hF1_h.out.2.1) ((hkA6.cellK (World.block_lt_of_cell? _ _ hF1_h.out.2.2) (by rw [block_of_add]; exact fun h => by have := (hbk_h.out _ h).1; have := hul2_h.out; omega)).trans hF1_h.out.2.2))
                have hfB3 := (hkA6.frozenK (World.block_lt_of_cell? _ _ hF1_h.out.2.1) (by rw [block_of_add]; exact fun h => (hbk_h.out _ h).2 rfl)).trans hfB2_h.out
                have hI6 : IS w6 A6 c6 (R0 ++ [xx]) := by
                  have e : ints (R0 ++ [xx]) = ints R0 ++ [.int .i64 xx] := by simp [ints]
                  unfold IS
                  rw [e, List.length_append, hlk_h.out]
                  exact hsA6
                have hO6 := hOM_h.out.grow (i := j) (by rw [List.length_set, hbl_h.out]; exact hlt) rfl hcB hba_h.out hI6 (fun b hb => by
                  rcases hA6 b hb with h | h
                  · exact .inl h
                  · exact .inr (by have := hba_h.out.size; omega)) hkA6
                rw [List.length_append, hlk_h.out, List.set_set, ← hL1k_h.out] at hO6
                clear hsA6 hA6 hkA6 hI6
                have hF2_h := Lib.hid hF2
                have hfB3_h := Lib.hid hfB3
                have hO6_h := Lib.hid hO6
                clear hF2 hfB3 hO6
                refine ⟨fun _ => hF2_h.out, ?_⟩
                simp only [Act.put, List.setIfInBounds_toArray, List.set_cons_zero, List.set_cons_succ]
                refine takeC 14 (v := ?_) rfl (by kernel_rfl) (by kernel_rfl) (by kernel_rfl) (by kernel_rfl) (fun _ _ _ h => h) hF2_h.out (by rfl) (fun W' hW' => ?_) ?_; rotate_left; · (skip; clear hW'; go_simp; first | done | with_reducible rfl)
                simp only [Act.put, List.setIfInBounds_toArray, List.set_cons_zero, List.set_cons_succ]
                have hz1 := hF2_h.out.2.1
                have hz2 := hfB3_h.out
                refine oneZ 15 rfl (by kernel_rfl) (by rfl) (fun K hK => ?_)
                go_simp
                refine hK _ _ (fun h => by cases h) ?_
                clear hK K
                clear hz1 hz2 hfB hcx hcu
                refine doneZ (by kernel_rfl) ?_
                go_wp2_with (fail)
                go_roundw
                case rel => exact ⟨k + 1, by omega, by go_num, hO6_h.out⟩
                case measure => simp [intOf]; omega
            · obtain rfl : mb = k := by omega
              have hO2 : OM W wo (some G) a2 (X.take (j + 1) ++ (List.replicate a2 []).drop (j + 1)) := by
                have := hOM
                rw [List.take_of_length_le (by rw [hL2l_h.out]; exact Nat.le_refl _), hfin_h.out] at this
                exact this
              clear hOM k0r
              have hO2_h := Lib.hid hO2
              clear hO2
              go_wp2_with (fail)
              go_roundw
              case rel => exact ⟨j + 1, by omega, by go_num, hO2_h.out⟩
              case measure => simp [intOf]; omega
    · obtain rfl : a2 = j := by omega
      have hO2 : OM W wr (some G) a2 X := by
        have := hOM
        rwa [List.take_of_length_le (by rw [hXl_h.out]; exact Nat.le_refl _), List.drop_of_length_le (by simp), List.append_nil] at this
      clear hOM
      obtain ⟨hsX, hLX, hRX⟩ := hO2.rdr
      have hbw := hO2.below_
      have hXl2 : hsX.length = a2 := by rw [← hXl_h.out, hLX, List.length_map]
      have hC := spNull_any p M (some G) a2 hsX wr hRX hfld_h.out (by rw [← hLX, hXl2]; exact hXm_h.out) (by omega) (by omega)
      rw [hXl2, ← hLX, hnull_h.out] at hC
      have k0r := box_below k0_h.out hbw
      have k1r := box_below k1_h.out hbw
      obtain ⟨⟨c0, c1, c2⟩, f0, f1, f2⟩ := box3 k0r
      obtain ⟨⟨d0, d1, d2⟩, g0, g1, g2⟩ := box3 k1r
      have hMI := hMI_h.out
      have eM : IntKind.i64.wrap (M : Int) = (M : Int) := IntWalk.i64_in _ (by omega)
      clear hO2 hLX hRX hXl2
      have hC_h := Lib.hid hC
      have hbw_h := Lib.hid hbw
      have k0r_h := Lib.hid k0r
      have k1r_h := Lib.hid k1r
      clear hC hbw k0r k1r
      go_wp2_with (fail)
      clear c0 c1 c2 f0 f1 f2 d0 d1 d2 g0 g1 g2 hMI eM
      refine (hC_h.out).mono ?_
      rintro e w3 hret
      obtain ⟨A5, c5, rfl, hK5⟩ := hret.om
      obtain ⟨kk, hkk⟩ : ∃ kk, kk = K.length := ⟨_, rfl⟩
      rw [← hkk]
      have hk48 : kk ≤ 48 := by rw [hkk]; have := hKm_h.out.1; omega
      have hbw3 := below_trans hbw_h.out hK5.below_ hbw_h.out.size
      have hN0 := RdO.nil w3 w3 (Below.refl _ _)
      clear hret
      have hK5_h := Lib.hid hK5
      have hkk_h := Lib.hid hkk
      have hbw3_h := Lib.hid hbw3
      have hN0_h := Lib.hid hN0
      clear hK5 hkk hbw3 hN0
      go_wp2_with (fail)
      go_loopw [87, 14] (fun i v wr => ∃ (k : Nat) (A' : Option Addr) (c' : Nat) (ys : List Hd) (q : Nat), k ≤ kk ∧ i = .int .i64 k ∧ q = k ∧ v = .slice A' q c' ∧ ys.length = q ∧ ys.map (fun h : Hd => h.2.2) = (K.take k).map g ∧ RdO w3 wr A' c' ys) (fun i _ _ => kk - (intOf i).toNat)
      case atStart => exact ⟨0, none, 0, [], 0, Nat.zero_le _, rfl, rfl, rfl, rfl, rfl, hN0_h.out⟩
      case round =>
        clear hN0_h
        obtain ⟨k, A', c', ys, q0, hk, rfl, hq0, rfl, hyl, hym, hO⟩ := hrel
        obtain ⟨wo, rfl⟩ : ∃ x, x = wr := ⟨_, rfl⟩
        have hbo := below_trans hbw3_h.out hO.below_ hbw3_h.out.size
        have k0r := box_below k0_h.out hbo
        have k1r := box_below k1_h.out hbo
        by_cases hlt : k < kk
        · have hkI : (k : Int) < (kk : Int) := by omega
          have hq48 : q0 ≤ 48 := by omega
          obtain ⟨ad, B, d, hA5, hcu, hfu, hI⟩ := (hK5_h.out.below hO.below_).get (i := k) (by rw [← hkk_h.out]; exact hlt)
          subst hA5
          have hKk : K[k]? = some (K.getD k []) := getElem?_getD (by rw [← hkk_h.out]; exact hlt)
          obtain ⟨u, hu⟩ : ∃ u, u = K.getD k [] := ⟨_, rfl⟩
          rw [← hu] at hcu hI hKk
          have hur := hKm_h.out.2.row u (List.mem_of_getElem? hKk)
          have hul := hur.1
          rw [hul] at hcu
          obtain ⟨B1, hr1, hI1, hf1⟩ := take_sl hI hul (k := ma) (by rw [hM_h.out]; omega)
          obtain ⟨B2, e2, hr2, hI2, hf2⟩ := drop_sl (r := mb) hI hul (by rw [hM_h.out])
          have hl1 : (u.take ma).length = ma := by rw [List.length_take, hul, hM_h.out]; omega
          have hl2 : (u.drop ma).length = mb := by rw [List.length_drop, hul, hM_h.out]; omega
          have hres1 : Res p (u.take ma) := fun x hx => hur.2 x (List.mem_of_mem_take hx)
          have hres2 : Res p (u.drop ma) := fun x hx => hur.2 x (List.mem_of_mem_drop hx)
          have hS1 := fun (W' : World) (hb : Below wo.heap.size wo W') => spSum_any p n1 ma Aa B1 ca d ga (u.take ma) La W' (((hOa_h.out.below hbo).below hb).rd) hLa_h.out.symm hLma_h.out ((hI1.below hb).rd) hl1 hres1 hmata_h.out (by have := hpbb_h.out; omega) hpbb_h.out.2 (by omega) (by have := hn1_h.out; omega)
          have hS2 := fun (W' : World) (hb : Below wo.heap.size wo W') => spSum_any p n2 mb Ab B2 cb e2 gb (u.drop ma) Lb W' (((hOb_h.out.below hbo).below hb).rd) hLb_h.out.symm hLmb_h.out ((hI2.below hb).rd) hl2 hres2 hmatb_h.out (by have := hpbb_h.out; omega) hpbb_h.out.2 (by omega) (by have := hn2_h.out; omega)
          obtain ⟨x, hx⟩ : ∃ x, x = cmbTo p n1 (u.take ma) La ma := ⟨_, rfl⟩
          obtain ⟨z, hz⟩ : ∃ z, z = cmbTo p n2 (u.drop ma) Lb mb := ⟨_, rfl⟩
          have hxl : x.length = n1 := by rw [hx]; exact cmbTo_length _ _ _ _ _
          have hzl : z.length = n2 := by rw [hz]; exact cmbTo_length _ _ _ _ _
          have hgu : x.take a1 ++ z.drop a2 = g u := by rw [hx, hz]; exact hpr_h.out u
          simp only [← hx] at hS1
          simp only [← hz] at hS2
          have hKt : (K.take (k + 1)).map g = (K.take k).map g ++ [g u] := by rw [List.take_add_one, hKk, List.map_append]; rfl
          have hbS : Below wo.heap.size wo wo.drew := below_drewN (Below.refl _ _) 1
          have hn1I := hn1I_h.out
          have hn2I := hn2I_h.out
          have en1 : IntKind.i64.wrap (n1 : Int) = (n1 : Int) := IntWalk.i64_in _ (by have := hn1_h.out; omega)
          have en2 : IntKind.i64.wrap (n2 : Int) = (n2 : Int) := IntWalk.i64_in _ (by have := hn2_h.out; omega)
          clear hI1 hI2 hres1 hres2 hl1 hl2 hI hur hul hx hz hf1 hf2 hKk hu hfu
          have hyl_h := Lib.hid hyl
          have hym_h := Lib.hid hym
          have hO_h := Lib.hid hO
          have hbo_h := Lib.hid hbo
          have k0r_h := Lib.hid k0r
          have k1r_h := Lib.hid k1r
          have hS1_h := Lib.hid hS1
          have hS2_h := Lib.hid hS2
          have hxl_h := Lib.hid hxl
          have hzl_h := Lib.hid hzl
          have hgu_h := Lib.hid hgu
          have hKt_h := Lib.hid hKt
          have hr1_h := Lib.hid hr1
          have hr2_h := Lib.hid hr2
          have hq0_h := Lib.hid hq0
          have hbS_h := Lib.hid hbS
          clear hyl hym hO hbo k0r k1r hS1 hS2 hxl hzl hgu hKt hr1 hr2 hq0 hbS
          go_wp2_with (fail)
          refine beginH (fun w' => w'.heap[w.heap.size]? = some (.cells #[.int .i64 (a1 : Int), .int .i64 (a2 : Int), .slice Aa ma ca] tRel)) (by kernel_rfl) ?_
          clear hcu
          replace k0r_h := Lib.hid (box_below k0r_h.out hbS_h.out)
          refine takeH 0 (v := ?_) rfl (by kernel_rfl) (by kernel_rfl) (by kernel_rfl) (fun _ _ _ h => h) k0r_h.out (by rfl) (fun W' hW' => ?_) ?_; rotate_left; · (obtain ⟨⟨y0, y1, y2⟩, y3, y4, y5⟩ := box3 hW'; clear hW'; go_simp; first | done | with_reducible rfl)
          simp only [Act.put, List.setIfInBounds_toArray, List.set_cons_zero, List.set_cons_succ]
          refine takeH 1 (v := ?_) rfl (by kernel_rfl) (by kernel_rfl) (by kernel_rfl) (fun _ _ _ h => h) k0r_h.out (by rfl) (fun W' hW' => ?_) ?_; rotate_left; · (obtain ⟨⟨y0, y1, y2⟩, y3, y4, y5⟩ := box3 hW'; clear hW'; go_simp; first | done | with_reducible rfl)
          simp only [Act.put, List.setIfInBounds_toArray, List.set_cons_zero, List.set_cons_succ]
          refine takeH 2 (v := ?_) rfl (by kernel_rfl) (by kernel_rfl) (by kernel_rfl) (fun _ _ _ h => h) k0r_h.out (by rfl) (fun W' hW' => ?_) ?_; rotate_left; · (obtain ⟨⟨y0, y1, y2⟩, y3, y4, y5⟩ := box3 hW'; clear hW'; go_simp; first | done | with_reducible rfl)
          simp only [Act.put, List.setIfInBounds_toArray, List.set_cons_zero, List.set_cons_succ]
          refine takeH 3 (v := ?_) rfl (by kernel_rfl) (by kernel_rfl) (by kernel_rfl) (fun _ _ _ h => h) k0r_h.out (by rfl) (fun W' hW' => ?_) ?_; rotate_left; · (obtain ⟨⟨y0, y1, y2⟩, y3, y4, y5⟩ := box3 hW'; clear hW'; go_simp; first | done | with_reducible rfl)
          simp only [Act.put, List.setIfInBounds_toArray, List.set_cons_zero, List.set_cons_succ]
          refine takeH 4 (v := ?_) rfl (by kernel_rfl) (by kernel_rfl) (by kernel_rfl) (fun _ _ _ h => h) k0r_h.out (by rfl) (fun W' hW' => ?_) ?_; rotate_left; · (obtain ⟨⟨y0, y1, y2⟩, y3, y4, y5⟩ := box3 hW'; clear hW'; go_simp; first | done | with_reducible rfl)
          simp only [Act.put, List.setIfInBounds_toArray, List.set_cons_zero, List.set_cons_succ]
          refine takeH 5 (v := ?_) rfl (by kernel_rfl) (by kernel_rfl) (by kernel_rfl) (fun _ _ _ h => h) k0r_h.out (by rfl) (fun W' hW' => ?_) ?_; rotate_left; · (obtain ⟨⟨y0, y1, y2⟩, y3, y4, y5⟩ := box3 hW'; clear hW'; go_simp; first | done | with_reducible rfl)
          simp only [Act.put, List.setIfInBounds_toArray, List.set_cons_zero, List.set_cons_succ]
          refine takeH 6 (v := ?_) rfl (by kernel_rfl) (by kernel_rfl) (by kernel_rfl) (fun _ _ _ h => h) k0r_h.out (by rfl) (fun W' hW' => ?_) ?_; rotate_left; · (obtain ⟨⟨y0, y1, y2⟩, y3, y4, y5⟩ := box3 hW'; clear hW'; go_simp; first | done | with_reducible rfl)
          simp only [Act.put, List.setIfInBounds_toArray, List.set_cons_zero, List.set_cons_succ]
          refine takeH 7 (v := ?_) rfl (by kernel_rfl) (by kernel_rfl) (by kernel_rfl) (fun _ _ _ h => h) k0r_h.out (by rfl) (fun W' hW' => ?_) ?_; rotate_left; · (obtain ⟨⟨y0, y1, y2⟩, y3, y4, y5⟩ := box3 hW'; clear hW'; go_simp; first | done | with_reducible rfl)
          simp only [Act.put, List.setIfInBounds_toArray, List.set_cons_zero, List.set_cons_succ]
          refine takeH 8 (v := ?_) rfl (by kernel_rfl) (by kernel_rfl) (by kernel_rfl) (fun _ _ _ h => h) k0r_h.out (by rfl) (fun W' hW' => ?_) ?_; rotate_left; · (obtain ⟨⟨y0, y1, y2⟩, y3, y4, y5⟩ := box3 hW'; clear hW'; go_simp; first | done | with_reducible rfl)
          simp only [Act.put, List.setIfInBounds_toArray, List.set_cons_zero, List.set_cons_succ]
          refine takeH 9 (v := ?_) rfl (by kernel_rfl) (by kernel_rfl) (by kernel_rfl) (fun _ _ _ h => h) k0r_h.out (by rfl) (fun W' hW' => ?_) ?_; rotate_left; · (obtain ⟨⟨y0, y1, y2⟩, y3, y4, y5⟩ := box3 hW'; clear hW'; go_simp; first | done | with_reducible rfl)
          simp only [Act.put, List.setIfInBounds_toArray, List.set_cons_zero, List.set_cons_succ]
          refine takeH 10 (v := ?_) rfl (by kernel_rfl) (by kernel_rfl) (by kernel_rfl) (fun _ _ _ h => h) k0r_h.out (by rfl) (fun W' hW' => ?_) ?_; rotate_left; · (obtain ⟨⟨y0, y1, y2⟩, y3, y4, y5⟩ := box3 hW'; clear hW'; go_simp; first | done | with_reducible rfl)
          simp only [Act.put, List.setIfInBounds_toArray, List.set_cons_zero, List.set_cons_succ]
          refine takeH 11 (v := .slice B1 ma d) rfl (by kernel_rfl) (by kernel_rfl) (by kernel_rfl) (fun _ _ _ h => h) k0r_h.out (by rfl) (fun W' _ => xop_sliceW rfl (hr1_h.out W')) ?_
          simp only [Act.put, List.setIfInBounds_toArray, List.set_cons_zero, List.set_cons_succ]
          refine' callH 12 (f := _) (args := _) rfl (by kernel_rfl) (by rfl) ?_ ?_; rotate_left 2; · (go_simp; first | done | with_reducible rfl | (constructor <;> with_reducible rfl))
          refine (hS1_h.out _ hbS_h.out).mono ?_
          rintro e w4 ⟨Ax, cx, rfl, hix, hfx, hbx⟩
          rw [hxl_h.out]
          replace k0r_h := Lib.hid (box_below k0r_h.out hbx)
          have hb4 := below_trans hbS_h.out hbx hbS_h.out.size
          have hfx2 : Fresh wo.heap.size Ax := fun b hb => Nat.le_trans hbS_h.out.size (hfx b hb)
          refine ⟨_, rfl, k0r_h.out, ?_⟩
          simp only [Act.put, List.setIfInBounds_toArray, List.set_cons_zero, List.set_cons_succ]
          have hix_h := Lib.hid hix
          have hfx_h := Lib.hid hfx
          have hbx_h := Lib.hid hbx
          have hb4_h := Lib.hid hb4
          have hfx2_h := Lib.hid hfx2
          clear hix hfx hbx hb4 hfx2
          refine takeH 13 (v := ?_) rfl (by kernel_rfl) (by kernel_rfl) (by kernel_rfl) (fun _ _ _ h => h) k0r_h.out (by rfl) (fun W' hW' => ?_) ?_; rotate_left; · (skip; clear hW'; go_simp; first | done | with_reducible rfl)
          simp only [Act.put, List.setIfInBounds_toArray, List.set_cons_zero, List.set_cons_succ]
          refine doneH (by kernel_rfl) ?_
          have k1q := box_below k1r_h.out hb4_h.out
          have hbd4 : Below w4.heap.size w4 w4.drew := below_drewN (Below.refl _ _) 1
          have hb5 := below_trans hb4_h.out hbd4 hb4_h.out.size
          have k1q_h := Lib.hid k1q
          have hbd4_h := Lib.hid hbd4
          have hb5_h := Lib.hid hb5
          clear k1q hbd4 hb5
          go_wp2_with (fail)
          refine beginH (fun w' => w'.heap[w.heap.size]? = some (.cells #[.int .i64 (a1 : Int), .int .i64 (a2 : Int), .slice Aa ma ca] tRel) ∧ w'.heap[w.heap.size + 1]? = some (.cells #[.int .i64 (a2 : Int), .int .i64 (b2 : Int), .slice Ab mb cb] tRel)) (by kernel_rfl) ?_
          replace k0r_h := Lib.hid (box_below k0r_h.out hbd4_h.out)
          replace k1q_h := Lib.hid (box_below k1q_h.out hbd4_h.out)
          refine takeH 0 (v := ?_) rfl (by kernel_rfl) (by kernel_rfl) (by kernel_rfl) (fun _ _ _ h => h) ⟨k0r_h.out, k1q_h.out⟩ (by rfl) (fun W' hW' => ?_) ?_; rotate_left; · (obtain ⟨⟨y0, y1, y2⟩, y3, y4, y5⟩ := box3 hW'.1; obtain ⟨⟨x0, x1, x2⟩, x3, x4, x5⟩ := box3 hW'.2; clear hW'; go_simp; first | done | with_reducible rfl)
          simp only [Act.put, List.setIfInBounds_toArray, List.set_cons_zero, List.set_cons_succ]
          refine takeH 1 (v := ?_) rfl (by kernel_rfl) (by kernel_rfl) (by kernel_rfl) (fun _ _ _ h => h) ⟨k0r_h.out, k1q_h.out⟩ (by rfl) (fun W' hW' => ?_) ?_; rotate_left; · (obtain ⟨⟨y0, y1, y2⟩, y3, y4, y5⟩ := box3 hW'.1; obtain ⟨⟨x0, x1, x2⟩, x3, x4, x5⟩ := box3 hW'.2; clear hW'; go_simp; first | done | with_reducible rfl)
          simp only [Act.put, List.setIfInBounds_toArray, List.set_cons_zero, List.set_cons_succ]
          refine takeH 2 (v := ?_) rfl (by kernel_rfl) (by kernel_rfl) (by kernel_rfl) (fun _ _ _ h => h) ⟨k0r_h.out, k1q_h.out⟩ (by rfl) (fun W' hW' => ?_) ?_; rotate_left; · (obtain ⟨⟨y0, y1, y2⟩, y3, y4, y5⟩ := box3 hW'.1; obtain ⟨⟨x0, x1, x2⟩, x3, x4, x5⟩ := box3 hW'.2; clear hW'; go_simp; first | done | with_reducible rfl)
          simp only [Act.put, List.setIfInBounds_toArray, List.set_cons_zero, List.set_cons_succ]
          refine takeH 3 (v := ?_) rfl (by kernel_rfl) (by kernel_rfl) (by kernel_rfl) (fun _ _ _ h => h) ⟨k0r_h.out, k1q_h.out⟩ (by rfl) (fun W' hW' => ?_) ?_; rotate_left; · (obtain ⟨⟨y0, y1, y2⟩, y3, y4, y5⟩ := box3 hW'.1; obtain ⟨⟨x0, x1, x2⟩, x3, x4, x5⟩ := box3 hW'.2; clear hW'; go_simp; first | done | with_reducible rfl)
          simp only [Act.put, List.setIfInBounds_toArray, List.set_cons_zero, List.set_cons_succ]
          refine takeH 4 (v := ?_) rfl (by kernel_rfl) (by kernel_rfl) (by kernel_rfl) (fun _ _ _ h => h) ⟨k0r_h.out, k1q_h.out⟩ (by rfl) (fun W' hW' => ?_) ?_; rotate_left; · (obtain ⟨⟨y0, y1, y2⟩, y3, y4, y5⟩ := box3 hW'.1; obtain ⟨⟨x0, x1, x2⟩, x3, x4, x5⟩ := box3 hW'.2; clear hW'; go_simp; first | done | with_reducible rfl)
          simp only [Act.put, List.setIfInBounds_toArray, List.set_cons_zero, List.set_cons_succ]
          refine takeH 5 (v := ?_) rfl (by kernel_rfl) (by kernel_rfl) (by kernel_rfl) (fun _ _ _ h => h) ⟨k0r_h.out, k1q_h.out⟩ (by rfl) (fun W' hW' => ?_) ?_; rotate_left; · (obtain ⟨⟨y0, y1, y2⟩, y3, y4, y5⟩ := box3 hW'.1; obtain ⟨⟨x0, x1, x2⟩, x3, x4, x5⟩ := box3 hW'.2; clear hW'; go_simp; first | done | with_reducible rfl)
          simp only [Act.put, List.setIfInBounds_toArray, List.set_cons_zero, List.set_cons_succ]
          refine takeH 6 (v := ?_) rfl (by kernel_rfl) (by kernel_rfl) (by kernel_rfl) (fun _ _ _ h => h) ⟨k0r_h.out, k1q_h.out⟩ (by rfl) (fun W' hW' => ?_) ?_; rotate_left; · (obtain ⟨⟨y0, y1, y2⟩, y3, y4, y5⟩ := box3 hW'.1; obtain ⟨⟨x0, x1, x2⟩, x3, x4, x5⟩ := box3 hW'.2; clear hW'; go_simp; first | done | with_reducible rfl)
          simp only [Act.put, List.setIfInBounds_toArray, List.set_cons_zero, List.set_cons_succ]
          refine takeH 7 (v := ?_) rfl (by kernel_rfl) (by kernel_rfl) (by kernel_rfl) (fun _ _ _ h => h) ⟨k0r_h.out, k1q_h.out⟩ (by rfl) (fun W' hW' => ?_) ?_; rotate_left; · (obtain ⟨⟨y0, y1, y2⟩, y3, y4, y5⟩ := box3 hW'.1; obtain ⟨⟨x0, x1, x2⟩, x3, x4, x5⟩ := box3 hW'.2; clear hW'; go_simp; first | done | with_reducible rfl)
          simp only [Act.put, List.setIfInBounds_toArray, List.set_cons_zero, List.set_cons_succ]
          refine takeH 8 (v := ?_) rfl (by kernel_rfl) (by kernel_rfl) (by kernel_rfl) (fun _ _ _ h => h) ⟨k0r_h.out, k1q_h.out⟩ (by rfl) (fun W' hW' => ?_) ?_; rotate_left; · (obtain ⟨⟨y0, y1, y2⟩, y3, y4, y5⟩ := box3 hW'.1; obtain ⟨⟨x0, x1, x2⟩, x3, x4, x5⟩ := box3 hW'.2; clear hW'; go_simp; first | done | with_reducible rfl)
          simp only [Act.put, List.setIfInBounds_toArray, List.set_cons_zero, List.set_cons_succ]
          refine takeH 9 (v := ?_) rfl (by kernel_rfl) (by kernel_rfl) (by kernel_rfl) (fun _ _ _ h => h) ⟨k0r_h.out, k1q_h.out⟩ (by rfl) (fun W' hW' => ?_) ?_; rotate_left; · (obtain ⟨⟨y0, y1, y2⟩, y3, y4, y5⟩ := box3 hW'.1; obtain ⟨⟨x0, x1, x2⟩, x3, x4, x5⟩ := box3 hW'.2; clear hW'; go_simp; first | done | with_reducible rfl)
          simp only [Act.put, List.setIfInBounds_toArray, List.set_cons_zero, List.set_cons_succ]
          refine takeH 10 (v := ?_) rfl (by kernel_rfl) (by kernel_rfl) (by kernel_rfl) (fun _ _ _ h => h) ⟨k0r_h.out, k1q_h.out⟩ (by rfl) (fun W' hW' => ?_) ?_; rotate_left; · (obtain ⟨⟨y0, y1, y2⟩, y3, y4, y5⟩ := box3 hW'.1; obtain ⟨⟨x0, x1, x2⟩, x3, x4, x5⟩ := box3 hW'.2; clear hW'; go_simp; first | done | with_reducible rfl)
          simp only [Act.put, List.setIfInBounds_toArray, List.set_cons_zero, List.set_cons_succ]
          refine takeH 11 (v := .slice B2 mb e2) rfl (by kernel_rfl) (by kernel_rfl) (by kernel_rfl) (fun _ _ _ h => h) ⟨k0r_h.out, k1q_h.out⟩ (by rfl) (fun W' _ => xop_sliceW rfl (hr2_h.out W')) ?_
          simp only [Act.put, List.setIfInBounds_toArray, List.set_cons_zero, List.set_cons_succ]
          refine' callH 12 (f := _) (args := _) rfl (by kernel_rfl) (by rfl) ?_ ?_; rotate_left 2; · (go_simp; first | done | with_reducible rfl | (constructor <;> with_reducible rfl))
          refine (hS2_h.out _ hb5_h.out).mono ?_
          rintro e w5 ⟨Az, cz, rfl, hiz, hfz, hbz⟩
          rw [hzl_h.out]
          replace k0r_h := Lib.hid (box_below k0r_h.out hbz)
          replace k1q_h := Lib.hid (box_below k1q_h.out hbz)
          have hb6 := below_trans hb5_h.out hbz hb5_h.out.size
          have hfz2 : Fresh wo.heap.size Az := fun b hb => Nat.le_trans hb5_h.out.size (hfz b hb)
          have hix5 := hix_h.out.below (below_trans hbd4_h.out hbz hbd4_h.out.size)
          refine ⟨_, rfl, ⟨k0r_h.out, k1q_h.out⟩, ?_⟩
          simp only [Act.put, List.setIfInBounds_toArray, List.set_cons_zero, List.set_cons_succ]
          have hiz_h := Lib.hid hiz
          have hfz_h := Lib.hid hfz
          have hbz_h := Lib.hid hbz
          have hb6_h := Lib.hid hb6
          have hfz2_h := Lib.hid hfz2
          have hix5_h := Lib.hid hix5
          clear hiz hfz hbz hb6 hfz2 hix5
          refine takeH 13 (v := ?_) rfl (by kernel_rfl) (by kernel_rfl) (by kernel_rfl) (fun _ _ _ h => h) ⟨k0r_h.out, k1q_h.out⟩ (by rfl) (fun W' hW' => ?_) ?_; rotate_left; · (skip; clear hW'; go_simp; first | done | with_reducible rfl)
          simp only [Act.put, List.setIfInBounds_toArray, List.set_cons_zero, List.set_cons_succ]
          refine doneH (by kernel_rfl) ?_
          have hbd5 : Below w5.heap.size w5 w5.drew := below_drewN (Below.refl _ _) 1
          obtain ⟨Bx, hrx, hIx, hfpx⟩ := take_sl hix5_h.out hxl_h.out (k := a1) (by rw [hn1_h.out]; omega)
          obtain ⟨Bz, ez, hrz, hIz, hfpz⟩ := drop_sl (r := b2) hiz_h.out hzl_h.out (by rw [hn2_h.out])
          have hlx : (x.take a1).length = a1 := by rw [List.length_take, hxl_h.out, hn1_h.out]; omega
          have hlz : (z.drop a2).length = b2 := by rw [List.length_drop, hzl_h.out, hn2_h.out]; omega
          have hOw := l1Own_any Bx cx (x.take a1) w5.drew (hIx.below hbd5).rd (by omega)
          rw [hlx] at hOw
          have hb7 := below_trans hb6_h.out hbd5 hb6_h.out.size
          clear hn1I hn2I en1 en2
          have hIx_h := Lib.hid hIx
          have hIz_h := Lib.hid hIz
          have hrx_h := Lib.hid hrx
          have hrz_h := Lib.hid hrz
          have hlx_h := Lib.hid hlx
          have hlz_h := Lib.hid hlz
          have hOw_h := Lib.hid hOw
          have hbd5_h := Lib.hid hbd5
          have hb7_h := Lib.hid hb7
          clear hIx hIz hrx hrz hlx hlz hOw hbd5 hb7
          go_wp2_with (fail)
          refine beginH (fun w' => w'.heap[w.heap.size]? = some (.cells #[.int .i64 (a1 : Int), .int .i64 (a2 : Int), .slice Aa ma ca] tRel)) (by kernel_rfl) ?_
          replace k0r_h := Lib.hid (box_below k0r_h.out hbd5_h.out)
          refine takeH 0 (v := ?_) rfl (by kernel_rfl) (by kernel_rfl) (by kernel_rfl) (fun _ _ _ h => h) k0r_h.out (by rfl) (fun W' hW' => ?_) ?_; rotate_left; · (obtain ⟨⟨y0, y1, y2⟩, y3, y4, y5⟩ := box3 hW'; clear hW'; go_simp; first | done | with_reducible rfl)
          simp only [Act.put, List.setIfInBounds_toArray, List.set_cons_zero, List.set_cons_succ]
          refine takeH 1 (v := ?_) rfl (by kernel_rfl) (by kernel_rfl) (by kernel_rfl) (fun _ _ _ h => h) k0r_h.out (by rfl) (fun W' hW' => ?_) ?_; rotate_left; · (obtain ⟨⟨y0, y1, y2⟩, y3, y4, y5⟩ := box3 hW'; clear hW'; go_simp; first | done | with_reducible rfl)
          simp only [Act.put, List.setIfInBounds_toArray, List.set_cons_zero, List.set_cons_succ]
          refine takeH 2 (v := ?_) rfl (by kernel_rfl) (by kernel_rfl) (by kernel_rfl) (fun _ _ _ h => h) k0r_h.out (by rfl) (fun W' hW' => ?_) ?_; rotate_left; · (obtain ⟨⟨y0, y1, y2⟩, y3, y4, y5⟩ := box3 hW'; clear hW'; go_simp; first | done | with_reducible rfl)
          simp only [Act.put, List.setIfInBounds_toArray, List.set_cons_zero, List.set_cons_succ]
          refine takeH 3 (v := ?_) rfl (by kernel_rfl) (by kernel_rfl) (by kernel_rfl) (fun _ _ _ h => h) k0r_h.out (by rfl) (fun W' hW' => ?_) ?_; rotate_left; · (obtain ⟨⟨y0, y1, y2⟩, y3, y4, y5⟩ := box3 hW'; clear hW'; go_simp; first | done | with_reducible rfl)
          simp only [Act.put, List.setIfInBounds_toArray, List.set_cons_zero, List.set_cons_succ]
          refine takeH 4 (v := .slice Bx a1 cx) rfl (by kernel_rfl) (by kernel_rfl) (by kernel_rfl) (fun _ _ _ h => h) k0r_h.out (by rfl) (fun W' _ => xop_sliceW rfl (hrx_h.out W')) ?_
          simp only [Act.put, List.setIfInBounds_toArray, List.set_cons_zero, List.set_cons_succ]
          refine takeH 6 (v := ?_) rfl (by kernel_rfl) (by kernel_rfl) (by kernel_rfl) (fun _ _ _ h => h) k0r_h.out (by rfl) (fun W' hW' => ?_) ?_; rotate_left; · (skip; clear hW'; go_simp; first | done | with_reducible rfl)
          simp only [Act.put, List.setIfInBounds_toArray, List.set_cons_zero, List.set_cons_succ]
          refine takeH 7 (v := ?_) rfl (by kernel_rfl) (by kernel_rfl) (by kernel_rfl) (fun _ _ _ h => h) k0r_h.out (by rfl) (fun W' hW' => ?_) ?_; rotate_left; · (skip; clear hW'; go_simp; first | done | with_reducible rfl)
          simp only [Act.put, List.setIfInBounds_toArray, List.set_cons_zero, List.set_cons_succ]
          refine takeH 8 (v := .slice Bz b2 ez) rfl (by kernel_rfl) (by kernel_rfl) (by kernel_rfl) (fun _ _ _ h => h) k0r_h.out (by rfl) (fun W' _ => xop_sliceW rfl (hrz_h.out W')) ?_
          simp only [Act.put, List.setIfInBounds_toArray, List.set_cons_zero, List.set_cons_succ]
          refine' callH 5 (f := _) (args := _) rfl (by kernel_rfl) (by rfl) ?_ ?_; rotate_left 2; · (go_simp; first | done | with_reducible rfl | (constructor <;> with_reducible rfl))
          refine (hOw_h.out).mono ?_
          rintro e w6 ⟨Ao, co, rfl, hio, hfo, hbo6⟩
          rw [hlx_h.out]
          replace k0r_h := Lib.hid (box_below k0r_h.out hbo6)
          have hb8 := below_trans hb7_h.out hbo6 hb7_h.out.size
          refine ⟨_, rfl, k0r_h.out, ?_⟩
          simp only [Act.put, List.setIfInBounds_toArray, List.set_cons_zero, List.set_cons_succ]
          have hso : Sl w6 3 1 Ao a1 co (ints (x.take a1)) := by have := hio; unfold IS at this; rw [hlx_h.out] at this; exact this
          have hrz6 := (hIz_h.out.below (below_trans hbd5_h.out hbo6 hbd5_h.out.size)).rd.rdc
          have hlz2 : (ints (z.drop a2)).length = b2 * 1 := by rw [ints_length, hlz_h.out, Nat.mul_one]
          have hio_h := Lib.hid hio
          have hfo_h := Lib.hid hfo
          have hbo6_h := Lib.hid hbo6
          have hb8_h := Lib.hid hb8
          have hso_h := Lib.hid hso
          have hrz6_h := Lib.hid hrz6
          have hlz2_h := Lib.hid hlz2
          clear hio hfo hbo6 hb8 hso hrz6 hlz2
          refine appH 9 rfl (by kernel_rfl) (by rfl) _ _ _ rfl tInt Tryd.underlying33 info_int rfl (by omega) rfl hso_h.out rfl hlz2_h.out hrz6_h.out (ints_one (z.drop a2)) (by unfold maxLen; omega) (by omega) ?_
          intro A7 c7 w7 hsA7 hA7 hkA7
          have hk0l := box_lt k0_h.out
          have hwz := hwz_h.out
          have hbos := hbo_h.out.size
          have hfo' := hfo_h.out
          have hb7s := hb7_h.out.size
          have k07 := box_keeps k0r_h.out hkA7 (fun h => by have := hfo' _ h; omega)
          have hb9 := below_keeps hb8_h.out hkA7 hb8_h.out.size (fun b hb => by have := hfo' b hb; omega)
          have hfA7 : Fresh wo.heap.size A7 := fun b hb => by
            rcases hA7 b hb with h | h
            · have := hfo' b h; omega
            · have := hb8_h.out.size; omega
          have hgl : (g u).length = N := by rw [← hgu_h.out, List.length_append, hlx_h.out, hlz_h.out, hN_h.out]
          have hI7 : IS w7 A7 c7 (g u) := by
            unfold IS
            rw [hgl, ← hgu_h.out, hN_h.out]
            have e : ints (x.take a1 ++ z.drop a2) = ints (x.take a1) ++ ints (z.drop a2) := by simp [ints]
            rw [e]; exact hsA7
          have hN12 : a1 + b2 = N := hN_h.out.symm
          rw [hN12]
          clear hsA7 hA7 hkA7 hk0l hwz hbos hfo' hb7s hN12
          have k07_h := Lib.hid k07
          have hb9_h := Lib.hid hb9
          have hfA7_h := Lib.hid hfA7
          have hgl_h := Lib.hid hgl
          have hI7_h := Lib.hid hI7
          clear k07 hb9 hfA7 hgl hI7
          refine ⟨k07_h.out, ?_⟩
          simp only [Act.put, List.setIfInBounds_toArray, List.set_cons_zero, List.set_cons_succ]
          have hal := below_alloc w7 (.cells #[.slice A7 N c7] 33)
          have hba := below_trans hb9_h.out hal hb9_h.out.size
          have k08 := box_below k07_h.out hal
          have hsl : Sl (w7.alloc (.cells #[.slice A7 N c7] 33)) 33 1 A' q0 c' (ys.map Hd.val) := by
            have := (hO_h.out.sl.below hb9_h.out).alloc (.cells #[.slice A7 N c7] 33)
            rwa [hyl_h.out] at this
          have hI8 := hI7_h.out.below hal
          have hal_h := Lib.hid hal
          have hba_h := Lib.hid hba
          have k08_h := Lib.hid k08
          have hsl_h := Lib.hid hsl
          have hI8_h := Lib.hid hI8
          clear hal hba k08 hsl hI8
          refine oneH 10 rfl (by kernel_rfl) (by rfl) (fun K hK => ?_)
          go_simp
          refine hK _ _ k08_h.out ?_
          clear hK K
          refine appH 11 rfl (by kernel_rfl) (by rfl) _ _ _ rfl 33 Tryd.underlying22 info_ints rfl (by omega) rfl hsl_h.out rfl (news := [.slice A7 N c7]) rfl (Sl.rdc (Sl.laid w7 33 1 1 #[.slice A7 N c7] (by unfold maxLen; omega) rfl)) (by intro u hu; simp at hu; subst hu; rfl) (by unfold maxLen; omega) (by omega) ?_
          intro A9 c9 w9 hsA9 hA9 hkA9
          have hO2 := hO_h.out.snoc hba_h.out (x := (A7, c7, g u)) hI8_h.out (fun b hb hb' => by
            have h1 := hO_h.out.sl.lt b hb'
            have h2 := hfA7_h.out b hb
            omega) (by rw [hyl_h.out]) (by show Sl w9 _ 1 A9 (q0 + 1) c9 (ys.map Hd.val ++ [.slice A7 (g u).length c7]); rw [hgl_h.out]; exact hsA9) hA9 hkA9
          have hnw := hO_h.out.new
          have k09 := box_keeps k08_h.out hkA9 (fun h => by have h1 := hnw _ h; have h2 := box_lt k0_h.out; have h3 := hbw3_h.out.size; have h4 := hwz_h.out; omega)
          clear hsA9 hA9 hkA9 hnw
          have hO2_h := Lib.hid hO2
          have k09_h := Lib.hid k09
          clear hO2 k09
          refine ⟨k09_h.out, ?_⟩
          simp only [Act.put, List.setIfInBounds_toArray, List.set_cons_zero, List.set_cons_succ]
          refine takeH 12 (v := ?_) rfl (by kernel_rfl) (by kernel_rfl) (by kernel_rfl) (fun _ _ _ h => h) k09_h.out (by rfl) (fun W' hW' => ?_) ?_; rotate_left; · (skip; clear hW'; go_simp; first | done | with_reducible rfl)
          simp only [Act.put, List.setIfInBounds_toArray, List.set_cons_zero, List.set_cons_succ]
          refine doneH (by kernel_rfl) ?_
          go_wp2_with (fail)
          go_roundw
          case rel => exact ⟨k + 1, A9, c9, ys ++ [(A7, c7, g u)], q0 + 1, by omega, by go_num, by have := hq0_h.out; omega, rfl, by rw [List.length_append, hyl_h.out]; rfl, by rw [List.map_append, hym_h.out, hKt_h.out]; rfl, hO2_h.out⟩
          case measure => simp [intOf]; omega
        · obtain rfl : kk = k := by omega
          have hym2 : ys.map (fun h : Hd => h.2.2) = K.map g := by rw [hym, List.take_of_length_le (by rw [hkk_h.out]; exact Nat.le_refl _)]
          have hC := rlOf_any p (a1 : Int) (b2 : Int) N A' c' ys wo hO.rdr hfld_h.out hNI_h.out (by rw [hym2]; have := hmat_h.out; rwa [show (K.map g).length = ys.length by rw [← hym2, List.length_map]] at this) (by omega) (by have := hN_h.out; omega)
          rw [hym2, ← hR_h.out, hyl] at hC
          have k2r := box_below k2_h.out hbo
          have hBr := below_trans bW_h.out hbo bW_h.out.size
          have hzr := hbo.size
          have hz2 := box_lt k2_h.out
          obtain ⟨⟨c0, c1, c2⟩, f0, f1, f2⟩ := box3 k0r
          obtain ⟨⟨d0, d1, d2⟩, g0, g1, g2⟩ := box3 k1r
          clear hym hym2 hyl hO k0r k1r
          have hC_h := Lib.hid hC
          have k2r_h := Lib.hid k2r
          have hBr_h := Lib.hid hBr
          have hq0_h := Lib.hid hq0
          have hbo_h := Lib.hid hbo
          clear hC k2r hBr hq0 hbo
          go_wp2_with (fail)
          refine (hC_h.out).mono ?_
          rintro e w1 ⟨v1, fp1, rfl, hO1, hf1, hb1⟩
          clear c0 c1 c2 f0 f1 f2 d0 d1 d2 g0 g1 g2
          obtain ⟨A1, n1', c1', rfl⟩ := hO1.shape
          have k2' := box_below k2r_h.out hb1
          have hB1 := below_trans hBr_h.out hb1 hBr_h.out.size
          obtain ⟨⟨d0, d1, d2⟩, g0, g1, g2⟩ := box3 k2'
          obtain ⟨s1, s2⟩ := set3 (a := .int .i64 (a1 : Int)) (b := .int .i64 (b2 : Int)) (c := .slice A1 n1' c1') k2'
          have hB3 := below_keeps hB1 s2 hB1.size (fun k hk => by omega)
          have hBs := hBr_h.out.size
          have hO3 := hO1.keeps s2 (fun k hk e => by have := hf1 k hk; omega)
          have hf3 := hf1.mono hBs
          clear k2' hB1 hO1 hf1
          have s1_h := Lib.hid s1
          have s2_h := Lib.hid s2
          have hO3_h := Lib.hid hO3
          have hf3_h := Lib.hid hf3
          have hB3_h := Lib.hid hB3
          clear s1 s2 hO3 hf3 hB3
          go_wp2_with (fail)
          refine bodyPost_ret (results_cell_row rfl _ _ (w.heap.size + 1 + 1) _ _ (0, 0) _ rfl s1_h.out Tryd.underlying43 rfl (by kernel_rfl)) rfl ?_
          exact ⟨_, fp1, rfl, hO3_h.out, hf3_h.out, hB3_h.out⟩
end Go.Proofs.YtahnhblodfdfhaaDoor

namespace Go.Proofs.YtahnhblodfdfhaaDoor
open Go.RowKit
theorem IS.ne_outer {w : World} {A B : Option Addr} {c n cap : Nat} {l : List Int} {xs : List Value} (h : IS w A c l) (h' : Sl w 33 1 B n cap xs) : ∀ x, x ∈ fpA A → x ∉ fpA B := by
  intro x hx hx'
  rcases h.2.2.2 with ⟨rfl, _⟩ | ⟨g, off, cur, rfl, hg, _⟩
  · simp at hx
  rcases h'.2.2.2 with ⟨rfl, _⟩ | ⟨g', off', cur', rfl, hg', _⟩
  · simp at hx'
  simp at hx hx'
  subst hx
  subst hx'
  rw [hg] at hg'
  injection hg' with hg'
  injection hg' with _ h2 _
  exact absurd h2 (by decide)
theorem Keeps.after {S T : Nat → Prop} {a w w' : World} (h : Keeps T a w) (hk : Keeps S w w') (hS : ∀ k, k < a.heap.size → S k → T k) : Keeps T a w' :=
  ⟨hk.os.trans h.os, hk.tape.trans h.tape, hk.output.trans h.output, Nat.le_trans h.size hk.size, fun i hi ht => (hk.block i (Nat.lt_of_lt_of_le hi h.size) (fun hs => ht (hS i hi hs))).trans (h.block i hi ht)⟩
/-- Rows that lie apart from an outer row that grows. -/
structure Aside (w : World) (A : Option Addr) (cap : Nat) (hs : List Hd) (B : Option Addr) : Prop where
  sl : Sl w 33 1 A hs.length cap (hs.map Hd.val)
  rows : ∀ x, x ∈ hs → IS w x.1 x.2.1 x.2.2
  off : ∀ b, b ∈ fpA A → ¬ b ∈ fpA B
theorem Aside.rdr {w : World} {A B : Option Addr} {cap : Nat} {hs : List Hd} (h : Aside w A cap hs B) : RdR w A hs :=
  ⟨fun i x hi => by obtain ⟨ad, hA, _, hc, _⟩ := h.sl.cell (j := i) (u := x.val) (by simp [hi]); exact ⟨ad, hA, by simpa using hc⟩, fun x hx => (h.rows x hx).rd⟩
theorem Aside.step {w w1 w2 : World} {A B B' : Option Addr} {cap n c : Nat} {hs : List Hd} {xs : List Value} (h : Aside w A cap hs B) (hB : Sl w 33 1 B n c xs) (hb : Below w.heap.size w w1) (hk : Keeps (· ∈ fpA B) w1 w2) (hB' : ∀ b, b ∈ fpA B' → b ∈ fpA B ∨ w1.heap.size ≤ b) : Aside w2 A cap hs B' :=
  ⟨(h.sl.below hb).keeps hk fun b hb1 hb2 => h.off b hb1 hb2, fun x hx => ((h.rows x hx).below hb).keeps hk fun b hb1 hb2 => IS.ne_outer (h.rows x hx) hB b hb1 hb2, fun b hb1 hb2 => by
    rcases hB' b hb2 with h1 | h1
    · exact h.off b hb1 h1
    · have := h.sl.lt b hb1; have := hb.size; omega⟩
set_option maxRecDepth 100000 in
set_option maxHeartbeats 2500000 in
theorem composed_any (p : Int) {v v' : Value} {s t : Sys} {fp fp' : List Nat} (w : World) (ha : OwSys w v s fp) (hb : OwSys w v' t fp') (hs : RelOk p s) (ht : RelOk p t) (hm : s.2.1 = t.1) (hsum : s.1 + t.2.1 ≤ 24) :
    Calls Tryd.prog 73 #[.int .i64 p, v, v'] w fun e w' => ∃ v' fp', e = .returned v' ∧ OwSys w' v' (cmpV p s t) fp' ∧ FreshL w.heap.size fp' ∧ Below w.heap.size w w' := by
  have hmat0 := pairs_mat hs ht
  have hmid0 := mid_mat hs ht hm
  have hnull0 := mid_null hs ht hm
  have htr0 := mid_trans (s := s) ht hm
  have hpr0 := pair_ref hs ht hm
  have hEa1 := fun (W' : World) (hbb : Below w.heap.size w W') => eachFirst_any p W' (ha.below hbb) hs
  have hEa2 := fun (W' : World) (hbb : Below w.heap.size w W') => eachSecond_any p W' (ha.below hbb) hs
  have hEb1 := fun (W' : World) (hbb : Below w.heap.size w W') => eachFirst_any p W' (hb.below hbb) ht
  have hEb2 := fun (W' : World) (hbb : Below w.heap.size w W') => eachSecond_any p W' (hb.below hbb) ht
  have hma0 := firstM_mat hs
  have hma2 := secondM_mat hs
  have hmb0 := firstM_mat ht
  have hmb2 := secondM_mat ht
  obtain ⟨Aa, ca, ga, rfl, hLa0, hOa, rfl⟩ := ha
  obtain ⟨ia, ja, La⟩ := s
  have ha0 : 0 ≤ ia := hs.lo
  have ha1 : 0 ≤ ja := hs.hi
  have ha2 : ia + ja ≤ 24 := hs.sum
  have hfld : fieldB p = true := hs.fld
  have hrowa : ∀ u, u ∈ La → (u.length : Int) = ia + ja ∧ Res p u := fun u hu => hs.row hu
  have hlena : (La.length : Int) ≤ ia + ja := hs.len
  clear hs
  obtain ⟨a1, rfl⟩ : ∃ n : Nat, ia = (n : Int) := ⟨ia.toNat, by omega⟩
  obtain ⟨a2, rfl⟩ : ∃ n : Nat, ja = (n : Int) := ⟨ja.toNat, by omega⟩
  have hLa : La = ga.map (fun h : Hd => h.2.2) := hLa0
  clear hLa0
  obtain ⟨ma, hma⟩ : ∃ m, m = ga.length := ⟨_, rfl⟩
  have hLma : La.length = ma := by rw [hLa, List.length_map, hma]
  have hma24 : (ma : Int) ≤ 24 := by have := hlena; rw [hLma] at this; omega
  obtain ⟨Ab, cb, gb, rfl, hLb0, hOb, rfl⟩ := hb
  obtain ⟨ib, jb, Lb⟩ := t
  have hb0 : 0 ≤ ib := ht.lo
  have hb1 : 0 ≤ jb := ht.hi
  have hb2 : ib + jb ≤ 24 := ht.sum
  have hrowb : ∀ u, u ∈ Lb → (u.length : Int) = ib + jb ∧ Res p u := fun u hu => ht.row hu
  have hlenb : (Lb.length : Int) ≤ ib + jb := ht.len
  clear ht
  obtain rfl : ib = (a2 : Int) := hm.symm
  obtain ⟨b2, rfl⟩ : ∃ n : Nat, jb = (n : Int) := ⟨jb.toNat, by omega⟩
  have hLb : Lb = gb.map (fun h : Hd => h.2.2) := hLb0
  clear hLb0
  obtain ⟨mb, hmb⟩ : ∃ m, m = gb.length := ⟨_, rfl⟩
  have hLmb : Lb.length = mb := by rw [hLb, List.length_map, hmb]
  have hmb24 : (mb : Int) ≤ 24 := by have := hlenb; rw [hLmb] at this; omega
  obtain ⟨N, hN⟩ : ∃ N, N = a1 + b2 := ⟨_, rfl⟩
  obtain ⟨M, hM⟩ : ∃ M, M = ma + mb := ⟨_, rfl⟩
  have hNI : (a1 : Int) + (b2 : Int) = (N : Int) := by omega
  have hMI : (ma : Int) + (mb : Int) = (M : Int) := by omega
  obtain ⟨K, hK⟩ : ∃ K, K = kerM p a2 (midR p ((a1 : Int), (a2 : Int), La) ((a2 : Int), (b2 : Int), Lb)) := ⟨_, rfl⟩
  obtain ⟨g, hg⟩ : ∃ g, g = pairV p ((a1 : Int), (a2 : Int), La) ((a2 : Int), (b2 : Int), Lb) := ⟨_, rfl⟩
  have hmat : Mat p (K.map g).length N (K.map g) := by
    have e : (((a1 : Int), (a2 : Int), La) : Sys).1 + (((a2 : Int), (b2 : Int), Lb) : Sys).2.1 = ((N : Nat) : Int) := by show (a1 : Int) + (b2 : Int) = _; omega
    rw [e] at hmat0
    rw [hK, hg]; exact hmat0
  obtain ⟨R, hR⟩ : ∃ R, R = redM p N (K.map g) := ⟨_, rfl⟩
  have hgoal : cmpV p ((a1 : Int), (a2 : Int), La) ((a2 : Int), (b2 : Int), Lb) = ((a1 : Int), (b2 : Int), R) := by
    rw [hR, hK, hg]
    show ((a1 : Int), (b2 : Int), redM p ((a1 : Int) + (b2 : Int)).toNat _) = _
    rw [show ((a1 : Int) + (b2 : Int)).toNat = N by omega]; rfl
  rw [hgoal]
  have hMM : La.length + Lb.length = M := by rw [hLma, hLmb, hM]
  have hmid : Mat p M a2 (midR p ((a1 : Int), (a2 : Int), La) ((a2 : Int), (b2 : Int), Lb)) := by rw [← hMM]; exact hmid0
  have hpbb := fieldB_bounds hfld
  have hKm := kerM_len (L := midR p ((a1 : Int), (a2 : Int), La) ((a2 : Int), (b2 : Int), Lb)) (n := a2) hfld (by rw [hmid.len]; exact hmid)
  rw [← hK, hmid.len] at hKm
  obtain ⟨X, hX⟩ : ∃ X, X = (List.range a2).map (midC p ((a1 : Int), (a2 : Int), La) ((a2 : Int), (b2 : Int), Lb)) := ⟨_, rfl⟩
  have hXl : X.length = a2 := by rw [hX]; simp
  have htr : transM (midR p ((a1 : Int), (a2 : Int), La) ((a2 : Int), (b2 : Int), Lb)) a2 = X := by rw [hX]; exact htr0
  have hXm : Mat p a2 M X := by rw [← htr]; exact transM_mat (by omega) hmid
  have hXat : ∀ j, j < a2 → X[j]? = some (La.map (fun r => r.getD (a1 + j) 0) ++ Lb.map fun r => (-(r.getD j 0)) % p) := fun j hj => by rw [hX]; simp [hj, midC]
  have hnull : nullM p M X = K := by rw [← htr, hK, ← hMM]; exact hnull0
  have hpr : ∀ k, (cmbTo p (a1 + a2) (k.take ma) La ma).take a1 ++ (cmbTo p (a2 + b2) (k.drop ma) Lb mb).drop a2 = g k := fun k => by
    have := hpr0 k
    simp only [Int.toNat_natCast, hLma, hLmb] at this
    rw [hg]; exact this
  have hma48 : ma ≤ 24 := by omega
  have hmb48 : mb ≤ 24 := by omega
  have ha24 : a1 ≤ 24 := by omega
  have ha24' : a2 ≤ 24 := by omega
  have hb24 : b2 ≤ 24 := by omega
  have hM48 : M ≤ 48 := by omega
  obtain ⟨n1, hn1⟩ : ∃ n1, n1 = a1 + a2 := ⟨_, rfl⟩
  obtain ⟨n2, hn2⟩ : ∃ n2, n2 = a2 + b2 := ⟨_, rfl⟩
  have hn1I : (a1 : Int) + (a2 : Int) = (n1 : Int) := by omega
  have hn2I : (a2 : Int) + (b2 : Int) = (n2 : Int) := by omega
  rw [← hn1, ← hn2] at hpr
  have hmata : Mat p La.length n1 La := ⟨rfl, fun u hu => ⟨by have := (hrowa u hu).1; omega, (hrowa u hu).2⟩⟩
  have hmatb : Mat p Lb.length n2 Lb := ⟨rfl, fun u hu => ⟨by have := (hrowb u hu).1; omega, (hrowb u hu).2⟩⟩
  show Calls Tryd.prog _ #[.int .i64 p, .agg #[.int .i64 (a1 : Int), .int .i64 (a2 : Int), .slice Aa ga.length ca], .agg #[.int .i64 (a2 : Int), .int .i64 (b2 : Int), .slice Ab gb.length cb]] w _
  rw [← hma, ← hmb]
  obtain ⟨W, hW, bW, k0, k1, k2⟩ := alloc3 w (.cells #[.int .i64 (a1 : Int), .int .i64 (a2 : Int), .slice Aa ma ca] tRel) (.cells #[.int .i64 (a2 : Int), .int .i64 (b2 : Int), .slice Ab mb cb] tRel) (.cells #[.int .i64 0, .int .i64 0, .slice none 0 0] tRel)
  have hOa := hOa.below bW
  have hOb := hOb.below bW
  simp only [← hma] at hEa1 hEa2
  simp only [← hmb] at hEb1 hEb2
  obtain ⟨F1, hF1⟩ : ∃ F, F = firstM ((a1 : Int), (a2 : Int), La) := ⟨_, rfl⟩
  obtain ⟨S1, hS1⟩ : ∃ F, F = secondM ((a1 : Int), (a2 : Int), La) := ⟨_, rfl⟩
  obtain ⟨F2, hF2⟩ : ∃ F, F = firstM ((a2 : Int), (b2 : Int), Lb) := ⟨_, rfl⟩
  obtain ⟨S2, hS2⟩ : ∃ F, F = secondM ((a2 : Int), (b2 : Int), Lb) := ⟨_, rfl⟩
  simp only [← hF1, ← hS1, ← hF2, ← hS2] at hEa1 hEa2 hEb1 hEb2
  rw [← hF1] at hma0
  rw [← hS1] at hma2
  rw [← hF2] at hmb0
  rw [← hS2] at hmb2
  have hF1l : F1.length = ma := by rw [hma0.len]; exact hLma
  have hS1l : S1.length = ma := by rw [hma2.len]; exact hLma
  have hF2l : F2.length = mb := by rw [hmb0.len]; exact hLmb
  have hS2l : S2.length = mb := by rw [hmb2.len]; exact hLmb
  have hF1m : Mat p F1.length a1 F1 := by rw [hma0.len]; exact hma0
  have hF2m : Mat p F2.length a2 F2 := by rw [hmb0.len]; exact hmb0
  have hS2m : Mat p S2.length b2 S2 := by rw [hmb2.len]; exact hmb2
  have hmidE : midR p ((a1 : Int), (a2 : Int), La) ((a2 : Int), (b2 : Int), Lb) = S1 ++ F2.map (ngV p) := by rw [hS1, hF2]; rfl
  have hgE : ∀ k, g k = cmbTo p a1 (k.take ma) F1 ma ++ cmbTo p b2 (k.drop ma) S2 mb := fun k => by
    rw [hg, hF1, hS2]
    unfold pairV
    show cmbTo p a1 (k.take La.length) _ La.length ++ cmbTo p b2 (k.drop La.length) _ Lb.length = _
    rw [hLma, hLmb]
  clear hma0 hma2 hmb0 hmb2 hF1 hS1 hF2 hS2
  have hEa1_h := Lib.hid hEa1
  have hEa2_h := Lib.hid hEa2
  have hEb1_h := Lib.hid hEb1
  have hEb2_h := Lib.hid hEb2
  have hF1l_h := Lib.hid hF1l
  have hS1l_h := Lib.hid hS1l
  have hF2l_h := Lib.hid hF2l
  have hS2l_h := Lib.hid hS2l
  have hF1m_h := Lib.hid hF1m
  have hF2m_h := Lib.hid hF2m
  have hS2m_h := Lib.hid hS2m
  have hmidE_h := Lib.hid hmidE
  have hgE_h := Lib.hid hgE
  clear hEa1 hEa2 hEb1 hEb2 hF1l hS1l hF2l hS2l hF1m hF2m hS2m hmidE hgE
  clear hmat0 hmid0 hnull0 htr0 hpr0 hgoal hsum hX htr hm hrowa hrowb hlena hlenb hg hMM ha0 ha1 ha2 hb0 hb1 hb2
  have hwz := bW.size
  have hLa_h := Lib.hid hLa
  have hLb_h := Lib.hid hLb
  have hma_h := Lib.hid hma
  have hmb_h := Lib.hid hmb
  have hLma_h := Lib.hid hLma
  have hLmb_h := Lib.hid hLmb
  have bW_h := Lib.hid bW
  have k0_h := Lib.hid k0
  have k1_h := Lib.hid k1
  have k2_h := Lib.hid k2
  have hOa_h := Lib.hid hOa
  have hOb_h := Lib.hid hOb
  have hmata_h := Lib.hid hmata
  have hmatb_h := Lib.hid hmatb
  have hfld_h := Lib.hid hfld
  have hmat_h := Lib.hid hmat
  have hR_h := Lib.hid hR
  have hN_h := Lib.hid hN
  have hM_h := Lib.hid hM
  have hK_h := Lib.hid hK
  have hKm_h := Lib.hid hKm
  have hnull_h := Lib.hid hnull
  have hpr_h := Lib.hid hpr
  have hXl_h := Lib.hid hXl
  have hXm_h := Lib.hid hXm
  have hXat_h := Lib.hid hXat
  have hmid_h := Lib.hid hmid
  have hn1_h := Lib.hid hn1
  have hn2_h := Lib.hid hn2
  have hpbb_h := Lib.hid hpbb
  have hwz_h := Lib.hid hwz
  clear hLa hLb hma hmb hLma hLmb bW k0 k1 k2 hOa hOb hmata hmatb hfld hmat hR hN hM hK hKm hnull hpr hXl hXm hXat hmid hn1 hn2 hpbb hwz
  obtain ⟨⟨c0, c1, c2⟩, f0, f1, f2⟩ := box3 k0_h.out
  have hmf : ∀ (fn : Fn) (first cap : Array Value) (w : World), (Instr.makeFunc fn first cap).run Tryd.prog w = .ok (.func fn first cap) w := fun _ _ _ _ => rfl
  have hNI_h := Lib.hid hNI
  have hMI_h := Lib.hid hMI
  have hn1I_h := Lib.hid hn1I
  have hn2I_h := Lib.hid hn2I
  clear hNI hMI hn1I hn2I
  go_enter Tryd.func73, Tryd.ntmps73
  go_upto_region 1 with (fail)
  rw [← hW]
  clear hW
  have k00 := k0_h.out
  have k10 := k1_h.out
  have k20 := k2_h.out
  have k00_h := Lib.hid k00
  have k10_h := Lib.hid k10
  have k20_h := Lib.hid k20
  clear k00 k10 k20
  go_wp2_with (fail)
  refine (hEa2_h.out W bW_h.out).mono ?_
  rintro e w1 ⟨A1, e1, g1, m1, rfl, hgl1, hm1, hgm1, hO1⟩
  obtain rfl : ma = m1 := by rw [← hgl1, ← hS1l_h.out, ← hgm1, List.length_map]
  clear c0 c1 c2 f0 f1 f2
  have hb1 := hO1.below_
  replace k0_h := Lib.hid (box_below k0_h.out hb1)
  replace k1_h := Lib.hid (box_below k1_h.out hb1)
  obtain ⟨⟨d0, d1, d2⟩, g0', g1', g2'⟩ := box3 k1_h.out
  have hO1_h := Lib.hid hO1
  have hgl1_h := Lib.hid hgl1
  have hgm1_h := Lib.hid hgm1
  have hb1_h := Lib.hid hb1
  clear hO1 hgl1 hgm1 hb1
  go_wp2_with (fail)
  refine (hEb1_h.out w1 (below_trans bW_h.out hb1_h.out bW_h.out.size)).mono ?_
  rintro e w2 ⟨A2, e2, g2, m2, rfl, hgl2, hm2, hgm2, hO2⟩
  obtain rfl : mb = m2 := by rw [← hgl2, ← hF2l_h.out, ← hgm2, List.length_map]
  clear d0 d1 d2 g0' g1' g2'
  have hb2 := hO2.below_
  have hO12 := hO1_h.out.below hb2
  have hbW2 := hO12.below_
  replace k0_h := Lib.hid (box_below k0_h.out hb2)
  replace k1_h := Lib.hid (box_below k1_h.out hb2)
  have hg2l : g2.length = mb := hgl2
  have hAs : Aside w2 A2 e2 g2 A1 := ⟨hO2.sl, hO2.rows, fun b h1 h2 => by have := hO2.new b h1; have := hO1_h.out.sl.lt b h2; omega⟩
  have hO2_h := Lib.hid hO2
  have hO12_h := Lib.hid hO12
  have hgl2_h := Lib.hid hgl2
  have hgm2_h := Lib.hid hgm2
  have hb2_h := Lib.hid hb2
  have hbW2_h := Lib.hid hbW2
  have hg2l_h := Lib.hid hg2l
  have hAs_h := Lib.hid hAs
  clear hO2 hO12 hgl2 hgm2 hb2 hbW2 hg2l hAs
  go_wp2_with (fail)
  go_loopw [27, 7] (fun i v wr => ∃ (k : Nat) (A' : Option Addr) (c' : Nat) (ys : List Hd) (q : Nat), k ≤ mb ∧ i = .int .i64 k ∧ q = ma + k ∧ v = .slice A' q c' ∧ ys.length = q ∧ ys.map (fun h : Hd => h.2.2) = S1 ++ (F2.take k).map (ngV p) ∧ RdO W wr A' c' ys ∧ Aside wr A2 e2 g2 A') (fun i _ _ => mb - (intOf i).toNat)
  case atStart => exact ⟨0, A1, e1, g1, ma, Nat.zero_le _, rfl, rfl, rfl, hgl1_h.out, by simpa using hgm1_h.out, hO12_h.out, hAs_h.out⟩
  case round =>
    clear hO12_h hAs_h
    obtain ⟨k, A', c', ys, q0, hk, rfl, hq0, rfl, hyl, hym, hO, hAd⟩ := hrel
    obtain ⟨wo, rfl⟩ : ∃ x, x = wr := ⟨_, rfl⟩
    by_cases hlt : k < mb
    · have hkI : (k : Int) < (mb : Int) := by omega
      have hq48 : q0 ≤ 48 := by omega
      obtain ⟨ad, C, d, u, rfl, hx, hcu, hrd⟩ := hAd.rdr.at_ (k := k) (by rw [hg2l_h.out]; exact hlt)
      have hLu : F2[k]? = some u := by rw [← hgm2_h.out, List.getElem?_map, hx]; rfl
      have hur := hF2m_h.out.row u (List.mem_of_getElem? hLu)
      have hul := hur.1
      have hrd2 : ∀ b, 0 < u.length → b ∈ fpA C → b < wo.heap.size := fun b h0 hb => hrd.lt0 h0 b hb
      rw [hul] at hcu
      have hyt : (F2.take (k + 1)).map (ngV p) = (F2.take k).map (ngV p) ++ [ngV p u] := by rw [List.take_add_one, hLu, List.map_append]; rfl
      clear hx hLu
      have hyl_h := Lib.hid hyl
      have hym_h := Lib.hid hym
      have hO_h := Lib.hid hO
      have hAd_h := Lib.hid hAd
      have hrd_h := Lib.hid hrd
      have hur_h := Lib.hid hur
      have hul_h := Lib.hid hul
      have hrd2_h := Lib.hid hrd2
      have hyt_h := Lib.hid hyt
      have hq0_h := Lib.hid hq0
      clear hyl hym hO hAd hrd hur hul hrd2 hyt hq0
      have hZ := zeros_any a2 wo (by omega)
      have hZ_h := Lib.hid hZ
      clear hZ
      go_wp2_with (fail)
      refine (hZ_h.out).mono ?_
      rintro e w3 ⟨Z, cz, rfl, hiz, hfz, hbz⟩
      rw [List.length_replicate]
      have hAT := addTimes_any p (-1) Z C cz d (List.replicate a2 0) u w3 hiz (hrd_h.out.below hbz) (fun h0 b hb hb' => by
        have h1 := hfz b hb'
        have h2 := hrd2_h.out b h0 hb
        omega) (by rw [List.length_replicate, hul_h.out]; exact Nat.le_refl _) (by rw [List.length_replicate]; omega) (by have := hpbb_h.out; omega) hpbb_h.out.2 (fun x hx => by
          obtain rfl := (List.mem_replicate.1 hx).2
          have := hpbb_h.out; omega) hur_h.out.2 (by omega) (by omega)
      have hng : addT p (List.replicate a2 0) (-1) u = ngV p u := by have := ngV_add (p := p) u; rw [hul_h.out] at this; exact this
      rw [hng, List.length_replicate, hul_h.out] at hAT
      have hnl : (ngV p u).length = a2 := by rw [ngV_length, hul_h.out]
      have hnext : ∀ w', Wr w3 w' Z (ints (ngV p u)) → IS w' Z cz (ngV p u) ∧ Below wo.heap.size wo w' := fun w' hw => by
        refine ⟨?_, below_keeps hbz hw.1 hbz.size fun b hb => hfz b hb⟩
        have := hw.sl hiz (by rw [ints_length, hnl, List.length_replicate, Nat.mul_one])
        unfold IS
        rw [hnl]
        rwa [List.length_replicate] at this
      clear hiz hbz hng
      have hAT_h := Lib.hid hAT
      have hnext_h := Lib.hid hnext
      have hnl_h := Lib.hid hnl
      have hfz_h := Lib.hid hfz
      clear hAT hnext hnl hfz
      go_wp2_with (fail)
      refine (hAT_h.out).mono ?_
      rintro e w4 ⟨rfl, hw4⟩
      obtain ⟨hi4, hb4⟩ := hnext_h.out w4 hw4
      have hsl : Sl (w4.alloc (.cells #[.slice Z a2 cz] 33)) 33 1 A' q0 c' (ys.map Hd.val) := by
        have := (hO_h.out.sl.below hb4).alloc (.cells #[.slice Z a2 cz] 33)
        rwa [hyl_h.out] at this
      clear hw4 hcu
      have hi4_h := Lib.hid hi4
      have hb4_h := Lib.hid hb4
      have hsl_h := Lib.hid hsl
      clear hi4 hb4 hsl
      go_wp2_with (at_builtin; refine wpList_append_Sl _ rfl _ _ _ rfl 33 Tryd.underlying22 info_ints rfl (by omega) rfl (hsl_h.out) rfl (news := [.slice Z a2 cz]) rfl (Sl.rdc (Sl.laid w4 33 1 1 #[.slice Z a2 cz] (by unfold maxLen; omega) rfl)) (by intro u hu; simp at hu; subst hu; rfl) (by unfold maxLen; omega) (by omega) ?_; intro A3 c3 w5 hsA3 hA3 hkA3)
      have hal : Below w4.heap.size w4 (w4.alloc (.cells #[.slice Z a2 cz] 33)) := below_alloc _ _
      have hba := below_trans hb4_h.out hal hb4_h.out.size
      have hO2' := hO_h.out.snoc (w1 := w4.alloc (.cells #[.slice Z a2 cz] 33)) hba (x := (Z, cz, ngV p u)) (hi4_h.out.below hal) (fun b hb hb' => by
        have h1 := hO_h.out.sl.lt b hb'
        have h2 := hfz_h.out b hb
        omega) (by rw [hyl_h.out]) (by show Sl w5 _ 1 A3 (q0 + 1) c3 (ys.map Hd.val ++ [.slice Z (ngV p u).length cz]); rw [hnl_h.out]; exact hsA3) hA3 hkA3
      have hAd2 := hAd_h.out.step hO_h.out.sl hba hkA3 hA3
      clear hsA3 hA3 hkA3
      have hO2'_h := Lib.hid hO2'
      have hAd2_h := Lib.hid hAd2
      clear hO2' hAd2
      go_roundw
      case rel => exact ⟨k + 1, A3, c3, ys ++ [(Z, cz, ngV p u)], q0 + 1, by omega, by go_num, by have := hq0_h.out; omega, rfl, by rw [List.length_append, hyl_h.out]; rfl, by rw [List.map_append, hym_h.out, hyt_h.out, List.append_assoc]; rfl, hO2'_h.out, hAd2_h.out⟩
      case measure => simp [intOf]; omega
    · obtain rfl : mb = k := by omega
      have hym2 : ys.map (fun h : Hd => h.2.2) = S1 ++ F2.map (ngV p) := by rw [hym, List.take_of_length_le (by rw [hF2l_h.out]; exact Nat.le_refl _)]
      rw [← hmidE_h.out] at hym2
      have hbW := below_trans bW_h.out hO.below_ bW_h.out.size
      have hbWo := hO.below_
      have k0 := box_below k00_h.out hO.below_
      have k1 := box_below k10_h.out hO.below_
      have k2 := box_below k2_h.out hO.below_
      have hbS : Below wo.heap.size wo wo.drew := below_drewN (Below.refl _ _) 1
      clear hym hAd k0_h k1_h
      have hylen : ys.length = M := by rw [hyl, hq0, hM_h.out]
      have hqM : q0 = M := by rw [← hylen, hyl]
      subst hqM
      have hym2_h := Lib.hid hym2
      have hyl_h := Lib.hid hyl
      have hO_h := Lib.hid hO
      have hbW_h := Lib.hid hbW
      have hbWo_h := Lib.hid hbWo
      have k0_h := Lib.hid k0
      have k1_h := Lib.hid k1
      have k2_h := Lib.hid k2
      have hbS_h := Lib.hid hbS
      have hq0_h := Lib.hid hq0
      clear hym2 hyl hO hbW hbWo k0 k1 k2 hbS hq0
      go_wp2_with (fail)
      clear hylen
      refine beginH (fun w' => w'.heap[w.heap.size]? = some (.cells #[.int .i64 (a1 : Int), .int .i64 (a2 : Int), .slice Aa ma ca] tRel) ∧ w'.heap[w.heap.size + 1]? = some (.cells #[.int .i64 (a2 : Int), .int .i64 (b2 : Int), .slice Ab mb cb] tRel)) (by kernel_rfl) ?_
      replace k0_h := Lib.hid (box_below k0_h.out hbS_h.out)
      replace k1_h := Lib.hid (box_below k1_h.out hbS_h.out)
      replace k2_h := Lib.hid (box_below k2_h.out hbS_h.out)
      refine takeH 0 (v := ?_) rfl (by kernel_rfl) (by kernel_rfl) (by kernel_rfl) (fun _ _ _ h => h) ⟨k0_h.out, k1_h.out⟩ (by rfl) (fun W' hW' => ?_) ?_; rotate_left; · (obtain ⟨⟨y0, y1, y2⟩, y3, y4, y5⟩ := box3 hW'.1; obtain ⟨⟨x0, x1, x2⟩, x3, x4, x5⟩ := box3 hW'.2; clear hW'; go_simp; first | done | with_reducible rfl)
      simp only [Act.put, List.setIfInBounds_toArray, List.set_cons_zero, List.set_cons_succ]
      refine takeH 1 (v := ?_) rfl (by kernel_rfl) (by kernel_rfl) (by kernel_rfl) (fun _ _ _ h => h) ⟨k0_h.out, k1_h.out⟩ (by rfl) (fun W' hW' => ?_) ?_; rotate_left; · (obtain ⟨⟨y0, y1, y2⟩, y3, y4, y5⟩ := box3 hW'.1; obtain ⟨⟨x0, x1, x2⟩, x3, x4, x5⟩ := box3 hW'.2; clear hW'; go_simp; first | done | with_reducible rfl)
      simp only [Act.put, List.setIfInBounds_toArray, List.set_cons_zero, List.set_cons_succ]
      refine takeH 2 (v := ?_) rfl (by kernel_rfl) (by kernel_rfl) (by kernel_rfl) (fun _ _ _ h => h) ⟨k0_h.out, k1_h.out⟩ (by rfl) (fun W' hW' => ?_) ?_; rotate_left; · (obtain ⟨⟨y0, y1, y2⟩, y3, y4, y5⟩ := box3 hW'.1; obtain ⟨⟨x0, x1, x2⟩, x3, x4, x5⟩ := box3 hW'.2; clear hW'; go_simp; first | done | with_reducible rfl)
      simp only [Act.put, List.setIfInBounds_toArray, List.set_cons_zero, List.set_cons_succ]
      refine takeH 4 (v := ?_) rfl (by kernel_rfl) (by kernel_rfl) (by kernel_rfl) (fun _ _ _ h => h) ⟨k0_h.out, k1_h.out⟩ (by rfl) (fun W' hW' => ?_) ?_; rotate_left; · (obtain ⟨⟨y0, y1, y2⟩, y3, y4, y5⟩ := box3 hW'.1; obtain ⟨⟨x0, x1, x2⟩, x3, x4, x5⟩ := box3 hW'.2; clear hW'; go_simp; first | done | with_reducible rfl)
      simp only [Act.put, List.setIfInBounds_toArray, List.set_cons_zero, List.set_cons_succ]
      refine takeH 5 (v := ?_) rfl (by kernel_rfl) (by kernel_rfl) (by kernel_rfl) (fun _ _ _ h => h) ⟨k0_h.out, k1_h.out⟩ (by rfl) (fun W' hW' => ?_) ?_; rotate_left; · (obtain ⟨⟨y0, y1, y2⟩, y3, y4, y5⟩ := box3 hW'.1; obtain ⟨⟨x0, x1, x2⟩, x3, x4, x5⟩ := box3 hW'.2; clear hW'; go_simp; first | done | with_reducible rfl)
      simp only [Act.put, List.setIfInBounds_toArray, List.set_cons_zero, List.set_cons_succ]
      refine takeH 6 (v := ?_) rfl (by kernel_rfl) (by kernel_rfl) (by kernel_rfl) (fun _ _ _ h => h) ⟨k0_h.out, k1_h.out⟩ (by rfl) (fun W' hW' => ?_) ?_; rotate_left; · (obtain ⟨⟨y0, y1, y2⟩, y3, y4, y5⟩ := box3 hW'.1; obtain ⟨⟨x0, x1, x2⟩, x3, x4, x5⟩ := box3 hW'.2; clear hW'; go_simp; first | done | with_reducible rfl)
      simp only [Act.put, List.setIfInBounds_toArray, List.set_cons_zero, List.set_cons_succ]
      refine' callH 3 (f := _) (args := _) rfl (by kernel_rfl) (by rfl) ?_ ?_; rotate_left 2; · (go_simp; first | done | with_reducible rfl | (constructor <;> with_reducible rfl))
      refine (hEa1_h.out _ (below_trans hbW_h.out hbS_h.out hbW_h.out.size)).mono ?_
      rintro e w3 ⟨A3, e3, g3, m3, rfl, hgl3, hm3, hgm3, hO3⟩
      obtain rfl : ma = m3 := by rw [← hgl3, ← hF1l_h.out, ← hgm3, List.length_map]
      have hb3 := hO3.below_
      have hbo3 := below_trans hbS_h.out hb3 hbS_h.out.size
      replace k0_h := Lib.hid (box_below k0_h.out hb3)
      replace k1_h := Lib.hid (box_below k1_h.out hb3)
      replace k2_h := Lib.hid (box_below k2_h.out hb3)
      refine ⟨_, rfl, ⟨k0_h.out, k1_h.out⟩, ?_⟩
      simp only [Act.put, List.setIfInBounds_toArray, List.set_cons_zero, List.set_cons_succ]
      have hO3_h := Lib.hid hO3
      have hgl3_h := Lib.hid hgl3
      have hgm3_h := Lib.hid hgm3
      have hb3_h := Lib.hid hb3
      have hbo3_h := Lib.hid hbo3
      clear hO3 hgl3 hgm3 hb3 hbo3
      refine' callH 7 (f := _) (args := _) rfl (by kernel_rfl) (by rfl) ?_ ?_; rotate_left 2; · (go_simp; first | done | with_reducible rfl | (constructor <;> with_reducible rfl))
      refine (hEb2_h.out _ (below_trans hbW_h.out hbo3_h.out hbW_h.out.size)).mono ?_
      rintro e w4 ⟨A4, e4, g4, m4, rfl, hgl4, hm4, hgm4, hO4⟩
      obtain rfl : mb = m4 := by rw [← hgl4, ← hS2l_h.out, ← hgm4, List.length_map]
      have hb4 := hO4.below_
      have hbo4 := below_trans hbo3_h.out hb4 hbo3_h.out.size
      have hO34 := hO3_h.out.rdr.below hb4
      replace k0_h := Lib.hid (box_below k0_h.out hb4)
      replace k1_h := Lib.hid (box_below k1_h.out hb4)
      replace k2_h := Lib.hid (box_below k2_h.out hb4)
      refine ⟨_, rfl, ⟨k0_h.out, k1_h.out⟩, ?_⟩
      simp only [Act.put, List.setIfInBounds_toArray, List.set_cons_zero, List.set_cons_succ]
      have hO4_h := Lib.hid hO4
      have hgl4_h := Lib.hid hgl4
      have hgm4_h := Lib.hid hgm4
      have hb4_h := Lib.hid hb4
      have hbo4_h := Lib.hid hbo4
      have hO34_h := Lib.hid hO34
      clear hO4 hgl4 hgm4 hb4 hbo4 hO34
      refine takeH 8 (v := ?_) rfl (by kernel_rfl) (by kernel_rfl) (by kernel_rfl) (fun _ _ _ h => h) ⟨k0_h.out, k1_h.out⟩ (by rfl) (fun W' hW' => ?_) ?_; rotate_left; · (skip; clear hW'; go_simp; first | done | with_reducible rfl)
      simp only [Act.put, List.setIfInBounds_toArray, List.set_cons_zero, List.set_cons_succ]
      refine takeH 9 (v := ?_) rfl (by kernel_rfl) (by kernel_rfl) (by kernel_rfl) (fun _ _ _ h => h) ⟨k0_h.out, k1_h.out⟩ (by rfl) (fun W' hW' => ?_) ?_; rotate_left; · (skip; clear hW'; go_simp; first | done | with_reducible rfl)
      simp only [Act.put, List.setIfInBounds_toArray, List.set_cons_zero, List.set_cons_succ]
      refine doneH (by kernel_rfl) ?_
      go_upto_region 11 with (fail)
      obtain ⟨w5, hw5⟩ : ∃ w5, w5 = w4.alloc (.cells #[] 33) := ⟨_, rfl⟩
      have hN0 : RdO w4 w5 (some ⟨w4.heap.size, 0, none⟩) 0 [] := by rw [hw5]; exact RdO.start w4 w4 (Below.refl _ _)
      rw [← hw5]
      have hw5s : w5.heap.size = w4.heap.size + 1 := by rw [hw5]; simp
      clear hw5
      have hb5 := hN0.below_
      have hbo5 := below_trans hbo4_h.out hb5 hbo4_h.out.size
      replace k0_h := Lib.hid (box_below k0_h.out hb5)
      replace k1_h := Lib.hid (box_below k1_h.out hb5)
      replace k2_h := Lib.hid (box_below k2_h.out hb5)
      obtain ⟨⟨c0, c1, c2⟩, f0, f1, f2⟩ := box3 k0_h.out
      have hK5 := kernel_any p a2 A' c' ys w5 (hO_h.out.rdr.below hbo5) hfld_h.out (by rw [hym2_h.out, hyl_h.out]; exact hmid_h.out) (by rw [hyl_h.out]; omega) (by omega)
      rw [hym2_h.out, ← hK_h.out, hyl_h.out] at hK5
      have hN0_h := Lib.hid hN0
      have hb5_h := Lib.hid hb5
      have hbo5_h := Lib.hid hbo5
      have hK5_h := Lib.hid hK5
      clear hN0 hb5 hbo5 hK5
      go_wp2_with (fail)
      refine (hK5_h.out).mono ?_
      rintro e w6 hret
      obtain ⟨A5, c5, rfl, hKm5⟩ := hret.om
      obtain ⟨hsK, hKL, hKO, hKf, _⟩ := id hKm5
      have hKw5 : w5.heap.size = w4.heap.size + 1 := hw5s
      clear c0 c1 c2 f0 f1 f2
      obtain ⟨kk, hkk⟩ : ∃ kk, kk = K.length := ⟨_, rfl⟩
      rw [← hkk]
      have hk48 : kk ≤ 48 := by rw [hkk]; have := hKm_h.out.1; omega
      have hb6 := hKm5.below_
      have hN1 := hN0_h.out.below hb6
      have hbo6 := below_trans hbo5_h.out hb6 hbo5_h.out.size
      have hb46 := below_trans hb5_h.out hb6 hb5_h.out.size
      have hO36 := hO34_h.out.below hb46
      have hO46 := hO4_h.out.rdr.below hb46
      replace k0_h := Lib.hid (box_below k0_h.out hb6)
      replace k1_h := Lib.hid (box_below k1_h.out hb6)
      replace k2_h := Lib.hid (box_below k2_h.out hb6)
      clear hret hw5s
      have hKm5_h := Lib.hid hKm5
      have hkk_h := Lib.hid hkk
      have hb6_h := Lib.hid hb6
      have hN1_h := Lib.hid hN1
      have hbo6_h := Lib.hid hbo6
      have hb46_h := Lib.hid hb46
      have hO36_h := Lib.hid hO36
      have hO46_h := Lib.hid hO46
      have hKL_h := Lib.hid hKL
      have hKO_h := Lib.hid hKO
      have hKf_h := Lib.hid hKf
      have hKw5_h := Lib.hid hKw5
      clear hKm5 hkk hb6 hN1 hbo6 hb46 hO36 hO46 hKL hKO hKf hKw5
      go_wp2_with (fail)
      go_loopw [58, 13] (fun i v wr => ∃ (k : Nat) (A' : Option Addr) (c' : Nat) (zs : List Hd) (q : Nat), k ≤ kk ∧ i = .int .i64 k ∧ q = k ∧ v = .slice A' q c' ∧ zs.length = q ∧ zs.map (fun h : Hd => h.2.2) = (K.take k).map g ∧ RdO w4 wr A' c' zs ∧ Keeps (· = w4.heap.size) w6 wr ∧ ∀ b, b ∈ fpA A' → b = w4.heap.size ∨ w6.heap.size ≤ b) (fun i _ _ => kk - (intOf i).toNat)
      case atStart => exact ⟨0, some ⟨w4.heap.size, 0, none⟩, 0, [], 0, Nat.zero_le _, rfl, rfl, rfl, rfl, rfl, hN1_h.out, Keeps.refl _ _, fun b hb => .inl (by simpa using hb)⟩
      case round =>
        clear hN1_h
        obtain ⟨k, A', c', zs, q0, hk, rfl, hq0, rfl, hzl, hzm, hO, hKe, hfA⟩ := hrel
        obtain ⟨wi, rfl⟩ : ∃ x, x = wr := ⟨_, rfl⟩
        have hb4i := hO.below_
        have hw4l : w4.heap.size < w6.heap.size := by have := hKw5_h.out; have := hb6_h.out.size; omega
        have hbWi := below_trans hbWo_h.out (below_trans hbo4_h.out hb4i hbo4_h.out.size) hbWo_h.out.size
        have k0r := box_below k00_h.out hbWi
        have k1r := box_below k10_h.out hbWi
        by_cases hlt : k < kk
        · have hkI : (k : Int) < (kk : Int) := by omega
          have hq48 : q0 ≤ 48 := by omega
          have hKOi : OwR wi A5 c5 hsK := hKO_h.out.keeps hKe fun b hb e => by have := hKf_h.out b hb; have := hKw5_h.out; omega
          have hsKl : hsK.length = kk := by rw [hkk_h.out, hKL_h.out, List.length_map]
          obtain ⟨ad, B, d, u, hA5, hx, hcu, hfu, hI⟩ := hKOi.get (i := k) (by rw [hsKl]; exact hlt)
          subst hA5
          have hKk : K[k]? = some u := by rw [hKL_h.out, List.getElem?_map, hx]; rfl
          have hur := hKm_h.out.2.row u (List.mem_of_getElem? hKk)
          have hul := hur.1
          rw [hul] at hcu
          obtain ⟨B1, hr1, hI1, hf1⟩ := take_sl hI hul (k := ma) (by rw [hM_h.out]; omega)
          obtain ⟨B2, e2', hr2, hI2, hf2⟩ := drop_sl (r := mb) hI hul (by rw [hM_h.out])
          have hl1 : (u.take ma).length = ma := by rw [List.length_take, hul, hM_h.out]; omega
          have hl2 : (u.drop ma).length = mb := by rw [List.length_drop, hul, hM_h.out]; omega
          have hres1 : Res p (u.take ma) := fun x hx => hur.2 x (List.mem_of_mem_take hx)
          have hres2 : Res p (u.drop ma) := fun x hx => hur.2 x (List.mem_of_mem_drop hx)
          have hC1 := fun (W' : World) (hb : Below wi.heap.size wi W') => combine_any p a1 ma A3 B1 e3 d g3 (u.take ma) F1 W' ((hO34_h.out.below hb4i).below hb) hgm3_h.out hF1l_h.out ((hI1.below hb).rd) hl1 hres1 hF1m_h.out (by have := hpbb_h.out; omega) hpbb_h.out.2 (by omega) (by omega)
          have hC2 := fun (W' : World) (hb : Below wi.heap.size wi W') => combine_any p b2 mb A4 B2 e4 e2' g4 (u.drop ma) S2 W' ((hO4_h.out.rdr.below hb4i).below hb) hgm4_h.out hS2l_h.out ((hI2.below hb).rd) hl2 hres2 hS2m_h.out (by have := hpbb_h.out; omega) hpbb_h.out.2 (by omega) (by omega)
          obtain ⟨x, hxe⟩ : ∃ x, x = cmbTo p a1 (u.take ma) F1 ma := ⟨_, rfl⟩
          obtain ⟨z, hze⟩ : ∃ z, z = cmbTo p b2 (u.drop ma) S2 mb := ⟨_, rfl⟩
          have hxl : x.length = a1 := by rw [hxe]; exact cmbTo_length _ _ _ _ _
          have hzl' : z.length = b2 := by rw [hze]; exact cmbTo_length _ _ _ _ _
          have hgu : x ++ z = g u := by rw [hxe, hze]; exact (hgE_h.out u).symm
          simp only [← hxe] at hC1
          simp only [← hze] at hC2
          have hKt : (K.take (k + 1)).map g = (K.take k).map g ++ [g u] := by rw [List.take_add_one, hKk, List.map_append]; rfl
          have hbS : Below wi.heap.size wi wi.drew := below_drewN (Below.refl _ _) 1
          clear hI1 hI2 hres1 hres2 hl1 hl2 hI hur hul hxe hze hf1 hf2 hKk hfu hx hKOi hsKl hb4i
          have hzl_h := Lib.hid hzl
          have hzm_h := Lib.hid hzm
          have hO_h := Lib.hid hO
          have hbWi_h := Lib.hid hbWi
          have k0r_h := Lib.hid k0r
          have k1r_h := Lib.hid k1r
          have hC1_h := Lib.hid hC1
          have hC2_h := Lib.hid hC2
          have hxl_h := Lib.hid hxl
          have hzl'_h := Lib.hid hzl'
          have hgu_h := Lib.hid hgu
          have hKt_h := Lib.hid hKt
          have hr1_h := Lib.hid hr1
          have hr2_h := Lib.hid hr2
          have hq0_h := Lib.hid hq0
          have hbS_h := Lib.hid hbS
          have hKe_h := Lib.hid hKe
          have hfA_h := Lib.hid hfA
          have hw4l_h := Lib.hid hw4l
          clear hzl hzm hO hbWi k0r k1r hC1 hC2 hxl hzl' hgu hKt hr1 hr2 hq0 hbS hKe hfA hw4l
          go_wp2_with (fail)
          refine beginH (fun w' => w'.heap[w.heap.size]? = some (.cells #[.int .i64 (a1 : Int), .int .i64 (a2 : Int), .slice Aa ma ca] tRel)) (by kernel_rfl) ?_
          clear hcu
          replace k0r_h := Lib.hid (box_below k0r_h.out hbS_h.out)
          refine takeH 0 (v := ?_) rfl (by kernel_rfl) (by kernel_rfl) (by kernel_rfl) (fun _ _ _ h => h) k0r_h.out (by rfl) (fun W' hW' => ?_) ?_; rotate_left; · (skip; clear hW'; go_simp; first | done | with_reducible rfl)
          simp only [Act.put, List.setIfInBounds_toArray, List.set_cons_zero, List.set_cons_succ]
          refine takeH 1 (v := ?_) rfl (by kernel_rfl) (by kernel_rfl) (by kernel_rfl) (fun _ _ _ h => h) k0r_h.out (by rfl) (fun W' hW' => ?_) ?_; rotate_left; · (skip; clear hW'; go_simp; first | done | with_reducible rfl)
          simp only [Act.put, List.setIfInBounds_toArray, List.set_cons_zero, List.set_cons_succ]
          refine takeH 2 (v := ?_) rfl (by kernel_rfl) (by kernel_rfl) (by kernel_rfl) (fun _ _ _ h => h) k0r_h.out (by rfl) (fun W' hW' => ?_) ?_; rotate_left; · (skip; clear hW'; go_simp; first | done | with_reducible rfl)
          simp only [Act.put, List.setIfInBounds_toArray, List.set_cons_zero, List.set_cons_succ]
          refine takeH 3 (v := ?_) rfl (by kernel_rfl) (by kernel_rfl) (by kernel_rfl) (fun _ _ _ h => h) k0r_h.out (by rfl) (fun W' hW' => ?_) ?_; rotate_left; · (skip; clear hW'; go_simp; first | done | with_reducible rfl)
          simp only [Act.put, List.setIfInBounds_toArray, List.set_cons_zero, List.set_cons_succ]
          refine takeH 4 (v := .slice B1 ma d) rfl (by kernel_rfl) (by kernel_rfl) (by kernel_rfl) (fun _ _ _ h => h) k0r_h.out (by rfl) (fun W' _ => xop_sliceW rfl (hr1_h.out W')) ?_
          simp only [Act.put, List.setIfInBounds_toArray, List.set_cons_zero, List.set_cons_succ]
          refine takeH 5 (v := ?_) rfl (by kernel_rfl) (by kernel_rfl) (by kernel_rfl) (fun _ _ _ h => h) k0r_h.out (by rfl) (fun W' hW' => ?_) ?_; rotate_left; · (obtain ⟨⟨y0, y1, y2⟩, y3, y4, y5⟩ := box3 hW'; clear hW'; go_simp; first | done | with_reducible rfl)
          simp only [Act.put, List.setIfInBounds_toArray, List.set_cons_zero, List.set_cons_succ]
          refine takeH 6 (v := ?_) rfl (by kernel_rfl) (by kernel_rfl) (by kernel_rfl) (fun _ _ _ h => h) k0r_h.out (by rfl) (fun W' hW' => ?_) ?_; rotate_left; · (obtain ⟨⟨y0, y1, y2⟩, y3, y4, y5⟩ := box3 hW'; clear hW'; go_simp; first | done | with_reducible rfl)
          simp only [Act.put, List.setIfInBounds_toArray, List.set_cons_zero, List.set_cons_succ]
          refine takeH 7 (v := ?_) rfl (by kernel_rfl) (by kernel_rfl) (by kernel_rfl) (fun _ _ _ h => h) k0r_h.out (by rfl) (fun W' hW' => ?_) ?_; rotate_left; · (obtain ⟨⟨y0, y1, y2⟩, y3, y4, y5⟩ := box3 hW'; clear hW'; go_simp; first | done | with_reducible rfl)
          simp only [Act.put, List.setIfInBounds_toArray, List.set_cons_zero, List.set_cons_succ]
          refine' callH 8 (f := _) (args := _) rfl (by kernel_rfl) (by rfl) ?_ ?_; rotate_left 2; · (go_simp; first | done | with_reducible rfl | (constructor <;> with_reducible rfl))
          refine (hC1_h.out _ hbS_h.out).mono ?_
          rintro e w7 ⟨Ax, cx, rfl, hix, hfx, hbx⟩
          rw [hxl_h.out]
          replace k0r_h := Lib.hid (box_below k0r_h.out hbx)
          have hb7 := below_trans hbS_h.out hbx hbS_h.out.size
          have hfx2 : Fresh wi.heap.size Ax := fun b hb => Nat.le_trans hbS_h.out.size (hfx b hb)
          refine ⟨_, rfl, k0r_h.out, ?_⟩
          simp only [Act.put, List.setIfInBounds_toArray, List.set_cons_zero, List.set_cons_succ]
          have hix_h := Lib.hid hix
          have hfx_h := Lib.hid hfx
          have hbx_h := Lib.hid hbx
          have hb7_h := Lib.hid hb7
          have hfx2_h := Lib.hid hfx2
          clear hix hfx hbx hb7 hfx2
          refine takeH 9 (v := ?_) rfl (by kernel_rfl) (by kernel_rfl) (by kernel_rfl) (fun _ _ _ h => h) k0r_h.out (by rfl) (fun W' hW' => ?_) ?_; rotate_left; · (skip; clear hW'; go_simp; first | done | with_reducible rfl)
          simp only [Act.put, List.setIfInBounds_toArray, List.set_cons_zero, List.set_cons_succ]
          refine doneH (by kernel_rfl) ?_
          have k1q := box_below k1r_h.out hb7_h.out
          have hbd7 : Below w7.heap.size w7 w7.drew := below_drewN (Below.refl _ _) 1
          have hb8 := below_trans hb7_h.out hbd7 hb7_h.out.size
          have k1q_h := Lib.hid k1q
          have hbd7_h := Lib.hid hbd7
          have hb8_h := Lib.hid hb8
          clear k1q hbd7 hb8
          go_wp2_with (fail)
          refine beginH (fun w' => w'.heap[w.heap.size + 1]? = some (.cells #[.int .i64 (a2 : Int), .int .i64 (b2 : Int), .slice Ab mb cb] tRel)) (by kernel_rfl) ?_
          replace k1q_h := Lib.hid (box_below k1q_h.out hbd7_h.out)
          refine takeH 0 (v := ?_) rfl (by kernel_rfl) (by kernel_rfl) (by kernel_rfl) (fun _ _ _ h => h) k1q_h.out (by rfl) (fun W' hW' => ?_) ?_; rotate_left; · (skip; clear hW'; go_simp; first | done | with_reducible rfl)
          simp only [Act.put, List.setIfInBounds_toArray, List.set_cons_zero, List.set_cons_succ]
          refine takeH 1 (v := ?_) rfl (by kernel_rfl) (by kernel_rfl) (by kernel_rfl) (fun _ _ _ h => h) k1q_h.out (by rfl) (fun W' hW' => ?_) ?_; rotate_left; · (skip; clear hW'; go_simp; first | done | with_reducible rfl)
          simp only [Act.put, List.setIfInBounds_toArray, List.set_cons_zero, List.set_cons_succ]
          refine takeH 2 (v := ?_) rfl (by kernel_rfl) (by kernel_rfl) (by kernel_rfl) (fun _ _ _ h => h) k1q_h.out (by rfl) (fun W' hW' => ?_) ?_; rotate_left; · (skip; clear hW'; go_simp; first | done | with_reducible rfl)
          simp only [Act.put, List.setIfInBounds_toArray, List.set_cons_zero, List.set_cons_succ]
          refine takeH 3 (v := ?_) rfl (by kernel_rfl) (by kernel_rfl) (by kernel_rfl) (fun _ _ _ h => h) k1q_h.out (by rfl) (fun W' hW' => ?_) ?_; rotate_left; · (skip; clear hW'; go_simp; first | done | with_reducible rfl)
          simp only [Act.put, List.setIfInBounds_toArray, List.set_cons_zero, List.set_cons_succ]
          refine takeH 4 (v := .slice B2 mb e2') rfl (by kernel_rfl) (by kernel_rfl) (by kernel_rfl) (fun _ _ _ h => h) k1q_h.out (by rfl) (fun W' _ => xop_sliceW rfl (hr2_h.out W')) ?_
          simp only [Act.put, List.setIfInBounds_toArray, List.set_cons_zero, List.set_cons_succ]
          refine takeH 5 (v := ?_) rfl (by kernel_rfl) (by kernel_rfl) (by kernel_rfl) (fun _ _ _ h => h) k1q_h.out (by rfl) (fun W' hW' => ?_) ?_; rotate_left; · (obtain ⟨⟨y0, y1, y2⟩, y3, y4, y5⟩ := box3 hW'; clear hW'; go_simp; first | done | with_reducible rfl)
          simp only [Act.put, List.setIfInBounds_toArray, List.set_cons_zero, List.set_cons_succ]
          refine takeH 6 (v := ?_) rfl (by kernel_rfl) (by kernel_rfl) (by kernel_rfl) (fun _ _ _ h => h) k1q_h.out (by rfl) (fun W' hW' => ?_) ?_; rotate_left; · (obtain ⟨⟨y0, y1, y2⟩, y3, y4, y5⟩ := box3 hW'; clear hW'; go_simp; first | done | with_reducible rfl)
          simp only [Act.put, List.setIfInBounds_toArray, List.set_cons_zero, List.set_cons_succ]
          refine takeH 7 (v := ?_) rfl (by kernel_rfl) (by kernel_rfl) (by kernel_rfl) (fun _ _ _ h => h) k1q_h.out (by rfl) (fun W' hW' => ?_) ?_; rotate_left; · (obtain ⟨⟨y0, y1, y2⟩, y3, y4, y5⟩ := box3 hW'; clear hW'; go_simp; first | done | with_reducible rfl)
          simp only [Act.put, List.setIfInBounds_toArray, List.set_cons_zero, List.set_cons_succ]
          refine' callH 8 (f := _) (args := _) rfl (by kernel_rfl) (by rfl) ?_ ?_; rotate_left 2; · (go_simp; first | done | with_reducible rfl | (constructor <;> with_reducible rfl))
          refine (hC2_h.out _ hb8_h.out).mono ?_
          rintro e w8 ⟨Az, cz, rfl, hiz, hfz, hbz⟩
          rw [hzl'_h.out]
          replace k1q_h := Lib.hid (box_below k1q_h.out hbz)
          have hb9 := below_trans hb8_h.out hbz hb8_h.out.size
          have hix8 := hix_h.out.below (below_trans hbd7_h.out hbz hbd7_h.out.size)
          refine ⟨_, rfl, k1q_h.out, ?_⟩
          simp only [Act.put, List.setIfInBounds_toArray, List.set_cons_zero, List.set_cons_succ]
          have hiz_h := Lib.hid hiz
          have hfz_h := Lib.hid hfz
          have hbz_h := Lib.hid hbz
          have hb9_h := Lib.hid hb9
          have hix8_h := Lib.hid hix8
          clear hiz hfz hbz hb9 hix8
          refine takeH 9 (v := ?_) rfl (by kernel_rfl) (by kernel_rfl) (by kernel_rfl) (fun _ _ _ h => h) k1q_h.out (by rfl) (fun W' hW' => ?_) ?_; rotate_left; · (skip; clear hW'; go_simp; first | done | with_reducible rfl)
          simp only [Act.put, List.setIfInBounds_toArray, List.set_cons_zero, List.set_cons_succ]
          refine doneH (by kernel_rfl) ?_
          have hlr := laid_rdr (w := w8) [(Ax, cx, x), (Az, cz, z)] (fun y hy => by
            simp only [List.mem_cons, List.not_mem_nil, or_false] at hy
            rcases hy with rfl | rfl
            · exact hix8_h.out.rd
            · exact hiz_h.out.rd) (by unfold maxLen; simp)
          have e : (([(Ax, cx, x), (Az, cz, z)] : List Hd).map Hd.val).toArray = #[.slice Ax a1 cx, .slice Az b2 cz] := by simp [Hd.val, hxl_h.out, hzl'_h.out]
          rw [e] at hlr
          have hgl : (g u).length = N := by rw [← hgu_h.out, List.length_append, hxl_h.out, hzl'_h.out, hN_h.out]
          have e2 : (([(Ax, cx, x), (Az, cz, z)] : List Hd).map fun h : Hd => h.2.2).flatten = g u := by rw [← hgu_h.out]; simp
          have hJ := joined_any (some ⟨w8.heap.size, 0, none⟩) 2 [(Ax, cx, x), (Az, cz, z)] _ hlr (by simp) (by rw [e2, hgl]; have := hN_h.out; omega)
          rw [e2] at hJ
          have hal8 := below_alloc w8 (.cells #[.slice Ax a1 cx, .slice Az b2 cz] 33)
          clear hlr e e2
          have hJ_h := Lib.hid hJ
          have hal8_h := Lib.hid hal8
          have hgl_h := Lib.hid hgl
          clear hJ hal8 hgl
          go_wp2_with (fail)
          refine (hJ_h.out).mono ?_
          rintro e w9 ⟨A7, c7, rfl, hi7, hf7, hb10⟩
          rw [hgl_h.out]
          have hb11 := below_trans hb9_h.out (below_trans hal8_h.out hb10 hal8_h.out.size) hb9_h.out.size
          have hal := below_alloc w9 (.cells #[.slice A7 N c7] 33)
          have hba := below_trans hb11 hal hb11.size
          have hfA7 : Fresh wi.heap.size A7 := fun b hb => by have := hf7 b hb; have := hal8_h.out.size; have := hb9_h.out.size; omega
          have hsl : Sl (w9.alloc (.cells #[.slice A7 N c7] 33)) 33 1 A' q0 c' (zs.map Hd.val) := by
            have := (hO_h.out.sl.below hb11).alloc (.cells #[.slice A7 N c7] 33)
            rwa [hzl_h.out] at this
          have hI8 := hi7.below hal
          clear hi7 hf7 hb10
          have hb11_h := Lib.hid hb11
          have hal_h := Lib.hid hal
          have hba_h := Lib.hid hba
          have hfA7_h := Lib.hid hfA7
          have hsl_h := Lib.hid hsl
          have hI8_h := Lib.hid hI8
          clear hb11 hal hba hfA7 hsl hI8
          go_wp2_with (at_builtin; refine wpList_append_Sl _ rfl _ _ _ rfl 33 Tryd.underlying22 info_ints rfl (by omega) rfl (hsl_h.out) rfl (news := [.slice A7 N c7]) rfl (Sl.rdc (Sl.laid w9 33 1 1 #[.slice A7 N c7] (by unfold maxLen; omega) rfl)) (by intro u hu; simp at hu; subst hu; rfl) (by unfold maxLen; omega) (by omega) ?_; intro A9 c9 w10 hsA9 hA9 hkA9)
          have hO2 := hO_h.out.snoc hba_h.out (x := (A7, c7, g u)) hI8_h.out (fun b hb hb' => by
            have h1 := hO_h.out.sl.lt b hb'
            have h2 := hfA7_h.out b hb
            omega) (by rw [hzl_h.out]) (by show Sl w10 _ 1 A9 (q0 + 1) c9 (zs.map Hd.val ++ [.slice A7 (g u).length c7]); rw [hgl_h.out]; exact hsA9) hA9 hkA9
          have hKe2 := (hKe_h.out.trans (Keeps.of_below hba_h.out _)).after hkA9 (fun b hb hb2 => by
            rcases hfA_h.out b hb2 with h | h
            · exact h
            · omega)
          have hfA2 : ∀ b, b ∈ fpA A9 → b = w4.heap.size ∨ w6.heap.size ≤ b := fun b hb => by
            rcases hA9 b hb with h | h
            · exact hfA_h.out b h
            · right; have := hba_h.out.size; have := hKe_h.out.size; omega
          clear hsA9 hA9 hkA9
          have hO2_h := Lib.hid hO2
          have hKe2_h := Lib.hid hKe2
          have hfA2_h := Lib.hid hfA2
          clear hO2 hKe2 hfA2
          go_roundw
          case rel => exact ⟨k + 1, A9, c9, zs ++ [(A7, c7, g u)], q0 + 1, by omega, by go_num, by have := hq0_h.out; omega, rfl, by rw [List.length_append, hzl_h.out]; rfl, by rw [List.map_append, hzm_h.out, hKt_h.out]; rfl, hO2_h.out, hKe2_h.out, hfA2_h.out⟩
          case measure => simp [intOf]; omega
        · obtain rfl : kk = k := by omega
          have hym2 : zs.map (fun h : Hd => h.2.2) = K.map g := by rw [hzm, List.take_of_length_le (by rw [hkk_h.out]; exact Nat.le_refl _)]
          have hC := relation_any p (a1 : Int) (b2 : Int) N A' c' zs wi hO.rdr hfld_h.out hNI_h.out (by rw [hym2]; have := hmat_h.out; rwa [show (K.map g).length = zs.length by rw [← hym2, List.length_map]] at this) (by omega) (by have := hN_h.out; omega)
          rw [hym2, ← hR_h.out, hzl] at hC
          have k2r := box_below k20_h.out hbWi
          have hBr := below_trans bW_h.out hbWi bW_h.out.size
          have hzr := hbWi.size
          have hz2 := box_lt k20_h.out
          obtain ⟨⟨c0, c1, c2⟩, f0, f1, f2⟩ := box3 k0r
          obtain ⟨⟨d0, d1, d2⟩, g0', g1', g2'⟩ := box3 k1r
          clear hzm hym2 hzl hO k0r k1r hKe hfA
          have hC_h := Lib.hid hC
          have k2r_h := Lib.hid k2r
          have hBr_h := Lib.hid hBr
          have hq0_h := Lib.hid hq0
          have hbWi_h := Lib.hid hbWi
          clear hC k2r hBr hq0 hbWi
          go_wp2_with (fail)
          refine (hC_h.out).mono ?_
          rintro e w1 ⟨v1, fp1, rfl, hO1, hf1, hb1⟩
          clear c0 c1 c2 f0 f1 f2 d0 d1 d2 g0' g1' g2'
          obtain ⟨A1', n1', c1', rfl⟩ := hO1.shape
          have k2' := box_below k2r_h.out hb1
          have hB1 := below_trans hBr_h.out hb1 hBr_h.out.size
          obtain ⟨⟨d0, d1, d2⟩, g0', g1', g2'⟩ := box3 k2'
          obtain ⟨s1, s2⟩ := set3 (a := .int .i64 (a1 : Int)) (b := .int .i64 (b2 : Int)) (c := .slice A1' n1' c1') k2'
          have hB3 := below_keeps hB1 s2 hB1.size (fun k hk => by omega)
          have hBs := hBr_h.out.size
          have hO3 := hO1.keeps s2 (fun k hk e => by have := hf1 k hk; omega)
          have hf3 := hf1.mono hBs
          clear k2' hB1 hO1 hf1
          have s1_h := Lib.hid s1
          have s2_h := Lib.hid s2
          have hO3_h := Lib.hid hO3
          have hf3_h := Lib.hid hf3
          have hB3_h := Lib.hid hB3
          clear s1 s2 hO3 hf3 hB3
          go_wp2_with (fail)
          refine bodyPost_ret (results_cell_row rfl _ _ (w.heap.size + 1 + 1) _ _ (0, 0) _ rfl s1_h.out Tryd.underlying43 rfl (by kernel_rfl)) rfl ?_
          exact ⟨_, fp1, rfl, hO3_h.out, hf3_h.out, hB3_h.out⟩
end Go.Proofs.YtahnhblodfdfhaaDoor

namespace Go.Proofs.YtahnhblodfdfhaaDoor
open Go.RowKit
set_option maxRecDepth 100000 in
set_option maxHeartbeats 4000000 in
theorem sComposeRelations_law (p : Int) {v v' : Value} {s t : Sys} {fp fp' : List Nat} {w : World} (h : OwSys w v s fp) (h' : OwSys w v' t fp') (ok : OkR s.2.2) (ok' : OkR t.2.2) :
    Calls Tryd.prog 24 #[.int .i64 p, v, v'] w fun e w' => ∃ v' fp', e = .returned (.tuple #[v', .bool (cmpM p s t).2]) ∧ OwSys w' v' (cmpM p s t).1 fp' ∧ FreshL w.heap.size fp' ∧ Below w.heap.size w w' := by
  obtain ⟨C, hC0⟩ : ∃ C, C = cmpM p s t := ⟨_, rfl⟩
  rw [← hC0]
  unfold cmpM at hC0
  obtain ⟨A, n, c, rfl⟩ := h.shape
  obtain ⟨A', n', c', rfl⟩ := h'.shape
  obtain ⟨W, hW, bW, k0, k1, k2⟩ := alloc3 w (.cells #[.int .i64 s.1, .int .i64 s.2.1, .slice A n c] tRel) (.cells #[.int .i64 t.1, .int .i64 t.2.1, .slice A' n' c'] tRel) (.cells #[.int .i64 0, .int .i64 0, .slice none 0 0] tRel)
  have hG := fun W' (hb : Below W.heap.size W W') => rlGood_any p W' ((h.below bW).below hb).rd ok.1 ok.2.1
  have hG' := fun W' (hb : Below W.heap.size W W') => rlGood_any p W' ((h'.below bW).below hb).rd ok'.1 ok'.2.1
  have hF := fun W' (hb : Below W.heap.size W W') (hs : RelOk p s) (ht : RelOk p t) (hm : s.2.1 = t.1) (hsum : s.1 + t.2.1 ≤ 24) => rlCompose_any p W' ((h.below bW).below hb) ((h'.below bW).below hb) hs ht hm hsum
  by_cases hr : relB p s = true
  · rw [hr, Bool.true_and] at hC0
    have hs := RelOk.of hr
    simp only [hr] at hG
    by_cases hq : relB p t = true
    · rw [hq, Bool.true_and] at hC0
      have ht := RelOk.of hq
      simp only [hq] at hG'
      by_cases hmd : s.2.1 = t.1
      · rw [decide_eq_true hmd, Bool.true_and] at hC0
        have hmb : (s.2.1 != t.1) = false := by rw [hmd]; simp
        have hn1 := hs.lo
        have hn2 := hs.hi
        have hn3 := hs.sum
        have hn4 := ht.lo
        have hn5 := ht.hi
        have hn6 := ht.sum
        by_cases hle : s.1 + t.2.1 ≤ 24
        · rw [decide_eq_true hle, if_pos rfl] at hC0
          obtain ⟨V, hV⟩ : ∃ V, V = cmpV p s t := ⟨_, rfl⟩
          rw [← hV] at hC0
          simp only [← hV] at hF
          subst hC0
          clear h h' ok ok' hr hq
          have hmdI := hmd
          have hG_h := Lib.hid hG
          have hG'_h := Lib.hid hG'
          have hF_h := Lib.hid hF
          have k0_h := Lib.hid k0
          have k1_h := Lib.hid k1
          have k2_h := Lib.hid k2
          have bW_h := Lib.hid bW
          have hs_h := Lib.hid hs
          have ht_h := Lib.hid ht
          have hle_h := Lib.hid hle
          have hV_h := Lib.hid hV
          have hmdI_h := Lib.hid hmdI
          clear hG hG' hF k0 k1 k2 bW hs ht hle hV hmdI
          have hgt : ¬ (24 < s.1 + t.2.1) := by have := hle_h.out; omega
          have hwr : IntKind.i64.wrap (s.1 + t.2.1) = s.1 + t.2.1 := IntWalk.i64_in _ (by omega)
          have hmdH := Lib.hid hmd
          clear hmd
          go_enter Tryd.func24, Tryd.ntmps24
          go_upto_region 1 with (fail)
          rw [← hW]
          clear hW
          obtain ⟨⟨c0, c1, c2⟩, f0, f1, f2⟩ := box3 k0_h.out
          obtain ⟨⟨e0, e1, e2⟩, j0, j1, j2⟩ := box3 k1_h.out
          go_wp2_with (fail)
          refine (hG_h.out W (Below.refl _ _)).mono ?_
          rintro e w1 ⟨rfl, hb1⟩
          clear c0 c1 c2 f0 f1 f2 e0 e1 e2 j0 j1 j2
          replace k0_h := Lib.hid (box_below k0_h.out hb1)
          replace k1_h := Lib.hid (box_below k1_h.out hb1)
          replace k2_h := Lib.hid (box_below k2_h.out hb1)
          have hB1 := below_trans bW_h.out hb1 bW_h.out.size
          have hB1_h := Lib.hid hB1
          have hb1_h := Lib.hid hb1
          clear hB1 hb1
          obtain ⟨⟨c0, c1, c2⟩, f0, f1, f2⟩ := box3 k0_h.out
          obtain ⟨⟨e0, e1, e2⟩, j0, j1, j2⟩ := box3 k1_h.out
          go_wp2_with (fail)
          refine (hG'_h.out w1 hb1_h.out).mono ?_
          rintro e w2 ⟨rfl, hb2⟩
          clear c0 c1 c2 f0 f1 f2 e0 e1 e2 j0 j1 j2
          replace k0_h := Lib.hid (box_below k0_h.out hb2)
          replace k1_h := Lib.hid (box_below k1_h.out hb2)
          replace k2_h := Lib.hid (box_below k2_h.out hb2)
          have hB2 := below_trans hB1_h.out hb2 hB1_h.out.size
          have hb12 := below_trans hb1_h.out hb2 hb1_h.out.size
          have hB2_h := Lib.hid hB2
          have hb2_h := Lib.hid hb2
          have hb12_h := Lib.hid hb12
          clear hB2 hb2 hb12
          obtain ⟨⟨c0, c1, c2⟩, f0, f1, f2⟩ := box3 k0_h.out
          obtain ⟨⟨e0, e1, e2⟩, j0, j1, j2⟩ := box3 k1_h.out
          clear c0 c1 c2 f0 f1 f2 e0 e1 e2 j0 j1 j2
          obtain ⟨⟨c0, c1, c2⟩, f0, f1, f2⟩ := box3 k0_h.out
          obtain ⟨⟨e0, e1, e2⟩, j0, j1, j2⟩ := box3 k1_h.out
          have hF1 := hF_h.out w2 hb12_h.out hs_h.out ht_h.out hmdI_h.out hle_h.out
          have hBf := hB2_h.out
          have hF1_h := Lib.hid hF1
          have hBf_h := Lib.hid hBf
          clear hF1 hBf
          go_wp2_with (fail)
          refine (hF1_h.out).mono ?_
          rintro e wf ⟨v9, fp9, rfl, hO9, hf9, hb9⟩
          clear c0 c1 c2 f0 f1 f2 e0 e1 e2 j0 j1 j2
          obtain ⟨A9, n9, c9, rfl⟩ := hO9.shape
          have hw2 := box_lt k2_h.out
          replace k2_h := Lib.hid (box_below k2_h.out hb9)
          obtain ⟨⟨d0, d1, d2⟩, g0, g1, g2⟩ := box3 k2_h.out
          obtain ⟨s1, s2⟩ := set3 (a := .int .i64 V.1) (b := .int .i64 V.2.1) (c := .slice A9 n9 c9) k2_h.out
          have hB8 := below_trans hBf_h.out hb9 hBf_h.out.size
          have hB9 := below_keeps hB8 s2 hB8.size (fun k hk => by omega)
          have hO8 := hO9.keeps s2 (fun k hk e => by have := hf9 k hk; omega)
          have hf8 := hf9.mono hBf_h.out.size
          clear hB8 hO9 hf9 hb9
          have s1_h := Lib.hid s1
          have s2_h := Lib.hid s2
          have hB9_h := Lib.hid hB9
          have hO8_h := Lib.hid hO8
          have hf8_h := Lib.hid hf8
          clear s1 s2 hB9 hO8 hf8
          go_wp2_with (fail)
          refine bodyPost_ret (results_cell_tmp rfl _ _ (w.heap.size + 1 + 1) _ _ (0, 0) _ rfl s1_h.out Tryd.underlying43 rfl (by kernel_rfl)) rfl ?_
          exact ⟨_, fp9, rfl, hO8_h.out, hf8_h.out, hB9_h.out⟩
        · rw [decide_eq_false hle, if_neg (by simp)] at hC0
          have hC1 : C = ((0, 0, []), false) := hC0
          subst hC1
          clear h h' ok ok' hr hq hC0
          have hG_h := Lib.hid hG
          have hG'_h := Lib.hid hG'
          have hF_h := Lib.hid hF
          have k0_h := Lib.hid k0
          have k1_h := Lib.hid k1
          have k2_h := Lib.hid k2
          have bW_h := Lib.hid bW
          have hs_h := Lib.hid hs
          have ht_h := Lib.hid ht
          have hle_h := Lib.hid hle
          clear hG hG' hF k0 k1 k2 bW hs ht hle
          have hgt : 24 < s.1 + t.2.1 := by have := hle_h.out; omega
          have hwr : IntKind.i64.wrap (s.1 + t.2.1) = s.1 + t.2.1 := IntWalk.i64_in _ (by omega)
          have hmdH := Lib.hid hmd
          clear hmd
          go_enter Tryd.func24, Tryd.ntmps24
          go_upto_region 1 with (fail)
          rw [← hW]
          clear hW
          obtain ⟨⟨c0, c1, c2⟩, f0, f1, f2⟩ := box3 k0_h.out
          obtain ⟨⟨e0, e1, e2⟩, j0, j1, j2⟩ := box3 k1_h.out
          go_wp2_with (fail)
          refine (hG_h.out W (Below.refl _ _)).mono ?_
          rintro e w1 ⟨rfl, hb1⟩
          clear c0 c1 c2 f0 f1 f2 e0 e1 e2 j0 j1 j2
          replace k0_h := Lib.hid (box_below k0_h.out hb1)
          replace k1_h := Lib.hid (box_below k1_h.out hb1)
          replace k2_h := Lib.hid (box_below k2_h.out hb1)
          have hB1 := below_trans bW_h.out hb1 bW_h.out.size
          have hB1_h := Lib.hid hB1
          have hb1_h := Lib.hid hb1
          clear hB1 hb1
          obtain ⟨⟨c0, c1, c2⟩, f0, f1, f2⟩ := box3 k0_h.out
          obtain ⟨⟨e0, e1, e2⟩, j0, j1, j2⟩ := box3 k1_h.out
          go_wp2_with (fail)
          refine (hG'_h.out w1 hb1_h.out).mono ?_
          rintro e w2 ⟨rfl, hb2⟩
          clear c0 c1 c2 f0 f1 f2 e0 e1 e2 j0 j1 j2
          replace k0_h := Lib.hid (box_below k0_h.out hb2)
          replace k1_h := Lib.hid (box_below k1_h.out hb2)
          replace k2_h := Lib.hid (box_below k2_h.out hb2)
          have hB2 := below_trans hB1_h.out hb2 hB1_h.out.size
          have hb12 := below_trans hb1_h.out hb2 hb1_h.out.size
          have hB2_h := Lib.hid hB2
          have hb2_h := Lib.hid hb2
          have hb12_h := Lib.hid hb12
          clear hB2 hb2 hb12
          obtain ⟨⟨c0, c1, c2⟩, f0, f1, f2⟩ := box3 k0_h.out
          obtain ⟨⟨e0, e1, e2⟩, j0, j1, j2⟩ := box3 k1_h.out
          have hzr := box_lt k2_h.out
          obtain ⟨⟨d0, d1, d2⟩, g0, g1, g2⟩ := box3 k2_h.out
          obtain ⟨s1, s2⟩ := set3 (a := .int .i64 0) (b := .int .i64 0) (c := .slice none 0 0) k2_h.out
          have hB9 := below_keeps hB2_h.out s2 (hB2_h.out).size (fun k hk => by omega)
          have s1_h := Lib.hid s1
          have s2_h := Lib.hid s2
          have hB9_h := Lib.hid hB9
          clear s1 s2 hB9
          go_wp2_with (fail)
          refine bodyPost_ret (results_cell_tmp rfl _ _ (w.heap.size + 1 + 1) _ _ (0, 0) _ rfl s1_h.out Tryd.underlying43 rfl (by kernel_rfl)) rfl ?_
          exact ⟨_, [], rfl, OwSys.zero _ 0 0, FreshL.nil _, hB9_h.out⟩
      · rw [decide_eq_false hmd, Bool.false_and, if_neg (by simp)] at hC0
        have hmb : (s.2.1 != t.1) = true := by rw [bne_iff_ne]; exact hmd
        have hC1 : C = ((0, 0, []), false) := hC0
        subst hC1
        clear h h' ok ok' hr hq hC0 hmd
        have hG_h := Lib.hid hG
        have hG'_h := Lib.hid hG'
        have hF_h := Lib.hid hF
        have k0_h := Lib.hid k0
        have k1_h := Lib.hid k1
        have k2_h := Lib.hid k2
        have bW_h := Lib.hid bW
        have hs_h := Lib.hid hs
        have ht_h := Lib.hid ht
        clear hG hG' hF k0 k1 k2 bW hs ht
        go_enter Tryd.func24, Tryd.ntmps24
        go_upto_region 1 with (fail)
        rw [← hW]
        clear hW
        obtain ⟨⟨c0, c1, c2⟩, f0, f1, f2⟩ := box3 k0_h.out
        obtain ⟨⟨e0, e1, e2⟩, j0, j1, j2⟩ := box3 k1_h.out
        go_wp2_with (fail)
        refine (hG_h.out W (Below.refl _ _)).mono ?_
        rintro e w1 ⟨rfl, hb1⟩
        clear c0 c1 c2 f0 f1 f2 e0 e1 e2 j0 j1 j2
        replace k0_h := Lib.hid (box_below k0_h.out hb1)
        replace k1_h := Lib.hid (box_below k1_h.out hb1)
        replace k2_h := Lib.hid (box_below k2_h.out hb1)
        have hB1 := below_trans bW_h.out hb1 bW_h.out.size
        have hB1_h := Lib.hid hB1
        have hb1_h := Lib.hid hb1
        clear hB1 hb1
        obtain ⟨⟨c0, c1, c2⟩, f0, f1, f2⟩ := box3 k0_h.out
        obtain ⟨⟨e0, e1, e2⟩, j0, j1, j2⟩ := box3 k1_h.out
        go_wp2_with (fail)
        refine (hG'_h.out w1 hb1_h.out).mono ?_
        rintro e w2 ⟨rfl, hb2⟩
        clear c0 c1 c2 f0 f1 f2 e0 e1 e2 j0 j1 j2
        replace k0_h := Lib.hid (box_below k0_h.out hb2)
        replace k1_h := Lib.hid (box_below k1_h.out hb2)
        replace k2_h := Lib.hid (box_below k2_h.out hb2)
        have hB2 := below_trans hB1_h.out hb2 hB1_h.out.size
        have hb12 := below_trans hb1_h.out hb2 hb1_h.out.size
        have hB2_h := Lib.hid hB2
        have hb2_h := Lib.hid hb2
        have hb12_h := Lib.hid hb12
        clear hB2 hb2 hb12
        obtain ⟨⟨c0, c1, c2⟩, f0, f1, f2⟩ := box3 k0_h.out
        obtain ⟨⟨e0, e1, e2⟩, j0, j1, j2⟩ := box3 k1_h.out
        have hzr := box_lt k2_h.out
        obtain ⟨⟨d0, d1, d2⟩, g0, g1, g2⟩ := box3 k2_h.out
        obtain ⟨s1, s2⟩ := set3 (a := .int .i64 0) (b := .int .i64 0) (c := .slice none 0 0) k2_h.out
        have hB9 := below_keeps hB2_h.out s2 (hB2_h.out).size (fun k hk => by omega)
        have s1_h := Lib.hid s1
        have s2_h := Lib.hid s2
        have hB9_h := Lib.hid hB9
        clear s1 s2 hB9
        go_wp2_with (fail)
        refine bodyPost_ret (results_cell_tmp rfl _ _ (w.heap.size + 1 + 1) _ _ (0, 0) _ rfl s1_h.out Tryd.underlying43 rfl (by kernel_rfl)) rfl ?_
        exact ⟨_, [], rfl, OwSys.zero _ 0 0, FreshL.nil _, hB9_h.out⟩
    · have hq' : relB p t = false := by simpa using hq
      rw [hq', Bool.false_and, if_neg (by simp)] at hC0
      simp only [hq'] at hG'
      have hC1 : C = ((0, 0, []), false) := hC0
      subst hC1
      clear h h' ok ok' hr hq hq' hC0
      have hG_h := Lib.hid hG
      have hG'_h := Lib.hid hG'
      have hF_h := Lib.hid hF
      have k0_h := Lib.hid k0
      have k1_h := Lib.hid k1
      have k2_h := Lib.hid k2
      have bW_h := Lib.hid bW
      have hs_h := Lib.hid hs
      clear hG hG' hF k0 k1 k2 bW hs
      go_enter Tryd.func24, Tryd.ntmps24
      go_upto_region 1 with (fail)
      rw [← hW]
      clear hW
      obtain ⟨⟨c0, c1, c2⟩, f0, f1, f2⟩ := box3 k0_h.out
      obtain ⟨⟨e0, e1, e2⟩, j0, j1, j2⟩ := box3 k1_h.out
      go_wp2_with (fail)
      refine (hG_h.out W (Below.refl _ _)).mono ?_
      rintro e w1 ⟨rfl, hb1⟩
      clear c0 c1 c2 f0 f1 f2 e0 e1 e2 j0 j1 j2
      replace k0_h := Lib.hid (box_below k0_h.out hb1)
      replace k1_h := Lib.hid (box_below k1_h.out hb1)
      replace k2_h := Lib.hid (box_below k2_h.out hb1)
      have hB1 := below_trans bW_h.out hb1 bW_h.out.size
      have hB1_h := Lib.hid hB1
      have hb1_h := Lib.hid hb1
      clear hB1 hb1
      obtain ⟨⟨c0, c1, c2⟩, f0, f1, f2⟩ := box3 k0_h.out
      obtain ⟨⟨e0, e1, e2⟩, j0, j1, j2⟩ := box3 k1_h.out
      go_wp2_with (fail)
      refine (hG'_h.out w1 hb1_h.out).mono ?_
      rintro e w2 ⟨rfl, hb2⟩
      clear c0 c1 c2 f0 f1 f2 e0 e1 e2 j0 j1 j2
      replace k0_h := Lib.hid (box_below k0_h.out hb2)
      replace k1_h := Lib.hid (box_below k1_h.out hb2)
      replace k2_h := Lib.hid (box_below k2_h.out hb2)
      have hB2 := below_trans hB1_h.out hb2 hB1_h.out.size
      have hb12 := below_trans hb1_h.out hb2 hb1_h.out.size
      have hB2_h := Lib.hid hB2
      have hb2_h := Lib.hid hb2
      have hb12_h := Lib.hid hb12
      clear hB2 hb2 hb12
      obtain ⟨⟨c0, c1, c2⟩, f0, f1, f2⟩ := box3 k0_h.out
      obtain ⟨⟨e0, e1, e2⟩, j0, j1, j2⟩ := box3 k1_h.out
      have hzr := box_lt k2_h.out
      obtain ⟨⟨d0, d1, d2⟩, g0, g1, g2⟩ := box3 k2_h.out
      obtain ⟨s1, s2⟩ := set3 (a := .int .i64 0) (b := .int .i64 0) (c := .slice none 0 0) k2_h.out
      have hB9 := below_keeps hB2_h.out s2 (hB2_h.out).size (fun k hk => by omega)
      have s1_h := Lib.hid s1
      have s2_h := Lib.hid s2
      have hB9_h := Lib.hid hB9
      clear s1 s2 hB9
      go_wp2_with (fail)
      refine bodyPost_ret (results_cell_tmp rfl _ _ (w.heap.size + 1 + 1) _ _ (0, 0) _ rfl s1_h.out Tryd.underlying43 rfl (by kernel_rfl)) rfl ?_
      exact ⟨_, [], rfl, OwSys.zero _ 0 0, FreshL.nil _, hB9_h.out⟩
  · have hr' : relB p s = false := by simpa using hr
    rw [hr', Bool.false_and, if_neg (by simp)] at hC0
    simp only [hr'] at hG
    have hC1 : C = ((0, 0, []), false) := hC0
    subst hC1
    clear h h' ok ok' hr hr' hC0
    have hG_h := Lib.hid hG
    have hG'_h := Lib.hid hG'
    have hF_h := Lib.hid hF
    have k0_h := Lib.hid k0
    have k1_h := Lib.hid k1
    have k2_h := Lib.hid k2
    have bW_h := Lib.hid bW
    clear hG hG' hF k0 k1 k2 bW
    go_enter Tryd.func24, Tryd.ntmps24
    go_upto_region 1 with (fail)
    rw [← hW]
    clear hW
    obtain ⟨⟨c0, c1, c2⟩, f0, f1, f2⟩ := box3 k0_h.out
    obtain ⟨⟨e0, e1, e2⟩, j0, j1, j2⟩ := box3 k1_h.out
    go_wp2_with (fail)
    refine (hG_h.out W (Below.refl _ _)).mono ?_
    rintro e w1 ⟨rfl, hb1⟩
    clear c0 c1 c2 f0 f1 f2 e0 e1 e2 j0 j1 j2
    replace k0_h := Lib.hid (box_below k0_h.out hb1)
    replace k1_h := Lib.hid (box_below k1_h.out hb1)
    replace k2_h := Lib.hid (box_below k2_h.out hb1)
    have hB1 := below_trans bW_h.out hb1 bW_h.out.size
    have hB1_h := Lib.hid hB1
    have hb1_h := Lib.hid hb1
    clear hB1 hb1
    obtain ⟨⟨c0, c1, c2⟩, f0, f1, f2⟩ := box3 k0_h.out
    obtain ⟨⟨e0, e1, e2⟩, j0, j1, j2⟩ := box3 k1_h.out
    have hzr := box_lt k2_h.out
    obtain ⟨⟨d0, d1, d2⟩, g0, g1, g2⟩ := box3 k2_h.out
    obtain ⟨s1, s2⟩ := set3 (a := .int .i64 0) (b := .int .i64 0) (c := .slice none 0 0) k2_h.out
    have hB9 := below_keeps hB1_h.out s2 (hB1_h.out).size (fun k hk => by omega)
    have s1_h := Lib.hid s1
    have s2_h := Lib.hid s2
    have hB9_h := Lib.hid hB9
    clear s1 s2 hB9
    go_wp2_with (fail)
    refine bodyPost_ret (results_cell_tmp rfl _ _ (w.heap.size + 1 + 1) _ _ (0, 0) _ rfl s1_h.out Tryd.underlying43 rfl (by kernel_rfl)) rfl ?_
    exact ⟨_, [], rfl, OwSys.zero _ 0 0, FreshL.nil _, hB9_h.out⟩
set_option maxRecDepth 100000 in
set_option maxHeartbeats 4000000 in
theorem iComposeRelations_law (p : Int) {v v' : Value} {s t : Sys} {fp fp' : List Nat} {w : World} (h : OwSys w v s fp) (h' : OwSys w v' t fp') (ok : OkR s.2.2) (ok' : OkR t.2.2) (hT : Tab w) :
    Calls Tryd.prog 26 #[.int .i64 p, v, v'] w fun e w' => ∃ v' fp', e = .returned (.tuple #[v', .bool (cmpM p s t).2]) ∧ OwSys w' v' (cmpM p s t).1 fp' ∧ FreshL w.heap.size fp' ∧ Below w.heap.size w w' := by
  obtain ⟨C, hC0⟩ : ∃ C, C = cmpM p s t := ⟨_, rfl⟩
  rw [← hC0]
  unfold cmpM at hC0
  obtain ⟨A, n, c, rfl⟩ := h.shape
  obtain ⟨A', n', c', rfl⟩ := h'.shape
  obtain ⟨W, hW, bW, k0, k1, k2⟩ := alloc3 w (.cells #[.int .i64 s.1, .int .i64 s.2.1, .slice A n c] tRel) (.cells #[.int .i64 t.1, .int .i64 t.2.1, .slice A' n' c'] tRel) (.cells #[.int .i64 0, .int .i64 0, .slice none 0 0] tRel)
  have hG := fun W' (hb : Below W.heap.size W W') => isRelation_any p W' ((h.below bW).below hb).rd ((hT.below bW hT.lt).below hb (hT.below bW hT.lt).lt) ok.1 ok.2.1
  have hG' := fun W' (hb : Below W.heap.size W W') => isRelation_any p W' ((h'.below bW).below hb).rd ((hT.below bW hT.lt).below hb (hT.below bW hT.lt).lt) ok'.1 ok'.2.1
  have hF := fun W' (hb : Below W.heap.size W W') (hs : RelOk p s) (ht : RelOk p t) (hm : s.2.1 = t.1) (hsum : s.1 + t.2.1 ≤ 24) => composed_any p W' ((h.below bW).below hb) ((h'.below bW).below hb) hs ht hm hsum
  have hFit := fun W' => fits_any s.1 t.2.1 W'
  by_cases hr : relB p s = true
  · rw [hr, Bool.true_and] at hC0
    have hs := RelOk.of hr
    simp only [hr] at hG
    by_cases hq : relB p t = true
    · rw [hq, Bool.true_and] at hC0
      have ht := RelOk.of hq
      simp only [hq] at hG'
      by_cases hmd : s.2.1 = t.1
      · rw [decide_eq_true hmd, Bool.true_and] at hC0
        have hmb : (s.2.1 != t.1) = false := by rw [hmd]; simp
        have hn1 := hs.lo
        have hn2 := hs.hi
        have hn3 := hs.sum
        have hn4 := ht.lo
        have hn5 := ht.hi
        have hn6 := ht.sum
        by_cases hle : s.1 + t.2.1 ≤ 24
        · rw [decide_eq_true hle, if_pos rfl] at hC0
          obtain ⟨V, hV⟩ : ∃ V, V = cmpV p s t := ⟨_, rfl⟩
          rw [← hV] at hC0
          simp only [← hV] at hF
          subst hC0
          have hfb : fitB s.1 t.2.1 = true := by unfold fitB; simp only [Bool.and_eq_true, decide_eq_true_eq]; omega
          simp only [hfb] at hFit
          clear hfb
          clear h h' ok ok' hr hq hT
          have hmdI := hmd
          have hG_h := Lib.hid hG
          have hG'_h := Lib.hid hG'
          have hF_h := Lib.hid hF
          have k0_h := Lib.hid k0
          have k1_h := Lib.hid k1
          have k2_h := Lib.hid k2
          have bW_h := Lib.hid bW
          have hFit_h := Lib.hid hFit
          have hs_h := Lib.hid hs
          have ht_h := Lib.hid ht
          have hle_h := Lib.hid hle
          have hV_h := Lib.hid hV
          have hmdI_h := Lib.hid hmdI
          clear hG hG' hF k0 k1 k2 bW hFit hs ht hle hV hmdI
          have hmdH := Lib.hid hmd
          clear hmd
          go_enter Tryd.func26, Tryd.ntmps26
          go_upto_region 1 with (fail)
          rw [← hW]
          clear hW
          obtain ⟨⟨c0, c1, c2⟩, f0, f1, f2⟩ := box3 k0_h.out
          obtain ⟨⟨e0, e1, e2⟩, j0, j1, j2⟩ := box3 k1_h.out
          go_wp2_with (fail)
          refine (hG_h.out W (Below.refl _ _)).mono ?_
          rintro e w1 ⟨rfl, hb1⟩
          clear c0 c1 c2 f0 f1 f2 e0 e1 e2 j0 j1 j2
          replace k0_h := Lib.hid (box_below k0_h.out hb1)
          replace k1_h := Lib.hid (box_below k1_h.out hb1)
          replace k2_h := Lib.hid (box_below k2_h.out hb1)
          have hB1 := below_trans bW_h.out hb1 bW_h.out.size
          have hB1_h := Lib.hid hB1
          have hb1_h := Lib.hid hb1
          clear hB1 hb1
          obtain ⟨⟨c0, c1, c2⟩, f0, f1, f2⟩ := box3 k0_h.out
          obtain ⟨⟨e0, e1, e2⟩, j0, j1, j2⟩ := box3 k1_h.out
          go_wp2_with (fail)
          refine (hG'_h.out w1 hb1_h.out).mono ?_
          rintro e w2 ⟨rfl, hb2⟩
          clear c0 c1 c2 f0 f1 f2 e0 e1 e2 j0 j1 j2
          replace k0_h := Lib.hid (box_below k0_h.out hb2)
          replace k1_h := Lib.hid (box_below k1_h.out hb2)
          replace k2_h := Lib.hid (box_below k2_h.out hb2)
          have hB2 := below_trans hB1_h.out hb2 hB1_h.out.size
          have hb12 := below_trans hb1_h.out hb2 hb1_h.out.size
          have hB2_h := Lib.hid hB2
          have hb2_h := Lib.hid hb2
          have hb12_h := Lib.hid hb12
          clear hB2 hb2 hb12
          obtain ⟨⟨c0, c1, c2⟩, f0, f1, f2⟩ := box3 k0_h.out
          obtain ⟨⟨e0, e1, e2⟩, j0, j1, j2⟩ := box3 k1_h.out
          go_wp2_with (fail)
          refine (hFit_h.out w2).mono ?_
          rintro e w2' ⟨rfl, rfl⟩
          clear c0 c1 c2 f0 f1 f2 e0 e1 e2 j0 j1 j2
          obtain ⟨⟨c0, c1, c2⟩, f0, f1, f2⟩ := box3 k0_h.out
          obtain ⟨⟨e0, e1, e2⟩, j0, j1, j2⟩ := box3 k1_h.out
          have hF1 := hF_h.out w2 hb12_h.out hs_h.out ht_h.out hmdI_h.out hle_h.out
          have hBf := hB2_h.out
          have hF1_h := Lib.hid hF1
          have hBf_h := Lib.hid hBf
          clear hF1 hBf
          go_wp2_with (fail)
          refine (hF1_h.out).mono ?_
          rintro e wf ⟨v9, fp9, rfl, hO9, hf9, hb9⟩
          clear c0 c1 c2 f0 f1 f2 e0 e1 e2 j0 j1 j2
          obtain ⟨A9, n9, c9, rfl⟩ := hO9.shape
          have hw2 := box_lt k2_h.out
          replace k2_h := Lib.hid (box_below k2_h.out hb9)
          obtain ⟨⟨d0, d1, d2⟩, g0, g1, g2⟩ := box3 k2_h.out
          obtain ⟨s1, s2⟩ := set3 (a := .int .i64 V.1) (b := .int .i64 V.2.1) (c := .slice A9 n9 c9) k2_h.out
          have hB8 := below_trans hBf_h.out hb9 hBf_h.out.size
          have hB9 := below_keeps hB8 s2 hB8.size (fun k hk => by omega)
          have hO8 := hO9.keeps s2 (fun k hk e => by have := hf9 k hk; omega)
          have hf8 := hf9.mono hBf_h.out.size
          clear hB8 hO9 hf9 hb9
          have s1_h := Lib.hid s1
          have s2_h := Lib.hid s2
          have hB9_h := Lib.hid hB9
          have hO8_h := Lib.hid hO8
          have hf8_h := Lib.hid hf8
          clear s1 s2 hB9 hO8 hf8
          go_wp2_with (fail)
          refine bodyPost_ret (results_cell_tmp rfl _ _ (w.heap.size + 1 + 1) _ _ (0, 0) _ rfl s1_h.out Tryd.underlying43 rfl (by kernel_rfl)) rfl ?_
          exact ⟨_, fp9, rfl, hO8_h.out, hf8_h.out, hB9_h.out⟩
        · rw [decide_eq_false hle, if_neg (by simp)] at hC0
          have hC1 : C = ((0, 0, []), false) := hC0
          subst hC1
          have hfb : fitB s.1 t.2.1 = false := by unfold fitB; simp only [Bool.and_eq_false_iff, decide_eq_false_iff_not]; omega
          simp only [hfb] at hFit
          clear hfb
          clear h h' ok ok' hr hq hC0 hT
          have hG_h := Lib.hid hG
          have hG'_h := Lib.hid hG'
          have hF_h := Lib.hid hF
          have k0_h := Lib.hid k0
          have k1_h := Lib.hid k1
          have k2_h := Lib.hid k2
          have bW_h := Lib.hid bW
          have hFit_h := Lib.hid hFit
          have hs_h := Lib.hid hs
          have ht_h := Lib.hid ht
          have hle_h := Lib.hid hle
          clear hG hG' hF k0 k1 k2 bW hFit hs ht hle
          have hmdH := Lib.hid hmd
          clear hmd
          go_enter Tryd.func26, Tryd.ntmps26
          go_upto_region 1 with (fail)
          rw [← hW]
          clear hW
          obtain ⟨⟨c0, c1, c2⟩, f0, f1, f2⟩ := box3 k0_h.out
          obtain ⟨⟨e0, e1, e2⟩, j0, j1, j2⟩ := box3 k1_h.out
          go_wp2_with (fail)
          refine (hG_h.out W (Below.refl _ _)).mono ?_
          rintro e w1 ⟨rfl, hb1⟩
          clear c0 c1 c2 f0 f1 f2 e0 e1 e2 j0 j1 j2
          replace k0_h := Lib.hid (box_below k0_h.out hb1)
          replace k1_h := Lib.hid (box_below k1_h.out hb1)
          replace k2_h := Lib.hid (box_below k2_h.out hb1)
          have hB1 := below_trans bW_h.out hb1 bW_h.out.size
          have hB1_h := Lib.hid hB1
          have hb1_h := Lib.hid hb1
          clear hB1 hb1
          obtain ⟨⟨c0, c1, c2⟩, f0, f1, f2⟩ := box3 k0_h.out
          obtain ⟨⟨e0, e1, e2⟩, j0, j1, j2⟩ := box3 k1_h.out
          go_wp2_with (fail)
          refine (hG'_h.out w1 hb1_h.out).mono ?_
          rintro e w2 ⟨rfl, hb2⟩
          clear c0 c1 c2 f0 f1 f2 e0 e1 e2 j0 j1 j2
          replace k0_h := Lib.hid (box_below k0_h.out hb2)
          replace k1_h := Lib.hid (box_below k1_h.out hb2)
          replace k2_h := Lib.hid (box_below k2_h.out hb2)
          have hB2 := below_trans hB1_h.out hb2 hB1_h.out.size
          have hb12 := below_trans hb1_h.out hb2 hb1_h.out.size
          have hB2_h := Lib.hid hB2
          have hb2_h := Lib.hid hb2
          have hb12_h := Lib.hid hb12
          clear hB2 hb2 hb12
          obtain ⟨⟨c0, c1, c2⟩, f0, f1, f2⟩ := box3 k0_h.out
          obtain ⟨⟨e0, e1, e2⟩, j0, j1, j2⟩ := box3 k1_h.out
          go_wp2_with (fail)
          refine (hFit_h.out w2).mono ?_
          rintro e w2' ⟨rfl, rfl⟩
          have hzr := box_lt k2_h.out
          obtain ⟨⟨d0, d1, d2⟩, g0, g1, g2⟩ := box3 k2_h.out
          obtain ⟨s1, s2⟩ := set3 (a := .int .i64 0) (b := .int .i64 0) (c := .slice none 0 0) k2_h.out
          have hB9 := below_keeps hB2_h.out s2 (hB2_h.out).size (fun k hk => by omega)
          have s1_h := Lib.hid s1
          have s2_h := Lib.hid s2
          have hB9_h := Lib.hid hB9
          clear s1 s2 hB9
          go_wp2_with (fail)
          refine bodyPost_ret (results_cell_tmp rfl _ _ (w.heap.size + 1 + 1) _ _ (0, 0) _ rfl s1_h.out Tryd.underlying43 rfl (by kernel_rfl)) rfl ?_
          exact ⟨_, [], rfl, OwSys.zero _ 0 0, FreshL.nil _, hB9_h.out⟩
      · rw [decide_eq_false hmd, Bool.false_and, if_neg (by simp)] at hC0
        have hmb : (s.2.1 != t.1) = true := by rw [bne_iff_ne]; exact hmd
        have hC1 : C = ((0, 0, []), false) := hC0
        subst hC1
        clear h h' ok ok' hr hq hC0 hmd hT
        have hG_h := Lib.hid hG
        have hG'_h := Lib.hid hG'
        have hF_h := Lib.hid hF
        have k0_h := Lib.hid k0
        have k1_h := Lib.hid k1
        have k2_h := Lib.hid k2
        have bW_h := Lib.hid bW
        have hFit_h := Lib.hid hFit
        have hs_h := Lib.hid hs
        have ht_h := Lib.hid ht
        clear hG hG' hF k0 k1 k2 bW hFit hs ht
        go_enter Tryd.func26, Tryd.ntmps26
        go_upto_region 1 with (fail)
        rw [← hW]
        clear hW
        obtain ⟨⟨c0, c1, c2⟩, f0, f1, f2⟩ := box3 k0_h.out
        obtain ⟨⟨e0, e1, e2⟩, j0, j1, j2⟩ := box3 k1_h.out
        go_wp2_with (fail)
        refine (hG_h.out W (Below.refl _ _)).mono ?_
        rintro e w1 ⟨rfl, hb1⟩
        clear c0 c1 c2 f0 f1 f2 e0 e1 e2 j0 j1 j2
        replace k0_h := Lib.hid (box_below k0_h.out hb1)
        replace k1_h := Lib.hid (box_below k1_h.out hb1)
        replace k2_h := Lib.hid (box_below k2_h.out hb1)
        have hB1 := below_trans bW_h.out hb1 bW_h.out.size
        have hB1_h := Lib.hid hB1
        have hb1_h := Lib.hid hb1
        clear hB1 hb1
        obtain ⟨⟨c0, c1, c2⟩, f0, f1, f2⟩ := box3 k0_h.out
        obtain ⟨⟨e0, e1, e2⟩, j0, j1, j2⟩ := box3 k1_h.out
        go_wp2_with (fail)
        refine (hG'_h.out w1 hb1_h.out).mono ?_
        rintro e w2 ⟨rfl, hb2⟩
        clear c0 c1 c2 f0 f1 f2 e0 e1 e2 j0 j1 j2
        replace k0_h := Lib.hid (box_below k0_h.out hb2)
        replace k1_h := Lib.hid (box_below k1_h.out hb2)
        replace k2_h := Lib.hid (box_below k2_h.out hb2)
        have hB2 := below_trans hB1_h.out hb2 hB1_h.out.size
        have hb12 := below_trans hb1_h.out hb2 hb1_h.out.size
        have hB2_h := Lib.hid hB2
        have hb2_h := Lib.hid hb2
        have hb12_h := Lib.hid hb12
        clear hB2 hb2 hb12
        obtain ⟨⟨c0, c1, c2⟩, f0, f1, f2⟩ := box3 k0_h.out
        obtain ⟨⟨e0, e1, e2⟩, j0, j1, j2⟩ := box3 k1_h.out
        have hzr := box_lt k2_h.out
        obtain ⟨⟨d0, d1, d2⟩, g0, g1, g2⟩ := box3 k2_h.out
        obtain ⟨s1, s2⟩ := set3 (a := .int .i64 0) (b := .int .i64 0) (c := .slice none 0 0) k2_h.out
        have hB9 := below_keeps hB2_h.out s2 (hB2_h.out).size (fun k hk => by omega)
        have s1_h := Lib.hid s1
        have s2_h := Lib.hid s2
        have hB9_h := Lib.hid hB9
        clear s1 s2 hB9
        go_wp2_with (fail)
        refine bodyPost_ret (results_cell_tmp rfl _ _ (w.heap.size + 1 + 1) _ _ (0, 0) _ rfl s1_h.out Tryd.underlying43 rfl (by kernel_rfl)) rfl ?_
        exact ⟨_, [], rfl, OwSys.zero _ 0 0, FreshL.nil _, hB9_h.out⟩
    · have hq' : relB p t = false := by simpa using hq
      rw [hq', Bool.false_and, if_neg (by simp)] at hC0
      simp only [hq'] at hG'
      have hC1 : C = ((0, 0, []), false) := hC0
      subst hC1
      clear h h' ok ok' hr hq hq' hC0 hT
      have hG_h := Lib.hid hG
      have hG'_h := Lib.hid hG'
      have hF_h := Lib.hid hF
      have k0_h := Lib.hid k0
      have k1_h := Lib.hid k1
      have k2_h := Lib.hid k2
      have bW_h := Lib.hid bW
      have hFit_h := Lib.hid hFit
      have hs_h := Lib.hid hs
      clear hG hG' hF k0 k1 k2 bW hFit hs
      go_enter Tryd.func26, Tryd.ntmps26
      go_upto_region 1 with (fail)
      rw [← hW]
      clear hW
      obtain ⟨⟨c0, c1, c2⟩, f0, f1, f2⟩ := box3 k0_h.out
      obtain ⟨⟨e0, e1, e2⟩, j0, j1, j2⟩ := box3 k1_h.out
      go_wp2_with (fail)
      refine (hG_h.out W (Below.refl _ _)).mono ?_
      rintro e w1 ⟨rfl, hb1⟩
      clear c0 c1 c2 f0 f1 f2 e0 e1 e2 j0 j1 j2
      replace k0_h := Lib.hid (box_below k0_h.out hb1)
      replace k1_h := Lib.hid (box_below k1_h.out hb1)
      replace k2_h := Lib.hid (box_below k2_h.out hb1)
      have hB1 := below_trans bW_h.out hb1 bW_h.out.size
      have hB1_h := Lib.hid hB1
      have hb1_h := Lib.hid hb1
      clear hB1 hb1
      obtain ⟨⟨c0, c1, c2⟩, f0, f1, f2⟩ := box3 k0_h.out
      obtain ⟨⟨e0, e1, e2⟩, j0, j1, j2⟩ := box3 k1_h.out
      go_wp2_with (fail)
      refine (hG'_h.out w1 hb1_h.out).mono ?_
      rintro e w2 ⟨rfl, hb2⟩
      clear c0 c1 c2 f0 f1 f2 e0 e1 e2 j0 j1 j2
      replace k0_h := Lib.hid (box_below k0_h.out hb2)
      replace k1_h := Lib.hid (box_below k1_h.out hb2)
      replace k2_h := Lib.hid (box_below k2_h.out hb2)
      have hB2 := below_trans hB1_h.out hb2 hB1_h.out.size
      have hb12 := below_trans hb1_h.out hb2 hb1_h.out.size
      have hB2_h := Lib.hid hB2
      have hb2_h := Lib.hid hb2
      have hb12_h := Lib.hid hb12
      clear hB2 hb2 hb12
      obtain ⟨⟨c0, c1, c2⟩, f0, f1, f2⟩ := box3 k0_h.out
      obtain ⟨⟨e0, e1, e2⟩, j0, j1, j2⟩ := box3 k1_h.out
      have hzr := box_lt k2_h.out
      obtain ⟨⟨d0, d1, d2⟩, g0, g1, g2⟩ := box3 k2_h.out
      obtain ⟨s1, s2⟩ := set3 (a := .int .i64 0) (b := .int .i64 0) (c := .slice none 0 0) k2_h.out
      have hB9 := below_keeps hB2_h.out s2 (hB2_h.out).size (fun k hk => by omega)
      have s1_h := Lib.hid s1
      have s2_h := Lib.hid s2
      have hB9_h := Lib.hid hB9
      clear s1 s2 hB9
      go_wp2_with (fail)
      refine bodyPost_ret (results_cell_tmp rfl _ _ (w.heap.size + 1 + 1) _ _ (0, 0) _ rfl s1_h.out Tryd.underlying43 rfl (by kernel_rfl)) rfl ?_
      exact ⟨_, [], rfl, OwSys.zero _ 0 0, FreshL.nil _, hB9_h.out⟩
  · have hr' : relB p s = false := by simpa using hr
    rw [hr', Bool.false_and, if_neg (by simp)] at hC0
    simp only [hr'] at hG
    have hC1 : C = ((0, 0, []), false) := hC0
    subst hC1
    clear h h' ok ok' hr hr' hC0 hT
    have hG_h := Lib.hid hG
    have hG'_h := Lib.hid hG'
    have hF_h := Lib.hid hF
    have k0_h := Lib.hid k0
    have k1_h := Lib.hid k1
    have k2_h := Lib.hid k2
    have bW_h := Lib.hid bW
    have hFit_h := Lib.hid hFit
    clear hG hG' hF k0 k1 k2 bW hFit
    go_enter Tryd.func26, Tryd.ntmps26
    go_upto_region 1 with (fail)
    rw [← hW]
    clear hW
    obtain ⟨⟨c0, c1, c2⟩, f0, f1, f2⟩ := box3 k0_h.out
    obtain ⟨⟨e0, e1, e2⟩, j0, j1, j2⟩ := box3 k1_h.out
    go_wp2_with (fail)
    refine (hG_h.out W (Below.refl _ _)).mono ?_
    rintro e w1 ⟨rfl, hb1⟩
    clear c0 c1 c2 f0 f1 f2 e0 e1 e2 j0 j1 j2
    replace k0_h := Lib.hid (box_below k0_h.out hb1)
    replace k1_h := Lib.hid (box_below k1_h.out hb1)
    replace k2_h := Lib.hid (box_below k2_h.out hb1)
    have hB1 := below_trans bW_h.out hb1 bW_h.out.size
    have hB1_h := Lib.hid hB1
    have hb1_h := Lib.hid hb1
    clear hB1 hb1
    obtain ⟨⟨c0, c1, c2⟩, f0, f1, f2⟩ := box3 k0_h.out
    obtain ⟨⟨e0, e1, e2⟩, j0, j1, j2⟩ := box3 k1_h.out
    have hzr := box_lt k2_h.out
    obtain ⟨⟨d0, d1, d2⟩, g0, g1, g2⟩ := box3 k2_h.out
    obtain ⟨s1, s2⟩ := set3 (a := .int .i64 0) (b := .int .i64 0) (c := .slice none 0 0) k2_h.out
    have hB9 := below_keeps hB1_h.out s2 (hB1_h.out).size (fun k hk => by omega)
    have s1_h := Lib.hid s1
    have s2_h := Lib.hid s2
    have hB9_h := Lib.hid hB9
    clear s1 s2 hB9
    go_wp2_with (fail)
    refine bodyPost_ret (results_cell_tmp rfl _ _ (w.heap.size + 1 + 1) _ _ (0, 0) _ rfl s1_h.out Tryd.underlying43 rfl (by kernel_rfl)) rfl ?_
    exact ⟨_, [], rfl, OwSys.zero _ 0 0, FreshL.nil _, hB9_h.out⟩
end Go.Proofs.YtahnhblodfdfhaaDoor

namespace Go.Proofs.YtahnhblodfdfhaaDoor
open Go.ChangeShapes Go.WideShapes Go.ChangeAt Go.RowKit
theorem own : ownKnob Tryd.prog.godebug = none := by kernel_rfl
theorem laidOut : laidOutB Tryd.prog = true := by kernel_rfl
theorem gTab : Tryd.prog.globalNamed "loop.example/g01073/impl.smallPrimes" = some 0 := by kernel_rfl
theorem gTabType : (Tryd.prog.globals[0]?).map (·.type) = some 167 := by kernel_rfl
theorem cellsTab : Tryd.prog.cellsOf 167 = 4 := by kernel_rfl
theorem cellsInt : Tryd.prog.cellsOf 3 = 1 := by kernel_rfl
/-- What the row's list gives: the table of small primes. -/
theorem tab_of_laid {W : World} (h : laidMetH Tryd.prog [("loop.example/g01073/impl.smallPrimes", Rows.laid_loop_example_g01073_impl_smallPrimes)] W) : Tab W := by
  have ht : Lib.TabIs Tryd.prog W "loop.example/g01073/impl.smallPrimes" .i64 [2, 3, 5, 7] :=
    Lib.tabIs_of_head (rest := []) gTab gTabType Tryd.underlying167 Tryd.underlying3 cellsInt cellsTab h
  exact ⟨ht.cell gTab 0 (by decide), ht.cell gTab 1 (by decide), ht.cell gTab 2 (by decide), ht.cell gTab 3 (by decide)⟩
section
variable {H : Type} {enc : TypeId × Value → H} {P : Program} {W W' : World}
theorem trodAll_below (hl : laidOutB P = true) (hb : Below W.heap.size W W') : ∀ (ts : List TypeId) (vs : List Value) (ds : List (DataW H)) (p : List MemPlace),
    (∀ t ∈ ts, P.readableRec t = true ∧ t < P.types.size) → DataW.TrodAll enc P W 0 (fun _ => true) true ts vs ds p → (∀ x ∈ p, x.block < W.heap.size) →
    DataW.TrodAll enc P W' 0 (fun b => decide (b < W.heap.size)) true ts vs ds p
  | [], vs, ds, p, _, h, _ => by obtain ⟨rfl, rfl, rfl⟩ := trodAll_nil h; exact trodAll_mk0
  | t :: ts, vs, ds, p, hr, h, hp => by
    obtain ⟨v, vs', d, ds', p1, q1, rfl, rfl, rfl, h1, h2⟩ := trodAll_cons h
    exact trodAll_cons_mk (Below.trod hl (hr t (by simp)).1 (hr t (by simp)).2 h1 hb fun x hx => hp x (by simp [hx]))
      (trodAll_below hl hb ts vs' ds' q1 (fun t' ht' => hr t' (by simp [ht'])) h2 fun x hx => hp x (by simp [hx]))
theorem trodVars_below (hl : laidOutB P = true) (hb : Below W.heap.size W W') : ∀ (ns : List String) (gs : List (DataW H)) (p : List MemPlace),
    (∀ n ∈ ns, ∀ g t, P.globalNamed n = some g → (P.globals[g]?).map (·.type) = some t → P.readableRec t = true ∧ t < P.types.size) → DataW.TrodVars enc P W (fun _ => true) ns gs p → (∀ x ∈ p, x.block < W.heap.size) →
    DataW.TrodVars enc P W' (fun b => decide (b < W.heap.size)) ns gs p
  | [], [], p, _, h, _ => h
  | [], _ :: _, p, _, h, _ => by simp [DataW.TrodVars] at h
  | _ :: _, [], p, _, h, _ => by simp [DataW.TrodVars] at h
  | n :: ns, d :: ds, p, hr, h, hp => by
    obtain ⟨g, t, cs, fuel, p1, q1, h1, h2, h3, h4, h5, rfl⟩ := h
    have hg : g < W.heap.size := by
      simp only [World.var?, h1, Option.bind_some] at h3
      rcases Nat.lt_or_ge g W.heap.size with hlt | hge
      · exact hlt
      · rw [Array.getElem?_eq_none hge] at h3; simp at h3
    have hT : DataW.Trod enc P W 0 (fun _ => true) true t (.agg cs) d p1 := ⟨fuel, h4⟩
    obtain ⟨fuel', h4'⟩ := Below.trod hl (hr n (by simp) g t h1 h2).1 (hr n (by simp) g t h1 h2).2 hT hb fun x hx => hp x (by simp [hx])
    exact ⟨g, t, cs, fuel', p1, q1, h1, h2, var?_below hb h1 hg h3, h4', trodVars_below hl hb ns ds q1 (fun n' hn' => hr n' (by simp [hn'])) h5 fun x hx => hp x (by simp [hx]), rfl⟩
/-- THE LAST STEP. -/
theorem post_true {f : Func} {s : ChangeSpec} {tB : TypeId} {args : Array Value} {ds gs : List (DataW H)} {before : List MemPlace} (hl : laidOutB P = true)
    (hW : DataW.Whole enc P f.params.toList s.vars false W args.toList ds gs before) (hb : Below W.heap.size W W')
    (hr : ∀ t ∈ f.params.toList, P.readableRec t = true ∧ t < P.types.size)
    (hv : ∀ n ∈ s.vars, ∀ g t, P.globalNamed n = some g → (P.globals[g]?).map (·.type) = some t → P.readableRec t = true ∧ t < P.types.size)
    (hfn : s.fn H (ds ++ gs) = { results := [.lit (.bool true)], args := ds, vars := gs }) (hres : f.resultTypes = #[tB]) (htB : P.underlying tB = some .bool) :
    s.post enc P f false true false false W args (.bool true) W' := by
  have hW' := hW
  obtain ⟨p, q, hA, hV, rfl, _, _⟩ := hW
  have hlt : ∀ x ∈ p ++ q, x.block < W.heap.size := fun x hx => hW'.lt x hx
  refine ⟨ds, gs, p ++ q, [], p, q, hW', ?_, ?_, ?_, hb.frame _, fun h => by cases h⟩
  · rw [hfn, hres]; exact trodAll_cons_mk (shut_bool htB true) trodAll_mk0
  · rw [hfn]; exact trodAll_below hl hb _ _ _ _ hr hA fun x hx => hlt x (by simp [hx])
  · rw [hfn]; exact trodVars_below hl hb _ _ _ hv hV fun x hx => hlt x (by simp [hx])
end
/-- The variables that the rows name are the table alone. -/
theorem vars_ok : ∀ n ∈ ["loop.example/g01073/impl.smallPrimes"], ∀ g t, Tryd.prog.globalNamed n = some g → (Tryd.prog.globals[g]?).map (·.type) = some t → Tryd.prog.readableRec t = true ∧ t < Tryd.prog.types.size := by
  intro n hn g t h1 h2
  obtain rfl := List.mem_singleton.1 hn
  obtain rfl := Option.some.inj (gTab.symm.trans h1)
  obtain rfl := Option.some.inj (gTabType.symm.trans h2)
  exact ⟨by kernel_rfl, of_decide_eq_true (by kernel_rfl)⟩
/-- A WORLD FOR THE WITNESS: the settled one, the table holding what its initialiser lays. -/
noncomputable def laidWorld (os : Os) : World :=
  { World.holding Tryd.prog os ⟨#[], #[], []⟩ with heap := (World.holding Tryd.prog os ⟨#[], #[], []⟩).heap.modify 0 fun
      | .cells _ t frozen => .cells #[.int .i64 2, .int .i64 3, .int .i64 5, .int .i64 7] t frozen
      | o => o }
theorem laid_met (os : Os) (args : Array Value) : laidMet Tryd.prog [("loop.example/g01073/impl.smallPrimes", Rows.laid_loop_example_g01073_impl_smallPrimes)] ((laidWorld os).forCall (fun _ _ => 0) ⟨#[], args, []⟩).memory :=
  laidMet_of_run' 8 (by kernel_rfl) (by kernel_rfl)
set_option maxRecDepth 100000 in
/-- An int that came in. -/
theorem in_int {H : Type} {enc : TypeId × Value → H} {W : World} {v : Value} {d : DataW H} {p : List MemPlace} (hv : Value.okWide Tryd.prog W .any 0 3 v) (h : DataW.Trod enc Tryd.prog W 0 (fun _ => true) true 3 v d p) :
    ∃ n, v = .int .i64 n ∧ -9223372036854775808 ≤ n ∧ n ≤ 9223372036854775807 := by
  obtain ⟨n, rfl, rfl, rfl, wf⟩ := open_int Tryd.underlying3 hv h
  refine ⟨n, rfl, ?_⟩
  simp [Lit.wf, IntKind.min, IntKind.max, IntKind.signed, IntKind.bits] at wf
  omega
end Go.Proofs.YtahnhblodfdfhaaDoor

namespace Go.Proofs.YtahnhblodfdfhaaDoor
open Go.ChangeShapes Go.WideShapes Go.ChangeAt Go.RowKit
theorem cellsInts : Tryd.prog.cellsOf 33 = 1 := by kernel_rfl
/-- Rows that came in. -/
theorem in_rows {H : Type} {enc : TypeId × Value → H} {W : World} {base : Nat} {fuel : Nat} {v : Value} {x : DataW H × List MemPlace} (h : DataW.trod enc Tryd.prog W base (fun _ => true) true fuel 22 [v] = some x) :
    ∃ A cap hs, v = .slice A (hs : List Hd).length cap ∧ RdR W A hs ∧ hs.length ≤ 9223372036854775807 ∧ ∀ y, y ∈ hs → y.2.2.length ≤ 9223372036854775807 := by
  rcases Deep.open_int_rows Tryd.underlying22 Tryd.underlying33 Tryd.underlying3 cellsInts cellsInt h with ⟨hcs, _⟩ | ⟨a, len, cap, A, L, C, Z, hcs, _, hl, hm, _, hr⟩
  · simp at hcs
    subst hcs
    exact ⟨none, 0, [], rfl, ⟨fun i h hh => by simp at hh, fun h hh => by cases hh⟩, by simp, fun y hy => by cases hy⟩
  · simp at hcs
    subst hcs
    have hlen : ((List.range len).map fun r => ((A r, C r, (Z r).take (L r)) : Hd)).length = len := by simp
    refine ⟨some a, cap, (List.range len).map fun r => (A r, C r, (Z r).take (L r)), by rw [hlen], ⟨fun i h hh => ?_, fun h hh => ?_⟩, by unfold maxLen at hm; rw [hlen]; omega, fun y hy => ?_⟩
    · have hi : i < len := by have := (List.getElem?_eq_some_iff.1 hh).1; simpa using this
      obtain ⟨h1, h2, h3, h4, _, _, _⟩ := hr i (by omega)
      rw [List.getElem?_map, List.getElem?_range hi] at hh
      simp at hh
      subst hh
      refine ⟨a, rfl, ?_⟩
      rw [h1]
      show some (Value.slice (A i) (L i) (C i)) = some (Value.slice (A i) ((Z i).take (L i)).length (C i))
      rw [List.length_take, h4, Nat.min_eq_left h2]
    · obtain ⟨r, hr', rfl⟩ := List.mem_map.1 hh
      have hi : r < len := by simpa using hr'
      obtain ⟨h1, h2, h3, h4, _, h6, h7⟩ := hr r (by omega)
      intro j u hj
      show ∃ ad, A r = some ad ∧ _
      have hj' : ((Z r).take (L r))[j]? = some u := hj
      rw [List.getElem?_take] at hj'
      split at hj'
      · rename_i hjl
        cases hA : A r with
        | none => have := h6 hA; omega
        | some a' =>
          obtain ⟨_, h8⟩ := h7 a' hA
          refine ⟨a', rfl, ?_⟩
          rw [h8 j (by omega)]
          simp [List.getD, hj']
      · cases hj'
    · obtain ⟨r, hr', rfl⟩ := List.mem_map.1 hy
      have hi : r < len := by simpa using hr'
      obtain ⟨h1, h2, h3, h4, _, _, _⟩ := hr r (by omega)
      show ((Z r).take (L r)).length ≤ _
      unfold maxLen at h3
      rw [List.length_take]; omega
theorem in_int1 {H : Type} {enc : TypeId × Value → H} {W : World} {base fuel : Nat} {v : Value} {x : DataW H × List MemPlace} (h : DataW.trod enc Tryd.prog W base (fun _ => true) true fuel 3 [v] = some x) :
    ∃ n, v = .int .i64 n ∧ -9223372036854775808 ≤ n ∧ n ≤ 9223372036854775807 := by
  obtain ⟨n, hcs, _, wf⟩ := DataW.trod_int Tryd.underlying3 h
  simp at hcs
  refine ⟨n, hcs, ?_⟩
  simp [Lit.wf, IntKind.min, IntKind.max, IntKind.signed, IntKind.bits] at wf
  omega
end Go.Proofs.YtahnhblodfdfhaaDoor

namespace Go.Proofs.YtahnhblodfdfhaaDoor
open Go.ChangeShapes Go.WideShapes Go.ChangeAt Go.RowKit
/-- The bounds of what came in. -/
def BigRelation (s : Sys) : Prop := (-9223372036854775808 ≤ s.1 ∧ s.1 ≤ 9223372036854775807) ∧ (-9223372036854775808 ≤ s.2.1 ∧ s.2.1 ≤ 9223372036854775807) ∧ s.2.2.length ≤ 9223372036854775807 ∧ ∀ x, x ∈ s.2.2 → x.length ≤ 9223372036854775807
set_option maxRecDepth 100000 in
theorem in_Relation {H : Type} {enc : TypeId × Value → H} {W : World} {v : Value} {d : DataW H} {p : List MemPlace} (hv : Value.okWide Tryd.prog W .any 0 41 v) (h : DataW.Trod enc Tryd.prog W 0 (fun _ => true) true 41 v d p) :
    ∃ s : Sys, RdSysV W v s ∧ BigRelation s := by
  obtain ⟨v0, v1, v2, y0, y1, y2, n, rfl, _, _, h0, h1, h2⟩ := Joins.open_agg3 Tryd.underlying41 (by kernel_rfl) (by kernel_rfl) hv h
  obtain ⟨a, rfl, ha⟩ := in_int1 h0
  obtain ⟨b, rfl, hb⟩ := in_int1 h1
  obtain ⟨A, cap, hs, rfl, hR, hl, hr⟩ := in_rows h2
  exact ⟨(a, b, hs.map fun h : Hd => h.2.2), ⟨A, cap, hs, rfl, rfl, hR⟩, ha, hb, by simpa using hl, fun x hx => by
    obtain ⟨y, hy, rfl⟩ := List.mem_map.1 hx
    exact hr y hy⟩
set_option maxHeartbeats 1000000 in
theorem szRelation_law {v : Value} {s : Sys} (left : Int) {w : World} (h : RdSysV w v s) (hB : BigRelation s) (h0 : 0 ≤ left) (h1 : left ≤ 1048576) :
    Calls Tryd.prog 23 #[v, .int .i64 left] w fun e w' => e = .returned (.int .i64 (szR s.2.2 left)) ∧ Below w.heap.size w w' := by
  obtain ⟨_, _, hn, hr⟩ := hB
  obtain ⟨A, c, hs, rfl, hL, hR⟩ := h
  obtain ⟨a, b, L⟩ := s
  have hL' : L = hs.map (fun h : Hd => h.2.2) := hL
  subst hL'
  have hb : Below w.heap.size w (w.alloc (.cells #[.int .i64 a, .int .i64 b, .slice A hs.length c] 41)) := below_alloc _ _
  have hC := szIntSS_any A c hs left _ (hR.below hb) h0 h1 (by simpa using hn) (fun x hx => hr _ (List.mem_map_of_mem hx))
  obtain ⟨S, hS⟩ : ∃ S, S = szR (hs.map fun h : Hd => h.2.2) left := ⟨_, rfl⟩
  rw [← hS] at hC
  have HC := Lib.hid hC
  have HS := Lib.hid hS
  clear hC hL hR hS
  by_cases hneg : S < 0
  · have hS1 : S = -1 := by have := HS.out; rw [this]; exact szR_neg (by rw [← this]; exact hneg)
    subst hS1
    go_enter Tryd.func23, Tryd.ntmps23
    go_wp2_with (fail)
    refine HC.out.mono ?_
    rintro e w' ⟨rfl, rfl⟩
    go_wp2_with (fail)
    go_ret
    exact ⟨by show Ending.returned _ = .returned (.int .i64 (szR (hs.map fun h : Hd => h.2.2) left)); rw [← HS.out]; rfl, hb⟩
  · go_enter Tryd.func23, Tryd.ntmps23
    go_wp2_with (fail)
    refine HC.out.mono ?_
    rintro e w' ⟨rfl, rfl⟩
    go_wp2_with (fail)
    go_ret
    exact ⟨by show Ending.returned _ = .returned (.int .i64 (szR (hs.map fun h : Hd => h.2.2) left)); rw [← HS.out]; rfl, hb⟩
set_option maxHeartbeats 1000000 in
theorem toRelation_law {v : Value} {s : Sys} {w : World} (h : RdSysV w v s) (ok : OkR s.2.2) :
    Calls Tryd.prog 25 #[v] w fun e w' => ∃ v' fp, e = .returned v' ∧ OwSys w' v' s fp ∧ FreshL w.heap.size fp ∧ Below w.heap.size w w' := by
  obtain ⟨hn, hr, _⟩ := ok
  obtain ⟨A, c, hs, rfl, hL, hR⟩ := h
  obtain ⟨a, b, L⟩ := s
  have hL' : L = hs.map (fun h : Hd => h.2.2) := hL
  subst hL'
  clear hL
  go_enter Tryd.func25, Tryd.ntmps25
  go_wp2_with (fail)
  obtain ⟨W, hW⟩ : ∃ W, W = ((w.alloc (.cells #[.int .i64 a, .int .i64 b, .slice A hs.length c] 41)).alloc (.cells #[.int .i64 0, .int .i64 0, .slice none 0 0] 43)).alloc (.cells #[.int .i64 a, .int .i64 b, .slice none 0 0] 43) := ⟨_, rfl⟩
  have hB0 : Below w.heap.size w W := by rw [hW]; exact (((Below.refl _ _).alloc (Nat.le_refl _) _).alloc (by simp) _).alloc (by simp; omega) _
  have hz : W.heap.size = w.heap.size + 1 + 1 + 1 := by rw [hW]; simp
  have k2 : W.heap[w.heap.size + 1 + 1]? = some (.cells #[.int .i64 a, .int .i64 b, .slice none 0 0] 43) := by
    rw [hW]
    have := heap_alloc_new ((w.alloc (.cells #[.int .i64 a, .int .i64 b, .slice A hs.length c] 41)).alloc (.cells #[.int .i64 0, .int .i64 0, .slice none 0 0] 43)) (.cells #[.int .i64 a, .int .i64 b, .slice none 0 0] 43)
    rwa [World.size_alloc, World.size_alloc] at this
  have k1 : W.heap[w.heap.size + 1]? = some (.cells #[.int .i64 0, .int .i64 0, .slice none 0 0] 43) := by
    rw [hW]
    have := heap_alloc_new (w.alloc (.cells #[.int .i64 a, .int .i64 b, .slice A hs.length c] 41)) (.cells #[.int .i64 0, .int .i64 0, .slice none 0 0] 43)
    rw [World.size_alloc] at this
    rw [Below.heap_alloc _ _ _ (by simp)]
    exact this
  have hT := toIntSS_any A c hs W (hR.below hB0) (by simpa using hn) (fun x hx => hr _ (List.mem_map_of_mem hx))
  rw [← hW]
  have HZ := Lib.hid hz
  clear hW hz
  refine hT.mono ?_
  rintro e w1 ⟨A1, c1, gs, rfl, hgl, hO, hf, hb1⟩
  have k2' := (hb1.block (w.heap.size + 1 + 1) (by rw [HZ.out]; omega)).trans k2
  have k1' := (hb1.block (w.heap.size + 1) (by rw [HZ.out]; omega)).trans k1
  have hlen : (hs.map fun h : Hd => h.2.2).length = gs.length := by rw [hgl, List.length_map]
  rw [hlen]
  have HL := Lib.hid hlen
  have HGL := Lib.hid hgl
  obtain ⟨⟨c20, c21, c22⟩, f20, f21, f22⟩ := box3 k2'
  obtain ⟨⟨c10, c11, c12⟩, f10, f11, f12⟩ := box3 k1'
  have K1 := Lib.hid k1'
  clear k1 k2 hlen hgl hT k1' k2'
  go_wp2_with (fail)
  clear c20 f20 c21 f21 c22 f22 c10 f10 c11 f11 c12 f12
  obtain ⟨w5, hw5⟩ : ∃ w5, w5 = ((((w1.setCell ⟨w.heap.size + 1 + 1, 2, none⟩ (.slice A1 gs.length c1)).setCell ⟨w.heap.size + 1, 0, none⟩ (.int .i64 a)).setCell ⟨w.heap.size + 1, 1, none⟩ (.int .i64 b)).setCell ⟨w.heap.size + 1, 2, none⟩ (.slice A1 gs.length c1)) := ⟨_, rfl⟩
  have hk5 : w5.heap[w.heap.size + 1]? = some (.cells #[.int .i64 a, .int .i64 b, .slice A1 gs.length c1] 43) := by
    have := K1.out
    rw [hw5]
    simp [World.setCell, Array.getElem?_modify, this]
  have hkp : Keeps (fun k => k = w.heap.size + 1 ∨ k = w.heap.size + 1 + 1) w1 w5 := by
    rw [hw5]
    exact ((((Keeps.refl _ w1).setCell (p := ⟨w.heap.size + 1 + 1, 2, none⟩) (.inr rfl) _).setCell (p := ⟨w.heap.size + 1, 0, none⟩) (.inl rfl) _).setCell (p := ⟨w.heap.size + 1, 1, none⟩) (.inl rfl) _).setCell (p := ⟨w.heap.size + 1, 2, none⟩) (.inl rfl) _
  rw [← hw5]
  refine bodyPost_ret (results_cell_row rfl _ w5 (w.heap.size + 1) _ _ (0, 0) _ rfl hk5 Tryd.underlying43 rfl (by kernel_rfl)) rfl ?_
  refine ⟨_, fpA A1 ++ fpR gs, rfl, ⟨A1, c1, gs, rfl, HGL.out, hO.keeps hkp (fun k hk e => ?_), rfl⟩, fun k hk => ?_, below_keeps (below_trans hB0 hb1 hB0.size) hkp (by have := hb1.size; have := HZ.out; omega) (fun k hk => by omega)⟩
  · have := hf k hk; have := HZ.out; omega
  · have := hf k hk; have := HZ.out; omega
end Go.Proofs.YtahnhblodfdfhaaDoor

namespace Go.Proofs.YtahnhblodfdfhaaDoor
open Go.RowKit
set_option maxHeartbeats 1000000 in
theorem eqRelation_law {v v' : Value} {s t : Sys} {w : World} (h : RdSysV w v s) (h' : RdSysV w v' t) (ok : OkR s.2.2) :
    Calls Tryd.prog 27 #[v, v'] w fun e w' => e = .returned (.bool (decide (s = t))) ∧ Below w.heap.size w w' := by
  obtain ⟨hn, hr, _⟩ := ok
  obtain ⟨A, c, hs, rfl, hL, hR⟩ := h
  obtain ⟨B, d, gs, rfl, hM, hS⟩ := h'
  obtain ⟨a1, b1, L⟩ := s
  obtain ⟨a2, b2, M⟩ := t
  have hL' : L = hs.map (fun h : Hd => h.2.2) := hL
  have hM' : M = gs.map (fun h : Hd => h.2.2) := hM
  subst hL' hM'
  have hb : Below w.heap.size w ((w.alloc (.cells #[.int .i64 a1, .int .i64 b1, .slice A hs.length c] 43)).alloc (.cells #[.int .i64 a2, .int .i64 b2, .slice B gs.length d] 43)) :=
    ((Below.refl _ _).alloc (Nat.le_refl _) _).alloc (by simp) _
  have hC := eqIntSS_any A B c d hs gs _ (hR.below hb) (hS.below hb) (by have : (hs.map fun h : Hd => h.2.2).length ≤ 1048576 := hn; simp at this; omega) (fun x hx => by have := hr _ (List.mem_map_of_mem hx); omega)
  have HC := Lib.hid hC
  clear hC hL hM hR hS hr
  by_cases e0 : a1 = a2
  · have h0 : (a1 != a2) = false := by simp [e0]
    have E0 := Lib.hid e0
    clear e0
    by_cases e1 : b1 = b2
    · have h1 : (b1 != b2) = false := by simp [e1]
      have E1 := Lib.hid e1
      clear e1
      go_enter Tryd.func27, Tryd.ntmps27
      go_wp2_with (fail)
      have hC2 := HC.out
      by_cases e9 : (hs.map fun h : Hd => h.2.2) = gs.map fun h : Hd => h.2.2
      · rw [decide_eq_true e9] at hC2
        have E9 := Lib.hid e9
        clear e9
        refine hC2.mono ?_
        clear hC2
        rintro e w1 ⟨rfl, n, rfl⟩
        go_wp2_with (fail)
        go_ret
        exact ⟨ret_bool (decide_eq_true (by rw [E0.out, E1.out, E9.out])).symm, below_drewN hb n⟩
      · rw [decide_eq_false e9] at hC2
        have E9 := Lib.hid e9
        clear e9
        refine hC2.mono ?_
        clear hC2
        rintro e w1 ⟨rfl, n, rfl⟩
        go_wp2_with (fail)
        go_ret
        exact ⟨ret_bool (decide_eq_false (fun e => E9.out (congrArg (·.2.2) e))).symm, below_drewN hb n⟩
    · have h1 : (b1 != b2) = true := by simp [e1]
      have E1 := Lib.hid e1
      clear e1
      go_enter Tryd.func27, Tryd.ntmps27
      go_wp2_with (fail)
      go_ret
      exact ⟨ret_bool (by have := E1.out; simp [this]), hb⟩
  · have h0 : (a1 != a2) = true := by simp [e0]
    have E0 := Lib.hid e0
    clear e0
    go_enter Tryd.func27, Tryd.ntmps27
    go_wp2_with (fail)
    go_ret
    exact ⟨ret_bool (by have := E0.out; simp [this]), hb⟩
set_option maxHeartbeats 1000000 in
theorem markRelation_law {v : Value} {s : Sys} {fp : List Nat} {K : Int} {w : World} (k : Nat) (h : OwSys w v s fp) (hK : K = (k : Int)) (ok : OkR s.2.2) (hl : k + cntR s.2.2 ≤ 17592186044416) :
    Calls Tryd.prog 28 #[v, .int .i64 K] w fun e w' => e = .returned (.int .i64 (K + (cntR s.2.2 : Int))) ∧ HeSys w' v s k fp ∧ Keeps (· ∈ fp) w w' := by
  obtain ⟨A, c, hs, rfl, hL, hO, rfl⟩ := h
  subst hK
  have hb : Below w.heap.size w (w.alloc (.cells #[.int .i64 s.1, .int .i64 s.2.1, .slice A hs.length c] 43)) := below_alloc _ _
  have hlen : s.2.2.length = hs.length := by rw [hL, List.length_map]
  have hC := markIntSS_any A c hs.length s.2.2 (fpA A ++ fpR hs) k _ ⟨hs, hL, hO.below hb, fun b hb => hb⟩ hlen (by have := ok.1; omega) hl
  have HC := Lib.hid hC
  have HL := Lib.hid hlen
  clear hC hlen hL ok
  go_enter Tryd.func28, Tryd.ntmps28
  go_wp2_with (fail)
  refine HC.out.mono ?_
  rintro e w1 ⟨rfl, hR, hk⟩
  go_wp2_with (fail)
  go_ret
  obtain ⟨gs, hg, hO', hf⟩ := hR
  have hgl : gs.length = hs.length := by
    have := congrArg List.length hg
    rw [marksR_length, List.length_map, List.length_map, HL.out] at this; exact this.symm
  refine ⟨ret_int (by omega), ⟨A, c, gs, by rw [hgl], hg.symm, hO', hf⟩, (Keeps.of_below hb _).trans hk⟩
set_option maxHeartbeats 1000000 in
theorem heldRelation_law {v : Value} {s : Sys} {k : Nat} {fp : List Nat} {K : Int} {w : World} (h : HeSys w v s k fp) (hK : K = (k : Int)) (ok : OkR s.2.2) (hl : k + cntR s.2.2 ≤ 17592186044416) :
    Calls Tryd.prog 29 #[v, .int .i64 K] w fun e w' => e = .returned (.int .i64 (K + (cntR s.2.2 : Int))) ∧ Below w.heap.size w w' := by
  obtain ⟨A, c, hs, rfl, hL, hO, _⟩ := h
  subst hK
  have hb : Below w.heap.size w (w.alloc (.cells #[.int .i64 s.1, .int .i64 s.2.1, .slice A hs.length c] 43)) := below_alloc _ _
  have hlen : s.2.2.length = hs.length := by have := congrArg List.length hL; rw [List.length_map, marksR_length, List.length_map] at this; exact this.symm
  have hC := heldIntSS_any A c hs s.2.2 k _ (hO.rd.below hb) hL (by have := ok.1; omega) hl
  have HC := Lib.hid hC
  have hnn : ¬ ((k + cntR s.2.2 : Nat) : Int) < 0 := by omega
  clear hC hlen hL ok
  go_enter Tryd.func29, Tryd.ntmps29
  go_wp2_with (fail)
  refine HC.out.mono ?_
  rintro e w1 ⟨rfl, rfl⟩
  go_wp2_with (fail)
  go_ret
  exact ⟨ret_int (by omega), hb⟩
end Go.Proofs.YtahnhblodfdfhaaDoor
