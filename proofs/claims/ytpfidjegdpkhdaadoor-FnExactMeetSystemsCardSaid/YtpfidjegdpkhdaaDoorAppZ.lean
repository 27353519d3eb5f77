/-
  append(s, make([]T, k)...): what it leaves, in a plain region and in drawn ones.
-/
import Derived.Test.YtpfidjegdpkhdaaDoorRegC
import Derived.Lib.AppendZerosOnto
namespace Go.Proofs.YtpfidjegdpkhdaaDoor
open Go.RowKit
open Go.Lib

section
variable {P : Program} (w : World)
theorem run_appendZ_Sl (t tn ty e : TypeId) (i : TypeInfo) (z : Value) (size bytes : Nat) (ht : P.underlying t = some (.slice e)) {kn : IntKind} (htn : P.underlying tn = some (.int kn)) (hi : P.info? e = some i) (hz : i.zero = some z)
    (hsize : i.size = size) (hby : i.bytes = bytes) (hzs : z.cells.size = size) (hsz : 0 < size) (hz1 : ∀ k, ∀ u ∈ (Builtin.zeroCells z.cells k).toList, u.oneCell' = true)
    (A : Option Addr) (n cap : Nat) (xs : List Value) (hs : Sl w e size A n cap xs) (k : Nat)
    (h63 : n + k ≤ maxLen) (hbytes : (n + k) * bytes ≤ 140737488355328) :
    ∃ A' cap' w', (Builtin.append_ #[t, tn] ty #[.slice A n cap, .int .i64 (k : Int)]).run P w = .ok (.slice A' (n + k) cap') w' ∧ Sl w' e size A' (n + k) cap' (xs ++ (Builtin.zeroCells z.cells k).toList) ∧
      (∀ b, b ∈ fpA A' → b ∈ fpA A ∨ w.heap.size ≤ b) ∧ Keeps (· ∈ fpA A) w w' := by
  subst hsize
  subst hby
  obtain ⟨new, hnew⟩ : ∃ new, new = (Builtin.zeroCells z.cells k).toList := ⟨_, rfl⟩
  have hl : new.length = k * i.size := by rw [hnew, Array.length_toList, size_zeroCells, hzs]
  have h1 : ∀ u ∈ new, u.oneCell' = true := by rw [hnew]; exact hz1 k
  have hmx : n + k ≤ 9223372036854775807 := by have := h63; simp only [maxLen] at this; omega
  have hw0 : IntKind.i64.wrap (0 : Int) = 0 := by rw [IntKind.wrap_i64]; omega
  have hw : IntKind.i64.wrap (k : Int) = k := by rw [IntKind.wrap_i64]; omega
  have hneg : ¬ ((k : Int) < 0) := by omega
  have h48i : ¬ (281474976710656 < (k : Int) * (i.bytes : Int)) := by
    rw [← Int.natCast_mul]
    have := Nat.mul_le_mul_right i.bytes (show k ≤ n + k by omega)
    omega
  rw [← hnew]
  obtain ⟨hxl, hnc, hcm, hh⟩ := hs
  by_cases hroom : n + k ≤ cap
  · by_cases h0 : k = 0
    · subst h0
      have hn0 : new = [] := List.eq_nil_of_length_eq_zero (by simpa using hl)
      have hrun : (Builtin.append_ #[t, tn] ty #[.slice A n cap, .int .i64 ((0 : Nat) : Int)]).run P w = .ok (.slice A (n + 0) cap) w := by
        have hroom' : n ≤ cap := hroom
        cases A with
        | none => simp [Builtin.append_, run_underlying ht, run_underlying htn, sizeOf, typeInfo, hi, asInt, asIntOf, hroom', hw0]
        | some a => simp [Builtin.append_, run_underlying ht, run_underlying htn, sizeOf, typeInfo, hi, asInt, asIntOf, hroom', hw0, storeCells]
      refine ⟨A, cap, w, hrun, ?_, fun b hb => .inl hb, Keeps.refl _ _⟩
      rw [hn0, List.append_nil, Nat.add_zero]
      exact ⟨hxl, hnc, hcm, hh⟩
    · have hns : ¬ (k * i.size = 0) := Nat.mul_ne_zero h0 (by omega)
      rcases hh with ⟨rfl, rfl⟩ | ⟨g, off, cur, rfl, hg, hc, htake⟩
      · omega
      · have hlen : (xs ++ new).length = (n + k) * i.size := by rw [List.length_append, hxl, hl, Nat.add_mul]
        have hfit : off + n * i.size + new.length ≤ cur.size := by
          rw [hl]
          have h2 := Nat.mul_le_mul_right i.size hroom
          rw [Nat.add_mul] at h2; omega
        have hst := run_storeCells_at P g (off + n * i.size) e new 0 cur w hg (by simpa using hfit) h1
        simp only [Nat.add_zero] at hst
        refine ⟨some ⟨g, off, none⟩, cap, w.setRow g (cur.toList.take (off + n * i.size) ++ new ++ cur.toList.drop (off + n * i.size + new.length)).toArray, ?_, ⟨hlen, hroom, hcm, .inr ⟨g, off, _, rfl, setRow_heap w g cur _ e _ hg, ?_, ?_⟩⟩, fun b hb => .inl hb, ⟨rfl, rfl, rfl, by simp, fun k _ hk => setRow_other w g k _ (fun e => hk (by simp [e]))⟩⟩
        · simp [Builtin.append_, run_underlying ht, run_underlying htn, sizeOf, typeInfo, zeroValue, hi, hz, asInt, asIntOf, hw, hneg, h48i, hns, hroom, addr_lit, ← hnew, hst]
        · simp only [List.size_toArray, List.length_append, List.length_take, List.length_drop, Array.length_toList]
          omega
        · have hcl : off + n * i.size ≤ cur.toList.length := by simp; omega
          have e1 : (List.take (off + n * i.size) cur.toList).drop off = xs := by
            rw [List.drop_take, ← htake, Nat.add_sub_cancel_left]
          have e2 : off ≤ (List.take (off + n * i.size) cur.toList).length := by simp; omega
          rw [List.append_assoc, List.drop_append_of_le_length e2, e1, ← List.append_assoc, ← hlen]
          exact List.take_left
  · have hfc : (Builtin.firstCells i.size n (.slice A n cap)).run P w.drew = .ok xs.toArray w.drew := by
      rcases hh with ⟨rfl, rfl⟩ | ⟨g, off, cur, rfl, hg, hc, htake⟩
      · have hn : n = 0 := by omega
        subst hn
        have : xs = [] := List.eq_nil_of_length_eq_zero (by simpa using hxl)
        rw [this]; exact run_firstCells_none w.drew i.size 0 0 0
      · have hS : Sl w.drew e i.size (some ⟨g, off, none⟩) n cap xs := ⟨hxl, hnc, hcm, .inr ⟨g, off, cur, rfl, hg, hc, htake⟩⟩
        refine run_firstCells_some (P := P) w.drew i.size n ⟨g, off, none⟩ n cap xs hxl fun j u hj => ?_
        obtain ⟨ad, h, _, hcell, _⟩ := hS.cell hj
        obtain rfl := Option.some.inj h
        exact hcell
    have hrun := run_append_grow_zeros (P := P) w t tn ty e i z .i64 kn ht htn hi hz A n cap xs hfc k (by omega) hsz (by omega) (by omega) (by
      have := Nat.mul_le_mul_right i.bytes (show k ≤ n + k by omega); omega) (growslice_fits (by omega) hbytes)
    have hge := grownCap_ge w (n + k) cap e
    refine ⟨_, _, _, hrun, ⟨by rw [List.length_append, hxl, hl, Nat.add_mul], hge, grownCap_le_maxLen w (n + k) cap e h63, .inr ⟨w.heap.size, 0, _, rfl, heap_alloc_new w.drew _, ?_, ?_⟩⟩, fun b hb => ?_, ⟨rfl, rfl, rfl, by simp, fun b hb _ => Below.heap_alloc w.drew _ b hb⟩⟩
    · simp only [Array.size_append, List.size_toArray, size_zeroCells, hzs, hxl, ← Nat.add_mul]
      rw [Nat.add_sub_of_le hge]; omega
    · simp only [Array.toList_append, List.append_assoc, List.drop_zero]
      rw [← List.append_assoc, ← hnew]
      have : (xs ++ new).length = (n + k) * i.size := by rw [List.length_append, hxl, hl, Nat.add_mul]
      rw [← this]
      exact List.take_left
    · right
      have : b = w.heap.size := by simpa using hb
      omega
end
theorem zeroInts (k : Nat) : (Builtin.zeroCells (Value.int .i64 0).cells k).toList = ints (List.replicate k 0) := by
  unfold Builtin.zeroCells
  apply List.ext_getElem?
  intro j
  simp only [Value.cells, Array.toList_map, Array.toList_range, List.getElem?_map, ints, List.getElem?_replicate, List.size_toArray, List.length_cons, List.length_nil, Nat.zero_add, Nat.mul_one, Nat.mod_one]
  by_cases h : j < k
  · simp [h]
  · simp [h]
section
variable {P : Program} {l : List Oper} {Q : Exit → Act → World → Prop} {md : Region.Mode} {S : World → Prop} {z : Nat} {F : World → Prop}
/-- append(s, make([]int, k)...) in a drawn region (S held). -/
theorem appZeroH (i : Nat) {o : Oper} {fuel : Nat} {listed : Array Bool} {a : Act} {w : World} {l' : List Oper} (hd : l.drop i = o :: l') (hr : Region.ready md l.toArray listed = [i]) (hw : Region.wanted o (yielded l.toArray a.tmps) = true)
    (s x : Operand) (t tn : TypeId) (ho : o.op = .call { callee := .builtin .append, args := #[s, x], argTypes := #[t, tn] })
    (e : TypeId) {bytes : Nat} (ht : P.underlying t = some (.slice e)) {kn : IntKind} (htn : P.underlying tn = some (.int kn)) (hinfo : (P.info? e).map (fun i => (i.zero, i.size, i.bytes)) = some (some (.int .i64 0), 1, bytes))
    {A : Option Addr} {n cap : Nat} {xs : List Int} (he : a.eval s = .slice A n cap) (hs : Sl w e 1 A n cap (ints xs)) (k : Nat) (hx : a.eval x = .int .i64 (k : Int))
    (h63 : n + k ≤ maxLen) (hbytes : (n + k) * bytes ≤ 140737488355328)
    (h : ∀ A' cap' w', Sl w' e 1 A' (n + k) cap' (ints (xs ++ List.replicate k 0)) → (∀ b, b ∈ fpA A' → b ∈ fpA A ∨ w.heap.size ≤ b) → Keeps (· ∈ fpA A) w w' → S w' ∧ wpAnyH P md l.toArray Q S fuel (listed.setIfInBounds i true) (a.put o.dst (.slice A' (n + k) cap')) w') : wpAnyH P md l.toArray Q S (fuel + 1) listed a w := by
  obtain ⟨i', hi, hz, hz1, hz2⟩ := info_parts hinfo
  obtain ⟨A', cap', w', hrun, h2, h3, h4⟩ := run_appendZ_Sl (P := P) w t tn o.type e i' _ 1 bytes ht htn hi hz hz1 hz2 rfl (by omega) (fun k u hu => by rw [zeroInts] at hu; exact ints_one _ u hu) A n cap _ hs k h63 hbytes
  rw [zeroInts, show ints xs ++ ints (List.replicate k 0) = ints (xs ++ List.replicate k 0) by simp [ints]] at h2
  obtain ⟨hS, hh⟩ := h A' cap' w' h2 h3 h4
  refine runH i hd hr hw (w1 := w') (v := .slice A' (n + k) cap') ?_ hS hh
  unfold execOp
  simp only [ho, resolve, invoke, builtin, Sem.run_bind, Sem.run_pure, Result.andThen_ok, List.map_toArray, List.map_cons, List.map_nil, he, hx, hrun]
theorem appZeroZ (i : Nat) {o : Oper} {fuel : Nat} {listed : Array Bool} {a : Act} {w : World} {l' : List Oper} (hd : l.drop i = o :: l') (hr : Region.ready md l.toArray listed = [i]) (hw : Region.wanted o (yielded l.toArray a.tmps) = true)
    (s x : Operand) (t tn : TypeId) (ho : o.op = .call { callee := .builtin .append, args := #[s, x], argTypes := #[t, tn] })
    (e : TypeId) {bytes : Nat} (ht : P.underlying t = some (.slice e)) {kn : IntKind} (htn : P.underlying tn = some (.int kn)) (hinfo : (P.info? e).map (fun i => (i.zero, i.size, i.bytes)) = some (some (.int .i64 0), 1, bytes))
    {A : Option Addr} {n cap : Nat} {xs : List Int} (he : a.eval s = .slice A n cap) (hs : Sl w e 1 A n cap (ints xs)) (k : Nat) (hx : a.eval x = .int .i64 (k : Int))
    (h63 : n + k ≤ maxLen) (hbytes : (n + k) * bytes ≤ 140737488355328)
    (h : ∀ A' cap' w', Sl w' e 1 A' (n + k) cap' (ints (xs ++ List.replicate k 0)) → (∀ b, b ∈ fpA A' → b ∈ fpA A ∨ w.heap.size ≤ b) → Keeps (· ∈ fpA A) w w' → ((listed.setIfInBounds i true).getD z true = false → F w') ∧ wpAnyZ P md l.toArray Q z F fuel (listed.setIfInBounds i true) (a.put o.dst (.slice A' (n + k) cap')) w') : wpAnyZ P md l.toArray Q z F (fuel + 1) listed a w := by
  obtain ⟨i', hi, hz, hz1, hz2⟩ := info_parts hinfo
  obtain ⟨A', cap', w', hrun, h2, h3, h4⟩ := run_appendZ_Sl (P := P) w t tn o.type e i' _ 1 bytes ht htn hi hz hz1 hz2 rfl (by omega) (fun k u hu => by rw [zeroInts] at hu; exact ints_one _ u hu) A n cap _ hs k h63 hbytes
  rw [zeroInts, show ints xs ++ ints (List.replicate k 0) = ints (xs ++ List.replicate k 0) by simp [ints]] at h2
  obtain ⟨hS, hh⟩ := h A' cap' w' h2 h3 h4
  refine runZ i hd hr hw (w1 := w') (v := .slice A' (n + k) cap') ?_ hS hh
  unfold execOp
  simp only [ho, resolve, invoke, builtin, Sem.run_bind, Sem.run_pure, Result.andThen_ok, List.map_toArray, List.map_cons, List.map_nil, he, hx, hrun]
end
end Go.Proofs.YtpfidjegdpkhdaaDoor
