/-
  THE WALKS: MeetSystems.

  THE WALK: meet of the program.

  THE WALKS: MeetSystems.

  append(s, make([]T, k)...): what it leaves, in a plain region and in drawn ones.
-/
import Derived.Test.YtpfidjegdpkhdaaDoorRegC
import Derived.Lib.AppendZerosOnto
import Derived.Test.YtpfidjegdpkhdaaDoorRlA
import Derived.Test.YtpfidjegdpkhdaaDoorRlZ
import Derived.Test.YtpfidjegdpkhdaaDoorValid
namespace Go.Proofs.YtpfidjegdpkhdaaDoor
open Go.RowKit
open Go.Lib

section
variable {P : Program} (w : World)
theorem run_appendZ_Sl (t tn ty e : TypeId) (i : TypeInfo) (z : Value) (size bytes : Nat) (ht : P.underlying t = some (.slice e)) {kn : IntKind} (htn : P.underlying tn = some (.int kn)) (hi : P.info? e = some i) (hz : i.zero = some z)
    (hsize : i.size = size) (hby : i.bytes = bytes) (hzs : z.cells.size = size) (hsz : 0 < size) (hz1 : ∀ k, ∀ u ∈ (Builtin.zeroCells z.cells k).toList, u.oneCell' = true)
    (A : Option Addr) (n cap : Nat) (xs : List Value) (hs : Sl w e size A n cap xs) (k : Nat)
    (h63 : n + k ≤ maxLen) (hbytes : (n + k) * bytes ≤ 140737488355328) :
    ∃ A' cap' w', (Builtin.append_ #[t, tn] ty #[.slice A n cap, .int .i64 (k : Int)]).run P w = .ok (.slice A' (n + k) cap') w' ∧ Sl w' e size A' (n + k) cap' (xs ++ (Builtin.zeroCells z.cells k).toList) ∧
      (∀ b, b ∈ fpA A' → b ∈ fpA A ∨ w.heap.size ≤ b) ∧ Keeps (· ∈ fpA A) w w' := by
  subst hsize
  subst hby
  obtain ⟨new, hnew⟩ : ∃ new, new = (Builtin.zeroCells z.cells k).toList := ⟨_, rfl⟩
  have hl : new.length = k * i.size := by rw [hnew, Array.length_toList, size_zeroCells, hzs]
  have h1 : ∀ u ∈ new, u.oneCell' = true := by rw [hnew]; exact hz1 k
  have hmx : n + k ≤ 9223372036854775807 := by have := h63; simp only [maxLen] at this; omega
  have hw0 : IntKind.i64.wrap (0 : Int) = 0 := by rw [IntKind.wrap_i64]; omega
  have hw : IntKind.i64.wrap (k : Int) = k := by rw [IntKind.wrap_i64]; omega
  have hneg : ¬ ((k : Int) < 0) := by omega
  have h48i : ¬ (281474976710656 < (k : Int) * (i.bytes : Int)) := by
    rw [← Int.natCast_mul]
    have := Nat.mul_le_mul_right i.bytes (show k ≤ n + k by omega)
    omega
  rw [← hnew]
  obtain ⟨hxl, hnc, hcm, hh⟩ := hs
  by_cases hroom : n + k ≤ cap
  · by_cases h0 : k = 0
    · subst h0
      have hn0 : new = [] := List.eq_nil_of_length_eq_zero (by simpa using hl)
      have hrun : (Builtin.append_ #[t, tn] ty #[.slice A n cap, .int .i64 ((0 : Nat) : Int)]).run P w = .ok (.slice A (n + 0) cap) w := by
        have hroom' : n ≤ cap := hroom
        cases A with
        | none => simp [Builtin.append_, run_underlying ht, run_underlying htn, sizeOf, typeInfo, hi, asInt, asIntOf, hroom', hw0]
        | some a => simp [Builtin.append_, run_underlying ht, run_underlying htn, sizeOf, typeInfo, hi, asInt, asIntOf, hroom', hw0, storeCells]
      refine ⟨A, cap, w, hrun, ?_, fun b hb => .inl hb, Keeps.refl _ _⟩
      rw [hn0, List.append_nil, Nat.add_zero]
      exact ⟨hxl, hnc, hcm, hh⟩
    · have hns : ¬ (k * i.size = 0) := Nat.mul_ne_zero h0 (by omega)
      rcases hh with ⟨rfl, rfl⟩ | ⟨g, off, cur, rfl, hg, hc, htake⟩
      · omega
      · have hlen : (xs ++ new).length = (n + k) * i.size := by rw [List.length_append, hxl, hl, Nat.add_mul]
        have hfit : off + n * i.size + new.length ≤ cur.size := by
          rw [hl]
          have h2 := Nat.mul_le_mul_right i.size hroom
          rw [Nat.add_mul] at h2; omega
        have hst := run_storeCells_at P g (off + n * i.size) e new 0 cur w hg (by simpa using hfit) h1
        simp only [Nat.add_zero] at hst
        refine ⟨some ⟨g, off, none⟩, cap, w.setRow g (cur.toList.take (off + n * i.size) ++ new ++ cur.toList.drop (off + n * i.size + new.length)).toArray, ?_, ⟨hlen, hroom, hcm, .inr ⟨g, off, _, rfl, setRow_heap w g cur _ e _ hg, ?_, ?_⟩⟩, fun b hb => .inl hb, ⟨rfl, rfl, rfl, by simp, fun k _ hk => setRow_other w g k _ (fun e => hk (by simp [e]))⟩⟩
        · simp [Builtin.append_, run_underlying ht, run_underlying htn, sizeOf, typeInfo, zeroValue, hi, hz, asInt, asIntOf, hw, hneg, h48i, hns, hroom, addr_lit, ← hnew, hst]
        · simp only [List.size_toArray, List.length_append, List.length_take, List.length_drop, Array.length_toList]
          omega
        · have hcl : off + n * i.size ≤ cur.toList.length := by simp; omega
          have e1 : (List.take (off + n * i.size) cur.toList).drop off = xs := by
            rw [List.drop_take, ← htake, Nat.add_sub_cancel_left]
          have e2 : off ≤ (List.take (off + n * i.size) cur.toList).length := by simp; omega
          rw [List.append_assoc, List.drop_append_of_le_length e2, e1, ← List.append_assoc, ← hlen]
          exact List.take_left
  · have hfc : (Builtin.firstCells i.size n (.slice A n cap)).run P w.drew = .ok xs.toArray w.drew := by
      rcases hh with ⟨rfl, rfl⟩ | ⟨g, off, cur, rfl, hg, hc, htake⟩
      · have hn : n = 0 := by omega
        subst hn
        have : xs = [] := List.eq_nil_of_length_eq_zero (by simpa using hxl)
        rw [this]; exact run_firstCells_none w.drew i.size 0 0 0
      · have hS : Sl w.drew e i.size (some ⟨g, off, none⟩) n cap xs := ⟨hxl, hnc, hcm, .inr ⟨g, off, cur, rfl, hg, hc, htake⟩⟩
        refine run_firstCells_some (P := P) w.drew i.size n ⟨g, off, none⟩ n cap xs hxl fun j u hj => ?_
        obtain ⟨ad, h, _, hcell, _⟩ := hS.cell hj
        obtain rfl := Option.some.inj h
        exact hcell
    have hrun := run_append_grow_zeros (P := P) w t tn ty e i z .i64 kn ht htn hi hz A n cap xs hfc k (by omega) hsz (by omega) (by omega) (by
      have := Nat.mul_le_mul_right i.bytes (show k ≤ n + k by omega); omega) (growslice_fits (by omega) hbytes)
    have hge := grownCap_ge w (n + k) cap e
    refine ⟨_, _, _, hrun, ⟨by rw [List.length_append, hxl, hl, Nat.add_mul], hge, grownCap_le_maxLen w (n + k) cap e h63, .inr ⟨w.heap.size, 0, _, rfl, heap_alloc_new w.drew _, ?_, ?_⟩⟩, fun b hb => ?_, ⟨rfl, rfl, rfl, by simp, fun b hb _ => Below.heap_alloc w.drew _ b hb⟩⟩
    · simp only [Array.size_append, List.size_toArray, size_zeroCells, hzs, hxl, ← Nat.add_mul]
      rw [Nat.add_sub_of_le hge]; omega
    · simp only [Array.toList_append, List.append_assoc, List.drop_zero]
      rw [← List.append_assoc, ← hnew]
      have : (xs ++ new).length = (n + k) * i.size := by rw [List.length_append, hxl, hl, Nat.add_mul]
      rw [← this]
      exact List.take_left
    · right
      have : b = w.heap.size := by simpa using hb
      omega
end
theorem zeroInts (k : Nat) : (Builtin.zeroCells (Value.int .i64 0).cells k).toList = ints (List.replicate k 0) := by
  unfold Builtin.zeroCells
  apply List.ext_getElem?
  intro j
  simp only [Value.cells, Array.toList_map, Array.toList_range, List.getElem?_map, ints, List.getElem?_replicate, List.size_toArray, List.length_cons, List.length_nil, Nat.zero_add, Nat.mul_one, Nat.mod_one]
  by_cases h : j < k
  · simp [h]
  · simp [h]
section
variable {P : Program} {l : List Oper} {Q : Exit → Act → World → Prop} {md : Region.Mode} {S : World → Prop} {z : Nat} {F : World → Prop}
/-- append(s, make([]int, k)...) in a drawn region (S held). -/
theorem appZeroH (i : Nat) {o : Oper} {fuel : Nat} {listed : Array Bool} {a : Act} {w : World} {l' : List Oper} (hd : l.drop i = o :: l') (hr : Region.ready md l.toArray listed = [i]) (hw : Region.wanted o (yielded l.toArray a.tmps) = true)
    (s x : Operand) (t tn : TypeId) (ho : o.op = .call { callee := .builtin .append, args := #[s, x], argTypes := #[t, tn] })
    (e : TypeId) {bytes : Nat} (ht : P.underlying t = some (.slice e)) {kn : IntKind} (htn : P.underlying tn = some (.int kn)) (hinfo : (P.info? e).map (fun i => (i.zero, i.size, i.bytes)) = some (some (.int .i64 0), 1, bytes))
    {A : Option Addr} {n cap : Nat} {xs : List Int} (he : a.eval s = .slice A n cap) (hs : Sl w e 1 A n cap (ints xs)) (k : Nat) (hx : a.eval x = .int .i64 (k : Int))
    (h63 : n + k ≤ maxLen) (hbytes : (n + k) * bytes ≤ 140737488355328)
    (h : ∀ A' cap' w', Sl w' e 1 A' (n + k) cap' (ints (xs ++ List.replicate k 0)) → (∀ b, b ∈ fpA A' → b ∈ fpA A ∨ w.heap.size ≤ b) → Keeps (· ∈ fpA A) w w' → S w' ∧ wpAnyH P md l.toArray Q S fuel (listed.setIfInBounds i true) (a.put o.dst (.slice A' (n + k) cap')) w') : wpAnyH P md l.toArray Q S (fuel + 1) listed a w := by
  obtain ⟨i', hi, hz, hz1, hz2⟩ := info_parts hinfo
  obtain ⟨A', cap', w', hrun, h2, h3, h4⟩ := run_appendZ_Sl (P := P) w t tn o.type e i' _ 1 bytes ht htn hi hz hz1 hz2 rfl (by omega) (fun k u hu => by rw [zeroInts] at hu; exact ints_one _ u hu) A n cap _ hs k h63 hbytes
  rw [zeroInts, show ints xs ++ ints (List.replicate k 0) = ints (xs ++ List.replicate k 0) by simp [ints]] at h2
  obtain ⟨hS, hh⟩ := h A' cap' w' h2 h3 h4
  refine runH i hd hr hw (w1 := w') (v := .slice A' (n + k) cap') ?_ hS hh
  unfold execOp
  simp only [ho, resolve, invoke, builtin, Sem.run_bind, Sem.run_pure, Result.andThen_ok, List.map_toArray, List.map_cons, List.map_nil, he, hx, hrun]
theorem appZeroZ (i : Nat) {o : Oper} {fuel : Nat} {listed : Array Bool} {a : Act} {w : World} {l' : List Oper} (hd : l.drop i = o :: l') (hr : Region.ready md l.toArray listed = [i]) (hw : Region.wanted o (yielded l.toArray a.tmps) = true)
    (s x : Operand) (t tn : TypeId) (ho : o.op = .call { callee := .builtin .append, args := #[s, x], argTypes := #[t, tn] })
    (e : TypeId) {bytes : Nat} (ht : P.underlying t = some (.slice e)) {kn : IntKind} (htn : P.underlying tn = some (.int kn)) (hinfo : (P.info? e).map (fun i => (i.zero, i.size, i.bytes)) = some (some (.int .i64 0), 1, bytes))
    {A : Option Addr} {n cap : Nat} {xs : List Int} (he : a.eval s = .slice A n cap) (hs : Sl w e 1 A n cap (ints xs)) (k : Nat) (hx : a.eval x = .int .i64 (k : Int))
    (h63 : n + k ≤ maxLen) (hbytes : (n + k) * bytes ≤ 140737488355328)
    (h : ∀ A' cap' w', Sl w' e 1 A' (n + k) cap' (ints (xs ++ List.replicate k 0)) → (∀ b, b ∈ fpA A' → b ∈ fpA A ∨ w.heap.size ≤ b) → Keeps (· ∈ fpA A) w w' → ((listed.setIfInBounds i true).getD z true = false → F w') ∧ wpAnyZ P md l.toArray Q z F fuel (listed.setIfInBounds i true) (a.put o.dst (.slice A' (n + k) cap')) w') : wpAnyZ P md l.toArray Q z F (fuel + 1) listed a w := by
  obtain ⟨i', hi, hz, hz1, hz2⟩ := info_parts hinfo
  obtain ⟨A', cap', w', hrun, h2, h3, h4⟩ := run_appendZ_Sl (P := P) w t tn o.type e i' _ 1 bytes ht htn hi hz hz1 hz2 rfl (by omega) (fun k u hu => by rw [zeroInts] at hu; exact ints_one _ u hu) A n cap _ hs k h63 hbytes
  rw [zeroInts, show ints xs ++ ints (List.replicate k 0) = ints (xs ++ List.replicate k 0) by simp [ints]] at h2
  obtain ⟨hS, hh⟩ := h A' cap' w' h2 h3 h4
  refine runZ i hd hr hw (w1 := w') (v := .slice A' (n + k) cap') ?_ hS hh
  unfold execOp
  simp only [ho, resolve, invoke, builtin, Sem.run_bind, Sem.run_pure, Result.andThen_ok, List.map_toArray, List.map_cons, List.map_nil, he, hx, hrun]
end
end Go.Proofs.YtpfidjegdpkhdaaDoor
namespace Go.Proofs.YtpfidjegdpkhdaaDoor
open Go.RowKit

abbrev tSys : TypeId := 26
def mA (hb : Nat) (u : List Int) : List Int := u ++ List.replicate hb 0
def mB (vis ha : Nat) (v : List Int) : List Int := (v.take vis ++ List.replicate ha 0) ++ v.drop vis
def meetV (s t : Sys) : Sys := (s.1, s.2.1 + t.2.1, s.2.2.map (mA t.2.1.toNat) ++ t.2.2.map (mB s.1.toNat s.2.1.toNat))
/-- The system of both, or none. -/
def meM (p : Int) (s t : Sys) : Sys × Bool := if sysB p s && (sysB p t && (decide (s.1 = t.1) && sysB p (meetV s t))) then (meetV s t, true) else ((0, 0, []), false)
theorem okR_sys {p : Int} {s : Sys} (h : sysB p s = true) : OkR s.2.2 := by
  have hs := SysOk.of h
  have := hs.len; have := hs.vis; have := hs.hid
  exact okR_mat hs.mat (by omega) (by omega)
theorem meM_ok {p : Int} {s t : Sys} : OkR (meM p s t).1.2.2 := by
  unfold meM
  split
  · rename_i h
    simp only [Bool.and_eq_true, decide_eq_true_eq] at h
    exact okR_sys h.2.2.2
  · exact okR_nil
theorem meet_len {p : Int} {s t : Sys} (hs : SysOk p s) (ht : SysOk p t) (he : s.1 = t.1) : (meetV s t).2.2.length ≤ 1048576 ∧ ∀ x, x ∈ (meetV s t).2.2 → x.length ≤ 1048576 := by
  have := hs.len; have := ht.len; have := hs.vis; have := hs.hid; have := ht.hid
  refine ⟨by unfold meetV; rw [List.length_append, List.length_map, List.length_map]; omega, fun x hx => ?_⟩
  rcases List.mem_append.1 hx with hx | hx
  · obtain ⟨u, hu, rfl⟩ := List.mem_map.1 hx
    have := (hs.mat.row u hu).1
    unfold mA; rw [List.length_append, List.length_replicate]; omega
  · obtain ⟨u, hu, rfl⟩ := List.mem_map.1 hx
    have := (ht.mat.row u hu).1
    unfold mB; rw [List.length_append, List.length_append, List.length_replicate, List.length_take, List.length_drop]; omega
theorem okR_len {L : List (List Int)} {k : Nat} (h1 : L.length ≤ 1000) (h2 : ∀ x, x ∈ L → x.length ≤ 1000) (_hk : k = 0) : OkR L := by
  have h3 := cntR_le h2
  have : L.length * 1000 ≤ 1000 * 1000 := Nat.mul_le_mul_right _ h1
  exact ⟨by omega, fun x hx => by have := h2 x hx; omega, by omega⟩
theorem meet_ok {p : Int} {s t : Sys} (hs : SysOk p s) (ht : SysOk p t) (he : s.1 = t.1) : OkR (meetV s t).2.2 := by
  have := hs.len; have := ht.len; have := hs.vis; have := hs.hid; have := ht.hid
  refine okR_len (k := 0) (by unfold meetV; rw [List.length_append, List.length_map, List.length_map]; omega) (fun x hx => ?_) rfl
  rcases List.mem_append.1 hx with hx | hx
  · obtain ⟨u, hu, rfl⟩ := List.mem_map.1 hx
    have := (hs.mat.row u hu).1
    unfold mA; rw [List.length_append, List.length_replicate]; omega
  · obtain ⟨u, hu, rfl⟩ := List.mem_map.1 hx
    have := (ht.mat.row u hu).1
    unfold mB; rw [List.length_append, List.length_append, List.length_replicate, List.length_take, List.length_drop]; omega
theorem set_f2 {w : World} {B : Nat} {t : TypeId} {x y z b : Value} (h : w.heap[B]? = some (.cells #[x, y, z] t)) : (w.setCell ⟨B, 2, none⟩ b).heap[B]? = some (.cells #[x, y, b] t) ∧ Keeps (· = B) w (w.setCell ⟨B, 2, none⟩ b) := by
  refine ⟨by simp [World.setCell, Array.getElem?_modify, h], ?_⟩
  exact (Keeps.refl (fun x => x = B) w).setCell (p := ⟨B, 2, none⟩) rfl _

set_option maxRecDepth 100000 in
set_option maxHeartbeats 8000000 in
theorem pvMeet_any (p : Int) {v v' : Value} {s t : Sys} {fp fp' : List Nat} (w : World) (ha : OwSys w v s fp) (hb : OwSys w v' t fp') (hs : SysOk p s) (ht : SysOk p t) (he : s.1 = t.1) :
    Calls Tryd.prog 68 #[v, v'] w fun e w' => ∃ v' fp', e = .returned v' ∧ OwSys w' v' (meetV s t) fp' ∧ FreshL w.heap.size fp' ∧ Below w.heap.size w w' := by
  obtain ⟨Aa, ca, ga, rfl, hLa0, hOa, hfpa⟩ := ha
  obtain ⟨ia, ja, La⟩ := s
  have hva : 0 ≤ ia ∧ ia ≤ 24 := hs.vis
  have hha : 0 ≤ ja ∧ ja ≤ 100 := hs.hid
  have hflda : fieldB p = true := hs.fld
  have hrowa : ∀ u, u ∈ La → (u.length : Int) = ia + ja ∧ Res p u := fun u hu => ⟨by have := (hs.mat.row u hu).1; have e : ((ia, ja, La) : Sys).1 + ((ia, ja, La) : Sys).2.1 = ia + ja := rfl; rw [e] at this; omega, (hs.mat.row u hu).2⟩
  have hlena : La.length ≤ 160 := hs.len
  clear hs
  obtain ⟨a1, rfl⟩ : ∃ n : Nat, ia = (n : Int) := ⟨ia.toNat, by omega⟩
  obtain ⟨a2, rfl⟩ : ∃ n : Nat, ja = (n : Int) := ⟨ja.toNat, by omega⟩
  have hLa : La = ga.map (fun h : Hd => h.2.2) := hLa0
  clear hLa0
  obtain ⟨ma, hma⟩ : ∃ m, m = ga.length := ⟨_, rfl⟩
  have hLma : La.length = ma := by rw [hLa, List.length_map, hma]
  have hma160 : (ma : Int) ≤ 160 := by have := hlena; rw [hLma] at this; omega
  have ha1b : (a1 : Int) ≤ 24 := hva.2
  have ha2b : (a2 : Int) ≤ 100 := hha.2
  clear hva hha
  obtain ⟨Ab, cb, gb, rfl, hLb0, hOb, hfpb⟩ := hb
  obtain ⟨ib, jb, Lb⟩ := t
  have hvb : 0 ≤ ib ∧ ib ≤ 24 := ht.vis
  have hhb : 0 ≤ jb ∧ jb ≤ 100 := ht.hid
  have hfldb : fieldB p = true := ht.fld
  have hrowb : ∀ u, u ∈ Lb → (u.length : Int) = ib + jb ∧ Res p u := fun u hu => ⟨by have := (ht.mat.row u hu).1; have e : ((ib, jb, Lb) : Sys).1 + ((ib, jb, Lb) : Sys).2.1 = ib + jb := rfl; rw [e] at this; omega, (ht.mat.row u hu).2⟩
  have hlenb : Lb.length ≤ 160 := ht.len
  clear ht
  obtain ⟨b1, rfl⟩ : ∃ n : Nat, ib = (n : Int) := ⟨ib.toNat, by omega⟩
  obtain ⟨b2, rfl⟩ : ∃ n : Nat, jb = (n : Int) := ⟨jb.toNat, by omega⟩
  have hLb : Lb = gb.map (fun h : Hd => h.2.2) := hLb0
  clear hLb0
  obtain ⟨mb, hmb⟩ : ∃ m, m = gb.length := ⟨_, rfl⟩
  have hLmb : Lb.length = mb := by rw [hLb, List.length_map, hmb]
  have hmb160 : (mb : Int) ≤ 160 := by have := hlenb; rw [hLmb] at this; omega
  have hb1b : (b1 : Int) ≤ 24 := hvb.2
  have hb2b : (b2 : Int) ≤ 100 := hhb.2
  clear hvb hhb
  obtain rfl : a1 = b1 := by have : (a1 : Int) = (b1 : Int) := he; omega
  clear he
  obtain ⟨hh, hhh⟩ : ∃ hh, hh = a2 + b2 := ⟨_, rfl⟩
  have hhI : (a2 : Int) + (b2 : Int) = (hh : Int) := by omega
  obtain ⟨X, hX⟩ : ∃ X, X = La.map (mA b2) ++ Lb.map (mB a1 a2) := ⟨_, rfl⟩
  have hgoal : meetV ((a1 : Int), (a2 : Int), La) ((a1 : Int), (b2 : Int), Lb) = ((a1 : Int), (hh : Int), X) := by
    rw [← hhI, hX]; rfl
  rw [hgoal]
  have hh200 : (hh : Int) ≤ 200 := by omega
  show Calls Tryd.prog _ #[.agg #[.int .i64 (a1 : Int), .int .i64 (a2 : Int), .slice Aa ga.length ca], .agg #[.int .i64 (a1 : Int), .int .i64 (b2 : Int), .slice Ab gb.length cb]] w _
  rw [← hma, ← hmb]
  obtain ⟨W, hW, bW, k0, k1, k2⟩ := alloc3 w (.cells #[.int .i64 (a1 : Int), .int .i64 (a2 : Int), .slice Aa ma ca] tSys) (.cells #[.int .i64 (a1 : Int), .int .i64 (b2 : Int), .slice Ab mb cb] tSys) (.cells #[.int .i64 0, .int .i64 0, .slice none 0 0] tSys)
  have hlta : ∀ b, b ∈ fpA Aa ++ fpR ga → b < w.heap.size := hOa.lt
  have hltb : ∀ b, b ∈ fpA Ab ++ fpR gb → b < w.heap.size := hOb.lt
  obtain ⟨⟨c0, c1, c2⟩, f0, f1, f2⟩ := box3 k0
  obtain ⟨⟨d0, d1, d2⟩, g0, g1, g2⟩ := box3 k1
  have hz2 := box_lt k2
  have hwh : IntKind.i64.wrap ((a2 : Int) + (b2 : Int)) = (a2 : Int) + (b2 : Int) := IntWalk.i64_in _ (by omega)
  clear hgoal
  have hLa_h := Lib.hid hLa
  have hLb_h := Lib.hid hLb
  have hma_h := Lib.hid hma
  have hmb_h := Lib.hid hmb
  have hLma_h := Lib.hid hLma
  have hLmb_h := Lib.hid hLmb
  have bW_h := Lib.hid bW
  have k0_h := Lib.hid k0
  have k1_h := Lib.hid k1
  have k2_h := Lib.hid k2
  have hOa_h := Lib.hid hOa
  have hOb_h := Lib.hid hOb
  have hrowa_h := Lib.hid hrowa
  have hrowb_h := Lib.hid hrowb
  have hlena_h := Lib.hid hlena
  have hlenb_h := Lib.hid hlenb
  have hflda_h := Lib.hid hflda
  have hfldb_h := Lib.hid hfldb
  have hX_h := Lib.hid hX
  have hhh_h := Lib.hid hhh
  have hlta_h := Lib.hid hlta
  have hltb_h := Lib.hid hltb
  have hfpa_h := Lib.hid hfpa
  have hfpb_h := Lib.hid hfpb
  clear hLa hLb hma hmb hLma hLmb bW k0 k1 k2 hOa hOb hrowa hrowb hlena hlenb hflda hfldb hX hhh hlta hltb hfpa hfpb
  go_enter Tryd.func68, Tryd.ntmps68
  go_upto_region 1 with (fail)
  rw [← hW]
  clear hW
  go_upto_region 2 with (fail)
  obtain ⟨W4, hW4⟩ : ∃ W4, W4 = W.alloc (.cells #[.int .i64 (a1 : Int), .int .i64 (hh : Int), .slice none 0 0] tSys) := ⟨_, rfl⟩
  have b4 := below_alloc W (.cells #[.int .i64 (a1 : Int), .int .i64 (hh : Int), .slice none 0 0] tSys)
  have k4 := heap_alloc_new W (.cells #[.int .i64 (a1 : Int), .int .i64 (hh : Int), .slice none 0 0] tSys)
  rw [← hW4] at b4 k4
  have hW4s : W4.heap.size ≤ W.heap.size + 1 := by rw [hW4]; simp
  obtain ⟨bx, hbx⟩ : ∃ bx, bx = W.heap.size := ⟨_, rfl⟩
  rw [← hbx] at k4 hW4s
  rw [← hW4, ← hbx]
  have hz4 := box_lt k4
  have hN4 : OMx W bx W4 none 0 [] := OMx.nil b4 (by omega) hz4
  clear c0 c1 c2 f0 f1 f2 d0 d1 d2 g0 g1 g2 hW4 hwh hhI
  replace k0_h := Lib.hid (box_below k0_h.out b4)
  replace k1_h := Lib.hid (box_below k1_h.out b4)
  replace k2_h := Lib.hid (box_below k2_h.out b4)
  have hOa := (hOa_h.out.below bW_h.out).below b4
  have hOb := (hOb_h.out.below bW_h.out).below b4
  clear hOa_h hOb_h
  obtain ⟨⟨c0, c1, c2⟩, f0, f1, f2⟩ := box3 k0_h.out
  have hwW := bW_h.out.size
  have hOa_h := Lib.hid hOa
  have hOb_h := Lib.hid hOb
  have b4_h := Lib.hid b4
  have hN4_h := Lib.hid hN4
  have k4_h := Lib.hid k4
  have hbx_h := Lib.hid hbx
  clear hOa hOb b4 hN4 k4 hbx
  go_wp2_with (fail)
  clear c0 c1 c2 f0 f1 f2
  have hbw : w.heap.size + 1 + 1 < bx := by have := hbx_h.out; omega
  go_loopw [22] (fun i wr => ∃ (k : Nat) (A' : Option Addr) (c' : Nat), k ≤ ma ∧ i = .int .i64 k ∧ wr.heap[bx]? = some (.cells #[.int .i64 (a1 : Int), .int .i64 (hh : Int), .slice A' k c'] tSys) ∧ OMx W bx wr A' c' ((La.take k).map (mA b2)) ∧ Keeps (fun b => W4.heap.size ≤ b ∨ b = bx) W4 wr) (fun i _ => ma - (intOf i).toNat)
  case atStart => exact ⟨0, none, 0, Nat.zero_le _, rfl, k4_h.out, hN4_h.out, Keeps.refl _ _⟩
  case round =>
    clear hN4_h k4_h
    obtain ⟨k, A', c', hk, rfl, kbx, hOM, hkw⟩ := hrel
    have hzr := hkw.size
    have k0r := box_keeps k0_h.out hkw (by omega)
    have k1r := box_keeps k1_h.out hkw (by omega)
    have k2r := box_keeps k2_h.out hkw (by omega)
    by_cases hlt : k < ma
    · have hOr := hOa_h.out.keeps hkw (fun b hb h => by have := hlta_h.out b hb; omega)
      obtain ⟨ad, B, d, u, rfl, hx, hc, _⟩ := hOr.rd.at_ (k := k) (by rw [← hma_h.out]; exact hlt)
      have hyL : La[k]? = some u := by rw [hLa_h.out, List.getElem?_map, hx]; rfl
      have hul : u.length = a1 + a2 := by have := (hrowa_h.out _ (List.mem_of_getElem? hyL)).1; omega
      have hrd : RdI wr B u := (hOr.rows _ (List.mem_of_getElem? hx)).rd
      rw [hul] at hc
      have hkI : (k : Int) < (ma : Int) := by omega
      have hbd : Below wr.heap.size wr wr.drew := below_drewN (Below.refl _ _) 1
      have hC := l1Own_any B d u wr.drew (hrd.below hbd) (by omega)
      rw [hul] at hC
      obtain ⟨⟨y0, y1, y2⟩, y3, y4, y5⟩ := box3 k0r
      clear hOr hx hrd
      have hyL_h := Lib.hid hyL
      have hul_h := Lib.hid hul
      have hC_h := Lib.hid hC
      have hbd_h := Lib.hid hbd
      have hOM_h := Lib.hid hOM
      have hkw_h := Lib.hid hkw
      have k0r_h := Lib.hid k0r
      have k1r_h := Lib.hid k1r
      have k2r_h := Lib.hid k2r
      clear hyL hul hC hbd hOM hkw k0r k1r k2r
      go_wp2_with (fail)
      refine beginZw 10 (fun w' => w'.heap[w.heap.size + 1]? = some (.cells #[.int .i64 (a1 : Int), .int .i64 (b2 : Int), .slice Ab mb cb] tSys) ∧ w'.heap[bx]? = some (.cells #[.int .i64 (a1 : Int), .int .i64 (hh : Int), .slice A' k c'] tSys)) (by kernel_rfl) (fun W1 hW1 => ?_)
      rw [← hW1] at hC_h hbd_h
      clear hc hW1 y0 y1 y2 y3 y4 y5
      have hF := And.intro (box_below k1r_h.out hbd_h.out) (box_below kbx hbd_h.out)
      have hF_h := Lib.hid hF
      have kbx_h := Lib.hid kbx
      clear hF kbx
      refine takeC 0 (v := ?_) rfl (by kernel_rfl) (by kernel_rfl) (by kernel_rfl) (by kernel_rfl) (fun _ _ _ h => h) hF_h.out (by rfl) (fun W' hW' => ?_) ?_; rotate_left; · (obtain ⟨⟨y0, y1, y2⟩, y3, y4, y5⟩ := box3 hW'.1; obtain ⟨⟨x0, x1, x2⟩, x3, x4, x5⟩ := box3 hW'.2; clear hW'; go_simp; first | done | with_reducible rfl)
      simp only [Act.put, List.setIfInBounds_toArray, List.set_cons_zero, List.set_cons_succ]
      refine takeC 1 (v := ?_) rfl (by kernel_rfl) (by kernel_rfl) (by kernel_rfl) (by kernel_rfl) (fun _ _ _ h => h) hF_h.out (by rfl) (fun W' hW' => ?_) ?_; rotate_left; · (obtain ⟨⟨y0, y1, y2⟩, y3, y4, y5⟩ := box3 hW'.1; obtain ⟨⟨x0, x1, x2⟩, x3, x4, x5⟩ := box3 hW'.2; clear hW'; go_simp; first | done | with_reducible rfl)
      simp only [Act.put, List.setIfInBounds_toArray, List.set_cons_zero, List.set_cons_succ]
      refine takeC 2 (v := ?_) rfl (by kernel_rfl) (by kernel_rfl) (by kernel_rfl) (by kernel_rfl) (fun _ _ _ h => h) hF_h.out (by rfl) (fun W' hW' => ?_) ?_; rotate_left; · (obtain ⟨⟨y0, y1, y2⟩, y3, y4, y5⟩ := box3 hW'.1; obtain ⟨⟨x0, x1, x2⟩, x3, x4, x5⟩ := box3 hW'.2; clear hW'; go_simp; first | done | with_reducible rfl)
      simp only [Act.put, List.setIfInBounds_toArray, List.set_cons_zero, List.set_cons_succ]
      refine takeC 4 (v := ?_) rfl (by kernel_rfl) (by kernel_rfl) (by kernel_rfl) (by kernel_rfl) (fun _ _ _ h => h) hF_h.out (by rfl) (fun W' hW' => ?_) ?_; rotate_left; · (obtain ⟨⟨y0, y1, y2⟩, y3, y4, y5⟩ := box3 hW'.1; obtain ⟨⟨x0, x1, x2⟩, x3, x4, x5⟩ := box3 hW'.2; clear hW'; go_simp; first | done | with_reducible rfl)
      simp only [Act.put, List.setIfInBounds_toArray, List.set_cons_zero, List.set_cons_succ]
      refine takeC 5 (v := ?_) rfl (by kernel_rfl) (by kernel_rfl) (by kernel_rfl) (by kernel_rfl) (fun _ _ _ h => h) hF_h.out (by rfl) (fun W' hW' => ?_) ?_; rotate_left; · (obtain ⟨⟨y0, y1, y2⟩, y3, y4, y5⟩ := box3 hW'.1; obtain ⟨⟨x0, x1, x2⟩, x3, x4, x5⟩ := box3 hW'.2; clear hW'; go_simp; first | done | with_reducible rfl)
      simp only [Act.put, List.setIfInBounds_toArray, List.set_cons_zero, List.set_cons_succ]
      refine callZ 3 (f := ?f1) (args := ?args1) rfl (by kernel_rfl) (by rfl) ?hrun1 ?hcall1
      case hrun1 => (go_simp; first | done | with_reducible rfl | (constructor <;> with_reducible rfl))
      case hcall1 =>
        refine (hC_h.out).mono ?_
        rintro e w4 ⟨A4, c4, rfl, hi4, hf4, hb4⟩
        rw [hul_h.out]
        have hF4 := And.intro (box_below hF_h.out.1 hb4) (box_below hF_h.out.2 hb4)
        refine ⟨_, rfl, fun _ => hF4, ?_⟩
        have hs4 : Sl w4 tInt 1 A4 (a1 + a2) c4 (ints u) := by have := hi4; unfold IS at this; rwa [hul_h.out] at this
        have hB4 := below_trans hbd_h.out hb4 hbd_h.out.size
        have hzd := hbd_h.out.size
        have hz4' := hb4.size
        clear hi4 hb4
        have hF4_h := Lib.hid hF4
        have hs4_h := Lib.hid hs4
        have hB4_h := Lib.hid hB4
        have hf4_h := Lib.hid hf4
        clear hF4 hs4 hB4 hf4
        simp only [Act.put, List.setIfInBounds_toArray, List.set_cons_zero, List.set_cons_succ]
        refine appZeroZ 6 rfl (by kernel_rfl) (by rfl) _ _ _ _ rfl tInt Tryd.underlying37 Tryd.underlying3 info_int rfl hs4_h.out b2 rfl (by unfold maxLen; omega) (by omega) ?_
        intro A5 c5 w5 hsA5 hA5 hkA5
        have hF5 := And.intro (box_keeps hF4_h.out.1 hkA5 (fun h => by have := hf4_h.out _ h; have := box_lt k1r_h.out; omega)) (box_keeps hF4_h.out.2 hkA5 (fun h => by have := hf4_h.out _ h; have := box_lt kbx_h.out; omega))
        refine ⟨fun _ => hF5, ?_⟩
        have hB5 := below_keeps hB4_h.out hkA5 hB4_h.out.size (fun b hb => by have := hf4_h.out b hb; omega)
        have hn5 : Fresh wr.heap.size A5 := fun b hb => by
          rcases hA5 b hb with h1 | h1
          · have := hf4_h.out b h1; omega
          · omega
        have hl5 : (mA b2 u).length = a1 + a2 + b2 := by unfold mA; rw [List.length_append, List.length_replicate, hul_h.out]
        have hI5 : IS w5 A5 c5 (mA b2 u) := by unfold IS; rw [hl5]; exact hsA5
        clear hsA5 hA5 hkA5
        have hF5_h := Lib.hid hF5
        have hB5_h := Lib.hid hB5
        have hn5_h := Lib.hid hn5
        have hl5_h := Lib.hid hl5
        have hI5_h := Lib.hid hI5
        clear hF5 hB5 hn5 hl5 hI5
        simp only [Act.put, List.setIfInBounds_toArray, List.set_cons_zero, List.set_cons_succ]
        obtain ⟨ys, hLy, hOy, hfy, h0y, h1y, h2y⟩ := hOM_h.out
        have hyl : ys.length = k := by
          have := congrArg List.length hLy
          simp only [List.length_map, List.length_take, hLma_h.out] at this
          omega
        have hsl : Sl (w5.alloc (.cells #[.slice A5 (a1 + a2 + b2) c5] 37)) 37 1 A' k c' (ys.map Hd.val) := by
          have := (hOy.sl.below hB5_h.out).alloc (.cells #[.slice A5 (a1 + a2 + b2) c5] 37)
          rwa [hyl] at this
        have hF6 := And.intro (box_below hF5_h.out.1 (below_alloc w5 (.cells #[.slice A5 (a1 + a2 + b2) c5] 37))) (box_below hF5_h.out.2 (below_alloc w5 (.cells #[.slice A5 (a1 + a2 + b2) c5] 37)))
        have hz5 := hB5_h.out.size
        have hsl_h := Lib.hid hsl
        have hLy_h := Lib.hid hLy
        have hOy_h := Lib.hid hOy
        have hfy_h := Lib.hid hfy
        have h0y_h := Lib.hid h0y
        have hyl_h := Lib.hid hyl
        have hF6_h := Lib.hid hF6
        clear hsl hLy hOy hfy h0y hyl hF6
        refine oneZ 7 rfl (by kernel_rfl) (by rfl) (fun K hK => ?_)
        go_simp
        refine hK _ _ (fun _ => hF6_h.out) ?_
        clear hK K
        refine appZ 8 rfl (by kernel_rfl) (by rfl) _ _ _ rfl 37 Tryd.underlying22 info_ints rfl (by omega) rfl hsl_h.out rfl (news := [.slice A5 (a1 + a2 + b2) c5]) rfl (Sl.rdc (Sl.laid w5 37 1 1 #[.slice A5 (a1 + a2 + b2) c5] (by unfold maxLen; omega) rfl)) (by intro u hu; simp at hu; subst hu; rfl) (by unfold maxLen; omega) (by omega) ?_
        intro A6 c6 w6 hsA6 hA6 hkA6 hrdA6
        clear hrdA6
        have hal : Below w5.heap.size w5 (w5.alloc (.cells #[.slice A5 (a1 + a2 + b2) c5] 37)) := below_alloc _ _
        have hO6 := OMx.snoc (w1 := w5.alloc (.cells #[.slice A5 (a1 + a2 + b2) c5] 37)) hLy_h.out hOy_h.out hfy_h.out h0y_h.out h1y h2y (below_trans hB5_h.out hal hB5_h.out.size) (hI5_h.out.below hal) hn5_h.out (by rw [hyl_h.out]) (by rw [hl5_h.out]; exact hsA6) hA6 hkA6
        have hF7 := And.intro (box_keeps hF6_h.out.1 hkA6 (fun h => by have := (hfy_h.out _ (List.mem_append_left _ h)).1; have := hbx_h.out; omega)) (box_keeps hF6_h.out.2 hkA6 (fun h => (hfy_h.out _ (List.mem_append_left _ h)).2 rfl))
        refine ⟨fun _ => hF7, ?_⟩
        obtain ⟨s1, s2⟩ := set_f2 (b := .slice A6 (k + 1) c6) hF7.2
        have hO7 := hO6.store s2
        have hkq : Keeps (fun b => W4.heap.size ≤ b ∨ b = bx) W4 w6 := by
          refine ((hkw_h.out.trans (Keeps.of_below hB5_h.out _)).trans (Keeps.of_below hal _)).trans (hkA6.mono fun b _ hb => ?_)
          have := hfy_h.out b (List.mem_append_left _ hb)
          have := hbx_h.out
          left; omega
        have hkr := hkq.trans (s2.mono fun b _ hb => .inr hb)
        obtain ⟨⟨x0, x1, x2⟩, x3, x4, x5⟩ := box3 hF7.2
        clear hsA6 hA6 hkA6 hO6 s2 hkq hal
        have hF7_h := Lib.hid hF7
        have hO7_h := Lib.hid hO7
        have s1_h := Lib.hid s1
        have hkr_h := Lib.hid hkr
        clear hF7 hO7 s1 hkr
        simp only [Act.put, List.setIfInBounds_toArray, List.set_cons_zero, List.set_cons_succ]
        refine takeC 9 (v := ?_) rfl (by kernel_rfl) (by kernel_rfl) (by kernel_rfl) (by kernel_rfl) (fun _ _ _ h => h) hF7_h.out (by rfl) (fun W' hW' => ?_) ?_; rotate_left; · (skip; clear hW'; go_simp; first | done | with_reducible rfl)
        simp only [Act.put, List.setIfInBounds_toArray, List.set_cons_zero, List.set_cons_succ]
        refine oneZ 10 rfl (by kernel_rfl) (by rfl) (fun K hK => ?_)
        go_simp
        refine hK _ _ (fun h => by cases h) ?_
        clear hK K
        refine doneZ (by kernel_rfl) ?_
        go_wp2_with (fail)
        go_roundw
        case rel => exact ⟨k + 1, A6, c6, by omega, by go_num, s1_h.out, by rw [List.take_add_one, hyL_h.out, List.map_append]; exact hO7_h.out, hkr_h.out⟩
        case measure => simp [intOf]; omega
    · obtain rfl : ma = k := by omega
      have hOM2 : OMx W bx wr A' c' (La.map (mA b2)) := by rwa [List.take_of_length_le (by rw [hLma_h.out]; exact Nat.le_refl _)] at hOM
      obtain ⟨⟨c0, c1, c2⟩, f0, f1, f2⟩ := box3 k1r
      clear hOM
      have hOM2_h := Lib.hid hOM2
      have kbx_h := Lib.hid kbx
      have hkw_h := Lib.hid hkw
      have k0r_h := Lib.hid k0r
      have k1r_h := Lib.hid k1r
      have k2r_h := Lib.hid k2r
      clear hOM2 kbx hkw k0r k1r k2r
      go_wp2_with (fail)
      clear c0 c1 c2 f0 f1 f2
      go_loopw [40] (fun i wr => ∃ (k : Nat) (A' : Option Addr) (c' q : Nat), k ≤ mb ∧ i = .int .i64 k ∧ q = ma + k ∧ wr.heap[bx]? = some (.cells #[.int .i64 (a1 : Int), .int .i64 (hh : Int), .slice A' q c'] tSys) ∧ OMx W bx wr A' c' (La.map (mA b2) ++ (Lb.take k).map (mB a1 a2)) ∧ Keeps (fun b => W4.heap.size ≤ b ∨ b = bx) W4 wr) (fun i _ => mb - (intOf i).toNat)
      case atStart => exact ⟨0, A', c', ma, Nat.zero_le _, rfl, rfl, kbx_h.out, by simpa using hOM2_h.out, hkw_h.out⟩
      case round =>
        clear hOM2_h kbx_h hkw_h k0r_h k1r_h k2r_h hzr
        obtain ⟨k, A', c', q, hk, rfl, hq, kbx, hOM, hkw⟩ := hrel
        have hzr := hkw.size
        have k0r := box_keeps k0_h.out hkw (by omega)
        have k1r := box_keeps k1_h.out hkw (by omega)
        have k2r := box_keeps k2_h.out hkw (by omega)
        have hq320 : (q : Int) ≤ 320 := by omega
        by_cases hlt : k < mb
        · have hOr := hOb_h.out.keeps hkw (fun b hb h => by have := hltb_h.out b hb; omega)
          obtain ⟨ad, B, d, u, rfl, hx, hc, _⟩ := hOr.rd.at_ (k := k) (by rw [← hmb_h.out]; exact hlt)
          have hyL : Lb[k]? = some u := by rw [hLb_h.out, List.getElem?_map, hx]; rfl
          have hul : u.length = a1 + b2 := by have := (hrowb_h.out _ (List.mem_of_getElem? hyL)).1; omega
          rw [hul] at hc
          have hkI : (k : Int) < (mb : Int) := by omega
          have hbd : Below wr.heap.size wr wr.drew := below_drewN (Below.refl _ _) 1
          have hI : Sl wr.drew 3 1 B (a1 + b2) d (ints u) := by have := hOr.rows _ (List.mem_of_getElem? hx); unfold IS at this; rw [hul] at this; exact this
          have hcap := hI.2.1
          obtain ⟨A2, hr2, hS2, hf2⟩ := hI.sliced (P := Tryd.prog) 37 Tryd.underlying37 info_int none (some (.int .i64 (a1 : Int))) none 0 a1 d (optNone rfl) (optSome rfl) (optNone rfl) (Nat.zero_le _) (by omega) (by omega) (Nat.le_refl _)
          obtain ⟨A3, hr3, hS3, hf3⟩ := hI.sliced (P := Tryd.prog) 37 Tryd.underlying37 info_int (some (.int .i64 (a1 : Int))) none none a1 (a1 + b2) d (optSome rfl) (optNone ⟨rfl, rfl⟩) (optNone rfl) (by omega) (Nat.le_refl _) hcap (Nat.le_refl _)
          simp only [Nat.sub_zero] at hr2
          rw [show a1 + b2 - a1 = b2 by omega] at hr3 hS3
          have hd2 : RdI wr.drew A2 (u.take a1) := by
            have e : ((ints u).drop (0 * 1)).take ((a1 - 0) * 1) = ints (u.take a1) := by simp [ints, List.map_take]
            rw [e] at hS2
            intro j x hj
            obtain ⟨ad, hA, _, hc, _⟩ := hS2.cell (ints_get hj)
            exact ⟨ad, hA, hc⟩
          have hd3 : RdI wr.drew A3 (u.drop a1) := by
            have e : ((ints u).drop (a1 * 1)).take (b2 * 1) = ints (u.drop a1) := by
              rw [List.take_of_length_le (by simp [hul])]; simp [ints, List.map_drop]
            rw [e] at hS3
            intro j x hj
            obtain ⟨ad, hA, _, hc, _⟩ := hS3.cell (ints_get hj)
            exact ⟨ad, hA, hc⟩
          have hl2 : (u.take a1).length = a1 := by rw [List.length_take, hul]; omega
          have hl3 : (u.drop a1).length = b2 := by rw [List.length_drop, hul]; omega
          have hC := l1Own_any A2 d (u.take a1) wr.drew hd2 (by omega)
          rw [hl2] at hC
          obtain ⟨⟨y0, y1, y2⟩, y3, y4, y5⟩ := box3 k0r
          have hlt3 : ∀ b, b ∈ fpA A3 → b < w.heap.size := fun b hb => hltb_h.out b (List.mem_append_right _ (mem_fpR.2 ⟨_, List.mem_of_getElem? hx, hf3 b hb⟩))
          clear hOr hx hS2 hS3 hf2 hf3 hI hd2
          have hyL_h := Lib.hid hyL
          have hul_h := Lib.hid hul
          have hC_h := Lib.hid hC
          have hbd_h := Lib.hid hbd
          have hOM_h := Lib.hid hOM
          have hkw_h := Lib.hid hkw
          have k0r_h := Lib.hid k0r
          have k1r_h := Lib.hid k1r
          have k2r_h := Lib.hid k2r
          have hr2_h := Lib.hid hr2
          have hr3_h := Lib.hid hr3
          have hl2_h := Lib.hid hl2
          have hl3_h := Lib.hid hl3
          have hd3_h := Lib.hid hd3
          have hq_h := Lib.hid hq
          have kbx_h := Lib.hid kbx
          have hlt3_h := Lib.hid hlt3
          clear hyL hul hC hbd hOM hkw k0r k1r k2r hr2 hr3 hl2 hl3 hd3 hq kbx hlt3
          go_wp2_with (fail)
          refine beginH (fun w' => w'.heap[w.heap.size]? = some (.cells #[.int .i64 (a1 : Int), .int .i64 (a2 : Int), .slice Aa ma ca] tSys) ∧ w'.heap[w.heap.size + 1]? = some (.cells #[.int .i64 (a1 : Int), .int .i64 (b2 : Int), .slice (some ad) mb cb] tSys)) (by kernel_rfl) ?_
          clear hc y0 y1 y2 y3 y4 y5
          obtain ⟨W1, hW1⟩ : ∃ W1, W1 = wr.drew := ⟨_, rfl⟩
          rw [← hW1] at hC_h hbd_h hd3_h ⊢
          clear hW1
          have hF := And.intro (box_below k0r_h.out hbd_h.out) (box_below k1r_h.out hbd_h.out)
          have hF_h := Lib.hid hF
          clear hF
          refine takeH 0 (v := ?_) rfl (by kernel_rfl) (by kernel_rfl) (by kernel_rfl) (fun _ _ _ h => h) hF_h.out (by rfl) (fun W' hW' => ?_) ?_; rotate_left; · (obtain ⟨⟨y0, y1, y2⟩, y3, y4, y5⟩ := box3 hW'.1; obtain ⟨⟨x0, x1, x2⟩, x3, x4, x5⟩ := box3 hW'.2; clear hW'; go_simp; first | done | with_reducible rfl)
          simp only [Act.put, List.setIfInBounds_toArray, List.set_cons_zero, List.set_cons_succ]
          refine takeH 1 (v := ?_) rfl (by kernel_rfl) (by kernel_rfl) (by kernel_rfl) (fun _ _ _ h => h) hF_h.out (by rfl) (fun W' hW' => ?_) ?_; rotate_left; · (obtain ⟨⟨y0, y1, y2⟩, y3, y4, y5⟩ := box3 hW'.1; obtain ⟨⟨x0, x1, x2⟩, x3, x4, x5⟩ := box3 hW'.2; clear hW'; go_simp; first | done | with_reducible rfl)
          simp only [Act.put, List.setIfInBounds_toArray, List.set_cons_zero, List.set_cons_succ]
          refine takeH 2 (v := ?_) rfl (by kernel_rfl) (by kernel_rfl) (by kernel_rfl) (fun _ _ _ h => h) hF_h.out (by rfl) (fun W' hW' => ?_) ?_; rotate_left; · (obtain ⟨⟨y0, y1, y2⟩, y3, y4, y5⟩ := box3 hW'.1; obtain ⟨⟨x0, x1, x2⟩, x3, x4, x5⟩ := box3 hW'.2; clear hW'; go_simp; first | done | with_reducible rfl)
          simp only [Act.put, List.setIfInBounds_toArray, List.set_cons_zero, List.set_cons_succ]
          refine takeH 5 (v := ?_) rfl (by kernel_rfl) (by kernel_rfl) (by kernel_rfl) (fun _ _ _ h => h) hF_h.out (by rfl) (fun W' hW' => ?_) ?_; rotate_left; · (obtain ⟨⟨y0, y1, y2⟩, y3, y4, y5⟩ := box3 hW'.1; obtain ⟨⟨x0, x1, x2⟩, x3, x4, x5⟩ := box3 hW'.2; clear hW'; go_simp; first | done | with_reducible rfl)
          simp only [Act.put, List.setIfInBounds_toArray, List.set_cons_zero, List.set_cons_succ]
          refine takeH 6 (v := ?_) rfl (by kernel_rfl) (by kernel_rfl) (by kernel_rfl) (fun _ _ _ h => h) hF_h.out (by rfl) (fun W' hW' => ?_) ?_; rotate_left; · (obtain ⟨⟨y0, y1, y2⟩, y3, y4, y5⟩ := box3 hW'.1; obtain ⟨⟨x0, x1, x2⟩, x3, x4, x5⟩ := box3 hW'.2; clear hW'; go_simp; first | done | with_reducible rfl)
          simp only [Act.put, List.setIfInBounds_toArray, List.set_cons_zero, List.set_cons_succ]
          refine takeH 3 (v := .slice A2 a1 d) rfl (by kernel_rfl) (by kernel_rfl) (by kernel_rfl) (fun _ _ _ h => h) hF_h.out (by rfl) (fun W' _ => xop_sliceW rfl (hr2_h.out W')) ?_
          simp only [Act.put, List.setIfInBounds_toArray, List.set_cons_zero, List.set_cons_succ]
          refine' callH 4 (f := _) (args := _) rfl (by kernel_rfl) (by rfl) ?_ ?_; rotate_left 2; · (go_simp; first | done | with_reducible rfl | (constructor <;> with_reducible rfl))
          refine (hC_h.out).mono ?_
          rintro e w3 ⟨A4, c4, rfl, hi4, hf4, hb4⟩
          rw [hl2_h.out]
          have hF4 := And.intro (box_below hF_h.out.1 hb4) (box_below hF_h.out.2 hb4)
          refine ⟨_, rfl, hF4, ?_⟩
          have hs4 : Sl w3 tInt 1 A4 a1 c4 (ints (u.take a1)) := by have := hi4; unfold IS at this; rwa [hl2_h.out] at this
          have hB4 := below_trans hbd_h.out hb4 hbd_h.out.size
          have hd4 := hd3_h.out.below hb4
          have hzd := hbd_h.out.size
          have hz4' := hb4.size
          clear hi4 hb4
          have hF4_h := Lib.hid hF4
          have hs4_h := Lib.hid hs4
          have hB4_h := Lib.hid hB4
          have hf4_h := Lib.hid hf4
          have hd4_h := Lib.hid hd4
          clear hF4 hs4 hB4 hf4 hd4
          simp only [Act.put, List.setIfInBounds_toArray, List.set_cons_zero, List.set_cons_succ]
          refine appZeroH 7 rfl (by kernel_rfl) (by rfl) _ _ _ _ rfl tInt Tryd.underlying37 Tryd.underlying3 info_int rfl hs4_h.out a2 rfl (by unfold maxLen; omega) (by omega) ?_
          intro A7 c7 w7 hsA7 hA7 hkA7
          have hF7 := And.intro (box_keeps hF4_h.out.1 hkA7 (fun h => by have := hf4_h.out _ h; have := box_lt k0r_h.out; omega)) (box_keeps hF4_h.out.2 hkA7 (fun h => by have := hf4_h.out _ h; have := box_lt k1r_h.out; omega))
          refine ⟨hF7, ?_⟩
          have hB7 := below_keeps hB4_h.out hkA7 hB4_h.out.size (fun b hb => by have := hf4_h.out b hb; omega)
          have hn7 : Fresh wr.heap.size A7 := fun b hb => by
            rcases hA7 b hb with h1 | h1
            · have := hf4_h.out b h1; omega
            · omega
          have hd7 : RdI w7 A3 (u.drop a1) := hd4_h.out.keeps hkA7 (fun b hb h => by
            have := hf4_h.out b h
            have := hlt3_h.out b hb
            omega)
          have hz7 := hkA7.size
          clear hA7 hkA7
          have hF7_h := Lib.hid hF7
          have hB7_h := Lib.hid hB7
          have hn7_h := Lib.hid hn7
          have hd7_h := Lib.hid hd7
          have hsA7_h := Lib.hid hsA7
          clear hF7 hB7 hn7 hd7 hsA7
          simp only [Act.put, List.setIfInBounds_toArray, List.set_cons_zero, List.set_cons_succ]
          refine takeH 8 (v := ?_) rfl (by kernel_rfl) (by kernel_rfl) (by kernel_rfl) (fun _ _ _ h => h) hF7_h.out (by rfl) (fun W' hW' => ?_) ?_; rotate_left; · (skip; clear hW'; go_simp; first | done | with_reducible rfl)
          simp only [Act.put, List.setIfInBounds_toArray, List.set_cons_zero, List.set_cons_succ]
          refine doneH (by kernel_rfl) ?_
          obtain ⟨⟨y0, y1, y2⟩, y3, y4, y5⟩ := box3 hF7_h.out.2
          go_wp2_with (fail)
          refine beginZw 11 (fun w' => w'.heap[w.heap.size + 1]? = some (.cells #[.int .i64 (a1 : Int), .int .i64 (b2 : Int), .slice (some ad) mb cb] tSys) ∧ w'.heap[bx]? = some (.cells #[.int .i64 (a1 : Int), .int .i64 (hh : Int), .slice A' q c'] tSys)) (by kernel_rfl) (fun W8 hW8 => ?_)
          have hb8 : Below w7.heap.size w7 W8 := by rw [hW8]; exact below_drewN (Below.refl _ _) 1
          have hF8 := And.intro (box_below hF7_h.out.2 hb8) (box_below kbx_h.out (below_trans hB7_h.out hb8 hB7_h.out.size))
          have hB8 := below_trans hB7_h.out hb8 hB7_h.out.size
          have hs8 := hsA7_h.out.below hb8
          have hd8 := (hd7_h.out.below hb8).rdc
          have hil : (ints (u.drop a1)).length = b2 * 1 := by rw [ints_length, hl3_h.out, Nat.mul_one]
          have hz8 := hb8.size
          clear hW8 y0 y1 y2 y3 y4 y5 hb8
          have hF8_h := Lib.hid hF8
          have hB8_h := Lib.hid hB8
          have hs8_h := Lib.hid hs8
          have hd8_h := Lib.hid hd8
          have hil_h := Lib.hid hil
          clear hF8 hB8 hs8 hd8 hil
          refine takeC 0 (v := ?_) rfl (by kernel_rfl) (by kernel_rfl) (by kernel_rfl) (by kernel_rfl) (fun _ _ _ h => h) hF8_h.out (by rfl) (fun W' hW' => ?_) ?_; rotate_left; · (obtain ⟨⟨y0, y1, y2⟩, y3, y4, y5⟩ := box3 hW'.1; obtain ⟨⟨x0, x1, x2⟩, x3, x4, x5⟩ := box3 hW'.2; clear hW'; go_simp; first | done | with_reducible rfl)
          simp only [Act.put, List.setIfInBounds_toArray, List.set_cons_zero, List.set_cons_succ]
          refine takeC 1 (v := ?_) rfl (by kernel_rfl) (by kernel_rfl) (by kernel_rfl) (by kernel_rfl) (fun _ _ _ h => h) hF8_h.out (by rfl) (fun W' hW' => ?_) ?_; rotate_left; · (obtain ⟨⟨y0, y1, y2⟩, y3, y4, y5⟩ := box3 hW'.1; obtain ⟨⟨x0, x1, x2⟩, x3, x4, x5⟩ := box3 hW'.2; clear hW'; go_simp; first | done | with_reducible rfl)
          simp only [Act.put, List.setIfInBounds_toArray, List.set_cons_zero, List.set_cons_succ]
          refine takeC 2 (v := ?_) rfl (by kernel_rfl) (by kernel_rfl) (by kernel_rfl) (by kernel_rfl) (fun _ _ _ h => h) hF8_h.out (by rfl) (fun W' hW' => ?_) ?_; rotate_left; · (obtain ⟨⟨y0, y1, y2⟩, y3, y4, y5⟩ := box3 hW'.1; obtain ⟨⟨x0, x1, x2⟩, x3, x4, x5⟩ := box3 hW'.2; clear hW'; go_simp; first | done | with_reducible rfl)
          simp only [Act.put, List.setIfInBounds_toArray, List.set_cons_zero, List.set_cons_succ]
          refine takeC 3 (v := ?_) rfl (by kernel_rfl) (by kernel_rfl) (by kernel_rfl) (by kernel_rfl) (fun _ _ _ h => h) hF8_h.out (by rfl) (fun W' hW' => ?_) ?_; rotate_left; · (obtain ⟨⟨y0, y1, y2⟩, y3, y4, y5⟩ := box3 hW'.1; obtain ⟨⟨x0, x1, x2⟩, x3, x4, x5⟩ := box3 hW'.2; clear hW'; go_simp; first | done | with_reducible rfl)
          simp only [Act.put, List.setIfInBounds_toArray, List.set_cons_zero, List.set_cons_succ]
          refine takeC 4 (v := ?_) rfl (by kernel_rfl) (by kernel_rfl) (by kernel_rfl) (by kernel_rfl) (fun _ _ _ h => h) hF8_h.out (by rfl) (fun W' hW' => ?_) ?_; rotate_left; · (obtain ⟨⟨y0, y1, y2⟩, y3, y4, y5⟩ := box3 hW'.1; obtain ⟨⟨x0, x1, x2⟩, x3, x4, x5⟩ := box3 hW'.2; clear hW'; go_simp; first | done | with_reducible rfl)
          simp only [Act.put, List.setIfInBounds_toArray, List.set_cons_zero, List.set_cons_succ]
          refine takeC 5 (v := ?_) rfl (by kernel_rfl) (by kernel_rfl) (by kernel_rfl) (by kernel_rfl) (fun _ _ _ h => h) hF8_h.out (by rfl) (fun W' hW' => ?_) ?_; rotate_left; · (obtain ⟨⟨y0, y1, y2⟩, y3, y4, y5⟩ := box3 hW'.1; obtain ⟨⟨x0, x1, x2⟩, x3, x4, x5⟩ := box3 hW'.2; clear hW'; go_simp; first | done | with_reducible rfl)
          simp only [Act.put, List.setIfInBounds_toArray, List.set_cons_zero, List.set_cons_succ]
          refine takeC 6 (v := .slice A3 b2 (d - a1)) rfl (by kernel_rfl) (by kernel_rfl) (by kernel_rfl) (by kernel_rfl) (fun _ _ _ h => h) hF8_h.out (by rfl) (fun W' _ => xop_sliceW rfl (hr3_h.out W')) ?_
          simp only [Act.put, List.setIfInBounds_toArray, List.set_cons_zero, List.set_cons_succ]
          refine appZ 7 rfl (by kernel_rfl) (by rfl) _ _ _ rfl tInt Tryd.underlying37 info_int rfl (by omega) rfl hs8_h.out rfl hil_h.out hd8_h.out (ints_one (u.drop a1)) (by unfold maxLen; omega) (by omega) ?_
          intro A5 c5 w5 hsA5 hA5 hkA5 hrdA5
          clear hrdA5
          have hF5 := And.intro (box_keeps hF8_h.out.1 hkA5 (fun h => by have := hn7_h.out _ h; have := box_lt k1r_h.out; omega)) (box_keeps hF8_h.out.2 hkA5 (fun h => by have := hn7_h.out _ h; have := box_lt kbx_h.out; omega))
          refine ⟨fun _ => hF5, ?_⟩
          have hB5 := below_keeps hB8_h.out hkA5 hB8_h.out.size (fun b hb => hn7_h.out b hb)
          have hn5 : Fresh wr.heap.size A5 := fun b hb => by
            rcases hA5 b hb with h1 | h1
            · exact hn7_h.out b h1
            · omega
          have hl5 : (mB a1 a2 u).length = a1 + a2 + b2 := by unfold mB; rw [List.length_append, List.length_append, List.length_replicate, hl2_h.out, hl3_h.out]
          have hI5 : IS w5 A5 c5 (mB a1 a2 u) := by
            unfold IS; rw [hl5]
            have e : ints (mB a1 a2 u) = ints (u.take a1 ++ List.replicate a2 0) ++ ints (u.drop a1) := by simp [mB, ints]
            rw [e]; exact hsA5
          clear hsA5 hA5 hkA5
          have hF5_h := Lib.hid hF5
          have hB5_h := Lib.hid hB5
          have hn5_h := Lib.hid hn5
          have hl5_h := Lib.hid hl5
          have hI5_h := Lib.hid hI5
          clear hF5 hB5 hn5 hl5 hI5
          simp only [Act.put, List.setIfInBounds_toArray, List.set_cons_zero, List.set_cons_succ]
          obtain ⟨ys, hLy, hOy, hfy, h0y, h1y, h2y⟩ := hOM_h.out
          have hyl : ys.length = q := by
            have := congrArg List.length hLy
            simp only [List.length_append, List.length_map, List.length_take, hLma_h.out, hLmb_h.out] at this
            have := hq_h.out
            omega
          have hsl : Sl (w5.alloc (.cells #[.slice A5 (a1 + a2 + b2) c5] 37)) 37 1 A' q c' (ys.map Hd.val) := by
            have := (hOy.sl.below hB5_h.out).alloc (.cells #[.slice A5 (a1 + a2 + b2) c5] 37)
            rwa [hyl] at this
          have hF6 := And.intro (box_below hF5_h.out.1 (below_alloc w5 (.cells #[.slice A5 (a1 + a2 + b2) c5] 37))) (box_below hF5_h.out.2 (below_alloc w5 (.cells #[.slice A5 (a1 + a2 + b2) c5] 37)))
          have hz5 := hB5_h.out.size
          have hsl_h := Lib.hid hsl
          have hLy_h := Lib.hid hLy
          have hOy_h := Lib.hid hOy
          have hfy_h := Lib.hid hfy
          have h0y_h := Lib.hid h0y
          have hyl_h := Lib.hid hyl
          have hF6_h := Lib.hid hF6
          clear hsl hLy hOy hfy h0y hyl hF6
          refine oneZ 8 rfl (by kernel_rfl) (by rfl) (fun K hK => ?_)
          go_simp
          refine hK _ _ (fun _ => hF6_h.out) ?_
          clear hK K
          refine appZ 9 rfl (by kernel_rfl) (by rfl) _ _ _ rfl 37 Tryd.underlying22 info_ints rfl (by omega) rfl hsl_h.out rfl (news := [.slice A5 (a1 + a2 + b2) c5]) rfl (Sl.rdc (Sl.laid w5 37 1 1 #[.slice A5 (a1 + a2 + b2) c5] (by unfold maxLen; omega) rfl)) (by intro u hu; simp at hu; subst hu; rfl) (by unfold maxLen; omega) (by omega) ?_
          intro A6 c6 w6 hsA6 hA6 hkA6 hrdA6
          clear hrdA6
          have hal : Below w5.heap.size w5 (w5.alloc (.cells #[.slice A5 (a1 + a2 + b2) c5] 37)) := below_alloc _ _
          have hO6 := OMx.snoc (w1 := w5.alloc (.cells #[.slice A5 (a1 + a2 + b2) c5] 37)) hLy_h.out hOy_h.out hfy_h.out h0y_h.out h1y h2y (below_trans hB5_h.out hal hB5_h.out.size) (hI5_h.out.below hal) hn5_h.out (by rw [hyl_h.out]) (by rw [hl5_h.out]; exact hsA6) hA6 hkA6
          have hF7 := And.intro (box_keeps hF6_h.out.1 hkA6 (fun h => by have := (hfy_h.out _ (List.mem_append_left _ h)).1; have := hbx_h.out; omega)) (box_keeps hF6_h.out.2 hkA6 (fun h => (hfy_h.out _ (List.mem_append_left _ h)).2 rfl))
          refine ⟨fun _ => hF7, ?_⟩
          obtain ⟨s1, s2⟩ := set_f2 (b := .slice A6 (q + 1) c6) hF7.2
          have hO7 := hO6.store s2
          have hkq : Keeps (fun b => W4.heap.size ≤ b ∨ b = bx) W4 w6 := by
            refine ((hkw_h.out.trans (Keeps.of_below hB5_h.out _)).trans (Keeps.of_below hal _)).trans (hkA6.mono fun b _ hb => ?_)
            have := hfy_h.out b (List.mem_append_left _ hb)
            have := hbx_h.out
            left; omega
          have hkr := hkq.trans (s2.mono fun b _ hb => .inr hb)
          obtain ⟨⟨x0, x1, x2⟩, x3, x4, x5⟩ := box3 hF7.2
          clear hsA6 hA6 hkA6 hO6 s2 hkq hal
          have hF7_h := Lib.hid hF7
          have hO7_h := Lib.hid hO7
          have s1_h := Lib.hid s1
          have hkr_h := Lib.hid hkr
          clear hF7 hO7 s1 hkr
          simp only [Act.put, List.setIfInBounds_toArray, List.set_cons_zero, List.set_cons_succ]
          refine takeC 10 (v := ?_) rfl (by kernel_rfl) (by kernel_rfl) (by kernel_rfl) (by kernel_rfl) (fun _ _ _ h => h) hF7_h.out (by rfl) (fun W' hW' => ?_) ?_; rotate_left; · (skip; clear hW'; go_simp; first | done | with_reducible rfl)
          simp only [Act.put, List.setIfInBounds_toArray, List.set_cons_zero, List.set_cons_succ]
          refine oneZ 11 rfl (by kernel_rfl) (by rfl) (fun K hK => ?_)
          go_simp
          refine hK _ _ (fun h => by cases h) ?_
          clear hK K
          refine doneZ (by kernel_rfl) ?_
          go_wp2_with (fail)
          go_roundw
          case rel => exact ⟨k + 1, A6, c6, q + 1, by omega, by go_num, by have := hq_h.out; omega, s1_h.out, by rw [List.take_add_one, hyL_h.out, List.map_append, ← List.append_assoc]; exact hO7_h.out, hkr_h.out⟩
          case measure => simp [intOf]; omega
        · obtain rfl : mb = k := by omega
          have hOM2 : OMx W bx wr A' c' X := by rw [List.take_of_length_le (by rw [hLmb_h.out]; exact Nat.le_refl _), ← hX_h.out] at hOM; exact hOM
          have hXl : X.length = q := by rw [hX_h.out, List.length_append, List.length_map, List.length_map, hLma_h.out, hLmb_h.out, hq]
          have hB5 := below_trans bW_h.out hOM2.below_ bW_h.out.size
          have hz5 := hB5.size
          obtain ⟨⟨x0, x1, x2⟩, x3, x4, x5⟩ := box3 kbx
          obtain ⟨⟨d0, d1, d2⟩, g0, g1, g2⟩ := box3 k2r
          obtain ⟨s1, s2⟩ := set3 (a := .int .i64 (a1 : Int)) (b := .int .i64 (hh : Int)) (c := .slice A' q c') k2r
          obtain ⟨fp3, hO5, hf5⟩ := OwSys.of_ret (a := (a1 : Int)) (b := (hh : Int)) hOM2.om s2 (fun k hk => by omega) hXl
          have hB6 := below_keeps hB5 s2 hB5.size (fun k hk => by omega)
          have hf6 := hf5.mono bW_h.out.size
          clear hOM hOM2 hkw hf5 s2 kbx hXl hq
          have s1_h := Lib.hid s1
          have hO5_h := Lib.hid hO5
          have hf6_h := Lib.hid hf6
          have hB6_h := Lib.hid hB6
          clear s1 hO5 hf6 hB6
          go_wp2_with (fail)
          refine bodyPost_ret (results_cell_row rfl _ _ (w.heap.size + 1 + 1) _ _ (0, 0) _ rfl s1_h.out Tryd.underlying26 rfl (by kernel_rfl)) rfl ?_
          exact ⟨_, fp3, rfl, hO5_h.out, hf6_h.out, hB6_h.out⟩

end Go.Proofs.YtpfidjegdpkhdaaDoor
namespace Go.Proofs.YtpfidjegdpkhdaaDoor
open Go.RowKit

theorem placeTo_lay (n : Nat) (at_ : List Nat) (v : List Int) : ∀ k, placeTo n at_ v k = layTo n (fun j => at_.getD j 0) v k
  | 0 => rfl
  | k + 1 => by rw [placeTo, layTo, placeTo_lay n at_ v k]
/-- The first a places, then m from o on. -/
def at2 (a m o : Nat) : List Nat := List.range a ++ (List.range m).map (· + o)
@[simp] theorem at2_length (a m o : Nat) : (at2 a m o).length = a + m := by simp [at2]
theorem at2_get {a m o j : Nat} (hj : j < a + m) : (at2 a m o).getD j 0 = if j < a then j else (j - a) + o := by
  unfold at2
  simp only [List.getD, List.getElem?_append, List.length_range]
  split
  · rename_i h; simp [h]
  · rename_i h; simp; rw [List.getElem?_range (by omega)]; rfl
theorem at2_ints (a m o : Nat) : ((at2 a m o).map fun i => ((i : Nat) : Int)) = rangeI a ++ fromI (o : Int) m := by
  unfold at2 rangeI fromI
  rw [List.map_append, List.map_map]
  congr 1
theorem at2_lt {a m o n : Nat} (h1 : a ≤ n) (h2 : o + m ≤ n) : ∀ i, i ∈ at2 a m o → i < n := by
  intro i hi
  rcases List.mem_append.1 hi with hi | hi
  · have := List.mem_range.1 hi; omega
  · obtain ⟨j, hj, rfl⟩ := List.mem_map.1 hi
    have := List.mem_range.1 hj; omega
theorem place2 {a m o n : Nat} {u : List Int} (hu : u.length = a + m) (h1 : a ≤ o) (h2 : o + m ≤ n) :
    placeV n (at2 a m o) u = (u.take a ++ List.replicate (o - a) 0) ++ (u.drop a ++ List.replicate (n - o - m) 0) := by
  unfold placeV
  rw [placeTo_lay, hu, layTo_congr (g := fun j => if j < a then j else (j - a) + o) (fun j hj => at2_get hj)]
  obtain ⟨f, hf⟩ : ∃ f : Nat → Nat, f = fun j => if j < a then j else (j - a) + o := ⟨_, rfl⟩
  rw [← hf]
  have f1 : ∀ j, j < a → f j = j := fun j hj => by rw [hf]; exact if_pos hj
  have f2 : ∀ j, ¬ j < a → f j = (j - a) + o := fun j hj => by rw [hf]; exact if_neg hj
  have mono : ∀ i j, i < j → f i < f j := fun i j h => by
    by_cases hi : i < a <;> by_cases hj : j < a
    · rw [f1 i hi, f1 j hj]; exact h
    · rw [f1 i hi, f2 j hj]; omega
    · omega
    · rw [f2 i hi, f2 j hj]; omega
  refine ext_getD (by simp; omega) fun i hi => ?_
  rw [layTo_length] at hi
  rw [getD_app, getD_app, getD_app, getD_take, getD_drop, getD_zeros, getD_zeros]
  simp only [List.length_append, List.length_take, List.length_drop, List.length_replicate, hu, show min a (a + m) = a by omega, show a + m - a = m by omega, show a + (o - a) = o by omega]
  by_cases c1 : i < a
  · have := layTo_hit (n := n) (f := f) (v := u) (k := a + m) (j := i) (by omega) (by rw [f1 i c1]; omega) (fun j _ h => by have := mono _ _ h; omega)
    rw [f1 i c1] at this
    rw [this, if_pos (by omega), if_pos c1, if_pos c1]
  · by_cases c2 : i < o
    · rw [layTo_miss (fun j hj => by by_cases h : j < a; · rw [f1 j h]; omega
                                     · rw [f2 j h]; omega), if_pos c2, if_neg c1]
    · by_cases c3 : i < o + m
      · have := layTo_hit (n := n) (f := f) (v := u) (k := a + m) (j := i - o + a) (by omega) (by rw [f2 _ (by omega)]; omega) (fun j _ h => by have := mono _ _ h; omega)
        rw [f2 _ (by omega), show i - o + a - a + o = i by omega] at this
        rw [this, if_neg c2, if_pos (by omega)]
        congr 1; omega
      · rw [layTo_miss (fun j hj => by by_cases h : j < a; · rw [f1 j h]; omega
                                       · rw [f2 j h]; omega), if_neg c2, if_neg (by omega)]
theorem place_mA {a1 a2 b2 : Nat} {u : List Int} (hu : u.length = a1 + a2) : placeV (a1 + (a2 + b2)) (at2 a1 a2 a1) u = mA b2 u := by
  rw [place2 hu (Nat.le_refl _) (by omega), Nat.sub_self, show a1 + (a2 + b2) - a1 - a2 = b2 by omega]
  unfold mA
  rw [List.replicate_zero, List.append_nil, ← List.append_assoc, List.take_append_drop]
theorem place_mB {a1 a2 b2 : Nat} {u : List Int} (hu : u.length = a1 + b2) : placeV (a1 + (a2 + b2)) (at2 a1 b2 (a1 + a2)) u = mB a1 a2 u := by
  rw [place2 hu (by omega) (by omega), show a1 + a2 - a1 = a2 by omega, show a1 + (a2 + b2) - (a1 + a2) - b2 = 0 by omega]
  unfold mB
  rw [List.replicate_zero, List.append_nil]

/-- Two lists of rows, one behind the other. -/
theorem OMx.cat {w0 w1 w2 w3 : World} {bx : Nat} {A1 A2 A3 : Option Addr} {c1 c2 c3 n : Nat} {L1 L2 : List (List Int)} {ys zs : List Hd} (hL1 : L1 = ys.map (fun h : Hd => h.2.2)) (hO1 : OwR w2 A1 c1 ys) (hf1 : ∀ b, b ∈ fpA A1 ++ fpR ys → w0.heap.size ≤ b ∧ b ≠ bx) (hlt1 : ∀ b, b ∈ fpA A1 ++ fpR ys → b < w1.heap.size) (h0 : Below w0.heap.size w0 w2) (hb1 : w0.heap.size ≤ bx) (hb2 : bx < w1.heap.size)
    (hL2 : L2 = zs.map (fun h : Hd => h.2.2)) (hO2 : OwR w2 A2 c2 zs) (hf2 : ∀ b, b ∈ fpA A2 ++ fpR zs → w1.heap.size ≤ b) (hs3 : Sl w3 37 1 A3 n c3 (ys.map Hd.val ++ zs.map Hd.val)) (hn : n = ys.length + zs.length) (hA3 : ∀ b, b ∈ fpA A3 → b ∈ fpA A1 ∨ w2.heap.size ≤ b) (hk3 : Keeps (· ∈ fpA A1) w2 w3) (_hw : w0.heap.size ≤ w1.heap.size) (hw2 : w1.heap.size ≤ w2.heap.size) : OMx w0 bx w3 A3 c3 (L1 ++ L2) := by
  subst hL1 hL2 hn
  have hz := hk3.size
  refine ⟨ys ++ zs, by rw [List.map_append], ⟨by rw [List.length_append, List.map_append]; exact hs3, fun x hx => ?_, ?_, fun x hx b hb hb' => ?_⟩, fun b hb => ?_, below_keeps h0 hk3 h0.size (fun b hb => (hf1 b (List.mem_append_left _ hb)).1), hb1, by omega⟩
  · rcases List.mem_append.1 hx with hx | hx
    · exact (hO1.rows x hx).keeps hk3 (hO1.outer x hx)
    · exact (hO2.rows x hx).keeps hk3 (fun b hb h => by
        have := hf2 b (List.mem_append_right _ (mem_fpR.2 ⟨x, hx, hb⟩))
        have := hlt1 b (List.mem_append_left _ h)
        omega)
  · refine List.pairwise_append.2 ⟨hO1.apart, hO2.apart, fun x hx y hy b hb hb' => ?_⟩
    have := hlt1 b (List.mem_append_right _ (mem_fpR.2 ⟨x, hx, hb⟩))
    have := hf2 b (List.mem_append_right _ (mem_fpR.2 ⟨y, hy, hb'⟩))
    omega
  · rcases List.mem_append.1 hx with hx | hx
    · rcases hA3 b hb' with h | h
      · exact hO1.outer x hx b hb h
      · have := (hO1.rows x hx).lt b hb; omega
    · rcases hA3 b hb' with h | h
      · have := hf2 b (List.mem_append_right _ (mem_fpR.2 ⟨x, hx, hb⟩))
        have := hlt1 b (List.mem_append_left _ h)
        omega
      · have := (hO2.rows x hx).lt b hb; omega
  · rcases List.mem_append.1 hb with hb | hb
    · rcases hA3 b hb with h | h
      · exact hf1 b (List.mem_append_left _ h)
      · omega
    · obtain ⟨x, hx, hb⟩ := mem_fpR.1 hb
      rcases List.mem_append.1 hx with hx | hx
      · exact hf1 b (List.mem_append_right _ (mem_fpR.2 ⟨x, hx, hb⟩))
      · have := hf2 b (List.mem_append_right _ (mem_fpR.2 ⟨x, hx, hb⟩))
        omega
theorem sysSize_any (a b : Int) (V : Value) (w : World) (ha : 0 ≤ a ∧ a ≤ 1000) (hb : 0 ≤ b ∧ b ≤ 1000) :
    Calls Tryd.prog 77 #[.agg #[.int .i64 a, .int .i64 b, V]] w fun e w' => e = .returned (.int .i64 (a + b)) ∧ Below w.heap.size w w' := by
  obtain ⟨W, hW, b0, k0⟩ := alloc_box w (.cells #[.int .i64 a, .int .i64 b, V] tSys)
  obtain ⟨⟨c0, c1, c2⟩, f0, f1, f2⟩ := box3 k0
  have hwr : IntKind.i64.wrap (a + b) = a + b := IntWalk.i64_in _ (by omega)
  have k0_h := Lib.hid k0
  have b0_h := Lib.hid b0
  clear k0 b0
  go_enter Tryd.func77, Tryd.ntmps77
  go_upto_region 1 with (fail)
  rw [← hW]
  clear hW
  go_wp2_with (fail)
  go_ret
  exact ⟨rfl, b0_h.out⟩
/-- A system, if it is one. -/
def vsM (p : Int) (M : Sys) : Sys × Bool := if sysB p M then (M, true) else ((0, 0, []), false)

set_option maxRecDepth 100000 in
set_option maxHeartbeats 8000000 in
theorem meet_any (p : Int) {v v' : Value} {s t : Sys} {fp fp' : List Nat} (w : World) (ha : OwSys w v s fp) (hb : OwSys w v' t fp') (hs : SysOk p s) (ht : SysOk p t) (he : s.1 = t.1) (hT : Tab w) :
    Calls Tryd.prog 69 #[.int .i64 p, v, v'] w fun e w' => ∃ v' fp', e = .returned (.tuple #[v', .bool (vsM p (meetV s t)).2]) ∧ OwSys w' v' (vsM p (meetV s t)).1 fp' ∧ FreshL w.heap.size fp' ∧ Below w.heap.size w w' := by
  have hokm := meet_ok hs ht he
  obtain ⟨Aa, ca, ga, rfl, hLa0, hOa, hfpa⟩ := ha
  obtain ⟨ia, ja, La⟩ := s
  have hva : 0 ≤ ia ∧ ia ≤ 24 := hs.vis
  have hha : 0 ≤ ja ∧ ja ≤ 100 := hs.hid
  have hflda : fieldB p = true := hs.fld
  have hrowa : ∀ u, u ∈ La → (u.length : Int) = ia + ja ∧ Res p u := fun u hu => ⟨by have := (hs.mat.row u hu).1; have e : ((ia, ja, La) : Sys).1 + ((ia, ja, La) : Sys).2.1 = ia + ja := rfl; rw [e] at this; omega, (hs.mat.row u hu).2⟩
  have hlena : La.length ≤ 160 := hs.len
  clear hs
  obtain ⟨a1, rfl⟩ : ∃ n : Nat, ia = (n : Int) := ⟨ia.toNat, by omega⟩
  obtain ⟨a2, rfl⟩ : ∃ n : Nat, ja = (n : Int) := ⟨ja.toNat, by omega⟩
  have hLa : La = ga.map (fun h : Hd => h.2.2) := hLa0
  clear hLa0
  obtain ⟨ma, hma⟩ : ∃ m, m = ga.length := ⟨_, rfl⟩
  have hLma : La.length = ma := by rw [hLa, List.length_map, hma]
  have hma160 : (ma : Int) ≤ 160 := by have := hlena; rw [hLma] at this; omega
  have ha1b : (a1 : Int) ≤ 24 := hva.2
  have ha2b : (a2 : Int) ≤ 100 := hha.2
  clear hva hha
  obtain ⟨Ab, cb, gb, rfl, hLb0, hOb, hfpb⟩ := hb
  obtain ⟨ib, jb, Lb⟩ := t
  have hvb : 0 ≤ ib ∧ ib ≤ 24 := ht.vis
  have hhb : 0 ≤ jb ∧ jb ≤ 100 := ht.hid
  have hfldb : fieldB p = true := ht.fld
  have hrowb : ∀ u, u ∈ Lb → (u.length : Int) = ib + jb ∧ Res p u := fun u hu => ⟨by have := (ht.mat.row u hu).1; have e : ((ib, jb, Lb) : Sys).1 + ((ib, jb, Lb) : Sys).2.1 = ib + jb := rfl; rw [e] at this; omega, (ht.mat.row u hu).2⟩
  have hlenb : Lb.length ≤ 160 := ht.len
  clear ht
  obtain ⟨b1, rfl⟩ : ∃ n : Nat, ib = (n : Int) := ⟨ib.toNat, by omega⟩
  obtain ⟨b2, rfl⟩ : ∃ n : Nat, jb = (n : Int) := ⟨jb.toNat, by omega⟩
  have hLb : Lb = gb.map (fun h : Hd => h.2.2) := hLb0
  clear hLb0
  obtain ⟨mb, hmb⟩ : ∃ m, m = gb.length := ⟨_, rfl⟩
  have hLmb : Lb.length = mb := by rw [hLb, List.length_map, hmb]
  have hmb160 : (mb : Int) ≤ 160 := by have := hlenb; rw [hLmb] at this; omega
  have hb1b : (b1 : Int) ≤ 24 := hvb.2
  have hb2b : (b2 : Int) ≤ 100 := hhb.2
  clear hvb hhb
  obtain rfl : a1 = b1 := by have : (a1 : Int) = (b1 : Int) := he; omega
  clear he
  obtain ⟨hh, hhh⟩ : ∃ hh, hh = a2 + b2 := ⟨_, rfl⟩
  have hhI : (a2 : Int) + (b2 : Int) = (hh : Int) := by omega
  obtain ⟨n, hn⟩ : ∃ n, n = a1 + hh := ⟨_, rfl⟩
  have hnI : (a1 : Int) + (hh : Int) = (n : Int) := by omega
  obtain ⟨X, hX⟩ : ∃ X, X = La.map (mA b2) ++ Lb.map (mB a1 a2) := ⟨_, rfl⟩
  have hgoal : meetV ((a1 : Int), (a2 : Int), La) ((a1 : Int), (b2 : Int), Lb) = ((a1 : Int), (hh : Int), X) := by
    rw [← hhI, hX]; rfl
  have hokX : OkR X := by rw [hX]; exact hokm
  rw [hgoal]
  obtain ⟨M, hM⟩ : ∃ M, M = vsM p ((a1 : Int), (hh : Int), X) := ⟨_, rfl⟩
  rw [← hM]
  unfold vsM at hM
  have hh200 : (hh : Int) ≤ 200 := by omega
  show Calls Tryd.prog _ #[.int .i64 p, .agg #[.int .i64 (a1 : Int), .int .i64 (a2 : Int), .slice Aa ga.length ca], .agg #[.int .i64 (a1 : Int), .int .i64 (b2 : Int), .slice Ab gb.length cb]] w _
  rw [← hma, ← hmb]
  obtain ⟨W, hW, bW, k0, k1, k2⟩ := alloc3 w (.cells #[.int .i64 (a1 : Int), .int .i64 (a2 : Int), .slice Aa ma ca] tSys) (.cells #[.int .i64 (a1 : Int), .int .i64 (b2 : Int), .slice Ab mb cb] tSys) (.cells #[.int .i64 0, .int .i64 0, .slice none 0 0] tSys)
  have hga : ∀ x, x ∈ ga → x.2.2.length = a1 + a2 := fun x hx => by have := (hrowa _ (by rw [hLa]; exact List.mem_map_of_mem hx)).1; omega
  have hgb : ∀ x, x ∈ gb → x.2.2.length = a1 + b2 := fun x hx => by have := (hrowb _ (by rw [hLb]; exact List.mem_map_of_mem hx)).1; omega
  have hPa : La.map (placeV n (at2 a1 a2 a1)) = La.map (mA b2) := by
    refine List.map_congr_left fun u hu => ?_
    have := (hrowa u hu).1
    rw [hn, hhh]; exact place_mA (by omega)
  have hPb : Lb.map (placeV n (at2 a1 b2 (a1 + a2))) = Lb.map (mB a1 a2) := by
    refine List.map_congr_left fun u hu => ?_
    have := (hrowb u hu).1
    rw [hn, hhh]; exact place_mB (by omega)
  have hTW := hT.below bW hT.lt
  have hrda := hOa.rd.below bW
  have hrdb := hOb.rd.below bW
  obtain ⟨⟨c0, c1, c2⟩, f0, f1, f2⟩ := box3 k0
  obtain ⟨⟨d0, d1, d2⟩, g0, g1, g2⟩ := box3 k1
  have hz2 := box_lt k2
  have hn224 : n ≤ 224 := by omega
  have hsz : ∀ (V : Value) (W' : World), Calls Tryd.prog 77 #[.agg #[.int .i64 (a1 : Int), .int .i64 (hh : Int), V]] W' fun e w' => e = .returned (.int .i64 (n : Int)) ∧ Below W'.heap.size W' w' := fun V W' => by
    have := sysSize_any (a1 : Int) (hh : Int) V W' (by omega) (by omega)
    rw [hnI] at this; exact this
  have hwh : IntKind.i64.wrap ((a2 : Int) + (b2 : Int)) = (a2 : Int) + (b2 : Int) := IntWalk.i64_in _ (by omega)
  clear hgoal hokm hOa hOb hT
  have hLa_h := Lib.hid hLa
  have hLb_h := Lib.hid hLb
  have hma_h := Lib.hid hma
  have hmb_h := Lib.hid hmb
  have hLma_h := Lib.hid hLma
  have hLmb_h := Lib.hid hLmb
  have bW_h := Lib.hid bW
  have k0_h := Lib.hid k0
  have k1_h := Lib.hid k1
  have k2_h := Lib.hid k2
  have hrda_h := Lib.hid hrda
  have hrdb_h := Lib.hid hrdb
  have hrowa_h := Lib.hid hrowa
  have hrowb_h := Lib.hid hrowb
  have hlena_h := Lib.hid hlena
  have hlenb_h := Lib.hid hlenb
  have hflda_h := Lib.hid hflda
  have hfldb_h := Lib.hid hfldb
  have hX_h := Lib.hid hX
  have hhh_h := Lib.hid hhh
  have hfpa_h := Lib.hid hfpa
  have hfpb_h := Lib.hid hfpb
  have hn_h := Lib.hid hn
  have hnI_h := Lib.hid hnI
  have hM_h := Lib.hid hM
  have hga_h := Lib.hid hga
  have hgb_h := Lib.hid hgb
  have hPa_h := Lib.hid hPa
  have hPb_h := Lib.hid hPb
  have hTW_h := Lib.hid hTW
  have hsz_h := Lib.hid hsz
  have hokX_h := Lib.hid hokX
  clear hLa hLb hma hmb hLma hLmb bW k0 k1 k2 hrda hrdb hrowa hrowb hlena hlenb hflda hfldb hX hhh hfpa hfpb hn hnI hM hga hgb hPa hPb hTW hsz hokX
  go_enter Tryd.func69, Tryd.ntmps69
  go_upto_region 1 with (fail)
  rw [← hW]
  clear hW
  go_upto_region 2 with (fail)
  obtain ⟨W4, hW4⟩ : ∃ W4, W4 = W.alloc (.cells #[.int .i64 (a1 : Int), .int .i64 (hh : Int), .slice none 0 0] tSys) := ⟨_, rfl⟩
  have b4 := below_alloc W (.cells #[.int .i64 (a1 : Int), .int .i64 (hh : Int), .slice none 0 0] tSys)
  have k4 := heap_alloc_new W (.cells #[.int .i64 (a1 : Int), .int .i64 (hh : Int), .slice none 0 0] tSys)
  rw [← hW4] at b4 k4
  have hW4s : W4.heap.size ≤ W.heap.size + 1 := by rw [hW4]; simp
  obtain ⟨bx, hbx⟩ : ∃ bx, bx = W.heap.size := ⟨_, rfl⟩
  rw [← hbx] at k4 hW4s
  rw [← hW4, ← hbx]
  have hz4 := box_lt k4
  clear c0 c1 c2 f0 f1 f2 d0 d1 d2 g0 g1 g2 hW4 hwh hhI
  replace k0_h := Lib.hid (box_below k0_h.out b4)
  replace k1_h := Lib.hid (box_below k1_h.out b4)
  replace k2_h := Lib.hid (box_below k2_h.out b4)
  obtain ⟨⟨c0, c1, c2⟩, f0, f1, f2⟩ := box3 k0_h.out
  have hbw : w.heap.size + 1 + 1 < bx := by omega
  have hwW := bW_h.out.size
  have hU := upTo_any a1 W4 (by omega)
  have b4_h := Lib.hid b4
  have k4_h := Lib.hid k4
  have hbx_h := Lib.hid hbx
  have hU_h := Lib.hid hU
  clear b4 k4 hbx hU
  go_wp2_with (fail)
  refine (hU_h.out).mono ?_
  rintro e w5 ⟨A5, c5, rfl, hi5, hf5, hb5⟩
  rw [rangeI_length]
  clear c0 c1 c2 f0 f1 f2
  have hB5 := below_trans b4_h.out hb5 b4_h.out.size
  have hbd : Below w5.heap.size w5 w5.drew := below_drewN (Below.refl _ _) 1
  replace k0_h := Lib.hid (box_below k0_h.out hb5)
  replace k1_h := Lib.hid (box_below k1_h.out hb5)
  replace k2_h := Lib.hid (box_below k2_h.out hb5)
  replace k4_h := Lib.hid (box_below k4_h.out hb5)
  have hi5' : IS w5.drew A5 c5 (rangeI a1) := hi5
  have hB6 := below_trans hB5 hbd hB5.size
  have hi5'_h := Lib.hid hi5'
  have hB6_h := Lib.hid hB6
  have hbd_h := Lib.hid hbd
  clear hi5' hB6 hbd
  clear hi5 hB5
  obtain ⟨⟨y0, y1, y2⟩, y3, y4, y5⟩ := box3 k0_h.out
  go_wp2_with (fail)
  refine beginZw 14 (fun w' => w'.heap[w.heap.size]? = some (.cells #[.int .i64 (a1 : Int), .int .i64 (a2 : Int), .slice Aa ma ca] tSys) ∧ w'.heap[bx]? = some (.cells #[.int .i64 (a1 : Int), .int .i64 (hh : Int), .slice none 0 0] tSys)) (by kernel_rfl) (fun W1 hW1 => ?_)
  have hbd1 : Below w5.heap.size w5 W1 := by rw [hW1]; exact hbd_h.out
  rw [← show W1 = w5.drew from hW1] at hi5'_h hB6_h
  replace k0_h := Lib.hid (box_below k0_h.out hbd1)
  replace k1_h := Lib.hid (box_below k1_h.out hbd1)
  replace k2_h := Lib.hid (box_below k2_h.out hbd1)
  replace k4_h := Lib.hid (box_below k4_h.out hbd1)
  have hF := And.intro k0_h.out k4_h.out
  clear hW1 y0 y1 y2 y3 y4 y5 hbd_h hbd1
  have hF_h := Lib.hid hF
  clear hF
  refine takeC 0 (v := ?_) rfl (by kernel_rfl) (by kernel_rfl) (by kernel_rfl) (by kernel_rfl) (fun _ _ _ h => h) hF_h.out (by rfl) (fun W' hW' => ?_) ?_; rotate_left; · (obtain ⟨⟨y0, y1, y2⟩, y3, y4, y5⟩ := box3 hW'.1; obtain ⟨⟨x0, x1, x2⟩, x3, x4, x5⟩ := box3 hW'.2; clear hW'; go_simp; first | done | with_reducible rfl)
  simp only [Act.put, List.setIfInBounds_toArray, List.set_cons_zero, List.set_cons_succ]
  refine takeC 1 (v := ?_) rfl (by kernel_rfl) (by kernel_rfl) (by kernel_rfl) (by kernel_rfl) (fun _ _ _ h => h) hF_h.out (by rfl) (fun W' hW' => ?_) ?_; rotate_left; · (obtain ⟨⟨y0, y1, y2⟩, y3, y4, y5⟩ := box3 hW'.1; obtain ⟨⟨x0, x1, x2⟩, x3, x4, x5⟩ := box3 hW'.2; clear hW'; go_simp; first | done | with_reducible rfl)
  simp only [Act.put, List.setIfInBounds_toArray, List.set_cons_zero, List.set_cons_succ]
  refine takeC 2 (v := ?_) rfl (by kernel_rfl) (by kernel_rfl) (by kernel_rfl) (by kernel_rfl) (fun _ _ _ h => h) hF_h.out (by rfl) (fun W' hW' => ?_) ?_; rotate_left; · (obtain ⟨⟨y0, y1, y2⟩, y3, y4, y5⟩ := box3 hW'.1; obtain ⟨⟨x0, x1, x2⟩, x3, x4, x5⟩ := box3 hW'.2; clear hW'; go_simp; first | done | with_reducible rfl)
  simp only [Act.put, List.setIfInBounds_toArray, List.set_cons_zero, List.set_cons_succ]
  refine takeC 4 (v := ?_) rfl (by kernel_rfl) (by kernel_rfl) (by kernel_rfl) (by kernel_rfl) (fun _ _ _ h => h) hF_h.out (by rfl) (fun W' hW' => ?_) ?_; rotate_left; · (obtain ⟨⟨y0, y1, y2⟩, y3, y4, y5⟩ := box3 hW'.1; obtain ⟨⟨x0, x1, x2⟩, x3, x4, x5⟩ := box3 hW'.2; clear hW'; go_simp; first | done | with_reducible rfl)
  simp only [Act.put, List.setIfInBounds_toArray, List.set_cons_zero, List.set_cons_succ]
  refine takeC 5 (v := ?_) rfl (by kernel_rfl) (by kernel_rfl) (by kernel_rfl) (by kernel_rfl) (fun _ _ _ h => h) hF_h.out (by rfl) (fun W' hW' => ?_) ?_; rotate_left; · (obtain ⟨⟨y0, y1, y2⟩, y3, y4, y5⟩ := box3 hW'.1; obtain ⟨⟨x0, x1, x2⟩, x3, x4, x5⟩ := box3 hW'.2; clear hW'; go_simp; first | done | with_reducible rfl)
  simp only [Act.put, List.setIfInBounds_toArray, List.set_cons_zero, List.set_cons_succ]
  refine takeC 6 (v := ?_) rfl (by kernel_rfl) (by kernel_rfl) (by kernel_rfl) (by kernel_rfl) (fun _ _ _ h => h) hF_h.out (by rfl) (fun W' hW' => ?_) ?_; rotate_left; · (obtain ⟨⟨y0, y1, y2⟩, y3, y4, y5⟩ := box3 hW'.1; obtain ⟨⟨x0, x1, x2⟩, x3, x4, x5⟩ := box3 hW'.2; clear hW'; go_simp; first | done | with_reducible rfl)
  simp only [Act.put, List.setIfInBounds_toArray, List.set_cons_zero, List.set_cons_succ]
  refine takeC 7 (v := ?_) rfl (by kernel_rfl) (by kernel_rfl) (by kernel_rfl) (by kernel_rfl) (fun _ _ _ h => h) hF_h.out (by rfl) (fun W' hW' => ?_) ?_; rotate_left; · (obtain ⟨⟨y0, y1, y2⟩, y3, y4, y5⟩ := box3 hW'.1; obtain ⟨⟨x0, x1, x2⟩, x3, x4, x5⟩ := box3 hW'.2; clear hW'; go_simp; first | done | with_reducible rfl)
  simp only [Act.put, List.setIfInBounds_toArray, List.set_cons_zero, List.set_cons_succ]
  refine takeC 8 (v := ?_) rfl (by kernel_rfl) (by kernel_rfl) (by kernel_rfl) (by kernel_rfl) (fun _ _ _ h => h) hF_h.out (by rfl) (fun W' hW' => ?_) ?_; rotate_left; · (obtain ⟨⟨y0, y1, y2⟩, y3, y4, y5⟩ := box3 hW'.1; obtain ⟨⟨x0, x1, x2⟩, x3, x4, x5⟩ := box3 hW'.2; clear hW'; go_simp; first | done | with_reducible rfl)
  simp only [Act.put, List.setIfInBounds_toArray, List.set_cons_zero, List.set_cons_succ]
  refine callZ 3 (f := ?f1) (args := ?args1) rfl (by kernel_rfl) (by rfl) ?hrun1 ?hcall1
  case hrun1 => (go_simp; first | done | with_reducible rfl | (constructor <;> with_reducible rfl))
  case hcall1 =>
    refine (hsz_h.out (.slice none 0 0) W1).mono ?_
    rintro e w6 ⟨rfl, hb6⟩
    replace k0_h := Lib.hid (box_below k0_h.out hb6)
    replace k1_h := Lib.hid (box_below k1_h.out hb6)
    replace k2_h := Lib.hid (box_below k2_h.out hb6)
    replace k4_h := Lib.hid (box_below k4_h.out hb6)
    have hF6 := And.intro k0_h.out k4_h.out
    refine ⟨_, rfl, fun _ => hF6, ?_⟩
    simp only [Act.put, List.setIfInBounds_toArray, List.set_cons_zero, List.set_cons_succ]
    have hi6 := hi5'_h.out.below hb6
    have hB7 := below_trans hB6_h.out hb6 hB6_h.out.size
    have hF6_h := Lib.hid hF6
    have hi6_h := Lib.hid hi6
    have hB7_h := Lib.hid hB7
    have hb6_h := Lib.hid hb6
    clear hF6 hi6 hB7 hb6
    refine callZ 9 (f := ?f2) (args := ?args2) rfl (by kernel_rfl) (by rfl) ?hrun2 ?hcall2
    case hrun2 => (go_simp; first | done | with_reducible rfl | (constructor <;> with_reducible rfl))
    case hcall2 =>
      refine (from_any (a1 : Int) a2 w6 (by omega) (by omega)).mono ?_
      rintro e w7 ⟨A7, c7, rfl, hi7, hf7, hb7⟩
      rw [fromI_length]
      replace k0_h := Lib.hid (box_below k0_h.out hb7)
      replace k1_h := Lib.hid (box_below k1_h.out hb7)
      replace k2_h := Lib.hid (box_below k2_h.out hb7)
      replace k4_h := Lib.hid (box_below k4_h.out hb7)
      have hF7 := And.intro k0_h.out k4_h.out
      refine ⟨_, rfl, fun _ => hF7, ?_⟩
      simp only [Act.put, List.setIfInBounds_toArray, List.set_cons_zero, List.set_cons_succ]
      have hi6b := hi6_h.out.below hb7
      have hlr := laid_rdr (w := w7) [(A5, c5, rangeI a1), (A7, c7, fromI (a1 : Int) a2)] (fun x hx => by
        rcases List.mem_cons.1 hx with rfl | hx
        · exact hi6b.rd
        · obtain rfl := List.mem_singleton.1 hx; exact hi7.rd) (by unfold maxLen; simp)
      have e : (([(A5, c5, rangeI a1), (A7, c7, fromI (a1 : Int) a2)] : List Hd).map Hd.val).toArray = #[.slice A5 a1 c5, .slice A7 a2 c7] := by simp [Hd.val]
      rw [e] at hlr
      have e2 : (([(A5, c5, rangeI a1), (A7, c7, fromI (a1 : Int) a2)] : List Hd).map fun h : Hd => h.2.2).flatten = (at2 a1 a2 a1).map fun i => ((i : Nat) : Int) := by rw [at2_ints]; simp
      have hJ := joined_any (some ⟨w7.heap.size, 0, none⟩) 2 [(A5, c5, rangeI a1), (A7, c7, fromI (a1 : Int) a2)] _ hlr (by simp) (by rw [e2, List.length_map, at2_length]; omega)
      rw [e2] at hJ
      have hal := below_alloc w7 (.cells #[.slice A5 a1 c5, .slice A7 a2 c7] 37)
      have hB8 := below_trans (below_trans hB7_h.out hb7 hB7_h.out.size) hal (Nat.le_trans hB7_h.out.size hb7.size)
      have hF8 := And.intro (box_below hF7.1 hal) (box_below hF7.2 hal)
      replace k0_h := Lib.hid (box_below k0_h.out hal)
      replace k1_h := Lib.hid (box_below k1_h.out hal)
      replace k2_h := Lib.hid (box_below k2_h.out hal)
      replace k4_h := Lib.hid (box_below k4_h.out hal)
      have hi8 := hi6b.below hal
      clear hlr e e2 hi6b hi7 hf7 hb7 hal
      have hF7_h := Lib.hid hF7
      have hF8_h := Lib.hid hF8
      have hB8_h := Lib.hid hB8
      have hJ_h := Lib.hid hJ
      have hi8_h := Lib.hid hi8
      clear hF7 hF8 hB8 hJ hi8
      refine oneZ 10 rfl (by kernel_rfl) (by rfl) (fun K hK => ?_)
      go_simp
      refine hK _ _ (fun _ => hF8_h.out) ?_
      clear hK K
      refine callZ 11 (f := ?f3) (args := ?args3) rfl (by kernel_rfl) (by rfl) ?hrun3 ?hcall3
      case hrun3 => (go_simp; first | done | with_reducible rfl | (constructor <;> with_reducible rfl))
      case hcall3 =>
        refine (hJ_h.out).mono ?_
        rintro e w8 ⟨A8, c8, rfl, hi9, hf9, hb9⟩
        rw [List.length_map, at2_length]
        replace k0_h := Lib.hid (box_below k0_h.out hb9)
        replace k1_h := Lib.hid (box_below k1_h.out hb9)
        replace k2_h := Lib.hid (box_below k2_h.out hb9)
        replace k4_h := Lib.hid (box_below k4_h.out hb9)
        have hF9 := And.intro k0_h.out k4_h.out
        refine ⟨_, rfl, fun _ => hF9, ?_⟩
        simp only [Act.put, List.setIfInBounds_toArray, List.set_cons_zero, List.set_cons_succ]
        have hB9 := below_trans hB8_h.out hb9 hB8_h.out.size
        have hi10 := hi8_h.out.below hb9
        have hPl := placed_any Aa A8 ca c8 n ga (at2 a1 a2 a1) w8 (hrda_h.out.below hB9) (fun x hx => by rw [at2_length, hga_h.out x hx]; exact Nat.le_refl _) hi9.rd (at2_lt (by have := hn_h.out; omega) (by have := hn_h.out; have := hhh_h.out; omega)) (by omega) (by rw [at2_length]; omega) (by rw [← hma_h.out]; omega)
        rw [at2_length, ← hma_h.out, ← hLa_h.out, hPa_h.out] at hPl
        clear hi9 hf9 hb9
        have hF9_h := Lib.hid hF9
        have hB9_h := Lib.hid hB9
        have hPl_h := Lib.hid hPl
        have hi10_h := Lib.hid hi10
        clear hF9 hB9 hPl hi10
        refine callZ 12 (f := ?f4) (args := ?args4) rfl (by kernel_rfl) (by rfl) ?hrun4 ?hcall4
        case hrun4 => (go_simp; first | done | with_reducible rfl | (constructor <;> with_reducible rfl))
        case hcall4 =>
          refine (hPl_h.out).mono ?_
          rintro e w9 hret
          obtain ⟨A9, c9, rfl, hO9⟩ := hret.om
          rw [List.length_map, hLma_h.out]
          have hb9 := hO9.below_
          have hzw8 := hB9_h.out.size
          have hlt8 : bx < w8.heap.size := box_lt k4_h.out
          replace k0_h := Lib.hid (box_below k0_h.out hb9)
          replace k1_h := Lib.hid (box_below k1_h.out hb9)
          replace k2_h := Lib.hid (box_below k2_h.out hb9)
          replace k4_h := Lib.hid (box_below k4_h.out hb9)
          have hF10 := And.intro k0_h.out k4_h.out
          refine ⟨_, rfl, fun _ => hF10, ?_⟩
          simp only [Act.put, List.setIfInBounds_toArray, List.set_cons_zero, List.set_cons_succ]
          have hB10 := below_trans hB9_h.out hb9 hB9_h.out.size
          have hi11 := hi10_h.out.below hb9
          obtain ⟨⟨x0, x1, x2⟩, x3, x4, x5⟩ := box3 hF10.2
          obtain ⟨s1, s2⟩ := set_f2 (b := .slice A9 ma c9) hF10.2
          obtain ⟨ys, hLy, hOy, hfy, h0y⟩ := hO9
          have hlty := hOy.lt
          have hz9 := hb9.size
          have hfyx : ∀ b, b ∈ fpA A9 ++ fpR ys → W.heap.size ≤ b ∧ b ≠ bx := fun b hb => by have := hfy b hb; have := hbx_h.out; omega
          have hOy2 := hOy.keeps s2 (fun b hb e => (hfyx b hb).2 e)
          have hB11 := below_keeps hB10 s2 hB10.size (fun k e => by have := hbx_h.out; omega)
          have hi12 := hi11.keeps s2 (fun b hb e => by have h1 := hf5 b hb; omega)
          have hyl : ys.length = ma := by have := congrArg List.length hLy; rw [List.length_map, List.length_map, hLma_h.out] at this; exact this.symm
          have hk0 := box_keeps k0_h.out s2 (by omega)
          have hk1 := box_keeps k1_h.out s2 (by omega)
          have hk2 := box_keeps k2_h.out s2 (by omega)
          clear hret h0y hOy hB10 hi11 s2 hfy k0_h k1_h k2_h k4_h
          obtain ⟨w10, hw10⟩ : ∃ w10, w10 = w9.setCell ⟨bx, 2, none⟩ (.slice A9 ma c9) := ⟨_, rfl⟩
          have hzz : w10.heap.size = w9.heap.size := by rw [hw10]; simp [World.setCell]
          rw [← hw10] at s1 hOy2 hB11 hi12 hk0 hk1 hk2
          have k0 := hk0
          have k1 := hk1
          have k2 := hk2
          have k4 := s1
          clear hk0 hk1 hk2 s1
          have hF10_h := Lib.hid hF10
          have k0_h := Lib.hid k0
          have k1_h := Lib.hid k1
          have k2_h := Lib.hid k2
          have k4_h := Lib.hid k4
          have hLy_h := Lib.hid hLy
          have hOy2_h := Lib.hid hOy2
          have hB11_h := Lib.hid hB11
          have hi12_h := Lib.hid hi12
          have hyl_h := Lib.hid hyl
          have hlty_h := Lib.hid hlty
          have hfyx_h := Lib.hid hfyx
          have hzz_h := Lib.hid hzz
          clear hF10 k0 k1 k2 k4 hLy hOy2 hB11 hi12 hyl hlty hfyx hzz
          refine takeC 13 (v := ?_) rfl (by kernel_rfl) (by kernel_rfl) (by kernel_rfl) (by kernel_rfl) (fun _ _ _ h => h) hF10_h.out (by rfl) (fun W' hW' => ?_) ?_; rotate_left; · (skip; clear hW'; go_simp; first | done | with_reducible rfl)
          simp only [Act.put, List.setIfInBounds_toArray, List.set_cons_zero, List.set_cons_succ]
          refine oneZ 14 rfl (by kernel_rfl) (by rfl) (fun K hK => ?_)
          go_simp
          refine hK _ _ (fun h => by cases h) ?_
          clear hK K
          refine doneZ (by kernel_rfl) ?_
          rw [← hw10]
          clear hw10 x0 x1 x2 x3 x4 x5
          have hbd2 : Below w10.heap.size w10 w10.drew := below_drewN (Below.refl _ _) 1
          obtain ⟨⟨y0, y1, y2⟩, y3, y4, y5⟩ := box3 k0_h.out
          obtain ⟨⟨x0, x1, x2⟩, x3, x4, x5⟩ := box3 k4_h.out
          have hbd2_h := Lib.hid hbd2
          clear hbd2
          go_wp2_with (fail)
          refine beginZw 20 (fun w' => w'.heap[w.heap.size]? = some (.cells #[.int .i64 (a1 : Int), .int .i64 (a2 : Int), .slice Aa ma ca] tSys) ∧ w'.heap[w.heap.size + 1]? = some (.cells #[.int .i64 (a1 : Int), .int .i64 (b2 : Int), .slice Ab mb cb] tSys) ∧ w'.heap[bx]? = some (.cells #[.int .i64 (a1 : Int), .int .i64 (hh : Int), .slice A9 ma c9] tSys)) (by kernel_rfl) (fun W2 hW2 => ?_)
          have hbd3 : Below w10.heap.size w10 W2 := by rw [hW2]; exact hbd2_h.out
          clear hW2 x0 x1 x2 x3 x4 x5 y0 y1 y2 y3 y4 y5 hbd2_h
          replace k0_h := Lib.hid (box_below k0_h.out hbd3)
          replace k1_h := Lib.hid (box_below k1_h.out hbd3)
          replace k2_h := Lib.hid (box_below k2_h.out hbd3)
          replace k4_h := Lib.hid (box_below k4_h.out hbd3)
          have hF11 : (W2.heap[w.heap.size]? = some (.cells #[.int .i64 (a1 : Int), .int .i64 (a2 : Int), .slice Aa ma ca] tSys)) ∧ (W2.heap[w.heap.size + 1]? = some (.cells #[.int .i64 (a1 : Int), .int .i64 (b2 : Int), .slice Ab mb cb] tSys)) ∧ (W2.heap[bx]? = some (.cells #[.int .i64 (a1 : Int), .int .i64 (hh : Int), .slice A9 ma c9] tSys)) := ⟨k0_h.out, k1_h.out, k4_h.out⟩
          have hi13 := hi12_h.out.below hbd3
          have hO13 := hOy2_h.out.below hbd3
          have hB13 := below_trans hB11_h.out hbd3 hB11_h.out.size
          have hz13 := hbd3.size
          have hwa : IntKind.i64.wrap ((a1 : Int) + (a2 : Int)) = (a1 : Int) + (a2 : Int) := IntWalk.i64_in _ (by omega)
          clear hbd3 hi12_h hOy2_h hB11_h
          have hF11_h := Lib.hid hF11
          have hi13_h := Lib.hid hi13
          have hO13_h := Lib.hid hO13
          have hB13_h := Lib.hid hB13
          clear hF11 hi13 hO13 hB13
          refine takeC 0 (v := ?_) rfl (by kernel_rfl) (by kernel_rfl) (by kernel_rfl) (by kernel_rfl) (fun _ _ _ h => h) hF11_h.out (by rfl) (fun W' hW' => ?_) ?_; rotate_left; · (obtain ⟨⟨y0, y1, y2⟩, y3, y4, y5⟩ := box3 hW'.1; obtain ⟨⟨z0, z1, z2⟩, z3, z4, z5⟩ := box3 hW'.2.1; obtain ⟨⟨x0, x1, x2⟩, x3, x4, x5⟩ := box3 hW'.2.2; clear hW'; go_simp; first | done | with_reducible rfl)
          simp only [Act.put, List.setIfInBounds_toArray, List.set_cons_zero, List.set_cons_succ]
          refine takeC 1 (v := ?_) rfl (by kernel_rfl) (by kernel_rfl) (by kernel_rfl) (by kernel_rfl) (fun _ _ _ h => h) hF11_h.out (by rfl) (fun W' hW' => ?_) ?_; rotate_left; · (obtain ⟨⟨y0, y1, y2⟩, y3, y4, y5⟩ := box3 hW'.1; obtain ⟨⟨z0, z1, z2⟩, z3, z4, z5⟩ := box3 hW'.2.1; obtain ⟨⟨x0, x1, x2⟩, x3, x4, x5⟩ := box3 hW'.2.2; clear hW'; go_simp; first | done | with_reducible rfl)
          simp only [Act.put, List.setIfInBounds_toArray, List.set_cons_zero, List.set_cons_succ]
          refine takeC 2 (v := ?_) rfl (by kernel_rfl) (by kernel_rfl) (by kernel_rfl) (by kernel_rfl) (fun _ _ _ h => h) hF11_h.out (by rfl) (fun W' hW' => ?_) ?_; rotate_left; · (obtain ⟨⟨y0, y1, y2⟩, y3, y4, y5⟩ := box3 hW'.1; obtain ⟨⟨z0, z1, z2⟩, z3, z4, z5⟩ := box3 hW'.2.1; obtain ⟨⟨x0, x1, x2⟩, x3, x4, x5⟩ := box3 hW'.2.2; clear hW'; go_simp; first | done | with_reducible rfl)
          simp only [Act.put, List.setIfInBounds_toArray, List.set_cons_zero, List.set_cons_succ]
          refine takeC 3 (v := ?_) rfl (by kernel_rfl) (by kernel_rfl) (by kernel_rfl) (by kernel_rfl) (fun _ _ _ h => h) hF11_h.out (by rfl) (fun W' hW' => ?_) ?_; rotate_left; · (obtain ⟨⟨y0, y1, y2⟩, y3, y4, y5⟩ := box3 hW'.1; obtain ⟨⟨z0, z1, z2⟩, z3, z4, z5⟩ := box3 hW'.2.1; obtain ⟨⟨x0, x1, x2⟩, x3, x4, x5⟩ := box3 hW'.2.2; clear hW'; go_simp; first | done | with_reducible rfl)
          simp only [Act.put, List.setIfInBounds_toArray, List.set_cons_zero, List.set_cons_succ]
          refine takeC 4 (v := ?_) rfl (by kernel_rfl) (by kernel_rfl) (by kernel_rfl) (by kernel_rfl) (fun _ _ _ h => h) hF11_h.out (by rfl) (fun W' hW' => ?_) ?_; rotate_left; · (obtain ⟨⟨y0, y1, y2⟩, y3, y4, y5⟩ := box3 hW'.1; obtain ⟨⟨z0, z1, z2⟩, z3, z4, z5⟩ := box3 hW'.2.1; obtain ⟨⟨x0, x1, x2⟩, x3, x4, x5⟩ := box3 hW'.2.2; clear hW'; go_simp; first | done | with_reducible rfl)
          simp only [Act.put, List.setIfInBounds_toArray, List.set_cons_zero, List.set_cons_succ]
          refine takeC 6 (v := ?_) rfl (by kernel_rfl) (by kernel_rfl) (by kernel_rfl) (by kernel_rfl) (fun _ _ _ h => h) hF11_h.out (by rfl) (fun W' hW' => ?_) ?_; rotate_left; · (obtain ⟨⟨y0, y1, y2⟩, y3, y4, y5⟩ := box3 hW'.1; obtain ⟨⟨z0, z1, z2⟩, z3, z4, z5⟩ := box3 hW'.2.1; obtain ⟨⟨x0, x1, x2⟩, x3, x4, x5⟩ := box3 hW'.2.2; clear hW'; go_simp; first | done | with_reducible rfl)
          simp only [Act.put, List.setIfInBounds_toArray, List.set_cons_zero, List.set_cons_succ]
          refine takeC 7 (v := ?_) rfl (by kernel_rfl) (by kernel_rfl) (by kernel_rfl) (by kernel_rfl) (fun _ _ _ h => h) hF11_h.out (by rfl) (fun W' hW' => ?_) ?_; rotate_left; · (obtain ⟨⟨y0, y1, y2⟩, y3, y4, y5⟩ := box3 hW'.1; obtain ⟨⟨z0, z1, z2⟩, z3, z4, z5⟩ := box3 hW'.2.1; obtain ⟨⟨x0, x1, x2⟩, x3, x4, x5⟩ := box3 hW'.2.2; clear hW'; go_simp; first | done | with_reducible rfl)
          simp only [Act.put, List.setIfInBounds_toArray, List.set_cons_zero, List.set_cons_succ]
          refine takeC 8 (v := ?_) rfl (by kernel_rfl) (by kernel_rfl) (by kernel_rfl) (by kernel_rfl) (fun _ _ _ h => h) hF11_h.out (by rfl) (fun W' hW' => ?_) ?_; rotate_left; · (obtain ⟨⟨y0, y1, y2⟩, y3, y4, y5⟩ := box3 hW'.1; obtain ⟨⟨z0, z1, z2⟩, z3, z4, z5⟩ := box3 hW'.2.1; obtain ⟨⟨x0, x1, x2⟩, x3, x4, x5⟩ := box3 hW'.2.2; clear hW'; go_simp; first | done | with_reducible rfl)
          simp only [Act.put, List.setIfInBounds_toArray, List.set_cons_zero, List.set_cons_succ]
          refine takeC 9 (v := ?_) rfl (by kernel_rfl) (by kernel_rfl) (by kernel_rfl) (by kernel_rfl) (fun _ _ _ h => h) hF11_h.out (by rfl) (fun W' hW' => ?_) ?_; rotate_left; · (obtain ⟨⟨y0, y1, y2⟩, y3, y4, y5⟩ := box3 hW'.1; obtain ⟨⟨z0, z1, z2⟩, z3, z4, z5⟩ := box3 hW'.2.1; obtain ⟨⟨x0, x1, x2⟩, x3, x4, x5⟩ := box3 hW'.2.2; clear hW'; go_simp; first | done | with_reducible rfl)
          simp only [Act.put, List.setIfInBounds_toArray, List.set_cons_zero, List.set_cons_succ]
          refine takeC 10 (v := ?_) rfl (by kernel_rfl) (by kernel_rfl) (by kernel_rfl) (by kernel_rfl) (fun _ _ _ h => h) hF11_h.out (by rfl) (fun W' hW' => ?_) ?_; rotate_left; · (obtain ⟨⟨y0, y1, y2⟩, y3, y4, y5⟩ := box3 hW'.1; obtain ⟨⟨z0, z1, z2⟩, z3, z4, z5⟩ := box3 hW'.2.1; obtain ⟨⟨x0, x1, x2⟩, x3, x4, x5⟩ := box3 hW'.2.2; clear hW'; go_simp; first | done | with_reducible rfl)
          simp only [Act.put, List.setIfInBounds_toArray, List.set_cons_zero, List.set_cons_succ]
          refine takeC 11 (v := ?_) rfl (by kernel_rfl) (by kernel_rfl) (by kernel_rfl) (by kernel_rfl) (fun _ _ _ h => h) hF11_h.out (by rfl) (fun W' hW' => ?_) ?_; rotate_left; · (obtain ⟨⟨y0, y1, y2⟩, y3, y4, y5⟩ := box3 hW'.1; obtain ⟨⟨z0, z1, z2⟩, z3, z4, z5⟩ := box3 hW'.2.1; obtain ⟨⟨x0, x1, x2⟩, x3, x4, x5⟩ := box3 hW'.2.2; clear hW'; go_simp; first | done | with_reducible rfl)
          simp only [Act.put, List.setIfInBounds_toArray, List.set_cons_zero, List.set_cons_succ]
          refine takeC 12 (v := ?_) rfl (by kernel_rfl) (by kernel_rfl) (by kernel_rfl) (by kernel_rfl) (fun _ _ _ h => h) hF11_h.out (by rfl) (fun W' hW' => ?_) ?_; rotate_left; · (obtain ⟨⟨y0, y1, y2⟩, y3, y4, y5⟩ := box3 hW'.1; obtain ⟨⟨z0, z1, z2⟩, z3, z4, z5⟩ := box3 hW'.2.1; obtain ⟨⟨x0, x1, x2⟩, x3, x4, x5⟩ := box3 hW'.2.2; clear hW'; go_simp; first | done | with_reducible rfl)
          simp only [Act.put, List.setIfInBounds_toArray, List.set_cons_zero, List.set_cons_succ]
          refine takeC 13 (v := ?_) rfl (by kernel_rfl) (by kernel_rfl) (by kernel_rfl) (by kernel_rfl) (fun _ _ _ h => h) hF11_h.out (by rfl) (fun W' hW' => ?_) ?_; rotate_left; · (obtain ⟨⟨y0, y1, y2⟩, y3, y4, y5⟩ := box3 hW'.1; obtain ⟨⟨z0, z1, z2⟩, z3, z4, z5⟩ := box3 hW'.2.1; obtain ⟨⟨x0, x1, x2⟩, x3, x4, x5⟩ := box3 hW'.2.2; clear hW'; go_simp; first | done | with_reducible rfl)
          simp only [Act.put, List.setIfInBounds_toArray, List.set_cons_zero, List.set_cons_succ]
          refine callZ 5 (f := ?f5) (args := ?args5) rfl (by kernel_rfl) (by rfl) ?hrun5 ?hcall5
          case hrun5 => (go_simp; first | done | with_reducible rfl | (constructor <;> with_reducible rfl))
          case hcall5 =>
            refine (hsz_h.out (.slice A9 ma c9) W2).mono ?_
            rintro e w11 ⟨rfl, hb11⟩
            replace k0_h := Lib.hid (box_below k0_h.out hb11)
            replace k1_h := Lib.hid (box_below k1_h.out hb11)
            replace k2_h := Lib.hid (box_below k2_h.out hb11)
            replace k4_h := Lib.hid (box_below k4_h.out hb11)
            have hF12 : (w11.heap[w.heap.size]? = some (.cells #[.int .i64 (a1 : Int), .int .i64 (a2 : Int), .slice Aa ma ca] tSys)) ∧ (w11.heap[w.heap.size + 1]? = some (.cells #[.int .i64 (a1 : Int), .int .i64 (b2 : Int), .slice Ab mb cb] tSys)) ∧ (w11.heap[bx]? = some (.cells #[.int .i64 (a1 : Int), .int .i64 (hh : Int), .slice A9 ma c9] tSys)) := ⟨k0_h.out, k1_h.out, k4_h.out⟩
            refine ⟨_, rfl, fun _ => hF12, ?_⟩
            simp only [Act.put, List.setIfInBounds_toArray, List.set_cons_zero, List.set_cons_succ]
            have hi14 := hi13_h.out.below hb11
            have hO14 := hO13_h.out.below hb11
            have hB14 := below_trans hB13_h.out hb11 hB13_h.out.size
            have hz14 := hb11.size
            clear hwa
            have hF12_h := Lib.hid hF12
            have hi14_h := Lib.hid hi14
            have hO14_h := Lib.hid hO14
            have hB14_h := Lib.hid hB14
            have hb11_h := Lib.hid hb11
            clear hF12 hi14 hO14 hB14 hb11
            refine callZ 14 (f := ?f6) (args := ?args6) rfl (by kernel_rfl) (by rfl) ?hrun6 ?hcall6
            case hrun6 => (go_simp; first | done | with_reducible rfl | (constructor <;> with_reducible rfl))
            case hcall6 =>
              refine (from_any ((a1 : Int) + (a2 : Int)) b2 w11 (by omega) (by omega)).mono ?_
              rintro e w12 ⟨A12, c12, rfl, hi15, hf15, hb15⟩
              rw [fromI_length]
              replace k0_h := Lib.hid (box_below k0_h.out hb15)
              replace k1_h := Lib.hid (box_below k1_h.out hb15)
              replace k2_h := Lib.hid (box_below k2_h.out hb15)
              replace k4_h := Lib.hid (box_below k4_h.out hb15)
              have hF13 : (w12.heap[w.heap.size]? = some (.cells #[.int .i64 (a1 : Int), .int .i64 (a2 : Int), .slice Aa ma ca] tSys)) ∧ (w12.heap[w.heap.size + 1]? = some (.cells #[.int .i64 (a1 : Int), .int .i64 (b2 : Int), .slice Ab mb cb] tSys)) ∧ (w12.heap[bx]? = some (.cells #[.int .i64 (a1 : Int), .int .i64 (hh : Int), .slice A9 ma c9] tSys)) := ⟨k0_h.out, k1_h.out, k4_h.out⟩
              refine ⟨_, rfl, fun _ => hF13, ?_⟩
              simp only [Act.put, List.setIfInBounds_toArray, List.set_cons_zero, List.set_cons_succ]
              have hi14b := hi14_h.out.below hb15
              have hO15 := hO14_h.out.below hb15
              have hlr := laid_rdr (w := w12) [(A5, c5, rangeI a1), (A12, c12, fromI ((a1 : Int) + (a2 : Int)) b2)] (fun x hx => by
                rcases List.mem_cons.1 hx with rfl | hx
                · exact hi14b.rd
                · obtain rfl := List.mem_singleton.1 hx; exact hi15.rd) (by unfold maxLen; simp)
              have e : (([(A5, c5, rangeI a1), (A12, c12, fromI ((a1 : Int) + (a2 : Int)) b2)] : List Hd).map Hd.val).toArray = #[.slice A5 a1 c5, .slice A12 b2 c12] := by simp [Hd.val]
              rw [e] at hlr
              have e2 : (([(A5, c5, rangeI a1), (A12, c12, fromI ((a1 : Int) + (a2 : Int)) b2)] : List Hd).map fun h : Hd => h.2.2).flatten = (at2 a1 b2 (a1 + a2)).map fun i => ((i : Nat) : Int) := by
                rw [at2_ints, show (((a1 + a2 : Nat)) : Int) = (a1 : Int) + (a2 : Int) by omega]; simp
              have hJ := joined_any (some ⟨w12.heap.size, 0, none⟩) 2 [(A5, c5, rangeI a1), (A12, c12, fromI ((a1 : Int) + (a2 : Int)) b2)] _ hlr (by simp) (by rw [e2, List.length_map, at2_length]; omega)
              rw [e2] at hJ
              have hal := below_alloc w12 (.cells #[.slice A5 a1 c5, .slice A12 b2 c12] 37)
              have hB16 := below_trans (below_trans hB14_h.out hb15 hB14_h.out.size) hal (Nat.le_trans hB14_h.out.size hb15.size)
              have hF14 := And.intro (box_below hF13.1 hal) (And.intro (box_below hF13.2.1 hal) (box_below hF13.2.2 hal))
              replace k0_h := Lib.hid (box_below k0_h.out hal)
              replace k1_h := Lib.hid (box_below k1_h.out hal)
              replace k2_h := Lib.hid (box_below k2_h.out hal)
              replace k4_h := Lib.hid (box_below k4_h.out hal)
              have hO16 := hO15.below hal
              have hz16 := Nat.le_trans hb15.size hal.size
              clear hlr e e2 hi14b hi15 hf15 hb15 hal hO15
              have hF13_h := Lib.hid hF13
              have hF14_h := Lib.hid hF14
              have hB16_h := Lib.hid hB16
              have hJ_h := Lib.hid hJ
              have hO16_h := Lib.hid hO16
              clear hF13 hF14 hB16 hJ hO16
              refine oneZ 15 rfl (by kernel_rfl) (by rfl) (fun K hK => ?_)
              go_simp
              refine hK _ _ (fun _ => hF14_h.out) ?_
              clear hK K
              refine callZ 16 (f := ?f7) (args := ?args7) rfl (by kernel_rfl) (by rfl) ?hrun7 ?hcall7
              case hrun7 => (go_simp; first | done | with_reducible rfl | (constructor <;> with_reducible rfl))
              case hcall7 =>
                refine (hJ_h.out).mono ?_
                rintro e w13 ⟨A13, c13, rfl, hi17, hf17, hb17⟩
                rw [List.length_map, at2_length]
                replace k0_h := Lib.hid (box_below k0_h.out hb17)
                replace k1_h := Lib.hid (box_below k1_h.out hb17)
                replace k2_h := Lib.hid (box_below k2_h.out hb17)
                replace k4_h := Lib.hid (box_below k4_h.out hb17)
                have hF15 : (w13.heap[w.heap.size]? = some (.cells #[.int .i64 (a1 : Int), .int .i64 (a2 : Int), .slice Aa ma ca] tSys)) ∧ (w13.heap[w.heap.size + 1]? = some (.cells #[.int .i64 (a1 : Int), .int .i64 (b2 : Int), .slice Ab mb cb] tSys)) ∧ (w13.heap[bx]? = some (.cells #[.int .i64 (a1 : Int), .int .i64 (hh : Int), .slice A9 ma c9] tSys)) := ⟨k0_h.out, k1_h.out, k4_h.out⟩
                refine ⟨_, rfl, fun _ => hF15, ?_⟩
                simp only [Act.put, List.setIfInBounds_toArray, List.set_cons_zero, List.set_cons_succ]
                have hB17 := below_trans hB16_h.out hb17 hB16_h.out.size
                have hO17 := hO16_h.out.below hb17
                have hz17 := hb17.size
                have hPl := placed_any Ab A13 cb c13 n gb (at2 a1 b2 (a1 + a2)) w13 (hrdb_h.out.below hB17) (fun x hx => by rw [at2_length, hgb_h.out x hx]; exact Nat.le_refl _) hi17.rd (at2_lt (by have := hn_h.out; omega) (by have := hn_h.out; have := hhh_h.out; omega)) (by omega) (by rw [at2_length]; omega) (by rw [← hmb_h.out]; omega)
                rw [at2_length, ← hmb_h.out, ← hLb_h.out, hPb_h.out] at hPl
                clear hi17 hf17 hb17
                have hF15_h := Lib.hid hF15
                have hB17_h := Lib.hid hB17
                have hPl_h := Lib.hid hPl
                have hO17_h := Lib.hid hO17
                clear hF15 hB17 hPl hO17
                refine callZ 17 (f := ?f8) (args := ?args8) rfl (by kernel_rfl) (by rfl) ?hrun8 ?hcall8
                case hrun8 => (go_simp; first | done | with_reducible rfl | (constructor <;> with_reducible rfl))
                case hcall8 =>
                  refine (hPl_h.out).mono ?_
                  rintro e w14 hret
                  obtain ⟨A14, c14, rfl, hO18⟩ := hret.om
                  rw [List.length_map, hLmb_h.out]
                  have hb18 := hO18.below_
                  have hlt13 : bx < w13.heap.size := box_lt k4_h.out
                  replace k0_h := Lib.hid (box_below k0_h.out hb18)
                  replace k1_h := Lib.hid (box_below k1_h.out hb18)
                  replace k2_h := Lib.hid (box_below k2_h.out hb18)
                  replace k4_h := Lib.hid (box_below k4_h.out hb18)
                  have hF16 : (w14.heap[w.heap.size]? = some (.cells #[.int .i64 (a1 : Int), .int .i64 (a2 : Int), .slice Aa ma ca] tSys)) ∧ (w14.heap[w.heap.size + 1]? = some (.cells #[.int .i64 (a1 : Int), .int .i64 (b2 : Int), .slice Ab mb cb] tSys)) ∧ (w14.heap[bx]? = some (.cells #[.int .i64 (a1 : Int), .int .i64 (hh : Int), .slice A9 ma c9] tSys)) := ⟨k0_h.out, k1_h.out, k4_h.out⟩
                  refine ⟨_, rfl, fun _ => hF16, ?_⟩
                  simp only [Act.put, List.setIfInBounds_toArray, List.set_cons_zero, List.set_cons_succ]
                  have hB18 := below_trans hB17_h.out hb18 hB17_h.out.size
                  have hO19 := hO17_h.out.below hb18
                  have hz18 := hb18.size
                  obtain ⟨zs, hLz, hOz, hfz, h0z⟩ := hO18
                  have hzl : zs.length = mb := by have := congrArg List.length hLz; rw [List.length_map, List.length_map, hLmb_h.out] at this; exact this.symm
                  have hs1 : Sl w14 37 1 A9 ma c9 (ys.map Hd.val) := by have := hO19.sl; rwa [hyl_h.out] at this
                  have hnl : (zs.map Hd.val).length = mb * 1 := by rw [List.length_map, hzl, Nat.mul_one]
                  have hnr : RdC w14 A14 (zs.map Hd.val) := hOz.sl.rdc
                  have hn1 : ∀ u ∈ zs.map Hd.val, u.oneCell' = true := fun u hu => by
                    obtain ⟨x, _, rfl⟩ := List.mem_map.1 hu
                    rfl
                  clear hret h0z
                  have hF16_h := Lib.hid hF16
                  have hB18_h := Lib.hid hB18
                  have hO19_h := Lib.hid hO19
                  have hLz_h := Lib.hid hLz
                  have hOz_h := Lib.hid hOz
                  have hfz_h := Lib.hid hfz
                  have hzl_h := Lib.hid hzl
                  have hs1_h := Lib.hid hs1
                  have hnl_h := Lib.hid hnl
                  have hnr_h := Lib.hid hnr
                  have hn1_h := Lib.hid hn1
                  clear hF16 hB18 hO19 hLz hOz hfz hzl hs1 hnl hnr hn1
                  refine appZ 18 rfl (by kernel_rfl) (by rfl) _ _ _ rfl 37 Tryd.underlying22 info_ints rfl (by omega) rfl hs1_h.out rfl hnl_h.out hnr_h.out hn1_h.out (by unfold maxLen; omega) (by omega) ?_
                  intro A15 c15 w15 hs3 hA3 hk3 hrd3
                  have hOM := OMx.cat (w0 := W) (w1 := w13) (bx := bx) hLy_h.out hO19_h.out hfyx_h.out (fun b hb => by have := hlty_h.out b hb; have := hzz_h.out; omega) hB18_h.out (by have := hbx_h.out; omega) hlt13 hLz_h.out hOz_h.out hfz_h.out hs3 (by rw [hyl_h.out, hzl_h.out]) hA3 hk3 (by have := hbx_h.out; omega) hz18
                  rw [← hX_h.out] at hOM
                  have hnA : ∀ b, b ∈ fpA A9 → W.heap.size ≤ b ∧ b ≠ bx := fun b hb => hfyx_h.out b (List.mem_append_left _ hb)
                  have hF17 : (w15.heap[w.heap.size]? = some (.cells #[.int .i64 (a1 : Int), .int .i64 (a2 : Int), .slice Aa ma ca] tSys)) ∧ (w15.heap[w.heap.size + 1]? = some (.cells #[.int .i64 (a1 : Int), .int .i64 (b2 : Int), .slice Ab mb cb] tSys)) ∧ (w15.heap[bx]? = some (.cells #[.int .i64 (a1 : Int), .int .i64 (hh : Int), .slice A9 ma c9] tSys)) := ⟨box_keeps hF16_h.out.1 hk3 (fun h => by have := (hnA _ h).1; have := hbx_h.out; omega), box_keeps hF16_h.out.2.1 hk3 (fun h => by have := (hnA _ h).1; have := hbx_h.out; omega), box_keeps hF16_h.out.2.2 hk3 (fun h => (hnA _ h).2 rfl)⟩
                  have k2b := box_keeps k2_h.out hk3 (fun h => by have := (hnA _ h).1; have := hbx_h.out; omega)
                  refine ⟨fun _ => hF17, ?_⟩
                  simp only [Act.put, List.setIfInBounds_toArray, List.set_cons_zero, List.set_cons_succ]
                  obtain ⟨⟨x0, x1, x2⟩, x3, x4, x5⟩ := box3 hF17.2.2
                  obtain ⟨s1, s2⟩ := set_f2 (b := .slice A15 (ma + mb) c15) hF17.2.2
                  have hOM2 := hOM.store s2
                  have k2c := box_keeps k2b s2 (by omega)
                  obtain ⟨w16, hw16⟩ : ∃ w16, w16 = w15.setCell ⟨bx, 2, none⟩ (.slice A15 (ma + mb) c15) := ⟨_, rfl⟩
                  rw [← hw16] at s1 hOM2 k2c
                  clear hs3 hA3 hk3 hrd3 hOM hnA k2b s2 k0_h k1_h k2_h k4_h
                  have k2 := k2c
                  have k4 := s1
                  clear k2c s1
                  have hF17_h := Lib.hid hF17
                  have hOM2_h := Lib.hid hOM2
                  have k2_h := Lib.hid k2
                  have k4_h := Lib.hid k4
                  clear hF17 hOM2 k2 k4
                  refine takeC 19 (v := ?_) rfl (by kernel_rfl) (by kernel_rfl) (by kernel_rfl) (by kernel_rfl) (fun _ _ _ h => h) hF17_h.out (by rfl) (fun W' hW' => ?_) ?_; rotate_left; · (skip; clear hW'; go_simp; first | done | with_reducible rfl)
                  simp only [Act.put, List.setIfInBounds_toArray, List.set_cons_zero, List.set_cons_succ]
                  refine oneZ 20 rfl (by kernel_rfl) (by rfl) (fun K hK => ?_)
                  go_simp
                  refine hK _ _ (fun h => by cases h) ?_
                  clear hK K
                  refine doneZ (by kernel_rfl) ?_
                  rw [← hw16]
                  clear hw16 x0 x1 x2 x3 x4 x5
                  have hXl : X.length = ma + mb := by rw [hX_h.out, List.length_append, List.length_map, List.length_map, hLma_h.out, hLmb_h.out]
                  obtain ⟨hs, hLs, hrs⟩ := hOM2_h.out.om.rdr
                  have hsl : hs.length = ma + mb := by have := congrArg List.length hLs; rw [List.length_map, hXl] at this; exact this.symm
                  have hV := validSystem_any p (v := .agg #[.int .i64 (a1 : Int), .int .i64 (hh : Int), .slice A15 (ma + mb) c15]) (s := ((a1 : Int), (hh : Int), X)) (w := w16) ⟨A15, c15, hs, by rw [hsl], hLs, hrs⟩ hokX_h.out (hTW_h.out.below hOM2_h.out.below_ hTW_h.out.lt)
                  obtain ⟨⟨x0, x1, x2⟩, x3, x4, x5⟩ := box3 k4_h.out
                  have hB19 := below_trans bW_h.out hOM2_h.out.below_ bW_h.out.size
                  clear hLs hrs hsl
                  by_cases hsb : sysB p ((a1 : Int), (hh : Int), X) = true
                  · have hM2 := hM_h.out
                    rw [hsb, if_pos rfl] at hM2
                    rw [hsb, if_pos rfl] at hV
                    subst hM2
                    clear hM_h hsb
                    have hV_h := Lib.hid hV
                    have hXl_h := Lib.hid hXl
                    have hB19_h := Lib.hid hB19
                    clear hV hXl hB19
                    go_wp2_with (fail)
                    refine (hV_h.out).mono ?_
                    rintro e w17 ⟨rfl, hb17⟩
                    clear x0 x1 x2 x3 x4 x5
                    have hOM3 := hOM2_h.out.below hb17
                    have k2e := box_below k2_h.out hb17
                    have hB20 := below_trans hB19_h.out hb17 hB19_h.out.size
                    have hz20 := box_lt k2e
                    obtain ⟨⟨d0, d1, d2⟩, g0, g1, g2⟩ := box3 k2e
                    obtain ⟨s1, s2⟩ := set3 (a := .int .i64 (a1 : Int)) (b := .int .i64 (hh : Int)) (c := .slice A15 (ma + mb) c15) k2e
                    obtain ⟨fp3, hO5, hf5⟩ := OwSys.of_ret (a := (a1 : Int)) (b := (hh : Int)) hOM3.om s2 (fun k hk => by omega) hXl_h.out
                    have hB21 := below_keeps hB20 s2 hB20.size (fun k hk => by omega)
                    have hf6 := hf5.mono bW_h.out.size
                    clear hOM3 hB20 hf5 s2 k2e hb17
                    have s1_h := Lib.hid s1
                    have hO5_h := Lib.hid hO5
                    have hf6_h := Lib.hid hf6
                    have hB21_h := Lib.hid hB21
                    clear s1 hO5 hf6 hB21
                    go_wp2_with (fail)
                    refine bodyPost_ret (results_cell_tmp rfl _ _ (w.heap.size + 1 + 1) _ _ (0, 0) _ rfl s1_h.out Tryd.underlying26 rfl (by kernel_rfl)) rfl ?_
                    exact ⟨_, rfl, fp3, hO5_h.out, hf6_h.out, hB21_h.out⟩
                  · have hsb' : sysB p ((a1 : Int), (hh : Int), X) = false := by simpa using hsb
                    have hM2 := hM_h.out
                    rw [hsb', if_neg (by simp)] at hM2
                    rw [hsb', if_neg (by simp)] at hV
                    subst hM2
                    clear hM_h hsb hsb'
                    have hV_h := Lib.hid hV
                    have hXl_h := Lib.hid hXl
                    have hB19_h := Lib.hid hB19
                    clear hV hXl hB19
                    go_wp2_with (fail)
                    refine (hV_h.out).mono ?_
                    rintro e w17 ⟨rfl, hb17⟩
                    clear x0 x1 x2 x3 x4 x5
                    have k2e := box_below k2_h.out hb17
                    have hB20 := below_trans hB19_h.out hb17 hB19_h.out.size
                    have hz20 := box_lt k2e
                    obtain ⟨⟨d0, d1, d2⟩, g0, g1, g2⟩ := box3 k2e
                    obtain ⟨s1, s2⟩ := set3 (a := .int .i64 0) (b := .int .i64 0) (c := .slice none 0 0) k2e
                    have hB21 := below_keeps hB20 s2 hB20.size (fun k hk => by omega)
                    clear hB20 s2 k2e hb17
                    have s1_h := Lib.hid s1
                    have hB21_h := Lib.hid hB21
                    clear s1 hB21
                    go_wp2_with (fail)
                    refine bodyPost_ret (results_cell_tmp rfl _ _ (w.heap.size + 1 + 1) _ _ (0, 0) _ rfl s1_h.out Tryd.underlying26 rfl (by kernel_rfl)) rfl ?_
                    exact ⟨_, rfl, [], OwSys.zero _ 0 0, FreshL.nil _, hB21_h.out⟩
end Go.Proofs.YtpfidjegdpkhdaaDoor
namespace Go.Proofs.YtpfidjegdpkhdaaDoor
open Go.RowKit

set_option maxRecDepth 100000 in
set_option maxHeartbeats 4000000 in
theorem sMeetSystems_law (p : Int) {v v' : Value} {s t : Sys} {fp fp' : List Nat} {w : World} (h : OwSys w v s fp) (h' : OwSys w v' t fp') (ok : OkR s.2.2) (ok' : OkR t.2.2) :
    Calls Tryd.prog 22 #[.int .i64 p, v, v'] w fun e w' => ∃ v' fp', e = .returned (.tuple #[v', .bool (meM p s t).2]) ∧ OwSys w' v' (meM p s t).1 fp' ∧ FreshL w.heap.size fp' ∧ Below w.heap.size w w' := by
  obtain ⟨C, hC0⟩ : ∃ C, C = meM p s t := ⟨_, rfl⟩
  rw [← hC0]
  unfold meM at hC0
  obtain ⟨A, n, c, rfl⟩ := h.shape
  obtain ⟨A', n', c', rfl⟩ := h'.shape
  obtain ⟨W, hW, bW, k0, k1, k2⟩ := alloc3 w (.cells #[.int .i64 s.1, .int .i64 s.2.1, .slice A n c] tSys) (.cells #[.int .i64 t.1, .int .i64 t.2.1, .slice A' n' c'] tSys) (.cells #[.int .i64 0, .int .i64 0, .slice none 0 0] tSys)
  have hG := fun W' (hb : Below W.heap.size W W') => syGood_any p W' ((h.below bW).below hb).rd ok.1 ok.2.1
  have hG' := fun W' (hb : Below W.heap.size W W') => syGood_any p W' ((h'.below bW).below hb).rd ok'.1 ok'.2.1
  have hF := fun W' (hb : Below W.heap.size W W') (hs : SysOk p s) (ht : SysOk p t) (he : s.1 = t.1) => pvMeet_any p W' ((h.below bW).below hb) ((h'.below bW).below hb) hs ht he
  by_cases hr : sysB p s = true
  · rw [hr, Bool.true_and] at hC0
    have hs := SysOk.of hr
    simp only [hr] at hG
    by_cases hq : sysB p t = true
    · rw [hq, Bool.true_and] at hC0
      have ht := SysOk.of hq
      simp only [hq] at hG'
      by_cases he : s.1 = t.1
      · rw [decide_eq_true he, Bool.true_and] at hC0
        have hokV := meet_ok hs ht he
        obtain ⟨V, hV⟩ : ∃ V, V = meetV s t := ⟨_, rfl⟩
        rw [← hV] at hC0 hokV
        simp only [← hV] at hF
        by_cases hsb : sysB p V = true
        · rw [hsb, if_pos rfl] at hC0
          subst hC0
          clear h h' ok ok' hr hq
          have hG_h := Lib.hid hG
          have hG'_h := Lib.hid hG'
          have hF_h := Lib.hid hF
          have k0_h := Lib.hid k0
          have k1_h := Lib.hid k1
          have k2_h := Lib.hid k2
          have bW_h := Lib.hid bW
          have hs_h := Lib.hid hs
          have ht_h := Lib.hid ht
          have he_h := Lib.hid he
          have hV_h := Lib.hid hV
          have hokV_h := Lib.hid hokV
          have hsb_h := Lib.hid hsb
          clear hG hG' hF k0 k1 k2 bW hs ht he hV hokV hsb
          go_enter Tryd.func22, Tryd.ntmps22
          go_upto_region 1 with (fail)
          rw [← hW]
          clear hW
          obtain ⟨⟨c0, c1, c2⟩, f0, f1, f2⟩ := box3 k0_h.out
          obtain ⟨⟨e0, e1, e2⟩, j0, j1, j2⟩ := box3 k1_h.out
          go_wp2_with (fail)
          refine (hG_h.out W (Below.refl _ _)).mono ?_
          rintro e w1 ⟨rfl, hb1⟩
          clear c0 c1 c2 f0 f1 f2 e0 e1 e2 j0 j1 j2
          replace k0_h := Lib.hid (box_below k0_h.out hb1)
          replace k1_h := Lib.hid (box_below k1_h.out hb1)
          replace k2_h := Lib.hid (box_below k2_h.out hb1)
          have hB1 := below_trans bW_h.out hb1 bW_h.out.size
          have hB1_h := Lib.hid hB1
          have hb1_h := Lib.hid hb1
          clear hB1 hb1
          obtain ⟨⟨c0, c1, c2⟩, f0, f1, f2⟩ := box3 k0_h.out
          obtain ⟨⟨e0, e1, e2⟩, j0, j1, j2⟩ := box3 k1_h.out
          go_wp2_with (fail)
          refine (hG'_h.out w1 hb1_h.out).mono ?_
          rintro e w2 ⟨rfl, hb2⟩
          clear c0 c1 c2 f0 f1 f2 e0 e1 e2 j0 j1 j2
          replace k0_h := Lib.hid (box_below k0_h.out hb2)
          replace k1_h := Lib.hid (box_below k1_h.out hb2)
          replace k2_h := Lib.hid (box_below k2_h.out hb2)
          have hB2 := below_trans hB1_h.out hb2 hB1_h.out.size
          have hb12 := below_trans hb1_h.out hb2 hb1_h.out.size
          have hB2_h := Lib.hid hB2
          have hb2_h := Lib.hid hb2
          have hb12_h := Lib.hid hb12
          clear hB2 hb2 hb12
          obtain ⟨⟨c0, c1, c2⟩, f0, f1, f2⟩ := box3 k0_h.out
          obtain ⟨⟨e0, e1, e2⟩, j0, j1, j2⟩ := box3 k1_h.out
          have hne : (s.1 != t.1) = false := by rw [he_h.out]; simp
          have hF1 := hF_h.out w2 hb12_h.out hs_h.out ht_h.out he_h.out
          have hF1_h := Lib.hid hF1
          clear hF1
          go_wp2_with (fail)
          refine (hF1_h.out).mono ?_
          rintro e w3 ⟨v3, fp3, rfl, hO3, hf3, hb3⟩
          clear c0 c1 c2 f0 f1 f2 e0 e1 e2 j0 j1 j2
          replace k0_h := Lib.hid (box_below k0_h.out hb3)
          replace k1_h := Lib.hid (box_below k1_h.out hb3)
          replace k2_h := Lib.hid (box_below k2_h.out hb3)
          have hB3 := below_trans hB2_h.out hb3 hB2_h.out.size
          have hb13 := below_trans hb12_h.out hb3 hb12_h.out.size
          have hV1 := syGood_any p w3 hO3.rd hokV_h.out.1 hokV_h.out.2.1
          rw [hsb_h.out] at hV1
          obtain ⟨A3, n3, c3, rfl⟩ := hO3.shape
          obtain ⟨⟨c0, c1, c2⟩, f0, f1, f2⟩ := box3 k0_h.out
          obtain ⟨⟨e0, e1, e2⟩, j0, j1, j2⟩ := box3 k1_h.out
          have hV1_h := Lib.hid hV1
          have hB3_h := Lib.hid hB3
          have hb3_h := Lib.hid hb3
          have hb13_h := Lib.hid hb13
          have hO3_h := Lib.hid hO3
          have hf3_h := Lib.hid hf3
          clear hV1 hB3 hb3 hb13 hO3 hf3
          go_wp2_with (fail)
          refine (hV1_h.out).mono ?_
          rintro e w4 ⟨rfl, hb4⟩
          clear c0 c1 c2 f0 f1 f2 e0 e1 e2 j0 j1 j2
          replace k0_h := Lib.hid (box_below k0_h.out hb4)
          replace k1_h := Lib.hid (box_below k1_h.out hb4)
          replace k2_h := Lib.hid (box_below k2_h.out hb4)
          have hB4 := below_trans hB3_h.out hb4 hB3_h.out.size
          have hb14 := below_trans hb13_h.out hb4 hb13_h.out.size
          clear hne
          have hB4_h := Lib.hid hB4
          have hb4_h := Lib.hid hb4
          have hb14_h := Lib.hid hb14
          clear hB4 hb4 hb14
          obtain ⟨⟨c0, c1, c2⟩, f0, f1, f2⟩ := box3 k0_h.out
          obtain ⟨⟨e0, e1, e2⟩, j0, j1, j2⟩ := box3 k1_h.out
          have hFn := hF_h.out w4 hb14_h.out hs_h.out ht_h.out he_h.out
          have hBf := hB4_h.out
          have hFn_h := Lib.hid hFn
          have hBf_h := Lib.hid hBf
          clear hFn hBf
          go_wp2_with (fail)
          refine (hFn_h.out).mono ?_
          rintro e wf ⟨v9, fp9, rfl, hO9, hf9, hb9⟩
          clear c0 c1 c2 f0 f1 f2 e0 e1 e2 j0 j1 j2
          obtain ⟨A9, n9, c9, rfl⟩ := hO9.shape
          have hw2 := box_lt k2_h.out
          replace k2_h := Lib.hid (box_below k2_h.out hb9)
          obtain ⟨⟨d0, d1, d2⟩, g0, g1, g2⟩ := box3 k2_h.out
          obtain ⟨s1, s2⟩ := set3 (a := .int .i64 V.1) (b := .int .i64 V.2.1) (c := .slice A9 n9 c9) k2_h.out
          have hB8 := below_trans hBf_h.out hb9 hBf_h.out.size
          have hB9 := below_keeps hB8 s2 hB8.size (fun k hk => by omega)
          have hO8 := hO9.keeps s2 (fun k hk e => by have := hf9 k hk; omega)
          have hf8 := hf9.mono hBf_h.out.size
          clear hB8 hO9 hf9 hb9
          have s1_h := Lib.hid s1
          have s2_h := Lib.hid s2
          have hB9_h := Lib.hid hB9
          have hO8_h := Lib.hid hO8
          have hf8_h := Lib.hid hf8
          clear s1 s2 hB9 hO8 hf8
          go_wp2_with (fail)
          refine bodyPost_ret (results_cell_tmp rfl _ _ (w.heap.size + 1 + 1) _ _ (0, 0) _ rfl s1_h.out Tryd.underlying26 rfl (by kernel_rfl)) rfl ?_
          exact ⟨_, fp9, rfl, hO8_h.out, hf8_h.out, hB9_h.out⟩
        · have hsb' : sysB p V = false := by simpa using hsb
          clear hsb
          have hsb := hsb'
          clear hsb'
          rw [hsb, if_neg (by simp)] at hC0
          have hC1 : C = ((0, 0, []), false) := hC0
          subst hC1
          clear h h' ok ok' hr hq hC0
          have hG_h := Lib.hid hG
          have hG'_h := Lib.hid hG'
          have hF_h := Lib.hid hF
          have k0_h := Lib.hid k0
          have k1_h := Lib.hid k1
          have k2_h := Lib.hid k2
          have bW_h := Lib.hid bW
          have hs_h := Lib.hid hs
          have ht_h := Lib.hid ht
          have he_h := Lib.hid he
          have hV_h := Lib.hid hV
          have hokV_h := Lib.hid hokV
          have hsb_h := Lib.hid hsb
          clear hG hG' hF k0 k1 k2 bW hs ht he hV hokV hsb
          go_enter Tryd.func22, Tryd.ntmps22
          go_upto_region 1 with (fail)
          rw [← hW]
          clear hW
          obtain ⟨⟨c0, c1, c2⟩, f0, f1, f2⟩ := box3 k0_h.out
          obtain ⟨⟨e0, e1, e2⟩, j0, j1, j2⟩ := box3 k1_h.out
          go_wp2_with (fail)
          refine (hG_h.out W (Below.refl _ _)).mono ?_
          rintro e w1 ⟨rfl, hb1⟩
          clear c0 c1 c2 f0 f1 f2 e0 e1 e2 j0 j1 j2
          replace k0_h := Lib.hid (box_below k0_h.out hb1)
          replace k1_h := Lib.hid (box_below k1_h.out hb1)
          replace k2_h := Lib.hid (box_below k2_h.out hb1)
          have hB1 := below_trans bW_h.out hb1 bW_h.out.size
          have hB1_h := Lib.hid hB1
          have hb1_h := Lib.hid hb1
          clear hB1 hb1
          obtain ⟨⟨c0, c1, c2⟩, f0, f1, f2⟩ := box3 k0_h.out
          obtain ⟨⟨e0, e1, e2⟩, j0, j1, j2⟩ := box3 k1_h.out
          go_wp2_with (fail)
          refine (hG'_h.out w1 hb1_h.out).mono ?_
          rintro e w2 ⟨rfl, hb2⟩
          clear c0 c1 c2 f0 f1 f2 e0 e1 e2 j0 j1 j2
          replace k0_h := Lib.hid (box_below k0_h.out hb2)
          replace k1_h := Lib.hid (box_below k1_h.out hb2)
          replace k2_h := Lib.hid (box_below k2_h.out hb2)
          have hB2 := below_trans hB1_h.out hb2 hB1_h.out.size
          have hb12 := below_trans hb1_h.out hb2 hb1_h.out.size
          have hB2_h := Lib.hid hB2
          have hb2_h := Lib.hid hb2
          have hb12_h := Lib.hid hb12
          clear hB2 hb2 hb12
          obtain ⟨⟨c0, c1, c2⟩, f0, f1, f2⟩ := box3 k0_h.out
          obtain ⟨⟨e0, e1, e2⟩, j0, j1, j2⟩ := box3 k1_h.out
          have hne : (s.1 != t.1) = false := by rw [he_h.out]; simp
          have hF1 := hF_h.out w2 hb12_h.out hs_h.out ht_h.out he_h.out
          have hF1_h := Lib.hid hF1
          clear hF1
          go_wp2_with (fail)
          refine (hF1_h.out).mono ?_
          rintro e w3 ⟨v3, fp3, rfl, hO3, hf3, hb3⟩
          clear c0 c1 c2 f0 f1 f2 e0 e1 e2 j0 j1 j2
          replace k0_h := Lib.hid (box_below k0_h.out hb3)
          replace k1_h := Lib.hid (box_below k1_h.out hb3)
          replace k2_h := Lib.hid (box_below k2_h.out hb3)
          have hB3 := below_trans hB2_h.out hb3 hB2_h.out.size
          have hb13 := below_trans hb12_h.out hb3 hb12_h.out.size
          have hV1 := syGood_any p w3 hO3.rd hokV_h.out.1 hokV_h.out.2.1
          rw [hsb_h.out] at hV1
          obtain ⟨A3, n3, c3, rfl⟩ := hO3.shape
          obtain ⟨⟨c0, c1, c2⟩, f0, f1, f2⟩ := box3 k0_h.out
          obtain ⟨⟨e0, e1, e2⟩, j0, j1, j2⟩ := box3 k1_h.out
          have hV1_h := Lib.hid hV1
          have hB3_h := Lib.hid hB3
          have hb3_h := Lib.hid hb3
          have hb13_h := Lib.hid hb13
          have hO3_h := Lib.hid hO3
          have hf3_h := Lib.hid hf3
          clear hV1 hB3 hb3 hb13 hO3 hf3
          go_wp2_with (fail)
          refine (hV1_h.out).mono ?_
          rintro e w4 ⟨rfl, hb4⟩
          clear c0 c1 c2 f0 f1 f2 e0 e1 e2 j0 j1 j2
          replace k0_h := Lib.hid (box_below k0_h.out hb4)
          replace k1_h := Lib.hid (box_below k1_h.out hb4)
          replace k2_h := Lib.hid (box_below k2_h.out hb4)
          have hB4 := below_trans hB3_h.out hb4 hB3_h.out.size
          have hb14 := below_trans hb13_h.out hb4 hb13_h.out.size
          clear hne
          have hB4_h := Lib.hid hB4
          have hb4_h := Lib.hid hb4
          have hb14_h := Lib.hid hb14
          clear hB4 hb4 hb14
          have hzr := box_lt k2_h.out
          obtain ⟨⟨d0, d1, d2⟩, g0, g1, g2⟩ := box3 k2_h.out
          obtain ⟨s1, s2⟩ := set3 (a := .int .i64 0) (b := .int .i64 0) (c := .slice none 0 0) k2_h.out
          have hB9 := below_keeps hB4_h.out s2 (hB4_h.out).size (fun k hk => by omega)
          have s1_h := Lib.hid s1
          have s2_h := Lib.hid s2
          have hB9_h := Lib.hid hB9
          clear s1 s2 hB9
          go_wp2_with (fail)
          refine bodyPost_ret (results_cell_tmp rfl _ _ (w.heap.size + 1 + 1) _ _ (0, 0) _ rfl s1_h.out Tryd.underlying26 rfl (by kernel_rfl)) rfl ?_
          exact ⟨_, [], rfl, OwSys.zero _ 0 0, FreshL.nil _, hB9_h.out⟩
      · rw [decide_eq_false he, Bool.false_and, if_neg (by simp)] at hC0
        have hC1 : C = ((0, 0, []), false) := hC0
        subst hC1
        clear h h' ok ok' hr hq hC0
        have hG_h := Lib.hid hG
        have hG'_h := Lib.hid hG'
        have hF_h := Lib.hid hF
        have k0_h := Lib.hid k0
        have k1_h := Lib.hid k1
        have k2_h := Lib.hid k2
        have bW_h := Lib.hid bW
        have hs_h := Lib.hid hs
        have ht_h := Lib.hid ht
        have he_h := Lib.hid he
        clear hG hG' hF k0 k1 k2 bW hs ht he
        go_enter Tryd.func22, Tryd.ntmps22
        go_upto_region 1 with (fail)
        rw [← hW]
        clear hW
        obtain ⟨⟨c0, c1, c2⟩, f0, f1, f2⟩ := box3 k0_h.out
        obtain ⟨⟨e0, e1, e2⟩, j0, j1, j2⟩ := box3 k1_h.out
        go_wp2_with (fail)
        refine (hG_h.out W (Below.refl _ _)).mono ?_
        rintro e w1 ⟨rfl, hb1⟩
        clear c0 c1 c2 f0 f1 f2 e0 e1 e2 j0 j1 j2
        replace k0_h := Lib.hid (box_below k0_h.out hb1)
        replace k1_h := Lib.hid (box_below k1_h.out hb1)
        replace k2_h := Lib.hid (box_below k2_h.out hb1)
        have hB1 := below_trans bW_h.out hb1 bW_h.out.size
        have hB1_h := Lib.hid hB1
        have hb1_h := Lib.hid hb1
        clear hB1 hb1
        obtain ⟨⟨c0, c1, c2⟩, f0, f1, f2⟩ := box3 k0_h.out
        obtain ⟨⟨e0, e1, e2⟩, j0, j1, j2⟩ := box3 k1_h.out
        go_wp2_with (fail)
        refine (hG'_h.out w1 hb1_h.out).mono ?_
        rintro e w2 ⟨rfl, hb2⟩
        clear c0 c1 c2 f0 f1 f2 e0 e1 e2 j0 j1 j2
        replace k0_h := Lib.hid (box_below k0_h.out hb2)
        replace k1_h := Lib.hid (box_below k1_h.out hb2)
        replace k2_h := Lib.hid (box_below k2_h.out hb2)
        have hB2 := below_trans hB1_h.out hb2 hB1_h.out.size
        have hb12 := below_trans hb1_h.out hb2 hb1_h.out.size
        have hB2_h := Lib.hid hB2
        have hb2_h := Lib.hid hb2
        have hb12_h := Lib.hid hb12
        clear hB2 hb2 hb12
        obtain ⟨⟨c0, c1, c2⟩, f0, f1, f2⟩ := box3 k0_h.out
        obtain ⟨⟨e0, e1, e2⟩, j0, j1, j2⟩ := box3 k1_h.out
        have hne : (s.1 != t.1) = true := by have := he_h.out; simpa using this
        have hzr := box_lt k2_h.out
        obtain ⟨⟨d0, d1, d2⟩, g0, g1, g2⟩ := box3 k2_h.out
        obtain ⟨s1, s2⟩ := set3 (a := .int .i64 0) (b := .int .i64 0) (c := .slice none 0 0) k2_h.out
        have hB9 := below_keeps hB2_h.out s2 (hB2_h.out).size (fun k hk => by omega)
        have s1_h := Lib.hid s1
        have s2_h := Lib.hid s2
        have hB9_h := Lib.hid hB9
        clear s1 s2 hB9
        go_wp2_with (fail)
        refine bodyPost_ret (results_cell_tmp rfl _ _ (w.heap.size + 1 + 1) _ _ (0, 0) _ rfl s1_h.out Tryd.underlying26 rfl (by kernel_rfl)) rfl ?_
        exact ⟨_, [], rfl, OwSys.zero _ 0 0, FreshL.nil _, hB9_h.out⟩
    · have hq' : sysB p t = false := by simpa using hq
      rw [hq', Bool.false_and, if_neg (by simp)] at hC0
      simp only [hq'] at hG'
      have hC1 : C = ((0, 0, []), false) := hC0
      subst hC1
      clear h h' ok ok' hr hq hq' hC0
      have hG_h := Lib.hid hG
      have hG'_h := Lib.hid hG'
      have hF_h := Lib.hid hF
      have k0_h := Lib.hid k0
      have k1_h := Lib.hid k1
      have k2_h := Lib.hid k2
      have bW_h := Lib.hid bW
      have hs_h := Lib.hid hs
      clear hG hG' hF k0 k1 k2 bW hs
      go_enter Tryd.func22, Tryd.ntmps22
      go_upto_region 1 with (fail)
      rw [← hW]
      clear hW
      obtain ⟨⟨c0, c1, c2⟩, f0, f1, f2⟩ := box3 k0_h.out
      obtain ⟨⟨e0, e1, e2⟩, j0, j1, j2⟩ := box3 k1_h.out
      go_wp2_with (fail)
      refine (hG_h.out W (Below.refl _ _)).mono ?_
      rintro e w1 ⟨rfl, hb1⟩
      clear c0 c1 c2 f0 f1 f2 e0 e1 e2 j0 j1 j2
      replace k0_h := Lib.hid (box_below k0_h.out hb1)
      replace k1_h := Lib.hid (box_below k1_h.out hb1)
      replace k2_h := Lib.hid (box_below k2_h.out hb1)
      have hB1 := below_trans bW_h.out hb1 bW_h.out.size
      have hB1_h := Lib.hid hB1
      have hb1_h := Lib.hid hb1
      clear hB1 hb1
      obtain ⟨⟨c0, c1, c2⟩, f0, f1, f2⟩ := box3 k0_h.out
      obtain ⟨⟨e0, e1, e2⟩, j0, j1, j2⟩ := box3 k1_h.out
      go_wp2_with (fail)
      refine (hG'_h.out w1 hb1_h.out).mono ?_
      rintro e w2 ⟨rfl, hb2⟩
      clear c0 c1 c2 f0 f1 f2 e0 e1 e2 j0 j1 j2
      replace k0_h := Lib.hid (box_below k0_h.out hb2)
      replace k1_h := Lib.hid (box_below k1_h.out hb2)
      replace k2_h := Lib.hid (box_below k2_h.out hb2)
      have hB2 := below_trans hB1_h.out hb2 hB1_h.out.size
      have hb12 := below_trans hb1_h.out hb2 hb1_h.out.size
      have hB2_h := Lib.hid hB2
      have hb2_h := Lib.hid hb2
      have hb12_h := Lib.hid hb12
      clear hB2 hb2 hb12
      have hzr := box_lt k2_h.out
      obtain ⟨⟨d0, d1, d2⟩, g0, g1, g2⟩ := box3 k2_h.out
      obtain ⟨s1, s2⟩ := set3 (a := .int .i64 0) (b := .int .i64 0) (c := .slice none 0 0) k2_h.out
      have hB9 := below_keeps hB2_h.out s2 (hB2_h.out).size (fun k hk => by omega)
      have s1_h := Lib.hid s1
      have s2_h := Lib.hid s2
      have hB9_h := Lib.hid hB9
      clear s1 s2 hB9
      go_wp2_with (fail)
      refine bodyPost_ret (results_cell_tmp rfl _ _ (w.heap.size + 1 + 1) _ _ (0, 0) _ rfl s1_h.out Tryd.underlying26 rfl (by kernel_rfl)) rfl ?_
      exact ⟨_, [], rfl, OwSys.zero _ 0 0, FreshL.nil _, hB9_h.out⟩
  · have hr' : sysB p s = false := by simpa using hr
    rw [hr', Bool.false_and, if_neg (by simp)] at hC0
    simp only [hr'] at hG
    have hC1 : C = ((0, 0, []), false) := hC0
    subst hC1
    clear h h' ok ok' hr hr' hC0
    have hG_h := Lib.hid hG
    have hG'_h := Lib.hid hG'
    have hF_h := Lib.hid hF
    have k0_h := Lib.hid k0
    have k1_h := Lib.hid k1
    have k2_h := Lib.hid k2
    have bW_h := Lib.hid bW
    clear hG hG' hF k0 k1 k2 bW
    go_enter Tryd.func22, Tryd.ntmps22
    go_upto_region 1 with (fail)
    rw [← hW]
    clear hW
    obtain ⟨⟨c0, c1, c2⟩, f0, f1, f2⟩ := box3 k0_h.out
    obtain ⟨⟨e0, e1, e2⟩, j0, j1, j2⟩ := box3 k1_h.out
    go_wp2_with (fail)
    refine (hG_h.out W (Below.refl _ _)).mono ?_
    rintro e w1 ⟨rfl, hb1⟩
    clear c0 c1 c2 f0 f1 f2 e0 e1 e2 j0 j1 j2
    replace k0_h := Lib.hid (box_below k0_h.out hb1)
    replace k1_h := Lib.hid (box_below k1_h.out hb1)
    replace k2_h := Lib.hid (box_below k2_h.out hb1)
    have hB1 := below_trans bW_h.out hb1 bW_h.out.size
    have hB1_h := Lib.hid hB1
    have hb1_h := Lib.hid hb1
    clear hB1 hb1
    have hzr := box_lt k2_h.out
    obtain ⟨⟨d0, d1, d2⟩, g0, g1, g2⟩ := box3 k2_h.out
    obtain ⟨s1, s2⟩ := set3 (a := .int .i64 0) (b := .int .i64 0) (c := .slice none 0 0) k2_h.out
    have hB9 := below_keeps hB1_h.out s2 (hB1_h.out).size (fun k hk => by omega)
    have s1_h := Lib.hid s1
    have s2_h := Lib.hid s2
    have hB9_h := Lib.hid hB9
    clear s1 s2 hB9
    go_wp2_with (fail)
    refine bodyPost_ret (results_cell_tmp rfl _ _ (w.heap.size + 1 + 1) _ _ (0, 0) _ rfl s1_h.out Tryd.underlying26 rfl (by kernel_rfl)) rfl ?_
    exact ⟨_, [], rfl, OwSys.zero _ 0 0, FreshL.nil _, hB9_h.out⟩
set_option maxRecDepth 100000 in
set_option maxHeartbeats 4000000 in
theorem iMeetSystems_law (p : Int) {v v' : Value} {s t : Sys} {fp fp' : List Nat} {w : World} (h : OwSys w v s fp) (h' : OwSys w v' t fp') (ok : OkR s.2.2) (ok' : OkR t.2.2) (hT : Tab w) :
    Calls Tryd.prog 23 #[.int .i64 p, v, v'] w fun e w' => ∃ v' fp', e = .returned (.tuple #[v', .bool (meM p s t).2]) ∧ OwSys w' v' (meM p s t).1 fp' ∧ FreshL w.heap.size fp' ∧ Below w.heap.size w w' := by
  obtain ⟨C, hC0⟩ : ∃ C, C = meM p s t := ⟨_, rfl⟩
  rw [← hC0]
  unfold meM at hC0
  obtain ⟨A, n, c, rfl⟩ := h.shape
  obtain ⟨A', n', c', rfl⟩ := h'.shape
  obtain ⟨W, hW, bW, k0, k1, k2⟩ := alloc3 w (.cells #[.int .i64 s.1, .int .i64 s.2.1, .slice A n c] tSys) (.cells #[.int .i64 t.1, .int .i64 t.2.1, .slice A' n' c'] tSys) (.cells #[.int .i64 0, .int .i64 0, .slice none 0 0] tSys)
  have hG := fun W' (hb : Below W.heap.size W W') => isSystem_any p W' ((h.below bW).below hb).rd ((hT.below bW hT.lt).below hb (hT.below bW hT.lt).lt) ok.1 ok.2.1
  have hG' := fun W' (hb : Below W.heap.size W W') => isSystem_any p W' ((h'.below bW).below hb).rd ((hT.below bW hT.lt).below hb (hT.below bW hT.lt).lt) ok'.1 ok'.2.1
  have hF := fun W' (hb : Below W.heap.size W W') (hs : SysOk p s) (ht : SysOk p t) (he : s.1 = t.1) => meet_any p W' ((h.below bW).below hb) ((h'.below bW).below hb) hs ht he ((hT.below bW hT.lt).below hb (hT.below bW hT.lt).lt)
  by_cases hr : sysB p s = true
  · rw [hr, Bool.true_and] at hC0
    have hs := SysOk.of hr
    simp only [hr] at hG
    by_cases hq : sysB p t = true
    · rw [hq, Bool.true_and] at hC0
      have ht := SysOk.of hq
      simp only [hq] at hG'
      by_cases he : s.1 = t.1
      · rw [decide_eq_true he, Bool.true_and] at hC0
        have hC1 : C = vsM p (meetV s t) := hC0
        simp only [← hC1] at hF
        clear h h' ok ok' hr hq hC0 hC1 hT
        have hG_h := Lib.hid hG
        have hG'_h := Lib.hid hG'
        have hF_h := Lib.hid hF
        have k0_h := Lib.hid k0
        have k1_h := Lib.hid k1
        have k2_h := Lib.hid k2
        have bW_h := Lib.hid bW
        have hs_h := Lib.hid hs
        have ht_h := Lib.hid ht
        have he_h := Lib.hid he
        clear hG hG' hF k0 k1 k2 bW hs ht he
        go_enter Tryd.func23, Tryd.ntmps23
        go_upto_region 1 with (fail)
        rw [← hW]
        clear hW
        obtain ⟨⟨c0, c1, c2⟩, f0, f1, f2⟩ := box3 k0_h.out
        obtain ⟨⟨e0, e1, e2⟩, j0, j1, j2⟩ := box3 k1_h.out
        go_wp2_with (fail)
        refine (hG_h.out W (Below.refl _ _)).mono ?_
        rintro e w1 ⟨rfl, hb1⟩
        clear c0 c1 c2 f0 f1 f2 e0 e1 e2 j0 j1 j2
        replace k0_h := Lib.hid (box_below k0_h.out hb1)
        replace k1_h := Lib.hid (box_below k1_h.out hb1)
        replace k2_h := Lib.hid (box_below k2_h.out hb1)
        have hB1 := below_trans bW_h.out hb1 bW_h.out.size
        have hB1_h := Lib.hid hB1
        have hb1_h := Lib.hid hb1
        clear hB1 hb1
        obtain ⟨⟨c0, c1, c2⟩, f0, f1, f2⟩ := box3 k0_h.out
        obtain ⟨⟨e0, e1, e2⟩, j0, j1, j2⟩ := box3 k1_h.out
        go_wp2_with (fail)
        refine (hG'_h.out w1 hb1_h.out).mono ?_
        rintro e w2 ⟨rfl, hb2⟩
        clear c0 c1 c2 f0 f1 f2 e0 e1 e2 j0 j1 j2
        replace k0_h := Lib.hid (box_below k0_h.out hb2)
        replace k1_h := Lib.hid (box_below k1_h.out hb2)
        replace k2_h := Lib.hid (box_below k2_h.out hb2)
        have hB2 := below_trans hB1_h.out hb2 hB1_h.out.size
        have hb12 := below_trans hb1_h.out hb2 hb1_h.out.size
        have hB2_h := Lib.hid hB2
        have hb2_h := Lib.hid hb2
        have hb12_h := Lib.hid hb12
        clear hB2 hb2 hb12
        obtain ⟨⟨c0, c1, c2⟩, f0, f1, f2⟩ := box3 k0_h.out
        obtain ⟨⟨e0, e1, e2⟩, j0, j1, j2⟩ := box3 k1_h.out
        have hne : (s.1 != t.1) = false := by rw [he_h.out]; simp
        have hFn := hF_h.out w2 hb12_h.out hs_h.out ht_h.out he_h.out
        have hBf := hB2_h.out
        have hFn_h := Lib.hid hFn
        have hBf_h := Lib.hid hBf
        clear hFn hBf
        go_wp2_with (fail)
        refine (hFn_h.out).mono ?_
        rintro e wf ⟨v9, fp9, rfl, hO9, hf9, hb9⟩
        clear c0 c1 c2 f0 f1 f2 e0 e1 e2 j0 j1 j2
        clear hne
        obtain ⟨A9, n9, c9, rfl⟩ := hO9.shape
        have hw2 := box_lt k2_h.out
        replace k2_h := Lib.hid (box_below k2_h.out hb9)
        obtain ⟨⟨d0, d1, d2⟩, g0, g1, g2⟩ := box3 k2_h.out
        obtain ⟨s1, s2⟩ := set3 (a := .int .i64 C.1.1) (b := .int .i64 C.1.2.1) (c := .slice A9 n9 c9) k2_h.out
        have hB8 := below_trans hBf_h.out hb9 hBf_h.out.size
        have hB9 := below_keeps hB8 s2 hB8.size (fun k hk => by omega)
        have hO8 := hO9.keeps s2 (fun k hk e => by have := hf9 k hk; omega)
        have hf8 := hf9.mono hBf_h.out.size
        clear hB8 hO9 hf9 hb9
        have s1_h := Lib.hid s1
        have s2_h := Lib.hid s2
        have hB9_h := Lib.hid hB9
        have hO8_h := Lib.hid hO8
        have hf8_h := Lib.hid hf8
        clear s1 s2 hB9 hO8 hf8
        go_wp2_with (fail)
        refine bodyPost_ret (results_cell_tmp rfl _ _ (w.heap.size + 1 + 1) _ _ (0, 0) _ rfl s1_h.out Tryd.underlying26 rfl (by kernel_rfl)) rfl ?_
        exact ⟨_, fp9, rfl, hO8_h.out, hf8_h.out, hB9_h.out⟩
      · rw [decide_eq_false he, Bool.false_and, if_neg (by simp)] at hC0
        have hC1 : C = ((0, 0, []), false) := hC0
        subst hC1
        clear h h' ok ok' hr hq hC0 hT
        have hG_h := Lib.hid hG
        have hG'_h := Lib.hid hG'
        have hF_h := Lib.hid hF
        have k0_h := Lib.hid k0
        have k1_h := Lib.hid k1
        have k2_h := Lib.hid k2
        have bW_h := Lib.hid bW
        have hs_h := Lib.hid hs
        have ht_h := Lib.hid ht
        have he_h := Lib.hid he
        clear hG hG' hF k0 k1 k2 bW hs ht he
        go_enter Tryd.func23, Tryd.ntmps23
        go_upto_region 1 with (fail)
        rw [← hW]
        clear hW
        obtain ⟨⟨c0, c1, c2⟩, f0, f1, f2⟩ := box3 k0_h.out
        obtain ⟨⟨e0, e1, e2⟩, j0, j1, j2⟩ := box3 k1_h.out
        go_wp2_with (fail)
        refine (hG_h.out W (Below.refl _ _)).mono ?_
        rintro e w1 ⟨rfl, hb1⟩
        clear c0 c1 c2 f0 f1 f2 e0 e1 e2 j0 j1 j2
        replace k0_h := Lib.hid (box_below k0_h.out hb1)
        replace k1_h := Lib.hid (box_below k1_h.out hb1)
        replace k2_h := Lib.hid (box_below k2_h.out hb1)
        have hB1 := below_trans bW_h.out hb1 bW_h.out.size
        have hB1_h := Lib.hid hB1
        have hb1_h := Lib.hid hb1
        clear hB1 hb1
        obtain ⟨⟨c0, c1, c2⟩, f0, f1, f2⟩ := box3 k0_h.out
        obtain ⟨⟨e0, e1, e2⟩, j0, j1, j2⟩ := box3 k1_h.out
        go_wp2_with (fail)
        refine (hG'_h.out w1 hb1_h.out).mono ?_
        rintro e w2 ⟨rfl, hb2⟩
        clear c0 c1 c2 f0 f1 f2 e0 e1 e2 j0 j1 j2
        replace k0_h := Lib.hid (box_below k0_h.out hb2)
        replace k1_h := Lib.hid (box_below k1_h.out hb2)
        replace k2_h := Lib.hid (box_below k2_h.out hb2)
        have hB2 := below_trans hB1_h.out hb2 hB1_h.out.size
        have hb12 := below_trans hb1_h.out hb2 hb1_h.out.size
        have hB2_h := Lib.hid hB2
        have hb2_h := Lib.hid hb2
        have hb12_h := Lib.hid hb12
        clear hB2 hb2 hb12
        obtain ⟨⟨c0, c1, c2⟩, f0, f1, f2⟩ := box3 k0_h.out
        obtain ⟨⟨e0, e1, e2⟩, j0, j1, j2⟩ := box3 k1_h.out
        have hne : (s.1 != t.1) = true := by have := he_h.out; simpa using this
        have hzr := box_lt k2_h.out
        obtain ⟨⟨d0, d1, d2⟩, g0, g1, g2⟩ := box3 k2_h.out
        obtain ⟨s1, s2⟩ := set3 (a := .int .i64 0) (b := .int .i64 0) (c := .slice none 0 0) k2_h.out
        have hB9 := below_keeps hB2_h.out s2 (hB2_h.out).size (fun k hk => by omega)
        have s1_h := Lib.hid s1
        have s2_h := Lib.hid s2
        have hB9_h := Lib.hid hB9
        clear s1 s2 hB9
        go_wp2_with (fail)
        refine bodyPost_ret (results_cell_tmp rfl _ _ (w.heap.size + 1 + 1) _ _ (0, 0) _ rfl s1_h.out Tryd.underlying26 rfl (by kernel_rfl)) rfl ?_
        exact ⟨_, [], rfl, OwSys.zero _ 0 0, FreshL.nil _, hB9_h.out⟩
    · have hq' : sysB p t = false := by simpa using hq
      rw [hq', Bool.false_and, if_neg (by simp)] at hC0
      simp only [hq'] at hG'
      have hC1 : C = ((0, 0, []), false) := hC0
      subst hC1
      clear h h' ok ok' hr hq hq' hC0 hT
      have hG_h := Lib.hid hG
      have hG'_h := Lib.hid hG'
      have hF_h := Lib.hid hF
      have k0_h := Lib.hid k0
      have k1_h := Lib.hid k1
      have k2_h := Lib.hid k2
      have bW_h := Lib.hid bW
      have hs_h := Lib.hid hs
      clear hG hG' hF k0 k1 k2 bW hs
      go_enter Tryd.func23, Tryd.ntmps23
      go_upto_region 1 with (fail)
      rw [← hW]
      clear hW
      obtain ⟨⟨c0, c1, c2⟩, f0, f1, f2⟩ := box3 k0_h.out
      obtain ⟨⟨e0, e1, e2⟩, j0, j1, j2⟩ := box3 k1_h.out
      go_wp2_with (fail)
      refine (hG_h.out W (Below.refl _ _)).mono ?_
      rintro e w1 ⟨rfl, hb1⟩
      clear c0 c1 c2 f0 f1 f2 e0 e1 e2 j0 j1 j2
      replace k0_h := Lib.hid (box_below k0_h.out hb1)
      replace k1_h := Lib.hid (box_below k1_h.out hb1)
      replace k2_h := Lib.hid (box_below k2_h.out hb1)
      have hB1 := below_trans bW_h.out hb1 bW_h.out.size
      have hB1_h := Lib.hid hB1
      have hb1_h := Lib.hid hb1
      clear hB1 hb1
      obtain ⟨⟨c0, c1, c2⟩, f0, f1, f2⟩ := box3 k0_h.out
      obtain ⟨⟨e0, e1, e2⟩, j0, j1, j2⟩ := box3 k1_h.out
      go_wp2_with (fail)
      refine (hG'_h.out w1 hb1_h.out).mono ?_
      rintro e w2 ⟨rfl, hb2⟩
      clear c0 c1 c2 f0 f1 f2 e0 e1 e2 j0 j1 j2
      replace k0_h := Lib.hid (box_below k0_h.out hb2)
      replace k1_h := Lib.hid (box_below k1_h.out hb2)
      replace k2_h := Lib.hid (box_below k2_h.out hb2)
      have hB2 := below_trans hB1_h.out hb2 hB1_h.out.size
      have hb12 := below_trans hb1_h.out hb2 hb1_h.out.size
      have hB2_h := Lib.hid hB2
      have hb2_h := Lib.hid hb2
      have hb12_h := Lib.hid hb12
      clear hB2 hb2 hb12
      have hzr := box_lt k2_h.out
      obtain ⟨⟨d0, d1, d2⟩, g0, g1, g2⟩ := box3 k2_h.out
      obtain ⟨s1, s2⟩ := set3 (a := .int .i64 0) (b := .int .i64 0) (c := .slice none 0 0) k2_h.out
      have hB9 := below_keeps hB2_h.out s2 (hB2_h.out).size (fun k hk => by omega)
      have s1_h := Lib.hid s1
      have s2_h := Lib.hid s2
      have hB9_h := Lib.hid hB9
      clear s1 s2 hB9
      go_wp2_with (fail)
      refine bodyPost_ret (results_cell_tmp rfl _ _ (w.heap.size + 1 + 1) _ _ (0, 0) _ rfl s1_h.out Tryd.underlying26 rfl (by kernel_rfl)) rfl ?_
      exact ⟨_, [], rfl, OwSys.zero _ 0 0, FreshL.nil _, hB9_h.out⟩
  · have hr' : sysB p s = false := by simpa using hr
    rw [hr', Bool.false_and, if_neg (by simp)] at hC0
    simp only [hr'] at hG
    have hC1 : C = ((0, 0, []), false) := hC0
    subst hC1
    clear h h' ok ok' hr hr' hC0 hT
    have hG_h := Lib.hid hG
    have hG'_h := Lib.hid hG'
    have hF_h := Lib.hid hF
    have k0_h := Lib.hid k0
    have k1_h := Lib.hid k1
    have k2_h := Lib.hid k2
    have bW_h := Lib.hid bW
    clear hG hG' hF k0 k1 k2 bW
    go_enter Tryd.func23, Tryd.ntmps23
    go_upto_region 1 with (fail)
    rw [← hW]
    clear hW
    obtain ⟨⟨c0, c1, c2⟩, f0, f1, f2⟩ := box3 k0_h.out
    obtain ⟨⟨e0, e1, e2⟩, j0, j1, j2⟩ := box3 k1_h.out
    go_wp2_with (fail)
    refine (hG_h.out W (Below.refl _ _)).mono ?_
    rintro e w1 ⟨rfl, hb1⟩
    clear c0 c1 c2 f0 f1 f2 e0 e1 e2 j0 j1 j2
    replace k0_h := Lib.hid (box_below k0_h.out hb1)
    replace k1_h := Lib.hid (box_below k1_h.out hb1)
    replace k2_h := Lib.hid (box_below k2_h.out hb1)
    have hB1 := below_trans bW_h.out hb1 bW_h.out.size
    have hB1_h := Lib.hid hB1
    have hb1_h := Lib.hid hb1
    clear hB1 hb1
    have hzr := box_lt k2_h.out
    obtain ⟨⟨d0, d1, d2⟩, g0, g1, g2⟩ := box3 k2_h.out
    obtain ⟨s1, s2⟩ := set3 (a := .int .i64 0) (b := .int .i64 0) (c := .slice none 0 0) k2_h.out
    have hB9 := below_keeps hB1_h.out s2 (hB1_h.out).size (fun k hk => by omega)
    have s1_h := Lib.hid s1
    have s2_h := Lib.hid s2
    have hB9_h := Lib.hid hB9
    clear s1 s2 hB9
    go_wp2_with (fail)
    refine bodyPost_ret (results_cell_tmp rfl _ _ (w.heap.size + 1 + 1) _ _ (0, 0) _ rfl s1_h.out Tryd.underlying26 rfl (by kernel_rfl)) rfl ?_
    exact ⟨_, [], rfl, OwSys.zero _ 0 0, FreshL.nil _, hB9_h.out⟩
end Go.Proofs.YtpfidjegdpkhdaaDoor
