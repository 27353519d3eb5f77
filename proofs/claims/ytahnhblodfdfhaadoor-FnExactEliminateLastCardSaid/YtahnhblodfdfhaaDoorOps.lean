/-
  WHAT append, make, A SLICE EXPRESSION AND A SLICE LITERAL DO TO OUR WORDS FOR MEMORY: each as a law for the walk.
-/
import Derived.Test.YtahnhblodfdfhaaDoorBase
import Derived.Deep.OwnRows
namespace Go.Proofs.YtahnhblodfdfhaaDoor
open Go.RowKit

/-- The header (A, _, _) may be read as the cells xs. -/
def RdC (w : World) (A : Option Addr) (xs : List Value) : Prop := ∀ j u, xs[j]? = some u → ∃ ad, A = some ad ∧ w.cell? (ad.add j) = some u
theorem Sl.rdc {w : World} {e : TypeId} {sz n cap : Nat} {A : Option Addr} {xs : List Value} (h : Sl w e sz A n cap xs) : RdC w A xs := fun j u hj => by
  obtain ⟨ad, hA, _, hc, _⟩ := Sl.cell h hj
  exact ⟨ad, hA, hc⟩
theorem RdC.below {w w' : World} {A : Option Addr} {xs : List Value} (h : RdC w A xs) (hb : Below w.heap.size w w') : RdC w' A xs := fun j u hj => by
  obtain ⟨ad, hA, hc⟩ := h j u hj
  exact ⟨ad, hA, (hb.cell (World.block_lt_of_cell? w _ hc)).trans hc⟩
theorem RdC.alloc {w : World} {A : Option Addr} {xs : List Value} (h : RdC w A xs) (o : Obj) : RdC (w.alloc o) A xs := h.below ((Below.refl _ _).alloc (Nat.le_refl _) o)
theorem RdI.rdc {w : World} {A : Option Addr} {l : List Int} (h : RdI w A l) : RdC w A (ints l) := fun j u hj => by
  simp only [ints, List.getElem?_map, Option.map_eq_some_iff] at hj
  obtain ⟨x, hx, rfl⟩ := hj
  exact h j x hx
theorem ints_one (l : List Int) : ∀ u ∈ ints l, u.oneCell' = true := by
  intro u hu
  simp only [ints, List.mem_map] at hu
  obtain ⟨x, _, rfl⟩ := hu
  rfl
theorem RdC.nil (w : World) (A : Option Addr) : RdC w A [] := fun j u h => by simp at h
/-- A row that has just been laid. -/
theorem Sl.laid (w : World) (e : TypeId) (sz n : Nat) (cs : Array Value) (hn : n ≤ maxLen) (hc : cs.size = n * sz) : Sl (w.alloc (.cells cs e)) e sz (some ⟨w.heap.size, 0, none⟩) n n cs.toList :=
  ⟨by simpa using hc, Nat.le_refl _, hn, .inr ⟨w.heap.size, 0, cs, rfl, heap_alloc_new w _, by omega, by rw [List.drop_zero]; exact List.take_of_length_le (by simp; omega)⟩⟩

section
variable {P : Program} (w : World)

theorem run_append_Sl_rd (t ty e : TypeId) (i : TypeInfo) (z : Value) (size bytes : Nat) (ht : P.underlying t = some (.slice e)) (hi : P.info? e = some i) (hz : i.zero = some z)
    (hsize : i.size = size) (hby : i.bytes = bytes) (hzs : z.cells.size = size) (hsz : 0 < size)
    (A : Option Addr) (n cap : Nat) (xs : List Value) (hs : Sl w e size A n cap xs)
    (B : Option Addr) (m c : Nat) (news : List Value) (hl : news.length = m * size) (hr : RdC w B news) (h1 : ∀ u ∈ news, u.oneCell' = true)
    (h63 : n + m ≤ maxLen) (hbytes : (n + m) * bytes ≤ 140737488355328) :
    ∃ A' cap' w', (Builtin.append_ #[t, t] ty #[.slice A n cap, .slice B m c]).run P w = .ok (.slice A' (n + m) cap') w' ∧ Sl w' e size A' (n + m) cap' (xs ++ news) ∧
      (∀ b, b ∈ fpA A' → b ∈ fpA A ∨ w.heap.size ≤ b) ∧ Keeps (· ∈ fpA A) w w' ∧ RdC w' A xs := by
  subst hsize
  subst hby
  have hsmall : n + m ≤ 9223372036854775807 := by simp only [maxLen] at h63; omega
  have hlen : (xs ++ news).length = (n + m) * i.size := by rw [List.length_append, hs.1, hl, Nat.add_mul]
  have hrd0 := hs.rdc
  obtain ⟨hxl, hnc, hcm, hh⟩ := hs
  rcases B with _ | a
  · -- nothing is appended
    have hn0 : news = [] := by
      cases news with
      | nil => rfl
      | cons u r => obtain ⟨ad, h, _⟩ := hr 0 u (by simp); cases h
    subst hn0
    have hm : m = 0 := by
      rcases Nat.eq_zero_or_pos m with h | h
      · exact h
      · have := Nat.mul_pos h hsz; simp at hl; omega
    subst hm
    refine ⟨A, cap, w, ?_, ?_, fun b hb => .inl hb, Keeps.refl _ _, hrd0⟩
    · rcases hh with ⟨rfl, rfl⟩ | ⟨g, off, cur, rfl, hg, hc, hx⟩
      · have : n = 0 := by omega
        subst this
        simp [Builtin.append_, run_underlying ht, sizeOf, typeInfo, hi, Builtin.lenOf, Builtin.firstCells]
      · simp [Builtin.append_, run_underlying ht, sizeOf, typeInfo, hi, Builtin.lenOf, Builtin.firstCells, hnc, storeCells]
    · have hS : Sl w e i.size A n cap xs := ⟨hxl, hnc, hcm, hh⟩
      rw [List.append_nil]; exact hS
  · have hnews : ∀ j u, news[j]? = some u → w.cell? (a.add j) = some u := by
      intro j u hj
      obtain ⟨ad, h, hc⟩ := hr j u hj
      obtain rfl := Option.some.inj h
      exact hc
    have grown : ∀ (old : Nat), old < n + m → ∀ (S : Nat → Prop),
        Sl (w.drew.alloc (.cells (xs.toArray ++ news.toArray ++ Builtin.zeroCells z.cells (grownCap w (n + m) old e - (n + m))) e)) e i.size (some ⟨w.heap.size, 0, none⟩) (n + m) (grownCap w (n + m) old e) (xs ++ news) ∧
        Keeps S w (w.drew.alloc (.cells (xs.toArray ++ news.toArray ++ Builtin.zeroCells z.cells (grownCap w (n + m) old e - (n + m))) e)) := by
      intro old ho S
      have hge := grownCap_ge w (n + m) old e
      have hcm : grownCap w (n + m) old e ≤ maxLen := grownCap_le_maxLen w (n + m) old e h63
      refine ⟨⟨hlen, hge, hcm, .inr ⟨w.heap.size, 0, _, rfl, heap_alloc_new w.drew _, ?_, ?_⟩⟩, ⟨rfl, rfl, rfl, by simp, fun k hk _ => Below.heap_alloc w.drew _ k hk⟩⟩
      · simp only [Array.size_append, List.size_toArray, size_zeroCells, hzs, hxl, hl, ← Nat.add_mul]
        rw [Nat.add_sub_of_le hge]; omega
      · simp only [Array.toList_append, List.append_assoc, List.drop_zero]
        rw [← List.append_assoc, ← hlen]
        exact List.take_left
    rcases hh with ⟨rfl, rfl⟩ | ⟨g, off, cur, rfl, hg, hc, htake⟩
    · have hn0 : n = 0 := by omega
      subst hn0
      have hx : xs = [] := List.eq_nil_of_length_eq_zero (by simpa using hxl)
      subst hx
      by_cases hm : m = 0
      · subst hm
        have hn : news = [] := List.eq_nil_of_length_eq_zero (by simpa using hl)
        subst hn
        refine ⟨none, 0, w, ?_, by simpa using Sl.nil w e i.size, by simp, Keeps.refl _ _, RdC.nil _ _⟩
        simp [Builtin.append_, run_underlying ht, sizeOf, typeInfo, hi, Builtin.lenOf, Builtin.firstCells, loadCells, loadCellsFrom]
      · have hr := run_append_nil (P := P) w t ty e i z ht hi hz a m c news hl hnews (by omega) (by omega) (by have hb := hbytes; simp only [Nat.zero_add] at hb; omega)
        have hgr := grown 0 (by omega) (· ∈ fpA none)
        simp only [Nat.zero_add, List.nil_append, Array.empty_append] at hgr ⊢
        exact ⟨_, _, _, hr, hgr.1, by simp, hgr.2, RdC.nil _ _⟩
    · by_cases hroom : n + m ≤ cap
      · have hfit : off + n * i.size + news.length ≤ cur.size := by
          rw [hl]
          have h2 := Nat.mul_le_mul_right i.size hroom
          rw [Nat.add_mul] at h2; omega
        have hf := run_firstCells_some (P := P) w i.size m a m c news hl hnews
        have hst := run_storeCells_at P g (off + n * i.size) e news 0 cur w hg (by simpa using hfit) h1
        simp only [Nat.add_zero] at hst
        refine ⟨some ⟨g, off, none⟩, cap, w.setRow g (cur.toList.take (off + n * i.size) ++ news ++ cur.toList.drop (off + n * i.size + news.length)).toArray, ?_, ⟨hlen, hroom, hcm, .inr ⟨g, off, _, rfl, setRow_heap w g cur _ e _ hg, ?_, ?_⟩⟩, fun b hb => .inl hb, ⟨rfl, rfl, rfl, by simp, fun k _ hk => setRow_other w g k _ (fun e => hk (by simp [e]))⟩, ?_⟩
        · simp [Builtin.append_, run_underlying ht, sizeOf, typeInfo, hi, Builtin.lenOf, hroom, hf, addr_lit, hst]
        · simp only [List.size_toArray, List.length_append, List.length_take, List.length_drop, Array.length_toList]
          omega
        · have hcl : off + n * i.size ≤ cur.toList.length := by simp; omega
          have e1 : (List.take (off + n * i.size) cur.toList).drop off = xs := by
            rw [List.drop_take, ← htake, Nat.add_sub_cancel_left]
          have e2 : off ≤ (List.take (off + n * i.size) cur.toList).length := by simp; omega
          rw [List.append_assoc, List.drop_append_of_le_length e2, e1, ← List.append_assoc, ← hlen]
          exact List.take_left
        · have hS' : Sl (w.setRow g (cur.toList.take (off + n * i.size) ++ news ++ cur.toList.drop (off + n * i.size + news.length)).toArray) e i.size (some ⟨g, off, none⟩) (n + m) cap (xs ++ news) := by
            refine ⟨hlen, hroom, hcm, .inr ⟨g, off, _, rfl, setRow_heap w g cur _ e _ hg, ?_, ?_⟩⟩
            · simp only [List.size_toArray, List.length_append, List.length_take, List.length_drop, Array.length_toList]
              omega
            · have hcl : off + n * i.size ≤ cur.toList.length := by simp; omega
              have e1 : (List.take (off + n * i.size) cur.toList).drop off = xs := by
                rw [List.drop_take, ← htake, Nat.add_sub_cancel_left]
              have e2 : off ≤ (List.take (off + n * i.size) cur.toList).length := by simp; omega
              rw [List.append_assoc, List.drop_append_of_le_length e2, e1, ← List.append_assoc, ← hlen]
              exact List.take_left
          intro j u hj
          exact hS'.rdc j u (by rw [List.getElem?_append_left (List.getElem?_eq_some_iff.1 hj).1]; exact hj)
      · have holds : ∀ j u, xs[j]? = some u → w.cell? ((⟨g, off, none⟩ : Addr).add j) = some u := by
          intro j u hj
          have hS : Sl w e i.size (some ⟨g, off, none⟩) n cap xs := ⟨hxl, hnc, hcm, .inr ⟨g, off, cur, rfl, hg, hc, htake⟩⟩
          obtain ⟨ad, h, _, hcell, _⟩ := hS.cell hj
          obtain rfl := Option.some.inj h
          exact hcell
        have hr := run_append_grow (P := P) w t ty e i z ht hi hz ⟨g, off, none⟩ n cap xs hxl holds a m c news hl hnews (by omega) (by omega) (growslice_fits (by omega) hbytes)
        have hgr := grown cap (by omega) (· ∈ fpA (some ⟨g, off, none⟩))
        refine ⟨_, _, _, hr, hgr.1, by simp, hgr.2, fun j u hj => ?_⟩
        have hk := hgr.2
        exact ⟨_, rfl, (World.cell?_of_block (w := w) (by rw [block_of_add]; exact Below.heap_alloc w.drew _ _ (Array.getElem?_eq_some_iff.1 hg).1)).trans (holds j u hj)⟩

theorem run_append_Sl (t ty e : TypeId) (i : TypeInfo) (z : Value) (size bytes : Nat) (ht : P.underlying t = some (.slice e)) (hi : P.info? e = some i) (hz : i.zero = some z)
    (hsize : i.size = size) (hby : i.bytes = bytes) (hzs : z.cells.size = size) (hsz : 0 < size)
    (A : Option Addr) (n cap : Nat) (xs : List Value) (hs : Sl w e size A n cap xs)
    (B : Option Addr) (m c : Nat) (news : List Value) (hl : news.length = m * size) (hr : RdC w B news) (h1 : ∀ u ∈ news, u.oneCell' = true)
    (h63 : n + m ≤ maxLen) (hbytes : (n + m) * bytes ≤ 140737488355328) :
    ∃ A' cap' w', (Builtin.append_ #[t, t] ty #[.slice A n cap, .slice B m c]).run P w = .ok (.slice A' (n + m) cap') w' ∧ Sl w' e size A' (n + m) cap' (xs ++ news) ∧
      (∀ b, b ∈ fpA A' → b ∈ fpA A ∨ w.heap.size ≤ b) ∧ Keeps (· ∈ fpA A) w w' := by
  obtain ⟨A', c', w', h1, h2, h3, h4, _⟩ := run_append_Sl_rd (P := P) w t ty e i z size bytes ht hi hz hsize hby hzs hsz A n cap xs hs B m c news hl hr h1 h63 hbytes
  exact ⟨A', c', w', h1, h2, h3, h4⟩

theorem wpList_append_Sl {ops : Array Oper} {rest : List Oper} {o : Oper} {a : Act} {Q : Exit → Act → World → Prop} (hgd : o.guard = none) (s x : Operand) (t : TypeId)
    (ho : o.op = .call { callee := .builtin .append, args := #[s, x], argTypes := #[t, t] })
    (e : TypeId) {z : Value} {size bytes : Nat} (ht : P.underlying t = some (.slice e)) (hinfo : (P.info? e).map (fun i => (i.zero, i.size, i.bytes)) = some (some z, size, bytes)) (hzs : z.cells.size = size) (hsz : 0 < size)
    {A : Option Addr} {n cap : Nat} {xs : List Value} (he : a.eval s = .slice A n cap) (hs : Sl w e size A n cap xs)
    {B : Option Addr} {m c : Nat} {news : List Value} (hx : a.eval x = .slice B m c) (hl : news.length = m * size) (hr : RdC w B news) (h1 : ∀ u ∈ news, u.oneCell' = true)
    (h63 : n + m ≤ maxLen) (hbytes : (n + m) * bytes ≤ 140737488355328)
    (h : ∀ A' cap' w', Sl w' e size A' (n + m) cap' (xs ++ news) → (∀ b, b ∈ fpA A' → b ∈ fpA A ∨ w.heap.size ≤ b) → Keeps (· ∈ fpA A) w w' → wpList P ops Q rest (a.put o.dst (.slice A' (n + m) cap')) w') : wpList P ops Q (o :: rest) a w := by
  obtain ⟨i, hi, hz, hz1, hz2⟩ := info_parts hinfo
  refine wpList_plain hgd fun K hK => ?_
  obtain ⟨A', cap', w', hrun, h2, h3, h4⟩ := run_append_Sl (P := P) w t o.type e i z size bytes ht hi hz hz1 hz2 hzs hsz A n cap xs hs B m c news hl hr h1 h63 hbytes
  unfold Oper.wp execOp
  simp only [ho, resolve, invoke, builtin, Sem.run_bind, Sem.run_pure, Result.andThen_ok, List.map_toArray, List.map_cons, List.map_nil, he, hx, hrun]
  exact hK _ _ (h A' cap' w' h2 h3 h4)

/-- make([]T, n, c) -/
theorem wpList_make_Sl {ops : Array Oper} {rest : List Oper} {o : Oper} {a : Act} {Q : Exit → Act → World → Prop} (hgd : o.guard = none) (l c : Operand) (t : TypeId)
    (ho : o.op = .makeSlice t l c)
    (e : TypeId) {z : Value} {size bytes : Nat} (ht : P.underlying t = some (.slice e)) (hinfo : (P.info? e).map (fun i => (i.zero, i.size, i.bytes)) = some (some z, size, bytes))
    {kl kc : IntKind} {L C : Int} (n k : Nat) (hel : a.eval l = .int kl L) (hec : a.eval c = .int kc C) (hL : L = (n : Int)) (hC : C = (k : Int)) (hnk : n ≤ k) (hbytes : bytes * k ≤ 281474976710656) (h63 : k ≤ maxLen)
    (h : ∀ (G : Addr) w', Sl w' e size (some G) n k ((madeCells z.cells (k * size)).toList.take (n * size)) → w.heap.size ≤ G.block → Below w.heap.size w w' → wpList P ops Q rest (a.put o.dst (.slice (some G) n k)) w') : wpList P ops Q (o :: rest) a w := by
  obtain ⟨i, hi, hz, hz1, hz2⟩ := info_parts hinfo
  subst hz1 hz2 hL hC
  refine wpList_plain hgd fun K hK => ?_
  have h63' : (k : Int) ≤ 9223372036854775807 := by simp only [maxLen] at h63; omega
  have hb' : (i.bytes : Int) * (k : Int) ≤ 281474976710656 := by
    have h : ((i.bytes * k : Nat) : Int) ≤ 281474976710656 := by omega
    rwa [Int.natCast_mul] at h
  have hrun := run_make (P := P) w t e i z ht hi hz kl kc n k (by omega) (by omega) hb' h63'
  simp only [Int.toNat_natCast] at hrun
  unfold Oper.wp
  simp only [execOp, ho, hel, hec, hrun, Sem.run_bind, Sem.run_pure, Result.andThen_ok]
  refine hK _ _ (h ⟨w.heap.size, 0, none⟩ _ ⟨?_, hnk, h63, .inr ⟨w.heap.size, 0, _, rfl, heap_alloc_new w _, by simp [size_madeCells], by simp⟩⟩ (Nat.le_refl _) ((Below.refl _ _).alloc (Nat.le_refl _) _))
  simp only [List.length_take, Array.length_toList, size_madeCells]
  have := Nat.mul_le_mul_right i.size hnk
  omega
end

/-! ### Slice expressions -/
section
variable {w : World} {e : TypeId} {sz n cap : Nat} {A : Option Addr} {xs : List Value}
theorem Sl.cut (h : Sl w e sz A n cap xs) {l hgh m : Nat} (h1 : l ≤ hgh) (h2 : hgh ≤ n) (h3 : hgh ≤ m) (h4 : m ≤ cap) :
    Sl w e sz (if m = l then A else A.map (·.add (l * sz))) (hgh - l) (m - l) ((xs.drop (l * sz)).take ((hgh - l) * sz)) ∧ (∀ b, b ∈ fpA (if m = l then A else A.map (·.add (l * sz))) → b ∈ fpA A) ∧
      SubA A (if m = l then A else A.map (·.add (l * sz))) (l * sz) ((hgh - l) * sz) := by
  obtain ⟨hxl, hnc, hcm, hh⟩ := h
  refine ⟨?_, ?_, ?_⟩
  · refine ⟨?_, by omega, by omega, ?_⟩
    · have := Nat.mul_le_mul_right sz h2
      simp only [List.length_take, List.length_drop, hxl, Nat.sub_mul]; omega
    · rcases hh with ⟨rfl, rfl⟩ | ⟨g, off, cur, rfl, hg, hc, htake⟩
      · left; refine ⟨by split <;> rfl, by omega⟩
      · right
        have a1 := Nat.mul_le_mul_right sz h2
        have a2 := Nat.mul_le_mul_right sz h1
        have a3 := Nat.mul_le_mul_right sz h3
        have a4 := Nat.mul_le_mul_right sz h4
        by_cases hml : m = l
        · subst hml
          have : hgh = m := by omega
          subst this
          refine ⟨g, off, cur, by simp, hg, by simp; omega, by simp⟩
        · rw [if_neg hml]
          refine ⟨g, off + l * sz, cur, by simp [addr_lit], hg, by rw [Nat.sub_mul]; omega, ?_⟩
          rw [← htake, List.drop_take, List.take_take, List.drop_drop]
          congr 1
          rw [Nat.sub_mul]; omega
  · intro b hb
    split at hb
    · exact hb
    · cases A with
      | none => simp at hb
      | some a => simpa [block_of_add] using hb
  · intro hp
    have h0 : 0 < hgh - l := Nat.pos_of_mul_pos_right hp
    rw [if_neg (by omega)]
    rcases hh with ⟨rfl, rfl⟩ | ⟨g, off, cur, rfl, _⟩
    · omega
    · exact ⟨_, rfl, rfl⟩

/-- A bound of a slice expression: not written (then d), or the number n. -/
def OptIs (v : Option Value) (n : Nat) (d : Prop) : Prop := match v with | none => d | some v => ∃ k L, v = .int k L ∧ L = (n : Int)
theorem optNone {n : Nat} {d : Prop} (h : d) : OptIs none n d := h
theorem optSome {k : IntKind} {L : Int} {n : Nat} {d : Prop} (h : L = (n : Int)) : OptIs (some (.int k L)) n d := ⟨k, L, rfl, h⟩

variable {P : Program} {ops : Array Oper} {rest : List Oper} {o : Oper} {a : Act} {Q : Exit → Act → World → Prop}
/-- s[l:h], s[:h], s[l:], s[:h:m], s[l:h:m]: whatever the bounds come to. -/
theorem wpList_slice_Sl (hgd : o.guard = none) (x : Operand) (lo hi mx : Option Operand) (t : TypeId) (ho : o.op = .slice t x lo hi mx)
    (e : TypeId) {z : Option Value} {sz bytes : Nat} (ht : P.underlying t = some (.slice e)) (hinfo : (P.info? e).map (fun i => (i.zero, i.size, i.bytes)) = some (z, sz, bytes))
    {A : Option Addr} {n cap : Nat} {xs : List Value} (hx : a.eval x = .slice A n cap) (hs : Sl w e sz A n cap xs)
    (l hgh m : Nat) (hlo : OptIs (lo.map a.eval) l (l = 0))
    (hhi : OptIs (hi.map a.eval) hgh (hgh = n ∧ mx = none))
    (hmx : OptIs (mx.map a.eval) m (m = cap))
    (h1 : l ≤ hgh) (h2 : hgh ≤ n) (h3 : hgh ≤ m) (h4 : m ≤ cap)
    (h : ∀ A', Sl w e sz A' (hgh - l) (m - l) ((xs.drop (l * sz)).take ((hgh - l) * sz)) → (∀ b, b ∈ fpA A' → b ∈ fpA A) → SubA A A' (l * sz) ((hgh - l) * sz) → wpList P ops Q rest (a.put o.dst (.slice A' (hgh - l) (m - l))) w) :
    wpList P ops Q (o :: rest) a w := by
  obtain ⟨hcut, hfp, hsub⟩ := hs.cut h1 h2 h3 h4
  unfold OptIs at hlo hhi hmx
  refine wpList_plain hgd fun K hK => ?_
  obtain ⟨i, hi', hzz⟩ := Option.map_eq_some_iff.1 hinfo
  simp only [Prod.mk.injEq] at hzz
  have hb : ∀ (k : IntKind) (i : Int) (j y : Nat) (code : BoundsCode), i = (j : Int) → j ≤ y → (Instr.sliceBound (.int k i) y code).run P w = .ok j w := by
    intro k i j y code e hj
    subst e
    rw [run_sliceBound w k _ y code (by omega) (by omega)]; simp
  have hsb : (Instr.sliceBounds true n cap (lo.map a.eval) (hi.map a.eval) (mx.map a.eval)).run P w = .ok (l, hgh, m) w := by
    unfold Instr.sliceBounds
    cases hmv : mx.map a.eval with
    | none =>
      rw [hmv] at hmx; subst hmx
      cases hhv : hi.map a.eval with
      | none =>
        rw [hhv] at hhi; obtain ⟨rfl, _⟩ := hhi
        cases hlv : lo.map a.eval with
        | none => rw [hlv] at hlo; subst hlo; simp
        | some v => rw [hlv] at hlo; obtain ⟨k, L, rfl, hL⟩ := hlo; simp [hb k L l _ _ hL h1]
      | some v =>
        rw [hhv] at hhi; obtain ⟨k, L, rfl, hL⟩ := hhi
        have hb1 := hb k L hgh m .sliceAcap hL h3
        cases hlv : lo.map a.eval with
        | none => rw [hlv] at hlo; subst hlo; simp [hb1]
        | some v => rw [hlv] at hlo; obtain ⟨k', L', rfl, hL'⟩ := hlo; simp [hb1, hb k' L' l _ _ hL' h1]
    | some vm =>
      rw [hmv] at hmx; obtain ⟨km, M, rfl, hM⟩ := hmx
      have hb0 := hb km M m cap .slice3Acap hM h4
      cases hhv : hi.map a.eval with
      | none =>
        rw [hhv] at hhi; obtain ⟨_, h0⟩ := hhi; subst h0; simp at hmv
      | some v =>
        rw [hhv] at hhi; obtain ⟨k, L, rfl, hL⟩ := hhi
        have hb1 := hb k L hgh m .slice3B hL h3
        cases hlv : lo.map a.eval with
        | none => rw [hlv] at hlo; subst hlo; simp [hb0, hb1]
        | some v => rw [hlv] at hlo; obtain ⟨k', L', rfl, hL'⟩ := hlo; simp [hb0, hb1, hb k' L' l _ _ hL' h1]
  have hrun : (Instr.slice t (.slice A n cap) (lo.map a.eval) (hi.map a.eval) (mx.map a.eval)).run P w = .ok (.slice (if m = l then A else A.map (·.add (l * sz))) (hgh - l) (m - l)) w := by
    simp only [Instr.slice, Sem.run_bind, run_underlying ht, Result.andThen_ok, hsb]
    simp [sizeOf, typeInfo, hi', hzz.2.1]
  unfold Oper.wp
  simp only [execOp, ho, hx]
  have hrun' : (Instr.sliceAt t (.slice A n cap) (lo.map a.eval) (hi.map a.eval) (mx.map a.eval)).run P w = .ok (.slice (if m = l then A else A.map (·.add (l * sz))) (hgh - l) (m - l)) w := by
    simp [Instr.sliceAt, run_underlying ht, hrun]
  simp only [hrun', Sem.run_bind, Sem.run_pure, Result.andThen_ok]
  exact hK _ _ (h _ hcut hfp hsub)
end

/-! ### copy -/
section
variable {P : Program} {ops : Array Oper} {rest : List Oper} {o : Oper} {a : Act} {Q : Exit → Act → World → Prop} {w : World}
/-- copy(dst, src) -/
theorem wpList_copy_Sl (hgd : o.guard = none) (d s : Operand) (dT sT : TypeId) (ho : o.op = .call { callee := .builtin .copy, args := #[d, s], argTypes := #[dT, sT] })
    (e : TypeId) {z : Option Value} {sz bytes : Nat} (ht : P.underlying dT = some (.slice e)) (hinfo : (P.info? e).map (fun i => (i.zero, i.size, i.bytes)) = some (z, sz, bytes)) (hsz : 0 < sz)
    {A : Option Addr} {n cap : Nat} {xs : List Value} (hd : a.eval d = .slice A n cap) (hsl : Sl w e sz A n cap xs)
    {B : Option Addr} {m c : Nat} {ys : List Value} (hs : a.eval s = .slice B m c) (hy : ys.length = m * sz) (hr : RdC w B ys) (h1 : ∀ u ∈ ys, u.oneCell' = true)
    (h : ∀ w', Wr w w' A (ys.take (min m n * sz) ++ xs.drop (min m n * sz)) → wpList P ops Q rest (a.put o.dst (goInt ((min m n : Nat) : Int))) w') : wpList P ops Q (o :: rest) a w := by
  obtain ⟨i, hi, hzz⟩ := Option.map_eq_some_iff.1 hinfo
  simp only [Prod.mk.injEq] at hzz
  refine wpList_plain hgd fun K hK => ?_
  have hmn : min m n * sz ≤ n * sz := Nat.mul_le_mul_right sz (Nat.min_le_right _ _)
  have hmm : min m n * sz ≤ m * sz := Nat.mul_le_mul_right sz (Nat.min_le_left _ _)
  have hcap := Nat.mul_le_mul_right sz hsl.2.1
  have hxl := hsl.1
  suffices hrun : ∃ w', (Builtin.copy_ #[dT, sT] o.type #[.slice A n cap, .slice B m c]).run P w = .ok (goInt ((min m n : Nat) : Int)) w' ∧ Wr w w' A (ys.take (min m n * sz) ++ xs.drop (min m n * sz)) by
    obtain ⟨w', hrun, hw⟩ := hrun
    unfold Oper.wp
    simp [execOp, ho, resolve, invoke, builtin, hd, hs, hrun, Result.andThen]
    exact hK _ _ (h w' hw)
  have hmin : Nat.min m n = min m n := rfl
  by_cases h0 : min m n = 0
  · refine ⟨w, ?_, by rw [h0]; simpa using Wr.start hsl⟩
    have hf : (Builtin.firstCells sz 0 (.slice B m c)).run P w = .ok #[] w := by
      cases B <;> simp [Builtin.firstCells, loadCells, loadCellsFrom]
    cases A <;> simp [Builtin.copy_, run_underlying ht, Builtin.lenOf, sizeOf, typeInfo, hi, hzz.2.1, hmin, h0, hf, storeCells]
  · have hb : ∃ ad, B = some ad ∧ ∀ j u, ys[j]? = some u → w.cell? (ad.add j) = some u := by
      have hp := Nat.mul_pos (show 0 < m by omega) hsz
      obtain ⟨ad, hB, _⟩ := hr 0 ys[0] (List.getElem?_eq_getElem (by omega))
      refine ⟨ad, hB, fun j u hj => ?_⟩
      obtain ⟨ad', hB', hc⟩ := hr j u hj
      rw [hB] at hB'; obtain rfl := Option.some.inj hB'; exact hc
    obtain ⟨ad, rfl, hnews⟩ := hb
    rcases hsl.2.2.2 with ⟨_, hcap0⟩ | ⟨g, off, cur, rfl, hg, hc, htake⟩
    · have := hsl.2.1; omega
    · have hyl : (ys.take (min m n * sz)).length = min m n * sz := by simp; omega
      have hf := run_firstCells_some (P := P) w sz (min m n) ad m c (ys.take (min m n * sz)) hyl (fun j u hj => hnews j u (by rw [List.getElem?_take] at hj; split at hj; exact hj; cases hj))
      have hst := run_storeCells_at P g off e (ys.take (min m n * sz)) 0 cur w hg (by rw [hyl]; omega) (fun u hu => h1 u (List.mem_of_mem_take hu))
      simp only [Nat.add_zero, hyl] at hst
      refine ⟨w.setRow g (cur.toList.take off ++ ys.take (min m n * sz) ++ cur.toList.drop (off + min m n * sz)).toArray, ?_, ?_, ?_⟩
      · simp [Builtin.copy_, run_underlying ht, Builtin.lenOf, sizeOf, typeInfo, hi, hzz.2.1, hmin, hf, hst]
      · exact ⟨rfl, rfl, rfl, by simp, fun k _ hk => setRow_other w g k _ (fun e => hk (by simp [e]))⟩
      · intro g' off' cur' e' hA hg' hc'
        injection hA with hA; injection hA with e1 e2; subst e1; subst e2
        rw [hg] at hg'; injection hg' with hg'; injection hg' with e1 e2; subst e1; subst e2
        refine ⟨_, setRow_heap w g cur _ e _ hg, ?_⟩
        have hcur : cur.toList.drop off = xs ++ cur.toList.drop (off + xs.length) := by
          rw [hxl]; conv => rhs; rw [← htake]
          rw [← List.drop_drop, List.take_append_drop]
        have hlen : (ys.take (min m n * sz) ++ xs.drop (min m n * sz)).length = xs.length := by simp; omega
        rw [hlen]
        have : cur.toList.drop (off + min m n * sz) = xs.drop (min m n * sz) ++ cur.toList.drop (off + xs.length) := by
          rw [← List.drop_drop, hcur, List.drop_append_of_le_length (by omega)]
        simp [this, List.append_assoc]
end
end Go.Proofs.YtahnhblodfdfhaaDoor
