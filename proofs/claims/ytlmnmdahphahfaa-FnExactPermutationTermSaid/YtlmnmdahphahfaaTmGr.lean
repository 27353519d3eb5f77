/-
  THE WALKS: slices.Grow of the nil slice, slices.Concat.
-/
import Derived.Test.YtlmnmdahphahfaaTmX
import Derived.Lib.AppendZerosOnto
namespace Go.Proofs.Ytlmnmdahphahfaa
open Go.RowKit
open Go.Lib

section
variable {P : Program} {ops : Array Oper} {rest : List Oper} {o : Oper} {a : Act} {Q : Exit → Act → World → Prop} {w : World}
/-- append(nil, make([]T, k)...) -/
theorem wpList_appendZ (hgd : o.guard = none) (s x : Operand) (t tn : TypeId)
    (ho : o.op = .call { callee := .builtin .append, args := #[s, x], argTypes := #[t, tn] })
    (e : TypeId) {z : Value} {size bytes : Nat} (ht : P.underlying t = some (.slice e)) {kn : IntKind} (htn : P.underlying tn = some (.int kn)) (hinfo : (P.info? e).map (fun i => (i.zero, i.size, i.bytes)) = some (some z, size, bytes)) (hzs : z.cells.size = size) (hsz : 0 < size)
    (he : a.eval s = .slice none 0 0) (k : Nat) (hx : a.eval x = .int .i64 (k : Int)) (h0 : 0 < k) (h63 : k ≤ maxLen) (hbytes : k * bytes ≤ 140737488355328)
    (h : ∀ c w', Sl w' e size (some ⟨w.heap.size, 0, none⟩) k c (Builtin.zeroCells z.cells k).toList → Below w.heap.size w w' → wpList P ops Q rest (a.put o.dst (.slice (some ⟨w.heap.size, 0, none⟩) k c)) w') : wpList P ops Q (o :: rest) a w := by
  obtain ⟨i, hi, hz, hz1, hz2⟩ := info_parts hinfo
  subst hz1 hz2
  refine wpList_plain hgd fun K hK => ?_
  have hsmall : k ≤ 9223372036854775807 := by simp only [maxLen] at h63; omega
  have hn : Builtin.nextslicecap (0 + k) 0 = k := by
    unfold Builtin.nextslicecap
    simp
    omega
  have hrun := run_append_grow_zeros (P := P) w t tn o.type e i z .i64 kn ht htn hi hz none 0 0 [] (run_firstCells_none w.drew i.size 0 0 0) k h0 hsz (by omega) (by omega) (by omega) (by rw [hn]; omega)
  rw [Nat.zero_add] at hrun
  unfold Oper.wp execOp
  simp only [ho, resolve, invoke, builtin, Sem.run_bind, Sem.run_pure, Result.andThen_ok, List.map_toArray, List.map_cons, List.map_nil, he, hx, hrun]
  refine hK _ _ (h _ _ ⟨?_, grownCap_ge w k 0 e, grownCap_le_maxLen w k 0 e h63, .inr ⟨w.heap.size, 0, _, rfl, heap_alloc_new w.drew _, ?_, ?_⟩⟩ ?_)
  · simp [size_zeroCells, hzs]
  · have := grownCap_ge w k 0 e
    simp [size_zeroCells, hzs, ← Nat.add_mul]
    exact Nat.mul_le_mul_right _ (by omega)
  · simp [List.take_left', size_zeroCells, hzs]
  · exact ⟨rfl, rfl, rfl, by simp, fun b hb => Below.heap_alloc w.drew _ b hb⟩
end

/-- slices.Grow(nil, k): room for k nodes. -/
def RetGr (k : Nat) (w : World) (e : Ending) (w' : World) : Prop := ∃ A c, e = .returned (.slice A 0 c) ∧ Sl w' tNd 3 A 0 c [] ∧ k ≤ c ∧ FreshL w.heap.size (fpA A) ∧ Below w.heap.size w w'
set_option maxRecDepth 8000 in
set_option maxHeartbeats 1000000 in
theorem grow_any (k : Nat) (w : World) (hk : k ≤ 1048576) :
    Calls Try.prog 88 #[.slice none 0 0, .int .i64 k] w (RetGr k w) := by
  by_cases h0 : k = 0
  · subst h0
    go_enter Try.func88, Try.ntmps88
    go_wp2_with (fail)
    go_ret
    exact ⟨none, 0, rfl, Sl.nil _ _ _, Nat.le_refl _, (fun b h => by cases h), Below.refl _ _⟩
  · have h1 : 0 < k := by omega
    have h2 : (0 : Int) < (k : Int) := by omega
    have h3 : ¬ ((k : Int) < 0) := by omega
    have hw : IntKind.i64.wrap (k : Int) = (k : Int) := IntWalk.i64_in _ (by omega)
    go_enter Try.func88, Try.ntmps88
    go_wp2_with (at_builtin; refine wpList_appendZ rfl _ _ _ _ rfl tNd Try.underlying28 Try.underlying3 info_nd rfl (by omega) rfl k rfl h1 (by unfold maxLen; omega) (by omega) ?_; intro c w1 hs1 hb1)
    go_ret
    obtain ⟨-, hkc, hcm, hh⟩ := hs1
    refine ⟨_, c, rfl, ⟨by simp, Nat.zero_le _, hcm, ?_⟩, hkc, (fun b hb => by rcases (by simpa [fpA] using hb : b = w.heap.size) with rfl; exact Nat.le_refl _), hb1⟩
    rcases hh with ⟨hh, -⟩ | ⟨g, off, cur, hA, hg, hc, -⟩
    · cases hh
    · exact .inr ⟨g, off, cur, hA, hg, hc, by simp⟩

/-- A part that slices.Concat reads: its address, its capacity, its nodes. -/
abbrev Prt : Type := Option Addr × Nat × List Nd
def pv (r : Prt) : Value := .slice r.1 r.2.2.length r.2.1
def pfl (R : List Prt) : List Nd := R.flatMap (·.2.2)
theorem pfl_snoc {R : List Prt} {k : Nat} {r : Prt} (h : R[k]? = some r) : pfl (R.take (k + 1)) = pfl (R.take k) ++ r.2.2 := by
  unfold pfl
  rw [List.take_add_one, h]
  simp
theorem pfl_le (R : List Prt) (k : Nat) : (pfl (R.take k)).length ≤ (pfl R).length := by
  have e : pfl R = pfl (R.take k) ++ pfl (R.drop k) := by
    unfold pfl
    rw [← List.flatMap_append, List.take_append_drop]
  rw [e, List.length_append]; omega
set_option maxRecDepth 8000 in
set_option maxHeartbeats 2000000 in
theorem concat_any (G : Addr) (n c : Nat) (R : List Prt) (w : World) (hn : n = R.length) (hR : RdC w (some G) (R.map pv)) (hr : ∀ r, r ∈ R → RdN w r.1 r.2.2) (hl : (pfl R).length ≤ 1048576) (hn2 : n ≤ 1048576) :
    Calls Try.prog 66 #[.slice (some G) n c] w fun e w' => ∃ A1 c1 m, e = .returned (.slice A1 m c1) ∧ m = (pfl R).length ∧ Sl w' tNd 3 A1 m c1 (ncs (pfl R)) ∧ FreshL w.heap.size (fpA A1) ∧ Below w.heap.size w w' := by
  have hcell : ∀ wr, Below w.heap.size w wr → ∀ k, k < n → ∃ (A : Option Addr) (c' m : Nat), ∃ l, R[k]? = some (A, c', l) ∧ m = l.length ∧ wr.cell? (G.add k) = some (.slice A m c') ∧ RdN wr A l ∧ (pfl (R.take (k + 1))) = pfl (R.take k) ++ l := by
    intro wr hb k hk
    have hk' : k < R.length := by omega
    obtain ⟨r, hr1⟩ : ∃ r, R[k]? = some r := ⟨_, List.getElem?_eq_getElem hk'⟩
    have hrk : (R.map pv)[k]? = some (pv r) := by rw [List.getElem?_map, hr1]; rfl
    obtain ⟨ad, e, hc⟩ := (hR.below hb) k _ hrk
    cases e
    obtain ⟨A, c', l⟩ := r
    exact ⟨A, c', l.length, l, hr1, rfl, hc, (hr _ (List.mem_of_getElem? hr1)).below hb, pfl_snoc hr1⟩
  have hle := pfl_le R
  clear hR hr
  have hn_h := Lib.hid hn
  have hcell_h := Lib.hid hcell
  have hle_h := Lib.hid hle
  clear hn hcell hle
  go_enter Try.func66, Try.ntmps66
  go_wp2_with (fail)
  go_loopw [3, 5, 11] (fun s _ i wr => ∃ k : Nat, k ≤ n ∧ i = .int .i64 k ∧ s = .int .i64 ((pfl (R.take k)).length : Int) ∧ Below w.heap.size w wr) (fun _ _ i _ => n - (intOf i).toNat)
  case atStart => exact ⟨0, Nat.zero_le _, rfl, by simp [pfl], Below.refl _ _⟩
  case round =>
    obtain ⟨k, hk, rfl, rfl, hb⟩ := hrel
    by_cases hlt : k < n
    · obtain ⟨A, c', m, l, h1, hm, hc, hA, hp⟩ := hcell_h.out wr hb k hlt
      have hs2 := hle_h.out (k + 1)
      rw [hp, List.length_append, ← hm] at hs2
      obtain ⟨t, ht⟩ : ∃ t, t = (pfl (R.take k)).length := ⟨_, rfl⟩
      rw [← ht] at hs2 ⊢
      have hkI : (k : Int) < (n : Int) := by omega
      have hk0 : (0 : Int) ≤ (k : Int) := by omega
      have hw1 : IntKind.i64.wrap ((t : Int) + (m : Int)) = (t : Int) + (m : Int) := IntWalk.i64_in _ (by omega)
      have hw2 : IntKind.i64.wrap ((k : Int) + 1) = (k : Int) + 1 := IntWalk.i64_in _ (by omega)
      have hnn : ¬ ((t : Int) + (m : Int) < 0) := by omega
      have h1_h := Lib.hid h1
      have hm_h := Lib.hid hm
      have hp_h := Lib.hid hp
      have ht_h := Lib.hid ht
      clear h1 hm hp ht
      clear hA
      go_wp2_with (fail)
      go_roundw
      case rel => exact ⟨k + 1, by omega, by go_num, by rw [hp_h.out, List.length_append, ← ht_h.out, ← hm_h.out]; go_num, hb⟩
      case measure => simp [intOf]; omega
    · obtain rfl : k = n := by omega
      obtain ⟨t, ht⟩ : ∃ t, t = (pfl R).length := ⟨_, rfl⟩
      have et : (pfl (R.take k)).length = t := by rw [ht, hn_h.out, List.take_length]
      rw [et]
      rw [← ht] at hl
      have ht_h := Lib.hid ht
      have et_h := Lib.hid et
      clear ht et
      go_wp2_with (fail)
      refine (grow_any t wr hl).mono ?_
      rintro e w1 ⟨A1, c1, rfl, hS1, hc1, hF1, hb1⟩
      have hB1 := below_trans hb hb1 hb.size
      have hF2 : FreshL w.heap.size (fpA A1) := fun x hx => Nat.le_trans hb.size (hF1 x hx)
      have hw1z := hB1.size
      have hS1_h := Lib.hid hS1
      have hF1_h := Lib.hid hF1
      have hF2_h := Lib.hid hF2
      have hb1_h := Lib.hid hb1
      have hb_h := Lib.hid hb
      have hB1_h := Lib.hid hB1
      clear hS1 hF1 hF2 hb1 hb hB1
      go_wp2_with (fail)
      go_loopw [6, 8, 27] (fun x _ i wr2 => ∃ (j q c2 : Nat) (A2 : Option Addr), j ≤ k ∧ i = .int .i64 j ∧ x = .slice A2 q c2 ∧ q = (pfl (R.take j)).length ∧ Sl wr2 tNd 3 A2 q c2 (ncs (pfl (R.take j))) ∧ FreshL w.heap.size (fpA A2) ∧ Below w.heap.size w wr2) (fun _ _ i _ => k - (intOf i).toNat)
      case atStart => exact ⟨0, 0, c1, A1, Nat.zero_le _, rfl, rfl, by simp [pfl], by simpa [pfl, ncs] using hS1_h.out, hF2_h.out, hB1_h.out⟩
      case round =>
        obtain ⟨j, q, c2, A2, hj, rfl, rfl, hq, hS2, hF3, hb2⟩ := hrel
        by_cases hlt2 : j < k
        · obtain ⟨A, c', m, l, h1, hm, hc, hA, hp⟩ := hcell_h.out wr hb2 j hlt2
          have hs2 := hle_h.out (j + 1)
          rw [hp, List.length_append, ← hm, ← hq] at hs2
          have hqt : q + m ≤ 1048576 := by have := ht_h.out; omega
          have hjI : (j : Int) < (k : Int) := by omega
          have hj0 : (0 : Int) ≤ (j : Int) := by omega
          have hw3 : IntKind.i64.wrap ((j : Int) + 1) = (j : Int) + 1 := IntWalk.i64_in _ (by omega)
          have hlm : (ncs l).length = m * 3 := by rw [ncs_length, hm]
          have h1_h := Lib.hid h1
          have hm_h := Lib.hid hm
          have hp_h := Lib.hid hp
          have hq_h := Lib.hid hq
          have hlm_h := Lib.hid hlm
          have hA_h := Lib.hid hA
          have hs2_h := Lib.hid hs2
          have hF3_h := Lib.hid hF3
          have hb2_h := Lib.hid hb2
          clear h1 hm hp hq hlm hA hs2 hF3 hb2
          go_wp2_with (at_builtin; refine wpList_append_Sl _ rfl _ _ _ rfl tNd Try.underlying28 info_nd rfl (by omega) rfl hS2 rfl hlm_h.out hA_h.out (ncs_one l) (by unfold maxLen; omega) (by omega) ?_; intro A3 c3 w3 hs3 hA3 hk3)
          have hB3 := below_keeps hb2_h.out hk3 hb2_h.out.size (fun b hb => hF3_h.out b hb)
          have hF4 : FreshL w.heap.size (fpA A3) := fun b hb => by
            rcases hA3 b hb with h | h
            · exact hF3_h.out b h
            · exact Nat.le_trans hb2_h.out.size h
          have hs3_h := Lib.hid hs3
          have hB3_h := Lib.hid hB3
          have hF4_h := Lib.hid hF4
          clear hs3 hB3 hF4
          clear hA3 hk3 hS2
          go_roundw
          case rel => exact ⟨j + 1, q + m, c3, A3, by omega, by go_num, rfl, by rw [hp_h.out, List.length_append, ← hq_h.out, ← hm_h.out], by rw [hp_h.out, ncs_append]; exact hs3_h.out, hF4_h.out, hB3_h.out⟩
          case measure => simp [intOf]; omega
        · obtain rfl : j = k := by omega
          have hq_h := Lib.hid hq
          have hS2_h := Lib.hid hS2
          have hF3_h := Lib.hid hF3
          have hb2_h := Lib.hid hb2
          clear hq hS2 hF3 hb2
          go_wp2_with (fail)
          go_ret
          have e : R.take j = R := by rw [hn_h.out, List.take_length]
          have h5 := hS2_h.out
          have h6 := hq_h.out
          rw [e] at h5 h6
          exact ⟨A2, c2, q, rfl, h6, h5, hF3_h.out, hb2_h.out⟩
end Go.Proofs.Ytlmnmdahphahfaa
