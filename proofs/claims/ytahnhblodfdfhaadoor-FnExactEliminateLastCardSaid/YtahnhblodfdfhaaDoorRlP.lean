/-
  THE WALK: pad (an array of 48 elements).

  COPY INTO A SLICE whose cells lie in a block of another type (an array's).

  THE PLAIN WORDS of relations: what is a relation, a reduced list of rows; parts of rows.
-/
import Derived.Test.YtahnhblodfdfhaaDoorSySolve
import Derived.Test.YtahnhblodfdfhaaDoorOps
import Derived.Test.YtahnhblodfdfhaaDoorRegT
import Derived.Deep.DeepCutAuto
import Derived.BigQuiet
import Derived.Deep.WholeRow
namespace Go.Proofs.YtahnhblodfdfhaaDoor
open Go.RowKit

/-- A reduced list of rows of n elements. -/
def redB (p n : Int) (L : List (List Int)) : Bool := decide ((L.length : Int) ≤ n) && (rowsB p n L && decide (redM p n.toNat L = L))
/-- A relation. -/
def relB (p : Int) (s : Sys) : Bool := (decide (0 ≤ s.1) && decide (s.1 ≤ 24)) && ((decide (0 ≤ s.2.1) && decide (s.2.1 ≤ 24 - s.1)) && (fieldB p && redB p (s.1 + s.2.1) s.2.2))
structure RelOk (p : Int) (s : Sys) : Prop where
  lo : 0 ≤ s.1
  hi : 0 ≤ s.2.1
  sum : s.1 + s.2.1 ≤ 24
  fld : fieldB p = true
  len : (s.2.2.length : Int) ≤ s.1 + s.2.1
  mat : Mat p s.2.2.length (s.1 + s.2.1).toNat s.2.2
  red : redM p (s.1 + s.2.1).toNat s.2.2 = s.2.2
theorem RelOk.of {p : Int} {s : Sys} (h : relB p s = true) : RelOk p s := by
  unfold relB redB at h
  simp only [Bool.and_eq_true, decide_eq_true_eq] at h
  obtain ⟨⟨h1, h2⟩, ⟨h3, h4⟩, h5, h6, h7, h8⟩ := h
  exact ⟨h1, h3, by omega, h5, h6, rowsB_mat h7 (by omega), h8⟩
theorem RelOk.row {p : Int} {s : Sys} (h : RelOk p s) {v : List Int} (hv : v ∈ s.2.2) : (v.length : Int) = s.1 + s.2.1 ∧ Res p v := by
  have := h.mat.row v hv
  have h1 := h.lo
  have h2 := h.hi
  exact ⟨by omega, this.2⟩
theorem Mat.map {p : Int} {m n k : Nat} {L : List (List Int)} {f : List Int → List Int} (h : Mat p m n L) (hf : ∀ v, v.length = n → Res p v → (f v).length = k ∧ Res p (f v)) : Mat p m k (L.map f) := by
  refine ⟨by rw [List.length_map]; exact h.len, fun v hv => ?_⟩
  obtain ⟨u, hu, rfl⟩ := List.mem_map.1 hv
  exact hf u (h.row u hu).1 (h.row u hu).2
theorem leadV_take {v : List Int} {a : Nat} (ha : a ≤ v.length) : leadV (v.take a) = a ↔ a ≤ leadV v := by
  unfold leadV
  induction v generalizing a with
  | nil => have : a = 0 := by simpa using ha
           subst this; simp
  | cons x r ih =>
    cases a with
    | zero => simp
    | succ a =>
      have := ih (a := a) (by simpa using ha)
      simp only [List.take_succ_cons, List.findIdx_cons]
      cases h : (x != 0)
      · simp only [cond_false]; omega
      · simp
/-- The first columns of the rows; the last ones. -/
def firstM (s : Sys) : List (List Int) := s.2.2.map fun v => v.take s.1.toNat
def secondM (s : Sys) : List (List Int) := s.2.2.map fun v => v.drop s.1.toNat
theorem firstM_mat {p : Int} {s : Sys} (h : RelOk p s) : Mat p s.2.2.length s.1.toNat (firstM s) := by
  have h1 := h.lo
  have h2 := h.hi
  exact h.mat.map fun v hv hr => ⟨by rw [List.length_take]; omega, fun x hx => hr x (List.mem_of_mem_take hx)⟩
theorem secondM_mat {p : Int} {s : Sys} (h : RelOk p s) : Mat p s.2.2.length s.2.1.toNat (secondM s) := by
  have h1 := h.lo
  have h2 := h.hi
  exact h.mat.map fun v hv hr => ⟨by rw [List.length_drop]; omega, fun x hx => hr x (List.mem_of_mem_drop hx)⟩
/-- No row begins behind the left part. -/
def singB (s : Sys) : Bool := s.2.2.all fun v => decide ((leadV v : Int) < s.1)
def singM (p : Int) (s : Sys) : Bool × Bool := if relB p s then (singB s, true) else (false, false)
/-- The space of the left parts has all dimensions. -/
def totB (p : Int) (s : Sys) : Bool := decide (((redM p s.1.toNat (firstM s)).length : Int) = s.1)
def totM (p : Int) (s : Sys) : Bool × Bool := if relB p s then (totB p s, true) else (false, false)
def domM (p : Int) (s : Sys) : (Int × List (List Int)) × Bool := if relB p s then ((s.1, redM p s.1.toNat (firstM s)), true) else ((0, []), false)
def ranM (p : Int) (s : Sys) : (Int × List (List Int)) × Bool := if relB p s then ((s.2.1, redM p s.2.1.toNat (secondM s)), true) else ((0, []), false)
def funM (p : Int) (s : Sys) : (Int × List (List Int)) × Bool := if relB p s && (totB p s && singB s) then ((s.2.1, secondM s), true) else ((0, []), false)
end Go.Proofs.YtahnhblodfdfhaaDoor
namespace Go.Proofs.YtahnhblodfdfhaaDoor
open Go.RowKit

section
variable {P : Program} {ops : Array Oper} {rest : List Oper} {o : Oper} {a : Act} {Q : Exit → Act → World → Prop} {w : World}
/-- copy(dst, src) -/
theorem wpList_copy_Slt (hgd : o.guard = none) (d s : Operand) (dT sT : TypeId) (ho : o.op = .call { callee := .builtin .copy, args := #[d, s], argTypes := #[dT, sT] })
    (e eb : TypeId) {z : Option Value} {sz bytes : Nat} (ht : P.underlying dT = some (.slice e)) (hinfo : (P.info? e).map (fun i => (i.zero, i.size, i.bytes)) = some (z, sz, bytes)) (hsz : 0 < sz)
    {A : Option Addr} {n cap : Nat} {xs : List Value} (hd : a.eval d = .slice A n cap) (hsl : Sl w eb sz A n cap xs)
    {B : Option Addr} {m c : Nat} {ys : List Value} (hs : a.eval s = .slice B m c) (hy : ys.length = m * sz) (hr : RdC w B ys) (h1 : ∀ u ∈ ys, u.oneCell' = true)
    (h : ∀ w', Wr w w' A (ys.take (min m n * sz) ++ xs.drop (min m n * sz)) → wpList P ops Q rest (a.put o.dst (goInt ((min m n : Nat) : Int))) w') : wpList P ops Q (o :: rest) a w := by
  obtain ⟨i, hi, hzz⟩ := Option.map_eq_some_iff.1 hinfo
  simp only [Prod.mk.injEq] at hzz
  refine wpList_plain hgd fun K hK => ?_
  have hmn : min m n * sz ≤ n * sz := Nat.mul_le_mul_right sz (Nat.min_le_right _ _)
  have hmm : min m n * sz ≤ m * sz := Nat.mul_le_mul_right sz (Nat.min_le_left _ _)
  have hcap := Nat.mul_le_mul_right sz hsl.2.1
  have hxl := hsl.1
  suffices hrun : ∃ w', (Builtin.copy_ #[dT, sT] o.type #[.slice A n cap, .slice B m c]).run P w = .ok (goInt ((min m n : Nat) : Int)) w' ∧ Wr w w' A (ys.take (min m n * sz) ++ xs.drop (min m n * sz)) by
    obtain ⟨w', hrun, hw⟩ := hrun
    unfold Oper.wp
    simp [execOp, ho, resolve, invoke, builtin, hd, hs, hrun, Result.andThen]
    exact hK _ _ (h w' hw)
  have hmin : Nat.min m n = min m n := rfl
  by_cases h0 : min m n = 0
  · refine ⟨w, ?_, by rw [h0]; simpa using Wr.start hsl⟩
    have hf : (Builtin.firstCells sz 0 (.slice B m c)).run P w = .ok #[] w := by
      cases B <;> simp [Builtin.firstCells, loadCells, loadCellsFrom]
    cases A <;> simp [Builtin.copy_, run_underlying ht, Builtin.lenOf, sizeOf, typeInfo, hi, hzz.2.1, hmin, h0, hf, storeCells]
  · have hb : ∃ ad, B = some ad ∧ ∀ j u, ys[j]? = some u → w.cell? (ad.add j) = some u := by
      have hp := Nat.mul_pos (show 0 < m by omega) hsz
      obtain ⟨ad, hB, _⟩ := hr 0 ys[0] (List.getElem?_eq_getElem (by omega))
      refine ⟨ad, hB, fun j u hj => ?_⟩
      obtain ⟨ad', hB', hc⟩ := hr j u hj
      rw [hB] at hB'; obtain rfl := Option.some.inj hB'; exact hc
    obtain ⟨ad, rfl, hnews⟩ := hb
    rcases hsl.2.2.2 with ⟨_, hcap0⟩ | ⟨g, off, cur, rfl, hg, hc, htake⟩
    · have := hsl.2.1; omega
    · have hyl : (ys.take (min m n * sz)).length = min m n * sz := by simp; omega
      have hf := run_firstCells_some (P := P) w sz (min m n) ad m c (ys.take (min m n * sz)) hyl (fun j u hj => hnews j u (by rw [List.getElem?_take] at hj; split at hj; exact hj; cases hj))
      have hst := run_storeCells_at P g off eb (ys.take (min m n * sz)) 0 cur w hg (by rw [hyl]; omega) (fun u hu => h1 u (List.mem_of_mem_take hu))
      simp only [Nat.add_zero, hyl] at hst
      refine ⟨w.setRow g (cur.toList.take off ++ ys.take (min m n * sz) ++ cur.toList.drop (off + min m n * sz)).toArray, ?_, ?_, ?_⟩
      · simp [Builtin.copy_, run_underlying ht, Builtin.lenOf, sizeOf, typeInfo, hi, hzz.2.1, hmin, hf, hst]
      · exact ⟨rfl, rfl, rfl, by simp, fun k _ hk => setRow_other w g k _ (fun e => hk (by simp [e]))⟩
      · intro g' off' cur' e' hA hg' hc'
        injection hA with hA; injection hA with e1 e2; subst e1; subst e2
        rw [hg] at hg'; injection hg' with hg'; injection hg' with e1 e2; subst e1; subst e2
        refine ⟨_, setRow_heap w g cur _ eb _ hg, ?_⟩
        have hcur : cur.toList.drop off = xs ++ cur.toList.drop (off + xs.length) := by
          rw [hxl]; conv => rhs; rw [← htake]
          rw [← List.drop_drop, List.take_append_drop]
        have hlen : (ys.take (min m n * sz) ++ xs.drop (min m n * sz)).length = xs.length := by simp; omega
        rw [hlen]
        have : cur.toList.drop (off + min m n * sz) = xs.drop (min m n * sz) ++ cur.toList.drop (off + xs.length) := by
          rw [← List.drop_drop, hcur, List.drop_append_of_le_length (by omega)]
        simp [this, List.append_assoc]
end
end Go.Proofs.YtahnhblodfdfhaaDoor
namespace Go.Proofs.YtahnhblodfdfhaaDoor
open Go.RowKit

section
variable {P : Program} {ops : Array Oper} {rest : List Oper} {o : Oper} {a : Act} {Q : Exit → Act → World → Prop} {w w' : World}
theorem wpList_val {v : Value} (hg : o.guard = none) (hr : (execOp a.eval o).run P w = .ok (.value v) w') (h : wpList P ops Q rest (a.put o.dst v) w') : wpList P ops Q (o :: rest) a w := by
  refine wpList_plain hg fun K hK => ?_
  unfold Oper.wp
  simp only [hr]
  exact hK _ _ h
theorem wpList_skip (hg : o.guard = none) (hr : (execOp a.eval o).run P w = .ok .skip w') (h : wpList P ops Q rest (a.put o.dst undef) w') : wpList P ops Q (o :: rest) a w := by
  refine wpList_plain hg fun K hK => ?_
  unfold Oper.wp
  simp only [hr]
  exact hK _ _ h
theorem xop_alloc {ρ : Operand → Value} {t : TypeId} {Z : Array Value} (ho : o.op = .alloc t) (hz : ∀ w, (zeroValue t).run P w = .ok (.agg Z) w) :
    (execOp ρ o).run P w = .ok (.value (.pointer (some ⟨w.heap.size, 0, none⟩))) (w.alloc (.cells Z t)) := by
  simp [execOp, ho, Instr.alloc, hz, newVar, newRow, Value.cells, Result.andThen]
theorem xop_store {ρ : Operand → Value} {t : TypeId} {p x : Operand} (ho : o.op = .store t p x) (hr : (Instr.storeAt t (ρ p) (ρ x)).run P w = .ok () w') : (execOp ρ o).run P w = .ok .skip w' := by
  simp [execOp, ho, hr, Result.andThen]
theorem xop_load {ρ : Operand → Value} {t : TypeId} {p : Operand} {v : Value} (ho : o.op = .load t p) (hr : (Instr.loadAt t (ρ p)).run P w = .ok v w') : (execOp ρ o).run P w = .ok (.value v) w' := by
  simp [execOp, ho, hr, Result.andThen]
theorem xop_slice {ρ : Operand → Value} {t : TypeId} {p : Operand} {v : Value} (ho : o.op = .slice t p none none none) (hr : (Instr.sliceAt t (ρ p) none none none).run P w = .ok v w') : (execOp ρ o).run P w = .ok (.value v) w' := by
  simp [execOp, ho, hr, Result.andThen]
theorem run_sliceAt_all {t e : TypeId} {n : Nat} {ad : Addr} (ht : P.underlying t = some (.array n e)) (hi : (P.info? e).map (·.size) = some 1) :
    (Instr.sliceAt t (.pointer (some ad)) none none none).run P w = .ok (.slice (some ad) n n) w := by
  obtain ⟨i, hi, h1⟩ := Option.map_eq_some_iff.1 hi
  have : ad.add 0 = ad := by cases ad; unfold Addr.add; split <;> simp_all
  simp [Instr.sliceAt, run_underlying ht, Instr.sureAddr, Instr.sliceBounds, sizeOf, typeInfo, hi, Result.andThen, this]
end
set_option maxRecDepth 100000 in
theorem zero48 : ∃ Z : Array Value, Z = (List.replicate 48 (Value.int .i64 0)).toArray ∧ (Tryd.prog.info? 173).map (fun i => (i.zero, i.size)) = some (some (.agg Z), 48) := ⟨_, rfl, by kernel_rfl⟩
theorem build48 {Z : Array Value} (hZ : Z = (List.replicate 48 (Value.int .i64 0)).toArray) : Tryd.prog.built 173 [] = some Z := by rw [hZ]; kernel_rfl
theorem under48 : Tryd.prog.underlying 173 = some (.array 48 3) := by kernel_rfl
theorem pad_list {l : List Int} {N : Nat} (hl : l.length ≤ N) (z : Value) : (List.replicate N z).take 0 ++ ((ints l).take l.length ++ (List.replicate N z).drop l.length ++ (List.replicate N z).drop (0 + ((ints l).take l.length ++ (List.replicate N z).drop l.length).length)) = ints l ++ List.replicate (N - l.length) z := by
  have e1 : (ints l).take l.length = ints l := List.take_of_length_le (by rw [ints_length]; exact Nat.le_refl _)
  have e2 : (List.replicate N z).drop (0 + (ints l ++ List.replicate (N - l.length) z).length) = [] := List.drop_eq_nil_of_le (by simp; omega)
  rw [e1, List.drop_replicate, e2, List.take_zero, List.nil_append, List.append_nil]
/-- The array of a row. -/
def padV (l : List Int) : Array Value := (ints l ++ List.replicate (48 - l.length) (Value.int .i64 0)).toArray
set_option maxRecDepth 100000 in
set_option maxHeartbeats 2000000 in
theorem pad_any (A : Option Addr) (c : Nat) (l : List Int) (w : World) (h : RdI w A l) (hl : l.length ≤ 48) :
    Calls Tryd.prog 160 #[.slice A l.length c] w fun e w' => e = .returned (.agg (padV l)) ∧ Below w.heap.size w w' := by
  obtain ⟨Z, hZ, hi⟩ := zero48
  obtain ⟨hz, hs⟩ := zero_of_info hi
  have hb := build48 hZ
  have hZs : Z.size = 48 := by rw [hZ]; simp
  have hZ1 : Z.all (·.oneCell') = true := by rw [hZ]; simp [Value.oneCell']
  have hsz : (Tryd.prog.info? 173).map (·.size) = some Z.size := by rw [hs, hZs]
  have hsl : Sl ((w.alloc (.cells Z 173)).alloc (.cells Z 173)) 173 1 (some ⟨w.heap.size + 1, 0, none⟩) 48 48 Z.toList := by
    have := Sl.laid (w.alloc (.cells Z 173)) 173 1 48 Z (by unfold maxLen; omega) (by omega)
    rwa [World.size_alloc] at this
  go_enter Tryd.func160, Tryd.ntmps160
  refine wp_seq (wp_region_lit (wpList_val rfl (xop_alloc rfl hz) (wpList_nil ?_)))
  refine wp_seq (wp_region_lit (wpList_val rfl (v := .agg Z) (w' := w.alloc (.cells Z 173)) ?h1 (wpList_val rfl (xop_alloc rfl hz) (wpList_skip rfl (w' := (w.alloc (.cells Z 173)).alloc (.cells Z 173)) ?h2 (wpList_nil ?_)))))
  case h1 => simp [execOp, run_build _ _ _ _ hb, Result.andThen]
  case h2 => exact xop_store rfl (run_storeAt_new (P := Tryd.prog) (w.alloc (.cells Z 173)) 173 Z Z hsz rfl hZ1)
  simp only [World.size_alloc, Act.put, List.setIfInBounds_toArray, List.set_cons_zero, List.set_cons_succ]
  refine wp_seq (wp_region_lit (wpList_val rfl (v := .slice (some ⟨w.heap.size + 1, 0, none⟩) 48 48) (w' := (w.alloc (.cells Z 173)).alloc (.cells Z 173)) ?h3 (wpList_val rfl (v := .slice A l.length c) (w' := (w.alloc (.cells Z 173)).alloc (.cells Z 173)) rfl ?_)))
  case h3 => exact xop_slice rfl (run_sliceAt_all under48 (by kernel_rfl))
  refine wpList_copy_Slt rfl _ _ _ _ rfl 3 173 Tryd.underlying33 info_int (by omega) rfl hsl rfl (by simp) ((h.rdc.alloc _).alloc _) (ints_one l) ?_
  intro w3 hW
  obtain ⟨W2, hW2⟩ : ∃ W2, W2 = (w.alloc (.cells Z 173)).alloc (.cells Z 173) := ⟨_, rfl⟩
  rw [← hW2] at hW
  have g0 : W2.heap[w.heap.size]? = some (.cells Z 173) := by rw [hW2]; exact box_below (heap_alloc_new w _) (below_alloc _ _)
  have g1 : W2.heap[w.heap.size + 1]? = some (.cells Z 173) := by
    rw [hW2]
    have := heap_alloc_new (w.alloc (.cells Z 173)) (.cells Z 173)
    rwa [World.size_alloc] at this
  have hb2 : Below w.heap.size w W2 := by rw [hW2]; exact below_trans (below_alloc _ _) (below_alloc _ _) (by simp)
  have hmin : min l.length 48 * 1 = l.length := by omega
  rw [hmin] at hW
  obtain ⟨C, g1', hC⟩ := hW.2 _ 0 Z _ rfl g1 (by simp; omega)
  have hCv : C = padV l := by
    apply Array.ext'
    have e : Z.toList = List.replicate 48 (Value.int .i64 0) := by rw [hZ]
    rw [hC, e]
    exact pad_list hl _
  have hCs : C.size = 48 := by rw [hCv, padV]; simp; omega
  have g0' := box_keeps g0 hW.1 (by simp)
  have hb3 := below_keeps hb2 hW.1 hb2.size (fun b hb => by simp at hb; omega)
  have hC1 : C.all (·.oneCell') = true := by
    rw [hCv, padV]; simp only [Array.all_eq_true_iff_forall_mem, List.mem_toArray, List.mem_append]
    intro x hx
    rcases hx with hx | hx
    · exact ints_one l x hx
    · rw [(List.mem_replicate.1 hx).2]; rfl
  have hcz : (Tryd.prog.info? 173).map (·.size) = some C.size := by rw [hs, hCs]
  refine wpList_nil ?_
  refine wp_seq (wp_region_lit (wpList_val rfl (xop_load rfl (v := .agg C) (w' := w3) ?h4) (wpList_skip rfl (w' := w3.setRow w.heap.size C) (xop_store rfl ?h5) (wpList_nil ?_))))
  case h4 =>
    have := run_loadVar_row (P := Tryd.prog) w3 (w.heap.size + 1) _ _ C (0, 0) _ g1' under48 rfl hcz
    simp only [Instr.loadAt, Act.eval, Instr.sureAddr, Sem.run_bind, Result.andThen]
    exact this
  case h5 =>
    have := run_storeVar_row (P := Tryd.prog) w3 w.heap.size _ _ Z C g0' hcz (by rw [hZs, hCs]) hC1
    simp only [Instr.storeAt, Instr.sureAddr, Sem.run_bind, Result.andThen]
    exact this
  refine wp_ret ?_
  have g5 := setRow_heap w3 w.heap.size Z C _ _ g0'
  refine bodyPost_ret (results_cell_row rfl _ _ w.heap.size _ C (0, 0) _ rfl g5 under48 rfl hcz) rfl ?_
  exact ⟨by rw [hCv], below_keeps (S := fun b => b = w.heap.size) hb3 ⟨rfl, rfl, rfl, by simp, fun k _ hk => setRow_other w3 _ k _ (fun e => hk e)⟩ hb3.size (fun b hb => by omega)⟩
end Go.Proofs.YtahnhblodfdfhaaDoor
