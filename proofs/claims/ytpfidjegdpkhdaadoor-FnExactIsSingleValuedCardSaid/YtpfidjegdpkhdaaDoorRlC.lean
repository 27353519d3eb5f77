/-
  COPY INTO A SLICE whose cells lie in a block of another type (an array's).
-/
import Derived.Test.YtpfidjegdpkhdaaDoorOps
namespace Go.Proofs.YtpfidjegdpkhdaaDoor
open Go.RowKit

section
variable {P : Program} {ops : Array Oper} {rest : List Oper} {o : Oper} {a : Act} {Q : Exit → Act → World → Prop} {w : World}
/-- copy(dst, src) -/
theorem wpList_copy_Slt (hgd : o.guard = none) (d s : Operand) (dT sT : TypeId) (ho : o.op = .call { callee := .builtin .copy, args := #[d, s], argTypes := #[dT, sT] })
    (e eb : TypeId) {z : Option Value} {sz bytes : Nat} (ht : P.underlying dT = some (.slice e)) (hinfo : (P.info? e).map (fun i => (i.zero, i.size, i.bytes)) = some (z, sz, bytes)) (hsz : 0 < sz)
    {A : Option Addr} {n cap : Nat} {xs : List Value} (hd : a.eval d = .slice A n cap) (hsl : Sl w eb sz A n cap xs)
    {B : Option Addr} {m c : Nat} {ys : List Value} (hs : a.eval s = .slice B m c) (hy : ys.length = m * sz) (hr : RdC w B ys) (h1 : ∀ u ∈ ys, u.oneCell' = true)
    (h : ∀ w', Wr w w' A (ys.take (min m n * sz) ++ xs.drop (min m n * sz)) → wpList P ops Q rest (a.put o.dst (goInt ((min m n : Nat) : Int))) w') : wpList P ops Q (o :: rest) a w := by
  obtain ⟨i, hi, hzz⟩ := Option.map_eq_some_iff.1 hinfo
  simp only [Prod.mk.injEq] at hzz
  refine wpList_plain hgd fun K hK => ?_
  have hmn : min m n * sz ≤ n * sz := Nat.mul_le_mul_right sz (Nat.min_le_right _ _)
  have hmm : min m n * sz ≤ m * sz := Nat.mul_le_mul_right sz (Nat.min_le_left _ _)
  have hcap := Nat.mul_le_mul_right sz hsl.2.1
  have hxl := hsl.1
  suffices hrun : ∃ w', (Builtin.copy_ #[dT, sT] o.type #[.slice A n cap, .slice B m c]).run P w = .ok (goInt ((min m n : Nat) : Int)) w' ∧ Wr w w' A (ys.take (min m n * sz) ++ xs.drop (min m n * sz)) by
    obtain ⟨w', hrun, hw⟩ := hrun
    unfold Oper.wp
    simp [execOp, ho, resolve, invoke, builtin, hd, hs, hrun, Result.andThen]
    exact hK _ _ (h w' hw)
  have hmin : Nat.min m n = min m n := rfl
  by_cases h0 : min m n = 0
  · refine ⟨w, ?_, by rw [h0]; simpa using Wr.start hsl⟩
    have hf : (Builtin.firstCells sz 0 (.slice B m c)).run P w = .ok #[] w := by
      cases B <;> simp [Builtin.firstCells, loadCells, loadCellsFrom]
    cases A <;> simp [Builtin.copy_, run_underlying ht, Builtin.lenOf, sizeOf, typeInfo, hi, hzz.2.1, hmin, h0, hf, storeCells]
  · have hb : ∃ ad, B = some ad ∧ ∀ j u, ys[j]? = some u → w.cell? (ad.add j) = some u := by
      have hp := Nat.mul_pos (show 0 < m by omega) hsz
      obtain ⟨ad, hB, _⟩ := hr 0 ys[0] (List.getElem?_eq_getElem (by omega))
      refine ⟨ad, hB, fun j u hj => ?_⟩
      obtain ⟨ad', hB', hc⟩ := hr j u hj
      rw [hB] at hB'; obtain rfl := Option.some.inj hB'; exact hc
    obtain ⟨ad, rfl, hnews⟩ := hb
    rcases hsl.2.2.2 with ⟨_, hcap0⟩ | ⟨g, off, cur, rfl, hg, hc, htake⟩
    · have := hsl.2.1; omega
    · have hyl : (ys.take (min m n * sz)).length = min m n * sz := by simp; omega
      have hf := run_firstCells_some (P := P) w sz (min m n) ad m c (ys.take (min m n * sz)) hyl (fun j u hj => hnews j u (by rw [List.getElem?_take] at hj; split at hj; exact hj; cases hj))
      have hst := run_storeCells_at P g off eb (ys.take (min m n * sz)) 0 cur w hg (by rw [hyl]; omega) (fun u hu => h1 u (List.mem_of_mem_take hu))
      simp only [Nat.add_zero, hyl] at hst
      refine ⟨w.setRow g (cur.toList.take off ++ ys.take (min m n * sz) ++ cur.toList.drop (off + min m n * sz)).toArray, ?_, ?_, ?_⟩
      · simp [Builtin.copy_, run_underlying ht, Builtin.lenOf, sizeOf, typeInfo, hi, hzz.2.1, hmin, hf, hst]
      · exact ⟨rfl, rfl, rfl, by simp, fun k _ hk => setRow_other w g k _ (fun e => hk (by simp [e]))⟩
      · intro g' off' cur' e' hA hg' hc'
        injection hA with hA; injection hA with e1 e2; subst e1; subst e2
        rw [hg] at hg'; injection hg' with hg'; injection hg' with e1 e2; subst e1; subst e2
        refine ⟨_, setRow_heap w g cur _ eb _ hg, ?_⟩
        have hcur : cur.toList.drop off = xs ++ cur.toList.drop (off + xs.length) := by
          rw [hxl]; conv => rhs; rw [← htake]
          rw [← List.drop_drop, List.take_append_drop]
        have hlen : (ys.take (min m n * sz) ++ xs.drop (min m n * sz)).length = xs.length := by simp; omega
        rw [hlen]
        have : cur.toList.drop (off + min m n * sz) = xs.drop (min m n * sz) ++ cur.toList.drop (off + xs.length) := by
          rw [← List.drop_drop, hcur, List.drop_append_of_le_length (by omega)]
        simp [this, List.append_assoc]
end
end Go.Proofs.YtpfidjegdpkhdaaDoor
