/-
  What the texts above it need, part 3.
-/
import Derived.Test.YtjompikdkhhlgaaGreatDoorKWireValues2
import Derived.Test.YtjompikdkhhlgaaGreatDoorRows
import Derived.ProofKit
import Derived.OpenShut
import Derived.Deep.DeepHandedRow
import Derived.Deep.Slices
import Derived.Deep.Fields
import Derived.Lib.SmallJoins
import Derived.Deep.Cut
import Derived.Deep.QuietTactic
import Derived.BigQuiet
namespace Go.Proofs.YtjompikdkhhlgaaGreatDoor
open Go.RowKit
section
variable {P : Program} {ops : Array Oper} {Q : Exit → Act → World → Prop} {md : Region.Mode} {S : World → Prop}
def putZ (a : Act) (Z : List (Nat × Tmp)) (xs : Tmp → Value) : Act := Z.foldl (fun a z => a.put (some z.2) (xs z.2)) a
def updZ (xs : Tmp → Value) (d : Tmp) (v : Value) : Tmp → Value := fun t => if t = d then v else xs t
theorem put_put (a : Act) (d : Tmp) (x v : Value) : (a.put (some d) x).put (some d) v = a.put (some d) v := by
 simp [Act.put, Array.setIfInBounds_setIfInBounds]
theorem putZ_put (Z : List (Nat × Tmp)) (xs : Tmp → Value) (d : Tmp) (v : Value) : ∀ (a : Act), (∀ z ∈ Z, z.2 ≠ d) → (putZ a Z xs).put (some d) v = putZ (a.put (some d) v) Z xs := by
 induction Z with
 | nil => intro a _; rfl
 | cons z r ih =>
   intro a h
   show (putZ (a.put _ _) r xs).put _ _ = putZ ((a.put _ _).put _ _) r xs
   rw [ih _ (fun y hy => h y (List.mem_cons_of_mem _ hy)), Act.put_comm a _ _ (fun e he => by obtain rfl := Option.some.inj he; intro h2; exact h z (by simp) (Option.some.inj h2).symm)]
theorem putZ_congr (Z : List (Nat × Tmp)) {xs ys : Tmp → Value} : ∀ (a : Act), (∀ z ∈ Z, xs z.2 = ys z.2) → putZ a Z xs = putZ a Z ys := by
 induction Z with
 | nil => intro a _; rfl
 | cons z r ih =>
   intro a h
   show putZ (a.put _ _) r xs = putZ (a.put _ _) r ys
   rw [h z (by simp)]
   exact ih _ fun y hy => h y (List.mem_cons_of_mem _ hy)
theorem putZ_upd (Z : List (Nat × Tmp)) (xs : Tmp → Value) (d : Tmp) (v : Value) : ∀ (a : Act), (Z.map (·.2)).Nodup → d ∈ Z.map (·.2) → putZ a Z (updZ xs d v) = (putZ a Z xs).put (some d) v := by
 induction Z with
 | nil => intro a _ h; cases h
 | cons z r ih =>
   intro a hn h
   simp only [List.map_cons, List.nodup_cons, List.mem_map, not_exists, not_and] at hn
   show putZ (a.put _ _) r _ = (putZ (a.put _ _) r xs).put _ _
   by_cases e : z.2 = d
   · have hne : ∀ y ∈ r, y.2 ≠ d := fun y hy h2 => hn.1 y hy (h2.trans e.symm)
     rw [putZ_put r xs d v _ hne, putZ_congr r _ (ys := xs) (fun y hy => by unfold updZ; rw [if_neg (hne y hy)]), e]
     have : updZ xs d v d = v := by unfold updZ; rw [if_pos rfl]
     rw [this, put_put]
   · have : updZ xs d v z.2 = xs z.2 := by unfold updZ; rw [if_neg e]
     rw [this]
     refine ih _ hn.2 ?_
     rcases List.mem_cons.1 h with h | h
     · exact absurd h.symm e
     · exact h
def chkZ (md : Region.Mode) (ops : Array Oper) (L0 : Array Bool) (Z : List (Nat × Tmp)) (deps : Nat → List Tmp) : Bool :=
 ((List.range ops.size).all fun i => L0.getD i true || Z.any fun z => z.1 == i) &&
 ((List.range ops.size).all fun i => ((ops[i]?).map fun o => o.after.all fun e => decide (e.on < i)).getD true) &&
 (Z.all fun z => decide (z.1 < L0.size) && ((ops[z.1]?).map fun o => (o.dst == some z.2) && o.guard.isNone && (deps z.1).all fun d => Z.any fun y => y.2 == d && o.after.any fun e => Region.binds md e && e.on == y.1).getD false) &&
 decide ((Z.map (·.1)).Nodup) && decide ((Z.map (·.2)).Nodup)
theorem wp_callZ {o : Oper} {a : Act} {w : World} {f : FuncId} {args : Array Value} {K : Act → World → Prop} (hr : (execOp a.eval o).run P w = .ok (.enter f args) w) (h : Calls P f args w fun e w' => ∃ v, e = .returned v ∧ K (a.put o.dst v) w') : o.wp P a w K Q := by
 unfold Oper.wp
 rw [hr]
 exact Calls.mono h fun e w' ⟨v, he, hK⟩ => by subst he; exact hK
theorem wpAnyH_rel {Z : List (Nat × Tmp)} {L0 : Array Bool} {deps : Nat → List Tmp} {a0 : Act} {w0 : World} (R : Tmp → Value → World → Prop) (hz : chkZ md ops L0 Z deps = true)
  (hstab : ∀ d v w w', R d v w → Below w.heap.size w w' → R d v w') (hS : ∀ w', Below w0.heap.size w0 w' → S w')
  (hstep : ∀ z ∈ Z, ∀ o, ops[z.1]? = some o → ∀ xs w, Below w0.heap.size w0 w → (∀ d ∈ deps z.1, R d (xs d) w) → ∀ K, (∀ v w', Below w.heap.size w w' → R z.2 v w' → K ((putZ a0 Z xs).put (some z.2) v) w') → o.wp P (putZ a0 Z xs) w K Q)
  (hend : ∀ xs w, Below w0.heap.size w0 w → (∀ z ∈ Z, R z.2 (xs z.2) w) → Q .normal (putZ a0 Z xs) w) :
  ∀ (fuel : Nat) (L : Array Bool) (xs : Tmp → Value) (w : World), L.size = L0.size → (∀ i, (∀ z ∈ Z, z.1 ≠ i) → L.getD i true = L0.getD i true) → (Z.filter fun z => !L.getD z.1 true).length ≤ fuel → Below w0.heap.size w0 w →
    (∀ z ∈ Z, L.getD z.1 true = true → R z.2 (xs z.2) w) → wpAnyH P md ops Q S fuel L (putZ a0 Z xs) w := by
 unfold chkZ at hz
 simp only [Bool.and_eq_true, List.all_eq_true, List.mem_range, Bool.or_eq_true, List.any_eq_true, beq_iff_eq, decide_eq_true_eq] at hz
 obtain ⟨⟨⟨⟨hcov, hback⟩, hops⟩, hnd1⟩, hnd2⟩ := hz
 have hdone : ∀ (L : Array Bool), (∀ i, (∀ z ∈ Z, z.1 ≠ i) → L.getD i true = L0.getD i true) → (∀ z ∈ Z, L.getD z.1 true = true) → Region.ready md ops L = [] := by
  intro L hL hall
  refine List.eq_nil_iff_forall_not_mem.2 fun j hj => ?_
  obtain ⟨hjun, oj, hoj, _⟩ := mem_ready.1 hj
  have hjs : j < ops.size := (Array.getElem?_eq_some_iff.1 hoj).1
  rcases hcov j hjs with h | ⟨z, hz, rfl⟩
  · by_cases hm : ∀ z ∈ Z, z.1 ≠ j
    · rw [hL j hm, h] at hjun; cases hjun
    · have ⟨z, hz, e⟩ : ∃ z ∈ Z, z.1 = j := Classical.byContradiction fun hno => hm fun z hz e => hno ⟨z, hz, e⟩
      rw [← e, hall z hz] at hjun; cases hjun
  · rw [hall z hz] at hjun; cases hjun
 have hlive : ∀ (L : Array Bool), L.size = L0.size → (∀ i, (∀ z ∈ Z, z.1 ≠ i) → L.getD i true = L0.getD i true) → Region.ready md ops L = [] → ∀ i, i < ops.size → L.getD i true = true := by
  intro L hsz hL hr i
  induction i using Nat.strongRecOn with
  | ind i ih =>
    intro hi
    cases hx : L.getD i true with
    | true => rfl
    | false =>
      exfalso
      have hmem : i ∈ Region.ready md ops L := by
       refine mem_ready.2 ⟨hx, ops[i], Array.getElem?_eq_getElem hi, fun e he _ => ?_⟩
       have hb := hback i hi
       rw [Array.getElem?_eq_getElem hi] at hb
       simp only [Option.map_some, Option.getD_some, Array.all_eq_true_iff_forall_mem, decide_eq_true_eq] at hb
       have hlt := hb e he
       have h2 := ih e.on hlt (by omega)
       rcases Nat.lt_or_ge e.on L.size with h3 | h3
       · simp only [Array.getD_eq_getD_getElem?, Array.getElem?_eq_getElem h3, Option.getD_some] at h2 ⊢; exact h2
       · have hil : i < L.size := by
          rcases Nat.lt_or_ge i L.size with h4 | h4
          · exact h4
          · simp [Array.getElem?_eq_none h4] at hx
         omega
      rw [hr] at hmem; cases hmem
 intro fuel
 induction fuel with
 | zero =>
   intro L xs w hsz hL hc hb hR
   have hall : ∀ z ∈ Z, L.getD z.1 true = true := fun z hz => by
    cases hx : L.getD z.1 true with
    | true => rfl
    | false =>
      exfalso
      have : z ∈ Z.filter fun z => !L.getD z.1 true := List.mem_filter.2 ⟨hz, by rw [hx]; rfl⟩
      have := List.length_pos_of_mem this
      omega
   exact ⟨hdone L hL hall, hend xs w hb fun z hz => hR z hz (hall z hz)⟩
 | succ fuel ih =>
   intro L xs w hsz hL hc hb hR
   refine ⟨fun hr => ?_, fun j hj => ?_⟩
   · have hall := hlive L hsz hL hr
     refine hend xs w hb fun z hz => hR z hz ?_
     obtain ⟨hzl, ho⟩ := hops z hz
     cases hoz : ops[z.1]? with
     | none => rw [hoz] at ho; cases ho
     | some o => exact hall z.1 (Array.getElem?_eq_some_iff.1 hoz).1
   · obtain ⟨hjun, oj, hoj, hdeps⟩ := mem_ready.1 hj
     have hjs : j < ops.size := (Array.getElem?_eq_some_iff.1 hoj).1
     have ⟨z, hz, hzj⟩ : ∃ z ∈ Z, z.1 = j := by
      rcases hcov j hjs with h | h
      · refine Classical.byContradiction fun hno => ?_
        rw [hL j fun z hz e => hno ⟨z, hz, e⟩, h] at hjun; cases hjun
      · exact h
     subst hzj
     obtain ⟨hzl, ho⟩ := hops z hz
     rw [hoj] at ho
     simp only [Option.map_some, Option.getD_some, Bool.and_eq_true, beq_iff_eq, Option.isNone_iff_eq_none, List.all_eq_true, List.any_eq_true] at ho
     obtain ⟨⟨hdst, hg⟩, hdp⟩ := ho
     have hw : Region.wanted oj (yielded ops (putZ a0 Z xs).tmps) = true := by unfold Region.wanted; rw [hg]
     unfold wpOp
     simp only [hoj, hw, if_true]
     refine .inl ?_
     refine hstep z hz oj hoj xs w hb (fun d hd => ?_) _ fun v w' hb' hRv => ?_
     · obtain ⟨y, hy, rfl, he⟩ := hdp d hd
       obtain ⟨i, hi, he⟩ := Array.any_eq_true.1 he
       simp only [Bool.and_eq_true, beq_iff_eq] at he
       obtain ⟨hbi, hon⟩ := he
       obtain ⟨e, hee⟩ : ∃ e, e = oj.after[i] := ⟨_, rfl⟩
       have he : e ∈ oj.after := by rw [hee]; exact Array.getElem_mem hi
       rw [← hee] at hbi hon
       have h2 := hdeps e he hbi
       rw [hon] at h2
       refine hR y hy ?_
       rcases Nat.lt_or_ge y.1 L.size with h3 | h3
       · simp only [Array.getD_eq_getD_getElem?, Array.getElem?_eq_getElem h3, Option.getD_some] at h2 ⊢; exact h2
       · simp [Array.getElem?_eq_none h3] at h2
     · have hb2 := below_trans hb hb' hb.size
       refine ⟨hS _ hb2, ?_⟩
       rw [← putZ_upd Z xs z.2 v a0 hnd2 (List.mem_map.2 ⟨z, hz, rfl⟩)]
       have hset : ∀ i, (L.setIfInBounds z.1 true).getD i true = if i = z.1 then true else L.getD i true := fun i => by
        simp only [Array.getD_eq_getD_getElem?, Array.getElem?_setIfInBounds]
        by_cases e : z.1 = i
        · subst e
          simp [hsz, hzl]
        · rw [if_neg e, if_neg (fun h => e h.symm)]
       refine ih _ _ w' (by simp [hsz]) (fun i hi => ?_) ?_ hb2 fun y hy hl => ?_
       · rw [hset, if_neg (fun e => hi z hz e.symm)]; exact hL i hi
       · have hlt : (Z.filter fun y => !(L.setIfInBounds z.1 true).getD y.1 true).length < (Z.filter fun y => !L.getD y.1 true).length := by
          have hsub : (Z.filter fun y => !(L.setIfInBounds z.1 true).getD y.1 true) = (Z.filter fun y => !L.getD y.1 true).filter fun y => !decide (y.1 = z.1) := by
           rw [List.filter_filter]
           refine List.filter_congr fun y _ => ?_
           rw [hset]
           by_cases e : y.1 = z.1 <;> simp [e]
          rw [hsub]
          refine List.length_filter_lt_length_iff_exists.2 ⟨z, List.mem_filter.2 ⟨hz, by rw [hjun]; rfl⟩, by simp⟩
         omega
       · rw [hset] at hl
         unfold updZ
         by_cases e : y.2 = z.2
         · rw [if_pos e, e]; exact hRv
         · rw [if_neg e]
           have hne : y.1 ≠ z.1 := fun h => by
            have : y = z := by
             obtain ⟨i, hi, rfl⟩ := List.getElem_of_mem hy
             obtain ⟨k, hk, rfl⟩ := List.getElem_of_mem hz
             have hpw := List.pairwise_iff_getElem.1 hnd1
             rcases Nat.lt_trichotomy i k with h1 | h1 | h1
             · exact absurd (by rw [List.getElem_map, List.getElem_map]; exact h) (hpw i k (by simpa using hi) (by simpa using hk) h1)
             · subst h1; rfl
             · exact absurd (by rw [List.getElem_map, List.getElem_map]; exact h.symm) (hpw k i (by simpa using hk) (by simpa using hi) h1)
            exact e (by rw [this])
           rw [if_neg hne] at hl
           exact hstab _ _ _ _ (hR y hy hl) hb'
theorem putZ_self (Z : List (Nat × Tmp)) : ∀ (a : Act), putZ a Z (fun t => a.tmps.getD t undef) = a := by
 have h1 : ∀ (a : Act) (d : Tmp), a.put (some d) (a.tmps.getD d undef) = a := fun a d => by
  unfold Act.put
  have : a.tmps.setIfInBounds d (a.tmps.getD d undef) = a.tmps := by
   refine Array.ext_getElem? fun i => ?_
   rw [Array.getElem?_setIfInBounds]
   by_cases e : d = i
   · subst e
     rw [if_pos rfl]
     by_cases h : d < a.tmps.size
     · rw [if_pos h, Array.getElem?_eq_getElem h, Array.getD_eq_getD_getElem?, Array.getElem?_eq_getElem h]; rfl
     · rw [if_neg h, Array.getElem?_eq_none (Nat.le_of_not_lt h)]
   · rw [if_neg e]
  simp only [this]
 induction Z with
 | nil => intro a; rfl
 | cons z r ih =>
   intro a
   show putZ (a.put (some z.2) (a.tmps.getD z.2 undef)) r (fun t => a.tmps.getD t undef) = a
   rw [h1]; exact ih a
def Stb (p : Value → World → Prop) : Prop := ∀ v w w', p v w → Below w.heap.size w w' → p v w'
theorem Stb.ite {c : Prop} [Decidable c] {p q : Value → World → Prop} (hp : Stb p) (hq : Stb q) : Stb fun v w => if c then p v w else q v w := by
 intro v w w' h hb
 by_cases e : c
 · simp only [if_pos e] at h ⊢; exact hp v w w' h hb
 · simp only [if_neg e] at h ⊢; exact hq v w w' h hb
theorem Stb.true : Stb fun _ _ => True := fun _ _ _ h _ => h
def stepsZ (P : Program) (ops : Array Oper) (Q : Exit → Act → World → Prop) (a0 : Act) (w0 : World) (Z : List (Nat × Tmp)) (deps : Nat → List Tmp) (R : Tmp → Value → World → Prop) : List (Nat × Tmp) → Prop
 | [] => True
 | z :: r => (∃ o, ops[z.1]? = some o ∧ ∀ xs w, Below w0.heap.size w0 w → (∀ d ∈ deps z.1, R d (xs d) w) → ∀ K : Act → World → Prop, (∀ v w', Below w.heap.size w w' → R z.2 v w' → K ((putZ a0 Z xs).put (some z.2) v) w') → o.wp P (putZ a0 Z xs) w K Q) ∧ stepsZ P ops Q a0 w0 Z deps R r
theorem stepsZ_get {a0 : Act} {w0 : World} {Z : List (Nat × Tmp)} {deps : Nat → List Tmp} {R : Tmp → Value → World → Prop} : ∀ {Y : List (Nat × Tmp)}, stepsZ P ops Q a0 w0 Z deps R Y → ∀ z ∈ Y, ∀ o, ops[z.1]? = some o → ∀ xs w, Below w0.heap.size w0 w → (∀ d ∈ deps z.1, R d (xs d) w) → ∀ K : Act → World → Prop, (∀ v w', Below w.heap.size w w' → R z.2 v w' → K ((putZ a0 Z xs).put (some z.2) v) w') → o.wp P (putZ a0 Z xs) w K Q
 | y :: r, h, z, hz, o, ho => by
   rcases List.mem_cons.1 hz with rfl | hz
   · obtain ⟨o', ho', hh⟩ := h.1
     rw [ho] at ho'
     obtain rfl := Option.some.inj ho'
     exact hh
   · exact stepsZ_get h.2 z hz o ho
theorem relZ (Z : List (Nat × Tmp)) (deps : Nat → List Tmp) (R : Tmp → Value → World → Prop) {fuel : Nat} {L : Array Bool} {a : Act} {w : World} (hz : (chkZ md ops L Z deps && decide (Z.length ≤ fuel) && Z.all fun z => !L.getD z.1 true) = true)
  (hstab : ∀ d, Stb (R d)) (hS : ∀ w', Below w.heap.size w w' → S w') (hstep : stepsZ P ops Q a w Z deps R Z)
  (hend : ∀ xs w', Below w.heap.size w w' → (∀ z ∈ Z, R z.2 (xs z.2) w') → Q .normal (putZ a Z xs) w') : wpAnyH P md ops Q S fuel L a w := by
 simp only [Bool.and_eq_true, decide_eq_true_eq, List.all_eq_true, Bool.not_eq_true'] at hz
 obtain ⟨⟨h1, h2⟩, h3⟩ := hz
 have h := wpAnyH_rel (P := P) (Q := Q) (S := S) (a0 := a) (w0 := w) R h1 (fun d v w w' => hstab d v w w') hS (fun z hz o ho xs w hb hd K hK => stepsZ_get hstep z hz o ho xs w hb hd K hK) hend fuel L (fun t => a.tmps.getD t undef) w rfl (fun _ _ => rfl) (Nat.le_trans (List.length_filter_le _ _) h2) (Below.refl _ _) (fun z hz hl => by rw [h3 z hz] at hl; cases hl)
 rw [putZ_self] at h
 exact h
end
set_option maxHeartbeats 400000 in
theorem fdAdd_any (p a b : Int) (w : World) (h0 : 0 < p) (ha : 0 ≤ a) (ha' : a ≤ 1000000000) (hb : 0 ≤ b) (hb' : b ≤ 1000000000) :
  Calls Tryz.prog 93 #[.int .i64 p, .int .i64 a, .int .i64 b] w fun e w' => e = .returned (.int .i64 ((a + b) % p)) ∧ w = w' := by
 have hz : (p == 0) = false := by rw [beq_eq_false_iff_ne]; omega
 go_enter Tryz.func93, Tryz.ntmps93
 go_wp2_with (fail)
 go_ret
 exact ⟨rfl, rfl⟩
def sprTo (p : Int) (n : Nat) (at_ v : List Int) : Nat → List Int
 | 0 => List.replicate n 0
 | k + 1 => (sprTo p n at_ v k).set (at_.getD k 0).toNat (((sprTo p n at_ v k).getD (at_.getD k 0).toNat 0 + v.getD k 0) % p)
def sprV (p : Int) (n : Nat) (at_ v : List Int) : List Int := sprTo p n at_ v at_.length
@[simp] theorem sprTo_length (p : Int) (n : Nat) (at_ v : List Int) : ∀ k, (sprTo p n at_ v k).length = n
  | 0 => by simp [sprTo]
  | k + 1 => by simp [sprTo, sprTo_length p n at_ v k]
theorem sprTo_res {p : Int} (hp : 0 < p) (n : Nat) (at_ v : List Int) : ∀ k, Res p (sprTo p n at_ v k)
 | 0 => fun y hy => by
   obtain ⟨_, rfl⟩ := List.mem_replicate.1 hy
   omega
 | k + 1 => fun y hy => by
   rcases List.mem_or_eq_of_mem_set hy with h | rfl
   · exact sprTo_res hp n at_ v k y h
   · exact ⟨Int.emod_nonneg _ (by omega), Int.emod_lt_of_pos _ hp⟩
def efK (e : Eg) : Int := if 9 ≤ e.1 then e.1 - 6 else e.1
def efI (e : Eg) : List Int := if 9 ≤ e.1 then e.2.2.2 else e.2.2.1
def efO (e : Eg) : List Int := if 9 ≤ e.1 then e.2.2.1 else e.2.2.2
def dnRowsM (p : Int) (n : Nat) (e : Eg) : List (List Int) :=
 if efK e = 3 then [sprV p n [(efO e).getD 0 0, (efI e).getD 0 0] [1, p - 1], sprV p n [(efO e).getD 1 0, (efI e).getD 0 0] [1, p - 1]]
 else if efK e = 5 then [sprV p n [(efO e).getD 0 0, (efI e).getD 0 0, (efI e).getD 1 0] [1, p - 1, p - 1]]
 else if efK e = 6 then [sprV p n [(efO e).getD 0 0] [1]]
 else if efK e = 7 then [sprV p n [(efO e).getD 0 0, (efI e).getD 0 0] [1, -e.2.1 % p]]
 else []
def noDl (k : Int) : Bool := decide (k ≠ 8) && decide (k ≠ 14)
theorem dnTimeless_any (k : Int) (w : World) : Calls Tryz.prog 27 #[.int .i64 k] w fun e w' => e = .returned (.bool (noDl k)) ∧ w' = w := by
 unfold noDl
 by_cases h8 : k = 8
 · subst h8
   go_enter Tryz.func27, Tryz.ntmps27
   go_wp2_with (fail)
   go_ret
   exact ⟨rfl, rfl⟩
 · have hb8 : (k != 8) = true := by rw [bne_iff_ne]; exact h8
   rw [decide_eq_true h8]
   by_cases h14 : k = 14
   · subst h14
     go_enter Tryz.func27, Tryz.ntmps27
     go_wp2_with (fail)
     go_ret
     exact ⟨rfl, rfl⟩
   · have hb14 : (k != 14) = true := by rw [bne_iff_ne]; exact h14
     rw [decide_eq_true h14]
     clear h8 h14
     go_enter Tryz.func27, Tryz.ntmps27
     go_wp2_with (fail)
     go_ret
     exact ⟨rfl, rfl⟩
set_option maxRecDepth 100000 in
set_option maxHeartbeats 2000000 in
theorem dnRow_any (p : Int) (n q : Nat) (A B : Option Addr) (ca cb : Nat) (at_ v : List Int) (w : World) (hA : RdI w A at_) (hB : RdI w B v) (hal : at_.length = q) (hvl : v.length = q) (hat : ∀ x, x ∈ at_ → 0 ≤ x ∧ x < (n : Int)) (hv : Res p v) (h0 : 0 < p) (h97 : p ≤ 97) (hn : n ≤ 1048576) (hq : q ≤ 1048576) :
  Calls Tryz.prog 73 #[.int .i64 p, .int .i64 (n : Int), .slice A q ca, .slice B q cb] w (RetI w (sprV p n at_ v)) := by
 have hsl := sprTo_length p n at_ v
 have hsr := sprTo_res h0 n at_ v
 have hend : sprV p n at_ v = sprTo p n at_ v q := by unfold sprV; rw [hal]
 rw [hend]
 clear hend; have hA_h := lH hA; have hB_h := lH hB; have hal_h := lH hal; have hvl_h := lH hvl; have hat_h := lH hat; have hv_h := lH hv; have hsl_h := lH hsl; have hsr_h := lH hsr; clear hA hB hal hvl hat hv hsl hsr
 go_enter Tryz.func73, Tryz.ntmps73
 go_wp2_with (at_make; refine wpList_make_Sl _ rfl _ _ _ rfl 3 Tryz.underlying23 info_int n n rfl rfl rfl rfl (Nat.le_refl _) (by omega) (by unfold maxLen; omega) ?_; intro G w1 hs1 hG hb1)
 have hst : IS w1 (some G) n (sprTo p n at_ v 0) := by unfold IS; rw [hsl_h.out]; show Sl _ _ _ _ _ _ (ints (List.replicate n 0)); rw [← madeZeros]; simpa using hs1
 clear hs1
 have hfG : Fresh w.heap.size (some G) := fun b hb => by
  obtain rfl : b = G.block := by simpa using hb
  exact hG
 have hst_h := lH hst; have hG_h := lH hG; have hb1_h := lH hb1; have hfG_h := lH hfG; clear hst hG hb1 hfG
 go_loopw [16] (fun i wr => ∃ k : Nat, k ≤ q ∧ i = .int .i64 k ∧ IS wr (some G) n (sprTo p n at_ v k) ∧ Below w.heap.size w wr) (fun i _ => q - (intOf i).toNat)
 case atStart => exact ⟨0, Nat.zero_le _, rfl, hst_h.out, hb1_h.out⟩
 case round =>
  clear hst_h hb1_h
  obtain ⟨k, hk, rfl, his, hbr⟩ := hrel
  by_cases hlt : k < q
  · obtain ⟨ad, x, rfl, hx, hcx⟩ := (hA_h.out.below hbr).at_ (j := k) (by rw [hal_h.out]; exact hlt)
    obtain ⟨bd, y, rfl, hy, hcy⟩ := (hB_h.out.below hbr).at_ (j := k) (by rw [hvl_h.out]; exact hlt)
    obtain ⟨hx0, hxn⟩ := hat_h.out x (List.mem_of_getElem? hx)
    obtain ⟨j, rfl⟩ : ∃ j : Nat, x = (j : Int) := ⟨x.toNat, by omega⟩
    have hjn : j < n := by omega
    have hyb := hv_h.out y (List.mem_of_getElem? hy)
    obtain ⟨V, hV⟩ : ∃ V, V = sprTo p n at_ v k := ⟨_, rfl⟩
    have hVl : V.length = n := by rw [hV]; exact hsl_h.out k
    have hVr : Res p V := by rw [hV]; exact hsr_h.out k
    rw [← hV] at his
    obtain ⟨gd, z, hGg, hz, hblt, hcz, hf⟩ := his.at_ (j := j) (by rw [hVl]; exact hjn)
    obtain rfl := Option.some.inj hGg
    have hzb := hVr z (List.mem_of_getElem? hz)
    have hstep : sprTo p n at_ v (k + 1) = V.set j ((z + y) % p) := by
     have e1 : at_.getD k 0 = (j : Int) := by rw [List.getD_eq_getElem?_getD, hx]; rfl
     have e2 : v.getD k 0 = y := by rw [List.getD_eq_getElem?_getD, hy]; rfl
     have e3 : V.getD j 0 = z := by rw [List.getD_eq_getElem?_getD, hz]; rfl
     rw [sprTo, ← hV, e1, e2, Int.toNat_natCast, e3]
    have hset := (his.below (below_drewN (Below.refl wr.heap.size wr) 1)).set rfl ((z + y) % p) (j := j) (by rw [hVl]; exact hjn)
    rw [← hstep] at hset
    have hset : IS (wr.drew.setCell (G.add j) (.int .i64 ((z + y) % p))) (some G) n (sprTo p n at_ v (k + 1)) := hset
    have hbd := below_trans hbr (below_drewN (Below.refl wr.heap.size wr) 1) hbr.size
    have hbs : Below w.heap.size w (wr.drew.setCell (G.add j) (.int .i64 ((z + y) % p))) := hbd.setCell (p := G.add j) (by rw [block_of_add]; exact hG_h.out) (.int .i64 ((z + y) % p))
    have C1 := lH (stillC2 (fdAdd_any p z y wr.drew h0 hzb.1 (by omega) hyb.1 (by omega)))
    have hkI : (k : Int) < (q : Int) := by omega
    have hjI : (j : Int) < (n : Int) := by omega
    have hfz := hf j
    clear his hV hVl hVr hz hx hy hstep hbr hbd hf hblt hx0 hxn hzb hyb; have hset_h := lH hset; have hbs_h := lH hbs; clear hset hbs
    go_wp2_with (fail)
    refine wp_region_still_tail 13 (by kernel_rfl) (by kernel_rfl) ?_
    simp only [List.take_succ_cons, List.take_zero, List.drop_succ_cons, List.drop_zero]
    change wpStill _ _ wr.drew (fun a' => wpList _ _ _ _ a' wr.drew) _ _
    have d1 : wr.drew.cell? (G.add j) = some (.int .i64 z) := hcz
    have d2 : wr.drew.cell? (bd.add k) = some (.int .i64 y) := hcy
    clear hcz hcy
    repeat still_step
    still_call C1.out
    repeat still_step
    refine wpStill_nil ?_
    go_wp2_with (fail)
    go_roundw
    case rel => exact ⟨k + 1, by omega, by go_num, hset_h.out, hbs_h.out⟩
    case measure => simp [intOf]; omega
  · obtain rfl : q = k := by omega
    have his_h := lH his; have hbr_h := lH hbr; clear his hbr
    go_wp2_with (fail)
    go_ret
    exact ⟨some G, n, by rw [hsl_h.out]; rfl, his_h.out, hfG_h.out, hbr_h.out⟩
theorem len_one {l : List Int} (h : l.length = 1) : ∃ x, l = [x] := match l, h with | [x], _ => ⟨x, rfl⟩
theorem len_two {l : List Int} (h : l.length = 2) : ∃ x y, l = [x, y] := match l, h with | [x, y], _ => ⟨x, y, rfl⟩
theorem cell_mvd {w0 w1 : World} {P : Addr} {u : Value} (hb : Below w0.heap.size w0 w1) (h : w0.cell? P = some u) : w1.cell? P = some u := (hb.cell (World.block_lt_of_cell? _ _ h)).trans h
def PIn (n : Nat) (l : List Int) (v : Value) (w : World) : Prop := ∃ A c, v = .slice A n c ∧ RdI w A l
def PRs (n : Nat) (L : List (List Int)) (v : Value) (w : World) : Prop := ∃ A c hs, v = .slice A n c ∧ hs.length = n ∧ hs.map (fun h : Hd => h.2.2) = L ∧ RdR w A hs ∧ ∀ x, x ∈ hs → IS w x.1 x.2.1 x.2.2
def PIs (n : Nat) (l : List Int) (v : Value) (w : World) : Prop := ∃ A c, v = .slice A n c ∧ IS w A c l
def PV (x : Value) (v : Value) (_w : World) : Prop := v = x
theorem PIn.stb (n : Nat) (l : List Int) : Stb (PIn n l) := fun _ _ _ h hb => by obtain ⟨A, c, h1, h2⟩ := h; exact ⟨A, c, h1, h2.below hb⟩
theorem PRs.stb (n : Nat) (L : List (List Int)) : Stb (PRs n L) := fun _ _ _ h hb => by obtain ⟨A, c, hs, h1, h2, h3, h4, h5⟩ := h; exact ⟨A, c, hs, h1, h2, h3, h4.below hb, fun x hx => (h5 x hx).below hb⟩
theorem PIs.stb (n : Nat) (l : List Int) : Stb (PIs n l) := fun _ _ _ h hb => by obtain ⟨A, c, h1, h2⟩ := h; exact ⟨A, c, h1, h2.below hb⟩
theorem PV.stb (x : Value) : Stb (PV x) := fun _ _ _ h _ => h
theorem rd_laidC (w : World) (l : List Int) (hl : l.length ≤ maxLen) : RdI (w.alloc (.cells (ints l).toArray 3)) (some ⟨w.heap.size, 0, none⟩) l := by
 have h := Sl.laid w 3 1 l.length (ints l).toArray hl (by simp)
 intro j x hj
 obtain ⟨ad, hA, _, hc, _⟩ := h.cell (j := j) (u := .int .i64 x) (by simpa using ints_get hj)
 exact ⟨ad, hA, hc⟩
theorem PRs.laid (w : World) (hs : List Hd) (h : ∀ x, x ∈ hs → IS w x.1 x.2.1 x.2.2) (hl : hs.length ≤ maxLen) : PRs hs.length (hs.map fun h : Hd => h.2.2) (.slice (some ⟨w.heap.size, 0, none⟩) hs.length hs.length) (w.alloc (.cells (hs.map Hd.val).toArray 23)) := by
 have h1 : RdR (w.alloc (.cells (hs.map Hd.val).toArray 23)) (some ⟨w.heap.size, 0, none⟩) hs := by
  have hsl := Sl.laid w 23 1 hs.length (hs.map Hd.val).toArray hl (by simp)
  refine ⟨fun i x hi => ?_, fun x hx => (h x hx).rd.below (below_alloc _ _)⟩
  obtain ⟨ad, hA, _, hc, _⟩ := hsl.cell (j := i) (u := x.val) (by simp [hi])
  exact ⟨ad, hA, by simpa using hc⟩
 exact ⟨_, _, hs, rfl, rfl, rfl, h1, fun x hx => (h x hx).below (below_alloc _ _)⟩
def RetRc (w : World) (L : List (List Int)) (e : Ending) (w' : World) : Prop := ∃ v, e = .returned v ∧ PRs L.length L v w' ∧ Below w.heap.size w w'
set_option maxRecDepth 100000 in
set_option maxHeartbeats 4000000 in
theorem dnRows_any (p : Int) (n : Nat) (k v : Int) (A B : Option Addr) (a b : Nat) (l m : List Int) (w : World) (hA : RdI w A l) (hB : RdI w B m) (hk : 3 ≤ k ∧ k ≤ 14) (hty : ((l.length : Int), (m.length : Int)) = kindTy k) (hat : ∀ x, x ∈ l ++ m → 0 ≤ x ∧ x < (n : Int)) (hv0 : 0 ≤ v) (hvp : v < p) (h2p : 2 ≤ p) (h97 : p ≤ 97) (hn : n ≤ 1048576) :
  Calls Tryz.prog 50 #[.int .i64 p, .int .i64 (n : Int), .agg #[.int .i64 k, .int .i64 v, .slice A l.length a, .slice B m.length b]] w (RetRc w (dnRowsM p n (k, v, l, m))) := by
 have h0 : 0 < p := by omega
 have hw1 : IntKind.i64.wrap (p - 1) = p - 1 := IntWalk.i64_in _ (by omega)
 have hem := Int.emod_nonneg (-v) (show p ≠ 0 by omega)
 have hem2 := Int.emod_lt_of_pos (-v) h0
 have hc : k = 3 ∨ k = 4 ∨ k = 5 ∨ k = 6 ∨ k = 7 ∨ k = 8 ∨ k = 9 ∨ k = 10 ∨ k = 11 ∨ k = 12 ∨ k = 13 ∨ k = 14 := by omega
 rcases hc with rfl | rfl | rfl | rfl | rfl | rfl | rfl | rfl | rfl | rfl | rfl | rfl
 · have hll : l.length = 1 := by have h1 := congrArg Prod.fst hty; have h2 : (l.length : Int) = 1 := h1; omega
   have hml : m.length = 2 := by have h1 := congrArg Prod.snd hty; have h2 : (m.length : Int) = 2 := h1; omega
   clear hty hk
   obtain ⟨x0, rfl⟩ := len_one hll
   obtain ⟨y0, y1, rfl⟩ := len_two hml
   have hM : dnRowsM p n (3, v, [x0], [y0, y1]) = [sprV p n [y0, x0] [1, p - 1], sprV p n [y1, x0] [1, p - 1]] := rfl
   rw [hM]
   clear hM
   obtain ⟨ad, _, rfl, ex0, cx0⟩ := hA.at_ (j := 0) (by simp)
   obtain rfl := Option.some.inj ex0
   have cx0 : w.cell? ad = some (.int .i64 x0) := cx0
   have had0 : ad.add 0 = ad := rfl
   obtain ⟨bd, _, rfl, ey0, cy0⟩ := hB.at_ (j := 0) (by simp)
   obtain rfl := Option.some.inj ey0
   have cy0 : w.cell? bd = some (.int .i64 y0) := cy0
   have hbd0 : bd.add 0 = bd := rfl
   obtain ⟨ad', _, e', ey1, cy1⟩ := hB.at_ (j := 1) (by simp)
   obtain rfl := Option.some.inj e'
   obtain rfl := Option.some.inj ey1
   have cy1 : w.cell? ⟨bd.block, bd.off + 1, none⟩ = some (.int .i64 y1) := cy1
   have qx0 := hat x0 (by simp)
   have qy0 := hat y0 (by simp)
   have qy1 := hat y1 (by simp)
   clear hat
   obtain ⟨W, hW⟩ : ∃ W, W = w.alloc (.cells #[.int .i64 3, .int .i64 v, .slice (some ad) 1 a, .slice (some bd) 2 b] tEd) := ⟨_, rfl⟩
   have bW := below_alloc w (.cells #[.int .i64 3, .int .i64 v, .slice (some ad) 1 a, .slice (some bd) 2 b] tEd)
   have k0 := heap_alloc_new w (.cells #[.int .i64 3, .int .i64 v, .slice (some ad) 1 a, .slice (some bd) 2 b] tEd)
   rw [← hW] at bW k0
   have cx0 := cell_mvd bW cx0
   have cy0 := cell_mvd bW cy0
   have cy1 := cell_mvd bW cy1
   obtain ⟨⟨g0, g1, g2, g3⟩, f0, f1, f2, f3⟩ := box4 k0
   have bW_h := lH bW; have k0_h := lH k0; clear bW k0
   go_enter Tryz.func50, Tryz.ntmps50
   go_upto_region 1 with (fail)
   rw [← hW]
   clear hW
   go_quiet (fail)
   obtain ⟨Wd, hWd⟩ : ∃ Wd, Wd = W.drewN nq := ⟨_, rfl⟩
   have hbd : Below W.heap.size W Wd := by rw [hWd]; exact below_drewN (Below.refl _ _) nq
   rw [← hWd]
   clear hWd g0 g1 g2 g3 f0 f1 f2 f3
   replace k0_h := lH (box_below k0_h.out hbd)
   have cx0 := cell_mvd hbd cx0
   have cy0 := cell_mvd hbd cy0
   have cy1 := cell_mvd hbd cy1
   have hB0 := below_trans bW_h.out hbd bW_h.out.size
   clear hbd; have hB0_h := lH hB0; clear hB0
   obtain ⟨⟨g0, g1, g2, g3⟩, f0, f1, f2, f3⟩ := box4 k0_h.out
   go_wp2_with (fail)
   clear g0 g1 g2 g3 f0 f1 f2 f3
   have hbd : Below Wd.heap.size Wd Wd.drew := below_drewN (Below.refl _ _) 1
   refine beginH (fun w' => Below Wd.heap.size Wd w') (by kernel_rfl) ?_
   generalize Wd.drew = W1 at hbd ⊢
   refine tkH 0 ?_ rfl hbd (fun W' hW' => ?_) ?_; rotate_left; · (have zx0 := cell_mvd hW' cx0; have zy0 := cell_mvd hW' cy0; have zy1 := cell_mvd hW' cy1; clear hW'; go_simp; first | done | with_reducible rfl)
   simp only [Act.put, nS]
   refine tkH 1 ?_ rfl hbd (fun W' hW' => ?_) ?_; rotate_left; · (have zx0 := cell_mvd hW' cx0; have zy0 := cell_mvd hW' cy0; have zy1 := cell_mvd hW' cy1; clear hW'; go_simp; first | done | with_reducible rfl)
   simp only [Act.put, nS]
   refine tkH 2 ?_ rfl hbd (fun W' hW' => ?_) ?_; rotate_left; · (have zx0 := cell_mvd hW' cx0; have zy0 := cell_mvd hW' cy0; have zy1 := cell_mvd hW' cy1; clear hW'; go_simp; first | done | with_reducible rfl)
   simp only [Act.put, nS]
   refine tkH 3 ?_ rfl hbd (fun W' hW' => ?_) ?_; rotate_left; · (have zx0 := cell_mvd hW' cx0; have zy0 := cell_mvd hW' cy0; have zy1 := cell_mvd hW' cy1; clear hW'; go_simp; first | done | with_reducible rfl)
   simp only [Act.put, nS]
   refine tkH 4 ?_ rfl hbd (fun W' hW' => ?_) ?_; rotate_left; · (have zx0 := cell_mvd hW' cx0; have zy0 := cell_mvd hW' cy0; have zy1 := cell_mvd hW' cy1; clear hW'; go_simp; first | done | with_reducible rfl)
   simp only [Act.put, nS]
   refine tkH 5 ?_ rfl hbd (fun W' hW' => ?_) ?_; rotate_left; · (have zx0 := cell_mvd hW' cx0; have zy0 := cell_mvd hW' cy0; have zy1 := cell_mvd hW' cy1; clear hW'; go_simp; first | done | with_reducible rfl)
   simp only [Act.put, nS]
   refine tkH 6 ?_ rfl hbd (fun W' hW' => ?_) ?_; rotate_left; · (have zx0 := cell_mvd hW' cx0; have zy0 := cell_mvd hW' cy0; have zy1 := cell_mvd hW' cy1; clear hW'; go_simp; first | done | with_reducible rfl)
   simp only [Act.put, nS]
   refine tkH 7 ?_ rfl hbd (fun W' hW' => ?_) ?_; rotate_left; · (have zx0 := cell_mvd hW' cx0; have zy0 := cell_mvd hW' cy0; have zy1 := cell_mvd hW' cy1; clear hW'; go_simp; first | done | with_reducible rfl)
   simp only [Act.put, nS]
   refine tkH 9 ?_ rfl hbd (fun W' hW' => ?_) ?_; rotate_left; · (have zx0 := cell_mvd hW' cx0; have zy0 := cell_mvd hW' cy0; have zy1 := cell_mvd hW' cy1; clear hW'; go_simp; first | done | with_reducible rfl)
   simp only [Act.put, nS]
   refine tkH 10 ?_ rfl hbd (fun W' hW' => ?_) ?_; rotate_left; · (have zx0 := cell_mvd hW' cx0; have zy0 := cell_mvd hW' cy0; have zy1 := cell_mvd hW' cy1; clear hW'; go_simp; first | done | with_reducible rfl)
   simp only [Act.put, nS]
   refine tkH 13 ?_ rfl hbd (fun W' hW' => ?_) ?_; rotate_left; · (have zx0 := cell_mvd hW' cx0; have zy0 := cell_mvd hW' cy0; have zy1 := cell_mvd hW' cy1; clear hW'; go_simp; first | done | with_reducible rfl)
   simp only [Act.put, nS]
   refine tkH 14 ?_ rfl hbd (fun W' hW' => ?_) ?_; rotate_left; · (have zx0 := cell_mvd hW' cx0; have zy0 := cell_mvd hW' cy0; have zy1 := cell_mvd hW' cy1; clear hW'; go_simp; first | done | with_reducible rfl)
   simp only [Act.put, nS]
   refine tkH 15 ?_ rfl hbd (fun W' hW' => ?_) ?_; rotate_left; · (have zx0 := cell_mvd hW' cx0; have zy0 := cell_mvd hW' cy0; have zy1 := cell_mvd hW' cy1; clear hW'; go_simp; first | done | with_reducible rfl)
   simp only [Act.put, nS]
   refine tkH 16 ?_ rfl hbd (fun W' hW' => ?_) ?_; rotate_left; · (have zx0 := cell_mvd hW' cx0; have zy0 := cell_mvd hW' cy0; have zy1 := cell_mvd hW' cy1; clear hW'; go_simp; first | done | with_reducible rfl)
   simp only [Act.put, nS]
   refine tkH 17 ?_ rfl hbd (fun W' hW' => ?_) ?_; rotate_left; · (have zx0 := cell_mvd hW' cx0; have zy0 := cell_mvd hW' cy0; have zy1 := cell_mvd hW' cy1; clear hW'; go_simp; first | done | with_reducible rfl)
   simp only [Act.put, nS]
   refine tkH 18 ?_ rfl hbd (fun W' hW' => ?_) ?_; rotate_left; · (have zx0 := cell_mvd hW' cx0; have zy0 := cell_mvd hW' cy0; have zy1 := cell_mvd hW' cy1; clear hW'; go_simp; first | done | with_reducible rfl)
   simp only [Act.put, nS]
   refine tkH 19 ?_ rfl hbd (fun W' hW' => ?_) ?_; rotate_left; · (have zx0 := cell_mvd hW' cx0; have zy0 := cell_mvd hW' cy0; have zy1 := cell_mvd hW' cy1; clear hW'; go_simp; first | done | with_reducible rfl)
   simp only [Act.put, nS]
   refine tkH 20 ?_ rfl hbd (fun W' hW' => ?_) ?_; rotate_left; · (have zx0 := cell_mvd hW' cx0; have zy0 := cell_mvd hW' cy0; have zy1 := cell_mvd hW' cy1; clear hW'; go_simp; first | done | with_reducible rfl)
   simp only [Act.put, nS]
   refine tkH 22 ?_ rfl hbd (fun W' hW' => ?_) ?_; rotate_left; · (have zx0 := cell_mvd hW' cx0; have zy0 := cell_mvd hW' cy0; have zy1 := cell_mvd hW' cy1; clear hW'; go_simp; first | done | with_reducible rfl)
   simp only [Act.put, nS]
   refine tkH 23 ?_ rfl hbd (fun W' hW' => ?_) ?_; rotate_left; · (have zx0 := cell_mvd hW' cx0; have zy0 := cell_mvd hW' cy0; have zy1 := cell_mvd hW' cy1; clear hW'; go_simp; first | done | with_reducible rfl)
   simp only [Act.put, nS]
   refine relZ (P := Tryz.prog) [(8, 36), (11, 39), (12, 40), (21, 49), (24, 52), (25, 53), (26, 54), (27, 6)] (fun i => if i = 12 then [36, 39] else if i = 25 then [49, 52] else if i = 26 then [40, 53] else if i = 27 then [54] else []) (fun d v5 w5 => if d = 36 then PIn 2 [y0, x0] v5 w5 else if d = 39 then PIn 2 [1, p - 1] v5 w5 else if d = 40 then PIs n (sprV p n [y0, x0] [1, p - 1]) v5 w5 else if d = 49 then PIn 2 [y1, x0] v5 w5 else if d = 52 then PIn 2 [1, p - 1] v5 w5 else if d = 53 then PIs n (sprV p n [y1, x0] [1, p - 1]) v5 w5 else if d = 54 then PRs 2 [sprV p n [y0, x0] [1, p - 1], sprV p n [y1, x0] [1, p - 1]] v5 w5 else if d = 6 then PRs 2 [sprV p n [y0, x0] [1, p - 1], sprV p n [y1, x0] [1, p - 1]] v5 w5 else True) (by kernel_rfl) (fun d => Stb.ite (PIn.stb _ _) (Stb.ite (PIn.stb _ _) (Stb.ite (PIs.stb _ _) (Stb.ite (PIn.stb _ _) (Stb.ite (PIn.stb _ _) (Stb.ite (PIs.stb _ _) (Stb.ite (PRs.stb _ _) (Stb.ite (PRs.stb _ _) (Stb.true))))))))) (fun w' hw' => below_trans hbd hw' hbd.size) ?steps3 ?fin3
   case steps3 =>
    refine ⟨⟨_, rfl, fun xs w5 hb5 hd K hK => ?_⟩, ⟨_, rfl, fun xs w5 hb5 hd K hK => ?_⟩, ⟨_, rfl, fun xs w5 hb5 hd K hK => ?_⟩, ⟨_, rfl, fun xs w5 hb5 hd K hK => ?_⟩, ⟨_, rfl, fun xs w5 hb5 hd K hK => ?_⟩, ⟨_, rfl, fun xs w5 hb5 hd K hK => ?_⟩, ⟨_, rfl, fun xs w5 hb5 hd K hK => ?_⟩, ⟨_, rfl, fun xs w5 hb5 hd K hK => ?_⟩, trivial⟩
    · simp only [putZ, List.foldl_cons, List.foldl_nil, Act.put, nS] at hK ⊢
      go_simp
      exact hK _ _ (below_alloc _ _) ⟨_, 2, rfl, rd_laidC w5 [y0, x0] (by unfold maxLen; simp)⟩
    · simp only [putZ, List.foldl_cons, List.foldl_nil, Act.put, nS] at hK ⊢
      go_simp
      exact hK _ _ (below_alloc _ _) ⟨_, 2, rfl, rd_laidC w5 [1, p - 1] (by unfold maxLen; simp)⟩
    · obtain ⟨B1, c1, e1, r1⟩ := (hd 36 (by decide) : PIn 2 [y0, x0] (xs 36) w5)
      obtain ⟨B2, c2, e2, r2⟩ := (hd 39 (by decide) : PIn 2 [1, p - 1] (xs 39) w5)
      simp only [putZ, List.foldl_cons, List.foldl_nil, Act.put, nS] at hK ⊢
      simp only [e1, e2] at hK ⊢
      refine wp_callZ (f := ?f_3) (args := ?args_3) ?hr_3 ?hc_3
      case hr_3 => (go_simp; first | done | with_reducible rfl | (constructor <;> with_reducible rfl))
      case hc_3 =>
       refine (dnRow_any p n 2 B1 B2 c1 c2 [y0, x0] [1, p - 1] w5 r1 r2 rfl rfl (fun x hx => by simp at hx; omega) (fun x hx => by simp at hx; omega) h0 h97 hn (by omega)).mono ?_
       rintro e w6 ⟨B3, c3, rfl, h3, _, hb6⟩
       have hl3 : (sprV p n [y0, x0] [1, p - 1]).length = n := sprTo_length _ _ _ _ _
       rw [hl3]
       exact ⟨_, rfl, hK _ _ hb6 ⟨B3, c3, rfl, h3⟩⟩
    · simp only [putZ, List.foldl_cons, List.foldl_nil, Act.put, nS] at hK ⊢
      go_simp
      exact hK _ _ (below_alloc _ _) ⟨_, 2, rfl, rd_laidC w5 [y1, x0] (by unfold maxLen; simp)⟩
    · simp only [putZ, List.foldl_cons, List.foldl_nil, Act.put, nS] at hK ⊢
      go_simp
      exact hK _ _ (below_alloc _ _) ⟨_, 2, rfl, rd_laidC w5 [1, p - 1] (by unfold maxLen; simp)⟩
    · obtain ⟨B1, c1, e1, r1⟩ := (hd 49 (by decide) : PIn 2 [y1, x0] (xs 49) w5)
      obtain ⟨B2, c2, e2, r2⟩ := (hd 52 (by decide) : PIn 2 [1, p - 1] (xs 52) w5)
      simp only [putZ, List.foldl_cons, List.foldl_nil, Act.put, nS] at hK ⊢
      simp only [e1, e2] at hK ⊢
      refine wp_callZ (f := ?f_6) (args := ?args_6) ?hr_6 ?hc_6
      case hr_6 => (go_simp; first | done | with_reducible rfl | (constructor <;> with_reducible rfl))
      case hc_6 =>
       refine (dnRow_any p n 2 B1 B2 c1 c2 [y1, x0] [1, p - 1] w5 r1 r2 rfl rfl (fun x hx => by simp at hx; omega) (fun x hx => by simp at hx; omega) h0 h97 hn (by omega)).mono ?_
       rintro e w6 ⟨B3, c3, rfl, h3, _, hb6⟩
       have hl3 : (sprV p n [y1, x0] [1, p - 1]).length = n := sprTo_length _ _ _ _ _
       rw [hl3]
       exact ⟨_, rfl, hK _ _ hb6 ⟨B3, c3, rfl, h3⟩⟩
    · obtain ⟨B0, c0, e0, r0⟩ := (hd 40 (by decide) : PIs n (sprV p n [y0, x0] [1, p - 1]) (xs 40) w5)
      obtain ⟨B1, c1, e1, r1⟩ := (hd 53 (by decide) : PIs n (sprV p n [y1, x0] [1, p - 1]) (xs 53) w5)
      have l0 : (sprV p n [y0, x0] [1, p - 1]).length = n := sprTo_length _ _ _ _ _
      have l1 : (sprV p n [y1, x0] [1, p - 1]).length = n := sprTo_length _ _ _ _ _
      simp only [putZ, List.foldl_cons, List.foldl_nil, Act.put, nS] at hK ⊢
      simp only [e0, e1] at hK ⊢
      go_simp
      have hp := PRs.laid w5 ([(B0, c0, sprV p n [y0, x0] [1, p - 1]), (B1, c1, sprV p n [y1, x0] [1, p - 1])] : List Hd) (fun x hx => by
       simp only [List.mem_cons, List.not_mem_nil, or_false] at hx
       rcases hx with rfl | rfl
       · exact r0
       · exact r1) (by unfold maxLen; simp)
      have e5 : (([(B0, c0, sprV p n [y0, x0] [1, p - 1]), (B1, c1, sprV p n [y1, x0] [1, p - 1])] : List Hd).map Hd.val).toArray = #[.slice B0 n c0, .slice B1 n c1] := by simp [Hd.val, l0, l1]
      rw [e5] at hp
      exact hK _ _ (below_alloc _ _) hp
    · have h5 := (hd 54 (by decide) : PRs 2 [sprV p n [y0, x0] [1, p - 1], sprV p n [y1, x0] [1, p - 1]] (xs 54) w5)
      simp only [putZ, List.foldl_cons, List.foldl_nil, Act.put, nS] at hK ⊢
      go_simp
      exact hK _ _ (Below.refl _ _) h5
   case fin3 =>
    intro xs w6 hb6 hR
    have h6 := (hR (27, 6) (by simp) : PRs 2 [sprV p n [y0, x0] [1, p - 1], sprV p n [y1, x0] [1, p - 1]] (xs 6) w6)
    have hbf := below_trans hB0_h.out (below_trans hbd hb6 hbd.size) hB0_h.out.size
    clear hR cx0 cy0 cy1; have h6_h := lH h6; have hbf_h := lH hbf; clear h6 hbf
    simp only [putZ, List.foldl_cons, List.foldl_nil, Act.put, nS]
    go_wp2_with (fail)
    go_ret
    exact ⟨_, rfl, h6_h.out, hbf_h.out⟩
 · have hll : l.length = 1 := by have h1 := congrArg Prod.fst hty; have h2 : (l.length : Int) = 1 := h1; omega
   have hml : m.length = 0 := by have h1 := congrArg Prod.snd hty; have h2 : (m.length : Int) = 0 := h1; omega
   clear hty hk
   obtain ⟨x0, rfl⟩ := len_one hll
   obtain rfl : m = [] := List.eq_nil_of_length_eq_zero hml
   have hM : dnRowsM p n (4, v, [x0], []) = [] := rfl
   rw [hM]
   clear hM
   obtain ⟨ad, _, rfl, ex0, cx0⟩ := hA.at_ (j := 0) (by simp)
   obtain rfl := Option.some.inj ex0
   have cx0 : w.cell? ad = some (.int .i64 x0) := cx0
   have had0 : ad.add 0 = ad := rfl
   have qx0 := hat x0 (by simp)
   clear hat
   obtain ⟨W, hW⟩ : ∃ W, W = w.alloc (.cells #[.int .i64 4, .int .i64 v, .slice (some ad) 1 a, .slice B 0 b] tEd) := ⟨_, rfl⟩
   have bW := below_alloc w (.cells #[.int .i64 4, .int .i64 v, .slice (some ad) 1 a, .slice B 0 b] tEd)
   have k0 := heap_alloc_new w (.cells #[.int .i64 4, .int .i64 v, .slice (some ad) 1 a, .slice B 0 b] tEd)
   rw [← hW] at bW k0
   have cx0 := cell_mvd bW cx0
   obtain ⟨⟨g0, g1, g2, g3⟩, f0, f1, f2, f3⟩ := box4 k0
   have bW_h := lH bW; have k0_h := lH k0; clear bW k0
   go_enter Tryz.func50, Tryz.ntmps50
   go_upto_region 1 with (fail)
   rw [← hW]
   clear hW
   go_quiet (fail)
   obtain ⟨Wd, hWd⟩ : ∃ Wd, Wd = W.drewN nq := ⟨_, rfl⟩
   have hbd : Below W.heap.size W Wd := by rw [hWd]; exact below_drewN (Below.refl _ _) nq
   rw [← hWd]
   clear hWd g0 g1 g2 g3 f0 f1 f2 f3
   replace k0_h := lH (box_below k0_h.out hbd)
   have cx0 := cell_mvd hbd cx0
   have hB0 := below_trans bW_h.out hbd bW_h.out.size
   clear hbd; have hB0_h := lH hB0; clear hB0
   obtain ⟨⟨g0, g1, g2, g3⟩, f0, f1, f2, f3⟩ := box4 k0_h.out
   go_wp2_with (fail)
   go_ret
   exact ⟨_, rfl, ⟨none, 0, [], rfl, rfl, rfl, ⟨fun i h hh => by simp at hh, fun h hh => by cases hh⟩, fun h hh => by cases hh⟩, hB0_h.out⟩
 · have hll : l.length = 2 := by have h1 := congrArg Prod.fst hty; have h2 : (l.length : Int) = 2 := h1; omega
   have hml : m.length = 1 := by have h1 := congrArg Prod.snd hty; have h2 : (m.length : Int) = 1 := h1; omega
   clear hty hk
   obtain ⟨x0, x1, rfl⟩ := len_two hll
   obtain ⟨y0, rfl⟩ := len_one hml
   have hM : dnRowsM p n (5, v, [x0, x1], [y0]) = [sprV p n [y0, x0, x1] [1, p - 1, p - 1]] := rfl
   rw [hM]
   clear hM
   obtain ⟨ad, _, rfl, ex0, cx0⟩ := hA.at_ (j := 0) (by simp)
   obtain rfl := Option.some.inj ex0
   have cx0 : w.cell? ad = some (.int .i64 x0) := cx0
   have had0 : ad.add 0 = ad := rfl
   obtain ⟨ad', _, e', ex1, cx1⟩ := hA.at_ (j := 1) (by simp)
   obtain rfl := Option.some.inj e'
   obtain rfl := Option.some.inj ex1
   have cx1 : w.cell? ⟨ad.block, ad.off + 1, none⟩ = some (.int .i64 x1) := cx1
   obtain ⟨bd, _, rfl, ey0, cy0⟩ := hB.at_ (j := 0) (by simp)
   obtain rfl := Option.some.inj ey0
   have cy0 : w.cell? bd = some (.int .i64 y0) := cy0
   have hbd0 : bd.add 0 = bd := rfl
   have qx0 := hat x0 (by simp)
   have qx1 := hat x1 (by simp)
   have qy0 := hat y0 (by simp)
   clear hat
   obtain ⟨W, hW⟩ : ∃ W, W = w.alloc (.cells #[.int .i64 5, .int .i64 v, .slice (some ad) 2 a, .slice (some bd) 1 b] tEd) := ⟨_, rfl⟩
   have bW := below_alloc w (.cells #[.int .i64 5, .int .i64 v, .slice (some ad) 2 a, .slice (some bd) 1 b] tEd)
   have k0 := heap_alloc_new w (.cells #[.int .i64 5, .int .i64 v, .slice (some ad) 2 a, .slice (some bd) 1 b] tEd)
   rw [← hW] at bW k0
   have cx0 := cell_mvd bW cx0
   have cx1 := cell_mvd bW cx1
   have cy0 := cell_mvd bW cy0
   obtain ⟨⟨g0, g1, g2, g3⟩, f0, f1, f2, f3⟩ := box4 k0
   have bW_h := lH bW; have k0_h := lH k0; clear bW k0
   go_enter Tryz.func50, Tryz.ntmps50
   go_upto_region 1 with (fail)
   rw [← hW]
   clear hW
   go_quiet (fail)
   obtain ⟨Wd, hWd⟩ : ∃ Wd, Wd = W.drewN nq := ⟨_, rfl⟩
   have hbd : Below W.heap.size W Wd := by rw [hWd]; exact below_drewN (Below.refl _ _) nq
   rw [← hWd]
   clear hWd g0 g1 g2 g3 f0 f1 f2 f3
   replace k0_h := lH (box_below k0_h.out hbd)
   have cx0 := cell_mvd hbd cx0
   have cx1 := cell_mvd hbd cx1
   have cy0 := cell_mvd hbd cy0
   have hB0 := below_trans bW_h.out hbd bW_h.out.size
   clear hbd; have hB0_h := lH hB0; clear hB0
   obtain ⟨⟨g0, g1, g2, g3⟩, f0, f1, f2, f3⟩ := box4 k0_h.out
   go_wp2_with (fail)
   clear g0 g1 g2 g3 f0 f1 f2 f3
   have hbd : Below Wd.heap.size Wd Wd.drew := below_drewN (Below.refl _ _) 1
   refine beginH (fun w' => Below Wd.heap.size Wd w') (by kernel_rfl) ?_
   generalize Wd.drew = W1 at hbd ⊢
   refine tkH 0 ?_ rfl hbd (fun W' hW' => ?_) ?_; rotate_left; · (have zx0 := cell_mvd hW' cx0; have zx1 := cell_mvd hW' cx1; have zy0 := cell_mvd hW' cy0; clear hW'; go_simp; first | done | with_reducible rfl)
   simp only [Act.put, nS]
   refine tkH 1 ?_ rfl hbd (fun W' hW' => ?_) ?_; rotate_left; · (have zx0 := cell_mvd hW' cx0; have zx1 := cell_mvd hW' cx1; have zy0 := cell_mvd hW' cy0; clear hW'; go_simp; first | done | with_reducible rfl)
   simp only [Act.put, nS]
   refine tkH 2 ?_ rfl hbd (fun W' hW' => ?_) ?_; rotate_left; · (have zx0 := cell_mvd hW' cx0; have zx1 := cell_mvd hW' cx1; have zy0 := cell_mvd hW' cy0; clear hW'; go_simp; first | done | with_reducible rfl)
   simp only [Act.put, nS]
   refine tkH 3 ?_ rfl hbd (fun W' hW' => ?_) ?_; rotate_left; · (have zx0 := cell_mvd hW' cx0; have zx1 := cell_mvd hW' cx1; have zy0 := cell_mvd hW' cy0; clear hW'; go_simp; first | done | with_reducible rfl)
   simp only [Act.put, nS]
   refine tkH 4 ?_ rfl hbd (fun W' hW' => ?_) ?_; rotate_left; · (have zx0 := cell_mvd hW' cx0; have zx1 := cell_mvd hW' cx1; have zy0 := cell_mvd hW' cy0; clear hW'; go_simp; first | done | with_reducible rfl)
   simp only [Act.put, nS]
   refine tkH 5 ?_ rfl hbd (fun W' hW' => ?_) ?_; rotate_left; · (have zx0 := cell_mvd hW' cx0; have zx1 := cell_mvd hW' cx1; have zy0 := cell_mvd hW' cy0; clear hW'; go_simp; first | done | with_reducible rfl)
   simp only [Act.put, nS]
   refine tkH 6 ?_ rfl hbd (fun W' hW' => ?_) ?_; rotate_left; · (have zx0 := cell_mvd hW' cx0; have zx1 := cell_mvd hW' cx1; have zy0 := cell_mvd hW' cy0; clear hW'; go_simp; first | done | with_reducible rfl)
   simp only [Act.put, nS]
   refine tkH 7 ?_ rfl hbd (fun W' hW' => ?_) ?_; rotate_left; · (have zx0 := cell_mvd hW' cx0; have zx1 := cell_mvd hW' cx1; have zy0 := cell_mvd hW' cy0; clear hW'; go_simp; first | done | with_reducible rfl)
   simp only [Act.put, nS]
   refine tkH 8 ?_ rfl hbd (fun W' hW' => ?_) ?_; rotate_left; · (have zx0 := cell_mvd hW' cx0; have zx1 := cell_mvd hW' cx1; have zy0 := cell_mvd hW' cy0; clear hW'; go_simp; first | done | with_reducible rfl)
   simp only [Act.put, nS]
   refine tkH 9 ?_ rfl hbd (fun W' hW' => ?_) ?_; rotate_left; · (have zx0 := cell_mvd hW' cx0; have zx1 := cell_mvd hW' cx1; have zy0 := cell_mvd hW' cy0; clear hW'; go_simp; first | done | with_reducible rfl)
   simp only [Act.put, nS]
   refine tkH 10 ?_ rfl hbd (fun W' hW' => ?_) ?_; rotate_left; · (have zx0 := cell_mvd hW' cx0; have zx1 := cell_mvd hW' cx1; have zy0 := cell_mvd hW' cy0; clear hW'; go_simp; first | done | with_reducible rfl)
   simp only [Act.put, nS]
   refine tkH 12 ?_ rfl hbd (fun W' hW' => ?_) ?_; rotate_left; · (have zx0 := cell_mvd hW' cx0; have zx1 := cell_mvd hW' cx1; have zy0 := cell_mvd hW' cy0; clear hW'; go_simp; first | done | with_reducible rfl)
   simp only [Act.put, nS]
   refine tkH 13 ?_ rfl hbd (fun W' hW' => ?_) ?_; rotate_left; · (have zx0 := cell_mvd hW' cx0; have zx1 := cell_mvd hW' cx1; have zy0 := cell_mvd hW' cy0; clear hW'; go_simp; first | done | with_reducible rfl)
   simp only [Act.put, nS]
   refine tkH 14 ?_ rfl hbd (fun W' hW' => ?_) ?_; rotate_left; · (have zx0 := cell_mvd hW' cx0; have zx1 := cell_mvd hW' cx1; have zy0 := cell_mvd hW' cy0; clear hW'; go_simp; first | done | with_reducible rfl)
   simp only [Act.put, nS]
   refine tkH 15 ?_ rfl hbd (fun W' hW' => ?_) ?_; rotate_left; · (have zx0 := cell_mvd hW' cx0; have zx1 := cell_mvd hW' cx1; have zy0 := cell_mvd hW' cy0; clear hW'; go_simp; first | done | with_reducible rfl)
   simp only [Act.put, nS]
   refine relZ (P := Tryz.prog) [(11, 68), (16, 73), (17, 74), (18, 75), (19, 6)] (fun i => if i = 17 then [68, 73] else if i = 18 then [74] else if i = 19 then [75] else []) (fun d v5 w5 => if d = 68 then PIn 3 [y0, x0, x1] v5 w5 else if d = 73 then PIn 3 [1, p - 1, p - 1] v5 w5 else if d = 74 then PIs n (sprV p n [y0, x0, x1] [1, p - 1, p - 1]) v5 w5 else if d = 75 then PRs 1 [sprV p n [y0, x0, x1] [1, p - 1, p - 1]] v5 w5 else if d = 6 then PRs 1 [sprV p n [y0, x0, x1] [1, p - 1, p - 1]] v5 w5 else True) (by kernel_rfl) (fun d => Stb.ite (PIn.stb _ _) (Stb.ite (PIn.stb _ _) (Stb.ite (PIs.stb _ _) (Stb.ite (PRs.stb _ _) (Stb.ite (PRs.stb _ _) (Stb.true)))))) (fun w' hw' => below_trans hbd hw' hbd.size) ?steps5 ?fin5
   case steps5 =>
    refine ⟨⟨_, rfl, fun xs w5 hb5 hd K hK => ?_⟩, ⟨_, rfl, fun xs w5 hb5 hd K hK => ?_⟩, ⟨_, rfl, fun xs w5 hb5 hd K hK => ?_⟩, ⟨_, rfl, fun xs w5 hb5 hd K hK => ?_⟩, ⟨_, rfl, fun xs w5 hb5 hd K hK => ?_⟩, trivial⟩
    · simp only [putZ, List.foldl_cons, List.foldl_nil, Act.put, nS] at hK ⊢
      go_simp
      exact hK _ _ (below_alloc _ _) ⟨_, 3, rfl, rd_laidC w5 [y0, x0, x1] (by unfold maxLen; simp)⟩
    · simp only [putZ, List.foldl_cons, List.foldl_nil, Act.put, nS] at hK ⊢
      go_simp
      exact hK _ _ (below_alloc _ _) ⟨_, 3, rfl, rd_laidC w5 [1, p - 1, p - 1] (by unfold maxLen; simp)⟩
    · obtain ⟨B1, c1, e1, r1⟩ := (hd 68 (by decide) : PIn 3 [y0, x0, x1] (xs 68) w5)
      obtain ⟨B2, c2, e2, r2⟩ := (hd 73 (by decide) : PIn 3 [1, p - 1, p - 1] (xs 73) w5)
      simp only [putZ, List.foldl_cons, List.foldl_nil, Act.put, nS] at hK ⊢
      simp only [e1, e2] at hK ⊢
      refine wp_callZ (f := ?f_11) (args := ?args_11) ?hr_11 ?hc_11
      case hr_11 => (go_simp; first | done | with_reducible rfl | (constructor <;> with_reducible rfl))
      case hc_11 =>
       refine (dnRow_any p n 3 B1 B2 c1 c2 [y0, x0, x1] [1, p - 1, p - 1] w5 r1 r2 rfl rfl (fun x hx => by simp at hx; omega) (fun x hx => by simp at hx; omega) h0 h97 hn (by omega)).mono ?_
       rintro e w6 ⟨B3, c3, rfl, h3, _, hb6⟩
       have hl3 : (sprV p n [y0, x0, x1] [1, p - 1, p - 1]).length = n := sprTo_length _ _ _ _ _
       rw [hl3]
       exact ⟨_, rfl, hK _ _ hb6 ⟨B3, c3, rfl, h3⟩⟩
    · obtain ⟨B0, c0, e0, r0⟩ := (hd 74 (by decide) : PIs n (sprV p n [y0, x0, x1] [1, p - 1, p - 1]) (xs 74) w5)
      have l0 : (sprV p n [y0, x0, x1] [1, p - 1, p - 1]).length = n := sprTo_length _ _ _ _ _
      simp only [putZ, List.foldl_cons, List.foldl_nil, Act.put, nS] at hK ⊢
      simp only [e0] at hK ⊢
      go_simp
      have hp := PRs.laid w5 ([(B0, c0, sprV p n [y0, x0, x1] [1, p - 1, p - 1])] : List Hd) (fun x hx => by
       simp only [List.mem_cons, List.not_mem_nil, or_false] at hx
       subst hx
       exact r0) (by unfold maxLen; simp)
      have e5 : (([(B0, c0, sprV p n [y0, x0, x1] [1, p - 1, p - 1])] : List Hd).map Hd.val).toArray = #[.slice B0 n c0] := by simp [Hd.val, l0]
      rw [e5] at hp
      exact hK _ _ (below_alloc _ _) hp
    · have h5 := (hd 75 (by decide) : PRs 1 [sprV p n [y0, x0, x1] [1, p - 1, p - 1]] (xs 75) w5)
      simp only [putZ, List.foldl_cons, List.foldl_nil, Act.put, nS] at hK ⊢
      go_simp
      exact hK _ _ (Below.refl _ _) h5
   case fin5 =>
    intro xs w6 hb6 hR
    have h6 := (hR (19, 6) (by simp) : PRs 1 [sprV p n [y0, x0, x1] [1, p - 1, p - 1]] (xs 6) w6)
    have hbf := below_trans hB0_h.out (below_trans hbd hb6 hbd.size) hB0_h.out.size
    clear hR cx0 cx1 cy0; have h6_h := lH h6; have hbf_h := lH hbf; clear h6 hbf
    simp only [putZ, List.foldl_cons, List.foldl_nil, Act.put, nS]
    go_wp2_with (fail)
    go_ret
    exact ⟨_, rfl, h6_h.out, hbf_h.out⟩
 · have hll : l.length = 0 := by have h1 := congrArg Prod.fst hty; have h2 : (l.length : Int) = 0 := h1; omega
   have hml : m.length = 1 := by have h1 := congrArg Prod.snd hty; have h2 : (m.length : Int) = 1 := h1; omega
   clear hty hk
   obtain rfl : l = [] := List.eq_nil_of_length_eq_zero hll
   obtain ⟨y0, rfl⟩ := len_one hml
   have hM : dnRowsM p n (6, v, [], [y0]) = [sprV p n [y0] [1]] := rfl
   rw [hM]
   clear hM
   obtain ⟨bd, _, rfl, ey0, cy0⟩ := hB.at_ (j := 0) (by simp)
   obtain rfl := Option.some.inj ey0
   have cy0 : w.cell? bd = some (.int .i64 y0) := cy0
   have hbd0 : bd.add 0 = bd := rfl
   have qy0 := hat y0 (by simp)
   clear hat
   obtain ⟨W, hW⟩ : ∃ W, W = w.alloc (.cells #[.int .i64 6, .int .i64 v, .slice A 0 a, .slice (some bd) 1 b] tEd) := ⟨_, rfl⟩
   have bW := below_alloc w (.cells #[.int .i64 6, .int .i64 v, .slice A 0 a, .slice (some bd) 1 b] tEd)
   have k0 := heap_alloc_new w (.cells #[.int .i64 6, .int .i64 v, .slice A 0 a, .slice (some bd) 1 b] tEd)
   rw [← hW] at bW k0
   have cy0 := cell_mvd bW cy0
   obtain ⟨⟨g0, g1, g2, g3⟩, f0, f1, f2, f3⟩ := box4 k0
   have bW_h := lH bW; have k0_h := lH k0; clear bW k0
   go_enter Tryz.func50, Tryz.ntmps50
   go_upto_region 1 with (fail)
   rw [← hW]
   clear hW
   go_quiet (fail)
   obtain ⟨Wd, hWd⟩ : ∃ Wd, Wd = W.drewN nq := ⟨_, rfl⟩
   have hbd : Below W.heap.size W Wd := by rw [hWd]; exact below_drewN (Below.refl _ _) nq
   rw [← hWd]
   clear hWd g0 g1 g2 g3 f0 f1 f2 f3
   replace k0_h := lH (box_below k0_h.out hbd)
   have cy0 := cell_mvd hbd cy0
   have hB0 := below_trans bW_h.out hbd bW_h.out.size
   clear hbd; have hB0_h := lH hB0; clear hB0
   obtain ⟨⟨g0, g1, g2, g3⟩, f0, f1, f2, f3⟩ := box4 k0_h.out
   go_wp2_with (fail)
   have r1 := (rd_laidC Wd [y0] (by unfold maxLen; simp)).below (below_alloc _ (.cells (ints [1]).toArray 3))
   have r2 := rd_laidC (Wd.alloc (.cells (ints [y0]).toArray 3)) [1] (by unfold maxLen; simp)
   simp only [World.size_alloc] at r2
   have b12 := below_trans (below_alloc Wd (.cells (ints [y0]).toArray 3)) (below_alloc _ (.cells (ints [1]).toArray 3)) (below_alloc Wd (.cells (ints [y0]).toArray 3)).size
   have hC := dnRow_any p n 1 _ _ 1 1 [y0] [1] _ r1 r2 rfl rfl (fun x hx => by simp at hx; omega) (fun x hx => by simp at hx; omega) h0 h97 hn (by omega)
   refine (hC).mono ?_
   rintro e w6 ⟨B3, c3, rfl, h3, _, hb6⟩
   have hl3 : (sprV p n [y0] [1]).length = n := sprTo_length _ _ _ _ _
   rw [hl3]
   have hbf := below_trans hB0_h.out (below_trans b12 hb6 b12.size) hB0_h.out.size
   have hp := PRs.laid w6 ([(B3, c3, sprV p n [y0] [1])] : List Hd) (fun x hx => by
    simp only [List.mem_cons, List.not_mem_nil, or_false] at hx
    subst hx
    exact h3) (by unfold maxLen; simp)
   have e5 : (([(B3, c3, sprV p n [y0] [1])] : List Hd).map Hd.val).toArray = #[.slice B3 n c3] := by simp [Hd.val, hl3]
   rw [e5] at hp
   have hbg := below_trans hbf (below_alloc w6 (.cells #[.slice B3 n c3] 23)) hbf.size
   clear hC r1 r2 b12 h3 hb6 e5; have hp_h := lH hp; have hbg_h := lH hbg; have hbf_h := lH hbf; clear hp hbg hbf
   go_wp2_with (fail)
   go_ret
   exact ⟨_, rfl, hp_h.out, hbg_h.out⟩
 · have hll : l.length = 1 := by have h1 := congrArg Prod.fst hty; have h2 : (l.length : Int) = 1 := h1; omega
   have hml : m.length = 1 := by have h1 := congrArg Prod.snd hty; have h2 : (m.length : Int) = 1 := h1; omega
   clear hty hk
   obtain ⟨x0, rfl⟩ := len_one hll
   obtain ⟨y0, rfl⟩ := len_one hml
   have hM : dnRowsM p n (7, v, [x0], [y0]) = [sprV p n [y0, x0] [1, -v % p]] := rfl
   rw [hM]
   clear hM
   obtain ⟨ad, _, rfl, ex0, cx0⟩ := hA.at_ (j := 0) (by simp)
   obtain rfl := Option.some.inj ex0
   have cx0 : w.cell? ad = some (.int .i64 x0) := cx0
   have had0 : ad.add 0 = ad := rfl
   obtain ⟨bd, _, rfl, ey0, cy0⟩ := hB.at_ (j := 0) (by simp)
   obtain rfl := Option.some.inj ey0
   have cy0 : w.cell? bd = some (.int .i64 y0) := cy0
   have hbd0 : bd.add 0 = bd := rfl
   have qx0 := hat x0 (by simp)
   have qy0 := hat y0 (by simp)
   clear hat
   obtain ⟨W, hW⟩ : ∃ W, W = w.alloc (.cells #[.int .i64 7, .int .i64 v, .slice (some ad) 1 a, .slice (some bd) 1 b] tEd) := ⟨_, rfl⟩
   have bW := below_alloc w (.cells #[.int .i64 7, .int .i64 v, .slice (some ad) 1 a, .slice (some bd) 1 b] tEd)
   have k0 := heap_alloc_new w (.cells #[.int .i64 7, .int .i64 v, .slice (some ad) 1 a, .slice (some bd) 1 b] tEd)
   rw [← hW] at bW k0
   have cx0 := cell_mvd bW cx0
   have cy0 := cell_mvd bW cy0
   obtain ⟨⟨g0, g1, g2, g3⟩, f0, f1, f2, f3⟩ := box4 k0
   have bW_h := lH bW; have k0_h := lH k0; clear bW k0
   go_enter Tryz.func50, Tryz.ntmps50
   go_upto_region 1 with (fail)
   rw [← hW]
   clear hW
   go_quiet (fail)
   obtain ⟨Wd, hWd⟩ : ∃ Wd, Wd = W.drewN nq := ⟨_, rfl⟩
   have hbd : Below W.heap.size W Wd := by rw [hWd]; exact below_drewN (Below.refl _ _) nq
   rw [← hWd]
   clear hWd g0 g1 g2 g3 f0 f1 f2 f3
   replace k0_h := lH (box_below k0_h.out hbd)
   have cx0 := cell_mvd hbd cx0
   have cy0 := cell_mvd hbd cy0
   have hB0 := below_trans bW_h.out hbd bW_h.out.size
   clear hbd; have hB0_h := lH hB0; clear hB0
   obtain ⟨⟨g0, g1, g2, g3⟩, f0, f1, f2, f3⟩ := box4 k0_h.out
   go_wp2_with (fail)
   clear g0  g2 g3 f0 f1 f2 f3
   have hbd : Below Wd.heap.size Wd Wd.drew := below_drewN (Below.refl _ _) 1
   refine beginH (fun w' => Below Wd.heap.size Wd w') (by kernel_rfl) ?_
   generalize Wd.drew = W1 at hbd ⊢
   refine tkH 0 ?_ rfl hbd (fun W' hW' => ?_) ?_; rotate_left; · (obtain ⟨⟨b0, b1, b2, b3⟩, d0, d1, d2, d3⟩ := box4 (box_below k0_h.out hW'); have zx0 := cell_mvd hW' cx0; have zy0 := cell_mvd hW' cy0; clear hW'; go_simp; first | done | with_reducible rfl)
   simp only [Act.put, nS]
   refine tkH 1 ?_ rfl hbd (fun W' hW' => ?_) ?_; rotate_left; · (obtain ⟨⟨b0, b1, b2, b3⟩, d0, d1, d2, d3⟩ := box4 (box_below k0_h.out hW'); have zx0 := cell_mvd hW' cx0; have zy0 := cell_mvd hW' cy0; clear hW'; go_simp; first | done | with_reducible rfl)
   simp only [Act.put, nS]
   refine tkH 2 ?_ rfl hbd (fun W' hW' => ?_) ?_; rotate_left; · (obtain ⟨⟨b0, b1, b2, b3⟩, d0, d1, d2, d3⟩ := box4 (box_below k0_h.out hW'); have zx0 := cell_mvd hW' cx0; have zy0 := cell_mvd hW' cy0; clear hW'; go_simp; first | done | with_reducible rfl)
   simp only [Act.put, nS]
   refine tkH 3 ?_ rfl hbd (fun W' hW' => ?_) ?_; rotate_left; · (obtain ⟨⟨b0, b1, b2, b3⟩, d0, d1, d2, d3⟩ := box4 (box_below k0_h.out hW'); have zx0 := cell_mvd hW' cx0; have zy0 := cell_mvd hW' cy0; clear hW'; go_simp; first | done | with_reducible rfl)
   simp only [Act.put, nS]
   refine tkH 4 ?_ rfl hbd (fun W' hW' => ?_) ?_; rotate_left; · (obtain ⟨⟨b0, b1, b2, b3⟩, d0, d1, d2, d3⟩ := box4 (box_below k0_h.out hW'); have zx0 := cell_mvd hW' cx0; have zy0 := cell_mvd hW' cy0; clear hW'; go_simp; first | done | with_reducible rfl)
   simp only [Act.put, nS]
   refine tkH 5 ?_ rfl hbd (fun W' hW' => ?_) ?_; rotate_left; · (obtain ⟨⟨b0, b1, b2, b3⟩, d0, d1, d2, d3⟩ := box4 (box_below k0_h.out hW'); have zx0 := cell_mvd hW' cx0; have zy0 := cell_mvd hW' cy0; clear hW'; go_simp; first | done | with_reducible rfl)
   simp only [Act.put, nS]
   refine tkH 6 ?_ rfl hbd (fun W' hW' => ?_) ?_; rotate_left; · (obtain ⟨⟨b0, b1, b2, b3⟩, d0, d1, d2, d3⟩ := box4 (box_below k0_h.out hW'); have zx0 := cell_mvd hW' cx0; have zy0 := cell_mvd hW' cy0; clear hW'; go_simp; first | done | with_reducible rfl)
   simp only [Act.put, nS]
   refine tkH 7 ?_ rfl hbd (fun W' hW' => ?_) ?_; rotate_left; · (obtain ⟨⟨b0, b1, b2, b3⟩, d0, d1, d2, d3⟩ := box4 (box_below k0_h.out hW'); have zx0 := cell_mvd hW' cx0; have zy0 := cell_mvd hW' cy0; clear hW'; go_simp; first | done | with_reducible rfl)
   simp only [Act.put, nS]
   refine tkH 9 ?_ rfl hbd (fun W' hW' => ?_) ?_; rotate_left; · (obtain ⟨⟨b0, b1, b2, b3⟩, d0, d1, d2, d3⟩ := box4 (box_below k0_h.out hW'); have zx0 := cell_mvd hW' cx0; have zy0 := cell_mvd hW' cy0; clear hW'; go_simp; first | done | with_reducible rfl)
   simp only [Act.put, nS]
   refine tkH 10 ?_ rfl hbd (fun W' hW' => ?_) ?_; rotate_left; · (obtain ⟨⟨b0, b1, b2, b3⟩, d0, d1, d2, d3⟩ := box4 (box_below k0_h.out hW'); have zx0 := cell_mvd hW' cx0; have zy0 := cell_mvd hW' cy0; clear hW'; go_simp; first | done | with_reducible rfl)
   simp only [Act.put, nS]
   refine tkH 11 ?_ rfl hbd (fun W' hW' => ?_) ?_; rotate_left; · (obtain ⟨⟨b0, b1, b2, b3⟩, d0, d1, d2, d3⟩ := box4 (box_below k0_h.out hW'); have zx0 := cell_mvd hW' cx0; have zy0 := cell_mvd hW' cy0; clear hW'; go_simp; first | done | with_reducible rfl)
   simp only [Act.put, nS]
   refine relZ (P := Tryz.prog) [(8, 97), (12, 101), (13, 102), (14, 103), (15, 104), (16, 6)] (fun i => if i = 13 then [101] else if i = 14 then [97, 102] else if i = 15 then [103] else if i = 16 then [104] else []) (fun d v5 w5 => if d = 97 then PIn 2 [y0, x0] v5 w5 else if d = 101 then PV (.int .i64 (-v % p)) v5 w5 else if d = 102 then PIn 2 [1, -v % p] v5 w5 else if d = 103 then PIs n (sprV p n [y0, x0] [1, -v % p]) v5 w5 else if d = 104 then PRs 1 [sprV p n [y0, x0] [1, -v % p]] v5 w5 else if d = 6 then PRs 1 [sprV p n [y0, x0] [1, -v % p]] v5 w5 else True) (by kernel_rfl) (fun d => Stb.ite (PIn.stb _ _) (Stb.ite (PV.stb _) (Stb.ite (PIn.stb _ _) (Stb.ite (PIs.stb _ _) (Stb.ite (PRs.stb _ _) (Stb.ite (PRs.stb _ _) (Stb.true))))))) (fun w' hw' => below_trans hbd hw' hbd.size) ?steps7 ?fin7
   case steps7 =>
    refine ⟨⟨_, rfl, fun xs w5 hb5 hd K hK => ?_⟩, ⟨_, rfl, fun xs w5 hb5 hd K hK => ?_⟩, ⟨_, rfl, fun xs w5 hb5 hd K hK => ?_⟩, ⟨_, rfl, fun xs w5 hb5 hd K hK => ?_⟩, ⟨_, rfl, fun xs w5 hb5 hd K hK => ?_⟩, ⟨_, rfl, fun xs w5 hb5 hd K hK => ?_⟩, trivial⟩
    · simp only [putZ, List.foldl_cons, List.foldl_nil, Act.put, nS] at hK ⊢
      go_simp
      exact hK _ _ (below_alloc _ _) ⟨_, 2, rfl, rd_laidC w5 [y0, x0] (by unfold maxLen; simp)⟩
    · simp only [putZ, List.foldl_cons, List.foldl_nil, Act.put, nS] at hK ⊢
      refine wp_callZ (f := ?f_15) (args := ?args_15) ?hr_15 ?hc_15
      case hr_15 => (go_simp; first | done | with_reducible rfl | (constructor <;> with_reducible rfl))
      case hc_15 =>
       refine (fdNeg_any p v w5 h0 h97 hv0 hvp).mono ?_
       rintro e w6 ⟨rfl, rfl⟩
       exact ⟨_, rfl, hK _ _ (Below.refl _ _) rfl⟩
    · have e1 : xs 101 = .int .i64 (-v % p) := hd 101 (by decide)
      simp only [putZ, List.foldl_cons, List.foldl_nil, Act.put, nS] at hK ⊢
      simp only [e1] at hK ⊢
      go_simp
      exact hK _ _ (below_alloc _ _) ⟨_, 2, rfl, rd_laidC w5 [1, -v % p] (by unfold maxLen; simp)⟩
    · obtain ⟨B1, c1, e1, r1⟩ := (hd 97 (by decide) : PIn 2 [y0, x0] (xs 97) w5)
      obtain ⟨B2, c2, e2, r2⟩ := (hd 102 (by decide) : PIn 2 [1, -v % p] (xs 102) w5)
      simp only [putZ, List.foldl_cons, List.foldl_nil, Act.put, nS] at hK ⊢
      simp only [e1, e2] at hK ⊢
      refine wp_callZ (f := ?f_17) (args := ?args_17) ?hr_17 ?hc_17
      case hr_17 => (go_simp; first | done | with_reducible rfl | (constructor <;> with_reducible rfl))
      case hc_17 =>
       refine (dnRow_any p n 2 B1 B2 c1 c2 [y0, x0] [1, -v % p] w5 r1 r2 rfl rfl (fun x hx => by simp at hx; omega) (fun x hx => by simp at hx; omega) h0 h97 hn (by omega)).mono ?_
       rintro e w6 ⟨B3, c3, rfl, h3, _, hb6⟩
       have hl3 : (sprV p n [y0, x0] [1, -v % p]).length = n := sprTo_length _ _ _ _ _
       rw [hl3]
       exact ⟨_, rfl, hK _ _ hb6 ⟨B3, c3, rfl, h3⟩⟩
    · obtain ⟨B0, c0, e0, r0⟩ := (hd 103 (by decide) : PIs n (sprV p n [y0, x0] [1, -v % p]) (xs 103) w5)
      have l0 : (sprV p n [y0, x0] [1, -v % p]).length = n := sprTo_length _ _ _ _ _
      simp only [putZ, List.foldl_cons, List.foldl_nil, Act.put, nS] at hK ⊢
      simp only [e0] at hK ⊢
      go_simp
      have hp := PRs.laid w5 ([(B0, c0, sprV p n [y0, x0] [1, -v % p])] : List Hd) (fun x hx => by
       simp only [List.mem_cons, List.not_mem_nil, or_false] at hx
       subst hx
       exact r0) (by unfold maxLen; simp)
      have e5 : (([(B0, c0, sprV p n [y0, x0] [1, -v % p])] : List Hd).map Hd.val).toArray = #[.slice B0 n c0] := by simp [Hd.val, l0]
      rw [e5] at hp
      exact hK _ _ (below_alloc _ _) hp
    · have h5 := (hd 104 (by decide) : PRs 1 [sprV p n [y0, x0] [1, -v % p]] (xs 104) w5)
      simp only [putZ, List.foldl_cons, List.foldl_nil, Act.put, nS] at hK ⊢
      go_simp
      exact hK _ _ (Below.refl _ _) h5
   case fin7 =>
    intro xs w6 hb6 hR
    have h6 := (hR (16, 6) (by simp) : PRs 1 [sprV p n [y0, x0] [1, -v % p]] (xs 6) w6)
    have hbf := below_trans hB0_h.out (below_trans hbd hb6 hbd.size) hB0_h.out.size
    clear hR cx0 cy0; have h6_h := lH h6; have hbf_h := lH hbf; clear h6 hbf
    simp only [putZ, List.foldl_cons, List.foldl_nil, Act.put, nS]
    go_wp2_with (fail)
    go_ret
    exact ⟨_, rfl, h6_h.out, hbf_h.out⟩
 · have hll : l.length = 1 := by have h1 := congrArg Prod.fst hty; have h2 : (l.length : Int) = 1 := h1; omega
   have hml : m.length = 1 := by have h1 := congrArg Prod.snd hty; have h2 : (m.length : Int) = 1 := h1; omega
   clear hty hk
   obtain ⟨x0, rfl⟩ := len_one hll
   obtain ⟨y0, rfl⟩ := len_one hml
   have hM : dnRowsM p n (8, v, [x0], [y0]) = [] := rfl
   rw [hM]
   clear hM
   obtain ⟨ad, _, rfl, ex0, cx0⟩ := hA.at_ (j := 0) (by simp)
   obtain rfl := Option.some.inj ex0
   have cx0 : w.cell? ad = some (.int .i64 x0) := cx0
   have had0 : ad.add 0 = ad := rfl
   obtain ⟨bd, _, rfl, ey0, cy0⟩ := hB.at_ (j := 0) (by simp)
   obtain rfl := Option.some.inj ey0
   have cy0 : w.cell? bd = some (.int .i64 y0) := cy0
   have hbd0 : bd.add 0 = bd := rfl
   have qx0 := hat x0 (by simp)
   have qy0 := hat y0 (by simp)
   clear hat
   obtain ⟨W, hW⟩ : ∃ W, W = w.alloc (.cells #[.int .i64 8, .int .i64 v, .slice (some ad) 1 a, .slice (some bd) 1 b] tEd) := ⟨_, rfl⟩
   have bW := below_alloc w (.cells #[.int .i64 8, .int .i64 v, .slice (some ad) 1 a, .slice (some bd) 1 b] tEd)
   have k0 := heap_alloc_new w (.cells #[.int .i64 8, .int .i64 v, .slice (some ad) 1 a, .slice (some bd) 1 b] tEd)
   rw [← hW] at bW k0
   have cx0 := cell_mvd bW cx0
   have cy0 := cell_mvd bW cy0
   obtain ⟨⟨g0, g1, g2, g3⟩, f0, f1, f2, f3⟩ := box4 k0
   have bW_h := lH bW; have k0_h := lH k0; clear bW k0
   go_enter Tryz.func50, Tryz.ntmps50
   go_upto_region 1 with (fail)
   rw [← hW]
   clear hW
   go_quiet (fail)
   obtain ⟨Wd, hWd⟩ : ∃ Wd, Wd = W.drewN nq := ⟨_, rfl⟩
   have hbd : Below W.heap.size W Wd := by rw [hWd]; exact below_drewN (Below.refl _ _) nq
   rw [← hWd]
   clear hWd g0 g1 g2 g3 f0 f1 f2 f3
   replace k0_h := lH (box_below k0_h.out hbd)
   have cx0 := cell_mvd hbd cx0
   have cy0 := cell_mvd hbd cy0
   have hB0 := below_trans bW_h.out hbd bW_h.out.size
   clear hbd; have hB0_h := lH hB0; clear hB0
   obtain ⟨⟨g0, g1, g2, g3⟩, f0, f1, f2, f3⟩ := box4 k0_h.out
   go_wp2_with (fail)
   go_ret
   exact ⟨_, rfl, ⟨none, 0, [], rfl, rfl, rfl, ⟨fun i h hh => by simp at hh, fun h hh => by cases hh⟩, fun h hh => by cases hh⟩, hB0_h.out⟩
 · have hll : l.length = 2 := by have h1 := congrArg Prod.fst hty; have h2 : (l.length : Int) = 2 := h1; omega
   have hml : m.length = 1 := by have h1 := congrArg Prod.snd hty; have h2 : (m.length : Int) = 1 := h1; omega
   clear hty hk
   obtain ⟨x0, x1, rfl⟩ := len_two hll
   obtain ⟨y0, rfl⟩ := len_one hml
   have hM : dnRowsM p n (9, v, [x0, x1], [y0]) = [sprV p n [x0, y0] [1, p - 1], sprV p n [x1, y0] [1, p - 1]] := rfl
   rw [hM]
   clear hM
   obtain ⟨ad, _, rfl, ex0, cx0⟩ := hA.at_ (j := 0) (by simp)
   obtain rfl := Option.some.inj ex0
   have cx0 : w.cell? ad = some (.int .i64 x0) := cx0
   have had0 : ad.add 0 = ad := rfl
   obtain ⟨ad', _, e', ex1, cx1⟩ := hA.at_ (j := 1) (by simp)
   obtain rfl := Option.some.inj e'
   obtain rfl := Option.some.inj ex1
   have cx1 : w.cell? ⟨ad.block, ad.off + 1, none⟩ = some (.int .i64 x1) := cx1
   obtain ⟨bd, _, rfl, ey0, cy0⟩ := hB.at_ (j := 0) (by simp)
   obtain rfl := Option.some.inj ey0
   have cy0 : w.cell? bd = some (.int .i64 y0) := cy0
   have hbd0 : bd.add 0 = bd := rfl
   have qx0 := hat x0 (by simp)
   have qx1 := hat x1 (by simp)
   have qy0 := hat y0 (by simp)
   clear hat
   obtain ⟨W, hW⟩ : ∃ W, W = w.alloc (.cells #[.int .i64 9, .int .i64 v, .slice (some ad) 2 a, .slice (some bd) 1 b] tEd) := ⟨_, rfl⟩
   have bW := below_alloc w (.cells #[.int .i64 9, .int .i64 v, .slice (some ad) 2 a, .slice (some bd) 1 b] tEd)
   have k0 := heap_alloc_new w (.cells #[.int .i64 9, .int .i64 v, .slice (some ad) 2 a, .slice (some bd) 1 b] tEd)
   rw [← hW] at bW k0
   have cx0 := cell_mvd bW cx0
   have cx1 := cell_mvd bW cx1
   have cy0 := cell_mvd bW cy0
   obtain ⟨⟨g0, g1, g2, g3⟩, f0, f1, f2, f3⟩ := box4 k0
   have bW_h := lH bW; have k0_h := lH k0; clear bW k0
   go_enter Tryz.func50, Tryz.ntmps50
   go_upto_region 1 with (fail)
   rw [← hW]
   clear hW
   go_quiet (fail)
   obtain ⟨Wd, hWd⟩ : ∃ Wd, Wd = W.drewN nq := ⟨_, rfl⟩
   have hbd : Below W.heap.size W Wd := by rw [hWd]; exact below_drewN (Below.refl _ _) nq
   rw [← hWd]
   clear hWd g0 g1 g2 g3 f0 f1 f2 f3
   replace k0_h := lH (box_below k0_h.out hbd)
   have cx0 := cell_mvd hbd cx0
   have cx1 := cell_mvd hbd cx1
   have cy0 := cell_mvd hbd cy0
   have hB0 := below_trans bW_h.out hbd bW_h.out.size
   clear hbd; have hB0_h := lH hB0; clear hB0
   obtain ⟨⟨g0, g1, g2, g3⟩, f0, f1, f2, f3⟩ := box4 k0_h.out
   go_wp2_with (fail)
   go_quiet (fail)
   obtain ⟨We, hWe⟩ : ∃ We, We = Wd.drewN nq := ⟨_, rfl⟩
   have hbe : Below Wd.heap.size Wd We := by rw [hWe]; exact below_drewN (Below.refl _ _) nq
   rw [← hWe]
   clear hWe g0 g1 g2 g3 f0 f1 f2 f3
   replace k0_h := lH (box_below k0_h.out hbe)
   have cx0 := cell_mvd hbe cx0
   have cx1 := cell_mvd hbe cx1
   have cy0 := cell_mvd hbe cy0
   have hB1 := below_trans hB0_h.out hbe hB0_h.out.size
   clear hbe; have hB1_h := lH hB1; clear hB1
   obtain ⟨⟨g0, g1, g2, g3⟩, f0, f1, f2, f3⟩ := box4 k0_h.out
   go_wp2_with (fail)
   clear g0 g1 g2 g3 f0 f1 f2 f3
   have hbd : Below We.heap.size We We.drew := below_drewN (Below.refl _ _) 1
   refine beginH (fun w' => Below We.heap.size We w') (by kernel_rfl) ?_
   generalize We.drew = W1 at hbd ⊢
   refine tkH 0 ?_ rfl hbd (fun W' hW' => ?_) ?_; rotate_left; · (have zx0 := cell_mvd hW' cx0; have zx1 := cell_mvd hW' cx1; have zy0 := cell_mvd hW' cy0; clear hW'; go_simp; first | done | with_reducible rfl)
   simp only [Act.put, nS]
   refine tkH 1 ?_ rfl hbd (fun W' hW' => ?_) ?_; rotate_left; · (have zx0 := cell_mvd hW' cx0; have zx1 := cell_mvd hW' cx1; have zy0 := cell_mvd hW' cy0; clear hW'; go_simp; first | done | with_reducible rfl)
   simp only [Act.put, nS]
   refine tkH 2 ?_ rfl hbd (fun W' hW' => ?_) ?_; rotate_left; · (have zx0 := cell_mvd hW' cx0; have zx1 := cell_mvd hW' cx1; have zy0 := cell_mvd hW' cy0; clear hW'; go_simp; first | done | with_reducible rfl)
   simp only [Act.put, nS]
   refine tkH 3 ?_ rfl hbd (fun W' hW' => ?_) ?_; rotate_left; · (have zx0 := cell_mvd hW' cx0; have zx1 := cell_mvd hW' cx1; have zy0 := cell_mvd hW' cy0; clear hW'; go_simp; first | done | with_reducible rfl)
   simp only [Act.put, nS]
   refine tkH 4 ?_ rfl hbd (fun W' hW' => ?_) ?_; rotate_left; · (have zx0 := cell_mvd hW' cx0; have zx1 := cell_mvd hW' cx1; have zy0 := cell_mvd hW' cy0; clear hW'; go_simp; first | done | with_reducible rfl)
   simp only [Act.put, nS]
   refine tkH 5 ?_ rfl hbd (fun W' hW' => ?_) ?_; rotate_left; · (have zx0 := cell_mvd hW' cx0; have zx1 := cell_mvd hW' cx1; have zy0 := cell_mvd hW' cy0; clear hW'; go_simp; first | done | with_reducible rfl)
   simp only [Act.put, nS]
   refine tkH 6 ?_ rfl hbd (fun W' hW' => ?_) ?_; rotate_left; · (have zx0 := cell_mvd hW' cx0; have zx1 := cell_mvd hW' cx1; have zy0 := cell_mvd hW' cy0; clear hW'; go_simp; first | done | with_reducible rfl)
   simp only [Act.put, nS]
   refine tkH 7 ?_ rfl hbd (fun W' hW' => ?_) ?_; rotate_left; · (have zx0 := cell_mvd hW' cx0; have zx1 := cell_mvd hW' cx1; have zy0 := cell_mvd hW' cy0; clear hW'; go_simp; first | done | with_reducible rfl)
   simp only [Act.put, nS]
   refine tkH 9 ?_ rfl hbd (fun W' hW' => ?_) ?_; rotate_left; · (have zx0 := cell_mvd hW' cx0; have zx1 := cell_mvd hW' cx1; have zy0 := cell_mvd hW' cy0; clear hW'; go_simp; first | done | with_reducible rfl)
   simp only [Act.put, nS]
   refine tkH 10 ?_ rfl hbd (fun W' hW' => ?_) ?_; rotate_left; · (have zx0 := cell_mvd hW' cx0; have zx1 := cell_mvd hW' cx1; have zy0 := cell_mvd hW' cy0; clear hW'; go_simp; first | done | with_reducible rfl)
   simp only [Act.put, nS]
   refine tkH 13 ?_ rfl hbd (fun W' hW' => ?_) ?_; rotate_left; · (have zx0 := cell_mvd hW' cx0; have zx1 := cell_mvd hW' cx1; have zy0 := cell_mvd hW' cy0; clear hW'; go_simp; first | done | with_reducible rfl)
   simp only [Act.put, nS]
   refine tkH 14 ?_ rfl hbd (fun W' hW' => ?_) ?_; rotate_left; · (have zx0 := cell_mvd hW' cx0; have zx1 := cell_mvd hW' cx1; have zy0 := cell_mvd hW' cy0; clear hW'; go_simp; first | done | with_reducible rfl)
   simp only [Act.put, nS]
   refine tkH 15 ?_ rfl hbd (fun W' hW' => ?_) ?_; rotate_left; · (have zx0 := cell_mvd hW' cx0; have zx1 := cell_mvd hW' cx1; have zy0 := cell_mvd hW' cy0; clear hW'; go_simp; first | done | with_reducible rfl)
   simp only [Act.put, nS]
   refine tkH 16 ?_ rfl hbd (fun W' hW' => ?_) ?_; rotate_left; · (have zx0 := cell_mvd hW' cx0; have zx1 := cell_mvd hW' cx1; have zy0 := cell_mvd hW' cy0; clear hW'; go_simp; first | done | with_reducible rfl)
   simp only [Act.put, nS]
   refine tkH 17 ?_ rfl hbd (fun W' hW' => ?_) ?_; rotate_left; · (have zx0 := cell_mvd hW' cx0; have zx1 := cell_mvd hW' cx1; have zy0 := cell_mvd hW' cy0; clear hW'; go_simp; first | done | with_reducible rfl)
   simp only [Act.put, nS]
   refine tkH 18 ?_ rfl hbd (fun W' hW' => ?_) ?_; rotate_left; · (have zx0 := cell_mvd hW' cx0; have zx1 := cell_mvd hW' cx1; have zy0 := cell_mvd hW' cy0; clear hW'; go_simp; first | done | with_reducible rfl)
   simp only [Act.put, nS]
   refine tkH 19 ?_ rfl hbd (fun W' hW' => ?_) ?_; rotate_left; · (have zx0 := cell_mvd hW' cx0; have zx1 := cell_mvd hW' cx1; have zy0 := cell_mvd hW' cy0; clear hW'; go_simp; first | done | with_reducible rfl)
   simp only [Act.put, nS]
   refine tkH 20 ?_ rfl hbd (fun W' hW' => ?_) ?_; rotate_left; · (have zx0 := cell_mvd hW' cx0; have zx1 := cell_mvd hW' cx1; have zy0 := cell_mvd hW' cy0; clear hW'; go_simp; first | done | with_reducible rfl)
   simp only [Act.put, nS]
   refine tkH 22 ?_ rfl hbd (fun W' hW' => ?_) ?_; rotate_left; · (have zx0 := cell_mvd hW' cx0; have zx1 := cell_mvd hW' cx1; have zy0 := cell_mvd hW' cy0; clear hW'; go_simp; first | done | with_reducible rfl)
   simp only [Act.put, nS]
   refine tkH 23 ?_ rfl hbd (fun W' hW' => ?_) ?_; rotate_left; · (have zx0 := cell_mvd hW' cx0; have zx1 := cell_mvd hW' cx1; have zy0 := cell_mvd hW' cy0; clear hW'; go_simp; first | done | with_reducible rfl)
   simp only [Act.put, nS]
   refine relZ (P := Tryz.prog) [(8, 36), (11, 39), (12, 40), (21, 49), (24, 52), (25, 53), (26, 54), (27, 6)] (fun i => if i = 12 then [36, 39] else if i = 25 then [49, 52] else if i = 26 then [40, 53] else if i = 27 then [54] else []) (fun d v5 w5 => if d = 36 then PIn 2 [x0, y0] v5 w5 else if d = 39 then PIn 2 [1, p - 1] v5 w5 else if d = 40 then PIs n (sprV p n [x0, y0] [1, p - 1]) v5 w5 else if d = 49 then PIn 2 [x1, y0] v5 w5 else if d = 52 then PIn 2 [1, p - 1] v5 w5 else if d = 53 then PIs n (sprV p n [x1, y0] [1, p - 1]) v5 w5 else if d = 54 then PRs 2 [sprV p n [x0, y0] [1, p - 1], sprV p n [x1, y0] [1, p - 1]] v5 w5 else if d = 6 then PRs 2 [sprV p n [x0, y0] [1, p - 1], sprV p n [x1, y0] [1, p - 1]] v5 w5 else True) (by kernel_rfl) (fun d => Stb.ite (PIn.stb _ _) (Stb.ite (PIn.stb _ _) (Stb.ite (PIs.stb _ _) (Stb.ite (PIn.stb _ _) (Stb.ite (PIn.stb _ _) (Stb.ite (PIs.stb _ _) (Stb.ite (PRs.stb _ _) (Stb.ite (PRs.stb _ _) (Stb.true))))))))) (fun w' hw' => below_trans hbd hw' hbd.size) ?steps9 ?fin9
   case steps9 =>
    refine ⟨⟨_, rfl, fun xs w5 hb5 hd K hK => ?_⟩, ⟨_, rfl, fun xs w5 hb5 hd K hK => ?_⟩, ⟨_, rfl, fun xs w5 hb5 hd K hK => ?_⟩, ⟨_, rfl, fun xs w5 hb5 hd K hK => ?_⟩, ⟨_, rfl, fun xs w5 hb5 hd K hK => ?_⟩, ⟨_, rfl, fun xs w5 hb5 hd K hK => ?_⟩, ⟨_, rfl, fun xs w5 hb5 hd K hK => ?_⟩, ⟨_, rfl, fun xs w5 hb5 hd K hK => ?_⟩, trivial⟩
    · simp only [putZ, List.foldl_cons, List.foldl_nil, Act.put, nS] at hK ⊢
      go_simp
      exact hK _ _ (below_alloc _ _) ⟨_, 2, rfl, rd_laidC w5 [x0, y0] (by unfold maxLen; simp)⟩
    · simp only [putZ, List.foldl_cons, List.foldl_nil, Act.put, nS] at hK ⊢
      go_simp
      exact hK _ _ (below_alloc _ _) ⟨_, 2, rfl, rd_laidC w5 [1, p - 1] (by unfold maxLen; simp)⟩
    · obtain ⟨B1, c1, e1, r1⟩ := (hd 36 (by decide) : PIn 2 [x0, y0] (xs 36) w5)
      obtain ⟨B2, c2, e2, r2⟩ := (hd 39 (by decide) : PIn 2 [1, p - 1] (xs 39) w5)
      simp only [putZ, List.foldl_cons, List.foldl_nil, Act.put, nS] at hK ⊢
      simp only [e1, e2] at hK ⊢
      refine wp_callZ (f := ?f_22) (args := ?args_22) ?hr_22 ?hc_22
      case hr_22 => (go_simp; first | done | with_reducible rfl | (constructor <;> with_reducible rfl))
      case hc_22 =>
       refine (dnRow_any p n 2 B1 B2 c1 c2 [x0, y0] [1, p - 1] w5 r1 r2 rfl rfl (fun x hx => by simp at hx; omega) (fun x hx => by simp at hx; omega) h0 h97 hn (by omega)).mono ?_
       rintro e w6 ⟨B3, c3, rfl, h3, _, hb6⟩
       have hl3 : (sprV p n [x0, y0] [1, p - 1]).length = n := sprTo_length _ _ _ _ _
       rw [hl3]
       exact ⟨_, rfl, hK _ _ hb6 ⟨B3, c3, rfl, h3⟩⟩
    · simp only [putZ, List.foldl_cons, List.foldl_nil, Act.put, nS] at hK ⊢
      go_simp
      exact hK _ _ (below_alloc _ _) ⟨_, 2, rfl, rd_laidC w5 [x1, y0] (by unfold maxLen; simp)⟩
    · simp only [putZ, List.foldl_cons, List.foldl_nil, Act.put, nS] at hK ⊢
      go_simp
      exact hK _ _ (below_alloc _ _) ⟨_, 2, rfl, rd_laidC w5 [1, p - 1] (by unfold maxLen; simp)⟩
    · obtain ⟨B1, c1, e1, r1⟩ := (hd 49 (by decide) : PIn 2 [x1, y0] (xs 49) w5)
      obtain ⟨B2, c2, e2, r2⟩ := (hd 52 (by decide) : PIn 2 [1, p - 1] (xs 52) w5)
      simp only [putZ, List.foldl_cons, List.foldl_nil, Act.put, nS] at hK ⊢
      simp only [e1, e2] at hK ⊢
      refine wp_callZ (f := ?f_25) (args := ?args_25) ?hr_25 ?hc_25
      case hr_25 => (go_simp; first | done | with_reducible rfl | (constructor <;> with_reducible rfl))
      case hc_25 =>
       refine (dnRow_any p n 2 B1 B2 c1 c2 [x1, y0] [1, p - 1] w5 r1 r2 rfl rfl (fun x hx => by simp at hx; omega) (fun x hx => by simp at hx; omega) h0 h97 hn (by omega)).mono ?_
       rintro e w6 ⟨B3, c3, rfl, h3, _, hb6⟩
       have hl3 : (sprV p n [x1, y0] [1, p - 1]).length = n := sprTo_length _ _ _ _ _
       rw [hl3]
       exact ⟨_, rfl, hK _ _ hb6 ⟨B3, c3, rfl, h3⟩⟩
    · obtain ⟨B0, c0, e0, r0⟩ := (hd 40 (by decide) : PIs n (sprV p n [x0, y0] [1, p - 1]) (xs 40) w5)
      obtain ⟨B1, c1, e1, r1⟩ := (hd 53 (by decide) : PIs n (sprV p n [x1, y0] [1, p - 1]) (xs 53) w5)
      have l0 : (sprV p n [x0, y0] [1, p - 1]).length = n := sprTo_length _ _ _ _ _
      have l1 : (sprV p n [x1, y0] [1, p - 1]).length = n := sprTo_length _ _ _ _ _
      simp only [putZ, List.foldl_cons, List.foldl_nil, Act.put, nS] at hK ⊢
      simp only [e0, e1] at hK ⊢
      go_simp
      have hp := PRs.laid w5 ([(B0, c0, sprV p n [x0, y0] [1, p - 1]), (B1, c1, sprV p n [x1, y0] [1, p - 1])] : List Hd) (fun x hx => by
       simp only [List.mem_cons, List.not_mem_nil, or_false] at hx
       rcases hx with rfl | rfl
       · exact r0
       · exact r1) (by unfold maxLen; simp)
      have e5 : (([(B0, c0, sprV p n [x0, y0] [1, p - 1]), (B1, c1, sprV p n [x1, y0] [1, p - 1])] : List Hd).map Hd.val).toArray = #[.slice B0 n c0, .slice B1 n c1] := by simp [Hd.val, l0, l1]
      rw [e5] at hp
      exact hK _ _ (below_alloc _ _) hp
    · have h5 := (hd 54 (by decide) : PRs 2 [sprV p n [x0, y0] [1, p - 1], sprV p n [x1, y0] [1, p - 1]] (xs 54) w5)
      simp only [putZ, List.foldl_cons, List.foldl_nil, Act.put, nS] at hK ⊢
      go_simp
      exact hK _ _ (Below.refl _ _) h5
   case fin9 =>
    intro xs w6 hb6 hR
    have h6 := (hR (27, 6) (by simp) : PRs 2 [sprV p n [x0, y0] [1, p - 1], sprV p n [x1, y0] [1, p - 1]] (xs 6) w6)
    have hbf := below_trans hB1_h.out (below_trans hbd hb6 hbd.size) hB1_h.out.size
    clear hR cx0 cx1 cy0; have h6_h := lH h6; have hbf_h := lH hbf; clear h6 hbf
    simp only [putZ, List.foldl_cons, List.foldl_nil, Act.put, nS]
    go_wp2_with (fail)
    go_ret
    exact ⟨_, rfl, h6_h.out, hbf_h.out⟩
 · have hll : l.length = 0 := by have h1 := congrArg Prod.fst hty; have h2 : (l.length : Int) = 0 := h1; omega
   have hml : m.length = 1 := by have h1 := congrArg Prod.snd hty; have h2 : (m.length : Int) = 1 := h1; omega
   clear hty hk
   obtain rfl : l = [] := List.eq_nil_of_length_eq_zero hll
   obtain ⟨y0, rfl⟩ := len_one hml
   have hM : dnRowsM p n (10, v, [], [y0]) = [] := rfl
   rw [hM]
   clear hM
   obtain ⟨bd, _, rfl, ey0, cy0⟩ := hB.at_ (j := 0) (by simp)
   obtain rfl := Option.some.inj ey0
   have cy0 : w.cell? bd = some (.int .i64 y0) := cy0
   have hbd0 : bd.add 0 = bd := rfl
   have qy0 := hat y0 (by simp)
   clear hat
   obtain ⟨W, hW⟩ : ∃ W, W = w.alloc (.cells #[.int .i64 10, .int .i64 v, .slice A 0 a, .slice (some bd) 1 b] tEd) := ⟨_, rfl⟩
   have bW := below_alloc w (.cells #[.int .i64 10, .int .i64 v, .slice A 0 a, .slice (some bd) 1 b] tEd)
   have k0 := heap_alloc_new w (.cells #[.int .i64 10, .int .i64 v, .slice A 0 a, .slice (some bd) 1 b] tEd)
   rw [← hW] at bW k0
   have cy0 := cell_mvd bW cy0
   obtain ⟨⟨g0, g1, g2, g3⟩, f0, f1, f2, f3⟩ := box4 k0
   have bW_h := lH bW; have k0_h := lH k0; clear bW k0
   go_enter Tryz.func50, Tryz.ntmps50
   go_upto_region 1 with (fail)
   rw [← hW]
   clear hW
   go_quiet (fail)
   obtain ⟨Wd, hWd⟩ : ∃ Wd, Wd = W.drewN nq := ⟨_, rfl⟩
   have hbd : Below W.heap.size W Wd := by rw [hWd]; exact below_drewN (Below.refl _ _) nq
   rw [← hWd]
   clear hWd g0 g1 g2 g3 f0 f1 f2 f3
   replace k0_h := lH (box_below k0_h.out hbd)
   have cy0 := cell_mvd hbd cy0
   have hB0 := below_trans bW_h.out hbd bW_h.out.size
   clear hbd; have hB0_h := lH hB0; clear hB0
   obtain ⟨⟨g0, g1, g2, g3⟩, f0, f1, f2, f3⟩ := box4 k0_h.out
   go_wp2_with (fail)
   go_quiet (fail)
   obtain ⟨We, hWe⟩ : ∃ We, We = Wd.drewN nq := ⟨_, rfl⟩
   have hbe : Below Wd.heap.size Wd We := by rw [hWe]; exact below_drewN (Below.refl _ _) nq
   rw [← hWe]
   clear hWe g0 g1 g2 g3 f0 f1 f2 f3
   replace k0_h := lH (box_below k0_h.out hbe)
   have cy0 := cell_mvd hbe cy0
   have hB1 := below_trans hB0_h.out hbe hB0_h.out.size
   clear hbe; have hB1_h := lH hB1; clear hB1
   obtain ⟨⟨g0, g1, g2, g3⟩, f0, f1, f2, f3⟩ := box4 k0_h.out
   go_wp2_with (fail)
   go_ret
   exact ⟨_, rfl, ⟨none, 0, [], rfl, rfl, rfl, ⟨fun i h hh => by simp at hh, fun h hh => by cases hh⟩, fun h hh => by cases hh⟩, hB1_h.out⟩
 · have hll : l.length = 1 := by have h1 := congrArg Prod.fst hty; have h2 : (l.length : Int) = 1 := h1; omega
   have hml : m.length = 2 := by have h1 := congrArg Prod.snd hty; have h2 : (m.length : Int) = 2 := h1; omega
   clear hty hk
   obtain ⟨x0, rfl⟩ := len_one hll
   obtain ⟨y0, y1, rfl⟩ := len_two hml
   have hM : dnRowsM p n (11, v, [x0], [y0, y1]) = [sprV p n [x0, y0, y1] [1, p - 1, p - 1]] := rfl
   rw [hM]
   clear hM
   obtain ⟨ad, _, rfl, ex0, cx0⟩ := hA.at_ (j := 0) (by simp)
   obtain rfl := Option.some.inj ex0
   have cx0 : w.cell? ad = some (.int .i64 x0) := cx0
   have had0 : ad.add 0 = ad := rfl
   obtain ⟨bd, _, rfl, ey0, cy0⟩ := hB.at_ (j := 0) (by simp)
   obtain rfl := Option.some.inj ey0
   have cy0 : w.cell? bd = some (.int .i64 y0) := cy0
   have hbd0 : bd.add 0 = bd := rfl
   obtain ⟨ad', _, e', ey1, cy1⟩ := hB.at_ (j := 1) (by simp)
   obtain rfl := Option.some.inj e'
   obtain rfl := Option.some.inj ey1
   have cy1 : w.cell? ⟨bd.block, bd.off + 1, none⟩ = some (.int .i64 y1) := cy1
   have qx0 := hat x0 (by simp)
   have qy0 := hat y0 (by simp)
   have qy1 := hat y1 (by simp)
   clear hat
   obtain ⟨W, hW⟩ : ∃ W, W = w.alloc (.cells #[.int .i64 11, .int .i64 v, .slice (some ad) 1 a, .slice (some bd) 2 b] tEd) := ⟨_, rfl⟩
   have bW := below_alloc w (.cells #[.int .i64 11, .int .i64 v, .slice (some ad) 1 a, .slice (some bd) 2 b] tEd)
   have k0 := heap_alloc_new w (.cells #[.int .i64 11, .int .i64 v, .slice (some ad) 1 a, .slice (some bd) 2 b] tEd)
   rw [← hW] at bW k0
   have cx0 := cell_mvd bW cx0
   have cy0 := cell_mvd bW cy0
   have cy1 := cell_mvd bW cy1
   obtain ⟨⟨g0, g1, g2, g3⟩, f0, f1, f2, f3⟩ := box4 k0
   have bW_h := lH bW; have k0_h := lH k0; clear bW k0
   go_enter Tryz.func50, Tryz.ntmps50
   go_upto_region 1 with (fail)
   rw [← hW]
   clear hW
   go_quiet (fail)
   obtain ⟨Wd, hWd⟩ : ∃ Wd, Wd = W.drewN nq := ⟨_, rfl⟩
   have hbd : Below W.heap.size W Wd := by rw [hWd]; exact below_drewN (Below.refl _ _) nq
   rw [← hWd]
   clear hWd g0 g1 g2 g3 f0 f1 f2 f3
   replace k0_h := lH (box_below k0_h.out hbd)
   have cx0 := cell_mvd hbd cx0
   have cy0 := cell_mvd hbd cy0
   have cy1 := cell_mvd hbd cy1
   have hB0 := below_trans bW_h.out hbd bW_h.out.size
   clear hbd; have hB0_h := lH hB0; clear hB0
   obtain ⟨⟨g0, g1, g2, g3⟩, f0, f1, f2, f3⟩ := box4 k0_h.out
   go_wp2_with (fail)
   go_quiet (fail)
   obtain ⟨We, hWe⟩ : ∃ We, We = Wd.drewN nq := ⟨_, rfl⟩
   have hbe : Below Wd.heap.size Wd We := by rw [hWe]; exact below_drewN (Below.refl _ _) nq
   rw [← hWe]
   clear hWe g0 g1 g2 g3 f0 f1 f2 f3
   replace k0_h := lH (box_below k0_h.out hbe)
   have cx0 := cell_mvd hbe cx0
   have cy0 := cell_mvd hbe cy0
   have cy1 := cell_mvd hbe cy1
   have hB1 := below_trans hB0_h.out hbe hB0_h.out.size
   clear hbe; have hB1_h := lH hB1; clear hB1
   obtain ⟨⟨g0, g1, g2, g3⟩, f0, f1, f2, f3⟩ := box4 k0_h.out
   go_wp2_with (fail)
   clear g0 g1 g2 g3 f0 f1 f2 f3
   have hbd : Below We.heap.size We We.drew := below_drewN (Below.refl _ _) 1
   refine beginH (fun w' => Below We.heap.size We w') (by kernel_rfl) ?_
   generalize We.drew = W1 at hbd ⊢
   refine tkH 0 ?_ rfl hbd (fun W' hW' => ?_) ?_; rotate_left; · (have zx0 := cell_mvd hW' cx0; have zy0 := cell_mvd hW' cy0; have zy1 := cell_mvd hW' cy1; clear hW'; go_simp; first | done | with_reducible rfl)
   simp only [Act.put, nS]
   refine tkH 1 ?_ rfl hbd (fun W' hW' => ?_) ?_; rotate_left; · (have zx0 := cell_mvd hW' cx0; have zy0 := cell_mvd hW' cy0; have zy1 := cell_mvd hW' cy1; clear hW'; go_simp; first | done | with_reducible rfl)
   simp only [Act.put, nS]
   refine tkH 2 ?_ rfl hbd (fun W' hW' => ?_) ?_; rotate_left; · (have zx0 := cell_mvd hW' cx0; have zy0 := cell_mvd hW' cy0; have zy1 := cell_mvd hW' cy1; clear hW'; go_simp; first | done | with_reducible rfl)
   simp only [Act.put, nS]
   refine tkH 3 ?_ rfl hbd (fun W' hW' => ?_) ?_; rotate_left; · (have zx0 := cell_mvd hW' cx0; have zy0 := cell_mvd hW' cy0; have zy1 := cell_mvd hW' cy1; clear hW'; go_simp; first | done | with_reducible rfl)
   simp only [Act.put, nS]
   refine tkH 4 ?_ rfl hbd (fun W' hW' => ?_) ?_; rotate_left; · (have zx0 := cell_mvd hW' cx0; have zy0 := cell_mvd hW' cy0; have zy1 := cell_mvd hW' cy1; clear hW'; go_simp; first | done | with_reducible rfl)
   simp only [Act.put, nS]
   refine tkH 5 ?_ rfl hbd (fun W' hW' => ?_) ?_; rotate_left; · (have zx0 := cell_mvd hW' cx0; have zy0 := cell_mvd hW' cy0; have zy1 := cell_mvd hW' cy1; clear hW'; go_simp; first | done | with_reducible rfl)
   simp only [Act.put, nS]
   refine tkH 6 ?_ rfl hbd (fun W' hW' => ?_) ?_; rotate_left; · (have zx0 := cell_mvd hW' cx0; have zy0 := cell_mvd hW' cy0; have zy1 := cell_mvd hW' cy1; clear hW'; go_simp; first | done | with_reducible rfl)
   simp only [Act.put, nS]
   refine tkH 7 ?_ rfl hbd (fun W' hW' => ?_) ?_; rotate_left; · (have zx0 := cell_mvd hW' cx0; have zy0 := cell_mvd hW' cy0; have zy1 := cell_mvd hW' cy1; clear hW'; go_simp; first | done | with_reducible rfl)
   simp only [Act.put, nS]
   refine tkH 8 ?_ rfl hbd (fun W' hW' => ?_) ?_; rotate_left; · (have zx0 := cell_mvd hW' cx0; have zy0 := cell_mvd hW' cy0; have zy1 := cell_mvd hW' cy1; clear hW'; go_simp; first | done | with_reducible rfl)
   simp only [Act.put, nS]
   refine tkH 9 ?_ rfl hbd (fun W' hW' => ?_) ?_; rotate_left; · (have zx0 := cell_mvd hW' cx0; have zy0 := cell_mvd hW' cy0; have zy1 := cell_mvd hW' cy1; clear hW'; go_simp; first | done | with_reducible rfl)
   simp only [Act.put, nS]
   refine tkH 10 ?_ rfl hbd (fun W' hW' => ?_) ?_; rotate_left; · (have zx0 := cell_mvd hW' cx0; have zy0 := cell_mvd hW' cy0; have zy1 := cell_mvd hW' cy1; clear hW'; go_simp; first | done | with_reducible rfl)
   simp only [Act.put, nS]
   refine tkH 12 ?_ rfl hbd (fun W' hW' => ?_) ?_; rotate_left; · (have zx0 := cell_mvd hW' cx0; have zy0 := cell_mvd hW' cy0; have zy1 := cell_mvd hW' cy1; clear hW'; go_simp; first | done | with_reducible rfl)
   simp only [Act.put, nS]
   refine tkH 13 ?_ rfl hbd (fun W' hW' => ?_) ?_; rotate_left; · (have zx0 := cell_mvd hW' cx0; have zy0 := cell_mvd hW' cy0; have zy1 := cell_mvd hW' cy1; clear hW'; go_simp; first | done | with_reducible rfl)
   simp only [Act.put, nS]
   refine tkH 14 ?_ rfl hbd (fun W' hW' => ?_) ?_; rotate_left; · (have zx0 := cell_mvd hW' cx0; have zy0 := cell_mvd hW' cy0; have zy1 := cell_mvd hW' cy1; clear hW'; go_simp; first | done | with_reducible rfl)
   simp only [Act.put, nS]
   refine tkH 15 ?_ rfl hbd (fun W' hW' => ?_) ?_; rotate_left; · (have zx0 := cell_mvd hW' cx0; have zy0 := cell_mvd hW' cy0; have zy1 := cell_mvd hW' cy1; clear hW'; go_simp; first | done | with_reducible rfl)
   simp only [Act.put, nS]
   refine relZ (P := Tryz.prog) [(11, 68), (16, 73), (17, 74), (18, 75), (19, 6)] (fun i => if i = 17 then [68, 73] else if i = 18 then [74] else if i = 19 then [75] else []) (fun d v5 w5 => if d = 68 then PIn 3 [x0, y0, y1] v5 w5 else if d = 73 then PIn 3 [1, p - 1, p - 1] v5 w5 else if d = 74 then PIs n (sprV p n [x0, y0, y1] [1, p - 1, p - 1]) v5 w5 else if d = 75 then PRs 1 [sprV p n [x0, y0, y1] [1, p - 1, p - 1]] v5 w5 else if d = 6 then PRs 1 [sprV p n [x0, y0, y1] [1, p - 1, p - 1]] v5 w5 else True) (by kernel_rfl) (fun d => Stb.ite (PIn.stb _ _) (Stb.ite (PIn.stb _ _) (Stb.ite (PIs.stb _ _) (Stb.ite (PRs.stb _ _) (Stb.ite (PRs.stb _ _) (Stb.true)))))) (fun w' hw' => below_trans hbd hw' hbd.size) ?steps11 ?fin11
   case steps11 =>
    refine ⟨⟨_, rfl, fun xs w5 hb5 hd K hK => ?_⟩, ⟨_, rfl, fun xs w5 hb5 hd K hK => ?_⟩, ⟨_, rfl, fun xs w5 hb5 hd K hK => ?_⟩, ⟨_, rfl, fun xs w5 hb5 hd K hK => ?_⟩, ⟨_, rfl, fun xs w5 hb5 hd K hK => ?_⟩, trivial⟩
    · simp only [putZ, List.foldl_cons, List.foldl_nil, Act.put, nS] at hK ⊢
      go_simp
      exact hK _ _ (below_alloc _ _) ⟨_, 3, rfl, rd_laidC w5 [x0, y0, y1] (by unfold maxLen; simp)⟩
    · simp only [putZ, List.foldl_cons, List.foldl_nil, Act.put, nS] at hK ⊢
      go_simp
      exact hK _ _ (below_alloc _ _) ⟨_, 3, rfl, rd_laidC w5 [1, p - 1, p - 1] (by unfold maxLen; simp)⟩
    · obtain ⟨B1, c1, e1, r1⟩ := (hd 68 (by decide) : PIn 3 [x0, y0, y1] (xs 68) w5)
      obtain ⟨B2, c2, e2, r2⟩ := (hd 73 (by decide) : PIn 3 [1, p - 1, p - 1] (xs 73) w5)
      simp only [putZ, List.foldl_cons, List.foldl_nil, Act.put, nS] at hK ⊢
      simp only [e1, e2] at hK ⊢
      refine wp_callZ (f := ?f_30) (args := ?args_30) ?hr_30 ?hc_30
      case hr_30 => (go_simp; first | done | with_reducible rfl | (constructor <;> with_reducible rfl))
      case hc_30 =>
       refine (dnRow_any p n 3 B1 B2 c1 c2 [x0, y0, y1] [1, p - 1, p - 1] w5 r1 r2 rfl rfl (fun x hx => by simp at hx; omega) (fun x hx => by simp at hx; omega) h0 h97 hn (by omega)).mono ?_
       rintro e w6 ⟨B3, c3, rfl, h3, _, hb6⟩
       have hl3 : (sprV p n [x0, y0, y1] [1, p - 1, p - 1]).length = n := sprTo_length _ _ _ _ _
       rw [hl3]
       exact ⟨_, rfl, hK _ _ hb6 ⟨B3, c3, rfl, h3⟩⟩
    · obtain ⟨B0, c0, e0, r0⟩ := (hd 74 (by decide) : PIs n (sprV p n [x0, y0, y1] [1, p - 1, p - 1]) (xs 74) w5)
      have l0 : (sprV p n [x0, y0, y1] [1, p - 1, p - 1]).length = n := sprTo_length _ _ _ _ _
      simp only [putZ, List.foldl_cons, List.foldl_nil, Act.put, nS] at hK ⊢
      simp only [e0] at hK ⊢
      go_simp
      have hp := PRs.laid w5 ([(B0, c0, sprV p n [x0, y0, y1] [1, p - 1, p - 1])] : List Hd) (fun x hx => by
       simp only [List.mem_cons, List.not_mem_nil, or_false] at hx
       subst hx
       exact r0) (by unfold maxLen; simp)
      have e5 : (([(B0, c0, sprV p n [x0, y0, y1] [1, p - 1, p - 1])] : List Hd).map Hd.val).toArray = #[.slice B0 n c0] := by simp [Hd.val, l0]
      rw [e5] at hp
      exact hK _ _ (below_alloc _ _) hp
    · have h5 := (hd 75 (by decide) : PRs 1 [sprV p n [x0, y0, y1] [1, p - 1, p - 1]] (xs 75) w5)
      simp only [putZ, List.foldl_cons, List.foldl_nil, Act.put, nS] at hK ⊢
      go_simp
      exact hK _ _ (Below.refl _ _) h5
   case fin11 =>
    intro xs w6 hb6 hR
    have h6 := (hR (19, 6) (by simp) : PRs 1 [sprV p n [x0, y0, y1] [1, p - 1, p - 1]] (xs 6) w6)
    have hbf := below_trans hB1_h.out (below_trans hbd hb6 hbd.size) hB1_h.out.size
    clear hR cx0 cy0 cy1; have h6_h := lH h6; have hbf_h := lH hbf; clear h6 hbf
    simp only [putZ, List.foldl_cons, List.foldl_nil, Act.put, nS]
    go_wp2_with (fail)
    go_ret
    exact ⟨_, rfl, h6_h.out, hbf_h.out⟩
 · have hll : l.length = 1 := by have h1 := congrArg Prod.fst hty; have h2 : (l.length : Int) = 1 := h1; omega
   have hml : m.length = 0 := by have h1 := congrArg Prod.snd hty; have h2 : (m.length : Int) = 0 := h1; omega
   clear hty hk
   obtain ⟨x0, rfl⟩ := len_one hll
   obtain rfl : m = [] := List.eq_nil_of_length_eq_zero hml
   have hM : dnRowsM p n (12, v, [x0], []) = [sprV p n [x0] [1]] := rfl
   rw [hM]
   clear hM
   obtain ⟨ad, _, rfl, ex0, cx0⟩ := hA.at_ (j := 0) (by simp)
   obtain rfl := Option.some.inj ex0
   have cx0 : w.cell? ad = some (.int .i64 x0) := cx0
   have had0 : ad.add 0 = ad := rfl
   have qx0 := hat x0 (by simp)
   clear hat
   obtain ⟨W, hW⟩ : ∃ W, W = w.alloc (.cells #[.int .i64 12, .int .i64 v, .slice (some ad) 1 a, .slice B 0 b] tEd) := ⟨_, rfl⟩
   have bW := below_alloc w (.cells #[.int .i64 12, .int .i64 v, .slice (some ad) 1 a, .slice B 0 b] tEd)
   have k0 := heap_alloc_new w (.cells #[.int .i64 12, .int .i64 v, .slice (some ad) 1 a, .slice B 0 b] tEd)
   rw [← hW] at bW k0
   have cx0 := cell_mvd bW cx0
   obtain ⟨⟨g0, g1, g2, g3⟩, f0, f1, f2, f3⟩ := box4 k0
   have bW_h := lH bW; have k0_h := lH k0; clear bW k0
   go_enter Tryz.func50, Tryz.ntmps50
   go_upto_region 1 with (fail)
   rw [← hW]
   clear hW
   go_quiet (fail)
   obtain ⟨Wd, hWd⟩ : ∃ Wd, Wd = W.drewN nq := ⟨_, rfl⟩
   have hbd : Below W.heap.size W Wd := by rw [hWd]; exact below_drewN (Below.refl _ _) nq
   rw [← hWd]
   clear hWd g0 g1 g2 g3 f0 f1 f2 f3
   replace k0_h := lH (box_below k0_h.out hbd)
   have cx0 := cell_mvd hbd cx0
   have hB0 := below_trans bW_h.out hbd bW_h.out.size
   clear hbd; have hB0_h := lH hB0; clear hB0
   obtain ⟨⟨g0, g1, g2, g3⟩, f0, f1, f2, f3⟩ := box4 k0_h.out
   go_wp2_with (fail)
   go_quiet (fail)
   obtain ⟨We, hWe⟩ : ∃ We, We = Wd.drewN nq := ⟨_, rfl⟩
   have hbe : Below Wd.heap.size Wd We := by rw [hWe]; exact below_drewN (Below.refl _ _) nq
   rw [← hWe]
   clear hWe g0 g1 g2 g3 f0 f1 f2 f3
   replace k0_h := lH (box_below k0_h.out hbe)
   have cx0 := cell_mvd hbe cx0
   have hB1 := below_trans hB0_h.out hbe hB0_h.out.size
   clear hbe; have hB1_h := lH hB1; clear hB1
   obtain ⟨⟨g0, g1, g2, g3⟩, f0, f1, f2, f3⟩ := box4 k0_h.out
   go_wp2_with (fail)
   have r1 := (rd_laidC We [x0] (by unfold maxLen; simp)).below (below_alloc _ (.cells (ints [1]).toArray 3))
   have r2 := rd_laidC (We.alloc (.cells (ints [x0]).toArray 3)) [1] (by unfold maxLen; simp)
   simp only [World.size_alloc] at r2
   have b12 := below_trans (below_alloc We (.cells (ints [x0]).toArray 3)) (below_alloc _ (.cells (ints [1]).toArray 3)) (below_alloc We (.cells (ints [x0]).toArray 3)).size
   have hC := dnRow_any p n 1 _ _ 1 1 [x0] [1] _ r1 r2 rfl rfl (fun x hx => by simp at hx; omega) (fun x hx => by simp at hx; omega) h0 h97 hn (by omega)
   refine (hC).mono ?_
   rintro e w6 ⟨B3, c3, rfl, h3, _, hb6⟩
   have hl3 : (sprV p n [x0] [1]).length = n := sprTo_length _ _ _ _ _
   rw [hl3]
   have hbf := below_trans hB1_h.out (below_trans b12 hb6 b12.size) hB1_h.out.size
   have hp := PRs.laid w6 ([(B3, c3, sprV p n [x0] [1])] : List Hd) (fun x hx => by
    simp only [List.mem_cons, List.not_mem_nil, or_false] at hx
    subst hx
    exact h3) (by unfold maxLen; simp)
   have e5 : (([(B3, c3, sprV p n [x0] [1])] : List Hd).map Hd.val).toArray = #[.slice B3 n c3] := by simp [Hd.val, hl3]
   rw [e5] at hp
   have hbg := below_trans hbf (below_alloc w6 (.cells #[.slice B3 n c3] 23)) hbf.size
   clear hC r1 r2 b12 h3 hb6 e5; have hp_h := lH hp; have hbg_h := lH hbg; have hbf_h := lH hbf; clear hp hbg hbf
   go_wp2_with (fail)
   go_ret
   exact ⟨_, rfl, hp_h.out, hbg_h.out⟩
 · have hll : l.length = 1 := by have h1 := congrArg Prod.fst hty; have h2 : (l.length : Int) = 1 := h1; omega
   have hml : m.length = 1 := by have h1 := congrArg Prod.snd hty; have h2 : (m.length : Int) = 1 := h1; omega
   clear hty hk
   obtain ⟨x0, rfl⟩ := len_one hll
   obtain ⟨y0, rfl⟩ := len_one hml
   have hM : dnRowsM p n (13, v, [x0], [y0]) = [sprV p n [x0, y0] [1, -v % p]] := rfl
   rw [hM]
   clear hM
   obtain ⟨ad, _, rfl, ex0, cx0⟩ := hA.at_ (j := 0) (by simp)
   obtain rfl := Option.some.inj ex0
   have cx0 : w.cell? ad = some (.int .i64 x0) := cx0
   have had0 : ad.add 0 = ad := rfl
   obtain ⟨bd, _, rfl, ey0, cy0⟩ := hB.at_ (j := 0) (by simp)
   obtain rfl := Option.some.inj ey0
   have cy0 : w.cell? bd = some (.int .i64 y0) := cy0
   have hbd0 : bd.add 0 = bd := rfl
   have qx0 := hat x0 (by simp)
   have qy0 := hat y0 (by simp)
   clear hat
   obtain ⟨W, hW⟩ : ∃ W, W = w.alloc (.cells #[.int .i64 13, .int .i64 v, .slice (some ad) 1 a, .slice (some bd) 1 b] tEd) := ⟨_, rfl⟩
   have bW := below_alloc w (.cells #[.int .i64 13, .int .i64 v, .slice (some ad) 1 a, .slice (some bd) 1 b] tEd)
   have k0 := heap_alloc_new w (.cells #[.int .i64 13, .int .i64 v, .slice (some ad) 1 a, .slice (some bd) 1 b] tEd)
   rw [← hW] at bW k0
   have cx0 := cell_mvd bW cx0
   have cy0 := cell_mvd bW cy0
   obtain ⟨⟨g0, g1, g2, g3⟩, f0, f1, f2, f3⟩ := box4 k0
   have bW_h := lH bW; have k0_h := lH k0; clear bW k0
   go_enter Tryz.func50, Tryz.ntmps50
   go_upto_region 1 with (fail)
   rw [← hW]
   clear hW
   go_quiet (fail)
   obtain ⟨Wd, hWd⟩ : ∃ Wd, Wd = W.drewN nq := ⟨_, rfl⟩
   have hbd : Below W.heap.size W Wd := by rw [hWd]; exact below_drewN (Below.refl _ _) nq
   rw [← hWd]
   clear hWd g0 g1 g2 g3 f0 f1 f2 f3
   replace k0_h := lH (box_below k0_h.out hbd)
   have cx0 := cell_mvd hbd cx0
   have cy0 := cell_mvd hbd cy0
   have hB0 := below_trans bW_h.out hbd bW_h.out.size
   clear hbd; have hB0_h := lH hB0; clear hB0
   obtain ⟨⟨g0, g1, g2, g3⟩, f0, f1, f2, f3⟩ := box4 k0_h.out
   go_wp2_with (fail)
   go_quiet (fail)
   obtain ⟨We, hWe⟩ : ∃ We, We = Wd.drewN nq := ⟨_, rfl⟩
   have hbe : Below Wd.heap.size Wd We := by rw [hWe]; exact below_drewN (Below.refl _ _) nq
   rw [← hWe]
   clear hWe g0 g1 g2 g3 f0 f1 f2 f3
   replace k0_h := lH (box_below k0_h.out hbe)
   have cx0 := cell_mvd hbe cx0
   have cy0 := cell_mvd hbe cy0
   have hB1 := below_trans hB0_h.out hbe hB0_h.out.size
   clear hbe; have hB1_h := lH hB1; clear hB1
   obtain ⟨⟨g0, g1, g2, g3⟩, f0, f1, f2, f3⟩ := box4 k0_h.out
   go_wp2_with (fail)
   clear g0  g2 g3 f0 f1 f2 f3
   have hbd : Below We.heap.size We We.drew := below_drewN (Below.refl _ _) 1
   refine beginH (fun w' => Below We.heap.size We w') (by kernel_rfl) ?_
   generalize We.drew = W1 at hbd ⊢
   refine tkH 0 ?_ rfl hbd (fun W' hW' => ?_) ?_; rotate_left; · (obtain ⟨⟨b0, b1, b2, b3⟩, d0, d1, d2, d3⟩ := box4 (box_below k0_h.out hW'); have zx0 := cell_mvd hW' cx0; have zy0 := cell_mvd hW' cy0; clear hW'; go_simp; first | done | with_reducible rfl)
   simp only [Act.put, nS]
   refine tkH 1 ?_ rfl hbd (fun W' hW' => ?_) ?_; rotate_left; · (obtain ⟨⟨b0, b1, b2, b3⟩, d0, d1, d2, d3⟩ := box4 (box_below k0_h.out hW'); have zx0 := cell_mvd hW' cx0; have zy0 := cell_mvd hW' cy0; clear hW'; go_simp; first | done | with_reducible rfl)
   simp only [Act.put, nS]
   refine tkH 2 ?_ rfl hbd (fun W' hW' => ?_) ?_; rotate_left; · (obtain ⟨⟨b0, b1, b2, b3⟩, d0, d1, d2, d3⟩ := box4 (box_below k0_h.out hW'); have zx0 := cell_mvd hW' cx0; have zy0 := cell_mvd hW' cy0; clear hW'; go_simp; first | done | with_reducible rfl)
   simp only [Act.put, nS]
   refine tkH 3 ?_ rfl hbd (fun W' hW' => ?_) ?_; rotate_left; · (obtain ⟨⟨b0, b1, b2, b3⟩, d0, d1, d2, d3⟩ := box4 (box_below k0_h.out hW'); have zx0 := cell_mvd hW' cx0; have zy0 := cell_mvd hW' cy0; clear hW'; go_simp; first | done | with_reducible rfl)
   simp only [Act.put, nS]
   refine tkH 4 ?_ rfl hbd (fun W' hW' => ?_) ?_; rotate_left; · (obtain ⟨⟨b0, b1, b2, b3⟩, d0, d1, d2, d3⟩ := box4 (box_below k0_h.out hW'); have zx0 := cell_mvd hW' cx0; have zy0 := cell_mvd hW' cy0; clear hW'; go_simp; first | done | with_reducible rfl)
   simp only [Act.put, nS]
   refine tkH 5 ?_ rfl hbd (fun W' hW' => ?_) ?_; rotate_left; · (obtain ⟨⟨b0, b1, b2, b3⟩, d0, d1, d2, d3⟩ := box4 (box_below k0_h.out hW'); have zx0 := cell_mvd hW' cx0; have zy0 := cell_mvd hW' cy0; clear hW'; go_simp; first | done | with_reducible rfl)
   simp only [Act.put, nS]
   refine tkH 6 ?_ rfl hbd (fun W' hW' => ?_) ?_; rotate_left; · (obtain ⟨⟨b0, b1, b2, b3⟩, d0, d1, d2, d3⟩ := box4 (box_below k0_h.out hW'); have zx0 := cell_mvd hW' cx0; have zy0 := cell_mvd hW' cy0; clear hW'; go_simp; first | done | with_reducible rfl)
   simp only [Act.put, nS]
   refine tkH 7 ?_ rfl hbd (fun W' hW' => ?_) ?_; rotate_left; · (obtain ⟨⟨b0, b1, b2, b3⟩, d0, d1, d2, d3⟩ := box4 (box_below k0_h.out hW'); have zx0 := cell_mvd hW' cx0; have zy0 := cell_mvd hW' cy0; clear hW'; go_simp; first | done | with_reducible rfl)
   simp only [Act.put, nS]
   refine tkH 9 ?_ rfl hbd (fun W' hW' => ?_) ?_; rotate_left; · (obtain ⟨⟨b0, b1, b2, b3⟩, d0, d1, d2, d3⟩ := box4 (box_below k0_h.out hW'); have zx0 := cell_mvd hW' cx0; have zy0 := cell_mvd hW' cy0; clear hW'; go_simp; first | done | with_reducible rfl)
   simp only [Act.put, nS]
   refine tkH 10 ?_ rfl hbd (fun W' hW' => ?_) ?_; rotate_left; · (obtain ⟨⟨b0, b1, b2, b3⟩, d0, d1, d2, d3⟩ := box4 (box_below k0_h.out hW'); have zx0 := cell_mvd hW' cx0; have zy0 := cell_mvd hW' cy0; clear hW'; go_simp; first | done | with_reducible rfl)
   simp only [Act.put, nS]
   refine tkH 11 ?_ rfl hbd (fun W' hW' => ?_) ?_; rotate_left; · (obtain ⟨⟨b0, b1, b2, b3⟩, d0, d1, d2, d3⟩ := box4 (box_below k0_h.out hW'); have zx0 := cell_mvd hW' cx0; have zy0 := cell_mvd hW' cy0; clear hW'; go_simp; first | done | with_reducible rfl)
   simp only [Act.put, nS]
   refine relZ (P := Tryz.prog) [(8, 97), (12, 101), (13, 102), (14, 103), (15, 104), (16, 6)] (fun i => if i = 13 then [101] else if i = 14 then [97, 102] else if i = 15 then [103] else if i = 16 then [104] else []) (fun d v5 w5 => if d = 97 then PIn 2 [x0, y0] v5 w5 else if d = 101 then PV (.int .i64 (-v % p)) v5 w5 else if d = 102 then PIn 2 [1, -v % p] v5 w5 else if d = 103 then PIs n (sprV p n [x0, y0] [1, -v % p]) v5 w5 else if d = 104 then PRs 1 [sprV p n [x0, y0] [1, -v % p]] v5 w5 else if d = 6 then PRs 1 [sprV p n [x0, y0] [1, -v % p]] v5 w5 else True) (by kernel_rfl) (fun d => Stb.ite (PIn.stb _ _) (Stb.ite (PV.stb _) (Stb.ite (PIn.stb _ _) (Stb.ite (PIs.stb _ _) (Stb.ite (PRs.stb _ _) (Stb.ite (PRs.stb _ _) (Stb.true))))))) (fun w' hw' => below_trans hbd hw' hbd.size) ?steps13 ?fin13
   case steps13 =>
    refine ⟨⟨_, rfl, fun xs w5 hb5 hd K hK => ?_⟩, ⟨_, rfl, fun xs w5 hb5 hd K hK => ?_⟩, ⟨_, rfl, fun xs w5 hb5 hd K hK => ?_⟩, ⟨_, rfl, fun xs w5 hb5 hd K hK => ?_⟩, ⟨_, rfl, fun xs w5 hb5 hd K hK => ?_⟩, ⟨_, rfl, fun xs w5 hb5 hd K hK => ?_⟩, trivial⟩
    · simp only [putZ, List.foldl_cons, List.foldl_nil, Act.put, nS] at hK ⊢
      go_simp
      exact hK _ _ (below_alloc _ _) ⟨_, 2, rfl, rd_laidC w5 [x0, y0] (by unfold maxLen; simp)⟩
    · simp only [putZ, List.foldl_cons, List.foldl_nil, Act.put, nS] at hK ⊢
      refine wp_callZ (f := ?f_34) (args := ?args_34) ?hr_34 ?hc_34
      case hr_34 => (go_simp; first | done | with_reducible rfl | (constructor <;> with_reducible rfl))
      case hc_34 =>
       refine (fdNeg_any p v w5 h0 h97 hv0 hvp).mono ?_
       rintro e w6 ⟨rfl, rfl⟩
       exact ⟨_, rfl, hK _ _ (Below.refl _ _) rfl⟩
    · have e1 : xs 101 = .int .i64 (-v % p) := hd 101 (by decide)
      simp only [putZ, List.foldl_cons, List.foldl_nil, Act.put, nS] at hK ⊢
      simp only [e1] at hK ⊢
      go_simp
      exact hK _ _ (below_alloc _ _) ⟨_, 2, rfl, rd_laidC w5 [1, -v % p] (by unfold maxLen; simp)⟩
    · obtain ⟨B1, c1, e1, r1⟩ := (hd 97 (by decide) : PIn 2 [x0, y0] (xs 97) w5)
      obtain ⟨B2, c2, e2, r2⟩ := (hd 102 (by decide) : PIn 2 [1, -v % p] (xs 102) w5)
      simp only [putZ, List.foldl_cons, List.foldl_nil, Act.put, nS] at hK ⊢
      simp only [e1, e2] at hK ⊢
      refine wp_callZ (f := ?f_36) (args := ?args_36) ?hr_36 ?hc_36
      case hr_36 => (go_simp; first | done | with_reducible rfl | (constructor <;> with_reducible rfl))
      case hc_36 =>
       refine (dnRow_any p n 2 B1 B2 c1 c2 [x0, y0] [1, -v % p] w5 r1 r2 rfl rfl (fun x hx => by simp at hx; omega) (fun x hx => by simp at hx; omega) h0 h97 hn (by omega)).mono ?_
       rintro e w6 ⟨B3, c3, rfl, h3, _, hb6⟩
       have hl3 : (sprV p n [x0, y0] [1, -v % p]).length = n := sprTo_length _ _ _ _ _
       rw [hl3]
       exact ⟨_, rfl, hK _ _ hb6 ⟨B3, c3, rfl, h3⟩⟩
    · obtain ⟨B0, c0, e0, r0⟩ := (hd 103 (by decide) : PIs n (sprV p n [x0, y0] [1, -v % p]) (xs 103) w5)
      have l0 : (sprV p n [x0, y0] [1, -v % p]).length = n := sprTo_length _ _ _ _ _
      simp only [putZ, List.foldl_cons, List.foldl_nil, Act.put, nS] at hK ⊢
      simp only [e0] at hK ⊢
      go_simp
      have hp := PRs.laid w5 ([(B0, c0, sprV p n [x0, y0] [1, -v % p])] : List Hd) (fun x hx => by
       simp only [List.mem_cons, List.not_mem_nil, or_false] at hx
       subst hx
       exact r0) (by unfold maxLen; simp)
      have e5 : (([(B0, c0, sprV p n [x0, y0] [1, -v % p])] : List Hd).map Hd.val).toArray = #[.slice B0 n c0] := by simp [Hd.val, l0]
      rw [e5] at hp
      exact hK _ _ (below_alloc _ _) hp
    · have h5 := (hd 104 (by decide) : PRs 1 [sprV p n [x0, y0] [1, -v % p]] (xs 104) w5)
      simp only [putZ, List.foldl_cons, List.foldl_nil, Act.put, nS] at hK ⊢
      go_simp
      exact hK _ _ (Below.refl _ _) h5
   case fin13 =>
    intro xs w6 hb6 hR
    have h6 := (hR (16, 6) (by simp) : PRs 1 [sprV p n [x0, y0] [1, -v % p]] (xs 6) w6)
    have hbf := below_trans hB1_h.out (below_trans hbd hb6 hbd.size) hB1_h.out.size
    clear hR cx0 cy0; have h6_h := lH h6; have hbf_h := lH hbf; clear h6 hbf
    simp only [putZ, List.foldl_cons, List.foldl_nil, Act.put, nS]
    go_wp2_with (fail)
    go_ret
    exact ⟨_, rfl, h6_h.out, hbf_h.out⟩
 · have hll : l.length = 1 := by have h1 := congrArg Prod.fst hty; have h2 : (l.length : Int) = 1 := h1; omega
   have hml : m.length = 1 := by have h1 := congrArg Prod.snd hty; have h2 : (m.length : Int) = 1 := h1; omega
   clear hty hk
   obtain ⟨x0, rfl⟩ := len_one hll
   obtain ⟨y0, rfl⟩ := len_one hml
   have hM : dnRowsM p n (14, v, [x0], [y0]) = [] := rfl
   rw [hM]
   clear hM
   obtain ⟨ad, _, rfl, ex0, cx0⟩ := hA.at_ (j := 0) (by simp)
   obtain rfl := Option.some.inj ex0
   have cx0 : w.cell? ad = some (.int .i64 x0) := cx0
   have had0 : ad.add 0 = ad := rfl
   obtain ⟨bd, _, rfl, ey0, cy0⟩ := hB.at_ (j := 0) (by simp)
   obtain rfl := Option.some.inj ey0
   have cy0 : w.cell? bd = some (.int .i64 y0) := cy0
   have hbd0 : bd.add 0 = bd := rfl
   have qx0 := hat x0 (by simp)
   have qy0 := hat y0 (by simp)
   clear hat
   obtain ⟨W, hW⟩ : ∃ W, W = w.alloc (.cells #[.int .i64 14, .int .i64 v, .slice (some ad) 1 a, .slice (some bd) 1 b] tEd) := ⟨_, rfl⟩
   have bW := below_alloc w (.cells #[.int .i64 14, .int .i64 v, .slice (some ad) 1 a, .slice (some bd) 1 b] tEd)
   have k0 := heap_alloc_new w (.cells #[.int .i64 14, .int .i64 v, .slice (some ad) 1 a, .slice (some bd) 1 b] tEd)
   rw [← hW] at bW k0
   have cx0 := cell_mvd bW cx0
   have cy0 := cell_mvd bW cy0
   obtain ⟨⟨g0, g1, g2, g3⟩, f0, f1, f2, f3⟩ := box4 k0
   have bW_h := lH bW; have k0_h := lH k0; clear bW k0
   go_enter Tryz.func50, Tryz.ntmps50
   go_upto_region 1 with (fail)
   rw [← hW]
   clear hW
   go_quiet (fail)
   obtain ⟨Wd, hWd⟩ : ∃ Wd, Wd = W.drewN nq := ⟨_, rfl⟩
   have hbd : Below W.heap.size W Wd := by rw [hWd]; exact below_drewN (Below.refl _ _) nq
   rw [← hWd]
   clear hWd g0 g1 g2 g3 f0 f1 f2 f3
   replace k0_h := lH (box_below k0_h.out hbd)
   have cx0 := cell_mvd hbd cx0
   have cy0 := cell_mvd hbd cy0
   have hB0 := below_trans bW_h.out hbd bW_h.out.size
   clear hbd; have hB0_h := lH hB0; clear hB0
   obtain ⟨⟨g0, g1, g2, g3⟩, f0, f1, f2, f3⟩ := box4 k0_h.out
   go_wp2_with (fail)
   go_quiet (fail)
   obtain ⟨We, hWe⟩ : ∃ We, We = Wd.drewN nq := ⟨_, rfl⟩
   have hbe : Below Wd.heap.size Wd We := by rw [hWe]; exact below_drewN (Below.refl _ _) nq
   rw [← hWe]
   clear hWe g0 g1 g2 g3 f0 f1 f2 f3
   replace k0_h := lH (box_below k0_h.out hbe)
   have cx0 := cell_mvd hbe cx0
   have cy0 := cell_mvd hbe cy0
   have hB1 := below_trans hB0_h.out hbe hB0_h.out.size
   clear hbe; have hB1_h := lH hB1; clear hB1
   obtain ⟨⟨g0, g1, g2, g3⟩, f0, f1, f2, f3⟩ := box4 k0_h.out
   go_wp2_with (fail)
   go_ret
   exact ⟨_, rfl, ⟨none, 0, [], rfl, rfl, rfl, ⟨fun i h hh => by simp at hh, fun h hh => by cases hh⟩, fun h hh => by cases hh⟩, hB1_h.out⟩
end Go.Proofs.YtjompikdkhhlgaaGreatDoor
namespace Go.Proofs.YtjompikdkhhlgaaGreatDoor
open Go.ChangeShapes Go.WideShapes Go.ChangeAt Go.RowKit
theorem own : ownKnob Tryz.prog.godebug = none := by kernel_rfl
theorem laidOut : laidOutB Tryz.prog = true := by kernel_rfl
theorem cellsInt : Tryz.prog.cellsOf 3 = 1 := by kernel_rfl
section
variable {H : Type} {enc : TypeId × Value → H} {P : Program} {W W' : World}
theorem trodAll_below (hl : laidOutB P = true) (hb : Below W.heap.size W W') : ∀ (ts : List TypeId) (vs : List Value) (ds : List (DataW H)) (p : List MemPlace),
  (∀ t ∈ ts, P.readableRec t = true ∧ t < P.types.size) → DataW.TrodAll enc P W 0 (fun _ => true) true ts vs ds p → (∀ x ∈ p, x.block < W.heap.size) →
  DataW.TrodAll enc P W' 0 (fun b => decide (b < W.heap.size)) true ts vs ds p
 | [], vs, ds, p, _, h, _ => by obtain ⟨rfl, rfl, rfl⟩ := trodAll_nil h; exact trodAll_mk0
 | t :: ts, vs, ds, p, hr, h, hp => by
   obtain ⟨v, vs', d, ds', p1, q1, rfl, rfl, rfl, h1, h2⟩ := trodAll_cons h
   exact trodAll_cons_mk (Below.trod hl (hr t (by simp)).1 (hr t (by simp)).2 h1 hb fun x hx => hp x (by simp [hx]))
    (trodAll_below hl hb ts vs' ds' q1 (fun t' ht' => hr t' (by simp [ht'])) h2 fun x hx => hp x (by simp [hx]))
theorem trodVars_below (hl : laidOutB P = true) (hb : Below W.heap.size W W') : ∀ (ns : List String) (gs : List (DataW H)) (p : List MemPlace),
  (∀ n ∈ ns, ∀ g t, P.globalNamed n = some g → (P.globals[g]?).map (·.type) = some t → P.readableRec t = true ∧ t < P.types.size) → DataW.TrodVars enc P W (fun _ => true) ns gs p → (∀ x ∈ p, x.block < W.heap.size) →
  DataW.TrodVars enc P W' (fun b => decide (b < W.heap.size)) ns gs p
 | [], [], p, _, h, _ => h
 | [], _ :: _, p, _, h, _ => by simp [DataW.TrodVars] at h
 | _ :: _, [], p, _, h, _ => by simp [DataW.TrodVars] at h
 | n :: ns, d :: ds, p, hr, h, hp => by
   obtain ⟨g, t, cs, fuel, p1, q1, h1, h2, h3, h4, h5, rfl⟩ := h
   have hg : g < W.heap.size := by
    simp only [World.var?, h1, Option.bind_some] at h3
    rcases Nat.lt_or_ge g W.heap.size with hlt | hge
    · exact hlt
    · rw [Array.getElem?_eq_none hge] at h3; simp at h3
   have hT : DataW.Trod enc P W 0 (fun _ => true) true t (.agg cs) d p1 := ⟨fuel, h4⟩
   obtain ⟨fuel', h4'⟩ := Below.trod hl (hr n (by simp) g t h1 h2).1 (hr n (by simp) g t h1 h2).2 hT hb fun x hx => hp x (by simp [hx])
   exact ⟨g, t, cs, fuel', p1, q1, h1, h2, var?_below hb h1 hg h3, h4', trodVars_below hl hb ns ds q1 (fun n' hn' => hr n' (by simp [hn'])) h5 fun x hx => hp x (by simp [hx]), rfl⟩
theorem post_true {f : Func} {s : ChangeSpec} {tB : TypeId} {args : Array Value} {ds gs : List (DataW H)} {before : List MemPlace} (hl : laidOutB P = true)
  (hW : DataW.Whole enc P f.params.toList s.vars false W args.toList ds gs before) (hb : Below W.heap.size W W')
  (hr : ∀ t ∈ f.params.toList, P.readableRec t = true ∧ t < P.types.size)
  (hv : ∀ n ∈ s.vars, ∀ g t, P.globalNamed n = some g → (P.globals[g]?).map (·.type) = some t → P.readableRec t = true ∧ t < P.types.size)
  (hfn : s.fn H (ds ++ gs) = { results := [.lit (.bool true)], args := ds, vars := gs }) (hres : f.resultTypes = #[tB]) (htB : P.underlying tB = some .bool) :
  s.post enc P f false true false false W args (.bool true) W' := by
 have hW' := hW
 obtain ⟨p, q, hA, hV, rfl, _, _⟩ := hW
 have hlt : ∀ x ∈ p ++ q, x.block < W.heap.size := fun x hx => hW'.lt x hx
 refine ⟨ds, gs, p ++ q, [], p, q, hW', ?_, ?_, ?_, hb.frame _, fun h => by cases h⟩
 · rw [hfn, hres]; exact trodAll_cons_mk (shut_bool htB true) trodAll_mk0
 · rw [hfn]; exact trodAll_below hl hb _ _ _ _ hr hA fun x hx => hlt x (by simp [hx])
 · rw [hfn]; exact trodVars_below hl hb _ _ _ hv hV fun x hx => hlt x (by simp [hx])
end
set_option maxRecDepth 100000 in
theorem in_int {H : Type} {enc : TypeId × Value → H} {W : World} {v : Value} {d : DataW H} {p : List MemPlace} {base : Nat} (hv : Value.okWide Tryz.prog W .any base 3 v) (h : DataW.Trod enc Tryz.prog W 0 (fun _ => true) true 3 v d p) :
  ∃ n, v = .int .i64 n ∧ -9223372036854775808 ≤ n ∧ n ≤ 9223372036854775807 := by
 obtain ⟨n, rfl, rfl, rfl, wf⟩ := open_int Tryz.underlying3 hv h
 refine ⟨n, rfl, ?_⟩
 simp [Lit.wf, IntKind.min, IntKind.max, IntKind.signed, IntKind.bits] at wf
 omega
set_option maxRecDepth 100000 in
theorem in_ints {H : Type} {enc : TypeId × Value → H} {W : World} {base : Nat} {v : Value} {d : DataW H} {p : List MemPlace} (hv : Value.okWide Tryz.prog W .any base 23 v) (h : DataW.Trod enc Tryz.prog W 0 (fun _ => true) true 23 v d p) :
  ∃ A cap l, v = .slice A l.length cap ∧ RdI W A l := by
 obtain ⟨a0, len, cap, rfl⟩ := okWide_slice Tryz.underlying23 hv
 obtain ⟨fuel, hf⟩ := h
 rcases open_ints Tryz.underlying23 Tryz.underlying3 cellsInt hf with ⟨hcs, _⟩ | ⟨a, len', cap', zs, hcs, _, hl, _, hz, _, hcell, _⟩
 · simp [Value.cells] at hcs
   obtain ⟨rfl, rfl, rfl⟩ := hcs
   exact ⟨none, 0, [], rfl, fun j x hj => by simp at hj⟩
 · simp [Value.cells] at hcs
   obtain ⟨rfl, rfl, rfl⟩ := hcs
   have hzl : zs.length = cap := by simpa using hz
   refine ⟨some a, cap, zs.take len, by simp; omega, fun j x hj => ⟨a, rfl, ?_⟩⟩
   rw [List.getElem?_take] at hj
   split at hj
   · have hj' := (List.getElem?_eq_some_iff.1 hj).1
     rw [hcell j hj']; simp [List.getD, hj]
   · cases hj
end Go.Proofs.YtjompikdkhhlgaaGreatDoor
namespace Go.Proofs.YtjompikdkhhlgaaGreatDoor
open Go.ChangeShapes Go.WideShapes Go.ChangeAt Go.RowKit
theorem cellsEdgeL : Tryz.prog.cellsOf 49 = 4 := by kernel_rfl
theorem cellsGraphL : Tryz.prog.cellsOf 25 = 4 := by kernel_rfl
theorem cellsIntsG : Tryz.prog.cellsOf 23 = 1 := by kernel_rfl
theorem cellsEdges : Tryz.prog.cellsOf 22 = 1 := by kernel_rfl
theorem four_of {α : Type} {l : List α} (h : l.length = 4) : ∃ a b c d, l = [a, b, c, d] := by
 match l, h with
 | [a, b, c, d], _ => exact ⟨a, b, c, d, rfl⟩
set_option maxRecDepth 100000 in
theorem in_ints1 {H : Type} {enc : TypeId × Value → H} {W : World} {base fuel : Nat} {v : Value} {x : DataW H × List MemPlace} (h : DataW.trod enc Tryz.prog W base (fun _ => true) true fuel 23 [v] = some x) :
  ∃ h : Hd, v = .slice h.1 h.2.2.length h.2.1 ∧ RdI W h.1 h.2.2 ∧ h.2.2.length ≤ maxLen := by
 rcases open_ints Tryz.underlying23 Tryz.underlying3 cellsInt h with ⟨hcs, _⟩ | ⟨a, len', cap', zs, hcs, _, hl, hmx, hz, _, hcell, _⟩
 · simp at hcs
   subst hcs
   exact ⟨(none, 0, []), rfl, fun j x hj => by simp at hj, Nat.zero_le _⟩
 · simp at hcs
   subst hcs
   have hzl : zs.length = cap' := by simpa using hz
   refine ⟨(some a, cap', zs.take len'), by simp; omega, fun j x hj => ⟨a, rfl, ?_⟩, by simp; omega⟩
   have hj0 : (zs.take len')[j]? = some x := hj
   rw [List.getElem?_take] at hj0
   split at hj0
   · have hj' := (List.getElem?_eq_some_iff.1 hj0).1
     rw [hcell j hj']; simp [List.getD, hj0]
   · cases hj0
set_option maxRecDepth 100000 in
theorem in_int1 {H : Type} {enc : TypeId × Value → H} {W : World} {base fuel : Nat} {v : Value} {x : DataW H × List MemPlace} (h : DataW.trod enc Tryz.prog W base (fun _ => true) true fuel 3 [v] = some x) :
  ∃ n, v = .int .i64 n ∧ -9223372036854775808 ≤ n ∧ n ≤ 9223372036854775807 := by
 obtain ⟨n, hcs, _, wf⟩ := DataW.trod_int Tryz.underlying3 h
 simp at hcs
 refine ⟨n, hcs, ?_⟩
 simp [Lit.wf, IntKind.min, IntKind.max, IntKind.signed, IntKind.bits] at wf
 omega
def BigE (h : EHd) : Prop := (-9223372036854775808 ≤ h.1 ∧ h.1 ≤ 9223372036854775807) ∧ (-9223372036854775808 ≤ h.2.1 ∧ h.2.1 ≤ 9223372036854775807) ∧ h.2.2.1.2.2.length ≤ maxLen ∧ h.2.2.2.2.2.length ≤ maxLen
set_option maxRecDepth 100000 in
theorem in_edge {H : Type} {enc : TypeId × Value → H} {W : World} {base fuel : Nat} {cs : List Value} {x : DataW H × List MemPlace} (h : DataW.trod enc Tryz.prog W base (fun _ => true) true fuel 49 cs = some x) :
  ∃ h : EHd, cs = ec h ∧ RdI W h.2.2.1.1 h.2.2.1.2.2 ∧ RdI W h.2.2.2.1 h.2.2.2.2.2 ∧ BigE h := by
 obtain ⟨xs, n, _, _, hlen, hxl, hf⟩ := DataW.trod_struct Tryz.underlying49 h
 rw [cellsEdgeL] at hlen
 obtain ⟨c0, c1, c2, c3, rfl⟩ := four_of hlen
 obtain ⟨y0, y1, y2, y3, rfl⟩ := four_of (show xs.length = 4 from hxl)
 have h0 : DataW.trod enc Tryz.prog W base (fun _ => true) true n 3 (List.take (Tryz.prog.cellsOf 3) [c0, c1, c2, c3]) = some y0 := hf 0 _ rfl
 have h1 : DataW.trod enc Tryz.prog W base (fun _ => true) true n 3 (List.take (Tryz.prog.cellsOf 3) [c1, c2, c3]) = some y1 := hf 1 _ rfl
 have h2 : DataW.trod enc Tryz.prog W base (fun _ => true) true n 23 (List.take (Tryz.prog.cellsOf 23) [c2, c3]) = some y2 := hf 2 _ rfl
 have h3 : DataW.trod enc Tryz.prog W base (fun _ => true) true n 23 (List.take (Tryz.prog.cellsOf 23) [c3]) = some y3 := hf 3 _ rfl
 rw [cellsInt] at h0 h1
 rw [cellsIntsG] at h2 h3
 obtain ⟨k, rfl, hk⟩ := in_int1 (v := c0) h0
 obtain ⟨v, rfl, hv⟩ := in_int1 (v := c1) h1
 obtain ⟨a, rfl, ha, hla⟩ := in_ints1 (v := c2) h2
 obtain ⟨b, rfl, hb, hlb⟩ := in_ints1 (v := c3) h3
 exact ⟨(k, v, a, b), rfl, ha, hb, hk, hv, hla, hlb⟩
set_option maxRecDepth 100000 in
theorem in_edges {H : Type} {enc : TypeId × Value → H} {W : World} {base fuel : Nat} {v : Value} {x : DataW H × List MemPlace} (h : DataW.trod enc Tryz.prog W base (fun _ => true) true fuel 22 [v] = some x) :
  ∃ A cap l, v = .slice A (l : List EHd).length cap ∧ RdE W A l ∧ l.length ≤ maxLen ∧ ∀ h, h ∈ l → BigE h := by
 rcases Deep.open_slice Tryz.underlying22 h with ⟨hcs, _⟩ | ⟨a, len, cap, m, n, D, Pl, hcs, _, hl, hm, hmm, _, hi⟩
 · simp at hcs
   subst hcs
   exact ⟨none, 0, [], rfl, RdE.nil _ _, Nat.zero_le _, fun n hn => by cases hn⟩
 · simp at hcs
   subst hcs
   have hmc : m = cap := by simpa using hmm
   have hel : ∀ i, i < len → ∃ h : EHd, (∀ j u, (ec h)[j]? = some u → W.cell? (a.add (i * 4 + j)) = some u) ∧ RdI W h.2.2.1.1 h.2.2.1.2.2 ∧ RdI W h.2.2.2.1 h.2.2.2.2.2 ∧ BigE h := by
    intro i hlt
    obtain ⟨cs', hc, ht⟩ := hi i (by omega)
    rw [cellsEdgeL] at hc
    obtain ⟨_, hlen, hat⟩ := World.cells?_some hc
    obtain ⟨h, rfl, h1, h2, h3⟩ := in_edge ht
    refine ⟨h, fun j u hj => ?_, h1, h2, h3⟩
    have hj4 : j < 4 := (List.getElem?_eq_some_iff.1 hj).1
    have := hat j hj4
    rw [add_of_add] at this
    rw [this]; simp only [hj]
   have hall : ∀ k, k ≤ len → ∃ l : List EHd, l.length = k ∧ RdE W (some a) l ∧ ∀ h, h ∈ l → BigE h := by
    intro k
    induction k with
    | zero => exact fun _ => ⟨[], rfl, RdE.nil _ _, fun n hn => by cases hn⟩
    | succ k ih =>
      intro hk
      obtain ⟨l, hl1, hl2, hl3⟩ := ih (by omega)
      obtain ⟨nd, c0, r0, r1, hs⟩ := hel k (by omega)
      refine ⟨l ++ [nd], by simp [hl1], ⟨fun j u hj => ?_, fun n hn => ?_⟩, fun n hn => ?_⟩
      · rw [ecs_append] at hj
        by_cases hjl : j < (ecs l).length
        · rw [List.getElem?_append_left hjl] at hj
          exact hl2.1 j u hj
        · rw [List.getElem?_append_right (by omega), ecs_length, hl1] at hj
          rw [ecs_length, hl1] at hjl
          have hj' : (ec nd)[j - k * 4]? = some u := by simpa [ecs] using hj
          have := c0 _ _ hj'
          rw [show k * 4 + (j - k * 4) = j by omega] at this
          exact ⟨a, rfl, this⟩
      · rcases List.mem_append.1 hn with hn | hn
        · exact hl2.2 n hn
        · obtain rfl := List.mem_singleton.1 hn; exact ⟨r0, r1⟩
      · rcases List.mem_append.1 hn with hn | hn
        · exact hl3 n hn
        · obtain rfl := List.mem_singleton.1 hn; exact hs
   obtain ⟨l, h1, h2, h3⟩ := hall len (Nat.le_refl _)
   exact ⟨some a, cap, l, by rw [h1], h2, by rw [h1]; omega, h3⟩
def BigGraph (g : Gr) : Prop := (-9223372036854775808 ≤ g.1 ∧ g.1 ≤ 9223372036854775807) ∧ (g.2.1.length ≤ maxLen ∧ g.2.2.1.length ≤ maxLen ∧ g.2.2.2.length ≤ maxLen) ∧ ∀ e, e ∈ g.2.1 → e.2.2.1.length ≤ maxLen ∧ e.2.2.2.length ≤ maxLen
set_option maxRecDepth 100000 in
theorem in_Graph {H : Type} {enc : TypeId × Value → H} {W : World} {base : Nat} {v : Value} {d : DataW H} {p : List MemPlace} (hv : Value.okWide Tryz.prog W .any base 25 v) (h : DataW.Trod enc Tryz.prog W 0 (fun _ => true) true 25 v d p) :
  ∃ g, RdGr W v g ∧ BigGraph g := by
 obtain ⟨cs, rfl, hsz⟩ := okWide_struct Tryz.underlying25 hv
 rw [cellsGraphL] at hsz
 obtain ⟨fuel, hf⟩ := h
 obtain ⟨xs, n, _, _, hlen, hxl, hg⟩ := DataW.trod_struct Tryz.underlying25 hf
 obtain ⟨c0, c1, c2, c3, hc⟩ := four_of (show cs.toList.length = 4 by simpa using hsz)
 obtain ⟨y0, y1, y2, y3, rfl⟩ := four_of (show xs.length = 4 from hxl)
 have hc' : (Value.agg cs).cells.toList = [c0, c1, c2, c3] := hc
 rw [hc'] at hg
 have h0 : DataW.trod enc Tryz.prog W 0 (fun _ => true) true n 3 (List.take (Tryz.prog.cellsOf 3) [c0, c1, c2, c3]) = some y0 := hg 0 _ rfl
 have h1 : DataW.trod enc Tryz.prog W 0 (fun _ => true) true n 22 (List.take (Tryz.prog.cellsOf 22) [c1, c2, c3]) = some y1 := hg 1 _ rfl
 have h2 : DataW.trod enc Tryz.prog W 0 (fun _ => true) true n 23 (List.take (Tryz.prog.cellsOf 23) [c2, c3]) = some y2 := hg 2 _ rfl
 have h3 : DataW.trod enc Tryz.prog W 0 (fun _ => true) true n 23 (List.take (Tryz.prog.cellsOf 23) [c3]) = some y3 := hg 3 _ rfl
 rw [cellsInt] at h0
 rw [cellsEdges] at h1
 rw [cellsIntsG] at h2 h3
 obtain ⟨k, rfl, hk⟩ := in_int1 (v := c0) h0
 obtain ⟨A, cap, l, rfl, hR, hl, hB⟩ := in_edges (v := c1) h1
 obtain ⟨a, rfl, ha, hla⟩ := in_ints1 (v := c2) h2
 obtain ⟨b, rfl, hb, hlb⟩ := in_ints1 (v := c3) h3
 have : cs = #[.int .i64 k, .slice A l.length cap, .slice a.1 a.2.2.length a.2.1, .slice b.1 b.2.2.length b.2.1] := by
  apply Array.ext'
  simpa using hc
 rw [this]
 exact ⟨(k, l.map egOf, a.2.2, b.2.2), ⟨A, cap, l, a, b, rfl, rfl, rfl, rfl, hR, ha, hb⟩, hk, ⟨by simpa using hl, hla, hlb⟩, fun e he => by
  obtain ⟨h, hh, rfl⟩ := List.mem_map.1 he
  exact (hB h hh).2.2⟩
end Go.Proofs.YtjompikdkhhlgaaGreatDoor
namespace Go.Proofs.YtjompikdkhhlgaaGreatDoor
open Go.RowKit
def t_szL (left : Int) (n : Nat) : Int := if left - n < 0 then -1 else left - n
def szEd (n m : Nat) (left : Int) : Int := if left - n < 0 then -1 else t_szL (left - n) m
def szEs : List Eg → Int → Int
 | [], left => left
 | e :: r, left => if szEd e.2.2.1.length e.2.2.2.length left < 0 then -1 else szEs r (szEd e.2.2.1.length e.2.2.2.length left)
def szEdS (l : List Eg) (left : Int) : Int := if left - l.length < 0 then -1 else szEs l (left - l.length)
def szG (g : Gr) (left : Int) : Int := if szEdS g.2.1 left < 0 then -1 else if t_szL (szEdS g.2.1 left) g.2.2.1.length < 0 then -1 else t_szL (t_szL (szEdS g.2.1 left) g.2.2.1.length) g.2.2.2.length
theorem szL_nn {left : Int} {n : Nat} (h : 0 ≤ t_szL left n) : t_szL left n = left - n := by unfold t_szL at h ⊢; split <;> simp_all
theorem szL_neg {left : Int} {n : Nat} (h : t_szL left n < 0) : t_szL left n = -1 := by unfold t_szL at h ⊢; split <;> simp_all
theorem szEd_nn {left : Int} {n m : Nat} (h : 0 ≤ szEd n m left) : szEd n m left = left - n - m := by
 unfold szEd at h ⊢
 split at h
 · omega
 · rename_i h1
   rw [if_neg h1]; exact szL_nn h
theorem szEd_neg {left : Int} {n m : Nat} (h : szEd n m left < 0) : szEd n m left = -1 := by
 unfold szEd at h ⊢
 split at h
 · rename_i h1; rw [if_pos h1]
 · rename_i h1
   rw [if_neg h1]; exact szL_neg h
theorem szEs_nn : ∀ {l : List Eg} {left : Int}, 0 ≤ szEs l left → szEs l left + cntE l = left + 2 * l.length ∧ ∀ e, e ∈ l → (e.2.2.1.length : Int) ≤ left ∧ (e.2.2.2.length : Int) ≤ left
 | [], left, h => ⟨by simp [szEs, cntE], fun e he => by cases he⟩
 | e :: r, left, h => by
   unfold szEs at h ⊢
   split at h
   · omega
   · rename_i h1
     rw [if_neg h1]
     have h2 := szEd_nn (show 0 ≤ szEd e.2.2.1.length e.2.2.2.length left by omega)
     obtain ⟨h3, h4⟩ := szEs_nn h
     rw [h2] at h3 h4 h1
     refine ⟨by rw [h2]; simp only [cntE, List.length_cons]; omega, fun x hx => ?_⟩
     rcases List.mem_cons.1 hx with rfl | hx
     · omega
     · have := h4 x hx; omega
theorem szEs_neg : ∀ {l : List Eg} {left : Int}, 0 ≤ left → szEs l left < 0 → szEs l left = -1
 | [], left, h0, h => by simp only [szEs] at h; omega
 | e :: r, left, h0, h => by
   unfold szEs at h ⊢
   split at h
   · rename_i h1; rw [if_pos h1]
   · rename_i h1
     rw [if_neg h1]
     exact szEs_neg (by omega) h
theorem szEdS_neg {l : List Eg} {left : Int} (h : szEdS l left < 0) : szEdS l left = -1 := by
 unfold szEdS at h ⊢
 split at h
 · rename_i h1; rw [if_pos h1]
 · rename_i h1
   rw [if_neg h1]; exact szEs_neg (by omega) h
theorem szEdS_le {l : List Eg} {left : Int} (h : 0 ≤ szEdS l left) : szEdS l left + cntE l = left + l.length ∧ (l.length : Int) ≤ left ∧ ∀ e, e ∈ l → (e.2.2.1.length : Int) ≤ left ∧ (e.2.2.2.length : Int) ≤ left := by
 unfold szEdS at h ⊢
 split at h
 · omega
 · rename_i h1
   rw [if_neg h1]
   obtain ⟨h2, h3⟩ := szEs_nn h
   exact ⟨by omega, by omega, fun e he => by have := h3 e he; omega⟩
theorem cntE_ge (l : List Eg) : 2 * l.length ≤ cntE l := by
 induction l with
 | nil => simp
 | cons e r ih => simp only [cntE, List.length_cons]; omega
theorem szG_ok {g : Gr} {left : Int} (h : 0 ≤ szG g left) (h1 : left ≤ 1048576) : OkG g ∧ szG g left ≤ left := by
 unfold szG at h ⊢
 split at h
 · omega
 · rename_i h2
   rw [if_neg h2]
   split at h
   · omega
   · rename_i h3
     rw [if_neg h3]
     have e3 := szL_nn h
     have e2 := szL_nn (show 0 ≤ t_szL (szEdS g.2.1 left) g.2.2.1.length by omega)
     obtain ⟨e1, hl, he⟩ := szEdS_le (show 0 ≤ szEdS g.2.1 left by omega)
     have := cntE_ge g.2.1
     refine ⟨⟨⟨by omega, by omega, by omega⟩, fun e hm => by have := he e hm; omega, ?_⟩, by omega⟩
     unfold cntG
     omega
set_option maxHeartbeats 400000 in
theorem szIntL_any (A : Option Addr) (c n : Nat) (left : Int) (w : World) (h0 : 0 ≤ left) (h1 : left ≤ 1048576) (hn : n ≤ maxLen) :
  Calls Tryz.prog 15 #[.slice A n c, .int .i64 left] w fun e w' => e = .returned (.int .i64 (t_szL left n)) ∧ w = w' := by
 unfold maxLen at hn
 have ww : IntKind.i64.wrap (left - (n : Int)) = left - (n : Int) := IntWalk.i64_in _ (by omega)
 by_cases hlt : left - (n : Int) < 0
 · have e : t_szL left n = -1 := if_pos hlt
   rw [e]
   clear e
   go_enter Tryz.func15, Tryz.ntmps15
   go_wp2_with (fail)
   go_ret
   exact ⟨rfl, rfl⟩
 · have e : t_szL left n = left - (n : Int) := if_neg hlt
   rw [e]
   clear e
   go_enter Tryz.func15, Tryz.ntmps15
   go_wp2_with (fail)
   go_ret
   exact ⟨rfl, rfl⟩
set_option maxHeartbeats 1000000 in
theorem szEdge_any (k v : Int) (B C : Option Addr) (b c n m : Nat) (left : Int) (w : World) (h0 : 0 ≤ left) (h1 : left ≤ 1048576) (hn : n ≤ maxLen) (hm : m ≤ maxLen) :
  Calls Tryz.prog 25 #[.agg #[.int .i64 k, .int .i64 v, .slice B n b, .slice C m c], .int .i64 left] w fun e w' => e = .returned (.int .i64 (szEd n m left)) ∧ Below w.heap.size w w' := by
 have hC1 := fun W => szIntL_any B b n left W h0 h1 hn
 by_cases hlt : left - (n : Int) < 0
 · have e : szEd n m left = -1 := if_pos hlt
   have e1 : t_szL left n = -1 := if_pos hlt
   rw [e]
   simp only [e1] at hC1
   have hC1_h := lH hC1; clear hC1; clear e e1 hlt
   go_enter Tryz.func25, Tryz.ntmps25
   go_wp2_with (fail)
   refine (hC1_h.out _).mono ?_
   rintro e w1 ⟨rfl, rfl⟩
   go_wp2_with (fail)
   go_ret
   exact ⟨rfl, t_below_alloc _ _⟩
 · have e : szEd n m left = t_szL (left - n) m := if_neg hlt
   have e1 : t_szL left n = left - n := if_neg hlt
   obtain ⟨z, hz⟩ : ∃ z, z = left - (n : Int) := ⟨_, rfl⟩
   rw [← hz] at e e1 hlt
   have hC2 := fun W => szIntL_any C c m z W (by omega) (by omega) hm
   rw [e]
   simp only [e1] at hC1
   obtain ⟨y, hy⟩ : ∃ y, y = t_szL z m := ⟨_, rfl⟩
   rw [← hy]
   simp only [← hy] at hC2
   by_cases hy0 : y < 0
   · obtain rfl : y = -1 := by rw [hy]; exact szL_neg (by rw [← hy]; exact hy0)
     have hC1_h := lH hC1; have hC2_h := lH hC2; have hy_h := lH hy; have hz_h := lH hz; have e_h := lH e; have e1_h := lH e1; clear hC1 hC2 hy hz e e1
     go_enter Tryz.func25, Tryz.ntmps25
     go_wp2_with (fail)
     refine (hC1_h.out _).mono ?_
     rintro e w1 ⟨rfl, rfl⟩
     go_wp2_with (fail)
     refine (hC2_h.out _).mono ?_
     rintro e w1 ⟨rfl, rfl⟩
     go_wp2_with (fail)
     go_ret
     exact ⟨rfl, t_below_alloc _ _⟩
   · have hC1_h := lH hC1
     have hC2_h := lH hC2; have hy_h := lH hy; have hz_h := lH hz; have e_h := lH e; have e1_h := lH e1; clear hC1 hC2 hy hz e e1
     go_enter Tryz.func25, Tryz.ntmps25
     go_wp2_with (fail)
     refine (hC1_h.out _).mono ?_
     rintro e w1 ⟨rfl, rfl⟩
     go_wp2_with (fail)
     refine (hC2_h.out _).mono ?_
     rintro e w1 ⟨rfl, rfl⟩
     go_wp2_with (fail)
     go_ret
     exact ⟨rfl, t_below_alloc _ _⟩
set_option maxHeartbeats 1000000 in
theorem szEdgeS_any (A : Option Addr) (c : Nat) (l : List EHd) (left : Int) (w : World) (h : RdE w A l) (hB1 : l.length ≤ maxLen) (hB2 : ∀ h, h ∈ l → h.2.2.1.2.2.length ≤ maxLen ∧ h.2.2.2.2.2.length ≤ maxLen) (h0 : 0 ≤ left) (h1 : left ≤ 1048576) :
  Calls Tryz.prog 14 #[.slice A l.length c, .int .i64 left] w fun e w' => e = .returned (.int .i64 (szEdS (l.map egOf) left)) ∧ Below w.heap.size w w' := by
 unfold maxLen at hB1
 obtain ⟨m, hm⟩ : ∃ m, m = l.length := ⟨_, rfl⟩
 rw [← hm] at hB1 ⊢
 obtain ⟨S, hS⟩ : ∃ S, S = szEdS (l.map egOf) left := ⟨_, rfl⟩
 have hml : (l.map egOf).length = m := by rw [List.length_map, hm]
 rw [← hS]
 by_cases hl : left - (m : Int) < 0
 · have e : S = -1 := by rw [hS]; unfold szEdS; rw [hml, if_pos hl]
   subst e
   have hm_h := lH hm; have hB2_h := lH hB2; have hS_h := lH hS; have hml_h := lH hml; clear hm hB2 hS hml; clear h
   go_enter Tryz.func14, Tryz.ntmps14
   go_wp2_with (fail)
   go_ret
   exact ⟨rfl, Below.refl _ _⟩
 · have e : S = szEs (l.map egOf) (left - m) := by rw [hS]; unfold szEdS; rw [hml, if_neg hl]
   have hm_h := lH hm; have hB2_h := lH hB2; have hS_h := lH hS; have e_h := lH e; have hml_h := lH hml; clear hm hB2 hS e hml
   go_enter Tryz.func14, Tryz.ntmps14
   go_wp2_with (fail)
   go_loopw [1, 5] (fun q i wr => ∃ (k : Nat) (x : Int), k ≤ m ∧ i = .int .i64 k ∧ q = .int .i64 x ∧ 0 ≤ x ∧ x ≤ 1048576 ∧ szEs ((l.drop k).map egOf) x = S ∧ Below w.heap.size w wr) (fun _ i _ => m - (intOf i).toNat)
   case atStart => exact ⟨0, left - m, Nat.zero_le _, rfl, rfl, by omega, by omega, by rw [e_h.out]; rfl, Below.refl _ _⟩
   case round =>
    obtain ⟨k, x, hk, rfl, rfl, hx0, hx1, hsz, hb⟩ := hrel
    by_cases hlt : k < m
    · obtain ⟨ad, κ, v, B, b, s, C, d, t, rfl, hn, ⟨d0, d1, d2, d3⟩, -, -⟩ := (h.below hb).at_ (j := k) (by rw [← hm_h.out]; exact hlt)
      have hss := hB2_h.out _ (List.mem_of_getElem? hn)
      have hdrop : (l.drop k).map egOf = (κ, v, s, t) :: (l.drop (k + 1)).map egOf := by
       obtain ⟨hk', e⟩ := List.getElem?_eq_some_iff.1 hn
       rw [List.drop_eq_getElem_cons hk', e]; rfl
      have hC := fun W => szEdge_any κ v B C b d s.length t.length x W hx0 hx1 hss.1 hss.2
      have hkI : (k : Int) < (m : Int) := by omega
      rw [hdrop] at hsz
      obtain ⟨y, hy⟩ : ∃ y, y = szEd s.length t.length x := ⟨_, rfl⟩
      simp only [← hy] at hC
      obtain ⟨sl, hsl⟩ : ∃ sl, sl = s.length := ⟨_, rfl⟩
      obtain ⟨tl, htl⟩ : ∃ tl, tl = t.length := ⟨_, rfl⟩
      rw [← hsl] at d2
      rw [← htl] at d3
      simp only [← hsl, ← htl] at hC
      by_cases hneg : y < 0
      · have hy1 : y = -1 := by rw [hy]; exact szEd_neg (by rw [← hy]; exact hneg)
        have hS1 : S = -1 := by rw [← hsz]; show (if szEd s.length t.length x < 0 then _ else _) = _; rw [← hy, if_pos hneg]
        subst hS1
        subst hy1
        have hC_h := lH hC; have hsz_h := lH hsz; have hn_h := lH hn; have hss_h := lH hss; have hdrop_h := lH hdrop; have hy_h := lH hy; have hsl_h := lH hsl; have htl_h := lH htl; clear hC hsz hn hss hdrop hy hsl htl; clear h
        go_wp2_with (fail)
        refine (hC_h.out _).mono ?_
        rintro e w1 ⟨rfl, hb1⟩
        go_wp2_with (fail)
        go_ret
        exact ⟨rfl, below_trans hb hb1 hb.size⟩
      · have hs1 : szEs ((l.drop (k + 1)).map egOf) y = S := by rw [← hsz]; show _ = (if szEd s.length t.length x < 0 then _ else szEs _ (szEd s.length t.length x)); rw [← hy, if_neg hneg]
        have hy2 : y ≤ 1048576 := by have := szEd_nn (show 0 ≤ szEd s.length t.length x by rw [← hy]; omega); omega
        have hC_h := lH hC; have hsz_h := lH hsz; have hn_h := lH hn; have hss_h := lH hss; have hdrop_h := lH hdrop; have hs1_h := lH hs1; have hy_h := lH hy; have hsl_h := lH hsl; have htl_h := lH htl; clear hC hsz hn hss hdrop hs1 hy hsl htl; clear h
        go_wp2_with (fail)
        refine (hC_h.out _).mono ?_
        rintro e w1 ⟨rfl, hb1⟩
        go_wp2_with (fail)
        go_roundw
        case rel => exact ⟨k + 1, y, by omega, by go_num, rfl, by omega, by omega, hs1_h.out, below_trans hb hb1 hb.size⟩
        case measure => simp [intOf]; omega
    · obtain rfl : k = m := by omega
      have : x = S := by
       rw [← hsz, List.drop_of_length_le (by rw [← hm_h.out]; omega)]; rfl
      subst this
      have hsz_h := lH hsz; clear hsz; clear h
      go_wp2_with (fail)
      go_ret
      exact ⟨rfl, hb⟩
set_option maxHeartbeats 1000000 in
theorem szGraph_law {v : Value} {g : Gr} (left : Int) {w : World} (h : RdGr w v g) (hB : BigGraph g) (h0 : 0 ≤ left) (h1 : left ≤ 1048576) :
  Calls Tryz.prog 4 #[v, .int .i64 left] w fun e w' => e = .returned (.int .i64 (szG g left)) ∧ Below w.heap.size w w' := by
 obtain ⟨_, ⟨hl1, hl2, hl3⟩, hB2⟩ := hB
 obtain ⟨A, c, hs, ⟨B, b, s⟩, ⟨C, d, t⟩, rfl, e1, e2, e3, hE, -, -⟩ := h
 obtain ⟨z, es, s', t'⟩ := g
 have e1' : es = hs.map egOf := e1
 have e2' : s = s' := e2
 have e3' : t = t' := e3
 subst e1' e2' e3'
 have hl2' : s.length ≤ maxLen := hl2
 have hl3' : t.length ≤ maxLen := hl3
 have hl1' : hs.length ≤ maxLen := by have : (hs.map egOf).length ≤ maxLen := hl1; simpa using this
 obtain ⟨W, hW⟩ : ∃ W, W = w.alloc (.cells #[.int .i64 z, .slice A hs.length c, .slice B s.length b, .slice C t.length d] 25) := ⟨_, rfl⟩
 have hb : Below w.heap.size w W := by rw [hW]; exact t_below_alloc _ _
 have k0 : W.heap[w.heap.size]? = some (.cells #[.int .i64 z, .slice A hs.length c, .slice B s.length b, .slice C t.length d] 25) := by rw [hW]; exact heap_alloc_new _ _
 have hC1 := szEdgeS_any A c hs left W (hE.below hb) hl1' (fun x hx => hB2 _ (List.mem_map_of_mem hx)) h0 h1
 show Calls Tryz.prog _ #[.agg #[.int .i64 z, .slice A hs.length c, .slice B s.length b, .slice C t.length d], .int .i64 left] w fun e w' => e = .returned (.int .i64 (szG (z, hs.map egOf, s, t) left)) ∧ Below w.heap.size w w'
 obtain ⟨x, hx⟩ : ∃ x, x = szEdS (hs.map egOf) left := ⟨_, rfl⟩
 have hxl : 0 ≤ x → x ≤ 1048576 := fun h => by
  have := szEdS_le (show 0 ≤ szEdS (hs.map egOf) left by rw [← hx]; exact h)
  rw [← hx] at this
  have := cntE_ge (hs.map egOf)
  omega
 rw [← hx] at hC1
 obtain ⟨S, hS⟩ : ∃ S, S = szG (z, hs.map egOf, s, t) left := ⟨_, rfl⟩
 rw [← hS]
 unfold szG at hS
 simp only [← hx] at hS
 obtain ⟨n, hn⟩ : ∃ n, n = hs.length := ⟨_, rfl⟩
 obtain ⟨sl, hsl⟩ : ∃ sl, sl = s.length := ⟨_, rfl⟩
 obtain ⟨tl, htl⟩ : ∃ tl, tl = t.length := ⟨_, rfl⟩
 simp only [← hn, ← hsl, ← htl] at *
 obtain ⟨⟨c0, c1, c2, c3⟩, f0, f1, f2, f3⟩ := t_box4 k0
 by_cases hxn : x < 0
 · have hx1 : x = -1 := by rw [hx]; exact szEdS_neg (by rw [← hx]; exact hxn)
   rw [if_pos hxn] at hS
   subst hS
   subst hx1
   have hC1_h := lH hC1; have hx_h := lH hx; have hn_h := lH hn; have hsl_h := lH hsl; have htl_h := lH htl; have hb_h := lH hb; have k0_h := lH k0; have hB2_h := lH hB2; have e1_h := lH e1; have e2_h := lH e2; have e3_h := lH e3; clear hC1 hx hn hsl htl hb k0 hB2 e1 e2 e3; clear hE
   go_enter Tryz.func4, Tryz.ntmps4
   go_upto_region 1 with (fail)
   rw [← hW]
   clear hW
   go_wp2_with (fail)
   refine (hC1_h.out).mono ?_
   rintro e w1 ⟨rfl, hb1⟩
   go_wp2_with (fail)
   go_ret
   exact ⟨rfl, below_trans hb_h.out hb1 hb_h.out.size⟩
 · rw [if_neg hxn] at hS
   have hC2 := fun W' => szIntL_any B b sl x W' (by omega) (hxl (by omega)) hl2'
   obtain ⟨y, hy⟩ : ∃ y, y = t_szL x sl := ⟨_, rfl⟩
   rw [← hy] at hS
   simp only [← hy] at hC2
   by_cases hyn : y < 0
   · have hy1 : y = -1 := by rw [hy]; exact szL_neg (by rw [← hy]; exact hyn)
     rw [if_pos hyn] at hS
     subst hS
     subst hy1
     have hC1_h := lH hC1; have hC2_h := lH hC2; have hx_h := lH hx; have hy_h := lH hy; have hn_h := lH hn; have hsl_h := lH hsl; have htl_h := lH htl; have hb_h := lH hb; have k0_h := lH k0; have hB2_h := lH hB2; have e1_h := lH e1; have e2_h := lH e2; have e3_h := lH e3; have hxl_h := lH hxl; clear hC1 hC2 hx hy hn hsl htl hb k0 hB2 e1 e2 e3 hxl; clear hE
     go_enter Tryz.func4, Tryz.ntmps4
     go_upto_region 1 with (fail)
     rw [← hW]
     clear hW
     go_wp2_with (fail)
     refine (hC1_h.out).mono ?_
     rintro e w1 ⟨rfl, hb1⟩
     clear c0 c1 c2 c3 f0 f1 f2 f3
     obtain ⟨⟨c0, c1, c2, c3⟩, f0, f1, f2, f3⟩ := t_box4 (t_box_below k0_h.out hb1)
     go_wp2_with (fail)
     refine (hC2_h.out _).mono ?_
     rintro e w1 ⟨rfl, rfl⟩
     go_wp2_with (fail)
     go_ret
     exact ⟨rfl, below_trans hb_h.out hb1 hb_h.out.size⟩
   · rw [if_neg hyn] at hS
     have hyx : y ≤ 1048576 := by have := szL_nn (show 0 ≤ t_szL x sl by rw [← hy]; omega); have := hxl (by omega); omega
     have hC3 := fun W' => szIntL_any C d tl y W' (by omega) hyx hl3'
     rw [← hS] at hC3
     by_cases hSn : S < 0
     · have hS1 : S = -1 := by rw [hS]; exact szL_neg (by rw [← hS]; exact hSn)
       subst hS1
       have hC1_h := lH hC1; have hC2_h := lH hC2; have hC3_h := lH hC3; have hx_h := lH hx; have hy_h := lH hy; have hS_h := lH hS; have hn_h := lH hn; have hsl_h := lH hsl; have htl_h := lH htl; have hb_h := lH hb; have k0_h := lH k0; have hB2_h := lH hB2; have e1_h := lH e1; have e2_h := lH e2; have e3_h := lH e3; have hxl_h := lH hxl; clear hC1 hC2 hC3 hx hy hS hn hsl htl hb k0 hB2 e1 e2 e3 hxl; clear hE
       go_enter Tryz.func4, Tryz.ntmps4
       go_upto_region 1 with (fail)
       rw [← hW]
       clear hW
       go_wp2_with (fail)
       refine (hC1_h.out).mono ?_
       rintro e w1 ⟨rfl, hb1⟩
       clear c0 c1 c2 c3 f0 f1 f2 f3
       obtain ⟨⟨c0, c1, c2, c3⟩, f0, f1, f2, f3⟩ := t_box4 (t_box_below k0_h.out hb1)
       go_wp2_with (fail)
       refine (hC2_h.out _).mono ?_
       rintro e w1 ⟨rfl, rfl⟩
       go_wp2_with (fail)
       refine (hC3_h.out _).mono ?_
       rintro e w1 ⟨rfl, rfl⟩
       go_wp2_with (fail)
       go_ret
       exact ⟨rfl, below_trans hb_h.out hb1 hb_h.out.size⟩
     · have hC1_h := lH hC1
       have hC2_h := lH hC2; have hC3_h := lH hC3; have hx_h := lH hx; have hy_h := lH hy; have hS_h := lH hS; have hn_h := lH hn; have hsl_h := lH hsl; have htl_h := lH htl; have hb_h := lH hb; have k0_h := lH k0; have hB2_h := lH hB2; have e1_h := lH e1; have e2_h := lH e2; have e3_h := lH e3; have hxl_h := lH hxl; clear hC1 hC2 hC3 hx hy hS hn hsl htl hb k0 hB2 e1 e2 e3 hxl; clear hE
       go_enter Tryz.func4, Tryz.ntmps4
       go_upto_region 1 with (fail)
       rw [← hW]
       clear hW
       go_wp2_with (fail)
       refine (hC1_h.out).mono ?_
       rintro e w1 ⟨rfl, hb1⟩
       clear c0 c1 c2 c3 f0 f1 f2 f3
       obtain ⟨⟨c0, c1, c2, c3⟩, f0, f1, f2, f3⟩ := t_box4 (t_box_below k0_h.out hb1)
       go_wp2_with (fail)
       refine (hC2_h.out _).mono ?_
       rintro e w1 ⟨rfl, rfl⟩
       go_wp2_with (fail)
       refine (hC3_h.out _).mono ?_
       rintro e w1 ⟨rfl, rfl⟩
       go_wp2_with (fail)
       go_ret
       exact ⟨rfl, below_trans hb_h.out hb1 hb_h.out.size⟩
theorem info_ed : (Tryz.prog.info? tEd).map (fun i => (i.zero, i.size, i.bytes)) = some (some (.agg #[.int .i64 0, .int .i64 0, .slice none 0 0, .slice none 0 0]), 4, 64) := by kernel_rfl
def eh0 : EHd := (0, 0, (none, 0, []), (none, 0, []))
theorem madeEdges (n : Nat) : (madeCells (Value.agg #[.int .i64 0, .int .i64 0, .slice none 0 0, .slice none 0 0]).cells (n * 4)).toList.take (n * 4) = ecs (List.replicate n eh0) := by
 have hs : (madeCells (Value.agg #[.int .i64 0, .int .i64 0, .slice none 0 0, .slice none 0 0]).cells (n * 4)).toList.length = n * 4 := by rw [Array.length_toList, size_madeCells]
 rw [List.take_of_length_le (by omega)]
 apply List.ext_getElem?
 intro j
 by_cases hj : j < n * 4
 · have key : ∀ q r, q * 4 + r < n * 4 → r < 4 → (madeCells (Value.agg #[.int .i64 0, .int .i64 0, .slice none 0 0, .slice none 0 0]).cells (n * 4)).toList[q * 4 + r]? = (ec eh0)[r]? := by
    intro q r h hr
    have hm : (q * 4 + r) % 4 = r := by omega
    have hr' : r = 0 ∨ r = 1 ∨ r = 2 ∨ r = 3 := by omega
    simp only [madeCells, Value.cells, Array.toList_map, List.getElem?_map, Array.toList_range, List.getElem?_range h, Option.map_some]
    show some (_[(q * 4 + r) % 4]!) = _
    rw [hm]
    rcases hr' with rfl | rfl | rfl | rfl <;> rfl
   have hq : j / 4 < n := by omega
   have hg := ecs_get (l := List.replicate n eh0) (j := j / 4) (n := eh0) (by simp [hq])
   have e : j = j / 4 * 4 + j % 4 := by omega
   have hr' : j % 4 = 0 ∨ j % 4 = 1 ∨ j % 4 = 2 ∨ j % 4 = 3 := by omega
   rw [e]
   rcases hr' with h | h | h | h <;> rw [h] at e ⊢
   · rw [key _ 0 (by omega) (by omega)]; exact hg.1.symm
   · rw [key _ 1 (by omega) (by omega)]; exact hg.2.1.symm
   · rw [key _ 2 (by omega) (by omega)]; exact hg.2.2.1.symm
   · rw [key _ 3 (by omega) (by omega)]; exact hg.2.2.2.symm
 · rw [List.getElem?_eq_none (by omega), List.getElem?_eq_none (by simp; omega)]
section
variable {w : World} {A : Option Addr} {n cap : Nat} {hs : List EHd}
theorem ES.set (h : Sl w tEd 4 A n cap (ecs hs)) (hn : hs.length = n) {ad : Addr} (hA : A = some ad) {j : Nat} (k v : Int) (B C : Option Addr) (b c : Nat) (l m : List Int) (hj : j < n) :
  Sl ((((w.setCell (ad.add (j * 4)) (.int .i64 k)).setCell ⟨(ad.add (j * 4)).block, (ad.add (j * 4)).off + 1, none⟩ (.int .i64 v)).setCell ⟨(ad.add (j * 4)).block, (ad.add (j * 4)).off + 2, none⟩ (.slice B l.length b)).setCell ⟨(ad.add (j * 4)).block, (ad.add (j * 4)).off + 3, none⟩ (.slice C m.length c)) tEd 4 A n cap (ecs (hs.set j (k, v, (B, b, l), (C, c, m)))) ∧
  Keeps (· ∈ fpA A) w ((((w.setCell (ad.add (j * 4)) (.int .i64 k)).setCell ⟨(ad.add (j * 4)).block, (ad.add (j * 4)).off + 1, none⟩ (.int .i64 v)).setCell ⟨(ad.add (j * 4)).block, (ad.add (j * 4)).off + 2, none⟩ (.slice B l.length b)).setCell ⟨(ad.add (j * 4)).block, (ad.add (j * 4)).off + 3, none⟩ (.slice C m.length c)) := by
 have hl : (ecs hs).length = n * 4 := by rw [ecs_length, hn]
 have s1 := Sl.set h hA (j * 4) (.int .i64 k) (by omega)
 have s2 := Sl.set s1 hA (j * 4 + 1) (.int .i64 v) (by rw [List.length_set]; omega)
 have s3 := Sl.set s2 hA (j * 4 + 2) (.slice B l.length b) (by rw [List.length_set, List.length_set]; omega)
 have s4 := Sl.set s3 hA (j * 4 + 3) (.slice C m.length c) (by rw [List.length_set, List.length_set, List.length_set]; omega)
 have e := ecs_set (l := hs) (j := j) (k, v, (B, b, l), (C, c, m)) (by omega)
 simp only [Hd.val] at e
 rw [e, add_next ad (j * 4) 1 (by omega), add_next ad (j * 4) 2 (by omega), add_next ad (j * 4) 3 (by omega)] at s4
 refine ⟨s4, ?_⟩
 have hb : (ad.add (j * 4)).block ∈ fpA A := by rw [block_of_add, hA]; simp
 exact ((((Keeps.refl _ w).setCell (p := ad.add (j * 4)) hb _).setCell (p := ⟨(ad.add (j * 4)).block, (ad.add (j * 4)).off + 1, none⟩) hb _).setCell (p := ⟨(ad.add (j * 4)).block, (ad.add (j * 4)).off + 2, none⟩) hb _).setCell (p := ⟨(ad.add (j * 4)).block, (ad.add (j * 4)).off + 3, none⟩) hb _
theorem ES.mid {ad : Addr} (h : Sl w tEd 4 (some ad) n cap (ecs hs)) (hn : hs.length = n) {j : Nat} (k v : Int) (s : Value) (hj : j < n) :
  ((∃ x, w.cell? (ad.add (j * 4)) = some x) ∧ w.frozen? (ad.add (j * 4)) = false) ∧
  ((∃ x, (w.setCell (ad.add (j * 4)) (.int .i64 k)).cell? ⟨(ad.add (j * 4)).block, (ad.add (j * 4)).off + 1, none⟩ = some x) ∧ (w.setCell (ad.add (j * 4)) (.int .i64 k)).frozen? ⟨(ad.add (j * 4)).block, (ad.add (j * 4)).off + 1, none⟩ = false) ∧
  ((∃ x, ((w.setCell (ad.add (j * 4)) (.int .i64 k)).setCell ⟨(ad.add (j * 4)).block, (ad.add (j * 4)).off + 1, none⟩ (.int .i64 v)).cell? ⟨(ad.add (j * 4)).block, (ad.add (j * 4)).off + 2, none⟩ = some x) ∧
  ((w.setCell (ad.add (j * 4)) (.int .i64 k)).setCell ⟨(ad.add (j * 4)).block, (ad.add (j * 4)).off + 1, none⟩ (.int .i64 v)).frozen? ⟨(ad.add (j * 4)).block, (ad.add (j * 4)).off + 2, none⟩ = false) ∧
  ((∃ x, (((w.setCell (ad.add (j * 4)) (.int .i64 k)).setCell ⟨(ad.add (j * 4)).block, (ad.add (j * 4)).off + 1, none⟩ (.int .i64 v)).setCell ⟨(ad.add (j * 4)).block, (ad.add (j * 4)).off + 2, none⟩ s).cell? ⟨(ad.add (j * 4)).block, (ad.add (j * 4)).off + 3, none⟩ = some x) ∧
  (((w.setCell (ad.add (j * 4)) (.int .i64 k)).setCell ⟨(ad.add (j * 4)).block, (ad.add (j * 4)).off + 1, none⟩ (.int .i64 v)).setCell ⟨(ad.add (j * 4)).block, (ad.add (j * 4)).off + 2, none⟩ s).frozen? ⟨(ad.add (j * 4)).block, (ad.add (j * 4)).off + 3, none⟩ = false) := by
 have hl : (ecs hs).length = n * 4 := by rw [ecs_length, hn]
 have s1 := Sl.set h rfl (j * 4) (.int .i64 k) (by omega)
 have s2 := Sl.set s1 rfl (j * 4 + 1) (.int .i64 v) (by rw [List.length_set]; omega)
 have s3 := Sl.set s2 rfl (j * 4 + 2) s (by rw [List.length_set, List.length_set]; omega)
 rw [← add_next ad (j * 4) 1 (by omega), ← add_next ad (j * 4) 2 (by omega), ← add_next ad (j * 4) 3 (by omega)]
 obtain ⟨a0, h0, _, c0, f0⟩ := Sl.cell h (j := j * 4) (u := _) (List.getElem?_eq_getElem (by omega))
 obtain ⟨a1, h1, _, c1, f1⟩ := Sl.cell s1 (j := j * 4 + 1) (u := _) (List.getElem?_eq_getElem (by rw [List.length_set]; omega))
 obtain ⟨a2, h2, _, c2, f2⟩ := Sl.cell s2 (j := j * 4 + 2) (u := _) (List.getElem?_eq_getElem (by rw [List.length_set, List.length_set]; omega))
 obtain ⟨a3, h3, _, c3, f3⟩ := Sl.cell s3 (j := j * 4 + 3) (u := _) (List.getElem?_eq_getElem (by rw [List.length_set, List.length_set, List.length_set]; omega))
 obtain rfl := Option.some.inj h0
 obtain rfl := Option.some.inj h1
 obtain rfl := Option.some.inj h2
 obtain rfl := Option.some.inj h3
 exact ⟨⟨⟨_, c0⟩, f0 _⟩, ⟨⟨_, c1⟩, f1 _⟩, ⟨⟨_, c2⟩, f2 _⟩, ⟨_, c3⟩, f3 _⟩
end
theorem egs_take_step {l : List EHd} {ys : List EHd} {k : Nat} {x y : EHd} (hx : l[k]? = some x) (h : ys.map egOf = (l.take k).map egOf) (he : egOf y = egOf x) : (ys ++ [y]).map egOf = (l.take (k + 1)).map egOf := by
 rw [List.map_append, h, List.take_add_one, hx]; simp [he]
theorem set_rep_step {α : Type} (hs : List α) (x d : α) {n k : Nat} (hk : hs.length = k) (h : k < n) : (hs ++ List.replicate (n - k) d).set k x = (hs ++ [x]) ++ List.replicate (n - (k + 1)) d := by
 subst hk
 rw [List.set_append_right _ _ (Nat.le_refl _), Nat.sub_self, show n - hs.length = (n - (hs.length + 1)) + 1 by omega, List.replicate_succ, List.set_cons_zero, List.append_assoc]
 rfl
theorem box_set {w : World} {B : Nat} {cs : Array Value} {t : TypeId} (h : w.heap[B]? = some (.cells cs t)) (i : Nat) (x : Value) : (w.setCell ⟨B, i, none⟩ x).heap[B]? = some (.cells (cs.setIfInBounds i x) t) ∧ Keeps (· = B) w (w.setCell ⟨B, i, none⟩ x) :=
 ⟨by simp [World.setCell, Array.getElem?_modify, h], (Keeps.refl (fun x => x = B) w).setCell (p := ⟨B, i, none⟩) rfl _⟩
theorem allocs3 (w : World) (o o' o'' : Obj) : ∃ W, W = ((w.alloc o).alloc o').alloc o'' ∧ Below w.heap.size w W ∧ W.heap[w.heap.size]? = some o ∧ W.heap[w.heap.size + 1]? = some o' ∧ W.heap[w.heap.size + 1 + 1]? = some o'' := by
 refine ⟨_, rfl, ((t_below_alloc w o).alloc (by simp) _).alloc (by simp; omega) _, ?_, ?_, ?_⟩
 · exact t_box_below (t_box_below (heap_alloc_new w o) (t_below_alloc _ _)) (t_below_alloc _ _)
 · have := heap_alloc_new (w.alloc o) o'
   rw [World.size_alloc] at this
   exact t_box_below this (t_below_alloc _ _)
 · have := heap_alloc_new ((w.alloc o).alloc o') o''
   rw [World.size_alloc, World.size_alloc] at this
   exact this
theorem set4 {w : World} {B : Nat} {t : TypeId} {x y z u a b c d : Value} (h : w.heap[B]? = some (.cells #[x, y, z, u] t)) : ((((w.setCell ⟨B, 0, none⟩ a).setCell ⟨B, 1, none⟩ b).setCell ⟨B, 2, none⟩ c).setCell ⟨B, 3, none⟩ d).heap[B]? = some (.cells #[a, b, c, d] t) ∧ Keeps (· = B) w ((((w.setCell ⟨B, 0, none⟩ a).setCell ⟨B, 1, none⟩ b).setCell ⟨B, 2, none⟩ c).setCell ⟨B, 3, none⟩ d) := by
 obtain ⟨h1, k1⟩ := box_set h 0 a
 obtain ⟨h2, k2⟩ := box_set h1 1 b
 obtain ⟨h3, k3⟩ := box_set h2 2 c
 obtain ⟨h4, k4⟩ := box_set h3 3 d
 exact ⟨h4, ((k1.trans k2).trans k3).trans k4⟩
def NewLs (w w' : World) (ls : List Hd) : Prop := OwLs w' [] ls ∧ FreshL w.heap.size (fpR ls)
set_option maxRecDepth 100000 in
set_option maxHeartbeats 1000000 in
theorem toEdge_any (k v : Int) (B C : Option Addr) (b c : Nat) (l m : List Int) (w : World) (hB : RdI w B l) (hC : RdI w C m) (hl : l.length ≤ 1048576) (hm : m.length ≤ 1048576) :
  Calls Tryz.prog 39 #[.agg #[.int .i64 k, .int .i64 v, .slice B l.length b, .slice C m.length c]] w fun e w' => ∃ (x y : Hd), e = .returned (.agg #[.int .i64 k, .int .i64 v, .slice x.1 l.length x.2.1, .slice y.1 m.length y.2.1]) ∧ x.2.2 = l ∧ y.2.2 = m ∧ NewLs w w' [x, y] ∧ Below w.heap.size w w' := by
 obtain ⟨p, hp⟩ : ∃ p, p = l.length := ⟨_, rfl⟩
 obtain ⟨q, hq⟩ : ∃ q, q = m.length := ⟨_, rfl⟩
 have hC1 := fun (W : World) (hb : Below w.heap.size w W) => toIntS_any B b l W (hB.below hb) (by omega)
 have hC2 := fun (W : World) (hb : Below w.heap.size w W) => toIntS_any C c m W (hC.below hb) (by omega)
 simp only [← hp] at hC1
 simp only [← hq] at hC2
 rw [← hp, ← hq]
 obtain ⟨W, hW, bW, k0, k1, k2⟩ := allocs3 w (.cells #[.int .i64 k, .int .i64 v, .slice B p b, .slice C q c] 49) (.cells #[.int .i64 0, .int .i64 0, .slice none 0 0, .slice none 0 0] tEd) (.cells #[.int .i64 0, .int .i64 0, .slice none 0 0, .slice none 0 0] tEd)
 obtain ⟨W1, hW1⟩ : ∃ W1, W1 = W.setCell ⟨w.heap.size + 1 + 1, 0, none⟩ (.int .i64 k) := ⟨_, rfl⟩
 obtain ⟨j2, s1⟩ := box_set k2 0 (.int .i64 k)
 rw [← hW1] at j2 s1
 have j0 := t_box_keeps k0 s1 (by omega)
 have j1 := t_box_keeps k1 s1 (by omega)
 have bW1 := below_keeps bW s1 bW.size (fun x hx => by omega)
 obtain ⟨W2, hW2⟩ : ∃ W2, W2 = W1.setCell ⟨w.heap.size + 1 + 1, 1, none⟩ (.int .i64 v) := ⟨_, rfl⟩
 obtain ⟨i2, s2⟩ := box_set j2 1 (.int .i64 v)
 rw [← hW2] at i2 s2
 have i2' : W2.heap[w.heap.size + 1 + 1]? = some (.cells #[.int .i64 k, .int .i64 v, .slice none 0 0, .slice none 0 0] tEd) := i2
 have j2' : W1.heap[w.heap.size + 1 + 1]? = some (.cells #[.int .i64 k, .int .i64 0, .slice none 0 0, .slice none 0 0] tEd) := j2
 have i0 := t_box_keeps j0 s2 (by omega)
 have i1 := t_box_keeps j1 s2 (by omega)
 have bW2 := below_keeps bW1 s2 bW1.size (fun x hx => by omega)
 have hz2 := t_box_lt i2'
 obtain ⟨⟨c0, c1, c2, c3⟩, f0, f1, f2, f3⟩ := t_box4 k0
 obtain ⟨⟨d0, d1, d2, d3⟩, g0, g1, g2, g3⟩ := t_box4 k2
 clear hB hC j2 i2 bW bW1; have hC1_h := lH hC1; have hC2_h := lH hC2; have hp_h := lH hp; have hq_h := lH hq; have k0_h := lH k0; have k1_h := lH k1; have k2_h := lH k2; have j0_h := lH j0; have j1_h := lH j1; have j2'_h := lH j2'; have i0_h := lH i0; have i1_h := lH i1; have i2'_h := lH i2'; have bW2_h := lH bW2; have s1_h := lH s1; have s2_h := lH s2; clear hC1 hC2 hp hq k0 k1 k2 j0 j1 j2' i0 i1 i2' bW2 s1 s2
 go_enter Tryz.func39, Tryz.ntmps39
 go_upto_region 2 with (fail)
 rw [← hW]
 clear hW
 go_upto_region 3 with (fail)
 rw [← hW1]
 clear hW1 c0 c1 c2 c3 f0 f1 f2 f3 d0 d1 d2 d3 g0 g1 g2 g3
 obtain ⟨⟨c0, c1, c2, c3⟩, f0, f1, f2, f3⟩ := t_box4 j0_h.out
 obtain ⟨⟨d0, d1, d2, d3⟩, g0, g1, g2, g3⟩ := t_box4 j2'_h.out
 go_upto_region 4 with (fail)
 rw [← hW2]
 clear hW2 c0 c1 c2 c3 f0 f1 f2 f3 d0 d1 d2 d3 g0 g1 g2 g3
 obtain ⟨⟨c0, c1, c2, c3⟩, f0, f1, f2, f3⟩ := t_box4 i0_h.out
 go_wp2_with (fail)
 refine (hC1_h.out W2 bW2_h.out).mono ?_
 rintro e w3 ⟨A3, q3, rfl, hi3, hf3, hb3⟩
 rw [← hp_h.out]
 have k0' := t_box_below i0_h.out hb3
 have k1' := t_box_below i1_h.out hb3
 have k2' := t_box_below i2'_h.out hb3
 have hz3 := t_box_lt k2'
 obtain ⟨W4, hW4⟩ : ∃ W4, W4 = w3.setCell ⟨w.heap.size + 1 + 1, 2, none⟩ (.slice A3 p q3) := ⟨_, rfl⟩
 obtain ⟨l2, s3⟩ := box_set k2' 2 (.slice A3 p q3)
 rw [← hW4] at l2 s3
 have l2' : W4.heap[w.heap.size + 1 + 1]? = some (.cells #[.int .i64 k, .int .i64 v, .slice A3 p q3, .slice none 0 0] tEd) := l2
 have l0 := t_box_keeps k0' s3 (by omega)
 have l1 := t_box_keeps k1' s3 (by omega)
 have hi4 := hi3.keeps s3 (fun x hx e => by have := hf3 x hx; omega)
 have bW4 := below_keeps (below_trans bW2_h.out hb3 bW2_h.out.size) s3 (Nat.le_trans bW2_h.out.size hb3.size) (fun x hx => by omega)
 have hz4 : W2.heap.size ≤ W4.heap.size := Nat.le_trans hb3.size s3.size
 have hf4 := hf3
 clear c0 c1 c2 c3 f0 f1 f2 f3 l2 hi3 hf3 hb3 s3 k0'
 obtain ⟨⟨d0, d1, d2, d3⟩, g0, g1, g2, g3⟩ := t_box4 k2'
 have k1'_h := lH k1'; have k2'_h := lH k2'; have l0_h := lH l0; have l1_h := lH l1; have l2'_h := lH l2'; have hi4_h := lH hi4; have bW4_h := lH bW4; have hf4_h := lH hf4; clear k1' k2' l0 l1 l2' hi4 bW4 hf4
 go_upto_region 5 with (fail)
 rw [← hW4]
 clear hW4 d0 d1 d2 d3 g0 g1 g2 g3
 obtain ⟨⟨c0, c1, c2, c3⟩, f0, f1, f2, f3⟩ := t_box4 l0_h.out
 go_wp2_with (fail)
 refine (hC2_h.out W4 bW4_h.out).mono ?_
 rintro e w5 ⟨A5, q5, rfl, hi5, hf5, hb5⟩
 rw [← hq_h.out]
 have m1 := t_box_below l1_h.out hb5
 have m2 := t_box_below l2'_h.out hb5
 have hz5 := t_box_lt m2
 have hw4 := t_box_lt l2'_h.out
 obtain ⟨W6, hW6⟩ : ∃ W6, W6 = w5.setCell ⟨w.heap.size + 1 + 1, 3, none⟩ (.slice A5 q q5) := ⟨_, rfl⟩
 obtain ⟨n2, s5⟩ := box_set m2 3 (.slice A5 q q5)
 rw [← hW6] at n2 s5
 have n2' : W6.heap[w.heap.size + 1 + 1]? = some (.cells #[.int .i64 k, .int .i64 v, .slice A3 p q3, .slice A5 q q5] tEd) := n2
 have n1 := t_box_keeps m1 s5 (by omega)
 have hL := (OwLs.two (x := (A3, q3, l)) (y := (A5, q5, m)) hi4_h.out hb5 hi5 hf5)
 have hLf : FreshL W2.heap.size (fpR [((A3, q3, l) : Hd), (A5, q5, m)]) := fun x hx => by
  rw [fpR_cons, fpR_cons] at hx
  rcases List.mem_append.1 hx with hx | hx
  · exact hf4_h.out x hx
  · rcases List.mem_append.1 hx with hx | hx
    · have := hf5 x hx; omega
    · simp [fpR] at hx
 have bW6 := below_keeps (below_trans bW4_h.out hb5 bW4_h.out.size) s5 (Nat.le_trans bW4_h.out.size hb5.size) (fun x hx => by omega)
 have hL6 := hL.keeps s5 (fun x hx e => by have := hLf x hx; omega)
 obtain ⟨t1, t2⟩ := set4 (a := .int .i64 k) (b := .int .i64 v) (c := .slice A3 p q3) (d := .slice A5 q q5) n1
 have hL7 := hL6.keeps t2 (fun x hx e => by have := hLf x hx; omega)
 have bW7 := below_keeps bW6 t2 bW6.size (fun x hx => by omega)
 have hLw : FreshL w.heap.size (fpR [((A3, q3, l) : Hd), (A5, q5, m)]) := hLf.mono bW2_h.out.size
 clear c0 c1 c2 c3 f0 f1 f2 f3 n2 hi5 hf5 hb5 m1 s5 hL hL6 hLf bW6 t2
 obtain ⟨⟨d0, d1, d2, d3⟩, g0, g1, g2, g3⟩ := t_box4 m2
 have m2_h := lH m2; have n1_h := lH n1; have n2'_h := lH n2'; have t1_h := lH t1; have hL7_h := lH hL7; have bW7_h := lH bW7; have hLw_h := lH hLw; clear m2 n1 n2' t1 hL7 bW7 hLw
 go_upto_region 6 with (fail)
 rw [← hW6]
 clear hW6 d0 d1 d2 d3 g0 g1 g2 g3
 obtain ⟨⟨d0, d1, d2, d3⟩, g0, g1, g2, g3⟩ := t_box4 n2'_h.out
 obtain ⟨⟨c0, c1, c2, c3⟩, f0, f1, f2, f3⟩ := t_box4 n1_h.out
 go_wp2_with (fail)
 refine bodyPost_ret (results_cell_row rfl _ _ (w.heap.size + 1) _ _ (0, 0) _ rfl t1_h.out Tryz.underlying50 rfl (by kernel_rfl)) rfl ?_
 exact ⟨(A3, q3, l), (A5, q5, m), rfl, rfl, rfl, ⟨hL7_h.out, hLw_h.out⟩, bW7_h.out⟩
set_option maxRecDepth 100000 in
set_option maxHeartbeats 2000000 in
theorem toEdgeS_any (A : Option Addr) (c : Nat) (l : List EHd) (w : World) (h : RdE w A l) (hl : l.length ≤ 1048576) (hr : ∀ x, x ∈ l → x.2.2.1.2.2.length ≤ 1048576 ∧ x.2.2.2.2.2.length ≤ 1048576) :
  Calls Tryz.prog 19 #[.slice A l.length c] w fun e w' => ∃ (A' : Option Addr) (cap : Nat) (ys : List EHd), e = .returned (.slice A' l.length cap) ∧ ys.map egOf = l.map egOf ∧ Sl w' tEd 4 A' l.length cap (ecs ys) ∧ OwLs w' (fpA A') (eh ys) ∧ FreshL w.heap.size (fpA A' ++ fpR (eh ys)) ∧ Below w.heap.size w w' := by
 obtain ⟨m, hm⟩ : ∃ m, m = l.length := ⟨_, rfl⟩
 rw [← hm] at hl ⊢
 have hm_h := lH hm; have hr_h := lH hr; clear hm hr
 go_enter Tryz.func19, Tryz.ntmps19
 go_wp2_with (at_make; refine wpList_make_Sl _ rfl _ _ _ rfl tEd Tryz.underlying29 info_ed m m rfl rfl rfl rfl (Nat.le_refl _) (by omega) (by unfold maxLen; omega) ?_; intro G w1 hs hG hb1)
 have hs0 : Sl w1 tEd 4 (some G) m m (ecs (List.replicate m eh0)) := by rw [← madeEdges]; exact hs
 have hGl : G.block < w1.heap.size := hs0.lt G.block (by simp)
 clear hs; have hs0_h := lH hs0; clear hs0
 go_loopw [4] (fun i wr => ∃ (k : Nat) (ys : List EHd), k ≤ m ∧ i = .int .i64 k ∧ ys.length = k ∧ ys.map egOf = (l.take k).map egOf ∧ Sl wr tEd 4 (some G) m m (ecs (ys ++ List.replicate (m - k) eh0)) ∧ OwLs wr [G.block] (eh ys) ∧ FreshL w.heap.size (fpR (eh ys)) ∧ Below w.heap.size w wr ∧ w1.heap.size ≤ wr.heap.size)
  (fun i _ => m - (intOf i).toNat)
 case atStart => exact ⟨0, [], Nat.zero_le _, rfl, rfl, rfl, by simpa using hs0_h.out, OwLs.nil _ _, fun b hb => by simp [eh, fpR] at hb, hb1, Nat.le_refl _⟩
 case round =>
  clear hs0_h
  obtain ⟨k, ys, hk, rfl, hyl, hye, his, hO, hfr, hb, hsz⟩ := hrel
  by_cases hlt : k < m
  · obtain ⟨ad, κ, v, B, b, s, C, d, t, rfl, hn, ⟨d0, d1, d2, d3⟩, hrB, hrC⟩ := (h.below hb).at_ (j := k) (by rw [← hm_h.out]; exact hlt)
    have hrr := hr_h.out _ (List.mem_of_getElem? hn)
    have hC := toEdge_any κ v B C b d s t wr hrB hrC hrr.1 hrr.2
    obtain ⟨p, hp⟩ : ∃ p, p = s.length := ⟨_, rfl⟩
    obtain ⟨q, hq⟩ : ∃ q, q = t.length := ⟨_, rfl⟩
    rw [← hp, ← hq] at hC
    rw [← hp] at d2
    rw [← hq] at d3
    have hkI : (k : Int) < (m : Int) := by omega
    have hC_h := lH hC; have hp_h := lH hp; have hq_h := lH hq; have hn_h := lH hn; have his_h := lH his; have hye_h := lH hye; have hyl_h := lH hyl; have hfr_h := lH hfr; have hO_h := lH hO; clear hC hp hq hn his hye hyl hfr hO; clear h hrB hrC hrr
    go_wp2_with (fail)
    refine (hC_h.out).mono ?_
    rintro e w2 ⟨⟨B', b', s'⟩, ⟨C', c', t'⟩, rfl, rfl, rfl, hN, hb2⟩
    have his2 := his_h.out.below hb2
    have hlen : (ys ++ List.replicate (m - k) eh0).length = m := by rw [List.length_append, List.length_replicate, hyl_h.out]; omega
    obtain ⟨⟨⟨x0, e0⟩, g0⟩, ⟨⟨x1, e1⟩, g1⟩, ⟨⟨x2, e2⟩, g2⟩, ⟨x3, e3⟩, g3⟩ := ES.mid his2 hlen (j := k) κ v (.slice B' p b') hlt
    obtain ⟨hset, hks⟩ := ES.set his2 hlen (ad := G) rfl (j := k) κ v B' C' b' c' s' t' hlt
    rw [set_rep_step ys _ eh0 hyl_h.out hlt] at hset
    have hO2 := (hO_h.out.app hb2 hN.1 hN.2 (fun x hx => by obtain rfl := List.mem_singleton.1 hx; omega)).grow (fp' := [G.block]) (fun x hx => .inl hx) hks
    have hfr2 : FreshL w.heap.size (fpR (eh (ys ++ [(κ, v, (B', b', s'), (C', c', t'))]))) := fun x hx => by
     rw [eh_append, fpR_append] at hx
     rcases List.mem_append.1 hx with hx | hx
     · exact hfr_h.out x hx
     · have := hN.2 x hx; have := hb.size; omega
    have hb3 := below_keeps (below_trans hb hb2 hb.size) hks (Nat.le_trans hb.size hb2.size) (fun b hb => by simp at hb; omega)
    have hye2 := egs_take_step (y := (κ, v, (B', b', s'), (C', c', t'))) hn_h.out hye_h.out rfl
    have hsz2 := Nat.le_trans hsz (Nat.le_trans hb2.size hks.size)
    rw [← hp_h.out, ← hq_h.out] at hset hks hO2 hb3 hsz2
    clear hks hN his2 hlen d0 d1 d2 d3; have hset_h := lH hset; have hO2_h := lH hO2; have hfr2_h := lH hfr2; have hb3_h := lH hb3; have hye2_h := lH hye2; have hb2_h := lH hb2; have hsz2_h := lH hsz2; clear hset hO2 hfr2 hb3 hye2 hb2 hsz2
    go_wp2_with (fail)
    go_roundw
    case rel => exact ⟨k + 1, _, by omega, by go_num, by rw [List.length_append, hyl_h.out]; rfl, hye2_h.out, hset_h.out, by rw [eh_append]; exact hO2_h.out, hfr2_h.out, hb3_h.out, hsz2_h.out⟩
    case measure => simp [intOf]; omega
  · obtain rfl : k = m := by omega
    have hfin : Sl wr tEd 4 (some G) k k (ecs ys) := by rw [Nat.sub_self] at his; simpa using his
    have hye2 : ys.map egOf = l.map egOf := by rw [hye, List.take_of_length_le (by rw [← hm_h.out]; exact Nat.le_refl _)]
    have hff : FreshL w.heap.size (fpA (some G) ++ fpR (eh ys)) := fun x hx => by
     rcases List.mem_append.1 hx with hx | hx
     · simp at hx; omega
     · exact hfr x hx
    have hfin_h := lH hfin; have hye2_h := lH hye2; have hff_h := lH hff; have hO_h := lH hO; clear hfin hye2 hff hO; clear h his hye hyl hfr
    go_wp2_with (fail)
    go_ret
    exact ⟨some G, k, ys, rfl, hye2_h.out, hfin_h.out, hO_h.out, hff_h.out, hb⟩
set_option maxRecDepth 100000 in
set_option maxHeartbeats 2000000 in
theorem toGraph_law {v : Value} {g : Gr} {w : World} (h : RdGr w v g) (ok : OkG g) :
  Calls Tryz.prog 6 #[v] w fun e w' => ∃ v' fp, e = .returned v' ∧ OwGr w' v' g fp ∧ FreshL w.heap.size fp ∧ Below w.heap.size w w' := by
 obtain ⟨A, c, hs, ⟨B, b, s⟩, ⟨C, d, t⟩, rfl, e1, e2, e3, hE, hRa, hRb⟩ := h
 obtain ⟨z, es, s', t'⟩ := g
 have e1' : es = hs.map egOf := e1
 have e2' : s = s' := e2
 have e3' : t = t' := e3
 subst e1' e2' e3'
 obtain ⟨⟨ok1, ok2, ok3⟩, ok4, -⟩ := ok
 have ok1' : hs.length ≤ 1048576 := by have : (hs.map egOf).length ≤ 1048576 := ok1; simpa using this
 have ok2' : s.length ≤ 1048576 := ok2
 have ok3' : t.length ≤ 1048576 := ok3
 obtain ⟨n, hn⟩ : ∃ n, n = hs.length := ⟨_, rfl⟩
 obtain ⟨p, hp⟩ : ∃ p, p = s.length := ⟨_, rfl⟩
 obtain ⟨q, hq⟩ : ∃ q, q = t.length := ⟨_, rfl⟩
 have hC0 := fun (W : World) (hb : Below w.heap.size w W) => toEdgeS_any A c hs W (hE.below hb) ok1' (fun x hx => ok4 _ (List.mem_map_of_mem hx))
 have hC1 := fun (W : World) (hb : Below w.heap.size w W) => toIntS_any B b s W (RdI.below hRa hb) (by omega)
 have hC2 := fun (W : World) (hb : Below w.heap.size w W) => toIntS_any C d t W (RdI.below hRb hb) (by omega)
 simp only [← hn] at hC0
 simp only [← hp] at hC1
 simp only [← hq] at hC2
 show Calls Tryz.prog _ #[.agg #[.int .i64 z, .slice A hs.length c, .slice B s.length b, .slice C t.length d]] w fun e w' => ∃ v' fp, e = .returned v' ∧ OwGr w' v' (z, hs.map egOf, s, t) fp ∧ FreshL w.heap.size fp ∧ Below w.heap.size w w'
 rw [← hn, ← hp, ← hq]
 obtain ⟨W, hW, bW, k0, k1, k2⟩ := allocs3 w (.cells #[.int .i64 z, .slice A n c, .slice B p b, .slice C q d] 25) (.cells #[.int .i64 0, .slice none 0 0, .slice none 0 0, .slice none 0 0] tGr) (.cells #[.int .i64 0, .slice none 0 0, .slice none 0 0, .slice none 0 0] tGr)
 obtain ⟨W1, hW1⟩ : ∃ W1, W1 = W.setCell ⟨w.heap.size + 1 + 1, 0, none⟩ (.int .i64 z) := ⟨_, rfl⟩
 obtain ⟨j2, s1⟩ := box_set k2 0 (.int .i64 z)
 rw [← hW1] at j2 s1
 have j2' : W1.heap[w.heap.size + 1 + 1]? = some (.cells #[.int .i64 z, .slice none 0 0, .slice none 0 0, .slice none 0 0] tGr) := j2
 have j0 := t_box_keeps k0 s1 (by omega)
 have j1 := t_box_keeps k1 s1 (by omega)
 have bW1 := below_keeps bW s1 bW.size (fun x hx => by omega)
 have hz1 := t_box_lt j2'
 obtain ⟨⟨c0, c1, c2, c3⟩, f0, f1, f2, f3⟩ := t_box4 k0
 obtain ⟨⟨d0, d1, d2, d3⟩, g0, g1, g2, g3⟩ := t_box4 k2
 clear hE hRa hRb j2 bW e1 e2 e3 ok1 ok2 ok3 ok4; have hC0_h := lH hC0; have hC1_h := lH hC1; have hC2_h := lH hC2; have hn_h := lH hn; have hp_h := lH hp; have hq_h := lH hq; have k0_h := lH k0; have k1_h := lH k1; have k2_h := lH k2; have j0_h := lH j0; have j1_h := lH j1; have j2'_h := lH j2'; have bW1_h := lH bW1; have s1_h := lH s1; clear hC0 hC1 hC2 hn hp hq k0 k1 k2 j0 j1 j2' bW1 s1
 go_enter Tryz.func6, Tryz.ntmps6
 go_upto_region 2 with (fail)
 rw [← hW]
 clear hW
 go_upto_region 3 with (fail)
 rw [← hW1]
 clear hW1 c0 c1 c2 c3 f0 f1 f2 f3 d0 d1 d2 d3 g0 g1 g2 g3
 obtain ⟨⟨c0, c1, c2, c3⟩, f0, f1, f2, f3⟩ := t_box4 j0_h.out
 go_wp2_with (fail)
 refine (hC0_h.out W1 bW1_h.out).mono ?_
 rintro e w3 ⟨A3, q3, ys, rfl, hye, hsl3, hO3, hf3, hb3⟩
 have k0' := t_box_below j0_h.out hb3
 have k1' := t_box_below j1_h.out hb3
 have k2' := t_box_below j2'_h.out hb3
 obtain ⟨W4, hW4⟩ : ∃ W4, W4 = w3.setCell ⟨w.heap.size + 1 + 1, 1, none⟩ (.slice A3 n q3) := ⟨_, rfl⟩
 obtain ⟨l2, s3⟩ := box_set k2' 1 (.slice A3 n q3)
 rw [← hW4] at l2 s3
 have l2' : W4.heap[w.heap.size + 1 + 1]? = some (.cells #[.int .i64 z, .slice A3 n q3, .slice none 0 0, .slice none 0 0] tGr) := l2
 have l0 := t_box_keeps k0' s3 (by omega)
 have l1 := t_box_keeps k1' s3 (by omega)
 have hz4 : W1.heap.size ≤ W4.heap.size := Nat.le_trans hb3.size s3.size
 have hsl4 := hsl3.keeps s3 (fun x hx e => by have := hf3 x (List.mem_append_left _ hx); omega)
 have hO4 := hO3.keeps s3 (fun x hx e => by have := hf3 x (List.mem_append_right _ hx); omega)
 have bW4 := below_keeps (below_trans bW1_h.out hb3 bW1_h.out.size) s3 (Nat.le_trans bW1_h.out.size hb3.size) (fun x hx => by omega)
 have hylen : ys.length = n := by have := congrArg List.length hye; rw [List.length_map, List.length_map, ← hn_h.out] at this; exact this
 clear c0 c1 c2 c3 f0 f1 f2 f3 l2 hb3 s3 k0' hsl3 hO3
 obtain ⟨⟨d0, d1, d2, d3⟩, g0, g1, g2, g3⟩ := t_box4 k2'
 have k1'_h := lH k1'; have k2'_h := lH k2'; have l0_h := lH l0; have l1_h := lH l1; have l2'_h := lH l2'; have hsl4_h := lH hsl4; have hO4_h := lH hO4; have bW4_h := lH bW4; have hf3_h := lH hf3; have hye_h := lH hye; have hylen_h := lH hylen; clear k1' k2' l0 l1 l2' hsl4 hO4 bW4 hf3 hye hylen
 go_upto_region 4 with (fail)
 rw [← hW4]
 clear hW4 d0 d1 d2 d3 g0 g1 g2 g3
 obtain ⟨⟨c0, c1, c2, c3⟩, f0, f1, f2, f3⟩ := t_box4 l0_h.out
 go_wp2_with (fail)
 refine (hC1_h.out W4 bW4_h.out).mono ?_
 rintro e w5 ⟨A5, q5, rfl, hi5, hf5, hb5⟩
 rw [← hp_h.out]
 have m0 := t_box_below l0_h.out hb5
 have m1 := t_box_below l1_h.out hb5
 have m2 := t_box_below l2'_h.out hb5
 obtain ⟨W6, hW6⟩ : ∃ W6, W6 = w5.setCell ⟨w.heap.size + 1 + 1, 2, none⟩ (.slice A5 p q5) := ⟨_, rfl⟩
 obtain ⟨n2, s5⟩ := box_set m2 2 (.slice A5 p q5)
 rw [← hW6] at n2 s5
 have n2' : W6.heap[w.heap.size + 1 + 1]? = some (.cells #[.int .i64 z, .slice A3 n q3, .slice A5 p q5, .slice none 0 0] tGr) := n2
 have n0 := t_box_keeps m0 s5 (by omega)
 have n1 := t_box_keeps m1 s5 (by omega)
 have hz6 : W4.heap.size ≤ W6.heap.size := Nat.le_trans hb5.size s5.size
 have hsl6 := (hsl4_h.out.below hb5).keeps s5 (fun x hx e => by have := hf3_h.out x (List.mem_append_left _ hx); omega)
 have hO5 := (hO4_h.out.cons hb5 (x := (A5, q5, s)) hi5 hf5 (fun x hx => hsl4_h.out.lt x hx))
 have hff5 : FreshL W1.heap.size (fpA A3 ++ fpR (((A5, q5, s) : Hd) :: eh ys)) := fun x hx => by
  rw [fpR_cons] at hx
  rcases List.mem_append.1 hx with hx | hx
  · exact hf3_h.out x (List.mem_append_left _ hx)
  · rcases List.mem_append.1 hx with hx | hx
    · have := hf5 x hx; omega
    · exact hf3_h.out x (List.mem_append_right _ hx)
 have hO6 := hO5.keeps s5 (fun x hx e => by have := hff5 x (List.mem_append_right _ hx); omega)
 have bW6 := below_keeps (below_trans bW4_h.out hb5 bW4_h.out.size) s5 (Nat.le_trans bW4_h.out.size hb5.size) (fun x hx => by omega)
 clear c0 c1 c2 c3 f0 f1 f2 f3 n2 hb5 s5 m0 m1 hi5 hf5 hO5
 obtain ⟨⟨d0, d1, d2, d3⟩, g0, g1, g2, g3⟩ := t_box4 m2
 have m2_h := lH m2; have n0_h := lH n0; have n1_h := lH n1; have n2'_h := lH n2'; have hsl6_h := lH hsl6; have hO6_h := lH hO6; have bW6_h := lH bW6; have hff5_h := lH hff5; clear m2 n0 n1 n2' hsl6 hO6 bW6 hff5
 go_upto_region 5 with (fail)
 rw [← hW6]
 clear hW6 d0 d1 d2 d3 g0 g1 g2 g3
 obtain ⟨⟨c0, c1, c2, c3⟩, f0, f1, f2, f3⟩ := t_box4 n0_h.out
 go_wp2_with (fail)
 refine (hC2_h.out W6 bW6_h.out).mono ?_
 rintro e w7 ⟨A7, q7, rfl, hi7, hf7, hb7⟩
 rw [← hq_h.out]
 have o1 := t_box_below n1_h.out hb7
 have o2 := t_box_below n2'_h.out hb7
 obtain ⟨W8, hW8⟩ : ∃ W8, W8 = w7.setCell ⟨w.heap.size + 1 + 1, 3, none⟩ (.slice A7 q q7) := ⟨_, rfl⟩
 obtain ⟨r2, s7⟩ := box_set o2 3 (.slice A7 q q7)
 rw [← hW8] at r2 s7
 have r2' : W8.heap[w.heap.size + 1 + 1]? = some (.cells #[.int .i64 z, .slice A3 n q3, .slice A5 p q5, .slice A7 q q7] tGr) := r2
 have r1 := t_box_keeps o1 s7 (by omega)
 have hsl8 := (hsl6_h.out.below hb7).keeps s7 (fun x hx e => by have := hf3_h.out x (List.mem_append_left _ hx); omega)
 have hO7 := (hO6_h.out.cons hb7 (x := (A7, q7, t)) hi7 hf7 (fun x hx => hsl6_h.out.lt x hx)).perm (ms := (A5, q5, s) :: (A7, q7, t) :: eh ys) (.swap _ _ _)
 have hff7 : FreshL W1.heap.size (fpA A3 ++ fpR (((A5, q5, s) : Hd) :: (A7, q7, t) :: eh ys)) := fun x hx => by
  rw [fpR_cons, fpR_cons] at hx
  rcases List.mem_append.1 hx with hx | hx
  · exact hff5_h.out x (List.mem_append_left _ hx)
  · rcases List.mem_append.1 hx with hx | hx
    · exact hff5_h.out x (List.mem_append_right _ (by rw [fpR_cons]; exact List.mem_append_left _ hx))
    · rcases List.mem_append.1 hx with hx | hx
      · have := hf7 x hx; omega
      · exact hff5_h.out x (List.mem_append_right _ (by rw [fpR_cons]; exact List.mem_append_right _ hx))
 have hO8 := hO7.keeps s7 (fun x hx e => by have := hff7 x (List.mem_append_right _ hx); omega)
 have bW8 := below_keeps (below_trans bW6_h.out hb7 bW6_h.out.size) s7 (Nat.le_trans bW6_h.out.size hb7.size) (fun x hx => by omega)
 obtain ⟨t1, t2⟩ := set4 (a := .int .i64 z) (b := .slice A3 n q3) (c := .slice A5 p q5) (d := .slice A7 q q7) r1
 have hsl9 := hsl8.keeps t2 (fun x hx e => by have := hff7 x (List.mem_append_left _ hx); omega)
 have hO9 := hO8.keeps t2 (fun x hx e => by have := hff7 x (List.mem_append_right _ hx); omega)
 have bW9 := below_keeps bW8 t2 bW8.size (fun x hx => by omega)
 have hffw := hff7.mono bW1_h.out.size
 clear c0 c1 c2 c3 f0 f1 f2 f3 r2 hb7 s7 o1 hi7 hf7 hO7 hO8 hsl8 bW8 t2 hff7
 obtain ⟨⟨d0, d1, d2, d3⟩, g0, g1, g2, g3⟩ := t_box4 o2
 have o2_h := lH o2; have r1_h := lH r1; have r2'_h := lH r2'; have hsl9_h := lH hsl9; have hO9_h := lH hO9; have bW9_h := lH bW9; have hffw_h := lH hffw; have t1_h := lH t1; clear o2 r1 r2' hsl9 hO9 bW9 hffw t1
 go_upto_region 6 with (fail)
 rw [← hW8]
 clear hW8 d0 d1 d2 d3 g0 g1 g2 g3
 obtain ⟨⟨d0, d1, d2, d3⟩, g0, g1, g2, g3⟩ := t_box4 r2'_h.out
 obtain ⟨⟨c0, c1, c2, c3⟩, f0, f1, f2, f3⟩ := t_box4 r1_h.out
 go_wp2_with (fail)
 refine bodyPost_ret (results_cell_row rfl _ _ (w.heap.size + 1) _ _ (0, 0) _ rfl t1_h.out Tryz.underlying31 rfl (by kernel_rfl)) rfl ?_
 refine ⟨_, fpA A3 ++ fpR (((A5, q5, s) : Hd) :: (A7, q7, t) :: eh ys), rfl, ⟨A3, q3, ys, (A5, q5, s), (A7, q7, t), ?_, hye_h.out.symm, rfl, rfl, ?_, hO9_h.out, rfl⟩, hffw_h.out, bW9_h.out⟩
 · rw [hylen_h.out, hp_h.out, hq_h.out]
 · rw [hylen_h.out]; exact hsl9_h.out
theorem Qt.below {w w' : World} (h : Qt w w') : Below w.heap.size w w' := by obtain ⟨n, rfl⟩ := h; exact below_drewN (Below.refl _ _) n
theorem box_qt {w w' : World} {B : Nat} {o : Obj} (h : w.heap[B]? = some o) (hq : Qt w w') : w'.heap[B]? = some o := t_box_below h hq.below
theorem allocs2 (w : World) (o o' : Obj) : ∃ W, W = (w.alloc o).alloc o' ∧ Below w.heap.size w W ∧ W.heap[w.heap.size]? = some o ∧ W.heap[w.heap.size + 1]? = some o' := by
 obtain ⟨h1, h2, h3, -⟩ := two_boxes w o o'
 exact ⟨_, rfl, h1, h2, h3⟩
set_option maxRecDepth 100000 in
set_option maxHeartbeats 2000000 in
theorem eqEdge_any (k v : Int) (B C : Option Addr) (b c : Nat) (l m : List Int) (k' v' : Int) (B' C' : Option Addr) (b' c' : Nat) (l' m' : List Int) (w : World) (h1 : RdI w B l) (h2 : RdI w C m) (h1' : RdI w B' l') (h2' : RdI w C' m') (hl : l.length ≤ 1048576) (hm : m.length ≤ 1048576) :
  Calls Tryz.prog 46 #[.agg #[.int .i64 k, .int .i64 v, .slice B l.length b, .slice C m.length c], .agg #[.int .i64 k', .int .i64 v', .slice B' l'.length b', .slice C' m'.length c']] w fun e w' => e = .returned (.bool (decide (((k, v, l, m) : Eg) = (k', v', l', m')))) ∧ Below w.heap.size w w' := by
 have hQ1 := fun (W : World) (hb : Below w.heap.size w W) => eqIntS_any B B' b b' l l' W (h1.below hb) (h1'.below hb) (by omega)
 have hQ2 := fun (W : World) (hb : Below w.heap.size w W) => eqIntS_any C C' c c' m m' W (h2.below hb) (h2'.below hb) (by omega)
 obtain ⟨D, hD⟩ : ∃ D, D = decide (((k, v, l, m) : Eg) = (k', v', l', m')) := ⟨_, rfl⟩
 obtain ⟨D1, hD1⟩ : ∃ D, D = decide (l = l') := ⟨_, rfl⟩
 obtain ⟨D2, hD2⟩ : ∃ D, D = decide (m = m') := ⟨_, rfl⟩
 rw [← hD]
 simp only [← hD1] at hQ1
 simp only [← hD2] at hQ2
 have hDD : D = (decide (k = k') && (decide (v = v') && (D1 && D2))) := by
  rw [hD, hD1, hD2, Bool.eq_iff_iff]; simp
 obtain ⟨p, hp⟩ : ∃ p, p = l.length := ⟨_, rfl⟩
 obtain ⟨q, hq⟩ : ∃ q, q = m.length := ⟨_, rfl⟩
 obtain ⟨p', hp'⟩ : ∃ p, p = l'.length := ⟨_, rfl⟩
 obtain ⟨q', hq'⟩ : ∃ q, q = m'.length := ⟨_, rfl⟩
 simp only [← hp, ← hp'] at hQ1
 simp only [← hq, ← hq'] at hQ2
 rw [← hp, ← hq, ← hp', ← hq']
 obtain ⟨W, hW, bW, k0, k1⟩ := allocs2 w (.cells #[.int .i64 k, .int .i64 v, .slice B p b, .slice C q c] tEd) (.cells #[.int .i64 k', .int .i64 v', .slice B' p' b', .slice C' q' c'] tEd)
 obtain ⟨⟨c0, c1, c2, c3⟩, f0, f1, f2, f3⟩ := t_box4 k0
 obtain ⟨⟨d0, d1, d2, d3⟩, g0, g1, g2, g3⟩ := t_box4 k1
 clear h1 h2 h1' h2' hD hD1 hD2 hp hq hp' hq'
 by_cases e0 : k = k'
 · have t0 : (k != k') = false := by simp [e0]
   rw [decide_eq_true e0] at hDD
   by_cases e1 : v = v'
   · have t1 : (v != v') = false := by simp [e1]
     rw [decide_eq_true e1] at hDD
     cases D1
     · obtain rfl : D = false := by rw [hDD]; rfl
       clear e0 e1 hDD; have hQ1_h := lH hQ1; have hQ2_h := lH hQ2; have k0_h := lH k0; have k1_h := lH k1; have bW_h := lH bW; clear hQ1 hQ2 k0 k1 bW
       go_enter Tryz.func46, Tryz.ntmps46
       go_upto_region 1 with (fail)
       rw [← hW]
       clear hW
       go_wp2_with (fail)
       refine (hQ1_h.out W bW_h.out).mono ?_
       rintro e w1 ⟨rfl, hq1⟩
       go_wp2_with (fail)
       go_ret
       exact ⟨rfl, below_trans bW_h.out hq1.below bW_h.out.size⟩
     · obtain rfl : D = D2 := by rw [hDD]; rfl
       clear e0 e1 hDD; have hQ1_h := lH hQ1; have hQ2_h := lH hQ2; have k0_h := lH k0; have k1_h := lH k1; have bW_h := lH bW; clear hQ1 hQ2 k0 k1 bW
       go_enter Tryz.func46, Tryz.ntmps46
       go_upto_region 1 with (fail)
       rw [← hW]
       clear hW
       go_wp2_with (fail)
       refine (hQ1_h.out W bW_h.out).mono ?_
       rintro e w1 ⟨rfl, hq1⟩
       clear c0 c1 c2 c3 f0 f1 f2 f3 d0 d1 d2 d3 g0 g1 g2 g3
       obtain ⟨⟨c0, c1, c2, c3⟩, f0, f1, f2, f3⟩ := t_box4 (box_qt k0_h.out hq1)
       obtain ⟨⟨d0, d1, d2, d3⟩, g0, g1, g2, g3⟩ := t_box4 (box_qt k1_h.out hq1)
       have hB1 := below_trans bW_h.out hq1.below bW_h.out.size
       clear hq1; have hB1_h := lH hB1; clear hB1
       go_wp2_with (fail)
       refine (hQ2_h.out w1 hB1_h.out).mono ?_
       rintro e w2 ⟨rfl, hq2⟩
       have hB2 := below_trans hB1_h.out hq2.below hB1_h.out.size
       clear hq2; have hB2_h := lH hB2; clear hB2
       cases D
       · go_wp2_with (fail)
         go_ret
         exact ⟨rfl, hB2_h.out⟩
       · go_wp2_with (fail)
         go_ret
         exact ⟨rfl, hB2_h.out⟩
   · have t1 : (v != v') = true := by simp [e1]
     obtain rfl : D = false := by rw [hDD, decide_eq_false e1]; rfl
     clear e0 e1 hDD; have hQ1_h := lH hQ1; have hQ2_h := lH hQ2; have k0_h := lH k0; have k1_h := lH k1; have bW_h := lH bW; clear hQ1 hQ2 k0 k1 bW
     go_enter Tryz.func46, Tryz.ntmps46
     go_upto_region 1 with (fail)
     rw [← hW]
     clear hW
     go_wp2_with (fail)
     go_ret
     exact ⟨rfl, bW_h.out⟩
 · have t0 : (k != k') = true := by simp [e0]
   obtain rfl : D = false := by rw [hDD, decide_eq_false e0]; rfl
   clear e0 hDD; have hQ1_h := lH hQ1; have hQ2_h := lH hQ2; have k0_h := lH k0; have k1_h := lH k1; have bW_h := lH bW; clear hQ1 hQ2 k0 k1 bW
   go_enter Tryz.func46, Tryz.ntmps46
   go_upto_region 1 with (fail)
   rw [← hW]
   clear hW
   go_wp2_with (fail)
   go_ret
   exact ⟨rfl, bW_h.out⟩
set_option maxRecDepth 100000 in
set_option maxHeartbeats 2000000 in
theorem eqEdgeS_any (A B : Option Addr) (c d : Nat) (l l' : List EHd) (w : World) (ha : RdE w A l) (hb : RdE w B l') (hl : l.length ≤ 1048576) (hr : ∀ x, x ∈ l → x.2.2.1.2.2.length ≤ 1048576 ∧ x.2.2.2.2.2.length ≤ 1048576) :
  Calls Tryz.prog 23 #[.slice A l.length c, .slice B l'.length d] w fun e w' => e = .returned (.bool (decide (l.map egOf = l'.map egOf))) ∧ Below w.heap.size w w' := by
 obtain ⟨m, hm⟩ : ∃ m, m = l.length := ⟨_, rfl⟩
 obtain ⟨n, hn⟩ : ∃ n, n = l'.length := ⟨_, rfl⟩
 rw [← hm] at hl ⊢
 rw [← hn]
 by_cases hmn : m = n
 · subst hmn
   have h0 : ((m : Int) != (m : Int)) = false := by simp
   have hm_h := lH hm; have hn_h := lH hn; have hr_h := lH hr; clear hm hn hr
   go_enter Tryz.func23, Tryz.ntmps23
   go_wp2_with (fail)
   go_loopw [5] (fun i wr => ∃ k : Nat, k ≤ m ∧ i = .int .i64 k ∧ (l.take k).map egOf = (l'.take k).map egOf ∧ Below w.heap.size w wr) (fun i _ => m - (intOf i).toNat)
   case atStart => exact ⟨0, Nat.zero_le _, rfl, rfl, Below.refl _ _⟩
   case round =>
    obtain ⟨k, hk, rfl, htk, hbl⟩ := hrel
    by_cases hlt : k < m
    · have hkI : (k : Int) < (m : Int) := by omega
      have hk0 : (0 : Int) ≤ (k : Int) := by omega
      obtain ⟨ad, κ, v, B1, b1, s, C1, c1, t, rfl, hn1, -, hr1, hr2⟩ := (ha.below hbl).at_ (j := k) (by rw [← hm_h.out]; exact hlt)
      obtain ⟨bd, κ', v', B2, b2, s', C2, c2, t', rfl, hn2, -, hr3, hr4⟩ := (hb.below hbl).at_ (j := k) (by rw [← hn_h.out]; exact hlt)
      have hAB : ∀ W', Below wr.heap.size wr W' → (W'.cell? (ad.add (k * 4)) = some (.int .i64 κ) ∧ W'.cell? ⟨(ad.add (k * 4)).block, (ad.add (k * 4)).off + 1, none⟩ = some (.int .i64 v) ∧ W'.cell? ⟨(ad.add (k * 4)).block, (ad.add (k * 4)).off + 2, none⟩ = some (.slice B1 s.length b1) ∧ W'.cell? ⟨(ad.add (k * 4)).block, (ad.add (k * 4)).off + 3, none⟩ = some (.slice C1 t.length c1)) ∧ (W'.cell? (bd.add (k * 4)) = some (.int .i64 κ') ∧ W'.cell? ⟨(bd.add (k * 4)).block, (bd.add (k * 4)).off + 1, none⟩ = some (.int .i64 v') ∧ W'.cell? ⟨(bd.add (k * 4)).block, (bd.add (k * 4)).off + 2, none⟩ = some (.slice B2 s'.length b2) ∧ W'.cell? ⟨(bd.add (k * 4)).block, (bd.add (k * 4)).off + 3, none⟩ = some (.slice C2 t'.length c2)) := by
       intro W' hW'
       obtain ⟨x1, _, _, _, _, _, _, _, _, e1, e2, q, -, -⟩ := ((ha.below hbl).below hW').at_ (j := k) (by rw [← hm_h.out]; exact hlt)
       obtain ⟨y1, _, _, _, _, _, _, _, _, f1, f2, r, -, -⟩ := ((hb.below hbl).below hW').at_ (j := k) (by rw [← hn_h.out]; exact hlt)
       rw [hn1] at e2
       rw [hn2] at f2
       cases e1; cases e2; cases f1; cases f2
       exact ⟨q, r⟩
      have hrr := hr_h.out _ (List.mem_of_getElem? hn1)
      have hC := fun (W : World) (hW : Below wr.heap.size wr W) => eqEdge_any κ v B1 C1 b1 c1 s t κ' v' B2 C2 b2 c2 s' t' W (hr1.below hW) (hr2.below hW) (hr3.below hW) (hr4.below hW) hrr.1 hrr.2
      obtain ⟨D, hD⟩ : ∃ D, D = decide (((κ, v, s, t) : Eg) = (κ', v', s', t')) := ⟨_, rfl⟩
      simp only [← hD] at hC
      obtain ⟨p, hp⟩ : ∃ p, p = s.length := ⟨_, rfl⟩
      obtain ⟨q, hq⟩ : ∃ q, q = t.length := ⟨_, rfl⟩
      obtain ⟨p', hp'⟩ : ∃ p, p = s'.length := ⟨_, rfl⟩
      obtain ⟨q', hq'⟩ : ∃ q, q = t'.length := ⟨_, rfl⟩
      simp only [← hp, ← hp', ← hq, ← hq'] at hC hAB
      have htk_h := lH htk; have hn1_h := lH hn1; have hn2_h := lH hn2; have hAB_h := lH hAB; have hC_h := lH hC; have hD_h := lH hD; have hp_h := lH hp; have hq_h := lH hq; have hp'_h := lH hp'; have hq'_h := lH hq'; clear htk hn1 hn2 hAB hC hD hp hq hp' hq'; clear ha hb hr1 hr2 hr3 hr4 hrr
      go_wp2_with (fail)
      refine beginB (by kernel_rfl) (fun W1 hW1 => ?_)
      have hbw : Below wr.heap.size wr W1 := by rw [hW1]; exact below_drew (Below.refl _ _)
      clear hW1
      refine tkH 0 ?_ rfl (Below.refl _ _) (fun W' hW' => ?_) ?_; rotate_left; · (obtain ⟨⟨a0, a1, a2, a3⟩, b0, b1, b2, b3⟩ := hAB_h.out W' (hbw.trans (hW'.mono hbw.size)); clear hW'; go_simp; first | done | with_reducible rfl)
      simp only [Act.put, nS]
      refine tkH 1 ?_ rfl (Below.refl _ _) (fun W' hW' => ?_) ?_; rotate_left; · (obtain ⟨⟨a0, a1, a2, a3⟩, b0, b1, b2, b3⟩ := hAB_h.out W' (hbw.trans (hW'.mono hbw.size)); clear hW'; go_simp; first | done | with_reducible rfl)
      simp only [Act.put, nS]
      refine tkH 2 ?_ rfl (Below.refl _ _) (fun W' hW' => ?_) ?_; rotate_left; · (obtain ⟨⟨a0, a1, a2, a3⟩, b0, b1, b2, b3⟩ := hAB_h.out W' (hbw.trans (hW'.mono hbw.size)); clear hW'; go_simp; first | done | with_reducible rfl)
      simp only [Act.put, nS]
      refine tkH 3 ?_ rfl (Below.refl _ _) (fun W' hW' => ?_) ?_; rotate_left; · (obtain ⟨⟨a0, a1, a2, a3⟩, b0, b1, b2, b3⟩ := hAB_h.out W' (hbw.trans (hW'.mono hbw.size)); clear hW'; go_simp; first | done | with_reducible rfl)
      simp only [Act.put, nS]
      refine tkH 4 ?_ rfl (Below.refl _ _) (fun W' hW' => ?_) ?_; rotate_left; · (obtain ⟨⟨a0, a1, a2, a3⟩, b0, b1, b2, b3⟩ := hAB_h.out W' (hbw.trans (hW'.mono hbw.size)); clear hW'; go_simp; first | done | with_reducible rfl)
      simp only [Act.put, nS]
      refine tkH 5 ?_ rfl (Below.refl _ _) (fun W' hW' => ?_) ?_; rotate_left; · (obtain ⟨⟨a0, a1, a2, a3⟩, b0, b1, b2, b3⟩ := hAB_h.out W' (hbw.trans (hW'.mono hbw.size)); clear hW'; go_simp; first | done | with_reducible rfl)
      simp only [Act.put, nS]
      refine tkH 6 ?_ rfl (Below.refl _ _) (fun W' hW' => ?_) ?_; rotate_left; · (obtain ⟨⟨a0, a1, a2, a3⟩, b0, b1, b2, b3⟩ := hAB_h.out W' (hbw.trans (hW'.mono hbw.size)); clear hW'; go_simp; first | done | with_reducible rfl)
      simp only [Act.put, nS]
      refine tkH 7 ?_ rfl (Below.refl _ _) (fun W' hW' => ?_) ?_; rotate_left; · (obtain ⟨⟨a0, a1, a2, a3⟩, b0, b1, b2, b3⟩ := hAB_h.out W' (hbw.trans (hW'.mono hbw.size)); clear hW'; go_simp; first | done | with_reducible rfl)
      simp only [Act.put, nS]
      refine' callH 8 (f := _) (args := _) rfl (by kernel_rfl) (by rfl) ?_ ?_; rotate_left 2; · (go_simp; first | done | with_reducible rfl | (constructor <;> with_reducible rfl))
      refine (hC_h.out W1 hbw).mono ?_
      rintro e w2 ⟨rfl, hb2⟩
      refine ⟨_, rfl, hb2, ?_⟩
      have hb3 := below_trans (below_trans hbl hbw hbl.size) hb2 (Nat.le_trans hbl.size hbw.size)
      have hb3_h := lH hb3; clear hb3
      simp only [Act.put, nS]
      refine tkH 9 ?_ rfl hb2 (fun W' hW' => ?_) ?_; rotate_left; · (skip; clear hW'; go_simp; first | done | with_reducible rfl)
      simp only [Act.put, nS]
      refine doneH (by kernel_rfl) ?_
      cases D
      · go_wp2_with (fail)
        go_ret
        refine ⟨ret_bool ?_, hb3_h.out⟩
        symm
        apply decide_eq_false
        intro h
        have h1 := congrArg (·[k]?) h
        simp only [List.getElem?_map, hn1_h.out, hn2_h.out, Option.map_some, Option.some.injEq] at h1
        exact of_decide_eq_false hD_h.out.symm h1
      · go_wp2_with (fail)
        go_roundw
        case rel => exact ⟨k + 1, by omega, by go_num, by rw [List.take_add_one, List.take_add_one, List.map_append, List.map_append, htk_h.out, hn1_h.out, hn2_h.out]; simp only [Option.toList_some, List.map_cons, List.map_nil]; rw [show egOf (κ, v, (B1, b1, s), (C1, c1, t)) = egOf (κ', v', (B2, b2, s'), (C2, c2, t')) from of_decide_eq_true hD_h.out.symm], hb3_h.out⟩
        case measure => simp [intOf]; omega
    · obtain rfl : k = m := by omega
      have htk_h := lH htk; clear htk; clear ha hb
      go_wp2_with (fail)
      go_ret
      refine ⟨ret_bool ?_, hbl⟩
      symm
      apply decide_eq_true
      have := htk_h.out
      rwa [List.take_of_length_le (by rw [← hm_h.out]; exact Nat.le_refl _), List.take_of_length_le (by rw [← hn_h.out]; exact Nat.le_refl _)] at this
 · have h0 : ((m : Int) != (n : Int)) = true := by simp; omega
   have hm_h := lH hm; have hn_h := lH hn; have hmn_h := lH hmn; clear hm hn hmn
   go_enter Tryz.func23, Tryz.ntmps23
   go_wp2_with (fail)
   go_ret
   refine ⟨ret_bool ?_, Below.refl _ _⟩
   symm
   apply decide_eq_false
   intro h
   have := congrArg List.length h
   rw [List.length_map, List.length_map, ← hm_h.out, ← hn_h.out] at this
   exact hmn_h.out this
theorem ret_two {a b c d : Int} (h : (a, b) = (c, d)) : Ending.returned (.tuple #[.int .i64 a, .int .i64 b]) = .returned (.tuple #[.int .i64 c, .int .i64 d]) := by
 rw [(Prod.mk.inj h).1, (Prod.mk.inj h).2]
set_option maxHeartbeats 1000000 in
theorem tmKind_any (k : Int) (w : World) :
  Calls Tryz.prog 92 #[.int .i64 k] w fun e w' => e = .returned (.tuple #[.int .i64 (kindTy k).1, .int .i64 (kindTy k).2]) ∧ w' = w := by
 go_enter Tryz.func92, Tryz.ntmps92
 go_wp2
 all_goals go_ret2
 all_goals (refine ⟨ret_two ?_, rfl⟩; simp_all [kindTy])
theorem leafB_of {k v : Int} {s : ByteArray} {b : Bool} (h : b = true ↔ (s = noName ∧ ((k = 1 ∧ 0 ≤ v ∧ v ≤ 12) ∨ ((k = 7 ∨ k = 13) ∧ 0 ≤ v ∧ v ≤ 96) ∨ (2 ≤ k ∧ k ≤ 14 ∧ k ≠ 7 ∧ k ≠ 13 ∧ v = 0)))) : b = leafB (k, v, s) := by
 rw [Bool.eq_iff_iff, h]; simp [leafB]
set_option maxHeartbeats 2000000 in
theorem tmLeaf_any (k v : Int) (s : ByteArray) (w : World) :
  Calls Tryz.prog 91 #[.agg #[.int .i64 k, .int .i64 v, .string s]] w fun e w' => ∃ b, e = .returned (.bool b) ∧ b = leafB (k, v, s) ∧ Below w.heap.size w w' := by
 by_cases hs : s = noName
 · subst hs
   have he : (!noName.toList.isEmpty) = false := by rw [ByteArray.toList_eq]; rfl
   have he2 : noName.toList = [] := by rw [ByteArray.toList_eq]; rfl
   go_enter Tryz.func91, Tryz.ntmps91
   go_wp2_with (fail)
   refine (t_l1In_any _ _ _ _).mono ?_
   rintro e w' ⟨rfl, rfl⟩
   cases h14 : t_inB k 1 14
   · have H14 := lH h14
     clear h14
     go_wp2_with (fail)
     go_ret
     refine ⟨_, rfl, leafB_of ?_, t_below_alloc _ _⟩
     have : ¬ (1 ≤ k ∧ k ≤ 14) := by simpa [t_inB] using H14.out
     simp
     omega
   · have H14 := lH h14
     clear h14
     by_cases h1 : k = 1
     · have hb : (k == 1) = true := by simp [h1]
       have h1_h := lH h1; clear h1
       go_wp2_with (fail)
       refine (t_l1In_any _ _ _ _).mono ?_
       rintro e w' ⟨rfl, rfl⟩
       go_wp2_with (fail)
       go_ret
       refine ⟨_, rfl, leafB_of ?_, t_below_alloc _ _⟩
       have := h1_h.out
       simp [t_inB]
       omega
     · have hb : (k == 1) = false := by simp [h1]
       by_cases h7 : k = 7 ∨ k = 13
       · have h3 : 1 ≤ k ∧ k ≤ 14 := by omega
         by_cases h77 : k = 7
         · have hb7 : (k == 7) = true := by simp [h77]
           have h1_h := lH h1; have h7_h := lH h7; have h77_h := lH h77; clear h1 h7 h77
           go_wp2_with (fail)
           refine (t_l1In_any _ _ _ _).mono ?_
           rintro e w' ⟨rfl, rfl⟩
           go_wp2_with (fail)
           go_ret
           refine ⟨_, rfl, leafB_of ?_, t_below_alloc _ _⟩
           have := h77_h.out
           simp [t_inB]
           omega
         · have h13 : k = 13 := by omega
           have hb7 : (k == 7) = false := by simp [h77]
           have hb13 : (k == 13) = true := by simp [h13]
           have h1_h := lH h1; have h7_h := lH h7; have h77_h := lH h77; have h13_h := lH h13; clear h1 h7 h77 h13
           go_wp2_with (fail)
           refine (t_l1In_any _ _ _ _).mono ?_
           rintro e w' ⟨rfl, rfl⟩
           go_wp2_with (fail)
           go_ret
           refine ⟨_, rfl, leafB_of ?_, t_below_alloc _ _⟩
           have := h13_h.out
           simp [t_inB]
           omega
       · have hb7 : (k == 7) = false := by simp; omega
         have hb13 : (k == 13) = false := by simp; omega
         have h1_h := lH h1; have h7_h := lH h7; clear h1 h7
         go_wp2_with (fail)
         go_ret
         refine ⟨_, rfl, leafB_of ?_, t_below_alloc _ _⟩
         have h14 : 1 ≤ k ∧ k ≤ 14 := by simpa [t_inB] using H14.out
         have a1 := h1_h.out
         have a2 := h7_h.out
         simp
         omega
 · have he : (!s.toList.isEmpty) = true := by
    simp only [Bool.not_eq_true', List.isEmpty_eq_false_iff]
    exact fun h => hs (name_yes (by simp [h]))
   have hs_h := lH hs; clear hs
   go_enter Tryz.func91, Tryz.ntmps91
   go_wp2_with (fail)
   go_ret
   refine ⟨_, rfl, leafB_of ?_, t_below_alloc _ _⟩
   have := hs_h.out
   simp [this]
end Go.Proofs.YtjompikdkhhlgaaGreatDoor
