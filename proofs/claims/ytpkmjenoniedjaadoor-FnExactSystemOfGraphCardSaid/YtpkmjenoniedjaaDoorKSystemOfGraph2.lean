/-
  What the texts above it need, part 2.
-/
import Derived.Test.YtpkmjenoniedjaaDoorKSystemOfGraph1
import Derived.Test.YtpkmjenoniedjaaDoorRows
import Derived.ProofKit
import Derived.OpenShut
import Derived.Deep.DeepHandedRow
import Derived.Deep.Slices
import Derived.Deep.Fields
import Derived.Lib.SmallJoins
import Derived.Deep.Cut
import Derived.Deep.QuietTactic
import Derived.BigQuiet
namespace Go.Proofs.YtpkmjenoniedjaaDoor
open Go.RowKit
section
variable {P : Program} {ops : Array Oper} {Q : Exit → Act → World → Prop} {md : Region.Mode} {S : World → Prop}
def putZ (a : Act) (Z : List (Nat × Tmp)) (xs : Tmp → Value) : Act := Z.foldl (fun a z => a.put (some z.2) (xs z.2)) a
def updZ (xs : Tmp → Value) (d : Tmp) (v : Value) : Tmp → Value := fun t => if t = d then v else xs t
theorem put_put (a : Act) (d : Tmp) (x v : Value) : (a.put (some d) x).put (some d) v = a.put (some d) v := by
 simp [Act.put, Array.setIfInBounds_setIfInBounds]
theorem putZ_put (Z : List (Nat × Tmp)) (xs : Tmp → Value) (d : Tmp) (v : Value) : ∀ (a : Act), (∀ z ∈ Z, z.2 ≠ d) → (putZ a Z xs).put (some d) v = putZ (a.put (some d) v) Z xs := by
 induction Z with
 | nil => intro a _; rfl
 | cons z r ih =>
   intro a h
   show (putZ (a.put _ _) r xs).put _ _ = putZ ((a.put _ _).put _ _) r xs
   rw [ih _ (fun y hy => h y (List.mem_cons_of_mem _ hy)), Act.put_comm a _ _ (fun e he => by obtain rfl := Option.some.inj he; intro h2; exact h z (by simp) (Option.some.inj h2).symm)]
theorem putZ_congr (Z : List (Nat × Tmp)) {xs ys : Tmp → Value} : ∀ (a : Act), (∀ z ∈ Z, xs z.2 = ys z.2) → putZ a Z xs = putZ a Z ys := by
 induction Z with
 | nil => intro a _; rfl
 | cons z r ih =>
   intro a h
   show putZ (a.put _ _) r xs = putZ (a.put _ _) r ys
   rw [h z (by simp)]
   exact ih _ fun y hy => h y (List.mem_cons_of_mem _ hy)
theorem putZ_upd (Z : List (Nat × Tmp)) (xs : Tmp → Value) (d : Tmp) (v : Value) : ∀ (a : Act), (Z.map (·.2)).Nodup → d ∈ Z.map (·.2) → putZ a Z (updZ xs d v) = (putZ a Z xs).put (some d) v := by
 induction Z with
 | nil => intro a _ h; cases h
 | cons z r ih =>
   intro a hn h
   simp only [List.map_cons, List.nodup_cons, List.mem_map, not_exists, not_and] at hn
   show putZ (a.put _ _) r _ = (putZ (a.put _ _) r xs).put _ _
   by_cases e : z.2 = d
   · have hne : ∀ y ∈ r, y.2 ≠ d := fun y hy h2 => hn.1 y hy (h2.trans e.symm)
     rw [putZ_put r xs d v _ hne, putZ_congr r _ (ys := xs) (fun y hy => by unfold updZ; rw [if_neg (hne y hy)]), e]
     have : updZ xs d v d = v := by unfold updZ; rw [if_pos rfl]
     rw [this, put_put]
   · have : updZ xs d v z.2 = xs z.2 := by unfold updZ; rw [if_neg e]
     rw [this]
     refine ih _ hn.2 ?_
     rcases List.mem_cons.1 h with h | h
     · exact absurd h.symm e
     · exact h
def chkZ (md : Region.Mode) (ops : Array Oper) (L0 : Array Bool) (Z : List (Nat × Tmp)) (deps : Nat → List Tmp) : Bool :=
 ((List.range ops.size).all fun i => L0.getD i true || Z.any fun z => z.1 == i) &&
 ((List.range ops.size).all fun i => ((ops[i]?).map fun o => o.after.all fun e => decide (e.on < i)).getD true) &&
 (Z.all fun z => decide (z.1 < L0.size) && ((ops[z.1]?).map fun o => (o.dst == some z.2) && o.guard.isNone && (deps z.1).all fun d => Z.any fun y => y.2 == d && o.after.any fun e => Region.binds md e && e.on == y.1).getD false) &&
 decide ((Z.map (·.1)).Nodup) && decide ((Z.map (·.2)).Nodup)
theorem wp_callZ {o : Oper} {a : Act} {w : World} {f : FuncId} {args : Array Value} {K : Act → World → Prop} (hr : (execOp a.eval o).run P w = .ok (.enter f args) w) (h : Calls P f args w fun e w' => ∃ v, e = .returned v ∧ K (a.put o.dst v) w') : o.wp P a w K Q := by
 unfold Oper.wp
 rw [hr]
 exact Calls.mono h fun e w' ⟨v, he, hK⟩ => by subst he; exact hK
theorem wpAnyH_rel {Z : List (Nat × Tmp)} {L0 : Array Bool} {deps : Nat → List Tmp} {a0 : Act} {w0 : World} (R : Tmp → Value → World → Prop) (hz : chkZ md ops L0 Z deps = true)
  (hstab : ∀ d v w w', R d v w → Below w.heap.size w w' → R d v w') (hS : ∀ w', Below w0.heap.size w0 w' → S w')
  (hstep : ∀ z ∈ Z, ∀ o, ops[z.1]? = some o → ∀ xs w, Below w0.heap.size w0 w → (∀ d ∈ deps z.1, R d (xs d) w) → ∀ K, (∀ v w', Below w.heap.size w w' → R z.2 v w' → K ((putZ a0 Z xs).put (some z.2) v) w') → o.wp P (putZ a0 Z xs) w K Q)
  (hend : ∀ xs w, Below w0.heap.size w0 w → (∀ z ∈ Z, R z.2 (xs z.2) w) → Q .normal (putZ a0 Z xs) w) :
  ∀ (fuel : Nat) (L : Array Bool) (xs : Tmp → Value) (w : World), L.size = L0.size → (∀ i, (∀ z ∈ Z, z.1 ≠ i) → L.getD i true = L0.getD i true) → (Z.filter fun z => !L.getD z.1 true).length ≤ fuel → Below w0.heap.size w0 w →
    (∀ z ∈ Z, L.getD z.1 true = true → R z.2 (xs z.2) w) → wpAnyH P md ops Q S fuel L (putZ a0 Z xs) w := by
 unfold chkZ at hz
 simp only [Bool.and_eq_true, List.all_eq_true, List.mem_range, Bool.or_eq_true, List.any_eq_true, beq_iff_eq, decide_eq_true_eq] at hz
 obtain ⟨⟨⟨⟨hcov, hback⟩, hops⟩, hnd1⟩, hnd2⟩ := hz
 have hdone : ∀ (L : Array Bool), (∀ i, (∀ z ∈ Z, z.1 ≠ i) → L.getD i true = L0.getD i true) → (∀ z ∈ Z, L.getD z.1 true = true) → Region.ready md ops L = [] := by
  intro L hL hall
  refine List.eq_nil_iff_forall_not_mem.2 fun j hj => ?_
  obtain ⟨hjun, oj, hoj, _⟩ := mem_ready.1 hj
  have hjs : j < ops.size := (Array.getElem?_eq_some_iff.1 hoj).1
  rcases hcov j hjs with h | ⟨z, hz, rfl⟩
  · by_cases hm : ∀ z ∈ Z, z.1 ≠ j
    · rw [hL j hm, h] at hjun; cases hjun
    · have ⟨z, hz, e⟩ : ∃ z ∈ Z, z.1 = j := Classical.byContradiction fun hno => hm fun z hz e => hno ⟨z, hz, e⟩
      rw [← e, hall z hz] at hjun; cases hjun
  · rw [hall z hz] at hjun; cases hjun
 have hlive : ∀ (L : Array Bool), L.size = L0.size → (∀ i, (∀ z ∈ Z, z.1 ≠ i) → L.getD i true = L0.getD i true) → Region.ready md ops L = [] → ∀ i, i < ops.size → L.getD i true = true := by
  intro L hsz hL hr i
  induction i using Nat.strongRecOn with
  | ind i ih =>
    intro hi
    cases hx : L.getD i true with
    | true => rfl
    | false =>
      exfalso
      have hmem : i ∈ Region.ready md ops L := by
       refine mem_ready.2 ⟨hx, ops[i], Array.getElem?_eq_getElem hi, fun e he _ => ?_⟩
       have hb := hback i hi
       rw [Array.getElem?_eq_getElem hi] at hb
       simp only [Option.map_some, Option.getD_some, Array.all_eq_true_iff_forall_mem, decide_eq_true_eq] at hb
       have hlt := hb e he
       have h2 := ih e.on hlt (by omega)
       rcases Nat.lt_or_ge e.on L.size with h3 | h3
       · simp only [Array.getD_eq_getD_getElem?, Array.getElem?_eq_getElem h3, Option.getD_some] at h2 ⊢; exact h2
       · have hil : i < L.size := by
          rcases Nat.lt_or_ge i L.size with h4 | h4
          · exact h4
          · simp [Array.getElem?_eq_none h4] at hx
         omega
      rw [hr] at hmem; cases hmem
 intro fuel
 induction fuel with
 | zero =>
   intro L xs w hsz hL hc hb hR
   have hall : ∀ z ∈ Z, L.getD z.1 true = true := fun z hz => by
    cases hx : L.getD z.1 true with
    | true => rfl
    | false =>
      exfalso
      have : z ∈ Z.filter fun z => !L.getD z.1 true := List.mem_filter.2 ⟨hz, by rw [hx]; rfl⟩
      have := List.length_pos_of_mem this
      omega
   exact ⟨hdone L hL hall, hend xs w hb fun z hz => hR z hz (hall z hz)⟩
 | succ fuel ih =>
   intro L xs w hsz hL hc hb hR
   refine ⟨fun hr => ?_, fun j hj => ?_⟩
   · have hall := hlive L hsz hL hr
     refine hend xs w hb fun z hz => hR z hz ?_
     obtain ⟨hzl, ho⟩ := hops z hz
     cases hoz : ops[z.1]? with
     | none => rw [hoz] at ho; cases ho
     | some o => exact hall z.1 (Array.getElem?_eq_some_iff.1 hoz).1
   · obtain ⟨hjun, oj, hoj, hdeps⟩ := mem_ready.1 hj
     have hjs : j < ops.size := (Array.getElem?_eq_some_iff.1 hoj).1
     have ⟨z, hz, hzj⟩ : ∃ z ∈ Z, z.1 = j := by
      rcases hcov j hjs with h | h
      · refine Classical.byContradiction fun hno => ?_
        rw [hL j fun z hz e => hno ⟨z, hz, e⟩, h] at hjun; cases hjun
      · exact h
     subst hzj
     obtain ⟨hzl, ho⟩ := hops z hz
     rw [hoj] at ho
     simp only [Option.map_some, Option.getD_some, Bool.and_eq_true, beq_iff_eq, Option.isNone_iff_eq_none, List.all_eq_true, List.any_eq_true] at ho
     obtain ⟨⟨hdst, hg⟩, hdp⟩ := ho
     have hw : Region.wanted oj (yielded ops (putZ a0 Z xs).tmps) = true := by unfold Region.wanted; rw [hg]
     unfold wpOp
     simp only [hoj, hw, if_true]
     refine .inl ?_
     refine hstep z hz oj hoj xs w hb (fun d hd => ?_) _ fun v w' hb' hRv => ?_
     · obtain ⟨y, hy, rfl, he⟩ := hdp d hd
       obtain ⟨i, hi, he⟩ := Array.any_eq_true.1 he
       simp only [Bool.and_eq_true, beq_iff_eq] at he
       obtain ⟨hbi, hon⟩ := he
       obtain ⟨e, hee⟩ : ∃ e, e = oj.after[i] := ⟨_, rfl⟩
       have he : e ∈ oj.after := by rw [hee]; exact Array.getElem_mem hi
       rw [← hee] at hbi hon
       have h2 := hdeps e he hbi
       rw [hon] at h2
       refine hR y hy ?_
       rcases Nat.lt_or_ge y.1 L.size with h3 | h3
       · simp only [Array.getD_eq_getD_getElem?, Array.getElem?_eq_getElem h3, Option.getD_some] at h2 ⊢; exact h2
       · simp [Array.getElem?_eq_none h3] at h2
     · have hb2 := below_trans hb hb' hb.size
       refine ⟨hS _ hb2, ?_⟩
       rw [← putZ_upd Z xs z.2 v a0 hnd2 (List.mem_map.2 ⟨z, hz, rfl⟩)]
       have hset : ∀ i, (L.setIfInBounds z.1 true).getD i true = if i = z.1 then true else L.getD i true := fun i => by
        simp only [Array.getD_eq_getD_getElem?, Array.getElem?_setIfInBounds]
        by_cases e : z.1 = i
        · subst e
          simp [hsz, hzl]
        · rw [if_neg e, if_neg (fun h => e h.symm)]
       refine ih _ _ w' (by simp [hsz]) (fun i hi => ?_) ?_ hb2 fun y hy hl => ?_
       · rw [hset, if_neg (fun e => hi z hz e.symm)]; exact hL i hi
       · have hlt : (Z.filter fun y => !(L.setIfInBounds z.1 true).getD y.1 true).length < (Z.filter fun y => !L.getD y.1 true).length := by
          have hsub : (Z.filter fun y => !(L.setIfInBounds z.1 true).getD y.1 true) = (Z.filter fun y => !L.getD y.1 true).filter fun y => !decide (y.1 = z.1) := by
           rw [List.filter_filter]
           refine List.filter_congr fun y _ => ?_
           rw [hset]
           by_cases e : y.1 = z.1 <;> simp [e]
          rw [hsub]
          refine List.length_filter_lt_length_iff_exists.2 ⟨z, List.mem_filter.2 ⟨hz, by rw [hjun]; rfl⟩, by simp⟩
         omega
       · rw [hset] at hl
         unfold updZ
         by_cases e : y.2 = z.2
         · rw [if_pos e, e]; exact hRv
         · rw [if_neg e]
           have hne : y.1 ≠ z.1 := fun h => by
            have : y = z := by
             obtain ⟨i, hi, rfl⟩ := List.getElem_of_mem hy
             obtain ⟨k, hk, rfl⟩ := List.getElem_of_mem hz
             have hpw := List.pairwise_iff_getElem.1 hnd1
             rcases Nat.lt_trichotomy i k with h1 | h1 | h1
             · exact absurd (by rw [List.getElem_map, List.getElem_map]; exact h) (hpw i k (by simpa using hi) (by simpa using hk) h1)
             · subst h1; rfl
             · exact absurd (by rw [List.getElem_map, List.getElem_map]; exact h.symm) (hpw k i (by simpa using hk) (by simpa using hi) h1)
            exact e (by rw [this])
           rw [if_neg hne] at hl
           exact hstab _ _ _ _ (hR y hy hl) hb'
theorem putZ_self (Z : List (Nat × Tmp)) : ∀ (a : Act), putZ a Z (fun t => a.tmps.getD t undef) = a := by
 have h1 : ∀ (a : Act) (d : Tmp), a.put (some d) (a.tmps.getD d undef) = a := fun a d => by
  unfold Act.put
  have : a.tmps.setIfInBounds d (a.tmps.getD d undef) = a.tmps := by
   refine Array.ext_getElem? fun i => ?_
   rw [Array.getElem?_setIfInBounds]
   by_cases e : d = i
   · subst e
     rw [if_pos rfl]
     by_cases h : d < a.tmps.size
     · rw [if_pos h, Array.getElem?_eq_getElem h, Array.getD_eq_getD_getElem?, Array.getElem?_eq_getElem h]; rfl
     · rw [if_neg h, Array.getElem?_eq_none (Nat.le_of_not_lt h)]
   · rw [if_neg e]
  simp only [this]
 induction Z with
 | nil => intro a; rfl
 | cons z r ih =>
   intro a
   show putZ (a.put (some z.2) (a.tmps.getD z.2 undef)) r (fun t => a.tmps.getD t undef) = a
   rw [h1]; exact ih a
def Stb (p : Value → World → Prop) : Prop := ∀ v w w', p v w → Below w.heap.size w w' → p v w'
theorem Stb.ite {c : Prop} [Decidable c] {p q : Value → World → Prop} (hp : Stb p) (hq : Stb q) : Stb fun v w => if c then p v w else q v w := by
 intro v w w' h hb
 by_cases e : c
 · simp only [if_pos e] at h ⊢; exact hp v w w' h hb
 · simp only [if_neg e] at h ⊢; exact hq v w w' h hb
theorem Stb.true : Stb fun _ _ => True := fun _ _ _ h _ => h
def stepsZ (P : Program) (ops : Array Oper) (Q : Exit → Act → World → Prop) (a0 : Act) (w0 : World) (Z : List (Nat × Tmp)) (deps : Nat → List Tmp) (R : Tmp → Value → World → Prop) : List (Nat × Tmp) → Prop
 | [] => True
 | z :: r => (∃ o, ops[z.1]? = some o ∧ ∀ xs w, Below w0.heap.size w0 w → (∀ d ∈ deps z.1, R d (xs d) w) → ∀ K : Act → World → Prop, (∀ v w', Below w.heap.size w w' → R z.2 v w' → K ((putZ a0 Z xs).put (some z.2) v) w') → o.wp P (putZ a0 Z xs) w K Q) ∧ stepsZ P ops Q a0 w0 Z deps R r
theorem stepsZ_get {a0 : Act} {w0 : World} {Z : List (Nat × Tmp)} {deps : Nat → List Tmp} {R : Tmp → Value → World → Prop} : ∀ {Y : List (Nat × Tmp)}, stepsZ P ops Q a0 w0 Z deps R Y → ∀ z ∈ Y, ∀ o, ops[z.1]? = some o → ∀ xs w, Below w0.heap.size w0 w → (∀ d ∈ deps z.1, R d (xs d) w) → ∀ K : Act → World → Prop, (∀ v w', Below w.heap.size w w' → R z.2 v w' → K ((putZ a0 Z xs).put (some z.2) v) w') → o.wp P (putZ a0 Z xs) w K Q
 | y :: r, h, z, hz, o, ho => by
   rcases List.mem_cons.1 hz with rfl | hz
   · obtain ⟨o', ho', hh⟩ := h.1
     rw [ho] at ho'
     obtain rfl := Option.some.inj ho'
     exact hh
   · exact stepsZ_get h.2 z hz o ho
theorem relZ (Z : List (Nat × Tmp)) (deps : Nat → List Tmp) (R : Tmp → Value → World → Prop) {fuel : Nat} {L : Array Bool} {a : Act} {w : World} (hz : (chkZ md ops L Z deps && decide (Z.length ≤ fuel) && Z.all fun z => !L.getD z.1 true) = true)
  (hstab : ∀ d, Stb (R d)) (hS : ∀ w', Below w.heap.size w w' → S w') (hstep : stepsZ P ops Q a w Z deps R Z)
  (hend : ∀ xs w', Below w.heap.size w w' → (∀ z ∈ Z, R z.2 (xs z.2) w') → Q .normal (putZ a Z xs) w') : wpAnyH P md ops Q S fuel L a w := by
 simp only [Bool.and_eq_true, decide_eq_true_eq, List.all_eq_true, Bool.not_eq_true'] at hz
 obtain ⟨⟨h1, h2⟩, h3⟩ := hz
 have h := wpAnyH_rel (P := P) (Q := Q) (S := S) (a0 := a) (w0 := w) R h1 (fun d v w w' => hstab d v w w') hS (fun z hz o ho xs w hb hd K hK => stepsZ_get hstep z hz o ho xs w hb hd K hK) hend fuel L (fun t => a.tmps.getD t undef) w rfl (fun _ _ => rfl) (Nat.le_trans (List.length_filter_le _ _) h2) (Below.refl _ _) (fun z hz hl => by rw [h3 z hz] at hl; cases hl)
 rw [putZ_self] at h
 exact h
end
set_option maxHeartbeats 400000 in
theorem fdAdd_any (p a b : Int) (w : World) (h0 : 0 < p) (ha : 0 ≤ a) (ha' : a ≤ 1000000000) (hb : 0 ≤ b) (hb' : b ≤ 1000000000) :
  Calls Tryd.prog 47 #[.int .i64 p, .int .i64 a, .int .i64 b] w fun e w' => e = .returned (.int .i64 ((a + b) % p)) ∧ w = w' := by
 have hz : (p == 0) = false := by rw [beq_eq_false_iff_ne]; omega
 go_enter Tryd.func47, Tryd.ntmps47
 go_wp2_with (fail)
 go_ret
 exact ⟨rfl, rfl⟩
def sprTo (p : Int) (n : Nat) (at_ v : List Int) : Nat → List Int
 | 0 => List.replicate n 0
 | k + 1 => (sprTo p n at_ v k).set (at_.getD k 0).toNat (((sprTo p n at_ v k).getD (at_.getD k 0).toNat 0 + v.getD k 0) % p)
def sprV (p : Int) (n : Nat) (at_ v : List Int) : List Int := sprTo p n at_ v at_.length
@[simp] theorem sprTo_length (p : Int) (n : Nat) (at_ v : List Int) : ∀ k, (sprTo p n at_ v k).length = n
  | 0 => by simp [sprTo]
  | k + 1 => by simp [sprTo, sprTo_length p n at_ v k]
theorem sprTo_res {p : Int} (hp : 0 < p) (n : Nat) (at_ v : List Int) : ∀ k, Res p (sprTo p n at_ v k)
 | 0 => fun y hy => by
   obtain ⟨_, rfl⟩ := List.mem_replicate.1 hy
   omega
 | k + 1 => fun y hy => by
   rcases List.mem_or_eq_of_mem_set hy with h | rfl
   · exact sprTo_res hp n at_ v k y h
   · exact ⟨Int.emod_nonneg _ (by omega), Int.emod_lt_of_pos _ hp⟩
def efK (e : Eg) : Int := if 9 ≤ e.1 then e.1 - 6 else e.1
def efI (e : Eg) : List Int := if 9 ≤ e.1 then e.2.2.2 else e.2.2.1
def efO (e : Eg) : List Int := if 9 ≤ e.1 then e.2.2.1 else e.2.2.2
def dnRowsM (p : Int) (n : Nat) (e : Eg) : List (List Int) :=
 if efK e = 3 then [sprV p n [(efO e).getD 0 0, (efI e).getD 0 0] [1, p - 1], sprV p n [(efO e).getD 1 0, (efI e).getD 0 0] [1, p - 1]]
 else if efK e = 5 then [sprV p n [(efO e).getD 0 0, (efI e).getD 0 0, (efI e).getD 1 0] [1, p - 1, p - 1]]
 else if efK e = 6 then [sprV p n [(efO e).getD 0 0] [1]]
 else if efK e = 7 then [sprV p n [(efO e).getD 0 0, (efI e).getD 0 0] [1, -e.2.1 % p]]
 else []
def noDl (k : Int) : Bool := decide (k ≠ 8) && decide (k ≠ 14)
theorem dnTimeless_any (k : Int) (w : World) : Calls Tryd.prog 30 #[.int .i64 k] w fun e w' => e = .returned (.bool (noDl k)) ∧ w' = w := by
 unfold noDl
 by_cases h8 : k = 8
 · subst h8
   go_enter Tryd.func30, Tryd.ntmps30
   go_wp2_with (fail)
   go_ret
   exact ⟨rfl, rfl⟩
 · have hb8 : (k != 8) = true := by rw [bne_iff_ne]; exact h8
   rw [decide_eq_true h8]
   by_cases h14 : k = 14
   · subst h14
     go_enter Tryd.func30, Tryd.ntmps30
     go_wp2_with (fail)
     go_ret
     exact ⟨rfl, rfl⟩
   · have hb14 : (k != 14) = true := by rw [bne_iff_ne]; exact h14
     rw [decide_eq_true h14]
     clear h8 h14
     go_enter Tryd.func30, Tryd.ntmps30
     go_wp2_with (fail)
     go_ret
     exact ⟨rfl, rfl⟩
set_option maxRecDepth 100000 in
set_option maxHeartbeats 2000000 in
theorem dnRow_any (p : Int) (n q : Nat) (A B : Option Addr) (ca cb : Nat) (at_ v : List Int) (w : World) (hA : RdI w A at_) (hB : RdI w B v) (hal : at_.length = q) (hvl : v.length = q) (hat : ∀ x, x ∈ at_ → 0 ≤ x ∧ x < (n : Int)) (hv : Res p v) (h0 : 0 < p) (h97 : p ≤ 97) (hn : n ≤ 1048576) (hq : q ≤ 1048576) :
  Calls Tryd.prog 32 #[.int .i64 p, .int .i64 (n : Int), .slice A q ca, .slice B q cb] w (RetI w (sprV p n at_ v)) := by
 have hsl := sprTo_length p n at_ v
 have hsr := sprTo_res h0 n at_ v
 have hend : sprV p n at_ v = sprTo p n at_ v q := by unfold sprV; rw [hal]
 rw [hend]
 clear hend; have hA_h := lH hA; have hB_h := lH hB; have hal_h := lH hal; have hvl_h := lH hvl; have hat_h := lH hat; have hv_h := lH hv; have hsl_h := lH hsl; have hsr_h := lH hsr; clear hA hB hal hvl hat hv hsl hsr
 go_enter Tryd.func32, Tryd.ntmps32
 go_wp2_with (at_make; refine wpList_make_Sl _ rfl _ _ _ rfl 3 Tryd.underlying23 info_int n n rfl rfl rfl rfl (Nat.le_refl _) (by omega) (by unfold maxLen; omega) ?_; intro G w1 hs1 hG hb1)
 have hst : IS w1 (some G) n (sprTo p n at_ v 0) := by unfold IS; rw [hsl_h.out]; show Sl _ _ _ _ _ _ (ints (List.replicate n 0)); rw [← madeZeros]; simpa using hs1
 clear hs1
 have hfG : Fresh w.heap.size (some G) := fun b hb => by
  obtain rfl : b = G.block := by simpa using hb
  exact hG
 have hst_h := lH hst; have hG_h := lH hG; have hb1_h := lH hb1; have hfG_h := lH hfG; clear hst hG hb1 hfG
 go_loopw [16] (fun i wr => ∃ k : Nat, k ≤ q ∧ i = .int .i64 k ∧ IS wr (some G) n (sprTo p n at_ v k) ∧ Below w.heap.size w wr) (fun i _ => q - (intOf i).toNat)
 case atStart => exact ⟨0, Nat.zero_le _, rfl, hst_h.out, hb1_h.out⟩
 case round =>
  clear hst_h hb1_h
  obtain ⟨k, hk, rfl, his, hbr⟩ := hrel
  by_cases hlt : k < q
  · obtain ⟨ad, x, rfl, hx, hcx⟩ := (hA_h.out.below hbr).at_ (j := k) (by rw [hal_h.out]; exact hlt)
    obtain ⟨bd, y, rfl, hy, hcy⟩ := (hB_h.out.below hbr).at_ (j := k) (by rw [hvl_h.out]; exact hlt)
    obtain ⟨hx0, hxn⟩ := hat_h.out x (List.mem_of_getElem? hx)
    obtain ⟨j, rfl⟩ : ∃ j : Nat, x = (j : Int) := ⟨x.toNat, by omega⟩
    have hjn : j < n := by omega
    have hyb := hv_h.out y (List.mem_of_getElem? hy)
    obtain ⟨V, hV⟩ : ∃ V, V = sprTo p n at_ v k := ⟨_, rfl⟩
    have hVl : V.length = n := by rw [hV]; exact hsl_h.out k
    have hVr : Res p V := by rw [hV]; exact hsr_h.out k
    rw [← hV] at his
    obtain ⟨gd, z, hGg, hz, hblt, hcz, hf⟩ := his.at_ (j := j) (by rw [hVl]; exact hjn)
    obtain rfl := Option.some.inj hGg
    have hzb := hVr z (List.mem_of_getElem? hz)
    have hstep : sprTo p n at_ v (k + 1) = V.set j ((z + y) % p) := by
     have e1 : at_.getD k 0 = (j : Int) := by rw [List.getD_eq_getElem?_getD, hx]; rfl
     have e2 : v.getD k 0 = y := by rw [List.getD_eq_getElem?_getD, hy]; rfl
     have e3 : V.getD j 0 = z := by rw [List.getD_eq_getElem?_getD, hz]; rfl
     rw [sprTo, ← hV, e1, e2, Int.toNat_natCast, e3]
    have hset := (his.below (below_drewN (Below.refl wr.heap.size wr) 1)).set rfl ((z + y) % p) (j := j) (by rw [hVl]; exact hjn)
    rw [← hstep] at hset
    have hset : IS (wr.drew.setCell (G.add j) (.int .i64 ((z + y) % p))) (some G) n (sprTo p n at_ v (k + 1)) := hset
    have hbd := below_trans hbr (below_drewN (Below.refl wr.heap.size wr) 1) hbr.size
    have hbs : Below w.heap.size w (wr.drew.setCell (G.add j) (.int .i64 ((z + y) % p))) := hbd.setCell (p := G.add j) (by rw [block_of_add]; exact hG_h.out) (.int .i64 ((z + y) % p))
    have C1 := lH (stillC2 (fdAdd_any p z y wr.drew h0 hzb.1 (by omega) hyb.1 (by omega)))
    have hkI : (k : Int) < (q : Int) := by omega
    have hjI : (j : Int) < (n : Int) := by omega
    have hfz := hf j
    clear his hV hVl hVr hz hx hy hstep hbr hbd hf hblt hx0 hxn hzb hyb; have hset_h := lH hset; have hbs_h := lH hbs; clear hset hbs
    go_wp2_with (fail)
    refine wp_region_still_tail 13 (by kernel_rfl) (by kernel_rfl) ?_
    simp only [List.take_succ_cons, List.take_zero, List.drop_succ_cons, List.drop_zero]
    change wpStill _ _ wr.drew (fun a' => wpList _ _ _ _ a' wr.drew) _ _
    have d1 : wr.drew.cell? (G.add j) = some (.int .i64 z) := hcz
    have d2 : wr.drew.cell? (bd.add k) = some (.int .i64 y) := hcy
    clear hcz hcy
    repeat still_step
    still_call C1.out
    repeat still_step
    refine wpStill_nil ?_
    go_wp2_with (fail)
    go_roundw
    case rel => exact ⟨k + 1, by omega, by go_num, hset_h.out, hbs_h.out⟩
    case measure => simp [intOf]; omega
  · obtain rfl : q = k := by omega
    have his_h := lH his; have hbr_h := lH hbr; clear his hbr
    go_wp2_with (fail)
    go_ret
    exact ⟨some G, n, by rw [hsl_h.out]; rfl, his_h.out, hfG_h.out, hbr_h.out⟩
theorem len_one {l : List Int} (h : l.length = 1) : ∃ x, l = [x] := match l, h with | [x], _ => ⟨x, rfl⟩
theorem len_two {l : List Int} (h : l.length = 2) : ∃ x y, l = [x, y] := match l, h with | [x, y], _ => ⟨x, y, rfl⟩
theorem cell_mvd {w0 w1 : World} {P : Addr} {u : Value} (hb : Below w0.heap.size w0 w1) (h : w0.cell? P = some u) : w1.cell? P = some u := (hb.cell (World.block_lt_of_cell? _ _ h)).trans h
def PIn (n : Nat) (l : List Int) (v : Value) (w : World) : Prop := ∃ A c, v = .slice A n c ∧ RdI w A l
def PRs (n : Nat) (L : List (List Int)) (v : Value) (w : World) : Prop := ∃ A c hs, v = .slice A n c ∧ hs.length = n ∧ hs.map (fun h : Hd => h.2.2) = L ∧ RdR w A hs ∧ ∀ x, x ∈ hs → IS w x.1 x.2.1 x.2.2
def PIs (n : Nat) (l : List Int) (v : Value) (w : World) : Prop := ∃ A c, v = .slice A n c ∧ IS w A c l
def PV (x : Value) (v : Value) (_w : World) : Prop := v = x
theorem PIn.stb (n : Nat) (l : List Int) : Stb (PIn n l) := fun _ _ _ h hb => by obtain ⟨A, c, h1, h2⟩ := h; exact ⟨A, c, h1, h2.below hb⟩
theorem PRs.stb (n : Nat) (L : List (List Int)) : Stb (PRs n L) := fun _ _ _ h hb => by obtain ⟨A, c, hs, h1, h2, h3, h4, h5⟩ := h; exact ⟨A, c, hs, h1, h2, h3, h4.below hb, fun x hx => (h5 x hx).below hb⟩
theorem PIs.stb (n : Nat) (l : List Int) : Stb (PIs n l) := fun _ _ _ h hb => by obtain ⟨A, c, h1, h2⟩ := h; exact ⟨A, c, h1, h2.below hb⟩
theorem PV.stb (x : Value) : Stb (PV x) := fun _ _ _ h _ => h
theorem rd_laidC (w : World) (l : List Int) (hl : l.length ≤ maxLen) : RdI (w.alloc (.cells (ints l).toArray 3)) (some ⟨w.heap.size, 0, none⟩) l := by
 have h := Sl.laid w 3 1 l.length (ints l).toArray hl (by simp)
 intro j x hj
 obtain ⟨ad, hA, _, hc, _⟩ := h.cell (j := j) (u := .int .i64 x) (by simpa using ints_get hj)
 exact ⟨ad, hA, hc⟩
theorem PRs.laid (w : World) (hs : List Hd) (h : ∀ x, x ∈ hs → IS w x.1 x.2.1 x.2.2) (hl : hs.length ≤ maxLen) : PRs hs.length (hs.map fun h : Hd => h.2.2) (.slice (some ⟨w.heap.size, 0, none⟩) hs.length hs.length) (w.alloc (.cells (hs.map Hd.val).toArray 23)) := by
 have h1 : RdR (w.alloc (.cells (hs.map Hd.val).toArray 23)) (some ⟨w.heap.size, 0, none⟩) hs := by
  have hsl := Sl.laid w 23 1 hs.length (hs.map Hd.val).toArray hl (by simp)
  refine ⟨fun i x hi => ?_, fun x hx => (h x hx).rd.below (below_alloc _ _)⟩
  obtain ⟨ad, hA, _, hc, _⟩ := hsl.cell (j := i) (u := x.val) (by simp [hi])
  exact ⟨ad, hA, by simpa using hc⟩
 exact ⟨_, _, hs, rfl, rfl, rfl, h1, fun x hx => (h x hx).below (below_alloc _ _)⟩
end Go.Proofs.YtpkmjenoniedjaaDoor
namespace Go.Proofs.YtpkmjenoniedjaaDoor
open Go.ChangeShapes Go.WideShapes Go.ChangeAt Go.RowKit
theorem own : ownKnob Tryd.prog.godebug = none := by kernel_rfl
theorem laidOut : laidOutB Tryd.prog = true := by kernel_rfl
theorem cellsInt : Tryd.prog.cellsOf 3 = 1 := by kernel_rfl
section
variable {H : Type} {enc : TypeId × Value → H} {P : Program} {W W' : World}
theorem trodAll_below (hl : laidOutB P = true) (hb : Below W.heap.size W W') : ∀ (ts : List TypeId) (vs : List Value) (ds : List (DataW H)) (p : List MemPlace),
  (∀ t ∈ ts, P.readableRec t = true ∧ t < P.types.size) → DataW.TrodAll enc P W 0 (fun _ => true) true ts vs ds p → (∀ x ∈ p, x.block < W.heap.size) →
  DataW.TrodAll enc P W' 0 (fun b => decide (b < W.heap.size)) true ts vs ds p
 | [], vs, ds, p, _, h, _ => by obtain ⟨rfl, rfl, rfl⟩ := trodAll_nil h; exact trodAll_mk0
 | t :: ts, vs, ds, p, hr, h, hp => by
   obtain ⟨v, vs', d, ds', p1, q1, rfl, rfl, rfl, h1, h2⟩ := trodAll_cons h
   exact trodAll_cons_mk (Below.trod hl (hr t (by simp)).1 (hr t (by simp)).2 h1 hb fun x hx => hp x (by simp [hx]))
    (trodAll_below hl hb ts vs' ds' q1 (fun t' ht' => hr t' (by simp [ht'])) h2 fun x hx => hp x (by simp [hx]))
theorem trodVars_below (hl : laidOutB P = true) (hb : Below W.heap.size W W') : ∀ (ns : List String) (gs : List (DataW H)) (p : List MemPlace),
  (∀ n ∈ ns, ∀ g t, P.globalNamed n = some g → (P.globals[g]?).map (·.type) = some t → P.readableRec t = true ∧ t < P.types.size) → DataW.TrodVars enc P W (fun _ => true) ns gs p → (∀ x ∈ p, x.block < W.heap.size) →
  DataW.TrodVars enc P W' (fun b => decide (b < W.heap.size)) ns gs p
 | [], [], p, _, h, _ => h
 | [], _ :: _, p, _, h, _ => by simp [DataW.TrodVars] at h
 | _ :: _, [], p, _, h, _ => by simp [DataW.TrodVars] at h
 | n :: ns, d :: ds, p, hr, h, hp => by
   obtain ⟨g, t, cs, fuel, p1, q1, h1, h2, h3, h4, h5, rfl⟩ := h
   have hg : g < W.heap.size := by
    simp only [World.var?, h1, Option.bind_some] at h3
    rcases Nat.lt_or_ge g W.heap.size with hlt | hge
    · exact hlt
    · rw [Array.getElem?_eq_none hge] at h3; simp at h3
   have hT : DataW.Trod enc P W 0 (fun _ => true) true t (.agg cs) d p1 := ⟨fuel, h4⟩
   obtain ⟨fuel', h4'⟩ := Below.trod hl (hr n (by simp) g t h1 h2).1 (hr n (by simp) g t h1 h2).2 hT hb fun x hx => hp x (by simp [hx])
   exact ⟨g, t, cs, fuel', p1, q1, h1, h2, var?_below hb h1 hg h3, h4', trodVars_below hl hb ns ds q1 (fun n' hn' => hr n' (by simp [hn'])) h5 fun x hx => hp x (by simp [hx]), rfl⟩
theorem post_true {f : Func} {s : ChangeSpec} {tB : TypeId} {args : Array Value} {ds gs : List (DataW H)} {before : List MemPlace} (hl : laidOutB P = true)
  (hW : DataW.Whole enc P f.params.toList s.vars false W args.toList ds gs before) (hb : Below W.heap.size W W')
  (hr : ∀ t ∈ f.params.toList, P.readableRec t = true ∧ t < P.types.size)
  (hv : ∀ n ∈ s.vars, ∀ g t, P.globalNamed n = some g → (P.globals[g]?).map (·.type) = some t → P.readableRec t = true ∧ t < P.types.size)
  (hfn : s.fn H (ds ++ gs) = { results := [.lit (.bool true)], args := ds, vars := gs }) (hres : f.resultTypes = #[tB]) (htB : P.underlying tB = some .bool) :
  s.post enc P f false true false false W args (.bool true) W' := by
 have hW' := hW
 obtain ⟨p, q, hA, hV, rfl, _, _⟩ := hW
 have hlt : ∀ x ∈ p ++ q, x.block < W.heap.size := fun x hx => hW'.lt x hx
 refine ⟨ds, gs, p ++ q, [], p, q, hW', ?_, ?_, ?_, hb.frame _, fun h => by cases h⟩
 · rw [hfn, hres]; exact trodAll_cons_mk (shut_bool htB true) trodAll_mk0
 · rw [hfn]; exact trodAll_below hl hb _ _ _ _ hr hA fun x hx => hlt x (by simp [hx])
 · rw [hfn]; exact trodVars_below hl hb _ _ _ hv hV fun x hx => hlt x (by simp [hx])
end
set_option maxRecDepth 100000 in
theorem in_int {H : Type} {enc : TypeId × Value → H} {W : World} {v : Value} {d : DataW H} {p : List MemPlace} {base : Nat} (hv : Value.okWide Tryd.prog W .any base 3 v) (h : DataW.Trod enc Tryd.prog W 0 (fun _ => true) true 3 v d p) :
  ∃ n, v = .int .i64 n ∧ -9223372036854775808 ≤ n ∧ n ≤ 9223372036854775807 := by
 obtain ⟨n, rfl, rfl, rfl, wf⟩ := open_int Tryd.underlying3 hv h
 refine ⟨n, rfl, ?_⟩
 simp [Lit.wf, IntKind.min, IntKind.max, IntKind.signed, IntKind.bits] at wf
 omega
end Go.Proofs.YtpkmjenoniedjaaDoor
namespace Go.Proofs.YtpkmjenoniedjaaDoor
open Go.ChangeShapes Go.WideShapes Go.ChangeAt Go.RowKit
theorem cellsEdgeL : Tryd.prog.cellsOf 55 = 4 := by kernel_rfl
theorem cellsGraphL : Tryd.prog.cellsOf 25 = 4 := by kernel_rfl
theorem cellsIntsG : Tryd.prog.cellsOf 23 = 1 := by kernel_rfl
theorem cellsEdges : Tryd.prog.cellsOf 22 = 1 := by kernel_rfl
theorem four_of {α : Type} {l : List α} (h : l.length = 4) : ∃ a b c d, l = [a, b, c, d] := by
 match l, h with
 | [a, b, c, d], _ => exact ⟨a, b, c, d, rfl⟩
set_option maxRecDepth 100000 in
theorem in_ints1 {H : Type} {enc : TypeId × Value → H} {W : World} {base fuel : Nat} {v : Value} {x : DataW H × List MemPlace} (h : DataW.trod enc Tryd.prog W base (fun _ => true) true fuel 23 [v] = some x) :
  ∃ h : Hd, v = .slice h.1 h.2.2.length h.2.1 ∧ RdI W h.1 h.2.2 ∧ h.2.2.length ≤ maxLen := by
 rcases open_ints Tryd.underlying23 Tryd.underlying3 cellsInt h with ⟨hcs, _⟩ | ⟨a, len', cap', zs, hcs, _, hl, hmx, hz, _, hcell, _⟩
 · simp at hcs
   subst hcs
   exact ⟨(none, 0, []), rfl, fun j x hj => by simp at hj, Nat.zero_le _⟩
 · simp at hcs
   subst hcs
   have hzl : zs.length = cap' := by simpa using hz
   refine ⟨(some a, cap', zs.take len'), by simp; omega, fun j x hj => ⟨a, rfl, ?_⟩, by simp; omega⟩
   have hj0 : (zs.take len')[j]? = some x := hj
   rw [List.getElem?_take] at hj0
   split at hj0
   · have hj' := (List.getElem?_eq_some_iff.1 hj0).1
     rw [hcell j hj']; simp [List.getD, hj0]
   · cases hj0
set_option maxRecDepth 100000 in
theorem in_int1 {H : Type} {enc : TypeId × Value → H} {W : World} {base fuel : Nat} {v : Value} {x : DataW H × List MemPlace} (h : DataW.trod enc Tryd.prog W base (fun _ => true) true fuel 3 [v] = some x) :
  ∃ n, v = .int .i64 n ∧ -9223372036854775808 ≤ n ∧ n ≤ 9223372036854775807 := by
 obtain ⟨n, hcs, _, wf⟩ := DataW.trod_int Tryd.underlying3 h
 simp at hcs
 refine ⟨n, hcs, ?_⟩
 simp [Lit.wf, IntKind.min, IntKind.max, IntKind.signed, IntKind.bits] at wf
 omega
def BigE (h : EHd) : Prop := (-9223372036854775808 ≤ h.1 ∧ h.1 ≤ 9223372036854775807) ∧ (-9223372036854775808 ≤ h.2.1 ∧ h.2.1 ≤ 9223372036854775807) ∧ h.2.2.1.2.2.length ≤ maxLen ∧ h.2.2.2.2.2.length ≤ maxLen
set_option maxRecDepth 100000 in
theorem in_edge {H : Type} {enc : TypeId × Value → H} {W : World} {base fuel : Nat} {cs : List Value} {x : DataW H × List MemPlace} (h : DataW.trod enc Tryd.prog W base (fun _ => true) true fuel 55 cs = some x) :
  ∃ h : EHd, cs = ec h ∧ RdI W h.2.2.1.1 h.2.2.1.2.2 ∧ RdI W h.2.2.2.1 h.2.2.2.2.2 ∧ BigE h := by
 obtain ⟨xs, n, _, _, hlen, hxl, hf⟩ := DataW.trod_struct Tryd.underlying55 h
 rw [cellsEdgeL] at hlen
 obtain ⟨c0, c1, c2, c3, rfl⟩ := four_of hlen
 obtain ⟨y0, y1, y2, y3, rfl⟩ := four_of (show xs.length = 4 from hxl)
 have h0 : DataW.trod enc Tryd.prog W base (fun _ => true) true n 3 (List.take (Tryd.prog.cellsOf 3) [c0, c1, c2, c3]) = some y0 := hf 0 _ rfl
 have h1 : DataW.trod enc Tryd.prog W base (fun _ => true) true n 3 (List.take (Tryd.prog.cellsOf 3) [c1, c2, c3]) = some y1 := hf 1 _ rfl
 have h2 : DataW.trod enc Tryd.prog W base (fun _ => true) true n 23 (List.take (Tryd.prog.cellsOf 23) [c2, c3]) = some y2 := hf 2 _ rfl
 have h3 : DataW.trod enc Tryd.prog W base (fun _ => true) true n 23 (List.take (Tryd.prog.cellsOf 23) [c3]) = some y3 := hf 3 _ rfl
 rw [cellsInt] at h0 h1
 rw [cellsIntsG] at h2 h3
 obtain ⟨k, rfl, hk⟩ := in_int1 (v := c0) h0
 obtain ⟨v, rfl, hv⟩ := in_int1 (v := c1) h1
 obtain ⟨a, rfl, ha, hla⟩ := in_ints1 (v := c2) h2
 obtain ⟨b, rfl, hb, hlb⟩ := in_ints1 (v := c3) h3
 exact ⟨(k, v, a, b), rfl, ha, hb, hk, hv, hla, hlb⟩
set_option maxRecDepth 100000 in
theorem in_edges {H : Type} {enc : TypeId × Value → H} {W : World} {base fuel : Nat} {v : Value} {x : DataW H × List MemPlace} (h : DataW.trod enc Tryd.prog W base (fun _ => true) true fuel 22 [v] = some x) :
  ∃ A cap l, v = .slice A (l : List EHd).length cap ∧ RdE W A l ∧ l.length ≤ maxLen ∧ ∀ h, h ∈ l → BigE h := by
 rcases Deep.open_slice Tryd.underlying22 h with ⟨hcs, _⟩ | ⟨a, len, cap, m, n, D, Pl, hcs, _, hl, hm, hmm, _, hi⟩
 · simp at hcs
   subst hcs
   exact ⟨none, 0, [], rfl, RdE.nil _ _, Nat.zero_le _, fun n hn => by cases hn⟩
 · simp at hcs
   subst hcs
   have hmc : m = cap := by simpa using hmm
   have hel : ∀ i, i < len → ∃ h : EHd, (∀ j u, (ec h)[j]? = some u → W.cell? (a.add (i * 4 + j)) = some u) ∧ RdI W h.2.2.1.1 h.2.2.1.2.2 ∧ RdI W h.2.2.2.1 h.2.2.2.2.2 ∧ BigE h := by
    intro i hlt
    obtain ⟨cs', hc, ht⟩ := hi i (by omega)
    rw [cellsEdgeL] at hc
    obtain ⟨_, hlen, hat⟩ := World.cells?_some hc
    obtain ⟨h, rfl, h1, h2, h3⟩ := in_edge ht
    refine ⟨h, fun j u hj => ?_, h1, h2, h3⟩
    have hj4 : j < 4 := (List.getElem?_eq_some_iff.1 hj).1
    have := hat j hj4
    rw [add_of_add] at this
    rw [this]; simp only [hj]
   have hall : ∀ k, k ≤ len → ∃ l : List EHd, l.length = k ∧ RdE W (some a) l ∧ ∀ h, h ∈ l → BigE h := by
    intro k
    induction k with
    | zero => exact fun _ => ⟨[], rfl, RdE.nil _ _, fun n hn => by cases hn⟩
    | succ k ih =>
      intro hk
      obtain ⟨l, hl1, hl2, hl3⟩ := ih (by omega)
      obtain ⟨nd, c0, r0, r1, hs⟩ := hel k (by omega)
      refine ⟨l ++ [nd], by simp [hl1], ⟨fun j u hj => ?_, fun n hn => ?_⟩, fun n hn => ?_⟩
      · rw [ecs_append] at hj
        by_cases hjl : j < (ecs l).length
        · rw [List.getElem?_append_left hjl] at hj
          exact hl2.1 j u hj
        · rw [List.getElem?_append_right (by omega), ecs_length, hl1] at hj
          rw [ecs_length, hl1] at hjl
          have hj' : (ec nd)[j - k * 4]? = some u := by simpa [ecs] using hj
          have := c0 _ _ hj'
          rw [show k * 4 + (j - k * 4) = j by omega] at this
          exact ⟨a, rfl, this⟩
      · rcases List.mem_append.1 hn with hn | hn
        · exact hl2.2 n hn
        · obtain rfl := List.mem_singleton.1 hn; exact ⟨r0, r1⟩
      · rcases List.mem_append.1 hn with hn | hn
        · exact hl3 n hn
        · obtain rfl := List.mem_singleton.1 hn; exact hs
   obtain ⟨l, h1, h2, h3⟩ := hall len (Nat.le_refl _)
   exact ⟨some a, cap, l, by rw [h1], h2, by rw [h1]; omega, h3⟩
def BigGraph (g : Gr) : Prop := (-9223372036854775808 ≤ g.1 ∧ g.1 ≤ 9223372036854775807) ∧ (g.2.1.length ≤ maxLen ∧ g.2.2.1.length ≤ maxLen ∧ g.2.2.2.length ≤ maxLen) ∧ ∀ e, e ∈ g.2.1 → e.2.2.1.length ≤ maxLen ∧ e.2.2.2.length ≤ maxLen
set_option maxRecDepth 100000 in
theorem in_Graph {H : Type} {enc : TypeId × Value → H} {W : World} {base : Nat} {v : Value} {d : DataW H} {p : List MemPlace} (hv : Value.okWide Tryd.prog W .any base 25 v) (h : DataW.Trod enc Tryd.prog W 0 (fun _ => true) true 25 v d p) :
  ∃ g, RdGr W v g ∧ BigGraph g := by
 obtain ⟨cs, rfl, hsz⟩ := okWide_struct Tryd.underlying25 hv
 rw [cellsGraphL] at hsz
 obtain ⟨fuel, hf⟩ := h
 obtain ⟨xs, n, _, _, hlen, hxl, hg⟩ := DataW.trod_struct Tryd.underlying25 hf
 obtain ⟨c0, c1, c2, c3, hc⟩ := four_of (show cs.toList.length = 4 by simpa using hsz)
 obtain ⟨y0, y1, y2, y3, rfl⟩ := four_of (show xs.length = 4 from hxl)
 have hc' : (Value.agg cs).cells.toList = [c0, c1, c2, c3] := hc
 rw [hc'] at hg
 have h0 : DataW.trod enc Tryd.prog W 0 (fun _ => true) true n 3 (List.take (Tryd.prog.cellsOf 3) [c0, c1, c2, c3]) = some y0 := hg 0 _ rfl
 have h1 : DataW.trod enc Tryd.prog W 0 (fun _ => true) true n 22 (List.take (Tryd.prog.cellsOf 22) [c1, c2, c3]) = some y1 := hg 1 _ rfl
 have h2 : DataW.trod enc Tryd.prog W 0 (fun _ => true) true n 23 (List.take (Tryd.prog.cellsOf 23) [c2, c3]) = some y2 := hg 2 _ rfl
 have h3 : DataW.trod enc Tryd.prog W 0 (fun _ => true) true n 23 (List.take (Tryd.prog.cellsOf 23) [c3]) = some y3 := hg 3 _ rfl
 rw [cellsInt] at h0
 rw [cellsEdges] at h1
 rw [cellsIntsG] at h2 h3
 obtain ⟨k, rfl, hk⟩ := in_int1 (v := c0) h0
 obtain ⟨A, cap, l, rfl, hR, hl, hB⟩ := in_edges (v := c1) h1
 obtain ⟨a, rfl, ha, hla⟩ := in_ints1 (v := c2) h2
 obtain ⟨b, rfl, hb, hlb⟩ := in_ints1 (v := c3) h3
 have : cs = #[.int .i64 k, .slice A l.length cap, .slice a.1 a.2.2.length a.2.1, .slice b.1 b.2.2.length b.2.1] := by
  apply Array.ext'
  simpa using hc
 rw [this]
 exact ⟨(k, l.map egOf, a.2.2, b.2.2), ⟨A, cap, l, a, b, rfl, rfl, rfl, rfl, hR, ha, hb⟩, hk, ⟨by simpa using hl, hla, hlb⟩, fun e he => by
  obtain ⟨h, hh, rfl⟩ := List.mem_map.1 he
  exact (hB h hh).2.2⟩
end Go.Proofs.YtpkmjenoniedjaaDoor
namespace Go.Proofs.YtpkmjenoniedjaaDoor
open Go.RowKit
def t_szL (left : Int) (n : Nat) : Int := if left - n < 0 then -1 else left - n
def szEd (n m : Nat) (left : Int) : Int := if left - n < 0 then -1 else t_szL (left - n) m
def szEs : List Eg → Int → Int
 | [], left => left
 | e :: r, left => if szEd e.2.2.1.length e.2.2.2.length left < 0 then -1 else szEs r (szEd e.2.2.1.length e.2.2.2.length left)
def szEdS (l : List Eg) (left : Int) : Int := if left - l.length < 0 then -1 else szEs l (left - l.length)
def szG (g : Gr) (left : Int) : Int := if szEdS g.2.1 left < 0 then -1 else if t_szL (szEdS g.2.1 left) g.2.2.1.length < 0 then -1 else t_szL (t_szL (szEdS g.2.1 left) g.2.2.1.length) g.2.2.2.length
theorem szL_nn {left : Int} {n : Nat} (h : 0 ≤ t_szL left n) : t_szL left n = left - n := by unfold t_szL at h ⊢; split <;> simp_all
theorem szL_neg {left : Int} {n : Nat} (h : t_szL left n < 0) : t_szL left n = -1 := by unfold t_szL at h ⊢; split <;> simp_all
theorem szEd_nn {left : Int} {n m : Nat} (h : 0 ≤ szEd n m left) : szEd n m left = left - n - m := by
 unfold szEd at h ⊢
 split at h
 · omega
 · rename_i h1
   rw [if_neg h1]; exact szL_nn h
theorem szEd_neg {left : Int} {n m : Nat} (h : szEd n m left < 0) : szEd n m left = -1 := by
 unfold szEd at h ⊢
 split at h
 · rename_i h1; rw [if_pos h1]
 · rename_i h1
   rw [if_neg h1]; exact szL_neg h
theorem szEs_nn : ∀ {l : List Eg} {left : Int}, 0 ≤ szEs l left → szEs l left + cntE l = left + 2 * l.length ∧ ∀ e, e ∈ l → (e.2.2.1.length : Int) ≤ left ∧ (e.2.2.2.length : Int) ≤ left
 | [], left, h => ⟨by simp [szEs, cntE], fun e he => by cases he⟩
 | e :: r, left, h => by
   unfold szEs at h ⊢
   split at h
   · omega
   · rename_i h1
     rw [if_neg h1]
     have h2 := szEd_nn (show 0 ≤ szEd e.2.2.1.length e.2.2.2.length left by omega)
     obtain ⟨h3, h4⟩ := szEs_nn h
     rw [h2] at h3 h4 h1
     refine ⟨by rw [h2]; simp only [cntE, List.length_cons]; omega, fun x hx => ?_⟩
     rcases List.mem_cons.1 hx with rfl | hx
     · omega
     · have := h4 x hx; omega
theorem szEs_neg : ∀ {l : List Eg} {left : Int}, 0 ≤ left → szEs l left < 0 → szEs l left = -1
 | [], left, h0, h => by simp only [szEs] at h; omega
 | e :: r, left, h0, h => by
   unfold szEs at h ⊢
   split at h
   · rename_i h1; rw [if_pos h1]
   · rename_i h1
     rw [if_neg h1]
     exact szEs_neg (by omega) h
theorem szEdS_neg {l : List Eg} {left : Int} (h : szEdS l left < 0) : szEdS l left = -1 := by
 unfold szEdS at h ⊢
 split at h
 · rename_i h1; rw [if_pos h1]
 · rename_i h1
   rw [if_neg h1]; exact szEs_neg (by omega) h
theorem szEdS_le {l : List Eg} {left : Int} (h : 0 ≤ szEdS l left) : szEdS l left + cntE l = left + l.length ∧ (l.length : Int) ≤ left ∧ ∀ e, e ∈ l → (e.2.2.1.length : Int) ≤ left ∧ (e.2.2.2.length : Int) ≤ left := by
 unfold szEdS at h ⊢
 split at h
 · omega
 · rename_i h1
   rw [if_neg h1]
   obtain ⟨h2, h3⟩ := szEs_nn h
   exact ⟨by omega, by omega, fun e he => by have := h3 e he; omega⟩
theorem cntE_ge (l : List Eg) : 2 * l.length ≤ cntE l := by
 induction l with
 | nil => simp
 | cons e r ih => simp only [cntE, List.length_cons]; omega
theorem szG_ok {g : Gr} {left : Int} (h : 0 ≤ szG g left) (h1 : left ≤ 1048576) : OkG g ∧ szG g left ≤ left := by
 unfold szG at h ⊢
 split at h
 · omega
 · rename_i h2
   rw [if_neg h2]
   split at h
   · omega
   · rename_i h3
     rw [if_neg h3]
     have e3 := szL_nn h
     have e2 := szL_nn (show 0 ≤ t_szL (szEdS g.2.1 left) g.2.2.1.length by omega)
     obtain ⟨e1, hl, he⟩ := szEdS_le (show 0 ≤ szEdS g.2.1 left by omega)
     have := cntE_ge g.2.1
     refine ⟨⟨⟨by omega, by omega, by omega⟩, fun e hm => by have := he e hm; omega, ?_⟩, by omega⟩
     unfold cntG
     omega
set_option maxHeartbeats 400000 in
theorem szIntL_any (A : Option Addr) (c n : Nat) (left : Int) (w : World) (h0 : 0 ≤ left) (h1 : left ≤ 1048576) (hn : n ≤ maxLen) :
  Calls Tryd.prog 14 #[.slice A n c, .int .i64 left] w fun e w' => e = .returned (.int .i64 (t_szL left n)) ∧ w = w' := by
 unfold maxLen at hn
 have ww : IntKind.i64.wrap (left - (n : Int)) = left - (n : Int) := IntWalk.i64_in _ (by omega)
 by_cases hlt : left - (n : Int) < 0
 · have e : t_szL left n = -1 := if_pos hlt
   rw [e]
   clear e
   go_enter Tryd.func14, Tryd.ntmps14
   go_wp2_with (fail)
   go_ret
   exact ⟨rfl, rfl⟩
 · have e : t_szL left n = left - (n : Int) := if_neg hlt
   rw [e]
   clear e
   go_enter Tryd.func14, Tryd.ntmps14
   go_wp2_with (fail)
   go_ret
   exact ⟨rfl, rfl⟩
set_option maxHeartbeats 1000000 in
theorem szEdge_any (k v : Int) (B C : Option Addr) (b c n m : Nat) (left : Int) (w : World) (h0 : 0 ≤ left) (h1 : left ≤ 1048576) (hn : n ≤ maxLen) (hm : m ≤ maxLen) :
  Calls Tryd.prog 28 #[.agg #[.int .i64 k, .int .i64 v, .slice B n b, .slice C m c], .int .i64 left] w fun e w' => e = .returned (.int .i64 (szEd n m left)) ∧ Below w.heap.size w w' := by
 have hC1 := fun W => szIntL_any B b n left W h0 h1 hn
 by_cases hlt : left - (n : Int) < 0
 · have e : szEd n m left = -1 := if_pos hlt
   have e1 : t_szL left n = -1 := if_pos hlt
   rw [e]
   simp only [e1] at hC1
   have hC1_h := lH hC1; clear hC1; clear e e1 hlt
   go_enter Tryd.func28, Tryd.ntmps28
   go_wp2_with (fail)
   refine (hC1_h.out _).mono ?_
   rintro e w1 ⟨rfl, rfl⟩
   go_wp2_with (fail)
   go_ret
   exact ⟨rfl, t_below_alloc _ _⟩
 · have e : szEd n m left = t_szL (left - n) m := if_neg hlt
   have e1 : t_szL left n = left - n := if_neg hlt
   obtain ⟨z, hz⟩ : ∃ z, z = left - (n : Int) := ⟨_, rfl⟩
   rw [← hz] at e e1 hlt
   have hC2 := fun W => szIntL_any C c m z W (by omega) (by omega) hm
   rw [e]
   simp only [e1] at hC1
   obtain ⟨y, hy⟩ : ∃ y, y = t_szL z m := ⟨_, rfl⟩
   rw [← hy]
   simp only [← hy] at hC2
   by_cases hy0 : y < 0
   · obtain rfl : y = -1 := by rw [hy]; exact szL_neg (by rw [← hy]; exact hy0)
     have hC1_h := lH hC1; have hC2_h := lH hC2; have hy_h := lH hy; have hz_h := lH hz; have e_h := lH e; have e1_h := lH e1; clear hC1 hC2 hy hz e e1
     go_enter Tryd.func28, Tryd.ntmps28
     go_wp2_with (fail)
     refine (hC1_h.out _).mono ?_
     rintro e w1 ⟨rfl, rfl⟩
     go_wp2_with (fail)
     refine (hC2_h.out _).mono ?_
     rintro e w1 ⟨rfl, rfl⟩
     go_wp2_with (fail)
     go_ret
     exact ⟨rfl, t_below_alloc _ _⟩
   · have hC1_h := lH hC1
     have hC2_h := lH hC2; have hy_h := lH hy; have hz_h := lH hz; have e_h := lH e; have e1_h := lH e1; clear hC1 hC2 hy hz e e1
     go_enter Tryd.func28, Tryd.ntmps28
     go_wp2_with (fail)
     refine (hC1_h.out _).mono ?_
     rintro e w1 ⟨rfl, rfl⟩
     go_wp2_with (fail)
     refine (hC2_h.out _).mono ?_
     rintro e w1 ⟨rfl, rfl⟩
     go_wp2_with (fail)
     go_ret
     exact ⟨rfl, t_below_alloc _ _⟩
set_option maxHeartbeats 1000000 in
theorem szEdgeS_any (A : Option Addr) (c : Nat) (l : List EHd) (left : Int) (w : World) (h : RdE w A l) (hB1 : l.length ≤ maxLen) (hB2 : ∀ h, h ∈ l → h.2.2.1.2.2.length ≤ maxLen ∧ h.2.2.2.2.2.length ≤ maxLen) (h0 : 0 ≤ left) (h1 : left ≤ 1048576) :
  Calls Tryd.prog 13 #[.slice A l.length c, .int .i64 left] w fun e w' => e = .returned (.int .i64 (szEdS (l.map egOf) left)) ∧ Below w.heap.size w w' := by
 unfold maxLen at hB1
 obtain ⟨m, hm⟩ : ∃ m, m = l.length := ⟨_, rfl⟩
 rw [← hm] at hB1 ⊢
 obtain ⟨S, hS⟩ : ∃ S, S = szEdS (l.map egOf) left := ⟨_, rfl⟩
 have hml : (l.map egOf).length = m := by rw [List.length_map, hm]
 rw [← hS]
 by_cases hl : left - (m : Int) < 0
 · have e : S = -1 := by rw [hS]; unfold szEdS; rw [hml, if_pos hl]
   subst e
   have hm_h := lH hm; have hB2_h := lH hB2; have hS_h := lH hS; have hml_h := lH hml; clear hm hB2 hS hml; clear h
   go_enter Tryd.func13, Tryd.ntmps13
   go_wp2_with (fail)
   go_ret
   exact ⟨rfl, Below.refl _ _⟩
 · have e : S = szEs (l.map egOf) (left - m) := by rw [hS]; unfold szEdS; rw [hml, if_neg hl]
   have hm_h := lH hm; have hB2_h := lH hB2; have hS_h := lH hS; have e_h := lH e; have hml_h := lH hml; clear hm hB2 hS e hml
   go_enter Tryd.func13, Tryd.ntmps13
   go_wp2_with (fail)
   go_loopw [1, 5] (fun q i wr => ∃ (k : Nat) (x : Int), k ≤ m ∧ i = .int .i64 k ∧ q = .int .i64 x ∧ 0 ≤ x ∧ x ≤ 1048576 ∧ szEs ((l.drop k).map egOf) x = S ∧ Below w.heap.size w wr) (fun _ i _ => m - (intOf i).toNat)
   case atStart => exact ⟨0, left - m, Nat.zero_le _, rfl, rfl, by omega, by omega, by rw [e_h.out]; rfl, Below.refl _ _⟩
   case round =>
    obtain ⟨k, x, hk, rfl, rfl, hx0, hx1, hsz, hb⟩ := hrel
    by_cases hlt : k < m
    · obtain ⟨ad, κ, v, B, b, s, C, d, t, rfl, hn, ⟨d0, d1, d2, d3⟩, -, -⟩ := (h.below hb).at_ (j := k) (by rw [← hm_h.out]; exact hlt)
      have hss := hB2_h.out _ (List.mem_of_getElem? hn)
      have hdrop : (l.drop k).map egOf = (κ, v, s, t) :: (l.drop (k + 1)).map egOf := by
       obtain ⟨hk', e⟩ := List.getElem?_eq_some_iff.1 hn
       rw [List.drop_eq_getElem_cons hk', e]; rfl
      have hC := fun W => szEdge_any κ v B C b d s.length t.length x W hx0 hx1 hss.1 hss.2
      have hkI : (k : Int) < (m : Int) := by omega
      rw [hdrop] at hsz
      obtain ⟨y, hy⟩ : ∃ y, y = szEd s.length t.length x := ⟨_, rfl⟩
      simp only [← hy] at hC
      obtain ⟨sl, hsl⟩ : ∃ sl, sl = s.length := ⟨_, rfl⟩
      obtain ⟨tl, htl⟩ : ∃ tl, tl = t.length := ⟨_, rfl⟩
      rw [← hsl] at d2
      rw [← htl] at d3
      simp only [← hsl, ← htl] at hC
      by_cases hneg : y < 0
      · have hy1 : y = -1 := by rw [hy]; exact szEd_neg (by rw [← hy]; exact hneg)
        have hS1 : S = -1 := by rw [← hsz]; show (if szEd s.length t.length x < 0 then _ else _) = _; rw [← hy, if_pos hneg]
        subst hS1
        subst hy1
        have hC_h := lH hC; have hsz_h := lH hsz; have hn_h := lH hn; have hss_h := lH hss; have hdrop_h := lH hdrop; have hy_h := lH hy; have hsl_h := lH hsl; have htl_h := lH htl; clear hC hsz hn hss hdrop hy hsl htl; clear h
        go_wp2_with (fail)
        refine (hC_h.out _).mono ?_
        rintro e w1 ⟨rfl, hb1⟩
        go_wp2_with (fail)
        go_ret
        exact ⟨rfl, below_trans hb hb1 hb.size⟩
      · have hs1 : szEs ((l.drop (k + 1)).map egOf) y = S := by rw [← hsz]; show _ = (if szEd s.length t.length x < 0 then _ else szEs _ (szEd s.length t.length x)); rw [← hy, if_neg hneg]
        have hy2 : y ≤ 1048576 := by have := szEd_nn (show 0 ≤ szEd s.length t.length x by rw [← hy]; omega); omega
        have hC_h := lH hC; have hsz_h := lH hsz; have hn_h := lH hn; have hss_h := lH hss; have hdrop_h := lH hdrop; have hs1_h := lH hs1; have hy_h := lH hy; have hsl_h := lH hsl; have htl_h := lH htl; clear hC hsz hn hss hdrop hs1 hy hsl htl; clear h
        go_wp2_with (fail)
        refine (hC_h.out _).mono ?_
        rintro e w1 ⟨rfl, hb1⟩
        go_wp2_with (fail)
        go_roundw
        case rel => exact ⟨k + 1, y, by omega, by go_num, rfl, by omega, by omega, hs1_h.out, below_trans hb hb1 hb.size⟩
        case measure => simp [intOf]; omega
    · obtain rfl : k = m := by omega
      have : x = S := by
       rw [← hsz, List.drop_of_length_le (by rw [← hm_h.out]; omega)]; rfl
      subst this
      have hsz_h := lH hsz; clear hsz; clear h
      go_wp2_with (fail)
      go_ret
      exact ⟨rfl, hb⟩
set_option maxHeartbeats 1000000 in
theorem szGraph_law {v : Value} {g : Gr} (left : Int) {w : World} (h : RdGr w v g) (hB : BigGraph g) (h0 : 0 ≤ left) (h1 : left ≤ 1048576) :
  Calls Tryd.prog 4 #[v, .int .i64 left] w fun e w' => e = .returned (.int .i64 (szG g left)) ∧ Below w.heap.size w w' := by
 obtain ⟨_, ⟨hl1, hl2, hl3⟩, hB2⟩ := hB
 obtain ⟨A, c, hs, ⟨B, b, s⟩, ⟨C, d, t⟩, rfl, e1, e2, e3, hE, -, -⟩ := h
 obtain ⟨z, es, s', t'⟩ := g
 have e1' : es = hs.map egOf := e1
 have e2' : s = s' := e2
 have e3' : t = t' := e3
 subst e1' e2' e3'
 have hl2' : s.length ≤ maxLen := hl2
 have hl3' : t.length ≤ maxLen := hl3
 have hl1' : hs.length ≤ maxLen := by have : (hs.map egOf).length ≤ maxLen := hl1; simpa using this
 obtain ⟨W, hW⟩ : ∃ W, W = w.alloc (.cells #[.int .i64 z, .slice A hs.length c, .slice B s.length b, .slice C t.length d] 25) := ⟨_, rfl⟩
 have hb : Below w.heap.size w W := by rw [hW]; exact t_below_alloc _ _
 have k0 : W.heap[w.heap.size]? = some (.cells #[.int .i64 z, .slice A hs.length c, .slice B s.length b, .slice C t.length d] 25) := by rw [hW]; exact heap_alloc_new _ _
 have hC1 := szEdgeS_any A c hs left W (hE.below hb) hl1' (fun x hx => hB2 _ (List.mem_map_of_mem hx)) h0 h1
 show Calls Tryd.prog _ #[.agg #[.int .i64 z, .slice A hs.length c, .slice B s.length b, .slice C t.length d], .int .i64 left] w fun e w' => e = .returned (.int .i64 (szG (z, hs.map egOf, s, t) left)) ∧ Below w.heap.size w w'
 obtain ⟨x, hx⟩ : ∃ x, x = szEdS (hs.map egOf) left := ⟨_, rfl⟩
 have hxl : 0 ≤ x → x ≤ 1048576 := fun h => by
  have := szEdS_le (show 0 ≤ szEdS (hs.map egOf) left by rw [← hx]; exact h)
  rw [← hx] at this
  have := cntE_ge (hs.map egOf)
  omega
 rw [← hx] at hC1
 obtain ⟨S, hS⟩ : ∃ S, S = szG (z, hs.map egOf, s, t) left := ⟨_, rfl⟩
 rw [← hS]
 unfold szG at hS
 simp only [← hx] at hS
 obtain ⟨n, hn⟩ : ∃ n, n = hs.length := ⟨_, rfl⟩
 obtain ⟨sl, hsl⟩ : ∃ sl, sl = s.length := ⟨_, rfl⟩
 obtain ⟨tl, htl⟩ : ∃ tl, tl = t.length := ⟨_, rfl⟩
 simp only [← hn, ← hsl, ← htl] at *
 obtain ⟨⟨c0, c1, c2, c3⟩, f0, f1, f2, f3⟩ := t_box4 k0
 by_cases hxn : x < 0
 · have hx1 : x = -1 := by rw [hx]; exact szEdS_neg (by rw [← hx]; exact hxn)
   rw [if_pos hxn] at hS
   subst hS
   subst hx1
   have hC1_h := lH hC1; have hx_h := lH hx; have hn_h := lH hn; have hsl_h := lH hsl; have htl_h := lH htl; have hb_h := lH hb; have k0_h := lH k0; have hB2_h := lH hB2; have e1_h := lH e1; have e2_h := lH e2; have e3_h := lH e3; clear hC1 hx hn hsl htl hb k0 hB2 e1 e2 e3; clear hE
   go_enter Tryd.func4, Tryd.ntmps4
   go_upto_region 1 with (fail)
   rw [← hW]
   clear hW
   go_wp2_with (fail)
   refine (hC1_h.out).mono ?_
   rintro e w1 ⟨rfl, hb1⟩
   go_wp2_with (fail)
   go_ret
   exact ⟨rfl, below_trans hb_h.out hb1 hb_h.out.size⟩
 · rw [if_neg hxn] at hS
   have hC2 := fun W' => szIntL_any B b sl x W' (by omega) (hxl (by omega)) hl2'
   obtain ⟨y, hy⟩ : ∃ y, y = t_szL x sl := ⟨_, rfl⟩
   rw [← hy] at hS
   simp only [← hy] at hC2
   by_cases hyn : y < 0
   · have hy1 : y = -1 := by rw [hy]; exact szL_neg (by rw [← hy]; exact hyn)
     rw [if_pos hyn] at hS
     subst hS
     subst hy1
     have hC1_h := lH hC1; have hC2_h := lH hC2; have hx_h := lH hx; have hy_h := lH hy; have hn_h := lH hn; have hsl_h := lH hsl; have htl_h := lH htl; have hb_h := lH hb; have k0_h := lH k0; have hB2_h := lH hB2; have e1_h := lH e1; have e2_h := lH e2; have e3_h := lH e3; have hxl_h := lH hxl; clear hC1 hC2 hx hy hn hsl htl hb k0 hB2 e1 e2 e3 hxl; clear hE
     go_enter Tryd.func4, Tryd.ntmps4
     go_upto_region 1 with (fail)
     rw [← hW]
     clear hW
     go_wp2_with (fail)
     refine (hC1_h.out).mono ?_
     rintro e w1 ⟨rfl, hb1⟩
     clear c0 c1 c2 c3 f0 f1 f2 f3
     obtain ⟨⟨c0, c1, c2, c3⟩, f0, f1, f2, f3⟩ := t_box4 (t_box_below k0_h.out hb1)
     go_wp2_with (fail)
     refine (hC2_h.out _).mono ?_
     rintro e w1 ⟨rfl, rfl⟩
     go_wp2_with (fail)
     go_ret
     exact ⟨rfl, below_trans hb_h.out hb1 hb_h.out.size⟩
   · rw [if_neg hyn] at hS
     have hyx : y ≤ 1048576 := by have := szL_nn (show 0 ≤ t_szL x sl by rw [← hy]; omega); have := hxl (by omega); omega
     have hC3 := fun W' => szIntL_any C d tl y W' (by omega) hyx hl3'
     rw [← hS] at hC3
     by_cases hSn : S < 0
     · have hS1 : S = -1 := by rw [hS]; exact szL_neg (by rw [← hS]; exact hSn)
       subst hS1
       have hC1_h := lH hC1; have hC2_h := lH hC2; have hC3_h := lH hC3; have hx_h := lH hx; have hy_h := lH hy; have hS_h := lH hS; have hn_h := lH hn; have hsl_h := lH hsl; have htl_h := lH htl; have hb_h := lH hb; have k0_h := lH k0; have hB2_h := lH hB2; have e1_h := lH e1; have e2_h := lH e2; have e3_h := lH e3; have hxl_h := lH hxl; clear hC1 hC2 hC3 hx hy hS hn hsl htl hb k0 hB2 e1 e2 e3 hxl; clear hE
       go_enter Tryd.func4, Tryd.ntmps4
       go_upto_region 1 with (fail)
       rw [← hW]
       clear hW
       go_wp2_with (fail)
       refine (hC1_h.out).mono ?_
       rintro e w1 ⟨rfl, hb1⟩
       clear c0 c1 c2 c3 f0 f1 f2 f3
       obtain ⟨⟨c0, c1, c2, c3⟩, f0, f1, f2, f3⟩ := t_box4 (t_box_below k0_h.out hb1)
       go_wp2_with (fail)
       refine (hC2_h.out _).mono ?_
       rintro e w1 ⟨rfl, rfl⟩
       go_wp2_with (fail)
       refine (hC3_h.out _).mono ?_
       rintro e w1 ⟨rfl, rfl⟩
       go_wp2_with (fail)
       go_ret
       exact ⟨rfl, below_trans hb_h.out hb1 hb_h.out.size⟩
     · have hC1_h := lH hC1
       have hC2_h := lH hC2; have hC3_h := lH hC3; have hx_h := lH hx; have hy_h := lH hy; have hS_h := lH hS; have hn_h := lH hn; have hsl_h := lH hsl; have htl_h := lH htl; have hb_h := lH hb; have k0_h := lH k0; have hB2_h := lH hB2; have e1_h := lH e1; have e2_h := lH e2; have e3_h := lH e3; have hxl_h := lH hxl; clear hC1 hC2 hC3 hx hy hS hn hsl htl hb k0 hB2 e1 e2 e3 hxl; clear hE
       go_enter Tryd.func4, Tryd.ntmps4
       go_upto_region 1 with (fail)
       rw [← hW]
       clear hW
       go_wp2_with (fail)
       refine (hC1_h.out).mono ?_
       rintro e w1 ⟨rfl, hb1⟩
       clear c0 c1 c2 c3 f0 f1 f2 f3
       obtain ⟨⟨c0, c1, c2, c3⟩, f0, f1, f2, f3⟩ := t_box4 (t_box_below k0_h.out hb1)
       go_wp2_with (fail)
       refine (hC2_h.out _).mono ?_
       rintro e w1 ⟨rfl, rfl⟩
       go_wp2_with (fail)
       refine (hC3_h.out _).mono ?_
       rintro e w1 ⟨rfl, rfl⟩
       go_wp2_with (fail)
       go_ret
       exact ⟨rfl, below_trans hb_h.out hb1 hb_h.out.size⟩
theorem info_ed : (Tryd.prog.info? tEd).map (fun i => (i.zero, i.size, i.bytes)) = some (some (.agg #[.int .i64 0, .int .i64 0, .slice none 0 0, .slice none 0 0]), 4, 64) := by kernel_rfl
def eh0 : EHd := (0, 0, (none, 0, []), (none, 0, []))
theorem madeEdges (n : Nat) : (madeCells (Value.agg #[.int .i64 0, .int .i64 0, .slice none 0 0, .slice none 0 0]).cells (n * 4)).toList.take (n * 4) = ecs (List.replicate n eh0) := by
 have hs : (madeCells (Value.agg #[.int .i64 0, .int .i64 0, .slice none 0 0, .slice none 0 0]).cells (n * 4)).toList.length = n * 4 := by rw [Array.length_toList, size_madeCells]
 rw [List.take_of_length_le (by omega)]
 apply List.ext_getElem?
 intro j
 by_cases hj : j < n * 4
 · have key : ∀ q r, q * 4 + r < n * 4 → r < 4 → (madeCells (Value.agg #[.int .i64 0, .int .i64 0, .slice none 0 0, .slice none 0 0]).cells (n * 4)).toList[q * 4 + r]? = (ec eh0)[r]? := by
    intro q r h hr
    have hm : (q * 4 + r) % 4 = r := by omega
    have hr' : r = 0 ∨ r = 1 ∨ r = 2 ∨ r = 3 := by omega
    simp only [madeCells, Value.cells, Array.toList_map, List.getElem?_map, Array.toList_range, List.getElem?_range h, Option.map_some]
    show some (_[(q * 4 + r) % 4]!) = _
    rw [hm]
    rcases hr' with rfl | rfl | rfl | rfl <;> rfl
   have hq : j / 4 < n := by omega
   have hg := ecs_get (l := List.replicate n eh0) (j := j / 4) (n := eh0) (by simp [hq])
   have e : j = j / 4 * 4 + j % 4 := by omega
   have hr' : j % 4 = 0 ∨ j % 4 = 1 ∨ j % 4 = 2 ∨ j % 4 = 3 := by omega
   rw [e]
   rcases hr' with h | h | h | h <;> rw [h] at e ⊢
   · rw [key _ 0 (by omega) (by omega)]; exact hg.1.symm
   · rw [key _ 1 (by omega) (by omega)]; exact hg.2.1.symm
   · rw [key _ 2 (by omega) (by omega)]; exact hg.2.2.1.symm
   · rw [key _ 3 (by omega) (by omega)]; exact hg.2.2.2.symm
 · rw [List.getElem?_eq_none (by omega), List.getElem?_eq_none (by simp; omega)]
section
variable {w : World} {A : Option Addr} {n cap : Nat} {hs : List EHd}
theorem ES.set (h : Sl w tEd 4 A n cap (ecs hs)) (hn : hs.length = n) {ad : Addr} (hA : A = some ad) {j : Nat} (k v : Int) (B C : Option Addr) (b c : Nat) (l m : List Int) (hj : j < n) :
  Sl ((((w.setCell (ad.add (j * 4)) (.int .i64 k)).setCell ⟨(ad.add (j * 4)).block, (ad.add (j * 4)).off + 1, none⟩ (.int .i64 v)).setCell ⟨(ad.add (j * 4)).block, (ad.add (j * 4)).off + 2, none⟩ (.slice B l.length b)).setCell ⟨(ad.add (j * 4)).block, (ad.add (j * 4)).off + 3, none⟩ (.slice C m.length c)) tEd 4 A n cap (ecs (hs.set j (k, v, (B, b, l), (C, c, m)))) ∧
  Keeps (· ∈ fpA A) w ((((w.setCell (ad.add (j * 4)) (.int .i64 k)).setCell ⟨(ad.add (j * 4)).block, (ad.add (j * 4)).off + 1, none⟩ (.int .i64 v)).setCell ⟨(ad.add (j * 4)).block, (ad.add (j * 4)).off + 2, none⟩ (.slice B l.length b)).setCell ⟨(ad.add (j * 4)).block, (ad.add (j * 4)).off + 3, none⟩ (.slice C m.length c)) := by
 have hl : (ecs hs).length = n * 4 := by rw [ecs_length, hn]
 have s1 := Sl.set h hA (j * 4) (.int .i64 k) (by omega)
 have s2 := Sl.set s1 hA (j * 4 + 1) (.int .i64 v) (by rw [List.length_set]; omega)
 have s3 := Sl.set s2 hA (j * 4 + 2) (.slice B l.length b) (by rw [List.length_set, List.length_set]; omega)
 have s4 := Sl.set s3 hA (j * 4 + 3) (.slice C m.length c) (by rw [List.length_set, List.length_set, List.length_set]; omega)
 have e := ecs_set (l := hs) (j := j) (k, v, (B, b, l), (C, c, m)) (by omega)
 simp only [Hd.val] at e
 rw [e, add_next ad (j * 4) 1 (by omega), add_next ad (j * 4) 2 (by omega), add_next ad (j * 4) 3 (by omega)] at s4
 refine ⟨s4, ?_⟩
 have hb : (ad.add (j * 4)).block ∈ fpA A := by rw [block_of_add, hA]; simp
 exact ((((Keeps.refl _ w).setCell (p := ad.add (j * 4)) hb _).setCell (p := ⟨(ad.add (j * 4)).block, (ad.add (j * 4)).off + 1, none⟩) hb _).setCell (p := ⟨(ad.add (j * 4)).block, (ad.add (j * 4)).off + 2, none⟩) hb _).setCell (p := ⟨(ad.add (j * 4)).block, (ad.add (j * 4)).off + 3, none⟩) hb _
theorem ES.mid {ad : Addr} (h : Sl w tEd 4 (some ad) n cap (ecs hs)) (hn : hs.length = n) {j : Nat} (k v : Int) (s : Value) (hj : j < n) :
  ((∃ x, w.cell? (ad.add (j * 4)) = some x) ∧ w.frozen? (ad.add (j * 4)) = false) ∧
  ((∃ x, (w.setCell (ad.add (j * 4)) (.int .i64 k)).cell? ⟨(ad.add (j * 4)).block, (ad.add (j * 4)).off + 1, none⟩ = some x) ∧ (w.setCell (ad.add (j * 4)) (.int .i64 k)).frozen? ⟨(ad.add (j * 4)).block, (ad.add (j * 4)).off + 1, none⟩ = false) ∧
  ((∃ x, ((w.setCell (ad.add (j * 4)) (.int .i64 k)).setCell ⟨(ad.add (j * 4)).block, (ad.add (j * 4)).off + 1, none⟩ (.int .i64 v)).cell? ⟨(ad.add (j * 4)).block, (ad.add (j * 4)).off + 2, none⟩ = some x) ∧
  ((w.setCell (ad.add (j * 4)) (.int .i64 k)).setCell ⟨(ad.add (j * 4)).block, (ad.add (j * 4)).off + 1, none⟩ (.int .i64 v)).frozen? ⟨(ad.add (j * 4)).block, (ad.add (j * 4)).off + 2, none⟩ = false) ∧
  ((∃ x, (((w.setCell (ad.add (j * 4)) (.int .i64 k)).setCell ⟨(ad.add (j * 4)).block, (ad.add (j * 4)).off + 1, none⟩ (.int .i64 v)).setCell ⟨(ad.add (j * 4)).block, (ad.add (j * 4)).off + 2, none⟩ s).cell? ⟨(ad.add (j * 4)).block, (ad.add (j * 4)).off + 3, none⟩ = some x) ∧
  (((w.setCell (ad.add (j * 4)) (.int .i64 k)).setCell ⟨(ad.add (j * 4)).block, (ad.add (j * 4)).off + 1, none⟩ (.int .i64 v)).setCell ⟨(ad.add (j * 4)).block, (ad.add (j * 4)).off + 2, none⟩ s).frozen? ⟨(ad.add (j * 4)).block, (ad.add (j * 4)).off + 3, none⟩ = false) := by
 have hl : (ecs hs).length = n * 4 := by rw [ecs_length, hn]
 have s1 := Sl.set h rfl (j * 4) (.int .i64 k) (by omega)
 have s2 := Sl.set s1 rfl (j * 4 + 1) (.int .i64 v) (by rw [List.length_set]; omega)
 have s3 := Sl.set s2 rfl (j * 4 + 2) s (by rw [List.length_set, List.length_set]; omega)
 rw [← add_next ad (j * 4) 1 (by omega), ← add_next ad (j * 4) 2 (by omega), ← add_next ad (j * 4) 3 (by omega)]
 obtain ⟨a0, h0, _, c0, f0⟩ := Sl.cell h (j := j * 4) (u := _) (List.getElem?_eq_getElem (by omega))
 obtain ⟨a1, h1, _, c1, f1⟩ := Sl.cell s1 (j := j * 4 + 1) (u := _) (List.getElem?_eq_getElem (by rw [List.length_set]; omega))
 obtain ⟨a2, h2, _, c2, f2⟩ := Sl.cell s2 (j := j * 4 + 2) (u := _) (List.getElem?_eq_getElem (by rw [List.length_set, List.length_set]; omega))
 obtain ⟨a3, h3, _, c3, f3⟩ := Sl.cell s3 (j := j * 4 + 3) (u := _) (List.getElem?_eq_getElem (by rw [List.length_set, List.length_set, List.length_set]; omega))
 obtain rfl := Option.some.inj h0
 obtain rfl := Option.some.inj h1
 obtain rfl := Option.some.inj h2
 obtain rfl := Option.some.inj h3
 exact ⟨⟨⟨_, c0⟩, f0 _⟩, ⟨⟨_, c1⟩, f1 _⟩, ⟨⟨_, c2⟩, f2 _⟩, ⟨_, c3⟩, f3 _⟩
end
theorem egs_take_step {l : List EHd} {ys : List EHd} {k : Nat} {x y : EHd} (hx : l[k]? = some x) (h : ys.map egOf = (l.take k).map egOf) (he : egOf y = egOf x) : (ys ++ [y]).map egOf = (l.take (k + 1)).map egOf := by
 rw [List.map_append, h, List.take_add_one, hx]; simp [he]
theorem set_rep_step {α : Type} (hs : List α) (x d : α) {n k : Nat} (hk : hs.length = k) (h : k < n) : (hs ++ List.replicate (n - k) d).set k x = (hs ++ [x]) ++ List.replicate (n - (k + 1)) d := by
 subst hk
 rw [List.set_append_right _ _ (Nat.le_refl _), Nat.sub_self, show n - hs.length = (n - (hs.length + 1)) + 1 by omega, List.replicate_succ, List.set_cons_zero, List.append_assoc]
 rfl
theorem box_set {w : World} {B : Nat} {cs : Array Value} {t : TypeId} (h : w.heap[B]? = some (.cells cs t)) (i : Nat) (x : Value) : (w.setCell ⟨B, i, none⟩ x).heap[B]? = some (.cells (cs.setIfInBounds i x) t) ∧ Keeps (· = B) w (w.setCell ⟨B, i, none⟩ x) :=
 ⟨by simp [World.setCell, Array.getElem?_modify, h], (Keeps.refl (fun x => x = B) w).setCell (p := ⟨B, i, none⟩) rfl _⟩
theorem allocs3 (w : World) (o o' o'' : Obj) : ∃ W, W = ((w.alloc o).alloc o').alloc o'' ∧ Below w.heap.size w W ∧ W.heap[w.heap.size]? = some o ∧ W.heap[w.heap.size + 1]? = some o' ∧ W.heap[w.heap.size + 1 + 1]? = some o'' := by
 refine ⟨_, rfl, ((t_below_alloc w o).alloc (by simp) _).alloc (by simp; omega) _, ?_, ?_, ?_⟩
 · exact t_box_below (t_box_below (heap_alloc_new w o) (t_below_alloc _ _)) (t_below_alloc _ _)
 · have := heap_alloc_new (w.alloc o) o'
   rw [World.size_alloc] at this
   exact t_box_below this (t_below_alloc _ _)
 · have := heap_alloc_new ((w.alloc o).alloc o') o''
   rw [World.size_alloc, World.size_alloc] at this
   exact this
theorem set4 {w : World} {B : Nat} {t : TypeId} {x y z u a b c d : Value} (h : w.heap[B]? = some (.cells #[x, y, z, u] t)) : ((((w.setCell ⟨B, 0, none⟩ a).setCell ⟨B, 1, none⟩ b).setCell ⟨B, 2, none⟩ c).setCell ⟨B, 3, none⟩ d).heap[B]? = some (.cells #[a, b, c, d] t) ∧ Keeps (· = B) w ((((w.setCell ⟨B, 0, none⟩ a).setCell ⟨B, 1, none⟩ b).setCell ⟨B, 2, none⟩ c).setCell ⟨B, 3, none⟩ d) := by
 obtain ⟨h1, k1⟩ := box_set h 0 a
 obtain ⟨h2, k2⟩ := box_set h1 1 b
 obtain ⟨h3, k3⟩ := box_set h2 2 c
 obtain ⟨h4, k4⟩ := box_set h3 3 d
 exact ⟨h4, ((k1.trans k2).trans k3).trans k4⟩
def NewLs (w w' : World) (ls : List Hd) : Prop := OwLs w' [] ls ∧ FreshL w.heap.size (fpR ls)
set_option maxRecDepth 100000 in
set_option maxHeartbeats 1000000 in
theorem toEdge_any (k v : Int) (B C : Option Addr) (b c : Nat) (l m : List Int) (w : World) (hB : RdI w B l) (hC : RdI w C m) (hl : l.length ≤ 1048576) (hm : m.length ≤ 1048576) :
  Calls Tryd.prog 34 #[.agg #[.int .i64 k, .int .i64 v, .slice B l.length b, .slice C m.length c]] w fun e w' => ∃ (x y : Hd), e = .returned (.agg #[.int .i64 k, .int .i64 v, .slice x.1 l.length x.2.1, .slice y.1 m.length y.2.1]) ∧ x.2.2 = l ∧ y.2.2 = m ∧ NewLs w w' [x, y] ∧ Below w.heap.size w w' := by
 obtain ⟨p, hp⟩ : ∃ p, p = l.length := ⟨_, rfl⟩
 obtain ⟨q, hq⟩ : ∃ q, q = m.length := ⟨_, rfl⟩
 have hC1 := fun (W : World) (hb : Below w.heap.size w W) => toIntS_any B b l W (hB.below hb) (by omega)
 have hC2 := fun (W : World) (hb : Below w.heap.size w W) => toIntS_any C c m W (hC.below hb) (by omega)
 simp only [← hp] at hC1
 simp only [← hq] at hC2
 rw [← hp, ← hq]
 obtain ⟨W, hW, bW, k0, k1, k2⟩ := allocs3 w (.cells #[.int .i64 k, .int .i64 v, .slice B p b, .slice C q c] 55) (.cells #[.int .i64 0, .int .i64 0, .slice none 0 0, .slice none 0 0] tEd) (.cells #[.int .i64 0, .int .i64 0, .slice none 0 0, .slice none 0 0] tEd)
 obtain ⟨W1, hW1⟩ : ∃ W1, W1 = W.setCell ⟨w.heap.size + 1 + 1, 0, none⟩ (.int .i64 k) := ⟨_, rfl⟩
 obtain ⟨j2, s1⟩ := box_set k2 0 (.int .i64 k)
 rw [← hW1] at j2 s1
 have j0 := t_box_keeps k0 s1 (by omega)
 have j1 := t_box_keeps k1 s1 (by omega)
 have bW1 := below_keeps bW s1 bW.size (fun x hx => by omega)
 obtain ⟨W2, hW2⟩ : ∃ W2, W2 = W1.setCell ⟨w.heap.size + 1 + 1, 1, none⟩ (.int .i64 v) := ⟨_, rfl⟩
 obtain ⟨i2, s2⟩ := box_set j2 1 (.int .i64 v)
 rw [← hW2] at i2 s2
 have i2' : W2.heap[w.heap.size + 1 + 1]? = some (.cells #[.int .i64 k, .int .i64 v, .slice none 0 0, .slice none 0 0] tEd) := i2
 have j2' : W1.heap[w.heap.size + 1 + 1]? = some (.cells #[.int .i64 k, .int .i64 0, .slice none 0 0, .slice none 0 0] tEd) := j2
 have i0 := t_box_keeps j0 s2 (by omega)
 have i1 := t_box_keeps j1 s2 (by omega)
 have bW2 := below_keeps bW1 s2 bW1.size (fun x hx => by omega)
 have hz2 := t_box_lt i2'
 obtain ⟨⟨c0, c1, c2, c3⟩, f0, f1, f2, f3⟩ := t_box4 k0
 obtain ⟨⟨d0, d1, d2, d3⟩, g0, g1, g2, g3⟩ := t_box4 k2
 clear hB hC j2 i2 bW bW1; have hC1_h := lH hC1; have hC2_h := lH hC2; have hp_h := lH hp; have hq_h := lH hq; have k0_h := lH k0; have k1_h := lH k1; have k2_h := lH k2; have j0_h := lH j0; have j1_h := lH j1; have j2'_h := lH j2'; have i0_h := lH i0; have i1_h := lH i1; have i2'_h := lH i2'; have bW2_h := lH bW2; have s1_h := lH s1; have s2_h := lH s2; clear hC1 hC2 hp hq k0 k1 k2 j0 j1 j2' i0 i1 i2' bW2 s1 s2
 go_enter Tryd.func34, Tryd.ntmps34
 go_upto_region 2 with (fail)
 rw [← hW]
 clear hW
 go_upto_region 3 with (fail)
 rw [← hW1]
 clear hW1 c0 c1 c2 c3 f0 f1 f2 f3 d0 d1 d2 d3 g0 g1 g2 g3
 obtain ⟨⟨c0, c1, c2, c3⟩, f0, f1, f2, f3⟩ := t_box4 j0_h.out
 obtain ⟨⟨d0, d1, d2, d3⟩, g0, g1, g2, g3⟩ := t_box4 j2'_h.out
 go_upto_region 4 with (fail)
 rw [← hW2]
 clear hW2 c0 c1 c2 c3 f0 f1 f2 f3 d0 d1 d2 d3 g0 g1 g2 g3
 obtain ⟨⟨c0, c1, c2, c3⟩, f0, f1, f2, f3⟩ := t_box4 i0_h.out
 go_wp2_with (fail)
 refine (hC1_h.out W2 bW2_h.out).mono ?_
 rintro e w3 ⟨A3, q3, rfl, hi3, hf3, hb3⟩
 rw [← hp_h.out]
 have k0' := t_box_below i0_h.out hb3
 have k1' := t_box_below i1_h.out hb3
 have k2' := t_box_below i2'_h.out hb3
 have hz3 := t_box_lt k2'
 obtain ⟨W4, hW4⟩ : ∃ W4, W4 = w3.setCell ⟨w.heap.size + 1 + 1, 2, none⟩ (.slice A3 p q3) := ⟨_, rfl⟩
 obtain ⟨l2, s3⟩ := box_set k2' 2 (.slice A3 p q3)
 rw [← hW4] at l2 s3
 have l2' : W4.heap[w.heap.size + 1 + 1]? = some (.cells #[.int .i64 k, .int .i64 v, .slice A3 p q3, .slice none 0 0] tEd) := l2
 have l0 := t_box_keeps k0' s3 (by omega)
 have l1 := t_box_keeps k1' s3 (by omega)
 have hi4 := hi3.keeps s3 (fun x hx e => by have := hf3 x hx; omega)
 have bW4 := below_keeps (below_trans bW2_h.out hb3 bW2_h.out.size) s3 (Nat.le_trans bW2_h.out.size hb3.size) (fun x hx => by omega)
 have hz4 : W2.heap.size ≤ W4.heap.size := Nat.le_trans hb3.size s3.size
 have hf4 := hf3
 clear c0 c1 c2 c3 f0 f1 f2 f3 l2 hi3 hf3 hb3 s3 k0'
 obtain ⟨⟨d0, d1, d2, d3⟩, g0, g1, g2, g3⟩ := t_box4 k2'
 have k1'_h := lH k1'; have k2'_h := lH k2'; have l0_h := lH l0; have l1_h := lH l1; have l2'_h := lH l2'; have hi4_h := lH hi4; have bW4_h := lH bW4; have hf4_h := lH hf4; clear k1' k2' l0 l1 l2' hi4 bW4 hf4
 go_upto_region 5 with (fail)
 rw [← hW4]
 clear hW4 d0 d1 d2 d3 g0 g1 g2 g3
 obtain ⟨⟨c0, c1, c2, c3⟩, f0, f1, f2, f3⟩ := t_box4 l0_h.out
 go_wp2_with (fail)
 refine (hC2_h.out W4 bW4_h.out).mono ?_
 rintro e w5 ⟨A5, q5, rfl, hi5, hf5, hb5⟩
 rw [← hq_h.out]
 have m1 := t_box_below l1_h.out hb5
 have m2 := t_box_below l2'_h.out hb5
 have hz5 := t_box_lt m2
 have hw4 := t_box_lt l2'_h.out
 obtain ⟨W6, hW6⟩ : ∃ W6, W6 = w5.setCell ⟨w.heap.size + 1 + 1, 3, none⟩ (.slice A5 q q5) := ⟨_, rfl⟩
 obtain ⟨n2, s5⟩ := box_set m2 3 (.slice A5 q q5)
 rw [← hW6] at n2 s5
 have n2' : W6.heap[w.heap.size + 1 + 1]? = some (.cells #[.int .i64 k, .int .i64 v, .slice A3 p q3, .slice A5 q q5] tEd) := n2
 have n1 := t_box_keeps m1 s5 (by omega)
 have hL := (OwLs.two (x := (A3, q3, l)) (y := (A5, q5, m)) hi4_h.out hb5 hi5 hf5)
 have hLf : FreshL W2.heap.size (fpR [((A3, q3, l) : Hd), (A5, q5, m)]) := fun x hx => by
  rw [fpR_cons, fpR_cons] at hx
  rcases List.mem_append.1 hx with hx | hx
  · exact hf4_h.out x hx
  · rcases List.mem_append.1 hx with hx | hx
    · have := hf5 x hx; omega
    · simp [fpR] at hx
 have bW6 := below_keeps (below_trans bW4_h.out hb5 bW4_h.out.size) s5 (Nat.le_trans bW4_h.out.size hb5.size) (fun x hx => by omega)
 have hL6 := hL.keeps s5 (fun x hx e => by have := hLf x hx; omega)
 obtain ⟨t1, t2⟩ := set4 (a := .int .i64 k) (b := .int .i64 v) (c := .slice A3 p q3) (d := .slice A5 q q5) n1
 have hL7 := hL6.keeps t2 (fun x hx e => by have := hLf x hx; omega)
 have bW7 := below_keeps bW6 t2 bW6.size (fun x hx => by omega)
 have hLw : FreshL w.heap.size (fpR [((A3, q3, l) : Hd), (A5, q5, m)]) := hLf.mono bW2_h.out.size
 clear c0 c1 c2 c3 f0 f1 f2 f3 n2 hi5 hf5 hb5 m1 s5 hL hL6 hLf bW6 t2
 obtain ⟨⟨d0, d1, d2, d3⟩, g0, g1, g2, g3⟩ := t_box4 m2
 have m2_h := lH m2; have n1_h := lH n1; have n2'_h := lH n2'; have t1_h := lH t1; have hL7_h := lH hL7; have bW7_h := lH bW7; have hLw_h := lH hLw; clear m2 n1 n2' t1 hL7 bW7 hLw
 go_upto_region 6 with (fail)
 rw [← hW6]
 clear hW6 d0 d1 d2 d3 g0 g1 g2 g3
 obtain ⟨⟨d0, d1, d2, d3⟩, g0, g1, g2, g3⟩ := t_box4 n2'_h.out
 obtain ⟨⟨c0, c1, c2, c3⟩, f0, f1, f2, f3⟩ := t_box4 n1_h.out
 go_wp2_with (fail)
 refine bodyPost_ret (results_cell_row rfl _ _ (w.heap.size + 1) _ _ (0, 0) _ rfl t1_h.out Tryd.underlying56 rfl (by kernel_rfl)) rfl ?_
 exact ⟨(A3, q3, l), (A5, q5, m), rfl, rfl, rfl, ⟨hL7_h.out, hLw_h.out⟩, bW7_h.out⟩
set_option maxRecDepth 100000 in
set_option maxHeartbeats 2000000 in
theorem toEdgeS_any (A : Option Addr) (c : Nat) (l : List EHd) (w : World) (h : RdE w A l) (hl : l.length ≤ 1048576) (hr : ∀ x, x ∈ l → x.2.2.1.2.2.length ≤ 1048576 ∧ x.2.2.2.2.2.length ≤ 1048576) :
  Calls Tryd.prog 17 #[.slice A l.length c] w fun e w' => ∃ (A' : Option Addr) (cap : Nat) (ys : List EHd), e = .returned (.slice A' l.length cap) ∧ ys.map egOf = l.map egOf ∧ Sl w' tEd 4 A' l.length cap (ecs ys) ∧ OwLs w' (fpA A') (eh ys) ∧ FreshL w.heap.size (fpA A' ++ fpR (eh ys)) ∧ Below w.heap.size w w' := by
 obtain ⟨m, hm⟩ : ∃ m, m = l.length := ⟨_, rfl⟩
 rw [← hm] at hl ⊢
 have hm_h := lH hm; have hr_h := lH hr; clear hm hr
 go_enter Tryd.func17, Tryd.ntmps17
 go_wp2_with (at_make; refine wpList_make_Sl _ rfl _ _ _ rfl tEd Tryd.underlying32 info_ed m m rfl rfl rfl rfl (Nat.le_refl _) (by omega) (by unfold maxLen; omega) ?_; intro G w1 hs hG hb1)
 have hs0 : Sl w1 tEd 4 (some G) m m (ecs (List.replicate m eh0)) := by rw [← madeEdges]; exact hs
 have hGl : G.block < w1.heap.size := hs0.lt G.block (by simp)
 clear hs; have hs0_h := lH hs0; clear hs0
 go_loopw [4] (fun i wr => ∃ (k : Nat) (ys : List EHd), k ≤ m ∧ i = .int .i64 k ∧ ys.length = k ∧ ys.map egOf = (l.take k).map egOf ∧ Sl wr tEd 4 (some G) m m (ecs (ys ++ List.replicate (m - k) eh0)) ∧ OwLs wr [G.block] (eh ys) ∧ FreshL w.heap.size (fpR (eh ys)) ∧ Below w.heap.size w wr ∧ w1.heap.size ≤ wr.heap.size)
  (fun i _ => m - (intOf i).toNat)
 case atStart => exact ⟨0, [], Nat.zero_le _, rfl, rfl, rfl, by simpa using hs0_h.out, OwLs.nil _ _, fun b hb => by simp [eh, fpR] at hb, hb1, Nat.le_refl _⟩
 case round =>
  clear hs0_h
  obtain ⟨k, ys, hk, rfl, hyl, hye, his, hO, hfr, hb, hsz⟩ := hrel
  by_cases hlt : k < m
  · obtain ⟨ad, κ, v, B, b, s, C, d, t, rfl, hn, ⟨d0, d1, d2, d3⟩, hrB, hrC⟩ := (h.below hb).at_ (j := k) (by rw [← hm_h.out]; exact hlt)
    have hrr := hr_h.out _ (List.mem_of_getElem? hn)
    have hC := toEdge_any κ v B C b d s t wr hrB hrC hrr.1 hrr.2
    obtain ⟨p, hp⟩ : ∃ p, p = s.length := ⟨_, rfl⟩
    obtain ⟨q, hq⟩ : ∃ q, q = t.length := ⟨_, rfl⟩
    rw [← hp, ← hq] at hC
    rw [← hp] at d2
    rw [← hq] at d3
    have hkI : (k : Int) < (m : Int) := by omega
    have hC_h := lH hC; have hp_h := lH hp; have hq_h := lH hq; have hn_h := lH hn; have his_h := lH his; have hye_h := lH hye; have hyl_h := lH hyl; have hfr_h := lH hfr; have hO_h := lH hO; clear hC hp hq hn his hye hyl hfr hO; clear h hrB hrC hrr
    go_wp2_with (fail)
    refine (hC_h.out).mono ?_
    rintro e w2 ⟨⟨B', b', s'⟩, ⟨C', c', t'⟩, rfl, rfl, rfl, hN, hb2⟩
    have his2 := his_h.out.below hb2
    have hlen : (ys ++ List.replicate (m - k) eh0).length = m := by rw [List.length_append, List.length_replicate, hyl_h.out]; omega
    obtain ⟨⟨⟨x0, e0⟩, g0⟩, ⟨⟨x1, e1⟩, g1⟩, ⟨⟨x2, e2⟩, g2⟩, ⟨x3, e3⟩, g3⟩ := ES.mid his2 hlen (j := k) κ v (.slice B' p b') hlt
    obtain ⟨hset, hks⟩ := ES.set his2 hlen (ad := G) rfl (j := k) κ v B' C' b' c' s' t' hlt
    rw [set_rep_step ys _ eh0 hyl_h.out hlt] at hset
    have hO2 := (hO_h.out.app hb2 hN.1 hN.2 (fun x hx => by obtain rfl := List.mem_singleton.1 hx; omega)).grow (fp' := [G.block]) (fun x hx => .inl hx) hks
    have hfr2 : FreshL w.heap.size (fpR (eh (ys ++ [(κ, v, (B', b', s'), (C', c', t'))]))) := fun x hx => by
     rw [eh_append, fpR_append] at hx
     rcases List.mem_append.1 hx with hx | hx
     · exact hfr_h.out x hx
     · have := hN.2 x hx; have := hb.size; omega
    have hb3 := below_keeps (below_trans hb hb2 hb.size) hks (Nat.le_trans hb.size hb2.size) (fun b hb => by simp at hb; omega)
    have hye2 := egs_take_step (y := (κ, v, (B', b', s'), (C', c', t'))) hn_h.out hye_h.out rfl
    have hsz2 := Nat.le_trans hsz (Nat.le_trans hb2.size hks.size)
    rw [← hp_h.out, ← hq_h.out] at hset hks hO2 hb3 hsz2
    clear hks hN his2 hlen d0 d1 d2 d3; have hset_h := lH hset; have hO2_h := lH hO2; have hfr2_h := lH hfr2; have hb3_h := lH hb3; have hye2_h := lH hye2; have hb2_h := lH hb2; have hsz2_h := lH hsz2; clear hset hO2 hfr2 hb3 hye2 hb2 hsz2
    go_wp2_with (fail)
    go_roundw
    case rel => exact ⟨k + 1, _, by omega, by go_num, by rw [List.length_append, hyl_h.out]; rfl, hye2_h.out, hset_h.out, by rw [eh_append]; exact hO2_h.out, hfr2_h.out, hb3_h.out, hsz2_h.out⟩
    case measure => simp [intOf]; omega
  · obtain rfl : k = m := by omega
    have hfin : Sl wr tEd 4 (some G) k k (ecs ys) := by rw [Nat.sub_self] at his; simpa using his
    have hye2 : ys.map egOf = l.map egOf := by rw [hye, List.take_of_length_le (by rw [← hm_h.out]; exact Nat.le_refl _)]
    have hff : FreshL w.heap.size (fpA (some G) ++ fpR (eh ys)) := fun x hx => by
     rcases List.mem_append.1 hx with hx | hx
     · simp at hx; omega
     · exact hfr x hx
    have hfin_h := lH hfin; have hye2_h := lH hye2; have hff_h := lH hff; have hO_h := lH hO; clear hfin hye2 hff hO; clear h his hye hyl hfr
    go_wp2_with (fail)
    go_ret
    exact ⟨some G, k, ys, rfl, hye2_h.out, hfin_h.out, hO_h.out, hff_h.out, hb⟩
set_option maxRecDepth 100000 in
set_option maxHeartbeats 2000000 in
theorem toGraph_law {v : Value} {g : Gr} {w : World} (h : RdGr w v g) (ok : OkG g) :
  Calls Tryd.prog 6 #[v] w fun e w' => ∃ v' fp, e = .returned v' ∧ OwGr w' v' g fp ∧ FreshL w.heap.size fp ∧ Below w.heap.size w w' := by
 obtain ⟨A, c, hs, ⟨B, b, s⟩, ⟨C, d, t⟩, rfl, e1, e2, e3, hE, hRa, hRb⟩ := h
 obtain ⟨z, es, s', t'⟩ := g
 have e1' : es = hs.map egOf := e1
 have e2' : s = s' := e2
 have e3' : t = t' := e3
 subst e1' e2' e3'
 obtain ⟨⟨ok1, ok2, ok3⟩, ok4, -⟩ := ok
 have ok1' : hs.length ≤ 1048576 := by have : (hs.map egOf).length ≤ 1048576 := ok1; simpa using this
 have ok2' : s.length ≤ 1048576 := ok2
 have ok3' : t.length ≤ 1048576 := ok3
 obtain ⟨n, hn⟩ : ∃ n, n = hs.length := ⟨_, rfl⟩
 obtain ⟨p, hp⟩ : ∃ p, p = s.length := ⟨_, rfl⟩
 obtain ⟨q, hq⟩ : ∃ q, q = t.length := ⟨_, rfl⟩
 have hC0 := fun (W : World) (hb : Below w.heap.size w W) => toEdgeS_any A c hs W (hE.below hb) ok1' (fun x hx => ok4 _ (List.mem_map_of_mem hx))
 have hC1 := fun (W : World) (hb : Below w.heap.size w W) => toIntS_any B b s W (RdI.below hRa hb) (by omega)
 have hC2 := fun (W : World) (hb : Below w.heap.size w W) => toIntS_any C d t W (RdI.below hRb hb) (by omega)
 simp only [← hn] at hC0
 simp only [← hp] at hC1
 simp only [← hq] at hC2
 show Calls Tryd.prog _ #[.agg #[.int .i64 z, .slice A hs.length c, .slice B s.length b, .slice C t.length d]] w fun e w' => ∃ v' fp, e = .returned v' ∧ OwGr w' v' (z, hs.map egOf, s, t) fp ∧ FreshL w.heap.size fp ∧ Below w.heap.size w w'
 rw [← hn, ← hp, ← hq]
 obtain ⟨W, hW, bW, k0, k1, k2⟩ := allocs3 w (.cells #[.int .i64 z, .slice A n c, .slice B p b, .slice C q d] 25) (.cells #[.int .i64 0, .slice none 0 0, .slice none 0 0, .slice none 0 0] tGr) (.cells #[.int .i64 0, .slice none 0 0, .slice none 0 0, .slice none 0 0] tGr)
 obtain ⟨W1, hW1⟩ : ∃ W1, W1 = W.setCell ⟨w.heap.size + 1 + 1, 0, none⟩ (.int .i64 z) := ⟨_, rfl⟩
 obtain ⟨j2, s1⟩ := box_set k2 0 (.int .i64 z)
 rw [← hW1] at j2 s1
 have j2' : W1.heap[w.heap.size + 1 + 1]? = some (.cells #[.int .i64 z, .slice none 0 0, .slice none 0 0, .slice none 0 0] tGr) := j2
 have j0 := t_box_keeps k0 s1 (by omega)
 have j1 := t_box_keeps k1 s1 (by omega)
 have bW1 := below_keeps bW s1 bW.size (fun x hx => by omega)
 have hz1 := t_box_lt j2'
 obtain ⟨⟨c0, c1, c2, c3⟩, f0, f1, f2, f3⟩ := t_box4 k0
 obtain ⟨⟨d0, d1, d2, d3⟩, g0, g1, g2, g3⟩ := t_box4 k2
 clear hE hRa hRb j2 bW e1 e2 e3 ok1 ok2 ok3 ok4; have hC0_h := lH hC0; have hC1_h := lH hC1; have hC2_h := lH hC2; have hn_h := lH hn; have hp_h := lH hp; have hq_h := lH hq; have k0_h := lH k0; have k1_h := lH k1; have k2_h := lH k2; have j0_h := lH j0; have j1_h := lH j1; have j2'_h := lH j2'; have bW1_h := lH bW1; have s1_h := lH s1; clear hC0 hC1 hC2 hn hp hq k0 k1 k2 j0 j1 j2' bW1 s1
 go_enter Tryd.func6, Tryd.ntmps6
 go_upto_region 2 with (fail)
 rw [← hW]
 clear hW
 go_upto_region 3 with (fail)
 rw [← hW1]
 clear hW1 c0 c1 c2 c3 f0 f1 f2 f3 d0 d1 d2 d3 g0 g1 g2 g3
 obtain ⟨⟨c0, c1, c2, c3⟩, f0, f1, f2, f3⟩ := t_box4 j0_h.out
 go_wp2_with (fail)
 refine (hC0_h.out W1 bW1_h.out).mono ?_
 rintro e w3 ⟨A3, q3, ys, rfl, hye, hsl3, hO3, hf3, hb3⟩
 have k0' := t_box_below j0_h.out hb3
 have k1' := t_box_below j1_h.out hb3
 have k2' := t_box_below j2'_h.out hb3
 obtain ⟨W4, hW4⟩ : ∃ W4, W4 = w3.setCell ⟨w.heap.size + 1 + 1, 1, none⟩ (.slice A3 n q3) := ⟨_, rfl⟩
 obtain ⟨l2, s3⟩ := box_set k2' 1 (.slice A3 n q3)
 rw [← hW4] at l2 s3
 have l2' : W4.heap[w.heap.size + 1 + 1]? = some (.cells #[.int .i64 z, .slice A3 n q3, .slice none 0 0, .slice none 0 0] tGr) := l2
 have l0 := t_box_keeps k0' s3 (by omega)
 have l1 := t_box_keeps k1' s3 (by omega)
 have hz4 : W1.heap.size ≤ W4.heap.size := Nat.le_trans hb3.size s3.size
 have hsl4 := hsl3.keeps s3 (fun x hx e => by have := hf3 x (List.mem_append_left _ hx); omega)
 have hO4 := hO3.keeps s3 (fun x hx e => by have := hf3 x (List.mem_append_right _ hx); omega)
 have bW4 := below_keeps (below_trans bW1_h.out hb3 bW1_h.out.size) s3 (Nat.le_trans bW1_h.out.size hb3.size) (fun x hx => by omega)
 have hylen : ys.length = n := by have := congrArg List.length hye; rw [List.length_map, List.length_map, ← hn_h.out] at this; exact this
 clear c0 c1 c2 c3 f0 f1 f2 f3 l2 hb3 s3 k0' hsl3 hO3
 obtain ⟨⟨d0, d1, d2, d3⟩, g0, g1, g2, g3⟩ := t_box4 k2'
 have k1'_h := lH k1'; have k2'_h := lH k2'; have l0_h := lH l0; have l1_h := lH l1; have l2'_h := lH l2'; have hsl4_h := lH hsl4; have hO4_h := lH hO4; have bW4_h := lH bW4; have hf3_h := lH hf3; have hye_h := lH hye; have hylen_h := lH hylen; clear k1' k2' l0 l1 l2' hsl4 hO4 bW4 hf3 hye hylen
 go_upto_region 4 with (fail)
 rw [← hW4]
 clear hW4 d0 d1 d2 d3 g0 g1 g2 g3
 obtain ⟨⟨c0, c1, c2, c3⟩, f0, f1, f2, f3⟩ := t_box4 l0_h.out
 go_wp2_with (fail)
 refine (hC1_h.out W4 bW4_h.out).mono ?_
 rintro e w5 ⟨A5, q5, rfl, hi5, hf5, hb5⟩
 rw [← hp_h.out]
 have m0 := t_box_below l0_h.out hb5
 have m1 := t_box_below l1_h.out hb5
 have m2 := t_box_below l2'_h.out hb5
 obtain ⟨W6, hW6⟩ : ∃ W6, W6 = w5.setCell ⟨w.heap.size + 1 + 1, 2, none⟩ (.slice A5 p q5) := ⟨_, rfl⟩
 obtain ⟨n2, s5⟩ := box_set m2 2 (.slice A5 p q5)
 rw [← hW6] at n2 s5
 have n2' : W6.heap[w.heap.size + 1 + 1]? = some (.cells #[.int .i64 z, .slice A3 n q3, .slice A5 p q5, .slice none 0 0] tGr) := n2
 have n0 := t_box_keeps m0 s5 (by omega)
 have n1 := t_box_keeps m1 s5 (by omega)
 have hz6 : W4.heap.size ≤ W6.heap.size := Nat.le_trans hb5.size s5.size
 have hsl6 := (hsl4_h.out.below hb5).keeps s5 (fun x hx e => by have := hf3_h.out x (List.mem_append_left _ hx); omega)
 have hO5 := (hO4_h.out.cons hb5 (x := (A5, q5, s)) hi5 hf5 (fun x hx => hsl4_h.out.lt x hx))
 have hff5 : FreshL W1.heap.size (fpA A3 ++ fpR (((A5, q5, s) : Hd) :: eh ys)) := fun x hx => by
  rw [fpR_cons] at hx
  rcases List.mem_append.1 hx with hx | hx
  · exact hf3_h.out x (List.mem_append_left _ hx)
  · rcases List.mem_append.1 hx with hx | hx
    · have := hf5 x hx; omega
    · exact hf3_h.out x (List.mem_append_right _ hx)
 have hO6 := hO5.keeps s5 (fun x hx e => by have := hff5 x (List.mem_append_right _ hx); omega)
 have bW6 := below_keeps (below_trans bW4_h.out hb5 bW4_h.out.size) s5 (Nat.le_trans bW4_h.out.size hb5.size) (fun x hx => by omega)
 clear c0 c1 c2 c3 f0 f1 f2 f3 n2 hb5 s5 m0 m1 hi5 hf5 hO5
 obtain ⟨⟨d0, d1, d2, d3⟩, g0, g1, g2, g3⟩ := t_box4 m2
 have m2_h := lH m2; have n0_h := lH n0; have n1_h := lH n1; have n2'_h := lH n2'; have hsl6_h := lH hsl6; have hO6_h := lH hO6; have bW6_h := lH bW6; have hff5_h := lH hff5; clear m2 n0 n1 n2' hsl6 hO6 bW6 hff5
 go_upto_region 5 with (fail)
 rw [← hW6]
 clear hW6 d0 d1 d2 d3 g0 g1 g2 g3
 obtain ⟨⟨c0, c1, c2, c3⟩, f0, f1, f2, f3⟩ := t_box4 n0_h.out
 go_wp2_with (fail)
 refine (hC2_h.out W6 bW6_h.out).mono ?_
 rintro e w7 ⟨A7, q7, rfl, hi7, hf7, hb7⟩
 rw [← hq_h.out]
 have o1 := t_box_below n1_h.out hb7
 have o2 := t_box_below n2'_h.out hb7
 obtain ⟨W8, hW8⟩ : ∃ W8, W8 = w7.setCell ⟨w.heap.size + 1 + 1, 3, none⟩ (.slice A7 q q7) := ⟨_, rfl⟩
 obtain ⟨r2, s7⟩ := box_set o2 3 (.slice A7 q q7)
 rw [← hW8] at r2 s7
 have r2' : W8.heap[w.heap.size + 1 + 1]? = some (.cells #[.int .i64 z, .slice A3 n q3, .slice A5 p q5, .slice A7 q q7] tGr) := r2
 have r1 := t_box_keeps o1 s7 (by omega)
 have hsl8 := (hsl6_h.out.below hb7).keeps s7 (fun x hx e => by have := hf3_h.out x (List.mem_append_left _ hx); omega)
 have hO7 := (hO6_h.out.cons hb7 (x := (A7, q7, t)) hi7 hf7 (fun x hx => hsl6_h.out.lt x hx)).perm (ms := (A5, q5, s) :: (A7, q7, t) :: eh ys) (.swap _ _ _)
 have hff7 : FreshL W1.heap.size (fpA A3 ++ fpR (((A5, q5, s) : Hd) :: (A7, q7, t) :: eh ys)) := fun x hx => by
  rw [fpR_cons, fpR_cons] at hx
  rcases List.mem_append.1 hx with hx | hx
  · exact hff5_h.out x (List.mem_append_left _ hx)
  · rcases List.mem_append.1 hx with hx | hx
    · exact hff5_h.out x (List.mem_append_right _ (by rw [fpR_cons]; exact List.mem_append_left _ hx))
    · rcases List.mem_append.1 hx with hx | hx
      · have := hf7 x hx; omega
      · exact hff5_h.out x (List.mem_append_right _ (by rw [fpR_cons]; exact List.mem_append_right _ hx))
 have hO8 := hO7.keeps s7 (fun x hx e => by have := hff7 x (List.mem_append_right _ hx); omega)
 have bW8 := below_keeps (below_trans bW6_h.out hb7 bW6_h.out.size) s7 (Nat.le_trans bW6_h.out.size hb7.size) (fun x hx => by omega)
 obtain ⟨t1, t2⟩ := set4 (a := .int .i64 z) (b := .slice A3 n q3) (c := .slice A5 p q5) (d := .slice A7 q q7) r1
 have hsl9 := hsl8.keeps t2 (fun x hx e => by have := hff7 x (List.mem_append_left _ hx); omega)
 have hO9 := hO8.keeps t2 (fun x hx e => by have := hff7 x (List.mem_append_right _ hx); omega)
 have bW9 := below_keeps bW8 t2 bW8.size (fun x hx => by omega)
 have hffw := hff7.mono bW1_h.out.size
 clear c0 c1 c2 c3 f0 f1 f2 f3 r2 hb7 s7 o1 hi7 hf7 hO7 hO8 hsl8 bW8 t2 hff7
 obtain ⟨⟨d0, d1, d2, d3⟩, g0, g1, g2, g3⟩ := t_box4 o2
 have o2_h := lH o2; have r1_h := lH r1; have r2'_h := lH r2'; have hsl9_h := lH hsl9; have hO9_h := lH hO9; have bW9_h := lH bW9; have hffw_h := lH hffw; have t1_h := lH t1; clear o2 r1 r2' hsl9 hO9 bW9 hffw t1
 go_upto_region 6 with (fail)
 rw [← hW8]
 clear hW8 d0 d1 d2 d3 g0 g1 g2 g3
 obtain ⟨⟨d0, d1, d2, d3⟩, g0, g1, g2, g3⟩ := t_box4 r2'_h.out
 obtain ⟨⟨c0, c1, c2, c3⟩, f0, f1, f2, f3⟩ := t_box4 r1_h.out
 go_wp2_with (fail)
 refine bodyPost_ret (results_cell_row rfl _ _ (w.heap.size + 1) _ _ (0, 0) _ rfl t1_h.out Tryd.underlying34 rfl (by kernel_rfl)) rfl ?_
 refine ⟨_, fpA A3 ++ fpR (((A5, q5, s) : Hd) :: (A7, q7, t) :: eh ys), rfl, ⟨A3, q3, ys, (A5, q5, s), (A7, q7, t), ?_, hye_h.out.symm, rfl, rfl, ?_, hO9_h.out, rfl⟩, hffw_h.out, bW9_h.out⟩
 · rw [hylen_h.out, hp_h.out, hq_h.out]
 · rw [hylen_h.out]; exact hsl9_h.out
theorem Qt.below {w w' : World} (h : Qt w w') : Below w.heap.size w w' := by obtain ⟨n, rfl⟩ := h; exact below_drewN (Below.refl _ _) n
theorem box_qt {w w' : World} {B : Nat} {o : Obj} (h : w.heap[B]? = some o) (hq : Qt w w') : w'.heap[B]? = some o := t_box_below h hq.below
theorem allocs2 (w : World) (o o' : Obj) : ∃ W, W = (w.alloc o).alloc o' ∧ Below w.heap.size w W ∧ W.heap[w.heap.size]? = some o ∧ W.heap[w.heap.size + 1]? = some o' := by
 obtain ⟨h1, h2, h3, -⟩ := two_boxes w o o'
 exact ⟨_, rfl, h1, h2, h3⟩
set_option maxRecDepth 100000 in
set_option maxHeartbeats 2000000 in
theorem eqEdge_any (k v : Int) (B C : Option Addr) (b c : Nat) (l m : List Int) (k' v' : Int) (B' C' : Option Addr) (b' c' : Nat) (l' m' : List Int) (w : World) (h1 : RdI w B l) (h2 : RdI w C m) (h1' : RdI w B' l') (h2' : RdI w C' m') (hl : l.length ≤ 1048576) (hm : m.length ≤ 1048576) :
  Calls Tryd.prog 43 #[.agg #[.int .i64 k, .int .i64 v, .slice B l.length b, .slice C m.length c], .agg #[.int .i64 k', .int .i64 v', .slice B' l'.length b', .slice C' m'.length c']] w fun e w' => e = .returned (.bool (decide (((k, v, l, m) : Eg) = (k', v', l', m')))) ∧ Below w.heap.size w w' := by
 have hQ1 := fun (W : World) (hb : Below w.heap.size w W) => eqIntS_any B B' b b' l l' W (h1.below hb) (h1'.below hb) (by omega)
 have hQ2 := fun (W : World) (hb : Below w.heap.size w W) => eqIntS_any C C' c c' m m' W (h2.below hb) (h2'.below hb) (by omega)
 obtain ⟨D, hD⟩ : ∃ D, D = decide (((k, v, l, m) : Eg) = (k', v', l', m')) := ⟨_, rfl⟩
 obtain ⟨D1, hD1⟩ : ∃ D, D = decide (l = l') := ⟨_, rfl⟩
 obtain ⟨D2, hD2⟩ : ∃ D, D = decide (m = m') := ⟨_, rfl⟩
 rw [← hD]
 simp only [← hD1] at hQ1
 simp only [← hD2] at hQ2
 have hDD : D = (decide (k = k') && (decide (v = v') && (D1 && D2))) := by
  rw [hD, hD1, hD2, Bool.eq_iff_iff]; simp
 obtain ⟨p, hp⟩ : ∃ p, p = l.length := ⟨_, rfl⟩
 obtain ⟨q, hq⟩ : ∃ q, q = m.length := ⟨_, rfl⟩
 obtain ⟨p', hp'⟩ : ∃ p, p = l'.length := ⟨_, rfl⟩
 obtain ⟨q', hq'⟩ : ∃ q, q = m'.length := ⟨_, rfl⟩
 simp only [← hp, ← hp'] at hQ1
 simp only [← hq, ← hq'] at hQ2
 rw [← hp, ← hq, ← hp', ← hq']
 obtain ⟨W, hW, bW, k0, k1⟩ := allocs2 w (.cells #[.int .i64 k, .int .i64 v, .slice B p b, .slice C q c] tEd) (.cells #[.int .i64 k', .int .i64 v', .slice B' p' b', .slice C' q' c'] tEd)
 obtain ⟨⟨c0, c1, c2, c3⟩, f0, f1, f2, f3⟩ := t_box4 k0
 obtain ⟨⟨d0, d1, d2, d3⟩, g0, g1, g2, g3⟩ := t_box4 k1
 clear h1 h2 h1' h2' hD hD1 hD2 hp hq hp' hq'
 by_cases e0 : k = k'
 · have t0 : (k != k') = false := by simp [e0]
   rw [decide_eq_true e0] at hDD
   by_cases e1 : v = v'
   · have t1 : (v != v') = false := by simp [e1]
     rw [decide_eq_true e1] at hDD
     cases D1
     · obtain rfl : D = false := by rw [hDD]; rfl
       clear e0 e1 hDD; have hQ1_h := lH hQ1; have hQ2_h := lH hQ2; have k0_h := lH k0; have k1_h := lH k1; have bW_h := lH bW; clear hQ1 hQ2 k0 k1 bW
       go_enter Tryd.func43, Tryd.ntmps43
       go_upto_region 1 with (fail)
       rw [← hW]
       clear hW
       go_wp2_with (fail)
       refine (hQ1_h.out W bW_h.out).mono ?_
       rintro e w1 ⟨rfl, hq1⟩
       go_wp2_with (fail)
       go_ret
       exact ⟨rfl, below_trans bW_h.out hq1.below bW_h.out.size⟩
     · obtain rfl : D = D2 := by rw [hDD]; rfl
       clear e0 e1 hDD; have hQ1_h := lH hQ1; have hQ2_h := lH hQ2; have k0_h := lH k0; have k1_h := lH k1; have bW_h := lH bW; clear hQ1 hQ2 k0 k1 bW
       go_enter Tryd.func43, Tryd.ntmps43
       go_upto_region 1 with (fail)
       rw [← hW]
       clear hW
       go_wp2_with (fail)
       refine (hQ1_h.out W bW_h.out).mono ?_
       rintro e w1 ⟨rfl, hq1⟩
       clear c0 c1 c2 c3 f0 f1 f2 f3 d0 d1 d2 d3 g0 g1 g2 g3
       obtain ⟨⟨c0, c1, c2, c3⟩, f0, f1, f2, f3⟩ := t_box4 (box_qt k0_h.out hq1)
       obtain ⟨⟨d0, d1, d2, d3⟩, g0, g1, g2, g3⟩ := t_box4 (box_qt k1_h.out hq1)
       have hB1 := below_trans bW_h.out hq1.below bW_h.out.size
       clear hq1; have hB1_h := lH hB1; clear hB1
       go_wp2_with (fail)
       refine (hQ2_h.out w1 hB1_h.out).mono ?_
       rintro e w2 ⟨rfl, hq2⟩
       have hB2 := below_trans hB1_h.out hq2.below hB1_h.out.size
       clear hq2; have hB2_h := lH hB2; clear hB2
       cases D
       · go_wp2_with (fail)
         go_ret
         exact ⟨rfl, hB2_h.out⟩
       · go_wp2_with (fail)
         go_ret
         exact ⟨rfl, hB2_h.out⟩
   · have t1 : (v != v') = true := by simp [e1]
     obtain rfl : D = false := by rw [hDD, decide_eq_false e1]; rfl
     clear e0 e1 hDD; have hQ1_h := lH hQ1; have hQ2_h := lH hQ2; have k0_h := lH k0; have k1_h := lH k1; have bW_h := lH bW; clear hQ1 hQ2 k0 k1 bW
     go_enter Tryd.func43, Tryd.ntmps43
     go_upto_region 1 with (fail)
     rw [← hW]
     clear hW
     go_wp2_with (fail)
     go_ret
     exact ⟨rfl, bW_h.out⟩
 · have t0 : (k != k') = true := by simp [e0]
   obtain rfl : D = false := by rw [hDD, decide_eq_false e0]; rfl
   clear e0 hDD; have hQ1_h := lH hQ1; have hQ2_h := lH hQ2; have k0_h := lH k0; have k1_h := lH k1; have bW_h := lH bW; clear hQ1 hQ2 k0 k1 bW
   go_enter Tryd.func43, Tryd.ntmps43
   go_upto_region 1 with (fail)
   rw [← hW]
   clear hW
   go_wp2_with (fail)
   go_ret
   exact ⟨rfl, bW_h.out⟩
set_option maxRecDepth 100000 in
set_option maxHeartbeats 2000000 in
theorem eqEdgeS_any (A B : Option Addr) (c d : Nat) (l l' : List EHd) (w : World) (ha : RdE w A l) (hb : RdE w B l') (hl : l.length ≤ 1048576) (hr : ∀ x, x ∈ l → x.2.2.1.2.2.length ≤ 1048576 ∧ x.2.2.2.2.2.length ≤ 1048576) :
  Calls Tryd.prog 22 #[.slice A l.length c, .slice B l'.length d] w fun e w' => e = .returned (.bool (decide (l.map egOf = l'.map egOf))) ∧ Below w.heap.size w w' := by
 obtain ⟨m, hm⟩ : ∃ m, m = l.length := ⟨_, rfl⟩
 obtain ⟨n, hn⟩ : ∃ n, n = l'.length := ⟨_, rfl⟩
 rw [← hm] at hl ⊢
 rw [← hn]
 by_cases hmn : m = n
 · subst hmn
   have h0 : ((m : Int) != (m : Int)) = false := by simp
   have hm_h := lH hm; have hn_h := lH hn; have hr_h := lH hr; clear hm hn hr
   go_enter Tryd.func22, Tryd.ntmps22
   go_wp2_with (fail)
   go_loopw [5] (fun i wr => ∃ k : Nat, k ≤ m ∧ i = .int .i64 k ∧ (l.take k).map egOf = (l'.take k).map egOf ∧ Below w.heap.size w wr) (fun i _ => m - (intOf i).toNat)
   case atStart => exact ⟨0, Nat.zero_le _, rfl, rfl, Below.refl _ _⟩
   case round =>
    obtain ⟨k, hk, rfl, htk, hbl⟩ := hrel
    by_cases hlt : k < m
    · have hkI : (k : Int) < (m : Int) := by omega
      have hk0 : (0 : Int) ≤ (k : Int) := by omega
      obtain ⟨ad, κ, v, B1, b1, s, C1, c1, t, rfl, hn1, -, hr1, hr2⟩ := (ha.below hbl).at_ (j := k) (by rw [← hm_h.out]; exact hlt)
      obtain ⟨bd, κ', v', B2, b2, s', C2, c2, t', rfl, hn2, -, hr3, hr4⟩ := (hb.below hbl).at_ (j := k) (by rw [← hn_h.out]; exact hlt)
      have hAB : ∀ W', Below wr.heap.size wr W' → (W'.cell? (ad.add (k * 4)) = some (.int .i64 κ) ∧ W'.cell? ⟨(ad.add (k * 4)).block, (ad.add (k * 4)).off + 1, none⟩ = some (.int .i64 v) ∧ W'.cell? ⟨(ad.add (k * 4)).block, (ad.add (k * 4)).off + 2, none⟩ = some (.slice B1 s.length b1) ∧ W'.cell? ⟨(ad.add (k * 4)).block, (ad.add (k * 4)).off + 3, none⟩ = some (.slice C1 t.length c1)) ∧ (W'.cell? (bd.add (k * 4)) = some (.int .i64 κ') ∧ W'.cell? ⟨(bd.add (k * 4)).block, (bd.add (k * 4)).off + 1, none⟩ = some (.int .i64 v') ∧ W'.cell? ⟨(bd.add (k * 4)).block, (bd.add (k * 4)).off + 2, none⟩ = some (.slice B2 s'.length b2) ∧ W'.cell? ⟨(bd.add (k * 4)).block, (bd.add (k * 4)).off + 3, none⟩ = some (.slice C2 t'.length c2)) := by
       intro W' hW'
       obtain ⟨x1, _, _, _, _, _, _, _, _, e1, e2, q, -, -⟩ := ((ha.below hbl).below hW').at_ (j := k) (by rw [← hm_h.out]; exact hlt)
       obtain ⟨y1, _, _, _, _, _, _, _, _, f1, f2, r, -, -⟩ := ((hb.below hbl).below hW').at_ (j := k) (by rw [← hn_h.out]; exact hlt)
       rw [hn1] at e2
       rw [hn2] at f2
       cases e1; cases e2; cases f1; cases f2
       exact ⟨q, r⟩
      have hrr := hr_h.out _ (List.mem_of_getElem? hn1)
      have hC := fun (W : World) (hW : Below wr.heap.size wr W) => eqEdge_any κ v B1 C1 b1 c1 s t κ' v' B2 C2 b2 c2 s' t' W (hr1.below hW) (hr2.below hW) (hr3.below hW) (hr4.below hW) hrr.1 hrr.2
      obtain ⟨D, hD⟩ : ∃ D, D = decide (((κ, v, s, t) : Eg) = (κ', v', s', t')) := ⟨_, rfl⟩
      simp only [← hD] at hC
      obtain ⟨p, hp⟩ : ∃ p, p = s.length := ⟨_, rfl⟩
      obtain ⟨q, hq⟩ : ∃ q, q = t.length := ⟨_, rfl⟩
      obtain ⟨p', hp'⟩ : ∃ p, p = s'.length := ⟨_, rfl⟩
      obtain ⟨q', hq'⟩ : ∃ q, q = t'.length := ⟨_, rfl⟩
      simp only [← hp, ← hp', ← hq, ← hq'] at hC hAB
      have htk_h := lH htk; have hn1_h := lH hn1; have hn2_h := lH hn2; have hAB_h := lH hAB; have hC_h := lH hC; have hD_h := lH hD; have hp_h := lH hp; have hq_h := lH hq; have hp'_h := lH hp'; have hq'_h := lH hq'; clear htk hn1 hn2 hAB hC hD hp hq hp' hq'; clear ha hb hr1 hr2 hr3 hr4 hrr
      go_wp2_with (fail)
      refine beginB (by kernel_rfl) (fun W1 hW1 => ?_)
      have hbw : Below wr.heap.size wr W1 := by rw [hW1]; exact below_drew (Below.refl _ _)
      clear hW1
      refine tkH 0 ?_ rfl (Below.refl _ _) (fun W' hW' => ?_) ?_; rotate_left; · (obtain ⟨⟨a0, a1, a2, a3⟩, b0, b1, b2, b3⟩ := hAB_h.out W' (hbw.trans (hW'.mono hbw.size)); clear hW'; go_simp; first | done | with_reducible rfl)
      simp only [Act.put, nS]
      refine tkH 1 ?_ rfl (Below.refl _ _) (fun W' hW' => ?_) ?_; rotate_left; · (obtain ⟨⟨a0, a1, a2, a3⟩, b0, b1, b2, b3⟩ := hAB_h.out W' (hbw.trans (hW'.mono hbw.size)); clear hW'; go_simp; first | done | with_reducible rfl)
      simp only [Act.put, nS]
      refine tkH 2 ?_ rfl (Below.refl _ _) (fun W' hW' => ?_) ?_; rotate_left; · (obtain ⟨⟨a0, a1, a2, a3⟩, b0, b1, b2, b3⟩ := hAB_h.out W' (hbw.trans (hW'.mono hbw.size)); clear hW'; go_simp; first | done | with_reducible rfl)
      simp only [Act.put, nS]
      refine tkH 3 ?_ rfl (Below.refl _ _) (fun W' hW' => ?_) ?_; rotate_left; · (obtain ⟨⟨a0, a1, a2, a3⟩, b0, b1, b2, b3⟩ := hAB_h.out W' (hbw.trans (hW'.mono hbw.size)); clear hW'; go_simp; first | done | with_reducible rfl)
      simp only [Act.put, nS]
      refine tkH 4 ?_ rfl (Below.refl _ _) (fun W' hW' => ?_) ?_; rotate_left; · (obtain ⟨⟨a0, a1, a2, a3⟩, b0, b1, b2, b3⟩ := hAB_h.out W' (hbw.trans (hW'.mono hbw.size)); clear hW'; go_simp; first | done | with_reducible rfl)
      simp only [Act.put, nS]
      refine tkH 5 ?_ rfl (Below.refl _ _) (fun W' hW' => ?_) ?_; rotate_left; · (obtain ⟨⟨a0, a1, a2, a3⟩, b0, b1, b2, b3⟩ := hAB_h.out W' (hbw.trans (hW'.mono hbw.size)); clear hW'; go_simp; first | done | with_reducible rfl)
      simp only [Act.put, nS]
      refine tkH 6 ?_ rfl (Below.refl _ _) (fun W' hW' => ?_) ?_; rotate_left; · (obtain ⟨⟨a0, a1, a2, a3⟩, b0, b1, b2, b3⟩ := hAB_h.out W' (hbw.trans (hW'.mono hbw.size)); clear hW'; go_simp; first | done | with_reducible rfl)
      simp only [Act.put, nS]
      refine tkH 7 ?_ rfl (Below.refl _ _) (fun W' hW' => ?_) ?_; rotate_left; · (obtain ⟨⟨a0, a1, a2, a3⟩, b0, b1, b2, b3⟩ := hAB_h.out W' (hbw.trans (hW'.mono hbw.size)); clear hW'; go_simp; first | done | with_reducible rfl)
      simp only [Act.put, nS]
      refine' callH 8 (f := _) (args := _) rfl (by kernel_rfl) (by rfl) ?_ ?_; rotate_left 2; · (go_simp; first | done | with_reducible rfl | (constructor <;> with_reducible rfl))
      refine (hC_h.out W1 hbw).mono ?_
      rintro e w2 ⟨rfl, hb2⟩
      refine ⟨_, rfl, hb2, ?_⟩
      have hb3 := below_trans (below_trans hbl hbw hbl.size) hb2 (Nat.le_trans hbl.size hbw.size)
      have hb3_h := lH hb3; clear hb3
      simp only [Act.put, nS]
      refine tkH 9 ?_ rfl hb2 (fun W' hW' => ?_) ?_; rotate_left; · (skip; clear hW'; go_simp; first | done | with_reducible rfl)
      simp only [Act.put, nS]
      refine doneH (by kernel_rfl) ?_
      cases D
      · go_wp2_with (fail)
        go_ret
        refine ⟨ret_bool ?_, hb3_h.out⟩
        symm
        apply decide_eq_false
        intro h
        have h1 := congrArg (·[k]?) h
        simp only [List.getElem?_map, hn1_h.out, hn2_h.out, Option.map_some, Option.some.injEq] at h1
        exact of_decide_eq_false hD_h.out.symm h1
      · go_wp2_with (fail)
        go_roundw
        case rel => exact ⟨k + 1, by omega, by go_num, by rw [List.take_add_one, List.take_add_one, List.map_append, List.map_append, htk_h.out, hn1_h.out, hn2_h.out]; simp only [Option.toList_some, List.map_cons, List.map_nil]; rw [show egOf (κ, v, (B1, b1, s), (C1, c1, t)) = egOf (κ', v', (B2, b2, s'), (C2, c2, t')) from of_decide_eq_true hD_h.out.symm], hb3_h.out⟩
        case measure => simp [intOf]; omega
    · obtain rfl : k = m := by omega
      have htk_h := lH htk; clear htk; clear ha hb
      go_wp2_with (fail)
      go_ret
      refine ⟨ret_bool ?_, hbl⟩
      symm
      apply decide_eq_true
      have := htk_h.out
      rwa [List.take_of_length_le (by rw [← hm_h.out]; exact Nat.le_refl _), List.take_of_length_le (by rw [← hn_h.out]; exact Nat.le_refl _)] at this
 · have h0 : ((m : Int) != (n : Int)) = true := by simp; omega
   have hm_h := lH hm; have hn_h := lH hn; have hmn_h := lH hmn; clear hm hn hmn
   go_enter Tryd.func22, Tryd.ntmps22
   go_wp2_with (fail)
   go_ret
   refine ⟨ret_bool ?_, Below.refl _ _⟩
   symm
   apply decide_eq_false
   intro h
   have := congrArg List.length h
   rw [List.length_map, List.length_map, ← hm_h.out, ← hn_h.out] at this
   exact hmn_h.out this
theorem ret_two {a b c d : Int} (h : (a, b) = (c, d)) : Ending.returned (.tuple #[.int .i64 a, .int .i64 b]) = .returned (.tuple #[.int .i64 c, .int .i64 d]) := by
 rw [(Prod.mk.inj h).1, (Prod.mk.inj h).2]
set_option maxHeartbeats 1000000 in
theorem tmKind_any (k : Int) (w : World) :
  Calls Tryd.prog 63 #[.int .i64 k] w fun e w' => e = .returned (.tuple #[.int .i64 (kindTy k).1, .int .i64 (kindTy k).2]) ∧ w' = w := by
 go_enter Tryd.func63, Tryd.ntmps63
 go_wp2
 all_goals go_ret2
 all_goals (refine ⟨ret_two ?_, rfl⟩; simp_all [kindTy])
theorem leafB_of {k v : Int} {s : ByteArray} {b : Bool} (h : b = true ↔ (s = noName ∧ ((k = 1 ∧ 0 ≤ v ∧ v ≤ 12) ∨ ((k = 7 ∨ k = 13) ∧ 0 ≤ v ∧ v ≤ 96) ∨ (2 ≤ k ∧ k ≤ 14 ∧ k ≠ 7 ∧ k ≠ 13 ∧ v = 0)))) : b = leafB (k, v, s) := by
 rw [Bool.eq_iff_iff, h]; simp [leafB]
set_option maxHeartbeats 2000000 in
theorem tmLeaf_any (k v : Int) (s : ByteArray) (w : World) :
  Calls Tryd.prog 62 #[.agg #[.int .i64 k, .int .i64 v, .string s]] w fun e w' => ∃ b, e = .returned (.bool b) ∧ b = leafB (k, v, s) ∧ Below w.heap.size w w' := by
 by_cases hs : s = noName
 · subst hs
   have he : (!noName.toList.isEmpty) = false := by rw [ByteArray.toList_eq]; rfl
   have he2 : noName.toList = [] := by rw [ByteArray.toList_eq]; rfl
   go_enter Tryd.func62, Tryd.ntmps62
   go_wp2_with (fail)
   refine (t_l1In_any _ _ _ _).mono ?_
   rintro e w' ⟨rfl, rfl⟩
   cases h14 : t_inB k 1 14
   · have H14 := lH h14
     clear h14
     go_wp2_with (fail)
     go_ret
     refine ⟨_, rfl, leafB_of ?_, t_below_alloc _ _⟩
     have : ¬ (1 ≤ k ∧ k ≤ 14) := by simpa [t_inB] using H14.out
     simp
     omega
   · have H14 := lH h14
     clear h14
     by_cases h1 : k = 1
     · have hb : (k == 1) = true := by simp [h1]
       have h1_h := lH h1; clear h1
       go_wp2_with (fail)
       refine (t_l1In_any _ _ _ _).mono ?_
       rintro e w' ⟨rfl, rfl⟩
       go_wp2_with (fail)
       go_ret
       refine ⟨_, rfl, leafB_of ?_, t_below_alloc _ _⟩
       have := h1_h.out
       simp [t_inB]
       omega
     · have hb : (k == 1) = false := by simp [h1]
       by_cases h7 : k = 7 ∨ k = 13
       · have h3 : 1 ≤ k ∧ k ≤ 14 := by omega
         by_cases h77 : k = 7
         · have hb7 : (k == 7) = true := by simp [h77]
           have h1_h := lH h1; have h7_h := lH h7; have h77_h := lH h77; clear h1 h7 h77
           go_wp2_with (fail)
           refine (t_l1In_any _ _ _ _).mono ?_
           rintro e w' ⟨rfl, rfl⟩
           go_wp2_with (fail)
           go_ret
           refine ⟨_, rfl, leafB_of ?_, t_below_alloc _ _⟩
           have := h77_h.out
           simp [t_inB]
           omega
         · have h13 : k = 13 := by omega
           have hb7 : (k == 7) = false := by simp [h77]
           have hb13 : (k == 13) = true := by simp [h13]
           have h1_h := lH h1; have h7_h := lH h7; have h77_h := lH h77; have h13_h := lH h13; clear h1 h7 h77 h13
           go_wp2_with (fail)
           refine (t_l1In_any _ _ _ _).mono ?_
           rintro e w' ⟨rfl, rfl⟩
           go_wp2_with (fail)
           go_ret
           refine ⟨_, rfl, leafB_of ?_, t_below_alloc _ _⟩
           have := h13_h.out
           simp [t_inB]
           omega
       · have hb7 : (k == 7) = false := by simp; omega
         have hb13 : (k == 13) = false := by simp; omega
         have h1_h := lH h1; have h7_h := lH h7; clear h1 h7
         go_wp2_with (fail)
         go_ret
         refine ⟨_, rfl, leafB_of ?_, t_below_alloc _ _⟩
         have h14 : 1 ≤ k ∧ k ≤ 14 := by simpa [t_inB] using H14.out
         have a1 := h1_h.out
         have a2 := h7_h.out
         simp
         omega
 · have he : (!s.toList.isEmpty) = true := by
    simp only [Bool.not_eq_true', List.isEmpty_eq_false_iff]
    exact fun h => hs (name_yes (by simp [h]))
   have hs_h := lH hs; clear hs
   go_enter Tryd.func62, Tryd.ntmps62
   go_wp2_with (fail)
   go_ret
   refine ⟨_, rfl, leafB_of ?_, t_below_alloc _ _⟩
   have := hs_h.out
   simp [this]
theorem gvB_iff (k v : Int) : gvB k v = true ↔ ((k = 7 ∨ k = 13) ∧ 0 ≤ v ∧ v ≤ 96) ∨ (k ≠ 7 ∧ k ≠ 13 ∧ v = 0) := by
 unfold gvB hvB t_inB
 by_cases h : k = 7 ∨ k = 13
 · rw [decide_eq_true h, if_pos rfl, decide_eq_true_eq]
   constructor
   · intro h3; exact .inl ⟨h, h3⟩
   · intro h3; omega
 · rw [decide_eq_false h, if_neg (by simp), decide_eq_true_eq]
   constructor
   · intro h3; exact .inr ⟨by omega, by omega, h3⟩
   · intro h3; omega
theorem leafB_gv {k v : Int} (h1 : 3 ≤ k) (h2 : k ≤ 14) : leafB (k, v, noName) = gvB k v := by
 rw [Bool.eq_iff_iff, gvB_iff]
 unfold leafB
 simp only [decide_eq_true_eq]
 constructor
 · rintro ⟨-, h3⟩; omega
 · intro h3; exact ⟨trivial, by omega⟩
set_option maxHeartbeats 1000000 in
theorem t_l1All_any (A : Option Addr) (c n : Nat) (l : List Int) (lo hi : Int) (w : World) (h : RdI w A l) (hn : l.length = n) (hnb : n ≤ 17592186044416) :
  Calls Tryd.prog 55 #[.slice A n c, .int .i64 lo, .int .i64 hi] w fun e w' => e = .returned (.bool (l.all fun x => t_inB x lo hi)) ∧ w' = w := by
 obtain ⟨D, hD⟩ : ∃ D, D = l.all fun x => t_inB x lo hi := ⟨_, rfl⟩
 rw [← hD]
 have hD_h := lH hD; have hn_h := lH hn; clear hD hn
 go_enter Tryd.func55, Tryd.ntmps55
 go_wp2_with (fail)
 go_loop [11] (fun i => ∃ k : Nat, k ≤ n ∧ i = .int .i64 k ∧ (l.take k).all (fun x => t_inB x lo hi) = true) (fun i => n - (intOf i).toNat)
 case atStart => exact ⟨0, Nat.zero_le _, rfl, by simp⟩
 case round =>
  obtain ⟨k, hk, rfl, hall⟩ := hrel
  by_cases hlt : k < n
  · obtain ⟨ad, x, rfl, hx, hc⟩ := h.at_ (j := k) (by rw [hn_h.out]; exact hlt)
    have hkI : (k : Int) < (n : Int) := by omega
    have hC := t_l1In_any x lo hi w
    cases hb : t_inB x lo hi
    · rw [hb] at hC
      have hf : D = false := by
       rw [hD_h.out, Bool.eq_false_iff]
       intro hh
       have := List.all_eq_true.1 hh x (List.mem_of_getElem? hx)
       rw [hb] at this; cases this
      subst hf
      have hC_h := lH hC; have hall_h := lH hall; have hx_h := lH hx; clear hC hall hx; clear h hb
      go_wp2_with (fail)
      refine (hC_h.out).mono ?_
      rintro e w1 ⟨rfl, rfl⟩
      go_wp2_with (fail)
      go_ret
      exact ⟨rfl, rfl⟩
    · rw [hb] at hC
      have hst : (l.take (k + 1)).all (fun x => t_inB x lo hi) = true := by
       rw [List.take_add_one, hx, List.all_append, hall]; simp [hb]
      have hC_h := lH hC; have hst_h := lH hst; clear hC hst; clear h hb hall hx
      go_wp2_with (fail)
      refine (hC_h.out).mono ?_
      rintro e w1 ⟨rfl, rfl⟩
      go_wp2_with (fail)
      go_round
      case rel => exact ⟨k + 1, by omega, by go_num, hst_h.out⟩
      case measure => simp [intOf]; omega
  · obtain rfl : n = k := by omega
    have ht : D = true := by rw [hD_h.out, ← hall, List.take_of_length_le (by rw [hn_h.out]; exact Nat.le_refl _)]
    subst ht
    have hall_h := lH hall; clear hall; clear h
    go_wp2_with (fail)
    go_ret
    exact ⟨rfl, rfl⟩
set_option maxRecDepth 100000 in
set_option maxHeartbeats 4000000 in
theorem hgEdge_any (k v : Int) (B C : Option Addr) (b c : Nat) (l m : List Int) (n : Int) (w : World) (hB : RdI w B l) (hC : RdI w C m) (hl : l.length ≤ 1048576) (hm : m.length ≤ 1048576) (n0 : -1000000 ≤ n) (n1 : n ≤ 1000000) :
  Calls Tryd.prog 56 #[.agg #[.int .i64 k, .int .i64 v, .slice B l.length b, .slice C m.length c], .int .i64 n] w fun e w' => e = .returned (.bool (hgB n (k, v, l, m))) ∧ Below w.heap.size w w' := by
 obtain ⟨p, hp⟩ : ∃ p, p = l.length := ⟨_, rfl⟩
 obtain ⟨q, hq⟩ : ∃ q, q = m.length := ⟨_, rfl⟩
 have hA1 := fun (W : World) (hb : Below w.heap.size w W) => t_l1All_any B b p l 0 (n - 1) W (hB.below hb) hp.symm (by omega)
 have hA2 := fun (W : World) (hb : Below w.heap.size w W) => t_l1All_any C c q m 0 (n - 1) W (hC.below hb) hq.symm (by omega)
 obtain ⟨D, hD⟩ : ∃ D, D = hgB n (k, v, l, m) := ⟨_, rfl⟩
 have hDD : D = ((t_inB k 3 14 && (gvB k v && decide (((p : Int), (q : Int)) = kindTy k))) && ((l.all fun x => t_inB x 0 (n - 1)) && (m.all fun x => t_inB x 0 (n - 1)))) := by rw [hD, hp, hq]; rfl
 rw [← hD, ← hp, ← hq]
 obtain ⟨D1, hD1⟩ : ∃ D, D = l.all fun x => t_inB x 0 (n - 1) := ⟨_, rfl⟩
 obtain ⟨D2, hD2⟩ : ∃ D, D = m.all fun x => t_inB x 0 (n - 1) := ⟨_, rfl⟩
 simp only [← hD1] at hA1 hDD
 simp only [← hD2] at hA2 hDD
 have hkd : decide (((p : Int), (q : Int)) = kindTy k) = (((p : Int) == (kindTy k).1) && ((q : Int) == (kindTy k).2)) := by
  rw [Bool.eq_iff_iff]
  simp only [decide_eq_true_eq, Bool.and_eq_true, beq_iff_eq]
  exact ⟨fun h => ⟨congrArg Prod.fst h, congrArg Prod.snd h⟩, fun h => Prod.ext h.1 h.2⟩
 rw [hkd] at hDD
 have hTL := fun (W : World) => tmLeaf_any k v noName W
 have hIn := fun (W : World) => t_l1In_any k 3 14 W
 have hTK := fun (W : World) => tmKind_any k W
 obtain ⟨i1, hi1⟩ : ∃ i, i = (kindTy k).1 := ⟨_, rfl⟩
 obtain ⟨i2, hi2⟩ : ∃ i, i = (kindTy k).2 := ⟨_, rfl⟩
 simp only [← hi1, ← hi2] at hTK hDD
 have wn : IntKind.i64.wrap (n - 1) = n - 1 := IntWalk.i64_in _ (by omega)
 obtain ⟨W, hW, bW, k0⟩ : ∃ W, W = w.alloc (.cells #[.int .i64 k, .int .i64 v, .slice B p b, .slice C q c] tEd) ∧ Below w.heap.size w W ∧ W.heap[w.heap.size]? = some (.cells #[.int .i64 k, .int .i64 v, .slice B p b, .slice C q c] tEd) := ⟨_, rfl, t_below_alloc _ _, heap_alloc_new _ _⟩
 obtain ⟨⟨c0, c1, c2, c3⟩, f0, f1, f2, f3⟩ := t_box4 k0
 clear hB hC hD hkd hD1 hD2 hi1 hi2
 by_cases h0 : t_inB k 3 14 = true
 case neg =>
  have h0' : t_inB k 3 14 = false := by simpa using h0
  obtain rfl : D = false := by rw [hDD, h0']; rfl
  simp only [h0'] at hIn
  clear h0 h0' hDD; have hA1_h := lH hA1; have hA2_h := lH hA2; have hTL_h := lH hTL; have hIn_h := lH hIn; have hTK_h := lH hTK; have k0_h := lH k0; have bW_h := lH bW; have hp_h := lH hp; have hq_h := lH hq; clear hA1 hA2 hTL hIn hTK k0 bW hp hq
  go_enter Tryd.func56, Tryd.ntmps56
  go_upto_region 1 with (fail)
  rw [← hW]
  clear hW
  go_wp2_with (fail)
  refine (hIn_h.out _).mono ?_
  rintro e w1 ⟨rfl, rfl⟩
  go_wp2_with (fail)
  go_ret
  exact ⟨rfl, bW_h.out⟩
 have hb14 : 3 ≤ k ∧ k ≤ 14 := of_decide_eq_true h0
 have hlf0 := leafB_gv (v := v) hb14.1 hb14.2
 simp only [h0] at hIn
 rw [h0, Bool.true_and] at hDD
 by_cases h1 : gvB k v = true
 case neg =>
  have h1' : gvB k v = false := by simpa using h1
  obtain rfl : D = false := by rw [hDD, h1']; rfl
  have hlf : leafB (k, v, noName) = false := by rw [hlf0, h1']
  clear h0 h1 h1' hDD hlf0 hb14; have hA1_h := lH hA1; have hA2_h := lH hA2; have hTL_h := lH hTL; have hIn_h := lH hIn; have hTK_h := lH hTK; have k0_h := lH k0; have bW_h := lH bW; have hp_h := lH hp; have hq_h := lH hq; clear hA1 hA2 hTL hIn hTK k0 bW hp hq
  go_enter Tryd.func56, Tryd.ntmps56
  go_upto_region 1 with (fail)
  rw [← hW]
  clear hW
  go_wp2_with (fail)
  refine (hIn_h.out _).mono ?_
  rintro e w1 ⟨rfl, rfl⟩
  go_wp2_with (fail)
  refine (hTL_h.out _).mono ?_
  rintro e w2 ⟨lb, rfl, hlb, hb2⟩
  rw [hlf] at hlb
  subst hlb
  clear c0 c1 c2 c3 f0 f1 f2 f3
  have k2 := t_box_below k0_h.out hb2
  obtain ⟨⟨c0, c1, c2, c3⟩, f0, f1, f2, f3⟩ := t_box4 k2
  have hB2 := below_trans bW_h.out hb2 bW_h.out.size
  clear hb2 k2; have hB2_h := lH hB2; clear hB2
  go_wp2_with (fail)
  go_ret
  exact ⟨rfl, hB2_h.out⟩
 have hlf : leafB (k, v, noName) = true := by rw [hlf0, h1]
 rw [h1, Bool.true_and] at hDD
 clear h0 h1 hlf0 hb14
 by_cases h2 : (p : Int) = i1
 case neg =>
  have h2' : ((p : Int) == i1) = false := by rw [beq_eq_false_iff_ne]; exact h2
  obtain rfl : D = false := by rw [hDD, h2']; rfl
  clear h2 hDD; have hA1_h := lH hA1; have hA2_h := lH hA2; have hTL_h := lH hTL; have hIn_h := lH hIn; have hTK_h := lH hTK; have k0_h := lH k0; have bW_h := lH bW; have hp_h := lH hp; have hq_h := lH hq; clear hA1 hA2 hTL hIn hTK k0 bW hp hq
  go_enter Tryd.func56, Tryd.ntmps56
  go_upto_region 1 with (fail)
  rw [← hW]
  clear hW
  go_wp2_with (fail)
  refine (hIn_h.out _).mono ?_
  rintro e w1 ⟨rfl, rfl⟩
  go_wp2_with (fail)
  refine (hTL_h.out _).mono ?_
  rintro e w2 ⟨lb, rfl, hlb, hb2⟩
  rw [hlf] at hlb
  subst hlb
  clear c0 c1 c2 c3 f0 f1 f2 f3
  have k2 := t_box_below k0_h.out hb2
  obtain ⟨⟨c0, c1, c2, c3⟩, f0, f1, f2, f3⟩ := t_box4 k2
  have hB2 := below_trans bW_h.out hb2 bW_h.out.size
  clear hb2 k2; have hB2_h := lH hB2; clear hB2
  go_wp2_with (fail)
  refine (hTK_h.out _).mono ?_
  rintro e w3 ⟨rfl, rfl⟩
  go_wp2_with (fail)
  go_ret
  exact ⟨rfl, hB2_h.out⟩
 have h2' : ((p : Int) == i1) = true := by rw [beq_iff_eq]; exact h2
 rw [h2', Bool.true_and] at hDD
 clear h2
 by_cases h3 : (q : Int) = i2
 case neg =>
  have h3' : ((q : Int) == i2) = false := by rw [beq_eq_false_iff_ne]; exact h3
  obtain rfl : D = false := by rw [hDD, h3']; rfl
  clear h3 hDD; have hA1_h := lH hA1; have hA2_h := lH hA2; have hTL_h := lH hTL; have hIn_h := lH hIn; have hTK_h := lH hTK; have k0_h := lH k0; have bW_h := lH bW; have hp_h := lH hp; have hq_h := lH hq; clear hA1 hA2 hTL hIn hTK k0 bW hp hq
  go_enter Tryd.func56, Tryd.ntmps56
  go_upto_region 1 with (fail)
  rw [← hW]
  clear hW
  go_wp2_with (fail)
  refine (hIn_h.out _).mono ?_
  rintro e w1 ⟨rfl, rfl⟩
  go_wp2_with (fail)
  refine (hTL_h.out _).mono ?_
  rintro e w2 ⟨lb, rfl, hlb, hb2⟩
  rw [hlf] at hlb
  subst hlb
  clear c0 c1 c2 c3 f0 f1 f2 f3
  have k2 := t_box_below k0_h.out hb2
  obtain ⟨⟨c0, c1, c2, c3⟩, f0, f1, f2, f3⟩ := t_box4 k2
  have hB2 := below_trans bW_h.out hb2 bW_h.out.size
  clear hb2 k2; have hB2_h := lH hB2; clear hB2
  go_wp2_with (fail)
  refine (hTK_h.out _).mono ?_
  rintro e w3 ⟨rfl, rfl⟩
  go_wp2_with (fail)
  go_ret
  exact ⟨rfl, hB2_h.out⟩
 have h3' : ((q : Int) == i2) = true := by rw [beq_iff_eq]; exact h3
 rw [h3', Bool.true_and] at hDD
 clear h3
 cases D1
 case false =>
  obtain rfl : D = false := by rw [hDD]; rfl
  clear hDD; have hA1_h := lH hA1; have hA2_h := lH hA2; have hTL_h := lH hTL; have hIn_h := lH hIn; have hTK_h := lH hTK; have k0_h := lH k0; have bW_h := lH bW; have hp_h := lH hp; have hq_h := lH hq; clear hA1 hA2 hTL hIn hTK k0 bW hp hq
  go_enter Tryd.func56, Tryd.ntmps56
  go_upto_region 1 with (fail)
  rw [← hW]
  clear hW
  go_wp2_with (fail)
  refine (hIn_h.out _).mono ?_
  rintro e w1 ⟨rfl, rfl⟩
  go_wp2_with (fail)
  refine (hTL_h.out _).mono ?_
  rintro e w2 ⟨lb, rfl, hlb, hb2⟩
  rw [hlf] at hlb
  subst hlb
  clear c0 c1 c2 c3 f0 f1 f2 f3
  have k2 := t_box_below k0_h.out hb2
  obtain ⟨⟨c0, c1, c2, c3⟩, f0, f1, f2, f3⟩ := t_box4 k2
  have hB2 := below_trans bW_h.out hb2 bW_h.out.size
  clear hb2 k2; have hB2_h := lH hB2; clear hB2
  go_wp2_with (fail)
  refine (hTK_h.out _).mono ?_
  rintro e w3 ⟨rfl, rfl⟩
  go_wp2_with (fail)
  refine (hA1_h.out _ hB2_h.out).mono ?_
  rintro e w4 ⟨rfl, rfl⟩
  go_wp2_with (fail)
  go_ret
  exact ⟨rfl, hB2_h.out⟩
 obtain rfl : D = D2 := by rw [hDD]; rfl
 clear hDD; have hA1_h := lH hA1; have hA2_h := lH hA2; have hTL_h := lH hTL; have hIn_h := lH hIn; have hTK_h := lH hTK; have k0_h := lH k0; have bW_h := lH bW; have hp_h := lH hp; have hq_h := lH hq; clear hA1 hA2 hTL hIn hTK k0 bW hp hq
 go_enter Tryd.func56, Tryd.ntmps56
 go_upto_region 1 with (fail)
 rw [← hW]
 clear hW
 go_wp2_with (fail)
 refine (hIn_h.out _).mono ?_
 rintro e w1 ⟨rfl, rfl⟩
 go_wp2_with (fail)
 refine (hTL_h.out _).mono ?_
 rintro e w2 ⟨lb, rfl, hlb, hb2⟩
 rw [hlf] at hlb
 subst hlb
 clear c0 c1 c2 c3 f0 f1 f2 f3
 have k2 := t_box_below k0_h.out hb2
 obtain ⟨⟨c0, c1, c2, c3⟩, f0, f1, f2, f3⟩ := t_box4 k2
 have hB2 := below_trans bW_h.out hb2 bW_h.out.size
 clear hb2 k2; have hB2_h := lH hB2; clear hB2
 go_wp2_with (fail)
 refine (hTK_h.out _).mono ?_
 rintro e w3 ⟨rfl, rfl⟩
 go_wp2_with (fail)
 refine (hA1_h.out _ hB2_h.out).mono ?_
 rintro e w4 ⟨rfl, rfl⟩
 go_wp2_with (fail)
 refine (hA2_h.out _ hB2_h.out).mono ?_
 rintro e w4 ⟨rfl, rfl⟩
 go_wp2_with (fail)
 go_ret
 exact ⟨rfl, hB2_h.out⟩
theorem IS.getc {w : World} {A : Option Addr} {c n : Nat} {l : List Int} (h : IS w A c (cntM n l)) {q : Nat} (hq : q < n) : ∃ ad, A = some ad ∧ ad.block < w.heap.size ∧ w.cell? (ad.add q) = some (.int .i64 (l.count (q : Int) : Int)) ∧ w.frozen? (ad.add q) = false := by
 obtain ⟨ad, x, hA, hx, hb, hc, hf⟩ := h.at_ (j := q) (by rw [cntM_length]; exact hq)
 rw [cntM_get hq] at hx
 obtain rfl := Option.some.inj hx
 exact ⟨ad, hA, hb, hc, hf q⟩
theorem madeCnt (n : Nat) : ints (List.replicate n 0) = ints (cntM n []) := by rw [cntM_nil]
theorem inW_app_left {n : Int} {l m : List Int} (h : inW n (l ++ m) = true) : inW n l = true := by rw [inW_append] at h; simp at h; exact h.1
theorem inW_app_right {n : Int} {l m : List Int} (h : inW n (l ++ m) = true) : inW n m = true := by rw [inW_append] at h; simp at h; exact h.2
theorem inW_at {n : Nat} {l : List Int} (h : inW (n : Int) l = true) {k : Nat} {x : Int} (hx : l[k]? = some x) : ∃ q : Nat, x = (q : Int) ∧ q < n := by
 have := inW_iff.1 h x (List.mem_of_getElem? hx)
 exact ⟨x.toNat, by omega, by omega⟩
theorem mem_edW_of {l : List Eg} {e : Eg} (h : e ∈ l) : (∀ x, x ∈ e.2.2.1 → x ∈ edW l) ∧ ∀ x, x ∈ e.2.2.2 → x ∈ edW l := by
 induction l with
 | nil => cases h
 | cons a r ih =>
   rcases List.mem_cons.1 h with rfl | h
   · exact ⟨fun x hx => by simp [edW, hx], fun x hx => by simp [edW, hx]⟩
   · obtain ⟨h1, h2⟩ := ih h
     exact ⟨fun x hx => by simp [edW, h1 x hx], fun x hx => by simp [edW, h2 x hx]⟩
theorem out_len : ∀ (l : List Eg), (outW l).length + (inpW l).length + 2 * l.length = cntE l
 | [] => rfl
 | e :: r => by have := out_len r; simp only [outW, inpW, cntE, List.length_append, List.length_cons]; omega
theorem outW_take {es : List Eg} {k : Nat} {e : Eg} (h : es[k]? = some e) : outW (es.take (k + 1)) = outW (es.take k) ++ e.2.2.2 := by rw [List.take_add_one, h, outW_append]; simp [outW]
theorem inpW_take {es : List Eg} {k : Nat} {e : Eg} (h : es[k]? = some e) : inpW (es.take (k + 1)) = inpW (es.take k) ++ e.2.2.1 := by rw [List.take_add_one, h, inpW_append]; simp [inpW]
theorem outW_le (es : List Eg) (k : Nat) : (outW (es.take k)).length ≤ (outW es).length := by
 conv => rhs; rw [← List.take_append_drop k es, outW_append, List.length_append]
 omega
theorem inpW_le (es : List Eg) (k : Nat) : (inpW (es.take k)).length ≤ (inpW es).length := by
 conv => rhs; rw [← List.take_append_drop k es, inpW_append, List.length_append]
 omega
set_option maxRecDepth 100000 in
set_option maxHeartbeats 8000000 in
theorem hgCounts_any {v : Value} {g : Gr} (w : World) (n : Nat) (h : RdGr w v g) (ok : OkG g) (hgn : g.1 = (n : Int)) (hnb : n ≤ 1048576) (hin : inW (n : Int) (t_allW g) = true) :
  Calls Tryd.prog 57 #[v] w fun e w' => ∃ (A B : Option Addr) (a b : Nat), e = .returned (.tuple #[.slice A n a, .slice B n b]) ∧ IS w' A a (cntM n (orgW g)) ∧ IS w' B b (cntM n (dstW g)) ∧ Fresh w.heap.size A ∧ Fresh w.heap.size B ∧ Below w.heap.size w w' := by
 obtain ⟨A, c, hs, ⟨B, b, s⟩, ⟨C, d, t⟩, rfl, e1, e2, e3, hE, hRa, hRb⟩ := h
 obtain ⟨z, es, s0, t0⟩ := g
 have a1 : es = hs.map egOf := e1
 have a2 : s = s0 := e2
 have a3 : t = t0 := e3
 have a4 : z = (n : Int) := hgn
 subst a2 a3 a4
 have hin0 : inW (n : Int) (s ++ (t ++ edW es)) = true := hin
 have hinS := inW_app_left hin0
 have hinT := inW_app_left (inW_app_right hin0)
 have hinE := inW_app_right (inW_app_right hin0)
 have hlen1 : es.length ≤ 1048576 := ok.1.1
 have hlen2 : s.length ≤ 1048576 := ok.1.2.1
 have hlen3 : t.length ≤ 1048576 := ok.1.2.2
 have hcnt : cntE es ≤ 8388608 := by have : cntE es + s.length + t.length ≤ 8388608 := ok.2.2; omega
 have hol := out_len es
 have hXl : s.length + (outW es).length ≤ 20000000 ∧ t.length + (inpW es).length ≤ 20000000 := by omega
 obtain ⟨m, hm⟩ : ∃ m, m = hs.length := ⟨_, rfl⟩
 obtain ⟨p, hp⟩ : ∃ p, p = s.length := ⟨_, rfl⟩
 obtain ⟨r, hr⟩ : ∃ r, r = t.length := ⟨_, rfl⟩
 have hmes : es.length = m := by rw [a1, List.length_map, hm]
 have horg : orgW ((n : Int), es, s, t) = s ++ outW es := rfl
 have hdst : dstW ((n : Int), es, s, t) = t ++ inpW es := rfl
 rw [horg, hdst]
 show Calls Tryd.prog _ #[.agg #[.int .i64 (n : Int), .slice A hs.length c, .slice B s.length b, .slice C t.length d]] w _
 rw [← hm, ← hp, ← hr]
 have hRa0 : RdI w B s := hRa
 have hRb0 : RdI w C t := hRb
 obtain ⟨W, hW, bW, k0⟩ := (⟨_, rfl, t_below_alloc _ _, heap_alloc_new _ _⟩ : ∃ W, W = w.alloc (.cells #[.int .i64 (n : Int), .slice A m c, .slice B p b, .slice C r d] tGr) ∧ Below w.heap.size w W ∧ W.heap[w.heap.size]? = some (.cells #[.int .i64 (n : Int), .slice A m c, .slice B p b, .slice C r d] tGr))
 obtain ⟨⟨c0, c1, c2, c3⟩, f0, f1, f2, f3⟩ := t_box4 k0
 have hpb : (p : Int) ≤ 1048576 := by omega
 have hrb : (r : Int) ≤ 1048576 := by omega
 have hmb : (m : Int) ≤ 1048576 := by omega
 clear hRa hRb hin hin0 ok e1 e2 e3 hgn hlen1 hlen2 hlen3 hol horg hdst; have hE_h := lH hE; have hRa0_h := lH hRa0; have hRb0_h := lH hRb0; have a1_h := lH a1; have hinS_h := lH hinS; have hinT_h := lH hinT; have hinE_h := lH hinE; have hcnt_h := lH hcnt; have hm_h := lH hm; have hp_h := lH hp; have hr_h := lH hr; have hmes_h := lH hmes; have bW_h := lH bW; have k0_h := lH k0; have hXl_h := lH hXl; clear hE hRa0 hRb0 a1 hinS hinT hinE hcnt hm hp hr hmes bW k0 hXl
 go_enter Tryd.func57, Tryd.ntmps57
 go_upto_region 1 with (fail)
 rw [← hW]
 clear hW
 go_upto_region 2 with (at_make; refine wpList_make_Sl _ rfl _ _ _ rfl 3 Tryd.underlying23 info_int n n rfl rfl rfl rfl (Nat.le_refl _) (by omega) (by unfold maxLen; omega) ?_; intro G1 w2 hs2 hG1 hb2)
 have hi2 : IS w2 (some G1) n (cntM n []) := by unfold IS; rw [cntM_length, ← madeCnt, ← madeZeros]; exact hs2
 have k2 := t_box_below k0_h.out hb2
 have hB2 := below_trans bW_h.out hb2 bW_h.out.size
 have hWw2 := hb2.size
 clear hs2 c0 c1 c2 c3 f0 f1 f2 f3 hb2
 obtain ⟨⟨c0, c1, c2, c3⟩, f0, f1, f2, f3⟩ := t_box4 k2
 have hi2_h := lH hi2; have k2_h := lH k2; have hB2_h := lH hB2; clear hi2 k2 hB2
 go_upto_region 3 with (at_make; refine wpList_make_Sl _ rfl _ _ _ rfl 3 Tryd.underlying23 info_int n n rfl rfl rfl rfl (Nat.le_refl _) (by omega) (by unfold maxLen; omega) ?_; intro G2 w3 hs3 hG2 hb3)
 have hi3 : IS w3 (some G2) n (cntM n []) := by unfold IS; rw [cntM_length, ← madeCnt, ← madeZeros]; exact hs3
 have hi1 := hi2_h.out.below hb3
 have k3 := t_box_below k2_h.out hb3
 have hB3 := below_trans hB2_h.out hb3 hB2_h.out.size
 have hWs := bW_h.out.size
 have h2s := hB2_h.out.size
 have hG12 : G1.block ≠ G2.block := by have := hi2_h.out.lt G1.block (by simp); omega
 have hG1w : w.heap.size ≤ G1.block := by omega
 have hG2w : w.heap.size ≤ G2.block := by omega
 clear hs3 c0 c1 c2 c3 f0 f1 f2 f3 hb3 hi2_h k2_h
 obtain ⟨⟨c0, c1, c2, c3⟩, f0, f1, f2, f3⟩ := t_box4 k3
 have hi3_h := lH hi3; have hi1_h := lH hi1; have k3_h := lH k3; have hB3_h := lH hB3; have hG12_h := lH hG12; clear hi3 hi1 k3 hB3 hG12
 go_wp2_with (fail)
 clear c0 c1 c2 c3 f0 f1 f2 f3
 go_loopw [25] (fun i wr => ∃ k : Nat, k ≤ p ∧ i = .int .i64 k ∧ IS wr (some G1) n (cntM n (([] : List Int) ++ s.take k)) ∧ Keeps (fun b => b = G1.block) w3 wr) (fun i _ => p - (intOf i).toNat)
 case atStart => exact ⟨0, Nat.zero_le _, rfl, by simpa using hi1_h.out, Keeps.refl _ _⟩
 case round =>
  obtain ⟨j, hj, rfl, hIS, hkp⟩ := hrel
  have hBr := below_keeps hB3_h.out hkp hB3_h.out.size (fun b e => by omega)
  by_cases hlj : j < p
  · obtain ⟨xd, x, rfl, hx, hxc⟩ := (hRa0_h.out.below hBr).at_ (j := j) (by rw [← hp_h.out]; exact hlj)
    obtain ⟨q, rfl, hqn⟩ := inW_at hinS_h.out hx
    obtain ⟨gd, hgd, hgb, hgc, hgf⟩ := hIS.getc hqn
    obtain rfl := Option.some.inj hgd
    have hset := hIS.set rfl (j := q) (((([] : List Int) ++ s.take j).count (q : Int) : Int) + 1) (by rw [cntM_length]; exact hqn)
    rw [← cntM_step hqn, List.append_assoc, show s.take j ++ [(q : Int)] = s.take (j + 1) by rw [List.take_add_one, hx]; rfl] at hset
    have hks := hkp.setCell (p := G1.add q) (by rw [block_of_add]) (.int .i64 (((([] : List Int) ++ s.take j).count (q : Int) : Int) + 1))
    have hcl := count_le (([] : List Int) ++ s.take j) (q : Int)
    rw [List.length_append, List.length_take] at hcl
    try rw [List.length_nil] at hcl
    obtain ⟨cv, hcv⟩ : ∃ cv : Nat, cv = (([] : List Int) ++ s.take j).count (q : Int) := ⟨_, rfl⟩
    rw [← hcv] at hgc hset hks hcl
    have hcvb : cv ≤ 100000000 := by have := hXl_h.out; omega
    have hqI : (q : Int) < (n : Int) := by omega
    have hjI : (j : Int) < (p : Int) := by omega
    clear hIS hkp hx hcv hcl hgd; have hset_h := lH hset; have hks_h := lH hks; have hBr_h := lH hBr; clear hset hks hBr
    skip
    go_wp2_with (fail)
    go_roundw
    case rel => exact ⟨j + 1, by omega, by go_num, hset_h.out, hks_h.out⟩
    case measure => simp [intOf]; omega
  · obtain rfl : p = j := by omega
    have hIS2 : IS wr (some G1) n (cntM n (([] : List Int) ++ s)) := by rwa [List.take_of_length_le (by rw [← hp_h.out]; exact Nat.le_refl _)] at hIS
    clear hIS
    obtain ⟨w4, rfl⟩ : ∃ x, x = wr := ⟨_, rfl⟩
    have k4 := t_box_keeps k3_h.out hkp (by have := t_box_lt k0_h.out; omega)
    have hi4 := hi3_h.out.keeps hkp (fun b hb e => by have := hG12_h.out; simp at hb; omega)
    obtain ⟨⟨c0, c1, c2, c3⟩, f0, f1, f2, f3⟩ := t_box4 k4
    rw [List.nil_append] at hIS2
    clear hkp k3_h hi3_h hi1_h hB3_h; have hi4_h := lH hi4; have hIS2_h := lH hIS2; have k4_h := lH k4; have hBr_h := lH hBr; clear hi4 hIS2 k4 hBr
    go_wp2_with (fail)
    clear c0 c1 c2 c3 f0 f1 f2 f3
    go_loopw [39] (fun i wr => ∃ k : Nat, k ≤ r ∧ i = .int .i64 k ∧ IS wr (some G2) n (cntM n (([] : List Int) ++ t.take k)) ∧ Keeps (fun b => b = G2.block) w4 wr) (fun i _ => r - (intOf i).toNat)
    case atStart => exact ⟨0, Nat.zero_le _, rfl, by simpa using hi4_h.out, Keeps.refl _ _⟩
    case round =>
     obtain ⟨j, hj, rfl, hIS, hkp⟩ := hrel
     have hBr := below_keeps hBr_h.out hkp hBr_h.out.size (fun b e => by omega)
     by_cases hlj : j < r
     · obtain ⟨xd, x, rfl, hx, hxc⟩ := (hRb0_h.out.below hBr).at_ (j := j) (by rw [← hr_h.out]; exact hlj)
       obtain ⟨q, rfl, hqn⟩ := inW_at hinT_h.out hx
       obtain ⟨gd, hgd, hgb, hgc, hgf⟩ := hIS.getc hqn
       obtain rfl := Option.some.inj hgd
       have hset := hIS.set rfl (j := q) (((([] : List Int) ++ t.take j).count (q : Int) : Int) + 1) (by rw [cntM_length]; exact hqn)
       rw [← cntM_step hqn, List.append_assoc, show t.take j ++ [(q : Int)] = t.take (j + 1) by rw [List.take_add_one, hx]; rfl] at hset
       have hks := hkp.setCell (p := G2.add q) (by rw [block_of_add]) (.int .i64 (((([] : List Int) ++ t.take j).count (q : Int) : Int) + 1))
       have hcl := count_le (([] : List Int) ++ t.take j) (q : Int)
       rw [List.length_append, List.length_take] at hcl
       try rw [List.length_nil] at hcl
       obtain ⟨cv, hcv⟩ : ∃ cv : Nat, cv = (([] : List Int) ++ t.take j).count (q : Int) := ⟨_, rfl⟩
       rw [← hcv] at hgc hset hks hcl
       have hcvb : cv ≤ 100000000 := by have := hXl_h.out; omega
       have hqI : (q : Int) < (n : Int) := by omega
       have hjI : (j : Int) < (r : Int) := by omega
       clear hIS hkp hx hcv hcl hgd; have hset_h := lH hset; have hks_h := lH hks; have hBr_h := lH hBr; clear hset hks hBr
       skip
       go_wp2_with (fail)
       go_roundw
       case rel => exact ⟨j + 1, by omega, by go_num, hset_h.out, hks_h.out⟩
       case measure => simp [intOf]; omega
     · obtain rfl : r = j := by omega
       have hIS2 : IS wr (some G2) n (cntM n (([] : List Int) ++ t)) := by rwa [List.take_of_length_le (by rw [← hr_h.out]; exact Nat.le_refl _)] at hIS
       clear hIS
       obtain ⟨w5, rfl⟩ : ∃ x, x = wr := ⟨_, rfl⟩
       have k5 := t_box_keeps k4_h.out hkp (by have := t_box_lt k0_h.out; omega)
       have hi5 := hIS2_h.out.keeps hkp (fun b hb e => by have := hG12_h.out; simp at hb; omega)
       obtain ⟨⟨c0, c1, c2, c3⟩, f0, f1, f2, f3⟩ := t_box4 k5
       rw [List.nil_append] at hIS2
       have hB5 := hBr
       clear hkp k4_h hi4_h hIS2_h hBr hBr_h
       have hs0 : IS w5 (some G1) n (cntM n (s ++ outW (es.take 0))) := by simpa [outW] using hi5
       have ht0 : IS w5 (some G2) n (cntM n (t ++ inpW (es.take 0))) := by simpa [inpW] using hIS2
       clear hi5 hIS2; have hs0_h := lH hs0; have ht0_h := lH ht0; have k5_h := lH k5; have hB5_h := lH hB5; clear hs0 ht0 k5 hB5
       go_wp2_with (fail)
       clear c0 c1 c2 c3 f0 f1 f2 f3 k5_h
       go_loopw [53] (fun i wr => ∃ k : Nat, k ≤ m ∧ i = .int .i64 k ∧ IS wr (some G1) n (cntM n (s ++ outW (es.take k))) ∧ IS wr (some G2) n (cntM n (t ++ inpW (es.take k))) ∧ Below w.heap.size w wr) (fun i _ => m - (intOf i).toNat)
       case atStart => exact ⟨0, Nat.zero_le _, rfl, hs0_h.out, ht0_h.out, hB5_h.out⟩
       case round =>
        clear hs0_h ht0_h hB5_h
        obtain ⟨k, hk, rfl, hi1, hi2, hB6⟩ := hrel
        by_cases hlt : k < m
        · obtain ⟨ad, κ, vv, B1, b1, s1, C1, b2, t1, rfl, hn, ⟨d0, d1, d2, d3⟩, hr1, hr2⟩ := (hE_h.out.below hB6).at_ (j := k) (by rw [← hm_h.out]; exact hlt)
          have hek : es[k]? = some (κ, vv, s1, t1) := by rw [a1_h.out, List.getElem?_map, hn]; rfl
          obtain ⟨hm1, hm2⟩ := mem_edW_of (List.mem_of_getElem? hek)
          have hinA := inW_sub hinE_h.out hm1
          have hinB := inW_sub hinE_h.out hm2
          have htk1 := outW_take hek
          have htk2 := inpW_take hek
          have hle1 := outW_le es (k + 1)
          have hle2 := inpW_le es (k + 1)
          rw [htk1, List.length_append] at hle1
          rw [htk2, List.length_append] at hle2
          have hXl0 := hXl_h.out
          have hXl : (s ++ outW (es.take k)).length + t1.length ≤ 20000000 ∧ (t ++ inpW (es.take k)).length + s1.length ≤ 20000000 := by
           rw [List.length_append, List.length_append]
           have e1 : ((κ, vv, s1, t1) : Eg).2.2.2.length = t1.length := rfl
           have e2 : ((κ, vv, s1, t1) : Eg).2.2.1.length = s1.length := rfl
           omega
          obtain ⟨X, hX⟩ : ∃ X, X = s ++ outW (es.take k) := ⟨_, rfl⟩
          obtain ⟨Y, hY⟩ : ∃ Y, Y = t ++ inpW (es.take k) := ⟨_, rfl⟩
          rw [← hX] at hi1 hXl
          rw [← hY] at hi2 hXl
          obtain ⟨p1, hp1⟩ : ∃ p1, p1 = s1.length := ⟨_, rfl⟩
          obtain ⟨r1, hr1'⟩ : ∃ r1, r1 = t1.length := ⟨_, rfl⟩
          rw [← hp1] at d2
          rw [← hr1'] at d3
          have hp1b : (p1 : Int) ≤ 20000000 := by omega
          have hr1b : (r1 : Int) ≤ 20000000 := by omega
          have hkI : (k : Int) < (m : Int) := by omega
          obtain ⟨wo, rfl⟩ : ∃ x, x = wr := ⟨_, rfl⟩
          obtain ⟨W6, hW6, bW6, k6⟩ := (⟨_, rfl, t_below_alloc _ _, heap_alloc_new _ _⟩ : ∃ W, W = wo.alloc (.cells #[.int .i64 κ, .int .i64 vv, .slice B1 p1 b1, .slice C1 r1 b2] tEd) ∧ Below wo.heap.size wo W ∧ W.heap[wo.heap.size]? = some (.cells #[.int .i64 κ, .int .i64 vv, .slice B1 p1 b1, .slice C1 r1 b2] tEd))
          have hB7 := below_trans hB6 bW6 hB6.size
          have hj1 := hi1.below bW6
          have hj2 := hi2.below bW6
          have hq1 : G1.block < wo.heap.size := hi1.lt G1.block (by simp)
          have hq2 : G2.block < wo.heap.size := hi2.lt G2.block (by simp)
          have hrA : RdI w B1 s1 := (hE_h.out.2 _ (List.mem_of_getElem? hn)).1
          have hrB : RdI w C1 t1 := (hE_h.out.2 _ (List.mem_of_getElem? hn)).2
          obtain ⟨⟨c0, c1, c2, c3⟩, f0, f1, f2, f3⟩ := t_box4 k6
          clear hr1 hr2 hn hm1 hm2 hle1 hle2 hXl0 hi1 hi2 hek; have hr1_h := lH hr1'; clear hr1'; have hinA_h := lH hinA; have hinB_h := lH hinB; have htk1_h := lH htk1; have htk2_h := lH htk2; have hXl_h := lH hXl; have hX_h := lH hX; have hY_h := lH hY; have hp1_h := lH hp1; have bW6_h := lH bW6; have k6_h := lH k6; have hB7_h := lH hB7; have hj1_h := lH hj1; have hj2_h := lH hj2; have hrA_h := lH hrA; have hrB_h := lH hrB; have hB6_h := lH hB6; clear hinA hinB htk1 htk2 hXl hX hY hp1 bW6 k6 hB7 hj1 hj2 hrA hrB hB6
          go_upto_region 16 with (fail)
          rw [← hW6]
          clear hW6
          go_wp2_with (fail)
          clear c0 c1 c2 c3 f0 f1 f2 f3 d0 d1 d2 d3
          go_loopw [60] (fun i wr => ∃ k : Nat, k ≤ r1 ∧ i = .int .i64 k ∧ IS wr (some G1) n (cntM n (X ++ t1.take k)) ∧ Keeps (fun b => b = G1.block) W6 wr) (fun i _ => r1 - (intOf i).toNat)
          case atStart => exact ⟨0, Nat.zero_le _, rfl, by simpa using hj1_h.out, Keeps.refl _ _⟩
          case round =>
           obtain ⟨j, hj, rfl, hIS, hkp⟩ := hrel
           have hBr := below_keeps hB7_h.out hkp hB7_h.out.size (fun b e => by omega)
           by_cases hlj : j < r1
           · obtain ⟨xd, x, rfl, hx, hxc⟩ := (hrB_h.out.below hBr).at_ (j := j) (by rw [← hr1_h.out]; exact hlj)
             obtain ⟨q, rfl, hqn⟩ := inW_at hinB_h.out hx
             obtain ⟨gd, hgd, hgb, hgc, hgf⟩ := hIS.getc hqn
             obtain rfl := Option.some.inj hgd
             have hset := hIS.set rfl (j := q) (((X ++ t1.take j).count (q : Int) : Int) + 1) (by rw [cntM_length]; exact hqn)
             rw [← cntM_step hqn, List.append_assoc, show t1.take j ++ [(q : Int)] = t1.take (j + 1) by rw [List.take_add_one, hx]; rfl] at hset
             have hks := hkp.setCell (p := G1.add q) (by rw [block_of_add]) (.int .i64 (((X ++ t1.take j).count (q : Int) : Int) + 1))
             have hcl := count_le (X ++ t1.take j) (q : Int)
             rw [List.length_append, List.length_take] at hcl
             try rw [List.length_nil] at hcl
             obtain ⟨cv, hcv⟩ : ∃ cv : Nat, cv = (X ++ t1.take j).count (q : Int) := ⟨_, rfl⟩
             rw [← hcv] at hgc hset hks hcl
             have hcvb : cv ≤ 100000000 := by have := hXl_h.out; omega
             have hqI : (q : Int) < (n : Int) := by omega
             have hjI : (j : Int) < (r1 : Int) := by omega
             clear hIS hkp hx hcv hcl hgd; have hset_h := lH hset; have hks_h := lH hks; have hBr_h := lH hBr; clear hset hks hBr
             skip
             go_wp2_with (fail)
             go_roundw
             case rel => exact ⟨j + 1, by omega, by go_num, hset_h.out, hks_h.out⟩
             case measure => simp [intOf]; omega
           · obtain rfl : r1 = j := by omega
             have hIS2 : IS wr (some G1) n (cntM n (X ++ t1)) := by rwa [List.take_of_length_le (by rw [← hr1_h.out]; exact Nat.le_refl _)] at hIS
             clear hIS
             obtain ⟨w7, rfl⟩ : ∃ x, x = wr := ⟨_, rfl⟩
             have k7 := t_box_keeps k6_h.out hkp (by omega)
             have hj7 := hj2_h.out.keeps hkp (fun b hb e => by have := hG12_h.out; simp at hb; omega)
             obtain ⟨⟨c0, c1, c2, c3⟩, f0, f1, f2, f3⟩ := t_box4 k7
             have hB8 := hBr
             clear hkp k6_h hj1_h hj2_h hB7_h k7 hBr; have hj7_h := lH hj7; have hIS2_h := lH hIS2; have hB8_h := lH hB8; clear hj7 hIS2 hB8
             go_wp2_with (fail)
             clear c0 c1 c2 c3 f0 f1 f2 f3
             go_loopw [74] (fun i wr => ∃ k : Nat, k ≤ p1 ∧ i = .int .i64 k ∧ IS wr (some G2) n (cntM n (Y ++ s1.take k)) ∧ Keeps (fun b => b = G2.block) w7 wr) (fun i _ => p1 - (intOf i).toNat)
             case atStart => exact ⟨0, Nat.zero_le _, rfl, by simpa using hj7_h.out, Keeps.refl _ _⟩
             case round =>
              obtain ⟨j, hj, rfl, hIS, hkp⟩ := hrel
              have hBr := below_keeps hB8_h.out hkp hB8_h.out.size (fun b e => by omega)
              by_cases hlj : j < p1
              · obtain ⟨xd, x, rfl, hx, hxc⟩ := (hrA_h.out.below hBr).at_ (j := j) (by rw [← hp1_h.out]; exact hlj)
                obtain ⟨q, rfl, hqn⟩ := inW_at hinA_h.out hx
                obtain ⟨gd, hgd, hgb, hgc, hgf⟩ := hIS.getc hqn
                obtain rfl := Option.some.inj hgd
                have hset := hIS.set rfl (j := q) (((Y ++ s1.take j).count (q : Int) : Int) + 1) (by rw [cntM_length]; exact hqn)
                rw [← cntM_step hqn, List.append_assoc, show s1.take j ++ [(q : Int)] = s1.take (j + 1) by rw [List.take_add_one, hx]; rfl] at hset
                have hks := hkp.setCell (p := G2.add q) (by rw [block_of_add]) (.int .i64 (((Y ++ s1.take j).count (q : Int) : Int) + 1))
                have hcl := count_le (Y ++ s1.take j) (q : Int)
                rw [List.length_append, List.length_take] at hcl
                try rw [List.length_nil] at hcl
                obtain ⟨cv, hcv⟩ : ∃ cv : Nat, cv = (Y ++ s1.take j).count (q : Int) := ⟨_, rfl⟩
                rw [← hcv] at hgc hset hks hcl
                have hcvb : cv ≤ 100000000 := by have := hXl_h.out; omega
                have hqI : (q : Int) < (n : Int) := by omega
                have hjI : (j : Int) < (p1 : Int) := by omega
                clear hIS hkp hx hcv hcl hgd; have hset_h := lH hset; have hks_h := lH hks; have hBr_h := lH hBr; clear hset hks hBr
                skip
                go_wp2_with (fail)
                go_roundw
                case rel => exact ⟨j + 1, by omega, by go_num, hset_h.out, hks_h.out⟩
                case measure => simp [intOf]; omega
              · obtain rfl : p1 = j := by omega
                have hIS2 : IS wr (some G2) n (cntM n (Y ++ s1)) := by rwa [List.take_of_length_le (by rw [← hp1_h.out]; exact Nat.le_refl _)] at hIS
                clear hIS
                have hj8 := hIS2_h.out.keeps hkp (fun b hb e => by have := hG12_h.out; simp at hb; omega)
                have e1 : IS wr (some G1) n (cntM n (s ++ outW (es.take (k + 1)))) := by rw [htk1_h.out, ← List.append_assoc, ← hX_h.out]; exact hj8
                have e2 : IS wr (some G2) n (cntM n (t ++ inpW (es.take (k + 1)))) := by rw [htk2_h.out, ← List.append_assoc, ← hY_h.out]; exact hIS2
                clear hj8 hIS2 hkp; have e1_h := lH e1; have e2_h := lH e2; have hBr_h := lH hBr; clear e1 e2 hBr
                go_wp2_with (fail)
                go_roundw
                case rel => exact ⟨k + 1, by omega, by go_num, e1_h.out, e2_h.out, hBr_h.out⟩
                case measure => simp [intOf]; omega
        · obtain rfl : m = k := by omega
          rw [List.take_of_length_le (by rw [hmes_h.out]; exact Nat.le_refl _)] at hi1 hi2
          have hff1 : Fresh w.heap.size (some G1) := fun b hb => by simp at hb; omega
          have hff2 : Fresh w.heap.size (some G2) := fun b hb => by simp at hb; omega
          have hi1_h := lH hi1; have hi2_h := lH hi2; have hB6_h := lH hB6; have hff1_h := lH hff1; have hff2_h := lH hff2; clear hi1 hi2 hB6 hff1 hff2
          go_wp2_with (fail)
          go_ret2
          exact ⟨some G1, some G2, n, n, rfl, hi1_h.out, hi2_h.out, hff1_h.out, hff2_h.out, hB6_h.out⟩
theorem grB_eq (g : Gr) : grB g = (t_inB g.1 0 100 && (decide (g.2.1.length ≤ 60) && (decide (g.2.2.1.length ≤ 12) && (decide (g.2.2.2.length ≤ 12) && (inW g.1 g.2.2.1 && (inW g.1 g.2.2.2 && (g.2.1.all (hgB g.1) && fullW g.1 (t_allW g)))))))) := by
 unfold grB
 rw [hgB_all]
 have e : inW g.1 (t_allW g) = (inW g.1 g.2.2.1 && (inW g.1 g.2.2.2 && inW g.1 (edW g.2.1))) := by unfold t_allW; rw [inW_append, inW_append]
 rw [e]
 cases t_inB g.1 0 100 <;> cases decide (g.2.1.length ≤ 60) <;> cases decide (g.2.2.1.length ≤ 12) <;> cases decide (g.2.2.2.length ≤ 12) <;> cases inW g.1 g.2.2.1 <;> cases inW g.1 g.2.2.2 <;> cases g.2.1.all egB <;> cases inW g.1 (edW g.2.1) <;> cases fullW g.1 (t_allW g) <;> rfl
theorem count_zero {g : Gr} {k : Nat} : ((orgW g).count (k : Int) = 0 ∧ (dstW g).count (k : Int) = 0) ↔ (t_allW g).contains (k : Int) = false := by
 rw [List.count_eq_zero, List.count_eq_zero, Bool.eq_false_iff, ne_eq, List.contains_iff_mem, mem_allW]
 exact ⟨fun h hm => hm.elim h.1 h.2, fun h => ⟨fun a => h (.inl a), fun a => h (.inr a)⟩⟩
set_option maxRecDepth 100000 in
set_option maxHeartbeats 8000000 in
theorem hgValid_any {v : Value} {g : Gr} (w : World) (h : RdGr w v g) (ok : OkG g) :
  Calls Tryd.prog 46 #[v] w fun e w' => e = .returned (.bool (grB g)) ∧ Below w.heap.size w w' := by
 have hG0 := h
 obtain ⟨A, c, hs, ⟨B, b, s⟩, ⟨C, d, t⟩, rfl, e1, e2, e3, hE, hRa, hRb⟩ := h
 obtain ⟨z, es, s0, t0⟩ := g
 have a1 : es = hs.map egOf := e1
 have a2 : s = s0 := e2
 have a3 : t = t0 := e3
 subst a2 a3
 have hok := ok
 have hlen1 : es.length ≤ 1048576 := ok.1.1
 have hlen2 : s.length ≤ 1048576 := ok.1.2.1
 have hlen3 : t.length ≤ 1048576 := ok.1.2.2
 have hlE : ∀ x, x ∈ hs → x.2.2.1.2.2.length ≤ 1048576 ∧ x.2.2.2.2.2.length ≤ 1048576 := fun x hx => ok.2.1 _ (by show egOf x ∈ es; rw [a1]; exact List.mem_map_of_mem hx)
 obtain ⟨D, hD⟩ : ∃ D, D = grB (z, es, s, t) := ⟨_, rfl⟩
 have hDD := hD
 rw [grB_eq] at hDD
 simp only at hDD
 rw [← hD]
 obtain ⟨m, hm⟩ : ∃ m, m = hs.length := ⟨_, rfl⟩
 obtain ⟨p, hp⟩ : ∃ p, p = s.length := ⟨_, rfl⟩
 obtain ⟨r, hr⟩ : ∃ r, r = t.length := ⟨_, rfl⟩
 have hmes : es.length = m := by rw [a1, List.length_map, hm]
 have hRa0 : RdI w B s := hRa
 have hRb0 : RdI w C t := hRb
 rw [hmes, ← hp, ← hr] at hDD
 change RdGr w (.agg #[.int .i64 z, .slice A hs.length c, .slice B s.length b, .slice C t.length d]) (z, es, s, t) at hG0
 rw [← hm, ← hp, ← hr] at hG0
 show Calls Tryd.prog _ #[.agg #[.int .i64 z, .slice A hs.length c, .slice B s.length b, .slice C t.length d]] w _
 rw [← hm, ← hp, ← hr]
 obtain ⟨W, hW, bW, k0⟩ := (⟨_, rfl, t_below_alloc _ _, heap_alloc_new _ _⟩ : ∃ W, W = w.alloc (.cells #[.int .i64 z, .slice A m c, .slice B p b, .slice C r d] tGr) ∧ Below w.heap.size w W ∧ W.heap[w.heap.size]? = some (.cells #[.int .i64 z, .slice A m c, .slice B p b, .slice C r d] tGr))
 obtain ⟨⟨c0, c1, c2, c3⟩, f0, f1, f2, f3⟩ := t_box4 k0
 have hI := fun (W : World) => t_l1In_any z 0 100 W
 have hA1 := fun (W : World) (hb : Below w.heap.size w W) => t_l1All_any B b p s 0 (z - 1) W (RdI.below hRa0 hb) hp.symm (by omega)
 have hA2 := fun (W : World) (hb : Below w.heap.size w W) => t_l1All_any C d r t 0 (z - 1) W (RdI.below hRb0 hb) hr.symm (by omega)
 obtain ⟨D1, hD1⟩ : ∃ D, D = inW z s := ⟨_, rfl⟩
 obtain ⟨D2, hD2⟩ : ∃ D, D = inW z t := ⟨_, rfl⟩
 have hD1' : (s.all fun x => t_inB x 0 (z - 1)) = D1 := hD1.symm
 have hD2' : (t.all fun x => t_inB x 0 (z - 1)) = D2 := hD2.symm
 simp only [hD1'] at hA1
 simp only [hD2'] at hA2
 rw [← hD1, ← hD2] at hDD
 clear hRa hRb ok e1 e2 e3 hD1' hD2' hRa0 hRb0
 by_cases h0 : t_inB z 0 100 = true
 case neg =>
  have h0' : t_inB z 0 100 = false := by simpa using h0
  obtain rfl : D = false := by rw [hDD, h0']; rfl
  simp only [h0'] at hI
  clear h0 h0'; have hI_h := lH hI; have hA1_h := lH hA1; have hA2_h := lH hA2; have k0_h := lH k0; have bW_h := lH bW; have hm_h := lH hm; have hp_h := lH hp; have hr_h := lH hr; have hD_h := lH hD; have hDD_h := lH hDD; have hmes_h := lH hmes; have hlE_h := lH hlE; have hok_h := lH hok; have a1_h := lH a1; have hE_h := lH hE; have hG0_h := lH hG0; have hD1_h := lH hD1; have hD2_h := lH hD2; clear hI hA1 hA2 k0 bW hm hp hr hD hDD hmes hlE hok a1 hE hG0 hD1 hD2
  go_enter Tryd.func46, Tryd.ntmps46
  go_upto_region 1 with (fail)
  rw [← hW]
  clear hW
  go_wp2_with (fail)
  refine (hI_h.out _).mono ?_
  rintro e w1 ⟨rfl, rfl⟩
  go_wp2_with (fail)
  go_ret
  exact ⟨rfl, bW_h.out⟩
 have hz : 0 ≤ z ∧ z ≤ 100 := of_decide_eq_true h0
 simp only [h0] at hI
 rw [h0, Bool.true_and] at hDD
 clear h0
 have wz : IntKind.i64.wrap (z - 1) = z - 1 := IntWalk.i64_in _ (by omega)
 by_cases h1 : m ≤ 60
 case neg =>
  obtain rfl : D = false := by rw [hDD, decide_eq_false h1]; rfl
  have h1' : ¬ ((m : Int) ≤ 60) := by omega
  have hI_h := lH hI; have hA1_h := lH hA1; have hA2_h := lH hA2; have k0_h := lH k0; have bW_h := lH bW; have hm_h := lH hm; have hp_h := lH hp; have hr_h := lH hr; have hD_h := lH hD; have hDD_h := lH hDD; have hmes_h := lH hmes; have hlE_h := lH hlE; have hok_h := lH hok; have a1_h := lH a1; have hE_h := lH hE; have hG0_h := lH hG0; have hD1_h := lH hD1; have hD2_h := lH hD2; clear hI hA1 hA2 k0 bW hm hp hr hD hDD hmes hlE hok a1 hE hG0 hD1 hD2
  go_enter Tryd.func46, Tryd.ntmps46
  go_upto_region 1 with (fail)
  rw [← hW]
  clear hW
  go_wp2_with (fail)
  refine (hI_h.out _).mono ?_
  rintro e w1 ⟨rfl, rfl⟩
  go_wp2_with (fail)
  go_ret
  exact ⟨rfl, bW_h.out⟩
 rw [decide_eq_true h1, Bool.true_and] at hDD
 have h1' : (m : Int) ≤ 60 := by omega
 by_cases h2 : p ≤ 12
 case neg =>
  obtain rfl : D = false := by rw [hDD, decide_eq_false h2]; rfl
  have h2' : ¬ ((p : Int) ≤ 12) := by omega
  have hI_h := lH hI; have hA1_h := lH hA1; have hA2_h := lH hA2; have k0_h := lH k0; have bW_h := lH bW; have hm_h := lH hm; have hp_h := lH hp; have hr_h := lH hr; have hD_h := lH hD; have hDD_h := lH hDD; have hmes_h := lH hmes; have hlE_h := lH hlE; have hok_h := lH hok; have a1_h := lH a1; have hE_h := lH hE; have hG0_h := lH hG0; have hD1_h := lH hD1; have hD2_h := lH hD2; clear hI hA1 hA2 k0 bW hm hp hr hD hDD hmes hlE hok a1 hE hG0 hD1 hD2
  go_enter Tryd.func46, Tryd.ntmps46
  go_upto_region 1 with (fail)
  rw [← hW]
  clear hW
  go_wp2_with (fail)
  refine (hI_h.out _).mono ?_
  rintro e w1 ⟨rfl, rfl⟩
  go_wp2_with (fail)
  go_ret
  exact ⟨rfl, bW_h.out⟩
 rw [decide_eq_true h2, Bool.true_and] at hDD
 have h2' : (p : Int) ≤ 12 := by omega
 by_cases h3 : r ≤ 12
 case neg =>
  obtain rfl : D = false := by rw [hDD, decide_eq_false h3]; rfl
  have h3' : ¬ ((r : Int) ≤ 12) := by omega
  have hI_h := lH hI; have hA1_h := lH hA1; have hA2_h := lH hA2; have k0_h := lH k0; have bW_h := lH bW; have hm_h := lH hm; have hp_h := lH hp; have hr_h := lH hr; have hD_h := lH hD; have hDD_h := lH hDD; have hmes_h := lH hmes; have hlE_h := lH hlE; have hok_h := lH hok; have a1_h := lH a1; have hE_h := lH hE; have hG0_h := lH hG0; have hD1_h := lH hD1; have hD2_h := lH hD2; clear hI hA1 hA2 k0 bW hm hp hr hD hDD hmes hlE hok a1 hE hG0 hD1 hD2
  go_enter Tryd.func46, Tryd.ntmps46
  go_upto_region 1 with (fail)
  rw [← hW]
  clear hW
  go_wp2_with (fail)
  refine (hI_h.out _).mono ?_
  rintro e w1 ⟨rfl, rfl⟩
  go_wp2_with (fail)
  go_ret
  exact ⟨rfl, bW_h.out⟩
 rw [decide_eq_true h3, Bool.true_and] at hDD
 have h3' : (r : Int) ≤ 12 := by omega
 cases D1
 case false =>
  obtain rfl : D = false := by rw [hDD]; rfl
  have hI_h := lH hI; have hA1_h := lH hA1; have hA2_h := lH hA2; have k0_h := lH k0; have bW_h := lH bW; have hm_h := lH hm; have hp_h := lH hp; have hr_h := lH hr; have hD_h := lH hD; have hDD_h := lH hDD; have hmes_h := lH hmes; have hlE_h := lH hlE; have hok_h := lH hok; have a1_h := lH a1; have hE_h := lH hE; have hG0_h := lH hG0; have hD1_h := lH hD1; have hD2_h := lH hD2; clear hI hA1 hA2 k0 bW hm hp hr hD hDD hmes hlE hok a1 hE hG0 hD1 hD2
  go_enter Tryd.func46, Tryd.ntmps46
  go_upto_region 1 with (fail)
  rw [← hW]
  clear hW
  go_wp2_with (fail)
  refine (hI_h.out _).mono ?_
  rintro e w1 ⟨rfl, rfl⟩
  go_wp2_with (fail)
  refine (hA1_h.out _ bW_h.out).mono ?_
  rintro e w1 ⟨rfl, rfl⟩
  go_wp2_with (fail)
  go_ret
  exact ⟨rfl, bW_h.out⟩
 rw [Bool.true_and] at hDD
 cases D2
 case false =>
  obtain rfl : D = false := by rw [hDD]; rfl
  have hI_h := lH hI; have hA1_h := lH hA1; have hA2_h := lH hA2; have k0_h := lH k0; have bW_h := lH bW; have hm_h := lH hm; have hp_h := lH hp; have hr_h := lH hr; have hD_h := lH hD; have hDD_h := lH hDD; have hmes_h := lH hmes; have hlE_h := lH hlE; have hok_h := lH hok; have a1_h := lH a1; have hE_h := lH hE; have hG0_h := lH hG0; have hD1_h := lH hD1; have hD2_h := lH hD2; clear hI hA1 hA2 k0 bW hm hp hr hD hDD hmes hlE hok a1 hE hG0 hD1 hD2
  go_enter Tryd.func46, Tryd.ntmps46
  go_upto_region 1 with (fail)
  rw [← hW]
  clear hW
  go_wp2_with (fail)
  refine (hI_h.out _).mono ?_
  rintro e w1 ⟨rfl, rfl⟩
  go_wp2_with (fail)
  refine (hA1_h.out _ bW_h.out).mono ?_
  rintro e w1 ⟨rfl, rfl⟩
  go_wp2_with (fail)
  refine (hA2_h.out _ bW_h.out).mono ?_
  rintro e w1 ⟨rfl, rfl⟩
  go_wp2_with (fail)
  go_ret
  exact ⟨rfl, bW_h.out⟩
 rw [Bool.true_and] at hDD
 have hI_h := lH hI; have hA1_h := lH hA1; have hA2_h := lH hA2; have k0_h := lH k0; have bW_h := lH bW; have hm_h := lH hm; have hp_h := lH hp; have hr_h := lH hr; have hD_h := lH hD; have hDD_h := lH hDD; have hmes_h := lH hmes; have hlE_h := lH hlE; have hok_h := lH hok; have a1_h := lH a1; have hE_h := lH hE; have hG0_h := lH hG0; have hD1_h := lH hD1; have hD2_h := lH hD2; clear hI hA1 hA2 k0 bW hm hp hr hD hDD hmes hlE hok a1 hE hG0 hD1 hD2
 go_enter Tryd.func46, Tryd.ntmps46
 go_upto_region 1 with (fail)
 rw [← hW]
 clear hW
 go_wp2_with (fail)
 refine (hI_h.out _).mono ?_
 rintro e w1 ⟨rfl, rfl⟩
 go_wp2_with (fail)
 refine (hA1_h.out _ bW_h.out).mono ?_
 rintro e w1 ⟨rfl, rfl⟩
 go_wp2_with (fail)
 refine (hA2_h.out _ bW_h.out).mono ?_
 rintro e w1 ⟨rfl, rfl⟩
 obtain ⟨W, rfl⟩ : ∃ x, x = w1 := ⟨_, rfl⟩
 go_wp2_with (fail)
 clear c0 c1 c2 c3 f0 f1 f2 f3
 go_loopw [51] (fun i wr => ∃ k : Nat, k ≤ m ∧ i = .int .i64 k ∧ (es.take k).all (hgB z) = true ∧ Below W.heap.size W wr) (fun i _ => m - (intOf i).toNat)
 case atStart => exact ⟨0, Nat.zero_le _, rfl, by simp, Below.refl _ _⟩
 case round =>
  obtain ⟨k, hk, rfl, hall, hB1⟩ := hrel
  have kr := t_box_below k0_h.out hB1
  have hBw := below_trans bW_h.out hB1 bW_h.out.size
  by_cases hlt : k < m
  · obtain ⟨ad, κ, vv, B1, b1, s1, C1, b2, t1, rfl, hn, ⟨d0, d1, d2, d3⟩, hr1, hr2⟩ := (hE_h.out.below hBw).at_ (j := k) (by rw [← hm_h.out]; exact hlt)
    have hek : es[k]? = some (κ, vv, s1, t1) := by rw [a1_h.out, List.getElem?_map, hn]; rfl
    have hln := hlE_h.out _ (List.mem_of_getElem? hn)
    obtain ⟨wo, rfl⟩ : ∃ x, x = wr := ⟨_, rfl⟩
    have hC := fun (W' : World) (hb : Below wo.heap.size wo W') => hgEdge_any κ vv B1 C1 b1 b2 s1 t1 z W' (hr1.below hb) (hr2.below hb) hln.1 hln.2 (by omega) (by omega)
    obtain ⟨p1, hp1⟩ : ∃ p1, p1 = s1.length := ⟨_, rfl⟩
    obtain ⟨r1, hr1'⟩ : ∃ r1, r1 = t1.length := ⟨_, rfl⟩
    simp only [← hp1, ← hr1'] at hC
    rw [← hp1] at d2
    rw [← hr1'] at d3
    obtain ⟨W6, hW6, bW6, k6⟩ := (⟨_, rfl, t_below_alloc _ _, heap_alloc_new _ _⟩ : ∃ W, W = wo.alloc (.cells #[.int .i64 κ, .int .i64 vv, .slice B1 p1 b1, .slice C1 r1 b2] tEd) ∧ Below wo.heap.size wo W ∧ W.heap[wo.heap.size]? = some (.cells #[.int .i64 κ, .int .i64 vv, .slice B1 p1 b1, .slice C1 r1 b2] tEd))
    have hCW := hC W6 bW6
    have hkI : (k : Int) < (m : Int) := by omega
    have kr6 := t_box_below kr bW6
    have hBW6 := below_trans hB1 bW6 hB1.size
    obtain ⟨⟨c0, c1, c2, c3⟩, f0, f1, f2, f3⟩ := t_box4 k6
    obtain ⟨⟨y0, y1, y2, y3⟩, g0, g1, g2, g3⟩ := t_box4 kr6
    obtain ⟨H, hH⟩ : ∃ H, H = hgB z (κ, vv, s1, t1) := ⟨_, rfl⟩
    rw [← hH] at hCW
    have hr1_h := lH hr1'; clear hr1' hr1 hr2 hn hln hC kr hB1 kr6; have hCW_h := lH hCW; have hek_h := lH hek; have hall_h := lH hall; have hp1_h := lH hp1; have bW6_h := lH bW6; have k6_h := lH k6; have hBW6_h := lH hBW6; have hBw_h := lH hBw; have hH_h := lH hH; clear hCW hek hall hp1 bW6 k6 hBW6 hBw hH
    go_upto_region 6 with (fail)
    rw [← hW6]
    clear hW6
    go_wp2_with (fail)
    refine (hCW_h.out).mono ?_
    rintro e w7 ⟨rfl, hb7⟩
    have hB8 := below_trans hBW6_h.out hb7 hBW6_h.out.size
    clear hb7 c0 c1 c2 c3 f0 f1 f2 f3 y0 y1 y2 y3 g0 g1 g2 g3 d0 d1 d2 d3
    cases H
    · have hf : D = false := by
       rw [hDD_h.out, show es.all (hgB z) = false from ?_]; rfl
       rw [Bool.eq_false_iff]
       intro hh
       have := List.all_eq_true.1 hh _ (List.mem_of_getElem? hek_h.out)
       rw [← hH_h.out] at this; cases this
      subst hf
      have hBz := below_trans bW_h.out hB8 bW_h.out.size
      have hB8_h := lH hB8; have hBz_h := lH hBz; clear hB8 hBz
      go_wp2_with (fail)
      go_ret
      exact ⟨rfl, hBz_h.out⟩
    · have hall2 : (es.take (k + 1)).all (hgB z) = true := by rw [List.take_add_one, hek_h.out, List.all_append, hall_h.out]; simp [← hH_h.out]
      have hB8_h := lH hB8; have hall2_h := lH hall2; clear hB8 hall2
      go_wp2_with (fail)
      go_roundw
      case rel => exact ⟨k + 1, by omega, by go_num, hall2_h.out, hB8_h.out⟩
      case measure => simp [intOf]; omega
  · obtain rfl : m = k := by omega
    rw [List.take_of_length_le (by rw [hmes_h.out]; exact Nat.le_refl _)] at hall
    have hD3 := hDD_h.out
    rw [hall, Bool.true_and] at hD3
    obtain ⟨n, rfl⟩ : ∃ n : Nat, z = (n : Int) := ⟨z.toNat, by omega⟩
    have hD4 : D = (List.range n).all fun w : Nat => (t_allW ((n : Int), es, s, t)).contains (w : Int) := by rw [hD3]; rfl
    have hinW : inW (n : Int) (t_allW ((n : Int), es, s, t)) = true := by
     have h3 : inW (n : Int) (edW es) = true := by have := hgB_all (n : Int) es; rw [hall] at this; simp at this; exact this.2
     show inW (n : Int) (s ++ (t ++ edW es)) = true
     rw [inW_append, inW_append, ← hD1_h.out, ← hD2_h.out, h3]; rfl
    have hC := hgCounts_any wr n (hG0_h.out.below hBw) hok_h.out rfl (by omega) hinW
    obtain ⟨O, hO⟩ : ∃ O, O = orgW ((n : Int), es, s, t) := ⟨_, rfl⟩
    obtain ⟨T, hT⟩ : ∃ T, T = dstW ((n : Int), es, s, t) := ⟨_, rfl⟩
    obtain ⟨L, hL⟩ : ∃ L, L = t_allW ((n : Int), es, s, t) := ⟨_, rfl⟩
    have hcz := fun k : Nat => count_zero (g := ((n : Int), es, s, t)) (k := k)
    have hOl : O.length + T.length ≤ 20000000 := by
     have h1 := out_len es
     have h2 : cntE es + s.length + t.length ≤ 8388608 := hok_h.out.2.2
     have h3 : O.length = s.length + (outW es).length := by rw [hO]; show (s ++ outW es).length = _; rw [List.length_append]
     have h4 : T.length = t.length + (inpW es).length := by rw [hT]; show (t ++ inpW es).length = _; rw [List.length_append]
     omega
    rw [← hO, ← hT] at hC
    simp only [← hO, ← hT, ← hL] at hcz
    rw [← hL] at hD4
    obtain ⟨⟨y0, y1, y2, y3⟩, g0, g1, g2, g3⟩ := t_box4 kr
    clear hall hD3 kr hB1 hinW hD_h hD1_h hD2_h hDD_h; have hC_h := lH hC; have hO_h := lH hO; have hT_h := lH hT; have hL_h := lH hL; have hcz_h := lH hcz; have hD4_h := lH hD4; have hBw_h := lH hBw; have hOl_h := lH hOl; clear hC hO hT hL hcz hD4 hBw hOl
    go_wp2_with (fail)
    refine (hC_h.out).mono ?_
    rintro e w8 ⟨A8, B8, a8, b8, rfl, hI8, hJ8, -, -, hb8⟩
    have hB9 := below_trans hBw_h.out hb8 hBw_h.out.size
    clear y0 y1 y2 y3 g0 g1 g2 g3 hb8; have hB9_h := lH hB9; clear hB9
    go_wp2_with (fail)
    go_loopw [68] (fun i wr => ∃ (k nq : Nat), k ≤ n ∧ i = .int .i64 k ∧ (∀ q : Nat, q < k → L.contains (q : Int) = true) ∧ wr = w8.drewN nq) (fun i _ => n - (intOf i).toNat)
    case atStart => exact ⟨0, 0, Nat.zero_le _, rfl, fun q hq => by omega, rfl⟩
    case round =>
     obtain ⟨k, nq, hk, rfl, hall, hwr⟩ := hrel
     by_cases hlt : k < n
     · obtain ⟨gd, rfl, hgb, hgc, -⟩ := hI8.getc hlt
       obtain ⟨jd, rfl, hjb, hjc, -⟩ := hJ8.getc hlt
       have e1 : wr.cell? (gd.add k) = some (.int .i64 (O.count (k : Int) : Int)) := by rw [hwr]; exact hgc
       have e2 : wr.cell? (jd.add k) = some (.int .i64 (T.count (k : Int) : Int)) := by rw [hwr]; exact hjc
       have l1 := count_le O (k : Int)
       have l2 := count_le T (k : Int)
       obtain ⟨x, hx⟩ : ∃ x, x = O.count (k : Int) := ⟨_, rfl⟩
       obtain ⟨y, hy⟩ : ∃ y, y = T.count (k : Int) := ⟨_, rfl⟩
       rw [← hx] at e1 l1
       rw [← hy] at e2 l2
       have hcz1 := hcz_h.out k
       rw [← hx, ← hy] at hcz1
       have hkI : (k : Int) < (n : Int) := by omega
       have hxb : x ≤ 20000000 := by have := hOl_h.out; omega
       have hyb : y ≤ 20000000 := by have := hOl_h.out; omega
       clear hgc hjc hx hy l1 l2
       by_cases hc : L.contains (k : Int) = true
       · have hne : ¬ (x = 0 ∧ y = 0) := fun h => by rw [hcz1.1 h] at hc; cases hc
         have hb0 : ((x : Int) + (y : Int) == 0) = false := by rw [beq_eq_false_iff_ne]; omega
         have hall2 : ∀ q : Nat, q < k + 1 → L.contains (q : Int) = true := fun q hq => by
          by_cases h : q < k
          · exact hall q h
          · obtain rfl : q = k := by omega
            exact hc
         clear hne hcz1 hc hall; have hall2_h := lH hall2; have hwr_h := lH hwr; have hI8_h := lH hI8; have hJ8_h := lH hJ8; clear hall2 hwr hI8 hJ8
         go_wp2_with (fail)
         go_quiet (fail)
         go_wp2_with (fail)
         go_roundw
         case rel => exact ⟨k + 1, _, by omega, by go_num, hall2_h.out, by rw [hwr_h.out]; exact World.drewN_drewN _ _ _⟩
         case measure => simp [intOf]; omega
       · have hc' : L.contains (k : Int) = false := by simpa using hc
         obtain ⟨rfl, rfl⟩ := hcz1.2 hc'
         have hf : D = false := by
          rw [hD4_h.out, Bool.eq_false_iff]
          intro hh
          have := List.all_eq_true.1 hh k (List.mem_range.2 hlt)
          rw [hc'] at this; cases this
         subst hf
         have hBf : Below w.heap.size w wr := by rw [hwr]; exact below_drewN hB9_h.out nq
         clear hcz1 hc hc' hall; have hwr_h := lH hwr; have hI8_h := lH hI8; have hJ8_h := lH hJ8; have hBf_h := lH hBf; clear hwr hI8 hJ8 hBf
         go_wp2_with (fail)
         go_quiet (fail)
         go_wp2_with (fail)
         go_ret
         exact ⟨rfl, below_drewN hBf_h.out _⟩
     · obtain rfl : n = k := by omega
       have ht : D = true := by
        rw [hD4_h.out]
        exact List.all_eq_true.2 fun q hq => hall q (List.mem_range.1 hq)
       subst ht
       have hBf : Below w.heap.size w wr := by rw [hwr]; exact below_drewN hB9_h.out nq
       clear hall; have hwr_h := lH hwr; have hI8_h := lH hI8; have hJ8_h := lH hJ8; have hBf_h := lH hBf; clear hwr hI8 hJ8 hBf
       go_wp2_with (fail)
       go_ret
       exact ⟨rfl, hBf_h.out⟩
structure OIg (w0 w : World) (A : Option Addr) (cap : Nat) (l : List Int) : Prop where
 is : IS w A cap l
 new : Fresh w0.heap.size A
 below_ : Below w0.heap.size w0 w
theorem OIg.snoc {w0 w w2 : World} {A : Option Addr} {cap : Nat} {l : List Int} (h : OIg w0 w A cap l) {o : Obj} {x : Int} {A' : Option Addr} {cap' n : Nat} (hn : n = l.length + 1) (hs' : Sl w2 tInt 1 A' n cap' (ints l ++ [.int .i64 x])) (hA' : ∀ b, b ∈ fpA A' → b ∈ fpA A ∨ (w.alloc o).heap.size ≤ b) (hk : Keeps (· ∈ fpA A) (w.alloc o) w2) : OIg w0 w2 A' cap' (l ++ [x]) := by
 subst hn
 have hb := below_trans h.below_ ((Below.refl w.heap.size w).alloc (Nat.le_refl _) o) h.below_.size
 refine ⟨?_, fun b hb' => ?_, below_keeps hb hk hb.size h.new⟩
 · unfold IS
   have : ints (l ++ [x]) = ints l ++ [.int .i64 x] := by simp [ints]
   rw [this, List.length_append]; exact hs'
 · rcases hA' b hb' with h1 | h1
   · exact h.new b h1
   · have := hb.size; omega
def gOverB (p : Int) (g : Gr) : Bool := fieldB p && (grB g && g.2.1.all fun e => decide (e.2.1 < p))
def dnAskB (p : Int) (g : Gr) : Bool := gOverB p g && g.2.1.all fun e => noDl e.1
theorem allE_no {f : Eg → Bool} {l : List Eg} {k : Nat} {e : Eg} (h : l[k]? = some e) (hn : f e = false) : l.all f = false := by
 rw [List.all_eq_false]
 exact ⟨e, List.mem_of_getElem? h, by simp [hn]⟩
theorem allE_yes {f : Eg → Bool} {l : List Eg} (h : ∀ j e, l[j]? = some e → j < l.length → f e = true) : l.all f = true := by
 rw [List.all_eq_true]
 intro n hn
 obtain ⟨j, hj⟩ := List.mem_iff_getElem?.1 hn
 exact h j n hj (List.getElem?_eq_some_iff.1 hj).1
set_option maxRecDepth 100000 in
set_option maxHeartbeats 2000000 in
theorem hgGood_any (p : Int) {v : Value} {g : Gr} (w : World) (h : RdGr w v g) (ok : OkG g) :
  Calls Tryd.prog 29 #[.int .i64 p, v] w fun e w' => e = .returned (.bool (gOverB p g)) ∧ Below w.heap.size w w' := by
 obtain ⟨A, c, hs, ⟨B, b, s⟩, ⟨C, d, t⟩, rfl, e1, e2, e3, hE, hRa, hRb⟩ := id h
 obtain ⟨z, es, s0, t0⟩ := g
 have a1 : es = hs.map egOf := e1
 have a2 : s = s0 := e2
 have a3 : t = t0 := e3
 subst a2 a3
 clear e1 e2 e3
 obtain ⟨m, hm⟩ : ∃ m, m = hs.length := ⟨_, rfl⟩
 have hmes : es.length = m := by rw [a1, List.length_map, hm]
 have hm20 : m ≤ 1048576 := by rw [← hmes]; exact ok.1.1
 change RdGr w (.agg #[.int .i64 z, .slice A hs.length c, .slice B s.length b, .slice C t.length d]) (z, es, s, t) at h
 show Calls Tryd.prog _ #[.int .i64 p, .agg #[.int .i64 z, .slice A hs.length c, .slice B s.length b, .slice C t.length d]] w _
 rw [← hm] at h ⊢
 obtain ⟨W, hW, bW, k0⟩ := (⟨_, rfl, below_alloc _ _, heap_alloc_new _ _⟩ : ∃ W, W = w.alloc (.cells #[.int .i64 z, .slice A m c, .slice B s.length b, .slice C t.length d] tGr) ∧ Below w.heap.size w W ∧ W.heap[w.heap.size]? = some (.cells #[.int .i64 z, .slice A m c, .slice B s.length b, .slice C t.length d] tGr))
 obtain ⟨⟨c0, c1, c2, c3⟩, f0, f1, f2, f3⟩ := box4 k0
 have hV := fun W' (hb : Below w.heap.size w W') => hgValid_any W' (h.below hb) ok
 have hG := fun W' => fdGood_any p W'
 obtain ⟨D, hD⟩ : ∃ D, D = gOverB p (z, es, s, t) := ⟨_, rfl⟩
 rw [← hD]
 unfold gOverB at hD
 clear h
 by_cases hf : fieldB p = true
 · simp only [hf] at hG
   rw [hf, Bool.true_and] at hD
   by_cases hg : grB (z, es, s, t) = true
   · simp only [hg] at hV
     rw [hg, Bool.true_and] at hD
     have hDD : (es.all (fun e : Eg => decide (e.2.1 < p)) = true) → D = true := fun h => by rw [hD]; exact h
     have hDN : (es.all (fun e : Eg => decide (e.2.1 < p)) = false) → D = false := fun h => by rw [hD]; exact h
     clear hf hg hD ok; have hV_h := lH hV; have hG_h := lH hG; have hm_h := lH hm; have hmes_h := lH hmes; have a1_h := lH a1; have hE_h := lH hE; have k0_h := lH k0; have bW_h := lH bW; have hDD_h := lH hDD; have hDN_h := lH hDN; clear hV hG hm hmes a1 hE k0 bW hDD hDN
     go_enter Tryd.func29, Tryd.ntmps29
     go_upto_region 1 with (fail)
     rw [← hW]
     clear hW
     go_wp2_with (fail)
     refine (hG_h.out _).mono ?_
     rintro e w' ⟨rfl, rfl⟩
     go_wp2_with (fail)
     refine (hV_h.out _ bW_h.out).mono ?_
     rintro e wq ⟨rfl, hb1⟩
     clear c0 c1 c2 c3 f0 f1 f2 f3
     have hbq := below_trans bW_h.out hb1 bW_h.out.size
     have hE := hE_h.out.below hbq
     replace k0_h := lH (box_below k0_h.out hb1)
     clear hb1; have hbq_h := lH hbq; have hE_h := lH hE; clear hbq hE
     obtain ⟨⟨c0, c1, c2, c3⟩, f0, f1, f2, f3⟩ := box4 k0_h.out
     go_wp2_with (fail)
     clear c0 c1 c2 c3 f0 f1 f2 f3
     go_loopw [18] (fun i wr => ∃ k : Nat, k ≤ m ∧ i = .int .i64 k ∧ Below wq.heap.size wq wr ∧ ∀ (j : Nat) (e : Eg), es[j]? = some e → j < k → (fun e : Eg => decide (e.2.1 < p)) e = true) (fun i _ => m - (intOf i).toNat)
     case atStart => exact ⟨0, Nat.zero_le _, rfl, Below.refl _ _, fun j e _ h => absurd h (Nat.not_lt_zero j)⟩
     case round =>
      obtain ⟨k, hk, rfl, hbr, hall⟩ := hrel
      obtain ⟨wo, rfl⟩ : ∃ x, x = wr := ⟨_, rfl⟩
      by_cases hlt : k < m
      · obtain ⟨ad, κ, v, B', b', l, C', c', mm, rfl, hx, ⟨d0, d1, d2, d3⟩, _, _⟩ := (hE_h.out.below hbr).at_ (j := k) (by rw [← hm_h.out]; exact hlt)
        have hxe : es[k]? = some (κ, v, l, mm) := by rw [a1_h.out, List.getElem?_map, hx]; rfl
        have hkI : (k : Int) < (m : Int) := by omega
        have hbo := below_trans hbq_h.out hbr hbq_h.out.size
        have hba := below_trans hbo (below_alloc wo (.cells #[.int .i64 κ, .int .i64 v, .slice B' l.length b', .slice C' mm.length c'] tEd)) hbo.size
        have hbr2 := below_trans hbr (below_alloc wo (.cells #[.int .i64 κ, .int .i64 v, .slice B' l.length b', .slice C' mm.length c'] tEd)) hbr.size
        have hnx : ∀ (e : Eg), (fun e : Eg => decide (e.2.1 < p)) (κ, v, l, mm) = true → es[k]? = some e → (fun e : Eg => decide (e.2.1 < p)) e = true := fun e he h2 => by rw [hxe] at h2; obtain rfl := Option.some.inj h2; exact he
        have hall2 : (fun e : Eg => decide (e.2.1 < p)) (κ, v, l, mm) = true → ∀ (j : Nat) (e : Eg), es[j]? = some e → j < k + 1 → (fun e : Eg => decide (e.2.1 < p)) e = true := fun he j e h2 h3 => by
         rcases Nat.lt_or_ge j k with h4 | h4
         · exact hall j e h2 h4
         · obtain rfl : j = k := by omega
           exact hnx e he h2
        clear hx hall hnx
        by_cases hv : v < p
        · have hvn : ¬ v ≥ p := by omega
          have hall3 := hall2 (decide_eq_true hv)
          clear hall2 hv; have hall3_h := lH hall3; have hbr2_h := lH hbr2; have hbr_h := lH hbr; have hba_h := lH hba; have hbo_h := lH hbo; have hxe_h := lH hxe; clear hall3 hbr2 hbr hba hbo hxe
          go_wp2_with (fail)
          go_roundw
          case rel => exact ⟨k + 1, by omega, by go_num, hbr2_h.out, hall3_h.out⟩
          case measure => simp [intOf]; omega
        · have hvn : v ≥ p := by omega
          have hfin := hDN_h.out (allE_no hxe (decide_eq_false hv))
          subst hfin
          clear hall2 hv; have hbr2_h := lH hbr2; have hbr_h := lH hbr; have hba_h := lH hba; have hbo_h := lH hbo; have hxe_h := lH hxe; clear hbr2 hbr hba hbo hxe
          go_wp2_with (fail)
          go_ret
          exact ⟨rfl, hba_h.out⟩
      · obtain rfl : m = k := by omega
        have hyes := allE_yes (f := (fun e : Eg => decide (e.2.1 < p))) (l := es) fun j e h1 h2 => hall j e h1 (by rw [← hmes_h.out]; exact h2)
        have hbo := below_trans hbq_h.out hbr hbq_h.out.size
        have hfin := hDD_h.out hyes
        subst hfin
        clear hall; have hbo_h := lH hbo; clear hbo
        go_wp2_with (fail)
        go_ret
        exact ⟨rfl, hbo_h.out⟩
   · have hg' : grB (z, es, s, t) = false := by simpa using hg
     simp only [hg'] at hV
     rw [hg', Bool.false_and] at hD
     subst hD
     clear hf hg hg' ok; have hV_h := lH hV; have hG_h := lH hG; have k0_h := lH k0; have bW_h := lH bW; have hm_h := lH hm; have hmes_h := lH hmes; have a1_h := lH a1; have hE_h := lH hE; clear hV hG k0 bW hm hmes a1 hE
     go_enter Tryd.func29, Tryd.ntmps29
     go_upto_region 1 with (fail)
     rw [← hW]
     clear hW
     go_wp2_with (fail)
     refine (hG_h.out _).mono ?_
     rintro e w' ⟨rfl, rfl⟩
     go_wp2_with (fail)
     refine (hV_h.out _ bW_h.out).mono ?_
     rintro e wq ⟨rfl, hb1⟩
     go_wp2_with (fail)
     go_ret
     exact ⟨rfl, below_trans bW_h.out hb1 bW_h.out.size⟩
 · have hf' : fieldB p = false := by simpa using hf
   simp only [hf'] at hG
   rw [hf', Bool.false_and] at hD
   subst hD
   clear hf hf' ok hV; have hG_h := lH hG; have k0_h := lH k0; have bW_h := lH bW; have hm_h := lH hm; have hmes_h := lH hmes; have a1_h := lH a1; have hE_h := lH hE; clear hG k0 bW hm hmes a1 hE
   go_enter Tryd.func29, Tryd.ntmps29
   go_upto_region 1 with (fail)
   rw [← hW]
   clear hW
   go_wp2_with (fail)
   refine (hG_h.out _).mono ?_
   rintro e w' ⟨rfl, rfl⟩
   go_wp2_with (fail)
   go_ret
   exact ⟨rfl, bW_h.out⟩
set_option maxRecDepth 100000 in
set_option maxHeartbeats 2000000 in
theorem dnAsked_any (p : Int) {v : Value} {g : Gr} (w : World) (h : RdGr w v g) (ok : OkG g) :
  Calls Tryd.prog 15 #[.int .i64 p, v] w fun e w' => e = .returned (.bool (dnAskB p g)) ∧ Below w.heap.size w w' := by
 obtain ⟨A, c, hs, ⟨B, b, s⟩, ⟨C, d, t⟩, rfl, e1, e2, e3, hE, hRa, hRb⟩ := id h
 obtain ⟨z, es, s0, t0⟩ := g
 have a1 : es = hs.map egOf := e1
 have a2 : s = s0 := e2
 have a3 : t = t0 := e3
 subst a2 a3
 clear e1 e2 e3
 obtain ⟨m, hm⟩ : ∃ m, m = hs.length := ⟨_, rfl⟩
 have hmes : es.length = m := by rw [a1, List.length_map, hm]
 have hm20 : m ≤ 1048576 := by rw [← hmes]; exact ok.1.1
 change RdGr w (.agg #[.int .i64 z, .slice A hs.length c, .slice B s.length b, .slice C t.length d]) (z, es, s, t) at h
 show Calls Tryd.prog _ #[.int .i64 p, .agg #[.int .i64 z, .slice A hs.length c, .slice B s.length b, .slice C t.length d]] w _
 rw [← hm] at h ⊢
 obtain ⟨W, hW, bW, k0⟩ := (⟨_, rfl, below_alloc _ _, heap_alloc_new _ _⟩ : ∃ W, W = w.alloc (.cells #[.int .i64 z, .slice A m c, .slice B s.length b, .slice C t.length d] tGr) ∧ Below w.heap.size w W ∧ W.heap[w.heap.size]? = some (.cells #[.int .i64 z, .slice A m c, .slice B s.length b, .slice C t.length d] tGr))
 obtain ⟨⟨c0, c1, c2, c3⟩, f0, f1, f2, f3⟩ := box4 k0
 have hV := fun W' (hb : Below w.heap.size w W') => hgGood_any p W' (h.below hb) ok
 obtain ⟨D, hD⟩ : ∃ D, D = dnAskB p (z, es, s, t) := ⟨_, rfl⟩
 rw [← hD]
 unfold dnAskB at hD
 clear h
 by_cases hg : gOverB p (z, es, s, t) = true
 · simp only [hg] at hV
   rw [hg, Bool.true_and] at hD
   have hDD : (es.all (fun e : Eg => noDl e.1) = true) → D = true := fun h => by rw [hD]; exact h
   have hDN : (es.all (fun e : Eg => noDl e.1) = false) → D = false := fun h => by rw [hD]; exact h
   clear hg hD ok; have hV_h := lH hV; have hm_h := lH hm; have hmes_h := lH hmes; have a1_h := lH a1; have hE_h := lH hE; have k0_h := lH k0; have bW_h := lH bW; have hDD_h := lH hDD; have hDN_h := lH hDN; clear hV hm hmes a1 hE k0 bW hDD hDN
   go_enter Tryd.func15, Tryd.ntmps15
   go_upto_region 1 with (fail)
   rw [← hW]
   clear hW
   go_wp2_with (fail)
   refine (hV_h.out _ bW_h.out).mono ?_
   rintro e wq ⟨rfl, hb1⟩
   clear c0 c1 c2 c3 f0 f1 f2 f3
   have hbq := below_trans bW_h.out hb1 bW_h.out.size
   have hE := hE_h.out.below hbq
   replace k0_h := lH (box_below k0_h.out hb1)
   clear hb1; have hbq_h := lH hbq; have hE_h := lH hE; clear hbq hE
   obtain ⟨⟨c0, c1, c2, c3⟩, f0, f1, f2, f3⟩ := box4 k0_h.out
   go_wp2_with (fail)
   clear c0 c1 c2 c3 f0 f1 f2 f3
   go_loopw [14] (fun i wr => ∃ k : Nat, k ≤ m ∧ i = .int .i64 k ∧ Below wq.heap.size wq wr ∧ ∀ (j : Nat) (e : Eg), es[j]? = some e → j < k → (fun e : Eg => noDl e.1) e = true) (fun i _ => m - (intOf i).toNat)
   case atStart => exact ⟨0, Nat.zero_le _, rfl, Below.refl _ _, fun j e _ h => absurd h (Nat.not_lt_zero j)⟩
   case round =>
    obtain ⟨k, hk, rfl, hbr, hall⟩ := hrel
    obtain ⟨wo, rfl⟩ : ∃ x, x = wr := ⟨_, rfl⟩
    by_cases hlt : k < m
    · obtain ⟨ad, κ, v, B', b', l, C', c', mm, rfl, hx, ⟨d0, d1, d2, d3⟩, _, _⟩ := (hE_h.out.below hbr).at_ (j := k) (by rw [← hm_h.out]; exact hlt)
      have hxe : es[k]? = some (κ, v, l, mm) := by rw [a1_h.out, List.getElem?_map, hx]; rfl
      have hkI : (k : Int) < (m : Int) := by omega
      have hbo := below_trans hbq_h.out hbr hbq_h.out.size
      have hba := below_trans hbo (below_alloc wo (.cells #[.int .i64 κ, .int .i64 v, .slice B' l.length b', .slice C' mm.length c'] tEd)) hbo.size
      have hbr2 := below_trans hbr (below_alloc wo (.cells #[.int .i64 κ, .int .i64 v, .slice B' l.length b', .slice C' mm.length c'] tEd)) hbr.size
      have hnx : ∀ (e : Eg), (fun e : Eg => noDl e.1) (κ, v, l, mm) = true → es[k]? = some e → (fun e : Eg => noDl e.1) e = true := fun e he h2 => by rw [hxe] at h2; obtain rfl := Option.some.inj h2; exact he
      have hall2 : (fun e : Eg => noDl e.1) (κ, v, l, mm) = true → ∀ (j : Nat) (e : Eg), es[j]? = some e → j < k + 1 → (fun e : Eg => noDl e.1) e = true := fun he j e h2 h3 => by
       rcases Nat.lt_or_ge j k with h4 | h4
       · exact hall j e h2 h4
       · obtain rfl : j = k := by omega
         exact hnx e he h2
      clear hx hall hnx
      have hT := fun W' => dnTimeless_any κ W'
      by_cases hv : noDl κ = true
      · simp only [hv] at hT
        have hall3 := hall2 hv
        clear hall2 hv; have hall3_h := lH hall3; have hbr2_h := lH hbr2; have hbr_h := lH hbr; have hba_h := lH hba; have hbo_h := lH hbo; have hxe_h := lH hxe; have hT_h := lH hT; clear hall3 hbr2 hbr hba hbo hxe hT
        go_wp2_with (fail)
        refine (hT_h.out _).mono ?_
        rintro e w' ⟨rfl, hw'⟩
        subst hw'
        go_wp2_with (fail)
        go_roundw
        case rel => exact ⟨k + 1, by omega, by go_num, hbr2_h.out, hall3_h.out⟩
        case measure => simp [intOf]; omega
      · have hv' : noDl κ = false := by simpa using hv
        simp only [hv'] at hT
        have hfin := hDN_h.out (allE_no hxe hv')
        subst hfin
        clear hall2 hv hv'; have hbr2_h := lH hbr2; have hbr_h := lH hbr; have hba_h := lH hba; have hbo_h := lH hbo; have hxe_h := lH hxe; have hT_h := lH hT; clear hbr2 hbr hba hbo hxe hT
        go_wp2_with (fail)
        refine (hT_h.out _).mono ?_
        rintro e w' ⟨rfl, hw'⟩
        subst hw'
        go_wp2_with (fail)
        go_ret
        exact ⟨rfl, hba_h.out⟩
    · obtain rfl : m = k := by omega
      have hyes := allE_yes (f := (fun e : Eg => noDl e.1)) (l := es) fun j e h1 h2 => hall j e h1 (by rw [← hmes_h.out]; exact h2)
      have hbo := below_trans hbq_h.out hbr hbq_h.out.size
      have hfin := hDD_h.out hyes
      subst hfin
      clear hall; have hbo_h := lH hbo; clear hbo
      go_wp2_with (fail)
      go_ret
      exact ⟨rfl, hbo_h.out⟩
 · have hg' : gOverB p (z, es, s, t) = false := by simpa using hg
   simp only [hg'] at hV
   rw [hg', Bool.false_and] at hD
   subst hD
   clear hg hg' ok; have hV_h := lH hV; have k0_h := lH k0; have bW_h := lH bW; have hm_h := lH hm; have hmes_h := lH hmes; have a1_h := lH a1; have hE_h := lH hE; clear hV k0 bW hm hmes a1 hE
   go_enter Tryd.func15, Tryd.ntmps15
   go_upto_region 1 with (fail)
   rw [← hW]
   clear hW
   go_wp2_with (fail)
   refine (hV_h.out _ bW_h.out).mono ?_
   rintro e wq ⟨rfl, hb1⟩
   go_wp2_with (fail)
   go_ret
   exact ⟨rfl, below_trans bW_h.out hb1 bW_h.out.size⟩
end Go.Proofs.YtpkmjenoniedjaaDoor
namespace Go.Proofs.YtpkmjenoniedjaaDoor
def sumA (at_ v : List Int) (w : Nat) : Nat → Int
 | 0 => 0
 | k + 1 => sumA at_ v w k + if (at_.getD k 0).toNat = w then v.getD k 0 else 0
theorem sprTo_at {p : Int} (n : Nat) (at_ v : List Int) {w : Nat} (hw : w < n) : ∀ k, (sprTo p n at_ v k).getD w 0 = sumA at_ v w k % p
 | 0 => by simp [sprTo, sumA, List.getD, hw]
 | k + 1 => by
   have ih := sprTo_at (p := p) n at_ v hw k
   have hl := sprTo_length p n at_ v k
   unfold sprTo sumA
   rw [List.getD_eq_getElem?_getD, List.getElem?_set]
   by_cases e : (at_.getD k 0).toNat = w
   · subst e
     rw [if_pos rfl, if_pos (by rw [hl]; exact hw), if_pos rfl, ih]
     simp only [Option.getD_some]
     exact Int.emod_add_emod _ _ _
   · rw [if_neg e, if_neg e, Int.add_zero, ← List.getD_eq_getElem?_getD, ih]
theorem sprV_eq {p : Int} (n : Nat) (at_ v : List Int) : sprV p n at_ v = (List.range n).map fun w => sumA at_ v w at_.length % p := by
 unfold sprV
 apply List.ext_getElem?
 intro i
 by_cases hi : i < n
 · have := sprTo_at (p := p) n at_ v hi at_.length
   rw [List.getD_eq_getElem?_getD, List.getElem?_eq_getElem (by rw [sprTo_length]; exact hi)] at this
   rw [List.getElem?_eq_getElem (by rw [sprTo_length]; exact hi), List.getElem?_map, List.getElem?_range hi]
   exact congrArg some this
 · rw [List.getElem?_eq_none (by rw [sprTo_length]; omega), List.getElem?_eq_none (by simp; omega)]
def coefP (one : Int) (others : List Int) (b : Int) (w : Int) : Int := (if w = one then 1 else 0) + b * others.count w
def rowP (p : Int) (n : Nat) (one : Int) (others : List Int) (b : Int) : List Int := (List.range n).map fun w : Nat => coefP one others b (w : Int) % p
theorem rowP_zero {p : Int} {n : Nat} {o : Int} (ho : 0 ≤ o) (b : Int) : rowP p n o [] b = sprV p n [o] [1] := by
 rw [sprV_eq]
 refine List.map_congr_left fun w _ => ?_
 simp only [coefP, sumA, List.length_cons, List.length_nil, List.count_nil, List.getD_cons_zero]
 congr 1
 have : o.toNat = w ↔ (w : Int) = o := by omega
 by_cases h : (w : Int) = o
 · rw [if_pos h, if_pos (this.2 h)]; simp
 · rw [if_neg h, if_neg fun x => h (this.1 x)]; simp
theorem rowP_one {p : Int} {n : Nat} {o x : Int} (ho : 0 ≤ o) (hx : 0 ≤ x) (b c : Int) (hc : c % p = b % p) : rowP p n o [x] b = sprV p n [o, x] [1, c] := by
 rw [sprV_eq]
 refine List.map_congr_left fun w _ => ?_
 simp only [coefP, sumA, List.length_cons, List.length_nil, List.getD_cons_zero, List.getD_cons_succ, List.count_cons, List.count_nil]
 have h1 : o.toNat = w ↔ (w : Int) = o := by omega
 have h2 : x.toNat = w ↔ (x == (w : Int)) = true := by rw [beq_iff_eq]; omega
 have e1 : (if o.toNat = w then (1 : Int) else 0) = if (w : Int) = o then 1 else 0 := by simp only [h1]
 have e2 : (if x.toNat = w then c else 0) = if (x == (w : Int)) = true then c else 0 := by simp only [h2]
 rw [e1, e2]
 by_cases h : (x == (w : Int)) = true
 · rw [if_pos h, if_pos h]
   simp only [Nat.zero_add, Int.zero_add, Int.natCast_one, Int.mul_one]
   rw [Int.add_emod, ← hc, ← Int.add_emod]
 · rw [if_neg h, if_neg h]
   simp
theorem rowP_two {p : Int} {n : Nat} {o x y : Int} (ho : 0 ≤ o) (hx : 0 ≤ x) (hy : 0 ≤ y) (b c : Int) (hc : c % p = b % p) : rowP p n o [x, y] b = sprV p n [o, x, y] [1, c, c] := by
 rw [sprV_eq]
 refine List.map_congr_left fun w _ => ?_
 simp only [coefP, sumA, List.length_cons, List.length_nil, List.getD_cons_zero, List.getD_cons_succ, List.count_cons, List.count_nil]
 have h1 : o.toNat = w ↔ (w : Int) = o := by omega
 have h2 : x.toNat = w ↔ (x == (w : Int)) = true := by rw [beq_iff_eq]; omega
 have h3 : y.toNat = w ↔ (y == (w : Int)) = true := by rw [beq_iff_eq]; omega
 have e1 : (if o.toNat = w then (1 : Int) else 0) = if (w : Int) = o then 1 else 0 := by simp only [h1]
 have e2 : (if x.toNat = w then c else 0) = if (x == (w : Int)) = true then c else 0 := by simp only [h2]
 have e3 : (if y.toNat = w then c else 0) = if (y == (w : Int)) = true then c else 0 := by simp only [h3]
 rw [e1, e2, e3]
 have k1 : ∀ a : Int, (a + c) % p = (a + b) % p := fun a => by rw [Int.add_emod, hc, ← Int.add_emod]
 by_cases h : (x == (w : Int)) = true
 · by_cases h' : (y == (w : Int)) = true
   · rw [if_pos h, if_pos h', if_pos h, if_pos h']
     simp only [Nat.zero_add, Int.zero_add]
     rw [k1, Int.add_right_comm, k1]
     congr 1
     generalize (if (w : Int) = o then (1 : Int) else 0) = a
     show a + b * ((1 + 1 : Nat) : Int) = a + b + b
     rw [show ((1 + 1 : Nat) : Int) = 2 from rfl]
     omega
   · rw [if_pos h, if_neg h', if_pos h, if_neg h']
     simp only [Nat.zero_add, Int.zero_add, Int.add_zero, Int.natCast_one, Int.mul_one]
     exact (k1 _).symm
 · by_cases h' : (y == (w : Int)) = true
   · rw [if_neg h, if_pos h', if_neg h, if_pos h']
     simp only [Nat.zero_add, Nat.add_zero, Int.zero_add, Int.add_zero, Int.natCast_one, Int.mul_one]
     exact (k1 _).symm
   · rw [if_neg h, if_neg h', if_neg h, if_neg h']
     simp
def rowsE (e : Eg) : List (Int × List Int × Int) :=
 if efK e = 3 then [((efO e).getD 0 0, efI e, -1), ((efO e).getD 1 0, efI e, -1)]
 else if efK e = 5 then [((efO e).getD 0 0, efI e, -1)]
 else if efK e = 6 then [((efO e).getD 0 0, [], 0)]
 else if efK e = 7 then [((efO e).getD 0 0, efI e, -e.2.1)]
 else []
theorem coefP_out {one : Int} {others : List Int} {b w : Int} (h1 : w ≠ one) (h2 : w ∉ others) : coefP one others b w = 0 := by
 unfold coefP
 rw [if_neg h1, List.count_eq_zero.2 h2]
 simp
def padR (V : Nat) (r : List Int) : List Int := List.replicate V 0 ++ r
theorem padR_len (V : Nat) (r : List Int) : (padR V r).length = V + r.length := by simp [padR]
def ranR (p : Int) (V n : Nat) (K : List Int) (H : Int → Int) (L : Int → Bool) : List Int := padR V ((List.range n).map fun w : Nat => if (w : Int) ∈ K ∧ L (w : Int) = false then H (w : Int) % p else 0)
theorem ranR_len (p : Int) (V n : Nat) (K : List Int) (H : Int → Int) (L : Int → Bool) : (ranR p V n K H L).length = V + n := by simp [ranR, padR]
theorem ranR_start {p : Int} {V n : Nat} {K : List Int} {H : Int → Int} {L : Int → Bool} (h : ∀ x, x ∈ K → L x = true) : ranR p V n K H L = List.replicate (V + n) 0 := by
 unfold ranR padR
 rw [← List.replicate_append_replicate]
 congr 1
 refine List.ext_getElem? fun i => ?_
 rw [List.getElem?_map, List.getElem?_replicate]
 by_cases hi : i < n
 · rw [List.getElem?_range hi, if_pos hi, Option.map_some, if_neg]
   rintro ⟨h1, h2⟩
   rw [h _ h1] at h2
   cases h2
 · rw [if_neg hi, List.getElem?_eq_none (by simpa using hi)]
   rfl
theorem ranR_step {p : Int} {V n : Nat} {K : List Int} {H : Int → Int} {L : Int → Bool} {x : Int} (hx : x ∈ K) (h0 : 0 ≤ x) (hn : x < (n : Int)) : ranR p V n K H (fun z => L z && !decide (z = x)) = (ranR p V n K H L).set (V + x.toNat) (H x % p) := by
 unfold ranR padR
 rw [List.set_append_right _ _ (by simp)]
 congr 1
 rw [List.length_replicate, Nat.add_sub_cancel_left]
 refine List.ext_getElem? fun i => ?_
 rw [List.getElem?_set, List.getElem?_map]
 by_cases hi : i < n
 · rw [List.getElem?_map, List.getElem?_range hi, Option.map_some]
   by_cases e : x.toNat = i
   · have ei : (i : Int) = x := by omega
     have hlt : x.toNat < (List.map (fun w : Nat => if (w : Int) ∈ K ∧ L (w : Int) = false then H (w : Int) % p else 0) (List.range n)).length := by rw [List.length_map, List.length_range]; omega
     rw [if_pos e, if_pos hlt, ei, if_pos ⟨hx, by simp⟩]
   · have ei : (i : Int) ≠ x := by omega
     rw [if_neg e, Option.map_some]
     simp [ei]
 · rw [List.getElem?_map, List.getElem?_eq_none (by simpa using hi)]
   rw [if_neg (by omega)]
   rfl
theorem ranR_end {p : Int} {V n : Nat} {K : List Int} {one : Int} {others : List Int} {b : Int} {L : Int → Bool} (hK : ∀ x, x ∈ K ↔ x = one ∨ x ∈ others) (h : ∀ x, L x = false) : ranR p V n K (coefP one others b) L = padR V (rowP p n one others b) := by
 unfold ranR rowP
 congr 1
 refine List.map_congr_left fun w _ => ?_
 by_cases e : (w : Int) ∈ K
 · rw [if_pos ⟨e, h _⟩]
 · rw [if_neg fun hh => e hh.1]
   have : ¬ ((w : Int) = one ∨ (w : Int) ∈ others) := fun hh => e ((hK _).2 hh)
   rw [coefP_out (fun h1 => this (.inl h1)) (fun h1 => this (.inr h1))]
   simp
def endR (p : Int) (V n k : Nat) (w : Int) : List Int := sprV p (V + n) [(k : Int), (V : Int) + w] [1, p - 1]
theorem endR_len (p : Int) (V n k : Nat) (w : Int) : (endR p V n k w).length = V + n := sprTo_length _ _ _ _ _
def endTo (p : Int) (V n : Nat) (ends : List Int) (k : Nat) : List (List Int) := (List.range k).map fun i => endR p V n i (ends.getD i 0)
theorem endTo_succ (p : Int) (V n : Nat) (ends : List Int) (k : Nat) : endTo p V n ends (k + 1) = endTo p V n ends k ++ [endR p V n k (ends.getD k 0)] := by simp [endTo, List.range_succ]
theorem endTo_len (p : Int) (V n : Nat) (ends : List Int) (k : Nat) : (endTo p V n ends k).length = k := by simp [endTo]
def edR (p : Int) (V n : Nat) (e : Eg) : List (List Int) := (dnRowsM p n e).map (padR V)
def sysRows (p : Int) (n : Nat) (ends : List Int) (es : List Eg) : List (List Int) := endTo p ends.length n ends ends.length ++ es.flatMap (edR p ends.length n)
def sysV (p : Int) (g : Gr) : Sys := (((g.2.2.1 ++ g.2.2.2).length : Int), g.1, sysRows p g.1.toNat (g.2.2.1 ++ g.2.2.2) g.2.1)
def sgM (p : Int) (g : Gr) : Sys × Bool := if dnAskB p g then (sysV p g, true) else ((0, 0, []), false)
theorem sgM_no {p : Int} {g : Gr} (h : dnAskB p g = false) : sgM p g = ((0, 0, []), false) := by unfold sgM; rw [h]; rfl
theorem sgM_yes {p : Int} {g : Gr} (h : dnAskB p g = true) : sgM p g = (sysV p g, true) := by unfold sgM; rw [if_pos h]
theorem endR_prog {p : Int} {V n k : Nat} {w : Int} (hp : 2 ≤ p) (hk : k < V) (h0 : 0 ≤ w) (hw : w < (n : Int)) : ((List.replicate (V + n) (0 : Int)).set k 1).set (V + w.toNat) (p - 1) = endR p V n k w := by
 unfold endR
 rw [sprV_eq]
 refine List.ext_getElem? fun i => ?_
 rw [List.getElem?_set, List.getElem?_set, List.getElem?_map, List.getElem?_replicate]
 by_cases hi : i < V + n
 · rw [List.getElem?_range hi, Option.map_some]
   simp only [sumA, List.length_cons, List.length_nil, List.length_set, List.length_replicate, List.getD_cons_zero, List.getD_cons_succ]
   have e1 : ((k : Int)).toNat = k := by omega
   have e2 : ((V : Int) + w).toNat = V + w.toNat := by omega
   rw [e1, e2]
   by_cases h1 : V + w.toNat = i
   · rw [if_pos h1, if_pos (by omega), if_neg (show ¬ k = i by omega), if_pos h1]
     rw [Int.emod_eq_of_lt (by omega) (by omega)]
     congr 1
     omega
   · by_cases h2 : k = i
     · rw [if_neg h1, if_pos h2, if_pos (by omega), if_pos h2, if_neg h1]
       rw [Int.emod_eq_of_lt (by omega) (by omega)]
       congr 1
     · rw [if_neg h1, if_neg h2, if_pos hi, if_neg h2, if_neg h1]
       simp
 · rw [List.getElem?_eq_none (by simpa using hi), if_neg (show ¬ i < V + n from hi)]
   by_cases h1 : V + w.toNat = i
   · omega
   · rw [if_neg h1]
     by_cases h2 : k = i
     · omega
     · rw [if_neg h2]
       rfl
open Go.RowKit
theorem coefP_step (one : Int) (l : List Int) (b x : Int) : setN (coefP one l b) x (coefP one l b x + b) = coefP one (l ++ [x]) b := by
 funext z
 unfold setN coefP
 rw [List.count_append]
 by_cases e : z = x
 · subst e
   rw [if_pos rfl, List.count_singleton_self, Int.natCast_add, Int.mul_add, Int.natCast_one, Int.mul_one, Int.add_assoc]
 · rw [if_neg e, List.count_singleton]
   have : (x == z) = false := beq_eq_false_iff_ne.2 fun h => e h.symm
   rw [this]
   simp
theorem coefP_zero (one b : Int) : setN (fun _ => 0) one 1 = coefP one [] b := by
 funext z
 unfold setN coefP
 simp
theorem coefP_le {one : Int} {l : List Int} {b z : Int} (hl : l.length ≤ 2) (hb : -100 ≤ b ∧ b ≤ 100) : -1000 ≤ coefP one l b z ∧ coefP one l b z ≤ 1000 := by
 unfold coefP
 have hc := List.count_le_length (a := z) (l := l)
 obtain ⟨c, hce⟩ : ∃ c, List.count z l = c := ⟨_, rfl⟩
 rw [hce] at hc ⊢
 have h3 : c = 0 ∨ c = 1 ∨ c = 2 := by omega
 split <;> rcases h3 with rfl | rfl | rfl <;> simp <;> omega
def RowR (one : Int) (others : List Int) (b : Int) (w : World) (e : Ending) (w' : World) : Prop :=
 ∃ (mb nb : Nat) (K : List Int), e = .returned (.map (some mb)) ∧ MN w' mb nb K (coefP one others b) ∧ (∀ x, x ∈ K ↔ x = one ∨ x ∈ others) ∧ w.heap.size ≤ mb ∧ Below w.heap.size w w'
set_option maxRecDepth 100000 in
set_option maxHeartbeats 4000000 in
theorem edgeRow_any (one b : Int) (others : List Int) (B : Option Addr) (q cb : Nat) (w : World) (hB : RdI w B others) (hq : others.length = q) (hq2 : q ≤ 2) (h1 : 0 ≤ one ∧ one < 100) (ho : ∀ x, x ∈ others → 0 ≤ x ∧ x < 100) (hb : -100 ≤ b ∧ b ≤ 100) :
  Calls Tryd.prog 52 #[.int .i64 one, .slice B q cb, .int .i64 b] w (RowR one others b w) := by
 have hw1 : (Lit.int .i64 one).wf = true := WalkArith.wf_i64 (by omega)
 have hM0 := MN.made w
 have b0 : Below w.heap.size w (w.alloc (.map #[] 0)) := t_below_alloc _ _
 have hbz := coefP_zero one b
 have hmm := @run_makeMap Tryd.prog
 have hB_h := lH hB; have hq_h := lH hq; have ho_h := lH ho; have hM0_h := lH hM0; have b0_h := lH b0; have hbz_h := lH hbz; clear hB hq ho hM0 b0 hbz
 go_enter Tryd.func52, Tryd.ntmps52
 go_wp2_with (refine wp_mn_ins rfl _ _ _ rfl rfl hM0_h.out (by unfold maxLen; omega) one rfl hw1 1 rfl (WalkArith.wf_i64 (by omega)) ?_; intro w1 hM1 hk1)
 have hM2 : MN w1 w.heap.size 1 [one] (coefP one [] b) := by
  rw [← hbz_h.out]
  exact hM1
 have hb1 : Below w.heap.size w w1 := below_keeps b0_h.out hk1 b0_h.out.size (fun k hk => by rw [hk]; exact Nat.le_refl _)
 clear hM1 hk1 hmm; have hM2_h := lH hM2; have hb1_h := lH hb1; clear hM2 hb1
 go_wp2_with (fail)
 go_loopw [15] (fun i wr => ∃ (k nb : Nat) (K : List Int), k ≤ q ∧ nb ≤ k + 1 ∧ i = .int .i64 (k : Int) ∧ MN wr w.heap.size nb K (coefP one (others.take k) b) ∧ (∀ x, x ∈ K ↔ x = one ∨ x ∈ others.take k) ∧ Below w.heap.size w wr) (fun i _ => q - (intOf i).toNat)
 case atStart => exact ⟨0, 1, [one], Nat.zero_le _, by omega, rfl, hM2_h.out, fun x => by simp, hb1_h.out⟩
 case round =>
  clear hM2_h hb1_h
  obtain ⟨k, nb, K, hk, hnb, rfl, hM, hK, hbw⟩ := hrel
  obtain ⟨wo, rfl⟩ : ∃ x, x = wr := ⟨_, rfl⟩
  by_cases hlt : k < q
  · have hkl : k < others.length := by have := hq_h.out; omega
    obtain ⟨x, hx⟩ : ∃ x, others[k]? = some x := ⟨_, List.getElem?_eq_getElem hkl⟩
    have hxb := ho_h.out x (List.mem_of_getElem? hx)
    obtain ⟨ad, rfl, p1⟩ := (hB_h.out.below hbw) k x hx
    have hwx : (Lit.int .i64 x).wf = true := WalkArith.wf_i64 (by omega)
    have htk : others.take (k + 1) = others.take k ++ [x] := by rw [List.take_add_one, hx]; rfl
    obtain ⟨y, hy⟩ : ∃ y, coefP one (others.take k) b x = y := ⟨_, rfl⟩
    have hyb : -1000 ≤ y ∧ y ≤ 1000 := by rw [← hy]; exact coefP_le (by rw [List.length_take]; have := hq_h.out; omega) hb
    obtain ⟨hyb1, hyb2⟩ := hyb
    obtain ⟨hb1, hb2⟩ := hb
    have hwy : (Lit.int .i64 (y + b)).wf = true := WalkArith.wf_i64 (by omega)
    have hkI : (k : Int) < (q : Int) := by omega
    clear hkl; have hM_h := lH hM; have hK_h := lH hK; have hbw_h := lH hbw; have hx_h := lH hx; have hy_h := lH hy; have htk_h := lH htk; have hxb_h := lH hxb; clear hM hK hbw hx hy htk hxb
    go_wp2_with (first | (refine wp_mn_get rfl _ _ rfl rfl hM_h.out x rfl hwx y hy_h.out ?_) | (refine wp_mn_put rfl _ _ _ rfl rfl hM_h.out (by unfold maxLen; omega) x rfl hwx (y + b) rfl hwy ?_; intro w2 hM2 hk2))
    have hM3 : MN w2 w.heap.size (nb + 1) (addQ K x) (coefP one (others.take (k + 1)) b) := by
     rw [htk_h.out, ← coefP_step, hy_h.out]
     exact hM2
    have hb3 : Below w.heap.size w w2 := below_keeps hbw_h.out hk2 hbw_h.out.size (fun z hz => by rw [hz]; exact Nat.le_refl _)
    have hK3 : ∀ z, z ∈ addQ K x ↔ z = one ∨ z ∈ others.take (k + 1) := fun z => by
     rw [mem_addQ, hK_h.out, htk_h.out, List.mem_append, List.mem_singleton, or_assoc]
    clear hM2 hk2; have hM3_h := lH hM3; have hb3_h := lH hb3; have hK3_h := lH hK3; clear hM3 hb3 hK3
    go_wp2_with (fail)
    go_roundw
    case rel => exact ⟨k + 1, nb + 1, _, by omega, by omega, by go_num, hM3_h.out, hK3_h.out, hb3_h.out⟩
    case measure => simp [intOf]; omega
  · obtain rfl : q = k := by omega
    have htk : others.take q = others := List.take_of_length_le (by rw [hq_h.out]; exact Nat.le_refl _)
    rw [htk] at hM hK
    clear htk; have hM_h := lH hM; have hK_h := lH hK; have hbw_h := lH hbw; clear hM hK hbw
    go_wp2_with (fail)
    go_ret
    exact ⟨w.heap.size, nb, K, rfl, hM_h.out, hK_h.out, Nat.le_refl _, hbw_h.out⟩
end Go.Proofs.YtpkmjenoniedjaaDoor
