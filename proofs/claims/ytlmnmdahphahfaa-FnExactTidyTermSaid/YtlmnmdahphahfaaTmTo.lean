/-
  THE WALK: treeOf of the program; a tree as a value.
-/
import Derived.Test.YtlmnmdahphahfaaTmWj
import Derived.Test.YtlmnmdahphahfaaRegC
namespace Go.Proofs.Ytlmnmdahphahfaa
open Go.RowKit

theorem add_suc (a : Addr) (q : Nat) : a.add (q + 1) = ⟨a.block, a.off + (q + 1), none⟩ := by unfold Addr.add; simp
abbrev tTree : TypeId := 66
abbrev tLeafT : TypeId := 104
abbrev tSeqT : TypeId := 101
abbrev tParT : TypeId := 102
def tTy (p : Bool) : TypeId := if p then tParT else tSeqT
def trV : Tr → Value
  | .leaf n => .iface tLeafT (.agg #[.int .i64 n.1, .int .i64 n.2.1, .string n.2.2])
  | .node p a b => .iface (tTy p) (.agg #[trV a, trV b])
theorem info_tree : (Try.prog.info? tTree).map (fun i => (i.zero, i.size, i.bytes)) = some (some .nilIface, 1, 16) := by kernel_rfl
theorem trV_one (t : Tr) : (trV t).oneCell' = true := by cases t <;> rfl
theorem trV_iface (t : Tr) : ∃ T v, trV t = .iface T v := by cases t <;> exact ⟨_, _, rfl⟩
theorem trV_cells (t : Tr) : (trV t).cells = #[trV t] := by cases t <;> rfl
/-- A stack's cells, the bottom first. -/
def tvs (st : List Tr) : List Value := (st.map trV).reverse
@[simp] theorem tvs_length (st : List Tr) : (tvs st).length = st.length := by simp [tvs]
theorem tvs_cons (t : Tr) (r : List Tr) : tvs (t :: r) = tvs r ++ [trV t] := by simp [tvs]
theorem tvs_top (t : Tr) (r : List Tr) {q : Nat} (h : r.length = q) : (tvs (t :: r))[q]? = some (trV t) := by
  rw [tvs_cons, List.getElem?_append_right (by simp; omega)]; simp [h]
theorem tvs_top2 (b a : Tr) (r : List Tr) {q : Nat} (h : r.length = q) : (tvs (b :: a :: r))[q]? = some (trV a) := by
  rw [tvs_cons, List.getElem?_append_left (by simp; omega)]; exact tvs_top a r h
theorem tvs_take (b a : Tr) (r : List Tr) {q : Nat} (h : r.length = q) : (tvs (b :: a :: r)).take q = tvs r := by
  rw [tvs_cons, tvs_cons, List.append_assoc, List.take_append_of_le_length (by simp; omega), List.take_of_length_le (by simp; omega)]
/-- What the stack machine takes next. -/
theorem parse_next {l : List Nd} {st : List Tr} {k : Nat} {n : Nd} {u : List Tr} (hp : parse [] (l.take k) = some st) (hn : l[k]? = some n) (hl : parse [] l = some u) : ∃ st', stepT st n = some st' ∧ parse [] (l.take (k + 1)) = some st' := by
  have h1 : l.take (k + 1) = l.take k ++ [n] := by rw [List.take_add_one, hn]; rfl
  have h2 : parse [] (l.take (k + 1)) = stepT st n := by rw [h1, parse_snoc, hp]; rfl
  cases h : stepT st n with
  | some st' => exact ⟨st', rfl, by rw [h2, h]⟩
  | none =>
    rw [h] at h2
    have h3 := parse_append (l.take (k + 1)) (l.drop (k + 1)) []
    rw [List.take_append_drop, h2, hl] at h3
    cases h3
theorem treeM_parse {l : List Nd} {t : Tr} (h : treeM l = some t) : parse [] l = some [t] := by
  unfold treeM at h
  split at h
  · split at h
    · rename_i t' hp; rw [hp, Option.some.inj h]
    · cases h
  · cases h
/-- What holds at each round's head. -/
structure ToR (B : Nat) (w : World) (l : List Nd) (k : Nat) (st : List Tr) (A1 : Option Addr) (c1 : Nat) (wr : World) : Prop where
  par : parse [] (l.take k) = some st
  sl : Sl wr tTree 1 A1 st.length c1 (tvs st)
  fr : ∀ b, b ∈ fpA A1 → B ≤ b
  bel : Below B w wr

theorem step_two {st st' : List Tr} {n : Nd} (hj : isJoin n) (h : stepT st n = some st') : ∃ b a r, st = b :: a :: r ∧ st' = .node (decide (n.1 = 16)) a b :: r := by
  unfold stepT at h
  rw [if_pos hj] at h
  match st, h with
  | b :: a :: r, h =>
    simp only at h
    split at h
    · exact ⟨b, a, r, rfl, (Option.some.inj h).symm⟩
    · cases h
theorem leaf_step {st st' : List Tr} {n : Nd} (hj : ¬ isJoin n) (h : stepT st n = some st') : st' = .leaf n :: st := by
  unfold stepT at h
  rw [if_neg hj] at h
  split at h
  · exact (Option.some.inj h).symm
  · cases h
theorem ToR.push {B : Nat} {w X w2 : World} {l : List Nd} {k : Nat} {t : Tr} {r : List Tr} {A1 A2 : Option Addr} {c2 n2 : Nat} {xs : List Value} (hbel : Below B w X) (hB : B ≤ X.heap.size) (hfr : ∀ b, b ∈ fpA A1 → B ≤ b)
    (hp : parse [] (l.take (k + 1)) = some (t :: r)) (hn : n2 = r.length) (hx : xs = tvs r) (hs : Sl w2 tTree 1 A2 (n2 + 1) c2 (xs ++ #[trV t].toList)) (hA : ∀ b, b ∈ fpA A2 → b ∈ fpA A1 ∨ X.heap.size ≤ b) (hk : Keeps (· ∈ fpA A1) X w2) : ToR B w l (k + 1) (t :: r) A2 c2 w2 := by
  subst hx hn
  refine ⟨hp, ?_, fun b hb => ?_, below_keeps hbel hk hB (fun b hb => hfr b hb)⟩
  · rw [tvs_cons]; exact hs
  · rcases hA b hb with h | h
    · exact hfr b h
    · omega

set_option maxRecDepth 8000 in
set_option maxHeartbeats 4000000 in
theorem treeOf_any (A : Option Addr) (m c : Nat) (l : List Nd) (t : Tr) (w : World) (hm : m = l.length) (hT : treeM l = some t) (h : RdN w A l) :
    Calls Try.prog 51 #[.slice A m c] w fun e w' => e = .returned (trV t) ∧ Below w.heap.size w w' := by
  have hpl := treeM_parse hT
  have hm4 : m ≤ 400 := by rw [hm, (treeM_some hT).1]; exact (treeM_some hT).2.2
  have hm1 : 1 ≤ m := by rw [hm, (treeM_some hT).1]; exact sz_pos t
  obtain ⟨W, hW⟩ : ∃ W, W = w.alloc (.cells #[] tTree) := ⟨_, rfl⟩
  have hsl0 := Sl.laid w tTree 1 0 #[] (by unfold maxLen; omega) rfl
  have b0 := below_alloc w (.cells #[] tTree)
  rw [← hW] at hsl0 b0
  have hR0 : ToR w.heap.size w l 0 [] (some ⟨w.heap.size, 0, none⟩) 0 W := ⟨by simp [parse], by simpa [tvs] using hsl0, fun b hb => by simp at hb; omega, b0⟩
  obtain ⟨V, hV⟩ : ∃ V, V = trV t := ⟨_, rfl⟩
  rw [← hV]
  clear hsl0 b0
  have hpl_h := Lib.hid hpl
  have hm_h := Lib.hid hm
  have hR0_h := Lib.hid hR0
  have hT_h := Lib.hid hT
  have hV_h := Lib.hid hV
  clear hpl hm hR0 hT hV
  go_enter Try.func51, Try.ntmps51
  go_wp2_with (fail)
  rw [← hW]
  clear hW
  go_loopw [3, 10] (fun sv iv wr => ∃ (k : Nat) (st : List Tr) (A1 : Option Addr) (c1 n1 : Nat), k ≤ m ∧ iv = .int .i64 k ∧ sv = .slice A1 n1 c1 ∧ n1 = st.length ∧ n1 ≤ k ∧ ToR w.heap.size w l k st A1 c1 wr) (fun _ iv _ => m - (intOf iv).toNat)
  case atStart => exact ⟨0, [], _, 0, 0, Nat.zero_le _, rfl, rfl, rfl, Nat.le_refl _, hR0_h.out⟩
  case round =>
    obtain ⟨k, st, A1, c1, n1, hk, rfl, rfl, hn1, hnk, hR⟩ := hrel
    clear hR0_h
    by_cases hlt : k < m
    · obtain ⟨ad, κ, v, s, rfl, hn, d0, d1, d2⟩ := (h.below hR.bel).at_ (j := k) (by rw [← hm_h.out]; exact hlt)
      obtain ⟨st', hst, hp'⟩ := parse_next hR.par hn hpl_h.out
      have hkI : (k : Int) < (m : Int) := by omega
      obtain ⟨W1, hW1⟩ : ∃ W1, W1 = wr.alloc (.cells #[.int .i64 κ, .int .i64 v, .string s] tNd) := ⟨_, rfl⟩
      have b1 := below_alloc wr (.cells #[.int .i64 κ, .int .i64 v, .string s] tNd)
      have k1 := heap_alloc_new wr (.cells #[.int .i64 κ, .int .i64 v, .string s] tNd)
      rw [← hW1] at b1 k1
      have hbel1 := below_trans hR.bel b1 hR.bel.size
      have hsl1 := hR.sl.below b1
      have hfr := hR.fr
      obtain ⟨⟨x0, x1, x2⟩, x3, x4, x5⟩ := box3 k1
      by_cases hj : κ = 15 ∨ κ = 16
      · obtain ⟨p0, hp0⟩ : ∃ p0, κ = kd p0 := by
          rcases hj with h | h
          · exact ⟨false, h⟩
          · exact ⟨true, h⟩
        have hji : isJoin (κ, v, s) := hj
        obtain ⟨b, a, r, rfl, rfl⟩ := step_two hji hst
        have hdec : decide ((κ, v, s).1 = 16) = p0 := by rw [hp0]; cases p0 <;> rfl
        rw [hdec] at hp'
        obtain ⟨q, hq⟩ : ∃ q, r.length = q := ⟨_, rfl⟩
        obtain rfl : n1 = q + 2 := by rw [hn1]; simp [hq]
        rw [← hn1] at hsl1
        clear hst
        have hst := Sl.take hsl1 (k := q) (by omega)
        rw [Nat.mul_one, tvs_take b a r hq] at hst
        obtain ⟨ad1, rfl, -, y0, -⟩ := Sl.cell hsl1 (tvs_top2 b a r hq)
        obtain ⟨ad2, e2, -, y1, -⟩ := Sl.cell hsl1 (tvs_top b (a :: r) (q := q + 1) (by simp [hq]))
        obtain rfl := Option.some.inj e2
        have hcq := hsl1.2.1
        have hnod : trV (.node p0 a b) = .iface (tTy p0) (.agg #[trV a, trV b]) := rfl
        obtain ⟨ta, pa, hva⟩ := trV_iface a
        obtain ⟨tb, pb, hvb⟩ := trV_iface b
        rw [hva, hvb] at hnod
        rw [hva] at y0
        rw [hvb] at y1
        have hone : ∀ u ∈ (#[trV (.node p0 a b)] : Array Value).toList, u.oneCell' = true := fun u hu => by rw [List.mem_singleton.1 hu]; exact trV_one _
        rw [hnod] at hone
        clear hR hn1 hj hji hdec
        cases p0
        · obtain rfl : κ = 15 := hp0
          have hnod' : trV (.node false a b) = .iface tSeqT (.agg #[.iface ta pa, .iface tb pb]) := hnod
          have hone' : ∀ u ∈ (#[.iface tSeqT (.agg #[.iface ta pa, .iface tb pb])] : Array Value).toList, u.oneCell' = true := hone
          have hp'_h := Lib.hid hp'
          have hbel1_h := Lib.hid hbel1
          have hsl1_h := Lib.hid hsl1
          have hst_h := Lib.hid hst
          have hfr_h := Lib.hid hfr
          have hq_h := Lib.hid hq
          have hva_h := Lib.hid hva
          have hvb_h := Lib.hid hvb
          have hnod'_h := Lib.hid hnod'
          have hone'_h := Lib.hid hone'
          have hn_h := Lib.hid hn
          have y0_h := Lib.hid y0
          have y1_h := Lib.hid y1
          clear hp' hbel1 hsl1 hst hfr hq hva hvb hnod' hone' hn y0 y1
          clear hnod hone b1 k1
          go_wp2_with (fail)
          rw [← hW1]
          clear hW1
          rw [show ((q : Int) + 2 - 1) = (q : Int) + 1 by omega]
          have r0 : IntKind.i64.wrap (q : Int) = (q : Int) := IntWalk.i64_in _ (by omega)
          have r8 : ((q : Int) + 1).toNat = q + 1 := by omega
          have r2 : (0 : Int) ≤ (q : Int) + 1 := by omega
          have r3 : (q : Int) < (q : Int) + 2 := by omega
          have r4 : (q : Int) + 1 < (q : Int) + 2 := by omega
          have r5 : (0 : Int) ≤ (q : Int) := by omega
          have r6 : (q : Int) ≤ (q : Int) + 2 := by omega
          have r7 : q ≤ c1 := by omega
          refine beginZw 16 (fun w' => w'.cell? (ad1.add q) = some (.iface ta pa) ∧ w'.cell? (ad1.add (q + 1)) = some (.iface tb pb)) (by kernel_rfl) (fun W2 hW2 => ?_)
          have hF : W2.cell? (ad1.add q) = some (.iface ta pa) ∧ W2.cell? (ad1.add (q + 1)) = some (.iface tb pb) := by rw [hW2]; exact ⟨y0_h.out, y1_h.out⟩
          have hstd : Sl W2 tTree 1 (some ad1) q c1 (tvs r) := by rw [hW2]; exact hst_h.out
          have hbd : Below w.heap.size w W2 := by rw [hW2]; exact below_drew hbel1_h.out
          clear hW2 x0 x1 x2 x3 x4 x5 d0 d1 d2 hst_h hbel1_h hsl1_h
          have hal := below_alloc W2 (.cells #[.iface tSeqT (.agg #[.iface ta pa, .iface tb pb])] tTree)
          have hF2 : (W2.alloc (.cells #[.iface tSeqT (.agg #[.iface ta pa, .iface tb pb])] tTree)).cell? (ad1.add q) = some (.iface ta pa) ∧ (W2.alloc (.cells #[.iface tSeqT (.agg #[.iface ta pa, .iface tb pb])] tTree)).cell? (ad1.add (q + 1)) = some (.iface tb pb) := ⟨(hal.cell (World.block_lt_of_cell? W2 _ hF.1)).trans hF.1, (hal.cell (World.block_lt_of_cell? W2 _ hF.2)).trans hF.2⟩
          have hst2 := hstd.below hal
          have hbd2 := below_trans hbd hal hbd.size
          have hF_h := Lib.hid hF
          have hF2_h := Lib.hid hF2
          have hbd_h := Lib.hid hbd
          have hstd_h := Lib.hid hstd
          have hal_h := Lib.hid hal
          have hst2_h := Lib.hid hst2
          have hbd2_h := Lib.hid hbd2
          clear hF hF2 hbd hstd hal hst2 hbd2
          refine takeC 0 (v := ?_) rfl (by kernel_rfl) (by kernel_rfl) (by kernel_rfl) (by kernel_rfl) (fun _ _ _ h => h) hF_h.out (by rfl) (fun W' hW' => ?_) ?_; rotate_left; · (have z1 := hW'.1; have z2 := hW'.2; have z3 := z2; rw [add_suc] at z3; clear hW'; go_simp; first | done | with_reducible rfl)
          simp only [Act.put, List.setIfInBounds_toArray, List.set_cons_zero, List.set_cons_succ]
          refine takeC 1 (v := ?_) rfl (by kernel_rfl) (by kernel_rfl) (by kernel_rfl) (by kernel_rfl) (fun _ _ _ h => h) hF_h.out (by rfl) (fun W' hW' => ?_) ?_; rotate_left; · (have z1 := hW'.1; have z2 := hW'.2; have z3 := z2; rw [add_suc] at z3; clear hW'; go_simp; first | done | with_reducible rfl)
          simp only [Act.put, List.setIfInBounds_toArray, List.set_cons_zero, List.set_cons_succ]
          refine takeC 2 (v := ?_) rfl (by kernel_rfl) (by kernel_rfl) (by kernel_rfl) (by kernel_rfl) (fun _ _ _ h => h) hF_h.out (by rfl) (fun W' hW' => ?_) ?_; rotate_left; · (have z1 := hW'.1; have z2 := hW'.2; have z3 := z2; rw [add_suc] at z3; clear hW'; go_simp; first | done | with_reducible rfl)
          simp only [Act.put, List.setIfInBounds_toArray, List.set_cons_zero, List.set_cons_succ]
          refine takeC 3 (v := ?_) rfl (by kernel_rfl) (by kernel_rfl) (by kernel_rfl) (by kernel_rfl) (fun _ _ _ h => h) hF_h.out (by rfl) (fun W' hW' => ?_) ?_; rotate_left; · (have z1 := hW'.1; have z2 := hW'.2; have z3 := z2; rw [add_suc] at z3; clear hW'; go_simp; first | done | with_reducible rfl)
          simp only [Act.put, List.setIfInBounds_toArray, List.set_cons_zero, List.set_cons_succ]
          refine takeC 4 (v := ?_) rfl (by kernel_rfl) (by kernel_rfl) (by kernel_rfl) (by kernel_rfl) (fun _ _ _ h => h) hF_h.out (by rfl) (fun W' hW' => ?_) ?_; rotate_left; · (have z1 := hW'.1; have z2 := hW'.2; have z3 := z2; rw [add_suc] at z3; clear hW'; go_simp; first | done | with_reducible rfl)
          simp only [Act.put, List.setIfInBounds_toArray, List.set_cons_zero, List.set_cons_succ]
          refine takeC 5 (v := ?_) rfl (by kernel_rfl) (by kernel_rfl) (by kernel_rfl) (by kernel_rfl) (fun _ _ _ h => h) hF_h.out (by rfl) (fun W' hW' => ?_) ?_; rotate_left; · (have z1 := hW'.1; have z2 := hW'.2; have z3 := z2; rw [add_suc] at z3; clear hW'; go_simp; first | done | with_reducible rfl)
          simp only [Act.put, List.setIfInBounds_toArray, List.set_cons_zero, List.set_cons_succ]
          refine takeC 6 (v := ?_) rfl (by kernel_rfl) (by kernel_rfl) (by kernel_rfl) (by kernel_rfl) (fun _ _ _ h => h) hF_h.out (by rfl) (fun W' hW' => ?_) ?_; rotate_left; · (have z1 := hW'.1; have z2 := hW'.2; have z3 := z2; rw [add_suc] at z3; clear hW'; go_simp; first | done | with_reducible rfl)
          simp only [Act.put, List.setIfInBounds_toArray, List.set_cons_zero, List.set_cons_succ]
          refine takeC 7 (v := ?_) rfl (by kernel_rfl) (by kernel_rfl) (by kernel_rfl) (by kernel_rfl) (fun _ _ _ h => h) hF_h.out (by rfl) (fun W' hW' => ?_) ?_; rotate_left; · (have z1 := hW'.1; have z2 := hW'.2; have z3 := z2; rw [add_suc] at z3; clear hW'; go_simp; first | done | with_reducible rfl)
          simp only [Act.put, List.setIfInBounds_toArray, List.set_cons_zero, List.set_cons_succ]
          refine takeC 8 (v := ?_) rfl (by kernel_rfl) (by kernel_rfl) (by kernel_rfl) (by kernel_rfl) (fun _ _ _ h => h) hF_h.out (by rfl) (fun W' hW' => ?_) ?_; rotate_left; · (have z1 := hW'.1; have z2 := hW'.2; have z3 := z2; rw [add_suc] at z3; clear hW'; go_simp; first | done | with_reducible rfl)
          simp only [Act.put, List.setIfInBounds_toArray, List.set_cons_zero, List.set_cons_succ]
          refine takeC 9 (v := ?_) rfl (by kernel_rfl) (by kernel_rfl) (by kernel_rfl) (by kernel_rfl) (fun _ _ _ h => h) hF_h.out (by rfl) (fun W' hW' => ?_) ?_; rotate_left; · (have z1 := hW'.1; have z2 := hW'.2; have z3 := z2; rw [add_suc] at z3; clear hW'; go_simp; first | done | with_reducible rfl)
          simp only [Act.put, List.setIfInBounds_toArray, List.set_cons_zero, List.set_cons_succ]
          refine takeC 10 (v := ?_) rfl (by kernel_rfl) (by kernel_rfl) (by kernel_rfl) (by kernel_rfl) (fun _ _ _ h => h) hF_h.out (by rfl) (fun W' hW' => ?_) ?_; rotate_left; · (have z1 := hW'.1; have z2 := hW'.2; have z3 := z2; rw [add_suc] at z3; clear hW'; go_simp; first | done | with_reducible rfl)
          simp only [Act.put, List.setIfInBounds_toArray, List.set_cons_zero, List.set_cons_succ]
          refine takeC 11 (v := ?_) rfl (by kernel_rfl) (by kernel_rfl) (by kernel_rfl) (by kernel_rfl) (fun _ _ _ h => h) hF_h.out (by rfl) (fun W' hW' => ?_) ?_; rotate_left; · (have z1 := hW'.1; have z2 := hW'.2; have z3 := z2; rw [add_suc] at z3; clear hW'; go_simp; first | done | with_reducible rfl)
          simp only [Act.put, List.setIfInBounds_toArray, List.set_cons_zero, List.set_cons_succ]
          refine takeC 12 (v := ?_) rfl (by kernel_rfl) (by kernel_rfl) (by kernel_rfl) (by kernel_rfl) (fun _ _ _ h => h) hF_h.out (by rfl) (fun W' hW' => ?_) ?_; rotate_left; · (have z1 := hW'.1; have z2 := hW'.2; have z3 := z2; rw [add_suc] at z3; clear hW'; go_simp; first | done | with_reducible rfl)
          simp only [Act.put, List.setIfInBounds_toArray, List.set_cons_zero, List.set_cons_succ]
          refine takeC 13 (v := ?_) rfl (by kernel_rfl) (by kernel_rfl) (by kernel_rfl) (by kernel_rfl) (fun _ _ _ h => h) hF_h.out (by rfl) (fun W' hW' => ?_) ?_; rotate_left; · (have z1 := hW'.1; have z2 := hW'.2; have z3 := z2; rw [add_suc] at z3; clear hW'; go_simp; first | done | with_reducible rfl)
          simp only [Act.put, List.setIfInBounds_toArray, List.set_cons_zero, List.set_cons_succ]
          refine takeC 14 (v := ?_) rfl (by kernel_rfl) (by kernel_rfl) (by kernel_rfl) (by kernel_rfl) (fun _ _ _ h => h) hF_h.out (by rfl) (fun W' hW' => ?_) ?_; rotate_left; · (have z1 := hW'.1; have z2 := hW'.2; have z3 := z2; rw [add_suc] at z3; clear hW'; go_simp; first | done | with_reducible rfl)
          simp only [Act.put, List.setIfInBounds_toArray, List.set_cons_zero, List.set_cons_succ]
          refine oneZ 15 rfl (by kernel_rfl) (by rfl) (fun K hK => ?_)
          go_simp
          refine hK _ _ (fun _ => hF2_h.out) ?_
          clear hK K
          refine appZ 16 rfl (by kernel_rfl) (by rfl) _ _ _ rfl tTree Try.underlying105 info_tree rfl (by omega) rfl hst2_h.out rfl (m := 1) rfl (Sl.rdc (Sl.laid W2 tTree 1 1 #[.iface tSeqT (.agg #[.iface ta pa, .iface tb pb])] (by unfold maxLen; omega) rfl)) hone'_h.out (by unfold maxLen; omega) (by omega) ?_
          intro A2 c2 w2 hs2 hA2 hk2 _
          refine ⟨fun h => (by cases h), ?_⟩
          simp only [Act.put, List.setIfInBounds_toArray, List.set_cons_zero, List.set_cons_succ]
          refine oneZ 17 rfl (by kernel_rfl) (by rfl) (fun K hK => ?_)
          go_simp
          refine hK _ _ (fun h => by cases h) ?_
          clear hK K
          refine doneZ (by kernel_rfl) ?_
          rw [← hnod'_h.out] at hs2
          go_wp2_with (fail)
          go_roundw
          case rel => exact ⟨k + 1, .node false a b :: r, A2, c2, q + 1, by omega, by go_num, rfl, by simp [hq_h.out], by omega, ToR.push hbd2_h.out hbd2_h.out.size hfr_h.out hp'_h.out hq_h.out.symm rfl hs2 hA2 hk2⟩
          case measure => simp [intOf]; omega
        · obtain rfl : κ = 16 := hp0
          have hnod' : trV (.node true a b) = .iface tParT (.agg #[.iface ta pa, .iface tb pb]) := hnod
          have hone' : ∀ u ∈ (#[.iface tParT (.agg #[.iface ta pa, .iface tb pb])] : Array Value).toList, u.oneCell' = true := hone
          have hp'_h := Lib.hid hp'
          have hbel1_h := Lib.hid hbel1
          have hsl1_h := Lib.hid hsl1
          have hst_h := Lib.hid hst
          have hfr_h := Lib.hid hfr
          have hq_h := Lib.hid hq
          have hva_h := Lib.hid hva
          have hvb_h := Lib.hid hvb
          have hnod'_h := Lib.hid hnod'
          have hone'_h := Lib.hid hone'
          have hn_h := Lib.hid hn
          have y0_h := Lib.hid y0
          have y1_h := Lib.hid y1
          clear hp' hbel1 hsl1 hst hfr hq hva hvb hnod' hone' hn y0 y1
          clear hnod hone b1 k1
          go_wp2_with (fail)
          rw [← hW1]
          clear hW1
          rw [show ((q : Int) + 2 - 1) = (q : Int) + 1 by omega]
          have r0 : IntKind.i64.wrap (q : Int) = (q : Int) := IntWalk.i64_in _ (by omega)
          have r8 : ((q : Int) + 1).toNat = q + 1 := by omega
          have r2 : (0 : Int) ≤ (q : Int) + 1 := by omega
          have r3 : (q : Int) < (q : Int) + 2 := by omega
          have r4 : (q : Int) + 1 < (q : Int) + 2 := by omega
          have r5 : (0 : Int) ≤ (q : Int) := by omega
          have r6 : (q : Int) ≤ (q : Int) + 2 := by omega
          have r7 : q ≤ c1 := by omega
          refine beginZw 16 (fun w' => w'.cell? (ad1.add q) = some (.iface ta pa) ∧ w'.cell? (ad1.add (q + 1)) = some (.iface tb pb)) (by kernel_rfl) (fun W2 hW2 => ?_)
          have hF : W2.cell? (ad1.add q) = some (.iface ta pa) ∧ W2.cell? (ad1.add (q + 1)) = some (.iface tb pb) := by rw [hW2]; exact ⟨y0_h.out, y1_h.out⟩
          have hstd : Sl W2 tTree 1 (some ad1) q c1 (tvs r) := by rw [hW2]; exact hst_h.out
          have hbd : Below w.heap.size w W2 := by rw [hW2]; exact below_drew hbel1_h.out
          clear hW2 x0 x1 x2 x3 x4 x5 d0 d1 d2 hst_h hbel1_h hsl1_h
          have hal := below_alloc W2 (.cells #[.iface tParT (.agg #[.iface ta pa, .iface tb pb])] tTree)
          have hF2 : (W2.alloc (.cells #[.iface tParT (.agg #[.iface ta pa, .iface tb pb])] tTree)).cell? (ad1.add q) = some (.iface ta pa) ∧ (W2.alloc (.cells #[.iface tParT (.agg #[.iface ta pa, .iface tb pb])] tTree)).cell? (ad1.add (q + 1)) = some (.iface tb pb) := ⟨(hal.cell (World.block_lt_of_cell? W2 _ hF.1)).trans hF.1, (hal.cell (World.block_lt_of_cell? W2 _ hF.2)).trans hF.2⟩
          have hst2 := hstd.below hal
          have hbd2 := below_trans hbd hal hbd.size
          have hF_h := Lib.hid hF
          have hF2_h := Lib.hid hF2
          have hbd_h := Lib.hid hbd
          have hstd_h := Lib.hid hstd
          have hal_h := Lib.hid hal
          have hst2_h := Lib.hid hst2
          have hbd2_h := Lib.hid hbd2
          clear hF hF2 hbd hstd hal hst2 hbd2
          refine takeC 0 (v := ?_) rfl (by kernel_rfl) (by kernel_rfl) (by kernel_rfl) (by kernel_rfl) (fun _ _ _ h => h) hF_h.out (by rfl) (fun W' hW' => ?_) ?_; rotate_left; · (have z1 := hW'.1; have z2 := hW'.2; have z3 := z2; rw [add_suc] at z3; clear hW'; go_simp; first | done | with_reducible rfl)
          simp only [Act.put, List.setIfInBounds_toArray, List.set_cons_zero, List.set_cons_succ]
          refine takeC 1 (v := ?_) rfl (by kernel_rfl) (by kernel_rfl) (by kernel_rfl) (by kernel_rfl) (fun _ _ _ h => h) hF_h.out (by rfl) (fun W' hW' => ?_) ?_; rotate_left; · (have z1 := hW'.1; have z2 := hW'.2; have z3 := z2; rw [add_suc] at z3; clear hW'; go_simp; first | done | with_reducible rfl)
          simp only [Act.put, List.setIfInBounds_toArray, List.set_cons_zero, List.set_cons_succ]
          refine takeC 2 (v := ?_) rfl (by kernel_rfl) (by kernel_rfl) (by kernel_rfl) (by kernel_rfl) (fun _ _ _ h => h) hF_h.out (by rfl) (fun W' hW' => ?_) ?_; rotate_left; · (have z1 := hW'.1; have z2 := hW'.2; have z3 := z2; rw [add_suc] at z3; clear hW'; go_simp; first | done | with_reducible rfl)
          simp only [Act.put, List.setIfInBounds_toArray, List.set_cons_zero, List.set_cons_succ]
          refine takeC 3 (v := ?_) rfl (by kernel_rfl) (by kernel_rfl) (by kernel_rfl) (by kernel_rfl) (fun _ _ _ h => h) hF_h.out (by rfl) (fun W' hW' => ?_) ?_; rotate_left; · (have z1 := hW'.1; have z2 := hW'.2; have z3 := z2; rw [add_suc] at z3; clear hW'; go_simp; first | done | with_reducible rfl)
          simp only [Act.put, List.setIfInBounds_toArray, List.set_cons_zero, List.set_cons_succ]
          refine takeC 4 (v := ?_) rfl (by kernel_rfl) (by kernel_rfl) (by kernel_rfl) (by kernel_rfl) (fun _ _ _ h => h) hF_h.out (by rfl) (fun W' hW' => ?_) ?_; rotate_left; · (have z1 := hW'.1; have z2 := hW'.2; have z3 := z2; rw [add_suc] at z3; clear hW'; go_simp; first | done | with_reducible rfl)
          simp only [Act.put, List.setIfInBounds_toArray, List.set_cons_zero, List.set_cons_succ]
          refine takeC 5 (v := ?_) rfl (by kernel_rfl) (by kernel_rfl) (by kernel_rfl) (by kernel_rfl) (fun _ _ _ h => h) hF_h.out (by rfl) (fun W' hW' => ?_) ?_; rotate_left; · (have z1 := hW'.1; have z2 := hW'.2; have z3 := z2; rw [add_suc] at z3; clear hW'; go_simp; first | done | with_reducible rfl)
          simp only [Act.put, List.setIfInBounds_toArray, List.set_cons_zero, List.set_cons_succ]
          refine takeC 6 (v := ?_) rfl (by kernel_rfl) (by kernel_rfl) (by kernel_rfl) (by kernel_rfl) (fun _ _ _ h => h) hF_h.out (by rfl) (fun W' hW' => ?_) ?_; rotate_left; · (have z1 := hW'.1; have z2 := hW'.2; have z3 := z2; rw [add_suc] at z3; clear hW'; go_simp; first | done | with_reducible rfl)
          simp only [Act.put, List.setIfInBounds_toArray, List.set_cons_zero, List.set_cons_succ]
          refine takeC 7 (v := ?_) rfl (by kernel_rfl) (by kernel_rfl) (by kernel_rfl) (by kernel_rfl) (fun _ _ _ h => h) hF_h.out (by rfl) (fun W' hW' => ?_) ?_; rotate_left; · (have z1 := hW'.1; have z2 := hW'.2; have z3 := z2; rw [add_suc] at z3; clear hW'; go_simp; first | done | with_reducible rfl)
          simp only [Act.put, List.setIfInBounds_toArray, List.set_cons_zero, List.set_cons_succ]
          refine takeC 8 (v := ?_) rfl (by kernel_rfl) (by kernel_rfl) (by kernel_rfl) (by kernel_rfl) (fun _ _ _ h => h) hF_h.out (by rfl) (fun W' hW' => ?_) ?_; rotate_left; · (have z1 := hW'.1; have z2 := hW'.2; have z3 := z2; rw [add_suc] at z3; clear hW'; go_simp; first | done | with_reducible rfl)
          simp only [Act.put, List.setIfInBounds_toArray, List.set_cons_zero, List.set_cons_succ]
          refine takeC 9 (v := ?_) rfl (by kernel_rfl) (by kernel_rfl) (by kernel_rfl) (by kernel_rfl) (fun _ _ _ h => h) hF_h.out (by rfl) (fun W' hW' => ?_) ?_; rotate_left; · (have z1 := hW'.1; have z2 := hW'.2; have z3 := z2; rw [add_suc] at z3; clear hW'; go_simp; first | done | with_reducible rfl)
          simp only [Act.put, List.setIfInBounds_toArray, List.set_cons_zero, List.set_cons_succ]
          refine takeC 10 (v := ?_) rfl (by kernel_rfl) (by kernel_rfl) (by kernel_rfl) (by kernel_rfl) (fun _ _ _ h => h) hF_h.out (by rfl) (fun W' hW' => ?_) ?_; rotate_left; · (have z1 := hW'.1; have z2 := hW'.2; have z3 := z2; rw [add_suc] at z3; clear hW'; go_simp; first | done | with_reducible rfl)
          simp only [Act.put, List.setIfInBounds_toArray, List.set_cons_zero, List.set_cons_succ]
          refine takeC 11 (v := ?_) rfl (by kernel_rfl) (by kernel_rfl) (by kernel_rfl) (by kernel_rfl) (fun _ _ _ h => h) hF_h.out (by rfl) (fun W' hW' => ?_) ?_; rotate_left; · (have z1 := hW'.1; have z2 := hW'.2; have z3 := z2; rw [add_suc] at z3; clear hW'; go_simp; first | done | with_reducible rfl)
          simp only [Act.put, List.setIfInBounds_toArray, List.set_cons_zero, List.set_cons_succ]
          refine takeC 12 (v := ?_) rfl (by kernel_rfl) (by kernel_rfl) (by kernel_rfl) (by kernel_rfl) (fun _ _ _ h => h) hF_h.out (by rfl) (fun W' hW' => ?_) ?_; rotate_left; · (have z1 := hW'.1; have z2 := hW'.2; have z3 := z2; rw [add_suc] at z3; clear hW'; go_simp; first | done | with_reducible rfl)
          simp only [Act.put, List.setIfInBounds_toArray, List.set_cons_zero, List.set_cons_succ]
          refine takeC 13 (v := ?_) rfl (by kernel_rfl) (by kernel_rfl) (by kernel_rfl) (by kernel_rfl) (fun _ _ _ h => h) hF_h.out (by rfl) (fun W' hW' => ?_) ?_; rotate_left; · (have z1 := hW'.1; have z2 := hW'.2; have z3 := z2; rw [add_suc] at z3; clear hW'; go_simp; first | done | with_reducible rfl)
          simp only [Act.put, List.setIfInBounds_toArray, List.set_cons_zero, List.set_cons_succ]
          refine takeC 14 (v := ?_) rfl (by kernel_rfl) (by kernel_rfl) (by kernel_rfl) (by kernel_rfl) (fun _ _ _ h => h) hF_h.out (by rfl) (fun W' hW' => ?_) ?_; rotate_left; · (have z1 := hW'.1; have z2 := hW'.2; have z3 := z2; rw [add_suc] at z3; clear hW'; go_simp; first | done | with_reducible rfl)
          simp only [Act.put, List.setIfInBounds_toArray, List.set_cons_zero, List.set_cons_succ]
          refine oneZ 15 rfl (by kernel_rfl) (by rfl) (fun K hK => ?_)
          go_simp
          refine hK _ _ (fun _ => hF2_h.out) ?_
          clear hK K
          refine appZ 16 rfl (by kernel_rfl) (by rfl) _ _ _ rfl tTree Try.underlying105 info_tree rfl (by omega) rfl hst2_h.out rfl (m := 1) rfl (Sl.rdc (Sl.laid W2 tTree 1 1 #[.iface tParT (.agg #[.iface ta pa, .iface tb pb])] (by unfold maxLen; omega) rfl)) hone'_h.out (by unfold maxLen; omega) (by omega) ?_
          intro A2 c2 w2 hs2 hA2 hk2 _
          refine ⟨fun h => (by cases h), ?_⟩
          simp only [Act.put, List.setIfInBounds_toArray, List.set_cons_zero, List.set_cons_succ]
          refine oneZ 17 rfl (by kernel_rfl) (by rfl) (fun K hK => ?_)
          go_simp
          refine hK _ _ (fun h => by cases h) ?_
          clear hK K
          refine doneZ (by kernel_rfl) ?_
          rw [← hnod'_h.out] at hs2
          go_wp2_with (fail)
          go_roundw
          case rel => exact ⟨k + 1, .node true a b :: r, A2, c2, q + 1, by omega, by go_num, rfl, by simp [hq_h.out], by omega, ToR.push hbd2_h.out hbd2_h.out.size hfr_h.out hp'_h.out hq_h.out.symm rfl hs2 hA2 hk2⟩
          case measure => simp [intOf]; omega
      · have hst1 := leaf_step (n := (κ, v, s)) hj hst
        subst hst1
        have e15 : (κ == 15) = false := by simp; omega
        have e16 : (κ == 16) = false := by simp; omega
        obtain ⟨q, hq⟩ : ∃ q, st.length = q := ⟨_, rfl⟩
        obtain rfl : n1 = q := by rw [hn1, hq]
        rw [← hn1] at hsl1
        have hone : ∀ u ∈ (#[trV (.leaf (κ, v, s))] : Array Value).toList, u.oneCell' = true := fun u hu => by rw [List.mem_singleton.1 hu]; exact trV_one _
        have hnod : trV (.leaf (κ, v, s)) = .iface tLeafT (.agg #[.int .i64 κ, .int .i64 v, .string s]) := rfl
        rw [hnod] at hone
        have hp'_h := Lib.hid hp'
        have hbel1_h := Lib.hid hbel1
        have hsl1_h := Lib.hid hsl1
        have hfr_h := Lib.hid hfr
        have hq_h := Lib.hid hq
        have hone_h := Lib.hid hone
        have hn_h := Lib.hid hn
        have hnod_h := Lib.hid hnod
        clear hp' hbel1 hsl1 hfr hq hone hn hnod
        clear hR hn1 hj hst b1 k1
        go_upto_region 7 with (fail)
        rw [← hW1]
        clear hW1
        go_wp2_with (at_builtin; refine wpList_append1 rfl _ _ _ rfl tTree Try.underlying105 info_tree rfl (by omega) rfl hsl1_h.out rfl rfl rfl hone_h.out (by omega) (by omega) ?_; intro A2 c2 w2 hs2 hA2 hk2)
        rw [← hnod_h.out] at hs2
        go_roundw
        case rel => exact ⟨k + 1, .leaf (κ, v, s) :: st, A2, c2, n1 + 1, by omega, by go_num, rfl, by simp [hq_h.out], by omega, ToR.push hbel1_h.out hbel1_h.out.size hfr_h.out hp'_h.out hq_h.out.symm rfl hs2 hA2 hk2⟩
        case measure => simp [intOf]; omega
    · obtain rfl : k = m := by omega
      have hp := hR.par
      rw [List.take_of_length_le (by rw [← hm_h.out]; exact Nat.le_refl _), hpl_h.out] at hp
      obtain rfl := Option.some.inj hp
      have hs := hR.sl
      have hc := tvs_top t [] (q := 0) rfl
      rw [← hV_h.out] at hc
      obtain ⟨ad1, rfl, -, y0, -⟩ := Sl.cell hs hc
      rw [add0] at y0
      obtain rfl : n1 = 1 := hn1
      have hB := hR.bel
      clear hs hc hR hp
      have hB_h := Lib.hid hB
      clear hB
      go_wp2_with (fail)
      go_ret
      exact ⟨rfl, hB_h.out⟩
end Go.Proofs.Ytlmnmdahphahfaa
