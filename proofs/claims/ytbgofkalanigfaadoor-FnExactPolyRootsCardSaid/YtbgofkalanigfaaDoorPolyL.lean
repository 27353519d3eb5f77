/-
  THE WALKS: slices.Backward and the program's evaluation (a range over a function).
-/
import Derived.Test.YtbgofkalanigfaaDoorPolyC
import Derived.RangeFuncNested
import Derived.RangeFuncBound
import Derived.RangeFuncCalls
import Derived.RangeFuncLeaves
import Derived.RangeFuncBox
import Derived.Shelf.Abstract
import Derived.Shelf.RegionOpen
import Derived.OwnWalkIn
import Derived.TacticsInMore
import Derived.LoopNIn
import Derived.LoopIn
namespace Go.Proofs.YtbgofkalanigfaaDoor
open Go.RowKit Go.Shelf

attribute [local go_sem] Oper.semAt_some

/-- An int that is a residue of some field. -/
abbrev Sm := { a : Int // 0 ≤ a ∧ a ≤ 97 }
theorem sm_of {zs : List Int} (hz : ∀ a, a ∈ zs → 0 ≤ a ∧ a ≤ 97) (j : Nat) : 0 ≤ zs[j]?.getD 0 ∧ zs[j]?.getD 0 ≤ 97 := by
  by_cases h : j < zs.length
  · rw [List.getElem?_eq_getElem h]; exact hz _ (List.getElem_mem h)
  · rw [List.getElem?_eq_none (by omega)]; exact ⟨by decide, by decide⟩
def el (zs : List Int) (hz : ∀ a, a ∈ zs → 0 ≤ a ∧ a ≤ 97) (j : Nat) : Nat × Sm := (j, ⟨zs[j]?.getD 0, sm_of hz j⟩)
/-- What has come when k rounds are over. -/
def dn (zs : List Int) (hz : ∀ a, a ∈ zs → 0 ≤ a ∧ a ≤ 97) (k : Nat) : List (Nat × Sm) := (List.range k).map fun j => el zs hz (zs.length - 1 - j)
theorem dn_succ (zs : List Int) (hz : ∀ a, a ∈ zs → 0 ≤ a ∧ a ≤ 97) {m : Nat} (h : m + 1 ≤ zs.length) : dn zs hz (zs.length - m) = dn zs hz (zs.length - (m + 1)) ++ [el zs hz m] := by
  have e : zs.length - m = (zs.length - (m + 1)) + 1 := by omega
  rw [e]
  unfold dn
  rw [List.range_succ, List.map_append]
  congr 2
  simp
  congr 1
  omega
theorem dn_length (zs : List Int) (hz : ∀ a, a ∈ zs → 0 ≤ a ∧ a ≤ 97) (k : Nat) : (dn zs hz k).length = k := by simp [dn]
theorem dn_all (zs : List Int) (hz : ∀ a, a ∈ zs → 0 ≤ a ∧ a ≤ 97) : (dn zs hz zs.length).map (·.2.1) = zs.reverse := by
  apply List.ext_getElem
  · simp [dn]
  · intro i h1 h2
    simp [dn] at h1
    have : zs.length - 1 - i < zs.length := by omega
    simp [dn, el, this]

/-- What a round keeps. -/
def KpB (n₀ Bs : Nat) (W W' : World) : Prop := Below n₀ W W' ∧ W'.cell? ⟨Bs, 0, none⟩ = W.cell? ⟨Bs, 0, none⟩
theorem KpB.refl (n₀ Bs : Nat) (W : World) : KpB n₀ Bs W W := ⟨Below.refl _ _, rfl⟩
theorem KpB.trans {n₀ Bs : Nat} {A B C : World} (h : KpB n₀ Bs A B) (k : KpB n₀ Bs B C) : KpB n₀ Bs A C := ⟨h.1.trans k.1, k.2.trans h.2⟩

set_option maxRecDepth 100000 in
set_option maxHeartbeats 2000000 in
theorem backward1_in (F : Fence) (n : Nat) (hf : F.fn 66) (hro : F.round = none) (hn : 1 ≤ n) (l Bs n₀ : Nat) (ad : Addr) (cap : Nat) (zs : List Int) (hz : ∀ a, a ∈ zs → 0 ≤ a ∧ a ≤ 97) (hlen : zs.length ≤ 1048576) (hb : ad.block < n₀) (J Jx : List (Nat × Sm) → World → Prop)
    (hY : ∀ pre x W, J pre W → pre.length < zs.length → YieldAt F (n - 1) Tryd.prog l #[.int .i64 (x.1 : Int), .int .i64 x.2.1] W fun e W' =>
      (e = .returned (.bool true) ∧ J (pre ++ [x]) W' ∧ KpB n₀ Bs W W') ∨ (e = .returned (.bool false) ∧ Jx (pre ++ [x]) W'))
    (W : World) (hBs : W.cell? ⟨Bs, 0, none⟩ = some (.slice (some ad) zs.length cap)) (hc : ∀ j, j < zs.length → W.cell? (ad.add j) = some (.int .i64 (zs[j]?.getD 0))) (h0 : J [] W) :
    CallsIn F n Tryd.prog 66 #[.func (.yield l) #[] #[], .pointer (some ⟨Bs, 0, none⟩)] W fun e W' => (∃ v, e = .returned v) ∧
      ((∃ ys, ys = dn zs hz zs.length ∧ J ys W') ∨ (∃ pre, (∃ k, k ≤ zs.length ∧ pre = dn zs hz k) ∧ Jx pre W')) := by
  refine callsIn_of_wp Tryd.func66 rfl hf ?_ hro
  simp only [Tryd.ntmps66, List.size_toArray, List.length_cons, List.length_nil, Nat.reduceAdd, Nat.reduceSub, Array.replicate_succ, Array.replicate_zero, List.push_toArray, List.append_toArray, List.nil_append, List.cons_append]
  gi_wp2
  gi_loopw [3] (fun i wr => ∃ m : Nat, m ≤ zs.length ∧ i = .int .i64 ((m : Int) - 1) ∧ J (dn zs hz (zs.length - m)) wr ∧ KpB n₀ Bs W wr)
    (fun i _ => (intOf i + 1).toNat)
  case atStart => exact ⟨zs.length, Nat.le_refl _, rfl, by rw [Nat.sub_self]; exact h0, KpB.refl _ _ _⟩
  case round =>
    obtain ⟨m, hm, rfl, hJs, hk⟩ := hrel
    have hbs := hk.2.trans hBs
    rcases m with _ | m
    · gi_wp2
      go_end0
      exact ⟨⟨_, rfl⟩, .inl ⟨_, rfl, hJs⟩⟩
    · have hcx := (hk.1.cell (p := ad.add m) (by rw [block_of_add]; exact hb)).trans (hc m (by omega))
      obtain ⟨fn, tmps, assign, body, hy, hR⟩ := hY _ (el zs hz m) wr hJs (by rw [dn_length]; omega)
      dsimp only [el] at hy
      have b4 : (m : Int) < (zs.length : Int) := by omega
      have HK := Lib.hid hk
      clear hk
      gi_wp2
      refine hR.mono ?_
      rintro e W3 (⟨rfl, hJ3, hk3⟩ | ⟨rfl, hJx3⟩)
      · rw [← dn_succ zs hz hm] at hJ3
        have hbs3 := hk3.2.trans hbs
        gi_wp2
        go_roundw
        case rel => exact ⟨m, by omega, by go_num, hJ3, HK.out.trans hk3⟩
        case measure => simp [intOf]
      · rw [← dn_succ zs hz hm] at hJx3
        gi_wp2
        refine bodyPost_ret (results_none rfl _ _ _) rfl ?_
        exact ⟨⟨_, rfl⟩, .inr ⟨_, ⟨_, by omega, rfl⟩, hJx3⟩⟩

set_option maxRecDepth 100000 in
set_option maxHeartbeats 1000000 in
/-- .. at a slice of no elements: no round. -/
theorem backward1_nil_in (F : Fence) (n : Nat) (hf : F.fn 66) (hro : F.round = none) (l Bs : Nat) (A : Option Addr) (cap : Nat) (J : List (Nat × Sm) → World → Prop) (W : World) (hBs : W.cell? ⟨Bs, 0, none⟩ = some (.slice A 0 cap)) (h0 : J [] W) :
    CallsIn F n Tryd.prog 66 #[.func (.yield l) #[] #[], .pointer (some ⟨Bs, 0, none⟩)] W fun e W' => (∃ v, e = .returned v) ∧ J [] W' := by
  refine callsIn_of_wp Tryd.func66 rfl hf ?_ hro
  simp only [Tryd.ntmps66, List.size_toArray, List.length_cons, List.length_nil, Nat.reduceAdd, Nat.reduceSub, Array.replicate_succ, Array.replicate_zero, List.push_toArray, List.append_toArray, List.nil_append, List.cons_append]
  gi_wp2
  gi_loopw [3] (fun i wr => i = .int .i64 (-1) ∧ J [] wr) (fun _ _ => 0)
  case atStart => exact ⟨rfl, h0⟩
  case round =>
    obtain ⟨rfl, hJs⟩ := hrel
    gi_wp2
    go_end0
    exact ⟨⟨_, rfl⟩, hJs⟩

set_option maxHeartbeats 1000000 in
/-- slices.Backward: the slice value is boxed; the function value captures the box. -/
theorem backward_in (F : Fence) (n : Nat) (hf : F.fn 52) (hro : F.round = none) (a : Option Addr) (len cap : Nat) (w : World) :
    CallsIn F n Tryd.prog 52 #[.slice a len cap] w fun e w' => e = .returned (.func (.func 66) #[] #[.pointer (some ⟨w.heap.size, 0, none⟩)]) ∧ w' = w.alloc (.cells #[.slice a len cap] 42) := by
  refine callsIn_of_wp Tryd.func52 rfl hf ?_ hro
  simp only [Tryd.ntmps52, List.size_toArray, List.length_cons, List.length_nil, Nat.reduceAdd, Nat.reduceSub, Array.replicate_succ, Array.replicate_zero, List.push_toArray, List.append_toArray, List.nil_append, List.cons_append]
  gi_wp2
  go_ret
  exact ⟨rfl, rfl⟩

theorem kpB_t {n₀ Bs : Nat} {A B C : World} (h : KpB n₀ Bs A B) (k : KpB n₀ Bs B C) : KpB n₀ Bs A C := h.trans k
theorem kpB_b {n₀ Bs : Nat} {w : World} (hn : n₀ ≤ w.heap.size) (hB : Bs < w.heap.size) (W : World) (l : Nat) (o o' : Obj) (hl : w.heap.size ≤ l) (h : W.heap[l]? = some o) (h1 : o.isCells = false) (h2 : o.isWalk = false) : KpB n₀ Bs W (W.putObj l o') :=
  ⟨belowK_b hn W l o o' hl h h1 h2, (belowK_b (n₀ := Bs + 1) hB W l o o' hl h h1 h2).cell (p := ⟨Bs, 0, none⟩) (Nat.lt_succ_self _)⟩

theorem backward_stops (F : Fence) (n : Nat) (hf : F.fn 66) (hro : F.round = none) (hn : 1 ≤ n) (Bs n₀ : Nat) (A : Option Addr) (cap : Nat) (zs : List Int) (hz : ∀ a, a ∈ zs → 0 ≤ a ∧ a ≤ 97) (hlen : zs.length ≤ 1048576) (w : World) (hBs : Bs < w.heap.size) (hA : RdI w A zs) (hAb : ∀ b, b ∈ fpA A → 0 < zs.length → b < n₀)
    (hc : w.cell? ⟨Bs, 0, none⟩ = some (.slice A zs.length cap)) :
    SeqStopsK F n Tryd.prog 66 #[.pointer (some ⟨Bs, 0, none⟩)] (fun x : Nat × Sm => #[Value.int .i64 (x.1 : Int), Value.int .i64 x.2.1]) (KpB n₀ Bs) (fun ys => ys = dn zs hz zs.length) (fun pre => ∃ k, k ≤ zs.length ∧ pre = dn zs hz k) zs.length w := fun l J Jx W hW _ _ hY h0 => by
  have hc' := (hW.cell (p := ⟨Bs, 0, none⟩) hBs).trans hc
  by_cases hl : 0 < zs.length
  · obtain ⟨ad, x, rfl, hx, _⟩ := hA.at_ hl
    refine backward1_in F n hf hro hn l Bs n₀ ad cap zs hz hlen (hAb _ (by simp) hl) J Jx hY W hc' (fun j hj => ?_) h0
    obtain ⟨ad', y, hA', hy, hcy⟩ := (hA.below hW).at_ hj
    obtain rfl := Option.some.inj hA'
    rw [hy]; exact hcy
  · obtain rfl : zs = [] := List.length_eq_zero_iff.1 (by omega)
    exact (backward1_nil_in F n hf hro l Bs A cap J W hc' h0).mono fun e W' ⟨he, hj⟩ => ⟨he, .inl ⟨_, rfl, hj⟩⟩

/-- The value at x, as the program reckons it. -/
def evS (p x : Int) (l : List Int) : Int := l.foldl (fun o a => (o * x + a) % p) 0
theorem evS_snoc (p x : Int) (l : List Int) (a : Int) : evS p x (l ++ [a]) = (evS p x l * x + a) % p := by simp [evS]
theorem evS_bounds {p x : Int} (hp : 0 < p) (l : List Int) : 0 ≤ evS p x l ∧ evS p x l < p := by
  rcases List.eq_nil_or_concat l with rfl | ⟨l, a, rfl⟩ <;> try rw [List.concat_eq_append]
  · exact ⟨Int.le_refl 0, hp⟩
  · rw [evS_snoc]; exact ⟨Int.emod_nonneg _ (by omega), Int.emod_lt_of_pos _ hp⟩
def evM (p x : Int) (f : List Int) : Int := evS p x f.reverse

set_option maxRecDepth 100000 in
set_option maxHeartbeats 2000000 in
theorem polyEval_in (F : Fence) (n : Nat) (hf1 : F.fn 34) (hf2 : F.fn 52) (hf3 : F.fn 66) (hro : F.round = none) (hn : 3 ≤ n)
    (p x : Int) (A : Option Addr) (ca : Nat) (f : List Int) (w : World) (hA : RdI w A f) (hl : f.length ≤ 1048576) (h0 : 0 < p) (h97 : p ≤ 97) (hz : ∀ a, a ∈ f → 0 ≤ a ∧ a ≤ 97) (hx0 : 0 ≤ x) (hx1 : x < p) :
    CallsIn F n Tryd.prog 34 #[.int .i64 p, .slice A f.length ca, .int .i64 x] w fun e W' => e = .returned (.int .i64 (evM p x f)) ∧ Below w.heap.size w W' := by
  have h1 : 1 ≤ n := by omega
  refine callsIn_of_wp_marks Tryd.func34 rfl hf1 ?_ hro
  simp only [Tryd.ntmps34, List.size_toArray, List.length_cons, List.length_nil, Nat.reduceAdd, Nat.reduceSub, Array.replicate_succ, Array.replicate_zero, List.push_toArray, List.append_toArray, List.nil_append, List.cons_append]
  gi_wp2_with (gi_at_call 52; refine (backward_in F (n - 1) hf2 hro _ _ _ _).mono ?_; rintro e w' ⟨rfl, rfl⟩)
  have hB0 : Below w.heap.size w ((((w.alloc (.cells #[.int .i64 p] 3)).alloc (.cells #[.int .i64 x] 3)).alloc (.cells #[.int .i64 0] 3)).alloc (.cells #[.slice A f.length ca] 42)) :=
    ((((Below.refl _ w).alloc (Nat.le_refl _) _).alloc (by simp) _).alloc (by simp; omega) _).alloc (by simp; omega) _
  have bP := ((Boxed.new w 3 (.int .i64 p)).alloc (.cells #[.int .i64 x] 3)).alloc (.cells #[.int .i64 0] 3) |>.alloc (.cells #[.slice A f.length ca] 42)
  have bX := (Boxed.new (w.alloc (.cells #[.int .i64 p] 3)) 3 (.int .i64 x)).alloc (.cells #[.int .i64 0] 3) |>.alloc (.cells #[.slice A f.length ca] 42)
  have bO := (Boxed.new ((w.alloc (.cells #[.int .i64 p] 3)).alloc (.cells #[.int .i64 x] 3)) 3 (.int .i64 0)).alloc (.cells #[.slice A f.length ca] 42)
  have bB := Boxed.new (((w.alloc (.cells #[.int .i64 p] 3)).alloc (.cells #[.int .i64 x] 3)).alloc (.cells #[.int .i64 0] 3)) 42 (.slice A f.length ca)
  simp only [World.size_alloc] at bX bO bB
  have hAb : ∀ b, b ∈ fpA A → 0 < f.length → b < w.heap.size := by
    intro b hb hp
    obtain ⟨ad, x, rfl, hx, hc⟩ := hA.at_ hp
    exact hA.block_lt hx b hb
  refine wpIn_rangeFunc_ownG hro h1 (gf := 66) (lb := #[.pointer (some ⟨w.heap.size + 1 + 1 + 1, 0, none⟩)]) rfl hf3 (enters_of Tryd.func66 (by kernel_rfl) rfl)
    (backward_stops F (n - 1) hf3 hro (by omega) (w.heap.size + 1 + 1 + 1) w.heap.size A ca f hz hl _ (by simp) (hA.below hB0) hAb bB.cell) kpB_t (kpB_b (by simp; omega) (by simp)) (Below.refl _ _) (fun _ => rfl)
    (fun pre W => (W.cell? ⟨w.heap.size, 0, none⟩ = some (.int .i64 p) ∧ W.cell? ⟨w.heap.size + 1, 0, none⟩ = some (.int .i64 x) ∧ W.cell? ⟨w.heap.size + 1 + 1, 0, none⟩ = some (.int .i64 (evS p x (pre.map (·.2.1)))) ∧ W.frozen? ⟨w.heap.size + 1 + 1, 0, none⟩ = false) ∧ Below w.heap.size w W)
    (fun _ _ _ => False)
    (OwnFrom.and (Own.from (fun s A B row hs hg hr => ⟨cell_kept hs.1 hg hr, cell_kept hs.2.1 hg hr, cell_kept hs.2.2.1 hg hr, (frozen_kept hs.2.2.1 hg hr).trans hs.2.2.2⟩) _) (ownFrom_below (Nat.le_refl _) (by simp; omega)))
    (fun _ _ _ _ _ hs _ _ => hs)
    ⟨⟨bP.cell, bX.cell, bO.cell, bO.frozen⟩, hB0⟩
    (fun y => { tmps := #[.int .i64 p, .slice A f.length ca, .int .i64 x, .pointer (some ⟨w.heap.size, 0, none⟩), undef, .pointer (some ⟨w.heap.size + 1, 0, none⟩), .int .i64 0, .pointer (some ⟨w.heap.size + 1 + 1, 0, none⟩), undef, .int .i64 y.2.1, .slice A f.length ca, .func (.func 66) #[] #[.pointer (some ⟨w.heap.size + 1 + 1 + 1, 0, none⟩)], .int .i64 (y.1 : Int), .int .i64 y.2.1, undef, undef, undef, undef, undef, undef, undef, undef], defers := [] }) ?assign ?body ?done ?stop
  case assign =>
    intro l x W K hK
    gi_wp2
    exact hK
  case body =>
    rintro l pre ⟨j, a, ha⟩ W ⟨⟨hcp, hcx, hco, hfo⟩, hB⟩ _
    obtain ⟨o, ho⟩ : ∃ o, o = evS p x (pre.map (·.2.1)) := ⟨_, rfl⟩
    have hob := evS_bounds (x := x) h0 (pre.map (·.2.1))
    rw [← ho] at hco hob
    have HO := Lib.hid ho
    have hmb := mul_bound (a := o) (b := x) hob.1 (by omega) hx0 (by omega)
    have hpz : (p == 0) = false := by rw [beq_eq_false_iff_ne]; omega
    clear ho
    gi_wp2
    refine ⟨(KeepsOthers.setCell _ _ _).from _, ⟨(Below.refl w.heap.size W).setCell (p := ⟨w.heap.size + 1 + 1, 0, none⟩) (by show w.heap.size ≤ w.heap.size + 1 + 1; omega) _, World.cell?_setCell_other _ _ _ _ (by intro e; simp at e)⟩, ⟨?_, ?_, ?_, ?_⟩, hB.setCell (p := ⟨w.heap.size + 1 + 1, 0, none⟩) (by show w.heap.size ≤ w.heap.size + 1 + 1; omega) _⟩
    · rw [World.cell?_setCell_other _ _ _ _ (by intro e; simp at e)]; exact hcp
    · rw [World.cell?_setCell_other _ _ _ _ (by intro e; simp at e)]; exact hcx
    · rw [List.map_append, List.map_cons, List.map_nil, evS_snoc, ← HO.out]; exact World.cell?_setCell_same' _ _ _ (by rw [hco]; rfl)
    · rw [World.frozen?_setCell]; exact hfo
  case done =>
    rintro D ys W hD rfl ⟨⟨_, _, hc, _⟩, hB⟩ hK
    rw [dn_all] at hc
    gi_wp2
    refine ⟨by simp, .inl ⟨_, _, rfl, run_takeDeferred hK, ?_⟩⟩
    exact ⟨_, results_tmp rfl _ _ _, rfl, hB.trans (belowK_b (w := w) (Nat.le_refl _) W D _ _ (by simp at hD; omega) hK rfl rfl)⟩
  case stop =>
    rintro D c pre W _ _ h _
    exact h.elim
end Go.Proofs.YtbgofkalanigfaaDoor
