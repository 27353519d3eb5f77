/-
  THE WALKS: impl.Graph.isGraph and its closure.

  THE WALKS: the program's valid graphs (isEdge, lists, the closure of isGraph).
-/
import Derived.Test.YtanhmljgeiajoaaGrX
import Derived.Test.YtanhmljgeiajoaaTmG
import Derived.Test.YtanhmljgeiajoaaRegT
namespace Go.Proofs.Ytanhmljgeiajoaa
open Go.RowKit

abbrev tBool : TypeId := 4
abbrev tBools : TypeId := 106
theorem info_bool : (Try.prog.info? tBool).map (fun i => (i.zero, i.size, i.bytes)) = some (some (.bool false), 1, 1) := by kernel_rfl
def bls (l : List Bool) : List Value := l.map Value.bool
theorem bls_get {l : List Bool} {j : Nat} {b : Bool} (h : l[j]? = some b) : (bls l)[j]? = some (.bool b) := by simp [bls, h]
theorem bls_set (l : List Bool) (j : Nat) (b : Bool) : (bls l).set j (.bool b) = bls (l.set j b) := by simp [bls, List.map_set]
theorem madeBls (m : Nat) : (madeCells (Value.bool false).cells (m * 1)).toList.take (m * 1) = bls (List.replicate m false) := by
  rw [Nat.mul_one]; simp [Value.cells, toList_madeCells_one, bls]
abbrev tWiresG : TypeId := 154
theorem run_eq_intG (d : Nat) (x y : Int) (W : World) : (Op.equalIn (d + 1) tInt (.int .i64 x) (.int .i64 y)).run Try.prog W = .ok (x == y) W := by
  unfold Op.equalIn
  simp [run_underlying Try.underlying3]
theorem part_g0 (a b : Int) (W : World) : (part tInt #[.int .i64 a, .int .i64 b] 0).run Try.prog W = .ok (.int .i64 a) W := by kernel_rfl
theorem part_g1 (a b : Int) (W : World) : (part tInt #[.int .i64 a, .int .i64 b] 1).run Try.prog W = .ok (.int .i64 b) W := by kernel_rfl
theorem wires_eq (a b c d : Int) (W : World) : (binOp .eql tWiresG (.agg #[.int .i64 a, .int .i64 b]) (.agg #[.int .i64 c, .int .i64 d])).run Try.prog W = .ok (.bool (decide (a = c ∧ b = d))) W := by
  have hk : ∀ m, (Op.equalIn (m + 1 + 1) tWiresG (.agg #[.int .i64 a, .int .i64 b]) (.agg #[.int .i64 c, .int .i64 d])).run Try.prog W = .ok (decide (a = c ∧ b = d)) W := by
    intro m
    conv => lhs; unfold Op.equalIn
    simp only [Sem.run_bind, run_underlying Try.underlying154, Result.andThen_ok]
    simp [part_g0, part_g1, run_eq_intG]
    by_cases h1 : a = c <;> by_cases h2 : b = d <;> simp [h1, h2]
  have e0 : Op.maxDepth = (Op.maxDepth - 2) + 1 + 1 := rfl
  simp only [binOp, Op.equal, Sem.run_bind]
  rw [e0, hk]
  simp
/-- isEdge, of an edge's header. -/
def egH (k v : Int) (p q : Nat) : Bool := inB k 3 14 && (gvB k v && decide (((p : Int), (q : Int)) = kindTy k))
set_option maxRecDepth 100000 in
set_option maxHeartbeats 4000000 in
theorem isEdge_any (k v : Int) (B C : Option Addr) (b c p q : Nat) (w : World) :
    Calls Try.prog 90 #[.agg #[.int .i64 k, .int .i64 v, .slice B p b, .slice C q c]] w fun e w' => e = .returned (.bool (egH k v p q)) ∧ Below w.heap.size w w' := by
  obtain ⟨D, hD⟩ : ∃ D, D = egH k v p q := ⟨_, rfl⟩
  have hDD := hD
  unfold egH at hDD
  rw [← hD]
  have hG := fun (W : World) => isGenerator_any k W
  have hV := fun (W : World) => isGeneratorValue_any k v W
  obtain ⟨W, hW, bW, k0⟩ := (⟨_, rfl, below_alloc _ _, heap_alloc_new _ _⟩ : ∃ W, W = w.alloc (.cells #[.int .i64 k, .int .i64 v, .slice B p b, .slice C q c] tEd) ∧ Below w.heap.size w W ∧ W.heap[w.heap.size]? = some (.cells #[.int .i64 k, .int .i64 v, .slice B p b, .slice C q c] tEd))
  obtain ⟨⟨c0, c1, c2, c3⟩, f0, f1, f2, f3⟩ := box4 k0
  by_cases h0 : inB k 3 14 = true
  case neg =>
    have h0' : inB k 3 14 = false := by simpa using h0
    obtain rfl : D = false := by rw [hDD, h0']; rfl
    simp only [h0'] at hG
    clear h0 h0' hDD
    have hG_h := Lib.hid hG
    have hV_h := Lib.hid hV
    have k0_h := Lib.hid k0
    have bW_h := Lib.hid bW
    have hD_h := Lib.hid hD
    clear hG hV k0 bW hD
    go_enter Try.func90, Try.ntmps90
    go_upto_region 1 with (fail)
    rw [← hW]
    clear hW
    go_wp2_with (fail)
    refine (hG_h.out _).mono ?_
    rintro e w1 ⟨rfl, rfl⟩
    go_wp2_with (fail)
    go_ret
    exact ⟨rfl, bW_h.out⟩
  have hkb : 3 ≤ k ∧ k ≤ 14 := of_decide_eq_true h0
  simp only [h0] at hG
  rw [h0, Bool.true_and] at hDD
  by_cases h1 : gvB k v = true
  case neg =>
    have h1' : gvB k v = false := by simpa using h1
    obtain rfl : D = false := by rw [hDD, h1']; rfl
    simp only [h1'] at hV
    clear h0 h1 h1' hDD
    have hG_h := Lib.hid hG
    have hV_h := Lib.hid hV
    have k0_h := Lib.hid k0
    have bW_h := Lib.hid bW
    have hD_h := Lib.hid hD
    clear hG hV k0 bW hD
    go_enter Try.func90, Try.ntmps90
    go_upto_region 1 with (fail)
    rw [← hW]
    clear hW
    go_wp2_with (fail)
    refine (hG_h.out _).mono ?_
    rintro e w1 ⟨rfl, rfl⟩
    go_wp2_with (fail)
    refine (hV_h.out _).mono ?_
    rintro e w1 ⟨rfl, rfl⟩
    go_wp2_with (fail)
    go_ret
    exact ⟨rfl, bW_h.out⟩
  simp only [h1] at hV
  rw [h1, Bool.true_and] at hDD
  have hgw := fun (W : World) => generatorWires_any k W hkb.1 hkb.2
  obtain ⟨i1, hi1⟩ : ∃ i, i = (kindTy k).1 := ⟨_, rfl⟩
  obtain ⟨i2, hi2⟩ : ∃ i, i = (kindTy k).2 := ⟨_, rfl⟩
  have hDw : D = decide (i1 = (p : Int) ∧ i2 = (q : Int)) := by
    rw [hDD, Bool.eq_iff_iff, decide_eq_true_eq, decide_eq_true_eq, hi1, hi2]
    exact ⟨fun h => ⟨(congrArg Prod.fst h).symm, (congrArg Prod.snd h).symm⟩, fun h => Prod.ext h.1.symm h.2.symm⟩
  simp only [← hi1, ← hi2] at hgw
  have hwe := fun (W : World) => wires_eq i1 i2 (p : Int) (q : Int) W
  simp only [← hDw] at hwe
  clear h0 h1 hDD hkb hi1 hi2
  have hG_h := Lib.hid hG
  have hV_h := Lib.hid hV
  have hgw_h := Lib.hid hgw
  have k0_h := Lib.hid k0
  have bW_h := Lib.hid bW
  have hD_h := Lib.hid hD
  have hDw_h := Lib.hid hDw
  clear hG hV hgw k0 bW hD hDw
  go_enter Try.func90, Try.ntmps90
  go_upto_region 1 with (fail)
  rw [← hW]
  clear hW
  go_wp2_with (fail)
  refine (hG_h.out _).mono ?_
  rintro e w1 ⟨rfl, rfl⟩
  go_wp2_with (fail)
  refine (hV_h.out _).mono ?_
  rintro e w1 ⟨rfl, rfl⟩
  go_wp2_with (fail)
  obtain ⟨W, rfl⟩ : ∃ x, x = w1 := ⟨_, rfl⟩
  clear c0 c1 c2 c3 f0 f1 f2 f3
  refine beginB (by kernel_rfl) (fun W1 hW1 => ?_)
  have hbw : Below W.heap.size W W1 := by rw [hW1]; exact below_drew (Below.refl _ _)
  clear hW1
  have k1 := box_below k0_h.out hbw
  have k1_h := Lib.hid k1
  clear k1
  refine takeH 0 (v := ?_) rfl (by kernel_rfl) (by kernel_rfl) (by kernel_rfl) (fun _ _ _ h => h) (Below.refl _ _) (by rfl) (fun W' hW' => ?_) ?_; rotate_left; · (obtain ⟨⟨a0, a1, a2, a3⟩, b0, b1, b2, b3⟩ := box4 (box_below k1_h.out hW'); clear hW'; go_simp; first | done | with_reducible rfl)
  simp only [Act.put, List.setIfInBounds_toArray, List.set_cons_zero, List.set_cons_succ]
  refine takeH 1 (v := ?_) rfl (by kernel_rfl) (by kernel_rfl) (by kernel_rfl) (fun _ _ _ h => h) (Below.refl _ _) (by rfl) (fun W' hW' => ?_) ?_; rotate_left; · (obtain ⟨⟨a0, a1, a2, a3⟩, b0, b1, b2, b3⟩ := box4 (box_below k1_h.out hW'); clear hW'; go_simp; first | done | with_reducible rfl)
  simp only [Act.put, List.setIfInBounds_toArray, List.set_cons_zero, List.set_cons_succ]
  refine takeH 3 (v := ?_) rfl (by kernel_rfl) (by kernel_rfl) (by kernel_rfl) (fun _ _ _ h => h) (Below.refl _ _) (by rfl) (fun W' hW' => ?_) ?_; rotate_left; · (obtain ⟨⟨a0, a1, a2, a3⟩, b0, b1, b2, b3⟩ := box4 (box_below k1_h.out hW'); clear hW'; go_simp; first | done | with_reducible rfl)
  simp only [Act.put, List.setIfInBounds_toArray, List.set_cons_zero, List.set_cons_succ]
  refine takeH 4 (v := ?_) rfl (by kernel_rfl) (by kernel_rfl) (by kernel_rfl) (fun _ _ _ h => h) (Below.refl _ _) (by rfl) (fun W' hW' => ?_) ?_; rotate_left; · (obtain ⟨⟨a0, a1, a2, a3⟩, b0, b1, b2, b3⟩ := box4 (box_below k1_h.out hW'); clear hW'; go_simp; first | done | with_reducible rfl)
  simp only [Act.put, List.setIfInBounds_toArray, List.set_cons_zero, List.set_cons_succ]
  refine takeH 5 (v := ?_) rfl (by kernel_rfl) (by kernel_rfl) (by kernel_rfl) (fun _ _ _ h => h) (Below.refl _ _) (by rfl) (fun W' hW' => ?_) ?_; rotate_left; · (obtain ⟨⟨a0, a1, a2, a3⟩, b0, b1, b2, b3⟩ := box4 (box_below k1_h.out hW'); clear hW'; go_simp; first | done | with_reducible rfl)
  simp only [Act.put, List.setIfInBounds_toArray, List.set_cons_zero, List.set_cons_succ]
  refine takeH 6 (v := ?_) rfl (by kernel_rfl) (by kernel_rfl) (by kernel_rfl) (fun _ _ _ h => h) (Below.refl _ _) (by rfl) (fun W' hW' => ?_) ?_; rotate_left; · (obtain ⟨⟨a0, a1, a2, a3⟩, b0, b1, b2, b3⟩ := box4 (box_below k1_h.out hW'); clear hW'; go_simp; first | done | with_reducible rfl)
  simp only [Act.put, List.setIfInBounds_toArray, List.set_cons_zero, List.set_cons_succ]
  refine takeH 7 (v := ?_) rfl (by kernel_rfl) (by kernel_rfl) (by kernel_rfl) (fun _ _ _ h => h) (Below.refl _ _) (by rfl) (fun W' hW' => ?_) ?_; rotate_left; · (obtain ⟨⟨a0, a1, a2, a3⟩, b0, b1, b2, b3⟩ := box4 (box_below k1_h.out hW'); clear hW'; go_simp; first | done | with_reducible rfl)
  simp only [Act.put, List.setIfInBounds_toArray, List.set_cons_zero, List.set_cons_succ]
  refine takeH 8 (v := ?_) rfl (by kernel_rfl) (by kernel_rfl) (by kernel_rfl) (fun _ _ _ h => h) (Below.refl _ _) (by rfl) (fun W' hW' => ?_) ?_; rotate_left; · (obtain ⟨⟨a0, a1, a2, a3⟩, b0, b1, b2, b3⟩ := box4 (box_below k1_h.out hW'); clear hW'; go_simp; first | done | with_reducible rfl)
  simp only [Act.put, List.setIfInBounds_toArray, List.set_cons_zero, List.set_cons_succ]
  refine takeH 9 (v := ?_) rfl (by kernel_rfl) (by kernel_rfl) (by kernel_rfl) (fun _ _ _ h => h) (Below.refl _ _) (by rfl) (fun W' hW' => ?_) ?_; rotate_left; · (obtain ⟨⟨a0, a1, a2, a3⟩, b0, b1, b2, b3⟩ := box4 (box_below k1_h.out hW'); clear hW'; go_simp; first | done | with_reducible rfl)
  simp only [Act.put, List.setIfInBounds_toArray, List.set_cons_zero, List.set_cons_succ]
  refine' callH 2 (f := _) (args := _) rfl (by kernel_rfl) (by rfl) ?_ ?_; rotate_left 2; · (go_simp; first | done | with_reducible rfl | (constructor <;> with_reducible rfl))
  refine (hgw_h.out _).mono ?_
  rintro e w2 ⟨rfl, hb2⟩
  refine ⟨_, rfl, hb2, ?_⟩
  simp only [Act.put, List.setIfInBounds_toArray, List.set_cons_zero, List.set_cons_succ]
  refine takeH 10 (v := ?_) rfl (by kernel_rfl) (by kernel_rfl) (by kernel_rfl) (fun _ _ _ h => h) hb2 (by rfl) (fun W' hW' => ?_) ?_; rotate_left; · (have hwe' := hwe W'; clear hW'; go_simp; first | done | with_reducible rfl)
  simp only [Act.put, List.setIfInBounds_toArray, List.set_cons_zero, List.set_cons_succ]
  refine takeH 11 (v := ?_) rfl (by kernel_rfl) (by kernel_rfl) (by kernel_rfl) (fun _ _ _ h => h) hb2 (by rfl) (fun W' hW' => ?_) ?_; rotate_left; · (have hwe' := hwe W'; clear hW'; go_simp; first | done | with_reducible rfl)
  simp only [Act.put, List.setIfInBounds_toArray, List.set_cons_zero, List.set_cons_succ]
  refine doneH (by kernel_rfl) ?_
  have hB2 := below_trans (below_trans bW_h.out hbw bW_h.out.size) hb2 (Nat.le_trans bW_h.out.size hbw.size)
  have hB2_h := Lib.hid hB2
  clear hB2
  go_wp2_with (fail)
  go_ret
  exact ⟨rfl, hB2_h.out⟩
set_option maxRecDepth 100000 in
set_option maxHeartbeats 4000000 in
/-- Graph.lists calls a function for all lists of wires of a graph. -/
theorem lists_any {v : Value} {g : Gr} (wE : World) (h : RdGr wE v g) (ok : OkG g) (F : FuncId) (cap : Array Value) (hE : ∀ (args : Array Value) (w : World), (callFunc F args).run Try.prog w = .ok (.enter F args) w)
    (I : List Int → World → Prop) (S : List Nat) (hS : ∀ b, b ∈ S → wE.heap.size ≤ b) (hal : ∀ l W W', I l W → Below W.heap.size W W' → I l W')
    (hF : ∀ l B c (m : List Int) W, I l W → (∀ W', Keeps (· ∈ S) W W' → RdI W' B m) → (∀ x, x ∈ m → x ∈ allW g) → m.length ≤ 1048576 → Calls Try.prog F (#[.slice B m.length c] ++ cap) W fun e w' => e = .returned (.tuple #[]) ∧ I (l ++ m) w' ∧ Keeps (· ∈ S) W w')
    (w : World) (hw : I [] w) (hbw : Below wE.heap.size wE w) (hSw : ∀ b, b ∈ S → b < w.heap.size) :
    Calls Try.prog 91 #[v, .func (.func F) #[] cap] w fun e w' => e = .returned (.tuple #[]) ∧ I (allW g) w' ∧ Keeps (· ∈ S) w w' := by
  obtain ⟨A, c, hs, ⟨B, b, s⟩, ⟨C, d, t⟩, rfl, e1, e2, e3, hEd, hRa, hRb⟩ := h
  obtain ⟨z, es, s0, t0⟩ := g
  have a1 : es = hs.map egOf := e1
  have a2 : s = s0 := e2
  have a3 : t = t0 := e3
  subst a2 a3
  have hlen1 : es.length ≤ 1048576 := ok.1.1
  have hlen2 : s.length ≤ 1048576 := ok.1.2.1
  have hlen3 : t.length ≤ 1048576 := ok.1.2.2
  have hlE : ∀ x, x ∈ es → x.2.2.1.length ≤ 1048576 ∧ x.2.2.2.length ≤ 1048576 := ok.2.1
  have hall : allW (z, es, s, t) = s ++ (t ++ edW es) := rfl
  rw [hall] at hF ⊢
  have hRa0 : RdI wE B s := hRa
  have hRb0 : RdI wE C t := hRb
  obtain ⟨m, hm⟩ : ∃ m, m = hs.length := ⟨_, rfl⟩
  obtain ⟨p, hp⟩ : ∃ p, p = s.length := ⟨_, rfl⟩
  obtain ⟨r, hr⟩ : ∃ r, r = t.length := ⟨_, rfl⟩
  have hmes : es.length = m := by rw [a1, List.length_map, hm]
  show Calls Try.prog _ #[.agg #[.int .i64 z, .slice A hs.length c, .slice B s.length b, .slice C t.length d], .func (.func F) #[] cap] w _
  rw [← hm, ← hp, ← hr]
  obtain ⟨W, hW, bW, k0⟩ := (⟨_, rfl, below_alloc _ _, heap_alloc_new _ _⟩ : ∃ W, W = w.alloc (.cells #[.int .i64 z, .slice A m c, .slice B p b, .slice C r d] tGr) ∧ Below w.heap.size w W ∧ W.heap[w.heap.size]? = some (.cells #[.int .i64 z, .slice A m c, .slice B p b, .slice C r d] tGr))
  have hbW := below_trans hbw bW hbw.size
  have hI0 := hal _ _ _ hw bW
  have hC1 := hF [] B b s W hI0 (fun W' hk => hRa0.below (below_keeps hbW hk hbW.size hS)) (fun x hx => by simp [hx]) hlen2
  rw [← hp, List.nil_append] at hC1
  obtain ⟨⟨c0, c1, c2, c3⟩, f0, f1, f2, f3⟩ := box4 k0
  have hmb : (m : Int) ≤ 1048576 := by omega
  have hE1 := hE (#[.slice B p b] ++ cap) W
  have hnS : ¬ w.heap.size ∈ S := fun hh => by have := hSw _ hh; omega
  clear hRa hRb ok e1 e2 e3 hlen1 hlen2 hall hw hI0
  have hS_h := Lib.hid hS
  have hal_h := Lib.hid hal
  have hF_h := Lib.hid hF
  have hSw_h := Lib.hid hSw
  have hbw_h := Lib.hid hbw
  have hbW_h := Lib.hid hbW
  have bW_h := Lib.hid bW
  have k0_h := Lib.hid k0
  have hC1_h := Lib.hid hC1
  have hEd_h := Lib.hid hEd
  have hRa0_h := Lib.hid hRa0
  have hRb0_h := Lib.hid hRb0
  have a1_h := Lib.hid a1
  have hlE_h := Lib.hid hlE
  have hm_h := Lib.hid hm
  have hp_h := Lib.hid hp
  have hr_h := Lib.hid hr
  have hmes_h := Lib.hid hmes
  have hE_h := Lib.hid hE
  have hnS_h := Lib.hid hnS
  clear hS hal hF hSw hbw hbW bW k0 hC1 hEd hRa0 hRb0 a1 hlE hm hp hr hmes hE hnS
  go_enter Try.func91, Try.ntmps91
  go_upto_region 1 with (fail)
  rw [← hW]
  clear hW
  go_wp2_with (fail)
  refine (hC1_h.out).mono ?_
  rintro e w1 ⟨rfl, hI1, hk1⟩
  have k1 := box_keeps k0_h.out hk1 hnS_h.out
  have hb1 := below_keeps hbW_h.out hk1 hbW_h.out.size hS_h.out
  have hC2 := hF_h.out s C d t w1 hI1 (fun W' hk => hRb0_h.out.below (below_keeps hb1 hk hb1.size hS_h.out)) (fun x hx => by simp [hx]) hlen3
  rw [← hr_h.out] at hC2
  clear c0 c1 c2 c3 f0 f1 f2 f3 hI1 hE1
  obtain ⟨⟨c0, c1, c2, c3⟩, f0, f1, f2, f3⟩ := box4 k1
  have hE1 := hE_h.out (#[.slice C r d] ++ cap) w1
  have hk1_h := Lib.hid hk1
  have k1_h := Lib.hid k1
  have hb1_h := Lib.hid hb1
  have hC2_h := Lib.hid hC2
  clear hk1 k1 hb1 hC2
  go_wp2_with (fail)
  refine (hC2_h.out).mono ?_
  rintro e w2 ⟨rfl, hI2, hk2⟩
  have k2 := box_keeps k1_h.out hk2 hnS_h.out
  have hb2 := below_keeps hb1_h.out hk2 hb1_h.out.size hS_h.out
  have hk02 := hk1_h.out.trans hk2
  clear c0 c1 c2 c3 f0 f1 f2 f3 hE1 hk2
  obtain ⟨⟨c0, c1, c2, c3⟩, f0, f1, f2, f3⟩ := box4 k2
  have hI20 : I (s ++ (t ++ edW (es.take 0))) w2 := by simpa [edW] using hI2
  have hk02_h := Lib.hid hk02
  have k2_h := Lib.hid k2
  have hb2_h := Lib.hid hb2
  have hI20_h := Lib.hid hI20
  clear hk02 k2 hb2 hI20
  clear hI2
  go_wp2_with (fail)
  clear c0 c1 c2 c3 f0 f1 f2 f3
  go_loopw [17] (fun i wr => ∃ k : Nat, k ≤ m ∧ i = .int .i64 k ∧ I (s ++ (t ++ edW (es.take k))) wr ∧ Keeps (· ∈ S) W wr) (fun i _ => m - (intOf i).toNat)
  case atStart => exact ⟨0, Nat.zero_le _, rfl, hI20_h.out, hk02_h.out⟩
  case round =>
    clear hI20_h hk02_h
    obtain ⟨k, hk, rfl, hI3, hk3⟩ := hrel
    have hb3 := below_keeps hbW_h.out hk3 hbW_h.out.size hS_h.out
    by_cases hlt : k < m
    · obtain ⟨ad, κ, vv, B1, b1, s1, C1, b2, t1, rfl, hn, ⟨d0, d1, d2, d3⟩, hr1, hr2⟩ := (hEd_h.out.below hb3).at_ (j := k) (by rw [← hm_h.out]; exact hlt)
      have hek : es[k]? = some (κ, vv, s1, t1) := by rw [a1_h.out, List.getElem?_map, hn]; rfl
      have hln := hlE_h.out _ (List.mem_of_getElem? hek)
      obtain ⟨hm1, hm2⟩ := mem_edW_of (List.mem_of_getElem? hek)
      obtain ⟨wo, rfl⟩ : ∃ x, x = wr := ⟨_, rfl⟩
      obtain ⟨p1, hp1⟩ : ∃ p1, p1 = s1.length := ⟨_, rfl⟩
      obtain ⟨r1, hr1'⟩ : ∃ r1, r1 = t1.length := ⟨_, rfl⟩
      rw [← hp1] at d2
      rw [← hr1'] at d3
      obtain ⟨W6, hW6, bW6, k6⟩ := (⟨_, rfl, below_alloc _ _, heap_alloc_new _ _⟩ : ∃ W, W = wo.alloc (.cells #[.int .i64 κ, .int .i64 vv, .slice B1 p1 b1, .slice C1 r1 b2] tEd) ∧ Below wo.heap.size wo W ∧ W.heap[wo.heap.size]? = some (.cells #[.int .i64 κ, .int .i64 vv, .slice B1 p1 b1, .slice C1 r1 b2] tEd))
      have hb6 := below_trans hb3 bW6 hb3.size
      have hI6 := hal_h.out _ _ _ hI3 bW6
      have hRB : RdI wE B1 s1 := (hEd_h.out.2 _ (List.mem_of_getElem? hn)).1
      have hC3 := hF_h.out _ B1 b1 s1 W6 hI6 (fun W' hk => hRB.below (below_keeps hb6 hk hb6.size hS_h.out)) (fun x hx => by simp [hm1 x hx]) hln.1
      rw [← hp1] at hC3
      have hk6 := hk3.trans (Keeps.of_below bW6 _)
      have hnS6 : ¬ wo.heap.size ∈ S := fun hh => by have := hSw_h.out _ hh; have := hk3.size; have := bW_h.out.size; omega
      have hRC : RdI wE C1 t1 := (hEd_h.out.2 _ (List.mem_of_getElem? hn)).2
      have hkI : (k : Int) < (m : Int) := by omega
      obtain ⟨⟨c0, c1, c2, c3⟩, f0, f1, f2, f3⟩ := box4 k6
      have hE1 := hE_h.out (#[.slice B1 p1 b1] ++ cap) W6
      have hr1_h := Lib.hid hr1'
      clear hr1' hI6 hI3 hr1 hr2 hn hm1 hb3 hk3 hRB
      have hek_h := Lib.hid hek
      have hp1_h := Lib.hid hp1
      have bW6_h := Lib.hid bW6
      have k6_h := Lib.hid k6
      have hC3_h := Lib.hid hC3
      have hk6_h := Lib.hid hk6
      have hnS6_h := Lib.hid hnS6
      have hb6_h := Lib.hid hb6
      have hRC_h := Lib.hid hRC
      have hm2_h := Lib.hid hm2
      have hln_h := Lib.hid hln
      clear hek hp1 bW6 k6 hC3 hk6 hnS6 hb6 hRC hm2 hln
      go_upto_region 6 with (fail)
      rw [← hW6]
      clear hW6
      go_wp2_with (fail)
      refine (hC3_h.out).mono ?_
      rintro e w7 ⟨rfl, hI7, hk7⟩
      have k7 := box_keeps k6_h.out hk7 hnS6_h.out
      have hb7 := below_keeps hb6_h.out hk7 hb6_h.out.size hS_h.out
      have hC4 := hF_h.out _ C1 b2 t1 w7 hI7 (fun W' hk => hRC_h.out.below (below_keeps hb7 hk hb7.size hS_h.out)) (fun x hx => by simp [hm2_h.out x hx]) hln_h.out.2
      rw [← hr1_h.out] at hC4
      have hk8 := hk6_h.out.trans hk7
      clear c0 c1 c2 c3 f0 f1 f2 f3 hE1 hI7 hk7 d0 d1 d2 d3
      obtain ⟨⟨c0, c1, c2, c3⟩, f0, f1, f2, f3⟩ := box4 k7
      have hE1 := hE_h.out (#[.slice C1 r1 b2] ++ cap) w7
      have k7_h := Lib.hid k7
      have hb7_h := Lib.hid hb7
      have hC4_h := Lib.hid hC4
      have hk8_h := Lib.hid hk8
      clear k7 hb7 hC4 hk8
      go_wp2_with (fail)
      refine (hC4_h.out).mono ?_
      rintro e w8 ⟨rfl, hI8, hk9⟩
      have hk10 := hk8_h.out.trans hk9
      have hI9 : I (s ++ (t ++ edW (es.take (k + 1)))) w8 := by
        have e : s ++ (t ++ edW (es.take (k + 1))) = s ++ (t ++ edW (es.take k)) ++ s1 ++ t1 := by
          rw [List.take_add_one, hek_h.out, edW_append]; simp [edW]
        rw [e]; exact hI8
      clear c0 c1 c2 c3 f0 f1 f2 f3 hE1 hI8 hk9
      have hk10_h := Lib.hid hk10
      have hI9_h := Lib.hid hI9
      clear hk10 hI9
      go_wp2_with (fail)
      go_roundw
      case rel => exact ⟨k + 1, by omega, by go_num, hI9_h.out, hk10_h.out⟩
      case measure => simp [intOf]; omega
    · obtain rfl : m = k := by omega
      rw [List.take_of_length_le (by rw [hmes_h.out]; exact Nat.le_refl _)] at hI3
      have hkf := (Keeps.of_below bW_h.out (· ∈ S)).trans hk3
      have hI3_h := Lib.hid hI3
      have hkf_h := Lib.hid hkf
      clear hI3 hkf
      clear hk3
      go_wp2_with (fail)
      go_end0
      exact ⟨rfl, hI3_h.out, hkf_h.out⟩
end Go.Proofs.Ytanhmljgeiajoaa
namespace Go.Proofs.Ytanhmljgeiajoaa
open Go.RowKit

theorem box1 {w : World} {B : Nat} {x : Value} {t : TypeId} (h : w.heap[B]? = some (.cells #[x] t)) : w.cell? ⟨B, 0, none⟩ = some x ∧ w.frozen? ⟨B, 0, none⟩ = false := by simp [World.cell?, World.frozen?, h]
theorem seenM_step {n : Nat} {l : List Int} {q : Nat} (hq : q < n) (hs : l.contains (q : Int) = true) : seenC n (l ++ [(q : Int)]) = seenC n l := by unfold seenC; rw [seenM_old hq hs]
theorem inW_snoc (n : Int) (l : List Int) (x : Int) : inW n (l ++ [x]) = (inW n l && inB x 0 (n - 1)) := by rw [inW_append]; simp [inW]
/-- What the closure of isGraph holds when it has seen the wires l. -/
structure GI (n gB bG bS bC : Nat) (Gs : Addr) (V1 V2 V3 : Value) (l : List Int) (W : World) : Prop where
  hg : W.heap[gB]? = some (.cells #[.int .i64 (n : Int), V1, V2, V3] tGr)
  hgd : W.heap[bG]? = some (.cells #[.bool (inW n l)] tBool)
  hsl : W.heap[bS]? = some (.cells #[.slice (some Gs) n n] tBools)
  hct : W.heap[bC]? = some (.cells #[.int .i64 (seenC n l : Int)] tInt)
  hse : Sl W tBool 1 (some Gs) n n (bls (seenM n l))
theorem GI.below {n gB bG bS bC : Nat} {Gs : Addr} {V1 V2 V3 : Value} {l : List Int} {W W' : World} (h : GI n gB bG bS bC Gs V1 V2 V3 l W) (hb : Below W.heap.size W W') : GI n gB bG bS bC Gs V1 V2 V3 l W' :=
  ⟨box_below h.hg hb, box_below h.hgd hb, box_below h.hsl hb, box_below h.hct hb, h.hse.below hb⟩
set_option maxRecDepth 100000 in
set_option maxHeartbeats 4000000 in
theorem isGraphC_any (n gB bG bS bC : Nat) (Gs : Addr) (V1 V2 V3 : Value) (l : List Int) (B : Option Addr) (c : Nat) (m : List Int) (W : World) (hn : n ≤ 100) (hml : m.length ≤ 1048576)
    (h1 : bG ≠ bC) (h2 : bG ≠ Gs.block) (h3 : bC ≠ Gs.block) (h4 : gB ≠ bG ∧ gB ≠ bC ∧ gB ≠ Gs.block) (h5 : bS ≠ bG ∧ bS ≠ bC ∧ bS ≠ Gs.block)
    (hI : GI n gB bG bS bC Gs V1 V2 V3 l W) (hm : ∀ W', Keeps (· ∈ [bG, bC, Gs.block]) W W' → RdI W' B m) :
    Calls Try.prog 92 #[.slice B m.length c, .pointer (some ⟨gB, 0, none⟩), .pointer (some ⟨bG, 0, none⟩), .pointer (some ⟨bS, 0, none⟩), .pointer (some ⟨bC, 0, none⟩)] W fun e w' => e = .returned (.tuple #[]) ∧ GI n gB bG bS bC Gs V1 V2 V3 (l ++ m) w' ∧ Keeps (· ∈ [bG, bC, Gs.block]) W w' := by
  obtain ⟨p, hp⟩ : ∃ p, p = m.length := ⟨_, rfl⟩
  rw [← hp] at hml ⊢
  have hp_h := Lib.hid hp
  have hm_h := Lib.hid hm
  have hI_h := Lib.hid hI
  clear hp hm hI
  go_enter Try.func92, Try.ntmps92
  go_wp2_with (fail)
  go_loopw [10] (fun i wr => ∃ k : Nat, k ≤ p ∧ i = .int .i64 k ∧ GI n gB bG bS bC Gs V1 V2 V3 (l ++ m.take k) wr ∧ Keeps (· ∈ [bG, bC, Gs.block]) W wr) (fun i _ => p - (intOf i).toNat)
  case atStart => exact ⟨0, Nat.zero_le _, rfl, by simpa using hI_h.out, Keeps.refl _ _⟩
  case round =>
    clear hI_h
    obtain ⟨k, hk, rfl, hI, hkp⟩ := hrel
    by_cases hlt : k < p
    · obtain ⟨xd, x, rfl, hx, hxc⟩ := (hm_h.out wr hkp).at_ (j := k) (by rw [← hp_h.out]; exact hlt)
      have hkI : (k : Int) < (p : Int) := by omega
      have htk : m.take (k + 1) = m.take k ++ [x] := by rw [List.take_add_one, hx]; rfl
      have hlx : l ++ m.take (k + 1) = (l ++ m.take k) ++ [x] := by rw [htk, List.append_assoc]
      obtain ⟨L, hL⟩ : ∃ L, L = l ++ m.take k := ⟨_, rfl⟩
      rw [← hL] at hI hlx
      have hC := fun (W : World) => within_any x 0 ((n : Int) - 1) W
      have wn : IntKind.i64.wrap ((n : Int) - 1) = (n : Int) - 1 := IntWalk.i64_in _ (by omega)
      obtain ⟨⟨c0, c1, c2, c3⟩, f0, f1, f2, f3⟩ := box4 hI.hg
      by_cases hin : inB x 0 ((n : Int) - 1) = true
      · have hb : 0 ≤ x ∧ x ≤ (n : Int) - 1 := of_decide_eq_true hin
        obtain ⟨q, rfl⟩ : ∃ q : Nat, x = (q : Int) := ⟨x.toNat, by omega⟩
        have hqn : q < n := by omega
        simp only [hin] at hC
        have hinL : inW n (L ++ [(q : Int)]) = inW n L := by rw [inW_snoc, hin, Bool.and_true]
        obtain ⟨gd, hgd, hgb, hgc, hgf⟩ := Sl.cell hI.hse (bls_get (seenM_get hqn))
        obtain rfl := Option.some.inj hgd
        obtain ⟨s0, s1⟩ := box1 hI.hsl
        have hqI : (q : Int) < (n : Int) := by omega
        have hq0 : (0 : Int) ≤ (q : Int) := by omega
        by_cases hc : L.contains (q : Int) = true
        · have hI2 : GI n gB bG bS bC Gs V1 V2 V3 (l ++ m.take (k + 1)) wr := by
            rw [hlx]
            exact ⟨hI.hg, by rw [hinL]; exact hI.hgd, hI.hsl, by rw [seenM_step hqn hc]; exact hI.hct, by rw [seenM_old hqn hc]; exact hI.hse⟩
          rw [hc] at hgc
          clear hI hin hb hx htk hlx hL hinL hgf hgd
          have hC_h := Lib.hid hC
          have hI2_h := Lib.hid hI2
          have hkp_h := Lib.hid hkp
          have hc_h := Lib.hid hc
          clear hC hI2 hkp hc
          go_wp2_with (fail)
          refine (hC_h.out _).mono ?_
          rintro e w1 ⟨rfl, rfl⟩
          go_wp2_with (fail)
          go_roundw
          case rel => exact ⟨k + 1, by omega, by go_num, hI2_h.out, hkp_h.out⟩
          case measure => simp [intOf]; omega
        · have hc' : L.contains (q : Int) = false := by simpa using hc
          rw [hc'] at hgc
          have hfq := hgf q
          obtain ⟨W1, hW1⟩ : ∃ W1, W1 = wr.setCell (Gs.add q) (.bool true) := ⟨_, rfl⟩
          have hset := Sl.set hI.hse rfl q (.bool true) (by simp [bls]; omega)
          rw [bls_set, ← seenM_in hqn, ← hW1] at hset
          have hk1 : Keeps (· = Gs.block) wr W1 := by rw [hW1]; exact (Keeps.refl (fun b => b = Gs.block) wr).setCell (p := Gs.add q) (by rw [block_of_add]) _
          have g1 := box_keeps hI.hg hk1 h4.2.2
          have g2 := box_keeps hI.hgd hk1 h2
          have g3 := box_keeps hI.hsl hk1 h5.2.2
          have g4 := box_keeps hI.hct hk1 h3
          obtain ⟨t0, t1⟩ := box1 g4
          obtain ⟨W2, hW2⟩ : ∃ W2, W2 = W1.setCell ⟨bC, 0, none⟩ (.int .i64 ((seenC n L : Int) + 1)) := ⟨_, rfl⟩
          obtain ⟨n4, hk2⟩ := box_set g4 0 (.int .i64 ((seenC n L : Int) + 1))
          rw [← hW2] at n4 hk2
          have n4' : W2.heap[bC]? = some (.cells #[.int .i64 ((seenC n L : Int) + 1)] tInt) := n4
          have hcle := seenC_le n L
          have hI2 : GI n gB bG bS bC Gs V1 V2 V3 (l ++ m.take (k + 1)) W2 := by
            rw [hlx]
            refine ⟨box_keeps g1 hk2 h4.2.1, by rw [hinL]; exact box_keeps g2 hk2 h1, box_keeps g3 hk2 h5.2.1, ?_, hset.keeps hk2 (fun b hb e => by simp at hb; omega)⟩
            rw [seenC_new hqn hc', show ((seenC n L + 1 : Nat) : Int) = (seenC n L : Int) + 1 by omega]; exact n4'
          have hkf : Keeps (· ∈ [bG, bC, Gs.block]) W W2 := (hkp.trans (hk1.mono fun b _ hb => by simp [hb])).trans (hk2.mono fun b _ hb => by simp [hb])
          have hsz : (seenC n L : Int) ≤ 100 := by omega
          have hsz0 : (0 : Int) ≤ (seenC n L : Int) := by omega
          clear hI hin hb hx htk hlx hL hinL hgf hgd hset hk1 g1 g2 g3 g4 n4 hk2 n4' hkp hcle
          have hC_h := Lib.hid hC
          have hI2_h := Lib.hid hI2
          have hc_h := Lib.hid hc
          have hc'_h := Lib.hid hc'
          have hkf_h := Lib.hid hkf
          clear hC hI2 hc hc' hkf
          go_wp2_with (fail)
          refine (hC_h.out _).mono ?_
          rintro e w1 ⟨rfl, rfl⟩
          go_upto_region 7 with (fail)
          rw [← hW1]
          clear hW1
          go_upto_region 8 with (fail)
          rw [← hW2]
          clear hW2
          go_wp2_with (fail)
          go_roundw
          case rel => exact ⟨k + 1, by omega, by go_num, hI2_h.out, hkf_h.out⟩
          case measure => simp [intOf]; omega
      · have hin' : inB x 0 ((n : Int) - 1) = false := by simpa using hin
        simp only [hin'] at hC
        have hinL : inW n (L ++ [x]) = false := by rw [inW_snoc, hin', Bool.and_false]
        have hxo : ¬ (0 ≤ x ∧ x < (n : Int)) := fun hh => by
          rw [show inB x 0 ((n : Int) - 1) = true from decide_eq_true ⟨hh.1, by omega⟩] at hin'; cases hin'
        obtain ⟨s0, s1⟩ := box1 hI.hgd
        obtain ⟨W1, hW1⟩ : ∃ W1, W1 = wr.setCell ⟨bG, 0, none⟩ (.bool false) := ⟨_, rfl⟩
        obtain ⟨n2, hk1⟩ := box_set hI.hgd 0 (.bool false)
        rw [← hW1] at n2 hk1
        have n2' : W1.heap[bG]? = some (.cells #[.bool false] tBool) := n2
        have hI2 : GI n gB bG bS bC Gs V1 V2 V3 (l ++ m.take (k + 1)) W1 := by
          rw [hlx]
          refine ⟨box_keeps hI.hg hk1 h4.1, by rw [hinL]; exact n2', box_keeps hI.hsl hk1 h5.1, ?_, ?_⟩
          · have e : seenC n (L ++ [x]) = seenC n L := by unfold seenC; rw [seenM_out hxo]
            rw [e]; exact box_keeps hI.hct hk1 (fun e => h1 e.symm)
          · rw [seenM_out hxo]; exact hI.hse.keeps hk1 (fun b hb e => by simp at hb; omega)
        have hkf : Keeps (· ∈ [bG, bC, Gs.block]) W W1 := hkp.trans (hk1.mono fun b _ hb => by simp [hb])
        clear hI hin hin' hx htk hlx hL hinL n2 hk1 n2' hkp
        have hC_h := Lib.hid hC
        have hI2_h := Lib.hid hI2
        have hkf_h := Lib.hid hkf
        have hxo_h := Lib.hid hxo
        clear hC hI2 hkf hxo
        go_wp2_with (fail)
        refine (hC_h.out _).mono ?_
        rintro e w1 ⟨rfl, rfl⟩
        go_upto_region 8 with (fail)
        rw [← hW1]
        clear hW1
        go_wp2_with (fail)
        go_roundw
        case rel => exact ⟨k + 1, by omega, by go_num, hI2_h.out, hkf_h.out⟩
        case measure => simp [intOf]; omega
    · obtain rfl : p = k := by omega
      rw [List.take_of_length_le (by rw [← hp_h.out]; exact Nat.le_refl _)] at hI
      have hI_h := Lib.hid hI
      have hkp_h := Lib.hid hkp
      clear hI hkp
      go_wp2_with (fail)
      go_end0
      exact ⟨rfl, hI_h.out, hkp_h.out⟩
end Go.Proofs.Ytanhmljgeiajoaa
