/-
  What the texts above it need, part 3.
-/
import Derived.Test.YtpkmjenoniedjaaDoorKSystemOfGraph2
import Derived.StillTail
namespace Go.Proofs.YtpkmjenoniedjaaDoor
open Go.RowKit
abbrev RowD := Nat × Nat × List Int × Int × List Int × Int
def RowOk (w : World) (x : RowD) : Prop := MN w x.1 x.2.1 x.2.2.1 (coefP x.2.2.2.1 x.2.2.2.2.1 x.2.2.2.2.2) ∧ ∀ z, z ∈ x.2.2.1 ↔ z = x.2.2.2.1 ∨ z ∈ x.2.2.2.2.1
def EdR (rs : List (Int × List Int × Int)) (w : World) (e : Ending) (w' : World) : Prop :=
 ∃ (G : Option Addr) (q c : Nat) (xs : List RowD), e = .returned (.slice G q c) ∧ xs.length = q ∧ Sl w' tRow 1 G q c (xs.map fun x => Value.map (some x.1)) ∧ (∀ x, x ∈ xs → RowOk w' x) ∧ xs.map (fun x => x.2.2.2) = rs ∧ Below w.heap.size w w'
theorem cell_belowS {w w' : World} (hb : Below w.heap.size w w') {a : Addr} {u : Value} (h : w.cell? a = some u) : w'.cell? a = some u := keeps_cell (Keeps.of_below hb (fun _ => False)) h id
theorem mirLo_any (k r : Int) (w : World) (hk : 3 ≤ k ∧ k ≤ 8) (hr : k + 9 - 3 = r) : Calls Tryd.prog 53 #[.int .i64 k] w fun e w' => e = .returned (.int .i64 r) ∧ w' = w := by
 have hA : t_inB k 3 8 = true := decide_eq_true hk
 have hr_h := lH hr; clear hr
 go_enter Tryd.func53, Tryd.ntmps53
 go_wp2_with (fail)
 refine (t_within_any _ _ _ _).mono ?_
 rintro e w' ⟨rfl, rfl⟩
 rw [hA]
 go_wp2_with (fail)
 go_ret
 exact ⟨congrArg (fun z => Ending.returned (Value.int .i64 z)) hr_h.out, rfl⟩
theorem mirHi_any (k r : Int) (w : World) (hk : 9 ≤ k ∧ k ≤ 14) (hr : k - 9 + 3 = r) : Calls Tryd.prog 53 #[.int .i64 k] w fun e w' => e = .returned (.int .i64 r) ∧ w' = w := by
 have hA : t_inB k 3 8 = false := decide_eq_false (by omega)
 have hB : t_inB k 9 14 = true := decide_eq_true hk
 have hr_h := lH hr; clear hr
 go_enter Tryd.func53, Tryd.ntmps53
 go_wp2_with (fail)
 refine (t_within_any _ _ _ _).mono ?_
 rintro e w' ⟨rfl, rfl⟩
 rw [hA]
 go_wp2_with (fail)
 refine (t_within_any _ _ _ _).mono ?_
 rintro e w' ⟨rfl, rfl⟩
 rw [hB]
 go_wp2_with (fail)
 go_ret
 exact ⟨congrArg (fun z => Ending.returned (Value.int .i64 z)) hr_h.out, rfl⟩
set_option maxRecDepth 100000 in
set_option maxHeartbeats 4000000 in
theorem edgeRows_3 (v : Int) (I O : Option Addr) (ci co : Nat) (i0 o0 o1 : Int) (w : World) (hI : RdI w I ([i0] : List Int)) (hO : RdI w O ([o0, o1] : List Int)) (hv : 0 ≤ v ∧ v < 100) (hi0 : 0 ≤ i0 ∧ i0 < 100) (ho0 : 0 ≤ o0 ∧ o0 < 100) (ho1 : 0 ≤ o1 ∧ o1 < 100) :
  Calls Tryd.prog 40 #[.agg #[.int .i64 3, .int .i64 v, .slice I 1 ci, .slice O 2 co]] w (EdR [(o0, [i0], -1), (o1, [i0], -1)] w) := by
 obtain ⟨W, hW, bW, k0⟩ := (⟨_, rfl, t_below_alloc _ _, heap_alloc_new _ _⟩ : ∃ W, W = w.alloc (.cells #[.int .i64 3, .int .i64 v, .slice I 1 ci, .slice O 2 co] tEd) ∧ Below w.heap.size w W ∧ W.heap[w.heap.size]? = some (.cells #[.int .i64 3, .int .i64 v, .slice I 1 ci, .slice O 2 co] tEd))
 have hI1 := hI.below bW
 have hO1 := hO.below bW
 have hMir := fun (W' : World) => mirLo_any 3 9 W' (by omega) rfl
 clear hI hO; have hI1_h := lH hI1; have hO1_h := lH hO1; have bW_h := lH bW; have k0_h := lH k0; have hMir_h := lH hMir; have hv_h := lH hv; have hi0_h := lH hi0; have ho0_h := lH ho0; have ho1_h := lH ho1; clear hI1 hO1 bW k0 hMir hv hi0 ho0 ho1
 go_enter Tryd.func40, Tryd.ntmps40
 go_upto_region 1 with (fail)
 rw [← hW]
 clear hW
 refine beginH (fun w' => w'.heap[w.heap.size]? = some (.cells #[.int .i64 3, .int .i64 v, .slice I 1 ci, .slice O 2 co] tEd)) (by kernel_rfl) ?_
 have hbdW1 : Below W.heap.size W W.drew := below_drewN (Below.refl _ _) 1
 generalize W.drew = W1 at hbdW1 ⊢
 have kd := t_box_below k0_h.out hbdW1
 refine tkH 0 ?_ rfl kd (fun W' hW' => ?_) ?_; rotate_left; · (obtain ⟨⟨y0, y1, y2, y3⟩, y4, y5, y6, y7⟩ := t_box4 hW'; clear hW'; go_simp; first | done | with_reducible rfl)
 simp only [Act.put, nS]
 refine tkH 1 ?_ rfl kd (fun W' hW' => ?_) ?_; rotate_left; · (obtain ⟨⟨y0, y1, y2, y3⟩, y4, y5, y6, y7⟩ := t_box4 hW'; clear hW'; go_simp; first | done | with_reducible rfl)
 simp only [Act.put, nS]
 refine tkH 2 ?_ rfl kd (fun W' hW' => ?_) ?_; rotate_left; · (obtain ⟨⟨y0, y1, y2, y3⟩, y4, y5, y6, y7⟩ := t_box4 hW'; clear hW'; go_simp; first | done | with_reducible rfl)
 simp only [Act.put, nS]
 refine tkH 3 ?_ rfl kd (fun W' hW' => ?_) ?_; rotate_left; · (obtain ⟨⟨y0, y1, y2, y3⟩, y4, y5, y6, y7⟩ := t_box4 hW'; clear hW'; go_simp; first | done | with_reducible rfl)
 simp only [Act.put, nS]
 refine tkH 4 ?_ rfl kd (fun W' hW' => ?_) ?_; rotate_left; · (obtain ⟨⟨y0, y1, y2, y3⟩, y4, y5, y6, y7⟩ := t_box4 hW'; clear hW'; go_simp; first | done | with_reducible rfl)
 simp only [Act.put, nS]
 refine tkH 5 ?_ rfl kd (fun W' hW' => ?_) ?_; rotate_left; · (obtain ⟨⟨y0, y1, y2, y3⟩, y4, y5, y6, y7⟩ := t_box4 hW'; clear hW'; go_simp; first | done | with_reducible rfl)
 simp only [Act.put, nS]
 refine doneH (by kernel_rfl) ?_
 obtain ⟨⟨c0, c1, c2, c3⟩, c4, c5, c6, c7⟩ := t_box4 kd
 have kd_h := lH kd; clear kd
 go_wp2_with (fail)
 clear c0 c1 c2 c3 c4 c5 c6 c7
 refine beginH (fun w' => w'.heap[w.heap.size]? = some (.cells #[.int .i64 3, .int .i64 v, .slice I 1 ci, .slice O 2 co] tEd)) (by kernel_rfl) ?_
 have hbdW2 : Below W1.heap.size W1 W1.drew := below_drewN (Below.refl _ _) 1
 generalize W1.drew = W2 at hbdW2 ⊢
 have kd2 := t_box_below kd_h.out hbdW2
 refine tkH 0 ?_ rfl kd2 (fun W' hW' => ?_) ?_; rotate_left; · (obtain ⟨⟨y0, y1, y2, y3⟩, y4, y5, y6, y7⟩ := t_box4 hW'; clear hW'; go_simp; first | done | with_reducible rfl)
 simp only [Act.put, nS]
 refine tkH 1 ?_ rfl kd2 (fun W' hW' => ?_) ?_; rotate_left; · (obtain ⟨⟨y0, y1, y2, y3⟩, y4, y5, y6, y7⟩ := t_box4 hW'; clear hW'; go_simp; first | done | with_reducible rfl)
 simp only [Act.put, nS]
 refine tkH 2 ?_ rfl kd2 (fun W' hW' => ?_) ?_; rotate_left; · (obtain ⟨⟨y0, y1, y2, y3⟩, y4, y5, y6, y7⟩ := t_box4 hW'; clear hW'; go_simp; first | done | with_reducible rfl)
 simp only [Act.put, nS]
 refine tkH 3 ?_ rfl kd2 (fun W' hW' => ?_) ?_; rotate_left; · (obtain ⟨⟨y0, y1, y2, y3⟩, y4, y5, y6, y7⟩ := t_box4 hW'; clear hW'; go_simp; first | done | with_reducible rfl)
 simp only [Act.put, nS]
 refine' callH 4 (f := _) (args := _) rfl (by kernel_rfl) (by rfl) ?_ ?_; rotate_left 2; · (go_simp; first | done | with_reducible rfl | (constructor <;> with_reducible rfl))
 refine (hMir_h.out W2).mono ?_
 rintro e wm ⟨rfl, hwm⟩
 subst wm
 refine ⟨_, rfl, kd2, ?_⟩
 simp only [Act.put, nS]
 refine tkH 5 ?_ rfl kd2 (fun W' hW' => ?_) ?_; rotate_left; · (skip; clear hW'; go_simp; first | done | with_reducible rfl)
 simp only [Act.put, nS]
 refine tkH 6 ?_ rfl kd2 (fun W' hW' => ?_) ?_; rotate_left; · (skip; clear hW'; go_simp; first | done | with_reducible rfl)
 simp only [Act.put, nS]
 refine doneH (by kernel_rfl) ?_
 have hb2 := below_trans hbdW1 hbdW2 hbdW1.size
 have hI2 := hI1_h.out.below hb2
 have hO2 := hO1_h.out.below hb2
 have hB2 := below_trans bW_h.out hb2 bW_h.out.size
 clear hbdW1 hbdW2 hb2
 obtain ⟨⟨g, o, z⟩, rfl, p0⟩ := hO2 0 _ rfl
 obtain ⟨ad, e, p1⟩ := hO2 1 _ rfl
 obtain rfl := Option.some.inj e
 have hS : W2.cell? ⟨g, o, z⟩ = some (.int .i64 o0) ∧ W2.cell? ⟨g, o + 1, none⟩ = some (.int .i64 o1) := ⟨p0, p1⟩
 clear e p0 p1 kd2; have hB2_h := lH hB2; have hI2_h := lH hI2; have hO2_h := lH hO2; clear hB2 hI2 hO2
 go_wp2_with (fail)
 refine beginH (fun w' => w'.cell? ⟨g, o, z⟩ = some (.int .i64 o0) ∧ w'.cell? ⟨g, o + 1, none⟩ = some (.int .i64 o1)) (by kernel_rfl) ?_
 have hbdW3 : Below W2.heap.size W2 W2.drew := below_drewN (Below.refl _ _) 1
 generalize W2.drew = W3 at hbdW3 ⊢
 have hS3 : W3.cell? ⟨g, o, z⟩ = some (.int .i64 o0) ∧ W3.cell? ⟨g, o + 1, none⟩ = some (.int .i64 o1) := ⟨cell_belowS hbdW3 hS.1, cell_belowS hbdW3 hS.2⟩
 have hI3 := hI2_h.out.below hbdW3
 have hB3 := below_trans hB2_h.out hbdW3 hB2_h.out.size
 clear hS hbdW3; have hS3_h := lH hS3; have hI3_h := lH hI3; have hB3_h := lH hB3; clear hS3 hI3 hB3
 refine tkH 0 ?_ rfl hS3_h.out (fun W' hW' => ?_) ?_; rotate_left; · (have y1 := hW'.1; have y2 := hW'.2; clear hW'; go_simp; first | done | with_reducible rfl)
 simp only [Act.put, nS]
 refine tkH 1 ?_ rfl hS3_h.out (fun W' hW' => ?_) ?_; rotate_left; · (have y1 := hW'.1; have y2 := hW'.2; clear hW'; go_simp; first | done | with_reducible rfl)
 simp only [Act.put, nS]
 refine tkH 2 ?_ rfl hS3_h.out (fun W' hW' => ?_) ?_; rotate_left; · (have y1 := hW'.1; have y2 := hW'.2; clear hW'; go_simp; first | done | with_reducible rfl)
 simp only [Act.put, nS]
 refine tkH 3 ?_ rfl hS3_h.out (fun W' hW' => ?_) ?_; rotate_left; · (have y1 := hW'.1; have y2 := hW'.2; clear hW'; go_simp; first | done | with_reducible rfl)
 simp only [Act.put, nS]
 refine tkH 4 ?_ rfl hS3_h.out (fun W' hW' => ?_) ?_; rotate_left; · (have y1 := hW'.1; have y2 := hW'.2; clear hW'; go_simp; first | done | with_reducible rfl)
 simp only [Act.put, nS]
 refine tkH 6 ?_ rfl hS3_h.out (fun W' hW' => ?_) ?_; rotate_left; · (have y1 := hW'.1; have y2 := hW'.2; clear hW'; go_simp; first | done | with_reducible rfl)
 simp only [Act.put, nS]
 refine tkH 7 ?_ rfl hS3_h.out (fun W' hW' => ?_) ?_; rotate_left; · (have y1 := hW'.1; have y2 := hW'.2; clear hW'; go_simp; first | done | with_reducible rfl)
 simp only [Act.put, nS]
 refine tkH 8 ?_ rfl hS3_h.out (fun W' hW' => ?_) ?_; rotate_left; · (have y1 := hW'.1; have y2 := hW'.2; clear hW'; go_simp; first | done | with_reducible rfl)
 simp only [Act.put, nS]
 refine tkH 9 ?_ rfl hS3_h.out (fun W' hW' => ?_) ?_; rotate_left; · (have y1 := hW'.1; have y2 := hW'.2; clear hW'; go_simp; first | done | with_reducible rfl)
 simp only [Act.put, nS]
 refine tkH 10 ?_ rfl hS3_h.out (fun W' hW' => ?_) ?_; rotate_left; · (have y1 := hW'.1; have y2 := hW'.2; clear hW'; go_simp; first | done | with_reducible rfl)
 simp only [Act.put, nS]
 refine' callH 5 (f := _) (args := _) rfl (by kernel_rfl) (by rfl) ?_ ?_; rotate_left 2; · (go_simp; first | done | with_reducible rfl | (constructor <;> with_reducible rfl))
 refine (edgeRow_any o0 (-1) [i0] I 1 ci W3 hI3_h.out rfl (by omega) ho0_h.out (fun x hx => by rw [List.mem_singleton.1 hx]; exact hi0_h.out) (by have := hv_h.out; omega)).mono ?_
 rintro e w4 ⟨m1, n1, K1, rfl, hM1, hK1, _, hb4⟩
 have hS4 : w4.cell? ⟨g, o, z⟩ = some (.int .i64 o0) ∧ w4.cell? ⟨g, o + 1, none⟩ = some (.int .i64 o1) := ⟨cell_belowS hb4 hS3_h.out.1, cell_belowS hb4 hS3_h.out.2⟩
 have hI4 := hI3_h.out.below hb4
 have hB4 := below_trans hB3_h.out hb4 hB3_h.out.size
 refine ⟨_, rfl, hS4, ?_⟩
 clear hb4; have hS4_h := lH hS4; have hI4_h := lH hI4; have hB4_h := lH hB4; have hM1_h := lH hM1; have hK1_h := lH hK1; clear hS4 hI4 hB4 hM1 hK1
 simp only [Act.put, nS]
 refine' callH 11 (f := _) (args := _) rfl (by kernel_rfl) (by rfl) ?_ ?_; rotate_left 2; · (go_simp; first | done | with_reducible rfl | (constructor <;> with_reducible rfl))
 refine (edgeRow_any o1 (-1) [i0] I 1 ci w4 hI4_h.out rfl (by omega) ho1_h.out (fun x hx => by rw [List.mem_singleton.1 hx]; exact hi0_h.out) (by have := hv_h.out; omega)).mono ?_
 rintro e w5 ⟨m2, n2, K2, rfl, hM2, hK2, _, hb5⟩
 have hS5 : w5.cell? ⟨g, o, z⟩ = some (.int .i64 o0) ∧ w5.cell? ⟨g, o + 1, none⟩ = some (.int .i64 o1) := ⟨cell_belowS hb5 hS4_h.out.1, cell_belowS hb5 hS4_h.out.2⟩
 have ba := t_below_alloc w5 (.cells #[.map (some m1), .map (some m2)] tRow)
 have hS6 : (w5.alloc (.cells #[.map (some m1), .map (some m2)] tRow)).cell? ⟨g, o, z⟩ = some (.int .i64 o0) ∧ (w5.alloc (.cells #[.map (some m1), .map (some m2)] tRow)).cell? ⟨g, o + 1, none⟩ = some (.int .i64 o1) := ⟨cell_belowS ba hS5.1, cell_belowS ba hS5.2⟩
 have hMa := (hM1_h.out.below hb5).below ba
 have hMb := hM2.below ba
 have hBe := below_trans (below_trans hB4_h.out hb5 hB4_h.out.size) ba (Nat.le_trans hB4_h.out.size hb5.size)
 refine ⟨_, rfl, hS5, ?_⟩
 clear hb5 ba hM2 hS5; have hMa_h := lH hMa; have hMb_h := lH hMb; have hBe_h := lH hBe; have hK2_h := lH hK2; have hS6_h := lH hS6; clear hMa hMb hBe hK2 hS6
 simp only [Act.put, nS]
 refine oneH 12 rfl (by kernel_rfl) (by rfl) (fun K hK => ?_)
 go_simp
 refine hK _ _ hS6_h.out ?_
 clear hK K
 refine tkH 13 ?_ rfl hS6_h.out (fun W' hW' => ?_) ?_; rotate_left; · (skip; clear hW'; go_simp; first | done | with_reducible rfl)
 simp only [Act.put, nS]
 refine doneH (by kernel_rfl) ?_
 go_wp2_with (fail)
 go_ret
 exact ⟨some ⟨w5.heap.size, 0, none⟩, 2, 2, [(m1, n1, K1, o0, [i0], -1), (m2, n2, K2, o1, [i0], -1)], rfl, rfl, Sl.laid w5 tRow 1 2 #[.map (some m1), .map (some m2)] (by unfold maxLen; omega) rfl, fun x hx => by rcases List.mem_cons.1 hx with rfl | hx; exact ⟨hMa_h.out, hK1_h.out⟩; rw [List.mem_singleton.1 hx]; exact ⟨hMb_h.out, hK2_h.out⟩, rfl, hBe_h.out⟩
set_option maxRecDepth 100000 in
set_option maxHeartbeats 4000000 in
theorem edgeRows_4 (v : Int) (I O : Option Addr) (ci co : Nat) (i0 : Int) (w : World) (hI : RdI w I ([i0] : List Int)) (hO : RdI w O ([] : List Int)) (hv : 0 ≤ v ∧ v < 100) (hi0 : 0 ≤ i0 ∧ i0 < 100) :
  Calls Tryd.prog 40 #[.agg #[.int .i64 4, .int .i64 v, .slice I 1 ci, .slice O 0 co]] w (EdR [] w) := by
 obtain ⟨W, hW, bW, k0⟩ := (⟨_, rfl, t_below_alloc _ _, heap_alloc_new _ _⟩ : ∃ W, W = w.alloc (.cells #[.int .i64 4, .int .i64 v, .slice I 1 ci, .slice O 0 co] tEd) ∧ Below w.heap.size w W ∧ W.heap[w.heap.size]? = some (.cells #[.int .i64 4, .int .i64 v, .slice I 1 ci, .slice O 0 co] tEd))
 have hI1 := hI.below bW
 have hO1 := hO.below bW
 have hMir := fun (W' : World) => mirLo_any 4 10 W' (by omega) rfl
 clear hI hO; have hI1_h := lH hI1; have hO1_h := lH hO1; have bW_h := lH bW; have k0_h := lH k0; have hMir_h := lH hMir; have hv_h := lH hv; have hi0_h := lH hi0; clear hI1 hO1 bW k0 hMir hv hi0
 go_enter Tryd.func40, Tryd.ntmps40
 go_upto_region 1 with (fail)
 rw [← hW]
 clear hW
 refine beginH (fun w' => w'.heap[w.heap.size]? = some (.cells #[.int .i64 4, .int .i64 v, .slice I 1 ci, .slice O 0 co] tEd)) (by kernel_rfl) ?_
 have hbdW1 : Below W.heap.size W W.drew := below_drewN (Below.refl _ _) 1
 generalize W.drew = W1 at hbdW1 ⊢
 have kd := t_box_below k0_h.out hbdW1
 refine tkH 0 ?_ rfl kd (fun W' hW' => ?_) ?_; rotate_left; · (obtain ⟨⟨y0, y1, y2, y3⟩, y4, y5, y6, y7⟩ := t_box4 hW'; clear hW'; go_simp; first | done | with_reducible rfl)
 simp only [Act.put, nS]
 refine tkH 1 ?_ rfl kd (fun W' hW' => ?_) ?_; rotate_left; · (obtain ⟨⟨y0, y1, y2, y3⟩, y4, y5, y6, y7⟩ := t_box4 hW'; clear hW'; go_simp; first | done | with_reducible rfl)
 simp only [Act.put, nS]
 refine tkH 2 ?_ rfl kd (fun W' hW' => ?_) ?_; rotate_left; · (obtain ⟨⟨y0, y1, y2, y3⟩, y4, y5, y6, y7⟩ := t_box4 hW'; clear hW'; go_simp; first | done | with_reducible rfl)
 simp only [Act.put, nS]
 refine tkH 3 ?_ rfl kd (fun W' hW' => ?_) ?_; rotate_left; · (obtain ⟨⟨y0, y1, y2, y3⟩, y4, y5, y6, y7⟩ := t_box4 hW'; clear hW'; go_simp; first | done | with_reducible rfl)
 simp only [Act.put, nS]
 refine tkH 4 ?_ rfl kd (fun W' hW' => ?_) ?_; rotate_left; · (obtain ⟨⟨y0, y1, y2, y3⟩, y4, y5, y6, y7⟩ := t_box4 hW'; clear hW'; go_simp; first | done | with_reducible rfl)
 simp only [Act.put, nS]
 refine tkH 5 ?_ rfl kd (fun W' hW' => ?_) ?_; rotate_left; · (obtain ⟨⟨y0, y1, y2, y3⟩, y4, y5, y6, y7⟩ := t_box4 hW'; clear hW'; go_simp; first | done | with_reducible rfl)
 simp only [Act.put, nS]
 refine doneH (by kernel_rfl) ?_
 obtain ⟨⟨c0, c1, c2, c3⟩, c4, c5, c6, c7⟩ := t_box4 kd
 have kd_h := lH kd; clear kd
 go_wp2_with (fail)
 clear c0 c1 c2 c3 c4 c5 c6 c7
 refine beginH (fun w' => w'.heap[w.heap.size]? = some (.cells #[.int .i64 4, .int .i64 v, .slice I 1 ci, .slice O 0 co] tEd)) (by kernel_rfl) ?_
 have hbdW2 : Below W1.heap.size W1 W1.drew := below_drewN (Below.refl _ _) 1
 generalize W1.drew = W2 at hbdW2 ⊢
 have kd2 := t_box_below kd_h.out hbdW2
 refine tkH 0 ?_ rfl kd2 (fun W' hW' => ?_) ?_; rotate_left; · (obtain ⟨⟨y0, y1, y2, y3⟩, y4, y5, y6, y7⟩ := t_box4 hW'; clear hW'; go_simp; first | done | with_reducible rfl)
 simp only [Act.put, nS]
 refine tkH 1 ?_ rfl kd2 (fun W' hW' => ?_) ?_; rotate_left; · (obtain ⟨⟨y0, y1, y2, y3⟩, y4, y5, y6, y7⟩ := t_box4 hW'; clear hW'; go_simp; first | done | with_reducible rfl)
 simp only [Act.put, nS]
 refine tkH 2 ?_ rfl kd2 (fun W' hW' => ?_) ?_; rotate_left; · (obtain ⟨⟨y0, y1, y2, y3⟩, y4, y5, y6, y7⟩ := t_box4 hW'; clear hW'; go_simp; first | done | with_reducible rfl)
 simp only [Act.put, nS]
 refine tkH 3 ?_ rfl kd2 (fun W' hW' => ?_) ?_; rotate_left; · (obtain ⟨⟨y0, y1, y2, y3⟩, y4, y5, y6, y7⟩ := t_box4 hW'; clear hW'; go_simp; first | done | with_reducible rfl)
 simp only [Act.put, nS]
 refine' callH 4 (f := _) (args := _) rfl (by kernel_rfl) (by rfl) ?_ ?_; rotate_left 2; · (go_simp; first | done | with_reducible rfl | (constructor <;> with_reducible rfl))
 refine (hMir_h.out W2).mono ?_
 rintro e wm ⟨rfl, hwm⟩
 subst wm
 refine ⟨_, rfl, kd2, ?_⟩
 simp only [Act.put, nS]
 refine tkH 5 ?_ rfl kd2 (fun W' hW' => ?_) ?_; rotate_left; · (skip; clear hW'; go_simp; first | done | with_reducible rfl)
 simp only [Act.put, nS]
 refine tkH 6 ?_ rfl kd2 (fun W' hW' => ?_) ?_; rotate_left; · (skip; clear hW'; go_simp; first | done | with_reducible rfl)
 simp only [Act.put, nS]
 refine doneH (by kernel_rfl) ?_
 have hb2 := below_trans hbdW1 hbdW2 hbdW1.size
 have hI2 := hI1_h.out.below hb2
 have hO2 := hO1_h.out.below hb2
 have hB2 := below_trans bW_h.out hb2 bW_h.out.size
 clear hbdW1 hbdW2 hb2; have kd2_h := lH kd2; have hB2_h := lH hB2; clear kd2 hB2; clear hI2 hO2
 go_wp2_with (fail)
 go_ret
 exact ⟨none, 0, 0, [], rfl, rfl, Sl.nil _ _ _, fun x hx => (by cases hx), rfl, hB2_h.out⟩
set_option maxRecDepth 100000 in
set_option maxHeartbeats 4000000 in
theorem edgeRows_5 (v : Int) (I O : Option Addr) (ci co : Nat) (i0 i1 o0 : Int) (w : World) (hI : RdI w I ([i0, i1] : List Int)) (hO : RdI w O ([o0] : List Int)) (hv : 0 ≤ v ∧ v < 100) (hi0 : 0 ≤ i0 ∧ i0 < 100) (hi1 : 0 ≤ i1 ∧ i1 < 100) (ho0 : 0 ≤ o0 ∧ o0 < 100) :
  Calls Tryd.prog 40 #[.agg #[.int .i64 5, .int .i64 v, .slice I 2 ci, .slice O 1 co]] w (EdR [(o0, [i0, i1], -1)] w) := by
 obtain ⟨W, hW, bW, k0⟩ := (⟨_, rfl, t_below_alloc _ _, heap_alloc_new _ _⟩ : ∃ W, W = w.alloc (.cells #[.int .i64 5, .int .i64 v, .slice I 2 ci, .slice O 1 co] tEd) ∧ Below w.heap.size w W ∧ W.heap[w.heap.size]? = some (.cells #[.int .i64 5, .int .i64 v, .slice I 2 ci, .slice O 1 co] tEd))
 have hI1 := hI.below bW
 have hO1 := hO.below bW
 have hMir := fun (W' : World) => mirLo_any 5 11 W' (by omega) rfl
 clear hI hO; have hI1_h := lH hI1; have hO1_h := lH hO1; have bW_h := lH bW; have k0_h := lH k0; have hMir_h := lH hMir; have hv_h := lH hv; have hi0_h := lH hi0; have hi1_h := lH hi1; have ho0_h := lH ho0; clear hI1 hO1 bW k0 hMir hv hi0 hi1 ho0
 go_enter Tryd.func40, Tryd.ntmps40
 go_upto_region 1 with (fail)
 rw [← hW]
 clear hW
 refine beginH (fun w' => w'.heap[w.heap.size]? = some (.cells #[.int .i64 5, .int .i64 v, .slice I 2 ci, .slice O 1 co] tEd)) (by kernel_rfl) ?_
 have hbdW1 : Below W.heap.size W W.drew := below_drewN (Below.refl _ _) 1
 generalize W.drew = W1 at hbdW1 ⊢
 have kd := t_box_below k0_h.out hbdW1
 refine tkH 0 ?_ rfl kd (fun W' hW' => ?_) ?_; rotate_left; · (obtain ⟨⟨y0, y1, y2, y3⟩, y4, y5, y6, y7⟩ := t_box4 hW'; clear hW'; go_simp; first | done | with_reducible rfl)
 simp only [Act.put, nS]
 refine tkH 1 ?_ rfl kd (fun W' hW' => ?_) ?_; rotate_left; · (obtain ⟨⟨y0, y1, y2, y3⟩, y4, y5, y6, y7⟩ := t_box4 hW'; clear hW'; go_simp; first | done | with_reducible rfl)
 simp only [Act.put, nS]
 refine tkH 2 ?_ rfl kd (fun W' hW' => ?_) ?_; rotate_left; · (obtain ⟨⟨y0, y1, y2, y3⟩, y4, y5, y6, y7⟩ := t_box4 hW'; clear hW'; go_simp; first | done | with_reducible rfl)
 simp only [Act.put, nS]
 refine tkH 3 ?_ rfl kd (fun W' hW' => ?_) ?_; rotate_left; · (obtain ⟨⟨y0, y1, y2, y3⟩, y4, y5, y6, y7⟩ := t_box4 hW'; clear hW'; go_simp; first | done | with_reducible rfl)
 simp only [Act.put, nS]
 refine tkH 4 ?_ rfl kd (fun W' hW' => ?_) ?_; rotate_left; · (obtain ⟨⟨y0, y1, y2, y3⟩, y4, y5, y6, y7⟩ := t_box4 hW'; clear hW'; go_simp; first | done | with_reducible rfl)
 simp only [Act.put, nS]
 refine tkH 5 ?_ rfl kd (fun W' hW' => ?_) ?_; rotate_left; · (obtain ⟨⟨y0, y1, y2, y3⟩, y4, y5, y6, y7⟩ := t_box4 hW'; clear hW'; go_simp; first | done | with_reducible rfl)
 simp only [Act.put, nS]
 refine doneH (by kernel_rfl) ?_
 obtain ⟨⟨c0, c1, c2, c3⟩, c4, c5, c6, c7⟩ := t_box4 kd
 have kd_h := lH kd; clear kd
 go_wp2_with (fail)
 clear c0 c1 c2 c3 c4 c5 c6 c7
 refine beginH (fun w' => w'.heap[w.heap.size]? = some (.cells #[.int .i64 5, .int .i64 v, .slice I 2 ci, .slice O 1 co] tEd)) (by kernel_rfl) ?_
 have hbdW2 : Below W1.heap.size W1 W1.drew := below_drewN (Below.refl _ _) 1
 generalize W1.drew = W2 at hbdW2 ⊢
 have kd2 := t_box_below kd_h.out hbdW2
 refine tkH 0 ?_ rfl kd2 (fun W' hW' => ?_) ?_; rotate_left; · (obtain ⟨⟨y0, y1, y2, y3⟩, y4, y5, y6, y7⟩ := t_box4 hW'; clear hW'; go_simp; first | done | with_reducible rfl)
 simp only [Act.put, nS]
 refine tkH 1 ?_ rfl kd2 (fun W' hW' => ?_) ?_; rotate_left; · (obtain ⟨⟨y0, y1, y2, y3⟩, y4, y5, y6, y7⟩ := t_box4 hW'; clear hW'; go_simp; first | done | with_reducible rfl)
 simp only [Act.put, nS]
 refine tkH 2 ?_ rfl kd2 (fun W' hW' => ?_) ?_; rotate_left; · (obtain ⟨⟨y0, y1, y2, y3⟩, y4, y5, y6, y7⟩ := t_box4 hW'; clear hW'; go_simp; first | done | with_reducible rfl)
 simp only [Act.put, nS]
 refine tkH 3 ?_ rfl kd2 (fun W' hW' => ?_) ?_; rotate_left; · (obtain ⟨⟨y0, y1, y2, y3⟩, y4, y5, y6, y7⟩ := t_box4 hW'; clear hW'; go_simp; first | done | with_reducible rfl)
 simp only [Act.put, nS]
 refine' callH 4 (f := _) (args := _) rfl (by kernel_rfl) (by rfl) ?_ ?_; rotate_left 2; · (go_simp; first | done | with_reducible rfl | (constructor <;> with_reducible rfl))
 refine (hMir_h.out W2).mono ?_
 rintro e wm ⟨rfl, hwm⟩
 subst wm
 refine ⟨_, rfl, kd2, ?_⟩
 simp only [Act.put, nS]
 refine tkH 5 ?_ rfl kd2 (fun W' hW' => ?_) ?_; rotate_left; · (skip; clear hW'; go_simp; first | done | with_reducible rfl)
 simp only [Act.put, nS]
 refine tkH 6 ?_ rfl kd2 (fun W' hW' => ?_) ?_; rotate_left; · (skip; clear hW'; go_simp; first | done | with_reducible rfl)
 simp only [Act.put, nS]
 refine doneH (by kernel_rfl) ?_
 have hb2 := below_trans hbdW1 hbdW2 hbdW1.size
 have hI2 := hI1_h.out.below hb2
 have hO2 := hO1_h.out.below hb2
 have hB2 := below_trans bW_h.out hb2 bW_h.out.size
 clear hbdW1 hbdW2 hb2
 obtain ⟨⟨g, o, z⟩, rfl, p0⟩ := hO2 0 _ rfl
 have hz : (⟨g, o, z⟩ : Addr).add 0 = ⟨g, o, z⟩ := rfl
 rw [hz] at p0
 clear hz; have kd2_h := lH kd2; have hB2_h := lH hB2; have hI2_h := lH hI2; have hO2_h := lH hO2; clear kd2 hB2 hI2 hO2
 go_wp2_with (fail)
 refine (edgeRow_any o0 (-1) [i0, i1] I 2 ci W2 hI2_h.out rfl (by omega) ho0_h.out (fun x hx => by rcases List.mem_cons.1 hx with rfl | hx; exact hi0_h.out; rw [List.mem_singleton.1 hx]; exact hi1_h.out) (by have := hv_h.out; omega)).mono ?_
 rintro e w3 ⟨m1, n1, K1, rfl, hM1, hK1, _, hb3⟩
 have ba := t_below_alloc w3 (.cells #[.map (some m1)] tRow)
 have hM2 := hM1.below ba
 have hBe := below_trans (below_trans hB2_h.out hb3 hB2_h.out.size) ba (Nat.le_trans hB2_h.out.size hb3.size)
 clear hM1 hb3 ba; have hM2_h := lH hM2; have hBe_h := lH hBe; have hK1_h := lH hK1; clear hM2 hBe hK1
 go_wp2_with (fail)
 go_ret
 exact ⟨some ⟨w3.heap.size, 0, none⟩, 1, 1, [(m1, n1, K1, o0, [i0, i1], -1)], rfl, rfl, Sl.laid w3 tRow 1 1 #[.map (some m1)] (by unfold maxLen; omega) rfl, fun x hx => by rw [List.mem_singleton.1 hx]; exact ⟨hM2_h.out, hK1_h.out⟩, rfl, hBe_h.out⟩
set_option maxRecDepth 100000 in
set_option maxHeartbeats 4000000 in
theorem edgeRows_6 (v : Int) (I O : Option Addr) (ci co : Nat) (o0 : Int) (w : World) (hI : RdI w I ([] : List Int)) (hO : RdI w O ([o0] : List Int)) (hv : 0 ≤ v ∧ v < 100) (ho0 : 0 ≤ o0 ∧ o0 < 100) :
  Calls Tryd.prog 40 #[.agg #[.int .i64 6, .int .i64 v, .slice I 0 ci, .slice O 1 co]] w (EdR [(o0, [], 0)] w) := by
 obtain ⟨W, hW, bW, k0⟩ := (⟨_, rfl, t_below_alloc _ _, heap_alloc_new _ _⟩ : ∃ W, W = w.alloc (.cells #[.int .i64 6, .int .i64 v, .slice I 0 ci, .slice O 1 co] tEd) ∧ Below w.heap.size w W ∧ W.heap[w.heap.size]? = some (.cells #[.int .i64 6, .int .i64 v, .slice I 0 ci, .slice O 1 co] tEd))
 have hI1 := hI.below bW
 have hO1 := hO.below bW
 have hMir := fun (W' : World) => mirLo_any 6 12 W' (by omega) rfl
 clear hI hO; have hI1_h := lH hI1; have hO1_h := lH hO1; have bW_h := lH bW; have k0_h := lH k0; have hMir_h := lH hMir; have hv_h := lH hv; have ho0_h := lH ho0; clear hI1 hO1 bW k0 hMir hv ho0
 go_enter Tryd.func40, Tryd.ntmps40
 go_upto_region 1 with (fail)
 rw [← hW]
 clear hW
 refine beginH (fun w' => w'.heap[w.heap.size]? = some (.cells #[.int .i64 6, .int .i64 v, .slice I 0 ci, .slice O 1 co] tEd)) (by kernel_rfl) ?_
 have hbdW1 : Below W.heap.size W W.drew := below_drewN (Below.refl _ _) 1
 generalize W.drew = W1 at hbdW1 ⊢
 have kd := t_box_below k0_h.out hbdW1
 refine tkH 0 ?_ rfl kd (fun W' hW' => ?_) ?_; rotate_left; · (obtain ⟨⟨y0, y1, y2, y3⟩, y4, y5, y6, y7⟩ := t_box4 hW'; clear hW'; go_simp; first | done | with_reducible rfl)
 simp only [Act.put, nS]
 refine tkH 1 ?_ rfl kd (fun W' hW' => ?_) ?_; rotate_left; · (obtain ⟨⟨y0, y1, y2, y3⟩, y4, y5, y6, y7⟩ := t_box4 hW'; clear hW'; go_simp; first | done | with_reducible rfl)
 simp only [Act.put, nS]
 refine tkH 2 ?_ rfl kd (fun W' hW' => ?_) ?_; rotate_left; · (obtain ⟨⟨y0, y1, y2, y3⟩, y4, y5, y6, y7⟩ := t_box4 hW'; clear hW'; go_simp; first | done | with_reducible rfl)
 simp only [Act.put, nS]
 refine tkH 3 ?_ rfl kd (fun W' hW' => ?_) ?_; rotate_left; · (obtain ⟨⟨y0, y1, y2, y3⟩, y4, y5, y6, y7⟩ := t_box4 hW'; clear hW'; go_simp; first | done | with_reducible rfl)
 simp only [Act.put, nS]
 refine tkH 4 ?_ rfl kd (fun W' hW' => ?_) ?_; rotate_left; · (obtain ⟨⟨y0, y1, y2, y3⟩, y4, y5, y6, y7⟩ := t_box4 hW'; clear hW'; go_simp; first | done | with_reducible rfl)
 simp only [Act.put, nS]
 refine tkH 5 ?_ rfl kd (fun W' hW' => ?_) ?_; rotate_left; · (obtain ⟨⟨y0, y1, y2, y3⟩, y4, y5, y6, y7⟩ := t_box4 hW'; clear hW'; go_simp; first | done | with_reducible rfl)
 simp only [Act.put, nS]
 refine doneH (by kernel_rfl) ?_
 obtain ⟨⟨c0, c1, c2, c3⟩, c4, c5, c6, c7⟩ := t_box4 kd
 have kd_h := lH kd; clear kd
 go_wp2_with (fail)
 clear c0 c1 c2 c3 c4 c5 c6 c7
 refine beginH (fun w' => w'.heap[w.heap.size]? = some (.cells #[.int .i64 6, .int .i64 v, .slice I 0 ci, .slice O 1 co] tEd)) (by kernel_rfl) ?_
 have hbdW2 : Below W1.heap.size W1 W1.drew := below_drewN (Below.refl _ _) 1
 generalize W1.drew = W2 at hbdW2 ⊢
 have kd2 := t_box_below kd_h.out hbdW2
 refine tkH 0 ?_ rfl kd2 (fun W' hW' => ?_) ?_; rotate_left; · (obtain ⟨⟨y0, y1, y2, y3⟩, y4, y5, y6, y7⟩ := t_box4 hW'; clear hW'; go_simp; first | done | with_reducible rfl)
 simp only [Act.put, nS]
 refine tkH 1 ?_ rfl kd2 (fun W' hW' => ?_) ?_; rotate_left; · (obtain ⟨⟨y0, y1, y2, y3⟩, y4, y5, y6, y7⟩ := t_box4 hW'; clear hW'; go_simp; first | done | with_reducible rfl)
 simp only [Act.put, nS]
 refine tkH 2 ?_ rfl kd2 (fun W' hW' => ?_) ?_; rotate_left; · (obtain ⟨⟨y0, y1, y2, y3⟩, y4, y5, y6, y7⟩ := t_box4 hW'; clear hW'; go_simp; first | done | with_reducible rfl)
 simp only [Act.put, nS]
 refine tkH 3 ?_ rfl kd2 (fun W' hW' => ?_) ?_; rotate_left; · (obtain ⟨⟨y0, y1, y2, y3⟩, y4, y5, y6, y7⟩ := t_box4 hW'; clear hW'; go_simp; first | done | with_reducible rfl)
 simp only [Act.put, nS]
 refine' callH 4 (f := _) (args := _) rfl (by kernel_rfl) (by rfl) ?_ ?_; rotate_left 2; · (go_simp; first | done | with_reducible rfl | (constructor <;> with_reducible rfl))
 refine (hMir_h.out W2).mono ?_
 rintro e wm ⟨rfl, hwm⟩
 subst wm
 refine ⟨_, rfl, kd2, ?_⟩
 simp only [Act.put, nS]
 refine tkH 5 ?_ rfl kd2 (fun W' hW' => ?_) ?_; rotate_left; · (skip; clear hW'; go_simp; first | done | with_reducible rfl)
 simp only [Act.put, nS]
 refine tkH 6 ?_ rfl kd2 (fun W' hW' => ?_) ?_; rotate_left; · (skip; clear hW'; go_simp; first | done | with_reducible rfl)
 simp only [Act.put, nS]
 refine doneH (by kernel_rfl) ?_
 have hb2 := below_trans hbdW1 hbdW2 hbdW1.size
 have hI2 := hI1_h.out.below hb2
 have hO2 := hO1_h.out.below hb2
 have hB2 := below_trans bW_h.out hb2 bW_h.out.size
 clear hbdW1 hbdW2 hb2
 obtain ⟨⟨g, o, z⟩, rfl, p0⟩ := hO2 0 _ rfl
 have hz : (⟨g, o, z⟩ : Addr).add 0 = ⟨g, o, z⟩ := rfl
 rw [hz] at p0
 clear hz; have kd2_h := lH kd2; have hB2_h := lH hB2; have hI2_h := lH hI2; have hO2_h := lH hO2; clear kd2 hB2 hI2 hO2
 go_wp2_with (fail)
 refine (edgeRow_any o0 0 [] none 0 0 W2 (fun j x hj => by cases hj) rfl (by omega) ho0_h.out (fun x hx => by cases hx) (by have := hv_h.out; omega)).mono ?_
 rintro e w3 ⟨m1, n1, K1, rfl, hM1, hK1, _, hb3⟩
 have ba := t_below_alloc w3 (.cells #[.map (some m1)] tRow)
 have hM2 := hM1.below ba
 have hBe := below_trans (below_trans hB2_h.out hb3 hB2_h.out.size) ba (Nat.le_trans hB2_h.out.size hb3.size)
 clear hM1 hb3 ba; have hM2_h := lH hM2; have hBe_h := lH hBe; have hK1_h := lH hK1; clear hM2 hBe hK1
 go_wp2_with (fail)
 go_ret
 exact ⟨some ⟨w3.heap.size, 0, none⟩, 1, 1, [(m1, n1, K1, o0, [], 0)], rfl, rfl, Sl.laid w3 tRow 1 1 #[.map (some m1)] (by unfold maxLen; omega) rfl, fun x hx => by rw [List.mem_singleton.1 hx]; exact ⟨hM2_h.out, hK1_h.out⟩, rfl, hBe_h.out⟩
set_option maxRecDepth 100000 in
set_option maxHeartbeats 4000000 in
theorem edgeRows_7 (v : Int) (I O : Option Addr) (ci co : Nat) (i0 o0 : Int) (w : World) (hI : RdI w I ([i0] : List Int)) (hO : RdI w O ([o0] : List Int)) (hv : 0 ≤ v ∧ v < 100) (hi0 : 0 ≤ i0 ∧ i0 < 100) (ho0 : 0 ≤ o0 ∧ o0 < 100) :
  Calls Tryd.prog 40 #[.agg #[.int .i64 7, .int .i64 v, .slice I 1 ci, .slice O 1 co]] w (EdR [(o0, [i0], -v)] w) := by
 obtain ⟨W, hW, bW, k0⟩ := (⟨_, rfl, t_below_alloc _ _, heap_alloc_new _ _⟩ : ∃ W, W = w.alloc (.cells #[.int .i64 7, .int .i64 v, .slice I 1 ci, .slice O 1 co] tEd) ∧ Below w.heap.size w W ∧ W.heap[w.heap.size]? = some (.cells #[.int .i64 7, .int .i64 v, .slice I 1 ci, .slice O 1 co] tEd))
 have hI1 := hI.below bW
 have hO1 := hO.below bW
 have hMir := fun (W' : World) => mirLo_any 7 13 W' (by omega) rfl
 clear hI hO; have hI1_h := lH hI1; have hO1_h := lH hO1; have bW_h := lH bW; have k0_h := lH k0; have hMir_h := lH hMir; have hv_h := lH hv; have hi0_h := lH hi0; have ho0_h := lH ho0; clear hI1 hO1 bW k0 hMir hv hi0 ho0
 go_enter Tryd.func40, Tryd.ntmps40
 go_upto_region 1 with (fail)
 rw [← hW]
 clear hW
 refine beginH (fun w' => w'.heap[w.heap.size]? = some (.cells #[.int .i64 7, .int .i64 v, .slice I 1 ci, .slice O 1 co] tEd)) (by kernel_rfl) ?_
 have hbdW1 : Below W.heap.size W W.drew := below_drewN (Below.refl _ _) 1
 generalize W.drew = W1 at hbdW1 ⊢
 have kd := t_box_below k0_h.out hbdW1
 refine tkH 0 ?_ rfl kd (fun W' hW' => ?_) ?_; rotate_left; · (obtain ⟨⟨y0, y1, y2, y3⟩, y4, y5, y6, y7⟩ := t_box4 hW'; clear hW'; go_simp; first | done | with_reducible rfl)
 simp only [Act.put, nS]
 refine tkH 1 ?_ rfl kd (fun W' hW' => ?_) ?_; rotate_left; · (obtain ⟨⟨y0, y1, y2, y3⟩, y4, y5, y6, y7⟩ := t_box4 hW'; clear hW'; go_simp; first | done | with_reducible rfl)
 simp only [Act.put, nS]
 refine tkH 2 ?_ rfl kd (fun W' hW' => ?_) ?_; rotate_left; · (obtain ⟨⟨y0, y1, y2, y3⟩, y4, y5, y6, y7⟩ := t_box4 hW'; clear hW'; go_simp; first | done | with_reducible rfl)
 simp only [Act.put, nS]
 refine tkH 3 ?_ rfl kd (fun W' hW' => ?_) ?_; rotate_left; · (obtain ⟨⟨y0, y1, y2, y3⟩, y4, y5, y6, y7⟩ := t_box4 hW'; clear hW'; go_simp; first | done | with_reducible rfl)
 simp only [Act.put, nS]
 refine tkH 4 ?_ rfl kd (fun W' hW' => ?_) ?_; rotate_left; · (obtain ⟨⟨y0, y1, y2, y3⟩, y4, y5, y6, y7⟩ := t_box4 hW'; clear hW'; go_simp; first | done | with_reducible rfl)
 simp only [Act.put, nS]
 refine tkH 5 ?_ rfl kd (fun W' hW' => ?_) ?_; rotate_left; · (obtain ⟨⟨y0, y1, y2, y3⟩, y4, y5, y6, y7⟩ := t_box4 hW'; clear hW'; go_simp; first | done | with_reducible rfl)
 simp only [Act.put, nS]
 refine doneH (by kernel_rfl) ?_
 obtain ⟨⟨c0, c1, c2, c3⟩, c4, c5, c6, c7⟩ := t_box4 kd
 have kd_h := lH kd; clear kd
 go_wp2_with (fail)
 clear c0 c1 c2 c3 c4 c5 c6 c7
 refine beginH (fun w' => w'.heap[w.heap.size]? = some (.cells #[.int .i64 7, .int .i64 v, .slice I 1 ci, .slice O 1 co] tEd)) (by kernel_rfl) ?_
 have hbdW2 : Below W1.heap.size W1 W1.drew := below_drewN (Below.refl _ _) 1
 generalize W1.drew = W2 at hbdW2 ⊢
 have kd2 := t_box_below kd_h.out hbdW2
 refine tkH 0 ?_ rfl kd2 (fun W' hW' => ?_) ?_; rotate_left; · (obtain ⟨⟨y0, y1, y2, y3⟩, y4, y5, y6, y7⟩ := t_box4 hW'; clear hW'; go_simp; first | done | with_reducible rfl)
 simp only [Act.put, nS]
 refine tkH 1 ?_ rfl kd2 (fun W' hW' => ?_) ?_; rotate_left; · (obtain ⟨⟨y0, y1, y2, y3⟩, y4, y5, y6, y7⟩ := t_box4 hW'; clear hW'; go_simp; first | done | with_reducible rfl)
 simp only [Act.put, nS]
 refine tkH 2 ?_ rfl kd2 (fun W' hW' => ?_) ?_; rotate_left; · (obtain ⟨⟨y0, y1, y2, y3⟩, y4, y5, y6, y7⟩ := t_box4 hW'; clear hW'; go_simp; first | done | with_reducible rfl)
 simp only [Act.put, nS]
 refine tkH 3 ?_ rfl kd2 (fun W' hW' => ?_) ?_; rotate_left; · (obtain ⟨⟨y0, y1, y2, y3⟩, y4, y5, y6, y7⟩ := t_box4 hW'; clear hW'; go_simp; first | done | with_reducible rfl)
 simp only [Act.put, nS]
 refine' callH 4 (f := _) (args := _) rfl (by kernel_rfl) (by rfl) ?_ ?_; rotate_left 2; · (go_simp; first | done | with_reducible rfl | (constructor <;> with_reducible rfl))
 refine (hMir_h.out W2).mono ?_
 rintro e wm ⟨rfl, hwm⟩
 subst wm
 refine ⟨_, rfl, kd2, ?_⟩
 simp only [Act.put, nS]
 refine tkH 5 ?_ rfl kd2 (fun W' hW' => ?_) ?_; rotate_left; · (skip; clear hW'; go_simp; first | done | with_reducible rfl)
 simp only [Act.put, nS]
 refine tkH 6 ?_ rfl kd2 (fun W' hW' => ?_) ?_; rotate_left; · (skip; clear hW'; go_simp; first | done | with_reducible rfl)
 simp only [Act.put, nS]
 refine doneH (by kernel_rfl) ?_
 have hb2 := below_trans hbdW1 hbdW2 hbdW1.size
 have hI2 := hI1_h.out.below hb2
 have hO2 := hO1_h.out.below hb2
 have hB2 := below_trans bW_h.out hb2 bW_h.out.size
 clear hbdW1 hbdW2 hb2
 obtain ⟨⟨g, o, z⟩, rfl, p0⟩ := hO2 0 _ rfl
 have hS : W2.cell? ⟨g, o, z⟩ = some (.int .i64 o0) ∧ W2.heap[w.heap.size]? = some (.cells #[.int .i64 7, .int .i64 v, .slice I 1 ci, .slice (some ⟨g, o, z⟩) 1 co] tEd) := ⟨p0, kd2⟩
 clear p0 kd2; have hB2_h := lH hB2; have hI2_h := lH hI2; have hO2_h := lH hO2; clear hB2 hI2 hO2
 go_wp2_with (fail)
 refine beginH (fun w' => w'.cell? ⟨g, o, z⟩ = some (.int .i64 o0) ∧ w'.heap[w.heap.size]? = some (.cells #[.int .i64 7, .int .i64 v, .slice I 1 ci, .slice (some ⟨g, o, z⟩) 1 co] tEd)) (by kernel_rfl) ?_
 have hbdW3 : Below W2.heap.size W2 W2.drew := below_drewN (Below.refl _ _) 1
 generalize W2.drew = W3 at hbdW3 ⊢
 have hS3 : W3.cell? ⟨g, o, z⟩ = some (.int .i64 o0) ∧ W3.heap[w.heap.size]? = some (.cells #[.int .i64 7, .int .i64 v, .slice I 1 ci, .slice (some ⟨g, o, z⟩) 1 co] tEd) := ⟨cell_belowS hbdW3 hS.1, t_box_below hS.2 hbdW3⟩
 have hI3 := hI2_h.out.below hbdW3
 have hB3 := below_trans hB2_h.out hbdW3 hB2_h.out.size
 have hvb := hv_h.out
 obtain ⟨hvb1, hvb2⟩ := hvb
 clear hS hbdW3
 have hwr : IntKind.i64.wrap (-v) = -v := IntWalk.i64_in _ (by omega)
 have hS3_h := lH hS3; have hI3_h := lH hI3; have hB3_h := lH hB3; clear hS3 hI3 hB3
 refine tkH 0 ?_ rfl hS3_h.out (fun W' hW' => ?_) ?_; rotate_left; · (have y0 := hW'.1; obtain ⟨⟨y1, y2, y3, y4⟩, y5, y6, y7, y8⟩ := t_box4 hW'.2; have hwr' := hwr; clear hW'; go_simp; first | done | with_reducible rfl)
 simp only [Act.put, nS]
 refine tkH 1 ?_ rfl hS3_h.out (fun W' hW' => ?_) ?_; rotate_left; · (have y0 := hW'.1; obtain ⟨⟨y1, y2, y3, y4⟩, y5, y6, y7, y8⟩ := t_box4 hW'.2; have hwr' := hwr; clear hW'; go_simp; first | done | with_reducible rfl)
 simp only [Act.put, nS]
 refine tkH 2 ?_ rfl hS3_h.out (fun W' hW' => ?_) ?_; rotate_left; · (have y0 := hW'.1; obtain ⟨⟨y1, y2, y3, y4⟩, y5, y6, y7, y8⟩ := t_box4 hW'.2; have hwr' := hwr; clear hW'; go_simp; first | done | with_reducible rfl)
 simp only [Act.put, nS]
 refine tkH 3 ?_ rfl hS3_h.out (fun W' hW' => ?_) ?_; rotate_left; · (have y0 := hW'.1; obtain ⟨⟨y1, y2, y3, y4⟩, y5, y6, y7, y8⟩ := t_box4 hW'.2; have hwr' := hwr; clear hW'; go_simp; first | done | with_reducible rfl)
 simp only [Act.put, nS]
 refine tkH 4 ?_ rfl hS3_h.out (fun W' hW' => ?_) ?_; rotate_left; · (have y0 := hW'.1; obtain ⟨⟨y1, y2, y3, y4⟩, y5, y6, y7, y8⟩ := t_box4 hW'.2; have hwr' := hwr; clear hW'; go_simp; first | done | with_reducible rfl)
 simp only [Act.put, nS]
 refine tkH 5 ?_ rfl hS3_h.out (fun W' hW' => ?_) ?_; rotate_left; · (have y0 := hW'.1; obtain ⟨⟨y1, y2, y3, y4⟩, y5, y6, y7, y8⟩ := t_box4 hW'.2; have hwr' := hwr; clear hW'; go_simp; first | done | with_reducible rfl)
 simp only [Act.put, nS]
 refine tkH 6 ?_ rfl hS3_h.out (fun W' hW' => ?_) ?_; rotate_left; · (have y0 := hW'.1; obtain ⟨⟨y1, y2, y3, y4⟩, y5, y6, y7, y8⟩ := t_box4 hW'.2; have hwr' := hwr; clear hW'; go_simp; first | done | with_reducible rfl)
 simp only [Act.put, nS]
 refine tkH 7 ?_ rfl hS3_h.out (fun W' hW' => ?_) ?_; rotate_left; · (have y0 := hW'.1; obtain ⟨⟨y1, y2, y3, y4⟩, y5, y6, y7, y8⟩ := t_box4 hW'.2; have hwr' := hwr; clear hW'; go_simp; first | done | with_reducible rfl)
 simp only [Act.put, nS]
 refine' callH 8 (f := _) (args := _) rfl (by kernel_rfl) (by rfl) ?_ ?_; rotate_left 2; · (go_simp; first | done | with_reducible rfl | (constructor <;> with_reducible rfl))
 refine (edgeRow_any o0 (-v) [i0] I 1 ci W3 hI3_h.out rfl (by omega) ho0_h.out (fun x hx => by rw [List.mem_singleton.1 hx]; exact hi0_h.out) (by have := hv_h.out; omega)).mono ?_
 rintro e w4 ⟨m1, n1, K1, rfl, hM1, hK1, _, hb4⟩
 have ba := t_below_alloc w4 (.cells #[.map (some m1)] tRow)
 have hS4 : w4.cell? ⟨g, o, z⟩ = some (.int .i64 o0) ∧ w4.heap[w.heap.size]? = some (.cells #[.int .i64 7, .int .i64 v, .slice I 1 ci, .slice (some ⟨g, o, z⟩) 1 co] tEd) := ⟨cell_belowS hb4 hS3_h.out.1, t_box_below hS3_h.out.2 hb4⟩
 have hS5 : (w4.alloc (.cells #[.map (some m1)] tRow)).cell? ⟨g, o, z⟩ = some (.int .i64 o0) ∧ (w4.alloc (.cells #[.map (some m1)] tRow)).heap[w.heap.size]? = some (.cells #[.int .i64 7, .int .i64 v, .slice I 1 ci, .slice (some ⟨g, o, z⟩) 1 co] tEd) := ⟨cell_belowS ba hS4.1, t_box_below hS4.2 ba⟩
 have hM2 := hM1.below ba
 have hBe := below_trans (below_trans hB3_h.out hb4 hB3_h.out.size) ba (Nat.le_trans hB3_h.out.size hb4.size)
 refine ⟨_, rfl, hS4, ?_⟩
 clear hb4 ba hM1 hS4; have hM2_h := lH hM2; have hBe_h := lH hBe; have hK1_h := lH hK1; have hS5_h := lH hS5; clear hM2 hBe hK1 hS5
 simp only [Act.put, nS]
 refine oneH 9 rfl (by kernel_rfl) (by rfl) (fun K hK => ?_)
 go_simp
 refine hK _ _ hS5_h.out ?_
 clear hK K
 refine tkH 10 ?_ rfl hS5_h.out (fun W' hW' => ?_) ?_; rotate_left; · (skip; clear hW'; go_simp; first | done | with_reducible rfl)
 simp only [Act.put, nS]
 refine doneH (by kernel_rfl) ?_
 go_wp2_with (fail)
 go_ret
 exact ⟨some ⟨w4.heap.size, 0, none⟩, 1, 1, [(m1, n1, K1, o0, [i0], -v)], rfl, rfl, Sl.laid w4 tRow 1 1 #[.map (some m1)] (by unfold maxLen; omega) rfl, fun x hx => by rw [List.mem_singleton.1 hx]; exact ⟨hM2_h.out, hK1_h.out⟩, rfl, hBe_h.out⟩
set_option maxRecDepth 100000 in
set_option maxHeartbeats 4000000 in
theorem edgeRows_8 (v : Int) (I O : Option Addr) (ci co : Nat) (i0 o0 : Int) (w : World) (hI : RdI w I ([i0] : List Int)) (hO : RdI w O ([o0] : List Int)) (hv : 0 ≤ v ∧ v < 100) (hi0 : 0 ≤ i0 ∧ i0 < 100) (ho0 : 0 ≤ o0 ∧ o0 < 100) :
  Calls Tryd.prog 40 #[.agg #[.int .i64 8, .int .i64 v, .slice I 1 ci, .slice O 1 co]] w (EdR [] w) := by
 obtain ⟨W, hW, bW, k0⟩ := (⟨_, rfl, t_below_alloc _ _, heap_alloc_new _ _⟩ : ∃ W, W = w.alloc (.cells #[.int .i64 8, .int .i64 v, .slice I 1 ci, .slice O 1 co] tEd) ∧ Below w.heap.size w W ∧ W.heap[w.heap.size]? = some (.cells #[.int .i64 8, .int .i64 v, .slice I 1 ci, .slice O 1 co] tEd))
 have hI1 := hI.below bW
 have hO1 := hO.below bW
 have hMir := fun (W' : World) => mirLo_any 8 14 W' (by omega) rfl
 clear hI hO; have hI1_h := lH hI1; have hO1_h := lH hO1; have bW_h := lH bW; have k0_h := lH k0; have hMir_h := lH hMir; have hv_h := lH hv; have hi0_h := lH hi0; have ho0_h := lH ho0; clear hI1 hO1 bW k0 hMir hv hi0 ho0
 go_enter Tryd.func40, Tryd.ntmps40
 go_upto_region 1 with (fail)
 rw [← hW]
 clear hW
 refine beginH (fun w' => w'.heap[w.heap.size]? = some (.cells #[.int .i64 8, .int .i64 v, .slice I 1 ci, .slice O 1 co] tEd)) (by kernel_rfl) ?_
 have hbdW1 : Below W.heap.size W W.drew := below_drewN (Below.refl _ _) 1
 generalize W.drew = W1 at hbdW1 ⊢
 have kd := t_box_below k0_h.out hbdW1
 refine tkH 0 ?_ rfl kd (fun W' hW' => ?_) ?_; rotate_left; · (obtain ⟨⟨y0, y1, y2, y3⟩, y4, y5, y6, y7⟩ := t_box4 hW'; clear hW'; go_simp; first | done | with_reducible rfl)
 simp only [Act.put, nS]
 refine tkH 1 ?_ rfl kd (fun W' hW' => ?_) ?_; rotate_left; · (obtain ⟨⟨y0, y1, y2, y3⟩, y4, y5, y6, y7⟩ := t_box4 hW'; clear hW'; go_simp; first | done | with_reducible rfl)
 simp only [Act.put, nS]
 refine tkH 2 ?_ rfl kd (fun W' hW' => ?_) ?_; rotate_left; · (obtain ⟨⟨y0, y1, y2, y3⟩, y4, y5, y6, y7⟩ := t_box4 hW'; clear hW'; go_simp; first | done | with_reducible rfl)
 simp only [Act.put, nS]
 refine tkH 3 ?_ rfl kd (fun W' hW' => ?_) ?_; rotate_left; · (obtain ⟨⟨y0, y1, y2, y3⟩, y4, y5, y6, y7⟩ := t_box4 hW'; clear hW'; go_simp; first | done | with_reducible rfl)
 simp only [Act.put, nS]
 refine tkH 4 ?_ rfl kd (fun W' hW' => ?_) ?_; rotate_left; · (obtain ⟨⟨y0, y1, y2, y3⟩, y4, y5, y6, y7⟩ := t_box4 hW'; clear hW'; go_simp; first | done | with_reducible rfl)
 simp only [Act.put, nS]
 refine tkH 5 ?_ rfl kd (fun W' hW' => ?_) ?_; rotate_left; · (obtain ⟨⟨y0, y1, y2, y3⟩, y4, y5, y6, y7⟩ := t_box4 hW'; clear hW'; go_simp; first | done | with_reducible rfl)
 simp only [Act.put, nS]
 refine doneH (by kernel_rfl) ?_
 obtain ⟨⟨c0, c1, c2, c3⟩, c4, c5, c6, c7⟩ := t_box4 kd
 have kd_h := lH kd; clear kd
 go_wp2_with (fail)
 clear c0 c1 c2 c3 c4 c5 c6 c7
 refine beginH (fun w' => w'.heap[w.heap.size]? = some (.cells #[.int .i64 8, .int .i64 v, .slice I 1 ci, .slice O 1 co] tEd)) (by kernel_rfl) ?_
 have hbdW2 : Below W1.heap.size W1 W1.drew := below_drewN (Below.refl _ _) 1
 generalize W1.drew = W2 at hbdW2 ⊢
 have kd2 := t_box_below kd_h.out hbdW2
 refine tkH 0 ?_ rfl kd2 (fun W' hW' => ?_) ?_; rotate_left; · (obtain ⟨⟨y0, y1, y2, y3⟩, y4, y5, y6, y7⟩ := t_box4 hW'; clear hW'; go_simp; first | done | with_reducible rfl)
 simp only [Act.put, nS]
 refine tkH 1 ?_ rfl kd2 (fun W' hW' => ?_) ?_; rotate_left; · (obtain ⟨⟨y0, y1, y2, y3⟩, y4, y5, y6, y7⟩ := t_box4 hW'; clear hW'; go_simp; first | done | with_reducible rfl)
 simp only [Act.put, nS]
 refine tkH 2 ?_ rfl kd2 (fun W' hW' => ?_) ?_; rotate_left; · (obtain ⟨⟨y0, y1, y2, y3⟩, y4, y5, y6, y7⟩ := t_box4 hW'; clear hW'; go_simp; first | done | with_reducible rfl)
 simp only [Act.put, nS]
 refine tkH 3 ?_ rfl kd2 (fun W' hW' => ?_) ?_; rotate_left; · (obtain ⟨⟨y0, y1, y2, y3⟩, y4, y5, y6, y7⟩ := t_box4 hW'; clear hW'; go_simp; first | done | with_reducible rfl)
 simp only [Act.put, nS]
 refine' callH 4 (f := _) (args := _) rfl (by kernel_rfl) (by rfl) ?_ ?_; rotate_left 2; · (go_simp; first | done | with_reducible rfl | (constructor <;> with_reducible rfl))
 refine (hMir_h.out W2).mono ?_
 rintro e wm ⟨rfl, hwm⟩
 subst wm
 refine ⟨_, rfl, kd2, ?_⟩
 simp only [Act.put, nS]
 refine tkH 5 ?_ rfl kd2 (fun W' hW' => ?_) ?_; rotate_left; · (skip; clear hW'; go_simp; first | done | with_reducible rfl)
 simp only [Act.put, nS]
 refine tkH 6 ?_ rfl kd2 (fun W' hW' => ?_) ?_; rotate_left; · (skip; clear hW'; go_simp; first | done | with_reducible rfl)
 simp only [Act.put, nS]
 refine doneH (by kernel_rfl) ?_
 have hb2 := below_trans hbdW1 hbdW2 hbdW1.size
 have hI2 := hI1_h.out.below hb2
 have hO2 := hO1_h.out.below hb2
 have hB2 := below_trans bW_h.out hb2 bW_h.out.size
 clear hbdW1 hbdW2 hb2; have kd2_h := lH kd2; have hB2_h := lH hB2; clear kd2 hB2; clear hI2 hO2
 go_wp2_with (fail)
 go_ret
 exact ⟨none, 0, 0, [], rfl, rfl, Sl.nil _ _ _, fun x hx => (by cases hx), rfl, hB2_h.out⟩
set_option maxRecDepth 100000 in
set_option maxHeartbeats 4000000 in
theorem edgeRows_9 (v : Int) (I O : Option Addr) (ci co : Nat) (i0 o0 o1 : Int) (w : World) (hI : RdI w I ([i0] : List Int)) (hO : RdI w O ([o0, o1] : List Int)) (hv : 0 ≤ v ∧ v < 100) (hi0 : 0 ≤ i0 ∧ i0 < 100) (ho0 : 0 ≤ o0 ∧ o0 < 100) (ho1 : 0 ≤ o1 ∧ o1 < 100) :
  Calls Tryd.prog 40 #[.agg #[.int .i64 9, .int .i64 v, .slice O 2 co, .slice I 1 ci]] w (EdR [(o0, [i0], -1), (o1, [i0], -1)] w) := by
 obtain ⟨W, hW, bW, k0⟩ := (⟨_, rfl, t_below_alloc _ _, heap_alloc_new _ _⟩ : ∃ W, W = w.alloc (.cells #[.int .i64 9, .int .i64 v, .slice O 2 co, .slice I 1 ci] tEd) ∧ Below w.heap.size w W ∧ W.heap[w.heap.size]? = some (.cells #[.int .i64 9, .int .i64 v, .slice O 2 co, .slice I 1 ci] tEd))
 have hI1 := hI.below bW
 have hO1 := hO.below bW
 have hMir := fun (W' : World) => mirHi_any 9 3 W' (by omega) rfl
 clear hI hO; have hI1_h := lH hI1; have hO1_h := lH hO1; have bW_h := lH bW; have k0_h := lH k0; have hMir_h := lH hMir; have hv_h := lH hv; have hi0_h := lH hi0; have ho0_h := lH ho0; have ho1_h := lH ho1; clear hI1 hO1 bW k0 hMir hv hi0 ho0 ho1
 go_enter Tryd.func40, Tryd.ntmps40
 go_upto_region 1 with (fail)
 rw [← hW]
 clear hW
 refine beginH (fun w' => w'.heap[w.heap.size]? = some (.cells #[.int .i64 9, .int .i64 v, .slice O 2 co, .slice I 1 ci] tEd)) (by kernel_rfl) ?_
 have hbdW1 : Below W.heap.size W W.drew := below_drewN (Below.refl _ _) 1
 generalize W.drew = W1 at hbdW1 ⊢
 have kd := t_box_below k0_h.out hbdW1
 refine tkH 0 ?_ rfl kd (fun W' hW' => ?_) ?_; rotate_left; · (obtain ⟨⟨y0, y1, y2, y3⟩, y4, y5, y6, y7⟩ := t_box4 hW'; clear hW'; go_simp; first | done | with_reducible rfl)
 simp only [Act.put, nS]
 refine tkH 1 ?_ rfl kd (fun W' hW' => ?_) ?_; rotate_left; · (obtain ⟨⟨y0, y1, y2, y3⟩, y4, y5, y6, y7⟩ := t_box4 hW'; clear hW'; go_simp; first | done | with_reducible rfl)
 simp only [Act.put, nS]
 refine tkH 2 ?_ rfl kd (fun W' hW' => ?_) ?_; rotate_left; · (obtain ⟨⟨y0, y1, y2, y3⟩, y4, y5, y6, y7⟩ := t_box4 hW'; clear hW'; go_simp; first | done | with_reducible rfl)
 simp only [Act.put, nS]
 refine tkH 3 ?_ rfl kd (fun W' hW' => ?_) ?_; rotate_left; · (obtain ⟨⟨y0, y1, y2, y3⟩, y4, y5, y6, y7⟩ := t_box4 hW'; clear hW'; go_simp; first | done | with_reducible rfl)
 simp only [Act.put, nS]
 refine tkH 4 ?_ rfl kd (fun W' hW' => ?_) ?_; rotate_left; · (obtain ⟨⟨y0, y1, y2, y3⟩, y4, y5, y6, y7⟩ := t_box4 hW'; clear hW'; go_simp; first | done | with_reducible rfl)
 simp only [Act.put, nS]
 refine tkH 5 ?_ rfl kd (fun W' hW' => ?_) ?_; rotate_left; · (obtain ⟨⟨y0, y1, y2, y3⟩, y4, y5, y6, y7⟩ := t_box4 hW'; clear hW'; go_simp; first | done | with_reducible rfl)
 simp only [Act.put, nS]
 refine doneH (by kernel_rfl) ?_
 obtain ⟨⟨c0, c1, c2, c3⟩, c4, c5, c6, c7⟩ := t_box4 kd
 have kd_h := lH kd; clear kd
 go_wp2_with (fail)
 clear c0 c1 c2 c3 c4 c5 c6 c7
 refine beginH (fun w' => w'.heap[w.heap.size]? = some (.cells #[.int .i64 9, .int .i64 v, .slice O 2 co, .slice I 1 ci] tEd)) (by kernel_rfl) ?_
 have hbdW2 : Below W1.heap.size W1 W1.drew := below_drewN (Below.refl _ _) 1
 generalize W1.drew = W2 at hbdW2 ⊢
 have kd2 := t_box_below kd_h.out hbdW2
 refine tkH 0 ?_ rfl kd2 (fun W' hW' => ?_) ?_; rotate_left; · (obtain ⟨⟨y0, y1, y2, y3⟩, y4, y5, y6, y7⟩ := t_box4 hW'; clear hW'; go_simp; first | done | with_reducible rfl)
 simp only [Act.put, nS]
 refine tkH 1 ?_ rfl kd2 (fun W' hW' => ?_) ?_; rotate_left; · (obtain ⟨⟨y0, y1, y2, y3⟩, y4, y5, y6, y7⟩ := t_box4 hW'; clear hW'; go_simp; first | done | with_reducible rfl)
 simp only [Act.put, nS]
 refine tkH 2 ?_ rfl kd2 (fun W' hW' => ?_) ?_; rotate_left; · (obtain ⟨⟨y0, y1, y2, y3⟩, y4, y5, y6, y7⟩ := t_box4 hW'; clear hW'; go_simp; first | done | with_reducible rfl)
 simp only [Act.put, nS]
 refine tkH 3 ?_ rfl kd2 (fun W' hW' => ?_) ?_; rotate_left; · (obtain ⟨⟨y0, y1, y2, y3⟩, y4, y5, y6, y7⟩ := t_box4 hW'; clear hW'; go_simp; first | done | with_reducible rfl)
 simp only [Act.put, nS]
 refine' callH 4 (f := _) (args := _) rfl (by kernel_rfl) (by rfl) ?_ ?_; rotate_left 2; · (go_simp; first | done | with_reducible rfl | (constructor <;> with_reducible rfl))
 refine (hMir_h.out W2).mono ?_
 rintro e wm ⟨rfl, hwm⟩
 subst wm
 refine ⟨_, rfl, kd2, ?_⟩
 simp only [Act.put, nS]
 refine tkH 5 ?_ rfl kd2 (fun W' hW' => ?_) ?_; rotate_left; · (skip; clear hW'; go_simp; first | done | with_reducible rfl)
 simp only [Act.put, nS]
 refine tkH 6 ?_ rfl kd2 (fun W' hW' => ?_) ?_; rotate_left; · (skip; clear hW'; go_simp; first | done | with_reducible rfl)
 simp only [Act.put, nS]
 refine doneH (by kernel_rfl) ?_
 have hb2 := below_trans hbdW1 hbdW2 hbdW1.size
 have hI2 := hI1_h.out.below hb2
 have hO2 := hO1_h.out.below hb2
 have hB2 := below_trans bW_h.out hb2 bW_h.out.size
 clear hbdW1 hbdW2 hb2
 obtain ⟨⟨g, o, z⟩, rfl, p0⟩ := hO2 0 _ rfl
 obtain ⟨ad, e, p1⟩ := hO2 1 _ rfl
 obtain rfl := Option.some.inj e
 have hS : W2.cell? ⟨g, o, z⟩ = some (.int .i64 o0) ∧ W2.cell? ⟨g, o + 1, none⟩ = some (.int .i64 o1) := ⟨p0, p1⟩
 clear e p0 p1 kd2; have hB2_h := lH hB2; have hI2_h := lH hI2; have hO2_h := lH hO2; clear hB2 hI2 hO2
 go_wp2_with (fail)
 refine beginH (fun w' => w'.cell? ⟨g, o, z⟩ = some (.int .i64 o0) ∧ w'.cell? ⟨g, o + 1, none⟩ = some (.int .i64 o1)) (by kernel_rfl) ?_
 have hbdW3 : Below W2.heap.size W2 W2.drew := below_drewN (Below.refl _ _) 1
 generalize W2.drew = W3 at hbdW3 ⊢
 have hS3 : W3.cell? ⟨g, o, z⟩ = some (.int .i64 o0) ∧ W3.cell? ⟨g, o + 1, none⟩ = some (.int .i64 o1) := ⟨cell_belowS hbdW3 hS.1, cell_belowS hbdW3 hS.2⟩
 have hI3 := hI2_h.out.below hbdW3
 have hB3 := below_trans hB2_h.out hbdW3 hB2_h.out.size
 clear hS hbdW3; have hS3_h := lH hS3; have hI3_h := lH hI3; have hB3_h := lH hB3; clear hS3 hI3 hB3
 refine tkH 0 ?_ rfl hS3_h.out (fun W' hW' => ?_) ?_; rotate_left; · (have y1 := hW'.1; have y2 := hW'.2; clear hW'; go_simp; first | done | with_reducible rfl)
 simp only [Act.put, nS]
 refine tkH 1 ?_ rfl hS3_h.out (fun W' hW' => ?_) ?_; rotate_left; · (have y1 := hW'.1; have y2 := hW'.2; clear hW'; go_simp; first | done | with_reducible rfl)
 simp only [Act.put, nS]
 refine tkH 2 ?_ rfl hS3_h.out (fun W' hW' => ?_) ?_; rotate_left; · (have y1 := hW'.1; have y2 := hW'.2; clear hW'; go_simp; first | done | with_reducible rfl)
 simp only [Act.put, nS]
 refine tkH 3 ?_ rfl hS3_h.out (fun W' hW' => ?_) ?_; rotate_left; · (have y1 := hW'.1; have y2 := hW'.2; clear hW'; go_simp; first | done | with_reducible rfl)
 simp only [Act.put, nS]
 refine tkH 4 ?_ rfl hS3_h.out (fun W' hW' => ?_) ?_; rotate_left; · (have y1 := hW'.1; have y2 := hW'.2; clear hW'; go_simp; first | done | with_reducible rfl)
 simp only [Act.put, nS]
 refine tkH 6 ?_ rfl hS3_h.out (fun W' hW' => ?_) ?_; rotate_left; · (have y1 := hW'.1; have y2 := hW'.2; clear hW'; go_simp; first | done | with_reducible rfl)
 simp only [Act.put, nS]
 refine tkH 7 ?_ rfl hS3_h.out (fun W' hW' => ?_) ?_; rotate_left; · (have y1 := hW'.1; have y2 := hW'.2; clear hW'; go_simp; first | done | with_reducible rfl)
 simp only [Act.put, nS]
 refine tkH 8 ?_ rfl hS3_h.out (fun W' hW' => ?_) ?_; rotate_left; · (have y1 := hW'.1; have y2 := hW'.2; clear hW'; go_simp; first | done | with_reducible rfl)
 simp only [Act.put, nS]
 refine tkH 9 ?_ rfl hS3_h.out (fun W' hW' => ?_) ?_; rotate_left; · (have y1 := hW'.1; have y2 := hW'.2; clear hW'; go_simp; first | done | with_reducible rfl)
 simp only [Act.put, nS]
 refine tkH 10 ?_ rfl hS3_h.out (fun W' hW' => ?_) ?_; rotate_left; · (have y1 := hW'.1; have y2 := hW'.2; clear hW'; go_simp; first | done | with_reducible rfl)
 simp only [Act.put, nS]
 refine' callH 5 (f := _) (args := _) rfl (by kernel_rfl) (by rfl) ?_ ?_; rotate_left 2; · (go_simp; first | done | with_reducible rfl | (constructor <;> with_reducible rfl))
 refine (edgeRow_any o0 (-1) [i0] I 1 ci W3 hI3_h.out rfl (by omega) ho0_h.out (fun x hx => by rw [List.mem_singleton.1 hx]; exact hi0_h.out) (by have := hv_h.out; omega)).mono ?_
 rintro e w4 ⟨m1, n1, K1, rfl, hM1, hK1, _, hb4⟩
 have hS4 : w4.cell? ⟨g, o, z⟩ = some (.int .i64 o0) ∧ w4.cell? ⟨g, o + 1, none⟩ = some (.int .i64 o1) := ⟨cell_belowS hb4 hS3_h.out.1, cell_belowS hb4 hS3_h.out.2⟩
 have hI4 := hI3_h.out.below hb4
 have hB4 := below_trans hB3_h.out hb4 hB3_h.out.size
 refine ⟨_, rfl, hS4, ?_⟩
 clear hb4; have hS4_h := lH hS4; have hI4_h := lH hI4; have hB4_h := lH hB4; have hM1_h := lH hM1; have hK1_h := lH hK1; clear hS4 hI4 hB4 hM1 hK1
 simp only [Act.put, nS]
 refine' callH 11 (f := _) (args := _) rfl (by kernel_rfl) (by rfl) ?_ ?_; rotate_left 2; · (go_simp; first | done | with_reducible rfl | (constructor <;> with_reducible rfl))
 refine (edgeRow_any o1 (-1) [i0] I 1 ci w4 hI4_h.out rfl (by omega) ho1_h.out (fun x hx => by rw [List.mem_singleton.1 hx]; exact hi0_h.out) (by have := hv_h.out; omega)).mono ?_
 rintro e w5 ⟨m2, n2, K2, rfl, hM2, hK2, _, hb5⟩
 have hS5 : w5.cell? ⟨g, o, z⟩ = some (.int .i64 o0) ∧ w5.cell? ⟨g, o + 1, none⟩ = some (.int .i64 o1) := ⟨cell_belowS hb5 hS4_h.out.1, cell_belowS hb5 hS4_h.out.2⟩
 have ba := t_below_alloc w5 (.cells #[.map (some m1), .map (some m2)] tRow)
 have hS6 : (w5.alloc (.cells #[.map (some m1), .map (some m2)] tRow)).cell? ⟨g, o, z⟩ = some (.int .i64 o0) ∧ (w5.alloc (.cells #[.map (some m1), .map (some m2)] tRow)).cell? ⟨g, o + 1, none⟩ = some (.int .i64 o1) := ⟨cell_belowS ba hS5.1, cell_belowS ba hS5.2⟩
 have hMa := (hM1_h.out.below hb5).below ba
 have hMb := hM2.below ba
 have hBe := below_trans (below_trans hB4_h.out hb5 hB4_h.out.size) ba (Nat.le_trans hB4_h.out.size hb5.size)
 refine ⟨_, rfl, hS5, ?_⟩
 clear hb5 ba hM2 hS5; have hMa_h := lH hMa; have hMb_h := lH hMb; have hBe_h := lH hBe; have hK2_h := lH hK2; have hS6_h := lH hS6; clear hMa hMb hBe hK2 hS6
 simp only [Act.put, nS]
 refine oneH 12 rfl (by kernel_rfl) (by rfl) (fun K hK => ?_)
 go_simp
 refine hK _ _ hS6_h.out ?_
 clear hK K
 refine tkH 13 ?_ rfl hS6_h.out (fun W' hW' => ?_) ?_; rotate_left; · (skip; clear hW'; go_simp; first | done | with_reducible rfl)
 simp only [Act.put, nS]
 refine doneH (by kernel_rfl) ?_
 go_wp2_with (fail)
 go_ret
 exact ⟨some ⟨w5.heap.size, 0, none⟩, 2, 2, [(m1, n1, K1, o0, [i0], -1), (m2, n2, K2, o1, [i0], -1)], rfl, rfl, Sl.laid w5 tRow 1 2 #[.map (some m1), .map (some m2)] (by unfold maxLen; omega) rfl, fun x hx => by rcases List.mem_cons.1 hx with rfl | hx; exact ⟨hMa_h.out, hK1_h.out⟩; rw [List.mem_singleton.1 hx]; exact ⟨hMb_h.out, hK2_h.out⟩, rfl, hBe_h.out⟩
set_option maxRecDepth 100000 in
set_option maxHeartbeats 4000000 in
theorem edgeRows_10 (v : Int) (I O : Option Addr) (ci co : Nat) (i0 : Int) (w : World) (hI : RdI w I ([i0] : List Int)) (hO : RdI w O ([] : List Int)) (hv : 0 ≤ v ∧ v < 100) (hi0 : 0 ≤ i0 ∧ i0 < 100) :
  Calls Tryd.prog 40 #[.agg #[.int .i64 10, .int .i64 v, .slice O 0 co, .slice I 1 ci]] w (EdR [] w) := by
 obtain ⟨W, hW, bW, k0⟩ := (⟨_, rfl, t_below_alloc _ _, heap_alloc_new _ _⟩ : ∃ W, W = w.alloc (.cells #[.int .i64 10, .int .i64 v, .slice O 0 co, .slice I 1 ci] tEd) ∧ Below w.heap.size w W ∧ W.heap[w.heap.size]? = some (.cells #[.int .i64 10, .int .i64 v, .slice O 0 co, .slice I 1 ci] tEd))
 have hI1 := hI.below bW
 have hO1 := hO.below bW
 have hMir := fun (W' : World) => mirHi_any 10 4 W' (by omega) rfl
 clear hI hO; have hI1_h := lH hI1; have hO1_h := lH hO1; have bW_h := lH bW; have k0_h := lH k0; have hMir_h := lH hMir; have hv_h := lH hv; have hi0_h := lH hi0; clear hI1 hO1 bW k0 hMir hv hi0
 go_enter Tryd.func40, Tryd.ntmps40
 go_upto_region 1 with (fail)
 rw [← hW]
 clear hW
 refine beginH (fun w' => w'.heap[w.heap.size]? = some (.cells #[.int .i64 10, .int .i64 v, .slice O 0 co, .slice I 1 ci] tEd)) (by kernel_rfl) ?_
 have hbdW1 : Below W.heap.size W W.drew := below_drewN (Below.refl _ _) 1
 generalize W.drew = W1 at hbdW1 ⊢
 have kd := t_box_below k0_h.out hbdW1
 refine tkH 0 ?_ rfl kd (fun W' hW' => ?_) ?_; rotate_left; · (obtain ⟨⟨y0, y1, y2, y3⟩, y4, y5, y6, y7⟩ := t_box4 hW'; clear hW'; go_simp; first | done | with_reducible rfl)
 simp only [Act.put, nS]
 refine tkH 1 ?_ rfl kd (fun W' hW' => ?_) ?_; rotate_left; · (obtain ⟨⟨y0, y1, y2, y3⟩, y4, y5, y6, y7⟩ := t_box4 hW'; clear hW'; go_simp; first | done | with_reducible rfl)
 simp only [Act.put, nS]
 refine tkH 2 ?_ rfl kd (fun W' hW' => ?_) ?_; rotate_left; · (obtain ⟨⟨y0, y1, y2, y3⟩, y4, y5, y6, y7⟩ := t_box4 hW'; clear hW'; go_simp; first | done | with_reducible rfl)
 simp only [Act.put, nS]
 refine tkH 3 ?_ rfl kd (fun W' hW' => ?_) ?_; rotate_left; · (obtain ⟨⟨y0, y1, y2, y3⟩, y4, y5, y6, y7⟩ := t_box4 hW'; clear hW'; go_simp; first | done | with_reducible rfl)
 simp only [Act.put, nS]
 refine tkH 4 ?_ rfl kd (fun W' hW' => ?_) ?_; rotate_left; · (obtain ⟨⟨y0, y1, y2, y3⟩, y4, y5, y6, y7⟩ := t_box4 hW'; clear hW'; go_simp; first | done | with_reducible rfl)
 simp only [Act.put, nS]
 refine tkH 5 ?_ rfl kd (fun W' hW' => ?_) ?_; rotate_left; · (obtain ⟨⟨y0, y1, y2, y3⟩, y4, y5, y6, y7⟩ := t_box4 hW'; clear hW'; go_simp; first | done | with_reducible rfl)
 simp only [Act.put, nS]
 refine doneH (by kernel_rfl) ?_
 obtain ⟨⟨c0, c1, c2, c3⟩, c4, c5, c6, c7⟩ := t_box4 kd
 have kd_h := lH kd; clear kd
 go_wp2_with (fail)
 clear c0 c1 c2 c3 c4 c5 c6 c7
 refine beginH (fun w' => w'.heap[w.heap.size]? = some (.cells #[.int .i64 10, .int .i64 v, .slice O 0 co, .slice I 1 ci] tEd)) (by kernel_rfl) ?_
 have hbdW2 : Below W1.heap.size W1 W1.drew := below_drewN (Below.refl _ _) 1
 generalize W1.drew = W2 at hbdW2 ⊢
 have kd2 := t_box_below kd_h.out hbdW2
 refine tkH 0 ?_ rfl kd2 (fun W' hW' => ?_) ?_; rotate_left; · (obtain ⟨⟨y0, y1, y2, y3⟩, y4, y5, y6, y7⟩ := t_box4 hW'; clear hW'; go_simp; first | done | with_reducible rfl)
 simp only [Act.put, nS]
 refine tkH 1 ?_ rfl kd2 (fun W' hW' => ?_) ?_; rotate_left; · (obtain ⟨⟨y0, y1, y2, y3⟩, y4, y5, y6, y7⟩ := t_box4 hW'; clear hW'; go_simp; first | done | with_reducible rfl)
 simp only [Act.put, nS]
 refine tkH 2 ?_ rfl kd2 (fun W' hW' => ?_) ?_; rotate_left; · (obtain ⟨⟨y0, y1, y2, y3⟩, y4, y5, y6, y7⟩ := t_box4 hW'; clear hW'; go_simp; first | done | with_reducible rfl)
 simp only [Act.put, nS]
 refine tkH 3 ?_ rfl kd2 (fun W' hW' => ?_) ?_; rotate_left; · (obtain ⟨⟨y0, y1, y2, y3⟩, y4, y5, y6, y7⟩ := t_box4 hW'; clear hW'; go_simp; first | done | with_reducible rfl)
 simp only [Act.put, nS]
 refine' callH 4 (f := _) (args := _) rfl (by kernel_rfl) (by rfl) ?_ ?_; rotate_left 2; · (go_simp; first | done | with_reducible rfl | (constructor <;> with_reducible rfl))
 refine (hMir_h.out W2).mono ?_
 rintro e wm ⟨rfl, hwm⟩
 subst wm
 refine ⟨_, rfl, kd2, ?_⟩
 simp only [Act.put, nS]
 refine tkH 5 ?_ rfl kd2 (fun W' hW' => ?_) ?_; rotate_left; · (skip; clear hW'; go_simp; first | done | with_reducible rfl)
 simp only [Act.put, nS]
 refine tkH 6 ?_ rfl kd2 (fun W' hW' => ?_) ?_; rotate_left; · (skip; clear hW'; go_simp; first | done | with_reducible rfl)
 simp only [Act.put, nS]
 refine doneH (by kernel_rfl) ?_
 have hb2 := below_trans hbdW1 hbdW2 hbdW1.size
 have hI2 := hI1_h.out.below hb2
 have hO2 := hO1_h.out.below hb2
 have hB2 := below_trans bW_h.out hb2 bW_h.out.size
 clear hbdW1 hbdW2 hb2; have kd2_h := lH kd2; have hB2_h := lH hB2; clear kd2 hB2; clear hI2 hO2
 go_wp2_with (fail)
 go_ret
 exact ⟨none, 0, 0, [], rfl, rfl, Sl.nil _ _ _, fun x hx => (by cases hx), rfl, hB2_h.out⟩
set_option maxRecDepth 100000 in
set_option maxHeartbeats 4000000 in
theorem edgeRows_11 (v : Int) (I O : Option Addr) (ci co : Nat) (i0 i1 o0 : Int) (w : World) (hI : RdI w I ([i0, i1] : List Int)) (hO : RdI w O ([o0] : List Int)) (hv : 0 ≤ v ∧ v < 100) (hi0 : 0 ≤ i0 ∧ i0 < 100) (hi1 : 0 ≤ i1 ∧ i1 < 100) (ho0 : 0 ≤ o0 ∧ o0 < 100) :
  Calls Tryd.prog 40 #[.agg #[.int .i64 11, .int .i64 v, .slice O 1 co, .slice I 2 ci]] w (EdR [(o0, [i0, i1], -1)] w) := by
 obtain ⟨W, hW, bW, k0⟩ := (⟨_, rfl, t_below_alloc _ _, heap_alloc_new _ _⟩ : ∃ W, W = w.alloc (.cells #[.int .i64 11, .int .i64 v, .slice O 1 co, .slice I 2 ci] tEd) ∧ Below w.heap.size w W ∧ W.heap[w.heap.size]? = some (.cells #[.int .i64 11, .int .i64 v, .slice O 1 co, .slice I 2 ci] tEd))
 have hI1 := hI.below bW
 have hO1 := hO.below bW
 have hMir := fun (W' : World) => mirHi_any 11 5 W' (by omega) rfl
 clear hI hO; have hI1_h := lH hI1; have hO1_h := lH hO1; have bW_h := lH bW; have k0_h := lH k0; have hMir_h := lH hMir; have hv_h := lH hv; have hi0_h := lH hi0; have hi1_h := lH hi1; have ho0_h := lH ho0; clear hI1 hO1 bW k0 hMir hv hi0 hi1 ho0
 go_enter Tryd.func40, Tryd.ntmps40
 go_upto_region 1 with (fail)
 rw [← hW]
 clear hW
 refine beginH (fun w' => w'.heap[w.heap.size]? = some (.cells #[.int .i64 11, .int .i64 v, .slice O 1 co, .slice I 2 ci] tEd)) (by kernel_rfl) ?_
 have hbdW1 : Below W.heap.size W W.drew := below_drewN (Below.refl _ _) 1
 generalize W.drew = W1 at hbdW1 ⊢
 have kd := t_box_below k0_h.out hbdW1
 refine tkH 0 ?_ rfl kd (fun W' hW' => ?_) ?_; rotate_left; · (obtain ⟨⟨y0, y1, y2, y3⟩, y4, y5, y6, y7⟩ := t_box4 hW'; clear hW'; go_simp; first | done | with_reducible rfl)
 simp only [Act.put, nS]
 refine tkH 1 ?_ rfl kd (fun W' hW' => ?_) ?_; rotate_left; · (obtain ⟨⟨y0, y1, y2, y3⟩, y4, y5, y6, y7⟩ := t_box4 hW'; clear hW'; go_simp; first | done | with_reducible rfl)
 simp only [Act.put, nS]
 refine tkH 2 ?_ rfl kd (fun W' hW' => ?_) ?_; rotate_left; · (obtain ⟨⟨y0, y1, y2, y3⟩, y4, y5, y6, y7⟩ := t_box4 hW'; clear hW'; go_simp; first | done | with_reducible rfl)
 simp only [Act.put, nS]
 refine tkH 3 ?_ rfl kd (fun W' hW' => ?_) ?_; rotate_left; · (obtain ⟨⟨y0, y1, y2, y3⟩, y4, y5, y6, y7⟩ := t_box4 hW'; clear hW'; go_simp; first | done | with_reducible rfl)
 simp only [Act.put, nS]
 refine tkH 4 ?_ rfl kd (fun W' hW' => ?_) ?_; rotate_left; · (obtain ⟨⟨y0, y1, y2, y3⟩, y4, y5, y6, y7⟩ := t_box4 hW'; clear hW'; go_simp; first | done | with_reducible rfl)
 simp only [Act.put, nS]
 refine tkH 5 ?_ rfl kd (fun W' hW' => ?_) ?_; rotate_left; · (obtain ⟨⟨y0, y1, y2, y3⟩, y4, y5, y6, y7⟩ := t_box4 hW'; clear hW'; go_simp; first | done | with_reducible rfl)
 simp only [Act.put, nS]
 refine doneH (by kernel_rfl) ?_
 obtain ⟨⟨c0, c1, c2, c3⟩, c4, c5, c6, c7⟩ := t_box4 kd
 have kd_h := lH kd; clear kd
 go_wp2_with (fail)
 clear c0 c1 c2 c3 c4 c5 c6 c7
 refine beginH (fun w' => w'.heap[w.heap.size]? = some (.cells #[.int .i64 11, .int .i64 v, .slice O 1 co, .slice I 2 ci] tEd)) (by kernel_rfl) ?_
 have hbdW2 : Below W1.heap.size W1 W1.drew := below_drewN (Below.refl _ _) 1
 generalize W1.drew = W2 at hbdW2 ⊢
 have kd2 := t_box_below kd_h.out hbdW2
 refine tkH 0 ?_ rfl kd2 (fun W' hW' => ?_) ?_; rotate_left; · (obtain ⟨⟨y0, y1, y2, y3⟩, y4, y5, y6, y7⟩ := t_box4 hW'; clear hW'; go_simp; first | done | with_reducible rfl)
 simp only [Act.put, nS]
 refine tkH 1 ?_ rfl kd2 (fun W' hW' => ?_) ?_; rotate_left; · (obtain ⟨⟨y0, y1, y2, y3⟩, y4, y5, y6, y7⟩ := t_box4 hW'; clear hW'; go_simp; first | done | with_reducible rfl)
 simp only [Act.put, nS]
 refine tkH 2 ?_ rfl kd2 (fun W' hW' => ?_) ?_; rotate_left; · (obtain ⟨⟨y0, y1, y2, y3⟩, y4, y5, y6, y7⟩ := t_box4 hW'; clear hW'; go_simp; first | done | with_reducible rfl)
 simp only [Act.put, nS]
 refine tkH 3 ?_ rfl kd2 (fun W' hW' => ?_) ?_; rotate_left; · (obtain ⟨⟨y0, y1, y2, y3⟩, y4, y5, y6, y7⟩ := t_box4 hW'; clear hW'; go_simp; first | done | with_reducible rfl)
 simp only [Act.put, nS]
 refine' callH 4 (f := _) (args := _) rfl (by kernel_rfl) (by rfl) ?_ ?_; rotate_left 2; · (go_simp; first | done | with_reducible rfl | (constructor <;> with_reducible rfl))
 refine (hMir_h.out W2).mono ?_
 rintro e wm ⟨rfl, hwm⟩
 subst wm
 refine ⟨_, rfl, kd2, ?_⟩
 simp only [Act.put, nS]
 refine tkH 5 ?_ rfl kd2 (fun W' hW' => ?_) ?_; rotate_left; · (skip; clear hW'; go_simp; first | done | with_reducible rfl)
 simp only [Act.put, nS]
 refine tkH 6 ?_ rfl kd2 (fun W' hW' => ?_) ?_; rotate_left; · (skip; clear hW'; go_simp; first | done | with_reducible rfl)
 simp only [Act.put, nS]
 refine doneH (by kernel_rfl) ?_
 have hb2 := below_trans hbdW1 hbdW2 hbdW1.size
 have hI2 := hI1_h.out.below hb2
 have hO2 := hO1_h.out.below hb2
 have hB2 := below_trans bW_h.out hb2 bW_h.out.size
 clear hbdW1 hbdW2 hb2
 obtain ⟨⟨g, o, z⟩, rfl, p0⟩ := hO2 0 _ rfl
 have hz : (⟨g, o, z⟩ : Addr).add 0 = ⟨g, o, z⟩ := rfl
 rw [hz] at p0
 clear hz; have kd2_h := lH kd2; have hB2_h := lH hB2; have hI2_h := lH hI2; have hO2_h := lH hO2; clear kd2 hB2 hI2 hO2
 go_wp2_with (fail)
 refine (edgeRow_any o0 (-1) [i0, i1] I 2 ci W2 hI2_h.out rfl (by omega) ho0_h.out (fun x hx => by rcases List.mem_cons.1 hx with rfl | hx; exact hi0_h.out; rw [List.mem_singleton.1 hx]; exact hi1_h.out) (by have := hv_h.out; omega)).mono ?_
 rintro e w3 ⟨m1, n1, K1, rfl, hM1, hK1, _, hb3⟩
 have ba := t_below_alloc w3 (.cells #[.map (some m1)] tRow)
 have hM2 := hM1.below ba
 have hBe := below_trans (below_trans hB2_h.out hb3 hB2_h.out.size) ba (Nat.le_trans hB2_h.out.size hb3.size)
 clear hM1 hb3 ba; have hM2_h := lH hM2; have hBe_h := lH hBe; have hK1_h := lH hK1; clear hM2 hBe hK1
 go_wp2_with (fail)
 go_ret
 exact ⟨some ⟨w3.heap.size, 0, none⟩, 1, 1, [(m1, n1, K1, o0, [i0, i1], -1)], rfl, rfl, Sl.laid w3 tRow 1 1 #[.map (some m1)] (by unfold maxLen; omega) rfl, fun x hx => by rw [List.mem_singleton.1 hx]; exact ⟨hM2_h.out, hK1_h.out⟩, rfl, hBe_h.out⟩
set_option maxRecDepth 100000 in
set_option maxHeartbeats 4000000 in
theorem edgeRows_12 (v : Int) (I O : Option Addr) (ci co : Nat) (o0 : Int) (w : World) (hI : RdI w I ([] : List Int)) (hO : RdI w O ([o0] : List Int)) (hv : 0 ≤ v ∧ v < 100) (ho0 : 0 ≤ o0 ∧ o0 < 100) :
  Calls Tryd.prog 40 #[.agg #[.int .i64 12, .int .i64 v, .slice O 1 co, .slice I 0 ci]] w (EdR [(o0, [], 0)] w) := by
 obtain ⟨W, hW, bW, k0⟩ := (⟨_, rfl, t_below_alloc _ _, heap_alloc_new _ _⟩ : ∃ W, W = w.alloc (.cells #[.int .i64 12, .int .i64 v, .slice O 1 co, .slice I 0 ci] tEd) ∧ Below w.heap.size w W ∧ W.heap[w.heap.size]? = some (.cells #[.int .i64 12, .int .i64 v, .slice O 1 co, .slice I 0 ci] tEd))
 have hI1 := hI.below bW
 have hO1 := hO.below bW
 have hMir := fun (W' : World) => mirHi_any 12 6 W' (by omega) rfl
 clear hI hO; have hI1_h := lH hI1; have hO1_h := lH hO1; have bW_h := lH bW; have k0_h := lH k0; have hMir_h := lH hMir; have hv_h := lH hv; have ho0_h := lH ho0; clear hI1 hO1 bW k0 hMir hv ho0
 go_enter Tryd.func40, Tryd.ntmps40
 go_upto_region 1 with (fail)
 rw [← hW]
 clear hW
 refine beginH (fun w' => w'.heap[w.heap.size]? = some (.cells #[.int .i64 12, .int .i64 v, .slice O 1 co, .slice I 0 ci] tEd)) (by kernel_rfl) ?_
 have hbdW1 : Below W.heap.size W W.drew := below_drewN (Below.refl _ _) 1
 generalize W.drew = W1 at hbdW1 ⊢
 have kd := t_box_below k0_h.out hbdW1
 refine tkH 0 ?_ rfl kd (fun W' hW' => ?_) ?_; rotate_left; · (obtain ⟨⟨y0, y1, y2, y3⟩, y4, y5, y6, y7⟩ := t_box4 hW'; clear hW'; go_simp; first | done | with_reducible rfl)
 simp only [Act.put, nS]
 refine tkH 1 ?_ rfl kd (fun W' hW' => ?_) ?_; rotate_left; · (obtain ⟨⟨y0, y1, y2, y3⟩, y4, y5, y6, y7⟩ := t_box4 hW'; clear hW'; go_simp; first | done | with_reducible rfl)
 simp only [Act.put, nS]
 refine tkH 2 ?_ rfl kd (fun W' hW' => ?_) ?_; rotate_left; · (obtain ⟨⟨y0, y1, y2, y3⟩, y4, y5, y6, y7⟩ := t_box4 hW'; clear hW'; go_simp; first | done | with_reducible rfl)
 simp only [Act.put, nS]
 refine tkH 3 ?_ rfl kd (fun W' hW' => ?_) ?_; rotate_left; · (obtain ⟨⟨y0, y1, y2, y3⟩, y4, y5, y6, y7⟩ := t_box4 hW'; clear hW'; go_simp; first | done | with_reducible rfl)
 simp only [Act.put, nS]
 refine tkH 4 ?_ rfl kd (fun W' hW' => ?_) ?_; rotate_left; · (obtain ⟨⟨y0, y1, y2, y3⟩, y4, y5, y6, y7⟩ := t_box4 hW'; clear hW'; go_simp; first | done | with_reducible rfl)
 simp only [Act.put, nS]
 refine tkH 5 ?_ rfl kd (fun W' hW' => ?_) ?_; rotate_left; · (obtain ⟨⟨y0, y1, y2, y3⟩, y4, y5, y6, y7⟩ := t_box4 hW'; clear hW'; go_simp; first | done | with_reducible rfl)
 simp only [Act.put, nS]
 refine doneH (by kernel_rfl) ?_
 obtain ⟨⟨c0, c1, c2, c3⟩, c4, c5, c6, c7⟩ := t_box4 kd
 have kd_h := lH kd; clear kd
 go_wp2_with (fail)
 clear c0 c1 c2 c3 c4 c5 c6 c7
 refine beginH (fun w' => w'.heap[w.heap.size]? = some (.cells #[.int .i64 12, .int .i64 v, .slice O 1 co, .slice I 0 ci] tEd)) (by kernel_rfl) ?_
 have hbdW2 : Below W1.heap.size W1 W1.drew := below_drewN (Below.refl _ _) 1
 generalize W1.drew = W2 at hbdW2 ⊢
 have kd2 := t_box_below kd_h.out hbdW2
 refine tkH 0 ?_ rfl kd2 (fun W' hW' => ?_) ?_; rotate_left; · (obtain ⟨⟨y0, y1, y2, y3⟩, y4, y5, y6, y7⟩ := t_box4 hW'; clear hW'; go_simp; first | done | with_reducible rfl)
 simp only [Act.put, nS]
 refine tkH 1 ?_ rfl kd2 (fun W' hW' => ?_) ?_; rotate_left; · (obtain ⟨⟨y0, y1, y2, y3⟩, y4, y5, y6, y7⟩ := t_box4 hW'; clear hW'; go_simp; first | done | with_reducible rfl)
 simp only [Act.put, nS]
 refine tkH 2 ?_ rfl kd2 (fun W' hW' => ?_) ?_; rotate_left; · (obtain ⟨⟨y0, y1, y2, y3⟩, y4, y5, y6, y7⟩ := t_box4 hW'; clear hW'; go_simp; first | done | with_reducible rfl)
 simp only [Act.put, nS]
 refine tkH 3 ?_ rfl kd2 (fun W' hW' => ?_) ?_; rotate_left; · (obtain ⟨⟨y0, y1, y2, y3⟩, y4, y5, y6, y7⟩ := t_box4 hW'; clear hW'; go_simp; first | done | with_reducible rfl)
 simp only [Act.put, nS]
 refine' callH 4 (f := _) (args := _) rfl (by kernel_rfl) (by rfl) ?_ ?_; rotate_left 2; · (go_simp; first | done | with_reducible rfl | (constructor <;> with_reducible rfl))
 refine (hMir_h.out W2).mono ?_
 rintro e wm ⟨rfl, hwm⟩
 subst wm
 refine ⟨_, rfl, kd2, ?_⟩
 simp only [Act.put, nS]
 refine tkH 5 ?_ rfl kd2 (fun W' hW' => ?_) ?_; rotate_left; · (skip; clear hW'; go_simp; first | done | with_reducible rfl)
 simp only [Act.put, nS]
 refine tkH 6 ?_ rfl kd2 (fun W' hW' => ?_) ?_; rotate_left; · (skip; clear hW'; go_simp; first | done | with_reducible rfl)
 simp only [Act.put, nS]
 refine doneH (by kernel_rfl) ?_
 have hb2 := below_trans hbdW1 hbdW2 hbdW1.size
 have hI2 := hI1_h.out.below hb2
 have hO2 := hO1_h.out.below hb2
 have hB2 := below_trans bW_h.out hb2 bW_h.out.size
 clear hbdW1 hbdW2 hb2
 obtain ⟨⟨g, o, z⟩, rfl, p0⟩ := hO2 0 _ rfl
 have hz : (⟨g, o, z⟩ : Addr).add 0 = ⟨g, o, z⟩ := rfl
 rw [hz] at p0
 clear hz; have kd2_h := lH kd2; have hB2_h := lH hB2; have hI2_h := lH hI2; have hO2_h := lH hO2; clear kd2 hB2 hI2 hO2
 go_wp2_with (fail)
 refine (edgeRow_any o0 0 [] none 0 0 W2 (fun j x hj => by cases hj) rfl (by omega) ho0_h.out (fun x hx => by cases hx) (by have := hv_h.out; omega)).mono ?_
 rintro e w3 ⟨m1, n1, K1, rfl, hM1, hK1, _, hb3⟩
 have ba := t_below_alloc w3 (.cells #[.map (some m1)] tRow)
 have hM2 := hM1.below ba
 have hBe := below_trans (below_trans hB2_h.out hb3 hB2_h.out.size) ba (Nat.le_trans hB2_h.out.size hb3.size)
 clear hM1 hb3 ba; have hM2_h := lH hM2; have hBe_h := lH hBe; have hK1_h := lH hK1; clear hM2 hBe hK1
 go_wp2_with (fail)
 go_ret
 exact ⟨some ⟨w3.heap.size, 0, none⟩, 1, 1, [(m1, n1, K1, o0, [], 0)], rfl, rfl, Sl.laid w3 tRow 1 1 #[.map (some m1)] (by unfold maxLen; omega) rfl, fun x hx => by rw [List.mem_singleton.1 hx]; exact ⟨hM2_h.out, hK1_h.out⟩, rfl, hBe_h.out⟩
set_option maxRecDepth 100000 in
set_option maxHeartbeats 4000000 in
theorem edgeRows_13 (v : Int) (I O : Option Addr) (ci co : Nat) (i0 o0 : Int) (w : World) (hI : RdI w I ([i0] : List Int)) (hO : RdI w O ([o0] : List Int)) (hv : 0 ≤ v ∧ v < 100) (hi0 : 0 ≤ i0 ∧ i0 < 100) (ho0 : 0 ≤ o0 ∧ o0 < 100) :
  Calls Tryd.prog 40 #[.agg #[.int .i64 13, .int .i64 v, .slice O 1 co, .slice I 1 ci]] w (EdR [(o0, [i0], -v)] w) := by
 obtain ⟨W, hW, bW, k0⟩ := (⟨_, rfl, t_below_alloc _ _, heap_alloc_new _ _⟩ : ∃ W, W = w.alloc (.cells #[.int .i64 13, .int .i64 v, .slice O 1 co, .slice I 1 ci] tEd) ∧ Below w.heap.size w W ∧ W.heap[w.heap.size]? = some (.cells #[.int .i64 13, .int .i64 v, .slice O 1 co, .slice I 1 ci] tEd))
 have hI1 := hI.below bW
 have hO1 := hO.below bW
 have hMir := fun (W' : World) => mirHi_any 13 7 W' (by omega) rfl
 clear hI hO; have hI1_h := lH hI1; have hO1_h := lH hO1; have bW_h := lH bW; have k0_h := lH k0; have hMir_h := lH hMir; have hv_h := lH hv; have hi0_h := lH hi0; have ho0_h := lH ho0; clear hI1 hO1 bW k0 hMir hv hi0 ho0
 go_enter Tryd.func40, Tryd.ntmps40
 go_upto_region 1 with (fail)
 rw [← hW]
 clear hW
 refine beginH (fun w' => w'.heap[w.heap.size]? = some (.cells #[.int .i64 13, .int .i64 v, .slice O 1 co, .slice I 1 ci] tEd)) (by kernel_rfl) ?_
 have hbdW1 : Below W.heap.size W W.drew := below_drewN (Below.refl _ _) 1
 generalize W.drew = W1 at hbdW1 ⊢
 have kd := t_box_below k0_h.out hbdW1
 refine tkH 0 ?_ rfl kd (fun W' hW' => ?_) ?_; rotate_left; · (obtain ⟨⟨y0, y1, y2, y3⟩, y4, y5, y6, y7⟩ := t_box4 hW'; clear hW'; go_simp; first | done | with_reducible rfl)
 simp only [Act.put, nS]
 refine tkH 1 ?_ rfl kd (fun W' hW' => ?_) ?_; rotate_left; · (obtain ⟨⟨y0, y1, y2, y3⟩, y4, y5, y6, y7⟩ := t_box4 hW'; clear hW'; go_simp; first | done | with_reducible rfl)
 simp only [Act.put, nS]
 refine tkH 2 ?_ rfl kd (fun W' hW' => ?_) ?_; rotate_left; · (obtain ⟨⟨y0, y1, y2, y3⟩, y4, y5, y6, y7⟩ := t_box4 hW'; clear hW'; go_simp; first | done | with_reducible rfl)
 simp only [Act.put, nS]
 refine tkH 3 ?_ rfl kd (fun W' hW' => ?_) ?_; rotate_left; · (obtain ⟨⟨y0, y1, y2, y3⟩, y4, y5, y6, y7⟩ := t_box4 hW'; clear hW'; go_simp; first | done | with_reducible rfl)
 simp only [Act.put, nS]
 refine tkH 4 ?_ rfl kd (fun W' hW' => ?_) ?_; rotate_left; · (obtain ⟨⟨y0, y1, y2, y3⟩, y4, y5, y6, y7⟩ := t_box4 hW'; clear hW'; go_simp; first | done | with_reducible rfl)
 simp only [Act.put, nS]
 refine tkH 5 ?_ rfl kd (fun W' hW' => ?_) ?_; rotate_left; · (obtain ⟨⟨y0, y1, y2, y3⟩, y4, y5, y6, y7⟩ := t_box4 hW'; clear hW'; go_simp; first | done | with_reducible rfl)
 simp only [Act.put, nS]
 refine doneH (by kernel_rfl) ?_
 obtain ⟨⟨c0, c1, c2, c3⟩, c4, c5, c6, c7⟩ := t_box4 kd
 have kd_h := lH kd; clear kd
 go_wp2_with (fail)
 clear c0 c1 c2 c3 c4 c5 c6 c7
 refine beginH (fun w' => w'.heap[w.heap.size]? = some (.cells #[.int .i64 13, .int .i64 v, .slice O 1 co, .slice I 1 ci] tEd)) (by kernel_rfl) ?_
 have hbdW2 : Below W1.heap.size W1 W1.drew := below_drewN (Below.refl _ _) 1
 generalize W1.drew = W2 at hbdW2 ⊢
 have kd2 := t_box_below kd_h.out hbdW2
 refine tkH 0 ?_ rfl kd2 (fun W' hW' => ?_) ?_; rotate_left; · (obtain ⟨⟨y0, y1, y2, y3⟩, y4, y5, y6, y7⟩ := t_box4 hW'; clear hW'; go_simp; first | done | with_reducible rfl)
 simp only [Act.put, nS]
 refine tkH 1 ?_ rfl kd2 (fun W' hW' => ?_) ?_; rotate_left; · (obtain ⟨⟨y0, y1, y2, y3⟩, y4, y5, y6, y7⟩ := t_box4 hW'; clear hW'; go_simp; first | done | with_reducible rfl)
 simp only [Act.put, nS]
 refine tkH 2 ?_ rfl kd2 (fun W' hW' => ?_) ?_; rotate_left; · (obtain ⟨⟨y0, y1, y2, y3⟩, y4, y5, y6, y7⟩ := t_box4 hW'; clear hW'; go_simp; first | done | with_reducible rfl)
 simp only [Act.put, nS]
 refine tkH 3 ?_ rfl kd2 (fun W' hW' => ?_) ?_; rotate_left; · (obtain ⟨⟨y0, y1, y2, y3⟩, y4, y5, y6, y7⟩ := t_box4 hW'; clear hW'; go_simp; first | done | with_reducible rfl)
 simp only [Act.put, nS]
 refine' callH 4 (f := _) (args := _) rfl (by kernel_rfl) (by rfl) ?_ ?_; rotate_left 2; · (go_simp; first | done | with_reducible rfl | (constructor <;> with_reducible rfl))
 refine (hMir_h.out W2).mono ?_
 rintro e wm ⟨rfl, hwm⟩
 subst wm
 refine ⟨_, rfl, kd2, ?_⟩
 simp only [Act.put, nS]
 refine tkH 5 ?_ rfl kd2 (fun W' hW' => ?_) ?_; rotate_left; · (skip; clear hW'; go_simp; first | done | with_reducible rfl)
 simp only [Act.put, nS]
 refine tkH 6 ?_ rfl kd2 (fun W' hW' => ?_) ?_; rotate_left; · (skip; clear hW'; go_simp; first | done | with_reducible rfl)
 simp only [Act.put, nS]
 refine doneH (by kernel_rfl) ?_
 have hb2 := below_trans hbdW1 hbdW2 hbdW1.size
 have hI2 := hI1_h.out.below hb2
 have hO2 := hO1_h.out.below hb2
 have hB2 := below_trans bW_h.out hb2 bW_h.out.size
 clear hbdW1 hbdW2 hb2
 obtain ⟨⟨g, o, z⟩, rfl, p0⟩ := hO2 0 _ rfl
 have hS : W2.cell? ⟨g, o, z⟩ = some (.int .i64 o0) ∧ W2.heap[w.heap.size]? = some (.cells #[.int .i64 13, .int .i64 v, .slice (some ⟨g, o, z⟩) 1 co, .slice I 1 ci] tEd) := ⟨p0, kd2⟩
 clear p0 kd2; have hB2_h := lH hB2; have hI2_h := lH hI2; have hO2_h := lH hO2; clear hB2 hI2 hO2
 go_wp2_with (fail)
 refine beginH (fun w' => w'.cell? ⟨g, o, z⟩ = some (.int .i64 o0) ∧ w'.heap[w.heap.size]? = some (.cells #[.int .i64 13, .int .i64 v, .slice (some ⟨g, o, z⟩) 1 co, .slice I 1 ci] tEd)) (by kernel_rfl) ?_
 have hbdW3 : Below W2.heap.size W2 W2.drew := below_drewN (Below.refl _ _) 1
 generalize W2.drew = W3 at hbdW3 ⊢
 have hS3 : W3.cell? ⟨g, o, z⟩ = some (.int .i64 o0) ∧ W3.heap[w.heap.size]? = some (.cells #[.int .i64 13, .int .i64 v, .slice (some ⟨g, o, z⟩) 1 co, .slice I 1 ci] tEd) := ⟨cell_belowS hbdW3 hS.1, t_box_below hS.2 hbdW3⟩
 have hI3 := hI2_h.out.below hbdW3
 have hB3 := below_trans hB2_h.out hbdW3 hB2_h.out.size
 have hvb := hv_h.out
 obtain ⟨hvb1, hvb2⟩ := hvb
 clear hS hbdW3
 have hwr : IntKind.i64.wrap (-v) = -v := IntWalk.i64_in _ (by omega)
 have hS3_h := lH hS3; have hI3_h := lH hI3; have hB3_h := lH hB3; clear hS3 hI3 hB3
 refine tkH 0 ?_ rfl hS3_h.out (fun W' hW' => ?_) ?_; rotate_left; · (have y0 := hW'.1; obtain ⟨⟨y1, y2, y3, y4⟩, y5, y6, y7, y8⟩ := t_box4 hW'.2; have hwr' := hwr; clear hW'; go_simp; first | done | with_reducible rfl)
 simp only [Act.put, nS]
 refine tkH 1 ?_ rfl hS3_h.out (fun W' hW' => ?_) ?_; rotate_left; · (have y0 := hW'.1; obtain ⟨⟨y1, y2, y3, y4⟩, y5, y6, y7, y8⟩ := t_box4 hW'.2; have hwr' := hwr; clear hW'; go_simp; first | done | with_reducible rfl)
 simp only [Act.put, nS]
 refine tkH 2 ?_ rfl hS3_h.out (fun W' hW' => ?_) ?_; rotate_left; · (have y0 := hW'.1; obtain ⟨⟨y1, y2, y3, y4⟩, y5, y6, y7, y8⟩ := t_box4 hW'.2; have hwr' := hwr; clear hW'; go_simp; first | done | with_reducible rfl)
 simp only [Act.put, nS]
 refine tkH 3 ?_ rfl hS3_h.out (fun W' hW' => ?_) ?_; rotate_left; · (have y0 := hW'.1; obtain ⟨⟨y1, y2, y3, y4⟩, y5, y6, y7, y8⟩ := t_box4 hW'.2; have hwr' := hwr; clear hW'; go_simp; first | done | with_reducible rfl)
 simp only [Act.put, nS]
 refine tkH 4 ?_ rfl hS3_h.out (fun W' hW' => ?_) ?_; rotate_left; · (have y0 := hW'.1; obtain ⟨⟨y1, y2, y3, y4⟩, y5, y6, y7, y8⟩ := t_box4 hW'.2; have hwr' := hwr; clear hW'; go_simp; first | done | with_reducible rfl)
 simp only [Act.put, nS]
 refine tkH 5 ?_ rfl hS3_h.out (fun W' hW' => ?_) ?_; rotate_left; · (have y0 := hW'.1; obtain ⟨⟨y1, y2, y3, y4⟩, y5, y6, y7, y8⟩ := t_box4 hW'.2; have hwr' := hwr; clear hW'; go_simp; first | done | with_reducible rfl)
 simp only [Act.put, nS]
 refine tkH 6 ?_ rfl hS3_h.out (fun W' hW' => ?_) ?_; rotate_left; · (have y0 := hW'.1; obtain ⟨⟨y1, y2, y3, y4⟩, y5, y6, y7, y8⟩ := t_box4 hW'.2; have hwr' := hwr; clear hW'; go_simp; first | done | with_reducible rfl)
 simp only [Act.put, nS]
 refine tkH 7 ?_ rfl hS3_h.out (fun W' hW' => ?_) ?_; rotate_left; · (have y0 := hW'.1; obtain ⟨⟨y1, y2, y3, y4⟩, y5, y6, y7, y8⟩ := t_box4 hW'.2; have hwr' := hwr; clear hW'; go_simp; first | done | with_reducible rfl)
 simp only [Act.put, nS]
 refine' callH 8 (f := _) (args := _) rfl (by kernel_rfl) (by rfl) ?_ ?_; rotate_left 2; · (go_simp; first | done | with_reducible rfl | (constructor <;> with_reducible rfl))
 refine (edgeRow_any o0 (-v) [i0] I 1 ci W3 hI3_h.out rfl (by omega) ho0_h.out (fun x hx => by rw [List.mem_singleton.1 hx]; exact hi0_h.out) (by have := hv_h.out; omega)).mono ?_
 rintro e w4 ⟨m1, n1, K1, rfl, hM1, hK1, _, hb4⟩
 have ba := t_below_alloc w4 (.cells #[.map (some m1)] tRow)
 have hS4 : w4.cell? ⟨g, o, z⟩ = some (.int .i64 o0) ∧ w4.heap[w.heap.size]? = some (.cells #[.int .i64 13, .int .i64 v, .slice (some ⟨g, o, z⟩) 1 co, .slice I 1 ci] tEd) := ⟨cell_belowS hb4 hS3_h.out.1, t_box_below hS3_h.out.2 hb4⟩
 have hS5 : (w4.alloc (.cells #[.map (some m1)] tRow)).cell? ⟨g, o, z⟩ = some (.int .i64 o0) ∧ (w4.alloc (.cells #[.map (some m1)] tRow)).heap[w.heap.size]? = some (.cells #[.int .i64 13, .int .i64 v, .slice (some ⟨g, o, z⟩) 1 co, .slice I 1 ci] tEd) := ⟨cell_belowS ba hS4.1, t_box_below hS4.2 ba⟩
 have hM2 := hM1.below ba
 have hBe := below_trans (below_trans hB3_h.out hb4 hB3_h.out.size) ba (Nat.le_trans hB3_h.out.size hb4.size)
 refine ⟨_, rfl, hS4, ?_⟩
 clear hb4 ba hM1 hS4; have hM2_h := lH hM2; have hBe_h := lH hBe; have hK1_h := lH hK1; have hS5_h := lH hS5; clear hM2 hBe hK1 hS5
 simp only [Act.put, nS]
 refine oneH 9 rfl (by kernel_rfl) (by rfl) (fun K hK => ?_)
 go_simp
 refine hK _ _ hS5_h.out ?_
 clear hK K
 refine tkH 10 ?_ rfl hS5_h.out (fun W' hW' => ?_) ?_; rotate_left; · (skip; clear hW'; go_simp; first | done | with_reducible rfl)
 simp only [Act.put, nS]
 refine doneH (by kernel_rfl) ?_
 go_wp2_with (fail)
 go_ret
 exact ⟨some ⟨w4.heap.size, 0, none⟩, 1, 1, [(m1, n1, K1, o0, [i0], -v)], rfl, rfl, Sl.laid w4 tRow 1 1 #[.map (some m1)] (by unfold maxLen; omega) rfl, fun x hx => by rw [List.mem_singleton.1 hx]; exact ⟨hM2_h.out, hK1_h.out⟩, rfl, hBe_h.out⟩
set_option maxRecDepth 100000 in
set_option maxHeartbeats 4000000 in
theorem edgeRows_14 (v : Int) (I O : Option Addr) (ci co : Nat) (i0 o0 : Int) (w : World) (hI : RdI w I ([i0] : List Int)) (hO : RdI w O ([o0] : List Int)) (hv : 0 ≤ v ∧ v < 100) (hi0 : 0 ≤ i0 ∧ i0 < 100) (ho0 : 0 ≤ o0 ∧ o0 < 100) :
  Calls Tryd.prog 40 #[.agg #[.int .i64 14, .int .i64 v, .slice O 1 co, .slice I 1 ci]] w (EdR [] w) := by
 obtain ⟨W, hW, bW, k0⟩ := (⟨_, rfl, t_below_alloc _ _, heap_alloc_new _ _⟩ : ∃ W, W = w.alloc (.cells #[.int .i64 14, .int .i64 v, .slice O 1 co, .slice I 1 ci] tEd) ∧ Below w.heap.size w W ∧ W.heap[w.heap.size]? = some (.cells #[.int .i64 14, .int .i64 v, .slice O 1 co, .slice I 1 ci] tEd))
 have hI1 := hI.below bW
 have hO1 := hO.below bW
 have hMir := fun (W' : World) => mirHi_any 14 8 W' (by omega) rfl
 clear hI hO; have hI1_h := lH hI1; have hO1_h := lH hO1; have bW_h := lH bW; have k0_h := lH k0; have hMir_h := lH hMir; have hv_h := lH hv; have hi0_h := lH hi0; have ho0_h := lH ho0; clear hI1 hO1 bW k0 hMir hv hi0 ho0
 go_enter Tryd.func40, Tryd.ntmps40
 go_upto_region 1 with (fail)
 rw [← hW]
 clear hW
 refine beginH (fun w' => w'.heap[w.heap.size]? = some (.cells #[.int .i64 14, .int .i64 v, .slice O 1 co, .slice I 1 ci] tEd)) (by kernel_rfl) ?_
 have hbdW1 : Below W.heap.size W W.drew := below_drewN (Below.refl _ _) 1
 generalize W.drew = W1 at hbdW1 ⊢
 have kd := t_box_below k0_h.out hbdW1
 refine tkH 0 ?_ rfl kd (fun W' hW' => ?_) ?_; rotate_left; · (obtain ⟨⟨y0, y1, y2, y3⟩, y4, y5, y6, y7⟩ := t_box4 hW'; clear hW'; go_simp; first | done | with_reducible rfl)
 simp only [Act.put, nS]
 refine tkH 1 ?_ rfl kd (fun W' hW' => ?_) ?_; rotate_left; · (obtain ⟨⟨y0, y1, y2, y3⟩, y4, y5, y6, y7⟩ := t_box4 hW'; clear hW'; go_simp; first | done | with_reducible rfl)
 simp only [Act.put, nS]
 refine tkH 2 ?_ rfl kd (fun W' hW' => ?_) ?_; rotate_left; · (obtain ⟨⟨y0, y1, y2, y3⟩, y4, y5, y6, y7⟩ := t_box4 hW'; clear hW'; go_simp; first | done | with_reducible rfl)
 simp only [Act.put, nS]
 refine tkH 3 ?_ rfl kd (fun W' hW' => ?_) ?_; rotate_left; · (obtain ⟨⟨y0, y1, y2, y3⟩, y4, y5, y6, y7⟩ := t_box4 hW'; clear hW'; go_simp; first | done | with_reducible rfl)
 simp only [Act.put, nS]
 refine tkH 4 ?_ rfl kd (fun W' hW' => ?_) ?_; rotate_left; · (obtain ⟨⟨y0, y1, y2, y3⟩, y4, y5, y6, y7⟩ := t_box4 hW'; clear hW'; go_simp; first | done | with_reducible rfl)
 simp only [Act.put, nS]
 refine tkH 5 ?_ rfl kd (fun W' hW' => ?_) ?_; rotate_left; · (obtain ⟨⟨y0, y1, y2, y3⟩, y4, y5, y6, y7⟩ := t_box4 hW'; clear hW'; go_simp; first | done | with_reducible rfl)
 simp only [Act.put, nS]
 refine doneH (by kernel_rfl) ?_
 obtain ⟨⟨c0, c1, c2, c3⟩, c4, c5, c6, c7⟩ := t_box4 kd
 have kd_h := lH kd; clear kd
 go_wp2_with (fail)
 clear c0 c1 c2 c3 c4 c5 c6 c7
 refine beginH (fun w' => w'.heap[w.heap.size]? = some (.cells #[.int .i64 14, .int .i64 v, .slice O 1 co, .slice I 1 ci] tEd)) (by kernel_rfl) ?_
 have hbdW2 : Below W1.heap.size W1 W1.drew := below_drewN (Below.refl _ _) 1
 generalize W1.drew = W2 at hbdW2 ⊢
 have kd2 := t_box_below kd_h.out hbdW2
 refine tkH 0 ?_ rfl kd2 (fun W' hW' => ?_) ?_; rotate_left; · (obtain ⟨⟨y0, y1, y2, y3⟩, y4, y5, y6, y7⟩ := t_box4 hW'; clear hW'; go_simp; first | done | with_reducible rfl)
 simp only [Act.put, nS]
 refine tkH 1 ?_ rfl kd2 (fun W' hW' => ?_) ?_; rotate_left; · (obtain ⟨⟨y0, y1, y2, y3⟩, y4, y5, y6, y7⟩ := t_box4 hW'; clear hW'; go_simp; first | done | with_reducible rfl)
 simp only [Act.put, nS]
 refine tkH 2 ?_ rfl kd2 (fun W' hW' => ?_) ?_; rotate_left; · (obtain ⟨⟨y0, y1, y2, y3⟩, y4, y5, y6, y7⟩ := t_box4 hW'; clear hW'; go_simp; first | done | with_reducible rfl)
 simp only [Act.put, nS]
 refine tkH 3 ?_ rfl kd2 (fun W' hW' => ?_) ?_; rotate_left; · (obtain ⟨⟨y0, y1, y2, y3⟩, y4, y5, y6, y7⟩ := t_box4 hW'; clear hW'; go_simp; first | done | with_reducible rfl)
 simp only [Act.put, nS]
 refine' callH 4 (f := _) (args := _) rfl (by kernel_rfl) (by rfl) ?_ ?_; rotate_left 2; · (go_simp; first | done | with_reducible rfl | (constructor <;> with_reducible rfl))
 refine (hMir_h.out W2).mono ?_
 rintro e wm ⟨rfl, hwm⟩
 subst wm
 refine ⟨_, rfl, kd2, ?_⟩
 simp only [Act.put, nS]
 refine tkH 5 ?_ rfl kd2 (fun W' hW' => ?_) ?_; rotate_left; · (skip; clear hW'; go_simp; first | done | with_reducible rfl)
 simp only [Act.put, nS]
 refine tkH 6 ?_ rfl kd2 (fun W' hW' => ?_) ?_; rotate_left; · (skip; clear hW'; go_simp; first | done | with_reducible rfl)
 simp only [Act.put, nS]
 refine doneH (by kernel_rfl) ?_
 have hb2 := below_trans hbdW1 hbdW2 hbdW1.size
 have hI2 := hI1_h.out.below hb2
 have hO2 := hO1_h.out.below hb2
 have hB2 := below_trans bW_h.out hb2 bW_h.out.size
 clear hbdW1 hbdW2 hb2; have kd2_h := lH kd2; have hB2_h := lH hB2; clear kd2 hB2; clear hI2 hO2
 go_wp2_with (fail)
 go_ret
 exact ⟨none, 0, 0, [], rfl, rfl, Sl.nil _ _ _, fun x hx => (by cases hx), rfl, hB2_h.out⟩
theorem sgLen1 {l : List Int} (h : (l.length : Int) = 1) : ∃ a, l = [a] := by
 match l, h with
 | [a], _ => exact ⟨a, rfl⟩
 | [], h => simp at h
 | _ :: _ :: _, h => simp only [List.length_cons] at h; omega
theorem sgLen2 {l : List Int} (h : (l.length : Int) = 2) : ∃ a b, l = [a, b] := by
 match l, h with
 | [a, b], _ => exact ⟨a, b, rfl⟩
 | [], h => simp at h
 | [_], h => simp at h
 | _ :: _ :: _ :: _, h => simp only [List.length_cons] at h; omega
theorem sgLen0 {l : List Int} (h : (l.length : Int) = 0) : l = [] := List.eq_nil_of_length_eq_zero (by omega)
theorem neg1_mod {p : Int} : (p - 1) % p = (-1) % p := by rw [show p - 1 = -1 + p by omega, Int.add_emod_right]
def okE (l : List Int) (rs : List (Int × List Int × Int)) : Prop := ∀ d, d ∈ rs → d.2.1.length ≤ 2 ∧ (-100 ≤ d.2.2 ∧ d.2.2 ≤ 100) ∧ d.1 ∈ l ∧ ∀ z, z ∈ d.2.1 → z ∈ l
def eqE (p : Int) (V n : Nat) (e : Eg) : Prop := edR p V n e = (rowsE e).map fun d => padR V (rowP p n d.1 d.2.1 d.2.2)
set_option maxRecDepth 100000 in
theorem eg_3 {p v : Int} {V n : Nat} {l m : List Int} (A B : Option Addr) (a b : Nat) (w : World) (hA : RdI w A l) (hB : RdI w B m) (hty : ((l.length : Int), (m.length : Int)) = kindTy 3) (hv : 0 ≤ v ∧ v < 100) (hx : ∀ x, x ∈ l ++ m → 0 ≤ x ∧ x < 100) :
  Calls Tryd.prog 40 #[.agg #[.int .i64 3, .int .i64 v, .slice A l.length a, .slice B m.length b]] w (EdR (rowsE (3, v, l, m)) w) ∧ eqE p V n (3, v, l, m) ∧ okE (l ++ m) (rowsE (3, v, l, m)) := by
 obtain ⟨i0, rfl⟩ := sgLen1 (show (l.length : Int) = 1 from congrArg Prod.fst hty)
 obtain ⟨o0, o1, rfl⟩ := sgLen2 (show (m.length : Int) = 2 from congrArg Prod.snd hty)
 have hi0 := hx i0 (by simp)
 have ho0 := hx o0 (by simp)
 have ho1 := hx o1 (by simp)
 have hr : rowsE (3, v, [i0], [o0, o1]) = [(o0, [i0], -1), (o1, [i0], -1)] := by simp [rowsE, efK, efI, efO]
 rw [hr]
 refine ⟨edgeRows_3 v A B a b i0 o0 o1 w hA hB hv hi0 ho0 ho1, ?_, ?_⟩
 rotate_left
 · intro dd hdd
   rcases List.mem_cons.1 hdd with rfl | hdd
   · exact ⟨by simp, ⟨by dsimp only; omega, by dsimp only; omega⟩, by simp, by simp⟩
   · rw [List.mem_singleton.1 hdd]; exact ⟨by simp, ⟨by dsimp only; omega, by dsimp only; omega⟩, by simp, by simp⟩
 unfold eqE edR
 rw [show dnRowsM p n (3, v, [i0], [o0, o1]) = [sprV p n [o0, i0] [1, p - 1], sprV p n [o1, i0] [1, p - 1]] by simp [dnRowsM, efK, efI, efO], hr]
 simp only [List.map_cons, List.map_nil]
 rw [rowP_one ho0.1 hi0.1 (-1) (p - 1) neg1_mod, rowP_one ho1.1 hi0.1 (-1) (p - 1) neg1_mod]
set_option maxRecDepth 100000 in
theorem eg_4 {p v : Int} {V n : Nat} {l m : List Int} (A B : Option Addr) (a b : Nat) (w : World) (hA : RdI w A l) (hB : RdI w B m) (hty : ((l.length : Int), (m.length : Int)) = kindTy 4) (hv : 0 ≤ v ∧ v < 100) (hx : ∀ x, x ∈ l ++ m → 0 ≤ x ∧ x < 100) :
  Calls Tryd.prog 40 #[.agg #[.int .i64 4, .int .i64 v, .slice A l.length a, .slice B m.length b]] w (EdR (rowsE (4, v, l, m)) w) ∧ eqE p V n (4, v, l, m) ∧ okE (l ++ m) (rowsE (4, v, l, m)) := by
 obtain ⟨i0, rfl⟩ := sgLen1 (show (l.length : Int) = 1 from congrArg Prod.fst hty)
 obtain rfl := sgLen0 (show (m.length : Int) = 0 from congrArg Prod.snd hty)
 have hi0 := hx i0 (by simp)
 have hr : rowsE (4, v, [i0], []) = [] := by simp [rowsE, efK, efI, efO]
 rw [hr]
 refine ⟨edgeRows_4 v A B a b i0 w hA hB hv hi0, ?_, ?_⟩
 rotate_left
 · intro dd hdd
   cases hdd
 unfold eqE edR
 rw [show dnRowsM p n (4, v, [i0], []) = [] by simp [dnRowsM, efK, efI, efO], hr]
 rfl
set_option maxRecDepth 100000 in
theorem eg_5 {p v : Int} {V n : Nat} {l m : List Int} (A B : Option Addr) (a b : Nat) (w : World) (hA : RdI w A l) (hB : RdI w B m) (hty : ((l.length : Int), (m.length : Int)) = kindTy 5) (hv : 0 ≤ v ∧ v < 100) (hx : ∀ x, x ∈ l ++ m → 0 ≤ x ∧ x < 100) :
  Calls Tryd.prog 40 #[.agg #[.int .i64 5, .int .i64 v, .slice A l.length a, .slice B m.length b]] w (EdR (rowsE (5, v, l, m)) w) ∧ eqE p V n (5, v, l, m) ∧ okE (l ++ m) (rowsE (5, v, l, m)) := by
 obtain ⟨i0, i1, rfl⟩ := sgLen2 (show (l.length : Int) = 2 from congrArg Prod.fst hty)
 obtain ⟨o0, rfl⟩ := sgLen1 (show (m.length : Int) = 1 from congrArg Prod.snd hty)
 have hi0 := hx i0 (by simp)
 have hi1 := hx i1 (by simp)
 have ho0 := hx o0 (by simp)
 have hr : rowsE (5, v, [i0, i1], [o0]) = [(o0, [i0, i1], -1)] := by simp [rowsE, efK, efI, efO]
 rw [hr]
 refine ⟨edgeRows_5 v A B a b i0 i1 o0 w hA hB hv hi0 hi1 ho0, ?_, ?_⟩
 rotate_left
 · intro dd hdd
   rw [List.mem_singleton.1 hdd]; exact ⟨by simp, ⟨by dsimp only; omega, by dsimp only; omega⟩, by simp, by simp⟩
 unfold eqE edR
 rw [show dnRowsM p n (5, v, [i0, i1], [o0]) = [sprV p n [o0, i0, i1] [1, p - 1, p - 1]] by simp [dnRowsM, efK, efI, efO], hr]
 simp only [List.map_cons, List.map_nil]
 rw [rowP_two ho0.1 hi0.1 hi1.1 (-1) (p - 1) neg1_mod]
set_option maxRecDepth 100000 in
theorem eg_6 {p v : Int} {V n : Nat} {l m : List Int} (A B : Option Addr) (a b : Nat) (w : World) (hA : RdI w A l) (hB : RdI w B m) (hty : ((l.length : Int), (m.length : Int)) = kindTy 6) (hv : 0 ≤ v ∧ v < 100) (hx : ∀ x, x ∈ l ++ m → 0 ≤ x ∧ x < 100) :
  Calls Tryd.prog 40 #[.agg #[.int .i64 6, .int .i64 v, .slice A l.length a, .slice B m.length b]] w (EdR (rowsE (6, v, l, m)) w) ∧ eqE p V n (6, v, l, m) ∧ okE (l ++ m) (rowsE (6, v, l, m)) := by
 obtain rfl := sgLen0 (show (l.length : Int) = 0 from congrArg Prod.fst hty)
 obtain ⟨o0, rfl⟩ := sgLen1 (show (m.length : Int) = 1 from congrArg Prod.snd hty)
 have ho0 := hx o0 (by simp)
 have hr : rowsE (6, v, [], [o0]) = [(o0, [], 0)] := by simp [rowsE, efK, efI, efO]
 rw [hr]
 refine ⟨edgeRows_6 v A B a b o0 w hA hB hv ho0, ?_, ?_⟩
 rotate_left
 · intro dd hdd
   rw [List.mem_singleton.1 hdd]; exact ⟨by simp, ⟨by dsimp only; omega, by dsimp only; omega⟩, by simp, by simp⟩
 unfold eqE edR
 rw [show dnRowsM p n (6, v, [], [o0]) = [sprV p n [o0] [1]] by simp [dnRowsM, efK, efI, efO], hr]
 simp only [List.map_cons, List.map_nil]
 rw [rowP_zero ho0.1 0]
set_option maxRecDepth 100000 in
theorem eg_7 {p v : Int} {V n : Nat} {l m : List Int} (A B : Option Addr) (a b : Nat) (w : World) (hA : RdI w A l) (hB : RdI w B m) (hty : ((l.length : Int), (m.length : Int)) = kindTy 7) (hv : 0 ≤ v ∧ v < 100) (hx : ∀ x, x ∈ l ++ m → 0 ≤ x ∧ x < 100) :
  Calls Tryd.prog 40 #[.agg #[.int .i64 7, .int .i64 v, .slice A l.length a, .slice B m.length b]] w (EdR (rowsE (7, v, l, m)) w) ∧ eqE p V n (7, v, l, m) ∧ okE (l ++ m) (rowsE (7, v, l, m)) := by
 obtain ⟨i0, rfl⟩ := sgLen1 (show (l.length : Int) = 1 from congrArg Prod.fst hty)
 obtain ⟨o0, rfl⟩ := sgLen1 (show (m.length : Int) = 1 from congrArg Prod.snd hty)
 have hi0 := hx i0 (by simp)
 have ho0 := hx o0 (by simp)
 have hr : rowsE (7, v, [i0], [o0]) = [(o0, [i0], -v)] := by simp [rowsE, efK, efI, efO]
 rw [hr]
 refine ⟨edgeRows_7 v A B a b i0 o0 w hA hB hv hi0 ho0, ?_, ?_⟩
 rotate_left
 · intro dd hdd
   rw [List.mem_singleton.1 hdd]; exact ⟨by simp, ⟨by dsimp only; omega, by dsimp only; omega⟩, by simp, by simp⟩
 unfold eqE edR
 rw [show dnRowsM p n (7, v, [i0], [o0]) = [sprV p n [o0, i0] [1, -v % p]] by simp [dnRowsM, efK, efI, efO], hr]
 simp only [List.map_cons, List.map_nil]
 rw [rowP_one ho0.1 hi0.1 (-v) (-v % p) (Int.emod_emod_of_dvd _ (Int.dvd_refl p))]
set_option maxRecDepth 100000 in
theorem eg_8 {p v : Int} {V n : Nat} {l m : List Int} (A B : Option Addr) (a b : Nat) (w : World) (hA : RdI w A l) (hB : RdI w B m) (hty : ((l.length : Int), (m.length : Int)) = kindTy 8) (hv : 0 ≤ v ∧ v < 100) (hx : ∀ x, x ∈ l ++ m → 0 ≤ x ∧ x < 100) :
  Calls Tryd.prog 40 #[.agg #[.int .i64 8, .int .i64 v, .slice A l.length a, .slice B m.length b]] w (EdR (rowsE (8, v, l, m)) w) ∧ eqE p V n (8, v, l, m) ∧ okE (l ++ m) (rowsE (8, v, l, m)) := by
 obtain ⟨i0, rfl⟩ := sgLen1 (show (l.length : Int) = 1 from congrArg Prod.fst hty)
 obtain ⟨o0, rfl⟩ := sgLen1 (show (m.length : Int) = 1 from congrArg Prod.snd hty)
 have hi0 := hx i0 (by simp)
 have ho0 := hx o0 (by simp)
 have hr : rowsE (8, v, [i0], [o0]) = [] := by simp [rowsE, efK, efI, efO]
 rw [hr]
 refine ⟨edgeRows_8 v A B a b i0 o0 w hA hB hv hi0 ho0, ?_, ?_⟩
 rotate_left
 · intro dd hdd
   cases hdd
 unfold eqE edR
 rw [show dnRowsM p n (8, v, [i0], [o0]) = [] by simp [dnRowsM, efK, efI, efO], hr]
 rfl
set_option maxRecDepth 100000 in
theorem eg_9 {p v : Int} {V n : Nat} {l m : List Int} (A B : Option Addr) (a b : Nat) (w : World) (hA : RdI w A l) (hB : RdI w B m) (hty : ((l.length : Int), (m.length : Int)) = kindTy 9) (hv : 0 ≤ v ∧ v < 100) (hx : ∀ x, x ∈ l ++ m → 0 ≤ x ∧ x < 100) :
  Calls Tryd.prog 40 #[.agg #[.int .i64 9, .int .i64 v, .slice A l.length a, .slice B m.length b]] w (EdR (rowsE (9, v, l, m)) w) ∧ eqE p V n (9, v, l, m) ∧ okE (l ++ m) (rowsE (9, v, l, m)) := by
 obtain ⟨o0, o1, rfl⟩ := sgLen2 (show (l.length : Int) = 2 from congrArg Prod.fst hty)
 obtain ⟨i0, rfl⟩ := sgLen1 (show (m.length : Int) = 1 from congrArg Prod.snd hty)
 have hi0 := hx i0 (by simp)
 have ho0 := hx o0 (by simp)
 have ho1 := hx o1 (by simp)
 have hr : rowsE (9, v, [o0, o1], [i0]) = [(o0, [i0], -1), (o1, [i0], -1)] := by simp [rowsE, efK, efI, efO]
 rw [hr]
 refine ⟨edgeRows_9 v B A b a i0 o0 o1 w hB hA hv hi0 ho0 ho1, ?_, ?_⟩
 rotate_left
 · intro dd hdd
   rcases List.mem_cons.1 hdd with rfl | hdd
   · exact ⟨by simp, ⟨by dsimp only; omega, by dsimp only; omega⟩, by simp, by simp⟩
   · rw [List.mem_singleton.1 hdd]; exact ⟨by simp, ⟨by dsimp only; omega, by dsimp only; omega⟩, by simp, by simp⟩
 unfold eqE edR
 rw [show dnRowsM p n (9, v, [o0, o1], [i0]) = [sprV p n [o0, i0] [1, p - 1], sprV p n [o1, i0] [1, p - 1]] by simp [dnRowsM, efK, efI, efO], hr]
 simp only [List.map_cons, List.map_nil]
 rw [rowP_one ho0.1 hi0.1 (-1) (p - 1) neg1_mod, rowP_one ho1.1 hi0.1 (-1) (p - 1) neg1_mod]
set_option maxRecDepth 100000 in
theorem eg_10 {p v : Int} {V n : Nat} {l m : List Int} (A B : Option Addr) (a b : Nat) (w : World) (hA : RdI w A l) (hB : RdI w B m) (hty : ((l.length : Int), (m.length : Int)) = kindTy 10) (hv : 0 ≤ v ∧ v < 100) (hx : ∀ x, x ∈ l ++ m → 0 ≤ x ∧ x < 100) :
  Calls Tryd.prog 40 #[.agg #[.int .i64 10, .int .i64 v, .slice A l.length a, .slice B m.length b]] w (EdR (rowsE (10, v, l, m)) w) ∧ eqE p V n (10, v, l, m) ∧ okE (l ++ m) (rowsE (10, v, l, m)) := by
 obtain rfl := sgLen0 (show (l.length : Int) = 0 from congrArg Prod.fst hty)
 obtain ⟨i0, rfl⟩ := sgLen1 (show (m.length : Int) = 1 from congrArg Prod.snd hty)
 have hi0 := hx i0 (by simp)
 have hr : rowsE (10, v, [], [i0]) = [] := by simp [rowsE, efK, efI, efO]
 rw [hr]
 refine ⟨edgeRows_10 v B A b a i0 w hB hA hv hi0, ?_, ?_⟩
 rotate_left
 · intro dd hdd
   cases hdd
 unfold eqE edR
 rw [show dnRowsM p n (10, v, [], [i0]) = [] by simp [dnRowsM, efK, efI, efO], hr]
 rfl
set_option maxRecDepth 100000 in
theorem eg_11 {p v : Int} {V n : Nat} {l m : List Int} (A B : Option Addr) (a b : Nat) (w : World) (hA : RdI w A l) (hB : RdI w B m) (hty : ((l.length : Int), (m.length : Int)) = kindTy 11) (hv : 0 ≤ v ∧ v < 100) (hx : ∀ x, x ∈ l ++ m → 0 ≤ x ∧ x < 100) :
  Calls Tryd.prog 40 #[.agg #[.int .i64 11, .int .i64 v, .slice A l.length a, .slice B m.length b]] w (EdR (rowsE (11, v, l, m)) w) ∧ eqE p V n (11, v, l, m) ∧ okE (l ++ m) (rowsE (11, v, l, m)) := by
 obtain ⟨o0, rfl⟩ := sgLen1 (show (l.length : Int) = 1 from congrArg Prod.fst hty)
 obtain ⟨i0, i1, rfl⟩ := sgLen2 (show (m.length : Int) = 2 from congrArg Prod.snd hty)
 have hi0 := hx i0 (by simp)
 have hi1 := hx i1 (by simp)
 have ho0 := hx o0 (by simp)
 have hr : rowsE (11, v, [o0], [i0, i1]) = [(o0, [i0, i1], -1)] := by simp [rowsE, efK, efI, efO]
 rw [hr]
 refine ⟨edgeRows_11 v B A b a i0 i1 o0 w hB hA hv hi0 hi1 ho0, ?_, ?_⟩
 rotate_left
 · intro dd hdd
   rw [List.mem_singleton.1 hdd]; exact ⟨by simp, ⟨by dsimp only; omega, by dsimp only; omega⟩, by simp, by simp⟩
 unfold eqE edR
 rw [show dnRowsM p n (11, v, [o0], [i0, i1]) = [sprV p n [o0, i0, i1] [1, p - 1, p - 1]] by simp [dnRowsM, efK, efI, efO], hr]
 simp only [List.map_cons, List.map_nil]
 rw [rowP_two ho0.1 hi0.1 hi1.1 (-1) (p - 1) neg1_mod]
set_option maxRecDepth 100000 in
theorem eg_12 {p v : Int} {V n : Nat} {l m : List Int} (A B : Option Addr) (a b : Nat) (w : World) (hA : RdI w A l) (hB : RdI w B m) (hty : ((l.length : Int), (m.length : Int)) = kindTy 12) (hv : 0 ≤ v ∧ v < 100) (hx : ∀ x, x ∈ l ++ m → 0 ≤ x ∧ x < 100) :
  Calls Tryd.prog 40 #[.agg #[.int .i64 12, .int .i64 v, .slice A l.length a, .slice B m.length b]] w (EdR (rowsE (12, v, l, m)) w) ∧ eqE p V n (12, v, l, m) ∧ okE (l ++ m) (rowsE (12, v, l, m)) := by
 obtain ⟨o0, rfl⟩ := sgLen1 (show (l.length : Int) = 1 from congrArg Prod.fst hty)
 obtain rfl := sgLen0 (show (m.length : Int) = 0 from congrArg Prod.snd hty)
 have ho0 := hx o0 (by simp)
 have hr : rowsE (12, v, [o0], []) = [(o0, [], 0)] := by simp [rowsE, efK, efI, efO]
 rw [hr]
 refine ⟨edgeRows_12 v B A b a o0 w hB hA hv ho0, ?_, ?_⟩
 rotate_left
 · intro dd hdd
   rw [List.mem_singleton.1 hdd]; exact ⟨by simp, ⟨by dsimp only; omega, by dsimp only; omega⟩, by simp, by simp⟩
 unfold eqE edR
 rw [show dnRowsM p n (12, v, [o0], []) = [sprV p n [o0] [1]] by simp [dnRowsM, efK, efI, efO], hr]
 simp only [List.map_cons, List.map_nil]
 rw [rowP_zero ho0.1 0]
set_option maxRecDepth 100000 in
theorem eg_13 {p v : Int} {V n : Nat} {l m : List Int} (A B : Option Addr) (a b : Nat) (w : World) (hA : RdI w A l) (hB : RdI w B m) (hty : ((l.length : Int), (m.length : Int)) = kindTy 13) (hv : 0 ≤ v ∧ v < 100) (hx : ∀ x, x ∈ l ++ m → 0 ≤ x ∧ x < 100) :
  Calls Tryd.prog 40 #[.agg #[.int .i64 13, .int .i64 v, .slice A l.length a, .slice B m.length b]] w (EdR (rowsE (13, v, l, m)) w) ∧ eqE p V n (13, v, l, m) ∧ okE (l ++ m) (rowsE (13, v, l, m)) := by
 obtain ⟨o0, rfl⟩ := sgLen1 (show (l.length : Int) = 1 from congrArg Prod.fst hty)
 obtain ⟨i0, rfl⟩ := sgLen1 (show (m.length : Int) = 1 from congrArg Prod.snd hty)
 have hi0 := hx i0 (by simp)
 have ho0 := hx o0 (by simp)
 have hr : rowsE (13, v, [o0], [i0]) = [(o0, [i0], -v)] := by simp [rowsE, efK, efI, efO]
 rw [hr]
 refine ⟨edgeRows_13 v B A b a i0 o0 w hB hA hv hi0 ho0, ?_, ?_⟩
 rotate_left
 · intro dd hdd
   rw [List.mem_singleton.1 hdd]; exact ⟨by simp, ⟨by dsimp only; omega, by dsimp only; omega⟩, by simp, by simp⟩
 unfold eqE edR
 rw [show dnRowsM p n (13, v, [o0], [i0]) = [sprV p n [o0, i0] [1, -v % p]] by simp [dnRowsM, efK, efI, efO], hr]
 simp only [List.map_cons, List.map_nil]
 rw [rowP_one ho0.1 hi0.1 (-v) (-v % p) (Int.emod_emod_of_dvd _ (Int.dvd_refl p))]
set_option maxRecDepth 100000 in
theorem eg_14 {p v : Int} {V n : Nat} {l m : List Int} (A B : Option Addr) (a b : Nat) (w : World) (hA : RdI w A l) (hB : RdI w B m) (hty : ((l.length : Int), (m.length : Int)) = kindTy 14) (hv : 0 ≤ v ∧ v < 100) (hx : ∀ x, x ∈ l ++ m → 0 ≤ x ∧ x < 100) :
  Calls Tryd.prog 40 #[.agg #[.int .i64 14, .int .i64 v, .slice A l.length a, .slice B m.length b]] w (EdR (rowsE (14, v, l, m)) w) ∧ eqE p V n (14, v, l, m) ∧ okE (l ++ m) (rowsE (14, v, l, m)) := by
 obtain ⟨o0, rfl⟩ := sgLen1 (show (l.length : Int) = 1 from congrArg Prod.fst hty)
 obtain ⟨i0, rfl⟩ := sgLen1 (show (m.length : Int) = 1 from congrArg Prod.snd hty)
 have hi0 := hx i0 (by simp)
 have ho0 := hx o0 (by simp)
 have hr : rowsE (14, v, [o0], [i0]) = [] := by simp [rowsE, efK, efI, efO]
 rw [hr]
 refine ⟨edgeRows_14 v B A b a i0 o0 w hB hA hv hi0 ho0, ?_, ?_⟩
 rotate_left
 · intro dd hdd
   cases hdd
 unfold eqE edR
 rw [show dnRowsM p n (14, v, [o0], [i0]) = [] by simp [dnRowsM, efK, efI, efO], hr]
 rfl
theorem eg_any {p k v : Int} {V n : Nat} {l m : List Int} (A B : Option Addr) (a b : Nat) (w : World) (hA : RdI w A l) (hB : RdI w B m) (hk : 3 ≤ k ∧ k ≤ 14) (hty : ((l.length : Int), (m.length : Int)) = kindTy k) (hv : 0 ≤ v ∧ v < 100) (hx : ∀ x, x ∈ l ++ m → 0 ≤ x ∧ x < 100) :
  Calls Tryd.prog 40 #[.agg #[.int .i64 k, .int .i64 v, .slice A l.length a, .slice B m.length b]] w (EdR (rowsE (k, v, l, m)) w) ∧ eqE p V n (k, v, l, m) ∧ okE (l ++ m) (rowsE (k, v, l, m)) := by
 have h : k = 3 ∨ k = 4 ∨ k = 5 ∨ k = 6 ∨ k = 7 ∨ k = 8 ∨ k = 9 ∨ k = 10 ∨ k = 11 ∨ k = 12 ∨ k = 13 ∨ k = 14 := by omega
 rcases h with rfl | rfl | rfl | rfl | rfl | rfl | rfl | rfl | rfl | rfl | rfl | rfl
 · exact eg_3 A B a b w hA hB hty hv hx
 · exact eg_4 A B a b w hA hB hty hv hx
 · exact eg_5 A B a b w hA hB hty hv hx
 · exact eg_6 A B a b w hA hB hty hv hx
 · exact eg_7 A B a b w hA hB hty hv hx
 · exact eg_8 A B a b w hA hB hty hv hx
 · exact eg_9 A B a b w hA hB hty hv hx
 · exact eg_10 A B a b w hA hB hty hv hx
 · exact eg_11 A B a b w hA hB hty hv hx
 · exact eg_12 A B a b w hA hB hty hv hx
 · exact eg_13 A B a b w hA hB hty hv hx
 · exact eg_14 A B a b w hA hB hty hv hx
section
variable {P : Program} {ops : Array Oper} {Q : Exit → Act → World → Prop} {md : Region.Mode} {z : Nat} {F : World → Prop}
def wpAnyZ (P : Program) (md : Region.Mode) (ops : Array Oper) (Q : Exit → Act → World → Prop) (z : Nat) (F : World → Prop) : Nat → Array Bool → Act → World → Prop
 | 0, listed, a, w => Region.ready md ops listed = [] ∧ Q .normal a w
 | fuel + 1, listed, a, w =>
   (Region.ready md ops listed = [] → Q .normal a w) ∧
   ∀ i ∈ Region.ready md ops listed, wpOp P ops Q i (fun a' w' => ((listed.setIfInBounds i true).getD z true = false → F w') ∧ wpAnyZ P md ops Q z F fuel (listed.setIfInBounds i true) a' w') a w
theorem wpAny_of_z : ∀ (fuel : Nat) (listed : Array Bool) (a : Act) (w : World), wpAnyZ P md ops Q z F fuel listed a w → wpAny P md ops Q fuel listed a w
 | 0, _, _, _, h => h
 | fuel + 1, _, _, _, h => ⟨h.1, fun i hi => wpOp_mono (fun a' w' h' => wpAny_of_z fuel _ a' w' h'.2) (h.2 i hi)⟩
end
section
variable {P : Program} {l : List Oper} {Q : Exit → Act → World → Prop} {md : Region.Mode} {z : Nat} {F : World → Prop}
theorem beginZ (z : Nat) (F : World → Prop) {id : Nat} {a : Act} {w : World} (hm : P.follows .mixedOrders = true) (h : wpAnyZ P .any l.toArray Q z F l.toArray.size (Array.replicate l.toArray.size false) a w.drew) : (Code.region id l.toArray true).wp P Q a w :=
 wp_region_any hm (wpAny_of_z _ _ _ _ h)
theorem beginZw (z : Nat) (F : World → Prop) {id : Nat} {a : Act} {w : World} (hm : P.follows .mixedOrders = true) (h : ∀ W1, W1 = w.drew → wpAnyZ P .any l.toArray Q z F l.toArray.size (Array.replicate l.toArray.size false) a W1) : (Code.region id l.toArray true).wp P Q a w :=
 beginZ z F hm (h _ rfl)
theorem oneZ (i : Nat) {o : Oper} {fuel : Nat} {listed : Array Bool} {a : Act} {w : World} {l' : List Oper} (hd : l.drop i = o :: l') (hr : Region.ready md l.toArray listed = [i]) (hw : Region.wanted o (yielded l.toArray a.tmps) = true)
  (h : ∀ K : Act → World → Prop, (∀ a' w', ((listed.setIfInBounds i true).getD z true = false → F w') → wpAnyZ P md l.toArray Q z F fuel (listed.setIfInBounds i true) a' w' → K a' w') → o.wp P a w K Q) : wpAnyZ P md l.toArray Q z F (fuel + 1) listed a w := by
 refine ⟨fun h0 => (by rw [hr] at h0; cases h0), fun j hj => ?_⟩
 rw [hr] at hj
 obtain rfl := List.mem_singleton.1 hj
 unfold wpOp
 simp only [at_drop hd, hw, if_true]
 exact .inl (h _ fun a' w' h1 h2 => ⟨h1, h2⟩)
theorem runZ (i : Nat) {o : Oper} {v : Value} {fuel : Nat} {listed : Array Bool} {a : Act} {w w1 : World} {l' : List Oper} (hd : l.drop i = o :: l') (hr : Region.ready md l.toArray listed = [i]) (hw : Region.wanted o (yielded l.toArray a.tmps) = true)
  (hrun : (execOp a.eval o).run P w = .ok (.value v) w1) (hS : (listed.setIfInBounds i true).getD z true = false → F w1) (h : wpAnyZ P md l.toArray Q z F fuel (listed.setIfInBounds i true) (a.put o.dst v) w1) : wpAnyZ P md l.toArray Q z F (fuel + 1) listed a w :=
 oneZ i hd hr hw fun K hK => by
  unfold Oper.wp
  rw [hrun]
  exact hK _ _ hS h
theorem callZ (i : Nat) {o : Oper} {f : FuncId} {args : Array Value} {fuel : Nat} {listed : Array Bool} {a : Act} {w : World} {l' : List Oper} (hd : l.drop i = o :: l') (hr : Region.ready md l.toArray listed = [i]) (hw : Region.wanted o (yielded l.toArray a.tmps) = true)
  (hrun : (execOp a.eval o).run P w = .ok (.enter f args) w)
  (h : Calls P f args w fun e w' => ∃ v, e = .returned v ∧ ((listed.setIfInBounds i true).getD z true = false → F w') ∧ wpAnyZ P md l.toArray Q z F fuel (listed.setIfInBounds i true) (a.put o.dst v) w') : wpAnyZ P md l.toArray Q z F (fuel + 1) listed a w := by
 refine oneZ i hd hr hw fun K hK => ?_
 unfold Oper.wp
 rw [hrun]
 exact h.mono fun e w' ⟨v, he, h1, h2⟩ => by subst he; exact hK _ _ h1 h2
theorem appZ (i : Nat) {o : Oper} {fuel : Nat} {listed : Array Bool} {a : Act} {w : World} {l' : List Oper} (hd : l.drop i = o :: l') (hr : Region.ready md l.toArray listed = [i]) (hw : Region.wanted o (yielded l.toArray a.tmps) = true)
  (s x : Operand) (t : TypeId) (ho : o.op = .call { callee := .builtin .append, args := #[s, x], argTypes := #[t, t] })
  (e : TypeId) {z0 : Value} {size bytes : Nat} (ht : P.underlying t = some (.slice e)) (hinfo : (P.info? e).map (fun i => (i.zero, i.size, i.bytes)) = some (some z0, size, bytes)) (hzs : z0.cells.size = size) (hsz : 0 < size)
  {A : Option Addr} {n cap : Nat} {xs : List Value} (he : a.eval s = .slice A n cap) (hs : Sl w e size A n cap xs)
  {B : Option Addr} {m c : Nat} {news : List Value} (hx : a.eval x = .slice B m c) (hl : news.length = m * size) (hrd : RdC w B news) (h1 : ∀ u ∈ news, u.oneCell' = true)
  (h63 : n + m ≤ maxLen) (hbytes : (n + m) * bytes ≤ 140737488355328)
  (h : ∀ A' cap' w', Sl w' e size A' (n + m) cap' (xs ++ news) → (∀ b, b ∈ fpA A' → b ∈ fpA A ∨ w.heap.size ≤ b) → Keeps (· ∈ fpA A) w w' → RdC w' A xs → ((listed.setIfInBounds i true).getD z true = false → F w') ∧ wpAnyZ P md l.toArray Q z F fuel (listed.setIfInBounds i true) (a.put o.dst (.slice A' (n + m) cap')) w') : wpAnyZ P md l.toArray Q z F (fuel + 1) listed a w := by
 obtain ⟨i', hi, hz, hz1, hz2⟩ := info_parts hinfo
 obtain ⟨A', cap', w', hrun, h2, h3, h4, h5⟩ := run_append_Sl_rd (P := P) w t o.type e i' z0 size bytes ht hi hz hz1 hz2 hzs hsz A n cap xs hs B m c news hl hrd h1 h63 hbytes
 obtain ⟨hS, hh⟩ := h A' cap' w' h2 h3 h4 h5
 refine runZ i hd hr hw (w1 := w') (v := .slice A' (n + m) cap') ?_ hS hh
 unfold execOp
 simp only [ho, resolve, invoke, builtin, Sem.run_bind, Sem.run_pure, Result.andThen_ok, List.map_toArray, List.map_cons, List.map_nil, he, hx, hrun]
theorem doneZ {fuel : Nat} {listed : Array Bool} {a : Act} {w : World} (hr : Region.ready md l.toArray listed = []) (h : Q .normal a w) : wpAnyZ P md l.toArray Q z F fuel listed a w := by
 cases fuel with
 | zero => exact ⟨hr, h⟩
 | succ f => exact ⟨fun _ => h, fun i hi => (by rw [hr] at hi; cases hi)⟩
end
section
variable {P : Program} {ops : Array Oper} {Q : Exit → Act → World → Prop} {md : Region.Mode} {z : Nat} {F : World → Prop}
theorem wpAnyZ_firstC {i : Nat} {oi : Oper} {v : Value} {C : List Nat} (hi : ops[i]? = some oi) (hsel : ∀ (j : Nat) (o : Oper) cs b, ops[j]? = some o → o.op ≠ .select cs b)
  (hQ : ∀ c a w, Q (.panic c) (a.put oi.dst v) w → Q (.panic c) a w) (hzC : z ∈ C) (hiC : ¬ i ∈ C) (hC : ∀ c ∈ C, ∃ oc, ops[c]? = some oc ∧ ∃ e ∈ oc.after, Region.binds md e = true ∧ (e.on = i ∨ e.on ∈ C)) :
  ∀ (fuel : Nat) (listed : Array Bool) (a : Act) (w : World), (∀ c ∈ C, listed.getD c true = false) →
    (∀ j oj, ops[j]? = some oj → j ≠ i → listed.getD j true = false → (∀ e ∈ oj.after, Region.binds md e = true → e.on ≠ i) → oi.apart ops oj = true) →
    i ∈ Region.ready md ops listed → YieldsIf P ops F oi v a → F w →
    wpAnyZ P md ops Q z F fuel (listed.setIfInBounds i true) (a.put oi.dst v) w → wpAnyZ P md ops Q z F (fuel + 1) listed a w := by
 intro fuel
 have hiz : i ≠ z := fun e => hiC (e ▸ hzC)
 induction fuel with
 | zero =>
   intro listed a w _ _ hr hy hS H
   refine ⟨fun h => (by rw [h] at hr; cases hr), fun j hj => ?_⟩
   by_cases hji : j = i
   · subst hji; exact hy.wpOp hi hS ⟨fun _ => hS, H⟩
   · have := ready_mono hj hji
     rw [H.1] at this
     cases this
 | succ fuel ih =>
   intro listed a w hlz hfree hr hy hS H
   refine ⟨fun h => (by rw [h] at hr; cases hr), fun j hj => ?_⟩
   by_cases hji : j = i
   · subst hji; exact hy.wpOp hi hS ⟨fun _ => hS, H⟩
   · have h1 := H.2 j (ready_mono hj hji)
     obtain ⟨hjun, oj, hoj, hall⟩ := mem_ready.1 hj
     have hblock : ∀ k, listed.getD k true = false → ∀ e ∈ oj.after, Region.binds md e = true → e.on ≠ k := fun k h0 e he hb heq => by
      have h1 := hall e he hb
      rw [heq] at h1
      rcases Nat.lt_or_ge k listed.size with h' | h'
      · simp [h'] at h0 h1; rw [h0] at h1; cases h1
      · simp [Array.getElem?_eq_none h'] at h1
     have hnot : ∀ e ∈ oj.after, Region.binds md e = true → e.on ≠ i := hblock i (mem_ready.1 hr).1
     have hjC : ¬ j ∈ C := fun hm => by
      obtain ⟨oc, hoc, e, he, hb, hon⟩ := hC j hm
      rw [hoj] at hoc
      obtain rfl := Option.some.inj hoc
      rcases hon with h | h
      · exact hnot e he hb h
      · exact hblock _ (hlz _ h) e he hb rfl
     have hjz : j ≠ z := fun e => hjC (e ▸ hzC)
     have h2 := wpOp_putIf hoj (hfree j oj hoj hji hjun hnot) (fun cs b => hsel i oi cs b hi) (fun cs b => hsel j oj cs b hoj) hQ hy h1
     have hfree' : ∀ k ok, ops[k]? = some ok → k ≠ i → (listed.setIfInBounds j true).getD k true = false →
       (∀ e ∈ ok.after, Region.binds md e = true → e.on ≠ i) → oi.apart ops ok = true := fun k ok hk hki hun hno => by
      refine hfree k ok hk hki ?_ hno
      by_cases hjk : j = k
      · subst hjk; exact hjun
      · rw [getD_set_ne true hjk] at hun; exact hun
     have hlz' : ∀ c ∈ C, (listed.setIfInBounds j true).getD c true = false := fun c hc => by
      have hjc : j ≠ c := fun e => hjC (by rw [e]; exact hc)
      rw [getD_set_ne true hjc]; exact hlz c hc
     have hlz2 : ((listed.setIfInBounds i true).setIfInBounds j true).getD z true = false := by rw [getD_set_ne true hjz, getD_set_ne true hiz]; exact hlz z hzC
     refine wpOp_mono (fun a' w' h3 => ⟨fun _ => h3.2.1 hlz2, ih (listed.setIfInBounds j true) a' w' hlz' hfree' (ready_mono hr (Ne.symm hji)) h3.1 (h3.2.1 hlz2) ?_⟩) h2
     rw [Array.setIfInBounds_comm _ _ hji]
     exact h3.2.2
def descC (md : Region.Mode) (ops : Array Oper) (i : Nat) : List Nat :=
 (List.range ops.size).foldl (fun acc k => if (i :: acc).any fun d => Region.waitsFor md ops k d then k :: acc else acc) []
def chainC (md : Region.Mode) (ops : Array Oper) (listed : Array Bool) (C : List Nat) (z i : Nat) : Bool :=
 C.contains z && !C.contains i && C.all fun c => !listed.getD c true && (i :: C).any fun d => Region.waitsFor md ops c d
end
section
variable {P : Program} {l : List Oper} {Q : Exit → Act → World → Prop} {md : Region.Mode} {z : Nat} {F : World → Prop}
theorem takeC (i : Nat) {oi : Oper} {v : Value} {fuel : Nat} {listed : Array Bool} {a : Act} {w : World} {l' : List Oper} (hd : l.drop i = oi :: l')
  (hs : Region.noSelect l.toArray = true) (hf : Region.free md l.toArray listed i = true) (hr : (Region.ready md l.toArray listed).contains i = true) (hz : chainC md l.toArray listed (descC md l.toArray i) z i = true)
  (hQ : ∀ c a w, Q (.panic c) (a.put oi.dst v) w → Q (.panic c) a w) (hS : F w) (hw : Region.wanted oi (yielded l.toArray a.tmps) = true) (hy : ∀ w, F w → (execOp a.eval oi).run P w = .ok (.value v) w)
  (h : wpAnyZ P md l.toArray Q z F fuel (listed.setIfInBounds i true) (a.put oi.dst v) w) : wpAnyZ P md l.toArray Q z F (fuel + 1) listed a w := by
 simp only [chainC, Bool.and_eq_true, Bool.not_eq_true', List.all_eq_true, List.any_eq_true] at hz
 obtain ⟨⟨h1, h2⟩, h3⟩ := hz
 refine wpAnyZ_firstC (C := descC md l.toArray i) (at_drop hd) (Region.noSelect_spec hs) hQ (by simpa using h1) (by simpa using h2) (fun c hc => ?_) fuel listed a w (fun c hc => (h3 c hc).1) (Region.free_spec (at_drop hd) hf) (by simpa using hr) (.inl ⟨hw, hy⟩) hS h
 obtain ⟨-, d, hd', hwt⟩ := h3 c hc
 obtain ⟨oz, hoz, e, he, hb, heq⟩ := Region.waitsFor_spec hwt
 refine ⟨oz, hoz, e, he, hb, ?_⟩
 rw [heq]
 rcases List.mem_cons.1 hd' with h | h
 · exact .inl h
 · exact .inr h
theorem tkC (i : Nat) {oi : Oper} (v : Value) {fuel : Nat} {listed : Array Bool} {a : Act} {w : World} {l' : List Oper} (hd : l.drop i = oi :: l') (hS : F w) (hy : ∀ w, F w → (execOp a.eval oi).run P w = .ok (.value v) w)
 (h : wpAnyZ P md l.toArray Q z F fuel (listed.setIfInBounds i true) (a.put oi.dst v) w) (hs : Region.noSelect l.toArray = true := by kernel_rfl) (hf : Region.free md l.toArray listed i = true := by kernel_rfl) (hr : (Region.ready md l.toArray listed).contains i = true := by kernel_rfl) (hz : chainC md l.toArray listed (descC md l.toArray i) z i = true := by kernel_rfl)
 (hQ : ∀ c a w, Q (.panic c) (a.put oi.dst v) w → Q (.panic c) a w := by exact fun _ _ _ h => h) (hw : Region.wanted oi (yielded l.toArray a.tmps) = true := by rfl) : wpAnyZ P md l.toArray Q z F (fuel + 1) listed a w := takeC i hd hs hf hr hz hQ hS hw hy h
end
def OMx (w0 : World) (bx : Nat) (w : World) (A : Option Addr) (cap : Nat) (L : List (List Int)) : Prop :=
 ∃ hs : List Hd, L = hs.map (fun h : Hd => h.2.2) ∧ OwR w A cap hs ∧ (∀ b, b ∈ fpA A ++ fpR hs → w0.heap.size ≤ b ∧ b ≠ bx) ∧ Below w0.heap.size w0 w ∧ w0.heap.size ≤ bx ∧ bx < w.heap.size
section
variable {w0 w w' : World} {bx : Nat} {A : Option Addr} {cap : Nat} {L : List (List Int)}
theorem OMx.om (h : OMx w0 bx w A cap L) : OM w0 w A cap L := by
 obtain ⟨hs, hL, hO, hf, h0, _⟩ := h
 exact ⟨hs, hL, hO, fun b hb => (hf b hb).1, h0⟩
theorem OMx.below_ (h : OMx w0 bx w A cap L) : Below w0.heap.size w0 w := h.om.below_
theorem OMx.nil (h0 : Below w0.heap.size w0 w) (h1 : w0.heap.size ≤ bx) (h2 : bx < w.heap.size) : OMx w0 bx w none 0 [] :=
 ⟨[], rfl, OwR.nil w, fun b hb => by simp [fpR] at hb, h0, h1, h2⟩
theorem OMx.below (h : OMx w0 bx w A cap L) (hb : Below w.heap.size w w') : OMx w0 bx w' A cap L := by
 obtain ⟨hs, hL, hO, hf, h0, h1, h2⟩ := h
 exact ⟨hs, hL, hO.below hb, hf, below_trans h0 hb h0.size, h1, Nat.lt_of_lt_of_le h2 hb.size⟩
theorem OMx.store (h : OMx w0 bx w A cap L) (hk : Keeps (· = bx) w w') : OMx w0 bx w' A cap L := by
 obtain ⟨hs, hL, hO, hf, h0, h1, h2⟩ := h
 exact ⟨hs, hL, hO.keeps hk fun b hb e => (hf b hb).2 e, hf, below_keeps h0 hk h0.size fun k e => by subst e; exact h1, h1, Nat.lt_of_lt_of_le h2 hk.size⟩
theorem OMx.snoc {w1 w2 : World} {hs : List Hd} (hL : L = hs.map (fun h : Hd => h.2.2)) (hO : OwR w A cap hs) (hf : ∀ b, b ∈ fpA A ++ fpR hs → w0.heap.size ≤ b ∧ b ≠ bx) (h0 : Below w0.heap.size w0 w) (h1 : w0.heap.size ≤ bx) (h2 : bx < w.heap.size) {l : List Int} {B : Option Addr} {c : Nat} (hb : Below w.heap.size w w1) (hx : IS w1 B c l) (hf1 : Fresh w.heap.size B)
  {A' : Option Addr} {cap' n : Nat} (hn : n = hs.length + 1) (hs' : Sl w2 23 1 A' n cap' (hs.map Hd.val ++ [.slice B l.length c])) (hA' : ∀ b, b ∈ fpA A' → b ∈ fpA A ∨ w1.heap.size ≤ b) (hk : Keeps (· ∈ fpA A) w1 w2) : OMx w0 bx w2 A' cap' (L ++ [l]) := by
 subst hL hn
 have hbw := below_trans h0 hb h0.size
 have hz := hb.size
 have hz2 := hk.size
 refine ⟨hs ++ [(B, c, l)], by simp, hO.snoc hb (x := (B, c, l)) hx hf1 (by simpa [Hd.val] using hs') hA' hk, fun b hb' => ?_, below_keeps hbw hk hbw.size fun b hb' => (hf b (List.mem_append_left _ hb')).1, h1, by omega⟩
 rcases List.mem_append.1 hb' with hb' | hb'
 · rcases hA' b hb' with h3 | h3
   · exact hf b (List.mem_append_left _ h3)
   · have := hbw.size; omega
 · rcases fpR_snoc hs (B, c, l) b hb' with h3 | h3
   · exact hf b (List.mem_append_right _ h3)
   · have := hf1 b h3; have := h0.size; omega
end
theorem OM.grow {w0 w w1 w2 : World} {A : Option Addr} {cap : Nat} {L : List (List Int)} (h : OM w0 w A cap L) {i : Nat} (hi : i < L.length) {ad : Addr} (hA : A = some ad) {B : Option Addr} {n c : Nat} (hc : w.cell? (ad.add i) = some (.slice B n c)) (hb : Below w.heap.size w w1) {B' : Option Addr} {c' : Nat} {l' : List Int} (hx : IS w2 B' c' l') (hf1 : ∀ b, b ∈ fpA B' → b ∈ fpA B ∨ w.heap.size ≤ b) (hkB : Keeps (· ∈ fpA B) w1 w2) :
  OM w0 (w2.setCell (ad.add i) (.slice B' l'.length c')) A cap (L.set i l') := by
 subst hA
 obtain ⟨hs, rfl, hO, hf, h0⟩ := h
 have hi' : i < hs.length := by simpa using hi
 obtain ⟨ad', B0, c0, l0, hA', hx0, hc', _, _⟩ := hO.get (i := i) hi'
 obtain rfl := Option.some.inj hA'
 rw [hc] at hc'
 injection hc' with hc'
 injection hc' with e1 e2 e3
 subst e1
 have hm0 := List.mem_of_getElem? hx0
 have hAl : ∀ b, b ∈ fpA (some ad) → b < w.heap.size := fun b hb' => hO.sl.lt b hb'
 have hRl : ∀ y, y ∈ hs → (∀ b, b ∈ fpA y.1 → b < w.heap.size) := fun y hy b hb' => (hO.rows y hy).lt b hb'
 have hBA : ∀ b, b ∈ fpA B → ¬ b ∈ fpA (some ad) := fun b hb' => hO.outer _ hm0 b hb'
 have hk : Keeps (· ∈ fpA (some ad)) w2 (w2.setCell (ad.add i) (.slice B' l'.length c')) := (Keeps.refl _ w2).setCell (p := ad.add i) (by rw [block_of_add]; simp) _
 have hget : ∀ (k : Nat) (x : Hd), (hs.set i (B', c', l'))[k]? = some x → (k = i ∧ x = (B', c', l')) ∨ (k ≠ i ∧ hs[k]? = some x) := by
  intro k x hx
  rw [List.getElem?_set] at hx
  split at hx
  · rename_i hk; subst hk
    simp at hx
    exact .inl ⟨rfl, hx.symm⟩
  · rename_i hk; exact .inr ⟨fun e => hk e.symm, hx⟩
 have hsz := h0.size
 have hbs := hb.size
 refine ⟨hs.set i (B', c', l'), by rw [List.map_set], ⟨?_, fun x hx' => ?_, ?_, fun x hx' b hb1 hb2 => ?_⟩, fun b hb' => ?_, ?_⟩
 · have := ((hO.sl.below hb).keeps hkB (fun b hb1 hb2 => hBA b hb2 hb1)).set (ad := ad) rfl i (Hd.val (B', c', l')) (by simpa using hi')
   rw [← List.map_set] at this
   rw [List.length_set]; exact this
 · obtain ⟨k, hk', rfl⟩ := List.getElem_of_mem hx'
   rcases hget k _ (List.getElem?_eq_getElem hk') with ⟨_, e⟩ | ⟨hne, e⟩
   · rw [e]
     exact hx.keeps hk fun b hb' hb'' => by
      rcases hf1 b hb' with h1 | h1
      · exact hBA b h1 hb''
      · have := hAl b hb''
        omega
   · exact ((hO.rows _ (List.mem_of_getElem? e)).below hb |>.keeps hkB (fun b hb1 hb2 => hO.apart_get e hx0 hne b hb1 hb2)).keeps hk fun b hb' => hO.outer _ (List.mem_of_getElem? e) b hb'
 · refine List.pairwise_iff_getElem.2 fun a b ha hb' hab c'' h1 h2 => ?_
   rcases hget a _ (List.getElem?_eq_getElem ha) with ⟨ea, e1⟩ | ⟨ea, e1⟩ <;> rcases hget b _ (List.getElem?_eq_getElem hb') with ⟨eb, e2⟩ | ⟨eb, e2⟩
   · omega
   · rw [e1] at h1
     have h3 := hRl _ (List.mem_of_getElem? e2) c'' h2
     rcases hf1 c'' h1 with h4 | h4
     · exact hO.apart_get e2 hx0 eb c'' h2 h4
     · omega
   · rw [e2] at h2
     have h3 := hRl _ (List.mem_of_getElem? e1) c'' h1
     rcases hf1 c'' h2 with h4 | h4
     · exact hO.apart_get e1 hx0 ea c'' h1 h4
     · omega
   · exact hO.apart_get e1 e2 (by omega) c'' h1 h2
 · rcases List.mem_or_eq_of_mem_set hx' with hx' | hx'
   · exact hO.outer x hx' b hb1 hb2
   · subst hx'
     rcases hf1 b hb1 with h1 | h1
     · exact hBA b h1 hb2
     · have := hAl b hb2
       omega
 · rcases List.mem_append.1 hb' with hb' | hb'
   · exact hf b (List.mem_append_left _ hb')
   · obtain ⟨y, hy, hb'⟩ := mem_fpR.1 hb'
     rcases List.mem_or_eq_of_mem_set hy with hy | hy
     · exact hf b (List.mem_append_right _ (mem_fpR.2 ⟨_, hy, hb'⟩))
     · subst hy
       rcases hf1 b hb' with h1 | h1
       · exact hf b (List.mem_append_right _ (mem_fpR.2 ⟨_, hm0, h1⟩))
       · omega
 · have hB2 := below_keeps (below_trans h0 hb hsz) hkB (by omega) fun b hb' => hf b (List.mem_append_right _ (mem_fpR.2 ⟨_, hm0, hb'⟩))
   exact below_keeps hB2 hk hB2.size fun b hb' => hf b (List.mem_append_left _ hb')
theorem IS.ne_out {w : World} {A B : Option Addr} {c n cap : Nat} {l : List Int} {xs : List Value} (h : IS w A c l) (h' : Sl w 23 1 B n cap xs) : ∀ x, x ∈ fpA A → x ∉ fpA B := by
 intro x hx hx'
 rcases h.2.2.2 with ⟨rfl, _⟩ | ⟨g, off, cur, rfl, hg, _⟩
 · simp at hx
 rcases h'.2.2.2 with ⟨rfl, _⟩ | ⟨g', off', cur', rfl, hg', _⟩
 · simp at hx'
 simp at hx hx'
 subst hx
 subst hx'
 rw [hg] at hg'
 injection hg' with hg'
 injection hg' with _ h2 _
 exact absurd h2 (by decide)
structure RwI (w0 w : World) (A : Option Addr) (cap : Nat) (hs : List Hd) : Prop where
 sl : Sl w 23 1 A hs.length cap (hs.map Hd.val)
 rows : ∀ x, x ∈ hs → IS w x.1 x.2.1 x.2.2
 new : ∀ b, b ∈ fpA A → w0.heap.size ≤ b
 below_ : Below w0.heap.size w0 w
theorem RwI.nil (w0 w : World) (hb : Below w0.heap.size w0 w) : RwI w0 w none 0 [] := ⟨Sl.nil _ _ _, fun x hx => (by cases hx), fun b hb' => (by simp at hb'), hb⟩
theorem RwI.below {w0 w w' : World} {A : Option Addr} {cap : Nat} {hs : List Hd} (h : RwI w0 w A cap hs) (hb : Below w.heap.size w w') : RwI w0 w' A cap hs :=
 ⟨h.sl.below hb, fun x hx => (h.rows x hx).below hb, h.new, below_trans h.below_ hb h.below_.size⟩
theorem RwI.app {w0 w w1 w2 : World} {A : Option Addr} {cap : Nat} {hs ys : List Hd} (h : RwI w0 w A cap hs) (hb : Below w.heap.size w w1) (hy : ∀ x, x ∈ ys → IS w1 x.1 x.2.1 x.2.2) {A' : Option Addr} {cap' n : Nat} (hn : n = hs.length + ys.length) (hs' : Sl w2 23 1 A' n cap' (hs.map Hd.val ++ ys.map Hd.val)) (hA' : ∀ b, b ∈ fpA A' → b ∈ fpA A ∨ w1.heap.size ≤ b) (hk : Keeps (· ∈ fpA A) w1 w2) : RwI w0 w2 A' cap' (hs ++ ys) := by
 subst hn
 have h1 := h.below hb
 refine ⟨by rw [List.length_append, List.map_append]; exact hs', fun x hx => ?_, fun b hb' => ?_, below_keeps h1.below_ hk h1.below_.size h.new⟩
 · rcases List.mem_append.1 hx with hx | hx
   · exact (h1.rows x hx).keeps hk ((h1.rows x hx).ne_out h1.sl)
   · exact (hy x hx).keeps hk ((hy x hx).ne_out h1.sl)
 · rcases hA' b hb' with h2 | h2
   · exact h.new b h2
   · have := h1.below_.size; omega
theorem mem_edWd {es : List Eg} {e : Eg} (he : e ∈ es) {x : Int} (hx : x ∈ e.2.2.1 ++ e.2.2.2) : x ∈ edW es := by
 induction es with
 | nil => cases he
 | cons a r ih =>
   unfold edW
   rcases List.mem_cons.1 he with rfl | he
   · rcases List.mem_append.1 hx with h | h
     · exact List.mem_append_left _ h
     · exact List.mem_append_right _ (List.mem_append_left _ h)
   · exact List.mem_append_right _ (List.mem_append_right _ (ih he))
structure DnOk (p : Int) (g : Gr) : Prop where
 fld : fieldB p = true
 lo : 0 ≤ g.1
 hi : g.1 ≤ 100
 len : g.2.1.length ≤ 60
 li : g.2.2.1.length ≤ 12
 lo' : g.2.2.2.length ≤ 12
 ends : ∀ x, x ∈ g.2.2.1 ++ g.2.2.2 → 0 ≤ x ∧ x < g.1
 edge : ∀ e, e ∈ g.2.1 → (3 ≤ e.1 ∧ e.1 ≤ 14) ∧ ((e.2.2.1.length : Int), (e.2.2.2.length : Int)) = kindTy e.1 ∧ (∀ x, x ∈ e.2.2.1 ++ e.2.2.2 → 0 ≤ x ∧ x < g.1) ∧ 0 ≤ e.2.1 ∧ e.2.1 < p ∧ e.1 ≠ 8 ∧ e.1 ≠ 14
theorem DnOk.of {p : Int} {g : Gr} (h : dnAskB p g = true) : DnOk p g := by
 unfold dnAskB gOverB grB at h
 simp only [Bool.and_eq_true, List.all_eq_true, decide_eq_true_eq] at h
 obtain ⟨⟨h1, ⟨⟨h2, h3, h4, h5⟩, h6, h7, _⟩, h8⟩, h9⟩ := h
 unfold t_inB at h2
 have h2 := of_decide_eq_true h2
 have hw := inW_iff.1 h7
 refine ⟨h1, h2.1, h2.2, h3, h4, h5, fun x hx => hw x ?_, fun e he => ?_⟩
 · unfold t_allW
   rcases List.mem_append.1 hx with h | h
   · exact List.mem_append_left _ h
   · exact List.mem_append_right _ (List.mem_append_left _ h)
 · have h10 := h6 e he
   unfold egB at h10
   simp only [Bool.and_eq_true, decide_eq_true_eq] at h10
   obtain ⟨k1, k2, k3⟩ := h10
   unfold t_inB at k1
   have k1 := of_decide_eq_true k1
   have h11 := h9 e he
   unfold noDl at h11
   simp only [Bool.and_eq_true, decide_eq_true_eq] at h11
   refine ⟨k1, k3, fun x hx => hw x ?_, ?_, h8 e he, h11.1, h11.2⟩
   · unfold t_allW
     exact List.mem_append_right _ (List.mem_append_right _ (mem_edWd he hx))
   · unfold gvB at k2
     split at k2
     · unfold t_inB at k2
       exact (of_decide_eq_true k2).1
     · have := of_decide_eq_true k2; omega
theorem dnRowsM_len (p : Int) (n : Nat) (e : Eg) : (dnRowsM p n e).length ≤ 2 := by
 unfold dnRowsM
 repeat' split
 all_goals simp
theorem dnRowsM_mat {p : Int} (hp : 0 < p) (n : Nat) (e : Eg) : ∀ v, v ∈ dnRowsM p n e → v.length = n ∧ Res p v := by
 have h : ∀ a b, (sprV p n a b).length = n ∧ Res p (sprV p n a b) := fun a b => ⟨sprTo_length _ _ _ _ _, sprTo_res hp _ _ _ _⟩
 intro v hv
 unfold dnRowsM at hv
 split at hv
 · simp only [List.mem_cons, List.not_mem_nil, or_false] at hv
   rcases hv with rfl | rfl <;> exact h _ _
 · split at hv
   · simp only [List.mem_cons, List.not_mem_nil, or_false] at hv
     subst hv; exact h _ _
   · split at hv
     · simp only [List.mem_cons, List.not_mem_nil, or_false] at hv
       subst hv; exact h _ _
     · split at hv
       · simp only [List.mem_cons, List.not_mem_nil, or_false] at hv
         subst hv; exact h _ _
       · cases hv
abbrev tSysG : TypeId := 29
theorem set_g2 {w : World} {B : Nat} {t : TypeId} {x y z b : Value} (h : w.heap[B]? = some (.cells #[x, y, z] t)) : (w.setCell ⟨B, 2, none⟩ b).heap[B]? = some (.cells #[x, y, b] t) ∧ Keeps (· = B) w (w.setCell ⟨B, 2, none⟩ b) := by
 refine ⟨by simp [World.setCell, Array.getElem?_modify, h], ?_⟩
 exact (Keeps.refl (fun x => x = B) w).setCell (p := ⟨B, 2, none⟩) rfl _
theorem OMx.push {w0 w w1 : World} {bx q cap : Nat} {A : Option Addr} {L : List (List Int)} {V n : Value} (h : OMx w0 bx w A cap L) (hq : L.length = q) (hbx : w.heap[bx]? = some (.cells #[V, n, .slice A q cap] tSysG)) (hb : Below w.heap.size w w1) {B : Option Addr} {c N : Nat} {l : List Int} (hI : IS w1 B c l) (hN : l.length = N) (hf : Fresh w.heap.size B) :
  ∃ vs, Sl (w1.alloc (.cells #[.slice B N c] 23)) 23 1 A q cap vs ∧ (w1.alloc (.cells #[.slice B N c] 23)).heap[bx]? = some (.cells #[V, n, .slice A q cap] tSysG) ∧ ∀ (A' : Option Addr) (cap' : Nat) (w3 : World), Sl w3 23 1 A' (q + 1) cap' (vs ++ [.slice B N c]) → (∀ b, b ∈ fpA A' → b ∈ fpA A ∨ (w1.alloc (.cells #[.slice B N c] 23)).heap.size ≤ b) → Keeps (· ∈ fpA A) (w1.alloc (.cells #[.slice B N c] 23)) w3 →
    w3.heap[bx]? = some (.cells #[V, n, .slice A q cap] tSysG) ∧ OMx w0 bx (w3.setCell ⟨bx, 2, none⟩ (.slice A' (q + 1) cap')) A' cap' (L ++ [l]) ∧ (w3.setCell ⟨bx, 2, none⟩ (.slice A' (q + 1) cap')).heap[bx]? = some (.cells #[V, n, .slice A' (q + 1) cap'] tSysG) := by
 obtain ⟨hs, hL, hO, hf', h0, h1, h2⟩ := h
 have ba := below_alloc w1 (.cells #[.slice B N c] 23)
 have hb2 := below_trans hb ba hb.size
 have hlen : hs.length = q := by rw [← hq, hL, List.length_map]
 have hbx2 := box_below hbx hb2
 refine ⟨hs.map Hd.val, ?_, hbx2, fun A' cap' w3 hs3 hA3 hk3 => ?_⟩
 · have := hO.sl.below hb2
   rwa [hlen] at this
 · have h3 := OMx.snoc hL hO hf' h0 h1 h2 hb2 (hI.below ba) hf (n := q + 1) (by rw [hlen]) (by rw [hN]; exact hs3) hA3 hk3
   have hbx3 := box_keeps hbx2 hk3 (fun e => (hf' _ (List.mem_append_left _ e)).2 rfl)
   obtain ⟨s1, s2⟩ := set_g2 (b := .slice A' (q + 1) cap') hbx3
   exact ⟨hbx3, h3.store s2, s1⟩
def KeptM (w w' : World) : Prop := ∀ b, b < w.heap.size → (∀ cs t fr, w.heap[b]? = some (.cells cs t fr) → t = tRow) → w'.heap[b]? = w.heap[b]?
theorem KeptM.refl (w : World) : KeptM w w := fun _ _ _ => rfl
theorem KeptM.trans {w w' w'' : World} (h : KeptM w w') (hz : w.heap.size ≤ w'.heap.size) (k : KeptM w' w'') : KeptM w w'' := fun b hb ht => by
 have e := h b hb ht
 exact (k b (Nat.lt_of_lt_of_le hb hz) fun cs t fr hc => ht cs t fr (e ▸ hc)).trans e
theorem KeptM.of_below {w w' : World} (h : Below w.heap.size w w') : KeptM w w' := fun b hb _ => h.block b hb
theorem KeptM.of_keeps {S : Nat → Prop} {w w' : World} (h : Keeps S w w') (hS : ∀ b, S b → ∃ cs t fr, w.heap[b]? = some (.cells cs t fr) ∧ t ≠ tRow) : KeptM w w' := fun b hb ht => h.block b hb fun hs => by
 obtain ⟨cs, t, fr, h1, h2⟩ := hS b hs
 exact h2 (ht cs t fr h1)
theorem Sl.cellsAt {w : World} {e : TypeId} {sz n cap b : Nat} {A : Option Addr} {xs : List Value} (h : Sl w e sz A n cap xs) (hb : b ∈ fpA A) : ∃ cs fr, w.heap[b]? = some (.cells cs e fr) := by
 rcases h.2.2.2 with ⟨rfl, _⟩ | ⟨g, off, cur, rfl, hg, _⟩
 · simp at hb
 · obtain rfl : b = g := by simpa using hb
   exact ⟨_, _, hg⟩
theorem MN.kept {w w' : World} {mb nb : Nat} {K : List Int} {H : Int → Int} (h : MN w mb nb K H) (hk : KeptM w w') : MN w' mb nb K H := h.frame (hk mb h.lt fun cs t fr hc => absurd rfl (h.ne_cells hc))
theorem RowOk.kept {w w' : World} {x : RowD} (h : RowOk w x) (hk : KeptM w w') : RowOk w' x := ⟨h.1.kept hk, h.2⟩
theorem Sl.kept {w w' : World} {n cap : Nat} {A : Option Addr} {xs : List Value} (h : Sl w tRow 1 A n cap xs) (hk : KeptM w w') : Sl w' tRow 1 A n cap xs := by
 obtain ⟨h1, h2, h3, h4⟩ := h
 refine ⟨h1, h2, h3, ?_⟩
 rcases h4 with h4 | ⟨g, off, cur, rfl, hg, hc⟩
 · exact .inl h4
 · refine .inr ⟨g, off, cur, rfl, ?_, hc⟩
   have hlt : g < w.heap.size := by
    rcases Nat.lt_or_ge g w.heap.size with h | h
    · exact h
    · rw [Array.getElem?_eq_none h] at hg; cases hg
   rw [hk g hlt fun cs t fr hh => by rw [hg] at hh; injection hh with hh; injection hh with _ h2; exact h2.symm]
   exact hg
def rowX (p : Int) (V n : Nat) (x : RowD) : List Int := padR V (rowP p n x.2.2.2.1 x.2.2.2.2.1 x.2.2.2.2.2)
theorem rowX_edR {p : Int} {V n : Nat} {e : Eg} {xs : List RowD} (h : eqE p V n e) (hx : xs.map (fun x => x.2.2.2) = rowsE e) : xs.map (rowX p V n) = edR p V n e := by
 unfold eqE at h
 rw [h, ← hx, List.map_map]
 rfl
theorem endR_unit {p : Int} {V n k : Nat} {w : Int} (hp : 2 ≤ p) (hk : k < V) (h0 : 0 ≤ w) (hw : w < (n : Int)) : (unitV (V + n) k).set (V + w.toNat) (p - 1) = endR p V n k w := by
 rw [← endR_prog hp hk h0 hw]
 congr 1
 apply List.ext_getElem (by simp [unitV])
 intro i h1 h2
 simp only [List.getElem_set, List.getElem_replicate, unitV, List.getElem_map, List.getElem_range]
 by_cases e : i = k
 · rw [if_pos e, if_pos e.symm]
 · rw [if_neg e, if_neg fun h => e h.symm]
theorem rdR_two {w : World} {g : Nat} {x y : Hd} (h : w.heap[g]? = some (.cells #[x.val, y.val] 23)) (hx : RdI w x.1 x.2.2) (hy : RdI w y.1 y.2.2) : RdR w (some ⟨g, 0, none⟩) [x, y] := by
 refine ⟨fun i z hz => ⟨_, rfl, ?_⟩, fun z hz => ?_⟩
 · match i, hz with
   | 0, hz => obtain rfl := Option.some.inj hz; show w.cell? ⟨g, 0, none⟩ = _; simp [World.cell?, h]
   | 1, hz => obtain rfl := Option.some.inj hz; show w.cell? ⟨g, 1, none⟩ = _; simp [World.cell?, h]
 · rcases List.mem_cons.1 hz with rfl | hz
   · exact hx
   · rw [List.mem_singleton.1 hz]; exact hy
set_option maxRecDepth 100000 in
set_option maxHeartbeats 8000000 in
theorem systemOfGraph_any (p : Int) {v : Value} {g : Gr} (w : World) (h : RdGr w v g) (ok : OkG g) (hd : DnOk p g) :
  Calls Tryd.prog 20 #[.int .i64 p, v] w fun e w' => ∃ v' fp, e = .returned v' ∧ OwSys w' v' (sysV p g) fp ∧ FreshL w.heap.size fp ∧ Below w.heap.size w w' := by
 obtain ⟨A, c, hs, ⟨B, b, s⟩, ⟨C, d, t⟩, rfl, e1, e2, e3, hE, hRa, hRb⟩ := id h
 obtain ⟨z, es, s0, t0⟩ := g
 have a1 : es = hs.map egOf := e1
 have a2 : s = s0 := e2
 have a3 : t = t0 := e3
 subst a2 a3
 clear e1 e2 e3 h
 obtain ⟨m, hm⟩ : ∃ m, m = hs.length := ⟨_, rfl⟩
 have hmes : es.length = m := by rw [a1, List.length_map, hm]
 have hm60 : m ≤ 60 := by rw [← hmes]; exact hd.len
 obtain ⟨n, hn⟩ : ∃ n : Nat, z = (n : Int) := ⟨z.toNat, by have := hd.lo; show z = _; have : 0 ≤ z := hd.lo; omega⟩
 subst hn
 have hn100 : n ≤ 100 := by have : (n : Int) ≤ 100 := hd.hi; omega
 obtain ⟨hp2, hp97⟩ := fieldB_bounds hd.fld
 obtain ⟨ends, hends⟩ : ∃ ends, ends = s ++ t := ⟨_, rfl⟩
 obtain ⟨V, hV⟩ : ∃ V, V = ends.length := ⟨_, rfl⟩
 obtain ⟨ls, hls⟩ : ∃ q, q = s.length := ⟨_, rfl⟩
 obtain ⟨lt, hlt⟩ : ∃ q, q = t.length := ⟨_, rfl⟩
 have hV24 : V ≤ 24 := by rw [hV, hends, List.length_append]; have : s.length ≤ 12 := hd.li; have : t.length ≤ 12 := hd.lo'; omega
 have hee : ∀ x, x ∈ ends → 0 ≤ x ∧ x < (n : Int) := by rw [hends]; exact hd.ends
 have hsv : sysV p ((n : Int), es, s, t) = ((V : Int), (n : Int), endTo p V n ends V ++ es.flatMap (edR p V n)) := by
  unfold sysV sysRows
  simp only [← hends, ← hV, Int.toNat_natCast]
 obtain ⟨N, hN⟩ : ∃ N, N = V + n := ⟨_, rfl⟩
 have hNc : (V : Int) + (n : Int) = (N : Int) := by omega
 have hN124 : N ≤ 124 := by omega
 obtain ⟨W, hW, bW, k0, k1⟩ := alloc2 w (.cells #[.int .i64 (n : Int), .slice A m c, .slice B ls b, .slice C lt d] tGr) (.cells #[.int .i64 0, .int .i64 0, .slice none 0 0] tSysG)
 have hWs : W.heap.size = w.heap.size + 1 + 1 := by rw [hW, World.size_alloc, World.size_alloc]
 have b1 := below_alloc W (.cells #[.slice B ls b, .slice C lt d] 23)
 have hJ := joined_any (some ⟨W.heap.size, 0, none⟩) 2 [(B, b, s), (C, d, t)] (W.alloc (.cells #[.slice B ls b, .slice C lt d] 23)) (rdR_two (by rw [hls, hlt]; exact heap_alloc_new _ _) ((hRa.below bW).below b1) ((hRb.below bW).below b1)) (by simp) (by
  have : s.length ≤ 12 := hd.li
  have : t.length ≤ 12 := hd.lo'
  simp
  omega)
 rw [show ([(B, b, s), (C, d, t)].map fun h : Hd => h.2.2).flatten = ends by rw [hends]; simp] at hJ
 have B1 := below_trans bW b1 bW.size
 have k0b := box_below k0 b1
 have k1b := box_below k1 b1
 have hpw : IntKind.i64.wrap (p - 1) = p - 1 := IntWalk.i64_in _ (by omega)
 rw [← hm, ← hls, ← hlt]
 rw [hsv]
 obtain ⟨⟨c0, c1, c2, c3⟩, f0, f1, f2, f3⟩ := box4 k0
 clear k0 k1 b1 hls hlt; have hE_h := lH hE; have hRa_h := lH hRa; have hRb_h := lH hRb; have a1_h := lH a1; have hm_h := lH hm; have hmes_h := lH hmes; have hends_h := lH hends; have hV_h := lH hV; have hee_h := lH hee; have hN_h := lH hN; have hNc_h := lH hNc; have hWs_h := lH hWs; have hJ_h := lH hJ; have bW_h := lH bW; have B1_h := lH B1; have k0b_h := lH k0b; have k1b_h := lH k1b; have hsv_h := lH hsv; have hd_h := lH hd; have ok_h := lH ok; clear hE hRa hRb a1 hm hmes hends hV hee hN hNc hWs hJ bW B1 k0b k1b hsv hd ok
 go_enter Tryd.func20, Tryd.ntmps20
 go_upto_region 1 with (fail)
 rw [← hW]
 clear hW
 go_wp2_with (fail)
 refine (hJ_h.out).mono ?_
 rintro e w2 ⟨Ae, ce, rfl, hI2, hf2, hb2⟩
 rw [← hV_h.out]
 have k0c := box_below k0b_h.out hb2
 have k1c := box_below k1b_h.out hb2
 have B2 := below_trans B1_h.out hb2 B1_h.out.size
 obtain ⟨W3, hW3, b3, k3⟩ := (⟨_, rfl, below_alloc _ _, heap_alloc_new _ _⟩ : ∃ W3, W3 = w2.alloc (.cells #[.int .i64 (V : Int), .int .i64 (n : Int), .slice none 0 0] tSysG) ∧ Below w2.heap.size w2 W3 ∧ W3.heap[w2.heap.size]? = some (.cells #[.int .i64 (V : Int), .int .i64 (n : Int), .slice none 0 0] tSysG))
 have hOM0 : OMx w2 w2.heap.size W3 none 0 [] := OMx.nil b3 (Nat.le_refl _) (box_lt k3)
 clear c0 c1 c2 c3 f0 f1 f2 f3 hf2 b3 hb2
 obtain ⟨⟨c0, c1, c2, c3⟩, f0, f1, f2, f3⟩ := box4 k0c
 have k0c_h := lH k0c; have k1c_h := lH k1c; have B2_h := lH B2; have k3_h := lH k3; have hOM0_h := lH hOM0; have hI2_h := lH hI2; clear k0c k1c B2 k3 hOM0 hI2
 go_upto_region 3 with (fail)
 rw [← hW3]
 clear hW3 c0 c1 c2 c3 f0 f1 f2 f3
 go_wp2_with (fail)
 go_loopw [30] (fun i wr => ∃ (k : Nat) (A1 : Option Addr) (c1 : Nat), k ≤ V ∧ i = .int .i64 (k : Int) ∧ wr.heap[w2.heap.size]? = some (.cells #[.int .i64 (V : Int), .int .i64 (n : Int), .slice A1 k c1] tSysG) ∧ OMx w2 w2.heap.size wr A1 c1 (endTo p V n ends k)) (fun i _ => V - (intOf i).toNat)
 case atStart => exact ⟨0, none, 0, Nat.zero_le _, rfl, k3_h.out, hOM0_h.out⟩
 case round =>
  clear k3_h hOM0_h
  obtain ⟨k, A1, c1, hk, rfl, kx, hOM⟩ := hrel
  obtain ⟨wo, rfl⟩ : ∃ x, x = wr := ⟨_, rfl⟩
  by_cases hlt : k < V
  · have hkl : k < ends.length := by rw [← hV_h.out]; exact hlt
    obtain ⟨x, hx⟩ : ∃ x, ends[k]? = some x := ⟨_, List.getElem?_eq_getElem hkl⟩
    have hxg : ends.getD k 0 = x := by rw [List.getD_eq_getElem?_getD, hx]; rfl
    obtain ⟨hx0, hxn⟩ := hee_h.out x (List.mem_of_getElem? hx)
    obtain ⟨xx, rfl⟩ : ∃ xx : Nat, x = (xx : Int) := ⟨x.toNat, by omega⟩
    obtain ⟨ad, rfl, p1⟩ := (hI2_h.out.below hOM.below_).rd k (xx : Int) hx
    have hkI : (k : Int) < (V : Int) := by omega
    have hsz := size_any (V : Int) (n : Int) (.slice A1 k c1) wo (by omega) (by omega)
    rw [hNc_h.out] at hsz
    have hun := unit_any N k (wo.alloc (.cells #[.int .i64 (V : Int), .int .i64 (n : Int), .slice A1 k c1] 29)) (by omega) (by have := hN_h.out; omega)
    have bs := below_alloc wo (.cells #[.int .i64 (V : Int), .int .i64 (n : Int), .slice A1 k c1] 29)
    obtain ⟨⟨x0, x1, x2⟩, x3, x4, x5⟩ := box3 kx
    clear hkl hx0; have kx_h := lH kx; have hOM_h := lH hOM; have hx_h := lH hx; have hxg_h := lH hxg; have hxn_h := lH hxn; have hsz_h := lH hsz; have hun_h := lH hun; have bs_h := lH bs; clear kx hOM hx hxg hxn hsz hun bs
    go_wp2_with (fail)
    refine (hsz_h.out).mono ?_
    rintro e ws ⟨rfl, rfl⟩
    go_wp2_with (fail)
    refine (hun_h.out).mono ?_
    rintro e w5 ⟨Ar, cr, rfl, hir, hfr, hbr⟩
    rw [unitV_length]
    obtain ⟨ar, y, rfl, hy, _, hcr, hfz⟩ := hir.at_ (j := V + xx) (by rw [unitV_length]; have := hN_h.out; have := hxn_h.out; omega)
    have hfz1 := hfz (V + xx)
    have hxnv : xx < n := by have := hxn_h.out; omega
    have hJ1 : (V : Int) + (xx : Int) < (N : Int) := by have := hN_h.out; omega
    have hI6 := hir.set rfl (j := V + xx) (p - 1) (by rw [unitV_length]; have := hN_h.out; omega)
    have hk6 : Keeps (· = ar.block) w5 (w5.setCell (ar.add (V + xx)) (.int .i64 (p - 1))) := (Keeps.refl (· = ar.block) w5).setCell (p := ar.add (V + xx)) (by rw [block_of_add]) _
    have heu := endR_unit (w := (xx : Int)) hp2 hlt (by omega) hxn_h.out
    rw [Int.toNat_natCast, ← hN_h.out] at heu
    rw [heu] at hI6
    obtain ⟨w6, hw6⟩ : ∃ w6, w6 = w5.setCell (ar.add (V + xx)) (.int .i64 (p - 1)) := ⟨_, rfl⟩
    rw [← hw6] at hI6 hk6
    have hfa : (wo.alloc (.cells #[.int .i64 (V : Int), .int .i64 (n : Int), .slice A1 k c1] 29)).heap.size ≤ ar.block := hfr ar.block (by simp)
    have hzs := bs_h.out.size
    have hb5 := below_trans bs_h.out hbr hzs
    have hb6 := below_keeps hb5 hk6 hb5.size (fun q hq => by omega)
    have hbl := box_lt kx_h.out
    have hpu := hOM_h.out.push (endTo_len p V n ends k) kx_h.out hb6 hI6 (N := N) (by rw [endR_len]; exact hN_h.out.symm) (fun q hq => by simp at hq; omega)
    obtain ⟨vs, hslv, hbx2, hfin⟩ := hpu
    have kx5 := box_below kx_h.out hb5
    obtain ⟨⟨t0, t1, t2⟩, t3, t4, t5⟩ := box3 kx5
    have kx6 := box_below kx_h.out hb6
    obtain ⟨⟨y0, y1, y2⟩, y3, y4, y5⟩ := box3 kx6
    obtain ⟨⟨z0, z1, z2⟩, z3, z4, z5⟩ := box3 hbx2
    have hvl : vs.length = k := by have := hslv.1; omega
    clear hir hfr hbr hy hfz hI6 hk6 heu hb5 hb6 hfa hzs x0 x1 x2 x3 x4 x5 p1; have hslv_h := lH hslv; have hbx2_h := lH hbx2; have hfin_h := lH hfin; have kx6_h := lH kx6; have hvl_h := lH hvl; have hbl_h := lH hbl; have kx5_h := lH kx5; have hw6_h := lH hw6; clear hslv hbx2 hfin kx6 hvl hbl kx5 hw6
    go_upto_region 8 with (fail)
    rw [← hw6_h.out]
    clear hw6_h
    go_wp2_with (at_builtin; refine wpList_append_Sl _ rfl _ _ _ rfl 23 Tryd.underlying27 info_ints rfl (by omega) rfl hslv_h.out rfl (news := [.slice (some ar) N cr]) rfl (Sl.rdc (Sl.laid w6 23 1 1 #[.slice (some ar) N cr] (by unfold maxLen; omega) rfl)) (by intro u hu; simp at hu; subst hu; rfl) (by unfold maxLen; omega) (by omega) ?_; intro A7 c7 w7 hs7 hA7 hk7; obtain ⟨hbx7, hOM7, hbx8⟩ := hfin_h.out A7 c7 w7 hs7 hA7 hk7; obtain ⟨⟨u0, u1, u2⟩, u3, u4, u5⟩ := box3 hbx7)
    have hes : endTo p V n ends (k + 1) = endTo p V n ends k ++ [endR p V n k (xx : Int)] := by rw [endTo_succ, hxg_h.out]
    rw [← hes] at hOM7
    clear hs7 hA7 hk7 hbx7 hes u0 u1 u2 u3 u4 u5; have hOM7_h := lH hOM7; have hbx8_h := lH hbx8; clear hOM7 hbx8
    go_wp2_with (fail)
    go_roundw
    case rel => exact ⟨k + 1, A7, c7, by omega, by go_num, hbx8_h.out, hOM7_h.out⟩
    case measure => simp [intOf]; omega
  · obtain rfl : V = k := by omega
    have k0d := box_below k0c_h.out hOM.below_
    obtain ⟨⟨x0, x1, x2, x3⟩, x4, x5, x6, x7⟩ := box4 k0d
    have hl0 := endTo_len p V n ends V
    clear hk hlt k0d; have kx_h := lH kx; have hOM_h := lH hOM; have hl0_h := lH hl0; clear kx hOM hl0
    go_wp2_with (fail)
    go_loopw [57] (fun i wr => ∃ (k q : Nat) (A2 : Option Addr) (c2 : Nat), k ≤ m ∧ i = .int .i64 (k : Int) ∧ q ≤ V + 2 * k ∧ (endTo p V n ends V ++ (es.take k).flatMap (edR p V n)).length = q ∧ wr.heap[w2.heap.size]? = some (.cells #[.int .i64 (V : Int), .int .i64 (n : Int), .slice A2 q c2] tSysG) ∧ OMx w2 w2.heap.size wr A2 c2 (endTo p V n ends V ++ (es.take k).flatMap (edR p V n))) (fun i _ => m - (intOf i).toNat)
    case atStart => exact ⟨0, V, A1, c1, Nat.zero_le _, rfl, by omega, by simpa using hl0_h.out, kx_h.out, by simpa using hOM_h.out⟩
    case round =>
     clear kx_h hOM_h hl0_h x0 x1 x2 x3 x4 x5 x6 x7
     obtain ⟨k, q, A2, c2, hk, rfl, hq2, hql, kx, hOM⟩ := hrel
     obtain ⟨wo2, rfl⟩ : ∃ x, x = wr := ⟨_, rfl⟩
     have hwr := below_trans B2_h.out hOM.below_ B2_h.out.size
     by_cases hlt : k < m
     · obtain ⟨ad2, κ, vv, B1, b1, s1, C1, b2, t1, rfl, hnn, ⟨d0, d1, d2, d3⟩, hr1, hr2⟩ := (hE_h.out.below hwr).at_ (j := k) (by rw [← hm_h.out]; exact hlt)
       have hek : es[k]? = some (κ, vv, s1, t1) := by rw [a1_h.out, List.getElem?_map, hnn]; rfl
       obtain ⟨hk314, hty, hxx, hv0, hvp, -, -⟩ := hd_h.out.edge _ (List.mem_of_getElem? hek)
       have hkI : (k : Int) < (m : Int) := by omega
       have hxx' : ∀ x, x ∈ s1 ++ t1 → 0 ≤ x ∧ x < (n : Int) := hxx
       have hEdl : (edR p V n (κ, vv, s1, t1)).length ≤ 2 := by unfold edR; rw [List.length_map]; exact dnRowsM_len _ _ _
       have htk : (es.take (k + 1)).flatMap (edR p V n) = (es.take k).flatMap (edR p V n) ++ edR p V n (κ, vv, s1, t1) := by rw [List.take_add_one, hek, List.flatMap_append]; simp
       obtain ⟨w3, hw3, b3, k3⟩ := (⟨_, rfl, below_alloc _ _, heap_alloc_new _ _⟩ : ∃ w3, w3 = wo2.alloc (.cells #[.int .i64 κ, .int .i64 vv, .slice B1 s1.length b1, .slice C1 t1.length b2] tEd) ∧ Below wo2.heap.size wo2 w3 ∧ w3.heap[wo2.heap.size]? = some (.cells #[.int .i64 κ, .int .i64 vv, .slice B1 s1.length b1, .slice C1 t1.length b2] tEd))
       obtain ⟨hEc, hEq, hEo⟩ := eg_any (p := p) (V := V) (n := n) B1 C1 b1 b2 w3 (hr1.below b3) (hr2.below b3) hk314 hty ⟨hv0, by omega⟩ (fun x hx => by have := hxx' x hx; omega)
       obtain ⟨p1, hp1⟩ : ∃ p1, p1 = s1.length := ⟨_, rfl⟩
       obtain ⟨r1, hr1'⟩ : ∃ r1, r1 = t1.length := ⟨_, rfl⟩
       rw [← hp1, ← hr1'] at hEc k3 hw3
       rw [← hp1] at d2
       rw [← hr1'] at d3
       obtain ⟨⟨y0, y1, y2, y3⟩, y4, y5, y6, y7⟩ := box4 k3
       clear hxx hr1 hr2 hnn hty hk314 hv0 hvp; have kx_h := lH kx; have hOM_h := lH hOM; have hwr_h := lH hwr; have hek_h := lH hek; have hxx'_h := lH hxx'; have hEdl_h := lH hEdl; have htk_h := lH htk; have b3_h := lH b3; have k3_h := lH k3; have hEc_h := lH hEc; have hEq_h := lH hEq; have hEo_h := lH hEo; have hp1_h := lH hp1; have hr1'_h := lH hr1'; have hql_h := lH hql; clear kx hOM hwr hek hxx' hEdl htk b3 k3 hEc hEq hEo hp1 hr1' hql
       go_upto_region 13 with (fail)
       rw [← hw3]
       clear hw3
       go_wp2_with (fail)
       refine (hEc_h.out).mono ?_
       rintro e w4 ⟨G, nr, cg, xs, rfl, hxl, hSl, hok4, hmap, hb4⟩
       have hOM4 := (hOM_h.out.below b3_h.out).below hb4
       have kx4 := box_below (box_below kx_h.out b3_h.out) hb4
       have hXe := rowX_edR hEq_h.out hmap
       have hnr2 : nr ≤ 2 := by have := hEdl_h.out; rw [← hXe, List.length_map] at this; omega
       clear y0 y1 y2 y3 y4 y5 y6 y7 d0 d1 d2 d3
       obtain ⟨Lk, hLk⟩ : ∃ Lk, Lk = endTo p V n ends V ++ (es.take k).flatMap (edR p V n) := ⟨_, rfl⟩
       rw [← hLk] at hOM4
       have hql' := hql_h.out
       rw [← hLk] at hql'
       have hLk1 : endTo p V n ends V ++ (es.take (k + 1)).flatMap (edR p V n) = Lk ++ xs.map (rowX p V n) := by rw [htk_h.out, hLk, hXe, List.append_assoc]
       have hz34 := b3_h.out.size
       have hz4 := hb4.size
       have hxl_h := lH hxl; have hSl_h := lH hSl; have hok4_h := lH hok4; have hmap_h := lH hmap; have hb4_h := lH hb4; have hOM4_h := lH hOM4; have kx4_h := lH kx4; have hXe_h := lH hXe; have hLk_h := lH hLk; have hql'_h := lH hql'; have hLk1_h := lH hLk1; have hz34_h := lH hz34; have hz4_h := lH hz4; clear hxl hSl hok4 hmap hb4 hOM4 kx4 hXe hLk hql' hLk1 hz34 hz4
       go_wp2_with (fail)
       go_loopw [64] (fun i wr => ∃ (j q2 : Nat) (A3 : Option Addr) (c3 : Nat), j ≤ nr ∧ i = .int .i64 (j : Int) ∧ q2 = q + j ∧ wr.heap[w2.heap.size]? = some (.cells #[.int .i64 (V : Int), .int .i64 (n : Int), .slice A3 q2 c3] tSysG) ∧ OMx w2 w2.heap.size wr A3 c3 (Lk ++ (xs.take j).map (rowX p V n)) ∧ KeptM w4 wr ∧ w4.heap.size ≤ wr.heap.size) (fun i _ => nr - (intOf i).toNat)
       case atStart => exact ⟨0, q, A2, c2, Nat.zero_le _, rfl, rfl, kx4_h.out, by simpa using hOM4_h.out, KeptM.refl _, Nat.le_refl _⟩
       case round =>
        clear kx4_h hOM4_h
        obtain ⟨j, q2, A3, c3, hj, rfl, hq2e, kx5, hOM5, hKM, hKz⟩ := hrel
        obtain ⟨wj, rfl⟩ : ∃ x, x = wr := ⟨_, rfl⟩
        by_cases hjlt : j < nr
        · obtain ⟨x, hx⟩ : ∃ x, xs[j]? = some x := ⟨_, List.getElem?_eq_getElem (by rw [hxl_h.out]; exact hjlt)⟩
          have hxm := List.mem_of_getElem? hx
          have hxs : (xs.take (j + 1)).map (rowX p V n) = (xs.take j).map (rowX p V n) ++ [rowX p V n x] := by rw [List.take_add_one, hx, List.map_append]; rfl
          obtain ⟨hM, hKq⟩ := (hok4_h.out x hxm).kept hKM
          obtain ⟨hd1, ⟨hd2, hd3⟩, hd4, hd5⟩ := hEo_h.out x.2.2.2 (by rw [← hmap_h.out]; exact List.mem_map_of_mem hxm)
          have hKr : ∀ z, z ∈ x.2.2.1 → 0 ≤ z ∧ z < (n : Int) := fun z hz => by
           rcases (hKq z).1 hz with e | e
           · rw [e]; exact hxx'_h.out _ hd4
           · exact hxx'_h.out _ (hd5 z e)
          obtain ⟨ga, rfl, _, gc, -⟩ := (hSl_h.out.kept hKM).cell (j := j) (u := .map (some x.1)) (by rw [List.getElem?_map, hx]; rfl)
          have hjI : (j : Int) < (nr : Int) := by omega
          have hsz := size_any (V : Int) (n : Int) (.slice A3 q2 c3) wj (by omega) (by omega)
          rw [hNc_h.out] at hsz
          have hzz := zeros_any N (wj.alloc (.cells #[.int .i64 (V : Int), .int .i64 (n : Int), .slice A3 q2 c3] 29)) (by omega)
          have bs := below_alloc wj (.cells #[.int .i64 (V : Int), .int .i64 (n : Int), .slice A3 q2 c3] 29)
          have hLl : (Lk ++ (xs.take j).map (rowX p V n)).length = q2 := by rw [List.length_append, hql'_h.out, List.length_map, List.length_take, hq2e]; have := hxl_h.out; omega
          have hq2b : q2 ≤ 200 := by omega
          obtain ⟨mb, nb, K, one, oth, bb⟩ := x
          obtain ⟨⟨x0, x1, x2⟩, x3, x4, x5⟩ := box3 kx5
          clear hxm hd4 hd5; have hx_h := lH hx; have hxs_h := lH hxs; have hM_h := lH hM; have hKq_h := lH hKq; have hd1_h := lH hd1; have hKr_h := lH hKr; have hsz_h := lH hsz; have hzz_h := lH hzz; have bs_h := lH bs; have hLl_h := lH hLl; have kx5_h := lH kx5; have hOM5_h := lH hOM5; have hKM_h := lH hKM; have hKz_h := lH hKz; have hq2e_h := lH hq2e; clear hx hxs hM hKq hd1 hKr hsz hzz bs hLl kx5 hOM5 hKM hKz hq2e
          go_wp2_with (fail)
          refine (hsz_h.out).mono ?_
          rintro e ws ⟨rfl, rfl⟩
          go_wp2_with (fail)
          refine (hzz_h.out).mono ?_
          rintro e w5 ⟨Ar, cr, rfl, hir, hfr, hbr⟩
          rw [List.length_replicate]
          have bj := below_trans bs_h.out hbr bs_h.out.size
          have hM5 := hM_h.out.below bj
          have hfA : ∀ b, b ∈ fpA Ar → wj.heap.size ≤ b := fun b hb => Nat.le_trans bs_h.out.size (hfr b hb)
          have hlA := hir.lt
          have hmA : ∀ b, b ∈ fpA Ar → mb ≠ b := fun b hb => hM5.ne_sl hir hb
          clear hbr hfr x0 x1 x2 x3 x4 x5; have bj_h := lH bj; have hM5_h := lH hM5; have hfA_h := lH hfA; have hlA_h := lH hlA; have hmA_h := lH hmA; have hir_h := lH hir; clear bj hM5 hfA hlA hmA hir
          go_wp2_with (at_range; refine wp_mn_range rfl _ rfl rfl hM5_h.out ?_; intro w6 cnt6 hR6 hb6 hz6)
          have hI6 : IS w6 Ar cr (ranR p V n K (coefP one oth bb) (fun x => decide (x ∈ K))) := by
           rw [ranR_start (fun x hx => decide_eq_true hx), ← hN_h.out]
           exact hir_h.out.below hb6
          have hB6 := below_trans bj_h.out hb6 bj_h.out.size
          clear hb6 hz6; have hR6_h := lH hR6; have hI6_h := lH hI6; have hB6_h := lH hB6; clear hR6 hI6 hB6
          go_frame
          go_loopw [73] (fun (_ : Value) wr => ∃ (L : Int → Bool) (cnt : Nat), RN wr mb w5.heap.size nb K (coefP one oth bb) L cnt ∧ IS wr Ar cr (ranR p V n K (coefP one oth bb) L) ∧ Below wj.heap.size wj wr) (fun _ wr => wr.rangeLeft mb w5.heap.size)
          case atStart => exact ⟨_, _, hR6_h.out, hI6_h.out, hB6_h.out⟩
          case round =>
           clear hR6_h hI6_h hB6_h
           obtain ⟨L, cnt, hR, hI, hB⟩ := hrel
           obtain ⟨wi, rfl⟩ : ∃ x, x = wr := ⟨_, rfl⟩
           have hR_h := lH hR; have hI_h := lH hI; have hB_h := lH hB; clear hR hI hB
           go_wp2_with (at_next; refine wp_rn_next rfl _ rfl rfl hR_h.out ?_ ?_)
           · intro _ hL0
             have hIe := hI_h.out
             rw [ranR_end hKq_h.out hL0] at hIe
             have hbl := box_lt kx5_h.out
             obtain ⟨vs, hslv, hbx2, hfin⟩ := hOM5_h.out.push hLl_h.out kx5_h.out hB_h.out hIe (N := N) (by rw [padR_len, show (rowP p n one oth bb).length = n by simp [rowP]]; exact hN_h.out.symm) hfA_h.out
             have kxi := box_below kx5_h.out hB_h.out
             obtain ⟨⟨y0, y1, y2⟩, y3, y4, y5⟩ := box3 kxi
             obtain ⟨⟨z0, z1, z2⟩, z3, z4, z5⟩ := box3 hbx2
             have hKa := (hKM_h.out.trans hKz_h.out (KeptM.of_below hB_h.out)).trans (Nat.le_trans hKz_h.out hB_h.out.size) (KeptM.of_below (below_alloc wi (.cells #[.slice Ar N cr] 23)))
             have hza : w4.heap.size ≤ (wi.alloc (.cells #[.slice Ar N cr] 23)).heap.size := by rw [World.size_alloc]; have := hKz_h.out; have := hB_h.out.size; omega
             clear hIe hL0; have hslv_h := lH hslv; have hbx2_h := lH hbx2; have hfin_h := lH hfin; have kxi_h := lH kxi; have hbl_h := lH hbl; have hKa_h := lH hKa; have hza_h := lH hza; clear hslv hbx2 hfin kxi hbl hKa hza
             go_wp2_with (at_builtin; refine wpList_append_Sl _ rfl _ _ _ rfl 23 Tryd.underlying27 info_ints rfl (by omega) rfl hslv_h.out rfl (news := [.slice Ar N cr]) rfl (Sl.rdc (Sl.laid wi 23 1 1 #[.slice Ar N cr] (by unfold maxLen; omega) rfl)) (by intro u hu; simp at hu; subst hu; rfl) (by unfold maxLen; omega) (by omega) ?_; intro A7 c7 w7 hs7 hA7 hk7; obtain ⟨hbx7, hOM7, hbx8⟩ := hfin_h.out A7 c7 w7 hs7 hA7 hk7; obtain ⟨⟨u0, u1, u2⟩, u3, u4, u5⟩ := box3 hbx7)
             have hKb := hKa_h.out.trans hza_h.out (KeptM.of_keeps hk7 fun b hb => by
              obtain ⟨cs, fr, hc⟩ := Sl.cellsAt hslv_h.out hb
              exact ⟨cs, _, fr, hc, by decide⟩)
             have hKc := hKb.trans (Nat.le_trans hza_h.out hk7.size) (KeptM.of_keeps (set_g2 (b := .slice A7 (q2 + 1) c7) hbx7).2 fun b hb => ⟨_, _, _, hb ▸ hbx7, by decide⟩)
             have hzc := Nat.le_trans (Nat.le_trans hza_h.out hk7.size) (set_g2 (b := .slice A7 (q2 + 1) c7) hbx7).2.size
             have hxs' := hxs_h.out
             have hOM8 : OMx w2 w2.heap.size (w7.setCell ⟨w2.heap.size, 2, none⟩ (.slice A7 (q2 + 1) c7)) A7 c7 (Lk ++ (xs.take (j + 1)).map (rowX p V n)) := by
              rw [hxs', ← List.append_assoc]
              exact hOM7
             clear hs7 hA7 hk7 hbx7 u0 u1 u2 u3 u4 u5 hKb hOM7 hxs'; have hOM8_h := lH hOM8; have hbx8_h := lH hbx8; have hKc_h := lH hKc; have hzc_h := lH hzc; clear hOM8 hbx8 hKc hzc
             go_wp2_with (fail)
             go_roundw
             case rel => exact ⟨j + 1, q2 + 1, A7, c7, by omega, by go_num, by have := hq2e_h.out; omega, hbx8_h.out, hOM8_h.out, hKc_h.out, hzc_h.out⟩
             case measure => simp [intOf]; omega
           · intro x w8 cnt' hxm hLx hwf hR8 hlt8 hk8 hz8 hen
             obtain ⟨hx0, hxn⟩ := hKr_h.out x hxm
             obtain ⟨xx, rfl⟩ : ∃ xx : Nat, x = (xx : Int) := ⟨x.toNat, by omega⟩
             have hxnv : xx < n := by omega
             obtain ⟨hyl, hyh⟩ := coefP_le (one := one) (z := (xx : Int)) hd1_h.out ⟨hd2, hd3⟩
             have hst := ranR_step (p := p) (V := V) (H := coefP one oth bb) (L := L) hxm hx0 hxn
             obtain ⟨y, hy⟩ : ∃ y, coefP one oth bb (xx : Int) = y := ⟨_, rfl⟩
             rw [hy] at hen hyl hyh hst ⊢
             have hI8 := hI_h.out.keeps hk8 (fun b hb e => by have := hlA_h.out b hb; omega)
             have hbl := box_lt kx5_h.out
             have hjs := bj_h.out.size
             have hws := hB_h.out.size
             have kx8 := box_keeps (box_below kx5_h.out hB_h.out) hk8 (by omega)
             have hB8 := below_keeps hB_h.out hk8 hB_h.out.size (fun b hb => by omega)
             clear hk8 hLx; have hR8_h := lH hR8; have hI8_h := lH hI8; have kx8_h := lH kx8; have hB8_h := lH hB8; have hy_h := lH hy; have hst_h := lH hst; have hxm_h := lH hxm; clear hR8 hI8 kx8 hB8 hy hst hxm
             go_wp2_with (fail)
             refine beginH (fun w' => w'.heap[w2.heap.size]? = some (.cells #[.int .i64 (V : Int), .int .i64 (n : Int), .slice A3 q2 c3] tSysG)) (by kernel_rfl) ?_
             have hbd : Below w8.heap.size w8 w8.drew := below_drewN (Below.refl _ _) 1
             generalize w8.drew = w9 at hbd ⊢
             have kx9 := box_below kx8_h.out hbd
             have hR9 := hR8_h.out.below hbd
             have hI9 := hI8_h.out.below hbd
             have hB9 := below_trans hB8_h.out hbd hB8_h.out.size
             obtain ⟨ar, y0, rfl, hy0, _, hcr, hfz⟩ := hI9.at_ (j := V + xx) (by rw [ranR_len]; omega)
             have hfz1 := hfz (V + xx)
             have hJ1 : (V : Int) + (xx : Int) < (N : Int) := by have := hN_h.out; omega
             have hwr : IntKind.i64.wrap ((V : Int) + (xx : Int)) = (V : Int) + (xx : Int) := IntWalk.i64_in _ (by omega)
             have hI10 := hI9.set rfl (j := V + xx) (y % p) (by rw [ranR_len]; omega)
             have hk10 : Keeps (· = ar.block) w9 (w9.setCell (ar.add (V + xx)) (.int .i64 (y % p))) := (Keeps.refl (· = ar.block) w9).setCell (p := ar.add (V + xx)) (by rw [block_of_add]) _
             have hst' := hst_h.out
             rw [Int.toNat_natCast] at hst'
             rw [← hst'] at hI10
             have hfa := hfA_h.out ar.block (by simp)
             have hla := hlA_h.out ar.block (by simp)
             have hma := hmA_h.out ar.block (by simp)
             have hR10 := hR9.keeps hk10 hma (by omega)
             have hB10 := below_keeps hB9 hk10 hB9.size (fun b hb => by omega)
             have hnb : w2.heap.size ≠ ar.block := fun e => by
              have := IS.lt hI9
              rcases hI9.2.2.2 with ⟨e1, _⟩ | ⟨g1, o1, cu, e1, hg1, _⟩
              · cases e1
              · obtain rfl := Option.some.inj e1
                rw [e] at kx9
                rw [kx9] at hg1
                injection hg1 with hg1
                injection hg1 with _ h2
                exact absurd h2 (by decide)
             have kx10 := box_keeps kx9 hk10 hnb
             have hmd := mod_any p y w9 (by omega) hp97 (by omega) (by omega)
             clear hbd hB9 hI9 hR9 hfz hy0 hk10 hst' hfa hla hma; have kx9_h := lH kx9; have hI10_h := lH hI10; have hR10_h := lH hR10; have hB10_h := lH hB10; have kx10_h := lH kx10; have hmd_h := lH hmd; have hnb_h := lH hnb; clear kx9 hI10 hR10 hB10 kx10 hmd hnb
             refine tkH 0 ?_ rfl kx9_h.out (fun W' hW' => ?_) ?_; rotate_left; · (obtain ⟨⟨v0, v1, v2⟩, v3, v4, v5⟩ := box3 hW'; have hwr' := hwr; clear hW'; go_simp; first | done | with_reducible rfl)
             simp only [Act.put, nS]
             refine tkH 1 ?_ rfl kx9_h.out (fun W' hW' => ?_) ?_; rotate_left; · (obtain ⟨⟨v0, v1, v2⟩, v3, v4, v5⟩ := box3 hW'; have hwr' := hwr; clear hW'; go_simp; first | done | with_reducible rfl)
             simp only [Act.put, nS]
             refine tkH 2 ?_ rfl kx9_h.out (fun W' hW' => ?_) ?_; rotate_left; · (obtain ⟨⟨v0, v1, v2⟩, v3, v4, v5⟩ := box3 hW'; have hwr' := hwr; clear hW'; go_simp; first | done | with_reducible rfl)
             simp only [Act.put, nS]
             refine tkH 3 ?_ rfl kx9_h.out (fun W' hW' => ?_) ?_; rotate_left; · (obtain ⟨⟨v0, v1, v2⟩, v3, v4, v5⟩ := box3 hW'; have hwr' := hwr; clear hW'; go_simp; first | done | with_reducible rfl)
             simp only [Act.put, nS]
             refine tkH 4 ?_ rfl kx9_h.out (fun W' hW' => ?_) ?_; rotate_left; · (obtain ⟨⟨v0, v1, v2⟩, v3, v4, v5⟩ := box3 hW'; have hwr' := hwr; clear hW'; go_simp; first | done | with_reducible rfl)
             simp only [Act.put, nS]
             refine tkH 5 ?_ rfl kx9_h.out (fun W' hW' => ?_) ?_; rotate_left; · (obtain ⟨⟨v0, v1, v2⟩, v3, v4, v5⟩ := box3 hW'; have hwr' := hwr; clear hW'; go_simp; first | done | with_reducible rfl)
             simp only [Act.put, nS]
             refine tkH 6 ?_ rfl kx9_h.out (fun W' hW' => ?_) ?_; rotate_left; · (obtain ⟨⟨v0, v1, v2⟩, v3, v4, v5⟩ := box3 hW'; have hwr' := hwr; clear hW'; go_simp; first | done | with_reducible rfl)
             simp only [Act.put, nS]
             refine' callH 7 (f := _) (args := _) rfl (by kernel_rfl) (by rfl) ?_ ?_; rotate_left 2; · (go_simp; first | done | with_reducible rfl | (constructor <;> with_reducible rfl))
             refine (hmd_h.out).mono ?_
             rintro e w10 ⟨rfl, rfl⟩
             refine ⟨_, rfl, kx9_h.out, ?_⟩
             simp only [Act.put, nS]
             refine tkH 8 ?_ rfl kx9_h.out (fun W' hW' => ?_) ?_; rotate_left; · (have hj0 : (0 : Int) ≤ (V : Int) + (xx : Int) := (by omega); have hj1 : ((V : Int) + (xx : Int)).toNat = V + xx := (by omega); have hj2 : ¬ ((V : Int) + (xx : Int) < 0) := (by omega); clear hW'; go_simp; first | done | with_reducible rfl)
             simp only [Act.put, nS]
             refine oneH 9 rfl (by kernel_rfl) (by rfl) (fun K hK => ?_)
             go_simp
             refine hK _ _ kx10_h.out ?_
             clear hK K
             refine doneH (by kernel_rfl) ?_
             go_wp2_with (fail)
             go_roundw
             case rel => exact ⟨_, cnt', hR10_h.out, hI10_h.out, hB10_h.out⟩
             case measure => rw [hR10_h.out.left_eq, hR_h.out.left_eq]; exact hlt8
        · obtain rfl : nr = j := by omega
          have hall : xs.take nr = xs := List.take_of_length_le (by rw [hxl_h.out]; exact Nat.le_refl _)
          rw [hall, ← hLk1_h.out] at hOM5
          have hq3 : (endTo p V n ends V ++ (es.take (k + 1)).flatMap (edR p V n)).length = q2 := by rw [hLk1_h.out, List.length_append, hql'_h.out, List.length_map, hxl_h.out, hq2e]
          clear hall hKM; have kx5_h := lH kx5; have hOM5_h := lH hOM5; have hq3_h := lH hq3; have hq2e_h := lH hq2e; clear kx5 hOM5 hq3 hq2e
          go_wp2_with (fail)
          go_roundw
          case rel => exact ⟨k + 1, q2, A3, c3, by omega, by go_num, by have := hq2e_h.out; omega, hq3_h.out, kx5_h.out, hOM5_h.out⟩
          case measure => simp [intOf]; omega
     · obtain rfl : m = k := by omega
       have hall : es.take m = es := List.take_of_length_le (by rw [hmes_h.out]; exact Nat.le_refl _)
       rw [hall] at hOM hql
       have k1d := box_below k1c_h.out hOM.below_
       obtain ⟨⟨x0, x1, x2⟩, x3, x4, x5⟩ := box3 kx
       obtain ⟨⟨y0, y1, y2⟩, y3, y4, y5⟩ := box3 k1d
       obtain ⟨s1', s2'⟩ := set3 (a := .int .i64 (V : Int)) (b := .int .i64 (n : Int)) (c := .slice A2 q c2) k1d
       have hz2 := B2_h.out.size
       have hk1l := box_lt k1c_h.out
       obtain ⟨fp, hO, hf⟩ := OwSys.of_ret (a := (V : Int)) (b := (n : Int)) hOM.om s2' (fun z hz => by omega) hql
       have hB3 := below_keeps hwr s2' hwr.size (fun z hz => by omega)
       have hf2 : FreshL w.heap.size fp := hf.mono hz2
       clear s2' hf hall k1d; have hql_h := lH hql; have kx_h := lH kx; have hOM_h := lH hOM; have hwr_h := lH hwr; have s1'_h := lH s1'; have hO_h := lH hO; have hB3_h := lH hB3; have hf2_h := lH hf2; clear hql kx hOM hwr s1' hO hB3 hf2
       go_wp2_with (fail)
       refine bodyPost_ret (results_cell_row rfl _ _ (w.heap.size + 1) _ _ (0, 0) _ rfl s1'_h.out Tryd.underlying29 rfl (by kernel_rfl)) rfl ?_
       exact ⟨_, fp, rfl, hO_h.out, hf2_h.out, hB3_h.out⟩
end Go.Proofs.YtpkmjenoniedjaaDoor
