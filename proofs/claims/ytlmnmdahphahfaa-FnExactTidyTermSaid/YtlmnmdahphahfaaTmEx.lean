/-
  THE WALK: WidthOf of the program.
-/
import Derived.Test.YtlmnmdahphahfaaTmAs
import Derived.Test.YtlmnmdahphahfaaRegB
namespace Go.Proofs.Ytlmnmdahphahfaa
open Go.RowKit

theorem mx_left {a b : Int} (h : b ≤ a) : mx a b = a := by unfold mx; split <;> omega
theorem mx_right {a b : Int} (h : a ≤ b) : mx a b = b := by unfold mx; split <;> omega
abbrev tExt : TypeId := 63
/-- What extentOf answers. -/
def ExA (t : Tr) (w : World) (e : Ending) (w' : World) : Prop := e = .returned (.agg #[.int .i64 (wid t).1, .int .i64 (wid t).2]) ∧ Below w.heap.size w w'

set_option maxRecDepth 8000 in
set_option maxHeartbeats 4000000 in
theorem extentOf_seq (a b : Tr) (w : World) (hIa : ∀ w, Calls Try.prog 50 #[trV a] w (ExA a w)) (hIb : ∀ w, Calls Try.prog 50 #[trV b] w (ExA b w))
    (ha : 0 ≤ (wid a).1 ∧ (wid a).1 ≤ 4800 ∧ 0 ≤ (wid a).2 ∧ (wid a).2 ≤ 400) (hb : 0 ≤ (wid b).1 ∧ (wid b).1 ≤ 4800 ∧ 0 ≤ (wid b).2 ∧ (wid b).2 ≤ 400) :
    Calls Try.prog 50 #[trV (.node false a b)] w (ExA (.node false a b) w) := by
  have e1 : trV (.node false a b) = .iface tSeqT (.agg #[trV a, trV b]) := rfl
  obtain ⟨Z, hZ⟩ : ∃ Z, Z = wid (.node false a b) := ⟨_, rfl⟩
  unfold ExA at hIa hIb ⊢
  obtain ⟨X, hX⟩ : ∃ X, X = wid a := ⟨_, rfl⟩
  obtain ⟨Y, hY⟩ : ∃ Y, Y = wid b := ⟨_, rfl⟩
  have hZe : Z = (mx X.1 Y.1, X.2 + Y.2) := by rw [hZ, hX, hY]; rfl
  rw [← hX] at hIa ha
  rw [← hY] at hIb hb
  rw [← hZ, e1]
  obtain ⟨ta, pa, hva⟩ := trV_iface a
  obtain ⟨tb, pb, hvb⟩ := trV_iface b
  rw [hva] at hIa
  rw [hvb] at hIb
  rw [hva, hvb]
  have q1 : X.1 + Y.1 ≤ 10000 := by omega
  have q2 : X.2 + Y.2 ≤ 10000 := by omega
  have q3 : 0 ≤ X.1 + Y.1 := by omega
  have q4 : 0 ≤ X.2 + Y.2 := by omega
  obtain ⟨W, hW⟩ : ∃ W, W = (w.alloc (.cells #[.int .i64 0, .int .i64 0] tExt)).alloc (.cells #[.iface ta pa, .iface tb pb] tSeqT) := ⟨_, rfl⟩
  obtain ⟨b0, k0, k1, hz⟩ := two_boxes w (.cells #[.int .i64 0, .int .i64 0] tExt) (.cells #[.iface ta pa, .iface tb pb] tSeqT)
  rw [← hW] at b0 k0 k1 hz
  clear e1 ha hb
  have hZ_h := Lib.hid hZ
  have hX_h := Lib.hid hX
  have hY_h := Lib.hid hY
  have hZe_h := Lib.hid hZe
  have hIa_h := Lib.hid hIa
  have hIb_h := Lib.hid hIb
  have hva_h := Lib.hid hva
  have hvb_h := Lib.hid hvb
  have b0_h := Lib.hid b0
  have k0_h := Lib.hid k0
  have k1_h := Lib.hid k1
  have hz_h := Lib.hid hz
  clear hZ hX hY hZe hIa hIb hva hvb b0 k0 k1 hz
  have as1 := as_seq_seq
  go_enter Try.func50, Try.ntmps50
  go_upto_region 4 with (fail)
  rw [← hW]
  clear hW
  refine beginH (fun w' => w'.heap[w.heap.size + 1]? = some (.cells #[.iface ta pa, .iface tb pb] tSeqT)) (by kernel_rfl) ?_
  have hbd : Below W.heap.size W W.drew := below_drew (Below.refl _ _)
  generalize W.drew = W1 at hbd ⊢
  replace k0_h := Lib.hid (box_below k0_h.out hbd)
  replace k1_h := Lib.hid (box_below k1_h.out hbd)
  have hB1 := below_trans b0_h.out hbd b0_h.out.size
  have hz1 := hbd.size
  have hbd_h := Lib.hid hbd
  have hB1_h := Lib.hid hB1
  clear hbd hB1
  refine takeH 0 (v := ?_) rfl (by kernel_rfl) (by kernel_rfl) (by kernel_rfl) (fun _ _ _ h => h) k1_h.out (by rfl) (fun W' hW' => ?_) ?_; rotate_left; · (obtain ⟨⟨y0, y1⟩, y2, y3⟩ := box2 hW'; clear hW'; go_simp; first | done | with_reducible rfl)
  simp only [Act.put, List.setIfInBounds_toArray, List.set_cons_zero, List.set_cons_succ]
  refine takeH 1 (v := ?_) rfl (by kernel_rfl) (by kernel_rfl) (by kernel_rfl) (fun _ _ _ h => h) k1_h.out (by rfl) (fun W' hW' => ?_) ?_; rotate_left; · (obtain ⟨⟨y0, y1⟩, y2, y3⟩ := box2 hW'; clear hW'; go_simp; first | done | with_reducible rfl)
  simp only [Act.put, List.setIfInBounds_toArray, List.set_cons_zero, List.set_cons_succ]
  refine takeH 3 (v := ?_) rfl (by kernel_rfl) (by kernel_rfl) (by kernel_rfl) (fun _ _ _ h => h) k1_h.out (by rfl) (fun W' hW' => ?_) ?_; rotate_left; · (obtain ⟨⟨y0, y1⟩, y2, y3⟩ := box2 hW'; clear hW'; go_simp; first | done | with_reducible rfl)
  simp only [Act.put, List.setIfInBounds_toArray, List.set_cons_zero, List.set_cons_succ]
  refine takeH 4 (v := ?_) rfl (by kernel_rfl) (by kernel_rfl) (by kernel_rfl) (fun _ _ _ h => h) k1_h.out (by rfl) (fun W' hW' => ?_) ?_; rotate_left; · (obtain ⟨⟨y0, y1⟩, y2, y3⟩ := box2 hW'; clear hW'; go_simp; first | done | with_reducible rfl)
  simp only [Act.put, List.setIfInBounds_toArray, List.set_cons_zero, List.set_cons_succ]
  refine callsBoxes (fuel := 2) (w := W1) (R := fun vs _ => (vs = [] ∨ vs = [.agg #[.int .i64 X.1, .int .i64 X.2]] ∨ vs = [.agg #[.int .i64 X.1, .int .i64 X.2], .agg #[.int .i64 Y.1, .int .i64 Y.2]])) (fin := #[true, true, true, true, true, true, true, true, false, false]) (zs := [⟨6, 4, .cells #[.int .i64 0, .int .i64 0] tExt⟩, ⟨7, 5, .cells #[.int .i64 0, .int .i64 0] tExt⟩]) (by kernel_rfl) (by decide) (fun _ _ _ h _ => h) (fun w' hb => box_below k1_h.out hb) ?hz 4 _ [(2, 18), (5, 21)] [⟨6, 4, .cells #[.int .i64 0, .int .i64 0] tExt⟩, ⟨7, 5, .cells #[.int .i64 0, .int .i64 0] tExt⟩] _ [] [] W1 (by kernel_rfl) (List.Perm.refl _) (Below.refl _ _) (.inl rfl) (by simp) (by simp) ?hc
  case hz =>
    intro z hz
    simp only [List.mem_cons, List.not_mem_nil, or_false] at hz
    rcases hz with rfl | rfl
    · exact ⟨_, rfl, rfl, rfl, fun a w => (by kernel_rfl)⟩
    · exact ⟨_, rfl, rfl, rfl, fun a w => (by kernel_rfl)⟩
  case hc =>
    refine callsB_cons (f := ?f1) (args := ?a1) rfl rfl (by kernel_rfl) (by rfl) (fun w' => ?r1) (fun w' hb _ => ?c1) (fun v1 => ?k1)
    case r1 => (go_simp; first | done | with_reducible rfl | (constructor <;> with_reducible rfl))
    case c1 =>
      refine (hIa_h.out w').mono ?_
      rintro e w2 ⟨rfl, hb2⟩
      exact ⟨_, rfl, hb2, .inr (.inl rfl)⟩
    case k1 =>
    refine callsB_cons (f := ?f2) (args := ?a2) rfl rfl (by kernel_rfl) (by rfl) (fun w' => ?r2) (fun w' hb hR => ?c2) (fun v2 bs w2 hbs hb2 hR hbx hnd => ?rest)
    case r2 => (go_simp; first | done | with_reducible rfl | (constructor <;> with_reducible rfl))
    case c2 =>
      refine (hIb_h.out w').mono ?_
      rintro e w2 ⟨rfl, hb2⟩
      obtain rfl : v1 = .agg #[.int .i64 X.1, .int .i64 X.2] := by simpa using hR
      exact ⟨_, rfl, hb2, .inr (.inr rfl)⟩
    case rest =>
      obtain ⟨rfl, rfl⟩ : v1 = .agg #[.int .i64 X.1, .int .i64 X.2] ∧ v2 = .agg #[.int .i64 Y.1, .int .i64 Y.2] := by simpa using hR
      match bs, hbs with
      | [(z1, B1), (z2, B2)], hbs =>
        simp only [List.map_cons, List.map_nil, List.cons.injEq, and_true] at hbs
        obtain ⟨rfl, rfl⟩ := hbs
        obtain ⟨x1, x2⟩ := hbx _ (List.mem_cons_self ..)
        obtain ⟨x3, x4⟩ := hbx _ (List.mem_cons_of_mem _ (List.mem_cons_self ..))
        have hne : B1 ≠ B2 := by simpa using hnd
        clear hbx hnd hR hbs
        have hz0 := hz_h.out
        have kr := box_below k0_h.out hb2
        have kt := box_below k1_h.out hb2
        obtain ⟨s1, s2⟩ := set2 (a := .int .i64 X.1) (b := .int .i64 X.2) x1
        have x5 := box_keeps x3 s2 (fun e => hne e.symm)
        have kr2 := box_keeps kr s2 (by omega)
        have kt2 := box_keeps kt s2 (by omega)
        obtain ⟨s3, s4⟩ := set2 (a := .int .i64 Y.1) (b := .int .i64 Y.2) x5
        have s5 := box_keeps s1 s4 hne
        have kr3 := box_keeps kr2 s4 (by omega)
        have kt3 := box_keeps kt2 s4 (by omega)
        have hB2 := below_trans hB1_h.out hb2 hB1_h.out.size
        have hB3 := below_keeps hB2 s2 hB2.size (fun k hk => by omega)
        have hB4 := below_keeps hB3 s4 hB3.size (fun k hk => by omega)
        obtain ⟨⟨c0, c1⟩, c2, c3⟩ := box2 x1
        obtain ⟨⟨d0, d1⟩, d2, d3⟩ := box2 x5
        obtain ⟨W5, hW5⟩ : ∃ W5, W5 = (((w2.setCell ⟨B1, 0, none⟩ (.int .i64 X.1)).setCell ⟨B1, 1, none⟩ (.int .i64 X.2)).setCell ⟨B2, 0, none⟩ (.int .i64 Y.1)).setCell ⟨B2, 1, none⟩ (.int .i64 Y.2) := ⟨_, rfl⟩
        have kt4 := kt3
        rw [← hW5] at s5 s3 kr3 hB4 kt4
        have x1_h := Lib.hid x1
        have x3_h := Lib.hid x3
        have s1_h := Lib.hid s1
        have s2_h := Lib.hid s2
        have s3_h := Lib.hid s3
        have s4_h := Lib.hid s4
        have s5_h := Lib.hid s5
        have x5_h := Lib.hid x5
        have kr_h := Lib.hid kr
        have kt_h := Lib.hid kt
        have kr2_h := Lib.hid kr2
        have kt2_h := Lib.hid kt2
        have kr3_h := Lib.hid kr3
        have kt3_h := Lib.hid kt3
        have kt4_h := Lib.hid kt4
        have hB2_h := Lib.hid hB2
        have hB3_h := Lib.hid hB3
        have hB4_h := Lib.hid hB4
        have hne_h := Lib.hid hne
        clear x1 x3 s1 s2 s3 s4 s5 x5 kr kt kr2 kt2 kr3 kt3 kt4 hB2 hB3 hB4 hne
        simp only [putB, List.foldl_cons, List.foldl_nil]
        simp only [Act.put, List.setIfInBounds_toArray, List.set_cons_zero, List.set_cons_succ]
        refine oneH 8 rfl (by kernel_rfl) (by rfl) (fun K hK => ?_)
        go_simp
        refine hK _ _ kt2_h.out ?_
        clear hK K
        refine oneH 9 rfl (by kernel_rfl) (by rfl) (fun K hK => ?_)
        go_simp
        refine hK _ _ kt3_h.out ?_
        clear hK K
        refine doneH (by kernel_rfl) ?_
        rw [← hW5]
        clear hW5
        clear c0 c1 c2 c3 d0 d1 d2 d3
        obtain ⟨⟨c0, c1⟩, c2, c3⟩ := box2 s5_h.out
        obtain ⟨⟨d0, d1⟩, d2, d3⟩ := box2 s3_h.out
        obtain ⟨⟨e0, e1⟩, e2, e3⟩ := box2 kr3_h.out
        go_upto_region 5 with (fail)
        go_wp2_with (fail)
        all_goals
          first
          | (have hz1 : Z = (X.1, X.2 + Y.2) := (by rw [hZe_h.out, mx_left (by omega)]); obtain ⟨s6, s7⟩ := set2 (a := .int .i64 (X.1)) (b := .int .i64 (X.2 + Y.2)) kr3_h.out; have hB5 := below_keeps hB4_h.out s7 hB4_h.out.size (fun k hk => by omega); refine bodyPost_ret (results_cell_row rfl _ _ w.heap.size _ _ (0, 0) _ rfl s6 Try.underlying63 rfl (by kernel_rfl)) rfl ?_; exact ⟨by rw [hz1], hB5⟩)
          | (have hz1 : Z = (Y.1, X.2 + Y.2) := (by rw [hZe_h.out, mx_right (by omega)]); obtain ⟨s6, s7⟩ := set2 (a := .int .i64 (Y.1)) (b := .int .i64 (X.2 + Y.2)) kr3_h.out; have hB5 := below_keeps hB4_h.out s7 hB4_h.out.size (fun k hk => by omega); refine bodyPost_ret (results_cell_row rfl _ _ w.heap.size _ _ (0, 0) _ rfl s6 Try.underlying63 rfl (by kernel_rfl)) rfl ?_; exact ⟨by rw [hz1], hB5⟩)

set_option maxRecDepth 8000 in
set_option maxHeartbeats 4000000 in
theorem extentOf_par (a b : Tr) (w : World) (hIa : ∀ w, Calls Try.prog 50 #[trV a] w (ExA a w)) (hIb : ∀ w, Calls Try.prog 50 #[trV b] w (ExA b w))
    (ha : 0 ≤ (wid a).1 ∧ (wid a).1 ≤ 4800 ∧ 0 ≤ (wid a).2 ∧ (wid a).2 ≤ 400) (hb : 0 ≤ (wid b).1 ∧ (wid b).1 ≤ 4800 ∧ 0 ≤ (wid b).2 ∧ (wid b).2 ≤ 400) :
    Calls Try.prog 50 #[trV (.node true a b)] w (ExA (.node true a b) w) := by
  have e1 : trV (.node true a b) = .iface tParT (.agg #[trV a, trV b]) := rfl
  obtain ⟨Z, hZ⟩ : ∃ Z, Z = wid (.node true a b) := ⟨_, rfl⟩
  unfold ExA at hIa hIb ⊢
  obtain ⟨X, hX⟩ : ∃ X, X = wid a := ⟨_, rfl⟩
  obtain ⟨Y, hY⟩ : ∃ Y, Y = wid b := ⟨_, rfl⟩
  have hZe : Z = (X.1 + Y.1, mx X.2 Y.2) := by rw [hZ, hX, hY]; rfl
  rw [← hX] at hIa ha
  rw [← hY] at hIb hb
  rw [← hZ, e1]
  obtain ⟨ta, pa, hva⟩ := trV_iface a
  obtain ⟨tb, pb, hvb⟩ := trV_iface b
  rw [hva] at hIa
  rw [hvb] at hIb
  rw [hva, hvb]
  have q1 : X.1 + Y.1 ≤ 10000 := by omega
  have q2 : X.2 + Y.2 ≤ 10000 := by omega
  have q3 : 0 ≤ X.1 + Y.1 := by omega
  have q4 : 0 ≤ X.2 + Y.2 := by omega
  obtain ⟨W, hW⟩ : ∃ W, W = (w.alloc (.cells #[.int .i64 0, .int .i64 0] tExt)).alloc (.cells #[.iface ta pa, .iface tb pb] tParT) := ⟨_, rfl⟩
  obtain ⟨b0, k0, k1, hz⟩ := two_boxes w (.cells #[.int .i64 0, .int .i64 0] tExt) (.cells #[.iface ta pa, .iface tb pb] tParT)
  rw [← hW] at b0 k0 k1 hz
  clear e1 ha hb
  have hZ_h := Lib.hid hZ
  have hX_h := Lib.hid hX
  have hY_h := Lib.hid hY
  have hZe_h := Lib.hid hZe
  have hIa_h := Lib.hid hIa
  have hIb_h := Lib.hid hIb
  have hva_h := Lib.hid hva
  have hvb_h := Lib.hid hvb
  have b0_h := Lib.hid b0
  have k0_h := Lib.hid k0
  have k1_h := Lib.hid k1
  have hz_h := Lib.hid hz
  clear hZ hX hY hZe hIa hIb hva hvb b0 k0 k1 hz
  have as1 := as_par_seq
  have as2 := as_par_par
  go_enter Try.func50, Try.ntmps50
  go_upto_region 8 with (fail)
  rw [← hW]
  clear hW
  refine beginH (fun w' => w'.heap[w.heap.size + 1]? = some (.cells #[.iface ta pa, .iface tb pb] tParT)) (by kernel_rfl) ?_
  have hbd : Below W.heap.size W W.drew := below_drew (Below.refl _ _)
  generalize W.drew = W1 at hbd ⊢
  replace k0_h := Lib.hid (box_below k0_h.out hbd)
  replace k1_h := Lib.hid (box_below k1_h.out hbd)
  have hB1 := below_trans b0_h.out hbd b0_h.out.size
  have hz1 := hbd.size
  have hbd_h := Lib.hid hbd
  have hB1_h := Lib.hid hB1
  clear hbd hB1
  refine takeH 0 (v := ?_) rfl (by kernel_rfl) (by kernel_rfl) (by kernel_rfl) (fun _ _ _ h => h) k1_h.out (by rfl) (fun W' hW' => ?_) ?_; rotate_left; · (obtain ⟨⟨y0, y1⟩, y2, y3⟩ := box2 hW'; clear hW'; go_simp; first | done | with_reducible rfl)
  simp only [Act.put, List.setIfInBounds_toArray, List.set_cons_zero, List.set_cons_succ]
  refine takeH 1 (v := ?_) rfl (by kernel_rfl) (by kernel_rfl) (by kernel_rfl) (fun _ _ _ h => h) k1_h.out (by rfl) (fun W' hW' => ?_) ?_; rotate_left; · (obtain ⟨⟨y0, y1⟩, y2, y3⟩ := box2 hW'; clear hW'; go_simp; first | done | with_reducible rfl)
  simp only [Act.put, List.setIfInBounds_toArray, List.set_cons_zero, List.set_cons_succ]
  refine takeH 3 (v := ?_) rfl (by kernel_rfl) (by kernel_rfl) (by kernel_rfl) (fun _ _ _ h => h) k1_h.out (by rfl) (fun W' hW' => ?_) ?_; rotate_left; · (obtain ⟨⟨y0, y1⟩, y2, y3⟩ := box2 hW'; clear hW'; go_simp; first | done | with_reducible rfl)
  simp only [Act.put, List.setIfInBounds_toArray, List.set_cons_zero, List.set_cons_succ]
  refine takeH 4 (v := ?_) rfl (by kernel_rfl) (by kernel_rfl) (by kernel_rfl) (fun _ _ _ h => h) k1_h.out (by rfl) (fun W' hW' => ?_) ?_; rotate_left; · (obtain ⟨⟨y0, y1⟩, y2, y3⟩ := box2 hW'; clear hW'; go_simp; first | done | with_reducible rfl)
  simp only [Act.put, List.setIfInBounds_toArray, List.set_cons_zero, List.set_cons_succ]
  refine callsBoxes (fuel := 2) (w := W1) (R := fun vs _ => (vs = [] ∨ vs = [.agg #[.int .i64 X.1, .int .i64 X.2]] ∨ vs = [.agg #[.int .i64 X.1, .int .i64 X.2], .agg #[.int .i64 Y.1, .int .i64 Y.2]])) (fin := #[true, true, true, true, true, true, true, true, false, false]) (zs := [⟨6, 7, .cells #[.int .i64 0, .int .i64 0] tExt⟩, ⟨7, 8, .cells #[.int .i64 0, .int .i64 0] tExt⟩]) (by kernel_rfl) (by decide) (fun _ _ _ h _ => h) (fun w' hb => box_below k1_h.out hb) ?hz 4 _ [(2, 38), (5, 41)] [⟨6, 7, .cells #[.int .i64 0, .int .i64 0] tExt⟩, ⟨7, 8, .cells #[.int .i64 0, .int .i64 0] tExt⟩] _ [] [] W1 (by kernel_rfl) (List.Perm.refl _) (Below.refl _ _) (.inl rfl) (by simp) (by simp) ?hc
  case hz =>
    intro z hz
    simp only [List.mem_cons, List.not_mem_nil, or_false] at hz
    rcases hz with rfl | rfl
    · exact ⟨_, rfl, rfl, rfl, fun a w => (by kernel_rfl)⟩
    · exact ⟨_, rfl, rfl, rfl, fun a w => (by kernel_rfl)⟩
  case hc =>
    refine callsB_cons (f := ?f1) (args := ?a1) rfl rfl (by kernel_rfl) (by rfl) (fun w' => ?r1) (fun w' hb _ => ?c1) (fun v1 => ?k1)
    case r1 => (go_simp; first | done | with_reducible rfl | (constructor <;> with_reducible rfl))
    case c1 =>
      refine (hIa_h.out w').mono ?_
      rintro e w2 ⟨rfl, hb2⟩
      exact ⟨_, rfl, hb2, .inr (.inl rfl)⟩
    case k1 =>
    refine callsB_cons (f := ?f2) (args := ?a2) rfl rfl (by kernel_rfl) (by rfl) (fun w' => ?r2) (fun w' hb hR => ?c2) (fun v2 bs w2 hbs hb2 hR hbx hnd => ?rest)
    case r2 => (go_simp; first | done | with_reducible rfl | (constructor <;> with_reducible rfl))
    case c2 =>
      refine (hIb_h.out w').mono ?_
      rintro e w2 ⟨rfl, hb2⟩
      obtain rfl : v1 = .agg #[.int .i64 X.1, .int .i64 X.2] := by simpa using hR
      exact ⟨_, rfl, hb2, .inr (.inr rfl)⟩
    case rest =>
      obtain ⟨rfl, rfl⟩ : v1 = .agg #[.int .i64 X.1, .int .i64 X.2] ∧ v2 = .agg #[.int .i64 Y.1, .int .i64 Y.2] := by simpa using hR
      match bs, hbs with
      | [(z1, B1), (z2, B2)], hbs =>
        simp only [List.map_cons, List.map_nil, List.cons.injEq, and_true] at hbs
        obtain ⟨rfl, rfl⟩ := hbs
        obtain ⟨x1, x2⟩ := hbx _ (List.mem_cons_self ..)
        obtain ⟨x3, x4⟩ := hbx _ (List.mem_cons_of_mem _ (List.mem_cons_self ..))
        have hne : B1 ≠ B2 := by simpa using hnd
        clear hbx hnd hR hbs
        have hz0 := hz_h.out
        have kr := box_below k0_h.out hb2
        have kt := box_below k1_h.out hb2
        obtain ⟨s1, s2⟩ := set2 (a := .int .i64 X.1) (b := .int .i64 X.2) x1
        have x5 := box_keeps x3 s2 (fun e => hne e.symm)
        have kr2 := box_keeps kr s2 (by omega)
        have kt2 := box_keeps kt s2 (by omega)
        obtain ⟨s3, s4⟩ := set2 (a := .int .i64 Y.1) (b := .int .i64 Y.2) x5
        have s5 := box_keeps s1 s4 hne
        have kr3 := box_keeps kr2 s4 (by omega)
        have kt3 := box_keeps kt2 s4 (by omega)
        have hB2 := below_trans hB1_h.out hb2 hB1_h.out.size
        have hB3 := below_keeps hB2 s2 hB2.size (fun k hk => by omega)
        have hB4 := below_keeps hB3 s4 hB3.size (fun k hk => by omega)
        obtain ⟨⟨c0, c1⟩, c2, c3⟩ := box2 x1
        obtain ⟨⟨d0, d1⟩, d2, d3⟩ := box2 x5
        obtain ⟨W5, hW5⟩ : ∃ W5, W5 = (((w2.setCell ⟨B1, 0, none⟩ (.int .i64 X.1)).setCell ⟨B1, 1, none⟩ (.int .i64 X.2)).setCell ⟨B2, 0, none⟩ (.int .i64 Y.1)).setCell ⟨B2, 1, none⟩ (.int .i64 Y.2) := ⟨_, rfl⟩
        have kt4 := kt3
        rw [← hW5] at s5 s3 kr3 hB4 kt4
        have x1_h := Lib.hid x1
        have x3_h := Lib.hid x3
        have s1_h := Lib.hid s1
        have s2_h := Lib.hid s2
        have s3_h := Lib.hid s3
        have s4_h := Lib.hid s4
        have s5_h := Lib.hid s5
        have x5_h := Lib.hid x5
        have kr_h := Lib.hid kr
        have kt_h := Lib.hid kt
        have kr2_h := Lib.hid kr2
        have kt2_h := Lib.hid kt2
        have kr3_h := Lib.hid kr3
        have kt3_h := Lib.hid kt3
        have kt4_h := Lib.hid kt4
        have hB2_h := Lib.hid hB2
        have hB3_h := Lib.hid hB3
        have hB4_h := Lib.hid hB4
        have hne_h := Lib.hid hne
        clear x1 x3 s1 s2 s3 s4 s5 x5 kr kt kr2 kt2 kr3 kt3 kt4 hB2 hB3 hB4 hne
        simp only [putB, List.foldl_cons, List.foldl_nil]
        simp only [Act.put, List.setIfInBounds_toArray, List.set_cons_zero, List.set_cons_succ]
        refine oneH 8 rfl (by kernel_rfl) (by rfl) (fun K hK => ?_)
        go_simp
        refine hK _ _ kt2_h.out ?_
        clear hK K
        refine oneH 9 rfl (by kernel_rfl) (by rfl) (fun K hK => ?_)
        go_simp
        refine hK _ _ kt3_h.out ?_
        clear hK K
        refine doneH (by kernel_rfl) ?_
        rw [← hW5]
        clear hW5
        clear c0 c1 c2 c3 d0 d1 d2 d3
        obtain ⟨⟨c0, c1⟩, c2, c3⟩ := box2 s5_h.out
        obtain ⟨⟨d0, d1⟩, d2, d3⟩ := box2 s3_h.out
        obtain ⟨⟨e0, e1⟩, e2, e3⟩ := box2 kr3_h.out
        go_upto_region 9 with (fail)
        go_wp2_with (fail)
        all_goals
          first
          | (have hz1 : Z = (X.1 + Y.1, X.2) := (by rw [hZe_h.out, mx_left (by omega)]); obtain ⟨s6, s7⟩ := set2 (a := .int .i64 (X.1 + Y.1)) (b := .int .i64 (X.2)) kr3_h.out; have hB5 := below_keeps hB4_h.out s7 hB4_h.out.size (fun k hk => by omega); refine bodyPost_ret (results_cell_row rfl _ _ w.heap.size _ _ (0, 0) _ rfl s6 Try.underlying63 rfl (by kernel_rfl)) rfl ?_; exact ⟨by rw [hz1], hB5⟩)
          | (have hz1 : Z = (X.1 + Y.1, Y.2) := (by rw [hZe_h.out, mx_right (by omega)]); obtain ⟨s6, s7⟩ := set2 (a := .int .i64 (X.1 + Y.1)) (b := .int .i64 (Y.2)) kr3_h.out; have hB5 := below_keeps hB4_h.out s7 hB4_h.out.size (fun k hk => by omega); refine bodyPost_ret (results_cell_row rfl _ _ w.heap.size _ _ (0, 0) _ rfl s6 Try.underlying63 rfl (by kernel_rfl)) rfl ?_; exact ⟨by rw [hz1], hB5⟩)

set_option maxRecDepth 8000 in
set_option maxHeartbeats 4000000 in
theorem extentOf_leaf (k x : Int) (s : ByteArray) (w : World) (hw : leafB (k, x, s) = true) : Calls Try.prog 50 #[trV (.leaf (k, x, s))] w (ExA (.leaf (k, x, s)) w) := by
  have e1 : trV (.leaf (k, x, s)) = .iface tLeafT (.agg #[.int .i64 k, .int .i64 x, .string s]) := rfl
  obtain ⟨Z, hZ⟩ : ∃ Z, Z = wid (.leaf (k, x, s)) := ⟨_, rfl⟩
  unfold ExA
  rw [← hZ, e1]
  obtain ⟨W, hW⟩ : ∃ W, W = (w.alloc (.cells #[.int .i64 0, .int .i64 0] tExt)).alloc (.cells #[.int .i64 k, .int .i64 x, .string s] tLeafT) := ⟨_, rfl⟩
  obtain ⟨b0, k0, k1, hz⟩ := two_boxes w (.cells #[.int .i64 0, .int .i64 0] tExt) (.cells #[.int .i64 k, .int .i64 x, .string s] tLeafT)
  rw [← hW] at b0 k0 k1 hz
  obtain ⟨⟨y0, y1, y2⟩, y3, y4, y5⟩ := box3 k1
  clear e1
  have hZ_h := Lib.hid hZ
  have b0_h := Lib.hid b0
  have k0_h := Lib.hid k0
  have k1_h := Lib.hid k1
  have hz_h := Lib.hid hz
  have hw_h := Lib.hid hw
  clear hZ b0 k0 k1 hz hw
  have as1 := as_leaf_seq
  have as2 := as_leaf_par
  have as3 := as_leaf_leaf
  go_enter Try.func50, Try.ntmps50
  go_upto_region 12 with (fail)
  rw [← hW]
  clear hW
  go_wp2_with (fail)
  refine (leafWires_any k x s _).mono ?_
  rintro e w1 ⟨i, o, b, rfl, hb, hio, hb1⟩
  obtain ⟨hi, ho⟩ := Prod.mk.inj (hio (by rw [hb]; exact hw_h.out))
  have hZe : Z = (mx i o, 1) := by rw [hZ_h.out, hi, ho]; rfl
  obtain ⟨W2, hW2⟩ : ∃ W2, W2 = w1.alloc (.cells #[.int .i64 i, .int .i64 o] tWires) := ⟨_, rfl⟩
  have hb2 : Below w1.heap.size w1 W2 := by rw [hW2]; exact below_alloc _ _
  have k2 : W2.heap[w1.heap.size]? = some (.cells #[.int .i64 i, .int .i64 o] tWires) := by rw [hW2]; exact heap_alloc_new _ _
  replace k0_h := Lib.hid (box_below k0_h.out hb1)
  replace k0_h := Lib.hid (box_below k0_h.out hb2)
  have hB2 := below_trans (below_trans b0_h.out hb1 b0_h.out.size) hb2 (Nat.le_trans b0_h.out.size hb1.size)
  clear y0 y1 y2 y3 y4 y5
  obtain ⟨⟨c0, c1⟩, c2, c3⟩ := box2 k2
  obtain ⟨⟨d0, d1⟩, d2, d3⟩ := box2 k0_h.out
  clear hi ho
  have hb_h := Lib.hid hb
  have hio_h := Lib.hid hio
  have hb1_h := Lib.hid hb1
  have hb2_h := Lib.hid hb2
  have k2_h := Lib.hid k2
  have hB2_h := Lib.hid hB2
  have hZe_h := Lib.hid hZe
  clear hb hio hb1 hb2 k2 hB2 hZe
  go_upto_region 13 with (fail)
  rw [← hW2]
  clear hW2
  go_wp2_with (fail)
  all_goals
    first
    | (have hz1 : Z = (i, 1) := (by rw [hZe_h.out, mx_left (by omega)]); obtain ⟨s6, s7⟩ := set2 (a := .int .i64 i) (b := .int .i64 1) k0_h.out; have hB5 := below_keeps hB2_h.out s7 hB2_h.out.size (fun k hk => by omega); refine bodyPost_ret (results_cell_row rfl _ _ w.heap.size _ _ (0, 0) _ rfl s6 Try.underlying63 rfl (by kernel_rfl)) rfl ?_; exact ⟨by rw [hz1], hB5⟩)
    | (have hz1 : Z = (o, 1) := (by rw [hZe_h.out, mx_right (by omega)]); obtain ⟨s6, s7⟩ := set2 (a := .int .i64 o) (b := .int .i64 1) k0_h.out; have hB5 := below_keeps hB2_h.out s7 hB2_h.out.size (fun k hk => by omega); refine bodyPost_ret (results_cell_row rfl _ _ w.heap.size _ _ (0, 0) _ rfl s6 Try.underlying63 rfl (by kernel_rfl)) rfl ?_; exact ⟨by rw [hz1], hB5⟩)
theorem extentOf_any : ∀ (t : Tr), wt t → sz t ≤ 400 → ∀ (w : World), Calls Try.prog 50 #[trV t] w (ExA t w)
  | .leaf (k, x, s), hw, _, w => extentOf_leaf k x s w hw
  | .node p a b, hw, hs, w => by
    obtain ⟨hwa, hwb, -⟩ := hw
    have hsn := sz_node p a b
    have ha := wid_fit a hwa
    have hb := wid_fit b hwb
    have hIa := extentOf_any a hwa (by omega)
    have hIb := extentOf_any b hwb (by omega)
    cases p
    · exact extentOf_seq a b w hIa hIb (by omega) (by omega)
    · exact extentOf_par a b w hIa hIb (by omega) (by omega)
end Go.Proofs.Ytlmnmdahphahfaa
