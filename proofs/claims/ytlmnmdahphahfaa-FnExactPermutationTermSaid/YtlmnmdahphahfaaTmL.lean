/-
  THE WALK: impl.leafWires.
-/
import Derived.Test.YtlmnmdahphahfaaTmG
import Derived.Test.YtlmnmdahphahfaaRegT
import Derived.Deep.QuietTactic
import Derived.BigQuiet
namespace Go.Proofs.Ytlmnmdahphahfaa
open Go.RowKit

theorem name_yes {s : ByteArray} (h : (!s.toList.isEmpty) = false) : s = noName := by
  have h1 : s.toList = [] := by simpa using h
  have h2 : s.data.toList = [] := by rw [← h1]; exact (ByteArray.toList_eq s).symm ▸ rfl
  have h3 : s.data = #[] := by simpa using h2
  cases s; simp_all [noName]
theorem name_no {s : ByteArray} (h : (!s.toList.isEmpty) = true) : s ≠ noName := by
  rintro rfl
  have e : noName.toList = [] := by rw [ByteArray.toList_eq]; rfl
  rw [e] at h
  cases h
theorem box2 {w : World} {B : Nat} {x y : Value} {t : TypeId} (h : w.heap[B]? = some (.cells #[x, y] t)) :
    (w.cell? ⟨B, 0, none⟩ = some x ∧ w.cell? ⟨B, 1, none⟩ = some y) ∧ (w.frozen? ⟨B, 0, none⟩ = false ∧ w.frozen? ⟨B, 1, none⟩ = false) := by
  refine ⟨⟨?_, ?_⟩, ?_, ?_⟩ <;> simp [World.cell?, World.frozen?, h]
theorem box3 {w : World} {B : Nat} {x y z : Value} {t : TypeId} (h : w.heap[B]? = some (.cells #[x, y, z] t)) :
    (w.cell? ⟨B, 0, none⟩ = some x ∧ w.cell? ⟨B, 1, none⟩ = some y ∧ w.cell? ⟨B, 2, none⟩ = some z) ∧ (w.frozen? ⟨B, 0, none⟩ = false ∧ w.frozen? ⟨B, 1, none⟩ = false ∧ w.frozen? ⟨B, 2, none⟩ = false) := by
  refine ⟨⟨?_, ?_, ?_⟩, ?_, ?_, ?_⟩ <;> simp [World.cell?, World.frozen?, h]
theorem below_alloc (w : World) (o : Obj) : Below w.heap.size w (w.alloc o) := (Below.refl _ _).alloc (Nat.le_refl _) _

theorem below_drew {B : Nat} {a w : World} (h : Below B a w) : Below B a w.drew := below_drewN h 1
theorem box_below {w w' : World} {B : Nat} {o : Obj} (h : w.heap[B]? = some o) (hb : Below w.heap.size w w') : w'.heap[B]? = some o := (hb.block B (Array.getElem?_eq_some_iff.1 h).1).trans h
theorem box_keeps {w w' : World} {S : Nat → Prop} {B : Nat} {o : Obj} (h : w.heap[B]? = some o) (hk : Keeps S w w') (hS : ¬ S B) : w'.heap[B]? = some o := (hk.block B (Array.getElem?_eq_some_iff.1 h).1 hS).trans h
theorem box_lt {w : World} {B : Nat} {o : Obj} (h : w.heap[B]? = some o) : B < w.heap.size := (Array.getElem?_eq_some_iff.1 h).1
/-- Two new boxes. -/
theorem two_boxes (w : World) (o o' : Obj) : Below w.heap.size w ((w.alloc o).alloc o') ∧ ((w.alloc o).alloc o').heap[w.heap.size]? = some o ∧ ((w.alloc o).alloc o').heap[w.heap.size + 1]? = some o' ∧ ((w.alloc o).alloc o').heap.size = w.heap.size + 2 := by
  refine ⟨((Below.refl _ _).alloc (Nat.le_refl _) _).alloc (by simp) _, box_below (heap_alloc_new w o) (below_alloc _ _), ?_, by simp⟩
  have := heap_alloc_new (w.alloc o) o'
  rwa [World.size_alloc] at this
theorem set2 {w : World} {B : Nat} {t : TypeId} {x y a b : Value} (h : w.heap[B]? = some (.cells #[x, y] t)) : ((w.setCell ⟨B, 0, none⟩ a).setCell ⟨B, 1, none⟩ b).heap[B]? = some (.cells #[a, b] t) ∧ Keeps (· = B) w ((w.setCell ⟨B, 0, none⟩ a).setCell ⟨B, 1, none⟩ b) := by
  refine ⟨by simp [World.setCell, Array.getElem?_modify, h], ?_⟩
  exact (((Keeps.refl (fun x => x = B) w).setCell (p := ⟨B, 0, none⟩) rfl _).setCell (p := ⟨B, 1, none⟩) rfl _)
theorem results_cell_tmp {P : Program} {fn : Func} {p u : Tmp} {ty : TypeId} (h : fn.results = #[.cell p ty, .tmp u]) (tmps : Array Value) (w : World) (g : Nat) (t : TypeId) (cs : Array Value) (fr : Nat × Nat) (d : TypeDesc)
    (hp : tmps.getD p undef = .pointer (some ⟨g, 0, none⟩)) (hg : w.heap[g]? = some (.cells cs t fr))
    (hu : P.underlying ty = some d) (hd : (match d with | .struct _ | .array _ _ => true | _ => false) = true) (hi : (P.info? ty).map (·.size) = some cs.size) :
    (results fn tmps).run P w = .ok (.tuple #[.agg cs, tmps.getD u undef]) w := by
  have hp' : tmps[p]?.getD undef = .pointer (some ⟨g, 0, none⟩) := by simpa using hp
  simp [results, h, hp', asAddr, run_loadVar_row w g t ty cs fr d hg hu hd hi]

abbrev tWires : TypeId := 54
/-- What leafWires answers. -/
def LfA (k v : Int) (s : ByteArray) (w : World) (e : Ending) (w' : World) : Prop :=
  ∃ (i o : Int) (b : Bool), e = .returned (.tuple #[.agg #[.int .i64 i, .int .i64 o], .bool b]) ∧ b = leafB (k, v, s) ∧ (b = true → (i, o) = leafTy (k, v, s)) ∧ Below w.heap.size w w'
set_option maxRecDepth 8000 in
set_option maxHeartbeats 1000000 in
theorem leafWires_any (k v : Int) (s : ByteArray) (w : World) :
    Calls Try.prog 78 #[.agg #[.int .i64 k, .int .i64 v, .string s]] w (LfA k v s w) := by
  go_enter Try.func78, Try.ntmps78
  go_wp2_with (fail)
  · refine bodyPost_ret (v := .tuple #[.agg #[.int .i64 0, .int .i64 0], .bool false]) (by simp [results, Try.results78, go_sem]) rfl ⟨_, _, _, rfl, ?_, fun h => (by cases h), ((Below.refl _ _).alloc (Nat.le_refl _) _).alloc (by simp) _⟩
    have hn := name_no ‹_›
    simp [leafB, hn]
  · have hn := name_yes ‹_›
    have hk : k = 1 := by simpa using (‹(k == 1) = true›)
    subst hk hn
    refine tailD 8 (by kernel_rfl) (by kernel_rfl) ?_
    simp only [List.take_succ_cons, List.take_zero, List.drop_succ_cons, List.drop_zero]
    repeat still_step
    still_call (within_any _ _ _ _)
    refine wpStill_nil ?_
    go_wp2_with (fail)
    refine bodyPost_ret (v := .tuple #[.agg #[.int .i64 v, .int .i64 v], .bool (inB v 0 12)]) (by simp [results, Try.results78, go_sem]) rfl ⟨_, _, _, rfl, ?_, fun h => rfl, below_drew (((Below.refl _ _).alloc (Nat.le_refl _) _).alloc (by simp) _)⟩
    simp [leafB, inB]
  · have hn := name_yes ‹_›
    have hk : k = 2 := by simpa using (‹(k == 2) = true›)
    subst hk hn
    obtain ⟨W, hW⟩ : ∃ W, W = (w.alloc (.cells #[.int .i64 2, .int .i64 v, .string noName] 69)).alloc (.cells #[.int .i64 0, .int .i64 0] tWires) := ⟨_, rfl⟩
    obtain ⟨b0, k0, k1, hz⟩ := two_boxes w (.cells #[.int .i64 2, .int .i64 v, .string noName] 69) (.cells #[.int .i64 0, .int .i64 0] tWires)
    rw [← hW] at b0 k0 k1 hz ⊢
    clear hW
    have k0d : W.drew.heap[w.heap.size]? = some (.cells #[.int .i64 2, .int .i64 v, .string noName] 69) := k0
    have k1d : W.drew.heap[w.heap.size + 1]? = some (.cells #[.int .i64 0, .int .i64 0] tWires) := k1
    have b0d := below_drew b0
    refine beginH (fun w' => w'.heap[w.heap.size]? = some (.cells #[.int .i64 2, .int .i64 v, .string noName] 69)) (by kernel_rfl) ?_
    clear b0 k0 k1 hz
    generalize W.drew = W1 at k0d k1d b0d ⊢
    obtain ⟨s1, s2⟩ := set2 (a := .int .i64 2) (b := .int .i64 2) k1d
    have k0s := box_keeps k0d s2 (by omega)
    have hB2 := below_keeps b0d s2 b0d.size (fun k hk => by omega)
    obtain ⟨⟨c0, c1⟩, f0, f1⟩ := box2 k1d
    have k0d_h := Lib.hid k0d
    have k1d_h := Lib.hid k1d
    have s1_h := Lib.hid s1
    have s2_h := Lib.hid s2
    have k0s_h := Lib.hid k0s
    have hB2_h := Lib.hid hB2
    clear k0d k1d s1 s2 k0s hB2
    refine takeH 0 (v := ?_) rfl (by kernel_rfl) (by kernel_rfl) (by kernel_rfl) (fun _ _ _ h => h) k0d_h.out (by rfl) (fun W' hW' => ?_) ?_; rotate_left; · (obtain ⟨⟨c0, c1, c2⟩, f0, f1, f2⟩ := box3 hW'; clear hW'; go_simp; first | done | with_reducible rfl)
    simp only [Act.put, List.setIfInBounds_toArray, List.set_cons_zero, List.set_cons_succ]
    refine takeH 1 (v := ?_) rfl (by kernel_rfl) (by kernel_rfl) (by kernel_rfl) (fun _ _ _ h => h) k0d_h.out (by rfl) (fun W' hW' => ?_) ?_; rotate_left; · (obtain ⟨⟨c0, c1, c2⟩, f0, f1, f2⟩ := box3 hW'; clear hW'; go_simp; first | done | with_reducible rfl)
    simp only [Act.put, List.setIfInBounds_toArray, List.set_cons_zero, List.set_cons_succ]
    refine takeH 2 (v := ?_) rfl (by kernel_rfl) (by kernel_rfl) (by kernel_rfl) (fun _ _ _ h => h) k0d_h.out (by rfl) (fun W' hW' => ?_) ?_; rotate_left; · (obtain ⟨⟨c0, c1, c2⟩, f0, f1, f2⟩ := box3 hW'; clear hW'; go_simp; first | done | with_reducible rfl)
    simp only [Act.put, List.setIfInBounds_toArray, List.set_cons_zero, List.set_cons_succ]
    refine takeH 3 (v := ?_) rfl (by kernel_rfl) (by kernel_rfl) (by kernel_rfl) (fun _ _ _ h => h) k0d_h.out (by rfl) (fun W' hW' => ?_) ?_; rotate_left; · (obtain ⟨⟨c0, c1, c2⟩, f0, f1, f2⟩ := box3 hW'; clear hW'; go_simp; first | done | with_reducible rfl)
    simp only [Act.put, List.setIfInBounds_toArray, List.set_cons_zero, List.set_cons_succ]
    refine oneH 4 rfl (by kernel_rfl) (by rfl) (fun K hK => ?_)
    go_simp
    refine hK _ _ k0s_h.out ?_
    clear hK K
    refine takeH 5 (v := ?_) rfl (by kernel_rfl) (by kernel_rfl) (by kernel_rfl) (fun _ _ _ h => h) k0s_h.out (by rfl) (fun W' hW' => ?_) ?_; rotate_left; · (skip; clear hW'; go_simp; first | done | with_reducible rfl)
    simp only [Act.put, List.setIfInBounds_toArray, List.set_cons_zero, List.set_cons_succ]
    refine doneH (by kernel_rfl) ?_
    go_wp2_with (fail)
    refine bodyPost_ret (results_cell_tmp rfl _ _ (w.heap.size + 1) _ _ (0, 0) _ rfl s1_h.out Try.underlying54 rfl (by kernel_rfl)) rfl ?_
    refine ⟨_, _, (v == 0), rfl, ?_, fun _ => rfl, hB2_h.out⟩
    by_cases h0 : v = 0 <;> simp [leafB, h0]
  · have hn := name_yes ‹_›
    have h1 : ¬ k = 1 := by simpa using (‹(k == 1) = false›)
    have h2 : ¬ k = 2 := by simpa using (‹(k == 2) = false›)
    subst hn
    refine (isGenerator_any _ _).mono ?_
    rintro e w' ⟨rfl, rfl⟩
    cases hg : inB k 3 14
    · have HG := Lib.hid hg
      clear hg
      go_wp2_with (fail)
      refine bodyPost_ret (v := .tuple #[.agg #[.int .i64 0, .int .i64 0], .bool false]) (by simp [results, Try.results78, go_sem]) rfl ⟨_, _, _, rfl, ?_, fun h => (by cases h), ((Below.refl _ _).alloc (Nat.le_refl _) _).alloc (by simp) _⟩
      have : ¬ (3 ≤ k ∧ k ≤ 14) := by simpa [inB] using HG.out
      simp [leafB]
      omega
    · have hgb : 3 ≤ k ∧ k ≤ 14 := by simpa [inB] using hg
      have hG := generatorWires_any k
      have HG := Lib.hid (fun w => hG w hgb.1 hgb.2)
      have hg_h := Lib.hid hg
      have h1_h := Lib.hid h1
      have h2_h := Lib.hid h2
      have hgb_h := Lib.hid hgb
      clear hg h1 h2 hgb
      clear hG
      go_wp2_with (fail)
      obtain ⟨W, hW⟩ : ∃ W, W = (w.alloc (.cells #[.int .i64 k, .int .i64 v, .string noName] 69)).alloc (.cells #[.int .i64 0, .int .i64 0] tWires) := ⟨_, rfl⟩
      obtain ⟨b0, k0, k1, hz⟩ := two_boxes w (.cells #[.int .i64 k, .int .i64 v, .string noName] 69) (.cells #[.int .i64 0, .int .i64 0] tWires)
      rw [← hW] at b0 k0 k1 hz ⊢
      clear hW
      have k0d : W.drew.heap[w.heap.size]? = some (.cells #[.int .i64 k, .int .i64 v, .string noName] 69) := k0
      have b0_h := Lib.hid b0
      have k1_h := Lib.hid k1
      have hz_h := Lib.hid hz
      have k0_h := Lib.hid k0
      have k0d_h := Lib.hid k0d
      clear b0 k1 hz k0 k0d
      refine beginH (fun w' => w'.heap[w.heap.size]? = some (.cells #[.int .i64 k, .int .i64 v, .string noName] 69)) (by kernel_rfl) ?_
      refine takeH 0 (v := ?_) rfl (by kernel_rfl) (by kernel_rfl) (by kernel_rfl) (fun _ _ _ h => h) k0d_h.out (by rfl) (fun W' hW' => ?_) ?_; rotate_left; · (obtain ⟨⟨c0, c1, c2⟩, f0, f1, f2⟩ := box3 hW'; clear hW'; go_simp; first | done | with_reducible rfl)
      simp only [Act.put, List.setIfInBounds_toArray, List.set_cons_zero, List.set_cons_succ]
      refine takeH 1 (v := ?_) rfl (by kernel_rfl) (by kernel_rfl) (by kernel_rfl) (fun _ _ _ h => h) k0d_h.out (by rfl) (fun W' hW' => ?_) ?_; rotate_left; · (obtain ⟨⟨c0, c1, c2⟩, f0, f1, f2⟩ := box3 hW'; clear hW'; go_simp; first | done | with_reducible rfl)
      simp only [Act.put, List.setIfInBounds_toArray, List.set_cons_zero, List.set_cons_succ]
      refine takeH 3 (v := ?_) rfl (by kernel_rfl) (by kernel_rfl) (by kernel_rfl) (fun _ _ _ h => h) k0d_h.out (by rfl) (fun W' hW' => ?_) ?_; rotate_left; · (obtain ⟨⟨c0, c1, c2⟩, f0, f1, f2⟩ := box3 hW'; clear hW'; go_simp; first | done | with_reducible rfl)
      simp only [Act.put, List.setIfInBounds_toArray, List.set_cons_zero, List.set_cons_succ]
      refine takeH 4 (v := ?_) rfl (by kernel_rfl) (by kernel_rfl) (by kernel_rfl) (fun _ _ _ h => h) k0d_h.out (by rfl) (fun W' hW' => ?_) ?_; rotate_left; · (obtain ⟨⟨c0, c1, c2⟩, f0, f1, f2⟩ := box3 hW'; clear hW'; go_simp; first | done | with_reducible rfl)
      simp only [Act.put, List.setIfInBounds_toArray, List.set_cons_zero, List.set_cons_succ]
      refine takeH 5 (v := ?_) rfl (by kernel_rfl) (by kernel_rfl) (by kernel_rfl) (fun _ _ _ h => h) k0d_h.out (by rfl) (fun W' hW' => ?_) ?_; rotate_left; · (obtain ⟨⟨c0, c1, c2⟩, f0, f1, f2⟩ := box3 hW'; clear hW'; go_simp; first | done | with_reducible rfl)
      simp only [Act.put, List.setIfInBounds_toArray, List.set_cons_zero, List.set_cons_succ]
      refine takeH 6 (v := ?_) rfl (by kernel_rfl) (by kernel_rfl) (by kernel_rfl) (fun _ _ _ h => h) k0d_h.out (by rfl) (fun W' hW' => ?_) ?_; rotate_left; · (obtain ⟨⟨c0, c1, c2⟩, f0, f1, f2⟩ := box3 hW'; clear hW'; go_simp; first | done | with_reducible rfl)
      simp only [Act.put, List.setIfInBounds_toArray, List.set_cons_zero, List.set_cons_succ]
      refine' callH 2 (f := _) (args := _) rfl (by kernel_rfl) (by rfl) ?_ ?_; rotate_left 2; · (go_simp; first | done | with_reducible rfl | (constructor <;> with_reducible rfl))
      refine (HG.out _).mono ?_
      rintro e w' ⟨rfl, hb1⟩
      have hb1' : Below W.heap.size W w' := below_trans (below_drew (Below.refl _ _)) hb1 (Nat.le_refl _)
      have k0' := box_below k0_h.out hb1'
      have k1' := box_below k1_h.out hb1'
      refine ⟨_, rfl, k0', ?_⟩
      have hB1 := below_trans b0_h.out hb1' b0_h.out.size
      obtain ⟨s1, s2⟩ := set2 (a := .int .i64 (kindTy k).1) (b := .int .i64 (kindTy k).2) k1'
      have k0s := box_keeps k0' s2 (by omega)
      have hB2 := below_keeps hB1 s2 hB1.size (fun k hk => by omega)
      obtain ⟨⟨c0, c1⟩, f0, f1⟩ := box2 k1'
      have k0'_h := Lib.hid k0'
      have k1'_h := Lib.hid k1'
      have hB1_h := Lib.hid hB1
      have s1_h := Lib.hid s1
      have s2_h := Lib.hid s2
      have k0s_h := Lib.hid k0s
      have hB2_h := Lib.hid hB2
      have hb1_h := Lib.hid hb1
      have hb1'_h := Lib.hid hb1'
      clear k0' k1' hB1 s1 s2 k0s hB2 hb1 hb1'
      simp only [Act.put, List.setIfInBounds_toArray, List.set_cons_zero, List.set_cons_succ]
      refine' callH 7 (f := _) (args := _) rfl (by kernel_rfl) (by rfl) ?_ ?_; rotate_left 2; · (go_simp; first | done | with_reducible rfl | (constructor <;> with_reducible rfl))
      refine (isGeneratorValue_any _ _ _).mono ?_
      rintro e w' ⟨rfl, rfl⟩
      refine ⟨_, rfl, k0'_h.out, ?_⟩
      simp only [Act.put, List.setIfInBounds_toArray, List.set_cons_zero, List.set_cons_succ]
      refine oneH 8 rfl (by kernel_rfl) (by rfl) (fun K hK => ?_)
      go_simp
      refine hK _ _ k0s_h.out ?_
      clear hK K
      refine takeH 9 (v := ?_) rfl (by kernel_rfl) (by kernel_rfl) (by kernel_rfl) (fun _ _ _ h => h) k0s_h.out (by rfl) (fun W' hW' => ?_) ?_; rotate_left; · (skip; clear hW'; go_simp; first | done | with_reducible rfl)
      simp only [Act.put, List.setIfInBounds_toArray, List.set_cons_zero, List.set_cons_succ]
      refine doneH (by kernel_rfl) ?_
      go_wp2_with (fail)
      refine bodyPost_ret (results_cell_tmp rfl _ _ (w.heap.size + 1) _ _ (0, 0) _ rfl s1_h.out Try.underlying54 rfl (by kernel_rfl)) rfl ?_
      refine ⟨_, _, _, rfl, ?_, fun _ => ?_, hB2_h.out⟩
      · have a1 := h1_h.out
        have a2 := h2_h.out
        have a3 := hgb_h.out
        show gvB k v = leafB (k, v, noName)
        rw [Bool.eq_iff_iff]
        simp only [gvB, hvB, inB, leafB, decide_eq_true_eq]
        by_cases h7 : k = 7 ∨ k = 13
        · simp only [h7, if_true, decide_eq_true_eq, true_and]; omega
        · simp only [h7, if_false, decide_eq_true_eq, true_and, false_and, false_or]; omega
      · have := h1_h.out
        simp [leafTy, this]
end Go.Proofs.Ytlmnmdahphahfaa
