/-
  THE WALKS: identities and factors, the program's side.
-/
import Derived.Test.YtlmnmdahphahfaaTmMi
namespace Go.Proofs.Ytlmnmdahphahfaa
open Go.RowKit

def tvL (l : List Tr) : List Value := l.map trV
@[simp] theorem tvL_length (l : List Tr) : (tvL l).length = l.length := by simp [tvL]
theorem tvL_append (l m : List Tr) : tvL (l ++ m) = tvL l ++ tvL m := by simp [tvL]
theorem tvL_one (l : List Tr) : ∀ u ∈ tvL l, u.oneCell' = true := fun u hu => by
  obtain ⟨t, -, rfl⟩ := List.mem_map.1 hu
  exact trV_one t
/-- A new slice of trees. -/
def RetTs (l : List Tr) (w : World) (e : Ending) (w' : World) : Prop := ∃ A1 c1 m, e = .returned (.slice A1 m c1) ∧ m = l.length ∧ Sl w' tTree 1 A1 m c1 (tvL l) ∧ FreshL w.heap.size (fpA A1) ∧ Below w.heap.size w w'
section
variable {k x : Int} {s : ByteArray} {v : Value} {w : World}

set_option maxRecDepth 8000 in
set_option maxHeartbeats 2000000 in
theorem identityOf_id : Calls Try.prog 110 #[.iface tLeafT (.agg #[.int .i64 1, .int .i64 x, .string s])] w (fun e w' => e = .returned (.tuple #[.int .i64 x, .bool true]) ∧ Below w.heap.size w w') := by
  obtain ⟨W, hW⟩ : ∃ W, W = w.alloc (.cells #[.int .i64 1, .int .i64 x, .string s] tLeafT) := ⟨_, rfl⟩
  have b0 := below_alloc w (.cells #[.int .i64 1, .int .i64 x, .string s] tLeafT)
  have k0 := heap_alloc_new w (.cells #[.int .i64 1, .int .i64 x, .string s] tLeafT)
  rw [← hW] at b0 k0
  obtain ⟨⟨c0, c1, c2⟩, c3, c4, c5⟩ := box3 k0
  have b0_h := Lib.hid b0
  have k0_h := Lib.hid k0
  clear b0 k0
  have as1 := as_leaf_leaf
  go_enter Try.func110, Try.ntmps110
  go_wp2_with (fail)
  rw [← hW]
  clear hW
  go_quiet (fail)
  go_wp2_with (fail)
  go_ret2
  exact ⟨rfl, below_drewN b0_h.out _⟩

set_option maxRecDepth 8000 in
set_option maxHeartbeats 2000000 in
theorem identityOf_leaf (hk : k ≠ 1) : Calls Try.prog 110 #[.iface tLeafT (.agg #[.int .i64 k, .int .i64 x, .string s])] w (fun e w' => e = .returned (.tuple #[.int .i64 x, .bool false]) ∧ Below w.heap.size w w') := by
  obtain ⟨W, hW⟩ : ∃ W, W = w.alloc (.cells #[.int .i64 k, .int .i64 x, .string s] tLeafT) := ⟨_, rfl⟩
  have b0 := below_alloc w (.cells #[.int .i64 k, .int .i64 x, .string s] tLeafT)
  have k0 := heap_alloc_new w (.cells #[.int .i64 k, .int .i64 x, .string s] tLeafT)
  rw [← hW] at b0 k0
  obtain ⟨⟨c0, c1, c2⟩, c3, c4, c5⟩ := box3 k0
  have b0_h := Lib.hid b0
  have k0_h := Lib.hid k0
  clear b0 k0
  have hb : (k == 1) = false := by simpa using hk
  have as1 := as_leaf_leaf
  go_enter Try.func110, Try.ntmps110
  go_wp2_with (fail)
  rw [← hW]
  clear hW
  go_quiet (fail)
  go_wp2_with (fail)
  go_ret2
  exact ⟨rfl, below_drewN b0_h.out _⟩

set_option maxRecDepth 8000 in
set_option maxHeartbeats 2000000 in
theorem identityOf_seq : Calls Try.prog 110 #[.iface tSeqT v] w (fun e w' => e = .returned (.tuple #[.int .i64 0, .bool false]) ∧ Below w.heap.size w w') := by
  obtain ⟨W, hW⟩ : ∃ W, W = w.alloc (.cells #[.int .i64 0, .int .i64 0, .string noName] tLeafT) := ⟨_, rfl⟩
  have b0 := below_alloc w (.cells #[.int .i64 0, .int .i64 0, .string noName] tLeafT)
  have k0 := heap_alloc_new w (.cells #[.int .i64 0, .int .i64 0, .string noName] tLeafT)
  rw [← hW] at b0 k0
  obtain ⟨⟨c0, c1, c2⟩, c3, c4, c5⟩ := box3 k0
  have b0_h := Lib.hid b0
  have k0_h := Lib.hid k0
  clear b0 k0
  have as1 := as_seq_leaf
  go_enter Try.func110, Try.ntmps110
  go_wp2_with (fail)
  rw [← hW]
  clear hW
  go_quiet (fail)
  go_wp2_with (fail)
  go_ret2
  exact ⟨rfl, below_drewN b0_h.out _⟩

set_option maxRecDepth 8000 in
set_option maxHeartbeats 2000000 in
theorem identityOf_par : Calls Try.prog 110 #[.iface tParT v] w (fun e w' => e = .returned (.tuple #[.int .i64 0, .bool false]) ∧ Below w.heap.size w w') := by
  obtain ⟨W, hW⟩ : ∃ W, W = w.alloc (.cells #[.int .i64 0, .int .i64 0, .string noName] tLeafT) := ⟨_, rfl⟩
  have b0 := below_alloc w (.cells #[.int .i64 0, .int .i64 0, .string noName] tLeafT)
  have k0 := heap_alloc_new w (.cells #[.int .i64 0, .int .i64 0, .string noName] tLeafT)
  rw [← hW] at b0 k0
  obtain ⟨⟨c0, c1, c2⟩, c3, c4, c5⟩ := box3 k0
  have b0_h := Lib.hid b0
  have k0_h := Lib.hid k0
  clear b0 k0
  have as1 := as_par_leaf
  go_enter Try.func110, Try.ntmps110
  go_wp2_with (fail)
  rw [← hW]
  clear hW
  go_quiet (fail)
  go_wp2_with (fail)
  go_ret2
  exact ⟨rfl, below_drewN b0_h.out _⟩
theorem identityOf_any (t : Tr) (w : World) : Calls Try.prog 110 #[trV t] w (fun e w' => e = .returned (.tuple #[.int .i64 (valT t), .bool (isIdT t)]) ∧ Below w.heap.size w w') := by
  match t with
  | .leaf (k, x, s) =>
    by_cases hk : k = 1
    · subst hk; exact identityOf_id
    · have : isIdT (.leaf (k, x, s)) = false := decide_eq_false hk
      rw [this]; exact identityOf_leaf hk
  | .node false a b => exact identityOf_seq
  | .node true a b => exact identityOf_par
end

set_option maxRecDepth 8000 in
set_option maxHeartbeats 2000000 in
theorem seqFactors_leaf (k x : Int) (s : ByteArray) (w : World) : Calls Try.prog 111 #[trV (.leaf (k, x, s))] w (RetTs [(.leaf (k, x, s))] w) := by
  have hone := trV_one (.leaf (k, x, s))
  have e1 : trV (.leaf (k, x, s)) = .iface tLeafT (.agg #[.int .i64 k, .int .i64 x, .string s]) := rfl
  have e0 : (tvL [(.leaf (k, x, s))]) = [.iface tLeafT (.agg #[.int .i64 k, .int .i64 x, .string s])] := rfl
  unfold RetTs
  rw [e0, e1]
  rw [e1] at hone
  obtain ⟨W, hW⟩ : ∃ W, W = (w.alloc (.cells #[.nilIface, .nilIface] tSeqT)).alloc (.cells #[.iface tLeafT (.agg #[.int .i64 k, .int .i64 x, .string s])] tTree) := ⟨_, rfl⟩
  obtain ⟨b0, -, -, -⟩ := two_boxes w (.cells #[.nilIface, .nilIface] tSeqT) (.cells #[.iface tLeafT (.agg #[.int .i64 k, .int .i64 x, .string s])] tTree)
  have hsl := Sl.laid (w.alloc (.cells #[.nilIface, .nilIface] tSeqT)) tTree 1 1 #[.iface tLeafT (.agg #[.int .i64 k, .int .i64 x, .string s])] (by unfold maxLen; omega) rfl
  simp only [World.size_alloc] at hsl
  rw [← hW] at b0 hsl
  clear e0
  have b0_h := Lib.hid b0
  have hsl_h := Lib.hid hsl
  have e1_h := Lib.hid e1
  have hone_h := Lib.hid hone
  clear b0 hsl e1 hone
  have as1 := as_leaf_seq
  go_enter Try.func111, Try.ntmps111
  go_wp2_with (fail)
  rw [← hW]
  clear hW
  go_ret
  exact ⟨_, _, 1, rfl, rfl, hsl_h.out, fun b hb => (by simp at hb; omega), b0_h.out⟩

set_option maxRecDepth 8000 in
set_option maxHeartbeats 2000000 in
theorem seqFactors_par (a b : Tr) (w : World) : Calls Try.prog 111 #[trV (.node true a b)] w (RetTs [(.node true a b)] w) := by
  have hone := trV_one (.node true a b)
  have e1 : trV (.node true a b) = .iface tParT (.agg #[trV a, trV b]) := rfl
  have e0 : (tvL [(.node true a b)]) = [.iface tParT (.agg #[trV a, trV b])] := rfl
  unfold RetTs
  rw [e0, e1]
  rw [e1] at hone
  obtain ⟨W, hW⟩ : ∃ W, W = (w.alloc (.cells #[.nilIface, .nilIface] tSeqT)).alloc (.cells #[.iface tParT (.agg #[trV a, trV b])] tTree) := ⟨_, rfl⟩
  obtain ⟨b0, -, -, -⟩ := two_boxes w (.cells #[.nilIface, .nilIface] tSeqT) (.cells #[.iface tParT (.agg #[trV a, trV b])] tTree)
  have hsl := Sl.laid (w.alloc (.cells #[.nilIface, .nilIface] tSeqT)) tTree 1 1 #[.iface tParT (.agg #[trV a, trV b])] (by unfold maxLen; omega) rfl
  simp only [World.size_alloc] at hsl
  rw [← hW] at b0 hsl
  clear e0
  have b0_h := Lib.hid b0
  have hsl_h := Lib.hid hsl
  have e1_h := Lib.hid e1
  have hone_h := Lib.hid hone
  clear b0 hsl e1 hone
  have as1 := as_par_seq
  go_enter Try.func111, Try.ntmps111
  go_wp2_with (fail)
  rw [← hW]
  clear hW
  go_ret
  exact ⟨_, _, 1, rfl, rfl, hsl_h.out, fun b hb => (by simp at hb; omega), b0_h.out⟩

set_option maxRecDepth 8000 in
set_option maxHeartbeats 4000000 in
theorem seqFactors_node (a b : Tr) (w : World) (hIa : ∀ w, Calls Try.prog 111 #[trV a] w (RetTs (factors false a) w)) (hIb : ∀ w, Calls Try.prog 111 #[trV b] w (RetTs (factors false b) w))
    (hla : (factors false a).length ≤ 401) (hlb : (factors false b).length ≤ 401) :
    Calls Try.prog 111 #[trV (.node false a b)] w (RetTs (factors false (.node false a b)) w) := by
  have e1 : trV (.node false a b) = .iface tSeqT (.agg #[trV a, trV b]) := rfl
  have e2 : factors false (.node false a b) = factors false a ++ factors false b := rfl
  rw [e1, e2]
  unfold RetTs at hIa hIb ⊢
  rw [tvL_append]
  obtain ⟨Fa, hFa⟩ : ∃ F, F = factors false a := ⟨_, rfl⟩
  obtain ⟨Fb, hFb⟩ : ∃ F, F = factors false b := ⟨_, rfl⟩
  rw [← hFa] at hla hIa ⊢
  rw [← hFb] at hlb hIb ⊢
  obtain ⟨ta, pa, hva⟩ := trV_iface a
  obtain ⟨tb, pb, hvb⟩ := trV_iface b
  rw [hva] at hIa
  rw [hvb] at hIb
  rw [hva, hvb]
  obtain ⟨W, hW⟩ : ∃ W, W = w.alloc (.cells #[.iface ta pa, .iface tb pb] tSeqT) := ⟨_, rfl⟩
  have b0 := below_alloc w (.cells #[.iface ta pa, .iface tb pb] tSeqT)
  have k0 := heap_alloc_new w (.cells #[.iface ta pa, .iface tb pb] tSeqT)
  rw [← hW] at b0 k0
  clear e1 e2
  have b0_h := Lib.hid b0
  have k0_h := Lib.hid k0
  have hIa_h := Lib.hid hIa
  have hIb_h := Lib.hid hIb
  have hva_h := Lib.hid hva
  have hvb_h := Lib.hid hvb
  have hFa_h := Lib.hid hFa
  have hFb_h := Lib.hid hFb
  clear b0 k0 hIa hIb hva hvb hFa hFb
  have as1 := as_seq_seq
  go_enter Try.func111, Try.ntmps111
  go_upto_region 3 with (fail)
  rw [← hW]
  clear hW
  refine beginH (fun w' => w'.heap[w.heap.size]? = some (.cells #[.iface ta pa, .iface tb pb] tSeqT)) (by kernel_rfl) ?_
  have hbd : Below W.heap.size W W.drew := below_drew (Below.refl _ _)
  generalize W.drew = W1 at hbd ⊢
  replace k0_h := Lib.hid (box_below k0_h.out hbd)
  have hkW := box_lt k0_h.out
  have hB1 := below_trans b0_h.out hbd b0_h.out.size
  have hbd_h := Lib.hid hbd
  have hB1_h := Lib.hid hB1
  clear hbd hB1
  refine takeH 0 (v := ?_) rfl (by kernel_rfl) (by kernel_rfl) (by kernel_rfl) (fun _ _ _ h => h) k0_h.out (by rfl) (fun W' hW' => ?_) ?_; rotate_left; · (obtain ⟨⟨y0, y1⟩, y2, y3⟩ := box2 hW'; clear hW'; go_simp; first | done | with_reducible rfl)
  simp only [Act.put, List.setIfInBounds_toArray, List.set_cons_zero, List.set_cons_succ]
  refine takeH 1 (v := ?_) rfl (by kernel_rfl) (by kernel_rfl) (by kernel_rfl) (fun _ _ _ h => h) k0_h.out (by rfl) (fun W' hW' => ?_) ?_; rotate_left; · (obtain ⟨⟨y0, y1⟩, y2, y3⟩ := box2 hW'; clear hW'; go_simp; first | done | with_reducible rfl)
  simp only [Act.put, List.setIfInBounds_toArray, List.set_cons_zero, List.set_cons_succ]
  refine takeH 3 (v := ?_) rfl (by kernel_rfl) (by kernel_rfl) (by kernel_rfl) (fun _ _ _ h => h) k0_h.out (by rfl) (fun W' hW' => ?_) ?_; rotate_left; · (obtain ⟨⟨y0, y1⟩, y2, y3⟩ := box2 hW'; clear hW'; go_simp; first | done | with_reducible rfl)
  simp only [Act.put, List.setIfInBounds_toArray, List.set_cons_zero, List.set_cons_succ]
  refine takeH 4 (v := ?_) rfl (by kernel_rfl) (by kernel_rfl) (by kernel_rfl) (fun _ _ _ h => h) k0_h.out (by rfl) (fun W' hW' => ?_) ?_; rotate_left; · (obtain ⟨⟨y0, y1⟩, y2, y3⟩ := box2 hW'; clear hW'; go_simp; first | done | with_reducible rfl)
  simp only [Act.put, List.setIfInBounds_toArray, List.set_cons_zero, List.set_cons_succ]
  refine' callH 2 (f := _) (args := _) rfl (by kernel_rfl) (by rfl) ?_ ?_; rotate_left 2; · (go_simp; first | done | with_reducible rfl | (constructor <;> with_reducible rfl))
  refine (hIa_h.out _).mono ?_
  rintro e w2 ⟨A1, c1, m1, rfl, hm1, hN1, hF1, hb2⟩
  replace k0_h := Lib.hid (box_below k0_h.out hb2)
  have hB2 := below_trans hB1_h.out hb2 hB1_h.out.size
  refine ⟨_, rfl, k0_h.out, ?_⟩
  have hb2_h := Lib.hid hb2
  have hB2_h := Lib.hid hB2
  have hm1_h := Lib.hid hm1
  have hN1_h := Lib.hid hN1
  have hF1_h := Lib.hid hF1
  clear hb2 hB2 hm1 hN1 hF1
  simp only [Act.put, List.setIfInBounds_toArray, List.set_cons_zero, List.set_cons_succ]
  refine' callH 5 (f := _) (args := _) rfl (by kernel_rfl) (by rfl) ?_ ?_; rotate_left 2; · (go_simp; first | done | with_reducible rfl | (constructor <;> with_reducible rfl))
  refine (hIb_h.out _).mono ?_
  rintro e w3 ⟨A2, c2, m2, rfl, hm2, hN2, -, hb3⟩
  replace k0_h := Lib.hid (box_below k0_h.out hb3)
  have hB3 := below_trans hB2_h.out hb3 hB2_h.out.size
  have hN3 := hN1_h.out.below hb3
  have hl1 : m1 ≤ 401 := by rw [hm1_h.out]; exact hla
  have hl2 : m2 ≤ 401 := by rw [hm2]; exact hlb
  have hnl : (tvL Fb).length = m2 * 1 := by rw [tvL_length, hm2]; omega
  refine ⟨_, rfl, k0_h.out, ?_⟩
  have hb3_h := Lib.hid hb3
  have hB3_h := Lib.hid hB3
  have hm2_h := Lib.hid hm2
  have hN2_h := Lib.hid hN2
  have hN3_h := Lib.hid hN3
  have hnl_h := Lib.hid hnl
  clear hb3 hB3 hm2 hN2 hN3 hnl
  simp only [Act.put, List.setIfInBounds_toArray, List.set_cons_zero, List.set_cons_succ]
  refine appH 6 rfl (by kernel_rfl) (by rfl) _ _ _ rfl tTree Try.underlying105 info_tree rfl (by omega) rfl hN3_h.out rfl hnl_h.out (Sl.rdc hN2_h.out) (tvL_one Fb) (by unfold maxLen; omega) (by omega) ?_
  intro A3 c3 w4 hs4 hA4 hk4
  have hbz := hB1_h.out.size
  have hk1 := hF1_h.out
  have k5 := box_keeps k0_h.out hk4 (fun h => by have := hk1 _ h; omega)
  have hB4 := below_keeps hB3_h.out hk4 hB3_h.out.size (fun k hk => by have := hk1 k hk; omega)
  refine ⟨k5, ?_⟩
  have hs4_h := Lib.hid hs4
  have hA4_h := Lib.hid hA4
  have hk4_h := Lib.hid hk4
  have k5_h := Lib.hid k5
  have hB4_h := Lib.hid hB4
  clear hs4 hA4 hk4 k5 hB4
  clear hk1
  simp only [Act.put, List.setIfInBounds_toArray, List.set_cons_zero, List.set_cons_succ]
  refine takeH 7 (v := ?_) rfl (by kernel_rfl) (by kernel_rfl) (by kernel_rfl) (fun _ _ _ h => h) k5_h.out (by rfl) (fun W' hW' => ?_) ?_; rotate_left; · (skip; clear hW'; go_simp; first | done | with_reducible rfl)
  simp only [Act.put, List.setIfInBounds_toArray, List.set_cons_zero, List.set_cons_succ]
  refine doneH (by kernel_rfl) ?_
  go_wp2_with (fail)
  go_ret
  refine ⟨A3, c3, m1 + m2, rfl, by rw [List.length_append, hm1_h.out, hm2_h.out], hs4_h.out, fun b hb => ?_, hB4_h.out⟩
  rcases hA4_h.out b hb with h | h
  · have := hF1_h.out b h; omega
  · have := hB3_h.out.size; omega
theorem seqFactors_any : ∀ (t : Tr), sz t ≤ 400 → ∀ (w : World), Calls Try.prog 111 #[trV t] w (RetTs (factors false t) w)
  | .leaf (k, x, s), _, w => seqFactors_leaf k x s w
  | .node true a b, _, w => seqFactors_par a b w
  | .node false a b, hs, w => by
    have hsn := sz_node false a b
    have h1 := factors_sz false a
    have h2 := factors_sz false b
    exact seqFactors_node a b w (seqFactors_any a (by omega)) (seqFactors_any b (by omega)) (by omega) (by omega)

set_option maxRecDepth 8000 in
set_option maxHeartbeats 2000000 in
theorem parFactors_leaf (k x : Int) (s : ByteArray) (w : World) : Calls Try.prog 112 #[trV (.leaf (k, x, s))] w (RetTs [(.leaf (k, x, s))] w) := by
  have hone := trV_one (.leaf (k, x, s))
  have e1 : trV (.leaf (k, x, s)) = .iface tLeafT (.agg #[.int .i64 k, .int .i64 x, .string s]) := rfl
  have e0 : (tvL [(.leaf (k, x, s))]) = [.iface tLeafT (.agg #[.int .i64 k, .int .i64 x, .string s])] := rfl
  unfold RetTs
  rw [e0, e1]
  rw [e1] at hone
  obtain ⟨W, hW⟩ : ∃ W, W = (w.alloc (.cells #[.nilIface, .nilIface] tParT)).alloc (.cells #[.iface tLeafT (.agg #[.int .i64 k, .int .i64 x, .string s])] tTree) := ⟨_, rfl⟩
  obtain ⟨b0, -, -, -⟩ := two_boxes w (.cells #[.nilIface, .nilIface] tParT) (.cells #[.iface tLeafT (.agg #[.int .i64 k, .int .i64 x, .string s])] tTree)
  have hsl := Sl.laid (w.alloc (.cells #[.nilIface, .nilIface] tParT)) tTree 1 1 #[.iface tLeafT (.agg #[.int .i64 k, .int .i64 x, .string s])] (by unfold maxLen; omega) rfl
  simp only [World.size_alloc] at hsl
  rw [← hW] at b0 hsl
  clear e0
  have b0_h := Lib.hid b0
  have hsl_h := Lib.hid hsl
  have e1_h := Lib.hid e1
  have hone_h := Lib.hid hone
  clear b0 hsl e1 hone
  have as1 := as_leaf_par
  go_enter Try.func112, Try.ntmps112
  go_wp2_with (fail)
  rw [← hW]
  clear hW
  go_ret
  exact ⟨_, _, 1, rfl, rfl, hsl_h.out, fun b hb => (by simp at hb; omega), b0_h.out⟩

set_option maxRecDepth 8000 in
set_option maxHeartbeats 2000000 in
theorem parFactors_seq (a b : Tr) (w : World) : Calls Try.prog 112 #[trV (.node false a b)] w (RetTs [(.node false a b)] w) := by
  have hone := trV_one (.node false a b)
  have e1 : trV (.node false a b) = .iface tSeqT (.agg #[trV a, trV b]) := rfl
  have e0 : (tvL [(.node false a b)]) = [.iface tSeqT (.agg #[trV a, trV b])] := rfl
  unfold RetTs
  rw [e0, e1]
  rw [e1] at hone
  obtain ⟨W, hW⟩ : ∃ W, W = (w.alloc (.cells #[.nilIface, .nilIface] tParT)).alloc (.cells #[.iface tSeqT (.agg #[trV a, trV b])] tTree) := ⟨_, rfl⟩
  obtain ⟨b0, -, -, -⟩ := two_boxes w (.cells #[.nilIface, .nilIface] tParT) (.cells #[.iface tSeqT (.agg #[trV a, trV b])] tTree)
  have hsl := Sl.laid (w.alloc (.cells #[.nilIface, .nilIface] tParT)) tTree 1 1 #[.iface tSeqT (.agg #[trV a, trV b])] (by unfold maxLen; omega) rfl
  simp only [World.size_alloc] at hsl
  rw [← hW] at b0 hsl
  clear e0
  have b0_h := Lib.hid b0
  have hsl_h := Lib.hid hsl
  have e1_h := Lib.hid e1
  have hone_h := Lib.hid hone
  clear b0 hsl e1 hone
  have as1 := as_seq_par
  go_enter Try.func112, Try.ntmps112
  go_wp2_with (fail)
  rw [← hW]
  clear hW
  go_ret
  exact ⟨_, _, 1, rfl, rfl, hsl_h.out, fun b hb => (by simp at hb; omega), b0_h.out⟩

set_option maxRecDepth 8000 in
set_option maxHeartbeats 4000000 in
theorem parFactors_node (a b : Tr) (w : World) (hIa : ∀ w, Calls Try.prog 112 #[trV a] w (RetTs (factors true a) w)) (hIb : ∀ w, Calls Try.prog 112 #[trV b] w (RetTs (factors true b) w))
    (hla : (factors true a).length ≤ 401) (hlb : (factors true b).length ≤ 401) :
    Calls Try.prog 112 #[trV (.node true a b)] w (RetTs (factors true (.node true a b)) w) := by
  have e1 : trV (.node true a b) = .iface tParT (.agg #[trV a, trV b]) := rfl
  have e2 : factors true (.node true a b) = factors true a ++ factors true b := rfl
  rw [e1, e2]
  unfold RetTs at hIa hIb ⊢
  rw [tvL_append]
  obtain ⟨Fa, hFa⟩ : ∃ F, F = factors true a := ⟨_, rfl⟩
  obtain ⟨Fb, hFb⟩ : ∃ F, F = factors true b := ⟨_, rfl⟩
  rw [← hFa] at hla hIa ⊢
  rw [← hFb] at hlb hIb ⊢
  obtain ⟨ta, pa, hva⟩ := trV_iface a
  obtain ⟨tb, pb, hvb⟩ := trV_iface b
  rw [hva] at hIa
  rw [hvb] at hIb
  rw [hva, hvb]
  obtain ⟨W, hW⟩ : ∃ W, W = w.alloc (.cells #[.iface ta pa, .iface tb pb] tParT) := ⟨_, rfl⟩
  have b0 := below_alloc w (.cells #[.iface ta pa, .iface tb pb] tParT)
  have k0 := heap_alloc_new w (.cells #[.iface ta pa, .iface tb pb] tParT)
  rw [← hW] at b0 k0
  clear e1 e2
  have b0_h := Lib.hid b0
  have k0_h := Lib.hid k0
  have hIa_h := Lib.hid hIa
  have hIb_h := Lib.hid hIb
  have hva_h := Lib.hid hva
  have hvb_h := Lib.hid hvb
  have hFa_h := Lib.hid hFa
  have hFb_h := Lib.hid hFb
  clear b0 k0 hIa hIb hva hvb hFa hFb
  have as1 := as_par_par
  go_enter Try.func112, Try.ntmps112
  go_upto_region 3 with (fail)
  rw [← hW]
  clear hW
  refine beginH (fun w' => w'.heap[w.heap.size]? = some (.cells #[.iface ta pa, .iface tb pb] tParT)) (by kernel_rfl) ?_
  have hbd : Below W.heap.size W W.drew := below_drew (Below.refl _ _)
  generalize W.drew = W1 at hbd ⊢
  replace k0_h := Lib.hid (box_below k0_h.out hbd)
  have hkW := box_lt k0_h.out
  have hB1 := below_trans b0_h.out hbd b0_h.out.size
  have hbd_h := Lib.hid hbd
  have hB1_h := Lib.hid hB1
  clear hbd hB1
  refine takeH 0 (v := ?_) rfl (by kernel_rfl) (by kernel_rfl) (by kernel_rfl) (fun _ _ _ h => h) k0_h.out (by rfl) (fun W' hW' => ?_) ?_; rotate_left; · (obtain ⟨⟨y0, y1⟩, y2, y3⟩ := box2 hW'; clear hW'; go_simp; first | done | with_reducible rfl)
  simp only [Act.put, List.setIfInBounds_toArray, List.set_cons_zero, List.set_cons_succ]
  refine takeH 1 (v := ?_) rfl (by kernel_rfl) (by kernel_rfl) (by kernel_rfl) (fun _ _ _ h => h) k0_h.out (by rfl) (fun W' hW' => ?_) ?_; rotate_left; · (obtain ⟨⟨y0, y1⟩, y2, y3⟩ := box2 hW'; clear hW'; go_simp; first | done | with_reducible rfl)
  simp only [Act.put, List.setIfInBounds_toArray, List.set_cons_zero, List.set_cons_succ]
  refine takeH 3 (v := ?_) rfl (by kernel_rfl) (by kernel_rfl) (by kernel_rfl) (fun _ _ _ h => h) k0_h.out (by rfl) (fun W' hW' => ?_) ?_; rotate_left; · (obtain ⟨⟨y0, y1⟩, y2, y3⟩ := box2 hW'; clear hW'; go_simp; first | done | with_reducible rfl)
  simp only [Act.put, List.setIfInBounds_toArray, List.set_cons_zero, List.set_cons_succ]
  refine takeH 4 (v := ?_) rfl (by kernel_rfl) (by kernel_rfl) (by kernel_rfl) (fun _ _ _ h => h) k0_h.out (by rfl) (fun W' hW' => ?_) ?_; rotate_left; · (obtain ⟨⟨y0, y1⟩, y2, y3⟩ := box2 hW'; clear hW'; go_simp; first | done | with_reducible rfl)
  simp only [Act.put, List.setIfInBounds_toArray, List.set_cons_zero, List.set_cons_succ]
  refine' callH 2 (f := _) (args := _) rfl (by kernel_rfl) (by rfl) ?_ ?_; rotate_left 2; · (go_simp; first | done | with_reducible rfl | (constructor <;> with_reducible rfl))
  refine (hIa_h.out _).mono ?_
  rintro e w2 ⟨A1, c1, m1, rfl, hm1, hN1, hF1, hb2⟩
  replace k0_h := Lib.hid (box_below k0_h.out hb2)
  have hB2 := below_trans hB1_h.out hb2 hB1_h.out.size
  refine ⟨_, rfl, k0_h.out, ?_⟩
  have hb2_h := Lib.hid hb2
  have hB2_h := Lib.hid hB2
  have hm1_h := Lib.hid hm1
  have hN1_h := Lib.hid hN1
  have hF1_h := Lib.hid hF1
  clear hb2 hB2 hm1 hN1 hF1
  simp only [Act.put, List.setIfInBounds_toArray, List.set_cons_zero, List.set_cons_succ]
  refine' callH 5 (f := _) (args := _) rfl (by kernel_rfl) (by rfl) ?_ ?_; rotate_left 2; · (go_simp; first | done | with_reducible rfl | (constructor <;> with_reducible rfl))
  refine (hIb_h.out _).mono ?_
  rintro e w3 ⟨A2, c2, m2, rfl, hm2, hN2, -, hb3⟩
  replace k0_h := Lib.hid (box_below k0_h.out hb3)
  have hB3 := below_trans hB2_h.out hb3 hB2_h.out.size
  have hN3 := hN1_h.out.below hb3
  have hl1 : m1 ≤ 401 := by rw [hm1_h.out]; exact hla
  have hl2 : m2 ≤ 401 := by rw [hm2]; exact hlb
  have hnl : (tvL Fb).length = m2 * 1 := by rw [tvL_length, hm2]; omega
  refine ⟨_, rfl, k0_h.out, ?_⟩
  have hb3_h := Lib.hid hb3
  have hB3_h := Lib.hid hB3
  have hm2_h := Lib.hid hm2
  have hN2_h := Lib.hid hN2
  have hN3_h := Lib.hid hN3
  have hnl_h := Lib.hid hnl
  clear hb3 hB3 hm2 hN2 hN3 hnl
  simp only [Act.put, List.setIfInBounds_toArray, List.set_cons_zero, List.set_cons_succ]
  refine appH 6 rfl (by kernel_rfl) (by rfl) _ _ _ rfl tTree Try.underlying105 info_tree rfl (by omega) rfl hN3_h.out rfl hnl_h.out (Sl.rdc hN2_h.out) (tvL_one Fb) (by unfold maxLen; omega) (by omega) ?_
  intro A3 c3 w4 hs4 hA4 hk4
  have hbz := hB1_h.out.size
  have hk1 := hF1_h.out
  have k5 := box_keeps k0_h.out hk4 (fun h => by have := hk1 _ h; omega)
  have hB4 := below_keeps hB3_h.out hk4 hB3_h.out.size (fun k hk => by have := hk1 k hk; omega)
  refine ⟨k5, ?_⟩
  have hs4_h := Lib.hid hs4
  have hA4_h := Lib.hid hA4
  have hk4_h := Lib.hid hk4
  have k5_h := Lib.hid k5
  have hB4_h := Lib.hid hB4
  clear hs4 hA4 hk4 k5 hB4
  clear hk1
  simp only [Act.put, List.setIfInBounds_toArray, List.set_cons_zero, List.set_cons_succ]
  refine takeH 7 (v := ?_) rfl (by kernel_rfl) (by kernel_rfl) (by kernel_rfl) (fun _ _ _ h => h) k5_h.out (by rfl) (fun W' hW' => ?_) ?_; rotate_left; · (skip; clear hW'; go_simp; first | done | with_reducible rfl)
  simp only [Act.put, List.setIfInBounds_toArray, List.set_cons_zero, List.set_cons_succ]
  refine doneH (by kernel_rfl) ?_
  go_wp2_with (fail)
  go_ret
  refine ⟨A3, c3, m1 + m2, rfl, by rw [List.length_append, hm1_h.out, hm2_h.out], hs4_h.out, fun b hb => ?_, hB4_h.out⟩
  rcases hA4_h.out b hb with h | h
  · have := hF1_h.out b h; omega
  · have := hB3_h.out.size; omega
theorem parFactors_any : ∀ (t : Tr), sz t ≤ 400 → ∀ (w : World), Calls Try.prog 112 #[trV t] w (RetTs (factors true t) w)
  | .leaf (k, x, s), _, w => parFactors_leaf k x s w
  | .node false a b, _, w => parFactors_seq a b w
  | .node true a b, hs, w => by
    have hsn := sz_node true a b
    have h1 := factors_sz true a
    have h2 := factors_sz true b
    exact parFactors_node a b w (parFactors_any a (by omega)) (parFactors_any b (by omega)) (by omega) (by omega)
end Go.Proofs.Ytlmnmdahphahfaa
