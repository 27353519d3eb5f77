/-
  The program's HiddenValues returns what the reference's returns, for all arguments (laws.FnExactHiddenValues answers true): the tied card.
-/
import Derived.Test.YtjompikdkhhlgaaDoorKHiddenValues2
import Derived.Test.YtjompikdkhhlgaaDoorCards
import Derived.Test.YtjompikdkhhlgaaDoorTie
import Derived.ProofKit
import Derived.OpenShut
import Derived.Deep.DeepHandedRow
import Derived.Lib.LaidTab
import Derived.Deep.Matrix
import Derived.Lib.SmallJoins
namespace Go.Proofs.YtjompikdkhhlgaaDoor
open Go.RowKit
section
variable {P : Program}
theorem run_makeOpM {o : Oper} {a : Act} {w : World} (lo c : Operand) (t : TypeId) (ho : o.op = .makeSlice t lo c) (e : TypeId) {z : Value} {size bytes : Nat} (ht : P.underlying t = some (.slice e)) (hinfo : (P.info? e).map (fun i => (i.zero, i.size, i.bytes)) = some (some z, size, bytes))
  (n : Nat) (hel : a.eval lo = .int .i64 (n : Int)) (hec : a.eval c = .int .i64 (n : Int)) (hbytes : bytes * n ≤ 281474976710656) (h63 : n ≤ maxLen) :
  (execOp a.eval o).run P w = .ok (.value (.slice (some ⟨w.heap.size, 0, none⟩) n n)) (w.alloc (.cells (madeCells z.cells (n * size)) e)) := by
 obtain ⟨i, hi, hz, hz1, hz2⟩ := info_parts hinfo
 subst hz1 hz2
 have h63' : (n : Int) ≤ 9223372036854775807 := by simp only [maxLen] at h63; omega
 have hb' : (i.bytes : Int) * (n : Int) ≤ 281474976710656 := by
  have h : ((i.bytes * n : Nat) : Int) ≤ 281474976710656 := by omega
  rwa [Int.natCast_mul] at h
 have hrun := run_make (P := P) w t e i z ht hi hz .i64 .i64 n n (by omega) (by omega) hb' h63'
 simp only [Int.toNat_natCast] at hrun
 simp only [execOp, ho, hel, hec, hrun, Sem.run_bind, Sem.run_pure, Result.andThen_ok]
end
def RetMx (w : World) (m : Nat) (L : List (List Int)) (e : Ending) (w' : World) : Prop :=
 ∃ A cap hs, e = .returned (.agg #[.int .i64 (m : Int), .slice A L.length cap]) ∧ L = hs.map (fun h : Hd => h.2.2) ∧ OwR w' A cap hs ∧ (∀ b, b ∈ fpA A ++ fpR hs → w.heap.size ≤ b) ∧ Below w.heap.size w w'
theorem madeIntsM (w : World) (n : Nat) (h : n ≤ maxLen) : IS (w.alloc (.cells (madeCells (Value.int .i64 0).cells (n * 1)) 3)) (some ⟨w.heap.size, 0, none⟩) n (List.replicate n 0) := by
 rw [Nat.mul_one]
 exact IS.made w n h
set_option maxRecDepth 100000 in
set_option maxHeartbeats 4000000 in
theorem mxZero_any (n m : Nat) (w : World) (hn : n ≤ 1000) (hm : m ≤ 1000) :
  Calls Tryd.prog 58 #[.int .i64 (n : Int), .int .i64 (m : Int)] w (RetMx w m (List.replicate n (List.replicate m 0))) := by
 obtain ⟨W, hW, b0, k0⟩ := (⟨_, rfl, below_alloc _ _, heap_alloc_new _ _⟩ : ∃ W, W = w.alloc (.cells #[.int .i64 0, .slice none 0 0] tMat) ∧ Below w.heap.size w W ∧ W.heap[w.heap.size]? = some (.cells #[.int .i64 0, .slice none 0 0] tMat))
 have b0_h := lH b0; have k0_h := lH k0; clear b0 k0
 go_enter Tryd.func58, Tryd.ntmps58
 go_upto_region 1 with (fail)
 rw [← hW]
 have hWz : W.heap.size = w.heap.size + 1 := by rw [hW]; simp
 clear hW
 go_wp2_with (at_make; refine wpList_make_Sl _ rfl _ _ _ rfl 25 Tryd.underlying22 info_ints n n rfl rfl rfl rfl (Nat.le_refl _) (by omega) (by unfold maxLen; omega) ?_; intro G w1 hs1 hG hb1)
 have hGl : G.block < w1.heap.size := hs1.lt G.block (by simp)
 obtain ⟨W2, hW2⟩ : ∃ W2, W2 = w1.alloc (.cells #[.int .i64 (m : Int), .slice (some G) n n] tMat) := ⟨_, rfl⟩
 rw [← hW2]
 have b2 : Below w1.heap.size w1 W2 := by rw [hW2]; exact below_alloc _ _
 have k5 : W2.heap[w1.heap.size]? = some (.cells #[.int .i64 (m : Int), .slice (some G) n n] tMat) := by rw [hW2]; exact heap_alloc_new _ _
 have k4 := box_below (box_below k0_h.out hb1) b2
 have hbW2 := below_trans (below_trans b0_h.out hb1 b0_h.out.size) b2 (by have := hb1.size; omega)
 have his0 : Sl W2 25 1 (some G) n n ((List.replicate n nilHd).map Hd.val) := by
  have := hs1.below b2
  rw [← madeNils]; simpa using this
 have hz2 := b2.size
 have hz1 := hb1.size
 clear hW2 hs1; have b2_h := lH b2; have k5_h := lH k5; have k4_h := lH k4; have hbW2_h := lH hbW2; have his0_h := lH his0; have hb1_h := lH hb1; clear b2 k5 k4 hbW2 his0 hb1
 go_loopw [14] (fun i wr => ∃ (k : Nat) (ys : List Hd), k = ys.length ∧ k ≤ n ∧ i = .int .i64 k ∧ ys.map (fun h : Hd => h.2.2) = List.replicate k (List.replicate m 0) ∧ Sl wr 25 1 (some G) n n ((ys ++ List.replicate (n - k) nilHd).map Hd.val) ∧ NewR wr W2.heap.size ys ∧ Below w.heap.size w wr ∧ W2.heap.size ≤ wr.heap.size ∧
  wr.heap[w1.heap.size]? = some (.cells #[.int .i64 (m : Int), .slice (some G) n n] tMat) ∧ wr.heap[w.heap.size]? = some (.cells #[.int .i64 0, .slice none 0 0] tMat)) (fun i _ => n - (intOf i).toNat)
 case atStart => exact ⟨0, [], rfl, Nat.zero_le _, rfl, rfl, by simpa using his0_h.out, NewR.nil _ _, hbW2_h.out, Nat.le_refl _, k5_h.out, k4_h.out⟩
 case round =>
  clear his0_h k5_h k4_h hbW2_h b2_h
  obtain ⟨k, ys, hk, hkn, rfl, hys, his, hnew, hb, hsz, kx, ky⟩ := hrel
  obtain ⟨wo, rfl⟩ : ∃ x, x = wr := ⟨_, rfl⟩
  by_cases hlt : k < n
  · have hnk : (k : Int) < (n : Int) := by omega
    have hbd : Below wo.heap.size wo wo.drew := below_drewN (Below.refl _ _) 1
    obtain ⟨w3, hw3⟩ : ∃ w3, w3 = wo.drew.alloc (.cells (madeCells (Value.int .i64 0).cells (m * 1)) 3) := ⟨_, rfl⟩
    have hb3' : Below wo.drew.heap.size wo.drew w3 := by rw [hw3]; exact below_alloc _ _
    have hb3 : Below wo.heap.size wo w3 := below_trans hbd hb3' hbd.size
    have hdz : wo.drew.heap.size = wo.heap.size := rfl
    have h1 : IS w3 (some ⟨wo.drew.heap.size, 0, none⟩) m (List.replicate m 0) := by rw [hw3]; exact madeIntsM wo.drew m (by unfold maxLen; omega)
    have hf1 : Fresh wo.heap.size (some ⟨wo.drew.heap.size, 0, none⟩) := fun b hb => by
     have : b = wo.drew.heap.size := by simpa using hb
     omega
    have his3 := his.below hb3
    have hset := his3.set (ad := G) rfl k (Hd.val (some ⟨wo.drew.heap.size, 0, none⟩, m, List.replicate m 0)) (by rw [List.length_map, List.length_append, List.length_replicate, ← hk]; omega)
    obtain ⟨G', hGe, _, hcg, hfz'⟩ := his3.cell (j := k) (u := nilHd.val) (by rw [List.getElem?_map, List.getElem?_append_right (by omega), List.getElem?_replicate, if_pos (by omega)]; rfl)
    obtain rfl := Option.some.inj hGe
    have hfz := hfz' k
    rw [← List.map_set] at hset
    have hst : (ys ++ List.replicate (n - k) nilHd).set k (some ⟨wo.drew.heap.size, 0, none⟩, m, List.replicate m 0) = (ys ++ [(some ⟨wo.drew.heap.size, 0, none⟩, m, List.replicate m 0)]) ++ List.replicate (n - (k + 1)) nilHd := by
     have := set_replicate_step ys (some ⟨wo.drew.heap.size, 0, none⟩, m, List.replicate m 0) nilHd (n := n) (by rw [← hk]; exact hlt)
     rw [← hk] at this; exact this
    rw [hst] at hset
    have hval : Hd.val (some ⟨wo.drew.heap.size, 0, none⟩, m, List.replicate m 0) = .slice (some ⟨wo.drew.heap.size, 0, none⟩) m m := by simp [Hd.val]
    rw [hval] at hset
    have hkp := (Keeps.refl (fun b => b = G.block) w3).setCell (p := G.add k) (by rw [block_of_add]) (.slice (some ⟨wo.drew.heap.size, 0, none⟩) m m)
    have hnw := (hnew.snoc (x := (some ⟨wo.drew.heap.size, 0, none⟩, m, List.replicate m 0)) hb3 hsz h1 hf1).keeps (w' := w3.setCell (G.add k) (.slice (some ⟨wo.drew.heap.size, 0, none⟩) m m)) (S := fun b => b = G.block) hkp (fun b hb e => by omega)
    have hb5 : Below w.heap.size w (w3.setCell (G.add k) (.slice (some ⟨wo.drew.heap.size, 0, none⟩) m m)) := (below_trans hb hb3 hb.size).setCell (p := G.add k) (by rw [block_of_add]; omega) _
    have hys5 : (ys ++ [((some ⟨wo.drew.heap.size, 0, none⟩, m, List.replicate m 0) : Hd)]).map (fun h : Hd => h.2.2) = List.replicate (k + 1) (List.replicate m 0) := by
     rw [List.map_append, hys, List.replicate_succ']; rfl
    have hs5 : W2.heap.size ≤ (w3.setCell (G.add k) (.slice (some ⟨wo.drew.heap.size, 0, none⟩) m m)).heap.size := by have := hb3.size; have := hkp.size; omega
    have kxd := box_below kx hbd
    have kx3 := box_below kx hb3
    have kx5 := box_keeps kx3 hkp (by omega)
    have ky5 := box_keeps (box_below ky hb3) hkp (by omega)
    have hkl : (ys ++ [((some ⟨wo.drew.heap.size, 0, none⟩, m, List.replicate m 0) : Hd)]).length = k + 1 := by rw [List.length_append, ← hk]; rfl
    obtain ⟨⟨e0, e1⟩, e2, e3⟩ := box2 kx
    clear hst his3 his hfz' hGe hval hkp hys hnew hb h1 hf1 hbd hb3 hb3' ky hk kx hdz; have hset_h := lH hset; have hnw_h := lH hnw; have hb5_h := lH hb5; have hys5_h := lH hys5; have hs5_h := lH hs5; have kxd_h := lH kxd; have kx3_h := lH kx3; have kx5_h := lH kx5; have ky5_h := lH ky5; have hkl_h := lH hkl; clear hset hnw hb5 hys5 hs5 kxd kx3 kx5 ky5 hkl
    go_wp2_with (fail)
    clear e0 e1 e2 e3
    refine beginH (fun w' => w'.heap[w1.heap.size]? = some (.cells #[.int .i64 (m : Int), .slice (some G) n n] tMat)) (by kernel_rfl) ?_
    refine tkH 0 ?_ rfl kxd_h.out (fun W' hW' => ?_) ?_; rotate_left; · (obtain ⟨⟨x0, x1⟩, x2, x3⟩ := box2 hW'; clear hW'; go_simp; first | done | with_reducible rfl)
    simp only [Act.put, nS]
    refine tkH 1 ?_ rfl kxd_h.out (fun W' hW' => ?_) ?_; rotate_left; · (obtain ⟨⟨x0, x1⟩, x2, x3⟩ := box2 hW'; clear hW'; go_simp; first | done | with_reducible rfl)
    simp only [Act.put, nS]
    refine tkH 2 ?_ rfl kxd_h.out (fun W' hW' => ?_) ?_; rotate_left; · (obtain ⟨⟨x0, x1⟩, x2, x3⟩ := box2 hW'; clear hW'; go_simp; first | done | with_reducible rfl)
    simp only [Act.put, nS]
    refine tkH 3 ?_ rfl kxd_h.out (fun W' hW' => ?_) ?_; rotate_left; · (obtain ⟨⟨x0, x1⟩, x2, x3⟩ := box2 hW'; clear hW'; go_simp; first | done | with_reducible rfl)
    simp only [Act.put, nS]
    refine runH 4 rfl (by kernel_rfl) (by rfl) (run_makeOpM _ _ _ rfl 3 Tryd.underlying25 info_int m rfl rfl (by omega) (by unfold maxLen; omega)) (by rw [← hw3]; exact kx3_h.out) ?_
    simp only [Act.put, nS]
    rw [← hw3]
    clear hw3
    refine tkH 5 ?_ rfl kx3_h.out (fun W' hW' => ?_) ?_; rotate_left; · (skip; clear hW'; go_simp; first | done | with_reducible rfl)
    simp only [Act.put, nS]
    refine oneH 6 rfl (by kernel_rfl) (by rfl) (fun K hK => ?_)
    go_simp
    refine hK _ _ kx5_h.out ?_
    clear hK K
    refine doneH (by kernel_rfl) ?_
    go_wp2_with (fail)
    go_roundw
    case rel => exact ⟨k + 1, _, hkl_h.out.symm, by omega, by go_num, hys5_h.out, hset_h.out, hnw_h.out, hb5_h.out, hs5_h.out, kx5_h.out, ky5_h.out⟩
    case measure => simp [intOf]; omega
  · obtain rfl : k = n := by omega
    rw [Nat.sub_self, List.replicate_zero, List.append_nil] at his
    obtain ⟨⟨e0, e1⟩, e2, e3⟩ := box2 kx
    obtain ⟨⟨g0, g1⟩, g2, g3⟩ := box2 ky
    obtain ⟨s1, s2⟩ := set2 (a := .int .i64 (m : Int)) (b := .slice (some G) k k) ky
    have hb9 := below_keeps hb s2 hb.size (fun b hb => by omega)
    have hb10 := hb1_h.out.size
    have hO : OwR wo (some G) k ys := ⟨by rw [← hk]; exact his, hnew.rows, hnew.apart, fun x hx b hb1 hb2 => by
     have := hnew.new x hx b hb1
     simp at hb2
     omega⟩
    have hfr : ∀ b, b ∈ fpA (some G) ++ fpR ys → w.heap.size + 1 ≤ b := fun b hb' => by
     rcases List.mem_append.1 hb' with hb' | hb'
     · simp at hb'; omega
     · obtain ⟨x, hx, hb'⟩ := mem_fpR.1 hb'
       have := hnew.new x hx b hb'
       omega
    have hO9 := hO.keeps s2 (fun b hb e => by have := hfr b hb; omega)
    clear hO his hnew hb kx ky; have s1_h := lH s1; have s2_h := lH s2; have hb9_h := lH hb9; have hO9_h := lH hO9; have hfr_h := lH hfr; have hys_h := lH hys; have hk_h := lH hk; clear s1 s2 hb9 hO9 hfr hys hk
    go_wp2_with (fail)
    refine bodyPost_ret (results_cell_row rfl _ _ w.heap.size _ _ (0, 0) _ rfl s1_h.out Tryd.underlying54 rfl (by kernel_rfl)) rfl ?_
    exact ⟨some G, k, ys, by rw [List.length_replicate], hys_h.out.symm, hO9_h.out, fun b hb => by have := hfr_h.out b hb; omega, hb9_h.out⟩
def MX (Sp : Nat → Prop) (w : World) (A : Option Addr) (cap : Nat) (L : List (List Int)) : Prop :=
 ∃ hs : List Hd, L = hs.map (fun h : Hd => h.2.2) ∧ OwR w A cap hs ∧ ∀ b, b ∈ fpA A ++ fpR hs → Sp b
section
variable {Sp : Nat → Prop} {w w' : World} {A : Option Addr} {cap : Nat} {L : List (List Int)}
theorem MX.of_own {w0 : World} {hs : List Hd} (hO : OwR w A cap hs) (hf : ∀ b, b ∈ fpA A ++ fpR hs → w0.heap.size ≤ b) : MX (fun b => w0.heap.size ≤ b ∧ b < w.heap.size) w A cap (hs.map fun h : Hd => h.2.2) := ⟨hs, rfl, hO, fun b hb => ⟨hf b hb, hO.lt b hb⟩⟩
theorem MX.below (h : MX Sp w A cap L) (hb : Below w.heap.size w w') : MX Sp w' A cap L := by
 obtain ⟨hs, hL, hO, hf⟩ := h
 exact ⟨hs, hL, hO.below hb, hf⟩
theorem MX.keeps (h : MX Sp w A cap L) {S : Nat → Prop} (hk : Keeps S w w') (hS : ∀ b, Sp b → ¬ S b) : MX Sp w' A cap L := by
 obtain ⟨hs, hL, hO, hf⟩ := h
 exact ⟨hs, hL, hO.keeps hk fun b hb => hS b (hf b hb), hf⟩
theorem MX.rd (h : MX Sp w A cap L) : ∃ hs : List Hd, L = hs.map (fun h : Hd => h.2.2) ∧ RdR w A hs := by
 obtain ⟨hs, hL, hO, hf⟩ := h
 exact ⟨hs, hL, hO.rd⟩
theorem MX.get (h : MX Sp w A cap L) {i : Nat} (hi' : i < L.length) : ∃ ad B c, A = some ad ∧ w.cell? (ad.add i) = some (.slice B (L.getD i []).length c) ∧ w.frozen? (ad.add i) = false ∧ IS w B c (L.getD i []) ∧ ∀ b, b ∈ fpA B → Sp b := by
 obtain ⟨hs, rfl, hO, hf⟩ := h
 obtain ⟨ad, B, c, l, hA, hx, hc, hz, hI⟩ := hO.get (i := i) (by simpa using hi')
 rw [getD_map_hd hx]
 exact ⟨ad, B, c, hA, hc, hz, hI, fun b hb => hf b (List.mem_append_right _ (mem_fpR.2 ⟨_, List.mem_of_getElem? hx, hb⟩))⟩
theorem MX.wr (h : MX Sp w A cap L) {i : Nat} (hi' : i < L.length) {ad : Addr} (hA : A = some ad) {B : Option Addr} {n c : Nat} (hc : w.cell? (ad.add i) = some (.slice B n c)) {l' : List Int} (hl : l'.length = (L.getD i []).length) (hw : Wr w w' B (ints l')) :
  MX Sp w' A cap (L.set i l') ∧ Keeps Sp w w' := by
 obtain ⟨hs, rfl, hO, hf⟩ := h
 obtain ⟨ad', B', c', l, hA', hx, hc', hz, hI⟩ := hO.get (i := i) (by simpa using hi')
 rw [hA] at hA'
 obtain rfl := Option.some.inj hA'
 rw [hc] at hc'
 injection hc' with hc'
 injection hc' with e1 e2 e3
 subst e1
 rw [getD_map_hd hx] at hl
 have hm := List.mem_of_getElem? hx
 refine ⟨⟨hs.set i (B, c', l'), by rw [List.map_set], hO.wr hx hw hl, fun b hb => ?_⟩, hw.1.mono fun b _ hb => hf b (List.mem_append_right _ (mem_fpR.2 ⟨_, hm, hb⟩))⟩
 rcases List.mem_append.1 hb with hb | hb
 · exact hf b (List.mem_append_left _ hb)
 · exact hf b (List.mem_append_right _ (fpR_set hx b hb))
theorem MX.set (h : MX Sp w A cap L) {i : Nat} (hi' : i < L.length) {ad : Addr} (hA : A = some ad) {bd : Addr} {n c : Nat} (hc : w.cell? (ad.add i) = some (.slice (some bd) n c)) {j : Nat} (hj : j < (L.getD i []).length) (x : Int) :
  MX Sp (w.setCell (bd.add j) (.int .i64 x)) A cap (L.set i ((L.getD i []).set j x)) ∧ Keeps Sp w (w.setCell (bd.add j) (.int .i64 x)) := by
 obtain ⟨ad', B, c', hA', hc', _, hI, _⟩ := h.get hi'
 rw [hA] at hA'
 obtain rfl := Option.some.inj hA'
 have hc2 := hc'
 rw [hc] at hc2
 injection hc2 with hc2
 injection hc2 with e1 e2 e3
 exact h.wr hi' hA hc (by simp) (IS.wr1 (e1 ▸ hI) rfl hj x)
theorem MX.swap (h : MX Sp w A cap L) {r k : Nat} (hr : r < L.length) (hk : k < L.length) {ad : Addr} (hA : A = some ad) {V U : Value} (hV : w.cell? (ad.add k) = some V) (hU : w.cell? (ad.add r) = some U) :
  MX Sp ((w.setCell (ad.add r) V).setCell (ad.add k) U) A cap (swapL L r k) ∧ Keeps Sp w ((w.setCell (ad.add r) V).setCell (ad.add k) U) := by
 obtain ⟨hs, rfl, hO, hf⟩ := h
 have hr' : r < hs.length := by simpa using hr
 have hk' : k < hs.length := by simpa using hk
 have cellOf : ∀ i (hi : i < hs.length) X, w.cell? (ad.add i) = some X → X = hs[i].val := by
  intro i hi X hX
  obtain ⟨ad', B, c, l, hA', hx, hc, _⟩ := hO.get (i := i) hi
  rw [hA] at hA'
  obtain rfl := Option.some.inj hA'
  rw [hX] at hc
  rw [List.getElem?_eq_getElem hi] at hx
  rw [Option.some.inj hx]
  exact Option.some.inj hc
 rw [cellOf k hk' V hV, cellOf r hr' U hU]
 have hp := swapH_perm hr' hk'
 refine ⟨⟨_, (swapH_map hr' hk').symm, hO.swap hr' hk' hA, fun b hb => ?_⟩, ?_⟩
 · rcases List.mem_append.1 hb with hb | hb
   · exact hf b (List.mem_append_left _ hb)
   · exact hf b (List.mem_append_right _ (fpR_perm hp b hb))
 · have hkp : Keeps (· ∈ fpA A) w ((w.setCell (ad.add r) hs[k].val).setCell (ad.add k) hs[r].val) :=
    ((Keeps.refl _ w).setCell (p := ad.add r) (by rw [block_of_add, hA]; simp) _).setCell (p := ad.add k) (by rw [block_of_add, hA]; simp) _
   exact hkp.mono fun b _ hb => hf b (List.mem_append_left _ hb)
theorem MX.mono {Tp : Nat → Prop} (h : MX Sp w A cap L) (hS : ∀ b, Sp b → Tp b) : MX Tp w A cap L := by
 obtain ⟨hs, hL, hO, hf⟩ := h
 exact ⟨hs, hL, hO, fun b hb => hS b (hf b hb)⟩
end
def idTo (n k : Nat) : List (List Int) := (List.range n).map fun i => if i < k then unitV n i else List.replicate n 0
@[simp] theorem idTo_length (n k : Nat) : (idTo n k).length = n := by simp [idTo]
theorem idTo_get {n k i : Nat} (hi : i < n) : (idTo n k).getD i [] = if i < k then unitV n i else List.replicate n 0 := by simp [idTo, List.getD, hi]
theorem idTo_zero (n : Nat) : idTo n 0 = List.replicate n (List.replicate n 0) := by
 unfold idTo
 rw [List.eq_replicate_iff]
 refine ⟨by simp, fun v hv => ?_⟩
 obtain ⟨i, _, rfl⟩ := List.mem_map.1 hv
 simp
theorem idTo_all (n : Nat) : idTo n n = idM n := by
 unfold idTo idM
 exact List.map_congr_left fun i hi => by simp [List.mem_range.1 hi]
theorem unit_set {n i : Nat} : (List.replicate n (0 : Int)).set i 1 = unitV n i := by
 apply List.ext_getElem?
 intro k
 by_cases hk : k < n
 · unfold unitV
   rw [List.getElem?_set, List.getElem?_map, List.getElem?_range hk]
   by_cases h : i = k
   · subst h; simp [hk]
   · simp [h, hk]; intro e; exact absurd e.symm h
 · unfold unitV
   rw [List.getElem?_eq_none (by simpa using hk), List.getElem?_eq_none (by simpa using hk)]
theorem idTo_step {n k : Nat} (hk : k < n) : (idTo n k).set k (((idTo n k).getD k []).set k 1) = idTo n (k + 1) := by
 rw [idTo_get hk, if_neg (Nat.lt_irrefl k), unit_set]
 apply List.ext_getElem?
 intro j
 unfold idTo
 rw [List.getElem?_set, List.length_map, List.length_range]
 by_cases hj : j < n
 · rw [List.getElem?_map, List.getElem?_map, List.getElem?_range hj]
   by_cases h : k = j
   · subst h; simp [hk]
   · rw [if_neg h]
     by_cases h2 : j < k
     · simp [h2, (by omega : j < k + 1)]
     · simp [h2]
       intro h3
       exact absurd h3 (by omega)
 · rw [List.getElem?_eq_none (by simpa using hj), List.getElem?_eq_none (by simpa using hj), if_neg (by omega)]
set_option maxRecDepth 100000 in
set_option maxHeartbeats 4000000 in
theorem mxId_any (n : Nat) (w : World) (hn : n ≤ 1000) :
  Calls Tryd.prog 82 #[.int .i64 (n : Int)] w (RetMx w n (idM n)) := by
 obtain ⟨W, hW, b0, k0⟩ := (⟨_, rfl, below_alloc _ _, heap_alloc_new _ _⟩ : ∃ W, W = w.alloc (.cells #[.int .i64 0, .slice none 0 0] tMat) ∧ Below w.heap.size w W ∧ W.heap[w.heap.size]? = some (.cells #[.int .i64 0, .slice none 0 0] tMat))
 have hWz : W.heap.size = w.heap.size + 1 := by rw [hW]; simp
 have hZ := fun (W' : World) => mxZero_any n n W' hn hn
 have b0_h := lH b0; have k0_h := lH k0; have hZ_h := lH hZ; clear b0 k0 hZ
 go_enter Tryd.func82, Tryd.ntmps82
 go_upto_region 1 with (fail)
 rw [← hW]
 clear hW
 go_wp2_with (fail)
 refine (hZ_h.out _).mono ?_
 rintro e w1 ⟨A, c, hs, rfl, hL, hO, hf, hb1⟩
 rw [List.length_replicate]
 have hM := MX.of_own hO hf
 rw [← hL, ← idTo_zero] at hM
 obtain ⟨W2, hW2⟩ : ∃ W2, W2 = w1.alloc (.cells #[.int .i64 (n : Int), .slice A n c] tMat) := ⟨_, rfl⟩
 have b2 : Below w1.heap.size w1 W2 := by rw [hW2]; exact below_alloc _ _
 have k5 : W2.heap[w1.heap.size]? = some (.cells #[.int .i64 (n : Int), .slice A n c] tMat) := by rw [hW2]; exact heap_alloc_new _ _
 have k4 := box_below (box_below k0_h.out hb1) b2
 have hz1 := hb1.size
 have hbW2 := below_trans (below_trans b0_h.out hb1 b0_h.out.size) b2 (by omega)
 have hM2 := hM.below b2
 clear hL hO hf hM hb1 b2; have k5_h := lH k5; have k4_h := lH k4; have hbW2_h := lH hbW2; have hM2_h := lH hM2; clear k5 k4 hbW2 hM2
 go_upto_region 3 with (fail)
 rw [← hW2]
 clear hW2
 go_loopw [4] (fun i wr => ∃ (k : Nat), k ≤ n ∧ i = .int .i64 k ∧ MX (fun b => W.heap.size ≤ b ∧ b < w1.heap.size) wr A c (idTo n k) ∧ Below w.heap.size w wr ∧ wr.heap[w1.heap.size]? = some (.cells #[.int .i64 (n : Int), .slice A n c] tMat) ∧ wr.heap[w.heap.size]? = some (.cells #[.int .i64 0, .slice none 0 0] tMat)) (fun i _ => n - (intOf i).toNat)
 case atStart => exact ⟨0, Nat.zero_le _, rfl, hM2_h.out, hbW2_h.out, k5_h.out, k4_h.out⟩
 case round =>
  clear hM2_h hbW2_h k5_h k4_h
  obtain ⟨k, hk, rfl, hM, hb, kx, ky⟩ := hrel
  obtain ⟨wo, rfl⟩ : ∃ x, x = wr := ⟨_, rfl⟩
  obtain ⟨⟨e0, e1⟩, e2, e3⟩ := box2 kx
  by_cases hlt : k < n
  · have hnk : (k : Int) < (n : Int) := by omega
    obtain ⟨ad, B, cb, rfl, hc, hz, hI, hsp⟩ := hM.get (i := k) (by simpa using hlt)
    have hgl : ((idTo n k).getD k []).length = n := by rw [idTo_get hlt]; split <;> simp [unitV]
    obtain ⟨bd, y, rfl, _, _, hcy, hfy⟩ := hI.at_ (j := k) (by rw [hgl]; exact hlt)
    have hfy := hfy k
    obtain ⟨hs1, hs2⟩ := hM.set (i := k) (by simpa using hlt) rfl hc (j := k) (by rw [hgl]; exact hlt) 1
    rw [idTo_step hlt] at hs1
    rw [hgl] at hc
    have hb' := below_keeps hb hs2 hb.size (fun b hb => by have := hb.1; omega)
    have kx' := box_keeps kx hs2 (fun h => by have := h.2; omega)
    have ky' := box_keeps ky hs2 (fun h => by have := h.1; omega)
    clear hM hI hgl hs2 hb kx ky hsp; have hs1_h := lH hs1; have hb'_h := lH hb'; have kx'_h := lH kx'; have ky'_h := lH ky'; clear hs1 hb' kx' ky'
    go_wp2_with (fail)
    go_roundw
    case rel => exact ⟨k + 1, by omega, by go_num, hs1_h.out, hb'_h.out, kx'_h.out, ky'_h.out⟩
    case measure => simp [intOf]; omega
  · obtain rfl : k = n := by omega
    rw [idTo_all] at hM
    obtain ⟨⟨g0, g1⟩, g2, g3⟩ := box2 ky
    obtain ⟨s1, s2⟩ := set2 (a := .int .i64 (k : Int)) (b := .slice A k c) ky
    have hb9 := below_keeps hb s2 hb.size (fun b hb => by omega)
    have hM9 := hM.keeps s2 (fun b h1 e => by have := h1.1; have := h1.2; omega)
    have hil : (idM k).length = k := by simp [idM]
    clear hM hb kx ky; have s1_h := lH s1; have s2_h := lH s2; have hb9_h := lH hb9; have hM9_h := lH hM9; have hil_h := lH hil; clear s1 s2 hb9 hM9 hil
    go_wp2_with (fail)
    refine bodyPost_ret (results_cell_row rfl _ _ w.heap.size _ _ (0, 0) _ rfl s1_h.out Tryd.underlying54 rfl (by kernel_rfl)) rfl ?_
    obtain ⟨hs, h1, h2, h3⟩ := hM9_h.out
    exact ⟨A, c, hs, by rw [hil_h.out], h1, h2, fun b hb => by have := (h3 b hb).1; omega, hb9_h.out⟩
def trTo (L : List (List Int)) (m N i j : Nat) : List (List Int) := (List.range m).map fun c => (List.range N).map fun r => if r < i ∨ (r = i ∧ c < j) then (L.getD r []).getD c 0 else 0
@[simp] theorem trTo_length (L : List (List Int)) (m N i j : Nat) : (trTo L m N i j).length = m := by simp [trTo]
theorem trTo_get {L : List (List Int)} {m N i j c : Nat} (hc : c < m) : (trTo L m N i j).getD c [] = (List.range N).map fun r => if r < i ∨ (r = i ∧ c < j) then (L.getD r []).getD c 0 else 0 := by simp [trTo, List.getD, hc]
theorem trTo_len {L : List (List Int)} {m N i j c : Nat} (hc : c < m) : ((trTo L m N i j).getD c []).length = N := by rw [trTo_get hc]; simp
theorem trTo_zero (L : List (List Int)) (m N : Nat) : trTo L m N 0 0 = List.replicate m (List.replicate N 0) := by
 unfold trTo
 rw [List.eq_replicate_iff]
 refine ⟨by simp, fun v hv => ?_⟩
 obtain ⟨c, _, rfl⟩ := List.mem_map.1 hv
 rw [List.eq_replicate_iff]
 refine ⟨by simp, fun x hx => ?_⟩
 obtain ⟨r, _, rfl⟩ := List.mem_map.1 hx
 simp
theorem trTo_row (L : List (List Int)) (m N i : Nat) : trTo L m N i m = trTo L m N (i + 1) 0 := by
 unfold trTo
 refine List.map_congr_left fun c hc => List.map_congr_left fun r _ => ?_
 have := List.mem_range.1 hc
 congr 1
 simp only [eq_iff_iff]
 omega
theorem trTo_step {L : List (List Int)} {m N i j : Nat} (hj : j < m) : (trTo L m N i j).set j (((trTo L m N i j).getD j []).set i ((L.getD i []).getD j 0)) = trTo L m N i (j + 1) := by
 rw [trTo_get hj]
 apply List.ext_getElem?
 intro c
 unfold trTo
 rw [List.getElem?_set, List.length_map, List.length_range]
 by_cases hc : c < m
 · rw [List.getElem?_map, List.getElem?_map, List.getElem?_range hc]
   by_cases h : j = c
   · subst h
     rw [if_pos rfl, if_pos hc]
     simp only [Option.map_some, Option.some.injEq]
     apply List.ext_getElem?
     intro r
     rw [List.getElem?_set, List.length_map, List.length_range]
     by_cases hr : r < N
     · rw [List.getElem?_map, List.getElem?_map, List.getElem?_range hr]
       by_cases h2 : i = r
       · subst h2
         rw [if_pos rfl, if_pos hr]
         simp
       · rw [if_neg h2]
         simp only [Option.map_some, Option.some.injEq]
         congr 1
         simp only [eq_iff_iff]
         omega
     · rw [List.getElem?_eq_none (by simpa using hr), List.getElem?_eq_none (by simpa using hr)]
       split
       · rw [if_neg (by omega)]
       · rfl
   · rw [if_neg h]
     simp only [Option.map_some, Option.some.injEq]
     refine List.map_congr_left fun r _ => ?_
     congr 1
     simp only [eq_iff_iff]
     omega
 · rw [List.getElem?_eq_none (by simpa using hc), List.getElem?_eq_none (by simpa using hc), if_neg (by omega)]
set_option maxRecDepth 100000 in
set_option maxHeartbeats 4000000 in
theorem mxTurn_any (N m : Nat) (A : Option Addr) (c : Nat) (hs : List Hd) (w : World) (h : RdR w A hs) (hN : hs.length = N) (hN' : N ≤ 1000) (hrow : ∀ x, x ∈ hs → x.2.2.length = m) (hm : m ≤ 1000) :
  Calls Tryd.prog 29 #[.agg #[.int .i64 (m : Int), .slice A N c]] w (RetMx w N (trTo (hs.map fun h : Hd => h.2.2) m N N 0)) := by
 obtain ⟨L, hLh⟩ : ∃ L, L = hs.map fun h : Hd => h.2.2 := ⟨_, rfl⟩
 rw [← hLh]
 obtain ⟨W, hW, b0, k0, k1⟩ := alloc2 w (.cells #[.int .i64 (m : Int), .slice A N c] tMat) (.cells #[.int .i64 0, .slice none 0 0] tMat)
 have hWz : W.heap.size = w.heap.size + 1 + 1 := by rw [hW]; simp
 have hZ := fun (W' : World) => mxZero_any m N W' hm hN'
 obtain ⟨⟨e0, e1⟩, e2, e3⟩ := box2 k0
 have b0_h := lH b0; have k0_h := lH k0; have k1_h := lH k1; have hZ_h := lH hZ; have h_h := lH h; have hN_h := lH hN; have hrow_h := lH hrow; have hLh_h := lH hLh; clear b0 k0 k1 hZ h hN hrow hLh
 go_enter Tryd.func29, Tryd.ntmps29
 go_upto_region 1 with (fail)
 rw [← hW]
 clear hW
 go_wp2_with (fail)
 refine (hZ_h.out _).mono ?_
 rintro e w1 ⟨B, d, gs, rfl, hL, hO, hf, hb1⟩
 rw [List.length_replicate]
 clear e0 e1 e2 e3
 have hM := MX.of_own hO hf
 rw [← hL, ← trTo_zero L] at hM
 obtain ⟨W2, hW2⟩ : ∃ W2, W2 = w1.alloc (.cells #[.int .i64 (N : Int), .slice B m d] tMat) := ⟨_, rfl⟩
 have b2 : Below w1.heap.size w1 W2 := by rw [hW2]; exact below_alloc _ _
 have k5 : W2.heap[w1.heap.size]? = some (.cells #[.int .i64 (N : Int), .slice B m d] tMat) := by rw [hW2]; exact heap_alloc_new _ _
 have k4 := box_below (box_below k1_h.out hb1) b2
 have k3 := box_below (box_below k0_h.out hb1) b2
 have hz1 := hb1.size
 have hbW2 := below_trans (below_trans b0_h.out hb1 b0_h.out.size) b2 (by omega)
 have hM2 := hM.below b2
 clear hL hO hf hM hb1 b2; have k5_h := lH k5; have k4_h := lH k4; have k3_h := lH k3; have hbW2_h := lH hbW2; have hM2_h := lH hM2; clear k5 k4 k3 hbW2 hM2
 go_upto_region 2 with (fail)
 rw [← hW2]
 clear hW2
 obtain ⟨⟨e0, e1⟩, e2, e3⟩ := box2 k3_h.out
 go_wp2_with (fail)
 clear e0 e1 e2 e3
 go_loopw [17] (fun i wr => ∃ (k : Nat), k ≤ N ∧ i = .int .i64 k ∧ MX (fun b => W.heap.size ≤ b ∧ b < w1.heap.size) wr B d (trTo L m N k 0) ∧ Below w.heap.size w wr ∧ wr.heap[w1.heap.size]? = some (.cells #[.int .i64 (N : Int), .slice B m d] tMat) ∧ wr.heap[w.heap.size + 1]? = some (.cells #[.int .i64 0, .slice none 0 0] tMat)) (fun i _ => N - (intOf i).toNat)
 case atStart => exact ⟨0, Nat.zero_le _, rfl, hM2_h.out, hbW2_h.out, k5_h.out, k4_h.out⟩
 case round =>
  clear hM2_h hbW2_h k5_h k4_h k3_h
  obtain ⟨k, hk, rfl, hM, hb, kx, ky⟩ := hrel
  obtain ⟨wo, rfl⟩ : ∃ x, x = wr := ⟨_, rfl⟩
  by_cases hlt : k < N
  · have hnk : (k : Int) < (N : Int) := by omega
    obtain ⟨ad, C, e, l, rfl, hx, hc, hri⟩ := (h_h.out.below hb).at_ (k := k) (by rw [hN_h.out]; exact hlt)
    have hll : l.length = m := hrow_h.out _ (List.mem_of_getElem? hx)
    have hlg : L.getD k [] = l := by rw [hLh_h.out]; simp [List.getD, hx]
    have hrw : RdI w C l := h_h.out.2 _ (List.mem_of_getElem? hx)
    rw [hll] at hc
    clear hx hri; have hM_h := lH hM; have hb_h := lH hb; have kx_h := lH kx; have ky_h := lH ky; have hrw_h := lH hrw; have hll_h := lH hll; have hlg_h := lH hlg; clear hM hb kx ky hrw hll hlg
    go_wp2_with (fail)
    go_loopw [24] (fun i wr => ∃ (j : Nat), j ≤ m ∧ i = .int .i64 j ∧ MX (fun b => W.heap.size ≤ b ∧ b < w1.heap.size) wr B d (trTo L m N k j) ∧ Below w.heap.size w wr ∧ wr.heap[w1.heap.size]? = some (.cells #[.int .i64 (N : Int), .slice B m d] tMat) ∧ wr.heap[w.heap.size + 1]? = some (.cells #[.int .i64 0, .slice none 0 0] tMat)) (fun i _ => m - (intOf i).toNat)
    case atStart => exact ⟨0, Nat.zero_le _, rfl, hM_h.out, hb_h.out, kx_h.out, ky_h.out⟩
    case round =>
     clear hM_h hb_h kx_h ky_h
     obtain ⟨j, hj, rfl, hM, hb, kx, ky⟩ := hrel
     by_cases hjt : j < m
     · have hmj : (j : Int) < (m : Int) := by omega
       obtain ⟨cd, x, rfl, hxj, hcx⟩ := (hrw_h.out.below hb).at_ (j := j) (by rw [hll_h.out]; exact hjt)
       have hxg : (L.getD k []).getD j 0 = x := by rw [hlg_h.out]; simp [List.getD, hxj]
       obtain ⟨bd, B', cb, rfl, hc', hz, hI, hsp⟩ := hM.get (i := j) (by simpa using hjt)
       have hgl : ((trTo L m N k j).getD j []).length = N := trTo_len hjt
       obtain ⟨yd, y, rfl, _, _, hcy, hfy⟩ := hI.at_ (j := k) (by rw [hgl]; exact hlt)
       have hfy := hfy k
       obtain ⟨hs1, hs2⟩ := hM.set (i := j) (by simpa using hjt) rfl hc' (j := k) (by rw [hgl]; exact hlt) x
       rw [← hxg, trTo_step hjt, hxg] at hs1
       rw [hgl] at hc'
       have hb' := below_keeps hb hs2 hb.size (fun b hb => by have := hb.1; omega)
       have kx' := box_keeps kx hs2 (fun h => by have := h.2; omega)
       have ky' := box_keeps ky hs2 (fun h => by have := h.1; omega)
       obtain ⟨⟨e0, e1⟩, e2, e3⟩ := box2 kx
       clear hM hI hgl hs2 hb kx ky hsp hxg hxj; have hs1_h := lH hs1; have hb'_h := lH hb'; have kx'_h := lH kx'; have ky'_h := lH ky'; clear hs1 hb' kx' ky'
       go_wp2_with (fail)
       go_roundw
       case rel => exact ⟨j + 1, by omega, by go_num, hs1_h.out, hb'_h.out, kx'_h.out, ky'_h.out⟩
       case measure => simp [intOf]; omega
     · obtain rfl : m = j := by omega
       rw [trTo_row] at hM
       have hM_h := lH hM; have hb_h := lH hb; have kx_h := lH kx; have ky_h := lH ky; clear hM hb kx ky
       go_wp2_with (fail)
       go_roundw
       case rel => exact ⟨k + 1, by omega, by go_num, hM_h.out, hb_h.out, kx_h.out, ky_h.out⟩
       case measure => simp [intOf]; omega
  · obtain rfl : N = k := by omega
    obtain ⟨⟨e0, e1⟩, e2, e3⟩ := box2 kx
    obtain ⟨⟨g0, g1⟩, g2, g3⟩ := box2 ky
    obtain ⟨s1, s2⟩ := set2 (a := .int .i64 (N : Int)) (b := .slice B m d) ky
    have hb9 := below_keeps hb s2 hb.size (fun b hb => by omega)
    have hM9 := hM.keeps s2 (fun b h1 e => by have := h1.1; have := h1.2; omega)
    clear hM hb kx ky; have s1_h := lH s1; have s2_h := lH s2; have hb9_h := lH hb9; have hM9_h := lH hM9; clear s1 s2 hb9 hM9
    go_wp2_with (fail)
    refine bodyPost_ret (results_cell_row rfl _ _ (w.heap.size + 1) _ _ (0, 0) _ rfl s1_h.out Tryd.underlying54 rfl (by kernel_rfl)) rfl ?_
    obtain ⟨gs, h1, h2, h3⟩ := hM9_h.out
    exact ⟨B, d, gs, by rw [trTo_length], h1, h2, fun b hb => by have := (h3 b hb).1; omega, hb9_h.out⟩
end Go.Proofs.YtjompikdkhhlgaaDoor
namespace Go.Proofs.YtjompikdkhhlgaaDoor
theorem rows_eqs (p : Int) (n : Nat) (x : List Int) : ∀ L : List (List Int), L.map (rowE p n x) = eqsM (L.map (List.drop n)) (L.map fun l => (-(dotM p n x (l.take n))) % p)
 | [] => rfl
 | l :: L => by
   have := rows_eqs p n x L
   unfold eqsM at this ⊢
   simp only [List.map_cons, List.zipWith_cons_cons, this]
   rfl
theorem trTo_trans (L : List (List Int)) (m : Nat) : trTo L m L.length L.length 0 = transM L m := by
 unfold trTo transM
 refine List.map_congr_left fun c _ => ?_
 apply List.ext_getElem?
 intro r
 by_cases hr : r < L.length
 · rw [List.getElem?_map, List.getElem?_map, List.getElem?_range hr]
   simp [List.getD, hr]
 · rw [List.getElem?_eq_none (by simpa using hr), List.getElem?_eq_none (by simpa using hr)]
open Go.RowKit
theorem setM {w : World} {B : Nat} {t : TypeId} {x y b : Value} (h : w.heap[B]? = some (.cells #[x, y] t)) : (w.setCell ⟨B, 1, none⟩ b).heap[B]? = some (.cells #[x, b] t) ∧ Keeps (· = B) w (w.setCell ⟨B, 1, none⟩ b) := by
 refine ⟨by simp [World.setCell, Array.getElem?_modify, h], ?_⟩
 exact (Keeps.refl (fun x => x = B) w).setCell (p := ⟨B, 1, none⟩) rfl _
set_option maxRecDepth 100000 in
set_option maxHeartbeats 4000000 in
theorem mxCopy_any (N m : Nat) (A : Option Addr) (c : Nat) (hs : List Hd) (w : World) (h : RdR w A hs) (hN : hs.length = N) (hN' : N ≤ 1000) (hrow : ∀ x, x ∈ hs → x.2.2.length = m) (hm : m ≤ 1000) :
  Calls Tryd.prog 81 #[.agg #[.int .i64 (m : Int), .slice A N c]] w (RetMx w m (hs.map fun h : Hd => h.2.2)) := by
 obtain ⟨L, hLh⟩ : ∃ L, L = hs.map fun h : Hd => h.2.2 := ⟨_, rfl⟩
 rw [← hLh]
 have hLl : L.length = N := by rw [hLh, List.length_map, hN]
 obtain ⟨W0, hW0, bW0, k0, k1⟩ := alloc2 w (.cells #[.int .i64 (m : Int), .slice A N c] tMat) (.cells #[.int .i64 0, .slice none 0 0] tMat)
 obtain ⟨W, hW, b1, k2⟩ := (⟨_, rfl, below_alloc _ _, heap_alloc_new _ _⟩ : ∃ W, W = W0.alloc (.cells #[.int .i64 (m : Int), .slice none 0 0] tMat) ∧ Below W0.heap.size W0 W ∧ W.heap[W0.heap.size]? = some (.cells #[.int .i64 (m : Int), .slice none 0 0] tMat))
 obtain ⟨bx, hbx⟩ : ∃ bx, bx = W0.heap.size := ⟨_, rfl⟩
 have hbx1 : bx = w.heap.size + 1 + 1 := by rw [hbx, hW0]; simp
 rw [← hbx] at k2
 have hnil : OMx W0 bx W none 0 (L.take 0) := OMx.nil b1 (by omega) (box_lt k2)
 have k0W := box_below k0 b1
 have bW0_h := lH bW0; have k0_h := lH k0; have k1_h := lH k1; have b1_h := lH b1; have k2_h := lH k2; have hnil_h := lH hnil; have hbx1_h := lH hbx1; have h_h := lH h; have hN_h := lH hN; have hrow_h := lH hrow; have hLh_h := lH hLh; have hLl_h := lH hLl; have k0W_h := lH k0W; clear bW0 k0 k1 b1 k2 hnil hbx1 h hN hrow hLh hLl k0W
 go_enter Tryd.func81, Tryd.ntmps81
 go_upto_region 2 with (fail)
 rw [← hW0, ← hW, ← hbx1_h.out]
 have hbx_h := lH hbx; clear hW0 hW hbx
 obtain ⟨⟨e0, e1⟩, e2, e3⟩ := box2 k0W_h.out
 go_wp2_with (fail)
 clear e0 e1 e2 e3
 go_loopw [12] (fun i wr => ∃ (k q : Nat) (A1 : Option Addr) (c1 : Nat), k ≤ N ∧ i = .int .i64 k ∧ q = k ∧ wr.heap[bx]? = some (.cells #[.int .i64 (m : Int), .slice A1 q c1] tMat) ∧ OMx W0 bx wr A1 c1 (L.take k)) (fun i _ => N - (intOf i).toNat)
 case atStart => exact ⟨0, 0, none, 0, Nat.zero_le _, rfl, rfl, k2_h.out, hnil_h.out⟩
 case round =>
  clear hnil_h k2_h
  obtain ⟨k, q, A1, c1, hk, rfl, hq, kx, hOM⟩ := hrel
  obtain ⟨wo, rfl⟩ : ∃ x, x = wr := ⟨_, rfl⟩
  have hbo := below_trans bW0_h.out hOM.below_ bW0_h.out.size
  by_cases hlt : k < N
  · have hkI : (k : Int) < (N : Int) := by omega
    have hq12 : q ≤ 1000 := by omega
    obtain ⟨ad, C, d, l, rfl, hx, hc, hri⟩ := (h_h.out.below hbo).at_ (k := k) (by rw [hN_h.out]; exact hlt)
    have hlx : L[k]? = some l := by rw [hLh_h.out, List.getElem?_map, hx]; rfl
    have hll : l.length = m := hrow_h.out _ (List.mem_of_getElem? hx)
    rw [hll] at hc
    have hU := fun (W' : World) (hb : Below wo.heap.size wo W') => l1Own_any C d l W' (hri.below hb) (by omega)
    rw [hll] at hU
    have htk : L.take k ++ [l] = L.take (k + 1) := by rw [List.take_add_one, hlx]; rfl
    have hbd : Below wo.heap.size wo wo.drew := below_drewN (Below.refl _ _) 1
    clear hx hlx hri hbo; have kx_h := lH kx; have hOM_h := lH hOM; have hU_h := lH hU; have htk_h := lH htk; have hbd_h := lH hbd; have hq_h := lH hq; have hll_h := lH hll; clear kx hOM hU htk hbd hq hll
    go_wp2_with (fail)
    refine beginZw 7 (fun w' => w'.heap[bx]? = some (.cells #[.int .i64 (m : Int), .slice A1 q c1] tMat)) (by kernel_rfl) (fun W1 hW1 => ?_)
    have hB := hbd_h.out
    rw [← hW1] at hB
    clear hW1
    have hF := box_below kx_h.out hB
    have hF_h := lH hF; have hB_h := lH hB; clear hF hB
    refine tkC 0 ?_ rfl hF_h.out (fun W' hW' => ?_) ?_; rotate_left; · (obtain ⟨⟨x0, x1⟩, x2, x3⟩ := box2 hW'; clear hW'; go_simp; first | done | with_reducible rfl)
    simp only [Act.put, nS]
    refine tkC 1 ?_ rfl hF_h.out (fun W' hW' => ?_) ?_; rotate_left; · (obtain ⟨⟨x0, x1⟩, x2, x3⟩ := box2 hW'; clear hW'; go_simp; first | done | with_reducible rfl)
    simp only [Act.put, nS]
    refine tkC 2 ?_ rfl hF_h.out (fun W' hW' => ?_) ?_; rotate_left; · (obtain ⟨⟨x0, x1⟩, x2, x3⟩ := box2 hW'; clear hW'; go_simp; first | done | with_reducible rfl)
    simp only [Act.put, nS]
    refine callZ 3 (f := ?f1) (args := ?args1) rfl (by kernel_rfl) (by rfl) ?hrun1 ?hcall1
    case hrun1 => (go_simp; first | done | with_reducible rfl | (constructor <;> with_reducible rfl))
    case hcall1 =>
     refine (hU_h.out _ hB_h.out).mono ?_
     rintro e w4 ⟨A7, c7, rfl, hi7, hf7, hb4⟩
     rw [hll_h.out]
     replace hF_h := lH (box_below hF_h.out hb4)
     have hB4 := below_trans hB_h.out hb4 hB_h.out.size
     have hfA7 : Fresh wo.heap.size A7 := fun b hb => by have := hf7 b hb; have := hB_h.out.size; omega
     refine ⟨_, rfl, fun _ => hF_h.out, ?_⟩
     simp only [Act.put, nS]
     have hal := below_alloc w4 (.cells #[.slice A7 m c7] 25)
     have hba := below_trans hB4 hal hB4.size
     have hF4 := box_below hF_h.out hal
     obtain ⟨ys, hLy, hOy, hfy, h0y, h1y, h2y⟩ := hOM_h.out
     have hyl : ys.length = q := by have := congrArg List.length hLy; rw [List.length_map, List.length_take, hLl_h.out] at this; have := hq_h.out; omega
     have hsl : Sl (w4.alloc (.cells #[.slice A7 m c7] 25)) 25 1 A1 q c1 (ys.map Hd.val) := by
      have := (hOy.sl.below hB4).alloc (.cells #[.slice A7 m c7] 25)
      rwa [hyl] at this
     have hi8 := hi7.below hal
     have hF4_h := lH hF4; have hba_h := lH hba; have hal_h := lH hal; have hsl_h := lH hsl; have hi8_h := lH hi8; have hfA7_h := lH hfA7; have hLy_h := lH hLy; have hOy_h := lH hOy; have hfy_h := lH hfy; have h0y_h := lH h0y; have hyl_h := lH hyl; have hB4_h := lH hB4; clear hF4 hba hal hsl hi8 hfA7 hLy hOy hfy h0y hyl hB4
     refine oneZ 4 rfl (by kernel_rfl) (by rfl) (fun K hK => ?_)
     go_simp
     refine hK _ _ (fun _ => hF4_h.out) ?_
     clear hK K
     refine appZ 5 rfl (by kernel_rfl) (by rfl) _ _ _ rfl 25 Tryd.underlying22 info_ints rfl (by omega) rfl hsl_h.out rfl (news := [.slice A7 m c7]) rfl (Sl.rdc (Sl.laid w4 25 1 1 #[.slice A7 m c7] (by unfold maxLen; omega) rfl)) (by intro u hu; simp at hu; subst hu; rfl) (by unfold maxLen; omega) (by omega) ?_
     intro A6 c6 w6 hsA6 hA6 hkA6 hrdA6
     clear hrdA6
     have hO6 := OMx.snoc (l := l) (w1 := w4.alloc (.cells #[.slice A7 m c7] 25)) hLy_h.out hOy_h.out hfy_h.out h0y_h.out h1y h2y hba_h.out hi8_h.out hfA7_h.out (by rw [hyl_h.out]) (by rw [hll_h.out]; exact hsA6) hA6 hkA6
     have hF7 := box_keeps hF4_h.out hkA6 (fun h => (hfy_h.out _ (List.mem_append_left _ h)).2 rfl)
     refine ⟨fun _ => hF7, ?_⟩
     obtain ⟨s1, s2⟩ := setM (b := .slice A6 (q + 1) c6) hF7
     have hO7 := hO6.store s2
     rw [htk_h.out] at hO7
     obtain ⟨⟨x0, x1⟩, x3, x4⟩ := box2 hF7
     clear hsA6 hA6 hkA6 hO6 s2; have hF7_h := lH hF7; have hO7_h := lH hO7; have s1_h := lH s1; clear hF7 hO7 s1
     simp only [Act.put, nS]
     refine tkC 6 ?_ rfl hF7_h.out (fun W' hW' => ?_) ?_; rotate_left; · (skip; clear hW'; go_simp; first | done | with_reducible rfl)
     simp only [Act.put, nS]
     refine oneZ 7 rfl (by kernel_rfl) (by rfl) (fun K hK => ?_)
     go_simp
     refine hK _ _ (fun h => by cases h) ?_
     clear hK K
     refine doneZ (by kernel_rfl) ?_
     go_wp2_with (fail)
     go_roundw
     case rel => exact ⟨k + 1, q + 1, A6, c6, by omega, by go_num, by have := hq_h.out; omega, s1_h.out, hO7_h.out⟩
     case measure => simp [intOf]; omega
  · obtain rfl : N = k := by omega
    obtain rfl : N = q := hq.symm
    have hO2 : OMx W0 bx wo A1 c1 L := by have := hOM; rwa [List.take_of_length_le (by rw [hLl_h.out]; exact Nat.le_refl _)] at this
    have k0r := box_below k1_h.out hO2.below_
    obtain ⟨⟨x0, x1⟩, x3, x4⟩ := box2 kx
    obtain ⟨⟨y0, y1⟩, y3, y4⟩ := box2 k0r
    obtain ⟨s1, s2⟩ := set2 (a := .int .i64 (m : Int)) (b := .slice A1 N c1) k0r
    have hz0 : w.heap.size + 1 < W0.heap.size := by have := hbx_h.out; have := hbx1_h.out; omega
    have hbw := below_keeps hbo s2 hbo.size (fun k hk => by omega)
    obtain ⟨gs, g1, g2, g3, _, _, _⟩ := hO2
    have g5 := g2.keeps s2 (fun b hb e => by have := (g3 b hb).1; omega)
    have g6 : ∀ b, b ∈ fpA A1 ++ fpR gs → w.heap.size ≤ b := fun b hb => by have := (g3 b hb).1; omega
    clear hOM kx k0r s2 hbo g2 g3; have s1_h := lH s1; have hbw_h := lH hbw; have g1_h := lH g1; have g5_h := lH g5; have g6_h := lH g6; clear s1 hbw g1 g5 g6
    go_wp2_with (fail)
    refine bodyPost_ret (results_cell_row rfl _ _ (w.heap.size + 1) _ _ (0, 0) _ rfl s1_h.out Tryd.underlying54 rfl (by kernel_rfl)) rfl ?_
    exact ⟨A1, c1, gs, by rw [hLl_h.out], g1_h.out, g5_h.out, g6_h.out, hbw_h.out⟩
theorem scaleV_at {p k : Int} {v : List Int} {j : Nat} {x : Int} (h : v[j]? = some x) : (scaleV p k v)[j]? = some (x * k % p) := by simp [scaleV, h]
set_option maxRecDepth 100000 in
set_option maxHeartbeats 1000000 in
theorem mxScale_any (p q : Int) (A : Option Addr) (ca n : Nat) (v : List Int) (w : World) (hA : IS w A ca v) (hvn : v.length = n) (hn : n ≤ 1048576)
  (h0 : 0 < p) (h97 : p ≤ 97) (hv : ∀ x, x ∈ v → 0 ≤ x ∧ x < p) (hq : 0 ≤ q ∧ q < p) :
  Calls Tryd.prog 83 #[.int .i64 p, .slice A n ca, .int .i64 q] w fun e w' => e = .returned (.tuple #[]) ∧ Wr w w' A (ints (scaleV p q v)) := by
 have hal : (scaleV p q v).length = n := by simp [scaleV, hvn]
 have hst : Wr w w A (ints ((scaleV p q v).take 0 ++ v.drop 0)) := by simpa using Wr.start hA
 have HAL := lH hal; have HVN := lH hvn; have HST := lH hst; have HV := lH hv; clear hal hvn hst hv
 go_enter Tryd.func83, Tryd.ntmps83
 go_wp2_with (fail)
 go_loopw [9] (fun i wr => ∃ k : Nat, k ≤ n ∧ i = .int .i64 k ∧ Wr w wr A (ints ((scaleV p q v).take k ++ v.drop k))) (fun i _ => n - (intOf i).toNat)
 case atStart => exact ⟨0, Nat.zero_le _, rfl, HST.out⟩
 case round =>
  clear HST
  obtain ⟨k, hk, rfl, hw⟩ := hrel
  have hll : ((scaleV p q v).take k ++ v.drop k).length = n := by rw [List.length_append, List.length_take, List.length_drop, HAL.out, HVN.out]; omega
  by_cases hlt : k < n
  · have his : IS wr A ca ((scaleV p q v).take k ++ v.drop k) := by
     have := hw.sl hA (by rw [ints_length, hll, HVN.out, Nat.mul_one])
     unfold IS; rw [hll]; rwa [HVN.out] at this
    obtain ⟨ad, x, hA', hx, hbl, hca, hf'⟩ := his.at_ (j := k) (by rw [hll]; exact hlt)
    rw [get_take_drop (by rw [HAL.out, HVN.out]) (by rw [HVN.out]; omega)] at hx
    have hfz := hf' k
    have hxb := HV.out x (List.mem_of_getElem? hx)
    have hw2 := hw.set hA' (j := k) (by rw [ints_length, hll]; exact hlt) (.int .i64 (x * q % p))
    rw [ints_set, take_append_step (by rw [HAL.out, HVN.out]) (scaleV_at hx)] at hw2
    have HW := lH hw2
    have hC := fdMul_any p x q wr h0 hxb.1 (by omega) hq.1 (by omega)
    have hkn : (k : Int) < (n : Int) := by omega
    subst hA'
    clear hw2 hx hw his hA hll hf'; have hC_h := lH hC; clear hC
    go_wp2_with (fail)
    refine (hC_h.out).mono ?_
    rintro e w' ⟨rfl, hw'⟩
    subst w'
    go_wp2_with (fail)
    go_roundw
    case rel => exact ⟨k + 1, by omega, by go_num, HW.out⟩
    case measure => simp [intOf]; omega
  · obtain rfl : n = k := by omega
    have hw2 : Wr w wr A (ints (scaleV p q v)) := by
     have := hw
     rwa [List.take_of_length_le (by rw [HAL.out]; omega), List.drop_of_length_le (by rw [HVN.out]; omega), List.append_nil] at this
    have HW := lH hw2; clear hw hll hA hw2
    go_wp2_with (fail)
    go_end0
    exact ⟨rfl, HW.out⟩
structure BoxS where
 i : Nat
 d : Tmp
 obj : Obj
def putB (a : Act) (bs : List (BoxS × Nat)) : Act := bs.foldl (fun a x => a.put (some x.1.d) (.pointer (some ⟨x.2, 0, none⟩))) a
theorem putB_put (bs : List (BoxS × Nat)) (d : Tmp) (v : Value) : ∀ (a : Act), (∀ x ∈ bs, x.1.d ≠ d) → (putB a bs).put (some d) v = putB (a.put (some d) v) bs := by
 induction bs with
 | nil => intro a _; rfl
 | cons x r ih =>
   intro a h
   show (putB (a.put _ _) r).put _ _ = putB ((a.put _ _).put _ _) r
   rw [ih _ (fun y hy => h y (List.mem_cons_of_mem _ hy)), Act.put_comm a _ _ (fun e he => by obtain rfl := Option.some.inj he; intro h2; exact h x (by simp) (Option.some.inj h2).symm)]
theorem putB_perm {bs cs : List (BoxS × Nat)} (hp : bs.Perm cs) (hn : (bs.map (·.1.d)).Nodup) (a : Act) : putB a bs = putB a cs := by
 unfold putB
 refine List.Perm.foldl_eq' hp (fun x hx y hy z => ?_) a
 by_cases e : x = y
 · subst e; rfl
 · refine Act.put_comm z _ _ (fun d hd h2 => ?_)
   have hd' : x.1.d = y.1.d := by rw [Option.some.inj hd, Option.some.inj h2]
   clear hp
   induction bs with
   | nil => cases hx
   | cons b r ih =>
     simp only [List.map_cons, List.nodup_cons, List.mem_map, not_exists, not_and] at hn
     rcases List.mem_cons.1 hx with h1 | h1 <;> rcases List.mem_cons.1 hy with h3 | h3
     · exact e (h1.trans h3.symm)
     · subst h1; exact hn.1 y h3 hd'.symm
     · subst h3; exact hn.1 x h1 hd'
     · exact ih hn.2 h1 h3
theorem perm_lift : ∀ (zs : List BoxS) (bs : List (BoxS × Nat)), (bs.map (·.1)).Perm zs → ∃ cs, bs.Perm cs ∧ cs.map (·.1) = zs
 | [], bs, h => by
   have : bs = [] := by simpa using h.eq_nil
   exact ⟨[], by rw [this], rfl⟩
 | z :: zs, bs, h => by
   have hz : z ∈ bs.map (·.1) := h.symm.subset (by simp)
   obtain ⟨x, hx, rfl⟩ := List.mem_map.1 hz
   obtain ⟨s, t, rfl⟩ := List.append_of_mem hx
   have h2 : ((s ++ t).map (·.1)).Perm zs := by
    have : ((s ++ x :: t).map (·.1)).Perm (x.1 :: (s ++ t).map (·.1)) := by simp only [List.map_append, List.map_cons]; exact List.perm_middle
    exact (this.symm.trans h).cons_inv
   obtain ⟨cs, hc, he⟩ := perm_lift zs (s ++ t) h2
   exact ⟨x :: cs, List.perm_middle.trans (hc.cons x), by simp [he]⟩
theorem erase_split : ∀ (ps : List BoxS) (j : Nat), j ∈ ps.map (·.i) → ∃ s z t, ps = s ++ z :: t ∧ z.i = j ∧ (ps.map (·.i)).erase j = (s ++ t).map (·.i)
 | [], _, h => by cases h
 | p :: ps, j, h => by
   by_cases e : p.i = j
   · exact ⟨[], p, ps, rfl, e, by rw [List.map_cons, e, List.erase_cons_head]; rfl⟩
   · have h' : j ∈ ps.map (·.i) := by
      rw [List.map_cons] at h
      rcases List.mem_cons.1 h with h | h
      · exact absurd h.symm e
      · exact h
     obtain ⟨s, z, t, h1, h2, h3⟩ := erase_split ps j h'
     exact ⟨p :: s, z, t, by rw [h1]; rfl, h2, by rw [List.map_cons, List.erase_cons_tail (by simpa using e), h3]; rfl⟩
theorem boxB {w w' : World} {B : Nat} {o : Obj} (h : w.heap[B]? = some o) (hb : Below w.heap.size w w') : w'.heap[B]? = some o := (hb.block B (Array.getElem?_eq_some_iff.1 h).1).trans h
section
variable {P : Program} {l : List Oper} {Q : Exit → Act → World → Prop} {md : Region.Mode} {S : World → Prop}
def rdyB (md : Region.Mode) (ops : Array Oper) (fin : Array Bool) : Nat → Array Bool → List Nat → List Nat → Bool
 | 0, L, cs, ps => cs.isEmpty && ps.isEmpty && L.toList == fin.toList
 | n + 1, L, cs, ps =>
   !(Region.ready md ops L).isEmpty && (Region.ready md ops L).all fun j =>
     (match cs with | c :: cs' => c == j && rdyB md ops fin n (L.setIfInBounds j true) cs' ps | [] => false) || (ps.contains j && rdyB md ops fin n (L.setIfInBounds j true) cs (ps.erase j))
def callsB (P : Program) (ops : Array Oper) (zs : List BoxS) (w : World) (R : List Value → World → Prop) (K : Act → List Value → Prop) : List (Nat × Tmp) → Act → List Value → Prop
 | [], A, vs => K A vs
 | c :: cs, A, vs => ∃ o f args, ops[c.1]? = some o ∧ o.dst = some c.2 ∧ (zs.all fun z => !(o.looksAt ops).contains z.d && z.d != c.2) = true ∧ Region.wanted o (yielded ops A.tmps) = true ∧
     (∀ w', (execOp A.eval o).run P w' = .ok (.enter f args) w') ∧
     (∀ w', Below w.heap.size w w' → R vs w' → Calls P f args w' fun e w'' => ∃ v, e = .returned v ∧ Below w'.heap.size w' w'' ∧ R (vs ++ [v]) w'') ∧ ∀ v, callsB P ops zs w R K cs (A.put (some c.2) v) (vs ++ [v])
theorem callsB_cons {ops : Array Oper} {zs : List BoxS} {w : World} {R : List Value → World → Prop} {K : Act → List Value → Prop} {c : Nat × Tmp} {cs : List (Nat × Tmp)} {A : Act} {vs : List Value} {o : Oper} {f : FuncId} {args : Array Value} (ho : ops[c.1]? = some o) (hd : o.dst = some c.2) (hap : (zs.all fun z => !(o.looksAt ops).contains z.d && z.d != c.2) = true) (hw : Region.wanted o (yielded ops A.tmps) = true)
  (hrun : ∀ w', (execOp A.eval o).run P w' = .ok (.enter f args) w') (hcall : ∀ w', Below w.heap.size w w' → R vs w' → Calls P f args w' fun e w'' => ∃ v, e = .returned v ∧ Below w'.heap.size w' w'' ∧ R (vs ++ [v]) w'') (h : ∀ v, callsB P ops zs w R K cs (A.put (some c.2) v) (vs ++ [v])) : callsB P ops zs w R K (c :: cs) A vs :=
 ⟨o, f, args, ho, hd, hap, hw, hrun, hcall, h⟩
theorem wanted_putB {o : Oper} {ops : Array Oper} (bs : List (BoxS × Nat)) : ∀ (a : Act), (∀ x ∈ bs, x.1.d ∉ o.looksAt ops) → Region.wanted o (yielded ops (putB a bs).tmps) = Region.wanted o (yielded ops a.tmps) := by
 induction bs with
 | nil => intro a _; rfl
 | cons x r ih =>
   intro a h
   show Region.wanted o (yielded ops (putB (a.put _ _) r).tmps) = _
   rw [ih _ (fun y hy => h y (List.mem_cons_of_mem _ hy)), wanted_put o a _ _ (fun d hd => by obtain rfl := Option.some.inj hd; exact h x (by simp))]
theorem execOp_putB {o : Oper} {ops : Array Oper} (hs : ∀ cs b, o.op ≠ .select cs b) (bs : List (BoxS × Nat)) : ∀ (a : Act), (∀ x ∈ bs, x.1.d ∉ o.looksAt ops) → execOp (putB a bs).eval o = execOp a.eval o := by
 induction bs with
 | nil => intro a _; rfl
 | cons x r ih =>
   intro a h
   show execOp (putB (a.put _ _) r).eval o = _
   rw [ih _ (fun y hy => h y (List.mem_cons_of_mem _ hy)), execOp_put (ops := ops) o hs a _ _ (fun d hd => by obtain rfl := Option.some.inj hd; exact h x (by simp))]
theorem callsBoxes {zs : List BoxS} {w : World} {R : List Value → World → Prop} {fuel : Nat} {fin : Array Bool} (hsel : Region.noSelect l.toArray = true) (hnd : (zs.map (·.d)).Nodup)
  (hstab : ∀ vs w' w'', R vs w' → Below w'.heap.size w' w'' → R vs w'') (hS : ∀ w', Below w.heap.size w w' → S w')
  (hz : ∀ z ∈ zs, ∃ o, l.toArray[z.i]? = some o ∧ o.dst = some z.d ∧ o.guard = none ∧ ∀ (a : Act) w, (execOp a.eval o).run P w = .ok (.value (.pointer (some ⟨w.heap.size, 0, none⟩))) (w.alloc z.obj)) :
  ∀ (n : Nat) (listed : Array Bool) (cs : List (Nat × Tmp)) (ps : List BoxS) (A : Act) (vs : List Value) (bs : List (BoxS × Nat)) (w' : World),
    rdyB md l.toArray fin n listed (cs.map (·.1)) (ps.map (·.i)) = true → (bs.map (·.1) ++ ps).Perm zs → Below w.heap.size w w' → R vs w' →
    (∀ x ∈ bs, w'.heap[x.2]? = some x.1.obj ∧ w.heap.size ≤ x.2) → (bs.map (·.2)).Nodup →
    callsB P l.toArray zs w R (fun A vs => ∀ (bs : List (BoxS × Nat)) w', bs.map (·.1) = zs → Below w.heap.size w w' → R vs w' → (∀ x ∈ bs, w'.heap[x.2]? = some x.1.obj ∧ w.heap.size ≤ x.2) → (bs.map (·.2)).Nodup → wpAnyH P md l.toArray Q S fuel fin (putB A bs) w') cs A vs →
    wpAnyH P md l.toArray Q S (fuel + n) listed (putB A bs) w' := by
 intro n
 induction n with
 | zero =>
   intro listed cs ps A vs bs w' hr hp hb hR hbx hnb hc
   simp only [rdyB, Bool.and_eq_true, List.isEmpty_iff, List.map_eq_nil_iff, beq_iff_eq] at hr
   obtain ⟨⟨rfl, rfl⟩, hl⟩ := hr
   have hl' : listed = fin := by cases listed; cases fin; simp at hl; rw [hl]
   rw [List.append_nil] at hp
   obtain ⟨cs', h1, h2⟩ := perm_lift zs bs hp
   have hnd' : (bs.map (·.1.d)).Nodup := by
    have : (bs.map (·.1.d)).Perm (zs.map (·.d)) := by have h := hp.map (·.d); rw [List.map_map] at h; exact h
    exact this.symm.nodup hnd
   rw [putB_perm h1 hnd' A, hl']
   exact hc cs' w' h2 hb hR (fun x hx => hbx x (h1.symm.subset hx)) ((h1.map (·.2)).nodup hnb)
 | succ n ih =>
   intro listed cs ps A vs bs w' hr hp hb hR hbx hnb hc
   simp only [rdyB, Bool.and_eq_true, Bool.not_eq_true', List.all_eq_true, Bool.or_eq_true] at hr
   refine wpAnyH_all rfl (fun h => by rw [h] at hr; simp at hr) fun j hj => ?_
   have hbz : ∀ x ∈ bs, x.1 ∈ zs := fun x hx => hp.subset (List.mem_append_left _ (List.mem_map.2 ⟨x, hx, rfl⟩))
   rcases hr.2 j hj with h | h
   · cases cs with
     | nil => cases h
     | cons c cs =>
       simp only [List.map_cons, Bool.and_eq_true, beq_iff_eq] at h
       obtain ⟨hcj, hr'⟩ := h
       obtain ⟨o, f, args, ho, hd, hap, hw, hrun, hcall, hrest⟩ := hc
       rw [hcj] at ho
       simp only [List.all_eq_true, Bool.and_eq_true, Bool.not_eq_true', bne_iff_ne] at hap
       have h1 : ∀ x ∈ bs, x.1.d ∉ o.looksAt l.toArray := fun x hx => by have := (hap _ (hbz x hx)).1; simpa using this
       have h2 : ∀ x ∈ bs, x.1.d ≠ c.2 := fun x hx => (hap _ (hbz x hx)).2
       unfold wpOp
       simp only [ho, wanted_putB bs A h1, hw, if_true]
       refine .inl ?_
       unfold Oper.wp
       rw [execOp_putB (fun cs b => Region.noSelect_spec hsel j o cs b ho) bs A h1, hrun]
       refine (hcall w' hb hR).mono fun e w'' ⟨v, he, hb2, hR2⟩ => ?_
       subst he
       rw [hd]
       have hb3 := below_trans hb hb2 hb.size
       refine ⟨hS _ hb3, ?_⟩
       rw [putB_put bs c.2 v A h2]
       exact ih _ cs ps _ _ bs w'' hr' hp hb3 hR2 (fun x hx => ⟨boxB (hbx x hx).1 hb2, (hbx x hx).2⟩) hnb (hrest v)
   · simp only [List.contains_eq_mem, decide_eq_true_eq] at h
     obtain ⟨hm, hr'⟩ := h
     obtain ⟨s, z, t, rfl, hzi, hse⟩ := erase_split ps j hm
     rw [hse] at hr'
     obtain ⟨o, ho, hd, hg, hrun⟩ := hz z (hp.subset (List.mem_append_right _ (by simp)))
     rw [hzi] at ho
     have hw : ∀ y, Region.wanted o y = true := fun y => by unfold Region.wanted; rw [hg]
     unfold wpOp
     simp only [ho, hw, if_true]
     refine .inl ?_
     unfold Oper.wp
     rw [hrun]
     have hal := (Below.refl w'.heap.size w').alloc (Nat.le_refl _) z.obj
     have hb3 := below_trans hb hal hb.size
     refine ⟨hS _ hb3, ?_⟩
     rw [hd, show (putB A bs).put (some z.d) (.pointer (some ⟨w'.heap.size, 0, none⟩)) = putB A (bs ++ [(z, w'.heap.size)]) by simp [putB]]
     have hlt : ∀ x ∈ bs, x.2 < w'.heap.size := fun x hx => (Array.getElem?_eq_some_iff.1 (hbx x hx).1).1
     refine ih _ cs (s ++ t) A vs _ _ hr' ?_ hb3 (hstab _ _ _ hR hal) (fun x hx => ?_) ?_ hc
     · refine List.Perm.trans ?_ hp
       simp only [List.map_append, List.map_cons, List.map_nil, List.append_assoc, List.cons_append, List.nil_append]
       exact (List.perm_middle.symm).append_left _
     · rcases List.mem_append.1 hx with hx | hx
       · exact ⟨boxB (hbx x hx).1 hal, (hbx x hx).2⟩
       · obtain rfl := List.mem_singleton.1 hx
         exact ⟨heap_alloc_new w' z.obj, hb.size⟩
     · simp only [List.map_append, List.map_cons, List.map_nil]
       rw [List.nodup_append]
       refine ⟨hnb, by simp, fun x hx y hy => ?_⟩
       obtain ⟨q, hq, rfl⟩ := List.mem_map.1 hx
       have := hlt q hq
       have := List.mem_singleton.1 hy
       omega
end
theorem setCell_comm (w : World) {a b : Addr} (h : a.block ≠ b.block) (x y : Value) : (w.setCell a x).setCell b y = (w.setCell b y).setCell a x := by
 unfold World.setCell
 congr 1
 apply Array.ext_getElem?
 intro i
 simp only [Array.getElem?_modify]
 by_cases h1 : a.block = i <;> by_cases h2 : b.block = i
 · exact absurd (h1.trans h2.symm) h
 · simp [h1, h2]
 · simp [h1, h2]
 · simp [h1, h2]
theorem allocM (w : World) (o o' o'' : Obj) : ∃ W, W = ((w.alloc o).alloc o').alloc o'' ∧ Below w.heap.size w W ∧ W.heap[w.heap.size]? = some o ∧ W.heap[w.heap.size + 1]? = some o' ∧ W.heap[w.heap.size + 1 + 1]? = some o'' := by
 refine ⟨_, rfl, (((Below.refl _ _).alloc (Nat.le_refl _) _).alloc (by simp) _).alloc (by simp; omega) _, ?_, ?_, ?_⟩
 · have h1 := heap_alloc_new w o
   have h2 := box_below h1 (below_alloc (w.alloc o) o')
   exact box_below h2 (below_alloc _ o'')
 · have h1 := heap_alloc_new (w.alloc o) o'
   have e : (w.alloc o).heap.size = w.heap.size + 1 := by simp
   rw [e] at h1
   exact box_below h1 (below_alloc _ o'')
 · have h1 := heap_alloc_new ((w.alloc o).alloc o') o''
   have e : ((w.alloc o).alloc o').heap.size = w.heap.size + 1 + 1 := by simp
   rw [e] at h1
   exact h1
theorem Sl.ne_cellsM {w : World} {e t : TypeId} {sz n c b : Nat} {A : Option Addr} {xs : List Value} {cs : Array Value} (h : Sl w e sz A n c xs) (hb : w.heap[b]? = some (.cells cs t)) (he : e ≠ t) : ∀ x, x ∈ fpA A → x ≠ b := by
 intro x hx e'
 subst e'
 rcases h.2.2.2 with ⟨rfl, _⟩ | ⟨g, off, cur, rfl, hg, _⟩
 · simp at hx
 · simp at hx
   subst hx
   rw [hb] at hg
   injection hg with hg
   injection hg with _ h2 _
   exact he h2.symm
theorem OwR.ne_cells {w : World} {A : Option Addr} {c b : Nat} {hs : List Hd} {cs : Array Value} (h : OwR w A c hs) (hb : w.heap[b]? = some (.cells cs tMat)) : b ∉ fpA A ++ fpR hs := by
 intro hx
 rcases List.mem_append.1 hx with h1 | h1
 · exact h.sl.ne_cellsM hb (by decide) b h1 rfl
 · obtain ⟨y, hy, h2⟩ := mem_fpR.1 h1
   exact Sl.ne_cellsM (h.rows y hy) hb (by decide) b h2 rfl
theorem MX.get2 {Sp : Nat → Prop} {w : World} {A : Option Addr} {cap : Nat} {L : List (List Int)} (h : MX Sp w A cap L) {i k : Nat} (hi : i < L.length) (hk : k < L.length) (hne : i ≠ k) : ∃ ad B c D d, A = some ad ∧ w.cell? (ad.add i) = some (.slice B (L.getD i []).length c) ∧ w.cell? (ad.add k) = some (.slice D (L.getD k []).length d) ∧ IS w B c (L.getD i []) ∧ IS w D d (L.getD k []) ∧ ∀ b, b ∈ fpA D → b ∉ fpA B := by
 obtain ⟨hs, rfl, hO, hf⟩ := h
 obtain ⟨ad, B, c, l, hA, hx, hc, _, hI⟩ := hO.get (i := i) (by simpa using hi)
 obtain ⟨ad', D, d, l', hA', hx', hc', _, hI'⟩ := hO.get (i := k) (by simpa using hk)
 rw [hA] at hA'
 obtain rfl := Option.some.inj hA'
 rw [getD_map_hd hx, getD_map_hd hx']
 exact ⟨ad, B, c, D, d, hA, hc, hc', hI, hI', hO.apart_get hx' hx (fun e => hne e.symm)⟩
theorem swapL_symm (L : List (List Int)) {r k : Nat} (h : r ≠ k) : swapL L r k = swapL L k r := by
 unfold swapL
 rw [List.set_comm _ _ h]
theorem MX.blk {Sp : Nat → Prop} {w : World} {ad : Addr} {cap : Nat} {L : List (List Int)} (h : MX Sp w (some ad) cap L) : Sp ad.block := by
 obtain ⟨hs, _, _, hf⟩ := h
 exact hf _ (by simp)
theorem off_add (a : Addr) (n : Nat) : (a.add n).off = a.off + n := by
 unfold Addr.add
 split
 · rename_i h; subst h; rfl
 · rfl
theorem add_ne (a : Addr) {i j : Nat} (h : i ≠ j) : a.add i ≠ a.add j := by
 intro e
 have e1 : (a.add i).off = (a.add j).off := congrArg Addr.off e
 rw [off_add, off_add] at e1
 omega
theorem blk_ne {a b : Addr} (h : a.block ≠ b.block) (i j : Nat) : a.add i ≠ b.add j := fun e => h (by have := congrArg Addr.block e; rwa [block_of_add, block_of_add] at this)
theorem results_cell2_tmp2 {P : Program} {fn : Func} {p q u v : Tmp} {ty : TypeId} (h : fn.results = #[.cell p ty, .cell q ty, .tmp u, .tmp v]) (tmps : Array Value) (w : World) (g g' : Nat) (t : TypeId) (cs cs' : Array Value) (fr fr' : Nat × Nat) (d : TypeDesc)
  (hp : tmps.getD p undef = .pointer (some ⟨g, 0, none⟩)) (hg : w.heap[g]? = some (.cells cs t fr)) (hq : tmps.getD q undef = .pointer (some ⟨g', 0, none⟩)) (hg' : w.heap[g']? = some (.cells cs' t fr'))
  (hu : P.underlying ty = some d) (hd : (match d with | .struct _ | .array _ _ => true | _ => false) = true) (hi : (P.info? ty).map (·.size) = some cs.size) (hi' : (P.info? ty).map (·.size) = some cs'.size) :
  (results fn tmps).run P w = .ok (.tuple #[.agg cs, .agg cs', tmps.getD u undef, tmps.getD v undef]) w := by
 have hp' : tmps[p]?.getD undef = .pointer (some ⟨g, 0, none⟩) := by simpa using hp
 have hq' : tmps[q]?.getD undef = .pointer (some ⟨g', 0, none⟩) := by simpa using hq
 simp [results, h, hp', hq', asAddr, run_loadVar_row w g t ty cs fr d hg hu hd hi, run_loadVar_row w g' t ty cs' fr' d hg' hu hd hi']
structure MrS (w0 : World) (F1 F2 : List Nat) (B8 B9 n m : Nat) (va : Value) (Aa At : Option Addr) (ca ct : Nat) (MA MT : List (List Int)) (w : World) : Prop where
 lo : Below w0.heap.size w0 w
 k3 : w.heap[w0.heap.size]? = some (.cells #[.int .i64 (n : Int), va] tMat)
 k4 : w.heap[w0.heap.size + 1]? = some (.cells #[.int .i64 0, .slice none 0 0] tMat)
 k5 : w.heap[w0.heap.size + 1 + 1]? = some (.cells #[.int .i64 0, .slice none 0 0] tMat)
 k8 : w.heap[B8]? = some (.cells #[.int .i64 (n : Int), .slice Aa m ca] tMat)
 k9 : w.heap[B9]? = some (.cells #[.int .i64 (m : Int), .slice At m ct] tMat)
 a : MX (· ∈ F1) w Aa ca MA
 t : MX (· ∈ F2) w At ct MT
structure MrF (w0 : World) (F1 F2 : List Nat) (B8 B9 : Nat) : Prop where
 ap : ∀ b, b ∈ F1 → b ∉ F2
 l1 : ∀ b, b ∈ F1 → w0.heap.size ≤ b
 l2 : ∀ b, b ∈ F2 → w0.heap.size ≤ b
 n1 : ∀ b, b = w0.heap.size ∨ b = w0.heap.size + 1 ∨ b = w0.heap.size + 1 + 1 ∨ b = B8 ∨ b = B9 → b ∉ F1 ∧ b ∉ F2
section
variable {w0 w w' : World} {F1 F2 : List Nat} {B8 B9 n m : Nat} {va : Value} {Aa At : Option Addr} {ca ct : Nat} {MA MT MA' MT' : List (List Int)}
theorem MrS.below (h : MrS w0 F1 F2 B8 B9 n m va Aa At ca ct MA MT w) (hb : Below w.heap.size w w') : MrS w0 F1 F2 B8 B9 n m va Aa At ca ct MA MT w' :=
 ⟨below_trans h.lo hb h.lo.size, box_below h.k3 hb, box_below h.k4 hb, box_below h.k5 hb, box_below h.k8 hb, box_below h.k9 hb, h.a.below hb, h.t.below hb⟩
theorem MrS.setA (h : MrS w0 F1 F2 B8 B9 n m va Aa At ca ct MA MT w) (F : MrF w0 F1 F2 B8 B9) (hm : MX (· ∈ F1) w' Aa ca MA') (hk : Keeps (· ∈ F1) w w') : MrS w0 F1 F2 B8 B9 n m va Aa At ca ct MA' MT w' :=
 ⟨below_keeps h.lo hk h.lo.size F.l1, box_keeps h.k3 hk (F.n1 _ (.inl rfl)).1, box_keeps h.k4 hk (F.n1 _ (.inr (.inl rfl))).1, box_keeps h.k5 hk (F.n1 _ (.inr (.inr (.inl rfl)))).1, box_keeps h.k8 hk (F.n1 _ (.inr (.inr (.inr (.inl rfl))))).1, box_keeps h.k9 hk (F.n1 _ (.inr (.inr (.inr (.inr rfl))))).1, hm, h.t.keeps hk fun b hb hc => F.ap b hc hb⟩
theorem MrS.setT (h : MrS w0 F1 F2 B8 B9 n m va Aa At ca ct MA MT w) (F : MrF w0 F1 F2 B8 B9) (hm : MX (· ∈ F2) w' At ct MT') (hk : Keeps (· ∈ F2) w w') : MrS w0 F1 F2 B8 B9 n m va Aa At ca ct MA MT' w' :=
 ⟨below_keeps h.lo hk h.lo.size F.l2, box_keeps h.k3 hk (F.n1 _ (.inl rfl)).2, box_keeps h.k4 hk (F.n1 _ (.inr (.inl rfl))).2, box_keeps h.k5 hk (F.n1 _ (.inr (.inr (.inl rfl)))).2, box_keeps h.k8 hk (F.n1 _ (.inr (.inr (.inr (.inl rfl))))).2, box_keeps h.k9 hk (F.n1 _ (.inr (.inr (.inr (.inr rfl))))).2, h.a.keeps hk fun b hb hc => F.ap b hb hc, hm⟩
end
def RetMr (w : World) (n m : Nat) (s : Nat × List (List Int) × List (List Int)) (e : Ending) (w' : World) : Prop :=
 ∃ Aa ca hsa At ct hst, ∃ det : Int, e = .returned (.tuple #[.agg #[.int .i64 (n : Int), .slice Aa m ca], .agg #[.int .i64 (m : Int), .slice At m ct], .int .i64 (s.1 : Int), .int .i64 det]) ∧ s.2.1 = hsa.map (fun h : Hd => h.2.2) ∧ OwR w' Aa ca hsa ∧ s.2.2 = hst.map (fun h : Hd => h.2.2) ∧ OwR w' At ct hst ∧ (∀ b, b ∈ fpA Aa ++ fpR hsa → w.heap.size ≤ b) ∧ (∀ b, b ∈ fpA At ++ fpR hst → w.heap.size ≤ b) ∧ Below w.heap.size w w'
def MrR (w1 : World) (n m : Nat) (L : List (List Int)) (vs : List Value) (w' : World) : Prop :=
 vs = [] ∨ (∃ Aa ca hsa, vs = [.agg #[.int .i64 (n : Int), .slice Aa m ca]] ∧ L = hsa.map (fun h : Hd => h.2.2) ∧ OwR w' Aa ca hsa ∧ ∀ b, b ∈ fpA Aa ++ fpR hsa → w1.heap.size ≤ b) ∨
  ∃ Aa ca hsa At ct hst, vs = [.agg #[.int .i64 (n : Int), .slice Aa m ca], .agg #[.int .i64 (m : Int), .slice At m ct]] ∧ L = hsa.map (fun h : Hd => h.2.2) ∧ OwR w' Aa ca hsa ∧ idM m = hst.map (fun h : Hd => h.2.2) ∧ OwR w' At ct hst ∧ (∀ b, b ∈ fpA Aa ++ fpR hsa → w1.heap.size ≤ b) ∧ (∀ b, b ∈ fpA At ++ fpR hst → w1.heap.size ≤ b) ∧ ∀ b, b ∈ fpA Aa ++ fpR hsa → b ∉ fpA At ++ fpR hst
theorem idM_len (m : Nat) : (idM m).length = m := by simp [idM]
set_option maxRecDepth 100000 in
set_option maxHeartbeats 8000000 in
theorem mxReduce_any (p : Int) (n m : Nat) (A : Option Addr) (c : Nat) (hs : List Hd) (w : World) (h : RdR w A hs) (hm : hs.length = m) (hp : fieldB p = true) (hMat : Mat p m n (hs.map fun h : Hd => h.2.2)) (hm' : m ≤ 1000) (hn' : n ≤ 1000) :
  Calls Tryd.prog 55 #[.int .i64 p, .agg #[.int .i64 (n : Int), .slice A m c]] w (RetMr w n m (redTo p (hs.map fun h : Hd => h.2.2) (idM m) n)) := by
 obtain ⟨L, hLh⟩ : ∃ L, L = hs.map fun h : Hd => h.2.2 := ⟨_, rfl⟩
 have hrow : ∀ x, x ∈ hs → x.2.2.length = n := fun x hx => (hMat.row _ (List.mem_map.2 ⟨x, hx, rfl⟩)).1
 have hRc := fun (W' : World) (hb : Below w.heap.size w W') => mxCopy_any m n A c hs W' (h.below hb) hm hm' hrow hn'
 rw [← hLh] at hMat hRc ⊢
 have hpb := fieldB_bounds hp
 have hRi := fun (W' : World) => mxId_any m W' hm'
 have hLl := hMat.len
 have hRc2 : ∀ (W' : World), Below w.heap.size w W' → Calls Tryd.prog 81 #[.agg #[.int .i64 (n : Int), .slice A m c]] W' fun e w2 => ∃ A1 c1 gs, e = .returned (.agg #[.int .i64 (n : Int), .slice A1 m c1]) ∧ L = gs.map (fun h : Hd => h.2.2) ∧ OwR w2 A1 c1 gs ∧ (∀ b, b ∈ fpA A1 ++ fpR gs → W'.heap.size ≤ b) ∧ Below W'.heap.size W' w2 := fun W' hb => (hRc W' hb).mono fun e w2 ⟨A1, c1, gs, h1, h2, h3, h4, h5⟩ => by
  rw [hLl] at h1
  exact ⟨A1, c1, gs, h1, h2, h3, h4, h5⟩
 have hRi2 : ∀ (W' : World), Calls Tryd.prog 82 #[.int .i64 (m : Int)] W' fun e w2 => ∃ A1 c1 gs, e = .returned (.agg #[.int .i64 (m : Int), .slice A1 m c1]) ∧ idM m = gs.map (fun h : Hd => h.2.2) ∧ OwR w2 A1 c1 gs ∧ (∀ b, b ∈ fpA A1 ++ fpR gs → W'.heap.size ≤ b) ∧ Below W'.heap.size W' w2 := fun W' => (hRi W').mono fun e w2 ⟨A1, c1, gs, h1, h2, h3, h4, h5⟩ => by
  rw [idM_len] at h1
  exact ⟨A1, c1, gs, h1, h2, h3, h4, h5⟩
 obtain ⟨W, hW, bW, k3, k4, k5⟩ := allocM w (.cells #[.int .i64 (n : Int), .slice A m c] tMat) (.cells #[.int .i64 0, .slice none 0 0] tMat) (.cells #[.int .i64 0, .slice none 0 0] tMat)
 clear hRc hRi; have hRc2_h := lH hRc2; have hRi2_h := lH hRi2; have bW_h := lH bW; have k3_h := lH k3; have k4_h := lH k4; have k5_h := lH k5; have h_h := lH h; have hm_h := lH hm; have hrow_h := lH hrow; have hLh_h := lH hLh; have hMat_h := lH hMat; have hLl_h := lH hLl; have hp_h := lH hp; clear hRc2 hRi2 bW k3 k4 k5 h hm hrow hLh hMat hLl hp
 go_enter Tryd.func55, Tryd.ntmps55
 go_upto_region 1 with (fail)
 rw [← hW]
 clear hW
 refine beginH (fun w' => w'.heap[w.heap.size]? = some (.cells #[.int .i64 (n : Int), .slice A m c] tMat)) (by kernel_rfl) ?_
 have hbd : Below W.heap.size W W.drew := below_drewN (Below.refl _ _) 1
 generalize W.drew = W1 at hbd ⊢
 have k31 := box_below k3_h.out hbd
 have k41 := box_below k4_h.out hbd
 have k51 := box_below k5_h.out hbd
 have hB1 := below_trans bW_h.out hbd bW_h.out.size
 clear hbd k3_h k4_h k5_h bW_h; have k31_h := lH k31; have k41_h := lH k41; have k51_h := lH k51; have hB1_h := lH hB1; clear k31 k41 k51 hB1
 refine tkH 0 ?_ rfl k31_h.out (fun W' hW' => ?_) ?_; rotate_left; · (obtain ⟨⟨x0, x1⟩, x2, x3⟩ := box2 hW'; clear hW'; go_simp; first | done | with_reducible rfl)
 simp only [Act.put, nS]
 refine tkH 2 ?_ rfl k31_h.out (fun W' hW' => ?_) ?_; rotate_left; · (obtain ⟨⟨x0, x1⟩, x2, x3⟩ := box2 hW'; clear hW'; go_simp; first | done | with_reducible rfl)
 simp only [Act.put, nS]
 refine tkH 3 ?_ rfl k31_h.out (fun W' hW' => ?_) ?_; rotate_left; · (obtain ⟨⟨x0, x1⟩, x2, x3⟩ := box2 hW'; clear hW'; go_simp; first | done | with_reducible rfl)
 simp only [Act.put, nS]
 refine tkH 4 ?_ rfl k31_h.out (fun W' hW' => ?_) ?_; rotate_left; · (obtain ⟨⟨x0, x1⟩, x2, x3⟩ := box2 hW'; clear hW'; go_simp; first | done | with_reducible rfl)
 simp only [Act.put, nS]
 refine callsBoxes (fuel := 2) (w := W1) (R := MrR W1 n m L) (fin := #[true, true, true, true, true, true, true, true, false, false]) (zs := [⟨6, 8, .cells #[.int .i64 0, .slice none 0 0] tMat⟩, ⟨7, 9, .cells #[.int .i64 0, .slice none 0 0] tMat⟩]) (by kernel_rfl) (by decide) (fun vs w' w'' h hb => ?hst) (fun w' hb => box_below k31_h.out hb) ?hz 4 _ [(1, 20), (5, 24)] [⟨6, 8, .cells #[.int .i64 0, .slice none 0 0] tMat⟩, ⟨7, 9, .cells #[.int .i64 0, .slice none 0 0] tMat⟩] _ [] [] W1 (by kernel_rfl) (List.Perm.refl _) (Below.refl _ _) (.inl rfl) (by simp) (by simp) ?hc
 case hst =>
  rcases h with h | ⟨Aa, ca, hsa, h1, h2, h3, h4⟩ | ⟨Aa, ca, hsa, At, ct, hst, h1, h2, h3, h4, h5, h6⟩
  · exact .inl h
  · exact .inr (.inl ⟨Aa, ca, hsa, h1, h2, h3.below hb, h4⟩)
  · exact .inr (.inr ⟨Aa, ca, hsa, At, ct, hst, h1, h2, h3.below hb, h4, h5.below hb, h6⟩)
 case hz =>
  intro z hz
  simp only [List.mem_cons, List.not_mem_nil, or_false] at hz
  rcases hz with rfl | rfl
  · exact ⟨_, rfl, rfl, rfl, fun a w => (by kernel_rfl)⟩
  · exact ⟨_, rfl, rfl, rfl, fun a w => (by kernel_rfl)⟩
 case hc =>
  refine callsB_cons (f := ?f1) (args := ?a1) rfl rfl (by kernel_rfl) (by rfl) (fun w' => ?r1) (fun w' hb _ => ?c1) (fun v1 => ?k1)
  case r1 => (go_simp; first | done | with_reducible rfl | (constructor <;> with_reducible rfl))
  case c1 =>
   refine (hRc2_h.out w' (below_trans hB1_h.out hb hB1_h.out.size)).mono ?_
   rintro e w2 ⟨A1, c1, gs, rfl, hL, hO, hf, hb2⟩
   exact ⟨_, rfl, hb2, .inr (.inl ⟨A1, c1, gs, rfl, hL, hO, fun b hb' => Nat.le_trans hb.size (hf b hb')⟩)⟩
  case k1 =>
  refine callsB_cons (f := ?f2) (args := ?a2) rfl rfl (by kernel_rfl) (by rfl) (fun w' => ?r2) (fun w' hb hR => ?c2) (fun v2 bs w2 hbs hb2 hR hbx hnd => ?rest)
  case r2 => (go_simp; first | done | with_reducible rfl | (constructor <;> with_reducible rfl))
  case c2 =>
   obtain ⟨Aa, ca, hsa, rfl, hL, hO, hf⟩ : ∃ Aa ca hsa, v1 = .agg #[.int .i64 (n : Int), .slice Aa m ca] ∧ L = hsa.map (fun h : Hd => h.2.2) ∧ OwR w' Aa ca hsa ∧ ∀ b, b ∈ fpA Aa ++ fpR hsa → W1.heap.size ≤ b := by
    rcases hR with h | ⟨Aa, ca, hsa, h1, h2, h3, h4⟩ | ⟨Aa, ca, hsa, At, ct, hst, h1, h2, h3, h4, h5, h6⟩
    · cases h
    · simp at h1; exact ⟨Aa, ca, hsa, h1, h2, h3, h4⟩
    · simp at h1
   refine (hRi2_h.out w').mono ?_
   rintro e w2 ⟨A1, c1, gs, rfl, hL2, hO2, hf2, hb2⟩
   refine ⟨_, rfl, hb2, .inr (.inr ⟨Aa, ca, hsa, A1, c1, gs, rfl, hL, hO.below hb2, hL2, hO2, hf, fun b hb' => Nat.le_trans hb.size (hf2 b hb'), fun b h1 h2 => ?_⟩)⟩
   have h3 := hO.lt b h1
   have h4 := hf2 b h2
   omega
  case rest =>
   obtain ⟨Aa, ca, hsa, At, ct, hst, rfl, rfl, hL, hO, hL2, hO2, hf1, hf2, hap⟩ : ∃ Aa ca hsa At ct hst, v1 = .agg #[.int .i64 (n : Int), .slice Aa m ca] ∧ v2 = .agg #[.int .i64 (m : Int), .slice At m ct] ∧ L = hsa.map (fun h : Hd => h.2.2) ∧ OwR w2 Aa ca hsa ∧ idM m = hst.map (fun h : Hd => h.2.2) ∧ OwR w2 At ct hst ∧ (∀ b, b ∈ fpA Aa ++ fpR hsa → W1.heap.size ≤ b) ∧ (∀ b, b ∈ fpA At ++ fpR hst → W1.heap.size ≤ b) ∧ ∀ b, b ∈ fpA Aa ++ fpR hsa → b ∉ fpA At ++ fpR hst := by
    rcases hR with h | ⟨Aa, ca, hsa, h1, h2, h3, h4⟩ | ⟨Aa, ca, hsa, At, ct, hst, h1, h2, h3, h4, h5, h6, h7, h8⟩
    · cases h
    · simp at h1
    · simp at h1; exact ⟨Aa, ca, hsa, At, ct, hst, h1.1, h1.2, h2, h3, h4, h5, h6, h7, h8⟩
   match bs, hbs with
   | [(zz1, B8), (zz2, B9)], hbs =>
     simp only [List.map_cons, List.map_nil, List.cons.injEq, and_true] at hbs
     obtain ⟨rfl, rfl⟩ := hbs
     obtain ⟨x1, x2⟩ := hbx _ (List.mem_cons_self ..)
     obtain ⟨x3, x4⟩ := hbx _ (List.mem_cons_of_mem _ (List.mem_cons_self ..))
     have hne : B8 ≠ B9 := by simpa using hnd
     simp only at x1 x2 x3 x4
     clear hbx hnd hbs hR
     have k32 := box_below k31_h.out hb2
     have k42 := box_below k41_h.out hb2
     have k52 := box_below k51_h.out hb2
     have hB2 := below_trans hB1_h.out hb2 hB1_h.out.size
     have hz1 := box_lt k51_h.out
     obtain ⟨F1, hF1⟩ : ∃ F, F = fpA Aa ++ fpR hsa := ⟨_, rfl⟩
     obtain ⟨F2, hF2⟩ : ∃ F, F = fpA At ++ fpR hst := ⟨_, rfl⟩
     have hFF : MrF w F1 F2 B8 B9 := by
      refine ⟨fun b hb => by rw [hF2]; exact hap b (hF1 ▸ hb), fun b hb => ?_, fun b hb => ?_, fun b hb => ?_⟩
      · have := hf1 b (hF1 ▸ hb); omega
      · have := hf2 b (hF2 ▸ hb); omega
      · rw [hF1, hF2]
        rcases hb with rfl | rfl | rfl | rfl | rfl
        · exact ⟨hO.ne_cells k32, hO2.ne_cells k32⟩
        · exact ⟨hO.ne_cells k42, hO2.ne_cells k42⟩
        · exact ⟨hO.ne_cells k52, hO2.ne_cells k52⟩
        · exact ⟨hO.ne_cells x1, hO2.ne_cells x1⟩
        · exact ⟨hO.ne_cells x3, hO2.ne_cells x3⟩
     obtain ⟨s1, s2⟩ := set2 (a := .int .i64 (n : Int)) (b := .slice Aa m ca) x1
     have x5 := box_keeps x3 s2 (fun e => hne e.symm)
     obtain ⟨s3, s4⟩ := set2 (a := .int .i64 (m : Int)) (b := .slice At m ct) x5
     have s5 := box_keeps s1 s4 hne
     have hS2 := box_keeps k32 s2 (by omega)
     have hS3 := box_keeps hS2 s4 (by omega)
     have hMA : MX (· ∈ F1) ((((w2.setCell ⟨B8, 0, none⟩ (.int .i64 (n : Int))).setCell ⟨B8, 1, none⟩ (.slice Aa m ca)).setCell ⟨B9, 0, none⟩ (.int .i64 (m : Int))).setCell ⟨B9, 1, none⟩ (.slice At m ct)) Aa ca L := by
      have h1 : MX (· ∈ F1) w2 Aa ca L := ⟨hsa, hL, hO, fun b hb => hF1 ▸ hb⟩
      have h2 := h1.keeps s2 (fun b hb e => (hFF.n1 b (.inr (.inr (.inr (.inl e))))).1 hb)
      exact h2.keeps s4 (fun b hb e => (hFF.n1 b (.inr (.inr (.inr (.inr e))))).1 hb)
     have hMT : MX (· ∈ F2) ((((w2.setCell ⟨B8, 0, none⟩ (.int .i64 (n : Int))).setCell ⟨B8, 1, none⟩ (.slice Aa m ca)).setCell ⟨B9, 0, none⟩ (.int .i64 (m : Int))).setCell ⟨B9, 1, none⟩ (.slice At m ct)) At ct (idM m) := by
      have h1 : MX (· ∈ F2) w2 At ct (idM m) := ⟨hst, hL2, hO2, fun b hb => hF2 ▸ hb⟩
      have h2 := h1.keeps s2 (fun b hb e => (hFF.n1 b (.inr (.inr (.inr (.inl e))))).2 hb)
      exact h2.keeps s4 (fun b hb e => (hFF.n1 b (.inr (.inr (.inr (.inr e))))).2 hb)
     have hBB := below_keeps (below_keeps hB2 s2 hB2.size (fun k hk => by omega)) s4 (by have := s2.size; have := hB2.size; omega) (fun k hk => by omega)
     have hS4 := box_keeps (box_keeps k42 s2 (by omega)) s4 (by omega)
     have hS5 := box_keeps (box_keeps k52 s2 (by omega)) s4 (by omega)
     have hMS : MrS w F1 F2 B8 B9 n m (.slice A m c) Aa At ca ct L (idM m) ((((w2.setCell ⟨B8, 0, none⟩ (.int .i64 (n : Int))).setCell ⟨B8, 1, none⟩ (.slice Aa m ca)).setCell ⟨B9, 0, none⟩ (.int .i64 (m : Int))).setCell ⟨B9, 1, none⟩ (.slice At m ct)) :=
      ⟨hBB, hS3, hS4, hS5, s5, s3, hMA, hMT⟩
     obtain ⟨⟨c0, c1'⟩, c3, c4⟩ := box2 x1
     obtain ⟨⟨d0, d1⟩, d3, d4⟩ := box2 x5
     clear hMA hMT hBB hS4 hS5 hO hO2 hL hL2 hf1 hf2 hap hF1 hF2 k32 k42 k52 hB2 s1 s2 s3 s4 s5 x1 x3 x5; have hMS_h := lH hMS; have hS2_h := lH hS2; have hS3_h := lH hS3; have hFF_h := lH hFF; have hne_h := lH hne; have hb2_h := lH hb2; have x2_h := lH x2; have x4_h := lH x4; clear hMS hS2 hS3 hFF hne hb2 x2 x4
     simp only [putB, List.foldl_cons, List.foldl_nil]
     simp only [Act.put, nS]
     refine oneH 8 rfl (by kernel_rfl) (by rfl) (fun K hK => ?_)
     go_simp
     refine hK _ _ hS2_h.out ?_
     clear hK K
     refine oneH 9 rfl (by kernel_rfl) (by rfl) (fun K hK => ?_)
     go_simp
     refine hK _ _ hS3_h.out ?_
     clear hK K
     refine doneH (by kernel_rfl) ?_
     obtain ⟨W5, hW5⟩ : ∃ W5, W5 = (((w2.setCell ⟨B8, 0, none⟩ (.int .i64 (n : Int))).setCell ⟨B8, 1, none⟩ (.slice Aa m ca)).setCell ⟨B9, 0, none⟩ (.int .i64 (m : Int))).setCell ⟨B9, 1, none⟩ (.slice At m ct) := ⟨_, rfl⟩
     rw [← hW5] at hMS_h ⊢
     clear hW5 c0 c1' c3 c4 d0 d1 d3 d4 hS2_h hS3_h
     obtain ⟨⟨c0, c1'⟩, c2, c3⟩ := box2 hMS_h.out.k8
     go_wp2_with (fail)
     clear c0 c1' c2 c3
     go_loopw [12, 10, 11] (fun jv rv dv wr => ∃ (col R : Nat) (det : Int) (MA MT : List (List Int)), col ≤ n ∧ jv = .int .i64 col ∧ rv = .int .i64 R ∧ dv = .int .i64 det ∧ (0 ≤ det ∧ det < p) ∧ (redTo p L (idM m) col).1 = R ∧ (redTo p L (idM m) col).2.1 = MA ∧ (redTo p L (idM m) col).2.2 = MT ∧ MrS w F1 F2 B8 B9 n m (.slice A m c) Aa At ca ct MA MT wr) (fun jv _ _ _ => n - (intOf jv).toNat)
     case atStart => exact ⟨0, 0, 1, L, idM m, Nat.zero_le _, rfl, rfl, rfl, by omega, rfl, rfl, rfl, hMS_h.out⟩
     case round =>
      clear hMS_h
      obtain ⟨col, R, det, MA, MT, hcol, rfl, rfl, rfl, hdet, hR, hMA, hMT, hMS⟩ := hrel
      obtain ⟨hMm, hRm⟩ := redTo_mat hp_h.out hMat_h.out (idM m) hcol
      have hTm := redTo_mat3 hp_h.out hMat_h.out (idM_mat (by omega) m) col hcol
      rw [hMA] at hMm
      rw [hR] at hRm
      rw [hMT] at hTm
      obtain ⟨wo, rfl⟩ : ∃ x, x = wr := ⟨_, rfl⟩
      have hAl := hMm.len
      have hTl := hTm.len
      obtain ⟨⟨c0, c1'⟩, c2, c3⟩ := box2 hMS.k8
      obtain ⟨⟨d0, d1⟩, d2, d3⟩ := box2 hMS.k9
      obtain ⟨⟨e0, e1⟩, e2, e3⟩ := box2 hMS.k3
      have hR_h := lH hR; have hMA_h := lH hMA; have hMT_h := lH hMT; have hMm_h := lH hMm; have hTm_h := lH hTm; have hAl_h := lH hAl; have hTl_h := lH hTl; have hMS_h := lH hMS; clear hR hMA hMT hMm hTm hAl hTl hMS
      by_cases hcn : col < n
      case pos =>
       have hcI : (col : Int) < (n : Int) := by omega
       go_wp2_with (fail)
       go_loop [13] (fun v => ∃ q : Nat, R ≤ q ∧ q ≤ m ∧ v = .int .i64 q ∧ pvFrom MA col (m - q) q = pvFrom MA col (m - R) R) (fun v => m - (intOf v).toNat)
       case atStart => exact ⟨R, Nat.le_refl _, hRm, rfl, rfl⟩
       case round =>
        obtain ⟨q, hRq, hqm, rfl, hpv⟩ := hrel
        have HPV := lH hpv; clear hpv
        by_cases hlt : q < m
        · obtain ⟨ad, B, d, hA', hcq, hfq, hIq, hBs⟩ := hMS_h.out.a.get (i := q) (by rw [hAl_h.out]; exact hlt)
          have hrl := (hMm_h.out.get hlt).1
          obtain ⟨bd, x, hB, hx, _, hcx, _⟩ := hIq.at_ (j := col) (by rw [hrl]; exact hcn)
          have hxe : x = en MA q col := by unfold en; simp [List.getD] at hx ⊢; rw [hx]; rfl
          have hxb := hMm_h.out.en (by omega) hlt col
          rw [← hxe] at hxb
          rw [hrl] at hcq
          have HXE := lH hxe
          have hqI : (q : Int) < (m : Int) := by omega
          subst hA'
          subst hB
          clear hBs
          by_cases hx0 : x = 0
          · subst hx0
            have hpn := pvFrom_eq hlt HXE.out.symm
            have HPN := lH hpn; clear hpn hxe hIq hrl hx hfq
            go_wp2_with (fail)
            go_round
            case rel => exact ⟨q + 1, by omega, by omega, by go_num, by rw [← HPN.out]; exact HPV.out⟩
            case measure => simp [intOf]; omega
          · have hx1 : (x == 0) = false := by rw [beq_eq_false_iff_ne]; exact hx0
            have hpn : pvFrom MA col (m - R) R = q := by rw [← HPV.out]; exact pvFrom_hit hlt (by rw [← HXE.out]; exact hx0)
            have HPN := lH hpn
            have hqb : ((q : Int) == (m : Int)) = false := by rw [beq_eq_false_iff_ne]; omega
            have hfq_h := lH hfq; clear hpn HPV hxe hIq hrl hx hfq
            go_upto_if 57 with (fail)
            go_cut [11] (fun dv wx => ∃ det' : Int, dv = .int .i64 det' ∧ (0 ≤ det' ∧ det' < p) ∧ MrS w F1 F2 B8 B9 n m (.slice A m c) (some ad) At ca ct (swapL MA R q) (swapL MT R q) wx)
            case first =>
             by_cases hqR : R < q
             · have hRq' : (R : Int) < (q : Int) := by omega
               have hRm' : R < m := by omega
               obtain ⟨td, Tq, tq, hT1, htq, _⟩ := hMS_h.out.t.get (i := q) (by rw [hTl_h.out]; exact hlt)
               subst hT1
               rw [(hTm_h.out.get hlt).1] at htq
               go_wp2_with (fail)
               go_quiet (fail)
               go_wp2_with (fail)
               refine wp_region_still_tail 9 (by kernel_rfl) (by kernel_rfl) ?_
               simp only [List.take_succ_cons, List.take_zero, List.drop_succ_cons, List.drop_zero]
               change wpStill _ _ (wo.drewN nq).drew (fun a' => wpList _ _ _ _ a' (wo.drewN nq).drew) _ _
               have hMV : MrS w F1 F2 B8 B9 n m (.slice A m c) (some ad) (some td) ca ct MA MT (wo.drewN nq).drew := hMS_h.out.below (below_drewN (below_drewN (Below.refl _ _) nq) 1)
               have hcqV : (wo.drewN nq).drew.cell? (ad.add q) = some (.slice (some bd) n d) := hcq
               have htqV : (wo.drewN nq).drew.cell? (td.add q) = some (.slice Tq m tq) := htq
               have hfqV : (wo.drewN nq).drew.frozen? (ad.add q) = false := hfq_h.out
               clear hcq htq hcx c0 c1' c2 c3 d0 d1 d2 d3 e0 e1 e2 e3
               generalize (wo.drewN nq).drew = V0 at hMV hcqV htqV hfqV ⊢
               obtain ⟨ad2, BR, cR, hA2, hcR, hfR, _⟩ := hMV.a.get (i := R) (by rw [hAl_h.out]; exact hRm')
               obtain rfl := Option.some.inj hA2
               obtain ⟨td2, TR, tR, hT2, htR, hgR, _⟩ := hMV.t.get (i := R) (by rw [hTl_h.out]; exact hRm')
               obtain rfl := Option.some.inj hT2
               obtain ⟨td3, _, _, hT3, _, hgq, _⟩ := hMV.t.get (i := q) (by rw [hTl_h.out]; exact hlt)
               obtain rfl := Option.some.inj hT3
               rw [(hMm_h.out.get hRm').1] at hcR
               rw [(hTm_h.out.get hRm').1] at htR
               have b1 : ad.block ∈ F1 := hMV.a.blk
               have b2 : td.block ∈ F2 := hMV.t.blk
               have hbl : ad.block ≠ td.block := fun e => hFF_h.out.ap _ b1 (e ▸ b2)
               -- the worlds on the way
               obtain ⟨U1, hU1⟩ : ∃ U, U = V0.setCell (ad.add q) (.slice BR n cR) := ⟨_, rfl⟩
               obtain ⟨V1, hV1⟩ : ∃ U, U = U1.drew := ⟨_, rfl⟩
               obtain ⟨U2, hU2⟩ : ∃ U, U = V1.setCell (td.add q) (.slice TR m tR) := ⟨_, rfl⟩
               obtain ⟨U3, hU3⟩ : ∃ U, U = U2.setCell (ad.add R) (.slice (some bd) n d) := ⟨_, rfl⟩
               obtain ⟨U4, hU4⟩ : ∃ U, U = U3.setCell (td.add R) (.slice Tq m tq) := ⟨_, rfl⟩
               have q1 : V1.cell? (ad.add R) = some (.slice BR n cR) := by rw [hV1, hU1]; show (V0.setCell _ _).cell? _ = _; rw [World.cell?_setCell_other _ _ _ _ (add_ne ad (by omega))]; exact hcR
               have q2 : V1.cell? (td.add q) = some (.slice Tq m tq) := by rw [hV1, hU1]; show (V0.setCell _ _).cell? _ = _; rw [World.cell?_setCell_other _ _ _ _ (blk_ne hbl _ _)]; exact htqV
               have q3 : V1.cell? (td.add R) = some (.slice TR m tR) := by rw [hV1, hU1]; show (V0.setCell _ _).cell? _ = _; rw [World.cell?_setCell_other _ _ _ _ (blk_ne hbl _ _)]; exact htR
               have q4 : U2.cell? (ad.add R) = some (.slice BR n cR) := by rw [hU2, World.cell?_setCell_other _ _ _ _ (fun e => blk_ne hbl _ _ e.symm)]; exact q1
               have q5 : U2.cell? (td.add R) = some (.slice TR m tR) := by rw [hU2, World.cell?_setCell_other _ _ _ _ (add_ne td (by omega))]; exact q3
               have q6 : U3.cell? (td.add R) = some (.slice TR m tR) := by rw [hU3, World.cell?_setCell_other _ _ _ _ (blk_ne hbl _ _)]; exact q5
               have g1 : ∀ k, V1.frozen? (ad.add k) = V0.frozen? (ad.add k) ∧ V1.frozen? (td.add k) = V0.frozen? (td.add k) := fun k => by rw [hV1, hU1]; show (V0.setCell _ _).frozen? _ = _ ∧ (V0.setCell _ _).frozen? _ = _; rw [World.frozen?_setCell, World.frozen?_setCell]; exact ⟨rfl, rfl⟩
               have g2 : ∀ k, U2.frozen? (ad.add k) = V0.frozen? (ad.add k) ∧ U2.frozen? (td.add k) = V0.frozen? (td.add k) := fun k => by rw [hU2, World.frozen?_setCell, World.frozen?_setCell]; exact g1 k
               have g3 : ∀ k, U3.frozen? (ad.add k) = V0.frozen? (ad.add k) ∧ U3.frozen? (td.add k) = V0.frozen? (td.add k) := fun k => by rw [hU3, World.frozen?_setCell, World.frozen?_setCell]; exact g2 k
               have f1 : V1.frozen? (td.add q) = false := (g1 q).2.trans hgq
               have f2 : U2.frozen? (ad.add R) = false := (g2 R).1.trans hfR
               have f3 : U3.frozen? (td.add R) = false := (g3 R).2.trans hgR
               have K1 : Keeps (· ∈ F1) V0 V1 := by rw [hV1, hU1]; exact ((Keeps.refl _ _).setCell (by rw [block_of_add]; exact b1) _).drew
               have K2 : Keeps (· ∈ F2) V1 U2 := by rw [hU2]; exact (Keeps.refl _ _).setCell (by rw [block_of_add]; exact b2) _
               have K3 : Keeps (· ∈ F1) U2 U3 := by rw [hU3]; exact (Keeps.refl _ _).setCell (by rw [block_of_add]; exact b1) _
               have k91 := box_keeps hMV.k9 K1 (hFF_h.out.n1 _ (.inr (.inr (.inr (.inr rfl))))).1
               have k81 := box_keeps hMV.k8 K1 (hFF_h.out.n1 _ (.inr (.inr (.inr (.inl rfl))))).1
               have k82 := box_keeps k81 K2 (hFF_h.out.n1 _ (.inr (.inr (.inr (.inl rfl))))).2
               have k92 := box_keeps k91 K2 (hFF_h.out.n1 _ (.inr (.inr (.inr (.inr rfl))))).2
               have k93 := box_keeps k92 K3 (hFF_h.out.n1 _ (.inr (.inr (.inr (.inr rfl))))).1
               have hEnd : MrS w F1 F2 B8 B9 n m (.slice A m c) (some ad) (some td) ca ct (swapL MA R q) (swapL MT R q) U4 := by
                have e4 : U4 = ((((V0.setCell (ad.add q) (.slice BR n cR)).setCell (ad.add R) (.slice (some bd) n d)).setCell (td.add q) (.slice TR m tR)).setCell (td.add R) (.slice Tq m tq)).drew := by
                 rw [hU4, hU3, hU2, hV1, hU1]
                 show World.drew ((((V0.setCell (ad.add q) (.slice BR n cR)).setCell (td.add q) (.slice TR m tR)).setCell (ad.add R) (.slice (some bd) n d)).setCell (td.add R) (.slice Tq m tq)) = _
                 rw [setCell_comm _ (a := td.add q) (b := ad.add R) (by rw [block_of_add, block_of_add]; exact fun e => hbl e.symm)]
                rw [e4]
                obtain ⟨p1, p2⟩ := hMV.a.swap (r := q) (k := R) (by rw [hAl_h.out]; exact hlt) (by rw [hAl_h.out]; exact hRm') rfl hcR hcqV
                rw [swapL_symm _ (show q ≠ R by omega)] at p1
                have r1 := hMV.setA hFF_h.out p1 p2
                have e5 : ((V0.setCell (ad.add q) (.slice BR n cR)).setCell (ad.add R) (.slice (some bd) n d)).cell? (td.add R) = some (.slice TR m tR) := by
                 rw [World.cell?_setCell_other _ _ _ _ (blk_ne hbl _ _), World.cell?_setCell_other _ _ _ _ (blk_ne hbl _ _)]; exact htR
                have e6 : ((V0.setCell (ad.add q) (.slice BR n cR)).setCell (ad.add R) (.slice (some bd) n d)).cell? (td.add q) = some (.slice Tq m tq) := by
                 rw [World.cell?_setCell_other _ _ _ _ (blk_ne hbl _ _), World.cell?_setCell_other _ _ _ _ (blk_ne hbl _ _)]; exact htqV
                obtain ⟨p3, p4⟩ := r1.t.swap (r := q) (k := R) (by rw [hTl_h.out]; exact hlt) (by rw [hTl_h.out]; exact hRm') rfl e5 e6
                rw [swapL_symm _ (show q ≠ R by omega)] at p3
                exact (r1.setT hFF_h.out p3 p4).below (below_drewN (Below.refl _ _) 1)
               have hN := fun W' => fdNeg_any p det W' (by omega) hpb.2 hdet.1 hdet.2
               have k80 := hMV.k8
               obtain ⟨⟨c0, c1'⟩, c2, c3⟩ := box2 k80
               clear g1 g2 g3 K1 K2 K3 htR hgR hgq k80 htqV; have hV1_h := lH hV1; have hU2_h := lH hU2; have hU3_h := lH hU3; have hU4_h := lH hU4; clear hV1 hU2 hU3 hU4; have q1_h := lH q1; have q2_h := lH q2; have q3_h := lH q3; have q4_h := lH q4; have q5_h := lH q5; have q6_h := lH q6; have f1_h := lH f1; have f2_h := lH f2; have f3_h := lH f3; have k81_h := lH k81; have k91_h := lH k91; have k82_h := lH k82; have k92_h := lH k92; have k93_h := lH k93; have hEnd_h := lH hEnd; have hN_h := lH hN; have b1_h := lH b1; have b2_h := lH b2; have hbl_h := lH hbl; have hMV_h := lH hMV; have hfR_h := lH hfR; clear q1 q2 q3 q4 q5 q6 f1 f2 f3 k81 k91 k82 k92 k93 hEnd hN b1 b2 hbl hMV hfR
               repeat still_step
               refine wpStill_nil ?_
               go_upto_region 13 with (fail)
               rw [← hU1]
               clear hU1 c0 c1' c2 c3 hcR hcqV hfqV
               refine wp_region_still_tail 9 (by kernel_rfl) (by kernel_rfl) ?_
               simp only [List.take_succ_cons, List.take_zero, List.drop_succ_cons, List.drop_zero]
               change wpStill _ _ U1.drew (fun a' => wpList _ _ _ _ a' U1.drew) _ _
               rw [← hV1_h.out]
               obtain ⟨⟨c0, c1'⟩, c2, c3⟩ := box2 k91_h.out
               have r1 := q2_h.out
               have r2 := q3_h.out
               have r3 := f1_h.out
               repeat still_step
               refine wpStill_nil ?_
               go_upto_region 14 with (fail)
               rw [← hU2_h.out]
               clear c0 c1' c2 c3 r1 r2 r3
               obtain ⟨⟨c0, c1'⟩, c2, c3⟩ := box2 k82_h.out
               have r1 := q4_h.out
               have r2 := f2_h.out
               go_upto_region 15 with (fail)
               rw [← hU3_h.out]
               clear c0 c1' c2 c3 r1 r2
               obtain ⟨⟨c0, c1'⟩, c2, c3⟩ := box2 k93_h.out
               have r1 := q6_h.out
               have r2 := f3_h.out
               go_upto_region 16 with (fail)
               rw [← hU4_h.out]
               clear c0 c1' c2 c3 r1 r2
               go_wp2_with (fail)
               refine (hN_h.out _).mono ?_
               rintro e w6 ⟨rfl, hw6⟩
               subst w6
               go_wp2_with (fail)
               go_meet
               exact ⟨_, rfl, ⟨Int.emod_nonneg _ (by omega), Int.emod_lt_of_pos _ (by omega)⟩, hEnd_h.out⟩
             · obtain rfl : R = q := by omega
               go_wp2_with (fail)
               go_meet
               exact ⟨det, rfl, hdet, by rw [swapL_self, swapL_self]; exact hMS_h.out⟩
            case rest =>
             obtain ⟨det', rfl, hdet', hMS2⟩ := hcut
             obtain ⟨w7, rfl⟩ : ∃ x, x = wc := ⟨_, rfl⟩
             have hRm' : R < m := by omega
             obtain ⟨SA, hSA⟩ : ∃ X, X = swapL MA R q := ⟨_, rfl⟩
             obtain ⟨ST, hST⟩ : ∃ X, X = swapL MT R q := ⟨_, rfl⟩
             have hSm := hMm_h.out.swap (r := R) (k := q) hRm' hlt
             have hTm2 := hTm_h.out.swap (r := R) (k := q) hRm' hlt
             have hSx : en SA R col = x := by
              rw [HXE.out, hSA]; unfold en
              rw [swapL_get (by rw [hAl_h.out]; omega) (by rw [hAl_h.out]; omega)]
              by_cases e : R = q
              · rw [if_pos e, e]
              · rw [if_neg e, if_pos rfl]
             rw [← hSA] at hMS2 hSm
             rw [← hST] at hMS2 hTm2
             obtain ⟨ad3, B3, c3', hA3, hc3, hf3, hI3, _⟩ := hMS2.a.get (i := R) (by rw [hSm.len]; omega)
             obtain rfl := Option.some.inj hA3
             have hl3 := (hSm.get hRm').1
             obtain ⟨b3, y, hB3, hy, _, hcy, _⟩ := hI3.at_ (j := col) (by rw [hl3]; exact hcn)
             have hyx : y = x := by rw [← hSx]; unfold en; simp [List.getD] at hy ⊢; rw [hy]; rfl
             have hSx_e : en MA q col = y := by rw [hyx]; exact HXE.out.symm
             subst hyx
             subst hB3
             rw [hl3] at hc3
             have hy1 : 1 ≤ y := by omega
             have hy2 : y < p := hxb.2
             obtain ⟨iv, hiv⟩ : ∃ iv, iv = invM p y := ⟨_, rfl⟩
             have hinv := invM_spec hp_h.out hy1 hy2
             rw [← hiv] at hinv
             have hiv1 := hinv.2.1
             have hiv2 := hinv.2.2
             have hI := fun W' => fdInv_any p y W' hp_h.out hy1 hy2
             rw [← hiv] at hI
             have hMul := fun W' => fdMul_any p det' y W' (by omega) hdet'.1 (by omega) (by omega) (by omega)
             have hde0 := Int.emod_nonneg (det' * y) (show p ≠ 0 by omega)
             have hde1 := Int.emod_lt_of_pos (det' * y) (show 0 < p by omega)
             -- the row of A, scaled
             have hRlen := hl3
             have hRres := (hSm.get hRm').2
             have hScA := fun W' (h' : IS W' (some b3) c3' (SA.getD R [])) => mxScale_any p iv (some b3) c3' n (SA.getD R []) W' h' hl3 (by omega) (by omega) hpb.2 hRres ⟨by omega, hiv2⟩
             obtain ⟨⟨c0, c1'⟩, c2, c3⟩ := box2 hMS2.k8
             clear hcq hcx hx1 hx0 hdet hxb hf3 hinv hy hA3; have hSA_h := lH hSA; have hST_h := lH hST; have hSm_h := lH hSm; have hTm2_h := lH hTm2; have hSx_h := lH hSx; have hSx_e_h := lH hSx_e; have hMS2_h := lH hMS2; have hI3_h := lH hI3; have hl3_h := lH hl3; have hiv_h := lH hiv; have hI_h := lH hI; have hMul_h := lH hMul; have hde0_h := lH hde0; have hde1_h := lH hde1; have hRlen_h := lH hRlen; have hRres_h := lH hRres; have hScA_h := lH hScA; clear hSA hST hSm hTm2 hSx hSx_e hMS2 hI3 hl3 hiv hI hMul hde0 hde1 hRlen hRres hScA
             go_wp2_with (fail)
             refine (hMul_h.out _).mono ?_
             rintro e w8 ⟨rfl, hw8⟩
             subst w8
             go_wp2_with (fail)
             refine wp_region_still_tail 9 (by kernel_rfl) (by kernel_rfl) ?_
             simp only [List.take_succ_cons, List.take_zero, List.drop_succ_cons, List.drop_zero]
             change wpStill _ _ w7.drew (fun a' => wpList _ _ _ _ a' w7.drew) _ _
             have hMV : MrS w F1 F2 B8 B9 n m (.slice A m c) (some ad) At ca ct SA ST w7.drew := hMS2_h.out.below (below_drewN (Below.refl _ _) 1)
             have d3 : w7.drew.cell? (ad.add R) = some (.slice (some b3) n c3') := hc3
             have hI4 : IS w7.drew (some b3) c3' (SA.getD R []) := hI3_h.out
             clear c0 c1' c2 c3 hc3 hcy
             generalize w7.drew = V1 at hMV d3 hI4 ⊢
             obtain ⟨⟨c0, c1'⟩, c2, c3⟩ := box2 hMV.k8
             have C1 := stillC2 (hI_h.out V1)
             have hSA1 : SA.length = m := hSm_h.out.len
             have hST1 : ST.length = m := hTm2_h.out.len
             have C2 := hScA_h.out V1 hI4
             clear hI4; have hMV_h := lH hMV; have C1_h := lH C1; have C2_h := lH C2; have hSA1_h := lH hSA1; have hST1_h := lH hST1; clear hMV C1 C2 hSA1 hST1
             repeat still_step
             still_call C1_h.out
             repeat still_step
             refine wpStill_nil ?_
             go_wp2_with (fail)
             refine (C2_h.out).mono ?_
             rintro e w9 ⟨rfl, hWr⟩
             obtain ⟨p1, p2⟩ := hMV_h.out.a.wr (i := R) (by rw [hSA1_h.out]; exact hRm') rfl d3 (by rw [scaleV_length]) hWr
             have hMS3 := hMV_h.out.setA hFF_h.out p1 p2
             obtain ⟨M2, hM2⟩ : ∃ M2, M2 = scaleL p R iv SA := ⟨_, rfl⟩
             have e1 : SA.set R (scaleV p iv (SA.getD R [])) = M2 := hM2.symm
             rw [e1] at hMS3
             clear hWr p1 p2 e1 d3 c0 c1' c2 c3; have hM2_h := lH hM2; have hMS3_h := lH hMS3; clear hM2 hMS3
             go_upto_region 20 with (fail)
             refine wp_region_still_tail 9 (by kernel_rfl) (by kernel_rfl) ?_
             simp only [List.take_succ_cons, List.take_zero, List.drop_succ_cons, List.drop_zero]
             change wpStill _ _ w9.drew (fun a' => wpList _ _ _ _ a' w9.drew) _ _
             have hMV2 : MrS w F1 F2 B8 B9 n m (.slice A m c) (some ad) At ca ct M2 ST w9.drew := hMS3_h.out.below (below_drewN (Below.refl _ _) 1)
             generalize w9.drew = V2 at hMV2 ⊢
             obtain ⟨td, TB, tc, hT1, htc, _, hTI, _⟩ := hMV2.t.get (i := R) (by rw [hST1_h.out]; exact hRm')
             subst hT1
             obtain ⟨htl, htr⟩ := hTm2_h.out.get hRm'
             rw [htl] at htc
             obtain ⟨⟨c0, c1'⟩, c2, c3⟩ := box2 hMV2.k9
             have C3 := stillC2 (hI_h.out V2)
             have C4 := mxScale_any p iv TB tc m (ST.getD R []) V2 hTI htl (by omega) (by omega) hpb.2 htr ⟨by omega, hiv2⟩
             clear hTI htl htr; have hMV2_h := lH hMV2; have C3_h := lH C3; have C4_h := lH C4; clear hMV2 C3 C4
             repeat still_step
             still_call C3_h.out
             repeat still_step
             refine wpStill_nil ?_
             go_wp2_with (fail)
             refine (C4_h.out).mono ?_
             rintro e w10 ⟨rfl, hWr⟩
             obtain ⟨p1, p2⟩ := hMV2_h.out.t.wr (i := R) (by rw [hST1_h.out]; exact hRm') rfl htc (by rw [scaleV_length]) hWr
             have hMS4 := hMV2_h.out.setT hFF_h.out p1 p2
             obtain ⟨T2, hT2⟩ : ∃ T2, T2 = scaleL p R iv ST := ⟨_, rfl⟩
             have e1 : ST.set R (scaleV p iv (ST.getD R [])) = T2 := hT2.symm
             rw [e1] at hMS4
             have hm2 : Mat p m n M2 := by rw [hM2_h.out]; exact hSm_h.out.scale (by omega) hRm' iv
             have ht2 : Mat p m m T2 := by rw [hT2]; exact hTm2_h.out.scale (by omega) hRm' iv
             have hml2 := hm2.len
             have htl2 := ht2.len
             clear hWr p1 p2 e1 htc c0 c1' c2 c3
             obtain ⟨⟨c0, c1'⟩, c2, c3⟩ := box2 hMS4.k8
             have hT2_h := lH hT2; have hMS4_h := lH hMS4; have hm2_h := lH hm2; have ht2_h := lH ht2; have hml2_h := lH hml2; have htl2_h := lH htl2; clear hT2 hMS4 hm2 ht2 hml2 htl2
             go_wp2_with (fail)
             clear c0 c1' c2 c3
             go_loopw [134] (fun i wr => ∃ g : Nat, g ≤ m ∧ i = .int .i64 g ∧ MrS w F1 F2 B8 B9 n m (.slice A m c) (some ad) (some td) ca ct (elimTo p R (fun i => en M2 i col) M2 g) (elimTo p R (fun i => en M2 i col) T2 g) wr) (fun i _ => m - (intOf i).toNat)
             case atStart => exact ⟨0, Nat.zero_le _, rfl, by rw [elimTo_zero, elimTo_zero]; exact hMS4_h.out⟩
             case round =>
              clear hMS4_h
              obtain ⟨g, hg, rfl, hMS5⟩ := hrel
              by_cases hgm : g < m
              · have hgI : (g : Int) < (m : Int) := by omega
                obtain ⟨ad4, B4, c4, hA4, hc4, _, hI5, _⟩ := hMS5.a.get (i := g) (by rw [elimTo_length, hml2_h.out]; exact hgm)
                obtain rfl := Option.some.inj hA4
                rw [elimTo_at (by rw [hml2_h.out]; exact hgm)] at hc4 hI5
                have hgl := (hm2_h.out.get hgm).1
                rw [hgl] at hc4
                obtain ⟨b4, x2, hB4, hx2, _, hcx2, _⟩ := hI5.at_ (j := col) (by rw [hgl]; exact hcn)
                have hx2e : x2 = en M2 g col := by unfold en; simp [List.getD] at hx2 ⊢; rw [hx2]; rfl
                have hx2b := hm2_h.out.en (by omega) hgm col
                rw [← hx2e] at hx2b
                subst hB4
                obtain ⟨⟨c0, c1'⟩, c2, c3⟩ := box2 hMS5.k8
                clear hI5 hx2 hgl; have hx2e_h := lH hx2e; have hMS5_h := lH hMS5; clear hx2e hMS5
                by_cases hgR : g = R
                · have hb : ((g : Int) == (R : Int)) = true := by rw [beq_iff_eq]; omega
                  have hb' : ((g : Int) != (R : Int)) = false := by rw [bne_eq_false_iff_eq]; omega
                  have hsk := elimTo_skip (p := p) (L := M2) (f := fun i => en M2 i col) (.inl hgR)
                  have hsk2 := elimTo_skip (p := p) (L := T2) (f := fun i => en M2 i col) (.inl hgR)
                  have hsk_h := lH hsk; have hsk2_h := lH hsk2; have hgR_h := lH hgR; clear hsk hsk2 hgR
                  go_wp2_with (fail)
                  go_roundw
                  case rel => exact ⟨g + 1, by omega, by go_num, by rw [hsk_h.out, hsk2_h.out]; exact hMS5_h.out⟩
                  case measure => simp [intOf]; omega
                · have hb : ((g : Int) == (R : Int)) = false := by rw [beq_eq_false_iff_ne]; omega
                  have hb' : ((g : Int) != (R : Int)) = true := by rw [bne_iff_ne]; omega
                  by_cases hx20 : x2 = 0
                  · subst hx20
                    have hsk := elimTo_skip (p := p) (r := R) (q := g) (L := M2) (f := fun i => en M2 i col) (.inr hx2e_h.out.symm)
                    have hsk2 := elimTo_skip (p := p) (r := R) (q := g) (L := T2) (f := fun i => en M2 i col) (.inr hx2e_h.out.symm)
                    have hsk_h := lH hsk; have hsk2_h := lH hsk2; have hgR_h := lH hgR; clear hsk hsk2 hgR
                    go_wp2_with (fail)
                    go_roundw
                    case rel => exact ⟨g + 1, by omega, by go_num, by rw [hsk_h.out, hsk2_h.out]; exact hMS5_h.out⟩
                    case measure => simp [intOf]; omega
                  · have hx21 : (x2 == 0) = false := by rw [beq_eq_false_iff_ne]; exact hx20
                    have hx22 : (x2 != 0) = true := by rw [bne_iff_ne]; exact hx20
                    have hst := elimTo_step (p := p) (r := R) (q := g) (L := M2) (f := fun i => en M2 i col) (by rw [hml2_h.out]; exact hgm) hgR (by rw [← hx2e_h.out]; exact hx20)
                    have hst2 := elimTo_step (p := p) (r := R) (q := g) (L := T2) (f := fun i => en M2 i col) (by rw [htl2_h.out]; exact hgm) hgR (by rw [← hx2e_h.out]; exact hx20)
                    simp only [← hx2e_h.out] at hst hst2
                    have hst_h := lH hst; have hst2_h := lH hst2; clear hst hst2
                    go_wp2_with (fail)
                    refine wp_region_still_tail 12 (by kernel_rfl) (by kernel_rfl) ?_
                    simp only [List.take_succ_cons, List.take_zero, List.drop_succ_cons, List.drop_zero]
                    change wpStill _ _ wr.drew (fun a' => wpList _ _ _ _ a' wr.drew) _ _
                    obtain ⟨E, hE⟩ : ∃ E, E = elimTo p R (fun i => en M2 i col) M2 g := ⟨_, rfl⟩
                    obtain ⟨E2, hE2⟩ : ∃ E, E = elimTo p R (fun i => en M2 i col) T2 g := ⟨_, rfl⟩
                    have hMV3 : MrS w F1 F2 B8 B9 n m (.slice A m c) (some ad) (some td) ca ct E E2 wr.drew := by rw [hE, hE2]; exact hMS5_h.out.below (below_drewN (Below.refl _ _) 1)
                    clear hc4 hcx2 c0 c1' c2 c3
                    generalize wr.drew = V3 at hMV3 ⊢
                    have hEl : E.length = m := by rw [hE, elimTo_length]; exact hml2_h.out
                    have hEl2 : E2.length = m := by rw [hE2, elimTo_length]; exact htl2_h.out
                    have hEg : E.getD g [] = M2.getD g [] := by rw [hE]; exact elimTo_at (by rw [hml2_h.out]; exact hgm)
                    have hER : E.getD R [] = M2.getD R [] := by rw [hE]; exact elimTo_piv (by rw [hml2_h.out]; exact hRm')
                    have hEg2 : E2.getD g [] = T2.getD g [] := by rw [hE2]; exact elimTo_at (by rw [htl2_h.out]; exact hgm)
                    have hER2 : E2.getD R [] = T2.getD R [] := by rw [hE2]; exact elimTo_piv (by rw [htl2_h.out]; exact hRm')
                    rw [← hE, ← hEg, ← hER] at hst_h
                    rw [← hE2, ← hEg2, ← hER2] at hst2_h
                    obtain ⟨ad5, B5, c5, D5, d5, hA5, hcg, hcR, hIg, hIR, hapx⟩ := hMV3.a.get2 (i := g) (k := R) (by rw [hEl]; exact hgm) (by rw [hEl]; exact hRm') hgR
                    obtain rfl := Option.some.inj hA5
                    have hlg : (E.getD g []).length = n := by rw [hEg]; exact (hm2_h.out.get hgm).1
                    have hlR : (E.getD R []).length = n := by rw [hER]; exact (hm2_h.out.get hRm').1
                    have hrg : Res p (E.getD g []) := by rw [hEg]; exact (hm2_h.out.get hgm).2
                    have hrR : Res p (E.getD R []) := by rw [hER]; exact (hm2_h.out.get hRm').2
                    have hlg2 : (E2.getD g []).length = m := by rw [hEg2]; exact (ht2_h.out.get hgm).1
                    have hlR2 : (E2.getD R []).length = m := by rw [hER2]; exact (ht2_h.out.get hRm').1
                    have hrg2 : Res p (E2.getD g []) := by rw [hEg2]; exact (ht2_h.out.get hgm).2
                    have hrR2 : Res p (E2.getD R []) := by rw [hER2]; exact (ht2_h.out.get hRm').2
                    have C5 := mxLess_any p x2 B5 D5 c5 d5 n (E.getD g []) (E.getD R []) V3 hIg hIR.rd hapx hlg hlR (by omega) (by omega) hpb.2 hrg hrR hx2b
                    rw [hlg] at hcg
                    rw [hlR] at hcR
                    obtain ⟨⟨c0, c1'⟩, c2, c3⟩ := box2 hMV3.k8
                    clear hIg hIR hapx; have hMV3_h := lH hMV3; have C5_h := lH C5; have hE_h := lH hE; have hE2_h := lH hE2; have hEl_h := lH hEl; have hEl2_h := lH hEl2; have hEg_h := lH hEg; have hER_h := lH hER; have hEg2_h := lH hEg2; have hER2_h := lH hER2; have hlg_h := lH hlg; have hlR_h := lH hlR; have hrg_h := lH hrg; have hrR_h := lH hrR; have hlg2_h := lH hlg2; have hlR2_h := lH hlR2; have hrg2_h := lH hrg2; have hrR2_h := lH hrR2; clear hMV3 C5 hE hE2 hEl hEl2 hEg hER hEg2 hER2 hlg hlR hrg hrR hlg2 hlR2 hrg2 hrR2
                    repeat still_step
                    refine wpStill_nil ?_
                    go_wp2_with (fail)
                    refine (C5_h.out).mono ?_
                    rintro e w11 ⟨rfl, hWr⟩
                    obtain ⟨p1, p2⟩ := hMV3_h.out.a.wr (i := g) (by rw [hEl_h.out]; exact hgm) rfl hcg (by rw [addT_length]) hWr
                    rw [← hst_h.out] at p1
                    have hMS6 := hMV3_h.out.setA hFF_h.out p1 p2
                    clear hWr p1 p2 hcg hcR c0 c1' c2 c3; have hMS6_h := lH hMS6; clear hMS6
                    go_upto_region 27 with (fail)
                    refine wp_region_still_tail 12 (by kernel_rfl) (by kernel_rfl) ?_
                    simp only [List.take_succ_cons, List.take_zero, List.drop_succ_cons, List.drop_zero]
                    change wpStill _ _ w11.drew (fun a' => wpList _ _ _ _ a' w11.drew) _ _
                    have hMV4 : MrS w F1 F2 B8 B9 n m (.slice A m c) (some ad) (some td) ca ct (elimTo p R (fun i => en M2 i col) M2 (g + 1)) E2 w11.drew := hMS6_h.out.below (below_drewN (Below.refl _ _) 1)
                    generalize w11.drew = V4 at hMV4 ⊢
                    obtain ⟨td5, B6, c6, D6, d6, hA6, hcg, hcR, hIg, hIR, hapx⟩ := hMV4.t.get2 (i := g) (k := R) (by rw [hEl2_h.out]; exact hgm) (by rw [hEl2_h.out]; exact hRm') hgR
                    obtain rfl := Option.some.inj hA6
                    have C6 := mxLess_any p x2 B6 D6 c6 d6 m (E2.getD g []) (E2.getD R []) V4 hIg hIR.rd hapx hlg2_h.out hlR2_h.out (by omega) (by omega) hpb.2 hrg2_h.out hrR2_h.out hx2b
                    rw [hlg2_h.out] at hcg
                    rw [hlR2_h.out] at hcR
                    obtain ⟨⟨c0, c1'⟩, c2, c3⟩ := box2 hMV4.k9
                    clear hIg hIR hapx; have hMV4_h := lH hMV4; have C6_h := lH C6; clear hMV4 C6
                    repeat still_step
                    refine wpStill_nil ?_
                    go_wp2_with (fail)
                    refine (C6_h.out).mono ?_
                    rintro e w12 ⟨rfl, hWr⟩
                    obtain ⟨p1, p2⟩ := hMV4_h.out.t.wr (i := g) (by rw [hEl2_h.out]; exact hgm) rfl hcg (by rw [addT_length]) hWr
                    rw [← hst2_h.out] at p1
                    have hMS7 := hMV4_h.out.setT hFF_h.out p1 p2
                    clear hWr p1 p2 hcg hcR c0 c1' c2 c3; have hMS7_h := lH hMS7; have hgR_h := lH hgR; clear hMS7 hgR
                    go_wp2_with (fail)
                    go_roundw
                    case rel => exact ⟨g + 1, by omega, by go_num, hMS7_h.out⟩
                    case measure => simp [intOf]; omega
              · obtain rfl : m = g := by omega
                obtain ⟨e1, e2, e3⟩ := redTo_some (p := p) (L := L) (A := idM m) (c := col) (k := q) (by rw [hMA_h.out, hR_h.out, hAl_h.out]; exact HPN.out) (by rw [hMA_h.out, hAl_h.out]; exact hlt) (M := M2) (by rw [hM2_h.out, hMA_h.out, hR_h.out, hSA_h.out, hiv_h.out, hSx_e_h.out])
                rw [hR_h.out] at e1 e2
                rw [hml2_h.out] at e2
                rw [hMA_h.out, hMT_h.out, hR_h.out, hTl_h.out, hSx_e_h.out, ← hiv_h.out, ← hST_h.out, ← hT2_h.out] at e3
                have e1_h := lH e1; have e2_h := lH e2; have e3_h := lH e3; have hMS5_h := lH hMS5; clear e1 e2 e3 hMS5
                go_wp2_with (fail)
                go_roundw
                case rel => exact ⟨col + 1, R + 1, _, _, _, by omega, by go_num, by go_num, rfl, ⟨hde0_h.out, hde1_h.out⟩, e1_h.out, e2_h.out, e3_h.out, hMS5_h.out⟩
                case measure => simp [intOf]; omega
        · obtain rfl : q = m := by omega
          have hpn : ¬ pvFrom MA col (MA.length - R) R < MA.length := by rw [hAl_h.out, ← HPV.out, pvFrom_end]; omega
          have hred := redTo_none (p := p) (L := L) (A := idM q) (c := col) (by rw [hMA_h.out, hR_h.out]; exact hpn)
          have HRD := lH hred
          have hqb : ((q : Int) == (q : Int)) = true := by rw [beq_iff_eq]
          clear hpn hred
          go_wp2_with (fail)
          go_roundw
          case rel => exact ⟨col + 1, R, det, MA, MT, by omega, by go_num, rfl, rfl, hdet, by rw [HRD.out]; exact hR_h.out, by rw [HRD.out]; exact hMA_h.out, by rw [HRD.out]; exact hMT_h.out, hMS_h.out⟩
          case measure => simp [intOf]; omega
      case neg =>
       obtain rfl : n = col := by omega
       go_wp2_with (fail)
       have hMV : MrS w F1 F2 B8 B9 n m (.slice A m c) Aa At ca ct MA MT wo.drew := hMS_h.out.below (below_drewN (Below.refl _ _) 1)
       refine beginH (fun w' => w'.heap[B8]? = some (.cells #[.int .i64 (n : Int), .slice Aa m ca] tMat) ∧ w'.heap[B9]? = some (.cells #[.int .i64 (m : Int), .slice At m ct] tMat)) (by kernel_rfl) ?_
       clear c0 c1' c2 c3 d0 d1 d2 d3 e0 e1 e2 e3
       generalize wo.drew = V at hMV ⊢
       obtain ⟨s1, s2⟩ := set2 (a := .int .i64 (n : Int)) (b := .slice Aa m ca) hMV.k4
       have n8 : B8 ≠ w.heap.size + 1 ∧ B8 ≠ w.heap.size + 1 + 1 := by have h1 := x2_h.out; have h2 := hz1; exact ⟨by omega, by omega⟩
       have n9 : B9 ≠ w.heap.size + 1 ∧ B9 ≠ w.heap.size + 1 + 1 := by have h1 := x4_h.out; have h2 := hz1; exact ⟨by omega, by omega⟩
       have k8a := box_keeps hMV.k8 s2 n8.1
       have k9a := box_keeps hMV.k9 s2 n9.1
       have k5a := box_keeps hMV.k5 s2 (by omega)
       obtain ⟨s3, s4⟩ := set2 (a := .int .i64 (m : Int)) (b := .slice At m ct) k5a
       have k8b := box_keeps k8a s4 n8.2
       have k9b := box_keeps k9a s4 n9.2
       have s5 := box_keeps s1 s4 (by omega)
       have hMA2 := (hMV.a.keeps s2 (fun b hb e => (hFF_h.out.n1 b (.inr (.inl e))).1 hb)).keeps s4 (fun b hb e => (hFF_h.out.n1 b (.inr (.inr (.inl e)))).1 hb)
       have hMT2 := (hMV.t.keeps s2 (fun b hb e => (hFF_h.out.n1 b (.inr (.inl e))).2 hb)).keeps s4 (fun b hb e => (hFF_h.out.n1 b (.inr (.inr (.inl e)))).2 hb)
       have hBB := below_keeps (below_keeps hMV.lo s2 hMV.lo.size (fun k hk => by omega)) s4 (by have := s2.size; have := hMV.lo.size; omega) (fun k hk => by omega)
       obtain ⟨⟨e0, e1⟩, e2, e3⟩ := box2 hMV.k4
       obtain ⟨⟨d0, d1⟩, d2, d3⟩ := box2 k5a
       have k8 := hMV.k8
       have k9 := hMV.k9
       obtain ⟨g1, g2, g3, g4⟩ := hMA2
       obtain ⟨g5, g6, g7, g8⟩ := hMT2
       have l1 := hFF_h.out.l1
       have l2 := hFF_h.out.l2
       clear hMV; have k8_h := lH k8; have k9_h := lH k9; have k8a_h := lH k8a; have k9a_h := lH k9a; have k8b_h := lH k8b; have k9b_h := lH k9b; have k5a_h := lH k5a; have s1_h := lH s1; have s2_h := lH s2; have s3_h := lH s3; have s4_h := lH s4; have s5_h := lH s5; have hBB_h := lH hBB; have g2_h := lH g2; have g3_h := lH g3; have g4_h := lH g4; have g6_h := lH g6; have g7_h := lH g7; have g8_h := lH g8; have l1_h := lH l1; have l2_h := lH l2; have n8_h := lH n8; have n9_h := lH n9; clear k8 k9 k8a k9a k8b k9b k5a s1 s2 s3 s4 s5 hBB g2 g3 g4 g6 g7 g8 l1 l2 n8 n9
       refine tkH 0 ?_ rfl ⟨k8_h.out, k9_h.out⟩ (fun W' hW' => ?_) ?_; rotate_left; · (obtain ⟨⟨y0, y1⟩, y2, y3⟩ := box2 hW'.1; obtain ⟨⟨z0, z1⟩, z2, z3⟩ := box2 hW'.2; clear hW'; go_simp; first | done | with_reducible rfl)
       simp only [Act.put, nS]
       refine tkH 1 ?_ rfl ⟨k8_h.out, k9_h.out⟩ (fun W' hW' => ?_) ?_; rotate_left; · (obtain ⟨⟨y0, y1⟩, y2, y3⟩ := box2 hW'.1; obtain ⟨⟨z0, z1⟩, z2, z3⟩ := box2 hW'.2; clear hW'; go_simp; first | done | with_reducible rfl)
       simp only [Act.put, nS]
       refine tkH 2 ?_ rfl ⟨k8_h.out, k9_h.out⟩ (fun W' hW' => ?_) ?_; rotate_left; · (obtain ⟨⟨y0, y1⟩, y2, y3⟩ := box2 hW'.1; obtain ⟨⟨z0, z1⟩, z2, z3⟩ := box2 hW'.2; clear hW'; go_simp; first | done | with_reducible rfl)
       simp only [Act.put, nS]
       refine tkH 3 ?_ rfl ⟨k8_h.out, k9_h.out⟩ (fun W' hW' => ?_) ?_; rotate_left; · (obtain ⟨⟨y0, y1⟩, y2, y3⟩ := box2 hW'.1; obtain ⟨⟨z0, z1⟩, z2, z3⟩ := box2 hW'.2; clear hW'; go_simp; first | done | with_reducible rfl)
       simp only [Act.put, nS]
       refine oneH 4 rfl (by kernel_rfl) (by rfl) (fun K hK => ?_)
       go_simp
       refine hK _ _ ⟨k8a_h.out, k9a_h.out⟩ ?_
       clear hK K
       refine oneH 5 rfl (by kernel_rfl) (by rfl) (fun K hK => ?_)
       go_simp
       refine hK _ _ ⟨k8b_h.out, k9b_h.out⟩ ?_
       clear hK K
       refine tkH 6 ?_ rfl ⟨k8b_h.out, k9b_h.out⟩ (fun W' hW' => ?_) ?_; rotate_left; · (skip; clear hW'; go_simp; first | done | with_reducible rfl)
       simp only [Act.put, nS]
       refine tkH 7 ?_ rfl ⟨k8b_h.out, k9b_h.out⟩ (fun W' hW' => ?_) ?_; rotate_left; · (skip; clear hW'; go_simp; first | done | with_reducible rfl)
       simp only [Act.put, nS]
       refine doneH (by kernel_rfl) ?_
       go_wp2_with (fail)
       refine bodyPost_ret (results_cell2_tmp2 rfl _ _ (w.heap.size + 1) (w.heap.size + 1 + 1) _ _ _ (0, 0) (0, 0) _ rfl s5_h.out rfl s3_h.out Tryd.underlying54 rfl (by kernel_rfl) (by kernel_rfl)) rfl ?_
       refine ⟨Aa, ca, g1, At, ct, g5, det, by rw [hR_h.out]; rfl, by rw [hMA_h.out]; exact g2_h.out, g3_h.out, by rw [hMT_h.out]; exact g6_h.out, g7_h.out, fun b hb => l1_h.out b (g4_h.out b hb), fun b hb => l2_h.out b (g8_h.out b hb), hBB_h.out⟩
section
variable {P : Program} {l : List Oper} {Q : Exit → Act → World → Prop} {md : Region.Mode} {S : World → Prop}
theorem orCallH (i j : Nat) {oi oj : Oper} {f : FuncId} {args : Array Value} {vj : Value} {wj : World} {fuel : Nat} {listed : Array Bool} {a : Act} {w : World} {li lj : List Oper} (hdi : l.drop i = oi :: li) (hdj : l.drop j = oj :: lj)
  (hr : Region.ready md l.toArray listed = [j, i]) (hwi : Region.wanted oi (yielded l.toArray a.tmps) = true) (hwj : Region.wanted oj (yielded l.toArray a.tmps) = true)
  (hrun : (execOp a.eval oi).run P w = .ok (.enter f args) w) (hrunj : (execOp a.eval oj).run P w = .ok (.value vj) wj)
  (h1 : Calls P f args w fun e w' => ∃ v, e = .returned v ∧ S w' ∧ wpAnyH P md l.toArray Q S fuel (listed.setIfInBounds i true) (a.put oi.dst v) w')
  (hSj : S wj) (h2 : wpAnyH P md l.toArray Q S fuel (listed.setIfInBounds j true) (a.put oj.dst vj) wj) : wpAnyH P md l.toArray Q S (fuel + 1) listed a w := by
 refine wpAnyH_all hr (by simp) fun k hk => ?_
 have hk' : k = j ∨ k = i := by simpa using hk
 rcases hk' with rfl | rfl
 · unfold wpOp
   simp only [at_drop hdj, hwj, if_true]
   refine .inl ?_
   unfold Oper.wp
   rw [hrunj]
   exact ⟨hSj, h2⟩
 · unfold wpOp
   simp only [at_drop hdi, hwi, if_true]
   refine .inl ?_
   unfold Oper.wp
   rw [hrun]
   exact h1.mono fun e w' ⟨v, he, a1, a2⟩ => by subst he; exact ⟨a1, a2⟩
end
theorem slv_lead {p : Int} {m n : Nat} {M : List (List Int)} (hp : fieldB p = true) (hm : Mat p m n M) {i : Nat} (hi : i < (redTo p M (idM m) n).1) : leadV ((redTo p M (idM m) n).2.1.getD i []) < n := by
 obtain ⟨ld, hR⟩ := redTo_inv hp hm (idM m) n (Nat.le_refl _)
 have hred := hR.inv.red
 have hrk := hR.inv.le
 have := leadV_eq (v := (redTo p M (idM m) n).2.1.getD i []) (c := ld i) (by rw [(hR.mat.get (i := i) (by omega)).1]; exact hred.lt i hi) (by
  have := hred.one i hi
  unfold en at this
  rw [this]; decide) fun j hj => hred.before i j hi hj
 rw [this]
 exact hred.lt i hi
theorem addT_neg2 (p c : Int) (v w : List Int) : addT p v (-(-c % p)) w = addT p v c w := by
 unfold addT
 refine List.map_congr_left fun i _ => ?_
 split
 · have e : -(-c % p) = c + p * (-c / p) := by
    have h := Int.emod_def (-c) p
    generalize p * (-c / p) = t at h ⊢
    omega
   rw [e, Int.add_mul, Int.mul_assoc, ← Int.add_assoc, Int.add_mul_emod_self_left]
 · rfl
theorem Wr.is {w w' : World} {A : Option Addr} {c : Nat} {l l' : List Int} (hw : Wr w w' A (ints l')) (h : IS w A c l) (hl : l'.length = l.length) : IS w' A c l' := by
 have := hw.sl h (by rw [ints_length, hl, Nat.mul_one])
 unfold IS
 rwa [hl]
theorem all_zero (l : List Int) : inB 0 0 l = l.all fun a => a == 0 := by
 unfold inB
 congr 1
 funext x
 rw [Bool.eq_iff_iff]
 simp
 omega
set_option maxRecDepth 100000 in
set_option maxHeartbeats 8000000 in
theorem mxSolve_any (p : Int) (n m : Nat) (A B : Option Addr) (c d : Nat) (hs : List Hd) (b : List Int) (w : World) (h : RdR w A hs) (hm : hs.length = m) (hp : fieldB p = true) (hMat : Mat p m n (hs.map fun h : Hd => h.2.2)) (hm' : m ≤ 1000) (hn' : n ≤ 1000)
  (hB : RdI w B b) (hbl : b.length = n) (hbr : Res p b) :
  Calls Tryd.prog 27 #[.int .i64 p, .agg #[.int .i64 (n : Int), .slice A m c], .slice B n d] w fun e w' =>
   ∃ A2 c2, e = .returned (.tuple #[.slice A2 m c2, .bool (slvM p m n (hs.map fun h : Hd => h.2.2) b).2]) ∧ IS w' A2 c2 (slvM p m n (hs.map fun h : Hd => h.2.2) b).1 ∧ Fresh w.heap.size A2 ∧ Below w.heap.size w w' := by
 have hR0 := fun (W' : World) (hb : Below w.heap.size w W') => mxReduce_any p n m A c hs W' (h.below hb) hm hp hMat hm' hn'
 obtain ⟨L, hLh⟩ : ∃ L, L = hs.map fun h : Hd => h.2.2 := ⟨_, rfl⟩
 rw [← hLh] at hMat hR0 ⊢
 have hpb := fieldB_bounds hp
 obtain ⟨ld, hR, hTm, _⟩ := red_beside hp hMat
 have hAm := hR.mat
 have hrk := hR.inv.le
 have hinv := slv_inv (p := p) (by omega) hAm hTm hrk hbl hbr
 have hlead := fun i hi => slv_lead hp hMat (i := i) hi
 clear hR ld
 unfold slvM
 obtain ⟨s, hs'⟩ : ∃ s, s = redTo p L (idM m) n := ⟨_, rfl⟩
 rw [← hs'] at hR0 hTm hAm hrk hinv hlead ⊢
 obtain ⟨r, hr⟩ : ∃ r, r = s.1 := ⟨_, rfl⟩
 rw [← hr] at hrk hinv hlead ⊢
 obtain ⟨W, hW, bW, k4⟩ : ∃ W, W = w.alloc (.cells #[.int .i64 (n : Int), .slice A m c] tMat) ∧ Below w.heap.size w W ∧ W.heap[w.heap.size]? = some (.cells #[.int .i64 (n : Int), .slice A m c] tMat) := ⟨_, rfl, below_alloc _ _, heap_alloc_new _ _⟩
 have hR1 := hR0 W bW
 have hO := fun (W' : World) (hb : Below w.heap.size w W') => l1Own_any B d b W' (hB.below hb) (by omega)
 rw [hbl] at hO
 obtain ⟨⟨c0, c1⟩, c2, c3⟩ := box2 k4
 clear hR0 hLh hs' hMat; have hR1_h := lH hR1; have hO_h := lH hO; have hTm_h := lH hTm; have hAm_h := lH hAm; have hinv_h := lH hinv; have hlead_h := lH hlead; have bW_h := lH bW; have k4_h := lH k4; have h_h := lH h; have hm_h := lH hm; have hB_h := lH hB; have hbl_h := lH hbl; have hbr_h := lH hbr; have hp_h := lH hp; have hr_h := lH hr; clear hR1 hO hTm hAm hinv hlead bW k4 h hm hB hbl hbr hp hr
 go_enter Tryd.func27, Tryd.ntmps27
 go_upto_region 1 with (fail)
 rw [← hW]
 clear hW
 go_wp2_with (fail)
 refine (hR1_h.out).mono ?_
 rintro e w1 ⟨Aa, ca, hsa, At, ct, hst, det, rfl, hLa, hOa, hLt, hOt, hfa, hft, hb1⟩
 clear c0 c1 c2 c3; have hLa_h := lH hLa; have hOa_h := lH hOa; have hLt_h := lH hLt; have hOt_h := lH hOt; have hfa_h := lH hfa; have hft_h := lH hft; have hb1_h := lH hb1; clear hLa hOa hLt hOt hfa hft hb1
 go_upto_region 2 with (fail)
 rw [← hr_h.out]
 have hLt' := hLt_h.out
 have hLa' := hLa_h.out
 have hsal : hsa.length = m := by have := hAm_h.out.len; rw [hLa', List.length_map] at this; exact this
 have hstl : hst.length = m := by have := hTm_h.out.len; rw [hLt', List.length_map] at this; exact this
 obtain ⟨W2, hW2, bW2, k8, k9⟩ : ∃ W2, W2 = (w1.alloc (.cells #[.int .i64 (n : Int), .slice Aa m ca] tMat)).alloc (.cells #[.int .i64 (m : Int), .slice At m ct] tMat) ∧ Below w1.heap.size w1 W2 ∧ W2.heap[w1.heap.size]? = some (.cells #[.int .i64 (n : Int), .slice Aa m ca] tMat) ∧ W2.heap[w1.heap.size + 1]? = some (.cells #[.int .i64 (m : Int), .slice At m ct] tMat) := by
  refine ⟨_, rfl, ((Below.refl _ _).alloc (Nat.le_refl _) _).alloc (by simp) _, box_below (heap_alloc_new w1 _) (below_alloc _ _), ?_⟩
  have h1 := heap_alloc_new (w1.alloc (.cells #[.int .i64 (n : Int), .slice Aa m ca] tMat)) (.cells #[.int .i64 (m : Int), .slice At m ct] tMat)
  have e : (w1.alloc (.cells #[.int .i64 (n : Int), .slice Aa m ca] tMat)).heap.size = w1.heap.size + 1 := by simp
  rw [e] at h1
  exact h1
 have k42 := box_below (box_below k4_h.out hb1_h.out) bW2
 have hra := hOa_h.out.rd.below bW2
 have hrt := hOt_h.out.rd.below bW2
 have hB2 := below_trans (below_trans bW_h.out hb1_h.out bW_h.out.size) bW2 (by have := bW_h.out.size; have := hb1_h.out.size; omega)
 rw [← hW2]
 clear hW2 hLa' hLt' hOa_h hOt_h hfa_h hft_h; have bW2_h := lH bW2; have k8_h := lH k8; have k9_h := lH k9; have k42_h := lH k42; have hra_h := lH hra; have hrt_h := lH hrt; have hB2_h := lH hB2; have hsal_h := lH hsal; have hstl_h := lH hstl; clear bW2 k8 k9 k42 hra hrt hB2 hsal hstl
 go_cut [12, 13] (fun ov rv wx => ∃ (A12 A13 : Option Addr) (c13 : Nat), ov = .slice A12 m m ∧ rv = .slice A13 n c13 ∧ IS wx A12 m (List.replicate m 0) ∧ IS wx A13 c13 b ∧ Fresh W2.heap.size A12 ∧ Fresh W2.heap.size A13 ∧ (∀ x, x ∈ fpA A12 → x ∉ fpA A13) ∧ Below W2.heap.size W2 wx)
 case first =>
  refine beginB (by kernel_rfl) (fun W3 hW3 => ?_)
  have hb3 : Below W2.heap.size W2 W3 := by rw [hW3]; exact below_drewN (Below.refl _ _) 1
  clear hW3
  have k43 := box_below k42_h.out hb3
  have hB3 := below_trans hB2_h.out hb3 hB2_h.out.size
  have hb3_h := lH hb3; have k43_h := lH k43; have hB3_h := lH hB3; clear hb3 k43 hB3
  refine tkH 0 ?_ rfl (Below.refl _ _) (fun W' hW' => ?_) ?_; rotate_left; · (obtain ⟨⟨x0, x1⟩, x2, x3⟩ := box2 (box_below k43_h.out hW'); clear hW'; go_simp; first | done | with_reducible rfl)
  simp only [Act.put, nS]
  refine tkH 1 ?_ rfl (Below.refl _ _) (fun W' hW' => ?_) ?_; rotate_left; · (obtain ⟨⟨x0, x1⟩, x2, x3⟩ := box2 (box_below k43_h.out hW'); clear hW'; go_simp; first | done | with_reducible rfl)
  simp only [Act.put, nS]
  refine tkH 2 ?_ rfl (Below.refl _ _) (fun W' hW' => ?_) ?_; rotate_left; · (obtain ⟨⟨x0, x1⟩, x2, x3⟩ := box2 (box_below k43_h.out hW'); clear hW'; go_simp; first | done | with_reducible rfl)
  simp only [Act.put, nS]
  refine tkH 4 ?_ rfl (Below.refl _ _) (fun W' hW' => ?_) ?_; rotate_left; · (obtain ⟨⟨x0, x1⟩, x2, x3⟩ := box2 (box_below k43_h.out hW'); clear hW'; go_simp; first | done | with_reducible rfl)
  simp only [Act.put, nS]
  have hmk := fun (W' : World) => below_alloc W' (.cells (madeCells (Value.int .i64 0).cells (m * 1)) tInt)
  refine orCallH 5 3 (f := ?f1) (args := ?a1) (vj := .slice (some ⟨W3.heap.size, 0, none⟩) m m) (wj := W3.alloc (.cells (madeCells (Value.int .i64 0).cells (m * 1)) tInt)) rfl rfl (by kernel_rfl) (by rfl) (by rfl) ?hrun ?hrunj ?h1 (hmk W3) ?h2
  case hrun => (go_simp; first | done | with_reducible rfl | (constructor <;> with_reducible rfl))
  case hrunj => exact run_makeOpM _ _ 25 rfl tInt Tryd.underlying25 info_int m rfl rfl (by omega) (by unfold maxLen; omega)
  case h1 =>
   refine (hO_h.out W3 hB3_h.out).mono ?_
   rintro e w5 ⟨A13, c13, rfl, hi, hf, hb5⟩
   rw [hbl_h.out]
   have hmade := madeIntsM w5 m (by unfold maxLen; omega)
   have hal := hmk w5
   have hi2 := hi.below hal
   have hb6 := below_trans hb5 hal hb5.size
   have hend := below_trans hb3_h.out hb6 hb3_h.out.size
   have hz3 := hb3_h.out.size
   have hz5 := hb5.size
   have hilt := hi.lt
   refine ⟨_, rfl, hb5, ?_⟩
   have hmade_h := lH hmade; have hal_h := lH hal; have hi2_h := lH hi2; have hb6_h := lH hb6; have hend_h := lH hend; have hi_h := lH hi; have hf_h := lH hf; have hb5_h := lH hb5; have hilt_h := lH hilt; clear hmade hal hi2 hb6 hend hi hf hb5 hilt
   simp only [Act.put, nS]
   refine runH 3 rfl (by kernel_rfl) (by rfl) (run_makeOpM _ _ 25 rfl tInt Tryd.underlying25 info_int m rfl rfl (by omega) (by unfold maxLen; omega)) hb6_h.out ?_
   simp only [Act.put, nS]
   refine tkH 6 ?_ rfl hb6_h.out (fun W' hW' => ?_) ?_; rotate_left; · (skip; clear hW'; go_simp; first | done | with_reducible rfl)
   simp only [Act.put, nS]
   refine tkH 7 ?_ rfl hb6_h.out (fun W' hW' => ?_) ?_; rotate_left; · (skip; clear hW'; go_simp; first | done | with_reducible rfl)
   simp only [Act.put, nS]
   refine doneH (by kernel_rfl) ?_
   go_wp2_with (fail)
   go_meet
   refine ⟨some ⟨w5.heap.size, 0, none⟩, A13, c13, rfl, rfl, hmade_h.out, hi2_h.out, fun x hx => ?_, fun x hx => ?_, fun x hx hx2 => ?_, hend_h.out⟩
   · have : x = w5.heap.size := by simpa using hx
     omega
   · have := hf_h.out x hx; omega
   · have h1 : x = w5.heap.size := by simpa using hx
     have := hilt_h.out x hx2
     omega
  case h2 =>
   simp only [Act.put, nS]
   have hmade := madeIntsM W3 m (by unfold maxLen; omega)
   have hal := hmk W3
   obtain ⟨W4, hW4⟩ : ∃ W4, W4 = W3.alloc (.cells (madeCells (Value.int .i64 0).cells (m * 1)) tInt) := ⟨_, rfl⟩
   rw [← hW4] at hmade hal ⊢
   have hz4 : W4.heap.size = W3.heap.size + 1 := by rw [hW4]; simp
   clear hW4
   have hB4 := below_trans hB3_h.out hal hB3_h.out.size
   have hz3 := hb3_h.out.size
   have hmade_h := lH hmade; have hal_h := lH hal; have hB4_h := lH hB4; have hz4_h := lH hz4; clear hmade hal hB4 hz4
   refine' callH 5 (f := _) (args := _) rfl (by kernel_rfl) (by rfl) ?_ ?_; rotate_left 2; · (go_simp; first | done | with_reducible rfl | (constructor <;> with_reducible rfl))
   refine (hO_h.out W4 hB4_h.out).mono ?_
   rintro e w5 ⟨A13, c13, rfl, hi, hf, hb5⟩
   rw [hbl_h.out]
   have hm2 := hmade_h.out.below hb5
   have hb6 := below_trans hal_h.out hb5 hal_h.out.size
   have hend := below_trans hb3_h.out hb6 hb3_h.out.size
   refine ⟨_, rfl, hb6, ?_⟩
   have hm2_h := lH hm2; have hb6_h := lH hb6; have hend_h := lH hend; have hi_h := lH hi; have hf_h := lH hf; have hb5_h := lH hb5; clear hm2 hb6 hend hi hf hb5
   simp only [Act.put, nS]
   refine tkH 6 ?_ rfl hb6_h.out (fun W' hW' => ?_) ?_; rotate_left; · (skip; clear hW'; go_simp; first | done | with_reducible rfl)
   simp only [Act.put, nS]
   refine tkH 7 ?_ rfl hb6_h.out (fun W' hW' => ?_) ?_; rotate_left; · (skip; clear hW'; go_simp; first | done | with_reducible rfl)
   simp only [Act.put, nS]
   refine doneH (by kernel_rfl) ?_
   go_wp2_with (fail)
   go_meet
   refine ⟨some ⟨W3.heap.size, 0, none⟩, A13, c13, rfl, rfl, hm2_h.out, hi_h.out, fun x hx => ?_, fun x hx => ?_, fun x hx hx2 => ?_, hend_h.out⟩
   · have : x = W3.heap.size := by simpa using hx
     omega
   · have := hf_h.out x hx; have := hz4_h.out; omega
   · have h1 : x = W3.heap.size := by simpa using hx
     have := hf_h.out x hx2
     have := hz4_h.out
     omega
 case rest =>
  obtain ⟨A12, A13, c13, rfl, rfl, hout, hrest, hf12, hf13, hap, hbc⟩ := hcut
  obtain ⟨w7, rfl⟩ : ∃ x, x = wc := ⟨_, rfl⟩
  have hrI : (r : Int) ≤ (m : Int) := by omega
  have hout_h := lH hout; have hrest_h := lH hrest; have hf12_h := lH hf12; have hf13_h := lH hf13; have hap_h := lH hap; have hbc_h := lH hbc; clear hout hrest hf12 hf13 hap hbc
  go_wp2_with (fail)
  go_loopw [14] (fun i wr => ∃ k : Nat, k ≤ r ∧ i = .int .i64 k ∧ IS wr A12 m (slvTo p m s b k).2 ∧ IS wr A13 c13 (slvTo p m s b k).1 ∧ Below W2.heap.size W2 wr) (fun i _ => r - (intOf i).toNat)
  case atStart => exact ⟨0, Nat.zero_le _, rfl, hout_h.out, hrest_h.out, hbc_h.out⟩
  case round =>
   clear hout_h hrest_h hbc_h
   obtain ⟨k, hk, rfl, h12, h13, hbw⟩ := hrel
   by_cases hlt : k < r
   · have hkI : (k : Int) < (r : Int) := by omega
     have hkm : k < m := by omega
     obtain ⟨q1, q2, q3, q4, _, _⟩ := hinv_h.out k (by omega)
     obtain ⟨ad, Ra, da, la, hAa, hxa, hca, hria⟩ := (hra_h.out.below hbw).at_ (k := k) (by rw [hsal_h.out]; exact hkm)
     obtain ⟨td, Rt, dt, lt, hAt, hxt, hct, hrit⟩ := (hrt_h.out.below hbw).at_ (k := k) (by rw [hstl_h.out]; exact hkm)
     have hga : s.2.1.getD k [] = la := by rw [hLa_h.out]; exact getD_map_hd hxa
     have hgt : s.2.2.getD k [] = lt := by rw [hLt_h.out]; exact getD_map_hd hxt
     have hla := (hAm_h.out.get hkm).1
     have hra' := (hAm_h.out.get hkm).2
     have hlt' := (hTm_h.out.get hkm).1
     have hrt' := (hTm_h.out.get hkm).2
     have hld := hlead_h.out k hlt
     rw [hga] at hla hra' hld
     rw [hgt] at hlt' hrt'
     rw [hla] at hca
     rw [hlt'] at hct
     subst hAa
     subst hAt
     obtain ⟨⟨c0, c1⟩, c2, c3⟩ := box2 (box_below k8_h.out hbw)
     have C1 := fun W' (hb : Below wr.heap.size wr W') => spLead_any Ra da n la W' (hria.below hb) hla (by omega)
     obtain ⟨e, he⟩ : ∃ e, e = leadV la := ⟨_, rfl⟩
     rw [← he] at C1 hld
     have heI : (e : Int) < (n : Int) := by omega
     obtain ⟨rd, x, hA13, hx, _, hcx, _⟩ := h13.at_ (j := e) (by rw [q1]; exact hld)
     have hxb := q2 x (List.mem_of_getElem? hx)
     have hxe : (slvTo p m s b k).1.getD (leadV (s.2.1.getD k [])) 0 = x := by rw [hga, ← he]; simp [List.getD, hx]
     subst hA13
     have hstep : slvTo p m s b (k + 1) = (addT p (slvTo p m s b k).1 (-x) la, addT p (slvTo p m s b k).2 x lt) := by rw [slvTo, hxe, hga, hgt]
     have hap1 : ∀ y, y ∈ fpA Ra → y ∉ fpA (some rd) := fun y hy hy2 => by
      have h1 := hf13_h.out y hy2
      have h2 := (hra_h.out.2 _ (List.mem_of_getElem? hxa))
      have h3 : y < W2.heap.size := by
       by_cases hn0 : 0 < la.length
       · exact h2.block_lt (j := 0) (x := la[0]) (List.getElem?_eq_getElem hn0) y hy
       · omega
      omega
     have C2 := mxLess_any p x (some rd) Ra c13 da n (slvTo p m s b k).1 la wr h13 hria hap1 q1 hla (by omega) (by omega) hpb.2 q2 hra' hxb
     clear hxa hxt hx; have h12_h := lH h12; have h13_h := lH h13; have hbw_h := lH hbw; have q1_h := lH q1; have q2_h := lH q2; have q3_h := lH q3; have q4_h := lH q4; have hria_h := lH hria; have hrit_h := lH hrit; have hga_h := lH hga; have hgt_h := lH hgt; have hla_h := lH hla; have hra'_h := lH hra'; have hlt'_h := lH hlt'; have hrt'_h := lH hrt'; have C1_h := lH C1; have he_h := lH he; have hxe_h := lH hxe; have hstep_h := lH hstep; have hap1_h := lH hap1; have C2_h := lH C2; clear h12 h13 hbw q1 q2 q3 q4 hria hrit hga hgt hla hra' hlt' hrt' C1 he hxe hstep hap1 C2
     go_wp2_with (fail)
     refine (C1_h.out _ (Below.refl _ _)).mono ?_
     rintro e w8 ⟨rfl, hw8⟩
     subst w8
     go_wp2_with (fail)
     refine (C2_h.out).mono ?_
     rintro e w9 ⟨rfl, hWr⟩
     have h13' := hWr.is h13_h.out (by rw [addT_length])
     have hb9 : Below W2.heap.size W2 w9 := below_keeps hbw_h.out hWr.1 hbw_h.out.size (fun y hy => hf13_h.out y hy)
     have h12' := h12_h.out.keeps hWr.1 (fun y hy hy2 => hap_h.out y hy hy2)
     obtain ⟨td2, Rt2, dt2, lt2, hAt2, hxt2, hct2, hrit2⟩ := (hrt_h.out.below hb9).at_ (k := k) (by rw [hstl_h.out]; exact hkm)
     obtain rfl := Option.some.inj hAt2
     have hl2 : lt2 = lt := by rw [← hgt_h.out, hLt_h.out]; exact (getD_map_hd hxt2).symm
     subst hl2
     rw [hlt'_h.out] at hct2
     clear hWr hcx c0 c1 c2 c3 hca hct
     have hap2 : ∀ y, y ∈ fpA Rt2 → y ∉ fpA A12 := fun y hy hy2 => by
      have h1 := hf12_h.out y hy2
      have h2 := (hrt_h.out.2 _ (List.mem_of_getElem? (show hst[k]? = some (Rt2, dt2, lt2) from hxt2)))
      have h3 : y < W2.heap.size := by
       by_cases hn0 : 0 < lt2.length
       · exact h2.block_lt (j := 0) (x := lt2[0]) (List.getElem?_eq_getElem hn0) y hy
       · have := hlt'_h.out; omega
      omega
     have h13'_h := lH h13'; have hb9_h := lH hb9; have h12'_h := lH h12'; have hap2_h := lH hap2; have hrit2_h := lH hrit2; clear h13' hb9 h12' hap2 hrit2; clear hxt2
     go_wp2_with (fail)
     refine wp_region_still_tail 10 (by kernel_rfl) (by kernel_rfl) ?_
     simp only [List.take_succ_cons, List.take_zero, List.drop_succ_cons, List.drop_zero]
     change wpStill _ _ w9.drew (fun a' => wpList _ _ _ _ a' w9.drew) _ _
     have hb10 : Below W2.heap.size W2 w9.drew := below_drewN hb9_h.out 1
     have e1 : w9.drew.cell? (td.add k) = some (.slice Rt2 m dt2) := hct2
     obtain ⟨⟨c0, c1⟩, c2, c3⟩ := box2 (box_below k9_h.out hb10)
     have C3 := stillC2 (fdNeg_any p x w9.drew (by omega) hpb.2 hxb.1 hxb.2)
     have C4 := mxLess_any p (-x % p) A12 Rt2 m dt2 m (slvTo p m s b k).2 lt2 w9.drew h12'_h.out hrit2_h.out hap2_h.out q3_h.out hlt'_h.out (by omega) (by omega) hpb.2 q4_h.out hrt'_h.out ⟨Int.emod_nonneg _ (by omega), Int.emod_lt_of_pos _ (by omega)⟩
     rw [addT_neg2] at C4
     clear hct2; have C3_h := lH C3; have C4_h := lH C4; have hb10_h := lH hb10; clear C3 C4 hb10
     repeat still_step
     still_call C3_h.out
     repeat still_step
     refine wpStill_nil ?_
     go_wp2_with (fail)
     refine (C4_h.out).mono ?_
     rintro e w11 ⟨rfl, hWr⟩
     have h12'' := hWr.is (show IS w9.drew A12 m (slvTo p m s b k).2 from h12'_h.out) (by rw [addT_length])
     have h13'' := (show IS w9.drew (some rd) c13 _ from h13'_h.out).keeps hWr.1 (fun y hy hy2 => hap_h.out y hy2 hy)
     have hb11 := below_keeps hb10_h.out hWr.1 hb10_h.out.size (fun y hy => hf12_h.out y hy)
     clear hWr e1 c0 c1 c2 c3; have h12''_h := lH h12''; have h13''_h := lH h13''; have hb11_h := lH hb11; clear h12'' h13'' hb11
     go_wp2_with (fail)
     go_roundw
     case rel => exact ⟨k + 1, by omega, by go_num, by rw [hstep_h.out]; exact h12''_h.out, by rw [hstep_h.out]; exact h13''_h.out, hb11_h.out⟩
     case measure => simp [intOf]; omega
   · obtain rfl : r = k := by omega
     obtain ⟨q1, q2, q3, q4, _, _⟩ := hinv_h.out r (by omega)
     have hAll := l1All_any A13 c13 (slvTo p m s b r).1 0 0 wr h13.rd (by omega)
     rw [q1] at hAll
     have hB9 := below_trans hB2_h.out hbw hB2_h.out.size
     obtain ⟨v, hv⟩ : ∃ v, v = inB 0 0 (slvTo p m s b r).1 := ⟨_, rfl⟩
     rw [← hv] at hAll
     rw [all_zero] at hv
     clear hbw; have h12_h := lH h12; have h13_h := lH h13; have q1_h := lH q1; have q2_h := lH q2; have q3_h := lH q3; have q4_h := lH q4; have hAll_h := lH hAll; have hB9_h := lH hB9; have hv_h := lH hv; clear h12 h13 q1 q2 q3 q4 hAll hB9 hv
     go_wp2_with (fail)
     refine (hAll_h.out).mono ?_
     rintro e w9 ⟨rfl, hw9⟩
     subst w9
     go_wp2_with (fail)
     go_ret2
     rw [← hv_h.out]
     exact ⟨A12, m, rfl, h12_h.out, fun x hx => by have := hf12_h.out x hx; have := hB2_h.out.size; omega, hB9_h.out⟩
def colV (L : List (List Int)) (j : Nat) : List Int := L.map fun l => l.getD j 0
theorem trans_cols (L : List (List Int)) (q n : Nat) : transM (L.map (List.drop q)) n = (List.range n).map fun j => colV L (q + j) := by
 unfold transM colV
 refine List.map_congr_left fun j _ => ?_
 rw [List.map_map]
 refine List.map_congr_left fun l _ => ?_
 show (l.drop q).getD j 0 = l.getD (q + j) 0
 simp [List.getD]
theorem dotM_comm (p : Int) (n : Nat) (a b : List Int) : dotM p n a b = dotM p n b a := by
 unfold dotM smD
 congr 1
 exact sm_congr fun i _ => Int.mul_comm _ _
theorem trans_trans {p : Int} {n m : Nat} {C : List (List Int)} (h : Mat p m n C) : transM (transM C n) m = C := by
 have hl := h.len
 apply List.ext_getElem?
 intro i
 by_cases hi : i < m
 · have e1 : (transM (transM C n) m)[i]? = some ((transM C n).map fun v => v.getD i 0) := by simp [transM, hi]
   rw [e1, List.getElem?_eq_getElem (by rw [hl]; exact hi)]
   congr 1
   have hr := (h.row _ (List.getElem_mem (by rw [hl]; exact hi : i < C.length))).1
   apply List.ext_getElem?
   intro j
   by_cases hj : j < n
   · have e2 : (transM C n)[j]? = some (C.map fun v => v.getD j 0) := by simp [transM, hj]
     rw [List.getElem?_map, e2]
     have e3 : C[i]? = some C[i] := List.getElem?_eq_getElem (by rw [hl]; exact hi)
     simp [List.getD, e3, List.getElem?_eq_getElem (show j < C[i].length by rw [hr]; exact hj)]
   · rw [List.getElem?_eq_none (by simp [transM]; omega), List.getElem?_eq_none (by rw [hr]; omega)]
 · rw [List.getElem?_eq_none (by simp [transM]; omega), List.getElem?_eq_none (by rw [hl]; omega)]
set_option maxRecDepth 100000 in
set_option maxHeartbeats 8000000 in
theorem sHiddenValues_law (p : Int) {v vx : Value} {s : Sys} {x : List Int} {fp : List Nat} {w : World} (h : OwSys w v s fp) (hx : RdIV w vx x) (ok : OkR s.2.2) (okx : x.length ≤ 1048576) :
  Calls Tryd.prog 6 #[.int .i64 p, v, vx] w fun e w' => ∃ v' fp', e = .returned (.tuple #[v', .bool (hvM p s x).2]) ∧ OwI w' v' (hvM p s x).1 fp' ∧ FreshL w.heap.size fp' ∧ Below w.heap.size w w' := by
 obtain ⟨X, cx, rfl, hX⟩ := hx
 obtain ⟨A, c, hs, rfl, hL, hO, hfp⟩ := id h
 obtain ⟨sv, sh, L⟩ := s
 have hL' : L = hs.map (fun h : Hd => h.2.2) := hL
 clear hL
 obtain ⟨m, hm⟩ : ∃ m, m = hs.length := ⟨_, rfl⟩
 change OwSys w (.agg #[.int .i64 sv, .int .i64 sh, .slice A hs.length c]) (sv, sh, L) fp at h
 show Calls Tryd.prog _ #[.int .i64 p, .agg #[.int .i64 sv, .int .i64 sh, .slice A hs.length c], _] w _
 rw [← hm] at h ⊢
 obtain ⟨W, hW, b0, k0⟩ := (⟨_, rfl, below_alloc _ _, heap_alloc_new _ _⟩ : ∃ W, W = w.alloc (.cells #[.int .i64 sv, .int .i64 sh, .slice A m c] 29) ∧ Below w.heap.size w W ∧ W.heap[w.heap.size]? = some (.cells #[.int .i64 sv, .int .i64 sh, .slice A m c] 29))
 have hG := syGood_any p W (h.rd.below b0) ok.1 ok.2.1
 obtain ⟨D, hD⟩ : ∃ D, D = hvM p (sv, sh, L) x := ⟨_, rfl⟩
 rw [← hD]
 unfold hvM at hD
 by_cases hb : sysB p (sv, sh, L) = true
 case neg =>
  have hb' : sysB p (sv, sh, L) = false := by simpa using hb
  rw [hb', Bool.false_and, if_neg (by simp)] at hD
  rw [hb'] at hG
  subst hD
  clear hb hb' ok okx h hX hm hO hL'; have hG_h := lH hG; have k0_h := lH k0; have b0_h := lH b0; clear hG k0 b0
  go_enter Tryd.func6, Tryd.ntmps6
  go_upto_region 1 with (fail)
  rw [← hW]
  clear hW
  obtain ⟨⟨c0, c1, c2⟩, f0, f1, f2⟩ := box3 k0_h.out
  go_wp2_with (fail)
  refine (hG_h.out).mono ?_
  rintro e w1 ⟨rfl, hb1⟩
  have hB1 := below_trans b0_h.out hb1 b0_h.out.size
  clear c0 c1 c2 f0 f1 f2 hb1; have hB1_h := lH hB1; clear hB1
  go_wp2_with (fail)
  go_ret2
  exact ⟨_, [], rfl, ⟨none, 0, rfl, (show IS _ none 0 [] from Sl.nil _ _ _), by simp⟩, FreshL.nil _, hB1_h.out⟩
 have hok := SysOk.of hb
 have hpb := fieldB_bounds hok.fld
 rw [hb, Bool.true_and] at hD
 rw [hb] at hG
 have hV := fun W' (hb : Below w.heap.size w W') => fdIn_any p X cx x W' (hX.below hb) (by omega) (by omega) hpb.2
 obtain ⟨q, hq⟩ : ∃ q, q = x.length := ⟨_, rfl⟩
 simp only [← hq] at hV hD
 rw [← hq]
 by_cases hl : (q : Int) = sv
 case neg =>
  have hl' : (decide ((q : Int) = ((sv, sh, L) : Sys).1) && inB 0 (p - 1) x) = false := by rw [decide_eq_false (show ¬ (q : Int) = ((sv, sh, L) : Sys).1 from hl), Bool.false_and]
  rw [hl', if_neg (by simp)] at hD
  have hlb : ((q : Int) != sv) = true := by rw [bne_iff_ne]; exact hl
  have hlb2 : ((q : Int) == sv) = false := by rw [beq_eq_false_iff_ne]; exact hl
  subst hD
  clear hb hl' ok okx h hX hm hO hL' hok hq hV; have hG_h := lH hG; have k0_h := lH k0; have b0_h := lH b0; clear hG k0 b0
  go_enter Tryd.func6, Tryd.ntmps6
  go_upto_region 1 with (fail)
  rw [← hW]
  clear hW
  obtain ⟨⟨c0, c1, c2⟩, f0, f1, f2⟩ := box3 k0_h.out
  go_wp2_with (fail)
  refine (hG_h.out).mono ?_
  rintro e w1 ⟨rfl, hb1⟩
  clear c0 c1 c2 f0 f1 f2
  replace k0_h := lH (box_below k0_h.out hb1)
  have hB1 := below_trans b0_h.out hb1 b0_h.out.size
  clear hb1; have hB1_h := lH hB1; clear hB1
  obtain ⟨⟨c0, c1, c2⟩, f0, f1, f2⟩ := box3 k0_h.out
  go_wp2_with (fail)
  go_ret2
  exact ⟨_, [], rfl, ⟨none, 0, rfl, (show IS _ none 0 [] from Sl.nil _ _ _), by simp⟩, FreshL.nil _, hB1_h.out⟩
 subst hl
 have hlb : ((q : Int) != (q : Int)) = false := by simp
 rw [show decide ((q : Int) = (((q : Int), sh, L) : Sys).1) = true from decide_eq_true rfl, Bool.true_and] at hD
 by_cases hin : inB 0 (p - 1) x = true
 case neg =>
  have hin' : inB 0 (p - 1) x = false := by simpa using hin
  rw [hin', if_neg (by simp)] at hD
  simp only [hin'] at hV
  subst hD
  clear hb hin hin' ok okx h hX hm hO hL' hok hq; have hG_h := lH hG; have k0_h := lH k0; have b0_h := lH b0; have hV_h := lH hV; clear hG k0 b0 hV
  go_enter Tryd.func6, Tryd.ntmps6
  go_upto_region 1 with (fail)
  rw [← hW]
  clear hW
  obtain ⟨⟨c0, c1, c2⟩, f0, f1, f2⟩ := box3 k0_h.out
  go_wp2_with (fail)
  refine (hG_h.out).mono ?_
  rintro e w1 ⟨rfl, hb1⟩
  clear c0 c1 c2 f0 f1 f2
  replace k0_h := lH (box_below k0_h.out hb1)
  have hB1 := below_trans b0_h.out hb1 b0_h.out.size
  clear hb1; have hB1_h := lH hB1; clear hB1
  obtain ⟨⟨c0, c1, c2⟩, f0, f1, f2⟩ := box3 k0_h.out
  go_wp2_with (fail)
  refine (hV_h.out _ hB1_h.out).mono ?_
  rintro e w2 ⟨rfl, hw2⟩
  subst hw2
  go_wp2_with (fail)
  go_ret2
  exact ⟨_, [], rfl, ⟨none, 0, rfl, (show IS _ none 0 [] from Sl.nil _ _ _), by simp⟩, FreshL.nil _, hB1_h.out⟩
 rw [hin, if_pos rfl] at hD
 simp only [hin] at hV
 have hxr : Res p x := fun a ha => by have := inB_iff.1 hin a ha; omega
 have hq24 : q ≤ 24 := by have : (q : Int) ≤ 24 := hok.vis.2; omega
 obtain ⟨n, rfl⟩ : ∃ n : Nat, sh = (n : Int) := ⟨sh.toNat, by have : 0 ≤ sh := hok.hid.1; omega⟩
 have hn100 : n ≤ 100 := by have : (n : Int) ≤ 100 := hok.hid.2; omega
 have hLm : Mat p L.length (q + n) L := hok.mat
 have hml : L.length = m := by rw [hL', List.length_map, hm]
 have hm160 : m ≤ 160 := by have : L.length ≤ 160 := hok.len; omega
 -- the plain law
 obtain ⟨C, hC⟩ : ∃ C, C = L.map (List.drop q) := ⟨_, rfl⟩
 obtain ⟨b, hbd⟩ : ∃ b, b = L.map fun l => (-(dotM p q x (l.take q))) % p := ⟨_, rfl⟩
 have hCm : Mat p C.length n C := ⟨rfl, fun u hu => by
  rw [hC] at hu
  obtain ⟨l, hl, rfl⟩ := List.mem_map.1 hu
  have := hLm.row l hl
  exact ⟨by rw [List.length_drop, this.1]; omega, fun y hy => this.2 y (List.mem_of_mem_drop hy)⟩⟩
 have hCl : C.length = m := by rw [hC, List.length_map, hml]
 have hbl : b.length = m := by rw [hbd, List.length_map, hml]
 have hbr : Res p b := fun y hy => by
  rw [hbd] at hy
  obtain ⟨l, _, rfl⟩ := List.mem_map.1 hy
  exact ⟨Int.emod_nonneg _ (by omega), Int.emod_lt_of_pos _ (by omega)⟩
 have hD2 : D = hidS p n C b := by
  rw [hD]
  show fsM p n (L.map (rowE p q x)) = _
  rw [rows_eqs, ← hC, ← hbd]
  exact hid_eq hok.fld hCm (by rw [hbl, hCl]) hbr
 obtain ⟨M, hM⟩ : ∃ M, M = transM C n := ⟨_, rfl⟩
 have hMc : M = (List.range n).map fun j => colV L (q + j) := by rw [hM, hC, trans_cols]
 have hMm : Mat p n m M := by rw [hM, ← hCl]; exact transM_mat (by omega) hCm
 have hrow : ∀ k, k < m → ∃ ad C d l, A = some ad ∧ L[k]? = some l ∧ l.length = q + n ∧ Res p l ∧ w.cell? (ad.add k) = some (.slice C (q + n) d) ∧ IS w C d l := fun k hk => by
  obtain ⟨ad, C, d, l, hA, hx, hc, _, hI⟩ := hO.get (i := k) (by omega)
  have hlx : L[k]? = some l := by rw [hL', List.getElem?_map, hx]; rfl
  have := hLm.row l (List.mem_of_getElem? hlx)
  rw [this.1] at hc
  exact ⟨ad, C, d, l, hA, hlx, this.1, this.2, hc, hI⟩
 have hDo := fun (W' : World) (B : Option Addr) (cb : Nat) (l : List Int) (hb : Below w.heap.size w W') (hl : l.length = q) (hr : Res p l) (hI : RdI W' B l) => spDot_any p q B X cb cx l x W' hI (hX.below hb) hl hq.symm hr hxr (by omega) hpb.2 (by omega)
 have hfld := hok.fld
 clear hb hin hok h ok okx hL' hO hfp hD hX hxr; have hG_h := lH hG; have k0_h := lH k0; have b0_h := lH b0; have hV_h := lH hV; have hrow_h := lH hrow; have hDo_h := lH hDo; have hC_h := lH hC; have hbd_h := lH hbd; have hCm_h := lH hCm; have hCl_h := lH hCl; have hbl_h := lH hbl; have hbr_h := lH hbr; have hD2_h := lH hD2; have hM_h := lH hM; have hMc_h := lH hMc; have hMm_h := lH hMm; have hml_h := lH hml; have hq_h := lH hq; have hm_h := lH hm; have hLm_h := lH hLm; have hfld_h := lH hfld; clear hG k0 b0 hV hrow hDo hC hbd hCm hCl hbl hbr hD2 hM hMc hMm hml hq hm hLm hfld
 go_enter Tryd.func6, Tryd.ntmps6
 go_upto_region 1 with (fail)
 rw [← hW]
 clear hW
 obtain ⟨⟨c0, c1, c2⟩, f0, f1, f2⟩ := box3 k0_h.out
 go_wp2_with (fail)
 refine (hG_h.out).mono ?_
 rintro e w1 ⟨rfl, hb1⟩
 clear c0 c1 c2 f0 f1 f2
 replace k0_h := lH (box_below k0_h.out hb1)
 have hB1 := below_trans b0_h.out hb1 b0_h.out.size
 clear hb1; have hB1_h := lH hB1; clear hB1
 obtain ⟨⟨c0, c1, c2⟩, f0, f1, f2⟩ := box3 k0_h.out
 go_wp2_with (fail)
 refine (hV_h.out _ hB1_h.out).mono ?_
 rintro e w2 ⟨rfl, hw2⟩
 subst hw2
 obtain ⟨W2, hW2⟩ : ∃ W2, W2 = w1.alloc (.cells #[.int .i64 (m : Int), .slice none 0 0] tMat) := ⟨_, rfl⟩
 have bW2 : Below w1.heap.size w1 W2 := by rw [hW2]; exact below_alloc _ _
 obtain ⟨bx, hbx⟩ : ∃ bx, bx = w1.heap.size := ⟨_, rfl⟩
 have k8 : W2.heap[bx]? = some (.cells #[.int .i64 (m : Int), .slice none 0 0] tMat) := by rw [hW2, hbx]; exact heap_alloc_new _ _
 have hnil : OMx w1 bx W2 none 0 [] := OMx.nil bW2 (by omega) (box_lt k8)
 go_upto_region 4 with (fail)
 rw [← hW2, ← hbx]
 clear c0 c1 c2 f0 f1 f2 hW2
 have k02 := box_below k0_h.out bW2
 have bW2_h := lH bW2; have k8_h := lH k8; have hnil_h := lH hnil; have k02_h := lH k02; have hbx_h := lH hbx; clear bW2 k8 hnil k02 hbx
 obtain ⟨⟨c0, c1, c2⟩, f0, f1, f2⟩ := box3 k02_h.out
 go_wp2_with (fail)
 clear c0 c1 c2 f0 f1 f2
 go_loopw [9] (fun jv wr => ∃ (j q8 : Nat) (A8 : Option Addr) (c8 : Nat), j ≤ n ∧ jv = .int .i64 j ∧ q8 = j ∧ wr.heap[bx]? = some (.cells #[.int .i64 (m : Int), .slice A8 q8 c8] tMat) ∧ OMx w1 bx wr A8 c8 (M.take j)) (fun jv _ => n - (intOf jv).toNat)
 case atStart => exact ⟨0, 0, none, 0, Nat.zero_le _, rfl, rfl, k8_h.out, by simpa using hnil_h.out⟩
 case round =>
  clear hnil_h k8_h k02_h
  obtain ⟨j, q8, A8, c8, hj, rfl, hq8, kx, hOM⟩ := hrel
  obtain ⟨wo, rfl⟩ : ∃ x, x = wr := ⟨_, rfl⟩
  have hBo := below_trans hB1_h.out hOM.below_ hB1_h.out.size
  have k0o := box_below k0_h.out hOM.below_
  obtain ⟨⟨c0, c1, c2⟩, f0, f1, f2⟩ := box3 k0o
  by_cases hlt : j < n
  · have hjn : (j : Int) < (n : Int) := by omega
    have kx_h := lH kx; have hOM_h := lH hOM; have hBo_h := lH hBo; have k0o_h := lH k0o; clear kx hOM hBo k0o
    go_wp2_with (fail)
    clear c0 c1 c2 f0 f1 f2
    have hO0 : OI wo wo none 0 ((colV L (q + j)).take 0) := ⟨by simpa using (show IS wo none 0 [] from Sl.nil _ _ _), fun b hb => (by cases hb), Below.refl _ _⟩
    have hcl : (colV L (q + j)).length = m := by unfold colV; rw [List.length_map]; exact hml_h.out
    have hO0_h := lH hO0; have hcl_h := lH hcl; clear hO0 hcl
    go_loopw [50, 10] (fun kv cv wr => ∃ (k : Nat) (A1 : Option Addr) (c1 : Nat), k ≤ m ∧ kv = .int .i64 k ∧ cv = .slice A1 k c1 ∧ OI wo wr A1 c1 ((colV L (q + j)).take k)) (fun kv _ _ => m - (intOf kv).toNat)
    case atStart => exact ⟨0, none, 0, Nat.zero_le _, rfl, rfl, hO0_h.out⟩
    case round =>
     clear hO0_h
     obtain ⟨k, A1, c1, hk, rfl, rfl, hOI⟩ := hrel
     by_cases hkm : k < m
     · have hkI : (k : Int) < (m : Int) := by omega
       obtain ⟨ad, C', d, l, rfl, hlx, hll, hlr, hc0, hI0⟩ := hrow_h.out k hkm
       have hBr := below_trans hBo_h.out hOI.below_ hBo_h.out.size
       have hc := (hBr.cell (World.block_lt_of_cell? w _ hc0)).trans hc0
       obtain ⟨t, ht⟩ : ∃ t, t = q + j := ⟨_, rfl⟩
       obtain ⟨cd, y, rfl, hy, _, hcy, _⟩ := (hI0.below hBr).at_ (j := t) (by rw [hll]; omega)
       have hqt : (q : Int) + (j : Int) = (t : Int) := by omega
       have htn : (t : Int) < (q : Int) + (n : Int) := by omega
       have hpk : (colV L (q + j)).take (k + 1) = (colV L (q + j)).take k ++ [y] := by
        unfold colV
        rw [List.take_add_one, List.getElem?_map, hlx]
        simp [List.getD, ← ht, hy]
       have hpl : ((colV L (q + j)).take k).length = k := by rw [List.length_take, hcl_h.out]; omega
       have hsl := fun (o : Obj) => oi_alloc hOI hpl o
       have k0r := box_below k0o_h.out hOI.below_
       obtain ⟨⟨c0, c1', c2⟩, f0, f1, f2⟩ := box3 k0r
       clear hlx hy hI0 hc0 hlr; have hOI_h := lH hOI; have hsl_h := lH hsl; have hpk_h := lH hpk; have hpl_h := lH hpl; have hll_h := lH hll; have k0r_h := lH k0r; have hBr_h := lH hBr; have ht_h := lH ht; clear hOI hsl hpk hpl hll k0r hBr ht
       go_wp2_with (at_builtin; refine wpList_append_Sl _ rfl _ _ _ rfl 3 Tryd.underlying25 info_int rfl (by omega) rfl (hsl_h.out (.cells #[.int .i64 y] 3)) rfl (news := [.int .i64 y]) rfl (Sl.rdc (Sl.laid wr 3 1 1 #[.int .i64 y] (by unfold maxLen; omega) rfl)) (by intro u hu; simp at hu; subst hu; rfl) (by unfold maxLen; omega) (by omega) ?_; intro A3 c3 w3 hs3 hA3 hk3)
       have hO2 := hOI_h.out.snoc (x := y) (by rw [hpl_h.out]) hs3 hA3 hk3
       rw [← hpk_h.out] at hO2
       clear hs3 hA3 hk3; have hO2_h := lH hO2; clear hO2
       go_roundw
       case rel => exact ⟨k + 1, A3, c3, by omega, by go_num, rfl, hO2_h.out⟩
       case measure => simp [intOf]; omega
     · obtain rfl : m = k := by omega
       rw [List.take_of_length_le (by rw [hcl_h.out]; exact Nat.le_refl _)] at hOI
       obtain ⟨ys, hLy, hOy, hfy, h0y, h1y, h2y⟩ := hOM_h.out
       have hyl : ys.length = q8 := by
        have := congrArg List.length hLy
        rw [List.length_map, List.length_take, (hMm_h.out).len] at this
        omega
       have hal := below_alloc wr (.cells #[.slice A1 m c1] 25)
       have hbm := below_trans hOI.below_ hal hOI.below_.size
       have hsl : Sl (wr.alloc (.cells #[.slice A1 m c1] 25)) 25 1 A8 q8 c8 (ys.map Hd.val) := by
        have := hOy.sl.below hbm
        rwa [hyl] at this
       have kxr := box_below kx_h.out hOI.below_
       have kxa := box_below kx_h.out hbm
       have hi2 := hOI.is.below hal
       have hMj : M[j]? = some (colV L (q + j)) := by rw [hMc_h.out]; simp [hlt]
       have htk : M.take j ++ [colV L (q + j)] = M.take (j + 1) := by rw [List.take_add_one, hMj]; rfl
       obtain ⟨⟨c0, c1'⟩, c2, c3⟩ := box2 kxr
       have hq100 : q8 ≤ 100 := by omega
       have hnew := hOI.new
       clear hOI hMj kxr; have hLy_h := lH hLy; have hOy_h := lH hOy; have hfy_h := lH hfy; have h0y_h := lH h0y; have hyl_h := lH hyl; have hal_h := lH hal; have hbm_h := lH hbm; have hsl_h := lH hsl; have kxa_h := lH kxa; have hi2_h := lH hi2; have htk_h := lH htk; have hnew_h := lH hnew; have hq8_h := lH hq8; clear hLy hOy hfy h0y hyl hal hbm hsl kxa hi2 htk hnew hq8
       go_wp2_with (at_builtin; refine wpList_append_Sl _ rfl _ _ _ rfl 25 Tryd.underlying22 info_ints rfl (by omega) rfl (hsl_h.out) rfl (news := [.slice A1 m c1]) rfl (Sl.rdc (Sl.laid wr 25 1 1 #[.slice A1 m c1] (by unfold maxLen; omega) rfl)) (by intro u hu; simp at hu; subst hu; rfl) (by unfold maxLen; omega) (by omega) ?_; intro A3 c3' w3 hsA3 hA3 hkA3; (have kF := box_keeps kxa_h.out hkA3 (fun h => (hfy_h.out _ (List.mem_append_left _ h)).2 rfl); obtain ⟨⟨z0, z1⟩, z2, z3⟩ := box2 kF; have hO6 := OMx.snoc (w1 := wr.alloc (.cells #[.slice A1 m c1] 25)) hLy_h.out hOy_h.out hfy_h.out h0y_h.out h1y h2y hbm_h.out hi2_h.out hnew_h.out (by rw [hyl_h.out]) (by rw [hcl_h.out]; exact hsA3) hA3 hkA3; rw [htk_h.out] at hO6; clear hsA3 hA3 hkA3; have kF_h := lH kF; have hO6_h := lH hO6; clear kF hO6))
       obtain ⟨s1, s2⟩ := setM (b := .slice A3 (q8 + 1) c3') kF_h.out
       have hO7 := hO6_h.out.store s2
       clear s2 hO6_h kF_h; have s1_h := lH s1; have hO7_h := lH hO7; clear s1 hO7
       go_roundw
       case rel => exact ⟨j + 1, q8 + 1, A3, c3', by omega, by go_num, by have := hq8_h.out; omega, s1_h.out, hO7_h.out⟩
       case measure => simp [intOf]; omega
  · obtain rfl : n = j := by omega
    have hMt : M.take n = M := List.take_of_length_le (by rw [(hMm_h.out).len]; exact Nat.le_refl _)
    rw [hMt] at hOM
    obtain rfl : n = q8 := by omega
    have hO0 : OI wo wo none 0 (b.take 0) := ⟨by simpa using (show IS wo none 0 [] from Sl.nil _ _ _), fun b hb => (by cases hb), Below.refl _ _⟩
    clear hq8; have kx_h := lH kx; have hOM_h := lH hOM; have hBo_h := lH hBo; have k0o_h := lH k0o; have hMt_h := lH hMt; have hO0_h := lH hO0; clear kx hOM hBo k0o hMt hO0
    go_wp2_with (fail)
    clear c0 c1 c2 f0 f1 f2
    go_loopw [74, 13] (fun kv cv wr => ∃ (k : Nat) (A1 : Option Addr) (c1 : Nat), k ≤ m ∧ kv = .int .i64 k ∧ cv = .slice A1 k c1 ∧ OI wo wr A1 c1 (b.take k)) (fun kv _ _ => m - (intOf kv).toNat)
    case atStart => exact ⟨0, none, 0, Nat.zero_le _, rfl, rfl, hO0_h.out⟩
    case round =>
     clear hO0_h
     obtain ⟨k, A1, c1, hk, rfl, rfl, hOI⟩ := hrel
     by_cases hkm : k < m
     · have hkI : (k : Int) < (m : Int) := by omega
       obtain ⟨ad, C', d, l, rfl, hlx, hll, hlr, hc0, hI0⟩ := hrow_h.out k hkm
       have hBr := below_trans hBo_h.out hOI.below_ hBo_h.out.size
       have hc := (hBr.cell (World.block_lt_of_cell? w _ hc0)).trans hc0
       have hI := hI0.below hBr
       have hS : Sl wr 3 1 C' (q + n) d (ints l) := by have := hI; unfold IS at this; rwa [hll] at this
       have hSd : q + n ≤ d := hS.2.1
       obtain ⟨y, hy⟩ : ∃ y, y = dotM p q (l.take q) x := ⟨_, rfl⟩
       have hyb : 0 ≤ y ∧ y < p := by rw [hy]; exact ⟨Int.emod_nonneg _ (by omega), Int.emod_lt_of_pos _ (by omega)⟩
       have hpk : b.take (k + 1) = b.take k ++ [(-y) % p] := by
        rw [List.take_add_one]
        have : b[k]? = some ((-y) % p) := by rw [hbd_h.out, List.getElem?_map, hlx, hy, dotM_comm]; rfl
        rw [this]; rfl
       have hpl : (b.take k).length = k := by rw [List.length_take, hbl_h.out]; omega
       have hDl := fun (B : Option Addr) (cb : Nat) (hr : RdI wr B (l.take q)) => hDo_h.out wr B cb (l.take q) hBr (by rw [List.length_take, hll]; omega) (fun z hz => hlr z (List.mem_of_mem_take hz)) hr
       simp only [← hy] at hDl
       have hNg := fun W' => fdNeg_any p y W' (by omega) hpb.2 hyb.1 hyb.2
       have k0r := box_below k0o_h.out hOI.below_
       obtain ⟨⟨c0, c1', c2⟩, f0, f1, f2⟩ := box3 k0r
       clear hlx hI0 hc0 hlr hI hyb; have hOI_h := lH hOI; have hpk_h := lH hpk; have hpl_h := lH hpl; have hll_h := lH hll; have hS_h := lH hS; have hy_h := lH hy; have hDl_h := lH hDl; have hNg_h := lH hNg; have k0r_h := lH k0r; have hBr_h := lH hBr; clear hOI hpk hpl hll hS hy hDl hNg k0r hBr
       go_wp2_with (refine wpList_slice_Sl rfl (.tmp 81) none (some (.tmp 83)) none 25 rfl 3 Tryd.underlying25 info_int rfl hS_h.out 0 q d (optNone rfl) (optSome rfl) (optNone rfl) (by omega) (by omega) (by omega) (Nat.le_refl _) ?_; intro A3 hcut hfp3 _; simp only [Nat.sub_zero, List.drop_zero, Nat.mul_one] at hcut ⊢; have hcut_h := lH hcut; clear hcut hfp3)
       have hr3 : RdI wr A3 (l.take q) := IS.rd (show IS wr A3 d (l.take q) by
        unfold IS
        rw [show (l.take q).length = q by rw [List.length_take, hll_h.out]; omega]
        have := hcut_h.out
        unfold ints at this ⊢
        rwa [← List.map_take] at this)
       refine (hDl_h.out A3 d hr3).mono ?_
       rintro e w5 ⟨rfl, hb5⟩
       have hO5 : OI wo w5 A1 c1 (b.take k) := ⟨hOI_h.out.is.below hb5, hOI_h.out.new, below_trans hOI_h.out.below_ hb5 hOI_h.out.below_.size⟩
       clear hr3 hcut_h hb5; have hO5_h := lH hO5; clear hO5
       go_wp2_with (fail)
       refine (hNg_h.out _).mono ?_
       rintro e w' ⟨rfl, hw'⟩
       subst w'
       have hsl := fun (o : Obj) => oi_alloc hO5_h.out hpl_h.out o
       have hsl_h := lH hsl; clear hsl; clear c0 c1' c2 f0 f1 f2
       go_wp2_with (at_builtin; refine wpList_append_Sl _ rfl _ _ _ rfl 3 Tryd.underlying25 info_int rfl (by omega) rfl (hsl_h.out (.cells #[.int .i64 ((-y) % p)] 3)) rfl (news := [.int .i64 ((-y) % p)]) rfl (Sl.rdc (Sl.laid w5 3 1 1 #[.int .i64 ((-y) % p)] (by unfold maxLen; omega) rfl)) (by intro u hu; simp at hu; subst hu; rfl) (by unfold maxLen; omega) (by omega) ?_; intro A6 c6 w6 hs6 hA6 hk6)
       have hO2 := hO5_h.out.snoc (x := (-y) % p) (by rw [hpl_h.out]) hs6 hA6 hk6
       rw [← hpk_h.out] at hO2
       clear hs6 hA6 hk6; have hO2_h := lH hO2; clear hO2
       go_roundw
       case rel => exact ⟨k + 1, A6, c6, by omega, by go_num, rfl, hO2_h.out⟩
       case measure => simp [intOf]; omega
     · obtain rfl : m = k := by omega
       rw [List.take_of_length_le (by rw [hbl_h.out]; exact Nat.le_refl _)] at hOI
       have kx2 := box_below kx_h.out hOI.below_
       have hOM2 := hOM_h.out.below hOI.below_
       obtain ⟨ys, hLy, hOy, _⟩ := hOM2
       have hyl : ys.length = n := by
        have := congrArg List.length hLy
        rw [List.length_map, (hMm_h.out).len] at this
        exact this.symm
       have hSo := mxSolve_any p m n A8 A1 c8 c1 ys b wr hOy.rd hyl hfld_h.out (by rw [← hLy]; exact hMm_h.out) (by omega) (by omega) hOI.is.rd hbl_h.out hbr_h.out
       rw [← hLy] at hSo
       have hBr := below_trans hBo_h.out hOI.below_ hBo_h.out.size
       obtain ⟨SV, hSV⟩ : ∃ SV, SV = slvM p n m M b := ⟨_, rfl⟩
       rw [← hSV] at hSo
       have hsok := slv_ok hfld_h.out hMm_h.out hbl_h.out hbr_h.out
       rw [← hSV] at hsok
       have hD3 : D = if SV.2 then (lsTo p (nullM p n C) SV.1 (nullM p n C).length, true) else ([], false) := by
        rw [hD2_h.out]
        unfold hidS
        rw [hCl_h.out, ← hM_h.out, ← hSV]
       have k0r := box_below k0o_h.out hOI.below_
       obtain ⟨⟨c0, c1'⟩, c2, c3⟩ := box2 kx2
       clear hOI; have hSo_h := lH hSo; have kx2_h := lH kx2; have hLy_h := lH hLy; have hOy_h := lH hOy; have hyl_h := lH hyl; have hBr_h := lH hBr; have hSV_h := lH hSV; have hsok_h := lH hsok; have hD3_h := lH hD3; have k0r_h := lH k0r; clear hSo kx2 hLy hOy hyl hBr hSV hsok hD3 k0r
       go_wp2_with (fail)
       refine (hSo_h.out).mono ?_
       rintro e w6 ⟨A2, c2', rfl, hi6, hf6, hb6⟩
       clear c0 c1' c2 c3
       have kx6 := box_below kx2_h.out hb6
       have k06 := box_below k0r_h.out hb6
       have hB6 := below_trans hBr_h.out hb6 hBr_h.out.size
       have hrd6 := hOy_h.out.rd.below hb6
       have hf6' : Fresh w.heap.size A2 := fun y hy => Nat.le_trans hBr_h.out.size (hf6 y hy)
       obtain ⟨t, ht⟩ : ∃ t, t = SV.2 := ⟨_, rfl⟩
       rw [← ht]
       have hD4 := hD3_h.out
       rw [← ht] at hD4
       have kx6_h := lH kx6; have k06_h := lH k06; have hB6_h := lH hB6; have hrd6_h := lH hrd6; have hi6_h := lH hi6; have hf6_h := lH hf6; have hf6'_h := lH hf6'; have hb6_h := lH hb6; have ht_h := lH ht; clear kx6 k06 hB6 hrd6 hi6 hf6 hf6' hb6 ht
       cases t
       case false =>
        rw [if_neg (by simp)] at hD4
        have hD4_h := lH hD4; clear hD4
        go_wp2_with (fail)
        go_ret2
        rw [hD4_h.out]
        exact ⟨_, [], rfl, ⟨none, 0, rfl, (show IS _ none 0 [] from Sl.nil _ _ _), by simp⟩, FreshL.nil _, hB6_h.out⟩
       case true =>
        rw [if_pos rfl] at hD4
        obtain ⟨K, hK⟩ : ∃ K, K = nullM p n C := ⟨_, rfl⟩
        rw [← hK] at hD4
        have hKr : RedL p n K := by rw [hK]; exact nullM_red hfld_h.out n C
        have hls := fun k hk => ls_inv (by omega : 0 < p) hKr hsok_h.out.1 hsok_h.out.2.1 k hk
        obtain ⟨hKm, ld, hld⟩ := hKr
        have hMCt : trTo M m n n 0 = C := by
         have h1 := trTo_trans M m
         rw [hMm_h.out.len] at h1
         rw [h1, hM_h.out]
         exact trans_trans (by rw [← hCl_h.out]; exact hCm_h.out)
        have hTu : ∀ W', Below w6.heap.size w6 W' → Calls Tryd.prog 29 #[.agg #[.int .i64 (m : Int), .slice A8 n c8]] W' fun e w2 => ∃ A4 c4 gs, e = .returned (.agg #[.int .i64 (n : Int), .slice A4 m c4]) ∧ C = gs.map (fun h : Hd => h.2.2) ∧ RdR w2 A4 gs ∧ gs.length = m ∧ Below W'.heap.size W' w2 := fun W' hb => by
         refine (mxTurn_any n m A8 c8 ys W' (hrd6_h.out.below hb) hyl_h.out (by omega) (fun y hy => ?_) (by omega)).mono ?_
         · have := hMm_h.out.row y.2.2 (by rw [hLy_h.out]; exact List.mem_map.2 ⟨y, hy, rfl⟩)
           exact this.1
         · rintro e w2 ⟨A4, c4, gs, he, hL4, hO4, _, hb4⟩
           rw [← hLy_h.out, hMCt] at he hL4
           rw [hCl_h.out] at he
           exact ⟨A4, c4, gs, he, hL4, hO4.rd, by have := congrArg List.length hL4; rw [hCl_h.out, List.length_map] at this; exact this.symm, hb4⟩
        have hNu : ∀ W' A4 c4 (gs : List Hd), C = gs.map (fun h : Hd => h.2.2) → RdR W' A4 gs → gs.length = m → Calls Tryd.prog 28 #[.int .i64 p, .int .i64 (n : Int), .slice A4 m c4] W' (RetSS W' K) := fun W' A4 c4 gs h1 h2 h3 => by
         have := spNull_any p n A4 c4 gs W' h2 hfld_h.out (by rw [← h1, h3, ← hCl_h.out]; exact hCm_h.out) (by omega) (by omega)
         rw [h3, ← h1, ← hK] at this
         exact this
        have hfd : ∀ (x y : Value) (W : World), (Instr.field tMat (.agg #[x, y]) 1).run Tryd.prog W = .ok y W := fun _ _ _ => by kernel_rfl
        obtain ⟨N, hN⟩ : ∃ N, N = K.length := ⟨_, rfl⟩
        have hN100 : N ≤ 100 := by
         rw [hN]
         have hnd : ∀ i k, i < k → k < K.length → ld i < ld k := hld.mono
         have : ∀ i, i < K.length → i ≤ ld i := fun i => by
          induction i with
          | zero => intro _; omega
          | succ i ih => intro h; have := hnd i (i + 1) (by omega) h; have := ih (by omega); omega
         by_cases h0 : K.length = 0
         · omega
         · have h1 := this (K.length - 1) (by omega)
           have h2 := hld.lt (K.length - 1) (by omega)
           omega
        have hleadK : ∀ k, k < N → leadV (K.getD k []) < n := fun k hk => by rw [red_lead hKm hld (by omega)]; exact hld.lt k (by omega)
        clear hK hMCt; have hD4_h := lH hD4; have hls_h := lH hls; have hKm_h := lH hKm; have hld_h := lH hld; have hTu_h := lH hTu; have hNu_h := lH hNu; have hleadK_h := lH hleadK; have hN_h := lH hN; clear hD4 hls hKm hld hTu hNu hleadK hN
        obtain ⟨⟨c0, c1'⟩, c2, c3⟩ := box2 kx6_h.out
        obtain ⟨⟨d0, d1, d2⟩, d3, d4, d5⟩ := box3 k06_h.out
        go_wp2_with (fail)
        clear c0 c1' c2 c3 d0 d1 d2 d3 d4 d5
        refine beginB (by kernel_rfl) (fun W9 hW9 => ?_)
        have hb9 : Below w6.heap.size w6 W9 := by rw [hW9]; exact below_drewN (Below.refl _ _) 1
        clear hW9
        have kx9 := box_below kx6_h.out hb9
        have k09 := box_below k06_h.out hb9
        have hb9_h := lH hb9; have kx9_h := lH kx9; have k09_h := lH k09; clear hb9 kx9 k09
        refine tkH 0 ?_ rfl (Below.refl _ _) (fun W' hW' => ?_) ?_; rotate_left; · (obtain ⟨⟨c0, c1'⟩, c2, c3⟩ := box2 (box_below kx9_h.out hW'); obtain ⟨⟨d0, d1, d2⟩, d3, d4, d5⟩ := box3 (box_below k09_h.out hW'); clear hW'; go_simp; first | done | with_reducible rfl)
        simp only [Act.put, nS]
        refine tkH 1 ?_ rfl (Below.refl _ _) (fun W' hW' => ?_) ?_; rotate_left; · (obtain ⟨⟨c0, c1'⟩, c2, c3⟩ := box2 (box_below kx9_h.out hW'); obtain ⟨⟨d0, d1, d2⟩, d3, d4, d5⟩ := box3 (box_below k09_h.out hW'); clear hW'; go_simp; first | done | with_reducible rfl)
        simp only [Act.put, nS]
        refine tkH 2 ?_ rfl (Below.refl _ _) (fun W' hW' => ?_) ?_; rotate_left; · (obtain ⟨⟨c0, c1'⟩, c2, c3⟩ := box2 (box_below kx9_h.out hW'); obtain ⟨⟨d0, d1, d2⟩, d3, d4, d5⟩ := box3 (box_below k09_h.out hW'); clear hW'; go_simp; first | done | with_reducible rfl)
        simp only [Act.put, nS]
        refine tkH 3 ?_ rfl (Below.refl _ _) (fun W' hW' => ?_) ?_; rotate_left; · (obtain ⟨⟨c0, c1'⟩, c2, c3⟩ := box2 (box_below kx9_h.out hW'); obtain ⟨⟨d0, d1, d2⟩, d3, d4, d5⟩ := box3 (box_below k09_h.out hW'); clear hW'; go_simp; first | done | with_reducible rfl)
        simp only [Act.put, nS]
        refine tkH 8 ?_ rfl (Below.refl _ _) (fun W' hW' => ?_) ?_; rotate_left; · (obtain ⟨⟨c0, c1'⟩, c2, c3⟩ := box2 (box_below kx9_h.out hW'); obtain ⟨⟨d0, d1, d2⟩, d3, d4, d5⟩ := box3 (box_below k09_h.out hW'); clear hW'; go_simp; first | done | with_reducible rfl)
        simp only [Act.put, nS]
        refine' callH 4 (f := _) (args := _) rfl (by kernel_rfl) (by rfl) ?_ ?_; rotate_left 2; · (go_simp; first | done | with_reducible rfl | (constructor <;> with_reducible rfl))
        refine (hTu_h.out W9 hb9_h.out).mono ?_
        rintro e w10 ⟨A4, c4, gs, rfl, hgs, hrg, hgl, hb10⟩
        refine ⟨_, rfl, hb10, ?_⟩
        have hNu2 := hNu_h.out w10 A4 c4 gs hgs hrg hgl
        have hb10_h := lH hb10; have hNu2_h := lH hNu2; clear hb10 hNu2; clear hgs hrg hgl
        simp only [Act.put, nS]
        refine tkH 5 ?_ rfl hb10_h.out (fun W' hW' => ?_) ?_; rotate_left; · (have := hfd; clear hW'; go_simp; first | done | with_reducible rfl)
        simp only [Act.put, nS]
        refine' callH 6 (f := _) (args := _) rfl (by kernel_rfl) (by rfl) ?_ ?_; rotate_left 2; · (go_simp; first | done | with_reducible rfl | (constructor <;> with_reducible rfl))
        refine (hNu2_h.out).mono ?_
        rintro e w12 ⟨A5, c5, zs, rfl, hzs, hO5, hf5, hb12⟩
        rw [← hN_h.out]
        have hb912 := below_trans hb10_h.out hb12 hb10_h.out.size
        have hb612 := below_trans hb9_h.out hb912 hb9_h.out.size
        have hB12 := below_trans hB6_h.out hb612 hB6_h.out.size
        have hi12 := hi6_h.out.below hb612
        have hzl : zs.length = N := by rw [hN_h.out, hzs, List.length_map]
        have hap : ∀ y, y ∈ fpA A5 ++ fpR zs → y ∉ fpA A2 := fun y hy hy2 => by
         have h1 := hf5 y hy
         have h2 := hi6_h.out.lt y hy2
         have h3 := hb9_h.out.size
         have h4 := hb10_h.out.size
         omega
        refine ⟨_, rfl, hb912, ?_⟩
        have hzs_h := lH hzs; have hO5_h := lH hO5; have hf5_h := lH hf5; have hb12_h := lH hb12; have hb912_h := lH hb912; have hb612_h := lH hb612; have hB12_h := lH hB12; have hi12_h := lH hi12; have hzl_h := lH hzl; have hap_h := lH hap; clear hzs hO5 hf5 hb12 hb912 hb612 hB12 hi12 hzl hap
        simp only [Act.put, nS]
        refine tkH 7 ?_ rfl hb912_h.out (fun W' hW' => ?_) ?_; rotate_left; · (skip; clear hW'; go_simp; first | done | with_reducible rfl)
        simp only [Act.put, nS]
        refine doneH (by kernel_rfl) ?_
        go_wp2_with (fail)
        go_loopw [108] (fun kv wr => ∃ k : Nat, k ≤ N ∧ kv = .int .i64 k ∧ IS wr A2 c2' (lsTo p K SV.1 k) ∧ Keeps (· ∈ fpA A2) w12 wr) (fun kv _ => N - (intOf kv).toNat)
        case atStart => exact ⟨0, Nat.zero_le _, rfl, hi12_h.out, Keeps.refl _ _⟩
        case round =>
         clear hi12_h
         obtain ⟨k, hk, rfl, hI, hK⟩ := hrel
         by_cases hkn : k < N
         · have hkI : (k : Int) < (N : Int) := by omega
           obtain ⟨q1, q2, _, _⟩ := hls_h.out k (by rw [← hN_h.out]; omega)
           have hOr := hO5_h.out.keeps hK hap_h.out
           obtain ⟨ad, Cz, dz, lz, hAz, hxz, hcz, _, hIz⟩ := hOr.get (i := k) (by rw [hzl_h.out]; exact hkn)
           have hgz : K.getD k [] = lz := by rw [hzs_h.out]; exact getD_map_hd hxz
           have hlz := (hKm_h.out.get (i := k) (by rw [← hN_h.out]; exact hkn)).1
           have hrz := (hKm_h.out.get (i := k) (by rw [← hN_h.out]; exact hkn)).2
           have hle := hleadK_h.out k hkn
           rw [hgz] at hlz hrz hle
           rw [hlz] at hcz
           have C1 := spLead_any Cz dz n lz wr hIz.rd hlz (by omega)
           obtain ⟨e, he⟩ : ∃ e, e = leadV lz := ⟨_, rfl⟩
           rw [← he] at C1 hle
           have heI : (e : Int) < (n : Int) := by omega
           obtain ⟨od, xv, hA2, hxv, _, hcx, _⟩ := hI.at_ (j := e) (by rw [q1]; exact hle)
           have hxb := q2 xv (List.mem_of_getElem? hxv)
           have hst : lsTo p K SV.1 (k + 1) = addT p (lsTo p K SV.1 k) (-xv) lz := by
            rw [lsTo, hgz, ← he]
            simp [List.getD, hxv]
           have hapz : ∀ y, y ∈ fpA Cz → y ∉ fpA A2 := fun y hy => hap_h.out y (List.mem_append_right _ (mem_fpR.2 ⟨_, List.mem_of_getElem? hxz, hy⟩))
           have C2 := mxLess_any p xv A2 Cz c2' dz n (lsTo p K SV.1 k) lz wr hI hIz.rd hapz q1 hlz (by omega) (by omega) hpb.2 q2 hrz hxb
           subst hA2
           subst hAz
           clear hxz hxv hOr hIz hapz hrz; have hI_h := lH hI; have hK_h := lH hK; have q1_h := lH q1; have q2_h := lH q2; have hgz_h := lH hgz; have hlz_h := lH hlz; have C1_h := lH C1; have he_h := lH he; have hst_h := lH hst; have C2_h := lH C2; clear hI hK q1 q2 hgz hlz C1 he hst C2
           go_wp2_with (fail)
           refine (C1_h.out).mono ?_
           rintro e w' ⟨rfl, hw'⟩
           subst w'
           go_wp2_with (fail)
           refine (C2_h.out).mono ?_
           rintro e w14 ⟨rfl, hWr⟩
           have hI2 := hWr.is hI_h.out (by rw [addT_length])
           have hK2 := hK_h.out.trans hWr.1
           rw [← hst_h.out] at hI2
           clear hWr hcx hcz; have hI2_h := lH hI2; have hK2_h := lH hK2; clear hI2 hK2
           go_wp2_with (fail)
           go_roundw
           case rel => exact ⟨k + 1, by omega, by go_num, hI2_h.out, hK2_h.out⟩
           case measure => simp [intOf]; omega
         · obtain rfl : N = k := by omega
           have q1 := (hls_h.out N (by rw [← hN_h.out]; exact Nat.le_refl _)).1
           have hB14 : Below w.heap.size w wr := below_keeps hB12_h.out hK hB12_h.out.size (fun y hy => hf6'_h.out y hy)
           have hD5 := hD4_h.out
           rw [← hN_h.out] at hD5
           clear hK; have hI_h := lH hI; have q1_h := lH q1; have hB14_h := lH hB14; have hD5_h := lH hD5; clear hI q1 hB14 hD5
           go_wp2_with (fail)
           go_ret2
           rw [hD5_h.out]
           exact ⟨_, _, rfl, ⟨A2, c2', by show Value.slice A2 n c2' = Value.slice A2 (lsTo p K SV.1 N).length c2'; rw [q1_h.out], hI_h.out, rfl⟩, fun y hy => hf6'_h.out y hy, hB14_h.out⟩
theorem hvM_le (p : Int) (s : Sys) (x : List Int) : (hvM p s x).1.length ≤ 1048576 := by
 unfold hvM
 split
 · rename_i h
   simp only [Bool.and_eq_true] at h
   have hok := SysOk.of h.1
   unfold fsM
   split
   · simp
   · show (fsTo _ _ _).length ≤ _
     rw [fsTo_length]
     have := hok.hid.2
     omega
 · simp
end Go.Proofs.YtjompikdkhhlgaaDoor
namespace Go.Proofs.YtjompikdkhhlgaaDoor
open Go.ChangeShapes Go.WideShapes Go.ChangeAt Go.RowKit
theorem own : ownKnob Tryd.prog.godebug = none := by kernel_rfl
theorem laidOut : laidOutB Tryd.prog = true := by kernel_rfl
theorem gTab : Tryd.prog.globalNamed "loop.example/g01073/impl.smallPrimes" = some 0 := by kernel_rfl
theorem gTabType : (Tryd.prog.globals[0]?).map (·.type) = some 101 := by kernel_rfl
theorem cellsTab : Tryd.prog.cellsOf 101 = 4 := by kernel_rfl
theorem cellsInt : Tryd.prog.cellsOf 3 = 1 := by kernel_rfl
theorem tab_of_laid {W : World} (h : laidMetH Tryd.prog [("loop.example/g01073/impl.smallPrimes", Rows.laid_loop_example_g01073_impl_smallPrimes)] W) : Tab W := by
 have ht : Lib.TabIs Tryd.prog W "loop.example/g01073/impl.smallPrimes" .i64 [2, 3, 5, 7] :=
  Lib.tabIs_of_head (rest := []) gTab gTabType Tryd.underlying101 Tryd.underlying3 cellsInt cellsTab h
 exact ⟨ht.cell gTab 0 (by decide), ht.cell gTab 1 (by decide), ht.cell gTab 2 (by decide), ht.cell gTab 3 (by decide)⟩
section
variable {H : Type} {enc : TypeId × Value → H} {P : Program} {W W' : World}
theorem trodAll_below (hl : laidOutB P = true) (hb : Below W.heap.size W W') : ∀ (ts : List TypeId) (vs : List Value) (ds : List (DataW H)) (p : List MemPlace),
  (∀ t ∈ ts, P.readableRec t = true ∧ t < P.types.size) → DataW.TrodAll enc P W 0 (fun _ => true) true ts vs ds p → (∀ x ∈ p, x.block < W.heap.size) →
  DataW.TrodAll enc P W' 0 (fun b => decide (b < W.heap.size)) true ts vs ds p
 | [], vs, ds, p, _, h, _ => by obtain ⟨rfl, rfl, rfl⟩ := trodAll_nil h; exact trodAll_mk0
 | t :: ts, vs, ds, p, hr, h, hp => by
   obtain ⟨v, vs', d, ds', p1, q1, rfl, rfl, rfl, h1, h2⟩ := trodAll_cons h
   exact trodAll_cons_mk (Below.trod hl (hr t (by simp)).1 (hr t (by simp)).2 h1 hb fun x hx => hp x (by simp [hx]))
    (trodAll_below hl hb ts vs' ds' q1 (fun t' ht' => hr t' (by simp [ht'])) h2 fun x hx => hp x (by simp [hx]))
theorem trodVars_below (hl : laidOutB P = true) (hb : Below W.heap.size W W') : ∀ (ns : List String) (gs : List (DataW H)) (p : List MemPlace),
  (∀ n ∈ ns, ∀ g t, P.globalNamed n = some g → (P.globals[g]?).map (·.type) = some t → P.readableRec t = true ∧ t < P.types.size) → DataW.TrodVars enc P W (fun _ => true) ns gs p → (∀ x ∈ p, x.block < W.heap.size) →
  DataW.TrodVars enc P W' (fun b => decide (b < W.heap.size)) ns gs p
 | [], [], p, _, h, _ => h
 | [], _ :: _, p, _, h, _ => by simp [DataW.TrodVars] at h
 | _ :: _, [], p, _, h, _ => by simp [DataW.TrodVars] at h
 | n :: ns, d :: ds, p, hr, h, hp => by
   obtain ⟨g, t, cs, fuel, p1, q1, h1, h2, h3, h4, h5, rfl⟩ := h
   have hg : g < W.heap.size := by
    simp only [World.var?, h1, Option.bind_some] at h3
    rcases Nat.lt_or_ge g W.heap.size with hlt | hge
    · exact hlt
    · rw [Array.getElem?_eq_none hge] at h3; simp at h3
   have hT : DataW.Trod enc P W 0 (fun _ => true) true t (.agg cs) d p1 := ⟨fuel, h4⟩
   obtain ⟨fuel', h4'⟩ := Below.trod hl (hr n (by simp) g t h1 h2).1 (hr n (by simp) g t h1 h2).2 hT hb fun x hx => hp x (by simp [hx])
   exact ⟨g, t, cs, fuel', p1, q1, h1, h2, var?_below hb h1 hg h3, h4', trodVars_below hl hb ns ds q1 (fun n' hn' => hr n' (by simp [hn'])) h5 fun x hx => hp x (by simp [hx]), rfl⟩
theorem post_true {f : Func} {s : ChangeSpec} {tB : TypeId} {args : Array Value} {ds gs : List (DataW H)} {before : List MemPlace} (hl : laidOutB P = true)
  (hW : DataW.Whole enc P f.params.toList s.vars false W args.toList ds gs before) (hb : Below W.heap.size W W')
  (hr : ∀ t ∈ f.params.toList, P.readableRec t = true ∧ t < P.types.size)
  (hv : ∀ n ∈ s.vars, ∀ g t, P.globalNamed n = some g → (P.globals[g]?).map (·.type) = some t → P.readableRec t = true ∧ t < P.types.size)
  (hfn : s.fn H (ds ++ gs) = { results := [.lit (.bool true)], args := ds, vars := gs }) (hres : f.resultTypes = #[tB]) (htB : P.underlying tB = some .bool) :
  s.post enc P f false true false false W args (.bool true) W' := by
 have hW' := hW
 obtain ⟨p, q, hA, hV, rfl, _, _⟩ := hW
 have hlt : ∀ x ∈ p ++ q, x.block < W.heap.size := fun x hx => hW'.lt x hx
 refine ⟨ds, gs, p ++ q, [], p, q, hW', ?_, ?_, ?_, hb.frame _, fun h => by cases h⟩
 · rw [hfn, hres]; exact trodAll_cons_mk (shut_bool htB true) trodAll_mk0
 · rw [hfn]; exact trodAll_below hl hb _ _ _ _ hr hA fun x hx => hlt x (by simp [hx])
 · rw [hfn]; exact trodVars_below hl hb _ _ _ hv hV fun x hx => hlt x (by simp [hx])
end
theorem vars_ok : ∀ n ∈ ["loop.example/g01073/impl.smallPrimes"], ∀ g t, Tryd.prog.globalNamed n = some g → (Tryd.prog.globals[g]?).map (·.type) = some t → Tryd.prog.readableRec t = true ∧ t < Tryd.prog.types.size := by
 intro n hn g t h1 h2
 obtain rfl := List.mem_singleton.1 hn
 obtain rfl := Option.some.inj (gTab.symm.trans h1)
 obtain rfl := Option.some.inj (gTabType.symm.trans h2)
 exact ⟨by kernel_rfl, of_decide_eq_true (by kernel_rfl)⟩
noncomputable def laidWorld (os : Os) : World :=
 { World.holding Tryd.prog os ⟨#[], #[], []⟩ with heap := (World.holding Tryd.prog os ⟨#[], #[], []⟩).heap.modify 0 fun
   | .cells _ t frozen => .cells #[.int .i64 2, .int .i64 3, .int .i64 5, .int .i64 7] t frozen
   | o => o }
theorem laid_met (os : Os) (args : Array Value) : laidMet Tryd.prog [("loop.example/g01073/impl.smallPrimes", Rows.laid_loop_example_g01073_impl_smallPrimes)] ((laidWorld os).forCall (fun _ _ => 0) ⟨#[], args, []⟩).memory :=
 laidMet_of_run' 8 (by kernel_rfl) (by kernel_rfl)
set_option maxRecDepth 100000 in
theorem in_int {H : Type} {enc : TypeId × Value → H} {W : World} {v : Value} {d : DataW H} {p : List MemPlace} (hv : Value.okWide Tryd.prog W .any 0 3 v) (h : DataW.Trod enc Tryd.prog W 0 (fun _ => true) true 3 v d p) :
  ∃ n, v = .int .i64 n ∧ -9223372036854775808 ≤ n ∧ n ≤ 9223372036854775807 := by
 obtain ⟨n, rfl, rfl, rfl, wf⟩ := open_int Tryd.underlying3 hv h
 refine ⟨n, rfl, ?_⟩
 simp [Lit.wf, IntKind.min, IntKind.max, IntKind.signed, IntKind.bits] at wf
 omega
set_option maxRecDepth 100000 in
theorem in_ints {H : Type} {enc : TypeId × Value → H} {W : World} {base : Nat} {v : Value} {d : DataW H} {p : List MemPlace} (hv : Value.okWide Tryd.prog W .any base 25 v) (h : DataW.Trod enc Tryd.prog W 0 (fun _ => true) true 25 v d p) :
  ∃ A cap l, v = .slice A l.length cap ∧ RdI W A l := by
 obtain ⟨a0, len, cap, rfl⟩ := okWide_slice Tryd.underlying25 hv
 obtain ⟨fuel, hf⟩ := h
 rcases open_ints Tryd.underlying25 Tryd.underlying3 cellsInt hf with ⟨hcs, _⟩ | ⟨a, len', cap', zs, hcs, _, hl, _, hz, _, hcell, _⟩
 · simp [Value.cells] at hcs
   obtain ⟨rfl, rfl, rfl⟩ := hcs
   exact ⟨none, 0, [], rfl, fun j x hj => by simp at hj⟩
 · simp [Value.cells] at hcs
   obtain ⟨rfl, rfl, rfl⟩ := hcs
   have hzl : zs.length = cap := by simpa using hz
   refine ⟨some a, cap, zs.take len, by simp; omega, fun j x hj => ⟨a, rfl, ?_⟩⟩
   rw [List.getElem?_take] at hj
   split at hj
   · have hj' := (List.getElem?_eq_some_iff.1 hj).1
     rw [hcell j hj']; simp [List.getD, hj]
   · cases hj
end Go.Proofs.YtjompikdkhhlgaaDoor
namespace Go.Proofs.YtjompikdkhhlgaaDoor
open Go.ChangeShapes Go.WideShapes Go.ChangeAt Go.RowKit
theorem cellsInts : Tryd.prog.cellsOf 25 = 1 := by kernel_rfl
theorem in_rows {H : Type} {enc : TypeId × Value → H} {W : World} {base : Nat} {fuel : Nat} {v : Value} {x : DataW H × List MemPlace} (h : DataW.trod enc Tryd.prog W base (fun _ => true) true fuel 22 [v] = some x) :
  ∃ A cap hs, v = .slice A (hs : List Hd).length cap ∧ RdR W A hs ∧ hs.length ≤ 9223372036854775807 ∧ ∀ y, y ∈ hs → y.2.2.length ≤ 9223372036854775807 := by
 rcases Deep.open_int_rows Tryd.underlying22 Tryd.underlying25 Tryd.underlying3 cellsInts cellsInt h with ⟨hcs, _⟩ | ⟨a, len, cap, A, L, C, Z, hcs, _, hl, hm, _, hr⟩
 · simp at hcs
   subst hcs
   exact ⟨none, 0, [], rfl, ⟨fun i h hh => by simp at hh, fun h hh => by cases hh⟩, by simp, fun y hy => by cases hy⟩
 · simp at hcs
   subst hcs
   have hlen : ((List.range len).map fun r => ((A r, C r, (Z r).take (L r)) : Hd)).length = len := by simp
   refine ⟨some a, cap, (List.range len).map fun r => (A r, C r, (Z r).take (L r)), by rw [hlen], ⟨fun i h hh => ?_, fun h hh => ?_⟩, by unfold maxLen at hm; rw [hlen]; omega, fun y hy => ?_⟩
   · have hi : i < len := by have := (List.getElem?_eq_some_iff.1 hh).1; simpa using this
     obtain ⟨h1, h2, h3, h4, _, _, _⟩ := hr i (by omega)
     rw [List.getElem?_map, List.getElem?_range hi] at hh
     simp at hh
     subst hh
     refine ⟨a, rfl, ?_⟩
     rw [h1]
     show some (Value.slice (A i) (L i) (C i)) = some (Value.slice (A i) ((Z i).take (L i)).length (C i))
     rw [List.length_take, h4, Nat.min_eq_left h2]
   · obtain ⟨r, hr', rfl⟩ := List.mem_map.1 hh
     have hi : r < len := by simpa using hr'
     obtain ⟨h1, h2, h3, h4, _, h6, h7⟩ := hr r (by omega)
     intro j u hj
     show ∃ ad, A r = some ad ∧ _
     have hj' : ((Z r).take (L r))[j]? = some u := hj
     rw [List.getElem?_take] at hj'
     split at hj'
     · rename_i hjl
       cases hA : A r with
       | none => have := h6 hA; omega
       | some a' =>
         obtain ⟨_, h8⟩ := h7 a' hA
         refine ⟨a', rfl, ?_⟩
         rw [h8 j (by omega)]
         simp [List.getD, hj']
     · cases hj'
   · obtain ⟨r, hr', rfl⟩ := List.mem_map.1 hy
     have hi : r < len := by simpa using hr'
     obtain ⟨h1, h2, h3, h4, _, _, _⟩ := hr r (by omega)
     show ((Z r).take (L r)).length ≤ _
     unfold maxLen at h3
     rw [List.length_take]; omega
theorem in_int1 {H : Type} {enc : TypeId × Value → H} {W : World} {base fuel : Nat} {v : Value} {x : DataW H × List MemPlace} (h : DataW.trod enc Tryd.prog W base (fun _ => true) true fuel 3 [v] = some x) :
  ∃ n, v = .int .i64 n ∧ -9223372036854775808 ≤ n ∧ n ≤ 9223372036854775807 := by
 obtain ⟨n, hcs, _, wf⟩ := DataW.trod_int Tryd.underlying3 h
 simp at hcs
 refine ⟨n, hcs, ?_⟩
 simp [Lit.wf, IntKind.min, IntKind.max, IntKind.signed, IntKind.bits] at wf
 omega
end Go.Proofs.YtjompikdkhhlgaaDoor
namespace Go.Proofs.YtjompikdkhhlgaaDoor
open Go.ChangeShapes Go.WideShapes Go.ChangeAt Go.RowKit
def BigSystem (s : Sys) : Prop := (-9223372036854775808 ≤ s.1 ∧ s.1 ≤ 9223372036854775807) ∧ (-9223372036854775808 ≤ s.2.1 ∧ s.2.1 ≤ 9223372036854775807) ∧ s.2.2.length ≤ 9223372036854775807 ∧ ∀ x, x ∈ s.2.2 → x.length ≤ 9223372036854775807
set_option maxRecDepth 100000 in
theorem in_System {H : Type} {enc : TypeId × Value → H} {W : World} {v : Value} {d : DataW H} {p : List MemPlace} (hv : Value.okWide Tryd.prog W .any 0 24 v) (h : DataW.Trod enc Tryd.prog W 0 (fun _ => true) true 24 v d p) :
  ∃ s : Sys, RdSysV W v s ∧ BigSystem s := by
 obtain ⟨v0, v1, v2, y0, y1, y2, n, rfl, _, _, h0, h1, h2⟩ := Joins.open_agg3 Tryd.underlying24 (by kernel_rfl) (by kernel_rfl) hv h
 obtain ⟨a, rfl, ha⟩ := in_int1 h0
 obtain ⟨b, rfl, hb⟩ := in_int1 h1
 obtain ⟨A, cap, hs, rfl, hR, hl, hr⟩ := in_rows h2
 exact ⟨(a, b, hs.map fun h : Hd => h.2.2), ⟨A, cap, hs, rfl, rfl, hR⟩, ha, hb, by simpa using hl, fun x hx => by
  obtain ⟨y, hy, rfl⟩ := List.mem_map.1 hx
  exact hr y hy⟩
set_option maxHeartbeats 1000000 in
theorem szSystem_law {v : Value} {s : Sys} (left : Int) {w : World} (h : RdSysV w v s) (hB : BigSystem s) (h0 : 0 ≤ left) (h1 : left ≤ 1048576) :
  Calls Tryd.prog 5 #[v, .int .i64 left] w fun e w' => e = .returned (.int .i64 (szR s.2.2 left)) ∧ Below w.heap.size w w' := by
 obtain ⟨_, _, hn, hr⟩ := hB
 obtain ⟨A, c, hs, rfl, hL, hR⟩ := h
 obtain ⟨a, b, L⟩ := s
 have hL' : L = hs.map (fun h : Hd => h.2.2) := hL
 subst hL'
 have hb : Below w.heap.size w (w.alloc (.cells #[.int .i64 a, .int .i64 b, .slice A hs.length c] 24)) := below_alloc _ _
 have hC := szIntSS_any A c hs left _ (hR.below hb) h0 h1 (by simpa using hn) (fun x hx => hr _ (List.mem_map_of_mem hx))
 obtain ⟨S, hS⟩ : ∃ S, S = szR (hs.map fun h : Hd => h.2.2) left := ⟨_, rfl⟩
 rw [← hS] at hC
 have HC := lH hC; have HS := lH hS; clear hC hL hR hS
 by_cases hneg : S < 0
 · have hS1 : S = -1 := by have := HS.out; rw [this]; exact szR_neg (by rw [← this]; exact hneg)
   subst hS1
   go_enter Tryd.func5, Tryd.ntmps5
   go_wp2_with (fail)
   refine HC.out.mono ?_
   rintro e w' ⟨rfl, rfl⟩
   go_wp2_with (fail)
   go_ret
   exact ⟨by show Ending.returned _ = .returned (.int .i64 (szR (hs.map fun h : Hd => h.2.2) left)); rw [← HS.out]; rfl, hb⟩
 · go_enter Tryd.func5, Tryd.ntmps5
   go_wp2_with (fail)
   refine HC.out.mono ?_
   rintro e w' ⟨rfl, rfl⟩
   go_wp2_with (fail)
   go_ret
   exact ⟨by show Ending.returned _ = .returned (.int .i64 (szR (hs.map fun h : Hd => h.2.2) left)); rw [← HS.out]; rfl, hb⟩
set_option maxHeartbeats 1000000 in
theorem toSystem_law {v : Value} {s : Sys} {w : World} (h : RdSysV w v s) (ok : OkR s.2.2) :
  Calls Tryd.prog 7 #[v] w fun e w' => ∃ v' fp, e = .returned v' ∧ OwSys w' v' s fp ∧ FreshL w.heap.size fp ∧ Below w.heap.size w w' := by
 obtain ⟨hn, hr, _⟩ := ok
 obtain ⟨A, c, hs, rfl, hL, hR⟩ := h
 obtain ⟨a, b, L⟩ := s
 have hL' : L = hs.map (fun h : Hd => h.2.2) := hL
 subst hL'
 clear hL
 go_enter Tryd.func7, Tryd.ntmps7
 go_wp2_with (fail)
 obtain ⟨W, hW⟩ : ∃ W, W = ((w.alloc (.cells #[.int .i64 a, .int .i64 b, .slice A hs.length c] 24)).alloc (.cells #[.int .i64 0, .int .i64 0, .slice none 0 0] 29)).alloc (.cells #[.int .i64 a, .int .i64 b, .slice none 0 0] 29) := ⟨_, rfl⟩
 have hB0 : Below w.heap.size w W := by rw [hW]; exact (((Below.refl _ _).alloc (Nat.le_refl _) _).alloc (by simp) _).alloc (by simp; omega) _
 have hz : W.heap.size = w.heap.size + 1 + 1 + 1 := by rw [hW]; simp
 have k2 : W.heap[w.heap.size + 1 + 1]? = some (.cells #[.int .i64 a, .int .i64 b, .slice none 0 0] 29) := by
  rw [hW]
  have := heap_alloc_new ((w.alloc (.cells #[.int .i64 a, .int .i64 b, .slice A hs.length c] 24)).alloc (.cells #[.int .i64 0, .int .i64 0, .slice none 0 0] 29)) (.cells #[.int .i64 a, .int .i64 b, .slice none 0 0] 29)
  rwa [World.size_alloc, World.size_alloc] at this
 have k1 : W.heap[w.heap.size + 1]? = some (.cells #[.int .i64 0, .int .i64 0, .slice none 0 0] 29) := by
  rw [hW]
  have := heap_alloc_new (w.alloc (.cells #[.int .i64 a, .int .i64 b, .slice A hs.length c] 24)) (.cells #[.int .i64 0, .int .i64 0, .slice none 0 0] 29)
  rw [World.size_alloc] at this
  rw [Below.heap_alloc _ _ _ (by simp)]
  exact this
 have hT := toIntSS_any A c hs W (hR.below hB0) (by simpa using hn) (fun x hx => hr _ (List.mem_map_of_mem hx))
 rw [← hW]
 have HZ := lH hz; clear hW hz
 refine hT.mono ?_
 rintro e w1 ⟨A1, c1, gs, rfl, hgl, hO, hf, hb1⟩
 have k2' := (hb1.block (w.heap.size + 1 + 1) (by rw [HZ.out]; omega)).trans k2
 have k1' := (hb1.block (w.heap.size + 1) (by rw [HZ.out]; omega)).trans k1
 have hlen : (hs.map fun h : Hd => h.2.2).length = gs.length := by rw [hgl, List.length_map]
 rw [hlen]
 have HL := lH hlen; have HGL := lH hgl
 obtain ⟨⟨c20, c21, c22⟩, f20, f21, f22⟩ := box3 k2'
 obtain ⟨⟨c10, c11, c12⟩, f10, f11, f12⟩ := box3 k1'
 have K1 := lH k1'; clear k1 k2 hlen hgl hT k1' k2'
 go_wp2_with (fail)
 clear c20 f20 c21 f21 c22 f22 c10 f10 c11 f11 c12 f12
 obtain ⟨w5, hw5⟩ : ∃ w5, w5 = ((((w1.setCell ⟨w.heap.size + 1 + 1, 2, none⟩ (.slice A1 gs.length c1)).setCell ⟨w.heap.size + 1, 0, none⟩ (.int .i64 a)).setCell ⟨w.heap.size + 1, 1, none⟩ (.int .i64 b)).setCell ⟨w.heap.size + 1, 2, none⟩ (.slice A1 gs.length c1)) := ⟨_, rfl⟩
 have hk5 : w5.heap[w.heap.size + 1]? = some (.cells #[.int .i64 a, .int .i64 b, .slice A1 gs.length c1] 29) := by
  have := K1.out
  rw [hw5]
  simp [World.setCell, Array.getElem?_modify, this]
 have hkp : Keeps (fun k => k = w.heap.size + 1 ∨ k = w.heap.size + 1 + 1) w1 w5 := by
  rw [hw5]
  exact ((((Keeps.refl _ w1).setCell (p := ⟨w.heap.size + 1 + 1, 2, none⟩) (.inr rfl) _).setCell (p := ⟨w.heap.size + 1, 0, none⟩) (.inl rfl) _).setCell (p := ⟨w.heap.size + 1, 1, none⟩) (.inl rfl) _).setCell (p := ⟨w.heap.size + 1, 2, none⟩) (.inl rfl) _
 rw [← hw5]
 refine bodyPost_ret (results_cell_row rfl _ w5 (w.heap.size + 1) _ _ (0, 0) _ rfl hk5 Tryd.underlying29 rfl (by kernel_rfl)) rfl ?_
 refine ⟨_, fpA A1 ++ fpR gs, rfl, ⟨A1, c1, gs, rfl, HGL.out, hO.keeps hkp (fun k hk e => ?_), rfl⟩, fun k hk => ?_, below_keeps (below_trans hB0 hb1 hB0.size) hkp (by have := hb1.size; have := HZ.out; omega) (fun k hk => by omega)⟩
 · have := hf k hk; have := HZ.out; omega
 · have := hf k hk; have := HZ.out; omega
end Go.Proofs.YtjompikdkhhlgaaDoor
namespace Go.Proofs.YtjompikdkhhlgaaDoor
open Go.ChangeShapes Go.WideShapes Go.ChangeAt Go.RowKit
set_option maxHeartbeats 4000000 in
set_option maxRecDepth 100000 in
theorem lawHiddenValues_any (p : Int) (vs : Value) (s : Sys) (Ax : Option Addr) (cx : Nat) (x : List Int) (w : World) (hs : RdSysV w vs s) (hgs : BigSystem s) (qx : RdI w Ax x) (_lop : -9223372036854775808 ≤ p) (_hip : p ≤ 9223372036854775807) (hT : Tab w) :
  Calls Tryd.prog 3 #[.int .i64 p, vs, .slice Ax x.length cx] w fun e w' => e = .returned (.bool true) ∧ Below w.heap.size w w' := by
 obtain ⟨As, ns, cs, rfl⟩ := hs.shape
 obtain ⟨Ss, hSs⟩ : ∃ S, S = szR (s).2.2 1048576 := ⟨_, rfl⟩
 have HSs := lH hSs; clear hSs
 by_cases lenx : x.length ≤ 1048576
 case neg =>
  have gtx : 1048576 < (x.length : Int) := by omega
  go_enter Tryd.func3, Tryd.ntmps3
  go_wp2_with (fail)
  go_ret
  exact ⟨rfl, (Below.refl _ _).alloc (Nat.le_refl _) _⟩
 have gtx : ¬ (1048576 < (x.length : Int)) := by omega
 have hx : RdIV w (.slice Ax x.length cx) x := ⟨Ax, cx, rfl, qx⟩
 clear qx
 have hB0 : Below w.heap.size w w := Below.refl _ _
 have hb1 := below_alloc (w) (.cells #[.int .i64 (s).1, .int .i64 (s).2.1, .slice As ns cs] 24)
 have hB1 := below_trans hB0 hb1 hB0.size
 have bx1 := heap_alloc_new (w) (.cells #[.int .i64 (s).1, .int .i64 (s).2.1, .slice As ns cs] 24)
 have lt_ps : LtL ((w).alloc (.cells #[.int .i64 (s).1, .int .i64 (s).2.1, .slice As ns cs] 24)).heap.size [(w).heap.size] := fun b hb => by obtain rfl := List.mem_singleton.1 hb; exact box_lt bx1
 have fr_ps : FreshL (w).heap.size [(w).heap.size] := fun b hb => by obtain rfl := List.mem_singleton.1 hb; exact Nat.le_refl _
 have BX_ps_1 := lH bx1; clear bx1
 by_cases negs : Ss < 0
 case pos =>
  go_enter Tryd.func3, Tryd.ntmps3
  obtain ⟨⟨c1_0, c1_1, c1_2⟩, f1_0, f1_1, f1_2⟩ := box3 BX_ps_1.out
  go_wp2_with (fail)
  refine (szSystem_law 1048576 (hs.below hB1) hgs (by omega) (by omega)).mono ?_
  rintro e w2 ⟨he2, hb2⟩
  have hB2 := below_trans hB1 hb2 hB1.size
  clear c1_0 c1_1 c1_2 f1_0 f1_1 f1_2
  rw [← HSs.out] at he2
  subst he2
  go_wp2_with (fail)
  go_ret
  exact ⟨rfl, hB2⟩
 have soks := szR_ok (by rw [← HSs.out]; omega : 0 ≤ szR (s).2.2 1048576) (by omega)
 have oks := soks.1
 have sles : Ss ≤ 1048576 := by rw [HSs.out]; exact soks.2
 clear soks
 go_enter Tryd.func3, Tryd.ntmps3
 obtain ⟨⟨c2_0, c2_1, c2_2⟩, f2_0, f2_1, f2_2⟩ := box3 BX_ps_1.out
 go_wp2_with (fail)
 refine (szSystem_law 1048576 (hs.below hB1) hgs (by omega) (by omega)).mono ?_
 rintro e w2 ⟨he2, hb2⟩
 have hB2 := below_trans hB1 hb2 hB1.size
 clear c2_0 c2_1 c2_2 f2_0 f2_1 f2_2
 rw [← HSs.out] at he2
 subst he2
 have F3_ps_2 := lH (box_below BX_ps_1.out hb2)
 clear BX_ps_1
 obtain ⟨⟨c4_0, c4_1, c4_2⟩, f4_0, f4_1, f4_2⟩ := box3 F3_ps_2.out
 go_wp2_with (fail)
 refine (toSystem_law (hs.below hB2) oks).mono ?_
 rintro e w3 ⟨v3, fp3, rfl, o3, fr3, hb3⟩
 have hB3 := below_trans hB2 hb3 hB2.size
 clear c4_0 c4_1 c4_2 f4_0 f4_1 f4_2
 obtain ⟨A3, n3, c3, rfl⟩ := o3.shape
 have lt_as := o3.lt
 go_wp2_with (fail)
 refine (toI_law (hx.below hB3) (by omega)).mono ?_
 rintro e w4 ⟨v4, fp4, rfl, o4, fr4, hb4⟩
 have hB4 := below_trans hB3 hb4 hB3.size
 have lt_ax := o4.lt
 have F5_as_4 := o3.below hb4
 clear o3
 go_wp2_with (fail)
 refine (sHiddenValues_law p F5_as_4 o4.rd oks (by omega)).mono ?_
 rintro e w5 ⟨v5_0, fp5_0, rfl, o5r0, fr5_0, hb5⟩
 have hB5 := below_trans hB4 hb5 hB4.size
 have lt_W0 := o5r0.lt
 have F6_ps_3 := lH (box_below F3_ps_2.out hb3)
 clear F3_ps_2
 have F7_ps_4 := lH (box_below F6_ps_3.out hb4)
 clear F6_ps_3
 have F8_ps_5 := lH (box_below F7_ps_4.out hb5)
 clear F7_ps_4
 obtain ⟨⟨c9_0, c9_1, c9_2⟩, f9_0, f9_1, f9_2⟩ := box3 F8_ps_5.out
 go_wp2_with (fail)
 refine (toSystem_law (hs.below hB5) oks).mono ?_
 rintro e w6 ⟨v6, fp6, rfl, o6, fr6, hb6⟩
 have hB6 := below_trans hB5 hb6 hB5.size
 clear c9_0 c9_1 c9_2 f9_0 f9_1 f9_2
 obtain ⟨A6, n6, c6, rfl⟩ := o6.shape
 have lt_xs := o6.lt
 have hb7 := below_alloc (w6) (.cells #[.int .i64 (s).1, .int .i64 (s).2.1, .slice A6 n6 c6] 29)
 have hB7 := below_trans hB6 hb7 hB6.size
 have bx7 := heap_alloc_new (w6) (.cells #[.int .i64 (s).1, .int .i64 (s).2.1, .slice A6 n6 c6] 29)
 have lt_bxs : LtL ((w6).alloc (.cells #[.int .i64 (s).1, .int .i64 (s).2.1, .slice A6 n6 c6] 29)).heap.size [(w6).heap.size] := fun b hb => by obtain rfl := List.mem_singleton.1 hb; exact box_lt bx7
 have fr_bxs : FreshL (w6).heap.size [(w6).heap.size] := fun b hb => by obtain rfl := List.mem_singleton.1 hb; exact Nat.le_refl _
 have BX_bxs_7 := lH bx7; clear bx7
 go_wp2_with (fail)
 refine (toI_law (hx.below hB7) (by omega)).mono ?_
 rintro e w8 ⟨v8, fp8, rfl, o8, fr8, hb8⟩
 have hB8 := below_trans hB7 hb8 hB7.size
 have lt_xx := o8.lt
 have F10_xs_7 := o6.below hb7
 clear o6
 have F11_xs_8 := F10_xs_7.below hb8
 clear F10_xs_7
 have F12_bxs_8 := lH (box_below BX_bxs_7.out hb8)
 clear BX_bxs_7
 obtain ⟨⟨c13_0, c13_1, c13_2⟩, f13_0, f13_1, f13_2⟩ := box3 F12_bxs_8.out
 go_wp2_with (fail)
 refine (iHiddenValues_law p F11_xs_8 o8.rd oks (by omega) (hT.below hB8 hT.lt)).mono ?_
 rintro e w9 ⟨v9_0, fp9_0, rfl, o9r0, fr9_0, hb9⟩
 have hB9 := below_trans hB8 hb9 hB8.size
 clear c13_0 c13_1 c13_2 f13_0 f13_1 f13_2
 have lt_G0 := o9r0.lt
 have F14_W0_6 := o5r0.below hb6
 clear o5r0
 have F15_W0_7 := F14_W0_6.below hb7
 clear F14_W0_6
 have F16_W0_8 := F15_W0_7.below hb8
 clear F15_W0_7
 have F17_W0_9 := F16_W0_8.below hb9
 clear F16_W0_8
 go_wp2_with (fail)
 refine (eqI_law o9r0.rd F17_W0_9.rd ((by have := hvM_le p s x; omega))).mono ?_
 rintro e w10 ⟨rfl, hb10⟩
 have hB10 := below_trans hB9 hb10 hB9.size
 rw [decide_eq_true (rfl : (hvM p s x).1 = (hvM p s x).1)]
 have F18_bxs_9 := lH (box_below F12_bxs_8.out hb9)
 clear F12_bxs_8
 have F19_bxs_10 := lH (box_below F18_bxs_9.out hb10)
 clear F18_bxs_9
 have F20_ps_6 := lH (box_below F8_ps_5.out hb6)
 clear F8_ps_5
 have F21_ps_7 := lH (box_below F20_ps_6.out hb7)
 clear F20_ps_6
 have F22_ps_8 := lH (box_below F21_ps_7.out hb8)
 clear F21_ps_7
 have F23_ps_9 := lH (box_below F22_ps_8.out hb9)
 clear F22_ps_8
 have F24_ps_10 := lH (box_below F23_ps_9.out hb10)
 clear F23_ps_9
 have F25_xs_9 := F11_xs_8.below hb9
 clear F11_xs_8
 have F26_xs_10 := F25_xs_9.below hb10
 clear F25_xs_9
 go_wp2_with (fail)
 refine beginH (fun w' => w'.heap[(w6).heap.size]? = some (.cells #[.int .i64 (s).1, .int .i64 (s).2.1, .slice A6 n6 c6] 29) ∧ w'.heap[(w).heap.size]? = some (.cells #[.int .i64 (s).1, .int .i64 (s).2.1, .slice As ns cs] 24)) (by kernel_rfl) ?_
 have hb11 : Below (w10).heap.size (w10) (w10).drew := below_drewN (Below.refl _ _) 1
 have hB11 := below_trans hB10 hb11 hB10.size
 have F28_bxs_11 := lH (box_below F19_bxs_10.out hb11)
 clear F19_bxs_10
 have F29_ps_11 := lH (box_below F24_ps_10.out hb11)
 clear F24_ps_10
 have F30_xs_11 := F26_xs_10.below hb11
 clear F26_xs_10
 refine tkH 0 ?_ rfl ⟨F28_bxs_11.out, F29_ps_11.out⟩ (fun W' hW' => ?_) ?_; rotate_left; · (obtain ⟨q1, q2⟩ := hW'; obtain ⟨⟨ca0, ca1, ca2⟩, gca0, gca1, gca2⟩ := box3 q1; obtain ⟨⟨cb0, cb1, cb2⟩, gcb0, gcb1, gcb2⟩ := box3 q2; clear q1 q2; go_simp; first | done | with_reducible rfl)
 simp only [Act.put, nS]
 refine tkH 1 ?_ rfl ⟨F28_bxs_11.out, F29_ps_11.out⟩ (fun W' hW' => ?_) ?_; rotate_left; · (obtain ⟨q1, q2⟩ := hW'; obtain ⟨⟨ca0, ca1, ca2⟩, gca0, gca1, gca2⟩ := box3 q1; obtain ⟨⟨cb0, cb1, cb2⟩, gcb0, gcb1, gcb2⟩ := box3 q2; clear q1 q2; go_simp; first | done | with_reducible rfl)
 simp only [Act.put, nS]
 refine' callH 2 (f := _) (args := _) rfl (by kernel_rfl) (by rfl) ?_ ?_; rotate_left 2; · (go_simp; first | done | with_reducible rfl | (constructor <;> with_reducible rfl))
 refine (toSystem_law (hs.below hB11) oks).mono ?_
 rintro e w12 ⟨v12, fp12, rfl, o12, fr12, hb12⟩
 have hB12 := below_trans hB11 hb12 hB11.size
 have F31_bxs_12 := lH (box_below F28_bxs_11.out hb12)
 clear F28_bxs_11
 have F32_ps_12 := lH (box_below F29_ps_11.out hb12)
 clear F29_ps_11
 have F33_xs_12 := F30_xs_11.below hb12
 clear F30_xs_11
 refine ⟨_, rfl, ⟨F31_bxs_12.out, F32_ps_12.out⟩, ?_⟩
 simp only [Act.put, nS]
 refine' callH 3 (f := _) (args := _) rfl (by kernel_rfl) (by rfl) ?_ ?_; rotate_left 2; · (go_simp; first | done | with_reducible rfl | (constructor <;> with_reducible rfl))
 refine (eqSystem_law F33_xs_12.rd o12.rd oks).mono ?_
 rintro e w13 ⟨rfl, hb13⟩
 have hB13 := below_trans hB12 hb13 hB12.size
 have F34_bxs_13 := lH (box_below F31_bxs_12.out hb13)
 clear F31_bxs_12
 have F35_ps_13 := lH (box_below F32_ps_12.out hb13)
 clear F32_ps_12
 have F36_xs_13 := F33_xs_12.below hb13
 clear F33_xs_12
 refine ⟨_, rfl, ⟨F34_bxs_13.out, F35_ps_13.out⟩, ?_⟩
 rw [decide_eq_true (rfl : s = s)]
 simp only [Act.put, nS]
 refine takeH 4 (v := .bool false) rfl (by kernel_rfl) (by kernel_rfl) (by kernel_rfl) (fun _ _ _ h => h) ⟨F34_bxs_13.out, F35_ps_13.out⟩ (by rfl) (fun W' hW' => ?_) ?_; · (go_simp; first | done | with_reducible rfl)
 simp only [Act.put, nS]
 refine doneH (by kernel_rfl) ?_
 go_wp2_with (fail)
 refine (toI_law (hx.below hB13) (by omega)).mono ?_
 rintro e w14 ⟨v14, fp14, rfl, o14, fr14, hb14⟩
 have hB14 := below_trans hB13 hb14 hB13.size
 have lt_tx := o14.lt
 have F37_xx_9 := o8.below hb9
 clear o8
 have F38_xx_10 := F37_xx_9.below hb10
 clear F37_xx_9
 have F39_xx_11 := F38_xx_10.below hb11
 clear F38_xx_10
 have F40_xx_12 := F39_xx_11.below hb12
 clear F39_xx_11
 have F41_xx_13 := F40_xx_12.below hb13
 clear F40_xx_12
 have F42_xx_14 := F41_xx_13.below hb14
 clear F41_xx_13
 go_wp2_with (fail)
 refine (eqI_law F42_xx_14.rd o14.rd (by omega)).mono ?_
 rintro e w15 ⟨rfl, hb15⟩
 have hB15 := below_trans hB14 hb15 hB14.size
 rw [decide_eq_true (rfl : x = x)]
 have F43_xs_14 := F36_xs_13.below hb14
 clear F36_xs_13
 have F44_xs_15 := F43_xs_14.below hb15
 clear F43_xs_14
 have F45_bxs_14 := lH (box_below F34_bxs_13.out hb14)
 clear F34_bxs_13
 have F46_bxs_15 := lH (box_below F45_bxs_14.out hb15)
 clear F45_bxs_14
 obtain ⟨⟨c47_0, c47_1, c47_2⟩, f47_0, f47_1, f47_2⟩ := box3 F46_bxs_15.out
 go_wp2_with (fail)
 refine (markSystem_law (1) F44_xs_15 (by omega) oks (by have := oks.2.2; omega)).mono ?_
 rintro e w16 ⟨rfl, he16, hk16⟩
 have hB16 := below_keeps hB15 hk16 hB15.size (fun b hb => Nat.le_trans hB5.size (fr6 b hb))
 clear c47_0 c47_1 c47_2 f47_0 f47_1 f47_2
 have F48_xx_15 := F42_xx_14.below hb15
 clear F42_xx_14
 have F49_xx_16 := F48_xx_15.keeps hk16 (apart_of' lt_xs (fr8.mono (Nat.le_trans (Nat.le_refl _) hb7.size)))
 clear F48_xx_15
 go_wp2_with (fail)
 refine (markI_law (1 + cntR (s).2.2) F49_xx_16 (by omega) (by have := oks.2.2; omega)).mono ?_
 rintro e w17 ⟨rfl, he17, hk17⟩
 have hB17 := below_keeps hB16 hk17 hB16.size (fun b hb => Nat.le_trans hB7.size (fr8 b hb))
 have F50_G0_10 := o9r0.below hb10
 clear o9r0
 have F51_G0_11 := F50_G0_10.below hb11
 clear F50_G0_10
 have F52_G0_12 := F51_G0_11.below hb12
 clear F51_G0_11
 have F53_G0_13 := F52_G0_12.below hb13
 clear F52_G0_12
 have F54_G0_14 := F53_G0_13.below hb14
 clear F53_G0_13
 have F55_G0_15 := F54_G0_14.below hb15
 clear F54_G0_14
 have F56_G0_16 := F55_G0_15.keeps hk16 (apart_of' lt_xs (fr9_0.mono (Nat.le_trans (Nat.le_trans (Nat.le_refl _) hb7.size) hb8.size)))
 clear F55_G0_15
 have F57_G0_17 := F56_G0_16.keeps hk17 (apart_of' lt_xx (fr9_0))
 clear F56_G0_16
 have F58_W0_10 := F17_W0_9.below hb10
 clear F17_W0_9
 have F59_W0_11 := F58_W0_10.below hb11
 clear F58_W0_10
 have F60_W0_12 := F59_W0_11.below hb12
 clear F59_W0_11
 have F61_W0_13 := F60_W0_12.below hb13
 clear F60_W0_12
 have F62_W0_14 := F61_W0_13.below hb14
 clear F61_W0_13
 have F63_W0_15 := F62_W0_14.below hb15
 clear F62_W0_14
 have F64_W0_16 := F63_W0_15.keeps hk16 (apart_of lt_W0 (fr6))
 clear F63_W0_15
 have F65_W0_17 := F64_W0_16.keeps hk17 (apart_of lt_W0 (fr8.mono (Nat.le_trans (Nat.le_trans (Nat.le_refl _) hb6.size) hb7.size)))
 clear F64_W0_16
 go_wp2_with (fail)
 refine (eqI_law F57_G0_17.rd F65_W0_17.rd ((by have := hvM_le p s x; omega))).mono ?_
 rintro e w18 ⟨rfl, hb18⟩
 have hB18 := below_trans hB17 hb18 hB17.size
 rw [decide_eq_true (rfl : (hvM p s x).1 = (hvM p s x).1)]
 have F66_G0_18 := F57_G0_17.below hb18
 clear F57_G0_17
 go_wp2_with (fail)
 refine (markI_law (1) F66_G0_18 (by omega) (by have := (by have := hvM_le p s x; omega); omega)).mono ?_
 rintro e w19 ⟨rfl, he19, hk19⟩
 have hB19 := below_keeps hB18 hk19 hB18.size (fun b hb => Nat.le_trans hB8.size (fr9_0 b hb))
 go_wp2_with (fail)
 refine (heldI_law he19 (by omega) (by have := (by have := hvM_le p s x; omega); omega)).mono ?_
 rintro e w20 ⟨rfl, hb20⟩
 have hB20 := below_trans hB19 hb20 hB19.size
 have F67_ps_14 := lH (box_below F35_ps_13.out hb14)
 clear F35_ps_13
 have F68_ps_15 := lH (box_below F67_ps_14.out hb15)
 clear F67_ps_14
 have F69_ps_16 := lH (box_keeps F68_ps_15.out hk16 (fun hh => (apart_of lt_ps (fr6.mono (Nat.le_trans (Nat.le_trans (Nat.le_trans (Nat.le_trans (Nat.le_refl _) hb2.size) hb3.size) hb4.size) hb5.size))) _ (List.mem_singleton.2 rfl) hh))
 clear F68_ps_15
 have F70_ps_17 := lH (box_keeps F69_ps_16.out hk17 (fun hh => (apart_of lt_ps (fr8.mono (Nat.le_trans (Nat.le_trans (Nat.le_trans (Nat.le_trans (Nat.le_trans (Nat.le_trans (Nat.le_refl _) hb2.size) hb3.size) hb4.size) hb5.size) hb6.size) hb7.size))) _ (List.mem_singleton.2 rfl) hh))
 clear F69_ps_16
 have F71_ps_18 := lH (box_below F70_ps_17.out hb18)
 clear F70_ps_17
 have F72_ps_19 := lH (box_keeps F71_ps_18.out hk19 (fun hh => (apart_of lt_ps (fr9_0.mono (Nat.le_trans (Nat.le_trans (Nat.le_trans (Nat.le_trans (Nat.le_trans (Nat.le_trans (Nat.le_trans (Nat.le_refl _) hb2.size) hb3.size) hb4.size) hb5.size) hb6.size) hb7.size) hb8.size))) _ (List.mem_singleton.2 rfl) hh))
 clear F71_ps_18
 have F73_ps_20 := lH (box_below F72_ps_19.out hb20)
 clear F72_ps_19
 obtain ⟨⟨c74_0, c74_1, c74_2⟩, f74_0, f74_1, f74_2⟩ := box3 F73_ps_20.out
 go_wp2_with (fail)
 refine (toSystem_law (hs.below hB20) oks).mono ?_
 rintro e w21 ⟨v21, fp21, rfl, o21, fr21, hb21⟩
 have hB21 := below_trans hB20 hb21 hB20.size
 clear c74_0 c74_1 c74_2 f74_0 f74_1 f74_2
 obtain ⟨A21, n21, c21, rfl⟩ := o21.shape
 have lt_ys := o21.lt
 go_wp2_with (fail)
 refine (toI_law (hx.below hB21) (by omega)).mono ?_
 rintro e w22 ⟨v22, fp22, rfl, o22, fr22, hb22⟩
 have hB22 := below_trans hB21 hb22 hB21.size
 have lt_yx := o22.lt
 have F75_ys_22 := o21.below hb22
 clear o21
 go_wp2_with (fail)
 refine (iHiddenValues_law p F75_ys_22 o22.rd oks (by omega) (hT.below hB22 hT.lt)).mono ?_
 rintro e w23 ⟨v23_0, fp23_0, rfl, o23r0, fr23_0, hb23⟩
 have hB23 := below_trans hB22 hb23 hB22.size
 have lt_H0 := o23r0.lt
 have F76_W0_18 := F65_W0_17.below hb18
 clear F65_W0_17
 have F77_W0_19 := F76_W0_18.keeps hk19 (apart_of lt_W0 (fr9_0.mono (Nat.le_trans (Nat.le_trans (Nat.le_trans (Nat.le_refl _) hb6.size) hb7.size) hb8.size)))
 clear F76_W0_18
 have F78_W0_20 := F77_W0_19.below hb20
 clear F77_W0_19
 have F79_W0_21 := F78_W0_20.below hb21
 clear F78_W0_20
 have F80_W0_22 := F79_W0_21.below hb22
 clear F79_W0_21
 have F81_W0_23 := F80_W0_22.below hb23
 clear F80_W0_22
 go_wp2_with (fail)
 refine (eqI_law o23r0.rd F81_W0_23.rd ((by have := hvM_le p s x; omega))).mono ?_
 rintro e w24 ⟨rfl, hb24⟩
 have hB24 := below_trans hB23 hb24 hB23.size
 rw [decide_eq_true (rfl : (hvM p s x).1 = (hvM p s x).1)]
 have F82_G0_20 := he19.below hb20
 clear he19
 have F83_G0_21 := F82_G0_20.below hb21
 clear F82_G0_20
 have F84_G0_22 := F83_G0_21.below hb22
 clear F83_G0_21
 have F85_G0_23 := F84_G0_22.below hb23
 clear F84_G0_22
 have F86_G0_24 := F85_G0_23.below hb24
 clear F85_G0_23
 go_wp2_with (fail)
 refine (heldI_law F86_G0_24 (by omega) (by have := (by have := hvM_le p s x; omega); omega)).mono ?_
 rintro e w25 ⟨rfl, hb25⟩
 have hB25 := below_trans hB24 hb25 hB24.size
 go_wp2_with (fail)
 go_ret
 exact ⟨rfl, hB25⟩
set_option maxRecDepth 100000 in
theorem contractHiddenValues (H : Type) (enc : TypeId × Value → H) (W : World) (args : Array Value) (ds gs : List (DataW H)) (before : List MemPlace)
  (hval : ∀ (j : Nat) t v, Tryd.f3.params[j]? = some t → args[j]? = some v → Value.okWide Tryd.prog W .any 0 t v)
  (hW : DataW.Whole enc Tryd.prog Tryd.f3.params.toList Rows.fnExactHiddenValuesSpec.vars false W args.toList ds gs before) (hL : laidMetH Tryd.prog Rows.fnExactHiddenValuesRow.laid W) :
  Calls Tryd.prog 3 args W fun e W' => ∃ v, e = .returned v ∧ Rows.fnExactHiddenValuesSpec.post enc Tryd.prog Tryd.f3 false true false false W args v W' := by
 have hW' := hW
 obtain ⟨p, q, hA0, hV, rfl, hfz, hnd⟩ := hW
 have hA : DataW.TrodAll enc Tryd.prog W 0 (fun _ => true) true Tryd.f3.params.toList args.toList ds p := hA0
 have hr : ∀ t ∈ Tryd.f3.params.toList, Tryd.prog.readableRec t = true ∧ t < Tryd.prog.types.size := by
  rw [Tryd.params3]
  intro t ht
  have ht' : t ∈ ([3, 24, 25] : List TypeId) := ht
  rcases List.mem_cons.1 ht' with rfl | ht'
  · exact ⟨by kernel_rfl, of_decide_eq_true (by kernel_rfl)⟩
  rcases List.mem_cons.1 ht' with rfl | ht'
  · exact ⟨by kernel_rfl, of_decide_eq_true (by kernel_rfl)⟩
  rcases List.mem_cons.1 ht' with rfl | ht'
  · exact ⟨by kernel_rfl, of_decide_eq_true (by kernel_rfl)⟩
  cases ht'
 rw [Tryd.params3] at hA hval
 obtain ⟨v0, vs0, d0, ds0, p0, q0, hargs, rfl, rfl, t0, r0⟩ := trodAll_cons hA
 obtain ⟨v1, vs1, d1, ds1, p1, q1, rfl, rfl, rfl, t1, r1⟩ := trodAll_cons r0
 obtain ⟨v2, vs2, d2, ds2, p2, q2, rfl, rfl, rfl, t2, r2⟩ := trodAll_cons r1
 obtain ⟨rfl, rfl, rfl⟩ := trodAll_nil r2
 obtain rfl : args = #[v0, v1, v2] := by cases args; simp_all
 obtain ⟨g, _, _, _, dg, pg, rfl, _⟩ := trodVars_one hV
 obtain ⟨x0, rfl, lo0, hi0⟩ := in_int (hval 0 _ v0 rfl rfl) t0
 obtain ⟨m1, hl1, hg1⟩ := in_System (hval 1 _ v1 rfl rfl) t1
 obtain ⟨A2, c2, l2, rfl, hl2⟩ := in_ints (hval 2 _ v2 rfl rfl) t2
 refine (lawHiddenValues_any x0 v1 m1 A2 c2 l2 W hl1 hg1 hl2 lo0 hi0 (tab_of_laid hL)).mono fun e W' ⟨he, hb⟩ => ?_
 subst he
 exact ⟨_, rfl, post_true laidOut hW' hb hr vars_ok rfl rfl Tryd.underlying4⟩
set_option maxRecDepth 100000 in
theorem liftedHiddenValues (os : Os) (started : os.Started) (H : Type) (enc : TypeId × Value → H) (F : Stop.Interp) :
  ReturnsInHanded {} Tryd.checked os 3 .any ((OpenSpec.ofChange Rows.fnExactHiddenValuesSpec).preRow enc Tryd.prog Tryd.f3 Rows.fnExactHiddenValuesRow.domain false Rows.fnExactHiddenValuesRow.laid) (((OpenSpec.ofChange Rows.fnExactHiddenValuesSpec).at F).post enc Tryd.prog Tryd.f3 false true false false) := by
 obtain ⟨ds, gs, places, hx⟩ : ∃ ds gs places, DataW.whole enc Tryd.prog ((laidWorld os).forCall (fun _ _ => 0) ⟨#[], #[.int .i64 0, .agg #[.int .i64 0, .int .i64 0, .slice none 0 0], .slice none 0 0], []⟩).memory Tryd.f3.params.toList Rows.fnExactHiddenValuesSpec.vars false (#[.int .i64 0, .agg #[.int .i64 0, .int .i64 0, .slice none 0 0], .slice none 0 0] : Array Value).toList 8 = some (ds, gs, places) :=
  ⟨[.lit (.int .i64 0), .agg [.lit (.int .i64 0), .lit (.int .i64 0), .nil], .nil], [Rows.laid_loop_example_g01073_impl_smallPrimes], MemPlace.row ⟨0, 0, none⟩ 4, by kernel_rfl⟩
 refine returnsInHanded_of_row (C := Tryd.checked) (s := OpenSpec.ofChange Rows.fnExactHiddenValuesSpec) own started (by kernel_rfl) Tryd.func3
  (witness_row_at (enc := enc) (C := Tryd.checked) false (laidWorld os) #[.int .i64 0, .agg #[.int .i64 0, .int .i64 0, .slice none 0 0], .slice none 0 0] rfl (by kernel_rfl) (by kernel_rfl) (by kernel_rfl)
   (OpenSpec.preRow_of_cond 8 hx (by kernel_rfl) (fun k hk => by cases hk) (by kernel_rfl) (laid_met os _))) ?_
 intro W base args ds gs before hval hW _ _ _ hL _ _
 exact contractHiddenValues H enc W args ds gs before hval hW hL
theorem saidHiddenValues : Rows.FnExactHiddenValuesSaid :=
 OpenClaim.holds_of_cond 3 Tryd.f3 rfl rfl rfl rfl rfl rfl rfl ⟨rfl, rfl, rfl, rfl, rfl⟩ rfl rfl rfl rfl rfl (by kernel_rfl) Tryd.func3 (by kernel_rfl)
  (of_decide_eq_true (by kernel_rfl)) (by unfold Func.isWrapper; first | (rw [if_pos (by decide +kernel)]; kernel_rfl) | (rw [if_neg (by decide +kernel)]; exact ⟨rfl, rfl⟩))
  (fun os started H enc _ F => by rw [OpenClaim.pre_eq_preRow]; exact liftedHiddenValues os started H enc F)
theorem plainHiddenValues (f : FuncId) (fn : Func) (hf : Tryd.pinned.checked.prog.funcNamed "loop.example/g01073/laws.FnExactHiddenValues" = some f) (hfn : Tryd.pinned.checked.prog.funcs[f]? = some fn) :
  false = Tryd.pinned.checked.prog.looks [] ∧ ∀ (j : Nat) t, fn.params[j]? = some t → Tryd.pinned.checked.prog.wantsStandIn t = false := by
 obtain rfl : f = 3 := Option.some.inj ((show Tryd.prog.funcNamed "loop.example/g01073/laws.FnExactHiddenValues" = some 3 by kernel_rfl).symm.trans hf) |>.symm
 obtain rfl : fn = Tryd.f3 := (Option.some.inj (Tryd.func3.symm.trans hfn)).symm
 refine ⟨by kernel_rfl, fun j t ht => ?_⟩
 rw [Tryd.params3] at ht
 have ht' : t ∈ ([3, 24, 25] : List TypeId) := by have := Array.mem_of_getElem? ht; simpa using this
 rcases List.mem_cons.1 ht' with rfl | ht'
 · exact (show Tryd.prog.wantsStandIn 3 = false by kernel_rfl)
 rcases List.mem_cons.1 ht' with rfl | ht'
 · exact (show Tryd.prog.wantsStandIn 24 = false by kernel_rfl)
 rcases List.mem_cons.1 ht' with rfl | ht'
 · exact (show Tryd.prog.wantsStandIn 25 = false by kernel_rfl)
 cases ht'
theorem cardHiddenValues : Rows.FnExactHiddenValuesCardSaid :=
 Claim7.holds_tied_plain_at .later [] _ _ _ _ saidHiddenValues (fun _ h => by cases h) (by kernel_rfl) (fun _ h => by cases h) fnExactHiddenValues_row_tie rfl ⟨rfl, rfl⟩ (by kernel_rfl) rfl plainHiddenValues (by kernel_rfl)
#print axioms cardHiddenValues
end Go.Proofs.YtjompikdkhhlgaaDoor
