/-
  THE WALKS: CountKinds on both sides.
-/
import Derived.Test.YtlmnmdahphahfaaTmV
import Derived.Test.YtlmnmdahphahfaaTmLaw
namespace Go.Proofs.Ytlmnmdahphahfaa
open Go.RowKit

def addK (c : List Int) (n : Nd) : List Int := c.set (n.1 - 1).toNat (c.getD (n.1 - 1).toNat 0 + 1)
def ckM (l : List Nd) : List Int := l.foldl addK (List.replicate 16 0)
def ckR (l : List Nd) : List Int × Bool := if (treeM l).isSome then (ckM l, true) else ([], false)
theorem ckM_snoc (l : List Nd) (n : Nd) (q : Nat) (hq : n.1 = (q : Int) + 1) : ckM (l ++ [n]) = (ckM l).set q ((ckM l).getD q 0 + 1) := by
  have e : (n.1 - 1).toNat = q := by omega
  simp [ckM, addK, e]
theorem ckM_length (l : List Nd) : (ckM l).length = 16 := by
  have : ∀ (l : List Nd) (c : List Int), (l.foldl addK c).length = c.length := by
    intro l
    induction l with
    | nil => intro c; rfl
    | cons n r ih => intro c; simp [ih, addK]
  unfold ckM; rw [this]; rfl
theorem ckM_bound (l : List Nd) (q : Nat) : 0 ≤ (ckM l).getD q 0 ∧ (ckM l).getD q 0 ≤ l.length := by
  have : ∀ (l : List Nd) (c : List Int) (B : Nat), (∀ q, 0 ≤ c.getD q 0 ∧ c.getD q 0 ≤ B) → ∀ q, 0 ≤ (l.foldl addK c).getD q 0 ∧ (l.foldl addK c).getD q 0 ≤ ((B + l.length : Nat) : Int) := by
    intro l
    induction l with
    | nil => intro c B h q; exact h q
    | cons n r ih =>
      intro c B h q
      have h2 := ih (addK c n) (B + 1) (fun q => by
        have hq := h q
        have hn := h (n.1 - 1).toNat
        unfold addK
        by_cases e : (n.1 - 1).toNat = q
        · subst e
          by_cases hl : (n.1 - 1).toNat < c.length
          · simp only [List.getD, List.getElem?_set_self hl, Option.getD_some]
            simp only [List.getD] at hn
            omega
          · rw [List.set_eq_of_length_le (by omega)]; omega
        · simp only [List.getD, List.getElem?_set_ne e]
          simp only [List.getD] at hq
          omega) q
      simp only [List.foldl_cons, List.length_cons]
      have e : B + 1 + r.length = B + (r.length + 1) := by omega
      rw [e] at h2
      exact h2
  have hz : ∀ n q, 0 ≤ (List.replicate n (0 : Int)).getD q 0 ∧ (List.replicate n (0 : Int)).getD q 0 ≤ ((0 : Nat) : Int) := fun n q => by
    simp only [List.getD, List.getElem?_replicate]
    split <;> simp
  have := this l (List.replicate 16 0) 0 (hz 16) q
  rw [Nat.zero_add] at this
  exact this
theorem kinds_flat : ∀ {t : Tr}, wt t → ∀ n, n ∈ flat t → 1 ≤ n.1 ∧ n.1 ≤ 16
  | .leaf m, h, n, hn => by
    obtain rfl : n = m := by simpa [flat] using hn
    have hb : leafB n = true := h
    simp only [leafB, decide_eq_true_eq] at hb
    omega
  | .node p a b, h, n, hn => by
    simp only [flat, List.mem_append, List.mem_singleton] at hn
    rcases hn with hn | hn | hn
    · exact kinds_flat h.1 n hn
    · exact kinds_flat h.2.1 n hn
    · subst hn; cases p <;> simp [joinNd, kd]
theorem kinds_of {l : List Nd} {t : Tr} (h : treeM l = some t) : ∀ n, n ∈ l → 1 ≤ n.1 ∧ n.1 ≤ 16 := by
  obtain ⟨rfl, hw, _⟩ := treeM_some h
  exact kinds_flat hw
theorem ckR_le (l : List Nd) : (ckR l).1.length ≤ 16 := by
  unfold ckR
  split
  · exact Nat.le_of_eq (ckM_length l)
  · simp
/-- A new slice of ints and a flag. -/
def Ret2I (w : World) (r : List Int × Bool) (e : Ending) (w' : World) : Prop := ∃ v' fp, e = .returned (.tuple #[v', .bool r.2]) ∧ OwI w' v' r.1 fp ∧ FreshL w.heap.size fp ∧ Below w.heap.size w w'
theorem IS.of_made {w : World} {G : Addr} {n : Nat} (h : Sl w tInt 1 (some G) n n ((madeCells (Value.int .i64 0).cells (n * 1)).toList.take (n * 1))) : IS w (some G) n (List.replicate n 0) := by
  unfold IS; rw [← madeZeros]; simpa using h
theorem zeros_any (n : Nat) (w : World) (hn : n ≤ 1048576) :
    Calls Try.prog 52 #[.int .i64 n] w fun e w' => ∃ G, e = .returned (.slice (some G) n n) ∧ IS w' (some G) n (List.replicate n 0) ∧ w.heap.size ≤ G.block ∧ Below w.heap.size w w' := by
  go_enter Try.func52, Try.ntmps52
  go_wp2_with (at_make; refine wpList_make_Sl _ rfl _ _ _ rfl tInt Try.underlying34 info_int n n rfl rfl rfl rfl (Nat.le_refl _) (by omega) (by unfold maxLen; omega) ?_; intro G w1 hs hG hb1)
  have his0 : IS w1 (some G) n (List.replicate n 0) := by unfold IS; rw [← madeZeros]; simpa using hs
  clear hs
  have his0_h := Lib.hid his0
  clear his0
  go_ret
  exact ⟨G, rfl, his0_h.out, hG, hb1⟩

set_option maxRecDepth 8000 in
set_option maxHeartbeats 2000000 in
theorem sCountKinds_any {v : Value} {l : List Nd} {w : World} (h : RdTm w v l) (ok : OkN l) :
    Calls Try.prog 20 #[v] w (Ret2I w (ckR l)) := by
  have hlen := ok.1
  obtain ⟨A, c, rfl, h⟩ := h
  have hb0 := below_alloc w (.cells #[.slice A l.length c] tTerm)
  have k0 := heap_alloc_new w (.cells #[.slice A l.length c] tTerm)
  have hC := tmValid_any (v := .agg #[.slice A l.length c]) (l := l) (w := w.alloc (.cells #[.slice A l.length c] tTerm)) ⟨A, c, rfl, h.below hb0⟩
  obtain ⟨m, hm⟩ : ∃ m, m = l.length := ⟨_, rfl⟩
  rw [← hm] at hC hb0 k0 hlen ⊢
  obtain ⟨T, hT⟩ : ∃ T, T = ckR l := ⟨_, rfl⟩
  rw [← hT]
  have hC_h := Lib.hid hC
  have hm_h := Lib.hid hm
  have hb0_h := Lib.hid hb0
  have k0_h := Lib.hid k0
  have hT_h := Lib.hid hT
  clear hC hm hb0 k0 hT
  clear ok
  go_enter Try.func20, Try.ntmps20
  go_wp2_with (fail)
  refine (hC_h.out).mono ?_
  rintro e w1 ⟨b, rfl, hb, hb1⟩
  have hB1 := below_trans hb0_h.out hb1 hb0_h.out.size
  have k1 := box_below k0_h.out hb1
  cases b
  · have hN : treeM l = none := by cases h : treeM l with | none => rfl | some t => rw [h] at hb; cases hb
    obtain rfl : T = ([], false) := by rw [hT_h.out]; simp [ckR, hN]
    have hb_h := Lib.hid hb
    have hN_h := Lib.hid hN
    have hB1_h := Lib.hid hB1
    have k1_h := Lib.hid k1
    clear hb hN hB1 k1
    go_wp2_with (fail)
    go_ret2
    exact ⟨_, [], rfl, ⟨none, 0, rfl, Sl.nil _ _ _, rfl⟩, fun b hb => (by cases hb), hB1_h.out⟩
  · obtain ⟨t, hN⟩ : ∃ t, treeM l = some t := by cases h : treeM l with | none => rw [h] at hb; cases hb | some t => exact ⟨t, rfl⟩
    obtain rfl : T = (ckM l, true) := by rw [hT_h.out]; simp [ckR, hN]
    have hkinds := kinds_of hN
    obtain ⟨c0, f0⟩ := bx1 k1
    have hk1lt := box_lt k1
    have hb_h := Lib.hid hb
    have hN_h := Lib.hid hN
    have hB1_h := Lib.hid hB1
    have k1_h := Lib.hid k1
    have hkinds_h := Lib.hid hkinds
    clear hb hN hB1 k1 hkinds
    · skip
      go_upto_region 4 with (at_make; refine wpList_make_Sl _ rfl _ _ _ rfl tInt Try.underlying34 info_int 16 16 rfl rfl rfl rfl (Nat.le_refl _) (by omega) (by unfold maxLen; omega) ?_; intro G w2 hs hG hb2)
      have hs0 := IS.of_made hs
      have kk := box_below k1_h.out hb2
      obtain ⟨z0, z1⟩ := bx1 kk
      have hs0_h := Lib.hid hs0
      have kk_h := Lib.hid kk
      clear hs0 kk
      clear hs
      go_wp2_with (fail)
      have hB2 := below_trans hB1_h.out hb2 hB1_h.out.size
      have hB2_h := Lib.hid hB2
      clear hB2
      go_loopw [14] (fun i wr => ∃ k : Nat, k ≤ m ∧ i = .int .i64 k ∧ IS wr (some G) 16 (ckM (l.take k)) ∧ Below w.heap.size w wr) (fun i _ => m - (intOf i).toNat)
      case atStart => exact ⟨0, Nat.zero_le _, rfl, by simpa [ckM] using hs0_h.out, hB2_h.out⟩
      case round =>
        obtain ⟨k, hk, rfl, his, hbl⟩ := hrel
        by_cases hlt : k < m
        · obtain ⟨ad, κ, v, s, rfl, hn, d0, d1, d2⟩ := (h.below hbl).at_ (j := k) (by rw [← hm_h.out]; exact hlt)
          have hkI : (k : Int) < (m : Int) := by omega
          have hκ := hkinds_h.out _ (List.mem_of_getElem? hn)
          simp only at hκ
          obtain ⟨q, rfl⟩ : ∃ q : Nat, κ = (q : Int) + 1 := ⟨(κ - 1).toNat, by omega⟩
          have hq : q < 16 := by omega
          have hqI : (q : Int) < 16 := by omega
          have hq0 : (0 : Int) ≤ (q : Int) := by omega
          have hl16 : (ckM (l.take k)).length = 16 := ckM_length _
          have hw1 : IntKind.i64.wrap (q : Int) = (q : Int) := IntWalk.i64_in _ (by omega)
          have hck : ckM (l.take (k + 1)) = (ckM (l.take k)).set q ((ckM (l.take k)).getD q 0 + 1) := by
            rw [List.take_add_one, hn]; exact ckM_snoc _ _ q rfl
          have his1 := his.below (below_alloc wr (.cells #[.int .i64 ((q : Int) + 1), .int .i64 v, .string s] tNd))
          obtain ⟨G', y, hG', hy, hgl, hc, hf⟩ := his1.at_ (j := q) (by omega)
          obtain rfl := Option.some.inj hG'
          have hyb := ckM_bound (l.take k) q
          have hyv : (ckM (l.take k)).getD q 0 = y := by simp [List.getD, hy]
          rw [hyv] at hck hyb
          have hyl : y ≤ 1048576 := by have : (l.take k).length ≤ k := List.length_take_le _ _; omega
          have hset := his1.set (ad := G) rfl (j := q) (y + 1) (by omega)
          rw [← hck] at hset
          have hfq := hf q
          have hGG := his.lt G.block (by simp)
          have hb3 := (below_trans hbl (below_alloc wr (.cells #[.int .i64 ((q : Int) + 1), .int .i64 v, .string s] tNd)) hbl.size).setCell (p := G.add q) (by rw [block_of_add]; exact Nat.le_trans hB1_h.out.size hG) (.int .i64 (y + 1))
          have hset_h := Lib.hid hset
          have hb3_h := Lib.hid hb3
          have hn_h := Lib.hid hn
          have his_h := Lib.hid his
          have his1_h := Lib.hid his1
          have hck_h := Lib.hid hck
          have hyv_h := Lib.hid hyv
          have hy_h := Lib.hid hy
          clear hn his his1 hck hyv hy
          clear h hf hset hb3
          go_wp2_with (fail)
          go_roundw
          case rel => exact ⟨k + 1, by omega, by go_num, hset_h.out, hb3_h.out⟩
          case measure => simp [intOf]; omega
        · obtain rfl : k = m := by omega
          have hfin : IS wr (some G) 16 (ckM l) := by rw [List.take_of_length_le (by rw [← hm_h.out]; omega)] at his; exact his
          have his_h := Lib.hid his
          have hfin_h := Lib.hid hfin
          clear his hfin
          clear h
          go_wp2_with (fail)
          go_ret2
          exact ⟨.slice (some G) 16 16, fpA (some G), rfl, ⟨some G, 16, by rw [ckM_length], hfin_h.out, rfl⟩, fun b hb => (by simp at hb; subst hb; exact Nat.le_trans hB1_h.out.size hG), hbl⟩

set_option maxRecDepth 8000 in
set_option maxHeartbeats 2000000 in
theorem iCountKinds_any {v : Value} {l : List Nd} {w : World} (h : RdTm w v l) (ok : OkN l) :
    Calls Try.prog 21 #[v] w (Ret2I w (ckR l)) := by
  have hlen := ok.1
  obtain ⟨A, c, rfl, h⟩ := h
  have hb0 := below_alloc w (.cells #[.slice A l.length c] tTerm)
  have k0 := heap_alloc_new w (.cells #[.slice A l.length c] tTerm)
  have hC := isValid_any (v := .agg #[.slice A l.length c]) (l := l) (w := w.alloc (.cells #[.slice A l.length c] tTerm)) ⟨A, c, rfl, h.below hb0⟩
  obtain ⟨m, hm⟩ : ∃ m, m = l.length := ⟨_, rfl⟩
  rw [← hm] at hC hb0 k0 hlen ⊢
  obtain ⟨T, hT⟩ : ∃ T, T = ckR l := ⟨_, rfl⟩
  rw [← hT]
  have hC_h := Lib.hid hC
  have hm_h := Lib.hid hm
  have hb0_h := Lib.hid hb0
  have k0_h := Lib.hid k0
  have hT_h := Lib.hid hT
  clear hC hm hb0 k0 hT
  clear ok
  go_enter Try.func21, Try.ntmps21
  go_wp2_with (fail)
  refine (hC_h.out).mono ?_
  rintro e w1 ⟨b, rfl, hb, hb1⟩
  have hB1 := below_trans hb0_h.out hb1 hb0_h.out.size
  have k1 := box_below k0_h.out hb1
  cases b
  · have hN : treeM l = none := by cases h : treeM l with | none => rfl | some t => rw [h] at hb; cases hb
    obtain rfl : T = ([], false) := by rw [hT_h.out]; simp [ckR, hN]
    have hb_h := Lib.hid hb
    have hN_h := Lib.hid hN
    have hB1_h := Lib.hid hB1
    have k1_h := Lib.hid k1
    clear hb hN hB1 k1
    go_wp2_with (fail)
    go_ret2
    exact ⟨_, [], rfl, ⟨none, 0, rfl, Sl.nil _ _ _, rfl⟩, fun b hb => (by cases hb), hB1_h.out⟩
  · obtain ⟨t, hN⟩ : ∃ t, treeM l = some t := by cases h : treeM l with | none => rw [h] at hb; cases hb | some t => exact ⟨t, rfl⟩
    obtain rfl : T = (ckM l, true) := by rw [hT_h.out]; simp [ckR, hN]
    have hkinds := kinds_of hN
    obtain ⟨c0, f0⟩ := bx1 k1
    have hk1lt := box_lt k1
    have hb_h := Lib.hid hb
    have hN_h := Lib.hid hN
    have hB1_h := Lib.hid hB1
    have k1_h := Lib.hid k1
    have hkinds_h := Lib.hid hkinds
    clear hb hN hB1 k1 hkinds
    · skip
      go_wp2_with (fail)
      refine (zeros_any 16 _ (by omega)).mono ?_
      rintro e w2 ⟨G, rfl, hs0, hG, hb2⟩
      have kk := box_below k1_h.out hb2
      obtain ⟨z0, z1⟩ := bx1 kk
      have hs0_h := Lib.hid hs0
      have kk_h := Lib.hid kk
      clear hs0 kk
      go_wp2_with (fail)
      have hB2 := below_trans hB1_h.out hb2 hB1_h.out.size
      have hB2_h := Lib.hid hB2
      clear hB2
      go_loopw [14] (fun i wr => ∃ k : Nat, k ≤ m ∧ i = .int .i64 k ∧ IS wr (some G) 16 (ckM (l.take k)) ∧ Below w.heap.size w wr) (fun i _ => m - (intOf i).toNat)
      case atStart => exact ⟨0, Nat.zero_le _, rfl, by simpa [ckM] using hs0_h.out, hB2_h.out⟩
      case round =>
        obtain ⟨k, hk, rfl, his, hbl⟩ := hrel
        by_cases hlt : k < m
        · obtain ⟨ad, κ, v, s, rfl, hn, d0, d1, d2⟩ := (h.below hbl).at_ (j := k) (by rw [← hm_h.out]; exact hlt)
          have hkI : (k : Int) < (m : Int) := by omega
          have hκ := hkinds_h.out _ (List.mem_of_getElem? hn)
          simp only at hκ
          obtain ⟨q, rfl⟩ : ∃ q : Nat, κ = (q : Int) + 1 := ⟨(κ - 1).toNat, by omega⟩
          have hq : q < 16 := by omega
          have hqI : (q : Int) < 16 := by omega
          have hq0 : (0 : Int) ≤ (q : Int) := by omega
          have hl16 : (ckM (l.take k)).length = 16 := ckM_length _
          have hw1 : IntKind.i64.wrap (q : Int) = (q : Int) := IntWalk.i64_in _ (by omega)
          have hck : ckM (l.take (k + 1)) = (ckM (l.take k)).set q ((ckM (l.take k)).getD q 0 + 1) := by
            rw [List.take_add_one, hn]; exact ckM_snoc _ _ q rfl
          have his1 := his.below (below_alloc wr (.cells #[.int .i64 ((q : Int) + 1), .int .i64 v, .string s] tNd))
          obtain ⟨G', y, hG', hy, hgl, hc, hf⟩ := his1.at_ (j := q) (by omega)
          obtain rfl := Option.some.inj hG'
          have hyb := ckM_bound (l.take k) q
          have hyv : (ckM (l.take k)).getD q 0 = y := by simp [List.getD, hy]
          rw [hyv] at hck hyb
          have hyl : y ≤ 1048576 := by have : (l.take k).length ≤ k := List.length_take_le _ _; omega
          have hset := his1.set (ad := G) rfl (j := q) (y + 1) (by omega)
          rw [← hck] at hset
          have hfq := hf q
          have hGG := his.lt G.block (by simp)
          have hb3 := (below_trans hbl (below_alloc wr (.cells #[.int .i64 ((q : Int) + 1), .int .i64 v, .string s] tNd)) hbl.size).setCell (p := G.add q) (by rw [block_of_add]; exact Nat.le_trans hB1_h.out.size hG) (.int .i64 (y + 1))
          have hset_h := Lib.hid hset
          have hb3_h := Lib.hid hb3
          have hn_h := Lib.hid hn
          have his_h := Lib.hid his
          have his1_h := Lib.hid his1
          have hck_h := Lib.hid hck
          have hyv_h := Lib.hid hyv
          have hy_h := Lib.hid hy
          clear hn his his1 hck hyv hy
          clear h hf hset hb3
          go_wp2_with (fail)
          go_roundw
          case rel => exact ⟨k + 1, by omega, by go_num, hset_h.out, hb3_h.out⟩
          case measure => simp [intOf]; omega
        · obtain rfl : k = m := by omega
          have hfin : IS wr (some G) 16 (ckM l) := by rw [List.take_of_length_le (by rw [← hm_h.out]; omega)] at his; exact his
          have his_h := Lib.hid his
          have hfin_h := Lib.hid hfin
          clear his hfin
          clear h
          go_wp2_with (fail)
          go_ret2
          exact ⟨.slice (some G) 16 16, fpA (some G), rfl, ⟨some G, 16, by rw [ckM_length], hfin_h.out, rfl⟩, fun b hb => (by simp at hb; subst hb; exact Nat.le_trans hB1_h.out.size hG), hbl⟩

theorem sCountKinds_law {v : Value} {l : List Nd} {w : World} (h : RdTm w v l) (ok : OkN l) :
    Calls Try.prog 20 #[v] w fun e w' => ∃ v' fp, e = .returned (.tuple #[v', .bool (ckR l).2]) ∧ OwI w' v' (ckR l).1 fp ∧ FreshL w.heap.size fp ∧ Below w.heap.size w w' := sCountKinds_any h ok
theorem iCountKinds_law {v : Value} {l : List Nd} {w : World} (h : RdTm w v l) (ok : OkN l) :
    Calls Try.prog 21 #[v] w fun e w' => ∃ v' fp, e = .returned (.tuple #[v', .bool (ckR l).2]) ∧ OwI w' v' (ckR l).1 fp ∧ FreshL w.heap.size fp ∧ Below w.heap.size w w' := iCountKinds_any h ok
end Go.Proofs.Ytlmnmdahphahfaa
