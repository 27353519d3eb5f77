/-
  What the texts above it need, part 2.
-/
import Derived.Test.YtpkmjenoniedjaaGreatKSpiderGraph1
import Derived.IntWalk
import Derived.StillTail
import Derived.Deep.DeepCutAuto
namespace Go.Proofs.YtpkmjenoniedjaaGreat
open Go.RowKit
structure Cls (n : Nat) (C : List Int) : Prop where
 len : C.length = n
 le : ∀ w : Nat, w < n → 0 ≤ C.getD w 0 ∧ C.getD w 0 ≤ w
 fix : ∀ w : Nat, w < n → C.getD (C.getD w 0).toNat 0 = C.getD w 0
structure Par (n : Nat) (P C : List Int) : Prop where
 len : P.length = n
 le : ∀ w : Nat, w < n → 0 ≤ P.getD w 0 ∧ P.getD w 0 ≤ w
 same : ∀ w : Nat, w < n → C.getD (P.getD w 0).toNat 0 = C.getD w 0
 root : ∀ w : Nat, w < n → P.getD w 0 = w → C.getD w 0 = w
def relV (x y c : Int) : Int := if c = max x y then min x y else c
def relab (x y : Int) (C : List Int) : List Int := C.map (relV x y)
def idW (n : Nat) : List Int := (List.range n).map fun w : Nat => (w : Int)
@[simp] theorem idW_length (n : Nat) : (idW n).length = n := by simp [idW]
theorem idW_get {n w : Nat} (h : w < n) : (idW n)[w]? = some (w : Int) := by simp [idW, h]
theorem idW_getD {n w : Nat} (h : w < n) : (idW n).getD w 0 = (w : Int) := by rw [List.getD_eq_getElem?_getD, idW_get h]; rfl
theorem getD_map_lt {C : List Int} {f : Int → Int} {w : Nat} (h : w < C.length) : (C.map f).getD w 0 = f (C.getD w 0) := by
 rw [List.getD_eq_getElem?_getD, List.getD_eq_getElem?_getD, List.getElem?_map, List.getElem?_eq_getElem h]; rfl
theorem Cls.id (n : Nat) : Cls n (idW n) := ⟨by simp, fun w h => by rw [idW_getD h]; omega, fun w h => by rw [idW_getD h, show ((w : Int)).toNat = w by omega, idW_getD h]⟩
theorem Par.id (n : Nat) : Par n (idW n) (idW n) := ⟨by simp, fun w h => by rw [idW_getD h]; omega, fun w h => by rw [idW_getD h, show ((w : Int)).toNat = w by omega, idW_getD h], fun w h _ => idW_getD h⟩
section
variable {n : Nat} {C P : List Int} {a b : Nat}
theorem relab_getD (hC : Cls n C) (x y : Int) {w : Nat} (h : w < n) : (relab x y C).getD w 0 = relV x y (C.getD w 0) := getD_map_lt (by rw [hC.len]; exact h)
@[simp] theorem relab_length (x y : Int) (C : List Int) : (relab x y C).length = C.length := by simp [relab]
theorem relV_le (x y c : Int) : relV x y c ≤ c := by unfold relV; split <;> omega
theorem Cls.join (hC : Cls n C) (ha : a < n) (hb : b < n) : Cls n (relab (C.getD a 0) (C.getD b 0) C) := by
 have la := hC.le a ha
 have lb := hC.le b hb
 have fa := hC.fix a ha
 have fb := hC.fix b hb
 refine ⟨by rw [relab_length, hC.len], fun w hw => ?_, fun w hw => ?_⟩
 · rw [relab_getD hC _ _ hw]
   have := hC.le w hw
   have := relV_le (C.getD a 0) (C.getD b 0) (C.getD w 0)
   unfold relV at this ⊢
   split <;> omega
 · have lw := hC.le w hw
   rw [relab_getD hC _ _ hw]
   by_cases hm : C.getD w 0 = max (C.getD a 0) (C.getD b 0)
   · have e : relV (C.getD a 0) (C.getD b 0) (C.getD w 0) = min (C.getD a 0) (C.getD b 0) := by unfold relV; rw [if_pos hm]
     rw [e, relab_getD hC _ _ (by omega)]
     have e2 : C.getD (min (C.getD a 0) (C.getD b 0)).toNat 0 = min (C.getD a 0) (C.getD b 0) := by
      by_cases h : C.getD a 0 ≤ C.getD b 0
      · rw [show min (C.getD a 0) (C.getD b 0) = C.getD a 0 by omega]; exact fa
      · rw [show min (C.getD a 0) (C.getD b 0) = C.getD b 0 by omega]; exact fb
     rw [e2]
     unfold relV; split <;> omega
   · have e : relV (C.getD a 0) (C.getD b 0) (C.getD w 0) = C.getD w 0 := by unfold relV; rw [if_neg hm]
     rw [e, relab_getD hC _ _ (by omega), hC.fix w hw, e]
theorem Par.join (hP : Par n P C) (hC : Cls n C) (ha : a < n) (hb : b < n) : Par n (P.set (max (C.getD a 0) (C.getD b 0)).toNat (min (C.getD a 0) (C.getD b 0))) (relab (C.getD a 0) (C.getD b 0) C) := by
 have la := hC.le a ha
 have lb := hC.le b hb
 have fa := hC.fix a ha
 have fb := hC.fix b hb
 obtain ⟨M, hM⟩ : ∃ M, M = max (C.getD a 0) (C.getD b 0) := ⟨_, rfl⟩
 obtain ⟨m, hm⟩ : ∃ m, m = min (C.getD a 0) (C.getD b 0) := ⟨_, rfl⟩
 have e2 : C.getD m.toNat 0 = m := by
  by_cases h : C.getD a 0 ≤ C.getD b 0
  · rw [hm, show min (C.getD a 0) (C.getD b 0) = C.getD a 0 by omega]; exact fa
  · rw [hm, show min (C.getD a 0) (C.getD b 0) = C.getD b 0 by omega]; exact fb
 have eM : C.getD M.toNat 0 = M := by
  by_cases h : C.getD a 0 ≤ C.getD b 0
  · rw [hM, show max (C.getD a 0) (C.getD b 0) = C.getD b 0 by omega]; exact fb
  · rw [hM, show max (C.getD a 0) (C.getD b 0) = C.getD a 0 by omega]; exact fa
 have rM : relV (C.getD a 0) (C.getD b 0) M = m := by unfold relV; rw [if_pos hM, hm]
 have rO : ∀ c, c ≠ M → relV (C.getD a 0) (C.getD b 0) c = c := fun c h => by unfold relV; rw [if_neg (by rw [← hM]; exact h)]
 rw [← hM, ← hm]
 have hget : ∀ w : Nat, w < n → (P.set M.toNat m).getD w 0 = if w = M.toNat then m else P.getD w 0 := fun w hw => by
  rw [List.getD_eq_getElem?_getD, List.getElem?_set, List.getD_eq_getElem?_getD]
  by_cases h : M.toNat = w
  · rw [if_pos h, if_pos h.symm, if_pos (by rw [hP.len]; omega)]; rfl
  · rw [if_neg h, if_neg (fun e => h e.symm)]
 have rm : relV (C.getD a 0) (C.getD b 0) m = m := by
  by_cases h : m = M
  · rw [h, rM, h]
  · exact rO m h
 refine ⟨by rw [List.length_set, hP.len], fun w hw => ?_, fun w hw => ?_, fun w hw he => ?_⟩
 · rw [hget w hw]
   have := hP.le w hw
   split
   · rename_i h; subst h; omega
   · exact this
 · rw [hget w hw, relab_getD hC _ _ hw]
   split
   · rename_i h
     subst h
     rw [relab_getD hC _ _ (by omega), e2, eM, rM, rm]
   · have := hP.le w hw
     rw [relab_getD hC _ _ (by omega), hP.same w hw]
 · rw [hget w hw] at he
   rw [relab_getD hC _ _ hw]
   by_cases h : w = M.toNat
   · rw [if_pos h] at he
     have hwM : (w : Int) = M := by omega
     rw [h, eM, rM]; omega
   · rw [if_neg h] at he
     rw [hP.root w hw he]
     exact rO _ (by omega)
end
def nrM (C : List Int) : Nat → Nat
 | 0 => 0
 | w + 1 => nrM C w + (if C.getD w 0 = (w : Int) then 1 else 0)
theorem nrM_le (C : List Int) : ∀ w, nrM C w ≤ w
 | 0 => Nat.le_refl _
 | w + 1 => by have := nrM_le C w; unfold nrM; split <;> omega
def numM (C : List Int) : List Int := C.map fun c => (nrM C c.toNat : Int)
@[simp] theorem numM_length (C : List Int) : (numM C).length = C.length := by simp [numM]
theorem numM_get {n : Nat} {C : List Int} (hC : Cls n C) {w : Nat} (h : w < n) : (numM C)[w]? = some (nrM C (C.getD w 0).toNat : Int) := by
 unfold numM
 rw [List.getElem?_map, List.getD_eq_getElem?_getD, List.getElem?_eq_getElem (by rw [hC.len]; exact h)]; rfl
def num0 (C : List Int) : List Int := (List.range C.length).map fun w => if C.getD w 0 = (w : Int) then (nrM C w : Int) else 0
@[simp] theorem num0_length (C : List Int) : (num0 C).length = C.length := by simp [num0]
def joinsM (C : List Int) : List (Int × Int) → List Int
 | [] => C
 | q :: r => joinsM (relab (C.getD q.1.toNat 0) (C.getD q.2.toNat 0) C) r
theorem joinsM_append (l m : List (Int × Int)) : ∀ C, joinsM C (l ++ m) = joinsM (joinsM C l) m := by
 induction l with
 | nil => intro C; rfl
 | cons q r ih => intro C; exact ih _
theorem Cls.joins {n : Nat} : ∀ {l : List (Int × Int)} {C : List Int}, Cls n C → (∀ q, q ∈ l → (0 ≤ q.1 ∧ q.1 < n) ∧ 0 ≤ q.2 ∧ q.2 < n) → Cls n (joinsM C l)
 | [], _, h, _ => h
 | q :: r, C, h, hq => by
   have := hq q (by simp)
   show Cls n (joinsM (relab (C.getD q.1.toNat 0) (C.getD q.2.toNat 0) C) r)
   exact Cls.joins (l := r) (h.join (a := q.1.toNat) (b := q.2.toNat) (by omega) (by omega)) fun x hx => hq x (by simp [hx])
def pairsE (e : Eg) : List (Int × Int) := (e.2.2.1 ++ e.2.2.2).map fun w => ((e.2.2.1 ++ e.2.2.2).getD 0 0, w)
def pairsG (g : Gr) : List (Int × Int) := g.2.1.flatMap pairsE
def clsG (g : Gr) : List Int := joinsM (idW g.1.toNat) (pairsG g)
theorem IS.of_made {w : World} {G : Addr} {n : Nat} (h : Sl w tInt 1 (some G) n n ((madeCells (Value.int .i64 0).cells (n * 1)).toList.take (n * 1))) : IS w (some G) n (List.replicate n 0) := by
 unfold IS; rw [← madeZeros]; simpa using h
theorem t_zeros_any (n : Nat) (w : World) (hn : n ≤ 1048576) :
  Calls Tryz.prog 74 #[.int .i64 n] w fun e w' => ∃ G, e = .returned (.slice (some G) n n) ∧ IS w' (some G) n (List.replicate n 0) ∧ w.heap.size ≤ G.block ∧ Below w.heap.size w w' := by
 go_enter Tryz.func74, Tryz.ntmps74
 go_wp2_with (at_make; refine wpList_make_Sl _ rfl _ _ _ rfl tInt Tryz.underlying23 info_int n n rfl rfl rfl rfl (Nat.le_refl _) (by omega) (by unfold maxLen; omega) ?_; intro G w1 hs hG hb1)
 have his0 : IS w1 (some G) n (List.replicate n 0) := by unfold IS; rw [← madeZeros]; simpa using hs
 clear hs; have his0_h := lH his0; clear his0
 go_ret
 exact ⟨G, rfl, his0_h.out, hG, hb1⟩
set_option maxHeartbeats 400000 in
theorem upTo_any (n : Nat) (w : World) (hn : n ≤ 1048576) :
  Calls Tryz.prog 87 #[.int .i64 n] w fun e w' => ∃ G, e = .returned (.slice (some G) n n) ∧ IS w' (some G) n (idW n) ∧ w.heap.size ≤ G.block ∧ Below w.heap.size w w' := by
 have hC := t_zeros_any n w (by omega)
 have HC := lH hC; clear hC
 go_enter Tryz.func87, Tryz.ntmps87
 go_wp2_with (fail)
 refine HC.out.mono ?_
 rintro e w1 ⟨G, rfl, his0, hfG, hb1⟩
 have hf : Fresh w.heap.size (some G) := fun b hb => by simp at hb; omega
 go_wp2_with (fail)
 go_loopw [9] (fun i wr => ∃ k : Nat, k ≤ n ∧ i = .int .i64 k ∧ IS wr (some G) n ((idW n).take k ++ (List.replicate n (0 : Int)).drop k) ∧ Below w.heap.size w wr) (fun i _ => n - (intOf i).toNat)
 case atStart => exact ⟨0, Nat.zero_le _, rfl, by simpa using his0, hb1⟩
 case round =>
  clear his0 hb1
  obtain ⟨k, hk, rfl, his, hb⟩ := hrel
  have hlen : ((idW n).take k ++ (List.replicate n (0 : Int)).drop k).length = n := by simp; omega
  by_cases hlt : k < n
  · obtain ⟨ad, y, hA, hy, _, hc', hf'⟩ := his.at_ (j := k) (by rw [hlen]; exact hlt)
    obtain rfl := Option.some.inj hA
    have hfz := hf' k
    have his' := his.set (ad := G) rfl (j := k) ((k : Nat) : Int) (by rw [hlen]; exact hlt)
    rw [take_append_step (by simp) (idW_get hlt)] at his'
    have HI := lH his'
    have hb' := lH (hb.setCell (p := G.add k) (by rw [block_of_add]; exact hfG) (.int .i64 ((k : Nat) : Int)))
    have hkI : (k : Int) < (n : Int) := by omega
    clear his' hf' his hy hlen hb
    go_wp2_with (fail)
    go_roundw
    case rel => exact ⟨k + 1, by omega, by go_num, HI.out, hb'.out⟩
    case measure => simp [intOf]; omega
  · obtain rfl : n = k := by omega
    have his2 : IS wr (some G) n (idW n) := by
     have := his
     rwa [List.take_of_length_le (by simp), List.drop_of_length_le (by simp), List.append_nil] at this
    clear his hlen
    go_wp2_with (fail)
    go_ret
    exact ⟨G, rfl, his2, hfG, hb⟩
structure OI (w0 w : World) (A : Option Addr) (cap : Nat) (l : List Int) : Prop where
 is : IS w A cap l
 new : Fresh w0.heap.size A
 below_ : Below w0.heap.size w0 w
theorem OI.join {w0 w w2 : World} {A : Option Addr} {cap : Nat} {l v : List Int} (h : OI w0 w A cap l) {A' : Option Addr} {cap' n : Nat} (hn : n = l.length + v.length) (hs' : Sl w2 tInt 1 A' n cap' (ints l ++ ints v)) (hA' : ∀ b, b ∈ fpA A' → b ∈ fpA A ∨ w.heap.size ≤ b) (hk : Keeps (· ∈ fpA A) w w2) : OI w0 w2 A' cap' (l ++ v) := by
 subst hn
 refine ⟨?_, fun b hb' => ?_, below_keeps h.below_ hk h.below_.size h.new⟩
 · unfold IS
   have : ints (l ++ v) = ints l ++ ints v := by simp [ints]
   rw [this, List.length_append]; exact hs'
 · rcases hA' b hb' with h1 | h1
   · exact h.new b h1
   · have := h.below_.size; omega
theorem flat_take_le {L : List (List Int)} {k : Nat} {N : Nat} (h : L.flatten.length ≤ N) : (L.take k).flatten.length ≤ N := by
 have e : L.flatten.length = (L.take k).flatten.length + (L.drop k).flatten.length := by
  have := congrArg (fun x => x.flatten.length) (List.take_append_drop k L)
  simp only [List.flatten_append, List.length_append] at this; omega
 omega
set_option maxHeartbeats 1000000 in
theorem joined_any (A : Option Addr) (c : Nat) (hs : List Hd) (w : World) (h : RdR w A hs) (hl : hs.length ≤ 1048576) (hN : (hs.map fun h : Hd => h.2.2).flatten.length ≤ 1048576) :
  Calls Tryz.prog 52 #[.slice A hs.length c] w (RetI w (hs.map fun h : Hd => h.2.2).flatten) := by
 obtain ⟨L, hLh⟩ : ∃ L, L = hs.map fun h : Hd => h.2.2 := ⟨_, rfl⟩
 rw [← hLh] at hN ⊢
 obtain ⟨m, hmm⟩ : ∃ m, m = hs.length := ⟨_, rfl⟩
 rw [← hmm] at hl ⊢
 have HLh := lH hLh; have HM := lH hmm
 have hLen := lH (show L.length = m by rw [hLh, List.length_map, hmm])
 clear hLh hmm
 have hO0 : OI w (w.alloc (.cells #[] 3)) (some ⟨w.heap.size, 0, none⟩) 0 [] := by
  refine ⟨by unfold IS; simpa [ints] using Sl.laid w 3 1 0 #[] (Nat.zero_le _) rfl, fun b hb => ?_, (Below.refl _ _).alloc (Nat.le_refl _) _⟩
  have : b = w.heap.size := by simpa using hb
  subst this; exact Nat.le_refl _
 go_enter Tryz.func52, Tryz.ntmps52
 go_wp2_with (fail)
 go_loopw [9, 3] (fun i v wr => ∃ (k : Nat) (A' : Option Addr) (c' n : Nat), k ≤ m ∧ i = .int .i64 k ∧ v = .slice A' n c' ∧ n = ((L.take k).flatten).length ∧ OI w wr A' c' (L.take k).flatten) (fun i _ _ => m - (intOf i).toNat)
 case atStart => exact ⟨0, _, 0, 0, Nat.zero_le _, rfl, rfl, rfl, by simpa using hO0⟩
 case round =>
  clear hO0
  obtain ⟨k, A', c', n, hk, rfl, rfl, hn, hO⟩ := hrel
  by_cases hlt : k < m
  · obtain ⟨⟨C, d, l⟩, hx⟩ : ∃ x, hs[k]? = some x := ⟨_, List.getElem?_eq_getElem (by rw [← HM.out]; exact hlt)⟩
    have hbl := h.below hO.below_
    obtain ⟨ad, hA, hc⟩ := hbl.1 k _ hx
    have hri := hbl.2 _ (List.mem_of_getElem? hx)
    subst hA
    clear hbl
    simp only [Hd.val] at hc
    simp only at hri
    have hlx : L[k]? = some l := by rw [HLh.out, List.getElem?_map, hx]; rfl
    have hnx : (L.take (k + 1)).flatten = (L.take k).flatten ++ l := by rw [List.take_add_one, hlx]; simp
    have hb1 := flat_take_le (k := k + 1) hN
    rw [hnx, List.length_append] at hb1
    have hsl : Sl wr 3 1 A' n c' (ints (L.take k).flatten) := by rw [hn]; exact hO.is
    obtain ⟨q, hq⟩ : ∃ q, q = l.length := ⟨_, rfl⟩
    rw [← hq] at hc hb1
    rw [← hn] at hb1
    have hil : (ints l).length = q * 1 := by rw [ints_length, hq, Nat.mul_one]
    have HNX := lH hnx; have HQ := lH hq; have HN := lH hn; have HIL := lH hil
    have hkI : (k : Int) < (m : Int) := by omega
    clear hx hlx hnx hq hn hil h
    go_wp2_with (at_builtin; refine wpList_append_Sl _ rfl _ _ _ rfl 3 Tryz.underlying23 info_int rfl (by omega) rfl hsl rfl HIL.out hri.rdc (ints_one l) (by unfold maxLen; omega) (by omega) ?_; intro A3 c3 w3 hs3 hA3 hk3)
    have hO2 := lH (hO.join (v := l) (by rw [← HN.out, ← HQ.out]) hs3 hA3 hk3)
    clear hs3 hO hsl
    go_roundw
    case rel => exact ⟨k + 1, A3, c3, n + q, by omega, by go_num, rfl, by rw [HNX.out, List.length_append, HN.out, HQ.out], by rw [HNX.out]; exact hO2.out⟩
    case measure => simp [intOf]; omega
  · obtain rfl : m = k := by omega
    have hO2 : OI w wr A' c' L.flatten := by have := hO; rwa [List.take_of_length_le (by rw [hLen.out]; omega)] at this
    have hn2 : n = L.flatten.length := by rw [hn, List.take_of_length_le (by rw [hLen.out]; omega)]
    have HN2 := lH hn2; clear hO h hn hn2
    go_wp2_with (fail)
    go_ret
    exact ⟨A', c', by rw [← HN2.out]; rfl, hO2.is, hO2.new, hO2.below_⟩
theorem l1Least_any (a b : Int) (w : World) : Calls Tryz.prog 94 #[.int .i64 a, .int .i64 b] w fun e w' => e = .returned (.int .i64 (min a b)) ∧ w' = w := by
 go_enter Tryz.func94, Tryz.ntmps94
 go_wp2
 all_goals go_ret
 all_goals (refine ⟨ret_int ?_, rfl⟩; omega)
theorem Par.get {n : Nat} {P C : List Int} (h : Par n P C) {k : Nat} (hk : k < n) : P[k]? = some (P.getD k 0) := by
 rw [List.getD_eq_getElem?_getD, List.getElem?_eq_getElem (by rw [h.len]; exact hk)]; rfl
theorem Cls.get {n : Nat} {C : List Int} (h : Cls n C) {k : Nat} (hk : k < n) : C[k]? = some (C.getD k 0) := by
 rw [List.getD_eq_getElem?_getD, List.getElem?_eq_getElem (by rw [h.len]; exact hk)]; rfl
set_option maxHeartbeats 1000000 in
theorem root_any (G : Addr) (n a : Nat) (P C : List Int) (w : World) (h : RdI w (some G) P) (hP : Par n P C) (ha : a < n) :
  Calls Tryz.prog 89 #[.slice (some G) n n, .int .i64 a] w fun e w' => e = .returned (.int .i64 (C.getD a 0)) ∧ w' = w := by
 obtain ⟨r, hr⟩ : ∃ r, r = C.getD a 0 := ⟨_, rfl⟩
 rw [← hr]
 have hr_h := lH hr; have h_h := lH h; have hP_h := lH hP; clear hr h hP
 go_enter Tryz.func89, Tryz.ntmps89
 go_wp2_with (fail)
 go_loopw [1] (fun i wr => ∃ k : Nat, k < n ∧ i = .int .i64 k ∧ C.getD k 0 = r ∧ wr = w) (fun i _ => (intOf i).toNat)
 case atStart => exact ⟨a, ha, rfl, hr_h.out.symm, rfl⟩
 case round =>
  obtain ⟨k, hk, rfl, he, rfl⟩ := hrel
  obtain ⟨x, hx⟩ : ∃ x, x = P.getD k 0 := ⟨_, rfl⟩
  obtain ⟨ad, e1, hc⟩ := h_h.out k _ (hP_h.out.get hk)
  obtain rfl := Option.some.inj e1
  have hle := hP_h.out.le k hk
  have hsm := hP_h.out.same k hk
  have hrt := hP_h.out.root k hk
  rw [← hx] at hc hle hsm hrt
  have hkI : (k : Int) < (n : Int) := by omega
  by_cases hxk : x = (k : Int)
  · have hrk := (hrt hxk).symm.trans he
    rw [hxk] at hc
    have hx_h := lH hx; have hsm_h := lH hsm; have he_h := lH he; have hrk_h := lH hrk; clear hx hsm he hrk; clear hrt hxk
    go_wp2_with (fail)
    go_ret
    exact ⟨ret_int hrk_h.out, rfl⟩
  · obtain ⟨j, rfl⟩ : ∃ j : Nat, x = (j : Int) := ⟨x.toNat, by omega⟩
    rw [Int.toNat_natCast] at hsm
    have hjr := hsm.trans he
    have hx_h := lH hx; have hsm_h := lH hsm; have he_h := lH he; have hjr_h := lH hjr; clear hx hsm he hjr; clear hrt
    go_wp2_with (fail)
    go_roundw
    case rel => exact ⟨j, by omega, rfl, hjr_h.out, trivial⟩
    case measure => simp [intOf]; omega
set_option maxHeartbeats 2000000 in
theorem join_any (G : Addr) (n a b : Nat) (P C : List Int) (w : World) (h : IS w (some G) n P) (hP : Par n P C) (hC : Cls n C) (ha : a < n) (hb : b < n) :
  Calls Tryz.prog 88 #[.slice (some G) n n, .int .i64 a, .int .i64 b] w fun e w' => e = .returned (.tuple #[]) ∧ ∃ P', IS w' (some G) n P' ∧ Par n P' (relab (C.getD a 0) (C.getD b 0) C) ∧ Keeps (· ∈ fpA (some G)) w w' := by
 have hJ := hP.join hC ha hb
 have la := hC.le a ha
 have lb := hC.le b hb
 have r1 := root_any G n a P C w h.rd hP ha
 have r2 := root_any G n b P C w h.rd hP hb
 obtain ⟨x, hx⟩ : ∃ x, x = C.getD a 0 := ⟨_, rfl⟩
 obtain ⟨y, hy⟩ : ∃ y, y = C.getD b 0 := ⟨_, rfl⟩
 rw [← hx, ← hy] at hJ
 rw [← hx] at r1 la
 rw [← hy] at r2 lb
 rw [← hx, ← hy]
 obtain ⟨x, rfl⟩ : ∃ j : Nat, x = (j : Int) := ⟨x.toNat, by omega⟩
 obtain ⟨y, rfl⟩ : ∃ j : Nat, y = (j : Int) := ⟨y.toNat, by omega⟩
 clear hx hy
 have hmx : ∀ M : Nat, M < n → G = G ∧ (∃ y0, w.cell? (G.add M) = some (.int .i64 y0)) ∧ w.frozen? (G.add M) = false ∧ (∀ m : Int, IS (w.setCell (G.add M) (.int .i64 m)) (some G) n (P.set M m)) ∧ ∀ m : Int, Keeps (· ∈ fpA (some G)) w (w.setCell (G.add M) (.int .i64 m)) := fun M hM => by
  obtain ⟨ad, y0, hA, hy0, _, hc', hf'⟩ := h.at_ (j := M) (by rw [hP.len]; exact hM)
  obtain rfl := Option.some.inj hA
  exact ⟨rfl, ⟨y0, hc'⟩, hf' M, fun m => h.set (ad := G) rfl (j := M) m (by rw [hP.len]; exact hM), fun m => Keeps.setCell (S := (· ∈ fpA (some G))) (Keeps.refl _ w) (p := G.add M) (by rw [block_of_add]; simp) _⟩
 clear h hP hC
 by_cases hxy : (x : Int) < (y : Int)
 case pos =>
  obtain ⟨-, ⟨y0, hc'⟩, hfz, hset, hks⟩ := hmx y (by omega)
  have hset := hset (x : Int)
  have hks := hks (x : Int)
  have hMI : (y : Int) < (n : Int) := by omega
  rw [show max (x : Int) (y : Int) = (y : Int) by omega, show min (x : Int) (y : Int) = (x : Int) by omega, Int.toNat_natCast] at hJ
  have r1_h := lH r1; have r2_h := lH r2; have hJ_h := lH hJ; have hset_h := lH hset; have hks_h := lH hks; clear r1 r2 hJ hset hks; clear hmx la lb ha hb
  go_enter Tryz.func88, Tryz.ntmps88
  go_wp2_with (fail)
  refine (r1_h.out).mono ?_
  rintro e w' ⟨rfl, rfl⟩
  go_wp2_with (fail)
  refine (r2_h.out).mono ?_
  rintro e w' ⟨rfl, rfl⟩
  go_wp2_with (fail)
  all_goals first | omega | (go_end0; exact ⟨rfl, _, hset_h.out, hJ_h.out, hks_h.out⟩)
 by_cases hyx : (y : Int) < (x : Int)
 case pos =>
  obtain ⟨-, ⟨y0, hc'⟩, hfz, hset, hks⟩ := hmx x (by omega)
  have hset := hset (y : Int)
  have hks := hks (y : Int)
  have hMI : (x : Int) < (n : Int) := by omega
  rw [show max (x : Int) (y : Int) = (x : Int) by omega, show min (x : Int) (y : Int) = (y : Int) by omega, Int.toNat_natCast] at hJ
  have r1_h := lH r1; have r2_h := lH r2; have hJ_h := lH hJ; have hset_h := lH hset; have hks_h := lH hks; clear r1 r2 hJ hset hks; clear hmx la lb ha hb
  go_enter Tryz.func88, Tryz.ntmps88
  go_wp2_with (fail)
  refine (r1_h.out).mono ?_
  rintro e w' ⟨rfl, rfl⟩
  go_wp2_with (fail)
  refine (r2_h.out).mono ?_
  rintro e w' ⟨rfl, rfl⟩
  go_wp2_with (fail)
  all_goals first | omega | (go_end0; exact ⟨rfl, _, hset_h.out, hJ_h.out, hks_h.out⟩)
 obtain rfl : x = y := by omega
 obtain ⟨-, ⟨y0, hc'⟩, hfz, hset, hks⟩ := hmx x (by omega)
 have hset := hset (x : Int)
 have hks := hks (x : Int)
 have hMI : (x : Int) < (n : Int) := by omega
 rw [show max (x : Int) (x : Int) = (x : Int) by omega, show min (x : Int) (x : Int) = (x : Int) by omega, Int.toNat_natCast] at hJ
 have r1_h := lH r1; have r2_h := lH r2; have hJ_h := lH hJ; have hset_h := lH hset; have hks_h := lH hks; clear r1 r2 hJ hset hks; clear hmx la lb ha hb
 go_enter Tryz.func88, Tryz.ntmps88
 go_wp2_with (fail)
 refine (r1_h.out).mono ?_
 rintro e w' ⟨rfl, rfl⟩
 go_wp2_with (fail)
 refine (r2_h.out).mono ?_
 rintro e w' ⟨rfl, rfl⟩
 go_wp2_with (fail)
 all_goals first | omega | (go_end0; exact ⟨rfl, _, hset_h.out, hJ_h.out, hks_h.out⟩)
def clsK (n : Nat) (es : List Eg) (k : Nat) : List Int := joinsM (idW n) ((es.take k).flatMap pairsE)
def clsJ (D : List Int) (L : List Int) (j : Nat) : List Int := joinsM D ((L.take j).map fun w => (L.getD 0 0, w))
theorem clsK_zero (n : Nat) (es : List Eg) : clsK n es 0 = idW n := by simp [clsK, joinsM]
theorem clsJ_zero (D L : List Int) : clsJ D L 0 = D := by simp [clsJ, joinsM]
theorem clsK_step {n : Nat} {es : List Eg} {k : Nat} {e : Eg} (h : es[k]? = some e) : clsK n es (k + 1) = clsJ (clsK n es k) (e.2.2.1 ++ e.2.2.2) (e.2.2.1.length + e.2.2.2.length) := by
 unfold clsK clsJ
 have hL : (e.2.2.1 ++ e.2.2.2).take (e.2.2.1.length + e.2.2.2.length) = e.2.2.1 ++ e.2.2.2 := List.take_of_length_le (by simp)
 rw [hL, List.take_add_one, h, List.flatMap_append, joinsM_append]
 simp [pairsE]
theorem clsJ_step {D L : List Int} {j : Nat} {a b : Nat} (ha : L.getD 0 0 = (a : Int)) (h : L[j]? = some (b : Int)) : clsJ D L (j + 1) = relab ((clsJ D L j).getD a 0) ((clsJ D L j).getD b 0) (clsJ D L j) := by
 unfold clsJ
 rw [List.take_add_one, h, List.map_append, joinsM_append, ha]
 simp [joinsM]
theorem clsK_all (g : Gr) (n : Nat) (h : g.1 = (n : Int)) : clsK n g.2.1 g.2.1.length = clsG g := by
 unfold clsK clsG pairsG
 rw [List.take_length, h, Int.toNat_natCast]
theorem getD0_in {n : Nat} {L : List Int} (hin : ∀ x, x ∈ L → 0 ≤ x ∧ x < (n : Int)) (hl : 1 ≤ L.length) : ∃ a : Nat, L.getD 0 0 = (a : Int) ∧ a < n ∧ L[0]? = some (a : Int) := by
 cases L with
 | nil => simp at hl
 | cons x r =>
   have := hin x (by simp)
   exact ⟨x.toNat, by show x = _; omega, by omega, by rw [show ((x.toNat : Nat) : Int) = x by omega]; rfl⟩
theorem Cls.clsJ {n : Nat} {D : List Int} (hD : Cls n D) {L : List Int} (hin : ∀ x, x ∈ L → 0 ≤ x ∧ x < (n : Int)) (j : Nat) : Cls n (clsJ D L j) := by
 refine Cls.joins hD fun q hq => ?_
 obtain ⟨x, hx, rfl⟩ := List.mem_map.1 hq
 have hxL := List.mem_of_mem_take hx
 obtain ⟨a, h1, h2, _⟩ := getD0_in hin (by cases L with | nil => cases hxL | cons => simp)
 have := hin x hxL
 simp only [h1]
 omega
theorem Cls.clsK {n : Nat} {es : List Eg} (hin : inW (n : Int) (edW es) = true) : ∀ k, k ≤ es.length → Cls n (clsK n es k)
 | 0, _ => by rw [clsK_zero]; exact Cls.id n
 | k + 1, hk => by
   have h : es[k]? = some es[k] := List.getElem?_eq_getElem (by omega)
   rw [clsK_step h]
   have hm := mem_edW_of (List.mem_of_getElem? h)
   exact Cls.clsJ (Cls.clsK hin k (by omega)) (fun x hx => by
    rcases List.mem_append.1 hx with hx | hx
    · exact inW_iff.1 hin x (hm.1 x hx)
    · exact inW_iff.1 hin x (hm.2 x hx)) _
theorem nrM_skip {C : List Int} {k : Nat} (h : C.getD k 0 ≠ (k : Int)) : nrM C (k + 1) = nrM C k := by rw [nrM, if_neg h]; rfl
theorem nrM_new {C : List Int} {k : Nat} (h : C.getD k 0 = (k : Int)) : nrM C (k + 1) = nrM C k + 1 := by rw [nrM, if_pos h]
theorem numM_at {n : Nat} {C : List Int} (hC : Cls n C) {k r : Nat} (hk : k < n) (hr : C.getD k 0 = (r : Int)) : (numM C)[k]? = some (nrM C r : Int) := by
 rw [numM_get hC hk, hr, Int.toNat_natCast]
theorem numM_take {C : List Int} {k : Nat} {x : Int} (h : (numM C)[k]? = some x) : (numM C).take (k + 1) = (numM C).take k ++ [x] := by
 rw [List.take_add_one, h]; rfl
end Go.Proofs.YtpkmjenoniedjaaGreat
namespace Go.Proofs.YtpkmjenoniedjaaGreat
def giveL (o l : List Int) : List Int := l.foldl (fun o w => if o.contains w then o else o ++ [w]) o
def wiresE (e : Eg) : List Int := e.2.2.1 ++ e.2.2.2
def edgeAt (g : Gr) (e : Int) : Eg := g.2.1.getD e.toNat eg0
def atE (f : Eg → List Int) (es : List Eg) : Nat → Int → Int
 | 0, _ => -1
 | k + 1, w => if w ∈ f (es.getD k eg0) then (k : Int) else atE f es k w
def inE (e : Eg) : List Int := e.2.2.1
def outE (e : Eg) : List Int := e.2.2.2
def toE (g : Gr) (w : Int) : Int := atE inE g.2.1 g.2.1.length w
def fromE (g : Gr) (w : Int) : Int := atE outE g.2.1 g.2.1.length w
abbrev WE := List Int × List Int
def stepE (g : Gr) (s : WE) (e : Int) : WE := if e < 0 ∨ e ∈ s.2 then s else (giveL s.1 (wiresE (edgeAt g e)), s.2 ++ [e])
def roundW (g : Gr) (s : WE) (k : Nat) : WE := if k < s.1.length then stepE g (stepE g s (toE g (s.1.getD k 0))) (fromE g (s.1.getD k 0)) else s
def walkTo (g : Gr) (s : WE) : Nat → WE
 | 0 => s
 | k + 1 => roundW g (walkTo g s k) k
def finW (g : Gr) (s : WE) : WE := walkTo g s g.1.toNat
theorem giveL_append (o l m : List Int) : giveL o (l ++ m) = giveL (giveL o l) m := List.foldl_append
theorem giveL_one (o : List Int) (w : Int) : giveL o [w] = if o.contains w then o else o ++ [w] := rfl
theorem mem_giveL {x : Int} : ∀ {l o : List Int}, x ∈ giveL o l ↔ x ∈ o ∨ x ∈ l
 | [], o => by simp [giveL]
 | w :: r, o => by
   show x ∈ giveL (giveL o [w]) r ↔ _
   rw [mem_giveL (l := r), giveL_one]
   split
   · rename_i h
     have h' : w ∈ o := by simpa using h
     constructor
     · rintro (h | h)
       · exact .inl h
       · exact .inr (by simp [h])
     · rintro (h | h)
       · exact .inl h
       · rcases List.mem_cons.1 h with rfl | h
         · exact .inl h'
         · exact .inr h
   · simp [or_assoc]
theorem giveL_nodup : ∀ {l o : List Int}, o.Nodup → (giveL o l).Nodup
 | [], _, h => h
 | w :: r, o, h => by
   show (giveL (giveL o [w]) r).Nodup
   refine giveL_nodup (l := r) ?_
   rw [giveL_one]
   split
   · exact h
   · rename_i hc
     have h' : w ∉ o := by simpa using hc
     rw [List.nodup_append]
     refine ⟨h, by simp, fun a ha b hb => ?_⟩
     obtain rfl := List.mem_singleton.1 hb
     exact fun e => h' (e ▸ ha)
theorem giveL_pre : ∀ (l o : List Int), ∃ t, giveL o l = o ++ t
 | [], o => ⟨[], by simp [giveL]⟩
 | w :: r, o => by
   obtain ⟨t, ht⟩ := giveL_pre r (giveL o [w])
   show ∃ t, giveL (giveL o [w]) r = o ++ t
   rw [ht, giveL_one]
   split
   · exact ⟨t, rfl⟩
   · exact ⟨[w] ++ t, by simp⟩
theorem stepE_pre (g : Gr) (s : WE) (e : Int) : (∃ t, (stepE g s e).1 = s.1 ++ t) ∧ ∃ t, (stepE g s e).2 = s.2 ++ t := by
 unfold stepE
 split
 · exact ⟨⟨[], by simp⟩, ⟨[], by simp⟩⟩
 · exact ⟨giveL_pre _ _, ⟨[e], rfl⟩⟩
theorem roundW_pre (g : Gr) (s : WE) (k : Nat) : (∃ t, (roundW g s k).1 = s.1 ++ t) ∧ ∃ t, (roundW g s k).2 = s.2 ++ t := by
 unfold roundW
 split
 · obtain ⟨⟨t1, h1⟩, t2, h2⟩ := stepE_pre g s (toE g (s.1.getD k 0))
   obtain ⟨⟨t3, h3⟩, t4, h4⟩ := stepE_pre g (stepE g s (toE g (s.1.getD k 0))) (fromE g (s.1.getD k 0))
   rw [h3, h4, h1, h2]
   exact ⟨⟨t1 ++ t3, by simp⟩, ⟨t2 ++ t4, by simp⟩⟩
 · exact ⟨⟨[], by simp⟩, ⟨[], by simp⟩⟩
theorem walkTo_pre (g : Gr) (s : WE) (k : Nat) : ∀ d, (∃ t, (walkTo g s (k + d)).1 = (walkTo g s k).1 ++ t) ∧ ∃ t, (walkTo g s (k + d)).2 = (walkTo g s k).2 ++ t
 | 0 => ⟨⟨[], by simp⟩, ⟨[], by simp⟩⟩
 | d + 1 => by
   obtain ⟨⟨t1, h1⟩, t2, h2⟩ := walkTo_pre g s k d
   obtain ⟨⟨t3, h3⟩, t4, h4⟩ := roundW_pre g (walkTo g s (k + d)) (k + d)
   show (∃ t, (roundW g (walkTo g s (k + d)) (k + d)).1 = _) ∧ ∃ t, (roundW g (walkTo g s (k + d)) (k + d)).2 = _
   rw [h3, h4, h1, h2]
   exact ⟨⟨t1 ++ t3, by simp⟩, ⟨t2 ++ t4, by simp⟩⟩
theorem walkTo_stable {g : Gr} {s : WE} {k : Nat} (h : (walkTo g s k).1.length ≤ k) : ∀ d, walkTo g s (k + d) = walkTo g s k
 | 0 => rfl
 | d + 1 => by
   have ih := walkTo_stable h d
   show roundW g (walkTo g s (k + d)) (k + d) = _
   rw [ih]
   unfold roundW
   rw [if_neg (by omega)]
theorem atE_lt (f : Eg → List Int) (es : List Eg) (w : Int) : ∀ k, -1 ≤ atE f es k w ∧ atE f es k w < k
 | 0 => by simp [atE]
 | k + 1 => by
   have := atE_lt f es w k
   unfold atE
   split <;> omega
theorem atE_mem {f : Eg → List Int} {es : List Eg} {w : Int} : ∀ {k : Nat}, 0 ≤ atE f es k w → w ∈ f (es.getD (atE f es k w).toNat eg0)
 | 0, h => by simp [atE] at h
 | k + 1, h => by
   unfold atE at h ⊢
   split
   · rename_i hm
     simpa using hm
   · rename_i hm
     rw [if_neg hm] at h
     exact atE_mem h
theorem atE_hit {f : Eg → List Int} {es : List Eg} {w : Int} : ∀ {k i : Nat}, i < k → w ∈ f (es.getD i eg0) → (∀ j, j < k → w ∈ f (es.getD j eg0) → j = i) → atE f es k w = i
 | 0, _, h, _, _ => by omega
 | k + 1, i, h, hm, hu => by
   unfold atE
   split
   · rename_i hk
     rw [hu k (by omega) hk]
   · rename_i hk
     have : i ≠ k := fun e => hk (e ▸ hm)
     exact atE_hit (by omega) hm fun j hj => hu j (by omega)
theorem nodup_flat {f : Eg → List Int} {F : List Eg → List Int} (hF0 : F [] = []) (hF : ∀ e r, F (e :: r) = f e ++ F r) : ∀ {es : List Eg}, (F es).Nodup → ∀ {i j : Nat} {w : Int}, i < es.length → j < es.length → w ∈ f (es.getD i eg0) → w ∈ f (es.getD j eg0) → j = i
 | [], _, i, _, _, hi, _, _, _ => by simp at hi
 | e :: r, h, i, j, w, hi, hj, h1, h2 => by
   rw [hF, List.nodup_append] at h
   obtain ⟨_, hr, hd⟩ := h
   have key : ∀ {q : Nat}, q < r.length → w ∈ f (r.getD q eg0) → w ∈ F r := by
    clear h1 h2 hi hj hd hr
    intro q hq hm
    induction r generalizing q with
    | nil => simp at hq
    | cons a s ih =>
      rw [hF]
      cases q with
      | zero => exact List.mem_append_left _ hm
      | succ q => exact List.mem_append_right _ (ih (by simpa using hq) hm)
   cases i with
   | zero =>
     cases j with
     | zero => rfl
     | succ j => exact absurd rfl (hd w h1 w (key (by simpa using hj) h2))
   | succ i =>
     cases j with
     | zero => exact absurd rfl (hd w h2 w (key (by simpa using hi) h1))
     | succ j => exact congrArg (· + 1) (nodup_flat hF0 hF hr (by simpa using hi) (by simpa using hj) h1 h2)
structure Mono (g : Gr) (n : Nat) : Prop where
 hn : g.1 = (n : Int)
 n100 : n ≤ 100
 m60 : g.2.1.length ≤ 60
 i12 : g.2.2.1.length ≤ 12
 o12 : g.2.2.2.length ≤ 12
 inn : ∀ x, x ∈ t_allW g → 0 ≤ x ∧ x < (n : Int)
 org : (orgW g).Nodup
 dst : (dstW g).Nodup
 all : ∀ w : Nat, w < n → (w : Int) ∈ orgW g
 kind : ∀ e, e ∈ g.2.1 → egB e = true
section
variable {g : Gr} {n : Nat}
theorem edge_mem {i : Nat} (hi : i < g.2.1.length) : g.2.1.getD i eg0 ∈ g.2.1 := by
 rw [List.getD_eq_getElem?_getD, List.getElem?_eq_getElem hi]
 exact List.getElem_mem hi
theorem Mono.wires (h : Mono g n) {e : Int} (h0 : 0 ≤ e) (hm : e < (g.2.1.length : Int)) : ∀ w, w ∈ wiresE (edgeAt g e) → 0 ≤ w ∧ w < (n : Int) := by
 intro w hw
 refine h.inn w ?_
 have hi : e.toNat < g.2.1.length := by omega
 have := mem_edW_of (List.mem_of_getElem? (List.getElem?_eq_getElem hi))
 have e2 : edgeAt g e = g.2.1[e.toNat] := by unfold edgeAt; rw [List.getD_eq_getElem?_getD, List.getElem?_eq_getElem hi]; rfl
 rw [e2] at hw
 unfold t_allW
 refine List.mem_append_right _ (List.mem_append_right _ ?_)
 rcases List.mem_append.1 hw with hw | hw
 · exact this.1 w hw
 · exact this.2 w hw
theorem toE_rng (g : Gr) (w : Int) : -1 ≤ toE g w ∧ toE g w < (g.2.1.length : Int) := atE_lt _ _ _ _
theorem fromE_rng (g : Gr) (w : Int) : -1 ≤ fromE g w ∧ fromE g w < (g.2.1.length : Int) := atE_lt _ _ _ _
theorem toE_mem {g : Gr} {w : Int} (h : 0 ≤ toE g w) : w ∈ wiresE (edgeAt g (toE g w)) := List.mem_append_left _ (atE_mem h)
theorem fromE_mem {g : Gr} {w : Int} (h : 0 ≤ fromE g w) : w ∈ wiresE (edgeAt g (fromE g w)) := List.mem_append_right _ (atE_mem h)
theorem toE_hit (h : Mono g n) {i : Nat} (hi : i < g.2.1.length) {w : Int} (hw : w ∈ inE (g.2.1.getD i eg0)) : toE g w = i := by
 refine atE_hit hi hw fun j hj hjw => ?_
 have := h.dst
 unfold dstW at this
 exact nodup_flat (F := inpW) rfl (fun _ _ => rfl) (List.nodup_append.1 this).2.1 hi hj hw hjw
theorem fromE_hit (h : Mono g n) {i : Nat} (hi : i < g.2.1.length) {w : Int} (hw : w ∈ outE (g.2.1.getD i eg0)) : fromE g w = i := by
 refine atE_hit hi hw fun j hj hjw => ?_
 have := h.org
 unfold orgW at this
 exact nodup_flat (F := outW) rfl (fun _ _ => rfl) (List.nodup_append.1 this).2.1 hi hj hw hjw
theorem touch (h : Mono g n) {e w : Int} (h0 : 0 ≤ e) (hm : e < (g.2.1.length : Int)) (hw : w ∈ wiresE (edgeAt g e)) : toE g w = e ∨ fromE g w = e := by
 rcases List.mem_append.1 hw with hw | hw
 · exact .inl (by rw [toE_hit h (i := e.toNat) (by omega) hw]; omega)
 · exact .inr (by rw [fromE_hit h (i := e.toNat) (by omega) hw]; omega)
structure WInv (g : Gr) (n : Nat) (s : WE) : Prop where
 nd1 : s.1.Nodup
 rg1 : ∀ x, x ∈ s.1 → 0 ≤ x ∧ x < (n : Int)
 nd2 : s.2.Nodup
 rg2 : ∀ e, e ∈ s.2 → 0 ≤ e ∧ e < (g.2.1.length : Int)
 clo : ∀ e, e ∈ s.2 → ∀ w, w ∈ wiresE (edgeAt g e) → w ∈ s.1
theorem WInv.step (h : Mono g n) {s : WE} (hs : WInv g n s) {e : Int} (he : e < (g.2.1.length : Int)) : WInv g n (stepE g s e) := by
 unfold stepE
 split
 · exact hs
 · rename_i hne
   have h0 : 0 ≤ e := by omega
   have hni : e ∉ s.2 := fun hi => hne (.inr hi)
   refine ⟨giveL_nodup hs.nd1, fun x hx => ?_, ?_, fun f hf => ?_, fun f hf w hw => ?_⟩
   · rcases mem_giveL.1 hx with hx | hx
     · exact hs.rg1 x hx
     · exact h.wires h0 he x hx
   · rw [List.nodup_append]
     refine ⟨hs.nd2, by simp, fun a ha b hb => ?_⟩
     obtain rfl := List.mem_singleton.1 hb
     exact fun e => hni (e ▸ ha)
   · rcases List.mem_append.1 hf with hf | hf
     · exact hs.rg2 f hf
     · obtain rfl := List.mem_singleton.1 hf
       exact ⟨h0, he⟩
   · rcases List.mem_append.1 hf with hf | hf
     · exact mem_giveL.2 (.inl (hs.clo f hf w hw))
     · obtain rfl := List.mem_singleton.1 hf
       exact mem_giveL.2 (.inr hw)
theorem WInv.round (h : Mono g n) {s : WE} (hs : WInv g n s) (k : Nat) : WInv g n (roundW g s k) := by
 unfold roundW
 split
 · exact (hs.step h (toE_rng g _).2).step h (fromE_rng g _).2
 · exact hs
theorem WInv.walk (h : Mono g n) {s : WE} (hs : WInv g n s) : ∀ k, WInv g n (walkTo g s k)
 | 0 => hs
 | k + 1 => (hs.walk h k).round h k
theorem nodup_le {n : Nat} {l : List Int} (hn : l.Nodup) (h : ∀ k, k ∈ l → 0 ≤ k ∧ k < (n : Int)) : l.length ≤ n := by
 have := seenC_nodup hn h l.length (Nat.le_refl _)
 rw [← this]
 exact seenC_le n _
theorem WInv.le {s : WE} (hs : WInv g n s) : s.1.length ≤ n ∧ s.2.length ≤ g.2.1.length := ⟨nodup_le hs.nd1 hs.rg1, nodup_le hs.nd2 hs.rg2⟩
theorem finW_eq (h : Mono g n) {s : WE} {k : Nat} (hk : k ≤ n) (he : (walkTo g s k).1.length ≤ k) : finW g s = walkTo g s k := by
 unfold finW
 rw [h.hn, Int.toNat_natCast, show n = k + (n - k) by omega]
 exact walkTo_stable he _
theorem stepE_has {g : Gr} {s : WE} {e : Int} (h : 0 ≤ e) : e ∈ (stepE g s e).2 := by
 unfold stepE
 split
 · rename_i hc
   rcases hc with hc | hc
   · omega
   · exact hc
 · simp
theorem mem_pre {α : Type} {a b t : List α} {x : α} (h : b = a ++ t) (hx : x ∈ a) : x ∈ b := h ▸ List.mem_append_left _ hx
theorem stepE_sub {g : Gr} {s : WE} {e f : Int} (h : f ∈ s.2) : f ∈ (stepE g s e).2 := by
 obtain ⟨_, t, ht⟩ := stepE_pre g s e
 exact mem_pre ht h
theorem walk_seen {g : Gr} {s : WE} : ∀ k, ∀ i, i < k → i < (walkTo g s k).1.length → (0 ≤ toE g ((walkTo g s k).1.getD i 0) → toE g ((walkTo g s k).1.getD i 0) ∈ (walkTo g s k).2) ∧ (0 ≤ fromE g ((walkTo g s k).1.getD i 0) → fromE g ((walkTo g s k).1.getD i 0) ∈ (walkTo g s k).2)
 | 0, i, hi, _ => by omega
 | k + 1, i, hi, hl => by
   obtain ⟨⟨t1, h1⟩, t2, h2⟩ := roundW_pre g (walkTo g s k) k
   have e1 : (walkTo g s (k + 1)).1 = (walkTo g s k).1 ++ t1 := h1
   have e2 : (walkTo g s (k + 1)).2 = (walkTo g s k).2 ++ t2 := h2
   by_cases hik : i < k
   · by_cases hil : i < (walkTo g s k).1.length
     · obtain ⟨a, b⟩ := walk_seen (s := s) k i hik hil
       have e3 : (walkTo g s (k + 1)).1.getD i 0 = (walkTo g s k).1.getD i 0 := by
        rw [e1, List.getD_eq_getElem?_getD, List.getElem?_append_left hil, ← List.getD_eq_getElem?_getD]
       rw [e3]
       exact ⟨fun h => mem_pre e2 (a h), fun h => mem_pre e2 (b h)⟩
     · have e4 : walkTo g s (k + 1) = walkTo g s k := by
        show roundW g (walkTo g s k) k = _
        unfold roundW
        rw [if_neg (by omega)]
       rw [e4] at hl
       omega
   · obtain rfl : i = k := by omega
     by_cases hil : i < (walkTo g s i).1.length
     · have e3 : (walkTo g s (i + 1)).1.getD i 0 = (walkTo g s i).1.getD i 0 := by
        rw [e1, List.getD_eq_getElem?_getD, List.getElem?_append_left hil, ← List.getD_eq_getElem?_getD]
       have e4 : walkTo g s (i + 1) = stepE g (stepE g (walkTo g s i) (toE g ((walkTo g s i).1.getD i 0))) (fromE g ((walkTo g s i).1.getD i 0)) := by
        show roundW g (walkTo g s i) i = _
        unfold roundW
        rw [if_pos hil]
       rw [e3, e4]
       exact ⟨fun h => stepE_sub (stepE_has h), fun h => stepE_has h⟩
     · have e4 : walkTo g s (i + 1) = walkTo g s i := by
        show roundW g (walkTo g s i) i = _
        unfold roundW
        rw [if_neg (by omega)]
       rw [e4] at hl
       omega
theorem WInv.fin (h : Mono g n) {s : WE} (hs : WInv g n s) : WInv g n (finW g s) := hs.walk h _
theorem fin_seen (h : Mono g n) {s : WE} (hs : WInv g n s) {w : Int} (hw : w ∈ (finW g s).1) : (0 ≤ toE g w → toE g w ∈ (finW g s).2) ∧ (0 ≤ fromE g w → fromE g w ∈ (finW g s).2) := by
 obtain ⟨i, hi, rfl⟩ := List.getElem_of_mem hw
 have hl := (hs.fin h).le.1
 have := walk_seen (g := g) (s := s) g.1.toNat i (by rw [h.hn, Int.toNat_natCast]; exact Nat.lt_of_lt_of_le hi hl) hi
 have e : (walkTo g s g.1.toNat).1.getD i 0 = (finW g s).1[i] := by
  show (finW g s).1.getD i 0 = _
  rw [List.getD_eq_getElem?_getD, List.getElem?_eq_getElem hi]; rfl
 rw [e] at this
 exact this
theorem fin_edge (h : Mono g n) {s : WE} (hs : WInv g n s) {e w : Int} (h0 : 0 ≤ e) (hm : e < (g.2.1.length : Int)) (hw : w ∈ wiresE (edgeAt g e)) : e ∈ (finW g s).2 ↔ w ∈ (finW g s).1 := by
 constructor
 · intro he
   exact (hs.fin h).clo e he w hw
 · intro hf
   obtain ⟨a, b⟩ := fin_seen h hs hf
   rcases touch h h0 hm hw with e1 | e1
   · rw [← e1]; exact a (by omega)
   · rw [← e1]; exact b (by omega)
end
def clsW (g : Gr) (w : Int) : Int := (clsG g).getD w.toNat 0
theorem joins_eq {ps : List (Int × Int)} : ∀ {C : List Int} {a b : Nat}, a < C.length → b < C.length → C.getD a 0 = C.getD b 0 → (joinsM C ps).getD a 0 = (joinsM C ps).getD b 0 := by
 induction ps with
 | nil => intro C a b _ _ h; exact h
 | cons q r ih =>
   intro C a b ha hb h
   show (joinsM (relab _ _ C) r).getD a 0 = (joinsM (relab _ _ C) r).getD b 0
   refine ih (by rw [relab_length]; exact ha) (by rw [relab_length]; exact hb) ?_
   unfold relab
   rw [getD_map_lt ha, getD_map_lt hb, h]
theorem relV_both (x y : Int) : relV x y x = relV x y y := by unfold relV; split <;> split <;> omega
theorem joins_pair : ∀ {ps : List (Int × Int)} {C : List Int} {q : Int × Int}, q ∈ ps → q.1.toNat < C.length → q.2.toNat < C.length → (joinsM C ps).getD q.1.toNat 0 = (joinsM C ps).getD q.2.toNat 0
 | p :: r, C, q, hq, h1, h2 => by
   show (joinsM (relab _ _ C) r).getD _ 0 = (joinsM (relab _ _ C) r).getD _ 0
   rcases List.mem_cons.1 hq with rfl | hq
   · refine joins_eq (by rw [relab_length]; exact h1) (by rw [relab_length]; exact h2) ?_
     unfold relab
     rw [getD_map_lt h1, getD_map_lt h2]
     exact relV_both _ _
   · exact joins_pair hq (by rw [relab_length]; exact h1) (by rw [relab_length]; exact h2)
theorem joins_closed {n : Nat} {T : Nat → Prop} : ∀ {ps : List (Int × Int)} {C : List Int}, Cls n C → (∀ q, q ∈ ps → (0 ≤ q.1 ∧ q.1 < n) ∧ 0 ≤ q.2 ∧ q.2 < n) → (∀ q, q ∈ ps → (T q.1.toNat ↔ T q.2.toNat)) → (∀ a b, a < n → b < n → C.getD a 0 = C.getD b 0 → (T a ↔ T b)) →
  ∀ a b, a < n → b < n → (joinsM C ps).getD a 0 = (joinsM C ps).getD b 0 → (T a ↔ T b)
 | [], _, _, _, _, h, a, b, ha, hb, e => h a b ha hb e
 | p :: r, C, hC, hr, hT, h, a, b, ha, hb, e => by
   have hp := hr p (by simp)
   have h1 : p.1.toNat < n := by omega
   have h2 : p.2.toNat < n := by omega
   refine joins_closed (ps := r) (hC.join h1 h2) (fun q hq => hr q (by simp [hq])) (fun q hq => hT q (by simp [hq])) (fun a b ha hb e => ?_) a b ha hb e
   rw [relab_getD hC _ _ ha, relab_getD hC _ _ hb] at e
   have hq := hT p (by simp)
   -- each wire whose class is made one is on the pair's side
   have key : ∀ c, c < n → (C.getD c 0 = C.getD p.1.toNat 0 ∨ C.getD c 0 = C.getD p.2.toNat 0) → (T c ↔ T p.1.toNat) := fun c hc hcc => by
    rcases hcc with hcc | hcc
    · exact h c _ hc h1 hcc
    · exact (h c _ hc h2 hcc).trans hq.symm
   unfold relV at e
   by_cases ea : C.getD a 0 = max (C.getD p.1.toNat 0) (C.getD p.2.toNat 0) <;> by_cases eb : C.getD b 0 = max (C.getD p.1.toNat 0) (C.getD p.2.toNat 0)
   · exact h a b ha hb (ea.trans eb.symm)
   · rw [if_pos ea, if_neg eb] at e
     exact (key a ha (by omega)).trans (key b hb (by omega)).symm
   · rw [if_neg ea, if_pos eb] at e
     exact (key a ha (by omega)).trans (key b hb (by omega)).symm
   · rw [if_neg ea, if_neg eb] at e
     exact h a b ha hb e
section
variable {g : Gr} {n : Nat}
theorem pairsG_mem {q : Int × Int} (hq : q ∈ pairsG g) : ∃ i : Nat, i < g.2.1.length ∧ q.1 = (wiresE (g.2.1.getD i eg0)).getD 0 0 ∧ q.2 ∈ wiresE (g.2.1.getD i eg0) ∧ q.1 ∈ wiresE (g.2.1.getD i eg0) := by
 obtain ⟨e, he, hq⟩ := List.mem_flatMap.1 hq
 obtain ⟨w, hw, rfl⟩ := List.mem_map.1 hq
 obtain ⟨i, hi, rfl⟩ := List.getElem_of_mem he
 have e2 : g.2.1.getD i eg0 = g.2.1[i] := by rw [List.getD_eq_getElem?_getD, List.getElem?_eq_getElem hi]; rfl
 refine ⟨i, hi, ?_⟩
 rw [e2]
 refine ⟨rfl, hw, ?_⟩
 show (wiresE g.2.1[i]).getD 0 0 ∈ wiresE g.2.1[i]
 have hw' : w ∈ wiresE g.2.1[i] := hw
 revert hw'
 generalize wiresE g.2.1[i] = L
 intro hw'
 cases L with
 | nil => cases hw'
 | cons x r => simp
theorem Mono.pairs (h : Mono g n) : ∀ q, q ∈ pairsG g → (0 ≤ q.1 ∧ q.1 < n) ∧ 0 ≤ q.2 ∧ q.2 < n := by
 intro q hq
 obtain ⟨i, hi, _, h2, h1⟩ := pairsG_mem hq
 have hw := h.wires (e := (i : Int)) (by omega) (by omega)
 unfold edgeAt at hw
 rw [Int.toNat_natCast] at hw
 exact ⟨hw _ h1, hw _ h2⟩
theorem cls_edge (h : Mono g n) {e v w : Int} (h0 : 0 ≤ e) (hm : e < (g.2.1.length : Int)) (hv : v ∈ wiresE (edgeAt g e)) (hw : w ∈ wiresE (edgeAt g e)) : clsW g v = clsW g w := by
 have key : ∀ x, x ∈ wiresE (edgeAt g e) → clsW g ((wiresE (edgeAt g e)).getD 0 0) = clsW g x := fun x hx => by
  have hi : e.toNat < g.2.1.length := by omega
  have hq : ((wiresE (edgeAt g e)).getD 0 0, x) ∈ pairsG g := by
   refine List.mem_flatMap.2 ⟨edgeAt g e, edge_mem hi, List.mem_map.2 ⟨x, hx, rfl⟩⟩
  have hp := h.pairs _ hq
  unfold clsW clsG
  exact joins_pair hq (by rw [idW_length, h.hn]; omega) (by rw [idW_length, h.hn]; omega)
 exact (key v hv).symm.trans (key w hw)
theorem cls_closed (h : Mono g n) {T : Int → Prop} (hT : ∀ e v w, 0 ≤ e → e < (g.2.1.length : Int) → v ∈ wiresE (edgeAt g e) → w ∈ wiresE (edgeAt g e) → T v → T w) {a b : Int} (ha : 0 ≤ a ∧ a < (n : Int)) (hb : 0 ≤ b ∧ b < (n : Int)) (e : clsW g a = clsW g b) : T a ↔ T b := by
 have := joins_closed (n := n) (T := fun k => T (k : Int)) (ps := pairsG g) (C := idW n) (Cls.id n) h.pairs (fun q hq => by
  obtain ⟨i, hi, _, h2, h1⟩ := pairsG_mem hq
  have hp := h.pairs q hq
  have e1 : ((q.1.toNat : Nat) : Int) = q.1 := by omega
  have e2 : ((q.2.toNat : Nat) : Int) = q.2 := by omega
  have h1' : q.1 ∈ wiresE (edgeAt g (i : Int)) := by unfold edgeAt; rw [Int.toNat_natCast]; exact h1
  have h2' : q.2 ∈ wiresE (edgeAt g (i : Int)) := by unfold edgeAt; rw [Int.toNat_natCast]; exact h2
  show T _ ↔ T _
  rw [e1, e2]
  exact ⟨hT (i : Int) _ _ (by omega) (by omega) h1' h2', hT (i : Int) _ _ (by omega) (by omega) h2' h1'⟩) (fun a b ha hb e => by
  rw [idW_getD ha, idW_getD hb] at e
  rw [show a = b by omega]) a.toNat b.toNat (by omega) (by omega) (by
  unfold clsW clsG at e
  rw [h.hn, Int.toNat_natCast] at e
  exact e)
 show T a ↔ T b
 have e1 : ((a.toNat : Nat) : Int) = a := by omega
 have e2 : ((b.toNat : Nat) : Int) = b := by omega
 have this' : T ((a.toNat : Nat) : Int) ↔ T ((b.toNat : Nat) : Int) := this
 rwa [e1, e2] at this'
theorem step_cls (h : Mono g n) {S : Int → Prop} {s : WE} {e : Int} (he : e < (g.2.1.length : Int)) (hs : ∀ w, w ∈ s.1 → S (clsW g w)) (hw : 0 ≤ e → ∃ w, w ∈ s.1 ∧ w ∈ wiresE (edgeAt g e)) : ∀ w, w ∈ (stepE g s e).1 → S (clsW g w) := by
 unfold stepE
 split
 · exact hs
 · rename_i hc
   have h0 : 0 ≤ e := by omega
   intro w hm
   rcases mem_giveL.1 hm with hm | hm
   · exact hs w hm
   · obtain ⟨v, hv, hve⟩ := hw h0
     rw [← cls_edge h h0 he hve hm]
     exact hs v hv
theorem walk_cls (h : Mono g n) {S : Int → Prop} {s : WE} (hs : ∀ w, w ∈ s.1 → S (clsW g w)) : ∀ k, ∀ w, w ∈ (walkTo g s k).1 → S (clsW g w)
 | 0 => hs
 | k + 1 => by
   have ih := walk_cls h hs k
   show ∀ w, w ∈ (roundW g (walkTo g s k) k).1 → _
   unfold roundW
   split
   · rename_i hk
     obtain ⟨x, hx⟩ : ∃ x, x = (walkTo g s k).1.getD k 0 := ⟨_, rfl⟩
     have hxm : x ∈ (walkTo g s k).1 := by
      rw [hx, List.getD_eq_getElem?_getD, List.getElem?_eq_getElem hk]; exact List.getElem_mem hk
     rw [← hx]
     refine step_cls h (fromE_rng g x).2 (step_cls h (toE_rng g x).2 ih fun h0 => ⟨x, hxm, toE_mem h0⟩) fun h0 => ⟨x, ?_, fromE_mem h0⟩
     obtain ⟨⟨t, ht⟩, _⟩ := stepE_pre g (walkTo g s k) (toE g x)
     exact mem_pre ht hxm
   · exact ih
theorem fin_wire (h : Mono g n) {s : WE} (hs : WInv g n s) {w : Int} : w ∈ (finW g s).1 ↔ (0 ≤ w ∧ w < (n : Int)) ∧ ∃ v, v ∈ s.1 ∧ clsW g v = clsW g w := by
 have hI := hs.fin h
 constructor
 · intro hw
   exact ⟨hI.rg1 w hw, walk_cls h (S := fun c => ∃ v, v ∈ s.1 ∧ clsW g v = c) (fun v hv => ⟨v, hv, rfl⟩) _ w hw⟩
 · rintro ⟨hr, v, hv, e⟩
   have hv' : v ∈ (finW g s).1 := by
    obtain ⟨⟨t, ht⟩, _⟩ := walkTo_pre g s 0 g.1.toNat
    rw [Nat.zero_add] at ht
    exact mem_pre ht hv
   refine (cls_closed h (T := fun x => x ∈ (finW g s).1) (fun e a b h0 hm ha hb hT => ?_) (hs.rg1 v hv) hr e).1 hv'
   exact (fin_edge h hs h0 hm hb).1 ((fin_edge h hs h0 hm ha).2 hT)
end
end Go.Proofs.YtpkmjenoniedjaaGreat
namespace Go.Proofs.YtpkmjenoniedjaaGreat
def idx (l : List Int) (w : Int) : Int := ((l.idxOf w : Nat) : Int)
def codeE (wo : List Int) (e : Eg) : List Int := [e.1, e.2.1] ++ (wiresE e).map (idx wo)
def codeM (g : Gr) (s : WE) : List Int := s.2.flatMap fun e => codeE s.1 (edgeAt g e)
def startE (g : Gr) (e : Int) : WE := stepE g ([], []) e
def startO (g : Gr) : WE := (giveL [] (g.2.2.1 ++ g.2.2.2), [])
def fromM (g : Gr) (e : Int) : WE := finW g (startE g e)
def openM (g : Gr) : WE := finW g (startO g)
def lexI : List Int → List Int → Bool
 | _, [] => false
 | [], _ :: _ => true
 | a :: r, b :: s => if a = b then lexI r s else decide (a < b)
theorem lexI_irr : ∀ l : List Int, lexI l l = false
 | [] => rfl
 | a :: r => by rw [lexI, if_pos rfl]; exact lexI_irr r
theorem lexI_trans : ∀ {a b c : List Int}, lexI a b = true → lexI b c = true → lexI a c = true
 | _, _, [], _, h => by cases ‹List Int› <;> simp [lexI] at h
 | [], _, _ :: _, _, _ => rfl
 | _ :: _, [], _, h, _ => by simp [lexI] at h
 | x :: r, y :: s, z :: t, h1, h2 => by
   unfold lexI at h1 h2 ⊢
   by_cases e1 : x = y
   · by_cases e2 : y = z
     · rw [if_pos e1] at h1
       rw [if_pos e2] at h2
       rw [if_pos (e1.trans e2)]
       exact lexI_trans h1 h2
     · rw [if_neg e2] at h2
       rw [if_neg (fun e => e2 (e1 ▸ e)), e1]
       exact h2
   · rw [if_neg e1] at h1
     have h1' : x < y := of_decide_eq_true h1
     by_cases e2 : y = z
     · rw [if_neg (fun e => e1 (e.trans e2.symm)), ← e2]
       exact h1
     · rw [if_neg e2] at h2
       have h2' : y < z := of_decide_eq_true h2
       rw [if_neg (by omega)]
       exact decide_eq_true (by omega)
theorem lexI_tri : ∀ {a b : List Int}, a ≠ b → lexI a b = true ∨ lexI b a = true
 | [], [], h => absurd rfl h
 | [], _ :: _, _ => .inl rfl
 | _ :: _, [], _ => .inr rfl
 | x :: r, y :: s, h => by
   unfold lexI
   by_cases e : x = y
   · rw [if_pos e, if_pos e.symm]
     exact lexI_tri fun h2 => h (by rw [e, h2])
   · rw [if_neg e, if_neg (fun h2 => e h2.symm), decide_eq_true_eq, decide_eq_true_eq]
     omega
theorem lexI_asym {a b : List Int} (h : lexI a b = true) : lexI b a = false := by
 cases hc : lexI b a
 · rfl
 · have := lexI_trans h hc
   rw [lexI_irr] at this
   cases this
abbrev Prt := List Int × WE × Int
instance decPrt : DecidableEq Prt := inferInstance
def prtOf (g : Gr) (e : Int) : Prt := (codeM g (fromM g e), fromM g e, 1)
def prtNext (g : Gr) (b : Prt) (e : Int) : Prt := if (prtOf g e).1 = b.1 then (b.1, b.2.1, b.2.2 + 1) else if lexI (prtOf g e).1 b.1 then prtOf g e else b
def bestP (g : Gr) : List Int → Prt
 | [] => ([], ([], []), 0)
 | e :: r => r.foldl (prtNext g) (prtOf g e)
theorem bestP_snoc {g : Gr} {l : List Int} (h : l ≠ []) (e : Int) : bestP g (l ++ [e]) = prtNext g (bestP g l) e := by
 cases l with
 | nil => exact absurd rfl h
 | cons a r => simp [bestP, List.foldl_append]
theorem best_from (g : Gr) : ∀ {r : List Int} {b : Prt} {T : List Int}, (∃ e, e ∈ T ∧ b.1 = codeM g (fromM g e) ∧ b.2.1 = fromM g e) → (∀ e, e ∈ r → e ∈ T) → ∃ e, e ∈ T ∧ (r.foldl (prtNext g) b).1 = codeM g (fromM g e) ∧ (r.foldl (prtNext g) b).2.1 = fromM g e
 | [], _, _, h, _ => h
 | x :: r, b, T, h, hT => by
   show ∃ e, e ∈ T ∧ (r.foldl (prtNext g) (prtNext g b x)).1 = _ ∧ _
   refine best_from g (r := r) (b := prtNext g b x) ?_ fun e he => hT e (by simp [he])
   unfold prtNext
   split
   · exact h
   · split
     · exact ⟨x, hT x (by simp), rfl, rfl⟩
     · exact h
theorem bestP_from {g : Gr} {l : List Int} (h : l ≠ []) : ∃ e, e ∈ l ∧ (bestP g l).1 = codeM g (fromM g e) ∧ (bestP g l).2.1 = fromM g e := by
 cases l with
 | nil => exact absurd rfl h
 | cons a r => exact best_from g ⟨a, by simp, rfl, rfl⟩ fun e he => by simp [he]
theorem nextP_ways {g : Gr} {b : Prt} {e : Int} (h : 1 ≤ b.2.2) : 1 ≤ (prtNext g b e).2.2 ∧ (prtNext g b e).2.2 ≤ b.2.2 + 1 := by
 unfold prtNext
 split
 · exact ⟨by show (1 : Int) ≤ b.2.2 + 1; omega, Int.le_refl _⟩
 · split
   · exact ⟨Int.le_refl _, by show (1 : Int) ≤ b.2.2 + 1; omega⟩
   · exact ⟨h, by omega⟩
theorem bestTo_ways {g : Gr} : ∀ {r : List Int} {b : Prt}, 1 ≤ b.2.2 → 1 ≤ (r.foldl (prtNext g) b).2.2 ∧ (r.foldl (prtNext g) b).2.2 ≤ b.2.2 + r.length
 | [], b, h => ⟨h, by simp⟩
 | x :: r, b, h => by
   obtain ⟨h1, h2⟩ := nextP_ways (g := g) (e := x) h
   obtain ⟨h3, h4⟩ := bestTo_ways (g := g) (r := r) h1
   refine ⟨h3, ?_⟩
   show (r.foldl (prtNext g) (prtNext g b x)).2.2 ≤ _
   simp only [List.length_cons]
   omega
theorem bestP_ways {g : Gr} {l : List Int} : 0 ≤ (bestP g l).2.2 ∧ (bestP g l).2.2 ≤ l.length := by
 cases l with
 | nil => exact ⟨Int.le_refl _, Int.le_refl _⟩
 | cons a r =>
   have := bestTo_ways (g := g) (r := r) (b := prtOf g a) (Int.le_refl _)
   show 0 ≤ (r.foldl (prtNext g) (prtOf g a)).2.2 ∧ (r.foldl (prtNext g) (prtOf g a)).2.2 ≤ _
   have e : (prtOf g a).2.2 = 1 := rfl
   rw [e] at this
   simp only [List.length_cons]
   omega
def leastW (l : List Int) : Int := l.foldl min 100
theorem foldl_min : ∀ (l : List Int) (a : Int), (l.foldl min a ≤ a ∧ ∀ x, x ∈ l → l.foldl min a ≤ x) ∧ (l.foldl min a = a ∨ l.foldl min a ∈ l)
 | [], a => ⟨⟨Int.le_refl _, fun x hx => by cases hx⟩, .inl rfl⟩
 | y :: r, a => by
   obtain ⟨⟨h1, h2⟩, h3⟩ := foldl_min r (min a y)
   show ((r.foldl min (min a y) ≤ a ∧ _) ∧ _)
   refine ⟨⟨by omega, fun x hx => ?_⟩, ?_⟩
   · show r.foldl min (min a y) ≤ x
     rcases List.mem_cons.1 hx with rfl | hx
     · omega
     · exact h2 x hx
   · show r.foldl min (min a y) = a ∨ r.foldl min (min a y) ∈ y :: r
     rcases h3 with h3 | h3
     · rw [h3]
       by_cases h : a ≤ y
       · exact .inl (by omega)
       · exact .inr (by rw [show min a y = y by omega]; simp)
     · exact .inr (by simp [h3])
theorem leastW_mem {l : List Int} (h : l ≠ []) (hl : ∀ x, x ∈ l → x < 100) : leastW l ∈ l := by
 obtain ⟨⟨_, h2⟩, h3⟩ := foldl_min l 100
 rcases h3 with h3 | h3
 · cases l with
   | nil => exact absurd rfl h
   | cons a r =>
     have h4 := h2 a (by simp)
     have h5 := hl a (by simp)
     rw [h3] at h4
     omega
 · exact h3
def befP (a b : Prt) : Bool := if a.1 = b.1 then decide (leastW a.2.1.1 < leastW b.2.1.1) else lexI a.1 b.1
theorem befP_irr (a : Prt) : befP a a = false := by unfold befP; rw [if_pos rfl]; simp
theorem befP_trans {a b c : Prt} (h1 : befP a b = true) (h2 : befP b c = true) : befP a c = true := by
 unfold befP at h1 h2 ⊢
 by_cases e1 : a.1 = b.1
 · by_cases e2 : b.1 = c.1
   · rw [if_pos e1, decide_eq_true_eq] at h1
     rw [if_pos e2, decide_eq_true_eq] at h2
     rw [if_pos (e1.trans e2), decide_eq_true_eq]
     omega
   · rw [if_neg e2] at h2
     rw [if_neg (fun e => e2 (e1 ▸ e)), e1]
     exact h2
 · rw [if_neg e1] at h1
   by_cases e2 : b.1 = c.1
   · rw [if_neg (fun e => e1 (e.trans e2.symm)), ← e2]
     exact h1
   · rw [if_neg e2] at h2
     have h3 := lexI_trans h1 h2
     rw [if_neg (fun e => by rw [e, lexI_irr] at h3; cases h3)]
     exact h3
theorem befP_asym {a b : Prt} (h : befP a b = true) : befP b a = false := by
 cases hc : befP b a
 · rfl
 · have := befP_trans h hc
   rw [befP_irr] at this
   cases this
theorem befP_tri {a b : Prt} (h : leastW a.2.1.1 ≠ leastW b.2.1.1) : befP a b = true ∨ befP b a = true := by
 unfold befP
 by_cases e : a.1 = b.1
 · rw [if_pos e, if_pos e.symm, decide_eq_true_eq, decide_eq_true_eq]
   omega
 · rw [if_neg e, if_neg (fun h2 => e h2.symm)]
   exact lexI_tri e
def insP (b : Prt) : List Prt → List Prt
 | [] => [b]
 | x :: r => if befP b x then b :: x :: r else x :: insP b r
theorem insP_perm (b : Prt) : ∀ l, (insP b l).Perm (b :: l)
 | [] => List.Perm.refl _
 | x :: r => by
   unfold insP
   split
   · exact List.Perm.refl _
   · exact ((insP_perm b r).cons x).trans (List.Perm.swap _ _ _)
theorem insP_sorted {b : Prt} : ∀ {l : List Prt}, l.Pairwise (fun x y => befP x y = true) → (∀ x, x ∈ l → leastW x.2.1.1 ≠ leastW b.2.1.1) → (insP b l).Pairwise (fun x y => befP x y = true)
 | [], _, _ => List.pairwise_singleton _ _
 | x :: r, h, hd => by
   obtain ⟨h1, h2⟩ := List.pairwise_cons.1 h
   unfold insP
   split
   · rename_i hb
     refine List.pairwise_cons.2 ⟨fun y hy => ?_, h⟩
     rcases List.mem_cons.1 hy with rfl | hy
     · exact hb
     · exact befP_trans hb (h1 y hy)
   · rename_i hb
     refine List.pairwise_cons.2 ⟨fun y hy => ?_, insP_sorted h2 fun y hy => hd y (by simp [hy])⟩
     rcases List.mem_cons.1 ((insP_perm b r).mem_iff.1 hy) with rfl | hy
     · rcases befP_tri (hd x (by simp)) with h | h
       · exact h
       · exact absurd h hb
     · exact h1 y hy
def insK (b : Prt) : List Prt → Nat
 | [] => 0
 | x :: r => if befP b x then 0 else insK b r + 1
theorem insP_eq (b : Prt) : ∀ l, insP b l = l.take (insK b l) ++ b :: l.drop (insK b l)
 | [] => rfl
 | x :: r => by
   unfold insP insK
   split
   · rfl
   · rw [insP_eq b r]; rfl
theorem sorted_one : ∀ {l m : List Prt}, l.Perm m → l.Pairwise (fun x y => befP x y = true) → m.Pairwise (fun x y => befP x y = true) → l = m
 | [], m, h, _, _ => by
   have := h.symm.eq_nil
   exact this.symm
 | a :: r, [], h, _, _ => by
   have := h.eq_nil
   cases this
 | a :: r, b :: s, h, h1, h2 => by
   obtain ⟨h3, h4⟩ := List.pairwise_cons.1 h1
   obtain ⟨h5, h6⟩ := List.pairwise_cons.1 h2
   have e : a = b := by
    rcases List.mem_cons.1 (h.mem_iff.1 (List.mem_cons_self ..) : a ∈ b :: s) with e | ha
    · exact e
    · rcases List.mem_cons.1 (h.mem_iff.2 (List.mem_cons_self ..) : b ∈ a :: r) with e | hb
      · exact e.symm
      · have := befP_asym (h3 b hb)
        rw [h5 a ha] at this
        cases this
   subst e
   rw [sorted_one (List.Perm.cons_inv h) h4 h6]
def compE (g : Gr) (e : Int) : Int := clsW g ((wiresE (edgeAt g e)).getD 0 0)
def openC (g : Gr) (c : Int) : Prop := ∃ v, v ∈ (openM g).1 ∧ clsW g v = c
def grpTo (g : Gr) (c : Int) (k : Nat) : List Int := (idW k).filter fun e => decide (compE g e = c)
def grpC (g : Gr) (c : Int) : List Int := grpTo g c g.2.1.length
theorem idW_succ (k : Nat) : idW (k + 1) = idW k ++ [(k : Int)] := by simp [idW, List.range_succ]
theorem grpTo_succ (g : Gr) (c : Int) (k : Nat) : grpTo g c (k + 1) = grpTo g c k ++ if compE g (k : Int) = c then [(k : Int)] else [] := by
 unfold grpTo
 rw [idW_succ, List.filter_append]
 congr 1
 split
 · rename_i h; simp [h]
 · rename_i h; simp [h]
theorem mem_idW {x : Int} {k : Nat} : x ∈ idW k ↔ 0 ≤ x ∧ x < (k : Int) := by
 unfold idW
 rw [List.mem_map]
 constructor
 · rintro ⟨w, hw, rfl⟩
   have := List.mem_range.1 hw
   omega
 · intro h
   exact ⟨x.toNat, List.mem_range.2 (by omega), by omega⟩
theorem mem_grpTo {g : Gr} {c e : Int} {k : Nat} : e ∈ grpTo g c k ↔ (0 ≤ e ∧ e < (k : Int)) ∧ compE g e = c := by
 unfold grpTo
 rw [List.mem_filter, mem_idW, decide_eq_true_eq]
section
variable {g : Gr} {n : Nat}
theorem first_mem (h : Mono g n) {e : Int} (h0 : 0 ≤ e) (hm : e < (g.2.1.length : Int)) : (wiresE (edgeAt g e)).getD 0 0 ∈ wiresE (edgeAt g e) := by
 have hk := egB_len (h.kind _ (edge_mem (show e.toNat < g.2.1.length by omega)))
 have hl : 1 ≤ (wiresE (edgeAt g e)).length := by
  unfold wiresE edgeAt
  rw [List.length_append]
  exact hk.2
 revert hl
 generalize wiresE (edgeAt g e) = L
 intro hl
 cases L with
 | nil => simp at hl
 | cons x r => simp
theorem comp_of (h : Mono g n) {e w : Int} (h0 : 0 ≤ e) (hm : e < (g.2.1.length : Int)) (hw : w ∈ wiresE (edgeAt g e)) : clsW g w = compE g e := cls_edge h h0 hm hw (first_mem h h0 hm)
theorem inv_nil (g : Gr) (n : Nat) : WInv g n ([], []) := ⟨List.nodup_nil, fun x hx => (by cases hx), List.nodup_nil, fun x hx => (by cases hx), fun x hx => (by cases hx)⟩
theorem startE_inv (h : Mono g n) {e : Int} (hm : e < (g.2.1.length : Int)) : WInv g n (startE g e) := (inv_nil g n).step h hm
theorem startE_eq {e : Int} (h0 : 0 ≤ e) : startE g e = (giveL [] (wiresE (edgeAt g e)), [e]) := by
 unfold startE stepE
 rw [if_neg (by simp; omega)]
 rfl
theorem startO_inv (h : Mono g n) : WInv g n (startO g) := by
 refine ⟨giveL_nodup List.nodup_nil, fun x hx => ?_, List.nodup_nil, fun x hx => (by cases hx), fun x hx => (by cases hx)⟩
 rcases mem_giveL.1 hx with hx | hx
 · cases hx
 · refine h.inn x ?_
   unfold t_allW
   rcases List.mem_append.1 hx with hx | hx
   · exact List.mem_append_left _ hx
   · exact List.mem_append_right _ (List.mem_append_left _ hx)
theorem fromM_inv (h : Mono g n) {e : Int} (hm : e < (g.2.1.length : Int)) : WInv g n (fromM g e) := (startE_inv h hm).fin h
theorem openM_inv (h : Mono g n) : WInv g n (openM g) := (startO_inv h).fin h
theorem from_wire (h : Mono g n) {e w : Int} (h0 : 0 ≤ e) (hm : e < (g.2.1.length : Int)) : w ∈ (fromM g e).1 ↔ (0 ≤ w ∧ w < (n : Int)) ∧ clsW g w = compE g e := by
 unfold fromM
 rw [fin_wire h (startE_inv h hm), startE_eq h0]
 refine and_congr_right fun _ => ⟨?_, fun e2 => ?_⟩
 · rintro ⟨v, hv, e2⟩
   rcases mem_giveL.1 hv with hv | hv
   · cases hv
   · rw [← e2, comp_of h h0 hm hv]
 · exact ⟨_, mem_giveL.2 (.inr (first_mem h h0 hm)), e2.symm⟩
theorem from_edge (h : Mono g n) {e f : Int} (h0 : 0 ≤ e) (hm : e < (g.2.1.length : Int)) : f ∈ (fromM g e).2 ↔ (0 ≤ f ∧ f < (g.2.1.length : Int)) ∧ compE g f = compE g e := by
 constructor
 · intro hf
   have hr := (fromM_inv h hm).rg2 f hf
   have hw := (fin_edge h (startE_inv h hm) hr.1 hr.2 (first_mem h hr.1 hr.2)).1 hf
   exact ⟨hr, ((from_wire h h0 hm).1 hw).2⟩
 · rintro ⟨hr, e2⟩
   have hw := first_mem h hr.1 hr.2
   exact (fin_edge h (startE_inv h hm) hr.1 hr.2 hw).2 ((from_wire h h0 hm).2 ⟨h.wires hr.1 hr.2 _ hw, e2⟩)
theorem open_edge (h : Mono g n) {f : Int} (h0 : 0 ≤ f) (hm : f < (g.2.1.length : Int)) : f ∈ (openM g).2 ↔ openC g (compE g f) := by
 have hw := first_mem h h0 hm
 unfold openM
 rw [fin_edge h (startO_inv h) h0 hm hw]
 constructor
 · intro hf
   exact ⟨_, hf, rfl⟩
 · rintro ⟨v, hv, e⟩
   unfold openM at hv
   obtain ⟨_, u, hu, e2⟩ := (fin_wire h (startO_inv h)).1 hv
   exact (fin_wire h (startO_inv h)).2 ⟨h.wires h0 hm _ hw, u, hu, e2.trans e⟩
theorem open_wire (h : Mono g n) {w : Int} (hr : 0 ≤ w ∧ w < (n : Int)) : w ∈ (openM g).1 ↔ openC g (clsW g w) := by
 constructor
 · intro hw; exact ⟨w, hw, rfl⟩
 · rintro ⟨v, hv, e⟩
   unfold openM at hv ⊢
   obtain ⟨_, u, hu, e2⟩ := (fin_wire h (startO_inv h)).1 hv
   exact (fin_wire h (startO_inv h)).2 ⟨hr, u, hu, e2.trans e⟩
def refB (g : Gr) (e : Nat) : Nat → Prt
 | 0 => prtOf g (e : Int)
 | k + 1 => if e < k ∧ (k : Int) ∈ (refB g e k).2.1.2 then prtNext g (refB g e k) (k : Int) else refB g e k
theorem grpTo_nil {e k : Nat} (hle : ∀ j : Nat, j < e → compE g (j : Int) ≠ compE g (e : Int)) (hk : k ≤ e) : grpTo g (compE g (e : Int)) k = [] := by
 refine List.eq_nil_iff_forall_not_mem.2 fun x hx => ?_
 obtain ⟨hr, hc⟩ := mem_grpTo.1 hx
 refine hle x.toNat (by omega) ?_
 rw [show ((x.toNat : Nat) : Int) = x by omega]
 exact hc
theorem refB_to (h : Mono g n) {e : Nat} (he : e < g.2.1.length) (hle : ∀ j : Nat, j < e → compE g (j : Int) ≠ compE g (e : Int)) : ∀ k, k ≤ g.2.1.length → refB g e k = if k ≤ e then prtOf g (e : Int) else bestP g (grpTo g (compE g (e : Int)) k)
 | 0, _ => by rw [if_pos (by omega)]; rfl
 | k + 1, hk => by
   have ih := refB_to h he hle k (by omega)
   by_cases h1 : k < e
   · rw [refB, if_neg (fun x => absurd x.1 (by omega)), ih, if_pos (show k ≤ e by omega), if_pos (show k + 1 ≤ e by omega)]
   · by_cases h2 : k = e
     · subst h2
       rw [refB, if_neg (fun x => absurd x.1 (by omega)), ih, if_pos (Nat.le_refl _), if_neg (show ¬ k + 1 ≤ k by omega), grpTo_succ, grpTo_nil hle (Nat.le_refl _), if_pos rfl]
       rfl
     · rw [refB, ih, if_neg (show ¬ k ≤ e by omega), if_neg (show ¬ k + 1 ≤ e by omega), grpTo_succ]
       have hne : grpTo g (compE g (e : Int)) k ≠ [] := fun e0 => by
        have : (e : Int) ∈ grpTo g (compE g (e : Int)) k := mem_grpTo.2 ⟨by omega, rfl⟩
        rw [e0] at this
        cases this
       obtain ⟨f, hf, _, hf2⟩ := bestP_from (g := g) hne
       obtain ⟨hfr, hfc⟩ := mem_grpTo.1 hf
       have hmem : (k : Int) ∈ (bestP g (grpTo g (compE g (e : Int)) k)).2.1.2 ↔ compE g (k : Int) = compE g (e : Int) := by
        rw [hf2, from_edge h hfr.1 (by omega), hfc]
        exact ⟨fun x => x.2, fun x => ⟨⟨by omega, by omega⟩, x⟩⟩
       by_cases hc : compE g (k : Int) = compE g (e : Int)
       · rw [if_pos ⟨by omega, hmem.2 hc⟩, if_pos hc, bestP_snoc hne]
       · rw [if_neg (fun x => hc (hmem.1 x.2)), if_neg hc, List.append_nil]
theorem refB_all (h : Mono g n) {e : Nat} (he : e < g.2.1.length) (hle : ∀ j : Nat, j < e → compE g (j : Int) ≠ compE g (e : Int)) : refB g e g.2.1.length = bestP g (grpC g (compE g (e : Int))) := by
 rw [refB_to h he hle _ (Nat.le_refl _), if_neg (by omega)]
 rfl
def scanTo (g : Gr) : Nat → List Int × List Prt
 | 0 => ((openM g).2, [])
 | k + 1 => if (k : Int) ∈ (scanTo g k).1 then scanTo g k else ((scanTo g k).1 ++ (fromM g (k : Int)).2, insP (refB g k g.2.1.length) (scanTo g k).2)
def partsM (g : Gr) : List Prt := (scanTo g g.2.1.length).2
theorem scan_seen (h : Mono g n) : ∀ k, k ≤ g.2.1.length → ∀ f : Int, 0 ≤ f → f < (g.2.1.length : Int) → (f ∈ (scanTo g k).1 ↔ openC g (compE g f) ∨ ∃ j : Nat, j < k ∧ compE g (j : Int) = compE g f)
 | 0, _, f, h0, hm => by
   show f ∈ (openM g).2 ↔ _
   rw [open_edge h h0 hm]
   constructor
   · exact .inl
   · rintro (x | ⟨j, hj, _⟩)
     · exact x
     · omega
 | k + 1, hk, f, h0, hm => by
   have ih := scan_seen h k (by omega)
   rw [scanTo]
   split
   · rename_i hs
     rw [ih f h0 hm]
     have hk' := (ih (k : Int) (by omega) (by omega)).1 hs
     constructor
     · rintro (x | ⟨j, hj, e⟩)
       · exact .inl x
       · exact .inr ⟨j, by omega, e⟩
     · rintro (x | ⟨j, hj, e⟩)
       · exact .inl x
       · by_cases hjk : j < k
         · exact .inr ⟨j, hjk, e⟩
         · obtain rfl : j = k := by omega
           rcases hk' with x | ⟨i, hi, e2⟩
           · exact .inl (e ▸ x)
           · exact .inr ⟨i, hi, e2.trans e⟩
   · show f ∈ (scanTo g k).1 ++ _ ↔ _
     rw [List.mem_append, ih f h0 hm, from_edge h (by omega) (by omega)]
     constructor
     · rintro ((x | ⟨j, hj, e⟩) | ⟨_, e⟩)
       · exact .inl x
       · exact .inr ⟨j, by omega, e⟩
       · exact .inr ⟨k, by omega, e.symm⟩
     · rintro (x | ⟨j, hj, e⟩)
       · exact .inl (.inl x)
       · by_cases hjk : j < k
         · exact .inl (.inr ⟨j, hjk, e⟩)
         · obtain rfl : j = k := by omega
           exact .inr ⟨⟨h0, hm⟩, e.symm⟩
def repsTo (g : Gr) : Nat → List Int
 | 0 => []
 | k + 1 => if (k : Int) ∈ (scanTo g k).1 then repsTo g k else repsTo g k ++ [compE g (k : Int)]
theorem mem_reps (h : Mono g n) {c : Int} : ∀ k, k ≤ g.2.1.length → (c ∈ repsTo g k ↔ ¬ openC g c ∧ ∃ j : Nat, j < k ∧ compE g (j : Int) = c)
 | 0, _ => ⟨fun x => (by cases x), fun ⟨_, j, hj, _⟩ => (by omega)⟩
 | k + 1, hk => by
   have ih := mem_reps h (c := c) k (by omega)
   have hs := scan_seen h k (by omega) (k : Int) (by omega) (by omega)
   rw [repsTo]
   split
   · rename_i hin
     rw [ih]
     refine and_congr_right fun hno => ⟨fun ⟨j, hj, e⟩ => ⟨j, by omega, e⟩, fun ⟨j, hj, e⟩ => ?_⟩
     by_cases hjk : j < k
     · exact ⟨j, hjk, e⟩
     · obtain rfl : j = k := by omega
       rcases hs.1 hin with x | ⟨i, hi, e2⟩
       · exact absurd (e ▸ x) hno
       · exact ⟨i, hi, e2.trans e⟩
   · rename_i hout
     rw [List.mem_append, ih, List.mem_singleton]
     constructor
     · rintro (⟨hno, j, hj, e⟩ | rfl)
       · exact ⟨hno, j, by omega, e⟩
       · exact ⟨fun x => hout (hs.2 (.inl x)), k, by omega, rfl⟩
     · rintro ⟨hno, j, hj, e⟩
       by_cases hjk : j < k
       · exact .inl ⟨hno, j, hjk, e⟩
       · obtain rfl : j = k := by omega
         exact .inr e.symm
theorem reps_nodup (h : Mono g n) : ∀ k, k ≤ g.2.1.length → (repsTo g k).Nodup
 | 0, _ => List.nodup_nil
 | k + 1, hk => by
   have ih := reps_nodup h k (by omega)
   have hs := scan_seen h k (by omega) (k : Int) (by omega) (by omega)
   rw [repsTo]
   split
   · exact ih
   · rename_i hout
     rw [List.nodup_append]
     refine ⟨ih, by simp, fun a ha b hb => ?_⟩
     obtain rfl := List.mem_singleton.1 hb
     intro e
     subst e
     exact hout (hs.2 (.inr ((mem_reps h k (by omega)).1 ha).2))
theorem best_comp (_h : Mono g n) {c : Int} (hc : ∃ j : Nat, j < g.2.1.length ∧ compE g (j : Int) = c) : ∃ e : Int, (0 ≤ e ∧ e < (g.2.1.length : Int)) ∧ compE g e = c ∧ (bestP g (grpC g c)).1 = codeM g (fromM g e) ∧ (bestP g (grpC g c)).2.1 = fromM g e := by
 obtain ⟨j, hj, e⟩ := hc
 have hne : grpC g c ≠ [] := fun e0 => by
  have : (j : Int) ∈ grpC g c := mem_grpTo.2 ⟨by omega, e⟩
  rw [e0] at this
  cases this
 obtain ⟨f, hf, h1, h2⟩ := bestP_from (g := g) hne
 obtain ⟨hfr, hfc⟩ := mem_grpTo.1 hf
 exact ⟨f, hfr, hfc, h1, h2⟩
theorem best_least (h : Mono g n) {c : Int} (hc : ∃ j : Nat, j < g.2.1.length ∧ compE g (j : Int) = c) : clsW g (leastW (bestP g (grpC g c)).2.1.1) = c ∧ leastW (bestP g (grpC g c)).2.1.1 ∈ (bestP g (grpC g c)).2.1.1 := by
 obtain ⟨e, he, hec, _, h2⟩ := best_comp h hc
 rw [h2]
 have hne : (fromM g e).1 ≠ [] := fun e0 => by
  have := (from_wire h he.1 he.2).2 ⟨h.wires he.1 he.2 _ (first_mem h he.1 he.2), rfl⟩
  rw [e0] at this
  cases this
 have hm := leastW_mem hne fun x hx => by have := ((from_wire h he.1 he.2).1 hx).1; have := h.n100; omega
 exact ⟨((from_wire h he.1 he.2).1 hm).2.trans hec, hm⟩
theorem scan_parts (h : Mono g n) : ∀ k, k ≤ g.2.1.length → ((scanTo g k).2.Perm ((repsTo g k).map fun c => bestP g (grpC g c))) ∧ (scanTo g k).2.Pairwise (fun x y => befP x y = true)
 | 0, _ => ⟨List.Perm.refl _, List.Pairwise.nil⟩
 | k + 1, hk => by
   obtain ⟨ih1, ih2⟩ := scan_parts h k (by omega)
   have hs := scan_seen h k (by omega) (k : Int) (by omega) (by omega)
   rw [scanTo, repsTo]
   split
   · exact ⟨ih1, ih2⟩
   · rename_i hout
     have hle : ∀ j : Nat, j < k → compE g (j : Int) ≠ compE g (k : Int) := fun j hj e => hout (hs.2 (.inr ⟨j, hj, e⟩))
     show (insP (refB g k g.2.1.length) (scanTo g k).2).Perm _ ∧ (insP (refB g k g.2.1.length) (scanTo g k).2).Pairwise _
     rw [refB_all h (by omega) hle]
     refine ⟨((insP_perm _ _).trans (ih1.cons _)).trans ?_, insP_sorted ih2 fun x hx => ?_⟩
     · rw [List.map_append]
       exact (List.perm_append_comm (l₁ := [bestP g (grpC g (compE g (k : Int)))]) (l₂ := (repsTo g k).map fun c => bestP g (grpC g c)))
     · obtain ⟨c, hc, rfl⟩ := List.mem_map.1 (ih1.mem_iff.1 hx)
       obtain ⟨_, j, hj, e⟩ := (mem_reps h k (by omega)).1 hc
       intro e2
       have h1 := (best_least h (c := c) ⟨j, by omega, e⟩).1
       have h2 := (best_least h (c := compE g (k : Int)) ⟨k, by omega, rfl⟩).1
       rw [e2, h2] at h1
       exact hle j hj (e.trans h1.symm)
theorem nodup_perm {l m : List Int} (h1 : l.Nodup) (h2 : m.Nodup) (h : ∀ x, x ∈ l ↔ x ∈ m) : l.Perm m := by
 refine List.perm_iff_count.2 fun x => ?_
 by_cases hx : x ∈ l
 · rw [List.Nodup.count h1, List.Nodup.count h2, if_pos hx, if_pos ((h x).1 hx)]
 · rw [List.count_eq_zero.2 hx, List.count_eq_zero.2 fun hm => hx ((h x).2 hm)]
theorem parts_eq (h : Mono g n) {κ : List Int} (hnd : κ.Nodup) (hκ : ∀ c, c ∈ κ ↔ ¬ openC g c ∧ ∃ j : Nat, j < g.2.1.length ∧ compE g (j : Int) = c) {P : List Prt} (hP : P.Perm (κ.map fun c => bestP g (grpC g c))) (hs : P.Pairwise (fun x y => befP y x = false)) : P = partsM g := by
 obtain ⟨h1, h2⟩ := scan_parts h g.2.1.length (Nat.le_refl _)
 have hp : κ.Perm (repsTo g g.2.1.length) := nodup_perm hnd (reps_nodup h _ (Nat.le_refl _)) fun c => by rw [hκ, mem_reps h _ (Nat.le_refl _)]
 have hP2 : P.Perm (partsM g) := (hP.trans (hp.map _)).trans h1.symm
 refine sorted_one hP2 ?_ h2
 -- no two parts have one least wire
 have hap : (partsM g).Pairwise (fun x y => leastW x.2.1.1 ≠ leastW y.2.1.1) := by
  refine (h1.pairwise_iff (fun {_ _} hne => Ne.symm hne)).2 ?_
  rw [List.pairwise_map]
  refine (reps_nodup h _ (Nat.le_refl _)).imp_of_mem fun {a b} ha hb hne e => hne ?_
  have h3 := (best_least h ((mem_reps h _ (Nat.le_refl _)).1 ha).2).1
  have h4 := (best_least h ((mem_reps h _ (Nat.le_refl _)).1 hb).2).1
  rw [← h3, ← h4, e]
 have hap2 : P.Pairwise (fun x y => leastW x.2.1.1 ≠ leastW y.2.1.1) := (hP2.pairwise_iff (fun {_ _} hne => Ne.symm hne)).2 hap
 refine (hs.and hap2).imp fun {a b} ⟨h3, h4⟩ => ?_
 rcases befP_tri h4 with h5 | h5
 · exact h5
 · rw [h3] at h5; cases h5
end
end Go.Proofs.YtpkmjenoniedjaaGreat
namespace Go.Proofs.YtpkmjenoniedjaaGreat
def putN (arr : List Int) (off : Int) (o : List Int) : List Int := (List.range arr.length).map fun w : Nat => if (w : Int) ∈ o then off + idx o (w : Int) else arr.getD w 0
@[simp] theorem putN_length (arr : List Int) (off : Int) (o : List Int) : (putN arr off o).length = arr.length := by simp [putN]
theorem putN_nil (arr : List Int) (off : Int) : putN arr off [] = arr := by
 apply List.ext_getElem?
 intro i
 by_cases hi : i < arr.length
 · simp [putN, List.getD, hi]
 · rw [List.getElem?_eq_none (by simpa using hi), List.getElem?_eq_none (by simpa using hi)]
theorem idx_lt {l : List Int} {w : Int} (h : w ∈ l) : 0 ≤ idx l w ∧ idx l w < l.length := by
 unfold idx
 have := List.idxOf_lt_length_of_mem h
 omega
theorem idx_get {l : List Int} {w : Int} (h : w ∈ l) : l[(idx l w).toNat]? = some w := by
 unfold idx
 rw [Int.toNat_natCast, List.getElem?_eq_getElem (List.idxOf_lt_length_of_mem h)]
 rw [List.getElem_idxOf]
theorem idx_inj {l : List Int} {v w : Int} (hv : v ∈ l) (hw : w ∈ l) (h : idx l v = idx l w) : v = w := by
 have h1 := idx_get hv
 rw [h, idx_get hw] at h1
 exact (Option.some.inj h1).symm
theorem idx_at {l : List Int} (hn : l.Nodup) {k : Nat} {w : Int} (h : l[k]? = some w) : idx l w = k := by
 have hk := (List.getElem?_eq_some_iff.1 h).1
 have h1 := idx_get (List.mem_of_getElem? h)
 have h2 := (idx_lt (List.mem_of_getElem? h))
 have h3 := (List.getElem?_inj (i := (idx l w).toNat) (j := k) (by omega) hn).1 (h1.trans h.symm)
 omega
theorem idx_take {l : List Int} {k : Nat} {w : Int} (h : w ∈ l.take k) : idx (l.take k) w = idx l w := by
 have e : l = l.take k ++ l.drop k := (List.take_append_drop k l).symm
 unfold idx
 conv => rhs; rw [e]
 rw [List.idxOf_append, if_pos h]
theorem idx_append {l m : List Int} {w : Int} : idx (l ++ m) w = if w ∈ l then idx l w else l.length + idx m w := by
 unfold idx
 rw [List.idxOf_append]
 split
 · rfl
 · omega
theorem putN_step {arr : List Int} {off : Int} {o : List Int} (hn : o.Nodup) {k : Nat} {w : Nat} (h : o[k]? = some (w : Int)) : putN arr off (o.take (k + 1)) = (putN arr off (o.take k)).set w (off + k) := by
 have htk : o.take (k + 1) = o.take k ++ [(w : Int)] := by rw [List.take_add_one, h]; rfl
 have hnot : (w : Int) ∉ o.take k := fun hm => by
  obtain ⟨i, hi, e⟩ := List.getElem_of_mem hm
  rw [List.length_take] at hi
  have hk := (List.getElem?_eq_some_iff.1 h).1
  have e2 : o[i]? = some (w : Int) := by rw [← e, List.getElem_take, List.getElem?_eq_getElem]
  have := (List.getElem?_inj (i := i) (j := k) (by omega) hn).1 (e2.trans h.symm)
  omega
 apply List.ext_getElem?
 intro i
 by_cases hi : i < arr.length
 · rw [List.getElem?_set]
   by_cases e : w = i
   · subst e
     rw [if_pos rfl, if_pos (by simpa using hi)]
     simp only [putN, List.getElem?_map, List.getElem?_range hi, Option.map_some]
     have hm : (w : Int) ∈ o.take (k + 1) := by rw [htk]; simp
     rw [if_pos hm, idx_take hm, idx_at hn h]
   · rw [if_neg e]
     simp only [putN, List.getElem?_map, List.getElem?_range hi, Option.map_some]
     have hne : (i : Int) ≠ (w : Int) := fun e2 => e (by omega)
     by_cases hm : (i : Int) ∈ o.take k
     · have hm2 : (i : Int) ∈ o.take (k + 1) := by rw [htk]; simp [hm]
       rw [if_pos hm, if_pos hm2, idx_take hm, idx_take hm2]
     · have hm2 : (i : Int) ∉ o.take (k + 1) := by rw [htk]; simp [hm, hne]
       rw [if_neg hm, if_neg hm2]
 · rw [List.getElem?_eq_none (by simpa using hi), List.getElem?_eq_none (by simpa using hi)]
def putF (arr : List Int) (off : Int) (o : List Int) (left : Int → Bool) : List Int := (List.range arr.length).map fun w : Nat => if (w : Int) ∈ o ∧ left (w : Int) = false then off + idx o (w : Int) else arr.getD w 0
@[simp] theorem putF_length (arr : List Int) (off : Int) (o : List Int) (left : Int → Bool) : (putF arr off o left).length = arr.length := by simp [putF]
theorem putF_start {arr : List Int} {off : Int} {o : List Int} {left : Int → Bool} (h : ∀ w, w ∈ o → left w = true) : putF arr off o left = arr := by
 apply List.ext_getElem?
 intro i
 by_cases hi : i < arr.length
 · simp only [putF, List.getElem?_map, List.getElem?_range hi, Option.map_some]
   rw [if_neg (fun hh => by rw [h _ hh.1] at hh; exact absurd hh.2 (by simp))]
   simp [List.getD, hi]
 · rw [List.getElem?_eq_none (by simpa using hi), List.getElem?_eq_none (by simpa using hi)]
theorem putF_end {arr : List Int} {off : Int} {o : List Int} {left : Int → Bool} (h : ∀ w, left w = false) : putF arr off o left = putN arr off o := by
 unfold putF putN
 refine List.map_congr_left fun w _ => ?_
 simp [h]
theorem putF_step {arr : List Int} {off : Int} {o : List Int} {left left' : Int → Bool} {w : Nat} (hw : (w : Int) ∈ o) (hl : ∀ x, left' x = (left x && !decide (x = (w : Int)))) : putF arr off o left' = (putF arr off o left).set w (off + idx o (w : Int)) := by
 apply List.ext_getElem?
 intro i
 by_cases hi : i < arr.length
 · rw [List.getElem?_set]
   by_cases e : w = i
   · subst e
     rw [if_pos rfl, if_pos (by simpa using hi)]
     simp only [putF, List.getElem?_map, List.getElem?_range hi, Option.map_some]
     rw [if_pos ⟨hw, by rw [hl]; simp⟩]
   · rw [if_neg e]
     simp only [putF, List.getElem?_map, List.getElem?_range hi, Option.map_some]
     have hne : (i : Int) ≠ (w : Int) := fun e2 => e (by omega)
     rw [hl, decide_eq_false hne, Bool.not_false, Bool.and_true]
 · rw [List.getElem?_eq_none (by simpa using hi), List.getElem?_eq_none (by simpa using hi)]
abbrev Nums := List Int × List Int × Int × Int
def addN (t : Nums) (s : WE) : Nums := (putN t.1 t.2.2.1 s.1, putN t.2.1 t.2.2.2 s.2, t.2.2.1 + s.1.length, t.2.2.2 + s.2.length)
def cn0 (g : Gr) : Nums := addN (List.replicate g.1.toNat (-1), List.replicate g.2.1.length (-1), 0, 0) (openM g)
def cnTo (g : Gr) : Nat → Nums
 | 0 => cn0 g
 | k + 1 => addN (cnTo g k) ((partsM g).getD k ([], ([], []), 0)).2.1
def cnM (g : Gr) : List Int × List Int := ((cnTo g (partsM g).length).1, (cnTo g (partsM g).length).2.1)
def numsL (n : Nat) (W : List Int) : List Int := (List.range n).map fun w : Nat => if (w : Int) ∈ W then idx W (w : Int) else -1
theorem numsL_put {n : Nat} {W o : List Int} (h : ∀ w, w ∈ o → w ∉ W) : putN (numsL n W) W.length o = numsL n (W ++ o) := by
 apply List.ext_getElem?
 intro i
 by_cases hi : i < n
 · have e1 : (numsL n W).getD i 0 = if (i : Int) ∈ W then idx W (i : Int) else -1 := by simp [numsL, List.getD, hi]
   simp only [putN, List.getElem?_map, List.getElem?_range (show i < (numsL n W).length by simpa [numsL] using hi), Option.map_some, e1]
   simp only [numsL, List.getElem?_map, List.getElem?_range hi, Option.map_some, idx_append, List.mem_append]
   by_cases ho : (i : Int) ∈ o
   · have hW := h _ ho
     simp [ho, hW]
   · by_cases hW : (i : Int) ∈ W
     · simp [ho, hW]
     · simp [ho, hW]
 · rw [List.getElem?_eq_none (by simpa [numsL] using hi), List.getElem?_eq_none (by simpa [numsL] using hi)]
theorem numsL_zero (n : Nat) : numsL n [] = List.replicate n (-1) := by
 unfold numsL
 rw [List.eq_replicate_iff]
 refine ⟨by simp, fun x hx => ?_⟩
 obtain ⟨w, _, rfl⟩ := List.mem_map.1 hx
 simp
def ordW (g : Gr) (k : Nat) : List Int := (openM g).1 ++ ((partsM g).take k).flatMap fun b => b.2.1.1
def ordE (g : Gr) (k : Nat) : List Int := (openM g).2 ++ ((partsM g).take k).flatMap fun b => b.2.1.2
section
variable {g : Gr} {n : Nat}
theorem parts_of (h : Mono g n) {b : Prt} (hb : b ∈ partsM g) : ∃ c, ¬ openC g c ∧ (∃ j : Nat, j < g.2.1.length ∧ compE g (j : Int) = c) ∧ b = bestP g (grpC g c) := by
 obtain ⟨h1, _⟩ := scan_parts h g.2.1.length (Nat.le_refl _)
 obtain ⟨c, hc, rfl⟩ := List.mem_map.1 (h1.mem_iff.1 hb)
 have := (mem_reps h _ (Nat.le_refl _)).1 hc
 exact ⟨c, this.1, this.2, rfl⟩
theorem part_has (h : Mono g n) {c : Int} (hc : ∃ j : Nat, j < g.2.1.length ∧ compE g (j : Int) = c) : (bestP g (grpC g c)).2.1.1.Nodup ∧ (bestP g (grpC g c)).2.1.2.Nodup ∧ (∀ w, w ∈ (bestP g (grpC g c)).2.1.1 ↔ (0 ≤ w ∧ w < (n : Int)) ∧ clsW g w = c) ∧ (∀ e, e ∈ (bestP g (grpC g c)).2.1.2 ↔ (0 ≤ e ∧ e < (g.2.1.length : Int)) ∧ compE g e = c) := by
 obtain ⟨e, he, hec, _, h2⟩ := best_comp h hc
 rw [h2]
 have hi := fromM_inv h he.2
 refine ⟨hi.nd1, hi.nd2, fun w => ?_, fun f => ?_⟩
 · rw [from_wire h he.1 he.2, hec]
 · rw [from_edge h he.1 he.2, hec]
theorem parts_apart (h : Mono g n) : (partsM g).Pairwise (fun x y => (∀ w, w ∈ x.2.1.1 → w ∉ y.2.1.1) ∧ ∀ e, e ∈ x.2.1.2 → e ∉ y.2.1.2) := by
 obtain ⟨h1, _⟩ := scan_parts h g.2.1.length (Nat.le_refl _)
 refine (h1.pairwise_iff (fun {_ _} hne => ⟨fun w hw hw2 => hne.1 w hw2 hw, fun e he he2 => hne.2 e he2 he⟩)).2 ?_
 rw [List.pairwise_map]
 refine (reps_nodup h _ (Nat.le_refl _)).imp_of_mem fun {a b} ha hb hne => ?_
 have ka := part_has h ((mem_reps h _ (Nat.le_refl _)).1 ha).2
 have kb := part_has h ((mem_reps h _ (Nat.le_refl _)).1 hb).2
 exact ⟨fun w hw hw2 => hne (((ka.2.2.1 w).1 hw).2.symm.trans ((kb.2.2.1 w).1 hw2).2), fun e he he2 => hne (((ka.2.2.2 e).1 he).2.symm.trans ((kb.2.2.2 e).1 he2).2)⟩
theorem take_apart {L : List Prt} {f : Prt → List Int} (h : L.Pairwise fun x y => ∀ w, w ∈ f x → w ∉ f y) {k : Nat} {b : Prt} (hb : L[k]? = some b) : ∀ w, w ∈ f b → w ∉ (L.take k).flatMap f := by
 intro w hw hm
 obtain ⟨x, hx, hwx⟩ := List.mem_flatMap.1 hm
 obtain ⟨i, hi, rfl⟩ := List.getElem_of_mem hx
 rw [List.length_take] at hi
 have hk := (List.getElem?_eq_some_iff.1 hb).1
 have hbe := (List.getElem?_eq_some_iff.1 hb).2
 rw [List.getElem_take] at hwx
 have := (List.pairwise_iff_getElem.1 h) i k (by omega) hk (by omega) w hwx
 rw [hbe] at this
 exact this hw
theorem cnTo_eq (h : Mono g n) : ∀ k, k ≤ (partsM g).length → cnTo g k = (numsL n (ordW g k), numsL g.2.1.length (ordE g k), ((ordW g k).length : Int), ((ordE g k).length : Int))
 | 0, _ => by
   have e1 : putN (List.replicate n (-1)) 0 (openM g).1 = numsL n (openM g).1 := by
    have := numsL_put (n := n) (W := []) (o := (openM g).1) (by simp)
    rw [numsL_zero] at this
    exact this
   have e2 : putN (List.replicate g.2.1.length (-1)) 0 (openM g).2 = numsL g.2.1.length (openM g).2 := by
    have := numsL_put (n := g.2.1.length) (W := []) (o := (openM g).2) (by simp)
    rw [numsL_zero] at this
    exact this
   show addN _ _ = _
   unfold addN ordW ordE
   rw [h.hn, Int.toNat_natCast]
   simp only [List.take_zero, List.flatMap_nil, List.append_nil, Int.zero_add]
   rw [e1, e2]
 | k + 1, hk => by
   have hb : (partsM g)[k]? = some (partsM g)[k] := List.getElem?_eq_getElem (by omega)
   obtain ⟨c, hno, hc, he⟩ := parts_of h (List.mem_of_getElem? hb)
   have hp := part_has h hc
   rw [← he] at hp
   have hap := parts_apart h
   have ow : ∀ w, w ∈ (partsM g)[k].2.1.1 → w ∉ ordW g k := fun w hw hm => by
    rcases List.mem_append.1 hm with h1 | h1
    · exact hno ⟨w, h1, ((hp.2.2.1 w).1 hw).2⟩
    · exact take_apart (f := fun b => b.2.1.1) (hap.imp fun hh => hh.1) hb w hw h1
   have oe : ∀ e, e ∈ (partsM g)[k].2.1.2 → e ∉ ordE g k := fun e hw hm => by
    have hr := (hp.2.2.2 e).1 hw
    rcases List.mem_append.1 hm with h1 | h1
    · exact hno (hr.2 ▸ (open_edge h hr.1.1 hr.1.2).1 h1)
    · exact take_apart (f := fun b => b.2.1.2) (hap.imp fun hh => hh.2) hb e hw h1
   have e1 : ordW g (k + 1) = ordW g k ++ (partsM g)[k].2.1.1 := by unfold ordW; rw [List.take_add_one, hb, List.flatMap_append, List.append_assoc]; simp
   have e2 : ordE g (k + 1) = ordE g k ++ (partsM g)[k].2.1.2 := by unfold ordE; rw [List.take_add_one, hb, List.flatMap_append, List.append_assoc]; simp
   have eg : (partsM g).getD k ([], ([], []), 0) = (partsM g)[k] := by rw [List.getD_eq_getElem?_getD, hb]; rfl
   rw [cnTo, cnTo_eq h k (by omega), eg]
   unfold addN
   rw [numsL_put ow, numsL_put oe, e1, e2, List.length_append, List.length_append]
   simp
theorem flat_nodup {L : List Prt} {f : Prt → List Int} (h : L.Pairwise fun x y => ∀ w, w ∈ f x → w ∉ f y) (hf : ∀ b, b ∈ L → (f b).Nodup) : (L.flatMap f).Nodup := by
 induction L with
 | nil => simp
 | cons a r ih =>
   obtain ⟨h1, h2⟩ := List.pairwise_cons.1 h
   rw [List.flatMap_cons, List.nodup_append]
   refine ⟨hf a (by simp), ih h2 fun b hb => hf b (by simp [hb]), fun x hx y hy e => ?_⟩
   subst e
   obtain ⟨z, hz, hxz⟩ := List.mem_flatMap.1 hy
   exact h1 z hz x hx hxz
theorem ordW_all (h : Mono g n) : (ordW g (partsM g).length).Nodup ∧ ∀ w : Int, w ∈ ordW g (partsM g).length ↔ 0 ≤ w ∧ w < (n : Int) := by
 have hap := parts_apart h
 have hoi := openM_inv h
 obtain ⟨hs1, _⟩ := scan_parts h g.2.1.length (Nat.le_refl _)
 unfold ordW
 rw [List.take_length]
 constructor
 · rw [List.nodup_append]
   refine ⟨hoi.nd1, flat_nodup (f := fun b => b.2.1.1) (hap.imp fun hh => hh.1) (fun b hb => ?_), fun x hx y hy e => ?_⟩
   · obtain ⟨c, _, hc, rfl⟩ := parts_of h hb
     exact (part_has h hc).1
   · subst e
     obtain ⟨b, hb, hxb⟩ := List.mem_flatMap.1 hy
     obtain ⟨c, hno, hc, rfl⟩ := parts_of h hb
     exact hno ⟨x, hx, (((part_has h hc).2.2.1 x).1 hxb).2⟩
 · intro w
   constructor
   · intro hw
     rcases List.mem_append.1 hw with h1 | h1
     · exact hoi.rg1 w h1
     · obtain ⟨b, hb, hxb⟩ := List.mem_flatMap.1 h1
       obtain ⟨c, hno, hc, rfl⟩ := parts_of h hb
       exact (((part_has h hc).2.2.1 w).1 hxb).1
   · intro hr
     rw [List.mem_append]
     by_cases ho : openC g (clsW g w)
     · exact .inl ((open_wire h hr).2 ho)
     · right
       -- the wire comes out of an edge
       have hm := h.all w.toNat (by omega)
       rw [show ((w.toNat : Nat) : Int) = w by omega] at hm
       unfold orgW at hm
       rcases List.mem_append.1 hm with h1 | h1
       · exact absurd ⟨w, (by
          unfold openM
          refine (fin_wire h (startO_inv h)).2 ⟨hr, w, ?_, rfl⟩
          exact mem_giveL.2 (.inr (List.mem_append_left _ h1))), rfl⟩ ho
       · have key : ∀ es : List Eg, w ∈ outW es → ∃ i : Nat, i < es.length ∧ w ∈ outE (es.getD i eg0) := fun es => by
          induction es with
          | nil => intro hh; simp [outW] at hh
          | cons a r ih =>
            intro hh
            unfold outW at hh
            rcases List.mem_append.1 hh with h2 | h2
            · exact ⟨0, by simp, by simpa [outE] using h2⟩
            · obtain ⟨i, hi, hx⟩ := ih h2
              exact ⟨i + 1, by simpa using hi, by simpa using hx⟩
         obtain ⟨i, hi, hwi⟩ := key g.2.1 h1
         have hwe : w ∈ wiresE (edgeAt g (i : Int)) := by
          unfold wiresE edgeAt
          rw [Int.toNat_natCast]
          exact List.mem_append_right _ hwi
         have hcl := comp_of h (e := (i : Int)) (by omega) (by omega) hwe
         have hcex : ∃ j : Nat, j < g.2.1.length ∧ compE g (j : Int) = clsW g w := ⟨i, hi, hcl.symm⟩
         refine List.mem_flatMap.2 ⟨bestP g (grpC g (clsW g w)), ?_, ((part_has h hcex).2.2.1 w).2 ⟨hr, rfl⟩⟩
         exact hs1.mem_iff.2 (List.mem_map.2 ⟨_, (mem_reps h _ (Nat.le_refl _)).2 ⟨ho, hcex⟩, rfl⟩)
theorem ordE_all (h : Mono g n) : (ordE g (partsM g).length).Nodup ∧ ∀ e : Int, e ∈ ordE g (partsM g).length ↔ 0 ≤ e ∧ e < (g.2.1.length : Int) := by
 have hap := parts_apart h
 have hoi := openM_inv h
 obtain ⟨hs1, _⟩ := scan_parts h g.2.1.length (Nat.le_refl _)
 unfold ordE
 rw [List.take_length]
 constructor
 · rw [List.nodup_append]
   refine ⟨hoi.nd2, flat_nodup (f := fun b => b.2.1.2) (hap.imp fun hh => hh.2) (fun b hb => ?_), fun x hx y hy e => ?_⟩
   · obtain ⟨c, _, hc, rfl⟩ := parts_of h hb
     exact (part_has h hc).2.1
   · subst e
     obtain ⟨b, hb, hxb⟩ := List.mem_flatMap.1 hy
     obtain ⟨c, hno, hc, rfl⟩ := parts_of h hb
     have hr := ((part_has h hc).2.2.2 x).1 hxb
     exact hno (hr.2 ▸ (open_edge h hr.1.1 hr.1.2).1 hx)
 · intro e
   constructor
   · intro hw
     rcases List.mem_append.1 hw with h1 | h1
     · exact hoi.rg2 e h1
     · obtain ⟨b, hb, hxb⟩ := List.mem_flatMap.1 h1
       obtain ⟨c, hno, hc, rfl⟩ := parts_of h hb
       exact (((part_has h hc).2.2.2 e).1 hxb).1
   · intro hr
     rw [List.mem_append]
     by_cases ho : openC g (compE g e)
     · exact .inl ((open_edge h hr.1 hr.2).2 ho)
     · have hcex : ∃ j : Nat, j < g.2.1.length ∧ compE g (j : Int) = compE g e := ⟨e.toNat, by omega, by rw [show ((e.toNat : Nat) : Int) = e by omega]⟩
       exact .inr (List.mem_flatMap.2 ⟨bestP g (grpC g (compE g e)), hs1.mem_iff.2 (List.mem_map.2 ⟨_, (mem_reps h _ (Nat.le_refl _)).2 ⟨ho, hcex⟩, rfl⟩), ((part_has h hcex).2.2.2 e).2 ⟨hr, rfl⟩⟩)
theorem numsL_perm {n : Nat} {W : List Int} (hn : W.Nodup) (h : ∀ w : Int, w ∈ W ↔ 0 ≤ w ∧ w < (n : Int)) : permB (numsL n W) = true ∧ (numsL n W).length = n := by
 have hl : (numsL n W).length = n := by simp [numsL]
 have hWl : W.length = n := full_len hn (fun k hk => (h k).1 hk) fun w hw => (h _).2 (by omega)
 have e : numsL n W = (List.range n).map fun w : Nat => idx W (w : Int) := by
  unfold numsL
  refine List.map_congr_left fun w hw => ?_
  rw [if_pos ((h _).2 (by have := List.mem_range.1 hw; omega))]
 refine ⟨permB_of ?_ fun k hk => ?_, hl⟩
 · rw [e]
   rw [List.Nodup, List.pairwise_map]
   refine (List.nodup_range).imp_of_mem fun {a b} ha hb hne hab => hne ?_
   have := idx_inj ((h _).2 (by have := List.mem_range.1 ha; omega)) ((h _).2 (by have := List.mem_range.1 hb; omega)) hab
   omega
 · rw [hl]
   rw [e] at hk
   obtain ⟨w, hw, rfl⟩ := List.mem_map.1 hk
   have := idx_lt ((h (w : Int)).2 (by have := List.mem_range.1 hw; omega))
   omega
theorem cnM_perm (h : Mono g n) : (permB (cnM g).1 = true ∧ (cnM g).1.length = n) ∧ permB (cnM g).2 = true ∧ (cnM g).2.length = g.2.1.length := by
 unfold cnM
 rw [cnTo_eq h _ (Nat.le_refl _)]
 exact ⟨numsL_perm (ordW_all h).1 (ordW_all h).2, numsL_perm (ordE_all h).1 (ordE_all h).2⟩
end
open Go.RowKit
structure OIg (w0 w : World) (A : Option Addr) (cap : Nat) (l : List Int) : Prop where
 is : IS w A cap l
 new : Fresh w0.heap.size A
 below_ : Below w0.heap.size w0 w
theorem OIg.snoc {w0 w w2 : World} {A : Option Addr} {cap : Nat} {l : List Int} (h : OIg w0 w A cap l) {o : Obj} {x : Int} {A' : Option Addr} {cap' n : Nat} (hn : n = l.length + 1) (hs' : Sl w2 tInt 1 A' n cap' (ints l ++ [.int .i64 x])) (hA' : ∀ b, b ∈ fpA A' → b ∈ fpA A ∨ (w.alloc o).heap.size ≤ b) (hk : Keeps (· ∈ fpA A) (w.alloc o) w2) : OIg w0 w2 A' cap' (l ++ [x]) := by
 subst hn
 have hb := below_trans h.below_ ((Below.refl w.heap.size w).alloc (Nat.le_refl _) o) h.below_.size
 refine ⟨?_, fun b hb' => ?_, below_keeps hb hk hb.size h.new⟩
 · unfold IS
   have : ints (l ++ [x]) = ints l ++ [.int .i64 x] := by simp [ints]
   rw [this, List.length_append]; exact hs'
 · rcases hA' b hb' with h1 | h1
   · exact h.new b h1
   · have := hb.size; omega
theorem oig_alloc {w0 w : World} {A : Option Addr} {cap k : Nat} {l : List Int} (h : OIg w0 w A cap l) (hk : l.length = k) (o : Obj) : Sl (w.alloc o) tInt 1 A k cap (ints l) := by
 have := Sl.alloc h.is o; rwa [hk] at this
set_option maxRecDepth 100000 in
set_option maxHeartbeats 2000000 in
theorem hgList_any (A B : Option Addr) (a b p n : Nat) (l tw : List Int) (w : World) (hl : RdI w A l) (ht : RdI w B tw) (hp : l.length = p) (hn : tw.length = n) (hin : ∀ x, x ∈ l → 0 ≤ x ∧ x < (n : Int)) (hpb : p ≤ 1048576) :
  Calls Tryz.prog 66 #[.slice A p a, .slice B n b] w fun e w' => ∃ A' c', e = .returned (.slice A' p c') ∧ OIg w w' A' c' (mapL tw l) := by
 have hO0 : OIg w w none 0 (mapL tw []) := ⟨Sl.nil _ _ _, Fresh.none_ _, Below.refl _ _⟩
 have hp_h := lH hp; have hn_h := lH hn; have hin_h := lH hin; have hO0_h := lH hO0; have hl_h := lH hl; have ht_h := lH ht; clear hp hn hin hO0 hl ht
 go_enter Tryz.func66, Tryz.ntmps66
 go_wp2_with (fail)
 go_loopw [10, 5] (fun i v' wr => ∃ (k : Nat) (A' : Option Addr) (c' : Nat), k ≤ p ∧ i = .int .i64 k ∧ v' = .slice A' k c' ∧ OIg w wr A' c' (mapL tw (l.take k))) (fun i _ _ => p - (intOf i).toNat)
 case atStart => exact ⟨0, none, 0, Nat.zero_le _, rfl, rfl, by simpa using hO0_h.out⟩
 case round =>
  clear hO0_h
  obtain ⟨k, A', c', hk, rfl, rfl, hO⟩ := hrel
  by_cases hlt : k < p
  · obtain ⟨xd, x, rfl, hx, hxc⟩ := (hl_h.out.below hO.below_).at_ (j := k) (by rw [hp_h.out]; exact hlt)
    have hxb := hin_h.out x (List.mem_of_getElem? hx)
    obtain ⟨q, rfl⟩ : ∃ q : Nat, x = (q : Int) := ⟨x.toNat, by omega⟩
    have hqn : q < n := by omega
    obtain ⟨yd, y, rfl, hy, hyc⟩ := (ht_h.out.below hO.below_).at_ (j := q) (by rw [hn_h.out]; exact hqn)
    have hml : (mapL tw (l.take k)).length = k := by rw [mapL_length, List.length_take, hp_h.out]; omega
    have hst : mapL tw (l.take (k + 1)) = mapL tw (l.take k) ++ [y] := by rw [mapL_take_step hx]; simp [List.getD, hy]
    have hsl := fun (o : Obj) => oig_alloc hO hml o
    have hkI : (k : Int) < (p : Int) := by omega
    have hqI : (q : Int) < (n : Int) := by omega
    have hq0 : (0 : Int) ≤ (q : Int) := by omega
    clear hx hy hxb; have hml_h := lH hml; have hst_h := lH hst; have hsl_h := lH hsl; have hO_h := lH hO; clear hml hst hsl hO
    go_wp2_with (at_builtin; refine wpList_append_Sl _ rfl _ _ _ rfl 3 Tryz.underlying23 info_int rfl (by omega) rfl (hsl_h.out (.cells #[.int .i64 y] 3)) rfl (news := [.int .i64 y]) rfl (Sl.rdc (Sl.laid wr 3 1 1 #[.int .i64 y] (by unfold maxLen; omega) rfl)) (by intro u hu; simp at hu; subst hu; rfl) (by unfold maxLen; omega) (by omega) ?_; intro A3 c3 w3 hs3 hA3 hk3)
    have hO2 := hO_h.out.snoc (x := y) (by rw [hml_h.out]) hs3 hA3 hk3
    rw [← hst_h.out] at hO2
    clear hs3 hA3 hk3; have hO2_h := lH hO2; clear hO2
    go_roundw
    case rel => exact ⟨k + 1, A3, c3, by omega, by go_num, rfl, hO2_h.out⟩
    case measure => simp [intOf]; omega
  · obtain rfl : p = k := by omega
    rw [List.take_of_length_le (by rw [hp_h.out]; exact Nat.le_refl _)] at hO
    have hO_h := lH hO; clear hO
    go_wp2_with (fail)
    go_ret
    exact ⟨A', c', rfl, hO_h.out⟩
set_option maxRecDepth 100000 in
set_option maxHeartbeats 2000000 in
theorem chosenG_any (A B : Option Addr) (a b p n : Nat) (l tw : List Int) (w : World) (hl : RdI w A l) (ht : RdI w B tw) (hp : l.length = p) (hn : tw.length = n) (hin : ∀ x, x ∈ l → 0 ≤ x ∧ x < (n : Int)) (hpb : p ≤ 1048576) :
  Calls Tryz.prog 84 #[.slice B n b, .slice A p a] w fun e w' => ∃ A' c', e = .returned (.slice A' p c') ∧ OIg w w' A' c' (mapL tw l) := by
 have hp_h := lH hp; have hn_h := lH hn; have hin_h := lH hin; have hl_h := lH hl; have ht_h := lH ht; clear hp hn hin hl ht
 go_enter Tryz.func84, Tryz.ntmps84
 go_wp2_with (at_make; refine wpList_make_Sl _ rfl _ _ _ rfl 3 Tryz.underlying23 info_int 0 p rfl rfl rfl rfl (Nat.zero_le _) (by omega) (by unfold maxLen; omega) ?_; intro G w1 hs1 hG hb1)
 have hO0 : OIg w w1 (some G) p (mapL tw []) := ⟨by unfold IS; simpa [ints, mapL] using hs1, fun b hb => by simp at hb; subst hb; exact hG, hb1⟩
 clear hs1 hG hb1; have hO0_h := lH hO0; clear hO0
 go_loopw [13, 5] (fun i v' wr => ∃ (k : Nat) (A' : Option Addr) (c' : Nat), k ≤ p ∧ i = .int .i64 k ∧ v' = .slice A' k c' ∧ OIg w wr A' c' (mapL tw (l.take k))) (fun i _ _ => p - (intOf i).toNat)
 case atStart => exact ⟨0, some G, p, Nat.zero_le _, rfl, rfl, by simpa using hO0_h.out⟩
 case round =>
  clear hO0_h
  obtain ⟨k, A', c', hk, rfl, rfl, hO⟩ := hrel
  by_cases hlt : k < p
  · obtain ⟨xd, x, rfl, hx, hxc⟩ := (hl_h.out.below hO.below_).at_ (j := k) (by rw [hp_h.out]; exact hlt)
    have hxb := hin_h.out x (List.mem_of_getElem? hx)
    obtain ⟨q, rfl⟩ : ∃ q : Nat, x = (q : Int) := ⟨x.toNat, by omega⟩
    have hqn : q < n := by omega
    obtain ⟨yd, y, rfl, hy, hyc⟩ := (ht_h.out.below hO.below_).at_ (j := q) (by rw [hn_h.out]; exact hqn)
    have hml : (mapL tw (l.take k)).length = k := by rw [mapL_length, List.length_take, hp_h.out]; omega
    have hst : mapL tw (l.take (k + 1)) = mapL tw (l.take k) ++ [y] := by rw [mapL_take_step hx]; simp [List.getD, hy]
    have hsl := fun (o : Obj) => oig_alloc hO hml o
    have hkI : (k : Int) < (p : Int) := by omega
    have hqI : (q : Int) < (n : Int) := by omega
    have hq0 : (0 : Int) ≤ (q : Int) := by omega
    clear hx hy hxb; have hml_h := lH hml; have hst_h := lH hst; have hsl_h := lH hsl; have hO_h := lH hO; clear hml hst hsl hO
    go_wp2_with (at_builtin; refine wpList_append_Sl _ rfl _ _ _ rfl 3 Tryz.underlying23 info_int rfl (by omega) rfl (hsl_h.out (.cells #[.int .i64 y] 3)) rfl (news := [.int .i64 y]) rfl (Sl.rdc (Sl.laid wr 3 1 1 #[.int .i64 y] (by unfold maxLen; omega) rfl)) (by intro u hu; simp at hu; subst hu; rfl) (by unfold maxLen; omega) (by omega) ?_; intro A3 c3 w3 hs3 hA3 hk3)
    have hO2 := hO_h.out.snoc (x := y) (by rw [hml_h.out]) hs3 hA3 hk3
    rw [← hst_h.out] at hO2
    clear hs3 hA3 hk3; have hO2_h := lH hO2; clear hO2
    go_roundw
    case rel => exact ⟨k + 1, A3, c3, by omega, by go_num, rfl, hO2_h.out⟩
    case measure => simp [intOf]; omega
  · obtain rfl : p = k := by omega
    rw [List.take_of_length_le (by rw [hp_h.out]; exact Nat.le_refl _)] at hO
    have hO_h := lH hO; clear hO
    go_wp2_with (fail)
    go_ret
    exact ⟨A', c', rfl, hO_h.out⟩
theorem mapped_any (A B : Option Addr) (a b p n : Nat) (l tw : List Int) (w : World) (hl : RdI w A l) (ht : RdI w B tw) (hp : l.length = p) (hn : tw.length = n) (hin : ∀ x, x ∈ l → 0 ≤ x ∧ x < (n : Int)) (hpb : p ≤ 1048576) :
  Calls Tryz.prog 70 #[.slice A p a, .slice B n b] w fun e w' => ∃ A' c', e = .returned (.slice A' p c') ∧ OIg w w' A' c' (mapL tw l) := by
 have hC := chosenG_any A B a b p n l tw w hl ht hp hn hin hpb
 have hC_h := lH hC; have hl_h := lH hl; have ht_h := lH ht; have hp_h := lH hp; have hn_h := lH hn; have hin_h := lH hin; clear hC hl ht hp hn hin
 go_enter Tryz.func70, Tryz.ntmps70
 go_wp2_with (fail)
 refine (hC_h.out).mono ?_
 rintro e w1 ⟨A', c', rfl, hO⟩
 go_wp2_with (fail)
 go_ret
 exact ⟨A', c', rfl, hO⟩
section
variable {P : Program} {ops : Array Oper} {Q : Exit → Act → World → Prop} {md : Region.Mode} {z : Nat} {F : World → Prop}
def wpAnyZ (P : Program) (md : Region.Mode) (ops : Array Oper) (Q : Exit → Act → World → Prop) (z : Nat) (F : World → Prop) : Nat → Array Bool → Act → World → Prop
 | 0, listed, a, w => Region.ready md ops listed = [] ∧ Q .normal a w
 | fuel + 1, listed, a, w =>
   (Region.ready md ops listed = [] → Q .normal a w) ∧
   ∀ i ∈ Region.ready md ops listed, wpOp P ops Q i (fun a' w' => ((listed.setIfInBounds i true).getD z true = false → F w') ∧ wpAnyZ P md ops Q z F fuel (listed.setIfInBounds i true) a' w') a w
theorem wpAny_of_z : ∀ (fuel : Nat) (listed : Array Bool) (a : Act) (w : World), wpAnyZ P md ops Q z F fuel listed a w → wpAny P md ops Q fuel listed a w
 | 0, _, _, _, h => h
 | fuel + 1, _, _, _, h => ⟨h.1, fun i hi => wpOp_mono (fun a' w' h' => wpAny_of_z fuel _ a' w' h'.2) (h.2 i hi)⟩
end
section
variable {P : Program} {l : List Oper} {Q : Exit → Act → World → Prop} {md : Region.Mode} {z : Nat} {F : World → Prop}
theorem beginZ (z : Nat) (F : World → Prop) {id : Nat} {a : Act} {w : World} (hm : P.follows .mixedOrders = true) (h : wpAnyZ P .any l.toArray Q z F l.toArray.size (Array.replicate l.toArray.size false) a w.drew) : (Code.region id l.toArray true).wp P Q a w :=
 wp_region_any hm (wpAny_of_z _ _ _ _ h)
theorem beginZw (z : Nat) (F : World → Prop) {id : Nat} {a : Act} {w : World} (hm : P.follows .mixedOrders = true) (h : ∀ W1, W1 = w.drew → wpAnyZ P .any l.toArray Q z F l.toArray.size (Array.replicate l.toArray.size false) a W1) : (Code.region id l.toArray true).wp P Q a w :=
 beginZ z F hm (h _ rfl)
theorem oneZ (i : Nat) {o : Oper} {fuel : Nat} {listed : Array Bool} {a : Act} {w : World} {l' : List Oper} (hd : l.drop i = o :: l') (hr : Region.ready md l.toArray listed = [i]) (hw : Region.wanted o (yielded l.toArray a.tmps) = true)
  (h : ∀ K : Act → World → Prop, (∀ a' w', ((listed.setIfInBounds i true).getD z true = false → F w') → wpAnyZ P md l.toArray Q z F fuel (listed.setIfInBounds i true) a' w' → K a' w') → o.wp P a w K Q) : wpAnyZ P md l.toArray Q z F (fuel + 1) listed a w := by
 refine ⟨fun h0 => (by rw [hr] at h0; cases h0), fun j hj => ?_⟩
 rw [hr] at hj
 obtain rfl := List.mem_singleton.1 hj
 unfold wpOp
 simp only [at_drop hd, hw, if_true]
 exact .inl (h _ fun a' w' h1 h2 => ⟨h1, h2⟩)
theorem runZ (i : Nat) {o : Oper} {v : Value} {fuel : Nat} {listed : Array Bool} {a : Act} {w w1 : World} {l' : List Oper} (hd : l.drop i = o :: l') (hr : Region.ready md l.toArray listed = [i]) (hw : Region.wanted o (yielded l.toArray a.tmps) = true)
  (hrun : (execOp a.eval o).run P w = .ok (.value v) w1) (hS : (listed.setIfInBounds i true).getD z true = false → F w1) (h : wpAnyZ P md l.toArray Q z F fuel (listed.setIfInBounds i true) (a.put o.dst v) w1) : wpAnyZ P md l.toArray Q z F (fuel + 1) listed a w :=
 oneZ i hd hr hw fun K hK => by
  unfold Oper.wp
  rw [hrun]
  exact hK _ _ hS h
theorem callZ (i : Nat) {o : Oper} {f : FuncId} {args : Array Value} {fuel : Nat} {listed : Array Bool} {a : Act} {w : World} {l' : List Oper} (hd : l.drop i = o :: l') (hr : Region.ready md l.toArray listed = [i]) (hw : Region.wanted o (yielded l.toArray a.tmps) = true)
  (hrun : (execOp a.eval o).run P w = .ok (.enter f args) w)
  (h : Calls P f args w fun e w' => ∃ v, e = .returned v ∧ ((listed.setIfInBounds i true).getD z true = false → F w') ∧ wpAnyZ P md l.toArray Q z F fuel (listed.setIfInBounds i true) (a.put o.dst v) w') : wpAnyZ P md l.toArray Q z F (fuel + 1) listed a w := by
 refine oneZ i hd hr hw fun K hK => ?_
 unfold Oper.wp
 rw [hrun]
 exact h.mono fun e w' ⟨v, he, h1, h2⟩ => by subst he; exact hK _ _ h1 h2
theorem appZ (i : Nat) {o : Oper} {fuel : Nat} {listed : Array Bool} {a : Act} {w : World} {l' : List Oper} (hd : l.drop i = o :: l') (hr : Region.ready md l.toArray listed = [i]) (hw : Region.wanted o (yielded l.toArray a.tmps) = true)
  (s x : Operand) (t : TypeId) (ho : o.op = .call { callee := .builtin .append, args := #[s, x], argTypes := #[t, t] })
  (e : TypeId) {z0 : Value} {size bytes : Nat} (ht : P.underlying t = some (.slice e)) (hinfo : (P.info? e).map (fun i => (i.zero, i.size, i.bytes)) = some (some z0, size, bytes)) (hzs : z0.cells.size = size) (hsz : 0 < size)
  {A : Option Addr} {n cap : Nat} {xs : List Value} (he : a.eval s = .slice A n cap) (hs : Sl w e size A n cap xs)
  {B : Option Addr} {m c : Nat} {news : List Value} (hx : a.eval x = .slice B m c) (hl : news.length = m * size) (hrd : RdC w B news) (h1 : ∀ u ∈ news, u.oneCell' = true)
  (h63 : n + m ≤ maxLen) (hbytes : (n + m) * bytes ≤ 140737488355328)
  (h : ∀ A' cap' w', Sl w' e size A' (n + m) cap' (xs ++ news) → (∀ b, b ∈ fpA A' → b ∈ fpA A ∨ w.heap.size ≤ b) → Keeps (· ∈ fpA A) w w' → RdC w' A xs → ((listed.setIfInBounds i true).getD z true = false → F w') ∧ wpAnyZ P md l.toArray Q z F fuel (listed.setIfInBounds i true) (a.put o.dst (.slice A' (n + m) cap')) w') : wpAnyZ P md l.toArray Q z F (fuel + 1) listed a w := by
 obtain ⟨i', hi, hz, hz1, hz2⟩ := info_parts hinfo
 obtain ⟨A', cap', w', hrun, h2, h3, h4, h5⟩ := run_append_Sl_rd (P := P) w t o.type e i' z0 size bytes ht hi hz hz1 hz2 hzs hsz A n cap xs hs B m c news hl hrd h1 h63 hbytes
 obtain ⟨hS, hh⟩ := h A' cap' w' h2 h3 h4 h5
 refine runZ i hd hr hw (w1 := w') (v := .slice A' (n + m) cap') ?_ hS hh
 unfold execOp
 simp only [ho, resolve, invoke, builtin, Sem.run_bind, Sem.run_pure, Result.andThen_ok, List.map_toArray, List.map_cons, List.map_nil, he, hx, hrun]
theorem doneZ {fuel : Nat} {listed : Array Bool} {a : Act} {w : World} (hr : Region.ready md l.toArray listed = []) (h : Q .normal a w) : wpAnyZ P md l.toArray Q z F fuel listed a w := by
 cases fuel with
 | zero => exact ⟨hr, h⟩
 | succ f => exact ⟨fun _ => h, fun i hi => (by rw [hr] at hi; cases hi)⟩
end
section
variable {P : Program} {ops : Array Oper} {Q : Exit → Act → World → Prop} {md : Region.Mode} {z : Nat} {F : World → Prop}
theorem wpAnyZ_firstC {i : Nat} {oi : Oper} {v : Value} {C : List Nat} (hi : ops[i]? = some oi) (hsel : ∀ (j : Nat) (o : Oper) cs b, ops[j]? = some o → o.op ≠ .select cs b)
  (hQ : ∀ c a w, Q (.panic c) (a.put oi.dst v) w → Q (.panic c) a w) (hzC : z ∈ C) (hiC : ¬ i ∈ C) (hC : ∀ c ∈ C, ∃ oc, ops[c]? = some oc ∧ ∃ e ∈ oc.after, Region.binds md e = true ∧ (e.on = i ∨ e.on ∈ C)) :
  ∀ (fuel : Nat) (listed : Array Bool) (a : Act) (w : World), (∀ c ∈ C, listed.getD c true = false) →
    (∀ j oj, ops[j]? = some oj → j ≠ i → listed.getD j true = false → (∀ e ∈ oj.after, Region.binds md e = true → e.on ≠ i) → oi.apart ops oj = true) →
    i ∈ Region.ready md ops listed → YieldsIf P ops F oi v a → F w →
    wpAnyZ P md ops Q z F fuel (listed.setIfInBounds i true) (a.put oi.dst v) w → wpAnyZ P md ops Q z F (fuel + 1) listed a w := by
 intro fuel
 have hiz : i ≠ z := fun e => hiC (e ▸ hzC)
 induction fuel with
 | zero =>
   intro listed a w _ _ hr hy hS H
   refine ⟨fun h => (by rw [h] at hr; cases hr), fun j hj => ?_⟩
   by_cases hji : j = i
   · subst hji; exact hy.wpOp hi hS ⟨fun _ => hS, H⟩
   · have := ready_mono hj hji
     rw [H.1] at this
     cases this
 | succ fuel ih =>
   intro listed a w hlz hfree hr hy hS H
   refine ⟨fun h => (by rw [h] at hr; cases hr), fun j hj => ?_⟩
   by_cases hji : j = i
   · subst hji; exact hy.wpOp hi hS ⟨fun _ => hS, H⟩
   · have h1 := H.2 j (ready_mono hj hji)
     obtain ⟨hjun, oj, hoj, hall⟩ := mem_ready.1 hj
     have hblock : ∀ k, listed.getD k true = false → ∀ e ∈ oj.after, Region.binds md e = true → e.on ≠ k := fun k h0 e he hb heq => by
      have h1 := hall e he hb
      rw [heq] at h1
      rcases Nat.lt_or_ge k listed.size with h' | h'
      · simp [h'] at h0 h1; rw [h0] at h1; cases h1
      · simp [Array.getElem?_eq_none h'] at h1
     have hnot : ∀ e ∈ oj.after, Region.binds md e = true → e.on ≠ i := hblock i (mem_ready.1 hr).1
     have hjC : ¬ j ∈ C := fun hm => by
      obtain ⟨oc, hoc, e, he, hb, hon⟩ := hC j hm
      rw [hoj] at hoc
      obtain rfl := Option.some.inj hoc
      rcases hon with h | h
      · exact hnot e he hb h
      · exact hblock _ (hlz _ h) e he hb rfl
     have hjz : j ≠ z := fun e => hjC (e ▸ hzC)
     have h2 := wpOp_putIf hoj (hfree j oj hoj hji hjun hnot) (fun cs b => hsel i oi cs b hi) (fun cs b => hsel j oj cs b hoj) hQ hy h1
     have hfree' : ∀ k ok, ops[k]? = some ok → k ≠ i → (listed.setIfInBounds j true).getD k true = false →
       (∀ e ∈ ok.after, Region.binds md e = true → e.on ≠ i) → oi.apart ops ok = true := fun k ok hk hki hun hno => by
      refine hfree k ok hk hki ?_ hno
      by_cases hjk : j = k
      · subst hjk; exact hjun
      · rw [getD_set_ne true hjk] at hun; exact hun
     have hlz' : ∀ c ∈ C, (listed.setIfInBounds j true).getD c true = false := fun c hc => by
      have hjc : j ≠ c := fun e => hjC (by rw [e]; exact hc)
      rw [getD_set_ne true hjc]; exact hlz c hc
     have hlz2 : ((listed.setIfInBounds i true).setIfInBounds j true).getD z true = false := by rw [getD_set_ne true hjz, getD_set_ne true hiz]; exact hlz z hzC
     refine wpOp_mono (fun a' w' h3 => ⟨fun _ => h3.2.1 hlz2, ih (listed.setIfInBounds j true) a' w' hlz' hfree' (ready_mono hr (Ne.symm hji)) h3.1 (h3.2.1 hlz2) ?_⟩) h2
     rw [Array.setIfInBounds_comm _ _ hji]
     exact h3.2.2
def descC (md : Region.Mode) (ops : Array Oper) (i : Nat) : List Nat :=
 (List.range ops.size).foldl (fun acc k => if (i :: acc).any fun d => Region.waitsFor md ops k d then k :: acc else acc) []
def chainC (md : Region.Mode) (ops : Array Oper) (listed : Array Bool) (C : List Nat) (z i : Nat) : Bool :=
 C.contains z && !C.contains i && C.all fun c => !listed.getD c true && (i :: C).any fun d => Region.waitsFor md ops c d
end
section
variable {P : Program} {l : List Oper} {Q : Exit → Act → World → Prop} {md : Region.Mode} {z : Nat} {F : World → Prop}
theorem takeC (i : Nat) {oi : Oper} {v : Value} {fuel : Nat} {listed : Array Bool} {a : Act} {w : World} {l' : List Oper} (hd : l.drop i = oi :: l')
  (hs : Region.noSelect l.toArray = true) (hf : Region.free md l.toArray listed i = true) (hr : (Region.ready md l.toArray listed).contains i = true) (hz : chainC md l.toArray listed (descC md l.toArray i) z i = true)
  (hQ : ∀ c a w, Q (.panic c) (a.put oi.dst v) w → Q (.panic c) a w) (hS : F w) (hw : Region.wanted oi (yielded l.toArray a.tmps) = true) (hy : ∀ w, F w → (execOp a.eval oi).run P w = .ok (.value v) w)
  (h : wpAnyZ P md l.toArray Q z F fuel (listed.setIfInBounds i true) (a.put oi.dst v) w) : wpAnyZ P md l.toArray Q z F (fuel + 1) listed a w := by
 simp only [chainC, Bool.and_eq_true, Bool.not_eq_true', List.all_eq_true, List.any_eq_true] at hz
 obtain ⟨⟨h1, h2⟩, h3⟩ := hz
 refine wpAnyZ_firstC (C := descC md l.toArray i) (at_drop hd) (Region.noSelect_spec hs) hQ (by simpa using h1) (by simpa using h2) (fun c hc => ?_) fuel listed a w (fun c hc => (h3 c hc).1) (Region.free_spec (at_drop hd) hf) (by simpa using hr) (.inl ⟨hw, hy⟩) hS h
 obtain ⟨-, d, hd', hwt⟩ := h3 c hc
 obtain ⟨oz, hoz, e, he, hb, heq⟩ := Region.waitsFor_spec hwt
 refine ⟨oz, hoz, e, he, hb, ?_⟩
 rw [heq]
 rcases List.mem_cons.1 hd' with h | h
 · exact .inl h
 · exact .inr h
theorem tkC (i : Nat) {oi : Oper} (v : Value) {fuel : Nat} {listed : Array Bool} {a : Act} {w : World} {l' : List Oper} (hd : l.drop i = oi :: l') (hS : F w) (hy : ∀ w, F w → (execOp a.eval oi).run P w = .ok (.value v) w)
 (h : wpAnyZ P md l.toArray Q z F fuel (listed.setIfInBounds i true) (a.put oi.dst v) w) (hs : Region.noSelect l.toArray = true := by kernel_rfl) (hf : Region.free md l.toArray listed i = true := by kernel_rfl) (hr : (Region.ready md l.toArray listed).contains i = true := by kernel_rfl) (hz : chainC md l.toArray listed (descC md l.toArray i) z i = true := by kernel_rfl)
 (hQ : ∀ c a w, Q (.panic c) (a.put oi.dst v) w → Q (.panic c) a w := by exact fun _ _ _ h => h) (hw : Region.wanted oi (yielded l.toArray a.tmps) = true := by rfl) : wpAnyZ P md l.toArray Q z F (fuel + 1) listed a w := takeC i hd hs hf hr hz hQ hS hw hy h
end
theorem OIg.ls {w0 w : World} {A : Option Addr} {c : Nat} {l : List Int} (h : OIg w0 w A c l) : OwLs w [] [(A, c, l)] := OwLs.one (x := (A, c, l)) h.is
theorem alloc_box1g (w : World) (o : Obj) : ∃ W, W = w.alloc o ∧ Below w.heap.size w W ∧ W.heap[w.heap.size]? = some o := ⟨_, rfl, t_below_alloc _ _, heap_alloc_new _ _⟩
set_option maxRecDepth 100000 in
set_option maxHeartbeats 8000000 in
theorem hgMap_any {v : Value} {g : Gr} (w : World) (cnt : Int) (T : Option Addr) (tc n : Nat) (tt : List Int) (h : RdGr w v g) (ok : OkG g) (ht : RdI w T tt) (htn : tt.length = n) (hin : inW (n : Int) (t_allW g) = true) :
  Calls Tryz.prog 47 #[v, .slice T n tc, .int .i64 cnt] w fun e w' => ∃ v' fp, e = .returned v' ∧ OwGr w' v' (mapG tt cnt g) fp ∧ FreshL w.heap.size fp ∧ Below w.heap.size w w' := by
 obtain ⟨A, c, hs, ⟨B, b, s⟩, ⟨C, d, t⟩, rfl, e1, e2, e3, hE, hRa, hRb⟩ := h
 obtain ⟨z, es, s0, t0⟩ := g
 have a1 : es = hs.map egOf := e1
 have a2 : s = s0 := e2
 have a3 : t = t0 := e3
 subst a2 a3
 have hin0 : inW (n : Int) (s ++ (t ++ edW es)) = true := hin
 have hinS := inW_iff.1 (inW_app_left hin0)
 have hinT := inW_iff.1 (inW_app_left (inW_app_right hin0))
 have hinE := inW_iff.1 (inW_app_right (inW_app_right hin0))
 have hlen1 : es.length ≤ 1048576 := ok.1.1
 have hlen2 : s.length ≤ 1048576 := ok.1.2.1
 have hlen3 : t.length ≤ 1048576 := ok.1.2.2
 have hlE : ∀ x, x ∈ es → x.2.2.1.length ≤ 1048576 ∧ x.2.2.2.length ≤ 1048576 := ok.2.1
 obtain ⟨m, hm⟩ : ∃ m, m = hs.length := ⟨_, rfl⟩
 obtain ⟨p, hp⟩ : ∃ p, p = s.length := ⟨_, rfl⟩
 obtain ⟨r, hr⟩ : ∃ r, r = t.length := ⟨_, rfl⟩
 have hmes : es.length = m := by rw [a1, List.length_map, hm]
 have hRa0 : RdI w B s := hRa
 have hRb0 : RdI w C t := hRb
 obtain ⟨G, hG⟩ : ∃ G, G = mapG tt cnt (z, es, s, t) := ⟨_, rfl⟩
 rw [← hG]
 show Calls Tryz.prog _ #[.agg #[.int .i64 z, .slice A hs.length c, .slice B s.length b, .slice C t.length d], .slice T n tc, .int .i64 cnt] w _
 rw [← hm, ← hp, ← hr]
 obtain ⟨W, hW, bW, k0, k1⟩ := allocs2 w (.cells #[.int .i64 z, .slice A m c, .slice B p b, .slice C r d] tGr) (.cells #[.int .i64 0, .slice none 0 0, .slice none 0 0, .slice none 0 0] tGr)
 have hC1 := fun (W' : World) (hb : Below w.heap.size w W') => hgList_any B T b tc p n s tt W' (hRa0.below hb) (ht.below hb) hp.symm htn hinS (by omega)
 have hC2 := fun (W' : World) (hb : Below w.heap.size w W') => hgList_any C T d tc r n t tt W' (hRb0.below hb) (ht.below hb) hr.symm htn hinT (by omega)
 have hmb : (m : Int) ≤ 1048576 := by omega
 clear hRa hRb ok e1 e2 e3 hin hin0 hlen1 hlen2 hlen3 hinS hinT; have hE_h := lH hE; have hRa0_h := lH hRa0; have hRb0_h := lH hRb0; have a1_h := lH a1; have hlE_h := lH hlE; have hm_h := lH hm; have hp_h := lH hp; have hr_h := lH hr; have hmes_h := lH hmes; have hinE_h := lH hinE; have hC1_h := lH hC1; have hC2_h := lH hC2; have bW_h := lH bW; have k0_h := lH k0; have k1_h := lH k1; have ht_h := lH ht; have htn_h := lH htn; have hG_h := lH hG; clear hE hRa0 hRb0 a1 hlE hm hp hr hmes hinE hC1 hC2 bW k0 k1 ht htn hG
 go_enter Tryz.func47, Tryz.ntmps47
 go_upto_region 1 with (fail)
 rw [← hW]
 clear hW
 go_cut [7] (fun sv wx => ∃ (bx : Nat) (X Y : Hd), sv = .pointer (some ⟨bx, 0, none⟩) ∧ wx.heap[bx]? = some (.cells #[.int .i64 cnt, .slice none 0 0, .slice X.1 p X.2.1, .slice Y.1 r Y.2.1] tGr) ∧ X.2.2 = mapL tt s ∧ Y.2.2 = mapL tt t ∧ OwLs wx [] [X, Y] ∧ (∀ x, x ∈ fpR [X, Y] → W.heap.size ≤ x ∧ x ≠ bx) ∧ W.heap.size ≤ bx ∧ Below W.heap.size W wx)
 case first =>
  refine beginH (fun w' => w'.heap[w.heap.size]? = some (.cells #[.int .i64 z, .slice A m c, .slice B p b, .slice C r d] tGr)) (by kernel_rfl) ?_
  have hbd : Below W.heap.size W W.drew := below_drew (Below.refl _ _)
  generalize W.drew = W1 at hbd ⊢
  have k0d := t_box_below k0_h.out hbd
  have hBd := below_trans bW_h.out hbd bW_h.out.size
  have hbd_h := lH hbd; have k0d_h := lH k0d; have hBd_h := lH hBd; clear hbd k0d hBd
  refine tkH 0 ?_ rfl k0d_h.out (fun W' hW' => ?_) ?_; rotate_left; · (obtain ⟨⟨y0, y1, y2, y3⟩, y4, y5, y6, y7⟩ := t_box4 hW'; clear hW'; go_simp; first | done | with_reducible rfl)
  simp only [Act.put, nS]
  refine tkH 1 ?_ rfl k0d_h.out (fun W' hW' => ?_) ?_; rotate_left; · (obtain ⟨⟨y0, y1, y2, y3⟩, y4, y5, y6, y7⟩ := t_box4 hW'; clear hW'; go_simp; first | done | with_reducible rfl)
  simp only [Act.put, nS]
  refine tkH 2 ?_ rfl k0d_h.out (fun W' hW' => ?_) ?_; rotate_left; · (obtain ⟨⟨y0, y1, y2, y3⟩, y4, y5, y6, y7⟩ := t_box4 hW'; clear hW'; go_simp; first | done | with_reducible rfl)
  simp only [Act.put, nS]
  refine tkH 3 ?_ rfl k0d_h.out (fun W' hW' => ?_) ?_; rotate_left; · (obtain ⟨⟨y0, y1, y2, y3⟩, y4, y5, y6, y7⟩ := t_box4 hW'; clear hW'; go_simp; first | done | with_reducible rfl)
  simp only [Act.put, nS]
  refine tkH 5 ?_ rfl k0d_h.out (fun W' hW' => ?_) ?_; rotate_left; · (obtain ⟨⟨y0, y1, y2, y3⟩, y4, y5, y6, y7⟩ := t_box4 hW'; clear hW'; go_simp; first | done | with_reducible rfl)
  simp only [Act.put, nS]
  refine tkH 6 ?_ rfl k0d_h.out (fun W' hW' => ?_) ?_; rotate_left; · (obtain ⟨⟨y0, y1, y2, y3⟩, y4, y5, y6, y7⟩ := t_box4 hW'; clear hW'; go_simp; first | done | with_reducible rfl)
  simp only [Act.put, nS]
  refine tkH 7 ?_ rfl k0d_h.out (fun W' hW' => ?_) ?_; rotate_left; · (obtain ⟨⟨y0, y1, y2, y3⟩, y4, y5, y6, y7⟩ := t_box4 hW'; clear hW'; go_simp; first | done | with_reducible rfl)
  simp only [Act.put, nS]
  refine callOrH 4 10 (f := ?fo1) (args := ?argso1) (vj := ?vjo1) (wj := ?wjo1) rfl rfl (by kernel_rfl) (by rfl) (by rfl) ?hruno1 ?hrunjo1 ?h1o1 ?hSjo1 ?h2o1
  case hruno1 => (go_simp; first | done | with_reducible rfl | (constructor <;> with_reducible rfl))
  case hrunjo1 => (go_simp; first | done | with_reducible rfl | (constructor <;> with_reducible rfl))
  case hSjo1 => exact (t_box_below k0d_h.out (t_below_alloc _ _))
  case h1o1 =>
   refine (hC1_h.out W1 hBd_h.out).mono ?_
   rintro e w2 ⟨A2, c2, rfl, hO2⟩
   have hB2 := below_trans hBd_h.out hO2.below_ hBd_h.out.size
   have k2 := t_box_below k0d_h.out hO2.below_
   have hW2 := below_trans hbd_h.out hO2.below_ hbd_h.out.size
   refine ⟨_, rfl, k2, ?_⟩
   have hO2_h := lH hO2; have hB2_h := lH hB2; have k2_h := lH k2; have hW2_h := lH hW2; clear hO2 hB2 k2 hW2
   simp only [Act.put, nS]
   refine callOrH 8 10 (f := ?fo2) (args := ?argso2) (vj := ?vjo2) (wj := ?wjo2) rfl rfl (by kernel_rfl) (by rfl) (by rfl) ?hruno2 ?hrunjo2 ?h1o2 ?hSjo2 ?h2o2
   case hruno2 => (go_simp; first | done | with_reducible rfl | (constructor <;> with_reducible rfl))
   case hrunjo2 => (go_simp; first | done | with_reducible rfl | (constructor <;> with_reducible rfl))
   case hSjo2 => exact (t_box_below k2_h.out (t_below_alloc _ _))
   case h1o2 =>
    refine (hC2_h.out w2 hB2_h.out).mono ?_
    rintro e w3 ⟨A3, c3, rfl, hO3⟩
    have k3 := t_box_below k2_h.out hO3.below_
    have hW3 := below_trans hW2_h.out hO3.below_ hW2_h.out.size
    have hLs := OwLs.two (x := (A2, c2, mapL tt s)) (y := (A3, c3, mapL tt t)) hO2_h.out.is hO3.below_ hO3.is hO3.new
    have hlt2 := hLs.lt
    have hfr : ∀ x, x ∈ fpR [((A2, c2, mapL tt s) : Hd), (A3, c3, mapL tt t)] → W.heap.size ≤ x ∧ x ≠ w3.heap.size := fun x hx => by
     have h1 := hlt2 x hx
     rw [fpR_cons, fpR_cons] at hx
     rcases List.mem_append.1 hx with hx | hx
     · have := hO2_h.out.new x hx; have := hbd_h.out.size; omega
     · rcases List.mem_append.1 hx with hx | hx
       · have := hO3.new x hx; have := hW2_h.out.size; omega
       · simp [fpR] at hx
    refine ⟨_, rfl, k3, ?_⟩
    obtain ⟨W5, hW5, bW5, x5⟩ := alloc_box1g w3 (.cells #[.int .i64 0, .slice none 0 0, .slice none 0 0, .slice none 0 0] tGr)
    obtain ⟨s1, s2⟩ := set4 (a := .int .i64 cnt) (b := .slice none 0 0) (c := .slice A2 p c2) (d := .slice A3 r c3) x5
    have k5 := t_box_below k3 bW5
    have k6 := t_box_keeps k5 s2 (by have := t_box_lt k3; omega)
    have hLs5 := (hLs.below bW5).keeps s2 (fun x hx e => (hfr x hx).2 e)
    have hBf := below_keeps (below_trans hW3 bW5 hW3.size) s2 (Nat.le_trans hW3.size bW5.size) (fun x hx => by rw [hx]; exact hW3.size)
    have hge := hW3.size
    obtain ⟨⟨y0, y1, y2, y3⟩, y4, y5, y6, y7⟩ := t_box4 x5
    have k3_h := lH k3; have hLs5_h := lH hLs5; have hBf_h := lH hBf; have s1_h := lH s1; have s2_h := lH s2; have x5_h := lH x5; have k5_h := lH k5; have k6_h := lH k6; have hfr_h := lH hfr; have hge_h := lH hge; clear k3 hLs5 hBf s1 s2 x5 k5 k6 hfr hge; clear hW3 hLs hlt2 bW5 hO3
    simp only [Act.put, nS]
    refine tkH 9 ?_ rfl k3_h.out (fun W' hW' => ?_) ?_; rotate_left; · (skip; clear hW'; go_simp; first | done | with_reducible rfl)
    simp only [Act.put, nS]
    refine oneH 10 rfl (by kernel_rfl) (by rfl) (fun K hK => ?_)
    go_simp
    rw [← hW5]
    refine hK _ _ k5_h.out ?_
    clear hK K hW5
    refine oneH 11 rfl (by kernel_rfl) (by rfl) (fun K hK => ?_)
    go_simp
    refine hK _ _ k6_h.out ?_
    clear hK K
    refine doneH (by kernel_rfl) ?_
    go_wp2_with (fail)
    go_meet
    exact ⟨w3.heap.size, (A2, c2, mapL tt s), (A3, c3, mapL tt t), rfl, s1_h.out, rfl, rfl, hLs5_h.out, hfr_h.out, hge_h.out, hBf_h.out⟩
   case h2o2 =>
    have bA := t_below_alloc w2 (.cells #[.int .i64 0, .slice none 0 0, .slice none 0 0, .slice none 0 0] tGr)
    have kA := heap_alloc_new w2 (.cells #[.int .i64 0, .slice none 0 0, .slice none 0 0, .slice none 0 0] tGr)
    have hB3 := below_trans hB2_h.out bA hB2_h.out.size
    have hWA := below_trans hW2_h.out bA hW2_h.out.size
    have k2a := t_box_below k2_h.out bA
    have hzA : (w2.alloc (.cells #[.int .i64 0, .slice none 0 0, .slice none 0 0, .slice none 0 0] tGr)).heap.size = w2.heap.size + 1 := World.size_alloc _ _
    simp only [Act.put, nS]
    refine' callH 8 (f := _) (args := _) rfl (by kernel_rfl) (by rfl) ?_ ?_; rotate_left 2; · (go_simp; first | done | with_reducible rfl | (constructor <;> with_reducible rfl))
    refine (hC2_h.out _ hB3).mono ?_
    rintro e w3 ⟨A3, c3, rfl, hO3⟩
    have k3 := t_box_below k2a hO3.below_
    have kb := t_box_below kA hO3.below_
    have hW3 := below_trans hWA hO3.below_ hWA.size
    have hLs := OwLs.two (x := (A2, c2, mapL tt s)) (y := (A3, c3, mapL tt t)) (hO2_h.out.is.below bA) hO3.below_ hO3.is hO3.new
    have hws := hW2_h.out.size
    have hzk := t_box_lt k2_h.out
    have hfr : ∀ x, x ∈ fpR [((A2, c2, mapL tt s) : Hd), (A3, c3, mapL tt t)] → W.heap.size ≤ x ∧ x ≠ w2.heap.size := fun x hx => by
     rw [fpR_cons, fpR_cons] at hx
     rcases List.mem_append.1 hx with hx | hx
     · have h1 := hO2_h.out.is.lt x hx; have := hO2_h.out.new x hx; have := hbd_h.out.size; omega
     · rcases List.mem_append.1 hx with hx | hx
       · have := hO3.new x hx; omega
       · simp [fpR] at hx
    obtain ⟨s1, s2⟩ := set4 (a := .int .i64 cnt) (b := .slice none 0 0) (c := .slice A2 p c2) (d := .slice A3 r c3) kb
    have k6 := t_box_keeps k3 s2 (by omega)
    have hLs5 := hLs.keeps s2 (fun x hx e => (hfr x hx).2 e)
    have hBf := below_keeps hW3 s2 hW3.size (fun x hx => by omega)
    refine ⟨_, rfl, k3, ?_⟩
    obtain ⟨⟨y0, y1, y2, y3⟩, y4, y5, y6, y7⟩ := t_box4 kb
    have k3_h := lH k3; have hLs5_h := lH hLs5; have hBf_h := lH hBf; have s1_h := lH s1; have s2_h := lH s2; have kb_h := lH kb; have k6_h := lH k6; have hfr_h := lH hfr; clear k3 hLs5 hBf s1 s2 kb k6 hfr; clear hW3 hLs hO3
    simp only [Act.put, nS]
    refine tkH 9 ?_ rfl k3_h.out (fun W' hW' => ?_) ?_; rotate_left; · (skip; clear hW'; go_simp; first | done | with_reducible rfl)
    simp only [Act.put, nS]
    refine oneH 11 rfl (by kernel_rfl) (by rfl) (fun K hK => ?_)
    go_simp
    refine hK _ _ k6_h.out ?_
    clear hK K
    refine doneH (by kernel_rfl) ?_
    go_wp2_with (fail)
    go_meet
    exact ⟨w2.heap.size, (A2, c2, mapL tt s), (A3, c3, mapL tt t), rfl, s1_h.out, rfl, rfl, hLs5_h.out, hfr_h.out, by omega, hBf_h.out⟩
  case h2o1 =>
   have bA := t_below_alloc W1 (.cells #[.int .i64 0, .slice none 0 0, .slice none 0 0, .slice none 0 0] tGr)
   have kA := heap_alloc_new W1 (.cells #[.int .i64 0, .slice none 0 0, .slice none 0 0, .slice none 0 0] tGr)
   have hBa := below_trans hBd_h.out bA hBd_h.out.size
   have hWA := below_trans hbd_h.out bA hbd_h.out.size
   have k2a := t_box_below k0d_h.out bA
   have hzA : (W1.alloc (.cells #[.int .i64 0, .slice none 0 0, .slice none 0 0, .slice none 0 0] tGr)).heap.size = W1.heap.size + 1 := World.size_alloc _ _
   simp only [Act.put, nS]
   refine' callH 4 (f := _) (args := _) rfl (by kernel_rfl) (by rfl) ?_ ?_; rotate_left 2; · (go_simp; first | done | with_reducible rfl | (constructor <;> with_reducible rfl))
   refine (hC1_h.out _ hBa).mono ?_
   rintro e w2 ⟨A2, c2, rfl, hO2⟩
   have hB2 := below_trans hBa hO2.below_ hBa.size
   have k2 := t_box_below k2a hO2.below_
   have kb2 := t_box_below kA hO2.below_
   have hW2 := below_trans hWA hO2.below_ hWA.size
   refine ⟨_, rfl, k2, ?_⟩
   simp only [Act.put, nS]
   refine' callH 8 (f := _) (args := _) rfl (by kernel_rfl) (by rfl) ?_ ?_; rotate_left 2; · (go_simp; first | done | with_reducible rfl | (constructor <;> with_reducible rfl))
   refine (hC2_h.out _ hB2).mono ?_
   rintro e w3 ⟨A3, c3, rfl, hO3⟩
   have k3 := t_box_below k2 hO3.below_
   have kb := t_box_below kb2 hO3.below_
   have hW3 := below_trans hW2 hO3.below_ hW2.size
   have hLs := OwLs.two (x := (A2, c2, mapL tt s)) (y := (A3, c3, mapL tt t)) hO2.is hO3.below_ hO3.is hO3.new
   have hws := hbd_h.out.size
   have hzk := t_box_lt k0d_h.out
   have hws2 := hO2.below_.size
   have hfr : ∀ x, x ∈ fpR [((A2, c2, mapL tt s) : Hd), (A3, c3, mapL tt t)] → W.heap.size ≤ x ∧ x ≠ W1.heap.size := fun x hx => by
    rw [fpR_cons, fpR_cons] at hx
    rcases List.mem_append.1 hx with hx | hx
    · have := hO2.new x hx; omega
    · rcases List.mem_append.1 hx with hx | hx
      · have := hO3.new x hx; omega
      · simp [fpR] at hx
   obtain ⟨s1, s2⟩ := set4 (a := .int .i64 cnt) (b := .slice none 0 0) (c := .slice A2 p c2) (d := .slice A3 r c3) kb
   have k6 := t_box_keeps k3 s2 (by omega)
   have hLs5 := hLs.keeps s2 (fun x hx e => (hfr x hx).2 e)
   have hBf := below_keeps hW3 s2 hW3.size (fun x hx => by omega)
   refine ⟨_, rfl, k3, ?_⟩
   obtain ⟨⟨y0, y1, y2, y3⟩, y4, y5, y6, y7⟩ := t_box4 kb
   have k3_h := lH k3; have hLs5_h := lH hLs5; have hBf_h := lH hBf; have s1_h := lH s1; have s2_h := lH s2; have kb_h := lH kb; have k6_h := lH k6; have hfr_h := lH hfr; clear k3 hLs5 hBf s1 s2 kb k6 hfr; clear hW3 hLs hO3
   simp only [Act.put, nS]
   refine tkH 9 ?_ rfl k3_h.out (fun W' hW' => ?_) ?_; rotate_left; · (skip; clear hW'; go_simp; first | done | with_reducible rfl)
   simp only [Act.put, nS]
   refine oneH 11 rfl (by kernel_rfl) (by rfl) (fun K hK => ?_)
   go_simp
   refine hK _ _ k6_h.out ?_
   clear hK K
   refine doneH (by kernel_rfl) ?_
   go_wp2_with (fail)
   go_meet
   exact ⟨W1.heap.size, (A2, c2, mapL tt s), (A3, c3, mapL tt t), rfl, s1_h.out, rfl, rfl, hLs5_h.out, hfr_h.out, by omega, hBf_h.out⟩
 case rest =>
  obtain ⟨bx, ⟨X1, X2, X3⟩, ⟨Y1, Y2, Y3⟩, rfl, kx, rfl, rfl, hLs, hfr, hbx, hBc⟩ := hcut
  obtain ⟨w4, rfl⟩ : ∃ x, x = wc := ⟨_, rfl⟩
  have k0c := t_box_below k0_h.out hBc
  have hws := bW_h.out.size
  obtain ⟨⟨c0, c1, c2, c3⟩, f0, f1, f2, f3⟩ := t_box4 k0c
  have k0c_h := lH k0c; have kx_h := lH kx; have hLs_h := lH hLs; have hfr_h := lH hfr; have hBc_h := lH hBc; clear k0c kx hLs hfr hBc
  go_wp2_with (fail)
  clear c0 c1 c2 c3 f0 f1 f2 f3
  go_loopw [23] (fun i wr => ∃ (k : Nat) (A' : Option Addr) (c' : Nat) (ys : List EHd), k ≤ m ∧ i = .int .i64 k ∧ ys.length = k ∧ ys.map egOf = (es.take k).map (mapE tt) ∧ wr.heap[bx]? = some (.cells #[.int .i64 cnt, .slice A' k c', .slice X1 p X2, .slice Y1 r Y2] tGr) ∧ Sl wr tEd 4 A' k c' (ecs ys) ∧ OwLs wr (fpA A') ((X1, X2, mapL tt s) :: (Y1, Y2, mapL tt t) :: eh ys) ∧ (∀ x, x ∈ fpA A' ++ fpR (((X1, X2, mapL tt s) : Hd) :: (Y1, Y2, mapL tt t) :: eh ys) → W.heap.size ≤ x ∧ x ≠ bx) ∧ Below W.heap.size W wr) (fun i _ => m - (intOf i).toNat)
  case atStart => exact ⟨0, none, 0, [], Nat.zero_le _, rfl, rfl, rfl, kx_h.out, Sl.nil _ _ _, hLs_h.out, hfr_h.out, hBc_h.out⟩
  case round =>
   clear kx_h hLs_h hfr_h hBc_h k0c_h
   obtain ⟨k, A', c', ys, hk, rfl, hyl, hye, kx, hsl, hLs, hfr, hBr⟩ := hrel
   have hBw := below_trans bW_h.out hBr bW_h.out.size
   by_cases hlt : k < m
   · obtain ⟨ad, κ, vv, B1, b1, s1, C1, b2, t1, rfl, hn, ⟨d0, d1, d2, d3⟩, hr1, hr2⟩ := (hE_h.out.below hBw).at_ (j := k) (by rw [← hm_h.out]; exact hlt)
     have hek : es[k]? = some (κ, vv, s1, t1) := by rw [a1_h.out, List.getElem?_map, hn]; rfl
     obtain ⟨hm1, hm2⟩ := mem_edW_of (List.mem_of_getElem? hek)
     have hln := hlE_h.out _ (List.mem_of_getElem? hek)
     have hrA : RdI w B1 s1 := (hE_h.out.2 _ (List.mem_of_getElem? hn)).1
     have hrB : RdI w C1 t1 := (hE_h.out.2 _ (List.mem_of_getElem? hn)).2
     have hCa := fun (W' : World) (hb : Below w.heap.size w W') => hgList_any B1 T b1 tc s1.length n s1 tt W' (hrA.below hb) (ht_h.out.below hb) rfl htn_h.out (fun x hx => hinE_h.out x (hm1 x hx)) hln.1
     have hCb := fun (W' : World) (hb : Below w.heap.size w W') => hgList_any C1 T b2 tc t1.length n t1 tt W' (hrB.below hb) (ht_h.out.below hb) rfl htn_h.out (fun x hx => hinE_h.out x (hm2 x hx)) hln.2
     obtain ⟨p1, hp1⟩ : ∃ p1, p1 = s1.length := ⟨_, rfl⟩
     obtain ⟨r1, hr1'⟩ : ∃ r1, r1 = t1.length := ⟨_, rfl⟩
     rw [← hp1] at d2
     rw [← hr1'] at d3
     simp only [← hp1] at hCa
     simp only [← hr1'] at hCb
     have hkI : (k : Int) < (m : Int) := by omega
     obtain ⟨wo, rfl⟩ : ∃ x, x = wr := ⟨_, rfl⟩
     obtain ⟨W6, hW6, bW6, k6⟩ := alloc_box1g wo (.cells #[.int .i64 κ, .int .i64 vv, .slice B1 p1 b1, .slice C1 r1 b2] tEd)
     have kx6 := t_box_below kx bW6
     have hxl := t_box_lt kx
     have hsl6 := hsl.below bW6
     have hLs6 := hLs.below bW6
     have hfl := hsl.lt
     have hll := hLs.lt
     have hB6 := below_trans hBw bW6 hBw.size
     have hW6b := below_trans hBr bW6 hBr.size
     have hr1_h := lH hr1'; clear hr1' hr1 hr2 hn hm1 hm2 hln hrA hrB hsl hLs kx hBr hBw; have hek_h := lH hek; have hp1_h := lH hp1; have bW6_h := lH bW6; have hye_h := lH hye; have hyl_h := lH hyl; have hCa_h := lH hCa; have hCb_h := lH hCb; have hfr_h := lH hfr; have kx6_h := lH kx6; have k6_h := lH k6; have hsl6_h := lH hsl6; have hLs6_h := lH hLs6; have hB6_h := lH hB6; have hW6b_h := lH hW6b; have hfl_h := lH hfl; have hll_h := lH hll; clear hek hp1 bW6 hye hyl hCa hCb hfr kx6 k6 hsl6 hLs6 hB6 hW6b hfl hll
     go_upto_region 5 with (fail)
     rw [← hW6]
     clear hW6 d0 d1 d2 d3
     refine beginZw 18 (fun w' => w'.heap[bx]? = some (.cells #[.int .i64 cnt, .slice A' k c', .slice X1 p X2, .slice Y1 r Y2] tGr) ∧ w'.heap[wo.heap.size]? = some (.cells #[.int .i64 κ, .int .i64 vv, .slice B1 p1 b1, .slice C1 r1 b2] tEd)) (by kernel_rfl) (fun W7 hW7 => ?_)
     have hbd : Below W6.heap.size W6 W7 := by rw [hW7]; exact below_drew (Below.refl _ _)
     clear hW7
     have hF := And.intro (t_box_below kx6_h.out hbd) (t_box_below k6_h.out hbd)
     have hB7 := below_trans hB6_h.out hbd hB6_h.out.size
     have hW7b := below_trans hW6b_h.out hbd hW6b_h.out.size
     have hsl7 := hsl6_h.out.below hbd
     have hLs7 := hLs6_h.out.below hbd
     have h7s : wo.heap.size ≤ W7.heap.size := Nat.le_trans bW6_h.out.size hbd.size
     clear hbd; have hF_h := lH hF; have hB7_h := lH hB7; have hW7b_h := lH hW7b; have hsl7_h := lH hsl7; have hLs7_h := lH hLs7; clear hF hB7 hW7b hsl7 hLs7
     refine tkC 0 ?_ rfl hF_h.out (fun W' hW' => ?_) ?_; rotate_left; · (obtain ⟨⟨y0, y1, y2, y3⟩, y4, y5, y6, y7⟩ := t_box4 hW'.1; obtain ⟨⟨x0, x1, x2, x3⟩, x4, x5, x6, x7⟩ := t_box4 hW'.2; clear hW'; go_simp; first | done | with_reducible rfl)
     simp only [Act.put, nS]
     refine tkC 1 ?_ rfl hF_h.out (fun W' hW' => ?_) ?_; rotate_left; · (obtain ⟨⟨y0, y1, y2, y3⟩, y4, y5, y6, y7⟩ := t_box4 hW'.1; obtain ⟨⟨x0, x1, x2, x3⟩, x4, x5, x6, x7⟩ := t_box4 hW'.2; clear hW'; go_simp; first | done | with_reducible rfl)
     simp only [Act.put, nS]
     refine tkC 2 ?_ rfl hF_h.out (fun W' hW' => ?_) ?_; rotate_left; · (obtain ⟨⟨y0, y1, y2, y3⟩, y4, y5, y6, y7⟩ := t_box4 hW'.1; obtain ⟨⟨x0, x1, x2, x3⟩, x4, x5, x6, x7⟩ := t_box4 hW'.2; clear hW'; go_simp; first | done | with_reducible rfl)
     simp only [Act.put, nS]
     refine tkC 3 ?_ rfl hF_h.out (fun W' hW' => ?_) ?_; rotate_left; · (obtain ⟨⟨y0, y1, y2, y3⟩, y4, y5, y6, y7⟩ := t_box4 hW'.1; obtain ⟨⟨x0, x1, x2, x3⟩, x4, x5, x6, x7⟩ := t_box4 hW'.2; clear hW'; go_simp; first | done | with_reducible rfl)
     simp only [Act.put, nS]
     refine tkC 4 ?_ rfl hF_h.out (fun W' hW' => ?_) ?_; rotate_left; · (obtain ⟨⟨y0, y1, y2, y3⟩, y4, y5, y6, y7⟩ := t_box4 hW'.1; obtain ⟨⟨x0, x1, x2, x3⟩, x4, x5, x6, x7⟩ := t_box4 hW'.2; clear hW'; go_simp; first | done | with_reducible rfl)
     simp only [Act.put, nS]
     refine tkC 5 ?_ rfl hF_h.out (fun W' hW' => ?_) ?_; rotate_left; · (obtain ⟨⟨y0, y1, y2, y3⟩, y4, y5, y6, y7⟩ := t_box4 hW'.1; obtain ⟨⟨x0, x1, x2, x3⟩, x4, x5, x6, x7⟩ := t_box4 hW'.2; clear hW'; go_simp; first | done | with_reducible rfl)
     simp only [Act.put, nS]
     refine tkC 6 ?_ rfl hF_h.out (fun W' hW' => ?_) ?_; rotate_left; · (obtain ⟨⟨y0, y1, y2, y3⟩, y4, y5, y6, y7⟩ := t_box4 hW'.1; obtain ⟨⟨x0, x1, x2, x3⟩, x4, x5, x6, x7⟩ := t_box4 hW'.2; clear hW'; go_simp; first | done | with_reducible rfl)
     simp only [Act.put, nS]
     refine tkC 7 ?_ rfl hF_h.out (fun W' hW' => ?_) ?_; rotate_left; · (obtain ⟨⟨y0, y1, y2, y3⟩, y4, y5, y6, y7⟩ := t_box4 hW'.1; obtain ⟨⟨x0, x1, x2, x3⟩, x4, x5, x6, x7⟩ := t_box4 hW'.2; clear hW'; go_simp; first | done | with_reducible rfl)
     simp only [Act.put, nS]
     refine tkC 8 ?_ rfl hF_h.out (fun W' hW' => ?_) ?_; rotate_left; · (obtain ⟨⟨y0, y1, y2, y3⟩, y4, y5, y6, y7⟩ := t_box4 hW'.1; obtain ⟨⟨x0, x1, x2, x3⟩, x4, x5, x6, x7⟩ := t_box4 hW'.2; clear hW'; go_simp; first | done | with_reducible rfl)
     simp only [Act.put, nS]
     refine tkC 10 ?_ rfl hF_h.out (fun W' hW' => ?_) ?_; rotate_left; · (obtain ⟨⟨y0, y1, y2, y3⟩, y4, y5, y6, y7⟩ := t_box4 hW'.1; obtain ⟨⟨x0, x1, x2, x3⟩, x4, x5, x6, x7⟩ := t_box4 hW'.2; clear hW'; go_simp; first | done | with_reducible rfl)
     simp only [Act.put, nS]
     refine tkC 11 ?_ rfl hF_h.out (fun W' hW' => ?_) ?_; rotate_left; · (obtain ⟨⟨y0, y1, y2, y3⟩, y4, y5, y6, y7⟩ := t_box4 hW'.1; obtain ⟨⟨x0, x1, x2, x3⟩, x4, x5, x6, x7⟩ := t_box4 hW'.2; clear hW'; go_simp; first | done | with_reducible rfl)
     simp only [Act.put, nS]
     refine tkC 12 ?_ rfl hF_h.out (fun W' hW' => ?_) ?_; rotate_left; · (obtain ⟨⟨y0, y1, y2, y3⟩, y4, y5, y6, y7⟩ := t_box4 hW'.1; obtain ⟨⟨x0, x1, x2, x3⟩, x4, x5, x6, x7⟩ := t_box4 hW'.2; clear hW'; go_simp; first | done | with_reducible rfl)
     simp only [Act.put, nS]
     refine callZ 9 (f := ?f1) (args := ?args1) rfl (by kernel_rfl) (by rfl) ?hrun1 ?hcall1
     case hrun1 => (go_simp; first | done | with_reducible rfl | (constructor <;> with_reducible rfl))
     case hcall1 =>
      refine (hCa_h.out W7 hB7_h.out).mono ?_
      rintro e w8 ⟨A8, c8, rfl, hO8⟩
      have hF8 := And.intro (t_box_below hF_h.out.1 hO8.below_) (t_box_below hF_h.out.2 hO8.below_)
      have hB8 := below_trans hB7_h.out hO8.below_ hB7_h.out.size
      have hW8b := below_trans hW7b_h.out hO8.below_ hW7b_h.out.size
      refine ⟨_, rfl, fun _ => hF8, ?_⟩
      have hF8_h := lH hF8; have hB8_h := lH hB8; have hW8b_h := lH hW8b; have hO8_h := lH hO8; clear hF8 hB8 hW8b hO8
      simp only [Act.put, nS]
      refine callZ 13 (f := ?f2) (args := ?args2) rfl (by kernel_rfl) (by rfl) ?hrun2 ?hcall2
      case hrun2 => (go_simp; first | done | with_reducible rfl | (constructor <;> with_reducible rfl))
      case hcall2 =>
       refine (hCb_h.out w8 hB8_h.out).mono ?_
       rintro e w9 ⟨A9, c9, rfl, hO9⟩
       have hF9 := And.intro (t_box_below hF8_h.out.1 hO9.below_) (t_box_below hF8_h.out.2 hO9.below_)
       have hB9 := below_trans hB8_h.out hO9.below_ hB8_h.out.size
       have hW9b := below_trans hW8b_h.out hO9.below_ hW8b_h.out.size
       have h79 : Below W7.heap.size W7 w9 := below_trans hO8_h.out.below_ hO9.below_ hO8_h.out.below_.size
       have hLs9 := hLs7_h.out.app h79 (ms := [(A8, c8, mapL tt s1), (A9, c9, mapL tt t1)]) (OwLs.two (x := (A8, c8, mapL tt s1)) (y := (A9, c9, mapL tt t1)) hO8_h.out.is hO9.below_ hO9.is hO9.new) (fun x hx => by
        rw [fpR_cons, fpR_cons] at hx
        rcases List.mem_append.1 hx with hx | hx
        · exact hO8_h.out.new x hx
        · rcases List.mem_append.1 hx with hx | hx
          · have := hO9.new x hx; have := hO8_h.out.below_.size; omega
          · simp [fpR] at hx) (fun x hx => hsl7_h.out.lt x hx)
       have hnew : ∀ x, x ∈ fpR [((A8, c8, mapL tt s1) : Hd), (A9, c9, mapL tt t1)] → W7.heap.size ≤ x := fun x hx => by
        rw [fpR_cons, fpR_cons] at hx
        rcases List.mem_append.1 hx with hx | hx
        · exact hO8_h.out.new x hx
        · rcases List.mem_append.1 hx with hx | hx
          · have := hO9.new x hx; have := hO8_h.out.below_.size; omega
          · simp [fpR] at hx
       have hsl9 := hsl7_h.out.below h79
       refine ⟨_, rfl, fun _ => hF9, ?_⟩
       clear hO9
       obtain ⟨w10, hw10, bw10, -⟩ := alloc_box1g w9 (.cells #[.int .i64 κ, .int .i64 vv, .slice A8 p1 c8, .slice A9 r1 c9] tEd)
       have hF10 := And.intro (t_box_below hF9.1 bw10) (t_box_below hF9.2 bw10)
       have hsl10 := hsl9.below bw10
       have hLs10 := hLs9.below bw10
       have h9s := h79.size
       have hW10b := below_trans hW9b bw10 hW9b.size
       have hlaid : RdC w10 (some ⟨w9.heap.size, 0, none⟩) [.int .i64 κ, .int .i64 vv, .slice A8 p1 c8, .slice A9 r1 c9] := by
        rw [hw10]; exact Sl.rdc (Sl.laid w9 tEd 4 1 #[.int .i64 κ, .int .i64 vv, .slice A8 p1 c8, .slice A9 r1 c9] (by unfold maxLen; omega) rfl)
       have hF9_h := lH hF9; have hF10_h := lH hF10; have hsl10_h := lH hsl10; have hLs10_h := lH hLs10; have hnew_h := lH hnew; have hW10b_h := lH hW10b; have hlaid_h := lH hlaid; have bw10_h := lH bw10; clear hF9 hF10 hsl10 hLs10 hnew hW10b hlaid bw10; clear hsl9 hLs9 hB9 hW9b h79
       simp only [Act.put, nS]
       refine tkC 14 ?_ rfl hF9_h.out (fun W' hW' => ?_) ?_; rotate_left; · (skip; clear hW'; go_simp; first | done | with_reducible rfl)
       simp only [Act.put, nS]
       refine oneZ 15 rfl (by kernel_rfl) (by rfl) (fun K hK => ?_)
       go_simp
       rw [← hw10]
       refine hK _ _ (fun _ => hF10_h.out) ?_
       clear hK K hw10
       refine appZ 16 rfl (by kernel_rfl) (by rfl) _ _ _ rfl tEd Tryz.underlying22 info_ed rfl (by omega) rfl hsl10_h.out rfl (news := [.int .i64 κ, .int .i64 vv, .slice A8 p1 c8, .slice A9 r1 c9]) rfl hlaid_h.out (by intro u hu; simp at hu; rcases hu with rfl | rfl | rfl | rfl <;> rfl) (by unfold maxLen; omega) (by omega) ?_
       intro A11 c11 w11 hs11 hA11 hk11 hrd11
       clear hrd11
       have hsle : Sl w11 tEd 4 A11 (k + 1) c11 (ecs (ys ++ [(κ, vv, (A8, c8, mapL tt s1), (A9, c9, mapL tt t1))])) := by
        have e : ecs ys ++ [.int .i64 κ, .int .i64 vv, .slice A8 p1 c8, .slice A9 r1 c9] = ecs (ys ++ [(κ, vv, (A8, c8, mapL tt s1), (A9, c9, mapL tt t1))]) := by
         rw [ecs_append]; simp only [ecs, ec, Hd.val, mapL_length, List.append_nil]; rw [← hp1_h.out, ← hr1_h.out]
        rw [← e]; exact hs11
       have hLs11 := hLs10_h.out.grow hA11 hk11
       have hfp11 : ∀ x, x ∈ fpA A11 ++ fpR (((X1, X2, mapL tt s) : Hd) :: (Y1, Y2, mapL tt t) :: eh (ys ++ [(κ, vv, (A8, c8, mapL tt s1), (A9, c9, mapL tt t1))])) → W.heap.size ≤ x ∧ x ≠ bx := fun x hx => by
        have hs7 := hW7b_h.out.size
        rcases List.mem_append.1 hx with hx | hx
        · rcases hA11 x hx with h1 | h1
          · exact hfr_h.out x (List.mem_append_left _ h1)
          · have := hW10b_h.out.size; have := bw10_h.out.size; omega
        · rw [eh_append, ← List.cons_append, ← List.cons_append, fpR_append] at hx
          rcases List.mem_append.1 hx with hx | hx
          · exact hfr_h.out x (List.mem_append_right _ hx)
          · have := hnew_h.out x hx; omega
       have hkA : ∀ x, x ∈ fpA A' → x ≠ bx ∧ x ≠ wo.heap.size := fun x hx => ⟨(hfr_h.out x (List.mem_append_left _ hx)).2, fun e => by have := hfl_h.out x hx; omega⟩
       have hF11 := And.intro (t_box_keeps hF10_h.out.1 hk11 (fun h => (hkA _ h).1 rfl)) (t_box_keeps hF10_h.out.2 hk11 (fun h => (hkA _ h).2 rfl))
       have hW11b := below_keeps hW10b_h.out hk11 hW10b_h.out.size (fun x hx => (hfr_h.out x (List.mem_append_left _ hx)).1)
       refine ⟨fun _ => hF11, ?_⟩
       obtain ⟨s1', s2'⟩ := box_set hF11.1 1 (.slice A11 (k + 1) c11)
       have s3' : (w11.setCell ⟨bx, 1, none⟩ (.slice A11 (k + 1) c11)).heap[bx]? = some (.cells #[.int .i64 cnt, .slice A11 (k + 1) c11, .slice X1 p X2, .slice Y1 r Y2] tGr) := s1'
       have hsl12 := hsle.keeps s2' (fun x hx e => (hfp11 x (List.mem_append_left _ hx)).2 e)
       have hLs12 := hLs11.keeps s2' (fun x hx e => (hfp11 x (List.mem_append_right _ (by rw [eh_append]; exact hx))).2 e)
       have hW12b := below_keeps hW11b s2' hW11b.size (fun x hx => by omega)
       have hye2 : (ys ++ [(κ, vv, (A8, c8, mapL tt s1), (A9, c9, mapL tt t1))]).map egOf = (es.take (k + 1)).map (mapE tt) := by
        rw [List.map_append, hye_h.out, List.take_add_one, hek_h.out, List.map_append]; rfl
       obtain ⟨⟨y0, y1, y2, y3⟩, y4, y5, y6, y7⟩ := t_box4 hF11.1
       clear hs11 hA11 hk11 hsle hLs11 s1' s2' hW11b hkA; have hF11_h := lH hF11; have s3'_h := lH s3'; have hsl12_h := lH hsl12; have hLs12_h := lH hLs12; have hW12b_h := lH hW12b; have hye2_h := lH hye2; have hfp11_h := lH hfp11; clear hF11 s3' hsl12 hLs12 hW12b hye2 hfp11
       simp only [Act.put, nS]
       refine tkC 17 ?_ rfl hF11_h.out (fun W' hW' => ?_) ?_; rotate_left; · (skip; clear hW'; go_simp; first | done | with_reducible rfl)
       simp only [Act.put, nS]
       refine oneZ 18 rfl (by kernel_rfl) (by rfl) (fun K hK => ?_)
       go_simp
       refine hK _ _ (fun h => by cases h) ?_
       clear hK K
       refine doneZ (by kernel_rfl) ?_
       go_wp2_with (fail)
       go_roundw
       case rel => exact ⟨k + 1, A11, c11, _, by omega, by go_num, by rw [List.length_append, hyl_h.out]; rfl, hye2_h.out, s3'_h.out, hsl12_h.out, by rw [eh_append]; exact hLs12_h.out, hfp11_h.out, hW12b_h.out⟩
       case measure => simp [intOf]; omega
   · obtain rfl : m = k := by omega
     rw [List.take_of_length_le (by rw [hmes_h.out]; exact Nat.le_refl _)] at hye
     have k1r := t_box_below k1_h.out hBr
     obtain ⟨t1', t2'⟩ := set4 (a := .int .i64 cnt) (b := .slice A' m c') (c := .slice X1 p X2) (d := .slice Y1 r Y2) k1r
     have hk1W := t_box_lt k1_h.out
     have hsl2 := hsl.keeps t2' (fun x hx e => by have := (hfr x (List.mem_append_left _ hx)).1; omega)
     have hLs2 := hLs.keeps t2' (fun x hx e => by have := (hfr x (List.mem_append_right _ hx)).1; omega)
     have hB9 := below_keeps hBw t2' hBw.size (fun x hx => by omega)
     have hfw : FreshL w.heap.size (fpA A' ++ fpR (((X1, X2, mapL tt s) : Hd) :: (Y1, Y2, mapL tt t) :: eh ys)) := fun x hx => by have := (hfr x hx).1; omega
     obtain ⟨⟨c0, c1, c2, c3⟩, f0, f1, f2, f3⟩ := t_box4 kx
     obtain ⟨⟨d0, d1, d2, d3⟩, g0, g1, g2, g3⟩ := t_box4 k1r
     clear hsl hLs t2' k1r kx hBr hBw hfr; have hye_h := lH hye; have hyl_h := lH hyl; have t1'_h := lH t1'; have hsl2_h := lH hsl2; have hLs2_h := lH hLs2; have hB9_h := lH hB9; have hfw_h := lH hfw; clear hye hyl t1' hsl2 hLs2 hB9 hfw
     go_wp2_with (fail)
     refine bodyPost_ret (results_cell_row rfl _ _ (w.heap.size + 1) _ _ (0, 0) _ rfl t1'_h.out Tryz.underlying25 rfl (by kernel_rfl)) rfl ?_
     refine ⟨_, fpA A' ++ fpR (((X1, X2, mapL tt s) : Hd) :: (Y1, Y2, mapL tt t) :: eh ys), rfl, ?_, hfw_h.out, hB9_h.out⟩
     rw [hG_h.out]
     refine ⟨A', c', ys, (X1, X2, mapL tt s), (Y1, Y2, mapL tt t), ?_, hye_h.out.symm, rfl, rfl, ?_, hLs2_h.out, rfl⟩
     · simp only [mapL_length]; rw [hyl_h.out, hp_h.out, hr_h.out]; rfl
     · rw [hyl_h.out]; exact hsl2_h.out
set_option maxRecDepth 100000 in
set_option maxHeartbeats 8000000 in
theorem moved_any {v : Value} {g : Gr} (w : World) (cnt : Int) (T : Option Addr) (tc n : Nat) (tt : List Int) (h : RdGr w v g) (ok : OkG g) (ht : RdI w T tt) (htn : tt.length = n) (hin : inW (n : Int) (t_allW g) = true) :
  Calls Tryz.prog 53 #[v, .int .i64 cnt, .slice T n tc] w fun e w' => ∃ v' fp, e = .returned v' ∧ OwGr w' v' (mapG tt cnt g) fp ∧ FreshL w.heap.size fp ∧ Below w.heap.size w w' := by
 obtain ⟨A, c, hs, ⟨B, b, s⟩, ⟨C, d, t⟩, rfl, e1, e2, e3, hE, hRa, hRb⟩ := h
 obtain ⟨z, es, s0, t0⟩ := g
 have a1 : es = hs.map egOf := e1
 have a2 : s = s0 := e2
 have a3 : t = t0 := e3
 subst a2 a3
 have hin0 : inW (n : Int) (s ++ (t ++ edW es)) = true := hin
 have hinS := inW_iff.1 (inW_app_left hin0)
 have hinT := inW_iff.1 (inW_app_left (inW_app_right hin0))
 have hinE := inW_iff.1 (inW_app_right (inW_app_right hin0))
 have hlen1 : es.length ≤ 1048576 := ok.1.1
 have hlen2 : s.length ≤ 1048576 := ok.1.2.1
 have hlen3 : t.length ≤ 1048576 := ok.1.2.2
 have hlE : ∀ x, x ∈ es → x.2.2.1.length ≤ 1048576 ∧ x.2.2.2.length ≤ 1048576 := ok.2.1
 obtain ⟨m, hm⟩ : ∃ m, m = hs.length := ⟨_, rfl⟩
 obtain ⟨p, hp⟩ : ∃ p, p = s.length := ⟨_, rfl⟩
 obtain ⟨r, hr⟩ : ∃ r, r = t.length := ⟨_, rfl⟩
 have hmes : es.length = m := by rw [a1, List.length_map, hm]
 have hRa0 : RdI w B s := hRa
 have hRb0 : RdI w C t := hRb
 obtain ⟨G, hG⟩ : ∃ G, G = mapG tt cnt (z, es, s, t) := ⟨_, rfl⟩
 rw [← hG]
 show Calls Tryz.prog _ #[.agg #[.int .i64 z, .slice A hs.length c, .slice B s.length b, .slice C t.length d], .int .i64 cnt, .slice T n tc] w _
 rw [← hm, ← hp, ← hr]
 obtain ⟨W, hW, bW, k0, k1⟩ := allocs2 w (.cells #[.int .i64 z, .slice A m c, .slice B p b, .slice C r d] tGr) (.cells #[.int .i64 0, .slice none 0 0, .slice none 0 0, .slice none 0 0] tGr)
 have hC1 := fun (W' : World) (hb : Below w.heap.size w W') => mapped_any B T b tc p n s tt W' (hRa0.below hb) (ht.below hb) hp.symm htn hinS (by omega)
 have hC2 := fun (W' : World) (hb : Below w.heap.size w W') => mapped_any C T d tc r n t tt W' (hRb0.below hb) (ht.below hb) hr.symm htn hinT (by omega)
 have hmb : (m : Int) ≤ 1048576 := by omega
 clear hRa hRb ok e1 e2 e3 hin hin0 hlen1 hlen2 hlen3 hinS hinT; have hE_h := lH hE; have hRa0_h := lH hRa0; have hRb0_h := lH hRb0; have a1_h := lH a1; have hlE_h := lH hlE; have hm_h := lH hm; have hp_h := lH hp; have hr_h := lH hr; have hmes_h := lH hmes; have hinE_h := lH hinE; have hC1_h := lH hC1; have hC2_h := lH hC2; have bW_h := lH bW; have k0_h := lH k0; have k1_h := lH k1; have ht_h := lH ht; have htn_h := lH htn; have hG_h := lH hG; clear hE hRa0 hRb0 a1 hlE hm hp hr hmes hinE hC1 hC2 bW k0 k1 ht htn hG
 go_enter Tryz.func53, Tryz.ntmps53
 go_upto_region 1 with (fail)
 rw [← hW]
 clear hW
 go_cut [7] (fun sv wx => ∃ (bx : Nat) (X Y : Hd), sv = .pointer (some ⟨bx, 0, none⟩) ∧ wx.heap[bx]? = some (.cells #[.int .i64 cnt, .slice none 0 0, .slice X.1 p X.2.1, .slice Y.1 r Y.2.1] tGr) ∧ X.2.2 = mapL tt s ∧ Y.2.2 = mapL tt t ∧ OwLs wx [] [X, Y] ∧ (∀ x, x ∈ fpR [X, Y] → W.heap.size ≤ x ∧ x ≠ bx) ∧ W.heap.size ≤ bx ∧ Below W.heap.size W wx)
 case first =>
  refine beginH (fun w' => w'.heap[w.heap.size]? = some (.cells #[.int .i64 z, .slice A m c, .slice B p b, .slice C r d] tGr)) (by kernel_rfl) ?_
  have hbd : Below W.heap.size W W.drew := below_drew (Below.refl _ _)
  generalize W.drew = W1 at hbd ⊢
  have k0d := t_box_below k0_h.out hbd
  have hBd := below_trans bW_h.out hbd bW_h.out.size
  have hbd_h := lH hbd; have k0d_h := lH k0d; have hBd_h := lH hBd; clear hbd k0d hBd
  refine tkH 0 ?_ rfl k0d_h.out (fun W' hW' => ?_) ?_; rotate_left; · (obtain ⟨⟨y0, y1, y2, y3⟩, y4, y5, y6, y7⟩ := t_box4 hW'; clear hW'; go_simp; first | done | with_reducible rfl)
  simp only [Act.put, nS]
  refine tkH 1 ?_ rfl k0d_h.out (fun W' hW' => ?_) ?_; rotate_left; · (obtain ⟨⟨y0, y1, y2, y3⟩, y4, y5, y6, y7⟩ := t_box4 hW'; clear hW'; go_simp; first | done | with_reducible rfl)
  simp only [Act.put, nS]
  refine tkH 2 ?_ rfl k0d_h.out (fun W' hW' => ?_) ?_; rotate_left; · (obtain ⟨⟨y0, y1, y2, y3⟩, y4, y5, y6, y7⟩ := t_box4 hW'; clear hW'; go_simp; first | done | with_reducible rfl)
  simp only [Act.put, nS]
  refine tkH 3 ?_ rfl k0d_h.out (fun W' hW' => ?_) ?_; rotate_left; · (obtain ⟨⟨y0, y1, y2, y3⟩, y4, y5, y6, y7⟩ := t_box4 hW'; clear hW'; go_simp; first | done | with_reducible rfl)
  simp only [Act.put, nS]
  refine tkH 5 ?_ rfl k0d_h.out (fun W' hW' => ?_) ?_; rotate_left; · (obtain ⟨⟨y0, y1, y2, y3⟩, y4, y5, y6, y7⟩ := t_box4 hW'; clear hW'; go_simp; first | done | with_reducible rfl)
  simp only [Act.put, nS]
  refine tkH 6 ?_ rfl k0d_h.out (fun W' hW' => ?_) ?_; rotate_left; · (obtain ⟨⟨y0, y1, y2, y3⟩, y4, y5, y6, y7⟩ := t_box4 hW'; clear hW'; go_simp; first | done | with_reducible rfl)
  simp only [Act.put, nS]
  refine tkH 7 ?_ rfl k0d_h.out (fun W' hW' => ?_) ?_; rotate_left; · (obtain ⟨⟨y0, y1, y2, y3⟩, y4, y5, y6, y7⟩ := t_box4 hW'; clear hW'; go_simp; first | done | with_reducible rfl)
  simp only [Act.put, nS]
  refine callOrH 4 10 (f := ?fo1) (args := ?argso1) (vj := ?vjo1) (wj := ?wjo1) rfl rfl (by kernel_rfl) (by rfl) (by rfl) ?hruno1 ?hrunjo1 ?h1o1 ?hSjo1 ?h2o1
  case hruno1 => (go_simp; first | done | with_reducible rfl | (constructor <;> with_reducible rfl))
  case hrunjo1 => (go_simp; first | done | with_reducible rfl | (constructor <;> with_reducible rfl))
  case hSjo1 => exact (t_box_below k0d_h.out (t_below_alloc _ _))
  case h1o1 =>
   refine (hC1_h.out W1 hBd_h.out).mono ?_
   rintro e w2 ⟨A2, c2, rfl, hO2⟩
   have hB2 := below_trans hBd_h.out hO2.below_ hBd_h.out.size
   have k2 := t_box_below k0d_h.out hO2.below_
   have hW2 := below_trans hbd_h.out hO2.below_ hbd_h.out.size
   refine ⟨_, rfl, k2, ?_⟩
   have hO2_h := lH hO2; have hB2_h := lH hB2; have k2_h := lH k2; have hW2_h := lH hW2; clear hO2 hB2 k2 hW2
   simp only [Act.put, nS]
   refine callOrH 8 10 (f := ?fo2) (args := ?argso2) (vj := ?vjo2) (wj := ?wjo2) rfl rfl (by kernel_rfl) (by rfl) (by rfl) ?hruno2 ?hrunjo2 ?h1o2 ?hSjo2 ?h2o2
   case hruno2 => (go_simp; first | done | with_reducible rfl | (constructor <;> with_reducible rfl))
   case hrunjo2 => (go_simp; first | done | with_reducible rfl | (constructor <;> with_reducible rfl))
   case hSjo2 => exact (t_box_below k2_h.out (t_below_alloc _ _))
   case h1o2 =>
    refine (hC2_h.out w2 hB2_h.out).mono ?_
    rintro e w3 ⟨A3, c3, rfl, hO3⟩
    have k3 := t_box_below k2_h.out hO3.below_
    have hW3 := below_trans hW2_h.out hO3.below_ hW2_h.out.size
    have hLs := OwLs.two (x := (A2, c2, mapL tt s)) (y := (A3, c3, mapL tt t)) hO2_h.out.is hO3.below_ hO3.is hO3.new
    have hlt2 := hLs.lt
    have hfr : ∀ x, x ∈ fpR [((A2, c2, mapL tt s) : Hd), (A3, c3, mapL tt t)] → W.heap.size ≤ x ∧ x ≠ w3.heap.size := fun x hx => by
     have h1 := hlt2 x hx
     rw [fpR_cons, fpR_cons] at hx
     rcases List.mem_append.1 hx with hx | hx
     · have := hO2_h.out.new x hx; have := hbd_h.out.size; omega
     · rcases List.mem_append.1 hx with hx | hx
       · have := hO3.new x hx; have := hW2_h.out.size; omega
       · simp [fpR] at hx
    refine ⟨_, rfl, k3, ?_⟩
    obtain ⟨W5, hW5, bW5, x5⟩ := alloc_box1g w3 (.cells #[.int .i64 0, .slice none 0 0, .slice none 0 0, .slice none 0 0] tGr)
    obtain ⟨s1, s2⟩ := set4 (a := .int .i64 cnt) (b := .slice none 0 0) (c := .slice A2 p c2) (d := .slice A3 r c3) x5
    have k5 := t_box_below k3 bW5
    have k6 := t_box_keeps k5 s2 (by have := t_box_lt k3; omega)
    have hLs5 := (hLs.below bW5).keeps s2 (fun x hx e => (hfr x hx).2 e)
    have hBf := below_keeps (below_trans hW3 bW5 hW3.size) s2 (Nat.le_trans hW3.size bW5.size) (fun x hx => by rw [hx]; exact hW3.size)
    have hge := hW3.size
    obtain ⟨⟨y0, y1, y2, y3⟩, y4, y5, y6, y7⟩ := t_box4 x5
    have k3_h := lH k3; have hLs5_h := lH hLs5; have hBf_h := lH hBf; have s1_h := lH s1; have s2_h := lH s2; have x5_h := lH x5; have k5_h := lH k5; have k6_h := lH k6; have hfr_h := lH hfr; have hge_h := lH hge; clear k3 hLs5 hBf s1 s2 x5 k5 k6 hfr hge; clear hW3 hLs hlt2 bW5 hO3
    simp only [Act.put, nS]
    refine tkH 9 ?_ rfl k3_h.out (fun W' hW' => ?_) ?_; rotate_left; · (skip; clear hW'; go_simp; first | done | with_reducible rfl)
    simp only [Act.put, nS]
    refine oneH 10 rfl (by kernel_rfl) (by rfl) (fun K hK => ?_)
    go_simp
    rw [← hW5]
    refine hK _ _ k5_h.out ?_
    clear hK K hW5
    refine oneH 11 rfl (by kernel_rfl) (by rfl) (fun K hK => ?_)
    go_simp
    refine hK _ _ k6_h.out ?_
    clear hK K
    refine doneH (by kernel_rfl) ?_
    go_wp2_with (fail)
    go_meet
    exact ⟨w3.heap.size, (A2, c2, mapL tt s), (A3, c3, mapL tt t), rfl, s1_h.out, rfl, rfl, hLs5_h.out, hfr_h.out, hge_h.out, hBf_h.out⟩
   case h2o2 =>
    have bA := t_below_alloc w2 (.cells #[.int .i64 0, .slice none 0 0, .slice none 0 0, .slice none 0 0] tGr)
    have kA := heap_alloc_new w2 (.cells #[.int .i64 0, .slice none 0 0, .slice none 0 0, .slice none 0 0] tGr)
    have hB3 := below_trans hB2_h.out bA hB2_h.out.size
    have hWA := below_trans hW2_h.out bA hW2_h.out.size
    have k2a := t_box_below k2_h.out bA
    have hzA : (w2.alloc (.cells #[.int .i64 0, .slice none 0 0, .slice none 0 0, .slice none 0 0] tGr)).heap.size = w2.heap.size + 1 := World.size_alloc _ _
    simp only [Act.put, nS]
    refine' callH 8 (f := _) (args := _) rfl (by kernel_rfl) (by rfl) ?_ ?_; rotate_left 2; · (go_simp; first | done | with_reducible rfl | (constructor <;> with_reducible rfl))
    refine (hC2_h.out _ hB3).mono ?_
    rintro e w3 ⟨A3, c3, rfl, hO3⟩
    have k3 := t_box_below k2a hO3.below_
    have kb := t_box_below kA hO3.below_
    have hW3 := below_trans hWA hO3.below_ hWA.size
    have hLs := OwLs.two (x := (A2, c2, mapL tt s)) (y := (A3, c3, mapL tt t)) (hO2_h.out.is.below bA) hO3.below_ hO3.is hO3.new
    have hws := hW2_h.out.size
    have hzk := t_box_lt k2_h.out
    have hfr : ∀ x, x ∈ fpR [((A2, c2, mapL tt s) : Hd), (A3, c3, mapL tt t)] → W.heap.size ≤ x ∧ x ≠ w2.heap.size := fun x hx => by
     rw [fpR_cons, fpR_cons] at hx
     rcases List.mem_append.1 hx with hx | hx
     · have h1 := hO2_h.out.is.lt x hx; have := hO2_h.out.new x hx; have := hbd_h.out.size; omega
     · rcases List.mem_append.1 hx with hx | hx
       · have := hO3.new x hx; omega
       · simp [fpR] at hx
    obtain ⟨s1, s2⟩ := set4 (a := .int .i64 cnt) (b := .slice none 0 0) (c := .slice A2 p c2) (d := .slice A3 r c3) kb
    have k6 := t_box_keeps k3 s2 (by omega)
    have hLs5 := hLs.keeps s2 (fun x hx e => (hfr x hx).2 e)
    have hBf := below_keeps hW3 s2 hW3.size (fun x hx => by omega)
    refine ⟨_, rfl, k3, ?_⟩
    obtain ⟨⟨y0, y1, y2, y3⟩, y4, y5, y6, y7⟩ := t_box4 kb
    have k3_h := lH k3; have hLs5_h := lH hLs5; have hBf_h := lH hBf; have s1_h := lH s1; have s2_h := lH s2; have kb_h := lH kb; have k6_h := lH k6; have hfr_h := lH hfr; clear k3 hLs5 hBf s1 s2 kb k6 hfr; clear hW3 hLs hO3
    simp only [Act.put, nS]
    refine tkH 9 ?_ rfl k3_h.out (fun W' hW' => ?_) ?_; rotate_left; · (skip; clear hW'; go_simp; first | done | with_reducible rfl)
    simp only [Act.put, nS]
    refine oneH 11 rfl (by kernel_rfl) (by rfl) (fun K hK => ?_)
    go_simp
    refine hK _ _ k6_h.out ?_
    clear hK K
    refine doneH (by kernel_rfl) ?_
    go_wp2_with (fail)
    go_meet
    exact ⟨w2.heap.size, (A2, c2, mapL tt s), (A3, c3, mapL tt t), rfl, s1_h.out, rfl, rfl, hLs5_h.out, hfr_h.out, by omega, hBf_h.out⟩
  case h2o1 =>
   have bA := t_below_alloc W1 (.cells #[.int .i64 0, .slice none 0 0, .slice none 0 0, .slice none 0 0] tGr)
   have kA := heap_alloc_new W1 (.cells #[.int .i64 0, .slice none 0 0, .slice none 0 0, .slice none 0 0] tGr)
   have hBa := below_trans hBd_h.out bA hBd_h.out.size
   have hWA := below_trans hbd_h.out bA hbd_h.out.size
   have k2a := t_box_below k0d_h.out bA
   have hzA : (W1.alloc (.cells #[.int .i64 0, .slice none 0 0, .slice none 0 0, .slice none 0 0] tGr)).heap.size = W1.heap.size + 1 := World.size_alloc _ _
   simp only [Act.put, nS]
   refine' callH 4 (f := _) (args := _) rfl (by kernel_rfl) (by rfl) ?_ ?_; rotate_left 2; · (go_simp; first | done | with_reducible rfl | (constructor <;> with_reducible rfl))
   refine (hC1_h.out _ hBa).mono ?_
   rintro e w2 ⟨A2, c2, rfl, hO2⟩
   have hB2 := below_trans hBa hO2.below_ hBa.size
   have k2 := t_box_below k2a hO2.below_
   have kb2 := t_box_below kA hO2.below_
   have hW2 := below_trans hWA hO2.below_ hWA.size
   refine ⟨_, rfl, k2, ?_⟩
   simp only [Act.put, nS]
   refine' callH 8 (f := _) (args := _) rfl (by kernel_rfl) (by rfl) ?_ ?_; rotate_left 2; · (go_simp; first | done | with_reducible rfl | (constructor <;> with_reducible rfl))
   refine (hC2_h.out _ hB2).mono ?_
   rintro e w3 ⟨A3, c3, rfl, hO3⟩
   have k3 := t_box_below k2 hO3.below_
   have kb := t_box_below kb2 hO3.below_
   have hW3 := below_trans hW2 hO3.below_ hW2.size
   have hLs := OwLs.two (x := (A2, c2, mapL tt s)) (y := (A3, c3, mapL tt t)) hO2.is hO3.below_ hO3.is hO3.new
   have hws := hbd_h.out.size
   have hzk := t_box_lt k0d_h.out
   have hws2 := hO2.below_.size
   have hfr : ∀ x, x ∈ fpR [((A2, c2, mapL tt s) : Hd), (A3, c3, mapL tt t)] → W.heap.size ≤ x ∧ x ≠ W1.heap.size := fun x hx => by
    rw [fpR_cons, fpR_cons] at hx
    rcases List.mem_append.1 hx with hx | hx
    · have := hO2.new x hx; omega
    · rcases List.mem_append.1 hx with hx | hx
      · have := hO3.new x hx; omega
      · simp [fpR] at hx
   obtain ⟨s1, s2⟩ := set4 (a := .int .i64 cnt) (b := .slice none 0 0) (c := .slice A2 p c2) (d := .slice A3 r c3) kb
   have k6 := t_box_keeps k3 s2 (by omega)
   have hLs5 := hLs.keeps s2 (fun x hx e => (hfr x hx).2 e)
   have hBf := below_keeps hW3 s2 hW3.size (fun x hx => by omega)
   refine ⟨_, rfl, k3, ?_⟩
   obtain ⟨⟨y0, y1, y2, y3⟩, y4, y5, y6, y7⟩ := t_box4 kb
   have k3_h := lH k3; have hLs5_h := lH hLs5; have hBf_h := lH hBf; have s1_h := lH s1; have s2_h := lH s2; have kb_h := lH kb; have k6_h := lH k6; have hfr_h := lH hfr; clear k3 hLs5 hBf s1 s2 kb k6 hfr; clear hW3 hLs hO3
   simp only [Act.put, nS]
   refine tkH 9 ?_ rfl k3_h.out (fun W' hW' => ?_) ?_; rotate_left; · (skip; clear hW'; go_simp; first | done | with_reducible rfl)
   simp only [Act.put, nS]
   refine oneH 11 rfl (by kernel_rfl) (by rfl) (fun K hK => ?_)
   go_simp
   refine hK _ _ k6_h.out ?_
   clear hK K
   refine doneH (by kernel_rfl) ?_
   go_wp2_with (fail)
   go_meet
   exact ⟨W1.heap.size, (A2, c2, mapL tt s), (A3, c3, mapL tt t), rfl, s1_h.out, rfl, rfl, hLs5_h.out, hfr_h.out, by omega, hBf_h.out⟩
 case rest =>
  obtain ⟨bx, ⟨X1, X2, X3⟩, ⟨Y1, Y2, Y3⟩, rfl, kx, rfl, rfl, hLs, hfr, hbx, hBc⟩ := hcut
  obtain ⟨w4, rfl⟩ : ∃ x, x = wc := ⟨_, rfl⟩
  have k0c := t_box_below k0_h.out hBc
  have hws := bW_h.out.size
  obtain ⟨⟨c0, c1, c2, c3⟩, f0, f1, f2, f3⟩ := t_box4 k0c
  have k0c_h := lH k0c; have kx_h := lH kx; have hLs_h := lH hLs; have hfr_h := lH hfr; have hBc_h := lH hBc; clear k0c kx hLs hfr hBc
  go_wp2_with (fail)
  clear c0 c1 c2 c3 f0 f1 f2 f3
  go_loopw [23] (fun i wr => ∃ (k : Nat) (A' : Option Addr) (c' : Nat) (ys : List EHd), k ≤ m ∧ i = .int .i64 k ∧ ys.length = k ∧ ys.map egOf = (es.take k).map (mapE tt) ∧ wr.heap[bx]? = some (.cells #[.int .i64 cnt, .slice A' k c', .slice X1 p X2, .slice Y1 r Y2] tGr) ∧ Sl wr tEd 4 A' k c' (ecs ys) ∧ OwLs wr (fpA A') ((X1, X2, mapL tt s) :: (Y1, Y2, mapL tt t) :: eh ys) ∧ (∀ x, x ∈ fpA A' ++ fpR (((X1, X2, mapL tt s) : Hd) :: (Y1, Y2, mapL tt t) :: eh ys) → W.heap.size ≤ x ∧ x ≠ bx) ∧ Below W.heap.size W wr) (fun i _ => m - (intOf i).toNat)
  case atStart => exact ⟨0, none, 0, [], Nat.zero_le _, rfl, rfl, rfl, kx_h.out, Sl.nil _ _ _, hLs_h.out, hfr_h.out, hBc_h.out⟩
  case round =>
   clear kx_h hLs_h hfr_h hBc_h k0c_h
   obtain ⟨k, A', c', ys, hk, rfl, hyl, hye, kx, hsl, hLs, hfr, hBr⟩ := hrel
   have hBw := below_trans bW_h.out hBr bW_h.out.size
   by_cases hlt : k < m
   · obtain ⟨ad, κ, vv, B1, b1, s1, C1, b2, t1, rfl, hn, ⟨d0, d1, d2, d3⟩, hr1, hr2⟩ := (hE_h.out.below hBw).at_ (j := k) (by rw [← hm_h.out]; exact hlt)
     have hek : es[k]? = some (κ, vv, s1, t1) := by rw [a1_h.out, List.getElem?_map, hn]; rfl
     obtain ⟨hm1, hm2⟩ := mem_edW_of (List.mem_of_getElem? hek)
     have hln := hlE_h.out _ (List.mem_of_getElem? hek)
     have hrA : RdI w B1 s1 := (hE_h.out.2 _ (List.mem_of_getElem? hn)).1
     have hrB : RdI w C1 t1 := (hE_h.out.2 _ (List.mem_of_getElem? hn)).2
     have hCa := fun (W' : World) (hb : Below w.heap.size w W') => mapped_any B1 T b1 tc s1.length n s1 tt W' (hrA.below hb) (ht_h.out.below hb) rfl htn_h.out (fun x hx => hinE_h.out x (hm1 x hx)) hln.1
     have hCb := fun (W' : World) (hb : Below w.heap.size w W') => mapped_any C1 T b2 tc t1.length n t1 tt W' (hrB.below hb) (ht_h.out.below hb) rfl htn_h.out (fun x hx => hinE_h.out x (hm2 x hx)) hln.2
     obtain ⟨p1, hp1⟩ : ∃ p1, p1 = s1.length := ⟨_, rfl⟩
     obtain ⟨r1, hr1'⟩ : ∃ r1, r1 = t1.length := ⟨_, rfl⟩
     rw [← hp1] at d2
     rw [← hr1'] at d3
     simp only [← hp1] at hCa
     simp only [← hr1'] at hCb
     have hkI : (k : Int) < (m : Int) := by omega
     obtain ⟨wo, rfl⟩ : ∃ x, x = wr := ⟨_, rfl⟩
     obtain ⟨W6, hW6, bW6, k6⟩ := alloc_box1g wo (.cells #[.int .i64 κ, .int .i64 vv, .slice B1 p1 b1, .slice C1 r1 b2] tEd)
     have kx6 := t_box_below kx bW6
     have hxl := t_box_lt kx
     have hsl6 := hsl.below bW6
     have hLs6 := hLs.below bW6
     have hfl := hsl.lt
     have hll := hLs.lt
     have hB6 := below_trans hBw bW6 hBw.size
     have hW6b := below_trans hBr bW6 hBr.size
     have hr1_h := lH hr1'; clear hr1' hr1 hr2 hn hm1 hm2 hln hrA hrB hsl hLs kx hBr hBw; have hek_h := lH hek; have hp1_h := lH hp1; have bW6_h := lH bW6; have hye_h := lH hye; have hyl_h := lH hyl; have hCa_h := lH hCa; have hCb_h := lH hCb; have hfr_h := lH hfr; have kx6_h := lH kx6; have k6_h := lH k6; have hsl6_h := lH hsl6; have hLs6_h := lH hLs6; have hB6_h := lH hB6; have hW6b_h := lH hW6b; have hfl_h := lH hfl; have hll_h := lH hll; clear hek hp1 bW6 hye hyl hCa hCb hfr kx6 k6 hsl6 hLs6 hB6 hW6b hfl hll
     go_upto_region 5 with (fail)
     rw [← hW6]
     clear hW6 d0 d1 d2 d3
     refine beginZw 18 (fun w' => w'.heap[bx]? = some (.cells #[.int .i64 cnt, .slice A' k c', .slice X1 p X2, .slice Y1 r Y2] tGr) ∧ w'.heap[wo.heap.size]? = some (.cells #[.int .i64 κ, .int .i64 vv, .slice B1 p1 b1, .slice C1 r1 b2] tEd)) (by kernel_rfl) (fun W7 hW7 => ?_)
     have hbd : Below W6.heap.size W6 W7 := by rw [hW7]; exact below_drew (Below.refl _ _)
     clear hW7
     have hF := And.intro (t_box_below kx6_h.out hbd) (t_box_below k6_h.out hbd)
     have hB7 := below_trans hB6_h.out hbd hB6_h.out.size
     have hW7b := below_trans hW6b_h.out hbd hW6b_h.out.size
     have hsl7 := hsl6_h.out.below hbd
     have hLs7 := hLs6_h.out.below hbd
     have h7s : wo.heap.size ≤ W7.heap.size := Nat.le_trans bW6_h.out.size hbd.size
     clear hbd; have hF_h := lH hF; have hB7_h := lH hB7; have hW7b_h := lH hW7b; have hsl7_h := lH hsl7; have hLs7_h := lH hLs7; clear hF hB7 hW7b hsl7 hLs7
     refine tkC 0 ?_ rfl hF_h.out (fun W' hW' => ?_) ?_; rotate_left; · (obtain ⟨⟨y0, y1, y2, y3⟩, y4, y5, y6, y7⟩ := t_box4 hW'.1; obtain ⟨⟨x0, x1, x2, x3⟩, x4, x5, x6, x7⟩ := t_box4 hW'.2; clear hW'; go_simp; first | done | with_reducible rfl)
     simp only [Act.put, nS]
     refine tkC 1 ?_ rfl hF_h.out (fun W' hW' => ?_) ?_; rotate_left; · (obtain ⟨⟨y0, y1, y2, y3⟩, y4, y5, y6, y7⟩ := t_box4 hW'.1; obtain ⟨⟨x0, x1, x2, x3⟩, x4, x5, x6, x7⟩ := t_box4 hW'.2; clear hW'; go_simp; first | done | with_reducible rfl)
     simp only [Act.put, nS]
     refine tkC 2 ?_ rfl hF_h.out (fun W' hW' => ?_) ?_; rotate_left; · (obtain ⟨⟨y0, y1, y2, y3⟩, y4, y5, y6, y7⟩ := t_box4 hW'.1; obtain ⟨⟨x0, x1, x2, x3⟩, x4, x5, x6, x7⟩ := t_box4 hW'.2; clear hW'; go_simp; first | done | with_reducible rfl)
     simp only [Act.put, nS]
     refine tkC 3 ?_ rfl hF_h.out (fun W' hW' => ?_) ?_; rotate_left; · (obtain ⟨⟨y0, y1, y2, y3⟩, y4, y5, y6, y7⟩ := t_box4 hW'.1; obtain ⟨⟨x0, x1, x2, x3⟩, x4, x5, x6, x7⟩ := t_box4 hW'.2; clear hW'; go_simp; first | done | with_reducible rfl)
     simp only [Act.put, nS]
     refine tkC 4 ?_ rfl hF_h.out (fun W' hW' => ?_) ?_; rotate_left; · (obtain ⟨⟨y0, y1, y2, y3⟩, y4, y5, y6, y7⟩ := t_box4 hW'.1; obtain ⟨⟨x0, x1, x2, x3⟩, x4, x5, x6, x7⟩ := t_box4 hW'.2; clear hW'; go_simp; first | done | with_reducible rfl)
     simp only [Act.put, nS]
     refine tkC 5 ?_ rfl hF_h.out (fun W' hW' => ?_) ?_; rotate_left; · (obtain ⟨⟨y0, y1, y2, y3⟩, y4, y5, y6, y7⟩ := t_box4 hW'.1; obtain ⟨⟨x0, x1, x2, x3⟩, x4, x5, x6, x7⟩ := t_box4 hW'.2; clear hW'; go_simp; first | done | with_reducible rfl)
     simp only [Act.put, nS]
     refine tkC 6 ?_ rfl hF_h.out (fun W' hW' => ?_) ?_; rotate_left; · (obtain ⟨⟨y0, y1, y2, y3⟩, y4, y5, y6, y7⟩ := t_box4 hW'.1; obtain ⟨⟨x0, x1, x2, x3⟩, x4, x5, x6, x7⟩ := t_box4 hW'.2; clear hW'; go_simp; first | done | with_reducible rfl)
     simp only [Act.put, nS]
     refine tkC 7 ?_ rfl hF_h.out (fun W' hW' => ?_) ?_; rotate_left; · (obtain ⟨⟨y0, y1, y2, y3⟩, y4, y5, y6, y7⟩ := t_box4 hW'.1; obtain ⟨⟨x0, x1, x2, x3⟩, x4, x5, x6, x7⟩ := t_box4 hW'.2; clear hW'; go_simp; first | done | with_reducible rfl)
     simp only [Act.put, nS]
     refine tkC 8 ?_ rfl hF_h.out (fun W' hW' => ?_) ?_; rotate_left; · (obtain ⟨⟨y0, y1, y2, y3⟩, y4, y5, y6, y7⟩ := t_box4 hW'.1; obtain ⟨⟨x0, x1, x2, x3⟩, x4, x5, x6, x7⟩ := t_box4 hW'.2; clear hW'; go_simp; first | done | with_reducible rfl)
     simp only [Act.put, nS]
     refine tkC 10 ?_ rfl hF_h.out (fun W' hW' => ?_) ?_; rotate_left; · (obtain ⟨⟨y0, y1, y2, y3⟩, y4, y5, y6, y7⟩ := t_box4 hW'.1; obtain ⟨⟨x0, x1, x2, x3⟩, x4, x5, x6, x7⟩ := t_box4 hW'.2; clear hW'; go_simp; first | done | with_reducible rfl)
     simp only [Act.put, nS]
     refine tkC 11 ?_ rfl hF_h.out (fun W' hW' => ?_) ?_; rotate_left; · (obtain ⟨⟨y0, y1, y2, y3⟩, y4, y5, y6, y7⟩ := t_box4 hW'.1; obtain ⟨⟨x0, x1, x2, x3⟩, x4, x5, x6, x7⟩ := t_box4 hW'.2; clear hW'; go_simp; first | done | with_reducible rfl)
     simp only [Act.put, nS]
     refine tkC 12 ?_ rfl hF_h.out (fun W' hW' => ?_) ?_; rotate_left; · (obtain ⟨⟨y0, y1, y2, y3⟩, y4, y5, y6, y7⟩ := t_box4 hW'.1; obtain ⟨⟨x0, x1, x2, x3⟩, x4, x5, x6, x7⟩ := t_box4 hW'.2; clear hW'; go_simp; first | done | with_reducible rfl)
     simp only [Act.put, nS]
     refine callZ 9 (f := ?f3) (args := ?args3) rfl (by kernel_rfl) (by rfl) ?hrun3 ?hcall3
     case hrun3 => (go_simp; first | done | with_reducible rfl | (constructor <;> with_reducible rfl))
     case hcall3 =>
      refine (hCa_h.out W7 hB7_h.out).mono ?_
      rintro e w8 ⟨A8, c8, rfl, hO8⟩
      have hF8 := And.intro (t_box_below hF_h.out.1 hO8.below_) (t_box_below hF_h.out.2 hO8.below_)
      have hB8 := below_trans hB7_h.out hO8.below_ hB7_h.out.size
      have hW8b := below_trans hW7b_h.out hO8.below_ hW7b_h.out.size
      refine ⟨_, rfl, fun _ => hF8, ?_⟩
      have hF8_h := lH hF8; have hB8_h := lH hB8; have hW8b_h := lH hW8b; have hO8_h := lH hO8; clear hF8 hB8 hW8b hO8
      simp only [Act.put, nS]
      refine callZ 13 (f := ?f4) (args := ?args4) rfl (by kernel_rfl) (by rfl) ?hrun4 ?hcall4
      case hrun4 => (go_simp; first | done | with_reducible rfl | (constructor <;> with_reducible rfl))
      case hcall4 =>
       refine (hCb_h.out w8 hB8_h.out).mono ?_
       rintro e w9 ⟨A9, c9, rfl, hO9⟩
       have hF9 := And.intro (t_box_below hF8_h.out.1 hO9.below_) (t_box_below hF8_h.out.2 hO9.below_)
       have hB9 := below_trans hB8_h.out hO9.below_ hB8_h.out.size
       have hW9b := below_trans hW8b_h.out hO9.below_ hW8b_h.out.size
       have h79 : Below W7.heap.size W7 w9 := below_trans hO8_h.out.below_ hO9.below_ hO8_h.out.below_.size
       have hLs9 := hLs7_h.out.app h79 (ms := [(A8, c8, mapL tt s1), (A9, c9, mapL tt t1)]) (OwLs.two (x := (A8, c8, mapL tt s1)) (y := (A9, c9, mapL tt t1)) hO8_h.out.is hO9.below_ hO9.is hO9.new) (fun x hx => by
        rw [fpR_cons, fpR_cons] at hx
        rcases List.mem_append.1 hx with hx | hx
        · exact hO8_h.out.new x hx
        · rcases List.mem_append.1 hx with hx | hx
          · have := hO9.new x hx; have := hO8_h.out.below_.size; omega
          · simp [fpR] at hx) (fun x hx => hsl7_h.out.lt x hx)
       have hnew : ∀ x, x ∈ fpR [((A8, c8, mapL tt s1) : Hd), (A9, c9, mapL tt t1)] → W7.heap.size ≤ x := fun x hx => by
        rw [fpR_cons, fpR_cons] at hx
        rcases List.mem_append.1 hx with hx | hx
        · exact hO8_h.out.new x hx
        · rcases List.mem_append.1 hx with hx | hx
          · have := hO9.new x hx; have := hO8_h.out.below_.size; omega
          · simp [fpR] at hx
       have hsl9 := hsl7_h.out.below h79
       refine ⟨_, rfl, fun _ => hF9, ?_⟩
       clear hO9
       obtain ⟨w10, hw10, bw10, -⟩ := alloc_box1g w9 (.cells #[.int .i64 κ, .int .i64 vv, .slice A8 p1 c8, .slice A9 r1 c9] tEd)
       have hF10 := And.intro (t_box_below hF9.1 bw10) (t_box_below hF9.2 bw10)
       have hsl10 := hsl9.below bw10
       have hLs10 := hLs9.below bw10
       have h9s := h79.size
       have hW10b := below_trans hW9b bw10 hW9b.size
       have hlaid : RdC w10 (some ⟨w9.heap.size, 0, none⟩) [.int .i64 κ, .int .i64 vv, .slice A8 p1 c8, .slice A9 r1 c9] := by
        rw [hw10]; exact Sl.rdc (Sl.laid w9 tEd 4 1 #[.int .i64 κ, .int .i64 vv, .slice A8 p1 c8, .slice A9 r1 c9] (by unfold maxLen; omega) rfl)
       have hF9_h := lH hF9; have hF10_h := lH hF10; have hsl10_h := lH hsl10; have hLs10_h := lH hLs10; have hnew_h := lH hnew; have hW10b_h := lH hW10b; have hlaid_h := lH hlaid; have bw10_h := lH bw10; clear hF9 hF10 hsl10 hLs10 hnew hW10b hlaid bw10; clear hsl9 hLs9 hB9 hW9b h79
       simp only [Act.put, nS]
       refine tkC 14 ?_ rfl hF9_h.out (fun W' hW' => ?_) ?_; rotate_left; · (skip; clear hW'; go_simp; first | done | with_reducible rfl)
       simp only [Act.put, nS]
       refine oneZ 15 rfl (by kernel_rfl) (by rfl) (fun K hK => ?_)
       go_simp
       rw [← hw10]
       refine hK _ _ (fun _ => hF10_h.out) ?_
       clear hK K hw10
       refine appZ 16 rfl (by kernel_rfl) (by rfl) _ _ _ rfl tEd Tryz.underlying22 info_ed rfl (by omega) rfl hsl10_h.out rfl (news := [.int .i64 κ, .int .i64 vv, .slice A8 p1 c8, .slice A9 r1 c9]) rfl hlaid_h.out (by intro u hu; simp at hu; rcases hu with rfl | rfl | rfl | rfl <;> rfl) (by unfold maxLen; omega) (by omega) ?_
       intro A11 c11 w11 hs11 hA11 hk11 hrd11
       clear hrd11
       have hsle : Sl w11 tEd 4 A11 (k + 1) c11 (ecs (ys ++ [(κ, vv, (A8, c8, mapL tt s1), (A9, c9, mapL tt t1))])) := by
        have e : ecs ys ++ [.int .i64 κ, .int .i64 vv, .slice A8 p1 c8, .slice A9 r1 c9] = ecs (ys ++ [(κ, vv, (A8, c8, mapL tt s1), (A9, c9, mapL tt t1))]) := by
         rw [ecs_append]; simp only [ecs, ec, Hd.val, mapL_length, List.append_nil]; rw [← hp1_h.out, ← hr1_h.out]
        rw [← e]; exact hs11
       have hLs11 := hLs10_h.out.grow hA11 hk11
       have hfp11 : ∀ x, x ∈ fpA A11 ++ fpR (((X1, X2, mapL tt s) : Hd) :: (Y1, Y2, mapL tt t) :: eh (ys ++ [(κ, vv, (A8, c8, mapL tt s1), (A9, c9, mapL tt t1))])) → W.heap.size ≤ x ∧ x ≠ bx := fun x hx => by
        have hs7 := hW7b_h.out.size
        rcases List.mem_append.1 hx with hx | hx
        · rcases hA11 x hx with h1 | h1
          · exact hfr_h.out x (List.mem_append_left _ h1)
          · have := hW10b_h.out.size; have := bw10_h.out.size; omega
        · rw [eh_append, ← List.cons_append, ← List.cons_append, fpR_append] at hx
          rcases List.mem_append.1 hx with hx | hx
          · exact hfr_h.out x (List.mem_append_right _ hx)
          · have := hnew_h.out x hx; omega
       have hkA : ∀ x, x ∈ fpA A' → x ≠ bx ∧ x ≠ wo.heap.size := fun x hx => ⟨(hfr_h.out x (List.mem_append_left _ hx)).2, fun e => by have := hfl_h.out x hx; omega⟩
       have hF11 := And.intro (t_box_keeps hF10_h.out.1 hk11 (fun h => (hkA _ h).1 rfl)) (t_box_keeps hF10_h.out.2 hk11 (fun h => (hkA _ h).2 rfl))
       have hW11b := below_keeps hW10b_h.out hk11 hW10b_h.out.size (fun x hx => (hfr_h.out x (List.mem_append_left _ hx)).1)
       refine ⟨fun _ => hF11, ?_⟩
       obtain ⟨s1', s2'⟩ := box_set hF11.1 1 (.slice A11 (k + 1) c11)
       have s3' : (w11.setCell ⟨bx, 1, none⟩ (.slice A11 (k + 1) c11)).heap[bx]? = some (.cells #[.int .i64 cnt, .slice A11 (k + 1) c11, .slice X1 p X2, .slice Y1 r Y2] tGr) := s1'
       have hsl12 := hsle.keeps s2' (fun x hx e => (hfp11 x (List.mem_append_left _ hx)).2 e)
       have hLs12 := hLs11.keeps s2' (fun x hx e => (hfp11 x (List.mem_append_right _ (by rw [eh_append]; exact hx))).2 e)
       have hW12b := below_keeps hW11b s2' hW11b.size (fun x hx => by omega)
       have hye2 : (ys ++ [(κ, vv, (A8, c8, mapL tt s1), (A9, c9, mapL tt t1))]).map egOf = (es.take (k + 1)).map (mapE tt) := by
        rw [List.map_append, hye_h.out, List.take_add_one, hek_h.out, List.map_append]; rfl
       obtain ⟨⟨y0, y1, y2, y3⟩, y4, y5, y6, y7⟩ := t_box4 hF11.1
       clear hs11 hA11 hk11 hsle hLs11 s1' s2' hW11b hkA; have hF11_h := lH hF11; have s3'_h := lH s3'; have hsl12_h := lH hsl12; have hLs12_h := lH hLs12; have hW12b_h := lH hW12b; have hye2_h := lH hye2; have hfp11_h := lH hfp11; clear hF11 s3' hsl12 hLs12 hW12b hye2 hfp11
       simp only [Act.put, nS]
       refine tkC 17 ?_ rfl hF11_h.out (fun W' hW' => ?_) ?_; rotate_left; · (skip; clear hW'; go_simp; first | done | with_reducible rfl)
       simp only [Act.put, nS]
       refine oneZ 18 rfl (by kernel_rfl) (by rfl) (fun K hK => ?_)
       go_simp
       refine hK _ _ (fun h => by cases h) ?_
       clear hK K
       refine doneZ (by kernel_rfl) ?_
       go_wp2_with (fail)
       go_roundw
       case rel => exact ⟨k + 1, A11, c11, _, by omega, by go_num, by rw [List.length_append, hyl_h.out]; rfl, hye2_h.out, s3'_h.out, hsl12_h.out, by rw [eh_append]; exact hLs12_h.out, hfp11_h.out, hW12b_h.out⟩
       case measure => simp [intOf]; omega
   · obtain rfl : m = k := by omega
     rw [List.take_of_length_le (by rw [hmes_h.out]; exact Nat.le_refl _)] at hye
     have k1r := t_box_below k1_h.out hBr
     obtain ⟨t1', t2'⟩ := set4 (a := .int .i64 cnt) (b := .slice A' m c') (c := .slice X1 p X2) (d := .slice Y1 r Y2) k1r
     have hk1W := t_box_lt k1_h.out
     have hsl2 := hsl.keeps t2' (fun x hx e => by have := (hfr x (List.mem_append_left _ hx)).1; omega)
     have hLs2 := hLs.keeps t2' (fun x hx e => by have := (hfr x (List.mem_append_right _ hx)).1; omega)
     have hB9 := below_keeps hBw t2' hBw.size (fun x hx => by omega)
     have hfw : FreshL w.heap.size (fpA A' ++ fpR (((X1, X2, mapL tt s) : Hd) :: (Y1, Y2, mapL tt t) :: eh ys)) := fun x hx => by have := (hfr x hx).1; omega
     obtain ⟨⟨c0, c1, c2, c3⟩, f0, f1, f2, f3⟩ := t_box4 kx
     obtain ⟨⟨d0, d1, d2, d3⟩, g0, g1, g2, g3⟩ := t_box4 k1r
     clear hsl hLs t2' k1r kx hBr hBw hfr; have hye_h := lH hye; have hyl_h := lH hyl; have t1'_h := lH t1'; have hsl2_h := lH hsl2; have hLs2_h := lH hLs2; have hB9_h := lH hB9; have hfw_h := lH hfw; clear hye hyl t1' hsl2 hLs2 hB9 hfw
     go_wp2_with (fail)
     refine bodyPost_ret (results_cell_row rfl _ _ (w.heap.size + 1) _ _ (0, 0) _ rfl t1'_h.out Tryz.underlying25 rfl (by kernel_rfl)) rfl ?_
     refine ⟨_, fpA A' ++ fpR (((X1, X2, mapL tt s) : Hd) :: (Y1, Y2, mapL tt t) :: eh ys), rfl, ?_, hfw_h.out, hB9_h.out⟩
     rw [hG_h.out]
     refine ⟨A', c', ys, (X1, X2, mapL tt s), (Y1, Y2, mapL tt t), ?_, hye_h.out.symm, rfl, rfl, ?_, hLs2_h.out, rfl⟩
     · simp only [mapL_length]; rw [hyl_h.out, hp_h.out, hr_h.out]; rfl
     · rw [hyl_h.out]; exact hsl2_h.out
section
variable {P : Program} {l : List Oper} {Q : Exit → Act → World → Prop} {md : Region.Mode} {S : World → Prop}
theorem valOrH (i j : Nat) {oi oj : Oper} {vi vj : Value} {wi wj : World} {fuel : Nat} {listed : Array Bool} {a : Act} {w : World} {li lj : List Oper} (hdi : l.drop i = oi :: li) (hdj : l.drop j = oj :: lj)
  (hr : Region.ready md l.toArray listed = [i, j]) (hwi : Region.wanted oi (yielded l.toArray a.tmps) = true) (hwj : Region.wanted oj (yielded l.toArray a.tmps) = true)
  (hruni : (execOp a.eval oi).run P w = .ok (.value vi) wi) (hrunj : (execOp a.eval oj).run P w = .ok (.value vj) wj)
  (hSi : S wi) (h1 : wpAnyH P md l.toArray Q S fuel (listed.setIfInBounds i true) (a.put oi.dst vi) wi)
  (hSj : S wj) (h2 : wpAnyH P md l.toArray Q S fuel (listed.setIfInBounds j true) (a.put oj.dst vj) wj) : wpAnyH P md l.toArray Q S (fuel + 1) listed a w := by
 refine wpAnyH_all hr (by simp) fun k hk => ?_
 have hk' : k = i ∨ k = j := by simpa using hk
 rcases hk' with rfl | rfl
 · unfold wpOp
   simp only [at_drop hdi, hwi, if_true]
   refine .inl ?_
   unfold Oper.wp
   rw [hruni]
   exact ⟨hSi, h1⟩
 · unfold wpOp
   simp only [at_drop hdj, hwj, if_true]
   refine .inl ?_
   unfold Oper.wp
   rw [hrunj]
   exact ⟨hSj, h2⟩
theorem run_makeOp {o : Oper} {a : Act} {w : World} (lo c : Operand) (t : TypeId) (ho : o.op = .makeSlice t lo c) (e : TypeId) {z : Value} {size bytes : Nat} (ht : P.underlying t = some (.slice e)) (hinfo : (P.info? e).map (fun i => (i.zero, i.size, i.bytes)) = some (some z, size, bytes))
  (n : Nat) (hel : a.eval lo = .int .i64 (n : Int)) (hec : a.eval c = .int .i64 (n : Int)) (hbytes : bytes * n ≤ 281474976710656) (h63 : n ≤ maxLen) :
  (execOp a.eval o).run P w = .ok (.value (.slice (some ⟨w.heap.size, 0, none⟩) n n)) (w.alloc (.cells (madeCells z.cells (n * size)) e)) := by
 obtain ⟨i, hi, hz, hz1, hz2⟩ := info_parts hinfo
 subst hz1 hz2
 have h63' : (n : Int) ≤ 9223372036854775807 := by simp only [maxLen] at h63; omega
 have hb' : (i.bytes : Int) * (n : Int) ≤ 281474976710656 := by
  have h : ((i.bytes * n : Nat) : Int) ≤ 281474976710656 := by omega
  rwa [Int.natCast_mul] at h
 have hrun := run_make (P := P) w t e i z ht hi hz .i64 .i64 n n (by omega) (by omega) hb' h63'
 simp only [Int.toNat_natCast] at hrun
 simp only [execOp, ho, hel, hec, hrun, Sem.run_bind, Sem.run_pure, Result.andThen_ok]
end
theorem made_edges (w : World) (n : Nat) (h : n ≤ maxLen) : Sl (w.alloc (.cells (madeCells (Value.agg #[.int .i64 0, .int .i64 0, .slice none 0 0, .slice none 0 0]).cells (n * 4)) tEd)) tEd 4 (some ⟨w.heap.size, 0, none⟩) n n (ecs (List.replicate n eh0)) := by
 rw [← madeEdges]
 refine ⟨?_, Nat.le_refl _, h, .inr ⟨w.heap.size, 0, _, rfl, heap_alloc_new w _, by simp [size_madeCells], by simp⟩⟩
 simp only [List.length_take, Array.length_toList, size_madeCells]
 omega
theorem egOf_eh0 : egOf eh0 = eg0 := rfl
theorem ren_ow {w : World} {g : Gr} {ws el : List Int} {n m c : Nat} {G : Option Addr} {ms : List EHd} {X Y : Hd} (hms : ms.map egOf = g.2.1.map (mapE ws)) (hml : ms.length = m) (hel : el.length = m) (hp : permB el = true) (hg : g.1 = (n : Int)) (hX : X.2.2 = mapL ws g.2.2.1) (hY : Y.2.2 = mapL ws g.2.2.2)
  (hsl : Sl w tEd 4 G m c (ecs (lay eh0 el ms m))) (hLs : OwLs w (fpA G) (X :: Y :: eh ms)) :
  OwGr w (.agg #[.int .i64 (n : Int), .slice G m c, .slice X.1 X.2.2.length X.2.1, .slice Y.1 Y.2.2.length Y.2.1]) (renG g ws el) (fpA G ++ fpR (X :: Y :: eh (lay eh0 el ms m))) := by
 subst hml
 have hl : g.2.1.length = ms.length := by have := congrArg List.length hms; rw [List.length_map, List.length_map] at this; exact this.symm
 have hpm := lay_all (d := eh0) hp hel
 refine ⟨G, c, lay eh0 el ms ms.length, X, Y, ?_, ?_, hX, hY, by rw [lay_length]; exact hsl, hLs.perm (((eh_perm hpm).cons Y).cons X), rfl⟩
 · rw [lay_length]; unfold renG; rw [← hg]
 · show lay eg0 el (g.2.1.map (mapE ws)) g.2.1.length = _
   rw [lay_map, egOf_eh0, hms, hl]
theorem ren_fp {el : List Int} {m : Nat} {ms : List EHd} {X Y : Hd} (hml : ms.length = m) (hel : el.length = m) (hp : permB el = true) {x : Nat} (hx : x ∈ fpR (X :: Y :: eh (lay eh0 el ms m))) : x ∈ fpR (X :: Y :: eh ms) := by
 subst hml
 obtain ⟨h, hh, hb⟩ := mem_fpR.1 hx
 exact mem_fpR.2 ⟨h, ((((eh_perm (lay_all (d := eh0) hp hel)).cons Y).cons X).mem_iff).1 hh, hb⟩
set_option maxRecDepth 100000 in
set_option maxHeartbeats 8000000 in
theorem renumbered_any {v : Value} {g : Gr} (w : World) (n m : Nat) (T : Option Addr) (tc : Nat) (ws : List Int) (U : Option Addr) (uc : Nat) (el : List Int) (h : RdGr w v g) (ok : OkG g) (ht : RdI w T ws) (hu : RdI w U el) (hgn : g.1 = (n : Int)) (hgm : g.2.1.length = m) (htn : ws.length = n) (hel : el.length = m) (hin : inW (n : Int) (t_allW g) = true) (hper : permB el = true) (hmb : m ≤ 60) :
  Calls Tryz.prog 41 #[v, .slice T n tc, .slice U m uc] w fun e w' => ∃ v' fp, e = .returned v' ∧ OwGr w' v' (renG g ws el) fp ∧ FreshL w.heap.size fp ∧ Below w.heap.size w w' := by
 have hG0 := h
 obtain ⟨A, c, hs, ⟨B, b, s⟩, ⟨C, d, t⟩, rfl, e1, e2, e3, hE, hRa, hRb⟩ := h
 obtain ⟨z, es, s0, t0⟩ := g
 have a1 : es = hs.map egOf := e1
 have a2 : s = s0 := e2
 have a3 : t = t0 := e3
 have a4 : z = (n : Int) := hgn
 subst a2 a3 a4
 have hm : m = hs.length := by have : es.length = m := hgm; rw [← this, a1, List.length_map]
 obtain ⟨p, hp⟩ : ∃ p, p = s.length := ⟨_, rfl⟩
 obtain ⟨r, hr⟩ : ∃ r, r = t.length := ⟨_, rfl⟩
 change RdGr w (.agg #[.int .i64 (n : Int), .slice A hs.length c, .slice B s.length b, .slice C t.length d]) ((n : Int), es, s, t) at hG0
 show Calls Tryz.prog _ #[.agg #[.int .i64 (n : Int), .slice A hs.length c, .slice B s.length b, .slice C t.length d], .slice T n tc, .slice U m uc] w _
 rw [← hm, ← hp, ← hr] at hG0 ⊢
 obtain ⟨Gf, hGf⟩ : ∃ Gf, Gf = renG ((n : Int), es, s, t) ws el := ⟨_, rfl⟩
 rw [← hGf]
 obtain ⟨W, hW, bW, k0, k1⟩ := allocs2 w (.cells #[.int .i64 (n : Int), .slice A m c, .slice B p b, .slice C r d] tGr) (.cells #[.int .i64 0, .slice none 0 0, .slice none 0 0, .slice none 0 0] tGr)
 have hM := moved_any W (n : Int) T tc n ws (hG0.below bW) ok (ht.below bW) htn hin
 clear hE hRa hRb e1 e2 e3 hgn hG0 ok hin
 obtain ⟨⟨c0, c1, c2, c3⟩, f0, f1, f2, f3⟩ := t_box4 k0
 have hM_h := lH hM; have hm_h := lH hm; have hp_h := lH hp; have hr_h := lH hr; have a1_h := lH a1; have bW_h := lH bW; have k0_h := lH k0; have k1_h := lH k1; have ht_h := lH ht; have hu_h := lH hu; have htn_h := lH htn; have hel_h := lH hel; have hper_h := lH hper; have hGf_h := lH hGf; have hgm_h := lH hgm; clear hM hm hp hr a1 bW k0 k1 ht hu htn hel hper hGf hgm
 go_enter Tryz.func41, Tryz.ntmps41
 go_upto_region 1 with (fail)
 rw [← hW]
 clear hW
 go_wp2_with (fail)
 refine (hM_h.out).mono ?_
 rintro e w1 ⟨v1, fp1, rfl, hO1, hf1, hb1⟩
 obtain ⟨A1, q1, ms, ⟨X1, X2, X3⟩, ⟨Y1, Y2, Y3⟩, rfl, m1, m2, m3, hsl1, hLs1, rfl⟩ := hO1
 have hms : ms.map egOf = es.map (mapE ws) := m1.symm
 have hX3 : X3 = mapL ws s := m2
 have hY3 : Y3 = mapL ws t := m3
 subst hX3 hY3
 have hml : ms.length = m := by have := congrArg List.length hms; rw [List.length_map, List.length_map] at this; rw [this]; exact hgm_h.out
 simp only [mapL_length] at *
 rw [hml, ← hp_h.out, ← hr_h.out]
 have e0 : (mapG ws (n : Int) ((n : Int), es, s, t)).1 = (n : Int) := rfl
 rw [e0]
 clear m1 m2 m3 e0
 have k0a := t_box_below k0_h.out hb1
 have k1a := t_box_below k1_h.out hb1
 have hB1 := below_trans bW_h.out hb1 bW_h.out.size
 have hws := hb1.size
 rw [hml] at hsl1
 clear c0 c1 c2 c3 f0 f1 f2 f3
 obtain ⟨W3, hW3, bW3, k3⟩ := alloc_box1g w1 (.cells #[.int .i64 (n : Int), .slice A1 m q1, .slice X1 p X2, .slice Y1 r Y2] tGr)
 have k0b := t_box_below k0a bW3
 have k1b := t_box_below k1a bW3
 have hB3 := below_trans hB1 bW3 hB1.size
 have hsl3 := hsl1.below bW3
 have hLs3 := hLs1.below bW3
 have hlt1 : ∀ x, x ∈ fpA A1 ++ fpR (((X1, X2, mapL ws s) : Hd) :: (Y1, Y2, mapL ws t) :: eh ms) → W.heap.size ≤ x ∧ x < w1.heap.size := fun x hx => ⟨hf1 x hx, by
  rcases List.mem_append.1 hx with hx | hx
  · exact hsl1.lt x hx
  · exact hLs1.lt x hx⟩
 obtain ⟨⟨c0, c1, c2, c3⟩, f0, f1, f2, f3⟩ := t_box4 k3
 obtain ⟨⟨d0, d1, d2, d3⟩, g0, g1, g2, g3⟩ := t_box4 k0b
 clear k0a k1a hB1 hsl1 hLs1 hb1 hf1; have k3_h := lH k3; have k0b_h := lH k0b; have k1b_h := lH k1b; have hB3_h := lH hB3; have hsl3_h := lH hsl3; have hLs3_h := lH hLs3; have hlt1_h := lH hlt1; have hms_h := lH hms; have hml_h := lH hml; have bW3_h := lH bW3; clear k3 k0b k1b hB3 hsl3 hLs3 hlt1 hms hml bW3
 go_upto_region 2 with (fail)
 rw [← hW3]
 clear hW3
 go_cut [8] (fun sv wx => ∃ (bx : Nat) (G : Addr), sv = .pointer (some ⟨bx, 0, none⟩) ∧ wx.heap[bx]? = some (.cells #[.int .i64 (n : Int), .slice (some G) m m, .slice X1 p X2, .slice Y1 r Y2] tGr) ∧ Sl wx tEd 4 (some G) m m (ecs (List.replicate m eh0)) ∧ bx ≠ G.block ∧ W3.heap.size ≤ bx ∧ W3.heap.size ≤ G.block ∧ Below W3.heap.size W3 wx)
 case first =>
  refine beginH (fun w' => w'.heap[w1.heap.size]? = some (.cells #[.int .i64 (n : Int), .slice A1 m q1, .slice X1 p X2, .slice Y1 r Y2] tGr)) (by kernel_rfl) ?_
  have hbd : Below W3.heap.size W3 W3.drew := below_drew (Below.refl _ _)
  generalize W3.drew = W4 at hbd ⊢
  have k3d := t_box_below k3_h.out hbd
  have hlt3 := t_box_lt k3_h.out
  have hs4 := hbd.size
  have hbd_h := lH hbd; have k3d_h := lH k3d; clear hbd k3d; clear c0 c1 c2 c3 f0 f1 f2 f3 d0 d1 d2 d3 g0 g1 g2 g3
  refine tkH 0 ?_ rfl k3d_h.out (fun W' hW' => ?_) ?_; rotate_left; · (obtain ⟨⟨y0, y1, y2, y3⟩, y4, y5, y6, y7⟩ := t_box4 hW'; clear hW'; go_simp; first | done | with_reducible rfl)
  simp only [Act.put, nS]
  refine tkH 1 ?_ rfl k3d_h.out (fun W' hW' => ?_) ?_; rotate_left; · (obtain ⟨⟨y0, y1, y2, y3⟩, y4, y5, y6, y7⟩ := t_box4 hW'; clear hW'; go_simp; first | done | with_reducible rfl)
  simp only [Act.put, nS]
  refine tkH 2 ?_ rfl k3d_h.out (fun W' hW' => ?_) ?_; rotate_left; · (obtain ⟨⟨y0, y1, y2, y3⟩, y4, y5, y6, y7⟩ := t_box4 hW'; clear hW'; go_simp; first | done | with_reducible rfl)
  simp only [Act.put, nS]
  refine tkH 3 ?_ rfl k3d_h.out (fun W' hW' => ?_) ?_; rotate_left; · (obtain ⟨⟨y0, y1, y2, y3⟩, y4, y5, y6, y7⟩ := t_box4 hW'; clear hW'; go_simp; first | done | with_reducible rfl)
  simp only [Act.put, nS]
  refine tkH 4 ?_ rfl k3d_h.out (fun W' hW' => ?_) ?_; rotate_left; · (obtain ⟨⟨y0, y1, y2, y3⟩, y4, y5, y6, y7⟩ := t_box4 hW'; clear hW'; go_simp; first | done | with_reducible rfl)
  simp only [Act.put, nS]
  refine tkH 5 ?_ rfl k3d_h.out (fun W' hW' => ?_) ?_; rotate_left; · (obtain ⟨⟨y0, y1, y2, y3⟩, y4, y5, y6, y7⟩ := t_box4 hW'; clear hW'; go_simp; first | done | with_reducible rfl)
  simp only [Act.put, nS]
  refine tkH 6 ?_ rfl k3d_h.out (fun W' hW' => ?_) ?_; rotate_left; · (obtain ⟨⟨y0, y1, y2, y3⟩, y4, y5, y6, y7⟩ := t_box4 hW'; clear hW'; go_simp; first | done | with_reducible rfl)
  simp only [Act.put, nS]
  refine tkH 7 ?_ rfl k3d_h.out (fun W' hW' => ?_) ?_; rotate_left; · (obtain ⟨⟨y0, y1, y2, y3⟩, y4, y5, y6, y7⟩ := t_box4 hW'; clear hW'; go_simp; first | done | with_reducible rfl)
  simp only [Act.put, nS]
  refine tkH 8 ?_ rfl k3d_h.out (fun W' hW' => ?_) ?_; rotate_left; · (obtain ⟨⟨y0, y1, y2, y3⟩, y4, y5, y6, y7⟩ := t_box4 hW'; clear hW'; go_simp; first | done | with_reducible rfl)
  simp only [Act.put, nS]
  refine valOrH 9 11 (vi := .slice (some ⟨W4.heap.size, 0, none⟩) m m) (wi := W4.alloc (.cells (madeCells (Value.agg #[.int .i64 0, .int .i64 0, .slice none 0 0, .slice none 0 0]).cells (m * 4)) tEd)) (vj := ?vy) (wj := ?wy) rfl rfl (by kernel_rfl) (by rfl) (by rfl) ?hr1 ?hr2 ?hS1 ?h1 ?hS2 ?h2
  case hr1 => exact run_makeOp _ _ _ rfl tEd Tryz.underlying22 info_ed m rfl rfl (by omega) (by unfold maxLen; omega)
  case hr2 => (go_simp; first | done | with_reducible rfl | (constructor <;> with_reducible rfl))
  case hS1 => exact t_box_below k3d_h.out (t_below_alloc _ _)
  case h1 =>
   have hmk := made_edges W4 m (by unfold maxLen; omega)
   have bA := t_below_alloc W4 (.cells (madeCells (Value.agg #[.int .i64 0, .int .i64 0, .slice none 0 0, .slice none 0 0]).cells (m * 4)) tEd)
   have hzA : (W4.alloc (.cells (madeCells (Value.agg #[.int .i64 0, .int .i64 0, .slice none 0 0, .slice none 0 0]).cells (m * 4)) tEd)).heap.size = W4.heap.size + 1 := World.size_alloc _ _
   have kA := t_box_below k3d_h.out bA
   have hWA := below_trans hbd_h.out bA hbd_h.out.size
   generalize W4.alloc (.cells (madeCells (Value.agg #[.int .i64 0, .int .i64 0, .slice none 0 0, .slice none 0 0]).cells (m * 4)) tEd) = W5 at hmk bA hzA kA hWA ⊢
   obtain ⟨W6, hW6, bW6, k6⟩ := alloc_box1g W5 (.cells #[.int .i64 0, .slice none 0 0, .slice none 0 0, .slice none 0 0] tGr)
   have kB := t_box_below kA bW6
   obtain ⟨s1, s2⟩ := set4 (a := .int .i64 (n : Int)) (b := .slice (some ⟨W4.heap.size, 0, none⟩) m m) (c := .slice X1 p X2) (d := .slice Y1 r Y2) k6
   have kC := t_box_keeps kB s2 (by omega)
   have hmk6 := (hmk.below bW6).keeps s2 (fun x hx e => by simp at hx; omega)
   have hWf := below_keeps (below_trans hWA bW6 hWA.size) s2 (Nat.le_trans hWA.size bW6.size) (fun x hx => by omega)
   obtain ⟨⟨y0, y1, y2, y3⟩, y4, y5, y6, y7⟩ := t_box4 k6
   clear hmk bA hWA bW6 s2; have kA_h := lH kA; have kB_h := lH kB; have kC_h := lH kC; have s1_h := lH s1; have hmk6_h := lH hmk6; have hWf_h := lH hWf; have k6_h := lH k6; have hzA_h := lH hzA; clear kA kB kC s1 hmk6 hWf k6 hzA
   simp only [Act.put, nS]
   refine tkH 10 ?_ rfl kA_h.out (fun W' hW' => ?_) ?_; rotate_left; · (skip; clear hW'; go_simp; first | done | with_reducible rfl)
   simp only [Act.put, nS]
   refine oneH 11 rfl (by kernel_rfl) (by rfl) (fun K hK => ?_)
   go_simp
   rw [← hW6]
   refine hK _ _ kB_h.out ?_
   clear hK K hW6
   refine oneH 12 rfl (by kernel_rfl) (by rfl) (fun K hK => ?_)
   go_simp
   refine hK _ _ kC_h.out ?_
   clear hK K
   refine doneH (by kernel_rfl) ?_
   go_wp2_with (fail)
   go_meet
   exact ⟨_, ⟨W4.heap.size, 0, none⟩, rfl, s1_h.out, hmk6_h.out, by show W5.heap.size ≠ W4.heap.size; have := hzA_h.out; omega, by have := hzA_h.out; omega, by show W3.heap.size ≤ W4.heap.size; omega, hWf_h.out⟩
  case hS2 => exact t_box_below k3d_h.out (t_below_alloc _ _)
  case h2 =>
   have bA := t_below_alloc W4 (.cells #[.int .i64 0, .slice none 0 0, .slice none 0 0, .slice none 0 0] tGr)
   have kX := heap_alloc_new W4 (.cells #[.int .i64 0, .slice none 0 0, .slice none 0 0, .slice none 0 0] tGr)
   have hzA : (W4.alloc (.cells #[.int .i64 0, .slice none 0 0, .slice none 0 0, .slice none 0 0] tGr)).heap.size = W4.heap.size + 1 := World.size_alloc _ _
   have kA := t_box_below k3d_h.out bA
   have hWA := below_trans hbd_h.out bA hbd_h.out.size
   simp only [Act.put, nS]
   generalize W4.alloc (.cells #[.int .i64 0, .slice none 0 0, .slice none 0 0, .slice none 0 0] tGr) = W5 at bA kX hzA kA hWA ⊢
   have hmk := made_edges W5 m (by unfold maxLen; omega)
   have bB := t_below_alloc W5 (.cells (madeCells (Value.agg #[.int .i64 0, .int .i64 0, .slice none 0 0, .slice none 0 0]).cells (m * 4)) tEd)
   have kB := t_box_below kA bB
   have kY := t_box_below kX bB
   have hWB := below_trans hWA bB hWA.size
   refine runH 9 rfl (by kernel_rfl) (by rfl) (run_makeOp _ _ _ rfl tEd Tryz.underlying22 info_ed m rfl rfl (by omega) (by unfold maxLen; omega)) kB ?_
   generalize W5.alloc (.cells (madeCells (Value.agg #[.int .i64 0, .int .i64 0, .slice none 0 0, .slice none 0 0]).cells (m * 4)) tEd) = W6 at hmk bB kB kY hWB ⊢
   obtain ⟨s1, s2⟩ := set4 (a := .int .i64 (n : Int)) (b := .slice (some ⟨W5.heap.size, 0, none⟩) m m) (c := .slice X1 p X2) (d := .slice Y1 r Y2) kY
   have kC := t_box_keeps kB s2 (by omega)
   have hmk6 := hmk.keeps s2 (fun x hx e => by simp at hx; omega)
   have hWf := below_keeps hWB s2 hWB.size (fun x hx => by omega)
   obtain ⟨⟨y0, y1, y2, y3⟩, y4, y5, y6, y7⟩ := t_box4 kY
   clear hmk bA bB hWA hWB s2 kX; have kA_h := lH kA; have kB_h := lH kB; have kC_h := lH kC; have s1_h := lH s1; have hmk6_h := lH hmk6; have hWf_h := lH hWf; have kY_h := lH kY; have hzA_h := lH hzA; clear kA kB kC s1 hmk6 hWf kY hzA
   simp only [Act.put, nS]
   refine tkH 10 ?_ rfl kB_h.out (fun W' hW' => ?_) ?_; rotate_left; · (skip; clear hW'; go_simp; first | done | with_reducible rfl)
   simp only [Act.put, nS]
   refine oneH 12 rfl (by kernel_rfl) (by rfl) (fun K hK => ?_)
   go_simp
   refine hK _ _ kC_h.out ?_
   clear hK K
   refine doneH (by kernel_rfl) ?_
   go_wp2_with (fail)
   go_meet
   exact ⟨_, ⟨W5.heap.size, 0, none⟩, rfl, s1_h.out, hmk6_h.out, by show W4.heap.size ≠ W5.heap.size; have := hzA_h.out; omega, by omega, by show W3.heap.size ≤ W5.heap.size; have := hzA_h.out; omega, hWf_h.out⟩
 case rest =>
  obtain ⟨bx, G, rfl, kx, hslG, hne, hbx, hGb, hWc⟩ := hcut
  obtain ⟨w5, rfl⟩ : ∃ x, x = wc := ⟨_, rfl⟩
  have k3c := t_box_below k3_h.out hWc
  have hlt3 := t_box_lt k3_h.out
  clear c0 c1 c2 c3 f0 f1 f2 f3 d0 d1 d2 d3 g0 g1 g2 g3
  obtain ⟨⟨c0, c1, c2, c3⟩, f0, f1, f2, f3⟩ := t_box4 k3c
  have kx_h := lH kx; have hslG_h := lH hslG; have hWc_h := lH hWc; have k3c_h := lH k3c; have hne_h := lH hne; clear kx hslG hWc k3c hne
  go_wp2_with (fail)
  clear c0 c1 c2 c3 f0 f1 f2 f3
  go_loopw [30] (fun i wr => ∃ k : Nat, k ≤ m ∧ i = .int .i64 k ∧ wr.heap[bx]? = some (.cells #[.int .i64 (n : Int), .slice (some G) m m, .slice X1 p X2, .slice Y1 r Y2] tGr) ∧ Sl wr tEd 4 (some G) m m (ecs (lay eh0 el ms k)) ∧ Below W3.heap.size W3 wr) (fun i _ => m - (intOf i).toNat)
  case atStart => exact ⟨0, Nat.zero_le _, rfl, kx_h.out, by rw [lay, hml_h.out]; exact hslG_h.out, hWc_h.out⟩
  case round =>
   clear kx_h hslG_h hWc_h
   obtain ⟨k, hk, rfl, kx, hslG, hWr⟩ := hrel
   have hBr := below_trans hB3_h.out hWr hB3_h.out.size
   by_cases hlt : k < m
   · obtain ⟨⟨κ, vv, ⟨B1, b1, s1⟩, ⟨C1, b2, t1⟩⟩, hn⟩ : ∃ x, ms[k]? = some x := ⟨_, List.getElem?_eq_getElem (by rw [hml_h.out]; exact hlt)⟩
     obtain ⟨ad, hA, -, d0, d1, d2, d3⟩ : ∃ ad, A1 = some ad ∧ True ∧ wr.cell? (ad.add (k * 4)) = some (.int .i64 κ) ∧ wr.cell? ⟨(ad.add (k * 4)).block, (ad.add (k * 4)).off + 1, none⟩ = some (.int .i64 vv) ∧ wr.cell? ⟨(ad.add (k * 4)).block, (ad.add (k * 4)).off + 2, none⟩ = some (.slice B1 s1.length b1) ∧ wr.cell? ⟨(ad.add (k * 4)).block, (ad.add (k * 4)).off + 3, none⟩ = some (.slice C1 t1.length b2) := by
      have hs := hsl3_h.out.below hWr
      obtain ⟨i0, i1, i2, i3⟩ := ecs_get hn
      obtain ⟨ad, hA, _, x0, _⟩ := Sl.cell hs i0
      obtain ⟨ad1, h1, _, x1, _⟩ := Sl.cell hs i1
      obtain ⟨ad2, h2, _, x2, _⟩ := Sl.cell hs i2
      obtain ⟨ad3, h3, _, x3, _⟩ := Sl.cell hs i3
      rw [hA] at h1 h2 h3
      obtain rfl := Option.some.inj h1
      obtain rfl := Option.some.inj h2
      obtain rfl := Option.some.inj h3
      rw [add_next _ _ 1 (by omega)] at x1
      rw [add_next _ _ 2 (by omega)] at x2
      rw [add_next _ _ 3 (by omega)] at x3
      exact ⟨ad, hA, trivial, x0, x1, x2, x3⟩
     subst hA
     obtain ⟨ud, y, rfl, hy, hyc⟩ := (hu_h.out.below hBr).at_ (j := k) (by rw [hel_h.out]; exact hlt)
     have hyin := perm_in hper_h.out y (List.mem_of_getElem? hy)
     rw [hel_h.out] at hyin
     obtain ⟨q, rfl⟩ : ∃ q : Nat, y = (q : Int) := ⟨y.toNat, by omega⟩
     have hqm : q < m := by omega
     have hlst : lay eh0 el ms (k + 1) = (lay eh0 el ms k).set q (κ, vv, (B1, b1, s1), (C1, b2, t1)) := by
      have e1 : el.getD k 0 = (q : Int) := by simp [List.getD, hy]
      have e2 : ms.getD k eh0 = (κ, vv, (B1, b1, s1), (C1, b2, t1)) := by simp [List.getD, hn]
      rw [lay, e1, e2]; rfl
     obtain ⟨p1, hp1⟩ : ∃ p1, p1 = s1.length := ⟨_, rfl⟩
     obtain ⟨r1, hr1'⟩ : ∃ r1, r1 = t1.length := ⟨_, rfl⟩
     obtain ⟨wo, rfl⟩ : ∃ x, x = wr := ⟨_, rfl⟩
     obtain ⟨W6, hW6, bW6, k6⟩ := alloc_box1g wo (.cells #[.int .i64 κ, .int .i64 vv, .slice B1 p1 b1, .slice C1 r1 b2] tEd)
     have kx6 := t_box_below kx bW6
     have hsl6 := hslG.below bW6
     have hW6b := below_trans hWr bW6 hWr.size
     have hGl := hslG.lt G.block (by simp)
     have hlen : (lay eh0 el ms k).length = m := by rw [lay_length, hml_h.out]
     have hud := (hu_h.out.below (below_trans hB3_h.out hW6b hB3_h.out.size))
     have hkI : (k : Int) < (m : Int) := by omega
     have hqI : (q : Int) < (m : Int) := by omega
     have hyc6 : W6.cell? (ud.add k) = some (.int .i64 (q : Int)) := (bW6.cell (World.block_lt_of_cell? _ _ hyc)).trans hyc
     rw [← hp1] at d2
     rw [← hr1'] at d3
     have hr1_h := lH hr1'
     have hxl := t_box_lt kx
     clear hr1' hyin hWr hBr kx hslG hud; have hp1_h := lH hp1; have bW6_h := lH bW6; have k6_h := lH k6; have kx6_h := lH kx6; have hsl6_h := lH hsl6; have hW6b_h := lH hW6b; have hlst_h := lH hlst; have hlen_h := lH hlen; have hy_h := lH hy; have hn_h := lH hn; have hyc6_h := lH hyc6; clear hp1 bW6 k6 kx6 hsl6 hW6b hlst hlen hy hn hyc6
     go_upto_region 6 with (fail)
     rw [← hW6]
     clear hW6 d0 d1 d2 d3 hyc
     refine beginH (fun w' => w'.heap[bx]? = some (.cells #[.int .i64 (n : Int), .slice (some G) m m, .slice X1 p X2, .slice Y1 r Y2] tGr) ∧ w'.heap[wo.heap.size]? = some (.cells #[.int .i64 κ, .int .i64 vv, .slice B1 p1 b1, .slice C1 r1 b2] tEd) ∧ w'.cell? (ud.add k) = some (.int .i64 (q : Int))) (by kernel_rfl) ?_
     have hbd : Below W6.heap.size W6 W6.drew := below_drew (Below.refl _ _)
     generalize W6.drew = W7 at hbd ⊢
     have hF := And.intro (t_box_below kx6_h.out hbd) (And.intro (t_box_below k6_h.out hbd) ((hbd.cell (World.block_lt_of_cell? _ _ hyc6_h.out)).trans hyc6_h.out))
     have hsl7 := hsl6_h.out.below hbd
     have hW7b := below_trans hW6b_h.out hbd hW6b_h.out.size
     obtain ⟨⟨⟨x0, e0⟩, g0⟩, ⟨⟨x1, e1⟩, g1⟩, ⟨⟨x2, e2⟩, g2⟩, ⟨x3, e3⟩, g3⟩ := ES.mid hsl7 hlen_h.out (j := q) κ vv (.slice B1 p1 b1) hqm
     obtain ⟨hset, hks⟩ := ES.set hsl7 hlen_h.out (ad := G) rfl (j := q) κ vv B1 C1 b1 b2 s1 t1 hqm
     rw [← hlst_h.out, ← hp1_h.out, ← hr1_h.out] at hset
     rw [← hp1_h.out, ← hr1_h.out] at hks
     have hudG : ud.block ≠ G.block := by
      have h1 := World.block_lt_of_cell? w _ ((hu_h.out) k (q : Int) hy_h.out |>.choose_spec.2)
      obtain ⟨ud', hu1, hu2⟩ := hu_h.out k (q : Int) hy_h.out
      obtain rfl := Option.some.inj hu1
      have h2 := World.block_lt_of_cell? w _ hu2
      rw [block_of_add] at h2
      have := hB3_h.out.size
      omega
     have hF2 := And.intro (t_box_keeps hF.1 hks (by simp only [fpA_some, List.mem_singleton]; exact hne_h.out)) (And.intro (t_box_keeps hF.2.1 hks (by simp only [fpA_some, List.mem_singleton]; omega)) ((World.cell?_of_block (hks.block _ (World.block_lt_of_cell? _ _ hF.2.2) (by rw [block_of_add]; simp only [fpA_some, List.mem_singleton]; exact hudG))).trans hF.2.2))
     have hW8b := below_keeps hW7b hks hW7b.size (fun x hx => by simp at hx; omega)
     clear hbd hsl7 hW7b hks; have hF_h := lH hF; have hF2_h := lH hF2; have hset_h := lH hset; have hW8b_h := lH hW8b; have hudG_h := lH hudG; clear hF hF2 hset hW8b hudG
     refine tkH 0 ?_ rfl hF_h.out (fun W' hW' => ?_) ?_; rotate_left; · (obtain ⟨⟨y0, y1, y2, y3⟩, y4, y5, y6, y7⟩ := t_box4 hW'.1; obtain ⟨⟨z0, z1, z2, z3⟩, z4, z5, z6, z7⟩ := t_box4 hW'.2.1; have z8 := hW'.2.2; clear hW'; go_simp; first | done | with_reducible rfl)
     simp only [Act.put, nS]
     refine tkH 1 ?_ rfl hF_h.out (fun W' hW' => ?_) ?_; rotate_left; · (obtain ⟨⟨y0, y1, y2, y3⟩, y4, y5, y6, y7⟩ := t_box4 hW'.1; obtain ⟨⟨z0, z1, z2, z3⟩, z4, z5, z6, z7⟩ := t_box4 hW'.2.1; have z8 := hW'.2.2; clear hW'; go_simp; first | done | with_reducible rfl)
     simp only [Act.put, nS]
     refine tkH 2 ?_ rfl hF_h.out (fun W' hW' => ?_) ?_; rotate_left; · (obtain ⟨⟨y0, y1, y2, y3⟩, y4, y5, y6, y7⟩ := t_box4 hW'.1; obtain ⟨⟨z0, z1, z2, z3⟩, z4, z5, z6, z7⟩ := t_box4 hW'.2.1; have z8 := hW'.2.2; clear hW'; go_simp; first | done | with_reducible rfl)
     simp only [Act.put, nS]
     refine tkH 3 ?_ rfl hF_h.out (fun W' hW' => ?_) ?_; rotate_left; · (obtain ⟨⟨y0, y1, y2, y3⟩, y4, y5, y6, y7⟩ := t_box4 hW'.1; obtain ⟨⟨z0, z1, z2, z3⟩, z4, z5, z6, z7⟩ := t_box4 hW'.2.1; have z8 := hW'.2.2; clear hW'; go_simp; first | done | with_reducible rfl)
     simp only [Act.put, nS]
     refine tkH 4 ?_ rfl hF_h.out (fun W' hW' => ?_) ?_; rotate_left; · (obtain ⟨⟨y0, y1, y2, y3⟩, y4, y5, y6, y7⟩ := t_box4 hW'.1; obtain ⟨⟨z0, z1, z2, z3⟩, z4, z5, z6, z7⟩ := t_box4 hW'.2.1; have z8 := hW'.2.2; clear hW'; go_simp; first | done | with_reducible rfl)
     simp only [Act.put, nS]
     refine tkH 5 ?_ rfl hF_h.out (fun W' hW' => ?_) ?_; rotate_left; · (obtain ⟨⟨y0, y1, y2, y3⟩, y4, y5, y6, y7⟩ := t_box4 hW'.1; obtain ⟨⟨z0, z1, z2, z3⟩, z4, z5, z6, z7⟩ := t_box4 hW'.2.1; have z8 := hW'.2.2; clear hW'; go_simp; first | done | with_reducible rfl)
     simp only [Act.put, nS]
     refine tkH 6 ?_ rfl hF_h.out (fun W' hW' => ?_) ?_; rotate_left; · (obtain ⟨⟨y0, y1, y2, y3⟩, y4, y5, y6, y7⟩ := t_box4 hW'.1; obtain ⟨⟨z0, z1, z2, z3⟩, z4, z5, z6, z7⟩ := t_box4 hW'.2.1; have z8 := hW'.2.2; clear hW'; go_simp; first | done | with_reducible rfl)
     simp only [Act.put, nS]
     refine tkH 7 ?_ rfl hF_h.out (fun W' hW' => ?_) ?_; rotate_left; · (skip; clear hW'; go_simp; first | done | with_reducible rfl)
     simp only [Act.put, nS]
     refine oneH 8 rfl (by kernel_rfl) (by rfl) (fun K hK => ?_)
     go_simp
     refine hK _ _ hF2_h.out ?_
     clear hK K
     refine doneH (by kernel_rfl) ?_
     go_wp2_with (fail)
     go_roundw
     case rel => exact ⟨k + 1, by omega, by go_num, hF2_h.out.1, hset_h.out, hW8b_h.out⟩
     case measure => simp [intOf]; omega
   · obtain rfl : m = k := by omega
     have k1r := t_box_below k1b_h.out hWr
     obtain ⟨t1', t2'⟩ := set4 (a := .int .i64 (n : Int)) (b := .slice (some G) m m) (c := .slice X1 p X2) (d := .slice Y1 r Y2) k1r
     have hk1W := t_box_lt k1_h.out
     have hLsr := hLs3_h.out.below hWr
     have hw13 := bW3_h.out.size
     have hLsG : OwLs wr (fpA (some G)) ((X1, X2, mapL ws s) :: (Y1, Y2, mapL ws t) :: eh ms) := ⟨hLsr.rows, hLsr.apart, fun x hx b hb hb' => by
      have h1 := (hlt1_h.out b (List.mem_append_right _ (mem_fpR.2 ⟨x, hx, hb⟩))).2
      simp at hb'; omega⟩
     have hsl2 := hslG.keeps t2' (fun x hx e => by simp at hx; omega)
     have hLs2 := hLsG.keeps t2' (fun x hx e => by have := (hlt1_h.out x (List.mem_append_right _ hx)).1; omega)
     have hB9 := below_keeps hBr t2' hBr.size (fun x hx => by omega)
     have hOw := ren_ow (g := ((n : Int), es, s, t)) (ws := ws) (X := (X1, X2, mapL ws s)) (Y := (Y1, Y2, mapL ws t)) hms_h.out hml_h.out hel_h.out hper_h.out rfl rfl rfl hsl2 hLs2
     simp only [mapL_length] at hOw
     rw [← hp_h.out, ← hr_h.out, ← hGf_h.out] at hOw
     have hfw : FreshL w.heap.size (fpA (some G) ++ fpR (((X1, X2, mapL ws s) : Hd) :: (Y1, Y2, mapL ws t) :: eh (lay eh0 el ms m))) := fun x hx => by
      have hwW := bW_h.out.size
      rcases List.mem_append.1 hx with hx | hx
      · simp at hx; have := hB3_h.out.size; omega
      · have := (hlt1_h.out x (List.mem_append_right _ (ren_fp hml_h.out hel_h.out hper_h.out hx))).1; omega
     obtain ⟨⟨c0, c1, c2, c3⟩, f0, f1, f2, f3⟩ := t_box4 kx
     obtain ⟨⟨d0, d1, d2, d3⟩, g0, g1, g2, g3⟩ := t_box4 k1r
     clear hslG hLsr hLsG t2' k1r kx hWr hBr hsl2 hLs2; have t1'_h := lH t1'; have hB9_h := lH hB9; have hfw_h := lH hfw; have hOw_h := lH hOw; clear t1' hB9 hfw hOw
     go_wp2_with (fail)
     refine bodyPost_ret (results_cell_row rfl _ _ (w.heap.size + 1) _ _ (0, 0) _ rfl t1'_h.out Tryz.underlying25 rfl (by kernel_rfl)) rfl ?_
     exact ⟨_, _, rfl, hOw_h.out, hfw_h.out, hB9_h.out⟩
set_option maxRecDepth 100000 in
set_option maxHeartbeats 8000000 in
theorem hgRenumber_any {v : Value} {g : Gr} (w : World) (n m : Nat) (T : Option Addr) (tc : Nat) (ws : List Int) (U : Option Addr) (uc : Nat) (el : List Int) (h : RdGr w v g) (ok : OkG g) (ht : RdI w T ws) (hu : RdI w U el) (hgn : g.1 = (n : Int)) (hgm : g.2.1.length = m) (htn : ws.length = n) (hel : el.length = m) (hin : inW (n : Int) (t_allW g) = true) (hper : permB el = true) (hmb : m ≤ 60) :
  Calls Tryz.prog 38 #[v, .slice T n tc, .slice U m uc] w fun e w' => ∃ v' fp, e = .returned v' ∧ OwGr w' v' (renG g ws el) fp ∧ FreshL w.heap.size fp ∧ Below w.heap.size w w' := by
 have hG0 := h
 obtain ⟨A, c, hs, ⟨B, b, s⟩, ⟨C, d, t⟩, rfl, e1, e2, e3, hE, hRa, hRb⟩ := h
 obtain ⟨z, es, s0, t0⟩ := g
 have a1 : es = hs.map egOf := e1
 have a2 : s = s0 := e2
 have a3 : t = t0 := e3
 have a4 : z = (n : Int) := hgn
 subst a2 a3 a4
 have hm : m = hs.length := by have : es.length = m := hgm; rw [← this, a1, List.length_map]
 obtain ⟨p, hp⟩ : ∃ p, p = s.length := ⟨_, rfl⟩
 obtain ⟨r, hr⟩ : ∃ r, r = t.length := ⟨_, rfl⟩
 change RdGr w (.agg #[.int .i64 (n : Int), .slice A hs.length c, .slice B s.length b, .slice C t.length d]) ((n : Int), es, s, t) at hG0
 show Calls Tryz.prog _ #[.agg #[.int .i64 (n : Int), .slice A hs.length c, .slice B s.length b, .slice C t.length d], .slice T n tc, .slice U m uc] w _
 rw [← hm, ← hp, ← hr] at hG0 ⊢
 obtain ⟨Gf, hGf⟩ : ∃ Gf, Gf = renG ((n : Int), es, s, t) ws el := ⟨_, rfl⟩
 rw [← hGf]
 obtain ⟨W, hW, bW, k0, k1⟩ := allocs2 w (.cells #[.int .i64 (n : Int), .slice A m c, .slice B p b, .slice C r d] tGr) (.cells #[.int .i64 0, .slice none 0 0, .slice none 0 0, .slice none 0 0] tGr)
 have hM := hgMap_any W (n : Int) T tc n ws (hG0.below bW) ok (ht.below bW) htn hin
 clear hE hRa hRb e1 e2 e3 hgn hG0 ok hin
 obtain ⟨⟨c0, c1, c2, c3⟩, f0, f1, f2, f3⟩ := t_box4 k0
 have hM_h := lH hM; have hm_h := lH hm; have hp_h := lH hp; have hr_h := lH hr; have a1_h := lH a1; have bW_h := lH bW; have k0_h := lH k0; have k1_h := lH k1; have ht_h := lH ht; have hu_h := lH hu; have htn_h := lH htn; have hel_h := lH hel; have hper_h := lH hper; have hGf_h := lH hGf; have hgm_h := lH hgm; clear hM hm hp hr a1 bW k0 k1 ht hu htn hel hper hGf hgm
 go_enter Tryz.func38, Tryz.ntmps38
 go_upto_region 1 with (fail)
 rw [← hW]
 clear hW
 go_wp2_with (fail)
 refine (hM_h.out).mono ?_
 rintro e w1 ⟨v1, fp1, rfl, hO1, hf1, hb1⟩
 obtain ⟨A1, q1, ms, ⟨X1, X2, X3⟩, ⟨Y1, Y2, Y3⟩, rfl, m1, m2, m3, hsl1, hLs1, rfl⟩ := hO1
 have hms : ms.map egOf = es.map (mapE ws) := m1.symm
 have hX3 : X3 = mapL ws s := m2
 have hY3 : Y3 = mapL ws t := m3
 subst hX3 hY3
 have hml : ms.length = m := by have := congrArg List.length hms; rw [List.length_map, List.length_map] at this; rw [this]; exact hgm_h.out
 simp only [mapL_length] at *
 rw [hml, ← hp_h.out, ← hr_h.out]
 have e0 : (mapG ws (n : Int) ((n : Int), es, s, t)).1 = (n : Int) := rfl
 rw [e0]
 clear m1 m2 m3 e0
 have k0a := t_box_below k0_h.out hb1
 have k1a := t_box_below k1_h.out hb1
 have hB1 := below_trans bW_h.out hb1 bW_h.out.size
 have hws := hb1.size
 rw [hml] at hsl1
 clear c0 c1 c2 c3 f0 f1 f2 f3
 obtain ⟨W3, hW3, bW3, k3⟩ := alloc_box1g w1 (.cells #[.int .i64 (n : Int), .slice A1 m q1, .slice X1 p X2, .slice Y1 r Y2] tGr)
 have k0b := t_box_below k0a bW3
 have k1b := t_box_below k1a bW3
 have hB3 := below_trans hB1 bW3 hB1.size
 have hsl3 := hsl1.below bW3
 have hLs3 := hLs1.below bW3
 have hlt1 : ∀ x, x ∈ fpA A1 ++ fpR (((X1, X2, mapL ws s) : Hd) :: (Y1, Y2, mapL ws t) :: eh ms) → W.heap.size ≤ x ∧ x < w1.heap.size := fun x hx => ⟨hf1 x hx, by
  rcases List.mem_append.1 hx with hx | hx
  · exact hsl1.lt x hx
  · exact hLs1.lt x hx⟩
 obtain ⟨⟨c0, c1, c2, c3⟩, f0, f1, f2, f3⟩ := t_box4 k3
 obtain ⟨⟨d0, d1, d2, d3⟩, g0, g1, g2, g3⟩ := t_box4 k0b
 clear k0a k1a hB1 hsl1 hLs1 hb1 hf1; have k3_h := lH k3; have k0b_h := lH k0b; have k1b_h := lH k1b; have hB3_h := lH hB3; have hsl3_h := lH hsl3; have hLs3_h := lH hLs3; have hlt1_h := lH hlt1; have hms_h := lH hms; have hml_h := lH hml; have bW3_h := lH bW3; clear k3 k0b k1b hB3 hsl3 hLs3 hlt1 hms hml bW3
 go_upto_region 2 with (fail)
 rw [← hW3]
 clear hW3
 obtain ⟨W4, hW4, bW4, k4⟩ := alloc_box1g W3 (.cells #[.int .i64 (n : Int), .slice none 0 0, .slice X1 p X2, .slice Y1 r Y2] tGr)
 have k3d := t_box_below k3_h.out bW4
 have hlt3 := t_box_lt k3_h.out
 have bW4_h := lH bW4; have k4_h := lH k4; have k3d_h := lH k3d; clear bW4 k4 k3d
 go_upto_region 3 with (fail)
 rw [← hW4]
 clear hW4 c0 c1 c2 c3 f0 f1 f2 f3 d0 d1 d2 d3 g0 g1 g2 g3
 go_upto_if 25 with (fail)
 go_cut [] (fun wx => ∃ (G : Option Addr) (gc : Nat), wx.heap[W3.heap.size]? = some (.cells #[.int .i64 (n : Int), .slice G m gc, .slice X1 p X2, .slice Y1 r Y2] tGr) ∧ Sl wx tEd 4 G m gc (ecs (List.replicate m eh0)) ∧ (∀ x, x ∈ fpA G → W4.heap.size ≤ x) ∧ Below W3.heap.size W3 wx)
 case first =>
  by_cases hm0 : m = 0
  · have hm1 : ¬ ((0 : Int) < (m : Int)) := by omega
    have e1 : (Value.slice none 0 0) = .slice none m 0 := by rw [hm0]
    have e2 : Sl W4 tEd 4 none m 0 (ecs (List.replicate m eh0)) := by rw [hm0]; exact Sl.nil _ _ _
    have hm0_h := lH hm0; clear hm0; have e1_h := lH e1; have e2_h := lH e2; clear e1 e2
    go_wp2_with (fail)
    go_meet
    exact ⟨none, 0, by rw [← e1_h.out]; exact k4_h.out, e2_h.out, fun x hx => (by cases hx), bW4_h.out⟩
  · have hm1 : (0 : Int) < (m : Int) := by omega
    obtain ⟨⟨c0, c1, c2, c3⟩, f0, f1, f2, f3⟩ := t_box4 k4_h.out
    go_wp2_with (at_make; refine wpList_make_Sl _ rfl _ _ _ rfl tEd Tryz.underlying22 info_ed m m rfl rfl rfl rfl (Nat.le_refl _) (by omega) (by unfold maxLen; omega) ?_; intro G w5 hs5 hG5 hb5; have kx5 := t_box_below k4_h.out hb5; clear c0 c1 c2 c3 f0 f1 f2 f3; obtain ⟨⟨c0, c1, c2, c3⟩, f0, f1, f2, f3⟩ := t_box4 kx5; have kx5_h := lH kx5; clear kx5)
    have hs6 : Sl w5 tEd 4 (some G) m m (ecs (List.replicate m eh0)) := by rw [← madeEdges]; exact hs5
    obtain ⟨s1, s2⟩ := box_set kx5_h.out 1 (.slice (some G) m m)
    have s3 : (w5.setCell ⟨W3.heap.size, 1, none⟩ (.slice (some G) m m)).heap[W3.heap.size]? = some (.cells #[.int .i64 (n : Int), .slice (some G) m m, .slice X1 p X2, .slice Y1 r Y2] tGr) := s1
    have h4 := t_box_lt k4_h.out
    have hs7 := hs6.keeps s2 (fun x hx e => by simp at hx; omega)
    have hW7 := below_keeps (below_trans bW4_h.out hb5 bW4_h.out.size) s2 (Nat.le_trans bW4_h.out.size hb5.size) (fun x hx => by omega)
    go_meet
    exact ⟨some G, m, s3, hs7, fun x hx => by simp at hx; omega, hW7⟩
 case rest =>
  obtain ⟨G, gc, kx, hslG, hGb, hWc⟩ := hcut
  obtain ⟨w5, rfl⟩ : ∃ x, x = wc := ⟨_, rfl⟩
  have h34 := bW4_h.out.size
  have h4 := t_box_lt k4_h.out
  have kx_h := lH kx; have hslG_h := lH hslG; have hWc_h := lH hWc; have hGb_h := lH hGb; clear kx hslG hWc hGb
  go_wp2_with (fail)
  go_loopw [32] (fun i wr => ∃ k : Nat, k ≤ m ∧ i = .int .i64 k ∧ wr.heap[W3.heap.size]? = some (.cells #[.int .i64 (n : Int), .slice G m gc, .slice X1 p X2, .slice Y1 r Y2] tGr) ∧ Sl wr tEd 4 G m gc (ecs (lay eh0 el ms k)) ∧ Below W3.heap.size W3 wr) (fun i _ => m - (intOf i).toNat)
  case atStart => exact ⟨0, Nat.zero_le _, rfl, kx_h.out, by rw [lay, hml_h.out]; exact hslG_h.out, hWc_h.out⟩
  case round =>
   clear kx_h hslG_h hWc_h
   obtain ⟨k, hk, rfl, kx, hslG, hWr⟩ := hrel
   have hBr := below_trans hB3_h.out hWr hB3_h.out.size
   by_cases hlt : k < m
   · obtain ⟨⟨κ, vv, ⟨B1, b1, s1⟩, ⟨C1, b2, t1⟩⟩, hn⟩ : ∃ x, ms[k]? = some x := ⟨_, List.getElem?_eq_getElem (by rw [hml_h.out]; exact hlt)⟩
     obtain ⟨ad, hA, hab, d0, d1, d2, d3⟩ : ∃ ad, A1 = some ad ∧ True ∧ wr.cell? (ad.add (k * 4)) = some (.int .i64 κ) ∧ wr.cell? ⟨(ad.add (k * 4)).block, (ad.add (k * 4)).off + 1, none⟩ = some (.int .i64 vv) ∧ wr.cell? ⟨(ad.add (k * 4)).block, (ad.add (k * 4)).off + 2, none⟩ = some (.slice B1 s1.length b1) ∧ wr.cell? ⟨(ad.add (k * 4)).block, (ad.add (k * 4)).off + 3, none⟩ = some (.slice C1 t1.length b2) := by
      have hs := hsl3_h.out.below hWr
      obtain ⟨i0, i1, i2, i3⟩ := ecs_get hn
      obtain ⟨ad, hA, _, x0, _⟩ := Sl.cell hs i0
      obtain ⟨ad1, h1, _, x1, _⟩ := Sl.cell hs i1
      obtain ⟨ad2, h2, _, x2, _⟩ := Sl.cell hs i2
      obtain ⟨ad3, h3, _, x3, _⟩ := Sl.cell hs i3
      rw [hA] at h1 h2 h3
      obtain rfl := Option.some.inj h1
      obtain rfl := Option.some.inj h2
      obtain rfl := Option.some.inj h3
      rw [add_next _ _ 1 (by omega)] at x1
      rw [add_next _ _ 2 (by omega)] at x2
      rw [add_next _ _ 3 (by omega)] at x3
      exact ⟨ad, hA, trivial, x0, x1, x2, x3⟩
     subst hA
     have hadb : ad.block < w1.heap.size := (hlt1_h.out ad.block (List.mem_append_left _ (by simp))).2
     obtain ⟨ud, y, rfl, hy, hyc⟩ := (hu_h.out.below hBr).at_ (j := k) (by rw [hel_h.out]; exact hlt)
     have hyin := perm_in hper_h.out y (List.mem_of_getElem? hy)
     rw [hel_h.out] at hyin
     obtain ⟨q, rfl⟩ : ∃ q : Nat, y = (q : Int) := ⟨y.toNat, by omega⟩
     have hqm : q < m := by omega
     have hlst : lay eh0 el ms (k + 1) = (lay eh0 el ms k).set q (κ, vv, (B1, b1, s1), (C1, b2, t1)) := by
      have e1 : el.getD k 0 = (q : Int) := by simp [List.getD, hy]
      have e2 : ms.getD k eh0 = (κ, vv, (B1, b1, s1), (C1, b2, t1)) := by simp [List.getD, hn]
      rw [lay, e1, e2]; rfl
     obtain ⟨p1, hp1⟩ : ∃ p1, p1 = s1.length := ⟨_, rfl⟩
     obtain ⟨r1, hr1'⟩ : ∃ r1, r1 = t1.length := ⟨_, rfl⟩
     have hlen : (lay eh0 el ms k).length = m := by rw [lay_length, hml_h.out]
     obtain ⟨gd, rfl, hgl, -⟩ : ∃ gd, G = some gd ∧ gd.block < wr.heap.size ∧ True := by
      obtain ⟨u, hu⟩ : ∃ u, (ecs (lay eh0 el ms k))[0]? = some u := ⟨_, List.getElem?_eq_getElem (by rw [ecs_length, hlen]; omega)⟩
      obtain ⟨gd, h1, h2, _⟩ := Sl.cell hslG hu
      exact ⟨gd, h1, h2, trivial⟩
     have hgb := hGb_h.out gd.block (by simp)
     have k3r := t_box_below k3_h.out hWr
     have hkI : (k : Int) < (m : Int) := by omega
     have hqI : (q : Int) < (m : Int) := by omega
     rw [← hp1] at d2
     rw [← hr1'] at d3
     have hr1_h := lH hr1'
     have hw13 := bW3_h.out.size
     have hall : wr.heap[W3.heap.size]? = some (.cells #[.int .i64 (n : Int), .slice (some gd) m gc, .slice X1 p X2, .slice Y1 r Y2] tGr) ∧ wr.heap[w1.heap.size]? = some (.cells #[.int .i64 (n : Int), .slice (some ad) m q1, .slice X1 p X2, .slice Y1 r Y2] tGr) ∧ wr.cell? (ad.add (k * 4)) = some (.int .i64 κ) ∧ wr.cell? ⟨(ad.add (k * 4)).block, (ad.add (k * 4)).off + 1, none⟩ = some (.int .i64 vv) ∧ wr.cell? ⟨(ad.add (k * 4)).block, (ad.add (k * 4)).off + 2, none⟩ = some (.slice B1 p1 b1) ∧ wr.cell? ⟨(ad.add (k * 4)).block, (ad.add (k * 4)).off + 3, none⟩ = some (.slice C1 r1 b2) := ⟨kx, k3r, d0, d1, d2, d3⟩
     clear hr1' hyin hBr kx d0 d1 d2 d3 k3r hab; have hp1_h := lH hp1; have hall_h := lH hall; have hslG_h := lH hslG; have hWr_h := lH hWr; have hlst_h := lH hlst; have hlen_h := lH hlen; have hy_h := lH hy; have hn_h := lH hn; clear hp1 hall hslG hWr hlst hlen hy hn
     go_wp2_with (fail)
     refine beginH (fun w' => w'.heap[W3.heap.size]? = some (.cells #[.int .i64 (n : Int), .slice (some gd) m gc, .slice X1 p X2, .slice Y1 r Y2] tGr) ∧ w'.heap[w1.heap.size]? = some (.cells #[.int .i64 (n : Int), .slice (some ad) m q1, .slice X1 p X2, .slice Y1 r Y2] tGr) ∧ w'.cell? (ad.add (k * 4)) = some (.int .i64 κ) ∧ w'.cell? ⟨(ad.add (k * 4)).block, (ad.add (k * 4)).off + 1, none⟩ = some (.int .i64 vv) ∧ w'.cell? ⟨(ad.add (k * 4)).block, (ad.add (k * 4)).off + 2, none⟩ = some (.slice B1 p1 b1) ∧ w'.cell? ⟨(ad.add (k * 4)).block, (ad.add (k * 4)).off + 3, none⟩ = some (.slice C1 r1 b2)) (by kernel_rfl) ?_
     have hbd : Below wr.heap.size wr wr.drew := below_drew (Below.refl _ _)
     generalize wr.drew = W7 at hbd ⊢
     have hcb : ∀ (a : Addr) u, wr.cell? a = some u → W7.cell? a = some u := fun a u h => (hbd.cell (World.block_lt_of_cell? _ _ h)).trans h
     obtain ⟨a0, a1', a2, a3, a4, a5⟩ := hall_h.out
     have hF := And.intro (t_box_below a0 hbd) (And.intro (t_box_below a1' hbd) (And.intro (hcb _ _ a2) (And.intro (hcb _ _ a3) (And.intro (hcb _ _ a4) (hcb _ _ a5)))))
     clear a0 a1' a2 a3 a4 a5 hcb
     have hsl7 := hslG_h.out.below hbd
     have hW7b := below_trans hWr_h.out hbd hWr_h.out.size
     obtain ⟨⟨⟨x0, e0⟩, g0⟩, ⟨⟨x1, e1⟩, g1⟩, ⟨⟨x2, e2⟩, g2⟩, ⟨x3, e3⟩, g3⟩ := ES.mid hsl7 hlen_h.out (j := q) κ vv (.slice B1 p1 b1) hqm
     obtain ⟨hset, hks⟩ := ES.set hsl7 hlen_h.out (ad := gd) rfl (j := q) κ vv B1 C1 b1 b2 s1 t1 hqm
     rw [← hlst_h.out, ← hp1_h.out, ← hr1_h.out] at hset
     rw [← hp1_h.out, ← hr1_h.out] at hks
     have hne1 : ad.block ≠ gd.block := by omega
     have hkc : ∀ (a : Addr) u W', Keeps (· ∈ fpA (some gd)) W7 W' → a.block = ad.block → W7.cell? a = some u → W'.cell? a = some u := fun a u W' hk he h => (World.cell?_of_block (hk.block _ (World.block_lt_of_cell? _ _ h) (by rw [he]; simp only [fpA_some, List.mem_singleton]; exact hne1))).trans h
     obtain ⟨a0, a1', a2, a3, a4, a5⟩ := hF
     have hF2 := And.intro (t_box_keeps a0 hks (by simp only [fpA_some, List.mem_singleton]; omega)) (And.intro (t_box_keeps a1' hks (by simp only [fpA_some, List.mem_singleton]; omega)) (And.intro (hkc _ _ _ hks (by exact block_of_add ad (k * 4)) a2) (And.intro (hkc _ _ _ hks (by exact block_of_add ad (k * 4)) a3) (And.intro (hkc _ _ _ hks (by exact block_of_add ad (k * 4)) a4) (hkc _ _ _ hks (by exact block_of_add ad (k * 4)) a5)))))
     have hF := And.intro a0 (And.intro a1' (And.intro a2 (And.intro a3 (And.intro a4 a5))))
     have hW8b := below_keeps hW7b hks hW7b.size (fun x hx => by simp at hx; omega)
     clear hbd hsl7 hW7b hks hkc a0 a1' a2 a3 a4 a5; have hF_h := lH hF; have hF2_h := lH hF2; have hset_h := lH hset; have hW8b_h := lH hW8b; clear hF hF2 hset hW8b
     refine tkH 0 ?_ rfl hF_h.out (fun W' hW' => ?_) ?_; rotate_left; · (obtain ⟨⟨y0, y1, y2, y3⟩, y4, y5, y6, y7⟩ := t_box4 hW'.1; obtain ⟨⟨z0, z1, z2, z3⟩, z4, z5, z6, z7⟩ := t_box4 hW'.2.1; obtain ⟨v0, v1, v2, v3⟩ := hW'.2.2; clear hW'; go_simp; first | done | with_reducible rfl)
     simp only [Act.put, nS]
     refine tkH 1 ?_ rfl hF_h.out (fun W' hW' => ?_) ?_; rotate_left; · (obtain ⟨⟨y0, y1, y2, y3⟩, y4, y5, y6, y7⟩ := t_box4 hW'.1; obtain ⟨⟨z0, z1, z2, z3⟩, z4, z5, z6, z7⟩ := t_box4 hW'.2.1; obtain ⟨v0, v1, v2, v3⟩ := hW'.2.2; clear hW'; go_simp; first | done | with_reducible rfl)
     simp only [Act.put, nS]
     refine tkH 2 ?_ rfl hF_h.out (fun W' hW' => ?_) ?_; rotate_left; · (obtain ⟨⟨y0, y1, y2, y3⟩, y4, y5, y6, y7⟩ := t_box4 hW'.1; obtain ⟨⟨z0, z1, z2, z3⟩, z4, z5, z6, z7⟩ := t_box4 hW'.2.1; obtain ⟨v0, v1, v2, v3⟩ := hW'.2.2; clear hW'; go_simp; first | done | with_reducible rfl)
     simp only [Act.put, nS]
     refine tkH 3 ?_ rfl hF_h.out (fun W' hW' => ?_) ?_; rotate_left; · (obtain ⟨⟨y0, y1, y2, y3⟩, y4, y5, y6, y7⟩ := t_box4 hW'.1; obtain ⟨⟨z0, z1, z2, z3⟩, z4, z5, z6, z7⟩ := t_box4 hW'.2.1; obtain ⟨v0, v1, v2, v3⟩ := hW'.2.2; clear hW'; go_simp; first | done | with_reducible rfl)
     simp only [Act.put, nS]
     refine tkH 4 ?_ rfl hF_h.out (fun W' hW' => ?_) ?_; rotate_left; · (obtain ⟨⟨y0, y1, y2, y3⟩, y4, y5, y6, y7⟩ := t_box4 hW'.1; obtain ⟨⟨z0, z1, z2, z3⟩, z4, z5, z6, z7⟩ := t_box4 hW'.2.1; obtain ⟨v0, v1, v2, v3⟩ := hW'.2.2; clear hW'; go_simp; first | done | with_reducible rfl)
     simp only [Act.put, nS]
     refine tkH 5 ?_ rfl hF_h.out (fun W' hW' => ?_) ?_; rotate_left; · (obtain ⟨⟨y0, y1, y2, y3⟩, y4, y5, y6, y7⟩ := t_box4 hW'.1; obtain ⟨⟨z0, z1, z2, z3⟩, z4, z5, z6, z7⟩ := t_box4 hW'.2.1; obtain ⟨v0, v1, v2, v3⟩ := hW'.2.2; clear hW'; go_simp; first | done | with_reducible rfl)
     simp only [Act.put, nS]
     refine tkH 6 ?_ rfl hF_h.out (fun W' hW' => ?_) ?_; rotate_left; · (obtain ⟨⟨y0, y1, y2, y3⟩, y4, y5, y6, y7⟩ := t_box4 hW'.1; obtain ⟨⟨z0, z1, z2, z3⟩, z4, z5, z6, z7⟩ := t_box4 hW'.2.1; obtain ⟨v0, v1, v2, v3⟩ := hW'.2.2; clear hW'; go_simp; first | done | with_reducible rfl)
     simp only [Act.put, nS]
     refine tkH 7 ?_ rfl hF_h.out (fun W' hW' => ?_) ?_; rotate_left; · (obtain ⟨⟨y0, y1, y2, y3⟩, y4, y5, y6, y7⟩ := t_box4 hW'.1; obtain ⟨⟨z0, z1, z2, z3⟩, z4, z5, z6, z7⟩ := t_box4 hW'.2.1; obtain ⟨v0, v1, v2, v3⟩ := hW'.2.2; clear hW'; go_simp; first | done | with_reducible rfl)
     simp only [Act.put, nS]
     refine tkH 8 ?_ rfl hF_h.out (fun W' hW' => ?_) ?_; rotate_left; · (obtain ⟨⟨y0, y1, y2, y3⟩, y4, y5, y6, y7⟩ := t_box4 hW'.1; obtain ⟨⟨z0, z1, z2, z3⟩, z4, z5, z6, z7⟩ := t_box4 hW'.2.1; obtain ⟨v0, v1, v2, v3⟩ := hW'.2.2; clear hW'; go_simp; first | done | with_reducible rfl)
     simp only [Act.put, nS]
     refine oneH 9 rfl (by kernel_rfl) (by rfl) (fun K hK => ?_)
     go_simp
     refine hK _ _ hF2_h.out ?_
     clear hK K
     refine doneH (by kernel_rfl) ?_
     go_wp2_with (fail)
     go_roundw
     case rel => exact ⟨k + 1, by omega, by go_num, hF2_h.out.1, hset_h.out, hW8b_h.out⟩
     case measure => simp [intOf]; omega
   · obtain rfl : m = k := by omega
     have k1r := t_box_below k1b_h.out hWr
     obtain ⟨t1', t2'⟩ := set4 (a := .int .i64 (n : Int)) (b := .slice G m gc) (c := .slice X1 p X2) (d := .slice Y1 r Y2) k1r
     have hk1W := t_box_lt k1_h.out
     have hLsr := hLs3_h.out.below hWr
     have hw13 := bW3_h.out.size
     have hLsG : OwLs wr (fpA G) ((X1, X2, mapL ws s) :: (Y1, Y2, mapL ws t) :: eh ms) := ⟨hLsr.rows, hLsr.apart, fun x hx b hb hb' => by
      have h1 := (hlt1_h.out b (List.mem_append_right _ (mem_fpR.2 ⟨x, hx, hb⟩))).2
      have := hGb_h.out b hb'; omega⟩
     have hsl2 := hslG.keeps t2' (fun x hx e => by have := hGb_h.out x hx; have := hB3_h.out.size; omega)
     have hLs2 := hLsG.keeps t2' (fun x hx e => by have := (hlt1_h.out x (List.mem_append_right _ hx)).1; omega)
     have hB9 := below_keeps hBr t2' hBr.size (fun x hx => by omega)
     have hOw := ren_ow (g := ((n : Int), es, s, t)) (ws := ws) (X := (X1, X2, mapL ws s)) (Y := (Y1, Y2, mapL ws t)) hms_h.out hml_h.out hel_h.out hper_h.out rfl rfl rfl hsl2 hLs2
     simp only [mapL_length] at hOw
     rw [← hp_h.out, ← hr_h.out, ← hGf_h.out] at hOw
     have hfw : FreshL w.heap.size (fpA G ++ fpR (((X1, X2, mapL ws s) : Hd) :: (Y1, Y2, mapL ws t) :: eh (lay eh0 el ms m))) := fun x hx => by
      have hwW := bW_h.out.size
      rcases List.mem_append.1 hx with hx | hx
      · have := hGb_h.out x hx; have := hB3_h.out.size; omega
      · have := (hlt1_h.out x (List.mem_append_right _ (ren_fp hml_h.out hel_h.out hper_h.out hx))).1; omega
     obtain ⟨⟨c0, c1, c2, c3⟩, f0, f1, f2, f3⟩ := t_box4 kx
     obtain ⟨⟨d0, d1, d2, d3⟩, g0, g1, g2, g3⟩ := t_box4 k1r
     clear hslG hLsr hLsG t2' k1r kx hWr hBr hsl2 hLs2; have t1'_h := lH t1'; have hB9_h := lH hB9; have hfw_h := lH hfw; have hOw_h := lH hOw; clear t1' hB9 hfw hOw
     go_wp2_with (fail)
     refine bodyPost_ret (results_cell_row rfl _ _ (w.heap.size + 1) _ _ (0, 0) _ rfl t1'_h.out Tryz.underlying25 rfl (by kernel_rfl)) rfl ?_
     exact ⟨_, _, rfl, hOw_h.out, hfw_h.out, hB9_h.out⟩
theorem drop_of {α : Type} {l : List α} {k : Nat} {x : α} (h : l[k]? = some x) : l.drop k = x :: l.drop (k + 1) := by
 have hl := (List.getElem?_eq_some_iff.1 h).1
 rw [List.drop_eq_getElem_cons hl, (List.getElem?_eq_some_iff.1 h).2]
theorem RdI.below' {w w' : World} {A : Option Addr} {l : List Int} (h : RdI w A l) (hb : Below w.heap.size w w') : RdI w' A l := h.below hb
set_option maxRecDepth 8000 in
set_option maxHeartbeats 2000000 in
theorem isPermutation_any (A : Option Addr) (c : Nat) (l : List Int) (w : World) (h : RdI w A l) (hl : l.length ≤ 1048576) :
  Calls Tryz.prog 51 #[.slice A l.length c, .int .i64 l.length] w fun e w' => e = .returned (.bool (permB l)) ∧ Below w.heap.size w w' := by
 obtain ⟨m, hm⟩ : ∃ m, m = l.length := ⟨_, rfl⟩
 obtain ⟨T, hT⟩ : ∃ T, T = permB l := ⟨_, rfl⟩
 rw [← hm] at hl ⊢
 rw [← hT]
 have hm_h := lH hm; have hT_h := lH hT; clear hm hT
 go_enter Tryz.func51, Tryz.ntmps51
 go_wp2_with (at_make; refine wpList_make_Sl _ rfl _ _ _ rfl tBool Tryz.underlying79 info_bool m m rfl rfl rfl rfl (Nat.le_refl _) (by omega) (by unfold maxLen; omega) ?_; intro G w1 hs hG hb1)
 have hs0 : Sl w1 tBool 1 (some G) m m (bls (List.replicate m false)) := by
  have e : (madeCells (Value.bool false).cells (m * 1)).toList.take (m * 1) = bls (List.replicate m false) := by
   rw [Nat.mul_one]; simp [Value.cells, toList_madeCells_one, bls]
  rw [← e]; exact hs
 have hp0 : permGo (l.drop 0) (List.replicate m false) = T := by rw [hT_h.out, hm_h.out]; rfl
 clear hs; have hs0_h := lH hs0; have hp0_h := lH hp0; have hb1_h := lH hb1; clear hs0 hp0 hb1
 go_loopw [16] (fun iv wr => ∃ (k : Nat) (seen : List Bool), k ≤ m ∧ iv = .int .i64 k ∧ seen.length = m ∧ Sl wr tBool 1 (some G) m m (bls seen) ∧ permGo (l.drop k) seen = T ∧ Below w.heap.size w wr) (fun iv _ => m - (intOf iv).toNat)
 case atStart => exact ⟨0, _, Nat.zero_le _, rfl, by simp, hs0_h.out, hp0_h.out, hb1_h.out⟩
 case round =>
  obtain ⟨k, seen, hk, rfl, hsl, hS, hp, hB⟩ := hrel
  clear hs0_h hp0_h
  by_cases hlt : k < m
  · obtain ⟨ad, x, rfl, hx, hc⟩ := (h.below' hB).at_ (j := k) (by rw [← hm_h.out]; exact hlt)
    have hkI : (k : Int) < (m : Int) := by omega
    rw [drop_of hx] at hp
    unfold permGo at hp
    by_cases hin : 0 ≤ x ∧ x ≤ (m : Int) - 1
    · obtain ⟨j, rfl⟩ : ∃ j : Nat, x = (j : Int) := ⟨x.toNat, by omega⟩
      have hI : t_inB (j : Int) 0 ((m : Int) - 1) = true := decide_eq_true hin
      have hjm : j < m := by omega
      obtain ⟨b, hb⟩ : ∃ b, seen[j]? = some b := ⟨_, List.getElem?_eq_getElem (by omega)⟩
      obtain ⟨ad2, e2, -, y0, y1⟩ := Sl.cell hS (bls_get hb)
      obtain rfl := Option.some.inj e2
      have hgd : seen.getD j true = b := by simp [List.getD, hb]
      have hj0 : (0 : Int) ≤ (j : Int) := by omega
      have hjc : (j : Int) < (m : Int) := by omega
      cases b
      · rw [if_pos ⟨by omega, by omega, by simpa using hgd⟩, Int.toNat_natCast] at hp
        have hset := Sl.set hS rfl j (.bool true) (by simp [bls]; omega)
        rw [bls_set] at hset
        have hks : Keeps (fun b => b = G.block) wr (wr.setCell (G.add j) (.bool true)) := Keeps.setCell (S := fun b => b = G.block) (Keeps.refl _ wr) (p := G.add j) (by rw [block_of_add]) _
        have hB2 := below_keeps hB hks hB.size (fun b hb => by omega)
        have hx_h := lH hx; have hp_h := lH hp; have hset_h := lH hset; have hks_h := lH hks; have hB2_h := lH hB2; have hB_h := lH hB; have hS_h := lH hS; have hb_h := lH hb; have hgd_h := lH hgd; have hsl_h := lH hsl; clear hx hp hset hks hB2 hB hS hb hgd hsl
        go_wp2_with (fail)
        refine (t_within_any _ _ _ _).mono ?_
        rintro e w' ⟨rfl, rfl⟩
        rw [hI]
        go_wp2_with (fail)
        go_roundw
        case rel => exact ⟨k + 1, _, by omega, by go_num, by simp [hsl_h.out], hset_h.out, hp_h.out, hB2_h.out⟩
        case measure => simp [intOf]; omega
      · rw [if_neg (fun hh => by have := hh.2.2; rw [Int.toNat_natCast, hgd] at this; cases this)] at hp
        obtain rfl : T = false := hp.symm
        have hx_h := lH hx; have hp_h := lH hp; have hB_h := lH hB; have hS_h := lH hS; have hb_h := lH hb; have hgd_h := lH hgd; have hsl_h := lH hsl; clear hx hp hB hS hb hgd hsl
        go_wp2_with (fail)
        refine (t_within_any _ _ _ _).mono ?_
        rintro e w' ⟨rfl, rfl⟩
        rw [hI]
        go_wp2_with (fail)
        go_ret
        exact ⟨rfl, hB_h.out⟩
    · have hI : t_inB x 0 ((m : Int) - 1) = false := decide_eq_false hin
      rw [if_neg (fun hh => hin ⟨hh.1, by have := hh.2.1; omega⟩)] at hp
      obtain rfl : T = false := hp.symm
      have hx_h := lH hx; have hp_h := lH hp; have hB_h := lH hB; have hS_h := lH hS; have hsl_h := lH hsl; clear hx hp hB hS hsl
      go_wp2_with (fail)
      refine (t_within_any _ _ _ _).mono ?_
      rintro e w' ⟨rfl, rfl⟩
      rw [hI]
      go_wp2_with (fail)
      go_ret
      exact ⟨rfl, hB_h.out⟩
  · obtain rfl : k = m := by omega
    rw [List.drop_of_length_le (by rw [← hm_h.out]; exact Nat.le_refl _)] at hp
    obtain rfl : T = true := hp.symm
    have hp_h := lH hp; have hB_h := lH hB; have hS_h := lH hS; have hsl_h := lH hsl; clear hp hB hS hsl
    go_wp2_with (fail)
    go_ret
    exact ⟨rfl, hB_h.out⟩
set_option maxRecDepth 8000 in
theorem isPermN_any (A : Option Addr) (c : Nat) (n : Int) (l : List Int) (w : World) (h : RdI w A l) (hl : l.length ≤ 1048576) :
  Calls Tryz.prog 51 #[.slice A l.length c, .int .i64 n] w fun e w' => e = .returned (.bool (prmN n l)) ∧ Below w.heap.size w w' := by
 by_cases hn : (l.length : Int) = n
 · subst hn
   have : prmN (l.length : Int) l = permB l := by simp [prmN]
   rw [this]
   exact isPermutation_any A c l w h hl
 · have : prmN n l = false := by simp [prmN, hn]
   rw [this]
   go_enter Tryz.func51, Tryz.ntmps51
   go_wp2_with (fail)
   go_ret
   exact ⟨rfl, Below.refl _ _⟩
abbrev g0 : Gr := (0, [], [], [])
theorem grB_parts {g : Gr} (h : grB g = true) : ∃ n : Nat, g.1 = (n : Int) ∧ n ≤ 100 ∧ g.2.1.length ≤ 60 ∧ g.2.2.1.length ≤ 12 ∧ g.2.2.2.length ≤ 12 ∧ inW (n : Int) (t_allW g) = true := by
 unfold grB at h
 simp only [Bool.and_eq_true, decide_eq_true_eq] at h
 obtain ⟨⟨h1, h2, h3, h4⟩, _, h6, _⟩ := h
 have h1' : 0 ≤ g.1 ∧ g.1 ≤ 100 := of_decide_eq_true h1
 refine ⟨g.1.toNat, by omega, by omega, h2, h3, h4, ?_⟩
 rw [show ((g.1.toNat : Nat) : Int) = g.1 by omega]; exact h6
theorem prmN_parts {n : Int} {l : List Int} (h : prmN n l = true) : (l.length : Int) = n ∧ permB l = true := by
 unfold prmN at h
 rw [Bool.and_eq_true, decide_eq_true_eq] at h
 exact h
theorem cntE_perm {l m : List Eg} (h : l.Perm m) : cntE l = cntE m := by
 induction h with
 | nil => rfl
 | cons x _ ih => simp [cntE, ih]
 | swap x y _ => simp [cntE]; omega
 | trans _ _ h1 h2 => exact h1.trans h2
theorem cntE_map (ws : List Int) (l : List Eg) : cntE (l.map (mapE ws)) = cntE l := by
 induction l with
 | nil => rfl
 | cons x r ih => simp [cntE, mapE, ih]
theorem renG_ok {g : Gr} {ws es : List Int} (ok : OkG g) (hp : permB es = true) (hl : es.length = g.2.1.length) : OkG (renG g ws es) := by
 have hpm : (lay eg0 es (g.2.1.map (mapE ws)) g.2.1.length).Perm (g.2.1.map (mapE ws)) := by
  have := lay_all (d := eg0) (xs := g.2.1.map (mapE ws)) hp (by simpa using hl)
  simpa using this
 obtain ⟨⟨o1, o2, o3⟩, o4, o5⟩ := ok
 refine ⟨⟨?_, ?_, ?_⟩, fun e he => ?_, ?_⟩
 · show (lay eg0 es (g.2.1.map (mapE ws)) g.2.1.length).length ≤ _
   rw [hpm.length_eq, List.length_map]; exact o1
 · show (mapL ws g.2.2.1).length ≤ _
   rw [mapL_length]; exact o2
 · show (mapL ws g.2.2.2).length ≤ _
   rw [mapL_length]; exact o3
 · have he' : e ∈ g.2.1.map (mapE ws) := hpm.mem_iff.1 he
   obtain ⟨x, hx, rfl⟩ := List.mem_map.1 he'
   simp only [mapE, mapL_length]
   exact o4 x hx
 · show cntE (lay eg0 es (g.2.1.map (mapE ws)) g.2.1.length) + (mapL ws g.2.2.1).length + (mapL ws g.2.2.2).length ≤ _
   rw [cntE_perm hpm, cntE_map, mapL_length, mapL_length]; exact o5
theorem g0_ok : OkG ((0, [], [], []) : Gr) := ⟨⟨Nat.zero_le _, Nat.zero_le _, Nat.zero_le _⟩, fun e he => (by cases he), by simp [cntG, cntE]⟩
end Go.Proofs.YtpkmjenoniedjaaGreat
