/-
  THE WALKS: zeros, upTo, joined, classes' root and join; the reference's l1Most, l1Least, l1Own.

  THE PLAIN LAW of wires that are made one: classes, roots, numbers.
-/
import Derived.Test.YtanhmljgeiajoaaGrR
import Derived.Test.YtanhmljgeiajoaaGrK
import Derived.Test.YtanhmljgeiajoaaGrX
import Derived.Test.YtanhmljgeiajoaaLawI
import Derived.IntWalk
namespace Go.Proofs.Ytanhmljgeiajoaa
open Go.RowKit

/-- C tells the least wire of each wire's class. -/
structure Cls (n : Nat) (C : List Int) : Prop where
  len : C.length = n
  le : ∀ w : Nat, w < n → 0 ≤ C.getD w 0 ∧ C.getD w 0 ≤ w
  fix : ∀ w : Nat, w < n → C.getD (C.getD w 0).toNat 0 = C.getD w 0
/-- P leads from each wire to the least of its class. -/
structure Par (n : Nat) (P C : List Int) : Prop where
  len : P.length = n
  le : ∀ w : Nat, w < n → 0 ≤ P.getD w 0 ∧ P.getD w 0 ≤ w
  same : ∀ w : Nat, w < n → C.getD (P.getD w 0).toNat 0 = C.getD w 0
  root : ∀ w : Nat, w < n → P.getD w 0 = w → C.getD w 0 = w
/-- Two classes are made one. -/
def relV (x y c : Int) : Int := if c = max x y then min x y else c
def relab (x y : Int) (C : List Int) : List Int := C.map (relV x y)
def idW (n : Nat) : List Int := (List.range n).map fun w : Nat => (w : Int)
@[simp] theorem idW_length (n : Nat) : (idW n).length = n := by simp [idW]
theorem idW_get {n w : Nat} (h : w < n) : (idW n)[w]? = some (w : Int) := by simp [idW, h]
theorem idW_getD {n w : Nat} (h : w < n) : (idW n).getD w 0 = (w : Int) := by rw [List.getD_eq_getElem?_getD, idW_get h]; rfl
theorem getD_map_lt {C : List Int} {f : Int → Int} {w : Nat} (h : w < C.length) : (C.map f).getD w 0 = f (C.getD w 0) := by
  rw [List.getD_eq_getElem?_getD, List.getD_eq_getElem?_getD, List.getElem?_map, List.getElem?_eq_getElem h]; rfl
theorem Cls.id (n : Nat) : Cls n (idW n) := ⟨by simp, fun w h => by rw [idW_getD h]; omega, fun w h => by rw [idW_getD h, show ((w : Int)).toNat = w by omega, idW_getD h]⟩
theorem Par.id (n : Nat) : Par n (idW n) (idW n) := ⟨by simp, fun w h => by rw [idW_getD h]; omega, fun w h => by rw [idW_getD h, show ((w : Int)).toNat = w by omega, idW_getD h], fun w h _ => idW_getD h⟩
section
variable {n : Nat} {C P : List Int} {a b : Nat}
theorem relab_getD (hC : Cls n C) (x y : Int) {w : Nat} (h : w < n) : (relab x y C).getD w 0 = relV x y (C.getD w 0) := getD_map_lt (by rw [hC.len]; exact h)
@[simp] theorem relab_length (x y : Int) (C : List Int) : (relab x y C).length = C.length := by simp [relab]
theorem relV_le (x y c : Int) : relV x y c ≤ c := by unfold relV; split <;> omega
theorem Cls.join (hC : Cls n C) (ha : a < n) (hb : b < n) : Cls n (relab (C.getD a 0) (C.getD b 0) C) := by
  have la := hC.le a ha
  have lb := hC.le b hb
  have fa := hC.fix a ha
  have fb := hC.fix b hb
  refine ⟨by rw [relab_length, hC.len], fun w hw => ?_, fun w hw => ?_⟩
  · rw [relab_getD hC _ _ hw]
    have := hC.le w hw
    have := relV_le (C.getD a 0) (C.getD b 0) (C.getD w 0)
    unfold relV at this ⊢
    split <;> omega
  · have lw := hC.le w hw
    rw [relab_getD hC _ _ hw]
    by_cases hm : C.getD w 0 = max (C.getD a 0) (C.getD b 0)
    · have e : relV (C.getD a 0) (C.getD b 0) (C.getD w 0) = min (C.getD a 0) (C.getD b 0) := by unfold relV; rw [if_pos hm]
      rw [e, relab_getD hC _ _ (by omega)]
      have e2 : C.getD (min (C.getD a 0) (C.getD b 0)).toNat 0 = min (C.getD a 0) (C.getD b 0) := by
        by_cases h : C.getD a 0 ≤ C.getD b 0
        · rw [show min (C.getD a 0) (C.getD b 0) = C.getD a 0 by omega]; exact fa
        · rw [show min (C.getD a 0) (C.getD b 0) = C.getD b 0 by omega]; exact fb
      rw [e2]
      unfold relV; split <;> omega
    · have e : relV (C.getD a 0) (C.getD b 0) (C.getD w 0) = C.getD w 0 := by unfold relV; rw [if_neg hm]
      rw [e, relab_getD hC _ _ (by omega), hC.fix w hw, e]
theorem Par.join (hP : Par n P C) (hC : Cls n C) (ha : a < n) (hb : b < n) : Par n (P.set (max (C.getD a 0) (C.getD b 0)).toNat (min (C.getD a 0) (C.getD b 0))) (relab (C.getD a 0) (C.getD b 0) C) := by
  have la := hC.le a ha
  have lb := hC.le b hb
  have fa := hC.fix a ha
  have fb := hC.fix b hb
  obtain ⟨M, hM⟩ : ∃ M, M = max (C.getD a 0) (C.getD b 0) := ⟨_, rfl⟩
  obtain ⟨m, hm⟩ : ∃ m, m = min (C.getD a 0) (C.getD b 0) := ⟨_, rfl⟩
  have e2 : C.getD m.toNat 0 = m := by
    by_cases h : C.getD a 0 ≤ C.getD b 0
    · rw [hm, show min (C.getD a 0) (C.getD b 0) = C.getD a 0 by omega]; exact fa
    · rw [hm, show min (C.getD a 0) (C.getD b 0) = C.getD b 0 by omega]; exact fb
  have eM : C.getD M.toNat 0 = M := by
    by_cases h : C.getD a 0 ≤ C.getD b 0
    · rw [hM, show max (C.getD a 0) (C.getD b 0) = C.getD b 0 by omega]; exact fb
    · rw [hM, show max (C.getD a 0) (C.getD b 0) = C.getD a 0 by omega]; exact fa
  have rM : relV (C.getD a 0) (C.getD b 0) M = m := by unfold relV; rw [if_pos hM, hm]
  have rO : ∀ c, c ≠ M → relV (C.getD a 0) (C.getD b 0) c = c := fun c h => by unfold relV; rw [if_neg (by rw [← hM]; exact h)]
  rw [← hM, ← hm]
  have hget : ∀ w : Nat, w < n → (P.set M.toNat m).getD w 0 = if w = M.toNat then m else P.getD w 0 := fun w hw => by
    rw [List.getD_eq_getElem?_getD, List.getElem?_set, List.getD_eq_getElem?_getD]
    by_cases h : M.toNat = w
    · rw [if_pos h, if_pos h.symm, if_pos (by rw [hP.len]; omega)]; rfl
    · rw [if_neg h, if_neg (fun e => h e.symm)]
  have rm : relV (C.getD a 0) (C.getD b 0) m = m := by
    by_cases h : m = M
    · rw [h, rM, h]
    · exact rO m h
  refine ⟨by rw [List.length_set, hP.len], fun w hw => ?_, fun w hw => ?_, fun w hw he => ?_⟩
  · rw [hget w hw]
    have := hP.le w hw
    split
    · rename_i h; subst h; omega
    · exact this
  · rw [hget w hw, relab_getD hC _ _ hw]
    split
    · rename_i h
      subst h
      rw [relab_getD hC _ _ (by omega), e2, eM, rM, rm]
    · have := hP.le w hw
      rw [relab_getD hC _ _ (by omega), hP.same w hw]
  · rw [hget w hw] at he
    rw [relab_getD hC _ _ hw]
    by_cases h : w = M.toNat
    · rw [if_pos h] at he
      have hwM : (w : Int) = M := by omega
      rw [h, eM, rM]; omega
    · rw [if_neg h] at he
      rw [hP.root w hw he]
      exact rO _ (by omega)
/-- From each wire one comes to the least of its class. -/
theorem Par.end_ (hP : Par n P C) {w : Nat} (hw : w < n) (h : P.getD w 0 = w) : C.getD w 0 = w := hP.root w hw h
end
/-- How many classes begin below a wire. -/
def nrM (C : List Int) : Nat → Nat
  | 0 => 0
  | w + 1 => nrM C w + (if C.getD w 0 = (w : Int) then 1 else 0)
theorem nrM_le (C : List Int) : ∀ w, nrM C w ≤ w
  | 0 => Nat.le_refl _
  | w + 1 => by have := nrM_le C w; unfold nrM; split <;> omega
/-- The number of each wire's class. -/
def numM (C : List Int) : List Int := C.map fun c => (nrM C c.toNat : Int)
@[simp] theorem numM_length (C : List Int) : (numM C).length = C.length := by simp [numM]
theorem numM_get {n : Nat} {C : List Int} (hC : Cls n C) {w : Nat} (h : w < n) : (numM C)[w]? = some (nrM C (C.getD w 0).toNat : Int) := by
  unfold numM
  rw [List.getElem?_map, List.getD_eq_getElem?_getD, List.getElem?_eq_getElem (by rw [hC.len]; exact h)]; rfl
/-- .. after the first pass of the reference. -/
def num0 (C : List Int) : List Int := (List.range C.length).map fun w => if C.getD w 0 = (w : Int) then (nrM C w : Int) else 0
@[simp] theorem num0_length (C : List Int) : (num0 C).length = C.length := by simp [num0]
theorem num0_get {C : List Int} {w : Nat} (h : w < C.length) : (num0 C)[w]? = some (if C.getD w 0 = (w : Int) then (nrM C w : Int) else 0) := by simp [num0, h]
/-- All pairs are made one, one behind the other. -/
def joinsM (C : List Int) : List (Int × Int) → List Int
  | [] => C
  | q :: r => joinsM (relab (C.getD q.1.toNat 0) (C.getD q.2.toNat 0) C) r
theorem joinsM_append (l m : List (Int × Int)) : ∀ C, joinsM C (l ++ m) = joinsM (joinsM C l) m := by
  induction l with
  | nil => intro C; rfl
  | cons q r ih => intro C; exact ih _
theorem Cls.joins {n : Nat} : ∀ {l : List (Int × Int)} {C : List Int}, Cls n C → (∀ q, q ∈ l → (0 ≤ q.1 ∧ q.1 < n) ∧ 0 ≤ q.2 ∧ q.2 < n) → Cls n (joinsM C l)
  | [], _, h, _ => h
  | q :: r, C, h, hq => by
    have := hq q (by simp)
    show Cls n (joinsM (relab (C.getD q.1.toNat 0) (C.getD q.2.toNat 0) C) r)
    exact Cls.joins (l := r) (h.join (a := q.1.toNat) (b := q.2.toNat) (by omega) (by omega)) fun x hx => hq x (by simp [hx])
theorem relab_comm (x y : Int) (C : List Int) : relab x y C = relab y x C := by
  unfold relab relV
  rw [Int.max_comm, Int.min_comm]
/-- The pairs of an edge: each of its wires with the first. -/
def pairsE (e : Eg) : List (Int × Int) := (e.2.2.1 ++ e.2.2.2).map fun w => ((e.2.2.1 ++ e.2.2.2).getD 0 0, w)
def pairsG (g : Gr) : List (Int × Int) := g.2.1.flatMap pairsE
def clsG (g : Gr) : List Int := joinsM (idW g.1.toNat) (pairsG g)
/-- What ComponentsOf answers. -/
def cpM (g : Gr) : List Int × Int × Bool := if grB g then (numM (clsG g), (nrM (clsG g) g.1.toNat : Int), true) else ([], 0, false)
end Go.Proofs.Ytanhmljgeiajoaa
namespace Go.Proofs.Ytanhmljgeiajoaa
open Go.RowKit

theorem IS.of_made {w : World} {G : Addr} {n : Nat} (h : Sl w tInt 1 (some G) n n ((madeCells (Value.int .i64 0).cells (n * 1)).toList.take (n * 1))) : IS w (some G) n (List.replicate n 0) := by
  unfold IS; rw [← madeZeros]; simpa using h
theorem zeros_any (n : Nat) (w : World) (hn : n ≤ 1048576) :
    Calls Try.prog 96 #[.int .i64 n] w fun e w' => ∃ G, e = .returned (.slice (some G) n n) ∧ IS w' (some G) n (List.replicate n 0) ∧ w.heap.size ≤ G.block ∧ Below w.heap.size w w' := by
  go_enter Try.func96, Try.ntmps96
  go_wp2_with (at_make; refine wpList_make_Sl _ rfl _ _ _ rfl tInt Try.underlying23 info_int n n rfl rfl rfl rfl (Nat.le_refl _) (by omega) (by unfold maxLen; omega) ?_; intro G w1 hs hG hb1)
  have his0 : IS w1 (some G) n (List.replicate n 0) := by unfold IS; rw [← madeZeros]; simpa using hs
  clear hs
  have his0_h := Lib.hid his0
  clear his0
  go_ret
  exact ⟨G, rfl, his0_h.out, hG, hb1⟩

theorem get_mid {α : Type} {xs ys : List α} {k : Nat} (h : k ≤ xs.length) : (xs.take k ++ ys.drop k)[k]? = ys[k]? := by
  rw [List.getElem?_append_right (by rw [List.length_take]; omega), List.length_take, Nat.min_eq_left h, Nat.sub_self, List.getElem?_drop, Nat.add_zero]

set_option maxHeartbeats 400000 in
theorem upTo_any (n : Nat) (w : World) (hn : n ≤ 1048576) :
    Calls Try.prog 93 #[.int .i64 n] w fun e w' => ∃ G, e = .returned (.slice (some G) n n) ∧ IS w' (some G) n (idW n) ∧ w.heap.size ≤ G.block ∧ Below w.heap.size w w' := by
  have hC := zeros_any n w (by omega)
  have HC := Lib.hid hC
  clear hC
  go_enter Try.func93, Try.ntmps93
  go_wp2_with (fail)
  refine HC.out.mono ?_
  rintro e w1 ⟨G, rfl, his0, hfG, hb1⟩
  have hf : Fresh w.heap.size (some G) := fun b hb => by simp at hb; omega
  go_wp2_with (fail)
  go_loopw [9] (fun i wr => ∃ k : Nat, k ≤ n ∧ i = .int .i64 k ∧ IS wr (some G) n ((idW n).take k ++ (List.replicate n (0 : Int)).drop k) ∧ Below w.heap.size w wr) (fun i _ => n - (intOf i).toNat)
  case atStart => exact ⟨0, Nat.zero_le _, rfl, by simpa using his0, hb1⟩
  case round =>
    clear his0 hb1
    obtain ⟨k, hk, rfl, his, hb⟩ := hrel
    have hlen : ((idW n).take k ++ (List.replicate n (0 : Int)).drop k).length = n := by simp; omega
    by_cases hlt : k < n
    · obtain ⟨ad, y, hA, hy, _, hc', hf'⟩ := his.at_ (j := k) (by rw [hlen]; exact hlt)
      obtain rfl := Option.some.inj hA
      have hfz := hf' k
      have his' := his.set (ad := G) rfl (j := k) ((k : Nat) : Int) (by rw [hlen]; exact hlt)
      rw [take_append_step (by simp) (idW_get hlt)] at his'
      have HI := Lib.hid his'
      have hb' := Lib.hid (hb.setCell (p := G.add k) (by rw [block_of_add]; exact hfG) (.int .i64 ((k : Nat) : Int)))
      have hkI : (k : Int) < (n : Int) := by omega
      clear his' hf' his hy hlen hb
      go_wp2_with (fail)
      go_roundw
      case rel => exact ⟨k + 1, by omega, by go_num, HI.out, hb'.out⟩
      case measure => simp [intOf]; omega
    · obtain rfl : n = k := by omega
      have his2 : IS wr (some G) n (idW n) := by
        have := his
        rwa [List.take_of_length_le (by simp), List.drop_of_length_le (by simp), List.append_nil] at this
      clear his hlen
      go_wp2_with (fail)
      go_ret
      exact ⟨G, rfl, his2, hfG, hb⟩

/-- A slice of ints of a call's own. -/
structure OI (w0 w : World) (A : Option Addr) (cap : Nat) (l : List Int) : Prop where
  is : IS w A cap l
  new : Fresh w0.heap.size A
  below_ : Below w0.heap.size w0 w
theorem OI.join {w0 w w2 : World} {A : Option Addr} {cap : Nat} {l v : List Int} (h : OI w0 w A cap l) {A' : Option Addr} {cap' n : Nat} (hn : n = l.length + v.length) (hs' : Sl w2 tInt 1 A' n cap' (ints l ++ ints v)) (hA' : ∀ b, b ∈ fpA A' → b ∈ fpA A ∨ w.heap.size ≤ b) (hk : Keeps (· ∈ fpA A) w w2) : OI w0 w2 A' cap' (l ++ v) := by
  subst hn
  refine ⟨?_, fun b hb' => ?_, below_keeps h.below_ hk h.below_.size h.new⟩
  · unfold IS
    have : ints (l ++ v) = ints l ++ ints v := by simp [ints]
    rw [this, List.length_append]; exact hs'
  · rcases hA' b hb' with h1 | h1
    · exact h.new b h1
    · have := h.below_.size; omega
theorem flat_take_le {L : List (List Int)} {k : Nat} {N : Nat} (h : L.flatten.length ≤ N) : (L.take k).flatten.length ≤ N := by
  have e : L.flatten.length = (L.take k).flatten.length + (L.drop k).flatten.length := by
    have := congrArg (fun x => x.flatten.length) (List.take_append_drop k L)
    simp only [List.flatten_append, List.length_append] at this; omega
  omega

set_option maxHeartbeats 1000000 in
theorem joined_any (A : Option Addr) (c : Nat) (hs : List Hd) (w : World) (h : RdR w A hs) (hl : hs.length ≤ 1048576) (hN : (hs.map fun h : Hd => h.2.2).flatten.length ≤ 1048576) :
    Calls Try.prog 94 #[.slice A hs.length c] w (RetI w (hs.map fun h : Hd => h.2.2).flatten) := by
  obtain ⟨L, hLh⟩ : ∃ L, L = hs.map fun h : Hd => h.2.2 := ⟨_, rfl⟩
  rw [← hLh] at hN ⊢
  obtain ⟨m, hmm⟩ : ∃ m, m = hs.length := ⟨_, rfl⟩
  rw [← hmm] at hl ⊢
  have HLh := Lib.hid hLh
  have HM := Lib.hid hmm
  have hLen := Lib.hid (show L.length = m by rw [hLh, List.length_map, hmm])
  clear hLh hmm
  have hO0 : OI w (w.alloc (.cells #[] 3)) (some ⟨w.heap.size, 0, none⟩) 0 [] := by
    refine ⟨by unfold IS; simpa [ints] using Sl.laid w 3 1 0 #[] (Nat.zero_le _) rfl, fun b hb => ?_, (Below.refl _ _).alloc (Nat.le_refl _) _⟩
    have : b = w.heap.size := by simpa using hb
    subst this; exact Nat.le_refl _
  go_enter Try.func94, Try.ntmps94
  go_wp2_with (fail)
  go_loopw [9, 3] (fun i v wr => ∃ (k : Nat) (A' : Option Addr) (c' n : Nat), k ≤ m ∧ i = .int .i64 k ∧ v = .slice A' n c' ∧ n = ((L.take k).flatten).length ∧ OI w wr A' c' (L.take k).flatten) (fun i _ _ => m - (intOf i).toNat)
  case atStart => exact ⟨0, _, 0, 0, Nat.zero_le _, rfl, rfl, rfl, by simpa using hO0⟩
  case round =>
    clear hO0
    obtain ⟨k, A', c', n, hk, rfl, rfl, hn, hO⟩ := hrel
    by_cases hlt : k < m
    · obtain ⟨⟨C, d, l⟩, hx⟩ : ∃ x, hs[k]? = some x := ⟨_, List.getElem?_eq_getElem (by rw [← HM.out]; exact hlt)⟩
      have hbl := h.below hO.below_
      obtain ⟨ad, hA, hc⟩ := hbl.1 k _ hx
      have hri := hbl.2 _ (List.mem_of_getElem? hx)
      subst hA
      clear hbl
      simp only [Hd.val] at hc
      simp only at hri
      have hlx : L[k]? = some l := by rw [HLh.out, List.getElem?_map, hx]; rfl
      have hnx : (L.take (k + 1)).flatten = (L.take k).flatten ++ l := by rw [List.take_add_one, hlx]; simp
      have hb1 := flat_take_le (k := k + 1) hN
      rw [hnx, List.length_append] at hb1
      have hsl : Sl wr 3 1 A' n c' (ints (L.take k).flatten) := by rw [hn]; exact hO.is
      obtain ⟨q, hq⟩ : ∃ q, q = l.length := ⟨_, rfl⟩
      rw [← hq] at hc hb1
      rw [← hn] at hb1
      have hil : (ints l).length = q * 1 := by rw [ints_length, hq, Nat.mul_one]
      have HNX := Lib.hid hnx
      have HQ := Lib.hid hq
      have HN := Lib.hid hn
      have HIL := Lib.hid hil
      have hkI : (k : Int) < (m : Int) := by omega
      clear hx hlx hnx hq hn hil h
      go_wp2_with (at_builtin; refine wpList_append_Sl _ rfl _ _ _ rfl 3 Try.underlying23 info_int rfl (by omega) rfl hsl rfl HIL.out hri.rdc (ints_one l) (by unfold maxLen; omega) (by omega) ?_; intro A3 c3 w3 hs3 hA3 hk3)
      have hO2 := Lib.hid (hO.join (v := l) (by rw [← HN.out, ← HQ.out]) hs3 hA3 hk3)
      clear hs3 hO hsl
      go_roundw
      case rel => exact ⟨k + 1, A3, c3, n + q, by omega, by go_num, rfl, by rw [HNX.out, List.length_append, HN.out, HQ.out], by rw [HNX.out]; exact hO2.out⟩
      case measure => simp [intOf]; omega
    · obtain rfl : m = k := by omega
      have hO2 : OI w wr A' c' L.flatten := by have := hO; rwa [List.take_of_length_le (by rw [hLen.out]; omega)] at this
      have hn2 : n = L.flatten.length := by rw [hn, List.take_of_length_le (by rw [hLen.out]; omega)]
      have HN2 := Lib.hid hn2
      clear hO h hn hn2
      go_wp2_with (fail)
      go_ret
      exact ⟨A', c', by rw [← HN2.out]; rfl, hO2.is, hO2.new, hO2.below_⟩


theorem l1Most_any (a b : Int) (w : World) : Calls Try.prog 87 #[.int .i64 a, .int .i64 b] w fun e w' => e = .returned (.int .i64 (max a b)) ∧ w' = w := by
  go_enter Try.func87, Try.ntmps87
  go_wp2
  all_goals go_ret
  all_goals (refine ⟨ret_int ?_, rfl⟩; omega)
theorem l1Least_any (a b : Int) (w : World) : Calls Try.prog 88 #[.int .i64 a, .int .i64 b] w fun e w' => e = .returned (.int .i64 (min a b)) ∧ w' = w := by
  go_enter Try.func88, Try.ntmps88
  go_wp2
  all_goals go_ret
  all_goals (refine ⟨ret_int ?_, rfl⟩; omega)
set_option maxHeartbeats 1000000 in
theorem l1Own_any (A : Option Addr) (c : Nat) (l : List Int) (w : World) (h : RdI w A l) (hl : l.length ≤ 17592186044416) :
    Calls Try.prog 86 #[.slice A l.length c] w (RetI w l) := by
  go_enter Try.func86, Try.ntmps86
  have hs0 := Sl.laid w 3 1 0 #[] (Nat.zero_le _) rfl
  go_wp2_with (at_builtin; refine wpList_append_Sl _ rfl _ _ _ rfl 3 Try.underlying23 info_int rfl (by omega) rfl hs0 rfl (by simp) (h.rdc.alloc _) (ints_one l) (by unfold maxLen; omega) (by omega) ?_; intro A1 cap1 w1 hs hA hk)
  go_ret
  refine ⟨A1, cap1, by simp, ?_, ?_, ?_⟩
  · simpa [IS] using hs
  · intro b hb
    rcases hA b hb with h1 | h1
    · simp at h1; omega
    · simp at h1; omega
  · exact ((Below.refl w.heap.size w).alloc (Nat.le_refl _) _).trans (hk.below (by simp) (by simp))
theorem Par.get {n : Nat} {P C : List Int} (h : Par n P C) {k : Nat} (hk : k < n) : P[k]? = some (P.getD k 0) := by
  rw [List.getD_eq_getElem?_getD, List.getElem?_eq_getElem (by rw [h.len]; exact hk)]; rfl
theorem Cls.get {n : Nat} {C : List Int} (h : Cls n C) {k : Nat} (hk : k < n) : C[k]? = some (C.getD k 0) := by
  rw [List.getD_eq_getElem?_getD, List.getElem?_eq_getElem (by rw [h.len]; exact hk)]; rfl

set_option maxHeartbeats 1000000 in
theorem root_any (G : Addr) (n a : Nat) (P C : List Int) (w : World) (h : RdI w (some G) P) (hP : Par n P C) (ha : a < n) :
    Calls Try.prog 97 #[.slice (some G) n n, .int .i64 a] w fun e w' => e = .returned (.int .i64 (C.getD a 0)) ∧ w' = w := by
  obtain ⟨r, hr⟩ : ∃ r, r = C.getD a 0 := ⟨_, rfl⟩
  rw [← hr]
  have hr_h := Lib.hid hr
  have h_h := Lib.hid h
  have hP_h := Lib.hid hP
  clear hr h hP
  go_enter Try.func97, Try.ntmps97
  go_wp2_with (fail)
  go_loopw [1] (fun i wr => ∃ k : Nat, k < n ∧ i = .int .i64 k ∧ C.getD k 0 = r ∧ wr = w) (fun i _ => (intOf i).toNat)
  case atStart => exact ⟨a, ha, rfl, hr_h.out.symm, rfl⟩
  case round =>
    obtain ⟨k, hk, rfl, he, rfl⟩ := hrel
    obtain ⟨x, hx⟩ : ∃ x, x = P.getD k 0 := ⟨_, rfl⟩
    obtain ⟨ad, e1, hc⟩ := h_h.out k _ (hP_h.out.get hk)
    obtain rfl := Option.some.inj e1
    have hle := hP_h.out.le k hk
    have hsm := hP_h.out.same k hk
    have hrt := hP_h.out.root k hk
    rw [← hx] at hc hle hsm hrt
    have hkI : (k : Int) < (n : Int) := by omega
    by_cases hxk : x = (k : Int)
    · have hrk := (hrt hxk).symm.trans he
      rw [hxk] at hc
      have hx_h := Lib.hid hx
      have hsm_h := Lib.hid hsm
      have he_h := Lib.hid he
      have hrk_h := Lib.hid hrk
      clear hx hsm he hrk
      clear hrt hxk
      go_wp2_with (fail)
      go_ret
      exact ⟨ret_int hrk_h.out, rfl⟩
    · obtain ⟨j, rfl⟩ : ∃ j : Nat, x = (j : Int) := ⟨x.toNat, by omega⟩
      rw [Int.toNat_natCast] at hsm
      have hjr := hsm.trans he
      have hx_h := Lib.hid hx
      have hsm_h := Lib.hid hsm
      have he_h := Lib.hid he
      have hjr_h := Lib.hid hjr
      clear hx hsm he hjr
      clear hrt
      go_wp2_with (fail)
      go_roundw
      case rel => exact ⟨j, by omega, rfl, hjr_h.out, trivial⟩
      case measure => simp [intOf]; omega

set_option maxHeartbeats 2000000 in
theorem join_any (G : Addr) (n a b : Nat) (P C : List Int) (w : World) (h : IS w (some G) n P) (hP : Par n P C) (hC : Cls n C) (ha : a < n) (hb : b < n) :
    Calls Try.prog 95 #[.slice (some G) n n, .int .i64 a, .int .i64 b] w fun e w' => e = .returned (.tuple #[]) ∧ ∃ P', IS w' (some G) n P' ∧ Par n P' (relab (C.getD a 0) (C.getD b 0) C) ∧ Keeps (· ∈ fpA (some G)) w w' := by
  have hJ := hP.join hC ha hb
  have la := hC.le a ha
  have lb := hC.le b hb
  have r1 := root_any G n a P C w h.rd hP ha
  have r2 := root_any G n b P C w h.rd hP hb
  obtain ⟨x, hx⟩ : ∃ x, x = C.getD a 0 := ⟨_, rfl⟩
  obtain ⟨y, hy⟩ : ∃ y, y = C.getD b 0 := ⟨_, rfl⟩
  rw [← hx, ← hy] at hJ
  rw [← hx] at r1 la
  rw [← hy] at r2 lb
  rw [← hx, ← hy]
  obtain ⟨x, rfl⟩ : ∃ j : Nat, x = (j : Int) := ⟨x.toNat, by omega⟩
  obtain ⟨y, rfl⟩ : ∃ j : Nat, y = (j : Int) := ⟨y.toNat, by omega⟩
  clear hx hy
  have hmx : ∀ M : Nat, M < n → G = G ∧ (∃ y0, w.cell? (G.add M) = some (.int .i64 y0)) ∧ w.frozen? (G.add M) = false ∧ (∀ m : Int, IS (w.setCell (G.add M) (.int .i64 m)) (some G) n (P.set M m)) ∧ ∀ m : Int, Keeps (· ∈ fpA (some G)) w (w.setCell (G.add M) (.int .i64 m)) := fun M hM => by
    obtain ⟨ad, y0, hA, hy0, _, hc', hf'⟩ := h.at_ (j := M) (by rw [hP.len]; exact hM)
    obtain rfl := Option.some.inj hA
    exact ⟨rfl, ⟨y0, hc'⟩, hf' M, fun m => h.set (ad := G) rfl (j := M) m (by rw [hP.len]; exact hM), fun m => Keeps.setCell (S := (· ∈ fpA (some G))) (Keeps.refl _ w) (p := G.add M) (by rw [block_of_add]; simp) _⟩
  clear h hP hC
  by_cases hxy : (x : Int) < (y : Int)
  case pos =>
    obtain ⟨-, ⟨y0, hc'⟩, hfz, hset, hks⟩ := hmx y (by omega)
    have hset := hset (x : Int)
    have hks := hks (x : Int)
    have hMI : (y : Int) < (n : Int) := by omega
    rw [show max (x : Int) (y : Int) = (y : Int) by omega, show min (x : Int) (y : Int) = (x : Int) by omega, Int.toNat_natCast] at hJ
    have r1_h := Lib.hid r1
    have r2_h := Lib.hid r2
    have hJ_h := Lib.hid hJ
    have hset_h := Lib.hid hset
    have hks_h := Lib.hid hks
    clear r1 r2 hJ hset hks
    clear hmx la lb ha hb
    go_enter Try.func95, Try.ntmps95
    go_wp2_with (fail)
    refine (r1_h.out).mono ?_
    rintro e w' ⟨rfl, rfl⟩
    go_wp2_with (fail)
    refine (r2_h.out).mono ?_
    rintro e w' ⟨rfl, rfl⟩
    go_wp2_with (fail)
    all_goals first | omega | (go_end0; exact ⟨rfl, _, hset_h.out, hJ_h.out, hks_h.out⟩)
  by_cases hyx : (y : Int) < (x : Int)
  case pos =>
    obtain ⟨-, ⟨y0, hc'⟩, hfz, hset, hks⟩ := hmx x (by omega)
    have hset := hset (y : Int)
    have hks := hks (y : Int)
    have hMI : (x : Int) < (n : Int) := by omega
    rw [show max (x : Int) (y : Int) = (x : Int) by omega, show min (x : Int) (y : Int) = (y : Int) by omega, Int.toNat_natCast] at hJ
    have r1_h := Lib.hid r1
    have r2_h := Lib.hid r2
    have hJ_h := Lib.hid hJ
    have hset_h := Lib.hid hset
    have hks_h := Lib.hid hks
    clear r1 r2 hJ hset hks
    clear hmx la lb ha hb
    go_enter Try.func95, Try.ntmps95
    go_wp2_with (fail)
    refine (r1_h.out).mono ?_
    rintro e w' ⟨rfl, rfl⟩
    go_wp2_with (fail)
    refine (r2_h.out).mono ?_
    rintro e w' ⟨rfl, rfl⟩
    go_wp2_with (fail)
    all_goals first | omega | (go_end0; exact ⟨rfl, _, hset_h.out, hJ_h.out, hks_h.out⟩)
  obtain rfl : x = y := by omega
  obtain ⟨-, ⟨y0, hc'⟩, hfz, hset, hks⟩ := hmx x (by omega)
  have hset := hset (x : Int)
  have hks := hks (x : Int)
  have hMI : (x : Int) < (n : Int) := by omega
  rw [show max (x : Int) (x : Int) = (x : Int) by omega, show min (x : Int) (x : Int) = (x : Int) by omega, Int.toNat_natCast] at hJ
  have r1_h := Lib.hid r1
  have r2_h := Lib.hid r2
  have hJ_h := Lib.hid hJ
  have hset_h := Lib.hid hset
  have hks_h := Lib.hid hks
  clear r1 r2 hJ hset hks
  clear hmx la lb ha hb
  go_enter Try.func95, Try.ntmps95
  go_wp2_with (fail)
  refine (r1_h.out).mono ?_
  rintro e w' ⟨rfl, rfl⟩
  go_wp2_with (fail)
  refine (r2_h.out).mono ?_
  rintro e w' ⟨rfl, rfl⟩
  go_wp2_with (fail)
  all_goals first | omega | (go_end0; exact ⟨rfl, _, hset_h.out, hJ_h.out, hks_h.out⟩)
end Go.Proofs.Ytanhmljgeiajoaa
