/-
  THE WALK: permutationNodes of the program.
-/
import Derived.Test.YtlmnmdahphahfaaTmQb
import Derived.Test.YtlmnmdahphahfaaRegC
import Derived.Deep.LoopGhost
namespace Go.Proofs.Ytlmnmdahphahfaa
open Go.RowKit

theorem nd_ne_int : ¬ tInt = tNd := by decide
theorem Sl.apart_t {w : World} {e e' : TypeId} {sz sz' n n' c c' : Nat} {A A' : Option Addr} {xs xs' : List Value} (h : Sl w e sz A n c xs) (h' : Sl w e' sz' A' n' c' xs') (hne : ¬ e = e') : ∀ b, b ∈ fpA A → ¬ b ∈ fpA A' := by
  intro b hb hb'
  rcases h.2.2.2 with ⟨rfl, _⟩ | ⟨g, off, cur, rfl, hg, _⟩
  · cases hb
  · rcases h'.2.2.2 with ⟨rfl, _⟩ | ⟨g', off', cur', rfl, hg', _⟩
    · cases hb'
    · have e1 : b = g := by simpa using hb
      have e2 : b = g' := by simpa using hb'
      subst e1; subst e2
      rw [hg] at hg'
      have := Option.some.inj hg'
      injection this with _ h2 _
      exact hne h2
/-- What holds at each round's head. -/
structure PnR (B : Nat) (w : World) (n : Nat) (A1 : Option Addr) (c1 : Nat) (R : List Nd) (L : List Int) (O : List Nd) (i : Nat) (Ao : Option Addr) (co : Nat) (wr : World) : Prop where
  len : L.length = n
  sl : Sl wr tInt 1 A1 n c1 (ints L)
  so : Sl wr tNd 3 Ao O.length co (ncs O)
  nd : L.Nodup
  ri : rises L i
  hi : i = 0 ∨ i < n
  bub : bubR L O = R
  bound : O.length + 6 * inv L ≤ 6000
  f1 : ∀ b, b ∈ fpA A1 → B ≤ b
  fo : ∀ b, b ∈ fpA Ao → B ≤ b
  bel : Below B w wr
theorem int_cell {w : World} {A : Option Addr} {ad : Addr} {n c : Nat} {L : List Int} (h : Sl w tInt 1 A n c (ints L)) (hA : A = some ad) {j : Nat} (hj : j < L.length) : w.cell? (ad.add j) = some (.int .i64 (L.getD j 0)) ∧ w.frozen? (ad.add j) = false := by
  have hx : L[j]? = some (L.getD j 0) := by simp [List.getD, List.getElem?_eq_getElem hj]
  obtain ⟨ad', e, -, hc, hf⟩ := Sl.cell h (ints_get hx)
  rw [hA] at e
  obtain rfl := Option.some.inj e
  exact ⟨hc, hf j⟩
set_option maxRecDepth 8000 in
set_option maxHeartbeats 8000000 in
theorem permutationNodes_any (A : Option Addr) (c : Nat) (l : List Int) (w : World) (h : RdI w A l) (hl : l.length ≤ 12) (hnd : l.Nodup) :
    Calls Try.prog 72 #[.slice A l.length c] w (RetNs (permN l) w) := by
  have hC := clone_any A c l w h (by omega)
  obtain ⟨n, hn⟩ : ∃ n, n = l.length := ⟨_, rfl⟩
  obtain ⟨R, hR⟩ : ∃ R, R = bubR l [] := ⟨_, rfl⟩
  obtain ⟨X, hX⟩ : ∃ X, X = permN l := ⟨_, rfl⟩
  have hinv := inv_le l
  have hinv2 : inv l ≤ 144 := Nat.le_trans hinv (Nat.mul_le_mul hl hl)
  rw [← hn] at hC hl ⊢
  rw [← hX]
  unfold permN at hX
  rw [← hR, ← hn] at hX
  unfold RetI at hC
  clear h hinv
  have hC_h := Lib.hid hC
  have hn_h := Lib.hid hn
  have hR_h := Lib.hid hR
  have hX_h := Lib.hid hX
  have hnd_h := Lib.hid hnd
  clear hC hn hR hX hnd
  go_enter Try.func72, Try.ntmps72
  go_wp2_with (fail)
  refine (hC_h.out).mono ?_
  rintro e w1 ⟨A1, c1, rfl, hI1, hF1, hb1⟩
  rw [← hn_h.out]
  have hal := below_alloc w1 (.cells #[] tNd)
  have hB1 := below_trans hb1 hal hb1.size
  have hs0 := Sl.laid w1 tNd 3 0 #[] (by unfold maxLen; omega) rfl
  have hsl : Sl (w1.alloc (.cells #[] tNd)) tInt 1 A1 n c1 (ints l) := by
    have := Sl.below hI1 hal
    rw [← hn_h.out] at this; exact this
  obtain ⟨W, hW⟩ : ∃ W, W = w1.alloc (.cells #[] tNd) := ⟨_, rfl⟩
  rw [← hW] at hB1 hs0 hsl
  have hz1 := hb1.size
  have hR0 : PnR w.heap.size w n A1 c1 R l [] 0 (some ⟨w1.heap.size, 0, none⟩) 0 W := ⟨hn_h.out.symm, hsl, hs0, hnd_h.out, fun j hj => absurd hj (Nat.not_lt_zero _), .inl rfl, hR_h.out.symm, by simp; omega, hF1, fun b hb => by simp at hb; omega, hB1⟩
  clear hsl hs0
  have hb1_h := Lib.hid hb1
  have hal_h := Lib.hid hal
  have hB1_h := Lib.hid hB1
  have hI1_h := Lib.hid hI1
  have hF1_h := Lib.hid hF1
  have hR0_h := Lib.hid hR0
  clear hb1 hal hB1 hI1 hF1 hR0
  go_upto_region 3 with (fail)
  rw [← hW]
  clear hW
  go_wp2_with (fail)
  go_loopg [4, 5] (inv l * (n + 1) + n) (fun g so si wr => ∃ (L : List Int) (O : List Nd) (i : Nat) (Ao : Option Addr) (co no : Nat), so = .slice Ao no co ∧ no = O.length ∧ si = .int .i64 i ∧ g = inv L * (n + 1) + (n - i) ∧ PnR w.heap.size w n A1 c1 R L O i Ao co wr)
  case atStart => exact ⟨l, [], 0, _, 0, 0, rfl, rfl, rfl, by simp, hR0_h.out⟩
  case round =>
    obtain ⟨L, O, i, Ao, co, no, rfl, hno, rfl, hg, hP⟩ := hrel
    clear hR0_h
    have hiN : i ≤ n := by rcases hP.hi with h | h <;> omega
    by_cases hlt : i + 1 < n
    · have hltI : (i : Int) + 1 < (n : Int) := by omega
      obtain ⟨ad, hA1⟩ : ∃ ad, A1 = some ad := by
        obtain ⟨ad, e, -⟩ := Sl.cell hP.sl (j := 0) (u := .int .i64 (L.getD 0 0)) (by simp [ints, List.getD, List.getElem?_eq_getElem (show 0 < L.length by rw [hP.len]; omega)])
        exact ⟨ad, e⟩
      obtain ⟨p1, p2⟩ := int_cell hP.sl hA1 (j := i) (by rw [hP.len]; omega)
      obtain ⟨p3, p4⟩ := int_cell hP.sl hA1 (j := i + 1) (by rw [hP.len]; omega)
      subst hA1
      obtain ⟨x, hx⟩ : ∃ x, x = L.getD i 0 := ⟨_, rfl⟩
      obtain ⟨y, hy⟩ : ∃ y, y = L.getD (i + 1) 0 := ⟨_, rfl⟩
      rw [← hx] at p1
      rw [← hy] at p3
      rw [show ad.add (i + 1) = ⟨ad.block, ad.off + (i + 1), none⟩ by unfold Addr.add; simp] at p3 p4
      have hw1 : IntKind.i64.wrap ((i : Int) + 1) = (i : Int) + 1 := IntWalk.i64_in _ (by omega)
      have hi0 : (0 : Int) ≤ (i : Int) := by omega
      have hi1 : (0 : Int) ≤ (i : Int) + 1 := by omega
      have hi2 : (i : Int) < (n : Int) := by omega
      have hi3 : ((i : Int) + 1).toNat = i + 1 := by omega
      by_cases hxy : x < y
      · have hxb : decide (x < y) = true := decide_eq_true hxy
        have hP2 : PnR w.heap.size w n (some ad) c1 R L O (i + 1) Ao co wr.drew := ⟨hP.len, hP.sl, hP.so, hP.nd, fun j hj => by
          by_cases e : j = i
          · subst e; rw [← hx, ← hy]; exact hxy
          · exact hP.ri j (by omega), .inr hlt, hP.bub, hP.bound, hP.f1, hP.fo, below_drew hP.bel⟩
        have hS : wr.cell? (ad.add i) = some (.int .i64 x) ∧ wr.cell? ⟨ad.block, ad.off + (i + 1), none⟩ = some (.int .i64 y) := ⟨p1, p3⟩
        have hno_h := Lib.hid hno
        have hg_h := Lib.hid hg
        have hP_h := Lib.hid hP
        have hx_h := Lib.hid hx
        have hy_h := Lib.hid hy
        have hP2_h := Lib.hid hP2
        have hS_h := Lib.hid hS
        clear hno hg hP hx hy hP2 hS
        go_wp2_with (fail)
        refine beginH (fun w' => w'.cell? (ad.add i) = some (.int .i64 x) ∧ w'.cell? ⟨ad.block, ad.off + (i + 1), none⟩ = some (.int .i64 y)) (by kernel_rfl) ?_
        refine takeH 0 (v := ?_) rfl (by kernel_rfl) (by kernel_rfl) (by kernel_rfl) (fun _ _ _ h => h) hS_h.out (by rfl) (fun W' hW' => ?_) ?_; rotate_left; · (have z1 := hW'.1; have z2 := hW'.2; clear hW'; go_simp; first | done | with_reducible rfl)
        simp only [Act.put, List.setIfInBounds_toArray, List.set_cons_zero, List.set_cons_succ]
        refine takeH 1 (v := ?_) rfl (by kernel_rfl) (by kernel_rfl) (by kernel_rfl) (fun _ _ _ h => h) hS_h.out (by rfl) (fun W' hW' => ?_) ?_; rotate_left; · (have z1 := hW'.1; have z2 := hW'.2; clear hW'; go_simp; first | done | with_reducible rfl)
        simp only [Act.put, List.setIfInBounds_toArray, List.set_cons_zero, List.set_cons_succ]
        refine takeH 2 (v := ?_) rfl (by kernel_rfl) (by kernel_rfl) (by kernel_rfl) (fun _ _ _ h => h) hS_h.out (by rfl) (fun W' hW' => ?_) ?_; rotate_left; · (have z1 := hW'.1; have z2 := hW'.2; clear hW'; go_simp; first | done | with_reducible rfl)
        simp only [Act.put, List.setIfInBounds_toArray, List.set_cons_zero, List.set_cons_succ]
        refine takeH 3 (v := ?_) rfl (by kernel_rfl) (by kernel_rfl) (by kernel_rfl) (fun _ _ _ h => h) hS_h.out (by rfl) (fun W' hW' => ?_) ?_; rotate_left; · (have z1 := hW'.1; have z2 := hW'.2; clear hW'; go_simp; first | done | with_reducible rfl)
        simp only [Act.put, List.setIfInBounds_toArray, List.set_cons_zero, List.set_cons_succ]
        refine takeH 4 (v := ?_) rfl (by kernel_rfl) (by kernel_rfl) (by kernel_rfl) (fun _ _ _ h => h) hS_h.out (by rfl) (fun W' hW' => ?_) ?_; rotate_left; · (have z1 := hW'.1; have z2 := hW'.2; clear hW'; go_simp; first | done | with_reducible rfl)
        simp only [Act.put, List.setIfInBounds_toArray, List.set_cons_zero, List.set_cons_succ]
        refine takeH 5 (v := ?_) rfl (by kernel_rfl) (by kernel_rfl) (by kernel_rfl) (fun _ _ _ h => h) hS_h.out (by rfl) (fun W' hW' => ?_) ?_; rotate_left; · (have z1 := hW'.1; have z2 := hW'.2; clear hW'; go_simp; first | done | with_reducible rfl)
        simp only [Act.put, List.setIfInBounds_toArray, List.set_cons_zero, List.set_cons_succ]
        refine takeH 6 (v := ?_) rfl (by kernel_rfl) (by kernel_rfl) (by kernel_rfl) (fun _ _ _ h => h) hS_h.out (by rfl) (fun W' hW' => ?_) ?_; rotate_left; · (have z1 := hW'.1; have z2 := hW'.2; clear hW'; go_simp; first | done | with_reducible rfl)
        simp only [Act.put, List.setIfInBounds_toArray, List.set_cons_zero, List.set_cons_succ]
        refine takeH 7 (v := ?_) rfl (by kernel_rfl) (by kernel_rfl) (by kernel_rfl) (fun _ _ _ h => h) hS_h.out (by rfl) (fun W' hW' => ?_) ?_; rotate_left; · (have z1 := hW'.1; have z2 := hW'.2; clear hW'; go_simp; first | done | with_reducible rfl)
        simp only [Act.put, List.setIfInBounds_toArray, List.set_cons_zero, List.set_cons_succ]
        refine takeH 8 (v := ?_) rfl (by kernel_rfl) (by kernel_rfl) (by kernel_rfl) (fun _ _ _ h => h) hS_h.out (by rfl) (fun W' hW' => ?_) ?_; rotate_left; · (have z1 := hW'.1; have z2 := hW'.2; clear hW'; go_simp; first | done | with_reducible rfl)
        simp only [Act.put, List.setIfInBounds_toArray, List.set_cons_zero, List.set_cons_succ]
        refine takeH 9 (v := ?_) rfl (by kernel_rfl) (by kernel_rfl) (by kernel_rfl) (fun _ _ _ h => h) hS_h.out (by rfl) (fun W' hW' => ?_) ?_; rotate_left; · (have z1 := hW'.1; have z2 := hW'.2; clear hW'; go_simp; first | done | with_reducible rfl)
        simp only [Act.put, List.setIfInBounds_toArray, List.set_cons_zero, List.set_cons_succ]
        refine doneH (by kernel_rfl) ?_
        go_wp2_with (fail)
        go_roundg (inv L * (n + 1) + (n - (i + 1)))
        case measure => have := hg_h.out; omega
        case rel => exact ⟨L, O, i + 1, Ao, co, no, rfl, hno_h.out, by go_num, rfl, hP2_h.out⟩
      · have hxb : decide (x < y) = false := decide_eq_false hxy
        have hyx : y < x := by rw [hx, hy]; exact nodup_lt hP.nd (by rw [hP.len]; exact hlt) (by rw [← hx, ← hy]; exact hxy)
        have hS : wr.cell? (ad.add i) = some (.int .i64 x) ∧ wr.cell? ⟨ad.block, ad.off + (i + 1), none⟩ = some (.int .i64 y) := ⟨p1, p3⟩
        obtain ⟨L2, hL2⟩ : ∃ L2, L2 = swapAt L i := ⟨_, rfl⟩
        have hlen2 : L2.length = n := by rw [hL2, swapAt_length, hP.len]
        have hnd2 : L2.Nodup := by rw [hL2]; exact swapAt_nodup (by rw [hP.len]; exact hlt) hP.nd
        have hinv2' : inv L2 + 1 = inv L := by rw [hL2]; exact swapAt_inv (by rw [hP.len]; exact hlt) (by rw [← hx, ← hy]; exact hyx)
        have hbub : bubR L2 (nextO O (layerN n i)) = R := by
          have := bubR_step (l := L) (o := O) (k := i) (by rw [hP.len]; exact hlt) hP.ri (by rw [← hx, ← hy]; exact hyx)
          rw [hP.len, ← hL2, hP.bub] at this
          exact this
        have hno_h := Lib.hid hno
        have hg_h := Lib.hid hg
        have hP_h := Lib.hid hP
        have hx_h := Lib.hid hx
        have hy_h := Lib.hid hy
        have hS_h := Lib.hid hS
        have hL2_h := Lib.hid hL2
        have hlen2_h := Lib.hid hlen2
        have hnd2_h := Lib.hid hnd2
        have hinv2'_h := Lib.hid hinv2'
        have hbub_h := Lib.hid hbub
        clear hno hg hP hx hy hS hL2 hlen2 hnd2 hinv2' hbub
        go_wp2_with (fail)
        refine beginH (fun w' => w'.cell? (ad.add i) = some (.int .i64 x) ∧ w'.cell? ⟨ad.block, ad.off + (i + 1), none⟩ = some (.int .i64 y)) (by kernel_rfl) ?_
        refine takeH 0 (v := ?_) rfl (by kernel_rfl) (by kernel_rfl) (by kernel_rfl) (fun _ _ _ h => h) hS_h.out (by rfl) (fun W' hW' => ?_) ?_; rotate_left; · (have z1 := hW'.1; have z2 := hW'.2; clear hW'; go_simp; first | done | with_reducible rfl)
        simp only [Act.put, List.setIfInBounds_toArray, List.set_cons_zero, List.set_cons_succ]
        refine takeH 1 (v := ?_) rfl (by kernel_rfl) (by kernel_rfl) (by kernel_rfl) (fun _ _ _ h => h) hS_h.out (by rfl) (fun W' hW' => ?_) ?_; rotate_left; · (have z1 := hW'.1; have z2 := hW'.2; clear hW'; go_simp; first | done | with_reducible rfl)
        simp only [Act.put, List.setIfInBounds_toArray, List.set_cons_zero, List.set_cons_succ]
        refine takeH 2 (v := ?_) rfl (by kernel_rfl) (by kernel_rfl) (by kernel_rfl) (fun _ _ _ h => h) hS_h.out (by rfl) (fun W' hW' => ?_) ?_; rotate_left; · (have z1 := hW'.1; have z2 := hW'.2; clear hW'; go_simp; first | done | with_reducible rfl)
        simp only [Act.put, List.setIfInBounds_toArray, List.set_cons_zero, List.set_cons_succ]
        refine takeH 3 (v := ?_) rfl (by kernel_rfl) (by kernel_rfl) (by kernel_rfl) (fun _ _ _ h => h) hS_h.out (by rfl) (fun W' hW' => ?_) ?_; rotate_left; · (have z1 := hW'.1; have z2 := hW'.2; clear hW'; go_simp; first | done | with_reducible rfl)
        simp only [Act.put, List.setIfInBounds_toArray, List.set_cons_zero, List.set_cons_succ]
        refine takeH 4 (v := ?_) rfl (by kernel_rfl) (by kernel_rfl) (by kernel_rfl) (fun _ _ _ h => h) hS_h.out (by rfl) (fun W' hW' => ?_) ?_; rotate_left; · (have z1 := hW'.1; have z2 := hW'.2; clear hW'; go_simp; first | done | with_reducible rfl)
        simp only [Act.put, List.setIfInBounds_toArray, List.set_cons_zero, List.set_cons_succ]
        refine takeH 5 (v := ?_) rfl (by kernel_rfl) (by kernel_rfl) (by kernel_rfl) (fun _ _ _ h => h) hS_h.out (by rfl) (fun W' hW' => ?_) ?_; rotate_left; · (have z1 := hW'.1; have z2 := hW'.2; clear hW'; go_simp; first | done | with_reducible rfl)
        simp only [Act.put, List.setIfInBounds_toArray, List.set_cons_zero, List.set_cons_succ]
        refine takeH 6 (v := ?_) rfl (by kernel_rfl) (by kernel_rfl) (by kernel_rfl) (fun _ _ _ h => h) hS_h.out (by rfl) (fun W' hW' => ?_) ?_; rotate_left; · (have z1 := hW'.1; have z2 := hW'.2; clear hW'; go_simp; first | done | with_reducible rfl)
        simp only [Act.put, List.setIfInBounds_toArray, List.set_cons_zero, List.set_cons_succ]
        refine takeH 7 (v := ?_) rfl (by kernel_rfl) (by kernel_rfl) (by kernel_rfl) (fun _ _ _ h => h) hS_h.out (by rfl) (fun W' hW' => ?_) ?_; rotate_left; · (have z1 := hW'.1; have z2 := hW'.2; clear hW'; go_simp; first | done | with_reducible rfl)
        simp only [Act.put, List.setIfInBounds_toArray, List.set_cons_zero, List.set_cons_succ]
        refine takeH 8 (v := ?_) rfl (by kernel_rfl) (by kernel_rfl) (by kernel_rfl) (fun _ _ _ h => h) hS_h.out (by rfl) (fun W' hW' => ?_) ?_; rotate_left; · (have z1 := hW'.1; have z2 := hW'.2; clear hW'; go_simp; first | done | with_reducible rfl)
        simp only [Act.put, List.setIfInBounds_toArray, List.set_cons_zero, List.set_cons_succ]
        refine takeH 9 (v := ?_) rfl (by kernel_rfl) (by kernel_rfl) (by kernel_rfl) (fun _ _ _ h => h) hS_h.out (by rfl) (fun W' hW' => ?_) ?_; rotate_left; · (have z1 := hW'.1; have z2 := hW'.2; clear hW'; go_simp; first | done | with_reducible rfl)
        simp only [Act.put, List.setIfInBounds_toArray, List.set_cons_zero, List.set_cons_succ]
        refine doneH (by kernel_rfl) ?_
        go_wp2_with (fail)
        refine beginZw 15 (fun w' => w'.cell? (ad.add i) = some (.int .i64 x) ∧ w'.cell? ⟨ad.block, ad.off + (i + 1), none⟩ = some (.int .i64 y)) (by kernel_rfl) (fun W2 hW2 => ?_)
        have hF : W2.cell? (ad.add i) = some (.int .i64 x) ∧ W2.cell? ⟨ad.block, ad.off + (i + 1), none⟩ = some (.int .i64 y) := by rw [hW2]; exact hS_h.out
        have hPs : Sl W2 tInt 1 (some ad) n c1 (ints L) := by rw [hW2]; exact hP_h.out.sl
        have hPo : Sl W2 tNd 3 Ao O.length co (ncs O) := by rw [hW2]; exact hP_h.out.so
        have hPb : Below w.heap.size w W2 := by rw [hW2]; exact below_drew (below_drew hP_h.out.bel)
        have hfz : W2.frozen? (ad.add i) = false ∧ W2.frozen? ⟨ad.block, ad.off + (i + 1), none⟩ = false := by rw [hW2]; exact ⟨p2, p4⟩
        clear hW2 p1 p2 p3 p4
        have hadd : ad.add (i + 1) = ⟨ad.block, ad.off + (i + 1), none⟩ := by unfold Addr.add; simp
        have hS1 := Sl.set hPs rfl i (.int .i64 y) (by rw [ints_length, hP_h.out.len]; omega)
        have hS2 := Sl.set hS1 rfl (i + 1) (.int .i64 x) (by rw [List.length_set, ints_length, hP_h.out.len]; omega)
        rw [ints_set, ints_set, hy_h.out, hx_h.out] at hS2
        rw [show (L.set i (L.getD (i + 1) 0)).set (i + 1) (L.getD i 0) = L2 from hL2_h.out.symm, ← hx_h.out, ← hy_h.out, hadd] at hS2
        have hk1 : Keeps (fun b => b = ad.block) W2 (W2.setCell (ad.add i) (.int .i64 y)) := Keeps.setCell (S := fun b => b = ad.block) (Keeps.refl _ W2) (p := ad.add i) (by rw [block_of_add]) _
        have hk2 := Keeps.setCell (S := fun b => b = ad.block) hk1 (p := ⟨ad.block, ad.off + (i + 1), none⟩) rfl (.int .i64 x)
        have hSo2 := Sl.keeps hPo hk2 (fun b hb e => Sl.apart_t hPs hPo nd_ne_int ad.block (by simp) (by rw [← e]; exact hb))
        have hB3 := below_keeps hPb hk2 hPb.size (fun b hb => by rw [hb]; exact hP_h.out.f1 _ (by simp))
        have hc2 : (W2.setCell (ad.add i) (.int .i64 y)).cell? ⟨ad.block, ad.off + (i + 1), none⟩ = some (.int .i64 y) ∧ (W2.setCell (ad.add i) (.int .i64 y)).frozen? ⟨ad.block, ad.off + (i + 1), none⟩ = false := by
          obtain ⟨a', e', -, q1, q2⟩ := Sl.cell hS1 (j := i + 1) (u := .int .i64 y) (by rw [List.getElem?_set_ne (by omega)]; exact ints_get (by rw [hy_h.out]; simp [List.getD, List.getElem?_eq_getElem (show i + 1 < L.length by rw [hP_h.out.len]; exact hlt)]))
          obtain rfl := Option.some.inj e'
          rw [hadd] at q1
          exact ⟨q1, by have := q2 (i + 1); rwa [hadd] at this⟩
        obtain ⟨w3, hw3⟩ : ∃ w3, w3 = (W2.setCell (ad.add i) (.int .i64 y)).setCell ⟨ad.block, ad.off + (i + 1), none⟩ (.int .i64 x) := ⟨_, rfl⟩
        rw [← hw3] at hS2 hSo2 hB3
        have hS3 := hS2
        have hSo3 := hSo2
        obtain ⟨Ly, hLy⟩ : ∃ Ly, Ly = layerN n i := ⟨_, rfl⟩
        have hLa := layer_any n i w3 hlt (by omega)
        rw [← hLy] at hLa
        unfold RetNs at hLa
        obtain ⟨f1, f2⟩ := hfz
        obtain ⟨g1, g2⟩ := hF
        have hF := And.intro g1 g2
        clear hS2 hSo2 hadd
        have hF_h := Lib.hid hF
        have hPs_h := Lib.hid hPs
        have hPo_h := Lib.hid hPo
        have hPb_h := Lib.hid hPb
        have hS1_h := Lib.hid hS1
        have hk1_h := Lib.hid hk1
        have hk2_h := Lib.hid hk2
        have hB3_h := Lib.hid hB3
        have hS3_h := Lib.hid hS3
        have hSo3_h := Lib.hid hSo3
        have hLy_h := Lib.hid hLy
        have hLa_h := Lib.hid hLa
        clear hF hPs hPo hPb hS1 hk1 hk2 hB3 hS3 hSo3 hLy hLa
        refine takeU 2 (v := ?_) rfl (by kernel_rfl) (by kernel_rfl) (by kernel_rfl) (by kernel_rfl) (fun _ _ _ h => h) hF_h.out (by rfl) (fun W' => ?_) ?_; rotate_left; · (skip; go_simp; first | done | with_reducible rfl)
        simp only [Act.put, List.setIfInBounds_toArray, List.set_cons_zero, List.set_cons_succ]
        refine takeU 3 (v := ?_) rfl (by kernel_rfl) (by kernel_rfl) (by kernel_rfl) (by kernel_rfl) (fun _ _ _ h => h) hF_h.out (by rfl) (fun W' => ?_) ?_; rotate_left; · (skip; go_simp; first | done | with_reducible rfl)
        simp only [Act.put, List.setIfInBounds_toArray, List.set_cons_zero, List.set_cons_succ]
        refine takeU 4 (v := ?_) rfl (by kernel_rfl) (by kernel_rfl) (by kernel_rfl) (by kernel_rfl) (fun _ _ _ h => h) hF_h.out (by rfl) (fun W' => ?_) ?_; rotate_left; · (skip; go_simp; first | done | with_reducible rfl)
        simp only [Act.put, List.setIfInBounds_toArray, List.set_cons_zero, List.set_cons_succ]
        refine takeC 0 (v := ?_) rfl (by kernel_rfl) (by kernel_rfl) (by kernel_rfl) (by kernel_rfl) (fun _ _ _ h => h) hF_h.out (by rfl) (fun W' hW' => ?_) ?_; rotate_left; · (have z1 := hW'.1; have z2 := hW'.2; clear hW'; go_simp; first | done | with_reducible rfl)
        simp only [Act.put, List.setIfInBounds_toArray, List.set_cons_zero, List.set_cons_succ]
        refine takeC 1 (v := ?_) rfl (by kernel_rfl) (by kernel_rfl) (by kernel_rfl) (by kernel_rfl) (fun _ _ _ h => h) hF_h.out (by rfl) (fun W' hW' => ?_) ?_; rotate_left; · (have z1 := hW'.1; have z2 := hW'.2; clear hW'; go_simp; first | done | with_reducible rfl)
        simp only [Act.put, List.setIfInBounds_toArray, List.set_cons_zero, List.set_cons_succ]
        refine takeC 5 (v := ?_) rfl (by kernel_rfl) (by kernel_rfl) (by kernel_rfl) (by kernel_rfl) (fun _ _ _ h => h) hF_h.out (by rfl) (fun W' hW' => ?_) ?_; rotate_left; · (have z1 := hW'.1; have z2 := hW'.2; clear hW'; go_simp; first | done | with_reducible rfl)
        simp only [Act.put, List.setIfInBounds_toArray, List.set_cons_zero, List.set_cons_succ]
        refine takeC 6 (v := ?_) rfl (by kernel_rfl) (by kernel_rfl) (by kernel_rfl) (by kernel_rfl) (fun _ _ _ h => h) hF_h.out (by rfl) (fun W' hW' => ?_) ?_; rotate_left; · (have z1 := hW'.1; have z2 := hW'.2; clear hW'; go_simp; first | done | with_reducible rfl)
        simp only [Act.put, List.setIfInBounds_toArray, List.set_cons_zero, List.set_cons_succ]
        refine takeC 7 (v := ?_) rfl (by kernel_rfl) (by kernel_rfl) (by kernel_rfl) (by kernel_rfl) (fun _ _ _ h => h) hF_h.out (by rfl) (fun W' hW' => ?_) ?_; rotate_left; · (have z1 := hW'.1; have z2 := hW'.2; clear hW'; go_simp; first | done | with_reducible rfl)
        simp only [Act.put, List.setIfInBounds_toArray, List.set_cons_zero, List.set_cons_succ]
        refine takeC 8 (v := ?_) rfl (by kernel_rfl) (by kernel_rfl) (by kernel_rfl) (by kernel_rfl) (fun _ _ _ h => h) hF_h.out (by rfl) (fun W' hW' => ?_) ?_; rotate_left; · (have z1 := hW'.1; have z2 := hW'.2; clear hW'; go_simp; first | done | with_reducible rfl)
        simp only [Act.put, List.setIfInBounds_toArray, List.set_cons_zero, List.set_cons_succ]
        refine takeC 9 (v := ?_) rfl (by kernel_rfl) (by kernel_rfl) (by kernel_rfl) (by kernel_rfl) (fun _ _ _ h => h) hF_h.out (by rfl) (fun W' hW' => ?_) ?_; rotate_left; · (have z1 := hW'.1; have z2 := hW'.2; clear hW'; go_simp; first | done | with_reducible rfl)
        simp only [Act.put, List.setIfInBounds_toArray, List.set_cons_zero, List.set_cons_succ]
        refine takeC 10 (v := ?_) rfl (by kernel_rfl) (by kernel_rfl) (by kernel_rfl) (by kernel_rfl) (fun _ _ _ h => h) hF_h.out (by rfl) (fun W' hW' => ?_) ?_; rotate_left; · (have z1 := hW'.1; have z2 := hW'.2; clear hW'; go_simp; first | done | with_reducible rfl)
        simp only [Act.put, List.setIfInBounds_toArray, List.set_cons_zero, List.set_cons_succ]
        refine takeC 11 (v := ?_) rfl (by kernel_rfl) (by kernel_rfl) (by kernel_rfl) (by kernel_rfl) (fun _ _ _ h => h) hF_h.out (by rfl) (fun W' hW' => ?_) ?_; rotate_left; · (have z1 := hW'.1; have z2 := hW'.2; clear hW'; go_simp; first | done | with_reducible rfl)
        simp only [Act.put, List.setIfInBounds_toArray, List.set_cons_zero, List.set_cons_succ]
        refine takeC 12 (v := ?_) rfl (by kernel_rfl) (by kernel_rfl) (by kernel_rfl) (by kernel_rfl) (fun _ _ _ h => h) hF_h.out (by rfl) (fun W' hW' => ?_) ?_; rotate_left; · (have z1 := hW'.1; have z2 := hW'.2; clear hW'; go_simp; first | done | with_reducible rfl)
        simp only [Act.put, List.setIfInBounds_toArray, List.set_cons_zero, List.set_cons_succ]
        refine takeC 13 (v := ?_) rfl (by kernel_rfl) (by kernel_rfl) (by kernel_rfl) (by kernel_rfl) (fun _ _ _ h => h) hF_h.out (by rfl) (fun W' hW' => ?_) ?_; rotate_left; · (have z1 := hW'.1; have z2 := hW'.2; clear hW'; go_simp; first | done | with_reducible rfl)
        simp only [Act.put, List.setIfInBounds_toArray, List.set_cons_zero, List.set_cons_succ]
        refine takeC 14 (v := ?_) rfl (by kernel_rfl) (by kernel_rfl) (by kernel_rfl) (by kernel_rfl) (fun _ _ _ h => h) hF_h.out (by rfl) (fun W' hW' => ?_) ?_; rotate_left; · (have z1 := hW'.1; have z2 := hW'.2; clear hW'; go_simp; first | done | with_reducible rfl)
        simp only [Act.put, List.setIfInBounds_toArray, List.set_cons_zero, List.set_cons_succ]
        refine oneZ 15 rfl (by kernel_rfl) (by rfl) (fun K hK => ?_)
        go_simp
        refine hK _ _ (fun h => by cases h) ?_
        clear hK K
        obtain ⟨g3, g4⟩ := hc2
        refine oneZ 16 rfl (by kernel_rfl) (by rfl) (fun K hK => ?_)
        go_simp
        refine hK _ _ (fun h => by cases h) ?_
        clear hK K
        refine oneZ 17 rfl (by kernel_rfl) (by rfl) (fun K hK => ?_)
        go_simp
        refine hK _ _ (fun h => by cases h) ?_
        clear hK K
        refine doneZ (by kernel_rfl) ?_
        rw [← hw3]
        clear hw3 f1 f2 g1 g2 g3 g4 hw1
        go_wp2_with (fail)
        refine (hLa_h.out).mono ?_
        rintro e w5 ⟨A5, c5, m5, rfl, hm5, hN5, hF5, hb5⟩
        by_cases he : O.length = 0
        · have hnx : nextO O (layerN n i) = Ly := by unfold nextO; rw [if_pos he, hLy_h.out]
          have hno0 : ¬ (0 : Int) < (no : Int) := by rw [hno_h.out, he]; simp
          have hP5 : PnR w.heap.size w n (some ad) c1 R L2 Ly 0 A5 c5 w5 := ⟨hlen2_h.out, hS3_h.out.below hb5, by rw [← hm5]; exact hN5, hnd2_h.out, fun j hj => absurd hj (Nat.not_lt_zero _), .inl rfl, by rw [← hnx, hbub_h.out], by have h8 := nextO_le O n i; rw [hnx] at h8; have := hP_h.out.bound; have := hinv2'_h.out; omega, hP_h.out.f1, fun b hb => by have := hF5 b hb; have := hB3_h.out.size; omega, below_trans hB3_h.out hb5 hB3_h.out.size⟩
          have hnx_h := Lib.hid hnx
          have hm5_h := Lib.hid hm5
          have hN5_h := Lib.hid hN5
          have hF5_h := Lib.hid hF5
          have hb5_h := Lib.hid hb5
          have hP5_h := Lib.hid hP5
          clear hnx hm5 hN5 hF5 hb5 hP5
          go_wp2_with (fail)
          go_roundg (inv L2 * (n + 1) + n)
          case measure => have h1 := hg_h.out; have h2 := hinv2'_h.out; rw [← h2, Nat.succ_mul] at h1; omega
          case rel => exact ⟨L2, Ly, 0, A5, c5, m5, rfl, hm5_h.out, rfl, rfl, hP5_h.out⟩
        · have hno0 : (0 : Int) < (no : Int) := by rw [hno_h.out]; omega
          have hnx : nextO O (layerN n i) = joinOf 15 O Ly := by unfold nextO joinOf; rw [if_neg he, hLy_h.out, List.append_assoc]; rfl
          have hro : RdN w5 Ao O := RdN.below (Sl.rdc hSo3_h.out) hb5
          have hLyl : Ly.length ≤ 5 := by rw [hLy_h.out]; exact (layerN_le n i).1
          have hOl : O.length ≤ 6000 := by have := hP_h.out.bound; omega
          have hJ := joinNodes_any 15 Ao A5 no co m5 c5 O Ly w5 hro (Sl.rdc hN5) hno_h.out hm5 (by omega)
          unfold RetNs at hJ
          rw [← hnx] at hJ
          have hS5 := hS3_h.out.below hb5
          have hB5 := below_trans hB3_h.out hb5 hB3_h.out.size
          have hnx_h := Lib.hid hnx
          have hm5_h := Lib.hid hm5
          have hN5_h := Lib.hid hN5
          have hF5_h := Lib.hid hF5
          have hb5_h := Lib.hid hb5
          have hro_h := Lib.hid hro
          have hJ_h := Lib.hid hJ
          have hS5_h := Lib.hid hS5
          have hB5_h := Lib.hid hB5
          clear hnx hm5 hN5 hF5 hb5 hro hJ hS5 hB5
          go_wp2_with (fail)
          refine (hJ_h.out).mono ?_
          rintro e w6 ⟨A6, c6, m6, rfl, hm6, hN6, hF6, hb6⟩
          have hP6 : PnR w.heap.size w n (some ad) c1 R L2 (nextO O (layerN n i)) 0 A6 c6 w6 := ⟨hlen2_h.out, hS5_h.out.below hb6, by rw [← hm6]; exact hN6, hnd2_h.out, fun j hj => absurd hj (Nat.not_lt_zero _), .inl rfl, hbub_h.out, by have h8 := nextO_le O n i; have := hP_h.out.bound; have := hinv2'_h.out; omega, hP_h.out.f1, fun b hb => by have := hF6 b hb; have := hB5_h.out.size; omega, below_trans hB5_h.out hb6 hB5_h.out.size⟩
          have hm6_h := Lib.hid hm6
          have hN6_h := Lib.hid hN6
          have hF6_h := Lib.hid hF6
          have hb6_h := Lib.hid hb6
          have hP6_h := Lib.hid hP6
          clear hm6 hN6 hF6 hb6 hP6
          go_wp2_with (fail)
          go_roundg (inv L2 * (n + 1) + n)
          case measure => have h1 := hg_h.out; have h2 := hinv2'_h.out; rw [← h2, Nat.succ_mul] at h1; omega
          case rel => exact ⟨L2, nextO O (layerN n i), 0, A6, c6, m6, rfl, hm6_h.out, rfl, rfl, hP6_h.out⟩
    · have hri : rises L (L.length - 1) := fun j hj => by
        rw [hP.len] at hj
        rcases hP.hi with h | h
        · omega
        · exact hP.ri j (by omega)
      have hRO : R = O := by rw [← hP.bub]; exact bubR_done hri
      have hnl : ¬ (i : Int) + 1 < (n : Int) := by omega
      by_cases he : O.length = 0
      · have hX2 : X = [(1, (n : Int), noName)] := by rw [hX_h.out, hRO, if_pos he]
        obtain rfl : no = 0 := by rw [hno, he]
        have hB := hP.bel
        have hno_h := Lib.hid hno
        have hg_h := Lib.hid hg
        have hP_h := Lib.hid hP
        have hri_h := Lib.hid hri
        have hRO_h := Lib.hid hRO
        have hX2_h := Lib.hid hX2
        have hB_h := Lib.hid hB
        clear hno hg hP hri hRO hX2 hB
        go_wp2_with (fail)
        refine (leafOf1_any 1 n _).mono ?_
        rintro e w2 ⟨rfl, hb2⟩
        obtain ⟨W2, hW2, hal2, hs2⟩ := one_node w2 1 n
        have hB2 := below_trans hB_h.out hb2 hB_h.out.size
        have hB3 := below_trans hB2 hal2 hB2.size
        have hz := hB2.size
        have hb2_h := Lib.hid hb2
        have hal2_h := Lib.hid hal2
        have hs2_h := Lib.hid hs2
        have hB2_h := Lib.hid hB2
        have hB3_h := Lib.hid hB3
        clear hb2 hal2 hs2 hB2 hB3
        go_wp2_with (fail)
        rw [← hW2]
        clear hW2
        go_ret
        exact ⟨_, _, 1, rfl, by rw [hX2_h.out]; rfl, by rw [hX2_h.out]; exact hs2_h.out, fun b hb => (by simp at hb; omega), hB3_h.out⟩
      · have hX2 : X = O := by rw [hX_h.out, hRO, if_neg he]
        have hno0 : ((no : Int) == 0) = false := by rw [hno]; simp; intro h; exact he (by rw [h]; rfl)
        have hB := hP.bel
        have hno_h := Lib.hid hno
        have hg_h := Lib.hid hg
        have hP_h := Lib.hid hP
        have hri_h := Lib.hid hri
        have hRO_h := Lib.hid hRO
        have hX2_h := Lib.hid hX2
        have hB_h := Lib.hid hB
        have he_h := Lib.hid he
        clear hno hg hP hri hRO hX2 hB he
        go_wp2_with (fail)
        go_ret
        exact ⟨Ao, co, no, rfl, by rw [hX2_h.out]; exact hno_h.out, by rw [hX2_h.out, hno_h.out]; exact hP_h.out.so, hP_h.out.fo, hB_h.out⟩
end Go.Proofs.Ytlmnmdahphahfaa
