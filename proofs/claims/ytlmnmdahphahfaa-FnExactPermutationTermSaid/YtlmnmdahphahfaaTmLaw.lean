/-
  THE LAW's HELPERS OVER Term, FOR A LAW's WALK.
-/
import Derived.Test.YtlmnmdahphahfaaTmW
namespace Go.Proofs.Ytlmnmdahphahfaa
open Go.RowKit

set_option maxRecDepth 8000 in
set_option maxHeartbeats 1000000 in
theorem heldNodeS_any (A : Option Addr) (c n : Nat) (k : Nat) (w : World) (h : RdN w A (marksN k n)) (hk0 : 0 < k) (hl : k + 3 * n ≤ 17592186044000) :
    Calls Try.prog 60 #[.slice A n c, .int .i64 k] w fun e w' => e = .returned (.int .i64 ((k + 3 * n : Nat) : Int)) ∧ Below w.heap.size w w' := by
  go_enter Try.func60, Try.ntmps60
  go_wp2_with (fail)
  go_loopw [1, 5] (fun q i wr => ∃ j x : Nat, j ≤ n ∧ x = k + 3 * j ∧ i = .int .i64 j ∧ q = .int .i64 (x : Int) ∧ Below w.heap.size w wr) (fun _ i _ => n - (intOf i).toNat)
  case atStart => exact ⟨0, k, Nat.zero_le _, rfl, rfl, rfl, Below.refl _ _⟩
  case round =>
    obtain ⟨j, x, hj, hx, rfl, rfl, hb⟩ := hrel
    have hxb : x ≤ 17592186044000 := by omega
    have hx0 : 0 < x := by omega
    by_cases hlt : j < n
    · have hjI : (j : Int) < (n : Int) := by omega
      have hcell : ∀ W', Below wr.heap.size wr W' → ∃ ad, A = some ad ∧ W'.cell? (ad.add (j * 3)) = some (.int .i64 (x : Int)) ∧ W'.cell? ⟨(ad.add (j * 3)).block, (ad.add (j * 3)).off + 1, none⟩ = some (.int .i64 ((x : Int) + 1)) ∧ W'.cell? ⟨(ad.add (j * 3)).block, (ad.add (j * 3)).off + 2, none⟩ = some (.string (mkT (x + 2))) := by
        intro W' hW'
        obtain ⟨ad, κ, v, s, hA, hn, d0, d1, d2⟩ := ((h.below hb).below hW').at_ (j := j) (by simpa using hlt)
        rw [marksN_get hlt, ← hx] at hn
        cases hn
        exact ⟨ad, hA, d0, d1, d2⟩
      obtain ⟨ad, hA, d0, d1, d2⟩ := hcell wr (Below.refl _ _)
      subst hA
      have hcell' : ∀ W', Below wr.heap.size wr W' → W'.cell? ⟨(ad.add (j * 3)).block, (ad.add (j * 3)).off + 2, none⟩ = some (.string (mkT (x + 2))) := by
        intro W' hW'
        obtain ⟨a', h1, _, _, h2⟩ := hcell W' hW'
        obtain rfl := Option.some.inj h1
        exact h2
      have hMT := markText_any (x + 2) (by omega) (by omega)
      obtain ⟨M, hM⟩ : ∃ M, M = mkT (x + 2) := ⟨_, rfl⟩
      rw [← hM] at hMT hcell' d2
      have hj0 : (0 : Int) ≤ (j : Int) := by omega
      have hcell_h := Lib.hid hcell
      have hcell'_h := Lib.hid hcell'
      have hMT_h := Lib.hid hMT
      have hx_h := Lib.hid hx
      have hM_h := Lib.hid hM
      clear hcell hcell' hMT hx hM
      clear h
      go_wp2_with (fail)
      refine beginB (by kernel_rfl) (fun W1 hW1 => ?_)
      have hbw : Below wr.heap.size wr W1 := by rw [hW1]; exact below_drew (Below.refl _ _)
      clear hW1
      refine takeH 0 (v := ?_) rfl (by kernel_rfl) (by kernel_rfl) (by kernel_rfl) (fun _ _ _ h => h) (Below.refl _ _) (by rfl) (fun W' hW' => ?_) ?_; rotate_left; · (have e1 := hcell'_h.out W' (hbw.trans (hW'.mono hbw.size)); clear hW'; go_simp; first | done | with_reducible rfl)
      simp only [Act.put, List.setIfInBounds_toArray, List.set_cons_zero, List.set_cons_succ]
      refine takeH 1 (v := ?_) rfl (by kernel_rfl) (by kernel_rfl) (by kernel_rfl) (fun _ _ _ h => h) (Below.refl _ _) (by rfl) (fun W' hW' => ?_) ?_; rotate_left; · (have e1 := hcell'_h.out W' (hbw.trans (hW'.mono hbw.size)); clear hW'; go_simp; first | done | with_reducible rfl)
      simp only [Act.put, List.setIfInBounds_toArray, List.set_cons_zero, List.set_cons_succ]
      refine takeH 2 (v := ?_) rfl (by kernel_rfl) (by kernel_rfl) (by kernel_rfl) (fun _ _ _ h => h) (Below.refl _ _) (by rfl) (fun W' hW' => ?_) ?_; rotate_left; · (have e1 := hcell'_h.out W' (hbw.trans (hW'.mono hbw.size)); clear hW'; go_simp; first | done | with_reducible rfl)
      simp only [Act.put, List.setIfInBounds_toArray, List.set_cons_zero, List.set_cons_succ]
      refine takeH 3 (v := ?_) rfl (by kernel_rfl) (by kernel_rfl) (by kernel_rfl) (fun _ _ _ h => h) (Below.refl _ _) (by rfl) (fun W' hW' => ?_) ?_; rotate_left; · (have e1 := hcell'_h.out W' (hbw.trans (hW'.mono hbw.size)); clear hW'; go_simp; first | done | with_reducible rfl)
      simp only [Act.put, List.setIfInBounds_toArray, List.set_cons_zero, List.set_cons_succ]
      refine takeH 4 (v := ?_) rfl (by kernel_rfl) (by kernel_rfl) (by kernel_rfl) (fun _ _ _ h => h) (Below.refl _ _) (by rfl) (fun W' hW' => ?_) ?_; rotate_left; · (have e1 := hcell'_h.out W' (hbw.trans (hW'.mono hbw.size)); clear hW'; go_simp; first | done | with_reducible rfl)
      simp only [Act.put, List.setIfInBounds_toArray, List.set_cons_zero, List.set_cons_succ]
      refine takeH 5 (v := ?_) rfl (by kernel_rfl) (by kernel_rfl) (by kernel_rfl) (fun _ _ _ h => h) (Below.refl _ _) (by rfl) (fun W' hW' => ?_) ?_; rotate_left; · (have e1 := hcell'_h.out W' (hbw.trans (hW'.mono hbw.size)); clear hW'; go_simp; first | done | with_reducible rfl)
      simp only [Act.put, List.setIfInBounds_toArray, List.set_cons_zero, List.set_cons_succ]
      refine' callH 6 (f := _) (args := _) rfl (by kernel_rfl) (by rfl) ?_ ?_; rotate_left 2; · (go_simp; first | done | with_reducible rfl | (constructor <;> with_reducible rfl))
      rw [show ((x : Int) + 1 + 1) = ((x + 2 : Nat) : Int) by omega]
      refine (hMT_h.out _).mono ?_
      rintro e w2 ⟨rfl, hb2⟩
      refine ⟨_, rfl, hb2, ?_⟩
      have hb3 := below_trans (below_trans hb hbw hb.size) hb2 (Nat.le_trans hb.size hbw.size)
      have hb3_h := Lib.hid hb3
      clear hb3
      simp only [Act.put, List.setIfInBounds_toArray, List.set_cons_zero, List.set_cons_succ]
      refine takeH 7 (v := ?_) rfl (by kernel_rfl) (by kernel_rfl) (by kernel_rfl) (fun _ _ _ h => h) hb2 (by rfl) (fun W' hW' => ?_) ?_; rotate_left; · (skip; clear hW'; go_simp; first | done | with_reducible rfl)
      simp only [Act.put, List.setIfInBounds_toArray, List.set_cons_zero, List.set_cons_succ]
      refine doneH (by kernel_rfl) ?_
      go_wp2_with (fail)
      go_roundw
      case rel => exact ⟨j + 1, x + 3, by omega, by have := hx_h.out; omega, by go_num, by go_num, hb3_h.out⟩
      case measure => simp [intOf]; omega
    · obtain rfl : j = n := by omega
      have hx_h := Lib.hid hx
      clear hx
      clear h
      go_wp2_with (fail)
      go_ret
      exact ⟨ret_int (by have := hx_h.out; omega), hb⟩

def cntN (l : List Nd) : Nat := 3 * l.length
def OkN (l : List Nd) : Prop := l.length ≤ 1048576 ∧ True ∧ cntN l ≤ 3145728
theorem OkN.of {l : List Nd} (h : l.length ≤ 1048576) : OkN l := ⟨h, trivial, by unfold cntN; omega⟩
theorem szN_ok {l : List Nd} {left : Int} (h : 0 ≤ szNS l left) (h1 : left ≤ 1048576) : OkN l ∧ szNS l left ≤ left := ⟨.of (szNS_ok h h1).1, (szNS_ok h h1).2⟩
/-- v is a term of n nodes that bear the marks from k on. -/
def HeTm (w : World) (v : Value) (l : List Nd) (k : Nat) (fp : List Nat) : Prop := ∃ A cap, v = .agg #[.slice A l.length cap] ∧ NS w A cap (marksN k l.length) ∧ fp = fpA A
section
variable {w w' : World} {v v' : Value} {l l' : List Nd} {k : Nat} {fp : List Nat} {K : Int}
theorem HeTm.below (h : HeTm w v l k fp) (hb : Below w.heap.size w w') : HeTm w' v l k fp := by obtain ⟨A, c, rfl, h, e⟩ := h; exact ⟨A, c, rfl, h.below hb, e⟩
theorem HeTm.keeps (h : HeTm w v l k fp) {S : Nat → Prop} (hk : Keeps S w w') (hS : ∀ b, b ∈ fp → ¬ S b) : HeTm w' v l k fp := by obtain ⟨A, c, rfl, h, rfl⟩ := h; exact ⟨A, c, rfl, h.keeps hk hS, rfl⟩
theorem RdTm.shape (h : RdTm w v l) : ∃ A n c, v = .agg #[.slice A n c] := by obtain ⟨A, c, rfl, _⟩ := h; exact ⟨A, _, c, rfl⟩
theorem OwTm.shape (h : OwTm w v l fp) : ∃ A n c, v = .agg #[.slice A n c] := h.rd.shape
theorem szTerm_law (left : Int) (h : RdTm w v l) (hB : BigTm l) (h0 : 0 ≤ left) (h1 : left ≤ 1048576) :
    Calls Try.prog 13 #[v, .int .i64 left] w fun e w' => e = .returned (.int .i64 (szNS l left)) ∧ Below w.heap.size w w' := szTerm_any left h hB h0 h1
theorem toTerm_law (h : RdTm w v l) (ok : OkN l) :
    Calls Try.prog 15 #[v] w fun e w' => ∃ v' fp, e = .returned v' ∧ OwTm w' v' l fp ∧ FreshL w.heap.size fp ∧ Below w.heap.size w w' := toTerm_any h ok.1
theorem eqTerm_law (h : RdTm w v l) (h' : RdTm w v' l') (ok : OkN l) :
    Calls Try.prog 17 #[v, v'] w fun e w' => e = .returned (.bool (decide (l = l'))) ∧ Below w.heap.size w w' := by
  refine (eqTerm_any h h' ok.1).mono ?_
  rintro e w1 ⟨b, rfl, hb, hb1⟩
  refine ⟨ret_bool ?_, hb1⟩
  rw [Bool.eq_iff_iff, hb]; simp
set_option maxHeartbeats 400000 in
theorem markTerm_law (k : Nat) (h : OwTm w v l fp) (hK : K = (k : Int)) (_ok : OkN l) (hl : k + cntN l ≤ 17592186044000 ∧ 0 < k) :
    Calls Try.prog 23 #[v, .int .i64 K] w fun e w' => e = .returned (.int .i64 (K + (cntN l : Int))) ∧ HeTm w' v l k fp ∧ Keeps (· ∈ fp) w w' := by
  obtain ⟨A, c, rfl, h, rfl⟩ := h
  subst hK
  have hb := below_alloc w (.cells #[.slice A l.length c] 30)
  have hC := markNodeS_any A c l k _ (h.below hb) hl.2 (by have := hl.1; unfold cntN at this; exact this)
  obtain ⟨m, hm⟩ : ∃ m, m = l.length := ⟨_, rfl⟩
  have hcn : cntN l = 3 * m := by rw [hm]; rfl
  rw [hcn]
  rw [← hm] at hC hb ⊢
  obtain ⟨x, hx⟩ : ∃ x, x = k + 3 * m := ⟨_, rfl⟩
  rw [← hx] at hC
  have hC_h := Lib.hid hC
  have hm_h := Lib.hid hm
  have hcn_h := Lib.hid hcn
  have hb_h := Lib.hid hb
  have hx_h := Lib.hid hx
  clear hC hm hcn hb hx
  clear h hl
  go_enter Try.func23, Try.ntmps23
  go_wp2_with (fail)
  refine (hC_h.out).mono ?_
  rintro e w1 ⟨rfl, hN, hk⟩
  go_wp2_with (fail)
  go_ret
  exact ⟨ret_int (by have := hx_h.out; omega), ⟨A, c, by rw [hm_h.out], by rw [← hm_h.out]; exact hN, rfl⟩, (Keeps.of_below hb_h.out _).trans hk⟩
set_option maxHeartbeats 400000 in
theorem heldTerm_law (h : HeTm w v l k fp) (hK : K = (k : Int)) (_ok : OkN l) (hl : k + cntN l ≤ 17592186044000 ∧ 0 < k) :
    Calls Try.prog 28 #[v, .int .i64 K] w fun e w' => e = .returned (.int .i64 (K + (cntN l : Int))) ∧ Below w.heap.size w w' := by
  obtain ⟨A, c, rfl, h, rfl⟩ := h
  subst hK
  have hb := below_alloc w (.cells #[.slice A l.length c] 30)
  have hC := heldNodeS_any A c l.length k _ (h.rd.below hb) hl.2 (by have := hl.1; unfold cntN at this; exact this)
  obtain ⟨m, hm⟩ : ∃ m, m = l.length := ⟨_, rfl⟩
  have hcn : cntN l = 3 * m := by rw [hm]; rfl
  rw [hcn]
  rw [← hm] at hC hb ⊢
  obtain ⟨x, hx⟩ : ∃ x, x = k + 3 * m := ⟨_, rfl⟩
  rw [← hx] at hC
  have hx0 : ¬ ((x : Int) < 0) := by omega
  have hC_h := Lib.hid hC
  have hm_h := Lib.hid hm
  have hcn_h := Lib.hid hcn
  have hb_h := Lib.hid hb
  have hx_h := Lib.hid hx
  clear hC hm hcn hb hx
  clear h hl
  go_enter Try.func28, Try.ntmps28
  go_wp2_with (fail)
  refine (hC_h.out).mono ?_
  rintro e w1 ⟨rfl, hb1⟩
  go_wp2_with (fail)
  go_ret
  exact ⟨ret_int (by have := hx_h.out; omega), below_trans hb_h.out hb1 hb_h.out.size⟩
end
end Go.Proofs.Ytlmnmdahphahfaa
