/-
  THE WALKS: is a relation single-valued.

  THE WALKS: lead, isZero, the parts of a row, is it single-valued.
-/
import Derived.Test.YtpfidjegdpkhdaaDoorRlR
import Derived.Test.YtpfidjegdpkhdaaDoorNull
namespace Go.Proofs.YtpfidjegdpkhdaaDoor
open Go.RowKit

set_option maxHeartbeats 400000 in
theorem lead_any (A : Option Addr) (c n : Nat) (l : List Int) (w : World) (h : RdI w A l) (hn : l.length = n) (hl : n ≤ 1048576) :
    Calls Tryd.prog 133 #[.slice A n c] w fun e w' => e = .returned (.int .i64 (leadV l : Nat)) ∧ w = w' := by
  have hn_h := Lib.hid hn
  clear hn
  go_enter Tryd.func133, Tryd.ntmps133
  go_wp2_with (fail)
  go_loop [7, 3, 4] (fun v _s3 _s4 => ∃ k : Nat, k ≤ n ∧ v = .int .i64 k ∧ (l.take k).all (· == 0) = true) (fun v _ _ => n - (intOf v).toNat)
  case atStart => exact ⟨0, Nat.zero_le _, rfl, by simp⟩
  case round =>
    obtain ⟨k, hk, rfl, hz⟩ := hrel
    have hz_h := Lib.hid hz
    clear hz
    by_cases hlt : k < n
    · obtain ⟨ad, x, rfl, hx, hc⟩ := h.at_ (j := k) (by rw [hn_h.out]; exact hlt)
      have hkI : (k : Int) < (n : Int) := by omega
      clear h
      have hx_h := Lib.hid hx
      clear hx
      by_cases hx0 : x = 0
      · subst hx0
        have hs := leadV_step hx_h.out rfl hz_h.out
        have hs_h := Lib.hid hs
        clear hs
        go_wp2_with (fail)
        go_round
        case rel => exact ⟨k + 1, by omega, by go_num, hs_h.out⟩
        case measure => simp [intOf]; omega
      · have hx1 : (x != 0) = true := by simpa using hx0
        have he := leadV_at (l := l) (k := k) (by rw [hn_h.out]; omega) hz_h.out (fun _ => by rw [getD_of_some hx_h.out]; exact hx0)
        clear hx0
        have he_h := Lib.hid he
        clear he
        go_wp2_with (fail)
        go_ret
        exact ⟨ret_int (by rw [he_h.out]), rfl⟩
    · obtain rfl : n = k := by omega
      have he := leadV_at (l := l) (k := n) (by rw [hn_h.out]; omega) hz_h.out (fun h => absurd h (by rw [hn_h.out]; omega))
      clear h
      have he_h := Lib.hid he
      clear he
      go_wp2_with (fail)
      go_ret
      exact ⟨ret_int (by rw [he_h.out]), rfl⟩
theorem isZero_any (A : Option Addr) (c n : Nat) (l : List Int) (w : World) (h : RdI w A l) (hn : l.length = n) (hl : n ≤ 1048576) :
    Calls Tryd.prog 138 #[.slice A n c] w fun e w' => e = .returned (.bool (((leadV l : Nat) : Int) == (n : Int))) ∧ w = w' := by
  have hL := lead_any A c n l w h hn hl
  obtain ⟨k, hk⟩ : ∃ k, k = leadV l := ⟨_, rfl⟩
  rw [← hk] at hL ⊢
  have hL_h := Lib.hid hL
  have hk_h := Lib.hid hk
  have hn_h := Lib.hid hn
  clear hL hk hn
  go_enter Tryd.func138, Tryd.ntmps138
  go_wp2_with (fail)
  refine (hL_h.out).mono ?_
  rintro e w1 ⟨rfl, rfl⟩
  go_wp2_with (fail)
  go_ret
  exact ⟨rfl, rfl⟩
theorem first_any (na : Nat) (b : Int) (x : Value) (_hx : x.oneCell' = true) (B : Option Addr) (cc n : Nat) (u : List Int) (w : World) (h : Sl w 3 1 B n cc (ints u)) (hna : na ≤ n) :
    Calls Tryd.prog 137 #[.agg #[.int .i64 na, .int .i64 b, x], .slice B n cc] w fun e w' => ∃ B', e = .returned (.slice B' na cc) ∧ Sl w' 3 1 B' na cc (ints (u.take na)) ∧ (∀ y, y ∈ fpA B' → y ∈ fpA B) ∧ Below w.heap.size w w' := by
  obtain ⟨W, hW, b0, k0⟩ := alloc_box w (.cells #[.int .i64 na, .int .i64 b, x] tRel)
  obtain ⟨⟨c0, c1, c2⟩, f0, f1, f2⟩ := box3 k0
  have hS := h.below b0
  have hcap := hS.2.1
  have hmx := hS.2.2.1
  have k0_h := Lib.hid k0
  have b0_h := Lib.hid b0
  clear k0 b0
  go_enter Tryd.func137, Tryd.ntmps137
  go_upto_region 1 with (fail)
  rw [← hW]
  clear hW
  go_wp2_with (refine wpList_slice_Sl rfl (.tmp 5) none (some (.tmp 7)) none 37 rfl 3 Tryd.underlying37 info_int rfl hS 0 na cc (optNone rfl) (optSome rfl) (optNone rfl) (Nat.zero_le _) hna (by omega) (Nat.le_refl _) ?_; intro B' hS' hf' _)
  go_ret
  refine ⟨B', rfl, ?_, hf', b0_h.out⟩
  have e : ((ints u).drop (0 * 1)).take ((na - 0) * 1) = ints (u.take na) := by simp [ints, List.map_take]
  rw [e] at hS'
  exact hS'
theorem second_any (na : Nat) (b : Int) (x : Value) (_hx : x.oneCell' = true) (B : Option Addr) (cc n r : Nat) (u : List Int) (w : World) (h : Sl w 3 1 B n cc (ints u)) (hna : n = na + r) :
    Calls Tryd.prog 97 #[.agg #[.int .i64 na, .int .i64 b, x], .slice B n cc] w fun e w' => ∃ B' c', e = .returned (.slice B' r c') ∧ Sl w' 3 1 B' r c' (ints (u.drop na)) ∧ (∀ y, y ∈ fpA B' → y ∈ fpA B) ∧ Below w.heap.size w w' := by
  obtain ⟨W, hW, b0, k0⟩ := alloc_box w (.cells #[.int .i64 na, .int .i64 b, x] tRel)
  obtain ⟨⟨c0, c1, c2⟩, f0, f1, f2⟩ := box3 k0
  have hS := h.below b0
  have hcap := hS.2.1
  have hmx := hS.2.2.1
  have hul : (ints u).length = n := by rw [hS.1]; omega
  have hle : na ≤ n := by omega
  have k0_h := Lib.hid k0
  have b0_h := Lib.hid b0
  have hul_h := Lib.hid hul
  have hna_h := Lib.hid hna
  clear k0 b0 hul hna
  go_enter Tryd.func97, Tryd.ntmps97
  go_upto_region 1 with (fail)
  rw [← hW]
  clear hW
  go_wp2_with (refine wpList_slice_Sl rfl (.tmp 5) (some (.tmp 7)) none none 37 rfl 3 Tryd.underlying37 info_int rfl hS na n cc (optSome rfl) (optNone ⟨rfl, rfl⟩) (optNone rfl) hle (Nat.le_refl _) hcap (Nat.le_refl _) ?_; intro B' hS' hf' _)
  have er : n - na = r := by have := hna_h.out; omega
  rw [er] at hS' ⊢
  go_wp2_with (fail)
  go_ret
  refine ⟨B', cc - na, rfl, ?_, hf', b0_h.out⟩
  have e : ((ints u).drop (na * 1)).take (r * 1) = ints (u.drop na) := by
    rw [List.take_of_length_le (by rw [List.length_drop, hul_h.out]; omega)]
    simp [ints, List.map_drop]
  rw [e] at hS'
  exact hS'
end Go.Proofs.YtpfidjegdpkhdaaDoor
namespace Go.Proofs.YtpfidjegdpkhdaaDoor
open Go.RowKit

theorem singB_false {s : Sys} {v : List Int} {k : Nat} (h : s.2.2[k]? = some v) (hv : ¬ (leadV v : Int) < s.1) : singB s = false := by
  rw [Bool.eq_false_iff]
  intro hh
  have := List.all_eq_true.1 hh v (List.mem_of_getElem? h)
  exact hv (by simpa using this)
theorem sing_step {L : List (List Int)} {a : Int} {v : List Int} {k : Nat} (h : L[k]? = some v) (hv : (leadV v : Int) < a) (ht : (L.take k).all (fun v => decide ((leadV v : Int) < a)) = true) : (L.take (k + 1)).all (fun v => decide ((leadV v : Int) < a)) = true := by
  rw [List.take_add_one, h, List.all_append, ht]
  simpa using hv
set_option maxRecDepth 8000 in
set_option maxHeartbeats 1000000 in
theorem rlSingle_any (p : Int) {v : Value} {s : Sys} {fp : List Nat} (w : World) (h : OwSys w v s fp) (hs : RelOk p s) :
    Calls Tryd.prog 101 #[v] w fun e w' => e = .returned (.bool (singB s)) ∧ Below w.heap.size w w' := by
  obtain ⟨A, c, gs, rfl, hL, hO, rfl⟩ := h
  obtain ⟨a, b, L⟩ := s
  have h0 : 0 ≤ a := hs.lo
  have h1 : 0 ≤ b := hs.hi
  have h2 : a + b ≤ 24 := hs.sum
  have hrow : ∀ u, u ∈ L → (u.length : Int) = a + b := fun u hu => (hs.row hu).1
  have hlen : (L.length : Int) ≤ a + b := hs.len
  clear hs
  obtain ⟨na, rfl⟩ : ∃ na : Nat, a = (na : Int) := ⟨a.toNat, by omega⟩
  obtain ⟨nb, rfl⟩ : ∃ nb : Nat, b = (nb : Int) := ⟨b.toNat, by omega⟩
  have hL' : L = gs.map (fun h : Hd => h.2.2) := hL
  clear hL
  obtain ⟨F, hF⟩ : ∃ F, F = singB ((na : Int), (nb : Int), L) := ⟨_, rfl⟩
  obtain ⟨m, hm⟩ : ∃ m, m = gs.length := ⟨_, rfl⟩
  have hLm : L.length = m := by rw [hL', List.length_map, hm]
  show Calls Tryd.prog _ #[.agg #[.int .i64 (na : Int), .int .i64 (nb : Int), .slice A gs.length c]] w _
  rw [← hF, ← hm]
  obtain ⟨W, hW, b0, k0⟩ := alloc_box w (.cells #[.int .i64 (na : Int), .int .i64 (nb : Int), .slice A m c] tRel)
  have hO0 := hO.below b0
  obtain ⟨⟨c0, c1, c2⟩, f0, f1, f2⟩ := box3 k0
  clear hO
  have hm24 : (m : Int) ≤ 24 := by have := hlen; rw [hLm] at this; omega
  have hL'_h := Lib.hid hL'
  have hF_h := Lib.hid hF
  have hm_h := Lib.hid hm
  have hLm_h := Lib.hid hLm
  have b0_h := Lib.hid b0
  have k0_h := Lib.hid k0
  have hO0_h := Lib.hid hO0
  have hrow_h := Lib.hid hrow
  have hlen_h := Lib.hid hlen
  clear hL' hF hm hLm b0 k0 hO0 hrow hlen
  go_enter Tryd.func101, Tryd.ntmps101
  go_upto_region 1 with (fail)
  rw [← hW]
  clear hW
  go_wp2_with (fail)
  clear c0 c1 c2 f0 f1 f2
  go_loopw [8, 4] (fun i _s4 wr => ∃ k : Nat, k ≤ m ∧ i = .int .i64 k ∧ (L.take k).all (fun v => decide ((leadV v : Int) < (na : Int))) = true ∧ Below W.heap.size W wr) (fun i _ _ => m - (intOf i).toNat)
  case atStart => exact ⟨0, Nat.zero_le _, rfl, by simp, Below.refl _ _⟩
  case round =>
    obtain ⟨k, hk, rfl, ht, hbr⟩ := hrel
    have hB := below_trans b0_h.out hbr b0_h.out.size
    by_cases hlt : k < m
    · have hkI : (k : Int) < (m : Int) := by omega
      have hOr := hO0_h.out.below hbr
      have k0r := box_below k0_h.out hbr
      obtain ⟨ad, B1, c1, u, rfl, hx, hc1, hr1⟩ := hOr.rd.at_ (k := k) (by rw [← hm_h.out]; exact hlt)
      have hyL : L[k]? = some u := by rw [hL'_h.out, List.getElem?_map, hx]; rfl
      have hul : u.length = na + nb := by have := hrow_h.out _ (List.mem_of_getElem? hyL); omega
      have hI : Sl wr 3 1 B1 u.length c1 (ints u) := hOr.rows _ (List.mem_of_getElem? hx)
      obtain ⟨n, hn⟩ : ∃ n, n = u.length := ⟨_, rfl⟩
      rw [← hn] at hI hc1
      clear hOr hx
      have hFn : (na : Int) ≤ (leadV u : Int) → F = false := fun h => by rw [hF_h.out]; exact singB_false hyL (by show ¬ (leadV u : Int) < (na : Int); omega)
      have hst : ¬ (na : Int) ≤ (leadV u : Int) → (L.take (k + 1)).all (fun v => decide ((leadV v : Int) < (na : Int))) = true := fun h => sing_step hyL (by omega) ht
      have hS := fun W' (hb : Below wr.heap.size wr W') => spLead_any B1 c1 n u W' (hr1.below hb) hn.symm (by omega)
      obtain ⟨q, hq⟩ : ∃ q, q = leadV u := ⟨_, rfl⟩
      rw [← hq] at hFn hst
      simp only [← hq] at hS
      clear ht hr1
      have hbr_h := Lib.hid hbr
      have hB_h := Lib.hid hB
      have hyL_h := Lib.hid hyL
      have hul_h := Lib.hid hul
      have hI_h := Lib.hid hI
      have hn_h := Lib.hid hn
      have hFn_h := Lib.hid hFn
      have hst_h := Lib.hid hst
      have hS_h := Lib.hid hS
      have hq_h := Lib.hid hq
      have k0r_h := Lib.hid k0r
      clear hbr hB hyL hul hI hn hFn hst hS hq k0r
      have hbd : Below wr.heap.size wr wr.drew := below_drewN (Below.refl _ _) 1
      go_wp2_with (fail)
      clear hc1
      refine beginH (fun w' => w'.heap[w.heap.size]? = some (.cells #[.int .i64 (na : Int), .int .i64 (nb : Int), .slice (some ad) m c] tRel)) (by kernel_rfl) ?_
      generalize wr.drew = W1 at hbd ⊢
      replace k0r_h := Lib.hid (box_below k0r_h.out hbd)
      have hbd_h := Lib.hid hbd
      clear hbd
      refine takeH 0 (v := ?_) rfl (by kernel_rfl) (by kernel_rfl) (by kernel_rfl) (fun _ _ _ h => h) k0r_h.out (by rfl) (fun W' hW' => ?_) ?_; rotate_left; · (skip; clear hW'; go_simp; first | done | with_reducible rfl)
      simp only [Act.put, List.setIfInBounds_toArray, List.set_cons_zero, List.set_cons_succ]
      refine takeH 2 (v := ?_) rfl (by kernel_rfl) (by kernel_rfl) (by kernel_rfl) (fun _ _ _ h => h) k0r_h.out (by rfl) (fun W' hW' => ?_) ?_; rotate_left; · (obtain ⟨⟨y0, y1, y2⟩, y3, y4, y5⟩ := box3 hW'; clear hW'; go_simp; first | done | with_reducible rfl)
      simp only [Act.put, List.setIfInBounds_toArray, List.set_cons_zero, List.set_cons_succ]
      refine takeH 3 (v := ?_) rfl (by kernel_rfl) (by kernel_rfl) (by kernel_rfl) (fun _ _ _ h => h) k0r_h.out (by rfl) (fun W' hW' => ?_) ?_; rotate_left; · (obtain ⟨⟨y0, y1, y2⟩, y3, y4, y5⟩ := box3 hW'; clear hW'; go_simp; first | done | with_reducible rfl)
      simp only [Act.put, List.setIfInBounds_toArray, List.set_cons_zero, List.set_cons_succ]
      refine' callH 1 (f := _) (args := _) rfl (by kernel_rfl) (by rfl) ?_ ?_; rotate_left 2; · (go_simp; first | done | with_reducible rfl | (constructor <;> with_reducible rfl))
      refine (hS_h.out W1 hbd_h.out).mono ?_
      rintro e w3 ⟨rfl, rfl⟩
      refine ⟨_, rfl, k0r_h.out, ?_⟩
      simp only [Act.put, List.setIfInBounds_toArray, List.set_cons_zero, List.set_cons_succ]
      by_cases hle : (na : Int) ≤ (q : Int)
      · have hd : decide (na ≤ q) = true := decide_eq_true (by omega)
        have hle_h := Lib.hid hle
        clear hle
        refine takeH 4 (v := ?_) rfl (by kernel_rfl) (by kernel_rfl) (by kernel_rfl) (fun _ _ _ h => h) k0r_h.out (by rfl) (fun W' hW' => ?_) ?_; rotate_left; · (skip; clear hW'; go_simp; first | done | with_reducible rfl)
        simp only [Act.put, List.setIfInBounds_toArray, List.set_cons_zero, List.set_cons_succ]
        refine doneH (by kernel_rfl) ?_
        go_wp2_with (fail)
        go_ret
        exact ⟨ret_bool (hFn_h.out hle_h.out).symm, below_trans hB_h.out hbd_h.out hB_h.out.size⟩
      · have hd : decide (na ≤ q) = false := decide_eq_false (by omega)
        have hle_h := Lib.hid hle
        clear hle
        refine takeH 4 (v := ?_) rfl (by kernel_rfl) (by kernel_rfl) (by kernel_rfl) (fun _ _ _ h => h) k0r_h.out (by rfl) (fun W' hW' => ?_) ?_; rotate_left; · (skip; clear hW'; go_simp; first | done | with_reducible rfl)
        simp only [Act.put, List.setIfInBounds_toArray, List.set_cons_zero, List.set_cons_succ]
        refine doneH (by kernel_rfl) ?_
        go_wp2_with (fail)
        go_roundw
        case rel => exact ⟨k + 1, by omega, by go_num, hst_h.out (by have := hle_h.out; omega), below_trans hbr_h.out hbd_h.out hbr_h.out.size⟩
        case measure => simp [intOf]; omega
    · obtain rfl : k = m := by omega
      have hfin : F = true := by
        rw [hF_h.out]; show L.all _ = true
        rw [List.take_of_length_le (by rw [hLm_h.out]; exact Nat.le_refl _)] at ht
        exact ht
      clear ht
      have hbr_h := Lib.hid hbr
      have hB_h := Lib.hid hB
      have hfin_h := Lib.hid hfin
      clear hbr hB hfin
      go_wp2_with (fail)
      go_ret
      exact ⟨ret_bool hfin_h.out.symm, hB_h.out⟩
set_option maxRecDepth 8000 in
set_option maxHeartbeats 1000000 in
theorem isSingleValued_any (p : Int) {v : Value} {s : Sys} {fp : List Nat} (w : World) (h : OwSys w v s fp) (hs : RelOk p s) :
    Calls Tryd.prog 102 #[v] w fun e w' => e = .returned (.bool (singB s)) ∧ Below w.heap.size w w' := by
  obtain ⟨A, c, gs, rfl, hL, hO, rfl⟩ := h
  obtain ⟨a, b, L⟩ := s
  have h0 : 0 ≤ a := hs.lo
  have h1 : 0 ≤ b := hs.hi
  have h2 : a + b ≤ 24 := hs.sum
  have hrow : ∀ u, u ∈ L → (u.length : Int) = a + b := fun u hu => (hs.row hu).1
  have hlen : (L.length : Int) ≤ a + b := hs.len
  clear hs
  obtain ⟨na, rfl⟩ : ∃ na : Nat, a = (na : Int) := ⟨a.toNat, by omega⟩
  obtain ⟨nb, rfl⟩ : ∃ nb : Nat, b = (nb : Int) := ⟨b.toNat, by omega⟩
  have hL' : L = gs.map (fun h : Hd => h.2.2) := hL
  clear hL
  obtain ⟨F, hF⟩ : ∃ F, F = singB ((na : Int), (nb : Int), L) := ⟨_, rfl⟩
  obtain ⟨m, hm⟩ : ∃ m, m = gs.length := ⟨_, rfl⟩
  have hLm : L.length = m := by rw [hL', List.length_map, hm]
  show Calls Tryd.prog _ #[.agg #[.int .i64 (na : Int), .int .i64 (nb : Int), .slice A gs.length c]] w _
  rw [← hF, ← hm]
  obtain ⟨W, hW, b0, k0⟩ := alloc_box w (.cells #[.int .i64 (na : Int), .int .i64 (nb : Int), .slice A m c] tRel)
  have hO0 := hO.below b0
  obtain ⟨⟨c0, c1, c2⟩, f0, f1, f2⟩ := box3 k0
  clear hO
  have hm24 : (m : Int) ≤ 24 := by have := hlen; rw [hLm] at this; omega
  have hL'_h := Lib.hid hL'
  have hF_h := Lib.hid hF
  have hm_h := Lib.hid hm
  have hLm_h := Lib.hid hLm
  have b0_h := Lib.hid b0
  have k0_h := Lib.hid k0
  have hO0_h := Lib.hid hO0
  have hrow_h := Lib.hid hrow
  have hlen_h := Lib.hid hlen
  clear hL' hF hm hLm b0 k0 hO0 hrow hlen
  go_enter Tryd.func102, Tryd.ntmps102
  go_upto_region 1 with (fail)
  rw [← hW]
  clear hW
  go_wp2_with (fail)
  clear c0 c1 c2 f0 f1 f2
  go_loopw [8, 4] (fun i _s4 wr => ∃ k : Nat, k ≤ m ∧ i = .int .i64 k ∧ (L.take k).all (fun v => decide ((leadV v : Int) < (na : Int))) = true ∧ Below W.heap.size W wr) (fun i _ _ => m - (intOf i).toNat)
  case atStart => exact ⟨0, Nat.zero_le _, rfl, by simp, Below.refl _ _⟩
  case round =>
    obtain ⟨k, hk, rfl, ht, hbr⟩ := hrel
    have hB := below_trans b0_h.out hbr b0_h.out.size
    by_cases hlt : k < m
    · have hkI : (k : Int) < (m : Int) := by omega
      have hOr := hO0_h.out.below hbr
      have k0r := box_below k0_h.out hbr
      obtain ⟨ad, B1, c1, u, rfl, hx, hc1, hr1⟩ := hOr.rd.at_ (k := k) (by rw [← hm_h.out]; exact hlt)
      have hyL : L[k]? = some u := by rw [hL'_h.out, List.getElem?_map, hx]; rfl
      have hul : u.length = na + nb := by have := hrow_h.out _ (List.mem_of_getElem? hyL); omega
      have hI : Sl wr 3 1 B1 u.length c1 (ints u) := hOr.rows _ (List.mem_of_getElem? hx)
      obtain ⟨n, hn⟩ : ∃ n, n = u.length := ⟨_, rfl⟩
      rw [← hn] at hI hc1
      clear hOr hx
      have hFn : (na : Int) ≤ (leadV u : Int) → F = false := fun h => by rw [hF_h.out]; exact singB_false hyL (by show ¬ (leadV u : Int) < (na : Int); omega)
      have hst : ¬ (na : Int) ≤ (leadV u : Int) → (L.take (k + 1)).all (fun v => decide ((leadV v : Int) < (na : Int))) = true := fun h => sing_step hyL (by omega) ht
      have hS := first_any na (nb : Int) (.slice (some ad) m c) rfl B1 c1 n u wr hI (by omega)
      have hlz := leadV_take (v := u) (a := na) (by omega)
      have htl : (u.take na).length = na := by rw [List.length_take]; omega
      clear ht hr1
      have hbr_h := Lib.hid hbr
      have hB_h := Lib.hid hB
      have hyL_h := Lib.hid hyL
      have hul_h := Lib.hid hul
      have hI_h := Lib.hid hI
      have hn_h := Lib.hid hn
      have hFn_h := Lib.hid hFn
      have hst_h := Lib.hid hst
      have hS_h := Lib.hid hS
      have hlz_h := Lib.hid hlz
      have htl_h := Lib.hid htl
      clear hbr hB hyL hul hI hn hFn hst hS hlz htl
      obtain ⟨⟨y0, y1, y2⟩, y3, y4, y5⟩ := box3 k0r
      clear k0r
      go_wp2_with (fail)
      refine (hS_h.out).mono ?_
      rintro e w3 ⟨B3, rfl, hI3, -, hb3⟩
      have hr3 : RdI w3 B3 (u.take na) := IS.rd (cap := c1) (by unfold IS; rw [htl_h.out]; exact hI3)
      have hZ := isZero_any B3 c1 na (u.take na) w3 hr3 htl_h.out (by omega)
      obtain ⟨q, hq⟩ : ∃ q, q = leadV (u.take na) := ⟨_, rfl⟩
      rw [← hq] at hZ
      have hB3 := below_trans hB_h.out hb3 hB_h.out.size
      clear y0 y1 y2 y3 y4 y5 hc1 hI3 hr3
      by_cases hle : (na : Int) ≤ (leadV u : Int)
      · have e : ((q : Int) == (na : Int)) = true := by have := hlz_h.out.2 (by omega); rw [hq, this]; simp
        rw [e] at hZ
        clear e
        have hb3_h := Lib.hid hb3
        have hZ_h := Lib.hid hZ
        have hq_h := Lib.hid hq
        have hB3_h := Lib.hid hB3
        have hle_h := Lib.hid hle
        clear hb3 hZ hq hB3 hle
        go_wp2_with (fail)
        refine (hZ_h.out).mono ?_
        rintro e w4 ⟨rfl, rfl⟩
        go_wp2_with (fail)
        go_ret
        exact ⟨ret_bool (hFn_h.out hle_h.out).symm, hB3_h.out⟩
      · have e : ((q : Int) == (na : Int)) = false := by
          have h9 : ¬ q = na := fun h => hle (by have := hlz_h.out.1 (by rw [← hq]; exact h); omega)
          simp only [beq_eq_false_iff_ne, ne_eq]; omega
        rw [e] at hZ
        clear e
        have hb3_h := Lib.hid hb3
        have hZ_h := Lib.hid hZ
        have hq_h := Lib.hid hq
        have hB3_h := Lib.hid hB3
        have hle_h := Lib.hid hle
        clear hb3 hZ hq hB3 hle
        go_wp2_with (fail)
        refine (hZ_h.out).mono ?_
        rintro e w4 ⟨rfl, rfl⟩
        go_wp2_with (fail)
        go_roundw
        case rel => exact ⟨k + 1, by omega, by go_num, hst_h.out (by have := hle_h.out; omega), below_trans hbr_h.out hb3_h.out hbr_h.out.size⟩
        case measure => simp [intOf]; omega
    · obtain rfl : k = m := by omega
      have hfin : F = true := by
        rw [hF_h.out]; show L.all _ = true
        rw [List.take_of_length_le (by rw [hLm_h.out]; exact Nat.le_refl _)] at ht
        exact ht
      clear ht
      have hbr_h := Lib.hid hbr
      have hB_h := Lib.hid hB
      have hfin_h := Lib.hid hfin
      clear hbr hB hfin
      go_wp2_with (fail)
      go_ret
      exact ⟨ret_bool hfin_h.out.symm, hB_h.out⟩
set_option maxRecDepth 8000 in
set_option maxHeartbeats 1000000 in
theorem sIsSingleValued_law (p : Int) {v : Value} {s : Sys} {fp : List Nat} {w : World} (h : OwSys w v s fp) (ok : OkR s.2.2) :
    Calls Tryd.prog 45 #[.int .i64 p, v] w fun e w' => e = .returned (.tuple #[.bool (singM p s).1, .bool (singM p s).2]) ∧ Below w.heap.size w w' := by
  obtain ⟨M, hM⟩ : ∃ M, M = singM p s := ⟨_, rfl⟩
  rw [← hM]
  unfold singM at hM
  obtain ⟨A, n, c, rfl⟩ := h.shape
  obtain ⟨W, hW, b0, k0⟩ := alloc_box w (.cells #[.int .i64 s.1, .int .i64 s.2.1, .slice A n c] tRel)
  have hG := rlGood_any p W (h.rd.below b0) ok.1 ok.2.1
  have hC := fun W' (hb : Below W.heap.size W W') (hs : RelOk p s) => rlSingle_any p W' ((h.below b0).below hb) hs
  obtain ⟨a, b, L⟩ := s
  obtain ⟨⟨c0, c1, c2⟩, f0, f1, f2⟩ := box3 k0
  by_cases hb : relB p (a, b, L) = true
  · rw [hb] at hM hG
    have hof := RelOk.of hb
    clear h ok hb
    have hM_h := Lib.hid hM
    have hG_h := Lib.hid hG
    have hC_h := Lib.hid hC
    have k0_h := Lib.hid k0
    have b0_h := Lib.hid b0
    have hof_h := Lib.hid hof
    clear hM hG hC k0 b0 hof
    go_enter Tryd.func45, Tryd.ntmps45
    go_upto_region 1 with (fail)
    rw [← hW]
    clear hW
    go_wp2_with (fail)
    refine (hG_h.out).mono ?_
    rintro e w1 ⟨rfl, hb1⟩
    clear c0 c1 c2 f0 f1 f2
    replace k0_h := Lib.hid (box_below k0_h.out hb1)
    obtain ⟨⟨c0, c1, c2⟩, f0, f1, f2⟩ := box3 k0_h.out
    have hC1 := hC_h.out w1 hb1 hof_h.out
    have hB1 := below_trans b0_h.out hb1 b0_h.out.size
    have hC1_h := Lib.hid hC1
    have hb1_h := Lib.hid hb1
    have hB1_h := Lib.hid hB1
    clear hC1 hb1 hB1
    go_wp2_with (fail)
    refine (hC1_h.out).mono ?_
    rintro e w2 ⟨rfl, hb2⟩
    go_wp2_with (fail)
    go_ret2
    exact ⟨by rw [hM_h.out]; rfl, below_trans hB1_h.out hb2 hB1_h.out.size⟩
  · have hb' : relB p (a, b, L) = false := by simpa using hb
    rw [hb'] at hM hG
    clear h ok hb hb'
    have hM_h := Lib.hid hM
    have hG_h := Lib.hid hG
    have hC_h := Lib.hid hC
    have k0_h := Lib.hid k0
    have b0_h := Lib.hid b0
    clear hM hG hC k0 b0
    go_enter Tryd.func45, Tryd.ntmps45
    go_upto_region 1 with (fail)
    rw [← hW]
    clear hW
    go_wp2_with (fail)
    refine (hG_h.out).mono ?_
    rintro e w1 ⟨rfl, hb1⟩
    go_wp2_with (fail)
    go_ret2
    exact ⟨by rw [hM_h.out]; rfl, below_trans b0_h.out hb1 b0_h.out.size⟩
set_option maxRecDepth 8000 in
set_option maxHeartbeats 1000000 in
theorem iIsSingleValued_law (p : Int) {v : Value} {s : Sys} {fp : List Nat} {w : World} (h : OwSys w v s fp) (ok : OkR s.2.2) (hT : Tab w) :
    Calls Tryd.prog 46 #[.int .i64 p, v] w fun e w' => e = .returned (.tuple #[.bool (singM p s).1, .bool (singM p s).2]) ∧ Below w.heap.size w w' := by
  obtain ⟨M, hM⟩ : ∃ M, M = singM p s := ⟨_, rfl⟩
  rw [← hM]
  unfold singM at hM
  obtain ⟨A, n, c, rfl⟩ := h.shape
  obtain ⟨W, hW, b0, k0⟩ := alloc_box w (.cells #[.int .i64 s.1, .int .i64 s.2.1, .slice A n c] tRel)
  have hG := isRelation_any p W (h.rd.below b0) (hT.below b0 hT.lt) ok.1 ok.2.1
  have hC := fun W' (hb : Below W.heap.size W W') (hs : RelOk p s) => isSingleValued_any p W' ((h.below b0).below hb) hs
  obtain ⟨a, b, L⟩ := s
  obtain ⟨⟨c0, c1, c2⟩, f0, f1, f2⟩ := box3 k0
  by_cases hb : relB p (a, b, L) = true
  · rw [hb] at hM hG
    have hof := RelOk.of hb
    clear h ok hb
    have hM_h := Lib.hid hM
    have hG_h := Lib.hid hG
    have hC_h := Lib.hid hC
    have k0_h := Lib.hid k0
    have b0_h := Lib.hid b0
    have hof_h := Lib.hid hof
    clear hM hG hC k0 b0 hof
    go_enter Tryd.func46, Tryd.ntmps46
    go_upto_region 1 with (fail)
    rw [← hW]
    clear hW
    go_wp2_with (fail)
    refine (hG_h.out).mono ?_
    rintro e w1 ⟨rfl, hb1⟩
    clear c0 c1 c2 f0 f1 f2
    replace k0_h := Lib.hid (box_below k0_h.out hb1)
    obtain ⟨⟨c0, c1, c2⟩, f0, f1, f2⟩ := box3 k0_h.out
    have hC1 := hC_h.out w1 hb1 hof_h.out
    have hB1 := below_trans b0_h.out hb1 b0_h.out.size
    have hC1_h := Lib.hid hC1
    have hb1_h := Lib.hid hb1
    have hB1_h := Lib.hid hB1
    clear hC1 hb1 hB1
    go_wp2_with (fail)
    refine (hC1_h.out).mono ?_
    rintro e w2 ⟨rfl, hb2⟩
    go_wp2_with (fail)
    go_ret2
    exact ⟨by rw [hM_h.out]; rfl, below_trans hB1_h.out hb2 hB1_h.out.size⟩
  · have hb' : relB p (a, b, L) = false := by simpa using hb
    rw [hb'] at hM hG
    clear h ok hb hb'
    have hM_h := Lib.hid hM
    have hG_h := Lib.hid hG
    have hC_h := Lib.hid hC
    have k0_h := Lib.hid k0
    have b0_h := Lib.hid b0
    clear hM hG hC k0 b0
    go_enter Tryd.func46, Tryd.ntmps46
    go_upto_region 1 with (fail)
    rw [← hW]
    clear hW
    go_wp2_with (fail)
    refine (hG_h.out).mono ?_
    rintro e w1 ⟨rfl, hb1⟩
    go_wp2_with (fail)
    go_ret2
    exact ⟨by rw [hM_h.out]; rfl, below_trans b0_h.out hb1 b0_h.out.size⟩
end Go.Proofs.YtpfidjegdpkhdaaDoor
