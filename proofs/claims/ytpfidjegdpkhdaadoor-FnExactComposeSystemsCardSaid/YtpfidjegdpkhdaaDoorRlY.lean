/-
  SLICE EXPRESSIONS IN DRAWN REGIONS; the walks of the converse.

  THE WALKS: each with first, second; RangeOf of the program; what is owned of the answers.

  THE WALKS: domain, isTotal, rlTotal; the contracts of DomainOf, RangeOf, IsTotal.

  THE WALKS: rlPart, domain; the contracts of DomainOf, RangeOf, IsTotal.

  THE WALKS: each; relation, span.

  THE WALKS: is a relation single-valued.

  THE WALKS: lead, isZero, the parts of a row, is it single-valued.
-/
import Derived.Test.YtpfidjegdpkhdaaDoorRlR
import Derived.Test.YtpfidjegdpkhdaaDoorNull
import Derived.Test.YtpfidjegdpkhdaaDoorRelOf
import Derived.BigQuiet
import Derived.Test.YtpfidjegdpkhdaaDoorPlaced
namespace Go.Proofs.YtpfidjegdpkhdaaDoor
open Go.RowKit

set_option maxHeartbeats 400000 in
theorem lead_any (A : Option Addr) (c n : Nat) (l : List Int) (w : World) (h : RdI w A l) (hn : l.length = n) (hl : n ≤ 1048576) :
    Calls Tryd.prog 133 #[.slice A n c] w fun e w' => e = .returned (.int .i64 (leadV l : Nat)) ∧ w = w' := by
  have hn_h := Lib.hid hn
  clear hn
  go_enter Tryd.func133, Tryd.ntmps133
  go_wp2_with (fail)
  go_loop [7, 3, 4] (fun v _s3 _s4 => ∃ k : Nat, k ≤ n ∧ v = .int .i64 k ∧ (l.take k).all (· == 0) = true) (fun v _ _ => n - (intOf v).toNat)
  case atStart => exact ⟨0, Nat.zero_le _, rfl, by simp⟩
  case round =>
    obtain ⟨k, hk, rfl, hz⟩ := hrel
    have hz_h := Lib.hid hz
    clear hz
    by_cases hlt : k < n
    · obtain ⟨ad, x, rfl, hx, hc⟩ := h.at_ (j := k) (by rw [hn_h.out]; exact hlt)
      have hkI : (k : Int) < (n : Int) := by omega
      clear h
      have hx_h := Lib.hid hx
      clear hx
      by_cases hx0 : x = 0
      · subst hx0
        have hs := leadV_step hx_h.out rfl hz_h.out
        have hs_h := Lib.hid hs
        clear hs
        go_wp2_with (fail)
        go_round
        case rel => exact ⟨k + 1, by omega, by go_num, hs_h.out⟩
        case measure => simp [intOf]; omega
      · have hx1 : (x != 0) = true := by simpa using hx0
        have he := leadV_at (l := l) (k := k) (by rw [hn_h.out]; omega) hz_h.out (fun _ => by rw [getD_of_some hx_h.out]; exact hx0)
        clear hx0
        have he_h := Lib.hid he
        clear he
        go_wp2_with (fail)
        go_ret
        exact ⟨ret_int (by rw [he_h.out]), rfl⟩
    · obtain rfl : n = k := by omega
      have he := leadV_at (l := l) (k := n) (by rw [hn_h.out]; omega) hz_h.out (fun h => absurd h (by rw [hn_h.out]; omega))
      clear h
      have he_h := Lib.hid he
      clear he
      go_wp2_with (fail)
      go_ret
      exact ⟨ret_int (by rw [he_h.out]), rfl⟩
theorem isZero_any (A : Option Addr) (c n : Nat) (l : List Int) (w : World) (h : RdI w A l) (hn : l.length = n) (hl : n ≤ 1048576) :
    Calls Tryd.prog 138 #[.slice A n c] w fun e w' => e = .returned (.bool (((leadV l : Nat) : Int) == (n : Int))) ∧ w = w' := by
  have hL := lead_any A c n l w h hn hl
  obtain ⟨k, hk⟩ : ∃ k, k = leadV l := ⟨_, rfl⟩
  rw [← hk] at hL ⊢
  have hL_h := Lib.hid hL
  have hk_h := Lib.hid hk
  have hn_h := Lib.hid hn
  clear hL hk hn
  go_enter Tryd.func138, Tryd.ntmps138
  go_wp2_with (fail)
  refine (hL_h.out).mono ?_
  rintro e w1 ⟨rfl, rfl⟩
  go_wp2_with (fail)
  go_ret
  exact ⟨rfl, rfl⟩
theorem first_any (na : Nat) (b : Int) (x : Value) (_hx : x.oneCell' = true) (B : Option Addr) (cc n : Nat) (u : List Int) (w : World) (h : Sl w 3 1 B n cc (ints u)) (hna : na ≤ n) :
    Calls Tryd.prog 137 #[.agg #[.int .i64 na, .int .i64 b, x], .slice B n cc] w fun e w' => ∃ B', e = .returned (.slice B' na cc) ∧ Sl w' 3 1 B' na cc (ints (u.take na)) ∧ (∀ y, y ∈ fpA B' → y ∈ fpA B) ∧ Below w.heap.size w w' := by
  obtain ⟨W, hW, b0, k0⟩ := alloc_box w (.cells #[.int .i64 na, .int .i64 b, x] tRel)
  obtain ⟨⟨c0, c1, c2⟩, f0, f1, f2⟩ := box3 k0
  have hS := h.below b0
  have hcap := hS.2.1
  have hmx := hS.2.2.1
  have k0_h := Lib.hid k0
  have b0_h := Lib.hid b0
  clear k0 b0
  go_enter Tryd.func137, Tryd.ntmps137
  go_upto_region 1 with (fail)
  rw [← hW]
  clear hW
  go_wp2_with (refine wpList_slice_Sl rfl (.tmp 5) none (some (.tmp 7)) none 37 rfl 3 Tryd.underlying37 info_int rfl hS 0 na cc (optNone rfl) (optSome rfl) (optNone rfl) (Nat.zero_le _) hna (by omega) (Nat.le_refl _) ?_; intro B' hS' hf' _)
  go_ret
  refine ⟨B', rfl, ?_, hf', b0_h.out⟩
  have e : ((ints u).drop (0 * 1)).take ((na - 0) * 1) = ints (u.take na) := by simp [ints, List.map_take]
  rw [e] at hS'
  exact hS'
theorem second_any (na : Nat) (b : Int) (x : Value) (_hx : x.oneCell' = true) (B : Option Addr) (cc n r : Nat) (u : List Int) (w : World) (h : Sl w 3 1 B n cc (ints u)) (hna : n = na + r) :
    Calls Tryd.prog 97 #[.agg #[.int .i64 na, .int .i64 b, x], .slice B n cc] w fun e w' => ∃ B' c', e = .returned (.slice B' r c') ∧ Sl w' 3 1 B' r c' (ints (u.drop na)) ∧ (∀ y, y ∈ fpA B' → y ∈ fpA B) ∧ Below w.heap.size w w' := by
  obtain ⟨W, hW, b0, k0⟩ := alloc_box w (.cells #[.int .i64 na, .int .i64 b, x] tRel)
  obtain ⟨⟨c0, c1, c2⟩, f0, f1, f2⟩ := box3 k0
  have hS := h.below b0
  have hcap := hS.2.1
  have hmx := hS.2.2.1
  have hul : (ints u).length = n := by rw [hS.1]; omega
  have hle : na ≤ n := by omega
  have k0_h := Lib.hid k0
  have b0_h := Lib.hid b0
  have hul_h := Lib.hid hul
  have hna_h := Lib.hid hna
  clear k0 b0 hul hna
  go_enter Tryd.func97, Tryd.ntmps97
  go_upto_region 1 with (fail)
  rw [← hW]
  clear hW
  go_wp2_with (refine wpList_slice_Sl rfl (.tmp 5) (some (.tmp 7)) none none 37 rfl 3 Tryd.underlying37 info_int rfl hS na n cc (optSome rfl) (optNone ⟨rfl, rfl⟩) (optNone rfl) hle (Nat.le_refl _) hcap (Nat.le_refl _) ?_; intro B' hS' hf' _)
  have er : n - na = r := by have := hna_h.out; omega
  rw [er] at hS' ⊢
  go_wp2_with (fail)
  go_ret
  refine ⟨B', cc - na, rfl, ?_, hf', b0_h.out⟩
  have e : ((ints u).drop (na * 1)).take (r * 1) = ints (u.drop na) := by
    rw [List.take_of_length_le (by rw [List.length_drop, hul_h.out]; omega)]
    simp [ints, List.map_drop]
  rw [e] at hS'
  exact hS'
end Go.Proofs.YtpfidjegdpkhdaaDoor
namespace Go.Proofs.YtpfidjegdpkhdaaDoor
open Go.RowKit

theorem singB_false {s : Sys} {v : List Int} {k : Nat} (h : s.2.2[k]? = some v) (hv : ¬ (leadV v : Int) < s.1) : singB s = false := by
  rw [Bool.eq_false_iff]
  intro hh
  have := List.all_eq_true.1 hh v (List.mem_of_getElem? h)
  exact hv (by simpa using this)
theorem sing_step {L : List (List Int)} {a : Int} {v : List Int} {k : Nat} (h : L[k]? = some v) (hv : (leadV v : Int) < a) (ht : (L.take k).all (fun v => decide ((leadV v : Int) < a)) = true) : (L.take (k + 1)).all (fun v => decide ((leadV v : Int) < a)) = true := by
  rw [List.take_add_one, h, List.all_append, ht]
  simpa using hv
set_option maxRecDepth 8000 in
set_option maxHeartbeats 1000000 in
theorem rlSingle_any (p : Int) {v : Value} {s : Sys} {fp : List Nat} (w : World) (h : OwSys w v s fp) (hs : RelOk p s) :
    Calls Tryd.prog 101 #[v] w fun e w' => e = .returned (.bool (singB s)) ∧ Below w.heap.size w w' := by
  obtain ⟨A, c, gs, rfl, hL, hO, rfl⟩ := h
  obtain ⟨a, b, L⟩ := s
  have h0 : 0 ≤ a := hs.lo
  have h1 : 0 ≤ b := hs.hi
  have h2 : a + b ≤ 24 := hs.sum
  have hrow : ∀ u, u ∈ L → (u.length : Int) = a + b := fun u hu => (hs.row hu).1
  have hlen : (L.length : Int) ≤ a + b := hs.len
  clear hs
  obtain ⟨na, rfl⟩ : ∃ na : Nat, a = (na : Int) := ⟨a.toNat, by omega⟩
  obtain ⟨nb, rfl⟩ : ∃ nb : Nat, b = (nb : Int) := ⟨b.toNat, by omega⟩
  have hL' : L = gs.map (fun h : Hd => h.2.2) := hL
  clear hL
  obtain ⟨F, hF⟩ : ∃ F, F = singB ((na : Int), (nb : Int), L) := ⟨_, rfl⟩
  obtain ⟨m, hm⟩ : ∃ m, m = gs.length := ⟨_, rfl⟩
  have hLm : L.length = m := by rw [hL', List.length_map, hm]
  show Calls Tryd.prog _ #[.agg #[.int .i64 (na : Int), .int .i64 (nb : Int), .slice A gs.length c]] w _
  rw [← hF, ← hm]
  obtain ⟨W, hW, b0, k0⟩ := alloc_box w (.cells #[.int .i64 (na : Int), .int .i64 (nb : Int), .slice A m c] tRel)
  have hO0 := hO.below b0
  obtain ⟨⟨c0, c1, c2⟩, f0, f1, f2⟩ := box3 k0
  clear hO
  have hm24 : (m : Int) ≤ 24 := by have := hlen; rw [hLm] at this; omega
  have hL'_h := Lib.hid hL'
  have hF_h := Lib.hid hF
  have hm_h := Lib.hid hm
  have hLm_h := Lib.hid hLm
  have b0_h := Lib.hid b0
  have k0_h := Lib.hid k0
  have hO0_h := Lib.hid hO0
  have hrow_h := Lib.hid hrow
  have hlen_h := Lib.hid hlen
  clear hL' hF hm hLm b0 k0 hO0 hrow hlen
  go_enter Tryd.func101, Tryd.ntmps101
  go_upto_region 1 with (fail)
  rw [← hW]
  clear hW
  go_wp2_with (fail)
  clear c0 c1 c2 f0 f1 f2
  go_loopw [8, 4] (fun i _s4 wr => ∃ k : Nat, k ≤ m ∧ i = .int .i64 k ∧ (L.take k).all (fun v => decide ((leadV v : Int) < (na : Int))) = true ∧ Below W.heap.size W wr) (fun i _ _ => m - (intOf i).toNat)
  case atStart => exact ⟨0, Nat.zero_le _, rfl, by simp, Below.refl _ _⟩
  case round =>
    obtain ⟨k, hk, rfl, ht, hbr⟩ := hrel
    have hB := below_trans b0_h.out hbr b0_h.out.size
    by_cases hlt : k < m
    · have hkI : (k : Int) < (m : Int) := by omega
      have hOr := hO0_h.out.below hbr
      have k0r := box_below k0_h.out hbr
      obtain ⟨ad, B1, c1, u, rfl, hx, hc1, hr1⟩ := hOr.rd.at_ (k := k) (by rw [← hm_h.out]; exact hlt)
      have hyL : L[k]? = some u := by rw [hL'_h.out, List.getElem?_map, hx]; rfl
      have hul : u.length = na + nb := by have := hrow_h.out _ (List.mem_of_getElem? hyL); omega
      have hI : Sl wr 3 1 B1 u.length c1 (ints u) := hOr.rows _ (List.mem_of_getElem? hx)
      obtain ⟨n, hn⟩ : ∃ n, n = u.length := ⟨_, rfl⟩
      rw [← hn] at hI hc1
      clear hOr hx
      have hFn : (na : Int) ≤ (leadV u : Int) → F = false := fun h => by rw [hF_h.out]; exact singB_false hyL (by show ¬ (leadV u : Int) < (na : Int); omega)
      have hst : ¬ (na : Int) ≤ (leadV u : Int) → (L.take (k + 1)).all (fun v => decide ((leadV v : Int) < (na : Int))) = true := fun h => sing_step hyL (by omega) ht
      have hS := fun W' (hb : Below wr.heap.size wr W') => spLead_any B1 c1 n u W' (hr1.below hb) hn.symm (by omega)
      obtain ⟨q, hq⟩ : ∃ q, q = leadV u := ⟨_, rfl⟩
      rw [← hq] at hFn hst
      simp only [← hq] at hS
      clear ht hr1
      have hbr_h := Lib.hid hbr
      have hB_h := Lib.hid hB
      have hyL_h := Lib.hid hyL
      have hul_h := Lib.hid hul
      have hI_h := Lib.hid hI
      have hn_h := Lib.hid hn
      have hFn_h := Lib.hid hFn
      have hst_h := Lib.hid hst
      have hS_h := Lib.hid hS
      have hq_h := Lib.hid hq
      have k0r_h := Lib.hid k0r
      clear hbr hB hyL hul hI hn hFn hst hS hq k0r
      have hbd : Below wr.heap.size wr wr.drew := below_drewN (Below.refl _ _) 1
      go_wp2_with (fail)
      clear hc1
      refine beginH (fun w' => w'.heap[w.heap.size]? = some (.cells #[.int .i64 (na : Int), .int .i64 (nb : Int), .slice (some ad) m c] tRel)) (by kernel_rfl) ?_
      generalize wr.drew = W1 at hbd ⊢
      replace k0r_h := Lib.hid (box_below k0r_h.out hbd)
      have hbd_h := Lib.hid hbd
      clear hbd
      refine takeH 0 (v := ?_) rfl (by kernel_rfl) (by kernel_rfl) (by kernel_rfl) (fun _ _ _ h => h) k0r_h.out (by rfl) (fun W' hW' => ?_) ?_; rotate_left; · (skip; clear hW'; go_simp; first | done | with_reducible rfl)
      simp only [Act.put, List.setIfInBounds_toArray, List.set_cons_zero, List.set_cons_succ]
      refine takeH 2 (v := ?_) rfl (by kernel_rfl) (by kernel_rfl) (by kernel_rfl) (fun _ _ _ h => h) k0r_h.out (by rfl) (fun W' hW' => ?_) ?_; rotate_left; · (obtain ⟨⟨y0, y1, y2⟩, y3, y4, y5⟩ := box3 hW'; clear hW'; go_simp; first | done | with_reducible rfl)
      simp only [Act.put, List.setIfInBounds_toArray, List.set_cons_zero, List.set_cons_succ]
      refine takeH 3 (v := ?_) rfl (by kernel_rfl) (by kernel_rfl) (by kernel_rfl) (fun _ _ _ h => h) k0r_h.out (by rfl) (fun W' hW' => ?_) ?_; rotate_left; · (obtain ⟨⟨y0, y1, y2⟩, y3, y4, y5⟩ := box3 hW'; clear hW'; go_simp; first | done | with_reducible rfl)
      simp only [Act.put, List.setIfInBounds_toArray, List.set_cons_zero, List.set_cons_succ]
      refine' callH 1 (f := _) (args := _) rfl (by kernel_rfl) (by rfl) ?_ ?_; rotate_left 2; · (go_simp; first | done | with_reducible rfl | (constructor <;> with_reducible rfl))
      refine (hS_h.out W1 hbd_h.out).mono ?_
      rintro e w3 ⟨rfl, rfl⟩
      refine ⟨_, rfl, k0r_h.out, ?_⟩
      simp only [Act.put, List.setIfInBounds_toArray, List.set_cons_zero, List.set_cons_succ]
      by_cases hle : (na : Int) ≤ (q : Int)
      · have hd : decide (na ≤ q) = true := decide_eq_true (by omega)
        have hle_h := Lib.hid hle
        clear hle
        refine takeH 4 (v := ?_) rfl (by kernel_rfl) (by kernel_rfl) (by kernel_rfl) (fun _ _ _ h => h) k0r_h.out (by rfl) (fun W' hW' => ?_) ?_; rotate_left; · (skip; clear hW'; go_simp; first | done | with_reducible rfl)
        simp only [Act.put, List.setIfInBounds_toArray, List.set_cons_zero, List.set_cons_succ]
        refine doneH (by kernel_rfl) ?_
        go_wp2_with (fail)
        go_ret
        exact ⟨ret_bool (hFn_h.out hle_h.out).symm, below_trans hB_h.out hbd_h.out hB_h.out.size⟩
      · have hd : decide (na ≤ q) = false := decide_eq_false (by omega)
        have hle_h := Lib.hid hle
        clear hle
        refine takeH 4 (v := ?_) rfl (by kernel_rfl) (by kernel_rfl) (by kernel_rfl) (fun _ _ _ h => h) k0r_h.out (by rfl) (fun W' hW' => ?_) ?_; rotate_left; · (skip; clear hW'; go_simp; first | done | with_reducible rfl)
        simp only [Act.put, List.setIfInBounds_toArray, List.set_cons_zero, List.set_cons_succ]
        refine doneH (by kernel_rfl) ?_
        go_wp2_with (fail)
        go_roundw
        case rel => exact ⟨k + 1, by omega, by go_num, hst_h.out (by have := hle_h.out; omega), below_trans hbr_h.out hbd_h.out hbr_h.out.size⟩
        case measure => simp [intOf]; omega
    · obtain rfl : k = m := by omega
      have hfin : F = true := by
        rw [hF_h.out]; show L.all _ = true
        rw [List.take_of_length_le (by rw [hLm_h.out]; exact Nat.le_refl _)] at ht
        exact ht
      clear ht
      have hbr_h := Lib.hid hbr
      have hB_h := Lib.hid hB
      have hfin_h := Lib.hid hfin
      clear hbr hB hfin
      go_wp2_with (fail)
      go_ret
      exact ⟨ret_bool hfin_h.out.symm, hB_h.out⟩
set_option maxRecDepth 8000 in
set_option maxHeartbeats 1000000 in
theorem isSingleValued_any (p : Int) {v : Value} {s : Sys} {fp : List Nat} (w : World) (h : OwSys w v s fp) (hs : RelOk p s) :
    Calls Tryd.prog 102 #[v] w fun e w' => e = .returned (.bool (singB s)) ∧ Below w.heap.size w w' := by
  obtain ⟨A, c, gs, rfl, hL, hO, rfl⟩ := h
  obtain ⟨a, b, L⟩ := s
  have h0 : 0 ≤ a := hs.lo
  have h1 : 0 ≤ b := hs.hi
  have h2 : a + b ≤ 24 := hs.sum
  have hrow : ∀ u, u ∈ L → (u.length : Int) = a + b := fun u hu => (hs.row hu).1
  have hlen : (L.length : Int) ≤ a + b := hs.len
  clear hs
  obtain ⟨na, rfl⟩ : ∃ na : Nat, a = (na : Int) := ⟨a.toNat, by omega⟩
  obtain ⟨nb, rfl⟩ : ∃ nb : Nat, b = (nb : Int) := ⟨b.toNat, by omega⟩
  have hL' : L = gs.map (fun h : Hd => h.2.2) := hL
  clear hL
  obtain ⟨F, hF⟩ : ∃ F, F = singB ((na : Int), (nb : Int), L) := ⟨_, rfl⟩
  obtain ⟨m, hm⟩ : ∃ m, m = gs.length := ⟨_, rfl⟩
  have hLm : L.length = m := by rw [hL', List.length_map, hm]
  show Calls Tryd.prog _ #[.agg #[.int .i64 (na : Int), .int .i64 (nb : Int), .slice A gs.length c]] w _
  rw [← hF, ← hm]
  obtain ⟨W, hW, b0, k0⟩ := alloc_box w (.cells #[.int .i64 (na : Int), .int .i64 (nb : Int), .slice A m c] tRel)
  have hO0 := hO.below b0
  obtain ⟨⟨c0, c1, c2⟩, f0, f1, f2⟩ := box3 k0
  clear hO
  have hm24 : (m : Int) ≤ 24 := by have := hlen; rw [hLm] at this; omega
  have hL'_h := Lib.hid hL'
  have hF_h := Lib.hid hF
  have hm_h := Lib.hid hm
  have hLm_h := Lib.hid hLm
  have b0_h := Lib.hid b0
  have k0_h := Lib.hid k0
  have hO0_h := Lib.hid hO0
  have hrow_h := Lib.hid hrow
  have hlen_h := Lib.hid hlen
  clear hL' hF hm hLm b0 k0 hO0 hrow hlen
  go_enter Tryd.func102, Tryd.ntmps102
  go_upto_region 1 with (fail)
  rw [← hW]
  clear hW
  go_wp2_with (fail)
  clear c0 c1 c2 f0 f1 f2
  go_loopw [8, 4] (fun i _s4 wr => ∃ k : Nat, k ≤ m ∧ i = .int .i64 k ∧ (L.take k).all (fun v => decide ((leadV v : Int) < (na : Int))) = true ∧ Below W.heap.size W wr) (fun i _ _ => m - (intOf i).toNat)
  case atStart => exact ⟨0, Nat.zero_le _, rfl, by simp, Below.refl _ _⟩
  case round =>
    obtain ⟨k, hk, rfl, ht, hbr⟩ := hrel
    have hB := below_trans b0_h.out hbr b0_h.out.size
    by_cases hlt : k < m
    · have hkI : (k : Int) < (m : Int) := by omega
      have hOr := hO0_h.out.below hbr
      have k0r := box_below k0_h.out hbr
      obtain ⟨ad, B1, c1, u, rfl, hx, hc1, hr1⟩ := hOr.rd.at_ (k := k) (by rw [← hm_h.out]; exact hlt)
      have hyL : L[k]? = some u := by rw [hL'_h.out, List.getElem?_map, hx]; rfl
      have hul : u.length = na + nb := by have := hrow_h.out _ (List.mem_of_getElem? hyL); omega
      have hI : Sl wr 3 1 B1 u.length c1 (ints u) := hOr.rows _ (List.mem_of_getElem? hx)
      obtain ⟨n, hn⟩ : ∃ n, n = u.length := ⟨_, rfl⟩
      rw [← hn] at hI hc1
      clear hOr hx
      have hFn : (na : Int) ≤ (leadV u : Int) → F = false := fun h => by rw [hF_h.out]; exact singB_false hyL (by show ¬ (leadV u : Int) < (na : Int); omega)
      have hst : ¬ (na : Int) ≤ (leadV u : Int) → (L.take (k + 1)).all (fun v => decide ((leadV v : Int) < (na : Int))) = true := fun h => sing_step hyL (by omega) ht
      have hS := first_any na (nb : Int) (.slice (some ad) m c) rfl B1 c1 n u wr hI (by omega)
      have hlz := leadV_take (v := u) (a := na) (by omega)
      have htl : (u.take na).length = na := by rw [List.length_take]; omega
      clear ht hr1
      have hbr_h := Lib.hid hbr
      have hB_h := Lib.hid hB
      have hyL_h := Lib.hid hyL
      have hul_h := Lib.hid hul
      have hI_h := Lib.hid hI
      have hn_h := Lib.hid hn
      have hFn_h := Lib.hid hFn
      have hst_h := Lib.hid hst
      have hS_h := Lib.hid hS
      have hlz_h := Lib.hid hlz
      have htl_h := Lib.hid htl
      clear hbr hB hyL hul hI hn hFn hst hS hlz htl
      obtain ⟨⟨y0, y1, y2⟩, y3, y4, y5⟩ := box3 k0r
      clear k0r
      go_wp2_with (fail)
      refine (hS_h.out).mono ?_
      rintro e w3 ⟨B3, rfl, hI3, -, hb3⟩
      have hr3 : RdI w3 B3 (u.take na) := IS.rd (cap := c1) (by unfold IS; rw [htl_h.out]; exact hI3)
      have hZ := isZero_any B3 c1 na (u.take na) w3 hr3 htl_h.out (by omega)
      obtain ⟨q, hq⟩ : ∃ q, q = leadV (u.take na) := ⟨_, rfl⟩
      rw [← hq] at hZ
      have hB3 := below_trans hB_h.out hb3 hB_h.out.size
      clear y0 y1 y2 y3 y4 y5 hc1 hI3 hr3
      by_cases hle : (na : Int) ≤ (leadV u : Int)
      · have e : ((q : Int) == (na : Int)) = true := by have := hlz_h.out.2 (by omega); rw [hq, this]; simp
        rw [e] at hZ
        clear e
        have hb3_h := Lib.hid hb3
        have hZ_h := Lib.hid hZ
        have hq_h := Lib.hid hq
        have hB3_h := Lib.hid hB3
        have hle_h := Lib.hid hle
        clear hb3 hZ hq hB3 hle
        go_wp2_with (fail)
        refine (hZ_h.out).mono ?_
        rintro e w4 ⟨rfl, rfl⟩
        go_wp2_with (fail)
        go_ret
        exact ⟨ret_bool (hFn_h.out hle_h.out).symm, hB3_h.out⟩
      · have e : ((q : Int) == (na : Int)) = false := by
          have h9 : ¬ q = na := fun h => hle (by have := hlz_h.out.1 (by rw [← hq]; exact h); omega)
          simp only [beq_eq_false_iff_ne, ne_eq]; omega
        rw [e] at hZ
        clear e
        have hb3_h := Lib.hid hb3
        have hZ_h := Lib.hid hZ
        have hq_h := Lib.hid hq
        have hB3_h := Lib.hid hB3
        have hle_h := Lib.hid hle
        clear hb3 hZ hq hB3 hle
        go_wp2_with (fail)
        refine (hZ_h.out).mono ?_
        rintro e w4 ⟨rfl, rfl⟩
        go_wp2_with (fail)
        go_roundw
        case rel => exact ⟨k + 1, by omega, by go_num, hst_h.out (by have := hle_h.out; omega), below_trans hbr_h.out hb3_h.out hbr_h.out.size⟩
        case measure => simp [intOf]; omega
    · obtain rfl : k = m := by omega
      have hfin : F = true := by
        rw [hF_h.out]; show L.all _ = true
        rw [List.take_of_length_le (by rw [hLm_h.out]; exact Nat.le_refl _)] at ht
        exact ht
      clear ht
      have hbr_h := Lib.hid hbr
      have hB_h := Lib.hid hB
      have hfin_h := Lib.hid hfin
      clear hbr hB hfin
      go_wp2_with (fail)
      go_ret
      exact ⟨ret_bool hfin_h.out.symm, hB_h.out⟩
set_option maxRecDepth 8000 in
set_option maxHeartbeats 1000000 in
theorem sIsSingleValued_law (p : Int) {v : Value} {s : Sys} {fp : List Nat} {w : World} (h : OwSys w v s fp) (ok : OkR s.2.2) :
    Calls Tryd.prog 45 #[.int .i64 p, v] w fun e w' => e = .returned (.tuple #[.bool (singM p s).1, .bool (singM p s).2]) ∧ Below w.heap.size w w' := by
  obtain ⟨M, hM⟩ : ∃ M, M = singM p s := ⟨_, rfl⟩
  rw [← hM]
  unfold singM at hM
  obtain ⟨A, n, c, rfl⟩ := h.shape
  obtain ⟨W, hW, b0, k0⟩ := alloc_box w (.cells #[.int .i64 s.1, .int .i64 s.2.1, .slice A n c] tRel)
  have hG := rlGood_any p W (h.rd.below b0) ok.1 ok.2.1
  have hC := fun W' (hb : Below W.heap.size W W') (hs : RelOk p s) => rlSingle_any p W' ((h.below b0).below hb) hs
  obtain ⟨a, b, L⟩ := s
  obtain ⟨⟨c0, c1, c2⟩, f0, f1, f2⟩ := box3 k0
  by_cases hb : relB p (a, b, L) = true
  · rw [hb] at hM hG
    have hof := RelOk.of hb
    clear h ok hb
    have hM_h := Lib.hid hM
    have hG_h := Lib.hid hG
    have hC_h := Lib.hid hC
    have k0_h := Lib.hid k0
    have b0_h := Lib.hid b0
    have hof_h := Lib.hid hof
    clear hM hG hC k0 b0 hof
    go_enter Tryd.func45, Tryd.ntmps45
    go_upto_region 1 with (fail)
    rw [← hW]
    clear hW
    go_wp2_with (fail)
    refine (hG_h.out).mono ?_
    rintro e w1 ⟨rfl, hb1⟩
    clear c0 c1 c2 f0 f1 f2
    replace k0_h := Lib.hid (box_below k0_h.out hb1)
    obtain ⟨⟨c0, c1, c2⟩, f0, f1, f2⟩ := box3 k0_h.out
    have hC1 := hC_h.out w1 hb1 hof_h.out
    have hB1 := below_trans b0_h.out hb1 b0_h.out.size
    have hC1_h := Lib.hid hC1
    have hb1_h := Lib.hid hb1
    have hB1_h := Lib.hid hB1
    clear hC1 hb1 hB1
    go_wp2_with (fail)
    refine (hC1_h.out).mono ?_
    rintro e w2 ⟨rfl, hb2⟩
    go_wp2_with (fail)
    go_ret2
    exact ⟨by rw [hM_h.out]; rfl, below_trans hB1_h.out hb2 hB1_h.out.size⟩
  · have hb' : relB p (a, b, L) = false := by simpa using hb
    rw [hb'] at hM hG
    clear h ok hb hb'
    have hM_h := Lib.hid hM
    have hG_h := Lib.hid hG
    have hC_h := Lib.hid hC
    have k0_h := Lib.hid k0
    have b0_h := Lib.hid b0
    clear hM hG hC k0 b0
    go_enter Tryd.func45, Tryd.ntmps45
    go_upto_region 1 with (fail)
    rw [← hW]
    clear hW
    go_wp2_with (fail)
    refine (hG_h.out).mono ?_
    rintro e w1 ⟨rfl, hb1⟩
    go_wp2_with (fail)
    go_ret2
    exact ⟨by rw [hM_h.out]; rfl, below_trans b0_h.out hb1 b0_h.out.size⟩
set_option maxRecDepth 8000 in
set_option maxHeartbeats 1000000 in
theorem iIsSingleValued_law (p : Int) {v : Value} {s : Sys} {fp : List Nat} {w : World} (h : OwSys w v s fp) (ok : OkR s.2.2) (hT : Tab w) :
    Calls Tryd.prog 46 #[.int .i64 p, v] w fun e w' => e = .returned (.tuple #[.bool (singM p s).1, .bool (singM p s).2]) ∧ Below w.heap.size w w' := by
  obtain ⟨M, hM⟩ : ∃ M, M = singM p s := ⟨_, rfl⟩
  rw [← hM]
  unfold singM at hM
  obtain ⟨A, n, c, rfl⟩ := h.shape
  obtain ⟨W, hW, b0, k0⟩ := alloc_box w (.cells #[.int .i64 s.1, .int .i64 s.2.1, .slice A n c] tRel)
  have hG := isRelation_any p W (h.rd.below b0) (hT.below b0 hT.lt) ok.1 ok.2.1
  have hC := fun W' (hb : Below W.heap.size W W') (hs : RelOk p s) => isSingleValued_any p W' ((h.below b0).below hb) hs
  obtain ⟨a, b, L⟩ := s
  obtain ⟨⟨c0, c1, c2⟩, f0, f1, f2⟩ := box3 k0
  by_cases hb : relB p (a, b, L) = true
  · rw [hb] at hM hG
    have hof := RelOk.of hb
    clear h ok hb
    have hM_h := Lib.hid hM
    have hG_h := Lib.hid hG
    have hC_h := Lib.hid hC
    have k0_h := Lib.hid k0
    have b0_h := Lib.hid b0
    have hof_h := Lib.hid hof
    clear hM hG hC k0 b0 hof
    go_enter Tryd.func46, Tryd.ntmps46
    go_upto_region 1 with (fail)
    rw [← hW]
    clear hW
    go_wp2_with (fail)
    refine (hG_h.out).mono ?_
    rintro e w1 ⟨rfl, hb1⟩
    clear c0 c1 c2 f0 f1 f2
    replace k0_h := Lib.hid (box_below k0_h.out hb1)
    obtain ⟨⟨c0, c1, c2⟩, f0, f1, f2⟩ := box3 k0_h.out
    have hC1 := hC_h.out w1 hb1 hof_h.out
    have hB1 := below_trans b0_h.out hb1 b0_h.out.size
    have hC1_h := Lib.hid hC1
    have hb1_h := Lib.hid hb1
    have hB1_h := Lib.hid hB1
    clear hC1 hb1 hB1
    go_wp2_with (fail)
    refine (hC1_h.out).mono ?_
    rintro e w2 ⟨rfl, hb2⟩
    go_wp2_with (fail)
    go_ret2
    exact ⟨by rw [hM_h.out]; rfl, below_trans hB1_h.out hb2 hB1_h.out.size⟩
  · have hb' : relB p (a, b, L) = false := by simpa using hb
    rw [hb'] at hM hG
    clear h ok hb hb'
    have hM_h := Lib.hid hM
    have hG_h := Lib.hid hG
    have hC_h := Lib.hid hC
    have k0_h := Lib.hid k0
    have b0_h := Lib.hid b0
    clear hM hG hC k0 b0
    go_enter Tryd.func46, Tryd.ntmps46
    go_upto_region 1 with (fail)
    rw [← hW]
    clear hW
    go_wp2_with (fail)
    refine (hG_h.out).mono ?_
    rintro e w1 ⟨rfl, hb1⟩
    go_wp2_with (fail)
    go_ret2
    exact ⟨by rw [hM_h.out]; rfl, below_trans b0_h.out hb1 b0_h.out.size⟩
end Go.Proofs.YtpfidjegdpkhdaaDoor
namespace Go.Proofs.YtpfidjegdpkhdaaDoor
open Go.RowKit

/-- An outer row of a call's own, whose rows are read: they may lie in old or new memory. -/
structure RdO (w0 w : World) (A : Option Addr) (cap : Nat) (hs : List Hd) : Prop where
  sl : Sl w 37 1 A hs.length cap (hs.map Hd.val)
  rows : ∀ h, h ∈ hs → IS w h.1 h.2.1 h.2.2
  outer : ∀ h, h ∈ hs → ∀ b, b ∈ fpA h.1 → ¬ b ∈ fpA A
  new : ∀ b, b ∈ fpA A → w0.heap.size ≤ b
  below_ : Below w0.heap.size w0 w
section
variable {w0 w w' : World} {A : Option Addr} {cap : Nat} {hs : List Hd}
theorem RdO.below (h : RdO w0 w A cap hs) (hb : Below w.heap.size w w') : RdO w0 w' A cap hs := ⟨h.sl.below hb, fun x hx => (h.rows x hx).below hb, h.outer, h.new, below_trans h.below_ hb h.below_.size⟩
theorem RdO.rdr (h : RdO w0 w A cap hs) : RdR w A hs := by
  refine ⟨fun i x hx => ?_, fun x hx => (h.rows x hx).rd⟩
  obtain ⟨ad, hA, _, hc, _⟩ := h.sl.cell (j := i) (u := x.val) (by simp [hx])
  exact ⟨ad, hA, hc⟩
theorem RdO.snoc {w1 w2 : World} (h : RdO w0 w A cap hs) (hb : Below w.heap.size w w1) {x : Hd} (hx : IS w1 x.1 x.2.1 x.2.2) (hxo : ∀ b, b ∈ fpA x.1 → ¬ b ∈ fpA A) {A' : Option Addr} {cap' n : Nat} (hn : n = hs.length + 1) (hs' : Sl w2 37 1 A' n cap' (hs.map Hd.val ++ [x.val])) (hA' : ∀ b, b ∈ fpA A' → b ∈ fpA A ∨ w1.heap.size ≤ b) (hk : Keeps (· ∈ fpA A) w1 w2) : RdO w0 w2 A' cap' (hs ++ [x]) := by
  subst hn
  have hbw := below_trans h.below_ hb h.below_.size
  refine ⟨by simpa using hs', fun y hy => ?_, fun y hy b hb1 hb2 => ?_, fun b hb' => ?_, below_keeps hbw hk hbw.size h.new⟩
  · rcases List.mem_append.1 hy with hy | hy
    · exact ((h.rows y hy).below hb).keeps hk (h.outer y hy)
    · obtain rfl := List.mem_singleton.1 hy; exact hx.keeps hk hxo
  · rcases List.mem_append.1 hy with hy | hy
    · rcases hA' b hb2 with h1 | h1
      · exact h.outer y hy b hb1 h1
      · have := (h.rows y hy).lt b hb1; have := hb.size; omega
    · obtain rfl := List.mem_singleton.1 hy
      rcases hA' b hb2 with h1 | h1
      · exact hxo b hb1 h1
      · have := hx.lt b hb1; omega
  · rcases hA' b hb' with h1 | h1
    · exact h.new b h1
    · have := hbw.size; omega
theorem RdO.start (w W : World) (hb : Below w.heap.size w W) : RdO w (W.alloc (.cells #[] 37)) (some ⟨W.heap.size, 0, none⟩) 0 [] := by
  refine ⟨by simpa using Sl.laid W 37 1 0 #[] (Nat.zero_le _) rfl, fun x hx => (by cases hx), fun x hx => (by cases hx), fun b hb' => ?_, below_trans hb (below_alloc _ _) hb.size⟩
  simp at hb'; subst hb'; exact hb.size
end
set_option maxRecDepth 8000 in
set_option maxHeartbeats 1000000 in
theorem each_any (F : FuncId) (first cap : Array Value) (g : List Int → List Int) (a b : Int) (A : Option Addr) (c : Nat) (hs : List Hd) (w : World) (hR : RdR w A hs) (hI : ∀ x, x ∈ hs → IS w x.1 x.2.1 x.2.2) (hl : hs.length ≤ 1048576) (hE : ∀ (args : Array Value) (w : World), (callFunc F args).run Tryd.prog w = .ok (.enter F args) w)
    (hF : ∀ x, x ∈ hs → ∀ W', Below w.heap.size w W' → Calls Tryd.prog F (first.push (.slice x.1 x.2.2.length x.2.1) ++ cap) W' fun e w'' => ∃ B c', e = .returned (.slice B (g x.2.2).length c') ∧ IS w'' B c' (g x.2.2) ∧ (∀ b, b ∈ fpA B → b ∈ fpA x.1 ∨ W'.heap.size ≤ b) ∧ Below W'.heap.size W' w'') :
    Calls Tryd.prog 96 #[.agg #[.int .i64 a, .int .i64 b, .slice A hs.length c], .func (.func F) first cap] w fun e w' => ∃ A' c' gs, e = .returned (.slice A' hs.length c') ∧ gs.map (fun h : Hd => h.2.2) = hs.map (fun h : Hd => g h.2.2) ∧ RdO w w' A' c' gs := by
  obtain ⟨m, hm⟩ : ∃ m, m = hs.length := ⟨_, rfl⟩
  rw [← hm] at hl ⊢
  obtain ⟨W, hW, b0, k0⟩ := alloc_box w (.cells #[.int .i64 a, .int .i64 b, .slice A m c] tRel)
  obtain ⟨⟨c0, c1, c2⟩, f0, f1, f2⟩ := box3 k0
  have hO0 := RdO.start w W b0
  have hz0 := (Array.getElem?_eq_some_iff.1 k0).1
  have hm_h := Lib.hid hm
  have hF_h := Lib.hid hF
  have hI_h := Lib.hid hI
  have hR_h := Lib.hid hR
  have k0_h := Lib.hid k0
  have b0_h := Lib.hid b0
  have hO0_h := Lib.hid hO0
  have hE_h := Lib.hid hE
  clear hm hF hI hR k0 b0 hO0 hE
  go_enter Tryd.func96, Tryd.ntmps96
  go_upto_region 1 with (fail)
  rw [← hW]
  clear hW
  go_wp2_with (fail)
  clear c0 c1 c2 f0 f1 f2
  go_loopw [12, 5] (fun i v wr => ∃ (k : Nat) (A' : Option Addr) (c' : Nat) (gs : List Hd), k ≤ m ∧ i = .int .i64 k ∧ v = .slice A' k c' ∧ gs.length = k ∧ gs.map (fun h : Hd => h.2.2) = (hs.take k).map (fun h : Hd => g h.2.2) ∧ RdO w wr A' c' gs) (fun i _ _ => m - (intOf i).toNat)
  case atStart => exact ⟨0, _, 0, [], Nat.zero_le _, rfl, rfl, rfl, rfl, hO0_h.out⟩
  case round =>
    obtain ⟨k, A', c', gs, hk, rfl, rfl, hgl, hgm, hO⟩ := hrel
    by_cases hlt : k < m
    · obtain ⟨x, hx⟩ : ∃ x, hs[k]? = some x := ⟨_, List.getElem?_eq_getElem (by rw [← hm_h.out]; exact hlt)⟩
      obtain ⟨ad, rfl, hc⟩ := (hR_h.out.below hO.below_).1 k x hx
      obtain ⟨B, d, l⟩ := x
      have hxm := List.mem_of_getElem? hx
      have hC := hF_h.out _ hxm wr hO.below_
      have hBlt := (hI_h.out _ hxm).lt
      have hc' : wr.cell? (ad.add k) = some (.slice B l.length d) := hc
      obtain ⟨q, hq⟩ : ∃ q, q = l.length := ⟨_, rfl⟩
      obtain ⟨r, hr⟩ : ∃ r, r = (g l).length := ⟨_, rfl⟩
      simp only [← hq, ← hr] at hC
      rw [← hq] at hc'
      have hkI : (k : Int) < (m : Int) := by omega
      clear hc hxm
      have hgl_h := Lib.hid hgl
      have hgm_h := Lib.hid hgm
      have hO_h := Lib.hid hO
      have hC_h := Lib.hid hC
      have hq_h := Lib.hid hq
      have hr_h := Lib.hid hr
      have hx_h := Lib.hid hx
      have hBlt_h := Lib.hid hBlt
      clear hgl hgm hO hC hq hr hx hBlt
      have hE1 := hE_h.out (first.push (.slice B q d) ++ cap) wr
      go_wp2_with (fail)
      refine (hC_h.out).mono ?_
      rintro e w1 ⟨B1, d1, rfl, hI1, hfp1, hb1⟩
      have hsl : Sl (w1.alloc (.cells #[.slice B1 r d1] 37)) 37 1 A' k c' (gs.map Hd.val) := by
        have := (hO_h.out.sl.below hb1).alloc (.cells #[.slice B1 r d1] 37)
        rwa [hgl_h.out] at this
      clear hc' hE1
      have hI1_h := Lib.hid hI1
      have hfp1_h := Lib.hid hfp1
      have hb1_h := Lib.hid hb1
      have hsl_h := Lib.hid hsl
      clear hI1 hfp1 hb1 hsl
      go_wp2_with (at_builtin; refine wpList_append_Sl _ rfl _ _ _ rfl 37 Tryd.underlying22 info_ints rfl (by omega) rfl (hsl_h.out) rfl (news := [.slice B1 r d1]) rfl (Sl.rdc (Sl.laid w1 37 1 1 #[.slice B1 r d1] (by unfold maxLen; omega) rfl)) (by intro u hu; simp at hu; subst hu; rfl) (by unfold maxLen; omega) (by omega) ?_; intro A3 c3 w3 hsA3 hA3 hkA3)
      have hal : Below w1.heap.size w1 (w1.alloc (.cells #[.slice B1 r d1] 37)) := below_alloc _ _
      have hO2 := hO_h.out.snoc (w1 := w1.alloc (.cells #[.slice B1 r d1] 37)) (below_trans hb1_h.out hal hb1_h.out.size) (x := (B1, d1, g l)) (hI1_h.out.below hal) (fun b hb hb' => by
        have h1 := hO_h.out.sl.lt b hb'
        have h2 := hO_h.out.new b hb'
        rcases hfp1_h.out b hb with h3 | h3
        · have := hBlt_h.out b h3; omega
        · omega) (by rw [hgl_h.out]) (by show Sl w3 _ 1 A3 (k + 1) c3 (gs.map Hd.val ++ [.slice B1 (g l).length d1]); rw [← hr_h.out]; exact hsA3) hA3 hkA3
      clear hsA3 hA3 hkA3
      have hO2_h := Lib.hid hO2
      clear hO2
      go_roundw
      case rel => exact ⟨k + 1, A3, c3, gs ++ [(B1, d1, g l)], by omega, by go_num, rfl, by rw [List.length_append, hgl_h.out]; rfl, by rw [List.map_append, hgm_h.out, List.take_add_one, hx_h.out]; simp, hO2_h.out⟩
      case measure => simp [intOf]; omega
    · obtain rfl : k = m := by omega
      have hgm2 : gs.map (fun h : Hd => h.2.2) = hs.map (fun h : Hd => g h.2.2) := by rw [hgm, List.take_of_length_le (by rw [← hm_h.out]; exact Nat.le_refl _)]
      clear hgm
      have hgl_h := Lib.hid hgl
      have hgm2_h := Lib.hid hgm2
      have hO_h := Lib.hid hO
      clear hgl hgm2 hO
      go_wp2_with (fail)
      go_ret
      exact ⟨A', c', gs, rfl, hgm2_h.out, hO_h.out⟩

set_option maxRecDepth 100000 in
set_option maxHeartbeats 1000000 in
theorem relation_any (p a b : Int) (n : Nat) (A : Option Addr) (c : Nat) (hs : List Hd) (w : World) (h : RdR w A hs) (hp : fieldB p = true) (hn : a + b = (n : Int)) (hm : Mat p hs.length n (hs.map fun h : Hd => h.2.2)) (hl : hs.length ≤ 1048576) (hn' : n ≤ 1048576) :
    Calls Tryd.prog 140 #[.int .i64 p, .int .i64 a, .int .i64 b, .slice A hs.length c] w fun e w' => ∃ v' fp, e = .returned v' ∧ OwSys w' v' (a, b, redM p n (hs.map fun h : Hd => h.2.2)) fp ∧ FreshL w.heap.size fp ∧ Below w.heap.size w w' := by
  obtain ⟨W, hW, hB0, k0⟩ := alloc_box w (.cells #[.int .i64 0, .int .i64 0, .slice none 0 0] tRel)
  have hC := reduced_any p n A c hs W (h.below hB0) hp hm hl hn'
  obtain ⟨R, hR⟩ : ∃ R, R = redM p n (hs.map fun h : Hd => h.2.2) := ⟨_, rfl⟩
  rw [← hR] at hC ⊢
  rw [← hn] at hC
  have hwr : IntKind.i64.wrap (a + b) = a + b := IntWalk.i64_in _ (by omega)
  clear h hm hp hn
  have hC_h := Lib.hid hC
  have hB0_h := Lib.hid hB0
  have k0_h := Lib.hid k0
  have hR_h := Lib.hid hR
  clear hC hB0 k0 hR
  go_enter Tryd.func140, Tryd.ntmps140
  go_upto_region 1 with (fail)
  rw [← hW]
  clear hW
  go_wp2_with (fail)
  refine (hC_h.out).mono ?_
  rintro e w1 hret
  obtain ⟨A1, c1, rfl, hO1⟩ := hret.om
  have k1 := box_below k0_h.out hO1.below_
  have hB1 := below_trans hB0_h.out hO1.below_ hB0_h.out.size
  obtain ⟨⟨d0, d1, d2⟩, g0, g1, g2⟩ := box3 k1
  obtain ⟨s1, s2⟩ := set3 (a := .int .i64 a) (b := .int .i64 b) (c := .slice A1 R.length c1) k1
  have hw0 := (Array.getElem?_eq_some_iff.1 k0_h.out).1
  have hB3 := below_keeps hB1 s2 hB1.size (fun k hk => by omega)
  have hBs := hB0_h.out.size
  clear hret k1 hB1
  have s1_h := Lib.hid s1
  have s2_h := Lib.hid s2
  have hO1_h := Lib.hid hO1
  have hB3_h := Lib.hid hB3
  clear s1 s2 hO1 hB3
  go_wp2_with (fail)
  refine bodyPost_ret (results_cell_row rfl _ _ w.heap.size _ _ (0, 0) _ rfl s1_h.out Tryd.underlying51 rfl (by kernel_rfl)) rfl ?_
  obtain ⟨fp, h1, h2⟩ := OwSys.of_ret (a := a) (b := b) hO1_h.out s2_h.out (fun k hk => by omega) rfl
  exact ⟨_, fp, rfl, h1, h2.mono hBs, hB3_h.out⟩
theorem OwMt.of_ret {w0 w : World} {L : List (List Int)} {A : Option Addr} {c : Nat} {a : Int} (h : OM w0 w A c L) {w' : World} {S : Nat → Prop} (hk : Keeps S w w') (hS : ∀ k, S k → k < w0.heap.size) {n : Nat} (hn : L.length = n) : ∃ fp, OwMt w' (.agg #[.int .i64 a, .slice A n c]) (a, L) fp ∧ FreshL w0.heap.size fp := by
  subst hn
  obtain ⟨fp, h1, h2⟩ := OwMt.of_om (a := a) h
  exact ⟨fp, h1.keeps hk fun k hk' hs => by have := h2 k hk'; have := hS k hs; omega, h2⟩
set_option maxRecDepth 100000 in
set_option maxHeartbeats 1000000 in
theorem span_any (p : Int) (n : Nat) (A : Option Addr) (c : Nat) (hs : List Hd) (w : World) (h : RdR w A hs) (hp : fieldB p = true) (hm : Mat p hs.length n (hs.map fun h : Hd => h.2.2)) (hl : hs.length ≤ 1048576) (hn' : n ≤ 1048576) :
    Calls Tryd.prog 95 #[.int .i64 p, .int .i64 n, .slice A hs.length c] w fun e w' => ∃ v' fp, e = .returned v' ∧ OwMt w' v' ((n : Int), redM p n (hs.map fun h : Hd => h.2.2)) fp ∧ FreshL w.heap.size fp ∧ Below w.heap.size w w' := by
  obtain ⟨W, hW, hB0, k0⟩ := alloc_box w (.cells #[.int .i64 0, .slice none 0 0] tSpc)
  have hC := reduced_any p n A c hs W (h.below hB0) hp hm hl hn'
  obtain ⟨R, hR⟩ : ∃ R, R = redM p n (hs.map fun h : Hd => h.2.2) := ⟨_, rfl⟩
  rw [← hR] at hC ⊢
  clear h hm hp
  have hC_h := Lib.hid hC
  have hB0_h := Lib.hid hB0
  have k0_h := Lib.hid k0
  have hR_h := Lib.hid hR
  clear hC hB0 k0 hR
  go_enter Tryd.func95, Tryd.ntmps95
  go_upto_region 1 with (fail)
  rw [← hW]
  clear hW
  go_wp2_with (fail)
  refine (hC_h.out).mono ?_
  rintro e w1 hret
  obtain ⟨A1, c1, rfl, hO1⟩ := hret.om
  have k1 := box_below k0_h.out hO1.below_
  have hB1 := below_trans hB0_h.out hO1.below_ hB0_h.out.size
  obtain ⟨⟨d0, d1⟩, g0, g1⟩ := box2 k1
  obtain ⟨s1, s2⟩ := set2 (a := .int .i64 (n : Int)) (b := .slice A1 R.length c1) k1
  have hw0 := (Array.getElem?_eq_some_iff.1 k0_h.out).1
  have hB3 := below_keeps hB1 s2 hB1.size (fun k hk => by omega)
  have hBs := hB0_h.out.size
  clear hret k1 hB1
  have s1_h := Lib.hid s1
  have s2_h := Lib.hid s2
  have hO1_h := Lib.hid hO1
  have hB3_h := Lib.hid hB3
  clear s1 s2 hO1 hB3
  go_wp2_with (fail)
  refine bodyPost_ret (results_cell_row rfl _ _ w.heap.size _ _ (0, 0) _ rfl s1_h.out Tryd.underlying48 rfl (by kernel_rfl)) rfl ?_
  obtain ⟨fp, h1, h2⟩ := OwMt.of_ret (a := (n : Int)) hO1_h.out s2_h.out (fun k hk => by omega) rfl
  exact ⟨_, fp, rfl, h1, h2.mono hBs, hB3_h.out⟩
end Go.Proofs.YtpfidjegdpkhdaaDoor
namespace Go.Proofs.YtpfidjegdpkhdaaDoor
open Go.RowKit

theorem alloc2 (w : World) (o o' : Obj) : ∃ W, W = (w.alloc o).alloc o' ∧ Below w.heap.size w W ∧ W.heap[w.heap.size]? = some o ∧ W.heap[w.heap.size + 1]? = some o' := by
  refine ⟨_, rfl, ((Below.refl _ _).alloc (Nat.le_refl _) _).alloc (by simp) _, box_below (heap_alloc_new w _) (below_alloc _ _), ?_⟩
  have := heap_alloc_new (w.alloc o) o'
  rwa [World.size_alloc] at this
theorem RdO.nil (w W : World) (hb : Below w.heap.size w W) : RdO w W none 0 [] := ⟨Sl.nil _ _ _, fun x hx => (by cases hx), fun x hx => (by cases hx), fun b hb' => (by simp at hb'), hb⟩
def partV (f r : Nat) (u : List Int) : List Int := (u.drop f).take r
theorem partV_len {f r n : Nat} {u : List Int} (h : u.length = n) (hr : f + r ≤ n) : (partV f r u).length = r := by unfold partV; rw [List.length_take, List.length_drop]; omega
theorem partV_mat {p : Int} {m n f r : Nat} {L : List (List Int)} (h : Mat p m n L) (hr : f + r ≤ n) : Mat p m r (L.map (partV f r)) :=
  h.map fun _ hv hx => ⟨partV_len hv hr, fun x hx' => hx x (List.mem_of_mem_drop (List.mem_of_mem_take hx'))⟩
theorem part_first {p : Int} {s : Sys} (_h : RelOk p s) : s.2.2.map (partV 0 s.1.toNat) = firstM s := by
  unfold firstM partV; simp
theorem part_second {p : Int} {s : Sys} (h : RelOk p s) : s.2.2.map (partV s.1.toNat s.2.1.toNat) = secondM s := by
  unfold secondM
  refine List.map_congr_left fun v hv => ?_
  have := (h.row hv).1
  have h1 := h.lo
  have h2 := h.hi
  unfold partV
  rw [List.take_of_length_le (by rw [List.length_drop]; omega)]

set_option maxRecDepth 8000 in
set_option maxHeartbeats 2000000 in
theorem rlPart_any (p : Int) {v : Value} {s : Sys} {fp : List Nat} (f t r : Nat) (w : World) (h : OwSys w v s fp) (hs : RelOk p s) (hft : t = f + r) (ht : (t : Int) ≤ s.1 + s.2.1) :
    Calls Tryd.prog 93 #[.int .i64 p, v, .int .i64 f, .int .i64 t] w fun e w' => ∃ v' fp', e = .returned v' ∧ OwMt w' v' ((r : Int), redM p r (s.2.2.map (partV f r))) fp' ∧ FreshL w.heap.size fp' ∧ Below w.heap.size w w' := by
  obtain ⟨A, c, gs, rfl, hL, hO, rfl⟩ := h
  have hmat := partV_mat (f := f) (r := r) hs.mat (by have := hs.lo; have := hs.hi; omega)
  obtain ⟨a, b, L⟩ := s
  have h0 : 0 ≤ a := hs.lo
  have h1 : 0 ≤ b := hs.hi
  have h2 : a + b ≤ 24 := hs.sum
  have hfld : fieldB p = true := hs.fld
  have hrow : ∀ u, u ∈ L → (u.length : Int) = a + b ∧ Res p u := fun u hu => hs.row hu
  have hlen : (L.length : Int) ≤ a + b := hs.len
  clear hs
  obtain ⟨na, rfl⟩ : ∃ na : Nat, a = (na : Int) := ⟨a.toNat, by omega⟩
  obtain ⟨nb, rfl⟩ : ∃ nb : Nat, b = (nb : Int) := ⟨b.toNat, by omega⟩
  have hL' : L = gs.map (fun h : Hd => h.2.2) := hL
  clear hL
  obtain ⟨m, hm⟩ : ∃ m, m = gs.length := ⟨_, rfl⟩
  have hLm : L.length = m := by rw [hL', List.length_map, hm]
  have hm24 : (m : Int) ≤ 24 := by have := hlen; rw [hLm] at this; omega
  have hfr : f + r ≤ na + nb := by have : (t : Int) ≤ na + nb := ht; omega
  have hft' : f ≤ t := by omega
  have hrt0 : t - f = r := by omega
  have ht' : t ≤ na + nb := by have : (t : Int) ≤ na + nb := ht; omega
  clear ht
  obtain ⟨X, hX⟩ : ∃ X, X = L.map (partV f r) := ⟨_, rfl⟩
  have hmat' : Mat p X.length r X := by rw [hX, List.length_map]; exact hmat
  obtain ⟨R, hR⟩ : ∃ R, R = redM p r X := ⟨_, rfl⟩
  have hgoal : redM p r (L.map (partV f r)) = R := by rw [hR, hX]
  show Calls Tryd.prog _ #[.int .i64 p, .agg #[.int .i64 (na : Int), .int .i64 (nb : Int), .slice A gs.length c], .int .i64 f, .int .i64 t] w fun e w' => ∃ v' fp', e = .returned v' ∧ OwMt w' v' ((r : Int), redM p r (L.map (partV f r))) fp' ∧ FreshL w.heap.size fp' ∧ Below w.heap.size w w'
  rw [hgoal, ← hm]
  obtain ⟨W, hW, b0, k0, k1⟩ := alloc2 w (.cells #[.int .i64 (na : Int), .int .i64 (nb : Int), .slice A m c] tRel) (.cells #[.int .i64 0, .slice none 0 0] tSpc)
  have hO0 := hO.below b0
  have hz0 := box_lt k0
  have hz1 := box_lt k1
  have hN0 := RdO.nil W W (Below.refl _ _)
  obtain ⟨⟨c0, c1, c2⟩, f0, f1, f2⟩ := box3 k0
  have hte : (t : Int) - (f : Int) = (r : Int) := by omega
  have htw : IntKind.i64.wrap ((t : Int) - (f : Int)) = (t : Int) - (f : Int) := IntWalk.i64_in _ (by omega)
  clear hO hmat hgoal
  have hL'_h := Lib.hid hL'
  have hm_h := Lib.hid hm
  have hLm_h := Lib.hid hLm
  have b0_h := Lib.hid b0
  have k0_h := Lib.hid k0
  have k1_h := Lib.hid k1
  have hO0_h := Lib.hid hO0
  have hrow_h := Lib.hid hrow
  have hlen_h := Lib.hid hlen
  have hfld_h := Lib.hid hfld
  have hmat'_h := Lib.hid hmat'
  have hX_h := Lib.hid hX
  have hR_h := Lib.hid hR
  have hN0_h := Lib.hid hN0
  have hte_h := Lib.hid hte
  have hft_h := Lib.hid hft
  have hrt0_h := Lib.hid hrt0
  clear hL' hm hLm b0 k0 k1 hO0 hrow hlen hfld hmat' hX hR hN0 hte hft hrt0
  go_enter Tryd.func93, Tryd.ntmps93
  go_upto_region 1 with (fail)
  rw [← hW]
  clear hW
  go_wp2_with (fail)
  clear c0 c1 c2 f0 f1 f2
  go_loopw [15, 9] (fun i v wr => ∃ (k : Nat) (A' : Option Addr) (c' : Nat) (ys : List Hd), k ≤ m ∧ i = .int .i64 k ∧ v = .slice A' k c' ∧ ys.length = k ∧ ys.map (fun h : Hd => h.2.2) = (L.take k).map (partV f r) ∧ RdO W wr A' c' ys) (fun i _ _ => m - (intOf i).toNat)
  case atStart => exact ⟨0, none, 0, [], Nat.zero_le _, rfl, rfl, rfl, rfl, hN0_h.out⟩
  case round =>
    obtain ⟨k, A', c', ys, hk, rfl, rfl, hyl, hym, hO⟩ := hrel
    by_cases hlt : k < m
    · have hOr := hO0_h.out.below hO.below_
      obtain ⟨ad, B, d, u, rfl, hx, hc, _⟩ := hOr.rd.at_ (k := k) (by rw [← hm_h.out]; exact hlt)
      have hyL : L[k]? = some u := by rw [hL'_h.out, List.getElem?_map, hx]; rfl
      have hul : u.length = na + nb := by have := (hrow_h.out _ (List.mem_of_getElem? hyL)).1; omega
      have hI : Sl wr 3 1 B (na + nb) d (ints u) := by have := hOr.rows _ (List.mem_of_getElem? hx); unfold IS at this; rwa [hul] at this
      have hBlt : ∀ b, b ∈ fpA B → b < W.heap.size := fun b hb => (hO0_h.out.rows _ (List.mem_of_getElem? hx)).lt b hb
      have hcap := hI.2.1
      rw [hul] at hc
      have hpl : (partV f r u).length = r := partV_len hul hfr
      have hkI : (k : Int) < (m : Int) := by omega
      have hrt := hrt0_h.out
      have hSL : ∀ o, Sl (wr.alloc o) 37 1 A' k c' (ys.map Hd.val) := fun o => by
        have := hO.sl.alloc o
        rwa [hyl] at this
      clear hOr hx
      have hyL_h := Lib.hid hyL
      have hul_h := Lib.hid hul
      have hyl_h := Lib.hid hyl
      have hym_h := Lib.hid hym
      have hO_h := Lib.hid hO
      have hBlt_h := Lib.hid hBlt
      have hpl_h := Lib.hid hpl
      have hSL_h := Lib.hid hSL
      have hrt_h := Lib.hid hrt
      clear hyL hul hyl hym hO hBlt hpl hSL hrt
      go_wp2_with (first
        | (refine wpList_slice_Sl rfl (.tmp 20) (some (.tmp 21)) (some (.tmp 22)) none 37 rfl 3 Tryd.underlying37 info_int rfl hI f t d (optSome rfl) (optSome rfl) (optNone rfl) hft' ht' (by omega) (Nat.le_refl _) ?_; intro A2 hcut hfp _)
        | (at_builtin; refine wpList_append_Sl _ rfl _ _ _ rfl 37 Tryd.underlying22 info_ints rfl (by omega) rfl (hSL_h.out (.cells #[.slice A2 (t - f) (d - f)] 37)) rfl (news := [.slice A2 (t - f) (d - f)]) rfl (Sl.rdc (Sl.laid wr 37 1 1 #[.slice A2 (t - f) (d - f)] (by unfold maxLen; omega) rfl)) (by intro u hu; simp at hu; subst hu; rfl) (by unfold maxLen; omega) (by omega) ?_; intro A3 c3 w3 hsA3 hA3 hkA3))
      have hcut' : IS wr A2 (d - f) (partV f r u) := by
        unfold IS
        rw [hpl_h.out]
        have e : ((ints u).drop (f * 1)).take (r * 1) = ints (partV f r u) := by simp [ints, partV, List.map_take, List.map_drop]
        rw [← e, ← hrt_h.out]; exact hcut
      clear hcut
      rw [hrt_h.out] at hsA3
      have hcut'_h := Lib.hid hcut'
      have hfp_h := Lib.hid hfp
      clear hcut' hfp
      have hO2 := hO_h.out.snoc (below_alloc wr _) (x := (A2, d - f, partV f r u)) (hcut'_h.out.below (below_alloc wr _)) (fun b hb hb' => by
        have h1 := hO_h.out.new b hb'
        have := hBlt_h.out b (hfp_h.out b hb)
        omega) (by rw [hyl_h.out]) (by show Sl w3 _ 1 A3 (k + 1) c3 (ys.map Hd.val ++ [.slice A2 (partV f r u).length (d - f)]); rw [hpl_h.out]; exact hsA3) hA3 hkA3
      clear hsA3 hA3 hkA3
      have hO2_h := Lib.hid hO2
      clear hO2
      go_roundw
      case rel => exact ⟨k + 1, A3, c3, ys ++ [(A2, d - f, partV f r u)], by omega, by go_num, rfl, by rw [List.length_append, hyl_h.out]; rfl, by rw [List.map_append, hym_h.out, List.take_add_one, hyL_h.out]; simp, hO2_h.out⟩
      case measure => simp [intOf]; omega
    · obtain rfl : k = m := by omega
      have hym2 : ys.map (fun h : Hd => h.2.2) = X := by rw [hym, List.take_of_length_le (by rw [hLm_h.out]; exact Nat.le_refl _), hX_h.out]
      have hC := spReduce_any p r A' c' ys wr hO.rdr hfld_h.out (by rw [hym2]; have := hmat'_h.out; rwa [show X.length = ys.length by rw [← hym2, List.length_map]] at this) (by omega) (by omega)
      rw [hym2, ← hR_h.out, hyl, ← hte_h.out] at hC
      have k1r := box_below k1_h.out hO.below_
      have hBr := below_trans b0_h.out hO.below_ b0_h.out.size
      have hzr := hO.below_.size
      clear hym hym2 hyl hO
      have hC_h := Lib.hid hC
      have k1r_h := Lib.hid k1r
      have hBr_h := Lib.hid hBr
      clear hC k1r hBr
      go_wp2_with (fail)
      refine (hC_h.out).mono ?_
      rintro e w1 hret
      obtain ⟨A1, c1, rfl, hO1⟩ := hret.om
      have k1' := box_below k1r_h.out hO1.below_
      have hB1 := below_trans hBr_h.out hO1.below_ hBr_h.out.size
      obtain ⟨⟨d0, d1⟩, g0, g1⟩ := box2 k1'
      obtain ⟨s1, s2⟩ := set2 (a := .int .i64 ((t : Int) - (f : Int))) (b := .slice A1 R.length c1) k1'
      have hB3 := below_keeps hB1 s2 hB1.size (fun k hk => by omega)
      have hBs := hBr_h.out.size
      clear hret k1' hB1
      have s1_h := Lib.hid s1
      have s2_h := Lib.hid s2
      have hO1_h := Lib.hid hO1
      have hB3_h := Lib.hid hB3
      clear s1 s2 hO1 hB3
      go_wp2_with (fail)
      refine bodyPost_ret (results_cell_row rfl _ _ (w.heap.size + 1) _ _ (0, 0) _ rfl s1_h.out Tryd.underlying48 rfl (by kernel_rfl)) rfl ?_
      obtain ⟨fp, h1, h2⟩ := OwMt.of_ret (a := (t : Int) - (f : Int)) hO1_h.out s2_h.out (fun k hk => by omega) rfl
      exact ⟨_, fp, rfl, by rw [← hte_h.out]; exact h1, h2.mono hBs, hB3_h.out⟩

theorem first_each {na n : Nat} {b : Int} {V : Value} (hV : V.oneCell' = true) {w : World} {x : Hd} (hx : IS w x.1 x.2.1 x.2.2) (hl : x.2.2.length = n) (hn : na ≤ n) : ∀ W', Below w.heap.size w W' → Calls Tryd.prog 137 (#[Value.agg #[.int .i64 na, .int .i64 b, V]].push (.slice x.1 x.2.2.length x.2.1) ++ #[]) W' fun e w'' => ∃ B c', e = .returned (.slice B (partV 0 na x.2.2).length c') ∧ IS w'' B c' (partV 0 na x.2.2) ∧ (∀ b, b ∈ fpA B → b ∈ fpA x.1 ∨ W'.heap.size ≤ b) ∧ Below W'.heap.size W' w'' := by
  intro W' hb
  have h0 : Sl W' 3 1 x.1 x.2.2.length x.2.1 (ints x.2.2) := hx.below hb
  have hp : partV 0 na x.2.2 = x.2.2.take na := by simp [partV]
  have hp2 : (x.2.2.take na).length = na := by rw [List.length_take]; omega
  have := first_any na b V hV x.1 x.2.1 x.2.2.length x.2.2 W' h0 (by omega)
  refine Calls.mono ?_ (fun e w'' h => h)
  simp only [List.push_toArray, List.cons_append, List.nil_append, Array.append_empty]
  refine this.mono ?_
  rintro e w2 ⟨B', rfl, hS, hf, hb2⟩
  exact ⟨B', x.2.1, by rw [hp, hp2], by unfold IS; rw [hp, hp2]; exact hS, fun b hb => .inl (hf b hb), hb2⟩
theorem second_each {na r n : Nat} {b : Int} {V : Value} (hV : V.oneCell' = true) {w : World} {x : Hd} (hx : IS w x.1 x.2.1 x.2.2) (hl : x.2.2.length = n) (hn : n = na + r) : ∀ W', Below w.heap.size w W' → Calls Tryd.prog 97 (#[Value.agg #[.int .i64 na, .int .i64 b, V]].push (.slice x.1 x.2.2.length x.2.1) ++ #[]) W' fun e w'' => ∃ B c', e = .returned (.slice B (partV na r x.2.2).length c') ∧ IS w'' B c' (partV na r x.2.2) ∧ (∀ b, b ∈ fpA B → b ∈ fpA x.1 ∨ W'.heap.size ≤ b) ∧ Below W'.heap.size W' w'' := by
  intro W' hb
  have h0 : Sl W' 3 1 x.1 x.2.2.length x.2.1 (ints x.2.2) := hx.below hb
  have hp : partV na r x.2.2 = x.2.2.drop na := by unfold partV; rw [List.take_of_length_le (by rw [List.length_drop]; omega)]
  have hp2 : (x.2.2.drop na).length = r := by rw [List.length_drop]; omega
  have := second_any na b V hV x.1 x.2.1 x.2.2.length r x.2.2 W' h0 (by omega)
  refine Calls.mono ?_ (fun e w'' h => h)
  simp only [List.push_toArray, List.cons_append, List.nil_append, Array.append_empty]
  refine this.mono ?_
  rintro e w2 ⟨B', c', rfl, hS, hf, hb2⟩
  exact ⟨B', c', by rw [hp, hp2], by unfold IS; rw [hp, hp2]; exact hS, fun b hb => .inl (hf b hb), hb2⟩
end Go.Proofs.YtpfidjegdpkhdaaDoor
namespace Go.Proofs.YtpfidjegdpkhdaaDoor
open Go.RowKit

set_option maxRecDepth 8000 in
set_option maxHeartbeats 2000000 in
theorem domain_any (p : Int) {v : Value} {s : Sys} {fp : List Nat} (w : World) (h : OwSys w v s fp) (hs : RelOk p s) :
    Calls Tryd.prog 98 #[.int .i64 p, v] w fun e w' => ∃ v' fp', e = .returned v' ∧ OwMt w' v' (s.1, redM p s.1.toNat (firstM s)) fp' ∧ FreshL w.heap.size fp' ∧ Below w.heap.size w w' := by
  have hpf := part_first hs
  have hmat0 := partV_mat (f := 0) (r := s.1.toNat) hs.mat (by have := hs.lo; have := hs.hi; omega)
  obtain ⟨A, c, gs, rfl, hL, hO, rfl⟩ := h
  obtain ⟨a, b, L⟩ := s
  have h0 : 0 ≤ a := hs.lo
  have h1 : 0 ≤ b := hs.hi
  have h2 : a + b ≤ 24 := hs.sum
  have hfld : fieldB p = true := hs.fld
  have hrow : ∀ u, u ∈ L → (u.length : Int) = a + b ∧ Res p u := fun u hu => hs.row hu
  have hlen : (L.length : Int) ≤ a + b := hs.len
  clear hs
  obtain ⟨na, rfl⟩ : ∃ na : Nat, a = (na : Int) := ⟨a.toNat, by omega⟩
  obtain ⟨nb, rfl⟩ : ∃ nb : Nat, b = (nb : Int) := ⟨b.toNat, by omega⟩
  have hL' : L = gs.map (fun h : Hd => h.2.2) := hL
  clear hL
  obtain ⟨m, hm⟩ : ∃ m, m = gs.length := ⟨_, rfl⟩
  have hLm : L.length = m := by rw [hL', List.length_map, hm]
  have hm24 : (m : Int) ≤ 24 := by have := hlen; rw [hLm] at this; omega
  have hgr : ∀ x, x ∈ gs → x.2.2.length = na + nb := fun x hx => by have := (hrow _ (by rw [hL']; exact List.mem_map_of_mem hx)).1; omega
  obtain ⟨X, hX⟩ : ∃ X, X = L.map (partV 0 na) := ⟨_, rfl⟩
  have hmat : Mat p X.length na X := by rw [hX, List.length_map]; exact hmat0
  have hgoal : firstM ((na : Int), (nb : Int), L) = X := by rw [hX]; exact hpf.symm
  obtain ⟨R, hR⟩ : ∃ R, R = redM p na X := ⟨_, rfl⟩
  show Calls Tryd.prog _ #[.int .i64 p, .agg #[.int .i64 (na : Int), .int .i64 (nb : Int), .slice A gs.length c]] w fun e w' => ∃ v' fp', e = .returned v' ∧ OwMt w' v' ((na : Int), redM p na (firstM ((na : Int), (nb : Int), L))) fp' ∧ FreshL w.heap.size fp' ∧ Below w.heap.size w w'
  rw [hgoal, ← hR, ← hm]
  have hEa := fun (W' : World) (hb : Below w.heap.size w W') => each_any 137 #[.agg #[.int .i64 (na : Int), .int .i64 (nb : Int), .slice A m c]] #[] (partV 0 na) (na : Int) (nb : Int) A c gs W' (hO.below hb).rd (hO.below hb).rows (by omega) (fun _ _ => rfl) (fun x hx => first_each rfl ((hO.below hb).rows x hx) (hgr x hx) (by omega))
  simp only [← hm] at hEa
  obtain ⟨W, hW, b0, k0, k1⟩ := alloc2 w (.cells #[.int .i64 (na : Int), .int .i64 (nb : Int), .slice A m c] tRel) (.cells #[.int .i64 0, .slice none 0 0] tSpc)
  clear hO hmat0 hgoal hpf hgr
  have hmf : ∀ (fn : Fn) (first cap : Array Value) (w : World), (Instr.makeFunc fn first cap).run Tryd.prog w = .ok (.func fn first cap) w := fun _ _ _ _ => rfl
  have hL'_h := Lib.hid hL'
  have hm_h := Lib.hid hm
  have hLm_h := Lib.hid hLm
  have k0_h := Lib.hid k0
  have k1_h := Lib.hid k1
  have b0_h := Lib.hid b0
  have hrow_h := Lib.hid hrow
  have hlen_h := Lib.hid hlen
  have hfld_h := Lib.hid hfld
  have hmat_h := Lib.hid hmat
  have hX_h := Lib.hid hX
  have hR_h := Lib.hid hR
  have hEa_h := Lib.hid hEa
  clear hL' hm hLm k0 k1 b0 hrow hlen hfld hmat hX hR hEa
  go_enter Tryd.func98, Tryd.ntmps98
  go_wp2_with (fail)
  rw [← hW]
  clear hW
  have hbd : Below W.heap.size W W.drew := below_drewN (Below.refl _ _) 1
  refine beginH (fun w' => w'.heap[w.heap.size]? = some (.cells #[.int .i64 (na : Int), .int .i64 (nb : Int), .slice A m c] tRel)) (by kernel_rfl) ?_
  generalize W.drew = W1 at hbd ⊢
  replace k0_h := Lib.hid (box_below k0_h.out hbd)
  replace k1_h := Lib.hid (box_below k1_h.out hbd)
  have hB1 := below_trans b0_h.out hbd b0_h.out.size
  have hw1 : w.heap.size + 1 < W1.heap.size := (Array.getElem?_eq_some_iff.1 k1_h.out).1
  have hbd_h := Lib.hid hbd
  have hB1_h := Lib.hid hB1
  clear hbd hB1
  refine takeH 0 (v := ?_) rfl (by kernel_rfl) (by kernel_rfl) (by kernel_rfl) (fun _ _ _ h => h) k0_h.out (by rfl) (fun W' hW' => ?_) ?_; rotate_left; · (obtain ⟨⟨y0, y1, y2⟩, y3, y4, y5⟩ := box3 hW'; clear hW'; go_simp; first | done | with_reducible rfl)
  simp only [Act.put, List.setIfInBounds_toArray, List.set_cons_zero, List.set_cons_succ]
  refine takeH 1 (v := ?_) rfl (by kernel_rfl) (by kernel_rfl) (by kernel_rfl) (fun _ _ _ h => h) k0_h.out (by rfl) (fun W' hW' => ?_) ?_; rotate_left; · (obtain ⟨⟨y0, y1, y2⟩, y3, y4, y5⟩ := box3 hW'; clear hW'; go_simp; first | done | with_reducible rfl)
  simp only [Act.put, List.setIfInBounds_toArray, List.set_cons_zero, List.set_cons_succ]
  refine takeH 2 (v := ?_) rfl (by kernel_rfl) (by kernel_rfl) (by kernel_rfl) (fun _ _ _ h => h) k0_h.out (by rfl) (fun W' hW' => ?_) ?_; rotate_left; · (obtain ⟨⟨y0, y1, y2⟩, y3, y4, y5⟩ := box3 hW'; clear hW'; go_simp; first | done | with_reducible rfl)
  simp only [Act.put, List.setIfInBounds_toArray, List.set_cons_zero, List.set_cons_succ]
  refine takeH 3 (v := ?_) rfl (by kernel_rfl) (by kernel_rfl) (by kernel_rfl) (fun _ _ _ h => h) k0_h.out (by rfl) (fun W' hW' => ?_) ?_; rotate_left; · (obtain ⟨⟨y0, y1, y2⟩, y3, y4, y5⟩ := box3 hW'; clear hW'; go_simp; first | done | with_reducible rfl)
  simp only [Act.put, List.setIfInBounds_toArray, List.set_cons_zero, List.set_cons_succ]
  refine takeH 4 (v := ?_) rfl (by kernel_rfl) (by kernel_rfl) (by kernel_rfl) (fun _ _ _ h => h) k0_h.out (by rfl) (fun W' hW' => ?_) ?_; rotate_left; · (obtain ⟨⟨y0, y1, y2⟩, y3, y4, y5⟩ := box3 hW'; clear hW'; go_simp; first | done | with_reducible rfl)
  simp only [Act.put, List.setIfInBounds_toArray, List.set_cons_zero, List.set_cons_succ]
  refine takeH 5 (v := ?_) rfl (by kernel_rfl) (by kernel_rfl) (by kernel_rfl) (fun _ _ _ h => h) k0_h.out (by rfl) (fun W' hW' => ?_) ?_; rotate_left; · (skip; clear hW'; go_simp; first | done | with_reducible rfl)
  simp only [Act.put, List.setIfInBounds_toArray, List.set_cons_zero, List.set_cons_succ]
  refine' callH 6 (f := _) (args := _) rfl (by kernel_rfl) (by rfl) ?_ ?_; rotate_left 2; · (go_simp; first | done | with_reducible rfl | (constructor <;> with_reducible rfl))
  refine (hEa_h.out W1 hB1_h.out).mono ?_
  rintro e w2 ⟨A1, c1, g1, rfl, hg1, hO1⟩
  replace k0_h := Lib.hid (box_below k0_h.out hO1.below_)
  replace k1_h := Lib.hid (box_below k1_h.out hO1.below_)
  have hz2 := box_lt k1_h.out
  refine ⟨_, rfl, k0_h.out, ?_⟩
  simp only [Act.put, List.setIfInBounds_toArray, List.set_cons_zero, List.set_cons_succ]
  have hg2 : g1.map (fun h : Hd => h.2.2) = X := by rw [hg1, hX_h.out, hL'_h.out, List.map_map]; rfl
  have hgl : g1.length = m := by have := congrArg List.length hg2; rwa [List.length_map, hX_h.out, List.length_map, hLm_h.out] at this
  have hXl : X.length = m := by rw [hX_h.out, List.length_map, hLm_h.out]
  have hC := span_any p na A1 c1 g1 w2 hO1.rdr hfld_h.out (by rw [hg2, hgl, ← hXl]; exact hmat_h.out) (by omega) (by omega)
  rw [hg2, ← hR_h.out, hgl] at hC
  have hB2 := below_trans hB1_h.out hO1.below_ hB1_h.out.size
  clear hg1 hg2 hgl hXl hO1
  have hC_h := Lib.hid hC
  have hB2_h := Lib.hid hB2
  clear hC hB2
  refine' callH 7 (f := _) (args := _) rfl (by kernel_rfl) (by rfl) ?_ ?_; rotate_left 2; · (go_simp; first | done | with_reducible rfl | (constructor <;> with_reducible rfl))
  refine (hC_h.out).mono ?_
  rintro e w3 ⟨v3, fp3, rfl, hO3, hf3, hb3⟩
  replace k0_h := Lib.hid (box_below k0_h.out hb3)
  replace k1_h := Lib.hid (box_below k1_h.out hb3)
  refine ⟨_, rfl, k0_h.out, ?_⟩
  simp only [Act.put, List.setIfInBounds_toArray, List.set_cons_zero, List.set_cons_succ]
  obtain ⟨A3, n3, c3, rfl⟩ := hO3.shape
  have hB3 := below_trans hB2_h.out hb3 hB2_h.out.size
  have hBs := hB2_h.out.size
  have hw0 := hB1_h.out.size
  have hw2 := hb3.size
  have hz3 : w.heap.size + 1 < w3.heap.size := (Array.getElem?_eq_some_iff.1 k1_h.out).1
  obtain ⟨⟨d0, d1⟩, g0, g1'⟩ := box2 k1_h.out
  obtain ⟨s1, s2⟩ := set2 (a := .int .i64 (na : Int)) (b := .slice A3 n3 c3) k1_h.out
  have k0' := box_keeps k0_h.out s2 (by omega)
  have hO4 := hO3.keeps s2 (fun k hk e => by have := hf3 k hk; omega)
  have hB4 := below_keeps hB3 s2 hB3.size (fun k hk => by omega)
  have hf4 := hf3.mono hBs
  clear hO3 hf3 hb3 hB3
  have s1_h := Lib.hid s1
  have s2_h := Lib.hid s2
  have k0'_h := Lib.hid k0'
  have hO4_h := Lib.hid hO4
  have hB4_h := Lib.hid hB4
  have hf4_h := Lib.hid hf4
  clear s1 s2 k0' hO4 hB4 hf4
  refine oneH 8 rfl (by kernel_rfl) (by rfl) (fun K hK => ?_)
  go_simp
  refine hK _ _ k0'_h.out ?_
  clear hK K
  refine doneH (by kernel_rfl) ?_
  go_wp2_with (fail)
  refine bodyPost_ret (results_cell_row rfl _ _ (w.heap.size + 1) _ _ (0, 0) _ rfl s1_h.out Tryd.underlying48 rfl (by kernel_rfl)) rfl ?_
  exact ⟨_, rfl, fp3, hO4_h.out, hf4_h.out, hB4_h.out⟩

theorem rlPartF_any (p : Int) {v : Value} {s : Sys} {fp : List Nat} (w : World) (h : OwSys w v s fp) (hs : RelOk p s) :
    Calls Tryd.prog 93 #[.int .i64 p, v, .int .i64 0, .int .i64 s.1] w fun e w' => ∃ v' fp', e = .returned v' ∧ OwMt w' v' (s.1, redM p s.1.toNat (firstM s)) fp' ∧ FreshL w.heap.size fp' ∧ Below w.heap.size w w' := by
  have h0 := hs.lo
  have h1 := hs.hi
  have := rlPart_any p 0 s.1.toNat s.1.toNat w h hs (by omega) (by omega)
  rw [part_first hs] at this
  have e : ((s.1.toNat : Nat) : Int) = s.1 := by omega
  rw [e] at this
  exact this
theorem rlPartS_any (p : Int) {v : Value} {s : Sys} {fp : List Nat} (w : World) (h : OwSys w v s fp) (hs : RelOk p s) :
    Calls Tryd.prog 93 #[.int .i64 p, v, .int .i64 s.1, .int .i64 (s.1 + s.2.1)] w fun e w' => ∃ v' fp', e = .returned v' ∧ OwMt w' v' (s.2.1, redM p s.2.1.toNat (secondM s)) fp' ∧ FreshL w.heap.size fp' ∧ Below w.heap.size w w' := by
  have h0 := hs.lo
  have h1 := hs.hi
  have := rlPart_any p s.1.toNat (s.1.toNat + s.2.1.toNat) s.2.1.toNat w h hs (by omega) (by omega)
  rw [part_second hs] at this
  have e : ((s.1.toNat : Nat) : Int) = s.1 := by omega
  have e2 : ((s.1.toNat + s.2.1.toNat : Nat) : Int) = s.1 + s.2.1 := by omega
  have e3 : ((s.2.1.toNat : Nat) : Int) = s.2.1 := by omega
  rw [e, e2, e3] at this
  exact this
set_option maxRecDepth 8000 in
set_option maxHeartbeats 2000000 in
theorem rlTotal_any (p : Int) {v : Value} {s : Sys} {fp : List Nat} (w : World) (h : OwSys w v s fp) (hs : RelOk p s) :
    Calls Tryd.prog 99 #[.int .i64 p, v] w fun e w' => e = .returned (.bool (totB p s)) ∧ Below w.heap.size w w' := by
  obtain ⟨A, n, c, rfl⟩ := h.shape
  obtain ⟨F, hF⟩ : ∃ F, F = totB p s := ⟨_, rfl⟩
  rw [← hF]
  unfold totB at hF
  have h0 := hs.lo
  have h2 := hs.sum
  have h1 := hs.hi
  obtain ⟨W, hW, b0, k0⟩ := alloc_box w (.cells #[.int .i64 s.1, .int .i64 s.2.1, .slice A n c] tRel)
  have hC := fun (W' : World) (hb : Below W.heap.size W W') => rlPartF_any p W' ((h.below b0).below hb) hs
  have hfd : ∀ (x y : Value) (W : World), (Instr.field tSpc (.agg #[x, y]) 1).run Tryd.prog W = .ok y W := fun _ _ _ => by kernel_rfl
  obtain ⟨R, hR⟩ : ∃ R, R = redM p s.1.toNat (firstM s) := ⟨_, rfl⟩
  rw [← hR] at hF
  simp only [← hR] at hC
  clear h hs
  have hF_h := Lib.hid hF
  have hC_h := Lib.hid hC
  have k0_h := Lib.hid k0
  have b0_h := Lib.hid b0
  have hR_h := Lib.hid hR
  clear hF hC k0 b0 hR
  go_enter Tryd.func99, Tryd.ntmps99
  go_upto_region 1 with (fail)
  rw [← hW]
  clear hW
  go_wp2_with (fail)
  have hbd : Below W.heap.size W W.drew := below_drewN (Below.refl _ _) 1
  refine beginH (fun w' => w'.heap[w.heap.size]? = some (.cells #[.int .i64 s.1, .int .i64 s.2.1, .slice A n c] tRel)) (by kernel_rfl) ?_
  generalize W.drew = W1 at hbd ⊢
  replace k0_h := Lib.hid (box_below k0_h.out hbd)
  have hbd_h := Lib.hid hbd
  clear hbd
  refine takeH 0 (v := ?_) rfl (by kernel_rfl) (by kernel_rfl) (by kernel_rfl) (fun _ _ _ h => h) k0_h.out (by rfl) (fun W' hW' => ?_) ?_; rotate_left; · (obtain ⟨⟨y0, y1, y2⟩, y3, y4, y5⟩ := box3 hW'; clear hW'; go_simp; first | done | with_reducible rfl)
  simp only [Act.put, List.setIfInBounds_toArray, List.set_cons_zero, List.set_cons_succ]
  refine takeH 1 (v := ?_) rfl (by kernel_rfl) (by kernel_rfl) (by kernel_rfl) (fun _ _ _ h => h) k0_h.out (by rfl) (fun W' hW' => ?_) ?_; rotate_left; · (obtain ⟨⟨y0, y1, y2⟩, y3, y4, y5⟩ := box3 hW'; clear hW'; go_simp; first | done | with_reducible rfl)
  simp only [Act.put, List.setIfInBounds_toArray, List.set_cons_zero, List.set_cons_succ]
  refine takeH 2 (v := ?_) rfl (by kernel_rfl) (by kernel_rfl) (by kernel_rfl) (fun _ _ _ h => h) k0_h.out (by rfl) (fun W' hW' => ?_) ?_; rotate_left; · (obtain ⟨⟨y0, y1, y2⟩, y3, y4, y5⟩ := box3 hW'; clear hW'; go_simp; first | done | with_reducible rfl)
  simp only [Act.put, List.setIfInBounds_toArray, List.set_cons_zero, List.set_cons_succ]
  refine takeH 3 (v := ?_) rfl (by kernel_rfl) (by kernel_rfl) (by kernel_rfl) (fun _ _ _ h => h) k0_h.out (by rfl) (fun W' hW' => ?_) ?_; rotate_left; · (obtain ⟨⟨y0, y1, y2⟩, y3, y4, y5⟩ := box3 hW'; clear hW'; go_simp; first | done | with_reducible rfl)
  simp only [Act.put, List.setIfInBounds_toArray, List.set_cons_zero, List.set_cons_succ]
  refine takeH 7 (v := ?_) rfl (by kernel_rfl) (by kernel_rfl) (by kernel_rfl) (fun _ _ _ h => h) k0_h.out (by rfl) (fun W' hW' => ?_) ?_; rotate_left; · (obtain ⟨⟨y0, y1, y2⟩, y3, y4, y5⟩ := box3 hW'; clear hW'; go_simp; first | done | with_reducible rfl)
  simp only [Act.put, List.setIfInBounds_toArray, List.set_cons_zero, List.set_cons_succ]
  refine takeH 8 (v := ?_) rfl (by kernel_rfl) (by kernel_rfl) (by kernel_rfl) (fun _ _ _ h => h) k0_h.out (by rfl) (fun W' hW' => ?_) ?_; rotate_left; · (obtain ⟨⟨y0, y1, y2⟩, y3, y4, y5⟩ := box3 hW'; clear hW'; go_simp; first | done | with_reducible rfl)
  simp only [Act.put, List.setIfInBounds_toArray, List.set_cons_zero, List.set_cons_succ]
  refine' callH 4 (f := _) (args := _) rfl (by kernel_rfl) (by rfl) ?_ ?_; rotate_left 2; · (go_simp; first | done | with_reducible rfl | (constructor <;> with_reducible rfl))
  refine (hC_h.out W1 hbd_h.out).mono ?_
  rintro e w2 ⟨v2, fp2, rfl, hO2, -, hb2⟩
  replace k0_h := Lib.hid (box_below k0_h.out hb2)
  refine ⟨_, rfl, k0_h.out, ?_⟩
  simp only [Act.put, List.setIfInBounds_toArray, List.set_cons_zero, List.set_cons_succ]
  obtain ⟨A3, c3, hs3, rfl, hL3, -, -⟩ := hO2
  have hB2 := below_trans (below_trans b0_h.out hbd_h.out b0_h.out.size) hb2 (Nat.le_trans b0_h.out.size hbd_h.out.size)
  have hRl : R.length = hs3.length := by have := congrArg List.length hL3; rwa [List.length_map] at this
  have hfin : F = ((hs3.length : Int) == s.1) := by
    rw [hF_h.out, hRl, Bool.eq_iff_iff]; simp
  obtain ⟨n3, hn3⟩ : ∃ n3, n3 = hs3.length := ⟨_, rfl⟩
  rw [← hn3] at hfin ⊢
  clear hL3 hb2 hRl hn3
  have hB2_h := Lib.hid hB2
  have hfin_h := Lib.hid hfin
  clear hB2 hfin
  refine takeH 5 (v := ?_) rfl (by kernel_rfl) (by kernel_rfl) (by kernel_rfl) (fun _ _ _ h => h) k0_h.out (by rfl) (fun W' hW' => ?_) ?_; rotate_left; · (skip; clear hW'; go_simp; first | done | with_reducible rfl)
  simp only [Act.put, List.setIfInBounds_toArray, List.set_cons_zero, List.set_cons_succ]
  refine takeH 6 (v := ?_) rfl (by kernel_rfl) (by kernel_rfl) (by kernel_rfl) (fun _ _ _ h => h) k0_h.out (by rfl) (fun W' hW' => ?_) ?_; rotate_left; · (skip; clear hW'; go_simp; first | done | with_reducible rfl)
  simp only [Act.put, List.setIfInBounds_toArray, List.set_cons_zero, List.set_cons_succ]
  refine takeH 9 (v := ?_) rfl (by kernel_rfl) (by kernel_rfl) (by kernel_rfl) (fun _ _ _ h => h) k0_h.out (by rfl) (fun W' hW' => ?_) ?_; rotate_left; · (skip; clear hW'; go_simp; first | done | with_reducible rfl)
  simp only [Act.put, List.setIfInBounds_toArray, List.set_cons_zero, List.set_cons_succ]
  refine takeH 10 (v := ?_) rfl (by kernel_rfl) (by kernel_rfl) (by kernel_rfl) (fun _ _ _ h => h) k0_h.out (by rfl) (fun W' hW' => ?_) ?_; rotate_left; · (skip; clear hW'; go_simp; first | done | with_reducible rfl)
  simp only [Act.put, List.setIfInBounds_toArray, List.set_cons_zero, List.set_cons_succ]
  refine doneH (by kernel_rfl) ?_
  go_wp2_with (fail)
  go_ret
  exact ⟨ret_bool hfin_h.out.symm, hB2_h.out⟩
set_option maxRecDepth 8000 in
set_option maxHeartbeats 2000000 in
theorem isTotal_any (p : Int) {v : Value} {s : Sys} {fp : List Nat} (w : World) (h : OwSys w v s fp) (hs : RelOk p s) :
    Calls Tryd.prog 100 #[.int .i64 p, v] w fun e w' => e = .returned (.bool (totB p s)) ∧ Below w.heap.size w w' := by
  obtain ⟨A, n, c, rfl⟩ := h.shape
  obtain ⟨F, hF⟩ : ∃ F, F = totB p s := ⟨_, rfl⟩
  rw [← hF]
  unfold totB at hF
  have h0 := hs.lo
  have h2 := hs.sum
  have h1 := hs.hi
  obtain ⟨W, hW, b0, k0⟩ := alloc_box w (.cells #[.int .i64 s.1, .int .i64 s.2.1, .slice A n c] tRel)
  have hC := fun (W' : World) (hb : Below W.heap.size W W') => domain_any p W' ((h.below b0).below hb) hs
  have hfd : ∀ (x y : Value) (W : World), (Instr.field tSpc (.agg #[x, y]) 1).run Tryd.prog W = .ok y W := fun _ _ _ => by kernel_rfl
  obtain ⟨R, hR⟩ : ∃ R, R = redM p s.1.toNat (firstM s) := ⟨_, rfl⟩
  rw [← hR] at hF
  simp only [← hR] at hC
  clear h hs
  have hF_h := Lib.hid hF
  have hC_h := Lib.hid hC
  have k0_h := Lib.hid k0
  have b0_h := Lib.hid b0
  have hR_h := Lib.hid hR
  clear hF hC k0 b0 hR
  go_enter Tryd.func100, Tryd.ntmps100
  go_upto_region 1 with (fail)
  rw [← hW]
  clear hW
  go_wp2_with (fail)
  have hbd : Below W.heap.size W W.drew := below_drewN (Below.refl _ _) 1
  refine beginH (fun w' => w'.heap[w.heap.size]? = some (.cells #[.int .i64 s.1, .int .i64 s.2.1, .slice A n c] tRel)) (by kernel_rfl) ?_
  generalize W.drew = W1 at hbd ⊢
  replace k0_h := Lib.hid (box_below k0_h.out hbd)
  have hbd_h := Lib.hid hbd
  clear hbd
  refine takeH 0 (v := ?_) rfl (by kernel_rfl) (by kernel_rfl) (by kernel_rfl) (fun _ _ _ h => h) k0_h.out (by rfl) (fun W' hW' => ?_) ?_; rotate_left; · (obtain ⟨⟨y0, y1, y2⟩, y3, y4, y5⟩ := box3 hW'; clear hW'; go_simp; first | done | with_reducible rfl)
  simp only [Act.put, List.setIfInBounds_toArray, List.set_cons_zero, List.set_cons_succ]
  refine takeH 1 (v := ?_) rfl (by kernel_rfl) (by kernel_rfl) (by kernel_rfl) (fun _ _ _ h => h) k0_h.out (by rfl) (fun W' hW' => ?_) ?_; rotate_left; · (obtain ⟨⟨y0, y1, y2⟩, y3, y4, y5⟩ := box3 hW'; clear hW'; go_simp; first | done | with_reducible rfl)
  simp only [Act.put, List.setIfInBounds_toArray, List.set_cons_zero, List.set_cons_succ]
  refine takeH 5 (v := ?_) rfl (by kernel_rfl) (by kernel_rfl) (by kernel_rfl) (fun _ _ _ h => h) k0_h.out (by rfl) (fun W' hW' => ?_) ?_; rotate_left; · (obtain ⟨⟨y0, y1, y2⟩, y3, y4, y5⟩ := box3 hW'; clear hW'; go_simp; first | done | with_reducible rfl)
  simp only [Act.put, List.setIfInBounds_toArray, List.set_cons_zero, List.set_cons_succ]
  refine takeH 6 (v := ?_) rfl (by kernel_rfl) (by kernel_rfl) (by kernel_rfl) (fun _ _ _ h => h) k0_h.out (by rfl) (fun W' hW' => ?_) ?_; rotate_left; · (obtain ⟨⟨y0, y1, y2⟩, y3, y4, y5⟩ := box3 hW'; clear hW'; go_simp; first | done | with_reducible rfl)
  simp only [Act.put, List.setIfInBounds_toArray, List.set_cons_zero, List.set_cons_succ]
  refine' callH 2 (f := _) (args := _) rfl (by kernel_rfl) (by rfl) ?_ ?_; rotate_left 2; · (go_simp; first | done | with_reducible rfl | (constructor <;> with_reducible rfl))
  refine (hC_h.out W1 hbd_h.out).mono ?_
  rintro e w2 ⟨v2, fp2, rfl, hO2, -, hb2⟩
  replace k0_h := Lib.hid (box_below k0_h.out hb2)
  refine ⟨_, rfl, k0_h.out, ?_⟩
  simp only [Act.put, List.setIfInBounds_toArray, List.set_cons_zero, List.set_cons_succ]
  obtain ⟨A3, c3, hs3, rfl, hL3, -, -⟩ := hO2
  have hB2 := below_trans (below_trans b0_h.out hbd_h.out b0_h.out.size) hb2 (Nat.le_trans b0_h.out.size hbd_h.out.size)
  have hRl : R.length = hs3.length := by have := congrArg List.length hL3; rwa [List.length_map] at this
  have hfin : F = ((hs3.length : Int) == s.1) := by
    rw [hF_h.out, hRl, Bool.eq_iff_iff]; simp
  obtain ⟨n3, hn3⟩ : ∃ n3, n3 = hs3.length := ⟨_, rfl⟩
  rw [← hn3] at hfin ⊢
  clear hL3 hb2 hRl hn3
  have hB2_h := Lib.hid hB2
  have hfin_h := Lib.hid hfin
  clear hB2 hfin
  refine takeH 3 (v := ?_) rfl (by kernel_rfl) (by kernel_rfl) (by kernel_rfl) (fun _ _ _ h => h) k0_h.out (by rfl) (fun W' hW' => ?_) ?_; rotate_left; · (skip; clear hW'; go_simp; first | done | with_reducible rfl)
  simp only [Act.put, List.setIfInBounds_toArray, List.set_cons_zero, List.set_cons_succ]
  refine takeH 4 (v := ?_) rfl (by kernel_rfl) (by kernel_rfl) (by kernel_rfl) (fun _ _ _ h => h) k0_h.out (by rfl) (fun W' hW' => ?_) ?_; rotate_left; · (skip; clear hW'; go_simp; first | done | with_reducible rfl)
  simp only [Act.put, List.setIfInBounds_toArray, List.set_cons_zero, List.set_cons_succ]
  refine takeH 7 (v := ?_) rfl (by kernel_rfl) (by kernel_rfl) (by kernel_rfl) (fun _ _ _ h => h) k0_h.out (by rfl) (fun W' hW' => ?_) ?_; rotate_left; · (skip; clear hW'; go_simp; first | done | with_reducible rfl)
  simp only [Act.put, List.setIfInBounds_toArray, List.set_cons_zero, List.set_cons_succ]
  refine takeH 8 (v := ?_) rfl (by kernel_rfl) (by kernel_rfl) (by kernel_rfl) (fun _ _ _ h => h) k0_h.out (by rfl) (fun W' hW' => ?_) ?_; rotate_left; · (skip; clear hW'; go_simp; first | done | with_reducible rfl)
  simp only [Act.put, List.setIfInBounds_toArray, List.set_cons_zero, List.set_cons_succ]
  refine doneH (by kernel_rfl) ?_
  go_wp2_with (fail)
  go_ret
  exact ⟨ret_bool hfin_h.out.symm, hB2_h.out⟩
set_option maxRecDepth 100000 in
set_option maxHeartbeats 2000000 in
theorem sDomainOf_law (p : Int) {v : Value} {s : Sys} {fp : List Nat} {w : World} (h : OwSys w v s fp) (ok : OkR s.2.2) :
    Calls Tryd.prog 41 #[.int .i64 p, v] w fun e w' => ∃ v' fp', e = .returned (.tuple #[v', .bool (domM p s).2]) ∧ OwMt w' v' (domM p s).1 fp' ∧ FreshL w.heap.size fp' ∧ Below w.heap.size w w' := by
  obtain ⟨C, hC0⟩ : ∃ C, C = domM p s := ⟨_, rfl⟩
  rw [← hC0]
  have hcan : ∀ b, relB p s = b → domM p s = if b then ((s.1, redM p s.1.toNat (firstM s)), true) else ((0, []), false) := fun b hb => by unfold domM; rw [hb]
  obtain ⟨A, n, c, rfl⟩ := h.shape
  obtain ⟨W, hW, b0, k0, k1⟩ := alloc2 w (.cells #[.int .i64 s.1, .int .i64 s.2.1, .slice A n c] tRel) (.cells #[.int .i64 0, .slice none 0 0] tSpc)
  have hG := rlGood_any p W (h.rd.below b0) ok.1 ok.2.1
  have hF := fun W' (hb : Below W.heap.size W W') (hs : RelOk p s) => rlPartF_any p W' ((h.below b0).below hb) hs
  obtain ⟨⟨c0, c1, c2⟩, f0, f1, f2⟩ := box3 k0
  by_cases hb : relB p s = true
  · rw [hb] at hG
    have hof := RelOk.of hb
    have hb' := hcan true hb
    rw [if_pos rfl] at hb'
    rw [hb'] at hC0
    subst hC0
    clear h ok hb hb' hcan
    have hG_h := Lib.hid hG
    have hF_h := Lib.hid hF
    have k0_h := Lib.hid k0
    have k1_h := Lib.hid k1
    have b0_h := Lib.hid b0
    have hof_h := Lib.hid hof
    clear hG hF k0 k1 b0 hof
    go_enter Tryd.func41, Tryd.ntmps41
    go_upto_region 1 with (fail)
    rw [← hW]
    clear hW
    go_wp2_with (fail)
    refine (hG_h.out).mono ?_
    rintro e w1 ⟨rfl, hb1⟩
    clear c0 c1 c2 f0 f1 f2
    replace k0_h := Lib.hid (box_below k0_h.out hb1)
    replace k1_h := Lib.hid (box_below k1_h.out hb1)
    obtain ⟨⟨c0, c1, c2⟩, f0, f1, f2⟩ := box3 k0_h.out
    obtain ⟨⟨d0, d1⟩, g0, g1⟩ := box2 k1_h.out
    have hB1 := below_trans b0_h.out hb1 b0_h.out.size
    have hw1 : w.heap.size + 1 < w1.heap.size := (Array.getElem?_eq_some_iff.1 k1_h.out).1
    have hF1 := hF_h.out w1 hb1 hof_h.out
    have hF1_h := Lib.hid hF1
    have hB1_h := Lib.hid hB1
    have hb1_h := Lib.hid hb1
    clear hF1 hB1 hb1
    go_wp2_with (fail)
    refine (hF1_h.out).mono ?_
    rintro e w2 ⟨v2, fp2, rfl, hO2, hf2, hb2⟩
    obtain ⟨A2, n2, c2', rfl⟩ := hO2.shape
    have k1' := box_below k1_h.out hb2
    clear d0 d1 g0 g1
    obtain ⟨⟨d0, d1⟩, g0, g1⟩ := box2 k1'
    obtain ⟨s1, s2⟩ := set2 (a := .int .i64 (s.1, redM p s.1.toNat (firstM s)).1) (b := .slice A2 n2 c2') k1'
    have hB2 := below_trans hB1_h.out hb2 hB1_h.out.size
    have hB3 := below_keeps hB2 s2 hB2.size (fun k hk => by omega)
    have hO3 := hO2.keeps s2 (fun k hk e => by have := hf2 k hk; omega)
    have hf3 := hf2.mono hB1_h.out.size
    clear hB2 hO2 hf2 hb2 k1'
    have s1_h := Lib.hid s1
    have s2_h := Lib.hid s2
    have hB3_h := Lib.hid hB3
    have hO3_h := Lib.hid hO3
    have hf3_h := Lib.hid hf3
    clear s1 s2 hB3 hO3 hf3
    go_wp2_with (fail)
    refine bodyPost_ret (results_cell_tmp rfl _ _ (w.heap.size + 1) _ _ (0, 0) _ rfl s1_h.out Tryd.underlying48 rfl (by kernel_rfl)) rfl ?_
    exact ⟨_, fp2, rfl, hO3_h.out, hf3_h.out, hB3_h.out⟩
  · have hb' : relB p s = false := by simpa using hb
    rw [hb'] at hG
    have hb2 := hcan false hb'
    rw [if_neg (by simp)] at hb2
    rw [hb2] at hC0
    subst hC0
    clear h ok hb hb' hb2 hcan hF
    have hG_h := Lib.hid hG
    have k0_h := Lib.hid k0
    have k1_h := Lib.hid k1
    have b0_h := Lib.hid b0
    clear hG k0 k1 b0
    go_enter Tryd.func41, Tryd.ntmps41
    go_upto_region 1 with (fail)
    rw [← hW]
    clear hW
    go_wp2_with (fail)
    refine (hG_h.out).mono ?_
    rintro e w1 ⟨rfl, hb1⟩
    clear c0 c1 c2 f0 f1 f2
    have k1' := box_below k1_h.out hb1
    have hB1 := below_trans b0_h.out hb1 b0_h.out.size
    have hw1 : w.heap.size + 1 < w1.heap.size := (Array.getElem?_eq_some_iff.1 k1').1
    obtain ⟨⟨d0, d1⟩, g0, g1⟩ := box2 k1'
    obtain ⟨s1, s2⟩ := set2 (a := .int .i64 0) (b := .slice none 0 0) k1'
    have hB3 := below_keeps hB1 s2 hB1.size (fun k hk => by omega)
    clear hB1 hb1 k1'
    have s1_h := Lib.hid s1
    have s2_h := Lib.hid s2
    have hB3_h := Lib.hid hB3
    clear s1 s2 hB3
    go_wp2_with (fail)
    refine bodyPost_ret (results_cell_tmp rfl _ _ (w.heap.size + 1) _ _ (0, 0) _ rfl s1_h.out Tryd.underlying48 rfl (by kernel_rfl)) rfl ?_
    exact ⟨_, [], rfl, OwMt.zero _ 0, FreshL.nil _, hB3_h.out⟩
set_option maxRecDepth 100000 in
set_option maxHeartbeats 2000000 in
theorem iDomainOf_law (p : Int) {v : Value} {s : Sys} {fp : List Nat} {w : World} (h : OwSys w v s fp) (ok : OkR s.2.2) (hT : Tab w) :
    Calls Tryd.prog 42 #[.int .i64 p, v] w fun e w' => ∃ v' fp', e = .returned (.tuple #[v', .bool (domM p s).2]) ∧ OwMt w' v' (domM p s).1 fp' ∧ FreshL w.heap.size fp' ∧ Below w.heap.size w w' := by
  obtain ⟨C, hC0⟩ : ∃ C, C = domM p s := ⟨_, rfl⟩
  rw [← hC0]
  have hcan : ∀ b, relB p s = b → domM p s = if b then ((s.1, redM p s.1.toNat (firstM s)), true) else ((0, []), false) := fun b hb => by unfold domM; rw [hb]
  obtain ⟨A, n, c, rfl⟩ := h.shape
  obtain ⟨W, hW, b0, k0, k1⟩ := alloc2 w (.cells #[.int .i64 s.1, .int .i64 s.2.1, .slice A n c] tRel) (.cells #[.int .i64 0, .slice none 0 0] tSpc)
  have hG := isRelation_any p W (h.rd.below b0) (hT.below b0 hT.lt) ok.1 ok.2.1
  have hF := fun W' (hb : Below W.heap.size W W') (hs : RelOk p s) => domain_any p W' ((h.below b0).below hb) hs
  obtain ⟨⟨c0, c1, c2⟩, f0, f1, f2⟩ := box3 k0
  by_cases hb : relB p s = true
  · rw [hb] at hG
    have hof := RelOk.of hb
    have hb' := hcan true hb
    rw [if_pos rfl] at hb'
    rw [hb'] at hC0
    subst hC0
    clear h ok hb hb' hcan hT
    have hG_h := Lib.hid hG
    have hF_h := Lib.hid hF
    have k0_h := Lib.hid k0
    have k1_h := Lib.hid k1
    have b0_h := Lib.hid b0
    have hof_h := Lib.hid hof
    clear hG hF k0 k1 b0 hof
    go_enter Tryd.func42, Tryd.ntmps42
    go_upto_region 1 with (fail)
    rw [← hW]
    clear hW
    go_wp2_with (fail)
    refine (hG_h.out).mono ?_
    rintro e w1 ⟨rfl, hb1⟩
    clear c0 c1 c2 f0 f1 f2
    replace k0_h := Lib.hid (box_below k0_h.out hb1)
    replace k1_h := Lib.hid (box_below k1_h.out hb1)
    obtain ⟨⟨c0, c1, c2⟩, f0, f1, f2⟩ := box3 k0_h.out
    obtain ⟨⟨d0, d1⟩, g0, g1⟩ := box2 k1_h.out
    have hB1 := below_trans b0_h.out hb1 b0_h.out.size
    have hw1 : w.heap.size + 1 < w1.heap.size := (Array.getElem?_eq_some_iff.1 k1_h.out).1
    have hF1 := hF_h.out w1 hb1 hof_h.out
    have hF1_h := Lib.hid hF1
    have hB1_h := Lib.hid hB1
    have hb1_h := Lib.hid hb1
    clear hF1 hB1 hb1
    go_wp2_with (fail)
    refine (hF1_h.out).mono ?_
    rintro e w2 ⟨v2, fp2, rfl, hO2, hf2, hb2⟩
    obtain ⟨A2, n2, c2', rfl⟩ := hO2.shape
    have k1' := box_below k1_h.out hb2
    clear d0 d1 g0 g1
    obtain ⟨⟨d0, d1⟩, g0, g1⟩ := box2 k1'
    obtain ⟨s1, s2⟩ := set2 (a := .int .i64 (s.1, redM p s.1.toNat (firstM s)).1) (b := .slice A2 n2 c2') k1'
    have hB2 := below_trans hB1_h.out hb2 hB1_h.out.size
    have hB3 := below_keeps hB2 s2 hB2.size (fun k hk => by omega)
    have hO3 := hO2.keeps s2 (fun k hk e => by have := hf2 k hk; omega)
    have hf3 := hf2.mono hB1_h.out.size
    clear hB2 hO2 hf2 hb2 k1'
    have s1_h := Lib.hid s1
    have s2_h := Lib.hid s2
    have hB3_h := Lib.hid hB3
    have hO3_h := Lib.hid hO3
    have hf3_h := Lib.hid hf3
    clear s1 s2 hB3 hO3 hf3
    go_wp2_with (fail)
    refine bodyPost_ret (results_cell_tmp rfl _ _ (w.heap.size + 1) _ _ (0, 0) _ rfl s1_h.out Tryd.underlying48 rfl (by kernel_rfl)) rfl ?_
    exact ⟨_, fp2, rfl, hO3_h.out, hf3_h.out, hB3_h.out⟩
  · have hb' : relB p s = false := by simpa using hb
    rw [hb'] at hG
    have hb2 := hcan false hb'
    rw [if_neg (by simp)] at hb2
    rw [hb2] at hC0
    subst hC0
    clear h ok hb hb' hb2 hcan hF hT
    have hG_h := Lib.hid hG
    have k0_h := Lib.hid k0
    have k1_h := Lib.hid k1
    have b0_h := Lib.hid b0
    clear hG k0 k1 b0
    go_enter Tryd.func42, Tryd.ntmps42
    go_upto_region 1 with (fail)
    rw [← hW]
    clear hW
    go_wp2_with (fail)
    refine (hG_h.out).mono ?_
    rintro e w1 ⟨rfl, hb1⟩
    clear c0 c1 c2 f0 f1 f2
    have k1' := box_below k1_h.out hb1
    have hB1 := below_trans b0_h.out hb1 b0_h.out.size
    have hw1 : w.heap.size + 1 < w1.heap.size := (Array.getElem?_eq_some_iff.1 k1').1
    obtain ⟨⟨d0, d1⟩, g0, g1⟩ := box2 k1'
    obtain ⟨s1, s2⟩ := set2 (a := .int .i64 0) (b := .slice none 0 0) k1'
    have hB3 := below_keeps hB1 s2 hB1.size (fun k hk => by omega)
    clear hB1 hb1 k1'
    have s1_h := Lib.hid s1
    have s2_h := Lib.hid s2
    have hB3_h := Lib.hid hB3
    clear s1 s2 hB3
    go_wp2_with (fail)
    refine bodyPost_ret (results_cell_tmp rfl _ _ (w.heap.size + 1) _ _ (0, 0) _ rfl s1_h.out Tryd.underlying48 rfl (by kernel_rfl)) rfl ?_
    exact ⟨_, [], rfl, OwMt.zero _ 0, FreshL.nil _, hB3_h.out⟩
set_option maxRecDepth 100000 in
set_option maxHeartbeats 2000000 in
theorem sRangeOf_law (p : Int) {v : Value} {s : Sys} {fp : List Nat} {w : World} (h : OwSys w v s fp) (ok : OkR s.2.2) :
    Calls Tryd.prog 33 #[.int .i64 p, v] w fun e w' => ∃ v' fp', e = .returned (.tuple #[v', .bool (ranM p s).2]) ∧ OwMt w' v' (ranM p s).1 fp' ∧ FreshL w.heap.size fp' ∧ Below w.heap.size w w' := by
  obtain ⟨C, hC0⟩ : ∃ C, C = ranM p s := ⟨_, rfl⟩
  rw [← hC0]
  have hcan : ∀ b, relB p s = b → ranM p s = if b then ((s.2.1, redM p s.2.1.toNat (secondM s)), true) else ((0, []), false) := fun b hb => by unfold ranM; rw [hb]
  obtain ⟨A, n, c, rfl⟩ := h.shape
  obtain ⟨W, hW, b0, k0, k1⟩ := alloc2 w (.cells #[.int .i64 s.1, .int .i64 s.2.1, .slice A n c] tRel) (.cells #[.int .i64 0, .slice none 0 0] tSpc)
  have hG := rlGood_any p W (h.rd.below b0) ok.1 ok.2.1
  have hF := fun W' (hb : Below W.heap.size W W') (hs : RelOk p s) => rlPartS_any p W' ((h.below b0).below hb) hs
  obtain ⟨⟨c0, c1, c2⟩, f0, f1, f2⟩ := box3 k0
  by_cases hb : relB p s = true
  · rw [hb] at hG
    have hof := RelOk.of hb
    have hb' := hcan true hb
    rw [if_pos rfl] at hb'
    rw [hb'] at hC0
    subst hC0
    clear h ok hb hb' hcan
    have hG_h := Lib.hid hG
    have hF_h := Lib.hid hF
    have k0_h := Lib.hid k0
    have k1_h := Lib.hid k1
    have b0_h := Lib.hid b0
    have hof_h := Lib.hid hof
    clear hG hF k0 k1 b0 hof
    go_enter Tryd.func33, Tryd.ntmps33
    go_upto_region 1 with (fail)
    rw [← hW]
    clear hW
    go_wp2_with (fail)
    refine (hG_h.out).mono ?_
    rintro e w1 ⟨rfl, hb1⟩
    clear c0 c1 c2 f0 f1 f2
    replace k0_h := Lib.hid (box_below k0_h.out hb1)
    replace k1_h := Lib.hid (box_below k1_h.out hb1)
    obtain ⟨⟨c0, c1, c2⟩, f0, f1, f2⟩ := box3 k0_h.out
    obtain ⟨⟨d0, d1⟩, g0, g1⟩ := box2 k1_h.out
    have hB1 := below_trans b0_h.out hb1 b0_h.out.size
    have hw1 : w.heap.size + 1 < w1.heap.size := (Array.getElem?_eq_some_iff.1 k1_h.out).1
    have hwr : IntKind.i64.wrap (s.1 + s.2.1) = s.1 + s.2.1 := IntWalk.i64_in _ (by have := hof_h.out.lo; have := hof_h.out.hi; have := hof_h.out.sum; omega)
    have hF1 := hF_h.out w1 hb1 hof_h.out
    have hF1_h := Lib.hid hF1
    have hB1_h := Lib.hid hB1
    have hb1_h := Lib.hid hb1
    clear hF1 hB1 hb1
    go_wp2_with (fail)
    refine (hF1_h.out).mono ?_
    rintro e w2 ⟨v2, fp2, rfl, hO2, hf2, hb2⟩
    obtain ⟨A2, n2, c2', rfl⟩ := hO2.shape
    have k1' := box_below k1_h.out hb2
    clear d0 d1 g0 g1
    obtain ⟨⟨d0, d1⟩, g0, g1⟩ := box2 k1'
    obtain ⟨s1, s2⟩ := set2 (a := .int .i64 (s.2.1, redM p s.2.1.toNat (secondM s)).1) (b := .slice A2 n2 c2') k1'
    have hB2 := below_trans hB1_h.out hb2 hB1_h.out.size
    have hB3 := below_keeps hB2 s2 hB2.size (fun k hk => by omega)
    have hO3 := hO2.keeps s2 (fun k hk e => by have := hf2 k hk; omega)
    have hf3 := hf2.mono hB1_h.out.size
    clear hB2 hO2 hf2 hb2 k1'
    have s1_h := Lib.hid s1
    have s2_h := Lib.hid s2
    have hB3_h := Lib.hid hB3
    have hO3_h := Lib.hid hO3
    have hf3_h := Lib.hid hf3
    clear s1 s2 hB3 hO3 hf3
    go_wp2_with (fail)
    refine bodyPost_ret (results_cell_tmp rfl _ _ (w.heap.size + 1) _ _ (0, 0) _ rfl s1_h.out Tryd.underlying48 rfl (by kernel_rfl)) rfl ?_
    exact ⟨_, fp2, rfl, hO3_h.out, hf3_h.out, hB3_h.out⟩
  · have hb' : relB p s = false := by simpa using hb
    rw [hb'] at hG
    have hb2 := hcan false hb'
    rw [if_neg (by simp)] at hb2
    rw [hb2] at hC0
    subst hC0
    clear h ok hb hb' hb2 hcan hF
    have hG_h := Lib.hid hG
    have k0_h := Lib.hid k0
    have k1_h := Lib.hid k1
    have b0_h := Lib.hid b0
    clear hG k0 k1 b0
    go_enter Tryd.func33, Tryd.ntmps33
    go_upto_region 1 with (fail)
    rw [← hW]
    clear hW
    go_wp2_with (fail)
    refine (hG_h.out).mono ?_
    rintro e w1 ⟨rfl, hb1⟩
    clear c0 c1 c2 f0 f1 f2
    have k1' := box_below k1_h.out hb1
    have hB1 := below_trans b0_h.out hb1 b0_h.out.size
    have hw1 : w.heap.size + 1 < w1.heap.size := (Array.getElem?_eq_some_iff.1 k1').1
    obtain ⟨⟨d0, d1⟩, g0, g1⟩ := box2 k1'
    obtain ⟨s1, s2⟩ := set2 (a := .int .i64 0) (b := .slice none 0 0) k1'
    have hB3 := below_keeps hB1 s2 hB1.size (fun k hk => by omega)
    clear hB1 hb1 k1'
    have s1_h := Lib.hid s1
    have s2_h := Lib.hid s2
    have hB3_h := Lib.hid hB3
    clear s1 s2 hB3
    go_wp2_with (fail)
    refine bodyPost_ret (results_cell_tmp rfl _ _ (w.heap.size + 1) _ _ (0, 0) _ rfl s1_h.out Tryd.underlying48 rfl (by kernel_rfl)) rfl ?_
    exact ⟨_, [], rfl, OwMt.zero _ 0, FreshL.nil _, hB3_h.out⟩
set_option maxRecDepth 100000 in
set_option maxHeartbeats 2000000 in
theorem sIsTotal_law (p : Int) {v : Value} {s : Sys} {fp : List Nat} {w : World} (h : OwSys w v s fp) (ok : OkR s.2.2) :
    Calls Tryd.prog 43 #[.int .i64 p, v] w fun e w' => e = .returned (.tuple #[.bool (totM p s).1, .bool (totM p s).2]) ∧ Below w.heap.size w w' := by
  obtain ⟨C, hC0⟩ : ∃ C, C = totM p s := ⟨_, rfl⟩
  rw [← hC0]
  have hcan : ∀ b, relB p s = b → totM p s = if b then (totB p s, true) else (false, false) := fun b hb => by unfold totM; rw [hb]
  obtain ⟨A, n, c, rfl⟩ := h.shape
  obtain ⟨W, hW, b0, k0⟩ := alloc_box w (.cells #[.int .i64 s.1, .int .i64 s.2.1, .slice A n c] tRel)
  have hG := rlGood_any p W (h.rd.below b0) ok.1 ok.2.1
  have hF := fun W' (hb : Below W.heap.size W W') (hs : RelOk p s) => rlTotal_any p W' ((h.below b0).below hb) hs
  obtain ⟨V, hV⟩ : ∃ V, V = totB p s := ⟨_, rfl⟩
  rw [← hV] at hF
  obtain ⟨⟨c0, c1, c2⟩, f0, f1, f2⟩ := box3 k0
  by_cases hb : relB p s = true
  · rw [hb] at hG
    have hof := RelOk.of hb
    have hb' := hcan true hb
    rw [if_pos rfl, ← hV] at hb'
    rw [hb'] at hC0
    subst hC0
    clear h ok hb hb' hcan
    have hG_h := Lib.hid hG
    have hF_h := Lib.hid hF
    have k0_h := Lib.hid k0
    have b0_h := Lib.hid b0
    have hof_h := Lib.hid hof
    have hV_h := Lib.hid hV
    clear hG hF k0 b0 hof hV
    go_enter Tryd.func43, Tryd.ntmps43
    go_upto_region 1 with (fail)
    rw [← hW]
    clear hW
    go_wp2_with (fail)
    refine (hG_h.out).mono ?_
    rintro e w1 ⟨rfl, hb1⟩
    clear c0 c1 c2 f0 f1 f2
    replace k0_h := Lib.hid (box_below k0_h.out hb1)
    obtain ⟨⟨c0, c1, c2⟩, f0, f1, f2⟩ := box3 k0_h.out
    have hB1 := below_trans b0_h.out hb1 b0_h.out.size
    have hF1 := hF_h.out w1 hb1 hof_h.out
    have hF1_h := Lib.hid hF1
    have hB1_h := Lib.hid hB1
    have hb1_h := Lib.hid hb1
    clear hF1 hB1 hb1
    go_wp2_with (fail)
    refine (hF1_h.out).mono ?_
    rintro e w2 ⟨rfl, hb2⟩
    go_wp2_with (fail)
    go_ret2
    exact ⟨rfl, below_trans hB1_h.out hb2 hB1_h.out.size⟩
  · have hb' : relB p s = false := by simpa using hb
    rw [hb'] at hG
    have hb2 := hcan false hb'
    rw [if_neg (by simp)] at hb2
    rw [hb2] at hC0
    subst hC0
    clear h ok hb hb' hb2 hcan hF hV
    have hG_h := Lib.hid hG
    have k0_h := Lib.hid k0
    have b0_h := Lib.hid b0
    clear hG k0 b0
    go_enter Tryd.func43, Tryd.ntmps43
    go_upto_region 1 with (fail)
    rw [← hW]
    clear hW
    go_wp2_with (fail)
    refine (hG_h.out).mono ?_
    rintro e w1 ⟨rfl, hb1⟩
    go_wp2_with (fail)
    go_ret2
    exact ⟨rfl, below_trans b0_h.out hb1 b0_h.out.size⟩
set_option maxRecDepth 100000 in
set_option maxHeartbeats 2000000 in
theorem iIsTotal_law (p : Int) {v : Value} {s : Sys} {fp : List Nat} {w : World} (h : OwSys w v s fp) (ok : OkR s.2.2) (hT : Tab w) :
    Calls Tryd.prog 44 #[.int .i64 p, v] w fun e w' => e = .returned (.tuple #[.bool (totM p s).1, .bool (totM p s).2]) ∧ Below w.heap.size w w' := by
  obtain ⟨C, hC0⟩ : ∃ C, C = totM p s := ⟨_, rfl⟩
  rw [← hC0]
  have hcan : ∀ b, relB p s = b → totM p s = if b then (totB p s, true) else (false, false) := fun b hb => by unfold totM; rw [hb]
  obtain ⟨A, n, c, rfl⟩ := h.shape
  obtain ⟨W, hW, b0, k0⟩ := alloc_box w (.cells #[.int .i64 s.1, .int .i64 s.2.1, .slice A n c] tRel)
  have hG := isRelation_any p W (h.rd.below b0) (hT.below b0 hT.lt) ok.1 ok.2.1
  have hF := fun W' (hb : Below W.heap.size W W') (hs : RelOk p s) => isTotal_any p W' ((h.below b0).below hb) hs
  obtain ⟨V, hV⟩ : ∃ V, V = totB p s := ⟨_, rfl⟩
  rw [← hV] at hF
  obtain ⟨⟨c0, c1, c2⟩, f0, f1, f2⟩ := box3 k0
  by_cases hb : relB p s = true
  · rw [hb] at hG
    have hof := RelOk.of hb
    have hb' := hcan true hb
    rw [if_pos rfl, ← hV] at hb'
    rw [hb'] at hC0
    subst hC0
    clear h ok hb hb' hcan hT
    have hG_h := Lib.hid hG
    have hF_h := Lib.hid hF
    have k0_h := Lib.hid k0
    have b0_h := Lib.hid b0
    have hof_h := Lib.hid hof
    have hV_h := Lib.hid hV
    clear hG hF k0 b0 hof hV
    go_enter Tryd.func44, Tryd.ntmps44
    go_upto_region 1 with (fail)
    rw [← hW]
    clear hW
    go_wp2_with (fail)
    refine (hG_h.out).mono ?_
    rintro e w1 ⟨rfl, hb1⟩
    clear c0 c1 c2 f0 f1 f2
    replace k0_h := Lib.hid (box_below k0_h.out hb1)
    obtain ⟨⟨c0, c1, c2⟩, f0, f1, f2⟩ := box3 k0_h.out
    have hB1 := below_trans b0_h.out hb1 b0_h.out.size
    have hF1 := hF_h.out w1 hb1 hof_h.out
    have hF1_h := Lib.hid hF1
    have hB1_h := Lib.hid hB1
    have hb1_h := Lib.hid hb1
    clear hF1 hB1 hb1
    go_wp2_with (fail)
    refine (hF1_h.out).mono ?_
    rintro e w2 ⟨rfl, hb2⟩
    go_wp2_with (fail)
    go_ret2
    exact ⟨rfl, below_trans hB1_h.out hb2 hB1_h.out.size⟩
  · have hb' : relB p s = false := by simpa using hb
    rw [hb'] at hG
    have hb2 := hcan false hb'
    rw [if_neg (by simp)] at hb2
    rw [hb2] at hC0
    subst hC0
    clear h ok hb hb' hb2 hcan hF hV hT
    have hG_h := Lib.hid hG
    have k0_h := Lib.hid k0
    have b0_h := Lib.hid b0
    clear hG k0 b0
    go_enter Tryd.func44, Tryd.ntmps44
    go_upto_region 1 with (fail)
    rw [← hW]
    clear hW
    go_wp2_with (fail)
    refine (hG_h.out).mono ?_
    rintro e w1 ⟨rfl, hb1⟩
    go_wp2_with (fail)
    go_ret2
    exact ⟨rfl, below_trans b0_h.out hb1 b0_h.out.size⟩
end Go.Proofs.YtpfidjegdpkhdaaDoor
namespace Go.Proofs.YtpfidjegdpkhdaaDoor
open Go.RowKit

set_option maxRecDepth 8000 in
theorem eachFirst_any (p : Int) {v : Value} {s : Sys} {fp : List Nat} (w : World) (h : OwSys w v s fp) (hs : RelOk p s) :
    Calls Tryd.prog 96 #[v, .func (.func 137) #[v] #[]] w fun e w' => ∃ A' c' gs n, e = .returned (.slice A' n c') ∧ gs.length = n ∧ n ≤ 24 ∧ gs.map (fun h : Hd => h.2.2) = firstM s ∧ RdO w w' A' c' gs := by
  have hpf := part_first hs
  obtain ⟨A, c, gs, rfl, hL, hO, rfl⟩ := h
  obtain ⟨a, b, L⟩ := s
  have h0 : 0 ≤ a := hs.lo
  have h1 : 0 ≤ b := hs.hi
  have h2 : a + b ≤ 24 := hs.sum
  have hfld : fieldB p = true := hs.fld
  have hrow : ∀ u, u ∈ L → (u.length : Int) = a + b ∧ Res p u := fun u hu => hs.row hu
  have hlen : (L.length : Int) ≤ a + b := hs.len
  clear hs
  obtain ⟨na, rfl⟩ : ∃ na : Nat, a = (na : Int) := ⟨a.toNat, by omega⟩
  obtain ⟨nb, rfl⟩ : ∃ nb : Nat, b = (nb : Int) := ⟨b.toNat, by omega⟩
  have hL' : L = gs.map (fun h : Hd => h.2.2) := hL
  clear hL
  obtain ⟨m, hm⟩ : ∃ m, m = gs.length := ⟨_, rfl⟩
  have hLm : L.length = m := by rw [hL', List.length_map, hm]
  have hm24 : (m : Int) ≤ 24 := by have := hlen; rw [hLm] at this; omega
  have hgr : ∀ x, x ∈ gs → x.2.2.length = na + nb := fun x hx => by have := (hrow _ (by rw [hL']; exact List.mem_map_of_mem hx)).1; omega
  have hE := each_any 137 #[.agg #[.int .i64 (na : Int), .int .i64 (nb : Int), .slice A gs.length c]] #[] (partV 0 na) (na : Int) (nb : Int) A c gs w hO.rd hO.rows (by omega) (fun _ _ => rfl) (fun x hx => first_each rfl (hO.rows x hx) (hgr x hx) (by omega))
  refine hE.mono ?_
  rintro e w' ⟨A', c', g1, rfl, hg1, hO1⟩
  have hgl : g1.length = gs.length := by have := congrArg List.length hg1; rwa [List.length_map, List.length_map] at this
  refine ⟨A', c', g1, gs.length, rfl, hgl, by omega, ?_, hO1⟩
  rw [hg1, ← hpf]
  show _ = L.map _
  rw [hL', List.map_map]; rfl
set_option maxRecDepth 8000 in
theorem eachSecond_any (p : Int) {v : Value} {s : Sys} {fp : List Nat} (w : World) (h : OwSys w v s fp) (hs : RelOk p s) :
    Calls Tryd.prog 96 #[v, .func (.func 97) #[v] #[]] w fun e w' => ∃ A' c' gs n, e = .returned (.slice A' n c') ∧ gs.length = n ∧ n ≤ 24 ∧ gs.map (fun h : Hd => h.2.2) = secondM s ∧ RdO w w' A' c' gs := by
  have hpf := part_second hs
  obtain ⟨A, c, gs, rfl, hL, hO, rfl⟩ := h
  obtain ⟨a, b, L⟩ := s
  have h0 : 0 ≤ a := hs.lo
  have h1 : 0 ≤ b := hs.hi
  have h2 : a + b ≤ 24 := hs.sum
  have hfld : fieldB p = true := hs.fld
  have hrow : ∀ u, u ∈ L → (u.length : Int) = a + b ∧ Res p u := fun u hu => hs.row hu
  have hlen : (L.length : Int) ≤ a + b := hs.len
  clear hs
  obtain ⟨na, rfl⟩ : ∃ na : Nat, a = (na : Int) := ⟨a.toNat, by omega⟩
  obtain ⟨nb, rfl⟩ : ∃ nb : Nat, b = (nb : Int) := ⟨b.toNat, by omega⟩
  have hL' : L = gs.map (fun h : Hd => h.2.2) := hL
  clear hL
  obtain ⟨m, hm⟩ : ∃ m, m = gs.length := ⟨_, rfl⟩
  have hLm : L.length = m := by rw [hL', List.length_map, hm]
  have hm24 : (m : Int) ≤ 24 := by have := hlen; rw [hLm] at this; omega
  have hgr : ∀ x, x ∈ gs → x.2.2.length = na + nb := fun x hx => by have := (hrow _ (by rw [hL']; exact List.mem_map_of_mem hx)).1; omega
  have hE := each_any 97 #[.agg #[.int .i64 (na : Int), .int .i64 (nb : Int), .slice A gs.length c]] #[] (partV na nb) (na : Int) (nb : Int) A c gs w hO.rd hO.rows (by omega) (fun _ _ => rfl) (fun x hx => second_each rfl (hO.rows x hx) (hgr x hx) (by omega))
  refine hE.mono ?_
  rintro e w' ⟨A', c', g1, rfl, hg1, hO1⟩
  have hgl : g1.length = gs.length := by have := congrArg List.length hg1; rwa [List.length_map, List.length_map] at this
  refine ⟨A', c', g1, gs.length, rfl, hgl, by omega, ?_, hO1⟩
  rw [hg1, ← hpf]
  show _ = L.map _
  rw [hL', List.map_map]; rfl
set_option maxRecDepth 100000 in
set_option maxHeartbeats 2000000 in
theorem iRangeOf_law (p : Int) {v : Value} {s : Sys} {fp : List Nat} {w : World} (h : OwSys w v s fp) (ok : OkR s.2.2) (hT : Tab w) :
    Calls Tryd.prog 35 #[.int .i64 p, v] w fun e w' => ∃ v' fp', e = .returned (.tuple #[v', .bool (ranM p s).2]) ∧ OwMt w' v' (ranM p s).1 fp' ∧ FreshL w.heap.size fp' ∧ Below w.heap.size w w' := by
  obtain ⟨C, hC0⟩ : ∃ C, C = ranM p s := ⟨_, rfl⟩
  rw [← hC0]
  have hcan : ∀ b, relB p s = b → ranM p s = if b then ((s.2.1, redM p s.2.1.toNat (secondM s)), true) else ((0, []), false) := fun b hb => by unfold ranM; rw [hb]
  obtain ⟨A, n, c, rfl⟩ := h.shape
  obtain ⟨W, hW, b0, k0, k1⟩ := alloc2 w (.cells #[.int .i64 s.1, .int .i64 s.2.1, .slice A n c] tRel) (.cells #[.int .i64 0, .slice none 0 0] tSpc)
  have hG := isRelation_any p W (h.rd.below b0) (hT.below b0 hT.lt) ok.1 ok.2.1
  have hF := fun W' (hb : Below W.heap.size W W') (hs : RelOk p s) => eachSecond_any p W' ((h.below b0).below hb) hs
  obtain ⟨⟨c0, c1, c2⟩, f0, f1, f2⟩ := box3 k0
  by_cases hb : relB p s = true
  · rw [hb] at hG
    have hof := RelOk.of hb
    have hb' := hcan true hb
    rw [if_pos rfl] at hb'
    rw [hb'] at hC0
    subst hC0
    clear h ok hb hb' hcan hT
    have hG_h := Lib.hid hG
    have hF_h := Lib.hid hF
    have k0_h := Lib.hid k0
    have k1_h := Lib.hid k1
    have b0_h := Lib.hid b0
    have hof_h := Lib.hid hof
    clear hG hF k0 k1 b0 hof
    go_enter Tryd.func35, Tryd.ntmps35
    go_upto_region 1 with (fail)
    rw [← hW]
    clear hW
    go_wp2_with (fail)
    refine (hG_h.out).mono ?_
    rintro e w1 ⟨rfl, hb1⟩
    clear c0 c1 c2 f0 f1 f2
    replace k0_h := Lib.hid (box_below k0_h.out hb1)
    replace k1_h := Lib.hid (box_below k1_h.out hb1)
    obtain ⟨⟨c0, c1, c2⟩, f0, f1, f2⟩ := box3 k0_h.out
    obtain ⟨⟨d0, d1⟩, g0, g1⟩ := box2 k1_h.out
    have hB1 := below_trans b0_h.out hb1 b0_h.out.size
    have hw1 : w.heap.size + 1 < w1.heap.size := (Array.getElem?_eq_some_iff.1 k1_h.out).1
    have hmf : ∀ (fn : Fn) (first cap : Array Value) (w : World), (Instr.makeFunc fn first cap).run Tryd.prog w = .ok (.func fn first cap) w := fun _ _ _ _ => rfl
    have hbd : Below w1.heap.size w1 w1.drew := below_drewN (Below.refl _ _) 1
    have hF1 := hF_h.out w1.drew (below_trans hb1 hbd hb1.size) hof_h.out
    have hms := secondM_mat hof_h.out
    have hfld := hof_h.out.fld
    have hb0 := hof_h.out.hi
    have hb2 := hof_h.out.sum
    have hb3 := hof_h.out.lo
    obtain ⟨X, hX⟩ : ∃ X, X = secondM s := ⟨_, rfl⟩
    obtain ⟨R, hR⟩ : ∃ R, R = redM p s.2.1.toNat X := ⟨_, rfl⟩
    have hXl : X.length = s.2.2.length := by rw [hX]; unfold secondM; rw [List.length_map]
    rw [← hX] at hms hF1
    rw [← hXl] at hms
    clear c0 c1 c2 f0 f1 f2 d0 d1 g0 g1
    have hF1_h := Lib.hid hF1
    have hms_h := Lib.hid hms
    have hfld_h := Lib.hid hfld
    have hX_h := Lib.hid hX
    have hR_h := Lib.hid hR
    have hXl_h := Lib.hid hXl
    clear hF1 hms hfld hX hR hXl
    go_wp2_with (fail)
    refine beginH (fun w' => w'.heap[w.heap.size]? = some (.cells #[.int .i64 s.1, .int .i64 s.2.1, .slice A n c] tRel)) (by kernel_rfl) ?_
    generalize w1.drew = W1 at hbd hF1_h ⊢
    have hB1' := below_trans hB1 hbd hB1.size
    replace k0_h := Lib.hid (box_below k0_h.out hbd)
    replace k1_h := Lib.hid (box_below k1_h.out hbd)
    have hw2 : w.heap.size + 1 < W1.heap.size := (Array.getElem?_eq_some_iff.1 k1_h.out).1
    clear hB1 hbd hb1
    have hB1'_h := Lib.hid hB1'
    clear hB1'
    refine takeH 0 (v := ?_) rfl (by kernel_rfl) (by kernel_rfl) (by kernel_rfl) (fun _ _ _ h => h) k0_h.out (by rfl) (fun W' hW' => ?_) ?_; rotate_left; · (obtain ⟨⟨y0, y1, y2⟩, y3, y4, y5⟩ := box3 hW'; clear hW'; go_simp; first | done | with_reducible rfl)
    simp only [Act.put, List.setIfInBounds_toArray, List.set_cons_zero, List.set_cons_succ]
    refine takeH 1 (v := ?_) rfl (by kernel_rfl) (by kernel_rfl) (by kernel_rfl) (fun _ _ _ h => h) k0_h.out (by rfl) (fun W' hW' => ?_) ?_; rotate_left; · (obtain ⟨⟨y0, y1, y2⟩, y3, y4, y5⟩ := box3 hW'; clear hW'; go_simp; first | done | with_reducible rfl)
    simp only [Act.put, List.setIfInBounds_toArray, List.set_cons_zero, List.set_cons_succ]
    refine takeH 2 (v := ?_) rfl (by kernel_rfl) (by kernel_rfl) (by kernel_rfl) (fun _ _ _ h => h) k0_h.out (by rfl) (fun W' hW' => ?_) ?_; rotate_left; · (obtain ⟨⟨y0, y1, y2⟩, y3, y4, y5⟩ := box3 hW'; clear hW'; go_simp; first | done | with_reducible rfl)
    simp only [Act.put, List.setIfInBounds_toArray, List.set_cons_zero, List.set_cons_succ]
    refine takeH 3 (v := ?_) rfl (by kernel_rfl) (by kernel_rfl) (by kernel_rfl) (fun _ _ _ h => h) k0_h.out (by rfl) (fun W' hW' => ?_) ?_; rotate_left; · (obtain ⟨⟨y0, y1, y2⟩, y3, y4, y5⟩ := box3 hW'; clear hW'; go_simp; first | done | with_reducible rfl)
    simp only [Act.put, List.setIfInBounds_toArray, List.set_cons_zero, List.set_cons_succ]
    refine takeH 4 (v := ?_) rfl (by kernel_rfl) (by kernel_rfl) (by kernel_rfl) (fun _ _ _ h => h) k0_h.out (by rfl) (fun W' hW' => ?_) ?_; rotate_left; · (obtain ⟨⟨y0, y1, y2⟩, y3, y4, y5⟩ := box3 hW'; clear hW'; go_simp; first | done | with_reducible rfl)
    simp only [Act.put, List.setIfInBounds_toArray, List.set_cons_zero, List.set_cons_succ]
    refine takeH 5 (v := ?_) rfl (by kernel_rfl) (by kernel_rfl) (by kernel_rfl) (fun _ _ _ h => h) k0_h.out (by rfl) (fun W' hW' => ?_) ?_; rotate_left; · (skip; clear hW'; go_simp; first | done | with_reducible rfl)
    simp only [Act.put, List.setIfInBounds_toArray, List.set_cons_zero, List.set_cons_succ]
    refine' callH 6 (f := _) (args := _) rfl (by kernel_rfl) (by rfl) ?_ ?_; rotate_left 2; · (go_simp; first | done | with_reducible rfl | (constructor <;> with_reducible rfl))
    refine (hF1_h.out).mono ?_
    rintro e w2 ⟨A1, c1, g1, m, rfl, hgl, hm24, hgm, hO1⟩
    replace k0_h := Lib.hid (box_below k0_h.out hO1.below_)
    replace k1_h := Lib.hid (box_below k1_h.out hO1.below_)
    have hz2 := box_lt k1_h.out
    refine ⟨_, rfl, k0_h.out, ?_⟩
    simp only [Act.put, List.setIfInBounds_toArray, List.set_cons_zero, List.set_cons_succ]
    have hXm : X.length = m := by rw [← hgm, List.length_map, hgl]
    have e1 : ((s.2.1.toNat : Nat) : Int) = s.2.1 := by omega
    have hC := span_any p s.2.1.toNat A1 c1 g1 w2 hO1.rdr hfld_h.out (by rw [hgm, hgl, ← hXm]; exact hms_h.out) (by omega) (by omega)
    rw [hgm, ← hR_h.out, hgl, e1] at hC
    have hB2 := below_trans hB1'_h.out hO1.below_ hB1'_h.out.size
    clear hgl hgm hO1 hXm e1
    have hC_h := Lib.hid hC
    have hB2_h := Lib.hid hB2
    clear hC hB2
    refine' callH 7 (f := _) (args := _) rfl (by kernel_rfl) (by rfl) ?_ ?_; rotate_left 2; · (go_simp; first | done | with_reducible rfl | (constructor <;> with_reducible rfl))
    refine (hC_h.out).mono ?_
    rintro e w3 ⟨v3, fp3, rfl, hO3, hf3, hb3⟩
    replace k0_h := Lib.hid (box_below k0_h.out hb3)
    replace k1_h := Lib.hid (box_below k1_h.out hb3)
    refine ⟨_, rfl, k0_h.out, ?_⟩
    simp only [Act.put, List.setIfInBounds_toArray, List.set_cons_zero, List.set_cons_succ]
    obtain ⟨A3, n3, c3, rfl⟩ := hO3.shape
    have hB3 := below_trans hB2_h.out hb3 hB2_h.out.size
    have hBs := hB2_h.out.size
    have hz3 : w.heap.size + 1 < w3.heap.size := (Array.getElem?_eq_some_iff.1 k1_h.out).1
    obtain ⟨⟨d0, d1⟩, g0, g1'⟩ := box2 k1_h.out
    obtain ⟨s1, s2⟩ := set2 (a := .int .i64 s.2.1) (b := .slice A3 n3 c3) k1_h.out
    have k0' := box_keeps k0_h.out s2 (by omega)
    have hO4 := hO3.keeps s2 (fun k hk e => by have := hf3 k hk; omega)
    have hB4 := below_keeps hB3 s2 hB3.size (fun k hk => by omega)
    have hf4 := hf3.mono hBs
    clear hO3 hf3 hb3 hB3
    have s1_h := Lib.hid s1
    have s2_h := Lib.hid s2
    have k0'_h := Lib.hid k0'
    have hO4_h := Lib.hid hO4
    have hB4_h := Lib.hid hB4
    have hf4_h := Lib.hid hf4
    clear s1 s2 k0' hO4 hB4 hf4
    refine oneH 8 rfl (by kernel_rfl) (by rfl) (fun K hK => ?_)
    go_simp
    refine hK _ _ k0'_h.out ?_
    clear hK K
    refine takeH 9 (v := ?_) rfl (by kernel_rfl) (by kernel_rfl) (by kernel_rfl) (fun _ _ _ h => h) k0'_h.out (by rfl) (fun W' hW' => ?_) ?_; rotate_left; · (skip; clear hW'; go_simp; first | done | with_reducible rfl)
    simp only [Act.put, List.setIfInBounds_toArray, List.set_cons_zero, List.set_cons_succ]
    refine doneH (by kernel_rfl) ?_
    go_wp2_with (fail)
    refine bodyPost_ret (results_cell_tmp rfl _ _ (w.heap.size + 1) _ _ (0, 0) _ rfl s1_h.out Tryd.underlying48 rfl (by kernel_rfl)) rfl ?_
    exact ⟨_, rfl, fp3, by have := hO4_h.out; rw [hR_h.out, hX_h.out] at this; exact this, hf4_h.out, hB4_h.out⟩
  · have hb' : relB p s = false := by simpa using hb
    rw [hb'] at hG
    have hb2 := hcan false hb'
    rw [if_neg (by simp)] at hb2
    rw [hb2] at hC0
    subst hC0
    clear h ok hb hb' hb2 hcan hF hT
    have hG_h := Lib.hid hG
    have k0_h := Lib.hid k0
    have k1_h := Lib.hid k1
    have b0_h := Lib.hid b0
    clear hG k0 k1 b0
    go_enter Tryd.func35, Tryd.ntmps35
    go_upto_region 1 with (fail)
    rw [← hW]
    clear hW
    go_wp2_with (fail)
    refine (hG_h.out).mono ?_
    rintro e w1 ⟨rfl, hb1⟩
    clear c0 c1 c2 f0 f1 f2
    have k1' := box_below k1_h.out hb1
    have hB1 := below_trans b0_h.out hb1 b0_h.out.size
    have hw1 : w.heap.size + 1 < w1.heap.size := (Array.getElem?_eq_some_iff.1 k1').1
    obtain ⟨⟨d0, d1⟩, g0, g1⟩ := box2 k1'
    obtain ⟨s1, s2⟩ := set2 (a := .int .i64 0) (b := .slice none 0 0) k1'
    have hB3 := below_keeps hB1 s2 hB1.size (fun k hk => by omega)
    clear hB1 hb1 k1'
    have s1_h := Lib.hid s1
    have s2_h := Lib.hid s2
    have hB3_h := Lib.hid hB3
    clear s1 s2 hB3
    go_wp2_with (fail)
    refine bodyPost_ret (results_cell_tmp rfl _ _ (w.heap.size + 1) _ _ (0, 0) _ rfl s1_h.out Tryd.underlying48 rfl (by kernel_rfl)) rfl ?_
    exact ⟨_, [], rfl, OwMt.zero _ 0, FreshL.nil _, hB3_h.out⟩

theorem domM_ok {p : Int} {s : Sys} : OkR (domM p s).1.2 := by
  unfold domM
  split
  · rename_i h
    have hs := RelOk.of h
    have hm := firstM_mat hs
    have hl : (firstM s).length = s.2.2.length := by unfold firstM; rw [List.length_map]
    rw [← hl] at hm
    have hr := redM_spec hs.fld hm
    have := hs.len; have := hs.sum; have := hs.hi; have := hs.lo
    exact okR_mat hr.1.1 (by have := hr.2.2; omega) (by omega)
  · exact okR_nil
theorem ranM_ok {p : Int} {s : Sys} : OkR (ranM p s).1.2 := by
  unfold ranM
  split
  · rename_i h
    have hs := RelOk.of h
    have hm := secondM_mat hs
    have hl : (secondM s).length = s.2.2.length := by unfold secondM; rw [List.length_map]
    rw [← hl] at hm
    have hr := redM_spec hs.fld hm
    have := hs.len; have := hs.sum; have := hs.hi; have := hs.lo
    exact okR_mat hr.1.1 (by have := hr.2.2; omega) (by omega)
  · exact okR_nil
end Go.Proofs.YtpfidjegdpkhdaaDoor
namespace Go.Proofs.YtpfidjegdpkhdaaDoor
open Go.RowKit

section
variable {P : Program} {w : World} {e : TypeId} {sz n cap : Nat} {A : Option Addr} {xs : List Value}
/-- A slice expression: what it yields in every world, and what its value reads as. -/
theorem Sl.sliced (hs : Sl w e sz A n cap xs) (t : TypeId) {z : Option Value} {bytes : Nat} (ht : P.underlying t = some (.slice e)) (hinfo : (P.info? e).map (fun i => (i.zero, i.size, i.bytes)) = some (z, sz, bytes))
    (lo hi mx : Option Value) (l hgh m : Nat) (hlo : OptIs lo l (l = 0)) (hhi : OptIs hi hgh (hgh = n ∧ mx = none)) (hmx : OptIs mx m (m = cap)) (h1 : l ≤ hgh) (h2 : hgh ≤ n) (h3 : hgh ≤ m) (h4 : m ≤ cap) :
    ∃ A', (∀ w', (Instr.sliceAt t (.slice A n cap) lo hi mx).run P w' = .ok (.slice A' (hgh - l) (m - l)) w') ∧ Sl w e sz A' (hgh - l) (m - l) ((xs.drop (l * sz)).take ((hgh - l) * sz)) ∧ (∀ b, b ∈ fpA A' → b ∈ fpA A) := by
  obtain ⟨hcut, hfp, hsub⟩ := hs.cut h1 h2 h3 h4
  refine ⟨_, fun w => ?_, hcut, hfp⟩
  unfold OptIs at hlo hhi hmx
  obtain ⟨i, hi', hzz⟩ := Option.map_eq_some_iff.1 hinfo
  simp only [Prod.mk.injEq] at hzz
  have hb : ∀ (k : IntKind) (i : Int) (j y : Nat) (code : BoundsCode), i = (j : Int) → j ≤ y → (Instr.sliceBound (.int k i) y code).run P w = .ok j w := by
    intro k i j y code e hj
    subst e
    rw [run_sliceBound w k _ y code (by omega) (by omega)]; simp
  have hsb : (Instr.sliceBounds true n cap lo hi mx).run P w = .ok (l, hgh, m) w := by
    unfold Instr.sliceBounds
    cases mx with
    | none =>
      subst hmx
      cases hi with
      | none =>
        obtain ⟨rfl, _⟩ := hhi
        cases lo with
        | none => subst hlo; simp
        | some v => obtain ⟨k, L, rfl, hL⟩ := hlo; simp [hb k L l _ _ hL h1]
      | some v =>
        obtain ⟨k, L, rfl, hL⟩ := hhi
        have hb1 := hb k L hgh m .sliceAcap hL h3
        cases lo with
        | none => subst hlo; simp [hb1]
        | some v => obtain ⟨k', L', rfl, hL'⟩ := hlo; simp [hb1, hb k' L' l _ _ hL' h1]
    | some vm =>
      obtain ⟨km, M, rfl, hM⟩ := hmx
      have hb0 := hb km M m cap .slice3Acap hM h4
      cases hi with
      | none => obtain ⟨_, h0⟩ := hhi; cases h0
      | some v =>
        obtain ⟨k, L, rfl, hL⟩ := hhi
        have hb1 := hb k L hgh m .slice3B hL h3
        cases lo with
        | none => subst hlo; simp [hb0, hb1]
        | some v => obtain ⟨k', L', rfl, hL'⟩ := hlo; simp [hb0, hb1, hb k' L' l _ _ hL' h1]
  have hrun : (Instr.slice t (.slice A n cap) lo hi mx).run P w = .ok (.slice (if m = l then A else A.map (·.add (l * sz))) (hgh - l) (m - l)) w := by
    simp only [Instr.slice, Sem.run_bind, run_underlying ht, Result.andThen_ok, hsb]
    simp [sizeOf, typeInfo, hi', hzz.2.1]
  simp [Instr.sliceAt, run_underlying ht, hrun]
theorem xop_sliceW {ρ : Operand → Value} {o : Oper} {w w' : World} {t : TypeId} {x : Operand} {lo hi mx : Option Operand} {v : Value} (ho : o.op = .slice t x lo hi mx) (hr : (Instr.sliceAt t (ρ x) (lo.map ρ) (hi.map ρ) (mx.map ρ)).run P w = .ok v w') : (execOp ρ o).run P w = .ok (.value v) w' := by
  simp [execOp, ho, hr, Result.andThen]
end
/-- Rows just laid. -/
theorem laid_rdr {w : World} (hs : List Hd) (h : ∀ x, x ∈ hs → RdI w x.1 x.2.2) (hl : hs.length ≤ maxLen) : RdR (w.alloc (.cells (hs.map Hd.val).toArray 37)) (some ⟨w.heap.size, 0, none⟩) hs := by
  have hs1 := Sl.laid w 37 1 hs.length (hs.map Hd.val).toArray hl (by simp)
  refine ⟨fun i x hx => ?_, fun x hx => (h x hx).below (below_alloc _ _)⟩
  obtain ⟨ad, hA, _, hc, _⟩ := hs1.cell (j := i) (u := x.val) (by simp [hx])
  exact ⟨ad, hA, hc⟩
/-- The parts of a row exchanged. -/
def swapV (a : Nat) (u : List Int) : List Int := u.drop a ++ u.take a
theorem swapV_len (a : Nat) (u : List Int) : (swapV a u).length = u.length := by unfold swapV; rw [List.length_append, List.length_drop, List.length_take]; omega
theorem swapV_res {p : Int} {a : Nat} {u : List Int} (h : Res p u) : Res p (swapV a u) := fun x hx => by
  rcases List.mem_append.1 hx with hx | hx
  · exact h x (List.mem_of_mem_drop hx)
  · exact h x (List.mem_of_mem_take hx)
def convM (p : Int) (s : Sys) : Sys := (s.2.1, s.1, redM p (s.1 + s.2.1).toNat (s.2.2.map (swapV s.1.toNat)))

set_option maxRecDepth 8000 in
set_option maxHeartbeats 2000000 in
theorem rlConverse_any (p : Int) {v : Value} {s : Sys} {fp : List Nat} (w : World) (h : OwSys w v s fp) (hs : RelOk p s) :
    Calls Tryd.prog 103 #[.int .i64 p, v] w fun e w' => ∃ v' fp', e = .returned v' ∧ OwSys w' v' (convM p s) fp' ∧ FreshL w.heap.size fp' ∧ Below w.heap.size w w' := by
  have hmat0 := hs.mat.map (f := swapV s.1.toNat) fun v hv hr => ⟨(swapV_len _ v).trans hv, swapV_res hr⟩
  obtain ⟨A, c, gs, rfl, hL, hO, rfl⟩ := h
  obtain ⟨a, b, L⟩ := s
  have h0 : 0 ≤ a := hs.lo
  have h1 : 0 ≤ b := hs.hi
  have h2 : a + b ≤ 24 := hs.sum
  have hfld : fieldB p = true := hs.fld
  have hrow : ∀ u, u ∈ L → (u.length : Int) = a + b ∧ Res p u := fun u hu => hs.row hu
  have hlen : (L.length : Int) ≤ a + b := hs.len
  clear hs
  obtain ⟨na, rfl⟩ : ∃ na : Nat, a = (na : Int) := ⟨a.toNat, by omega⟩
  obtain ⟨nb, rfl⟩ : ∃ nb : Nat, b = (nb : Int) := ⟨b.toNat, by omega⟩
  have hL' : L = gs.map (fun h : Hd => h.2.2) := hL
  clear hL
  obtain ⟨m, hm⟩ : ∃ m, m = gs.length := ⟨_, rfl⟩
  have hLm : L.length = m := by rw [hL', List.length_map, hm]
  have hm24 : (m : Int) ≤ 24 := by have := hlen; rw [hLm] at this; omega
  obtain ⟨n, hn⟩ : ∃ n, n = na + nb := ⟨_, rfl⟩
  obtain ⟨X, hX⟩ : ∃ X, X = L.map (swapV na) := ⟨_, rfl⟩
  have hmat : Mat p X.length n X := by rw [hX, hn, List.length_map]; exact hmat0
  obtain ⟨R, hR⟩ : ∃ R, R = redM p n X := ⟨_, rfl⟩
  have hgoal : convM p ((na : Int), (nb : Int), L) = ((nb : Int), (na : Int), R) := by
    rw [hR, hX, hn]; rfl
  rw [hgoal]
  show Calls Tryd.prog _ #[.int .i64 p, .agg #[.int .i64 (na : Int), .int .i64 (nb : Int), .slice A gs.length c]] w _
  rw [← hm]
  obtain ⟨W, hW, b0, k0, k1⟩ := alloc2 w (.cells #[.int .i64 (na : Int), .int .i64 (nb : Int), .slice A m c] tRel) (.cells #[.int .i64 0, .int .i64 0, .slice none 0 0] tRel)
  have hO0 := hO.below b0
  have hz0 := box_lt k0
  have hz1 := box_lt k1
  have hN0 := RdO.nil W W (Below.refl _ _)
  obtain ⟨⟨c0, c1, c2⟩, f0, f1, f2⟩ := box3 k0
  have hn24 : n ≤ 24 := by omega
  have hna : na ≤ n := by omega
  have hnb : n - na = nb := by omega
  clear hO hmat0 hgoal
  have hL'_h := Lib.hid hL'
  have hm_h := Lib.hid hm
  have hLm_h := Lib.hid hLm
  have b0_h := Lib.hid b0
  have k0_h := Lib.hid k0
  have k1_h := Lib.hid k1
  have hO0_h := Lib.hid hO0
  have hrow_h := Lib.hid hrow
  have hlen_h := Lib.hid hlen
  have hfld_h := Lib.hid hfld
  have hmat_h := Lib.hid hmat
  have hX_h := Lib.hid hX
  have hR_h := Lib.hid hR
  have hN0_h := Lib.hid hN0
  have hn_h := Lib.hid hn
  have hnb_h := Lib.hid hnb
  clear hL' hm hLm b0 k0 k1 hO0 hrow hlen hfld hmat hX hR hN0 hn hnb
  go_enter Tryd.func103, Tryd.ntmps103
  go_upto_region 1 with (fail)
  rw [← hW]
  clear hW
  go_wp2_with (fail)
  clear c0 c1 c2 f0 f1 f2
  go_loopw [11, 5] (fun i v wr => ∃ (k : Nat) (A' : Option Addr) (c' : Nat) (ys : List Hd), k ≤ m ∧ i = .int .i64 k ∧ v = .slice A' k c' ∧ ys.length = k ∧ ys.map (fun h : Hd => h.2.2) = (L.take k).map (swapV na) ∧ RdO W wr A' c' ys) (fun i _ _ => m - (intOf i).toNat)
  case atStart => exact ⟨0, none, 0, [], Nat.zero_le _, rfl, rfl, rfl, rfl, hN0_h.out⟩
  case round =>
    obtain ⟨k, A', c', ys, hk, rfl, rfl, hyl, hym, hO⟩ := hrel
    by_cases hlt : k < m
    · have hOr := hO0_h.out.below hO.below_
      have k0r := box_below k0_h.out hO.below_
      obtain ⟨ad, B, d, u, rfl, hx, hc, _⟩ := hOr.rd.at_ (k := k) (by rw [← hm_h.out]; exact hlt)
      have hyL : L[k]? = some u := by rw [hL'_h.out, List.getElem?_map, hx]; rfl
      have hul : u.length = n := by have := (hrow_h.out _ (List.mem_of_getElem? hyL)).1; have := hn_h.out; omega
      have hI : Sl wr.drew 3 1 B n d (ints u) := by have := hOr.rows _ (List.mem_of_getElem? hx); unfold IS at this; rw [hul] at this; exact this
      have hcap := hI.2.1
      rw [hul] at hc
      have hkI : (k : Int) < (m : Int) := by omega
      obtain ⟨A2, hr2, hS2, hf2⟩ := hI.sliced (P := Tryd.prog) 37 Tryd.underlying37 info_int (some (.int .i64 (na : Int))) none none na n d (optSome rfl) (optNone ⟨rfl, rfl⟩) (optNone rfl) hna (Nat.le_refl _) hcap (Nat.le_refl _)
      obtain ⟨A3, hr3, hS3, hf3⟩ := hI.sliced (P := Tryd.prog) 37 Tryd.underlying37 info_int none (some (.int .i64 (na : Int))) none 0 na d (optNone rfl) (optSome rfl) (optNone rfl) (Nat.zero_le _) hna (by omega) (Nat.le_refl _)
      rw [hnb_h.out] at hr2
      simp only [Nat.sub_zero] at hr3
      have hd2 : RdI wr.drew A2 (u.drop na) := by
        have e : ((ints u).drop (na * 1)).take ((n - na) * 1) = ints (u.drop na) := by
          rw [List.take_of_length_le (by simp [hul])]; simp [ints, List.map_drop]
        rw [e] at hS2
        intro j x hj
        obtain ⟨ad, hA, _, hc, _⟩ := hS2.cell (ints_get hj)
        exact ⟨ad, hA, hc⟩
      have hd3 : RdI wr.drew A3 (u.take na) := by
        have e : ((ints u).drop (0 * 1)).take ((na - 0) * 1) = ints (u.take na) := by simp [ints, List.map_take]
        rw [e] at hS3
        intro j x hj
        obtain ⟨ad, hA, _, hc, _⟩ := hS3.cell (ints_get hj)
        exact ⟨ad, hA, hc⟩
      have hl2 : (u.drop na).length = nb := by rw [List.length_drop, hul]; exact hnb_h.out
      have hl3 : (u.take na).length = na := by rw [List.length_take, hul]; omega
      have hC := l1Own_any A2 (d - na) (u.drop na) wr.drew hd2 (by omega)
      rw [hl2] at hC
      have hbd : Below wr.heap.size wr wr.drew := below_drewN (Below.refl _ _) 1
      clear hOr hx hS2 hS3 hf2 hf3 hI
      have hyL_h := Lib.hid hyL
      have hul_h := Lib.hid hul
      have hyl_h := Lib.hid hyl
      have hym_h := Lib.hid hym
      have hO_h := Lib.hid hO
      have k0r_h := Lib.hid k0r
      have hr2_h := Lib.hid hr2
      have hr3_h := Lib.hid hr3
      have hd2_h := Lib.hid hd2
      have hd3_h := Lib.hid hd3
      have hl2_h := Lib.hid hl2
      have hl3_h := Lib.hid hl3
      have hC_h := Lib.hid hC
      have hbd_h := Lib.hid hbd
      clear hyL hul hyl hym hO k0r hr2 hr3 hd2 hd3 hl2 hl3 hC hbd
      go_wp2_with (fail)
      refine beginH (fun w' => w'.heap[w.heap.size]? = some (.cells #[.int .i64 (na : Int), .int .i64 (nb : Int), .slice (some ad) m c] tRel)) (by kernel_rfl) ?_
      clear hc
      obtain ⟨W1, hW1⟩ : ∃ W1, W1 = wr.drew := ⟨_, rfl⟩
      rw [← hW1] at hd2_h hd3_h hC_h hbd_h ⊢
      clear hW1
      replace k0r_h := Lib.hid (box_below k0r_h.out hbd_h.out)
      refine takeH 0 (v := ?_) rfl (by kernel_rfl) (by kernel_rfl) (by kernel_rfl) (fun _ _ _ h => h) k0r_h.out (by rfl) (fun W' hW' => ?_) ?_; rotate_left; · (obtain ⟨⟨y0, y1, y2⟩, y3, y4, y5⟩ := box3 hW'; clear hW'; go_simp; first | done | with_reducible rfl)
      simp only [Act.put, List.setIfInBounds_toArray, List.set_cons_zero, List.set_cons_succ]
      refine takeH 1 (v := ?_) rfl (by kernel_rfl) (by kernel_rfl) (by kernel_rfl) (fun _ _ _ h => h) k0r_h.out (by rfl) (fun W' hW' => ?_) ?_; rotate_left; · (obtain ⟨⟨y0, y1, y2⟩, y3, y4, y5⟩ := box3 hW'; clear hW'; go_simp; first | done | with_reducible rfl)
      simp only [Act.put, List.setIfInBounds_toArray, List.set_cons_zero, List.set_cons_succ]
      refine takeH 2 (v := ?_) rfl (by kernel_rfl) (by kernel_rfl) (by kernel_rfl) (fun _ _ _ h => h) k0r_h.out (by rfl) (fun W' hW' => ?_) ?_; rotate_left; · (obtain ⟨⟨y0, y1, y2⟩, y3, y4, y5⟩ := box3 hW'; clear hW'; go_simp; first | done | with_reducible rfl)
      simp only [Act.put, List.setIfInBounds_toArray, List.set_cons_zero, List.set_cons_succ]
      refine takeH 3 (v := ?_) rfl (by kernel_rfl) (by kernel_rfl) (by kernel_rfl) (fun _ _ _ h => h) k0r_h.out (by rfl) (fun W' hW' => ?_) ?_; rotate_left; · (obtain ⟨⟨y0, y1, y2⟩, y3, y4, y5⟩ := box3 hW'; clear hW'; go_simp; first | done | with_reducible rfl)
      simp only [Act.put, List.setIfInBounds_toArray, List.set_cons_zero, List.set_cons_succ]
      refine takeH 4 (v := .slice A2 nb (d - na)) rfl (by kernel_rfl) (by kernel_rfl) (by kernel_rfl) (fun _ _ _ h => h) k0r_h.out (by rfl) (fun W' _ => xop_sliceW rfl (hr2_h.out W')) ?_
      simp only [Act.put, List.setIfInBounds_toArray, List.set_cons_zero, List.set_cons_succ]
      refine takeH 6 (v := ?_) rfl (by kernel_rfl) (by kernel_rfl) (by kernel_rfl) (fun _ _ _ h => h) k0r_h.out (by rfl) (fun W' hW' => ?_) ?_; rotate_left; · (obtain ⟨⟨y0, y1, y2⟩, y3, y4, y5⟩ := box3 hW'; clear hW'; go_simp; first | done | with_reducible rfl)
      simp only [Act.put, List.setIfInBounds_toArray, List.set_cons_zero, List.set_cons_succ]
      refine takeH 7 (v := ?_) rfl (by kernel_rfl) (by kernel_rfl) (by kernel_rfl) (fun _ _ _ h => h) k0r_h.out (by rfl) (fun W' hW' => ?_) ?_; rotate_left; · (obtain ⟨⟨y0, y1, y2⟩, y3, y4, y5⟩ := box3 hW'; clear hW'; go_simp; first | done | with_reducible rfl)
      simp only [Act.put, List.setIfInBounds_toArray, List.set_cons_zero, List.set_cons_succ]
      refine takeH 8 (v := ?_) rfl (by kernel_rfl) (by kernel_rfl) (by kernel_rfl) (fun _ _ _ h => h) k0r_h.out (by rfl) (fun W' hW' => ?_) ?_; rotate_left; · (obtain ⟨⟨y0, y1, y2⟩, y3, y4, y5⟩ := box3 hW'; clear hW'; go_simp; first | done | with_reducible rfl)
      simp only [Act.put, List.setIfInBounds_toArray, List.set_cons_zero, List.set_cons_succ]
      refine takeH 9 (v := .slice A3 na d) rfl (by kernel_rfl) (by kernel_rfl) (by kernel_rfl) (fun _ _ _ h => h) k0r_h.out (by rfl) (fun W' _ => xop_sliceW rfl (hr3_h.out W')) ?_
      simp only [Act.put, List.setIfInBounds_toArray, List.set_cons_zero, List.set_cons_succ]
      refine' callH 5 (f := _) (args := _) rfl (by kernel_rfl) (by rfl) ?_ ?_; rotate_left 2; · (go_simp; first | done | with_reducible rfl | (constructor <;> with_reducible rfl))
      refine (hC_h.out).mono ?_
      rintro e w2 ⟨A4, c4, rfl, hi4, hf4, hb4⟩
      rw [hl2_h.out]
      replace k0r_h := Lib.hid (box_below k0r_h.out hb4)
      refine ⟨_, rfl, k0r_h.out, ?_⟩
      simp only [Act.put, List.setIfInBounds_toArray, List.set_cons_zero, List.set_cons_succ]
      have hs4 : Sl w2 tInt 1 A4 nb c4 (ints (u.drop na)) := by have := hi4; unfold IS at this; rwa [hl2_h.out] at this
      have hrd3 := (hd3_h.out.below hb4).rdc
      have hil : (ints (u.take na)).length = na * 1 := by rw [ints_length, hl3_h.out, Nat.mul_one]
      have hB2 := below_trans hbd_h.out hb4 hbd_h.out.size
      have hzr := hbd_h.out.size
      have hz4 := hb4.size
      have hk0lt := box_lt k0r_h.out
      have hzW := hO_h.out.below_.size
      clear hi4 hb4
      have hf4_h := Lib.hid hf4
      have hs4_h := Lib.hid hs4
      have hrd3_h := Lib.hid hrd3
      have hil_h := Lib.hid hil
      have hB2_h := Lib.hid hB2
      clear hf4 hs4 hrd3 hil hB2
      refine appH 10 rfl (by kernel_rfl) (by rfl) _ _ _ rfl tInt Tryd.underlying37 info_int rfl (by omega) rfl hs4_h.out rfl hil_h.out hrd3_h.out (ints_one (u.take na)) (by unfold maxLen; omega) (by omega) ?_
      intro A5 c5 w3 hsA5 hA5 hkA5
      have k0s := box_keeps k0r_h.out hkA5 (by intro h; have := hf4_h.out _ h; omega)
      refine ⟨k0s, ?_⟩
      have hB3 := below_keeps hB2_h.out hkA5 (by omega) (fun b hb => by have := hf4_h.out b hb; omega)
      have hnew5 : ∀ b, b ∈ fpA A5 → W1.heap.size ≤ b := fun b hb => by
        rcases hA5 b hb with h1 | h1
        · exact hf4_h.out b h1
        · omega
      have hI5 : IS w3 A5 c5 (swapV na u) := by
        unfold IS
        rw [swapV_len, hul_h.out]
        have e : ints (swapV na u) = ints (u.drop na) ++ ints (u.take na) := by simp [swapV, ints]
        rw [e, ← (show nb + na = n by have := hn_h.out; omega)]; exact hsA5
      have k0t := box_below k0s (below_alloc w3 (.cells #[.slice A5 (nb + na) c5] 37))
      have hnn : nb + na = n := by have := hn_h.out; omega
      have hwl := (Keeps.size hkA5)
      rw [hnn] at k0t ⊢
      clear hsA5 hA5 hkA5
      have k0s_h := Lib.hid k0s
      have k0t_h := Lib.hid k0t
      have hB3_h := Lib.hid hB3
      have hnew5_h := Lib.hid hnew5
      have hI5_h := Lib.hid hI5
      have hnn_h := Lib.hid hnn
      clear k0s k0t hB3 hnew5 hI5 hnn
      simp only [Act.put, List.setIfInBounds_toArray, List.set_cons_zero, List.set_cons_succ]
      refine oneH 11 rfl (by kernel_rfl) (by rfl) (fun K hK => ?_)
      go_simp
      refine hK _ _ k0t_h.out ?_
      clear hK K
      have hsl : Sl (w3.alloc (.cells #[.slice A5 n c5] 37)) 37 1 A' k c' (ys.map Hd.val) := by
        have := (hO_h.out.sl.below hB3_h.out).alloc (.cells #[.slice A5 n c5] 37)
        rwa [hyl_h.out] at this
      have hsl_h := Lib.hid hsl
      clear hsl
      refine appH 12 rfl (by kernel_rfl) (by rfl) _ _ _ rfl 37 Tryd.underlying22 info_ints rfl (by omega) rfl hsl_h.out rfl (news := [.slice A5 n c5]) rfl (Sl.rdc (Sl.laid w3 37 1 1 #[.slice A5 n c5] (by unfold maxLen; omega) rfl)) (by intro u hu; simp at hu; subst hu; rfl) (by unfold maxLen; omega) (by omega) ?_
      intro A6 c6 w4 hsA6 hA6 hkA6
      have hal : Below w3.heap.size w3 (w3.alloc (.cells #[.slice A5 n c5] 37)) := below_alloc _ _
      have hO2 := hO_h.out.snoc (w1 := w3.alloc (.cells #[.slice A5 n c5] 37)) (below_trans hB3_h.out hal hB3_h.out.size) (x := (A5, c5, swapV na u)) (hI5_h.out.below hal) (fun b hb hb' => by
        have h1 := hO_h.out.sl.lt b hb'
        have h2 := hnew5_h.out b hb
        omega) (by rw [hyl_h.out]) (by show Sl w4 _ 1 A6 (k + 1) c6 (ys.map Hd.val ++ [.slice A5 (swapV na u).length c5]); rw [swapV_len, hul_h.out]; exact hsA6) hA6 hkA6
      have k0u := box_keeps k0t_h.out hkA6 (by intro h; have := hO_h.out.new _ h; omega)
      refine ⟨k0u, ?_⟩
      clear hsA6 hA6 hkA6
      have k0u_h := Lib.hid k0u
      have hO2_h := Lib.hid hO2
      clear k0u hO2
      simp only [Act.put, List.setIfInBounds_toArray, List.set_cons_zero, List.set_cons_succ]
      refine takeH 13 (v := ?_) rfl (by kernel_rfl) (by kernel_rfl) (by kernel_rfl) (fun _ _ _ h => h) k0u_h.out (by rfl) (fun W' hW' => ?_) ?_; rotate_left; · (skip; clear hW'; go_simp; first | done | with_reducible rfl)
      simp only [Act.put, List.setIfInBounds_toArray, List.set_cons_zero, List.set_cons_succ]
      refine doneH (by kernel_rfl) ?_
      go_wp2_with (fail)
      go_roundw
      case rel => exact ⟨k + 1, A6, c6, ys ++ [(A5, c5, swapV na u)], by omega, by go_num, rfl, by rw [List.length_append, hyl_h.out]; rfl, by rw [List.map_append, hym_h.out, List.take_add_one, hyL_h.out]; simp, hO2_h.out⟩
      case measure => simp [intOf]; omega
    · obtain rfl : k = m := by omega
      have hym2 : ys.map (fun h : Hd => h.2.2) = X := by rw [hym, List.take_of_length_le (by rw [hLm_h.out]; exact Nat.le_refl _), hX_h.out]
      have hC := rlOf_any p (nb : Int) (na : Int) n A' c' ys wr hO.rdr hfld_h.out (by have := hn_h.out; omega) (by rw [hym2]; have := hmat_h.out; rwa [show X.length = ys.length by rw [← hym2, List.length_map]] at this) (by omega) (by omega)
      rw [hym2, ← hR_h.out, hyl] at hC
      have k1r := box_below k1_h.out hO.below_
      have k0r := box_below k0_h.out hO.below_
      have hBr := below_trans b0_h.out hO.below_ b0_h.out.size
      have hzr := hO.below_.size
      obtain ⟨⟨c0, c1, c2⟩, f0, f1, f2⟩ := box3 k0r
      clear hym hym2 hyl hO k0r
      have hC_h := Lib.hid hC
      have k1r_h := Lib.hid k1r
      have hBr_h := Lib.hid hBr
      clear hC k1r hBr
      go_wp2_with (fail)
      refine (hC_h.out).mono ?_
      rintro e w1 ⟨v1, fp1, rfl, hO1, hf1, hb1⟩
      obtain ⟨A1, n1, c1', rfl⟩ := hO1.shape
      have k1' := box_below k1r_h.out hb1
      have hB1 := below_trans hBr_h.out hb1 hBr_h.out.size
      obtain ⟨⟨d0, d1, d2⟩, g0, g1, g2⟩ := box3 k1'
      obtain ⟨s1, s2⟩ := set3 (a := .int .i64 (nb : Int)) (b := .int .i64 (na : Int)) (c := .slice A1 n1 c1') k1'
      have hB3 := below_keeps hB1 s2 hB1.size (fun k hk => by omega)
      have hBs := hBr_h.out.size
      have hO3 := hO1.keeps s2 (fun k hk e => by have := hf1 k hk; omega)
      have hf3 := hf1.mono hBs
      clear k1' hB1 hO1 hf1
      clear c0 c1 c2 f0 f1 f2
      have s1_h := Lib.hid s1
      have s2_h := Lib.hid s2
      have hO3_h := Lib.hid hO3
      have hf3_h := Lib.hid hf3
      have hB3_h := Lib.hid hB3
      clear s1 s2 hO3 hf3 hB3
      go_wp2_with (fail)
      refine bodyPost_ret (results_cell_row rfl _ _ (w.heap.size + 1) _ _ (0, 0) _ rfl s1_h.out Tryd.underlying51 rfl (by kernel_rfl)) rfl ?_
      exact ⟨_, fp1, rfl, hO3_h.out, hf3_h.out, hB3_h.out⟩

set_option maxRecDepth 8000 in
set_option maxHeartbeats 2000000 in
theorem conv1_any (g na nb : Nat) (V : Value) (hV : V.oneCell' = true) (B : Option Addr) (d n : Nat) (u : List Int) (w : World) (h : Sl w 3 1 B n d (ints u)) (hn : n = na + nb) (hn2 : n ≤ 1000) (hg : w.heap[g]? = some (.cells #[.int .i64 na, .int .i64 nb, V] tRel)) :
    Calls Tryd.prog 141 #[.slice B n d, .pointer (some ⟨g, 0, none⟩)] w (RetI w (swapV na u)) := by
  have hul : u.length = n := by have := h.1; rw [ints_length] at this; omega
  have hl2 : (u.drop na).length = nb := by rw [List.length_drop]; omega
  have hl3 : (u.take na).length = na := by rw [List.length_take]; omega
  have hn_h := Lib.hid hn
  have hg_h := Lib.hid hg
  have h_h := Lib.hid h
  have hul_h := Lib.hid hul
  have hl2_h := Lib.hid hl2
  have hl3_h := Lib.hid hl3
  clear hn hg h hul hl2 hl3
  go_enter Tryd.func141, Tryd.ntmps141
  go_wp2_with (fail)
  have hbd : Below w.heap.size w w.drew := below_drewN (Below.refl _ _) 1
  refine beginH (fun w' => w'.heap[g]? = some (.cells #[.int .i64 na, .int .i64 nb, V] tRel)) (by kernel_rfl) ?_
  generalize w.drew = W1 at hbd ⊢
  replace hg_h := Lib.hid (box_below hg_h.out hbd)
  have h1 := h_h.out.below hbd
  have h1_h := Lib.hid h1
  have hbd_h := Lib.hid hbd
  clear h1 hbd
  refine takeH 0 (v := ?_) rfl (by kernel_rfl) (by kernel_rfl) (by kernel_rfl) (fun _ _ _ h => h) hg_h.out (by rfl) (fun W' hW' => ?_) ?_; rotate_left; · (obtain ⟨⟨y0, y1, y2⟩, y3, y4, y5⟩ := box3 hW'; clear hW'; go_simp; first | done | with_reducible rfl)
  simp only [Act.put, List.setIfInBounds_toArray, List.set_cons_zero, List.set_cons_succ]
  refine takeH 1 (v := ?_) rfl (by kernel_rfl) (by kernel_rfl) (by kernel_rfl) (fun _ _ _ h => h) hg_h.out (by rfl) (fun W' hW' => ?_) ?_; rotate_left; · (obtain ⟨⟨y0, y1, y2⟩, y3, y4, y5⟩ := box3 hW'; clear hW'; go_simp; first | done | with_reducible rfl)
  simp only [Act.put, List.setIfInBounds_toArray, List.set_cons_zero, List.set_cons_succ]
  refine takeH 3 (v := ?_) rfl (by kernel_rfl) (by kernel_rfl) (by kernel_rfl) (fun _ _ _ h => h) hg_h.out (by rfl) (fun W' hW' => ?_) ?_; rotate_left; · (obtain ⟨⟨y0, y1, y2⟩, y3, y4, y5⟩ := box3 hW'; clear hW'; go_simp; first | done | with_reducible rfl)
  simp only [Act.put, List.setIfInBounds_toArray, List.set_cons_zero, List.set_cons_succ]
  refine takeH 4 (v := ?_) rfl (by kernel_rfl) (by kernel_rfl) (by kernel_rfl) (fun _ _ _ h => h) hg_h.out (by rfl) (fun W' hW' => ?_) ?_; rotate_left; · (obtain ⟨⟨y0, y1, y2⟩, y3, y4, y5⟩ := box3 hW'; clear hW'; go_simp; first | done | with_reducible rfl)
  simp only [Act.put, List.setIfInBounds_toArray, List.set_cons_zero, List.set_cons_succ]
  refine' callH 2 (f := _) (args := _) rfl (by kernel_rfl) (by rfl) ?_ ?_; rotate_left 2; · (go_simp; first | done | with_reducible rfl | (constructor <;> with_reducible rfl))
  refine (second_any na (nb : Int) V hV B d n nb u W1 h1_h.out hn_h.out).mono ?_
  rintro e w2 ⟨B2, c2, rfl, hS2, hf2, hb2⟩
  replace hg_h := Lib.hid (box_below hg_h.out hb2)
  refine ⟨_, rfl, hg_h.out, ?_⟩
  simp only [Act.put, List.setIfInBounds_toArray, List.set_cons_zero, List.set_cons_succ]
  have h2 := h1_h.out.below hb2
  have h2_h := Lib.hid h2
  have hS2_h := Lib.hid hS2
  have hf2_h := Lib.hid hf2
  have hb2_h := Lib.hid hb2
  clear h2 hS2 hf2 hb2
  refine' callH 5 (f := _) (args := _) rfl (by kernel_rfl) (by rfl) ?_ ?_; rotate_left 2; · (go_simp; first | done | with_reducible rfl | (constructor <;> with_reducible rfl))
  refine (first_any na (nb : Int) V hV B d n u w2 h2_h.out (by have := hn_h.out; omega)).mono ?_
  rintro e w3 ⟨B3, rfl, hS3, hf3, hb3⟩
  replace hg_h := Lib.hid (box_below hg_h.out hb3)
  refine ⟨_, rfl, hg_h.out, ?_⟩
  simp only [Act.put, List.setIfInBounds_toArray, List.set_cons_zero, List.set_cons_succ]
  have hS2' := hS2_h.out.below hb3
  have hr2 : RdI w3 B2 (u.drop na) := fun j x hj => by
    obtain ⟨ad, hA, _, hc, _⟩ := hS2'.cell (ints_get hj)
    exact ⟨ad, hA, hc⟩
  have hr3 : RdI w3 B3 (u.take na) := fun j x hj => by
    obtain ⟨ad, hA, _, hc, _⟩ := hS3.cell (ints_get hj)
    exact ⟨ad, hA, hc⟩
  have hlr := laid_rdr (w := w3) [(B2, c2, u.drop na), (B3, d, u.take na)] (fun x hx => by
    rcases List.mem_cons.1 hx with rfl | hx
    · exact hr2
    · obtain rfl := List.mem_singleton.1 hx; exact hr3) (by unfold maxLen; simp)
  have e : (([(B2, c2, u.drop na), (B3, d, u.take na)] : List Hd).map Hd.val).toArray = #[.slice B2 nb c2, .slice B3 na d] := by
    simp [Hd.val, hl2_h.out, hl3_h.out]
  rw [e] at hlr
  have hgn := box_below hg_h.out (below_alloc w3 (.cells #[.slice B2 nb c2, .slice B3 na d] 37))
  have hJ := joined_any (some ⟨w3.heap.size, 0, none⟩) 2 [(B2, c2, u.drop na), (B3, d, u.take na)] _ hlr (by simp) (by simp; have := hul_h.out; omega)
  have e2 : (([(B2, c2, u.drop na), (B3, d, u.take na)] : List Hd).map fun h : Hd => h.2.2).flatten = swapV na u := by simp [swapV]
  rw [e2] at hJ
  have hB3 := below_trans (below_trans hbd_h.out hb2_h.out hbd_h.out.size) hb3 (Nat.le_trans hbd_h.out.size hb2_h.out.size)
  have hB4 := below_trans hB3 (below_alloc w3 (.cells #[.slice B2 nb c2, .slice B3 na d] 37)) hB3.size
  clear hlr e e2 hr2 hr3 hS2' hS3 hf3 hb3 hB3
  have hgn_h := Lib.hid hgn
  have hJ_h := Lib.hid hJ
  have hB4_h := Lib.hid hB4
  clear hgn hJ hB4
  refine oneH 6 rfl (by kernel_rfl) (by rfl) (fun K hK => ?_)
  go_simp
  refine hK _ _ hgn_h.out ?_
  clear hK K
  refine' callH 7 (f := _) (args := _) rfl (by kernel_rfl) (by rfl) ?_ ?_; rotate_left 2; · (go_simp; first | done | with_reducible rfl | (constructor <;> with_reducible rfl))
  refine (hJ_h.out).mono ?_
  rintro e w4 ⟨A4, c4, rfl, hi4, hf4, hb4⟩
  replace hgn_h := Lib.hid (box_below hgn_h.out hb4)
  refine ⟨_, rfl, hgn_h.out, ?_⟩
  simp only [Act.put, List.setIfInBounds_toArray, List.set_cons_zero, List.set_cons_succ]
  have hres : RetI w (swapV na u) (.returned (.slice A4 (swapV na u).length c4)) w4 := ⟨A4, c4, rfl, hi4, hf4.mono hB4_h.out.size, below_trans hB4_h.out hb4 hB4_h.out.size⟩
  clear hi4 hf4 hb4
  have hres_h := Lib.hid hres
  clear hres
  refine takeH 8 (v := ?_) rfl (by kernel_rfl) (by kernel_rfl) (by kernel_rfl) (fun _ _ _ h => h) hgn_h.out (by rfl) (fun W' hW' => ?_) ?_; rotate_left; · (skip; clear hW'; go_simp; first | done | with_reducible rfl)
  simp only [Act.put, List.setIfInBounds_toArray, List.set_cons_zero, List.set_cons_succ]
  refine doneH (by kernel_rfl) ?_
  go_wp2_with (fail)
  go_ret
  exact hres_h.out

set_option maxRecDepth 8000 in
set_option maxHeartbeats 2000000 in
theorem converse_any (p : Int) {v : Value} {s : Sys} {fp : List Nat} (w : World) (h : OwSys w v s fp) (hs : RelOk p s) :
    Calls Tryd.prog 104 #[.int .i64 p, v] w fun e w' => ∃ v' fp', e = .returned v' ∧ OwSys w' v' (convM p s) fp' ∧ FreshL w.heap.size fp' ∧ Below w.heap.size w w' := by
  have hmat0 := hs.mat.map (f := swapV s.1.toNat) fun v hv hr => ⟨(swapV_len _ v).trans hv, swapV_res hr⟩
  obtain ⟨A, c, gs, rfl, hL, hO, rfl⟩ := h
  obtain ⟨a, b, L⟩ := s
  have h0 : 0 ≤ a := hs.lo
  have h1 : 0 ≤ b := hs.hi
  have h2 : a + b ≤ 24 := hs.sum
  have hfld : fieldB p = true := hs.fld
  have hrow : ∀ u, u ∈ L → (u.length : Int) = a + b ∧ Res p u := fun u hu => hs.row hu
  have hlen : (L.length : Int) ≤ a + b := hs.len
  clear hs
  obtain ⟨na, rfl⟩ : ∃ na : Nat, a = (na : Int) := ⟨a.toNat, by omega⟩
  obtain ⟨nb, rfl⟩ : ∃ nb : Nat, b = (nb : Int) := ⟨b.toNat, by omega⟩
  have hL' : L = gs.map (fun h : Hd => h.2.2) := hL
  clear hL
  obtain ⟨m, hm⟩ : ∃ m, m = gs.length := ⟨_, rfl⟩
  have hLm : L.length = m := by rw [hL', List.length_map, hm]
  have hm24 : (m : Int) ≤ 24 := by have := hlen; rw [hLm] at this; omega
  have hgr : ∀ x, x ∈ gs → x.2.2.length = na + nb := fun x hx => by have := (hrow _ (by rw [hL']; exact List.mem_map_of_mem hx)).1; omega
  obtain ⟨n, hn⟩ : ∃ n, n = na + nb := ⟨_, rfl⟩
  obtain ⟨X, hX⟩ : ∃ X, X = L.map (swapV na) := ⟨_, rfl⟩
  have hmat : Mat p X.length n X := by rw [hX, hn, List.length_map]; exact hmat0
  obtain ⟨R, hR⟩ : ∃ R, R = redM p n X := ⟨_, rfl⟩
  have hgoal : convM p ((na : Int), (nb : Int), L) = ((nb : Int), (na : Int), R) := by
    rw [hR, hX, hn]; rfl
  rw [hgoal]
  show Calls Tryd.prog _ #[.int .i64 p, .agg #[.int .i64 (na : Int), .int .i64 (nb : Int), .slice A gs.length c]] w _
  rw [← hm]
  have hEa := fun (W' : World) (hb : Below w.heap.size w W') (hg : W'.heap[w.heap.size]? = some (.cells #[.int .i64 (na : Int), .int .i64 (nb : Int), .slice A m c] tRel)) => each_any 141 #[] #[.pointer (some ⟨w.heap.size, 0, none⟩)] (swapV na) (na : Int) (nb : Int) A c gs W' (hO.below hb).rd (hO.below hb).rows (by omega) (fun _ _ => rfl) (fun x hx W2 hb2 => by
    have hI : Sl W2 3 1 x.1 x.2.2.length x.2.1 (ints x.2.2) := ((hO.below hb).rows x hx).below hb2
    have hl := hgr x hx
    have := conv1_any w.heap.size na nb (.slice A m c) rfl x.1 x.2.1 x.2.2.length x.2.2 W2 hI (by omega) (by omega) (box_below hg hb2)
    refine this.mono ?_
    rintro e w4 ⟨A4, c4, rfl, hi4, hf4, hb4⟩
    exact ⟨A4, c4, rfl, hi4, fun b hb => .inr (hf4 b hb), hb4⟩)
  simp only [← hm] at hEa
  obtain ⟨W, hW, b0, k0, k1⟩ := alloc2 w (.cells #[.int .i64 (na : Int), .int .i64 (nb : Int), .slice A m c] tRel) (.cells #[.int .i64 0, .int .i64 0, .slice none 0 0] tRel)
  have hmf : ∀ (fn : Fn) (first cap : Array Value) (w : World), (Instr.makeFunc fn first cap).run Tryd.prog w = .ok (.func fn first cap) w := fun _ _ _ _ => rfl
  clear hO hmat0 hgoal hgr
  have hL'_h := Lib.hid hL'
  have hm_h := Lib.hid hm
  have hLm_h := Lib.hid hLm
  have k0_h := Lib.hid k0
  have k1_h := Lib.hid k1
  have b0_h := Lib.hid b0
  have hrow_h := Lib.hid hrow
  have hlen_h := Lib.hid hlen
  have hfld_h := Lib.hid hfld
  have hmat_h := Lib.hid hmat
  have hX_h := Lib.hid hX
  have hR_h := Lib.hid hR
  have hEa_h := Lib.hid hEa
  have hn_h := Lib.hid hn
  clear hL' hm hLm k0 k1 b0 hrow hlen hfld hmat hX hR hEa hn
  go_enter Tryd.func104, Tryd.ntmps104
  go_wp2_with (fail)
  rw [← hW]
  clear hW
  have hbd : Below W.heap.size W W.drew := below_drewN (Below.refl _ _) 1
  refine beginH (fun w' => w'.heap[w.heap.size]? = some (.cells #[.int .i64 (na : Int), .int .i64 (nb : Int), .slice A m c] tRel)) (by kernel_rfl) ?_
  generalize W.drew = W1 at hbd ⊢
  replace k0_h := Lib.hid (box_below k0_h.out hbd)
  replace k1_h := Lib.hid (box_below k1_h.out hbd)
  have hB1 := below_trans b0_h.out hbd b0_h.out.size
  have hw1 : w.heap.size + 1 < W1.heap.size := (Array.getElem?_eq_some_iff.1 k1_h.out).1
  have hbd_h := Lib.hid hbd
  have hB1_h := Lib.hid hB1
  clear hbd hB1
  refine takeH 0 (v := ?_) rfl (by kernel_rfl) (by kernel_rfl) (by kernel_rfl) (fun _ _ _ h => h) k0_h.out (by rfl) (fun W' hW' => ?_) ?_; rotate_left; · (obtain ⟨⟨y0, y1, y2⟩, y3, y4, y5⟩ := box3 hW'; clear hW'; go_simp; first | done | with_reducible rfl)
  simp only [Act.put, List.setIfInBounds_toArray, List.set_cons_zero, List.set_cons_succ]
  refine takeH 1 (v := ?_) rfl (by kernel_rfl) (by kernel_rfl) (by kernel_rfl) (fun _ _ _ h => h) k0_h.out (by rfl) (fun W' hW' => ?_) ?_; rotate_left; · (obtain ⟨⟨y0, y1, y2⟩, y3, y4, y5⟩ := box3 hW'; clear hW'; go_simp; first | done | with_reducible rfl)
  simp only [Act.put, List.setIfInBounds_toArray, List.set_cons_zero, List.set_cons_succ]
  refine takeH 2 (v := ?_) rfl (by kernel_rfl) (by kernel_rfl) (by kernel_rfl) (fun _ _ _ h => h) k0_h.out (by rfl) (fun W' hW' => ?_) ?_; rotate_left; · (obtain ⟨⟨y0, y1, y2⟩, y3, y4, y5⟩ := box3 hW'; clear hW'; go_simp; first | done | with_reducible rfl)
  simp only [Act.put, List.setIfInBounds_toArray, List.set_cons_zero, List.set_cons_succ]
  refine takeH 3 (v := ?_) rfl (by kernel_rfl) (by kernel_rfl) (by kernel_rfl) (fun _ _ _ h => h) k0_h.out (by rfl) (fun W' hW' => ?_) ?_; rotate_left; · (obtain ⟨⟨y0, y1, y2⟩, y3, y4, y5⟩ := box3 hW'; clear hW'; go_simp; first | done | with_reducible rfl)
  simp only [Act.put, List.setIfInBounds_toArray, List.set_cons_zero, List.set_cons_succ]
  refine takeH 4 (v := ?_) rfl (by kernel_rfl) (by kernel_rfl) (by kernel_rfl) (fun _ _ _ h => h) k0_h.out (by rfl) (fun W' hW' => ?_) ?_; rotate_left; · (obtain ⟨⟨y0, y1, y2⟩, y3, y4, y5⟩ := box3 hW'; clear hW'; go_simp; first | done | with_reducible rfl)
  simp only [Act.put, List.setIfInBounds_toArray, List.set_cons_zero, List.set_cons_succ]
  refine takeH 5 (v := ?_) rfl (by kernel_rfl) (by kernel_rfl) (by kernel_rfl) (fun _ _ _ h => h) k0_h.out (by rfl) (fun W' hW' => ?_) ?_; rotate_left; · (obtain ⟨⟨y0, y1, y2⟩, y3, y4, y5⟩ := box3 hW'; clear hW'; go_simp; first | done | with_reducible rfl)
  simp only [Act.put, List.setIfInBounds_toArray, List.set_cons_zero, List.set_cons_succ]
  refine takeH 6 (v := ?_) rfl (by kernel_rfl) (by kernel_rfl) (by kernel_rfl) (fun _ _ _ h => h) k0_h.out (by rfl) (fun W' hW' => ?_) ?_; rotate_left; · (skip; clear hW'; go_simp; first | done | with_reducible rfl)
  simp only [Act.put, List.setIfInBounds_toArray, List.set_cons_zero, List.set_cons_succ]
  refine' callH 7 (f := _) (args := _) rfl (by kernel_rfl) (by rfl) ?_ ?_; rotate_left 2; · (go_simp; first | done | with_reducible rfl | (constructor <;> with_reducible rfl))
  refine (hEa_h.out W1 hB1_h.out k0_h.out).mono ?_
  rintro e w2 ⟨A1, c1, g1, rfl, hg1, hO1⟩
  replace k0_h := Lib.hid (box_below k0_h.out hO1.below_)
  replace k1_h := Lib.hid (box_below k1_h.out hO1.below_)
  have hz2 := box_lt k1_h.out
  refine ⟨_, rfl, k0_h.out, ?_⟩
  simp only [Act.put, List.setIfInBounds_toArray, List.set_cons_zero, List.set_cons_succ]
  have hg2 : g1.map (fun h : Hd => h.2.2) = X := by rw [hg1, hX_h.out, hL'_h.out, List.map_map]; rfl
  have hgl : g1.length = m := by have := congrArg List.length hg2; rwa [List.length_map, hX_h.out, List.length_map, hLm_h.out] at this
  have hXl : X.length = m := by rw [hX_h.out, List.length_map, hLm_h.out]
  have hC := relation_any p (nb : Int) (na : Int) n A1 c1 g1 w2 hO1.rdr hfld_h.out (by have := hn_h.out; omega) (by rw [hg2, hgl, ← hXl]; exact hmat_h.out) (by omega) (by have := hn_h.out; omega)
  rw [hg2, ← hR_h.out, hgl] at hC
  have hB2 := below_trans hB1_h.out hO1.below_ hB1_h.out.size
  clear hg1 hg2 hgl hXl hO1
  have hC_h := Lib.hid hC
  have hB2_h := Lib.hid hB2
  clear hC hB2
  refine' callH 8 (f := _) (args := _) rfl (by kernel_rfl) (by rfl) ?_ ?_; rotate_left 2; · (go_simp; first | done | with_reducible rfl | (constructor <;> with_reducible rfl))
  refine (hC_h.out).mono ?_
  rintro e w3 ⟨v3, fp3, rfl, hO3, hf3, hb3⟩
  replace k0_h := Lib.hid (box_below k0_h.out hb3)
  replace k1_h := Lib.hid (box_below k1_h.out hb3)
  refine ⟨_, rfl, k0_h.out, ?_⟩
  simp only [Act.put, List.setIfInBounds_toArray, List.set_cons_zero, List.set_cons_succ]
  obtain ⟨A3, n3, c3, rfl⟩ := hO3.shape
  have hB3 := below_trans hB2_h.out hb3 hB2_h.out.size
  have hBs := hB2_h.out.size
  have hz3 : w.heap.size + 1 < w3.heap.size := (Array.getElem?_eq_some_iff.1 k1_h.out).1
  obtain ⟨⟨d0, d1, d2⟩, g0, g1', g2'⟩ := box3 k1_h.out
  obtain ⟨s1, s2⟩ := set3 (a := .int .i64 (nb : Int)) (b := .int .i64 (na : Int)) (c := .slice A3 n3 c3) k1_h.out
  have k0' := box_keeps k0_h.out s2 (by omega)
  have hO4 := hO3.keeps s2 (fun k hk e => by have := hf3 k hk; omega)
  have hB4 := below_keeps hB3 s2 hB3.size (fun k hk => by omega)
  have hf4 := hf3.mono hBs
  clear hO3 hf3 hb3 hB3
  have s1_h := Lib.hid s1
  have s2_h := Lib.hid s2
  have k0'_h := Lib.hid k0'
  have hO4_h := Lib.hid hO4
  have hB4_h := Lib.hid hB4
  have hf4_h := Lib.hid hf4
  clear s1 s2 k0' hO4 hB4 hf4
  refine oneH 9 rfl (by kernel_rfl) (by rfl) (fun K hK => ?_)
  go_simp
  refine hK _ _ k0'_h.out ?_
  clear hK K
  refine doneH (by kernel_rfl) ?_
  go_wp2_with (fail)
  refine bodyPost_ret (results_cell_row rfl _ _ (w.heap.size + 1) _ _ (0, 0) _ rfl s1_h.out Tryd.underlying51 rfl (by kernel_rfl)) rfl ?_
  exact ⟨_, rfl, fp3, hO4_h.out, hf4_h.out, hB4_h.out⟩
/-- The converse, or none. -/
def conM (p : Int) (s : Sys) : Sys × Bool := if relB p s then (convM p s, true) else ((0, 0, []), false)
theorem conM_ok {p : Int} {s : Sys} : OkR (conM p s).1.2.2 := by
  unfold conM
  split
  · rename_i h
    have hs := RelOk.of h
    have hm := hs.mat.map (f := swapV s.1.toNat) fun v hv hr => ⟨(swapV_len _ v).trans hv, swapV_res hr⟩
    have hl : (s.2.2.map (swapV s.1.toNat)).length = s.2.2.length := List.length_map _
    rw [← hl] at hm
    have hr := redM_spec hs.fld hm
    have := hs.len; have := hs.sum; have := hs.hi; have := hs.lo
    exact okR_mat hr.1.1 (by have := hr.2.2; omega) (by omega)
  · exact okR_nil
set_option maxRecDepth 100000 in
set_option maxHeartbeats 2000000 in
theorem sConverseRelation_law (p : Int) {v : Value} {s : Sys} {fp : List Nat} {w : World} (h : OwSys w v s fp) (ok : OkR s.2.2) :
    Calls Tryd.prog 47 #[.int .i64 p, v] w fun e w' => ∃ v' fp', e = .returned (.tuple #[v', .bool (conM p s).2]) ∧ OwSys w' v' (conM p s).1 fp' ∧ FreshL w.heap.size fp' ∧ Below w.heap.size w w' := by
  obtain ⟨C, hC0⟩ : ∃ C, C = conM p s := ⟨_, rfl⟩
  rw [← hC0]
  have hcan : ∀ b, relB p s = b → conM p s = if b then (convM p s, true) else ((0, 0, []), false) := fun b hb => by unfold conM; rw [hb]
  obtain ⟨A, n, c, rfl⟩ := h.shape
  obtain ⟨W, hW, b0, k0, k1⟩ := alloc2 w (.cells #[.int .i64 s.1, .int .i64 s.2.1, .slice A n c] tRel) (.cells #[.int .i64 0, .int .i64 0, .slice none 0 0] tRel)
  have hG := rlGood_any p W (h.rd.below b0) ok.1 ok.2.1
  have hF := fun W' (hb : Below W.heap.size W W') (hs : RelOk p s) => rlConverse_any p W' ((h.below b0).below hb) hs
  obtain ⟨⟨c0, c1, c2⟩, f0, f1, f2⟩ := box3 k0
  by_cases hb : relB p s = true
  · rw [hb] at hG
    have hof := RelOk.of hb
    have hb' := hcan true hb
    rw [if_pos rfl] at hb'
    rw [hb'] at hC0
    subst hC0
    clear h ok hb hb' hcan
    have hG_h := Lib.hid hG
    have hF_h := Lib.hid hF
    have k0_h := Lib.hid k0
    have k1_h := Lib.hid k1
    have b0_h := Lib.hid b0
    have hof_h := Lib.hid hof
    clear hG hF k0 k1 b0 hof
    go_enter Tryd.func47, Tryd.ntmps47
    go_upto_region 1 with (fail)
    rw [← hW]
    clear hW
    go_wp2_with (fail)
    refine (hG_h.out).mono ?_
    rintro e w1 ⟨rfl, hb1⟩
    clear c0 c1 c2 f0 f1 f2
    replace k0_h := Lib.hid (box_below k0_h.out hb1)
    replace k1_h := Lib.hid (box_below k1_h.out hb1)
    obtain ⟨⟨c0, c1, c2⟩, f0, f1, f2⟩ := box3 k0_h.out
    obtain ⟨⟨d0, d1, d2⟩, g0, g1, g2⟩ := box3 k1_h.out
    have hB1 := below_trans b0_h.out hb1 b0_h.out.size
    have hw1 : w.heap.size + 1 < w1.heap.size := (Array.getElem?_eq_some_iff.1 k1_h.out).1
    have hF1 := hF_h.out w1 hb1 hof_h.out
    have hF1_h := Lib.hid hF1
    have hB1_h := Lib.hid hB1
    have hb1_h := Lib.hid hb1
    clear hF1 hB1 hb1
    go_wp2_with (fail)
    refine (hF1_h.out).mono ?_
    rintro e w2 ⟨v2, fp2, rfl, hO2, hf2, hb2⟩
    obtain ⟨A2, n2, c2', rfl⟩ := hO2.shape
    have k1' := box_below k1_h.out hb2
    clear d0 d1 d2 g0 g1 g2
    obtain ⟨⟨d0, d1, d2⟩, g0, g1, g2⟩ := box3 k1'
    obtain ⟨s1, s2⟩ := set3 (a := .int .i64 (convM p s).1) (b := .int .i64 (convM p s).2.1) (c := .slice A2 n2 c2') k1'
    have hB2 := below_trans hB1_h.out hb2 hB1_h.out.size
    have hB3 := below_keeps hB2 s2 hB2.size (fun k hk => by omega)
    have hO3 := hO2.keeps s2 (fun k hk e => by have := hf2 k hk; omega)
    have hf3 := hf2.mono hB1_h.out.size
    clear hB2 hO2 hf2 hb2 k1'
    have s1_h := Lib.hid s1
    have s2_h := Lib.hid s2
    have hB3_h := Lib.hid hB3
    have hO3_h := Lib.hid hO3
    have hf3_h := Lib.hid hf3
    clear s1 s2 hB3 hO3 hf3
    go_wp2_with (fail)
    refine bodyPost_ret (results_cell_tmp rfl _ _ (w.heap.size + 1) _ _ (0, 0) _ rfl s1_h.out Tryd.underlying51 rfl (by kernel_rfl)) rfl ?_
    exact ⟨_, fp2, rfl, hO3_h.out, hf3_h.out, hB3_h.out⟩
  · have hb' : relB p s = false := by simpa using hb
    rw [hb'] at hG
    have hb2 := hcan false hb'
    rw [if_neg (by simp)] at hb2
    rw [hb2] at hC0
    subst hC0
    clear h ok hb hb' hb2 hcan hF
    have hG_h := Lib.hid hG
    have k0_h := Lib.hid k0
    have k1_h := Lib.hid k1
    have b0_h := Lib.hid b0
    clear hG k0 k1 b0
    go_enter Tryd.func47, Tryd.ntmps47
    go_upto_region 1 with (fail)
    rw [← hW]
    clear hW
    go_wp2_with (fail)
    refine (hG_h.out).mono ?_
    rintro e w1 ⟨rfl, hb1⟩
    clear c0 c1 c2 f0 f1 f2
    have k1' := box_below k1_h.out hb1
    have hB1 := below_trans b0_h.out hb1 b0_h.out.size
    have hw1 : w.heap.size + 1 < w1.heap.size := (Array.getElem?_eq_some_iff.1 k1').1
    obtain ⟨⟨d0, d1, d2⟩, g0, g1, g2⟩ := box3 k1'
    obtain ⟨s1, s2⟩ := set3 (a := .int .i64 0) (b := .int .i64 0) (c := .slice none 0 0) k1'
    have hB3 := below_keeps hB1 s2 hB1.size (fun k hk => by omega)
    clear hB1 hb1 k1'
    have s1_h := Lib.hid s1
    have s2_h := Lib.hid s2
    have hB3_h := Lib.hid hB3
    clear s1 s2 hB3
    go_wp2_with (fail)
    refine bodyPost_ret (results_cell_tmp rfl _ _ (w.heap.size + 1) _ _ (0, 0) _ rfl s1_h.out Tryd.underlying51 rfl (by kernel_rfl)) rfl ?_
    exact ⟨_, [], rfl, OwSys.zero _ 0 0, FreshL.nil _, hB3_h.out⟩
set_option maxRecDepth 100000 in
set_option maxHeartbeats 2000000 in
theorem iConverseRelation_law (p : Int) {v : Value} {s : Sys} {fp : List Nat} {w : World} (h : OwSys w v s fp) (ok : OkR s.2.2) (hT : Tab w) :
    Calls Tryd.prog 48 #[.int .i64 p, v] w fun e w' => ∃ v' fp', e = .returned (.tuple #[v', .bool (conM p s).2]) ∧ OwSys w' v' (conM p s).1 fp' ∧ FreshL w.heap.size fp' ∧ Below w.heap.size w w' := by
  obtain ⟨C, hC0⟩ : ∃ C, C = conM p s := ⟨_, rfl⟩
  rw [← hC0]
  have hcan : ∀ b, relB p s = b → conM p s = if b then (convM p s, true) else ((0, 0, []), false) := fun b hb => by unfold conM; rw [hb]
  obtain ⟨A, n, c, rfl⟩ := h.shape
  obtain ⟨W, hW, b0, k0, k1⟩ := alloc2 w (.cells #[.int .i64 s.1, .int .i64 s.2.1, .slice A n c] tRel) (.cells #[.int .i64 0, .int .i64 0, .slice none 0 0] tRel)
  have hG := isRelation_any p W (h.rd.below b0) (hT.below b0 hT.lt) ok.1 ok.2.1
  have hF := fun W' (hb : Below W.heap.size W W') (hs : RelOk p s) => converse_any p W' ((h.below b0).below hb) hs
  obtain ⟨⟨c0, c1, c2⟩, f0, f1, f2⟩ := box3 k0
  by_cases hb : relB p s = true
  · rw [hb] at hG
    have hof := RelOk.of hb
    have hb' := hcan true hb
    rw [if_pos rfl] at hb'
    rw [hb'] at hC0
    subst hC0
    clear h ok hb hb' hcan hT
    have hG_h := Lib.hid hG
    have hF_h := Lib.hid hF
    have k0_h := Lib.hid k0
    have k1_h := Lib.hid k1
    have b0_h := Lib.hid b0
    have hof_h := Lib.hid hof
    clear hG hF k0 k1 b0 hof
    go_enter Tryd.func48, Tryd.ntmps48
    go_upto_region 1 with (fail)
    rw [← hW]
    clear hW
    go_wp2_with (fail)
    refine (hG_h.out).mono ?_
    rintro e w1 ⟨rfl, hb1⟩
    clear c0 c1 c2 f0 f1 f2
    replace k0_h := Lib.hid (box_below k0_h.out hb1)
    replace k1_h := Lib.hid (box_below k1_h.out hb1)
    obtain ⟨⟨c0, c1, c2⟩, f0, f1, f2⟩ := box3 k0_h.out
    obtain ⟨⟨d0, d1, d2⟩, g0, g1, g2⟩ := box3 k1_h.out
    have hB1 := below_trans b0_h.out hb1 b0_h.out.size
    have hw1 : w.heap.size + 1 < w1.heap.size := (Array.getElem?_eq_some_iff.1 k1_h.out).1
    have hF1 := hF_h.out w1 hb1 hof_h.out
    have hF1_h := Lib.hid hF1
    have hB1_h := Lib.hid hB1
    have hb1_h := Lib.hid hb1
    clear hF1 hB1 hb1
    go_wp2_with (fail)
    refine (hF1_h.out).mono ?_
    rintro e w2 ⟨v2, fp2, rfl, hO2, hf2, hb2⟩
    obtain ⟨A2, n2, c2', rfl⟩ := hO2.shape
    have k1' := box_below k1_h.out hb2
    clear d0 d1 d2 g0 g1 g2
    obtain ⟨⟨d0, d1, d2⟩, g0, g1, g2⟩ := box3 k1'
    obtain ⟨s1, s2⟩ := set3 (a := .int .i64 (convM p s).1) (b := .int .i64 (convM p s).2.1) (c := .slice A2 n2 c2') k1'
    have hB2 := below_trans hB1_h.out hb2 hB1_h.out.size
    have hB3 := below_keeps hB2 s2 hB2.size (fun k hk => by omega)
    have hO3 := hO2.keeps s2 (fun k hk e => by have := hf2 k hk; omega)
    have hf3 := hf2.mono hB1_h.out.size
    clear hB2 hO2 hf2 hb2 k1'
    have s1_h := Lib.hid s1
    have s2_h := Lib.hid s2
    have hB3_h := Lib.hid hB3
    have hO3_h := Lib.hid hO3
    have hf3_h := Lib.hid hf3
    clear s1 s2 hB3 hO3 hf3
    go_wp2_with (fail)
    refine bodyPost_ret (results_cell_tmp rfl _ _ (w.heap.size + 1) _ _ (0, 0) _ rfl s1_h.out Tryd.underlying51 rfl (by kernel_rfl)) rfl ?_
    exact ⟨_, fp2, rfl, hO3_h.out, hf3_h.out, hB3_h.out⟩
  · have hb' : relB p s = false := by simpa using hb
    rw [hb'] at hG
    have hb2 := hcan false hb'
    rw [if_neg (by simp)] at hb2
    rw [hb2] at hC0
    subst hC0
    clear h ok hb hb' hb2 hcan hF hT
    have hG_h := Lib.hid hG
    have k0_h := Lib.hid k0
    have k1_h := Lib.hid k1
    have b0_h := Lib.hid b0
    clear hG k0 k1 b0
    go_enter Tryd.func48, Tryd.ntmps48
    go_upto_region 1 with (fail)
    rw [← hW]
    clear hW
    go_wp2_with (fail)
    refine (hG_h.out).mono ?_
    rintro e w1 ⟨rfl, hb1⟩
    clear c0 c1 c2 f0 f1 f2
    have k1' := box_below k1_h.out hb1
    have hB1 := below_trans b0_h.out hb1 b0_h.out.size
    have hw1 : w.heap.size + 1 < w1.heap.size := (Array.getElem?_eq_some_iff.1 k1').1
    obtain ⟨⟨d0, d1, d2⟩, g0, g1, g2⟩ := box3 k1'
    obtain ⟨s1, s2⟩ := set3 (a := .int .i64 0) (b := .int .i64 0) (c := .slice none 0 0) k1'
    have hB3 := below_keeps hB1 s2 hB1.size (fun k hk => by omega)
    clear hB1 hb1 k1'
    have s1_h := Lib.hid s1
    have s2_h := Lib.hid s2
    have hB3_h := Lib.hid hB3
    clear s1 s2 hB3
    go_wp2_with (fail)
    refine bodyPost_ret (results_cell_tmp rfl _ _ (w.heap.size + 1) _ _ (0, 0) _ rfl s1_h.out Tryd.underlying51 rfl (by kernel_rfl)) rfl ?_
    exact ⟨_, [], rfl, OwSys.zero _ 0 0, FreshL.nil _, hB3_h.out⟩
end Go.Proofs.YtpfidjegdpkhdaaDoor
