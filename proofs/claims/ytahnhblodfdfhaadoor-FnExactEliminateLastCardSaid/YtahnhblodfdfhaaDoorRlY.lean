/-
  SLICE EXPRESSIONS IN DRAWN REGIONS; the walks of the converse.

  THE WALKS: each with first, second; RangeOf of the program; what is owned of the answers.

  THE WALKS: domain, isTotal, rlTotal; the contracts of DomainOf, RangeOf, IsTotal.

  THE WALKS: rlPart, domain; the contracts of DomainOf, RangeOf, IsTotal.

  THE WALKS: each; relation, span.

  THE WALKS: is a relation single-valued.

  THE WALKS: lead, isZero, the parts of a row, is it single-valued.
-/
import Derived.Test.YtahnhblodfdfhaaDoorRlR
import Derived.Test.YtahnhblodfdfhaaDoorNull
import Derived.Test.YtahnhblodfdfhaaDoorRelOf
import Derived.BigQuiet
import Derived.Test.YtahnhblodfdfhaaDoorPlaced
namespace Go.Proofs.YtahnhblodfdfhaaDoor
open Go.RowKit

set_option maxHeartbeats 400000 in
theorem lead_any (A : Option Addr) (c n : Nat) (l : List Int) (w : World) (h : RdI w A l) (hn : l.length = n) (hl : n ≤ 1048576) :
    Calls Tryd.prog 119 #[.slice A n c] w fun e w' => e = .returned (.int .i64 (leadV l : Nat)) ∧ w = w' := by
  have hn_h := Lib.hid hn
  clear hn
  go_enter Tryd.func119, Tryd.ntmps119
  go_wp2_with (fail)
  go_loop [7, 3, 4] (fun v _s3 _s4 => ∃ k : Nat, k ≤ n ∧ v = .int .i64 k ∧ (l.take k).all (· == 0) = true) (fun v _ _ => n - (intOf v).toNat)
  case atStart => exact ⟨0, Nat.zero_le _, rfl, by simp⟩
  case round =>
    obtain ⟨k, hk, rfl, hz⟩ := hrel
    have hz_h := Lib.hid hz
    clear hz
    by_cases hlt : k < n
    · obtain ⟨ad, x, rfl, hx, hc⟩ := h.at_ (j := k) (by rw [hn_h.out]; exact hlt)
      have hkI : (k : Int) < (n : Int) := by omega
      clear h
      have hx_h := Lib.hid hx
      clear hx
      by_cases hx0 : x = 0
      · subst hx0
        have hs := leadV_step hx_h.out rfl hz_h.out
        have hs_h := Lib.hid hs
        clear hs
        go_wp2_with (fail)
        go_round
        case rel => exact ⟨k + 1, by omega, by go_num, hs_h.out⟩
        case measure => simp [intOf]; omega
      · have hx1 : (x != 0) = true := by simpa using hx0
        have he := leadV_at (l := l) (k := k) (by rw [hn_h.out]; omega) hz_h.out (fun _ => by rw [getD_of_some hx_h.out]; exact hx0)
        clear hx0
        have he_h := Lib.hid he
        clear he
        go_wp2_with (fail)
        go_ret
        exact ⟨ret_int (by rw [he_h.out]), rfl⟩
    · obtain rfl : n = k := by omega
      have he := leadV_at (l := l) (k := n) (by rw [hn_h.out]; omega) hz_h.out (fun h => absurd h (by rw [hn_h.out]; omega))
      clear h
      have he_h := Lib.hid he
      clear he
      go_wp2_with (fail)
      go_ret
      exact ⟨ret_int (by rw [he_h.out]), rfl⟩
theorem first_any (na : Nat) (b : Int) (x : Value) (_hx : x.oneCell' = true) (B : Option Addr) (cc n : Nat) (u : List Int) (w : World) (h : Sl w 3 1 B n cc (ints u)) (hna : na ≤ n) :
    Calls Tryd.prog 126 #[.agg #[.int .i64 na, .int .i64 b, x], .slice B n cc] w fun e w' => ∃ B', e = .returned (.slice B' na cc) ∧ Sl w' 3 1 B' na cc (ints (u.take na)) ∧ (∀ y, y ∈ fpA B' → y ∈ fpA B) ∧ Below w.heap.size w w' := by
  obtain ⟨W, hW, b0, k0⟩ := alloc_box w (.cells #[.int .i64 na, .int .i64 b, x] tRel)
  obtain ⟨⟨c0, c1, c2⟩, f0, f1, f2⟩ := box3 k0
  have hS := h.below b0
  have hcap := hS.2.1
  have hmx := hS.2.2.1
  have k0_h := Lib.hid k0
  have b0_h := Lib.hid b0
  clear k0 b0
  go_enter Tryd.func126, Tryd.ntmps126
  go_upto_region 1 with (fail)
  rw [← hW]
  clear hW
  go_wp2_with (refine wpList_slice_Sl rfl (.tmp 5) none (some (.tmp 7)) none 33 rfl 3 Tryd.underlying33 info_int rfl hS 0 na cc (optNone rfl) (optSome rfl) (optNone rfl) (Nat.zero_le _) hna (by omega) (Nat.le_refl _) ?_; intro B' hS' hf' _)
  go_ret
  refine ⟨B', rfl, ?_, hf', b0_h.out⟩
  have e : ((ints u).drop (0 * 1)).take ((na - 0) * 1) = ints (u.take na) := by simp [ints, List.map_take]
  rw [e] at hS'
  exact hS'
theorem second_any (na : Nat) (b : Int) (x : Value) (_hx : x.oneCell' = true) (B : Option Addr) (cc n r : Nat) (u : List Int) (w : World) (h : Sl w 3 1 B n cc (ints u)) (hna : n = na + r) :
    Calls Tryd.prog 125 #[.agg #[.int .i64 na, .int .i64 b, x], .slice B n cc] w fun e w' => ∃ B' c', e = .returned (.slice B' r c') ∧ Sl w' 3 1 B' r c' (ints (u.drop na)) ∧ (∀ y, y ∈ fpA B' → y ∈ fpA B) ∧ Below w.heap.size w w' := by
  obtain ⟨W, hW, b0, k0⟩ := alloc_box w (.cells #[.int .i64 na, .int .i64 b, x] tRel)
  obtain ⟨⟨c0, c1, c2⟩, f0, f1, f2⟩ := box3 k0
  have hS := h.below b0
  have hcap := hS.2.1
  have hmx := hS.2.2.1
  have hul : (ints u).length = n := by rw [hS.1]; omega
  have hle : na ≤ n := by omega
  have k0_h := Lib.hid k0
  have b0_h := Lib.hid b0
  have hul_h := Lib.hid hul
  have hna_h := Lib.hid hna
  clear k0 b0 hul hna
  go_enter Tryd.func125, Tryd.ntmps125
  go_upto_region 1 with (fail)
  rw [← hW]
  clear hW
  go_wp2_with (refine wpList_slice_Sl rfl (.tmp 5) (some (.tmp 7)) none none 33 rfl 3 Tryd.underlying33 info_int rfl hS na n cc (optSome rfl) (optNone ⟨rfl, rfl⟩) (optNone rfl) hle (Nat.le_refl _) hcap (Nat.le_refl _) ?_; intro B' hS' hf' _)
  have er : n - na = r := by have := hna_h.out; omega
  rw [er] at hS' ⊢
  go_wp2_with (fail)
  go_ret
  refine ⟨B', cc - na, rfl, ?_, hf', b0_h.out⟩
  have e : ((ints u).drop (na * 1)).take (r * 1) = ints (u.drop na) := by
    rw [List.take_of_length_le (by rw [List.length_drop, hul_h.out]; omega)]
    simp [ints, List.map_drop]
  rw [e] at hS'
  exact hS'
end Go.Proofs.YtahnhblodfdfhaaDoor
namespace Go.Proofs.YtahnhblodfdfhaaDoor
open Go.RowKit

theorem singB_false {s : Sys} {v : List Int} {k : Nat} (h : s.2.2[k]? = some v) (hv : ¬ (leadV v : Int) < s.1) : singB s = false := by
  rw [Bool.eq_false_iff]
  intro hh
  have := List.all_eq_true.1 hh v (List.mem_of_getElem? h)
  exact hv (by simpa using this)
theorem sing_step {L : List (List Int)} {a : Int} {v : List Int} {k : Nat} (h : L[k]? = some v) (hv : (leadV v : Int) < a) (ht : (L.take k).all (fun v => decide ((leadV v : Int) < a)) = true) : (L.take (k + 1)).all (fun v => decide ((leadV v : Int) < a)) = true := by
  rw [List.take_add_one, h, List.all_append, ht]
  simpa using hv
end Go.Proofs.YtahnhblodfdfhaaDoor
namespace Go.Proofs.YtahnhblodfdfhaaDoor
open Go.RowKit

/-- An outer row of a call's own, whose rows are read: they may lie in old or new memory. -/
structure RdO (w0 w : World) (A : Option Addr) (cap : Nat) (hs : List Hd) : Prop where
  sl : Sl w 33 1 A hs.length cap (hs.map Hd.val)
  rows : ∀ h, h ∈ hs → IS w h.1 h.2.1 h.2.2
  outer : ∀ h, h ∈ hs → ∀ b, b ∈ fpA h.1 → ¬ b ∈ fpA A
  new : ∀ b, b ∈ fpA A → w0.heap.size ≤ b
  below_ : Below w0.heap.size w0 w
section
variable {w0 w w' : World} {A : Option Addr} {cap : Nat} {hs : List Hd}
theorem RdO.below (h : RdO w0 w A cap hs) (hb : Below w.heap.size w w') : RdO w0 w' A cap hs := ⟨h.sl.below hb, fun x hx => (h.rows x hx).below hb, h.outer, h.new, below_trans h.below_ hb h.below_.size⟩
theorem RdO.rdr (h : RdO w0 w A cap hs) : RdR w A hs := by
  refine ⟨fun i x hx => ?_, fun x hx => (h.rows x hx).rd⟩
  obtain ⟨ad, hA, _, hc, _⟩ := h.sl.cell (j := i) (u := x.val) (by simp [hx])
  exact ⟨ad, hA, hc⟩
theorem RdO.snoc {w1 w2 : World} (h : RdO w0 w A cap hs) (hb : Below w.heap.size w w1) {x : Hd} (hx : IS w1 x.1 x.2.1 x.2.2) (hxo : ∀ b, b ∈ fpA x.1 → ¬ b ∈ fpA A) {A' : Option Addr} {cap' n : Nat} (hn : n = hs.length + 1) (hs' : Sl w2 33 1 A' n cap' (hs.map Hd.val ++ [x.val])) (hA' : ∀ b, b ∈ fpA A' → b ∈ fpA A ∨ w1.heap.size ≤ b) (hk : Keeps (· ∈ fpA A) w1 w2) : RdO w0 w2 A' cap' (hs ++ [x]) := by
  subst hn
  have hbw := below_trans h.below_ hb h.below_.size
  refine ⟨by simpa using hs', fun y hy => ?_, fun y hy b hb1 hb2 => ?_, fun b hb' => ?_, below_keeps hbw hk hbw.size h.new⟩
  · rcases List.mem_append.1 hy with hy | hy
    · exact ((h.rows y hy).below hb).keeps hk (h.outer y hy)
    · obtain rfl := List.mem_singleton.1 hy; exact hx.keeps hk hxo
  · rcases List.mem_append.1 hy with hy | hy
    · rcases hA' b hb2 with h1 | h1
      · exact h.outer y hy b hb1 h1
      · have := (h.rows y hy).lt b hb1; have := hb.size; omega
    · obtain rfl := List.mem_singleton.1 hy
      rcases hA' b hb2 with h1 | h1
      · exact hxo b hb1 h1
      · have := hx.lt b hb1; omega
  · rcases hA' b hb' with h1 | h1
    · exact h.new b h1
    · have := hbw.size; omega
theorem RdO.start (w W : World) (hb : Below w.heap.size w W) : RdO w (W.alloc (.cells #[] 33)) (some ⟨W.heap.size, 0, none⟩) 0 [] := by
  refine ⟨by simpa using Sl.laid W 33 1 0 #[] (Nat.zero_le _) rfl, fun x hx => (by cases hx), fun x hx => (by cases hx), fun b hb' => ?_, below_trans hb (below_alloc _ _) hb.size⟩
  simp at hb'; subst hb'; exact hb.size
end
set_option maxRecDepth 8000 in
set_option maxHeartbeats 1000000 in
theorem each_any (F : FuncId) (first cap : Array Value) (g : List Int → List Int) (a b : Int) (A : Option Addr) (c : Nat) (hs : List Hd) (w : World) (hR : RdR w A hs) (hI : ∀ x, x ∈ hs → IS w x.1 x.2.1 x.2.2) (hl : hs.length ≤ 1048576) (hE : ∀ (args : Array Value) (w : World), (callFunc F args).run Tryd.prog w = .ok (.enter F args) w)
    (hF : ∀ x, x ∈ hs → ∀ W', Below w.heap.size w W' → Calls Tryd.prog F (first.push (.slice x.1 x.2.2.length x.2.1) ++ cap) W' fun e w'' => ∃ B c', e = .returned (.slice B (g x.2.2).length c') ∧ IS w'' B c' (g x.2.2) ∧ (∀ b, b ∈ fpA B → b ∈ fpA x.1 ∨ W'.heap.size ≤ b) ∧ Below W'.heap.size W' w'') :
    Calls Tryd.prog 124 #[.agg #[.int .i64 a, .int .i64 b, .slice A hs.length c], .func (.func F) first cap] w fun e w' => ∃ A' c' gs, e = .returned (.slice A' hs.length c') ∧ gs.map (fun h : Hd => h.2.2) = hs.map (fun h : Hd => g h.2.2) ∧ RdO w w' A' c' gs := by
  obtain ⟨m, hm⟩ : ∃ m, m = hs.length := ⟨_, rfl⟩
  rw [← hm] at hl ⊢
  obtain ⟨W, hW, b0, k0⟩ := alloc_box w (.cells #[.int .i64 a, .int .i64 b, .slice A m c] tRel)
  obtain ⟨⟨c0, c1, c2⟩, f0, f1, f2⟩ := box3 k0
  have hO0 := RdO.start w W b0
  have hz0 := (Array.getElem?_eq_some_iff.1 k0).1
  have hm_h := Lib.hid hm
  have hF_h := Lib.hid hF
  have hI_h := Lib.hid hI
  have hR_h := Lib.hid hR
  have k0_h := Lib.hid k0
  have b0_h := Lib.hid b0
  have hO0_h := Lib.hid hO0
  have hE_h := Lib.hid hE
  clear hm hF hI hR k0 b0 hO0 hE
  go_enter Tryd.func124, Tryd.ntmps124
  go_upto_region 1 with (fail)
  rw [← hW]
  clear hW
  go_wp2_with (fail)
  clear c0 c1 c2 f0 f1 f2
  go_loopw [12, 5] (fun i v wr => ∃ (k : Nat) (A' : Option Addr) (c' : Nat) (gs : List Hd), k ≤ m ∧ i = .int .i64 k ∧ v = .slice A' k c' ∧ gs.length = k ∧ gs.map (fun h : Hd => h.2.2) = (hs.take k).map (fun h : Hd => g h.2.2) ∧ RdO w wr A' c' gs) (fun i _ _ => m - (intOf i).toNat)
  case atStart => exact ⟨0, _, 0, [], Nat.zero_le _, rfl, rfl, rfl, rfl, hO0_h.out⟩
  case round =>
    obtain ⟨k, A', c', gs, hk, rfl, rfl, hgl, hgm, hO⟩ := hrel
    by_cases hlt : k < m
    · obtain ⟨x, hx⟩ : ∃ x, hs[k]? = some x := ⟨_, List.getElem?_eq_getElem (by rw [← hm_h.out]; exact hlt)⟩
      obtain ⟨ad, rfl, hc⟩ := (hR_h.out.below hO.below_).1 k x hx
      obtain ⟨B, d, l⟩ := x
      have hxm := List.mem_of_getElem? hx
      have hC := hF_h.out _ hxm wr hO.below_
      have hBlt := (hI_h.out _ hxm).lt
      have hc' : wr.cell? (ad.add k) = some (.slice B l.length d) := hc
      obtain ⟨q, hq⟩ : ∃ q, q = l.length := ⟨_, rfl⟩
      obtain ⟨r, hr⟩ : ∃ r, r = (g l).length := ⟨_, rfl⟩
      simp only [← hq, ← hr] at hC
      rw [← hq] at hc'
      have hkI : (k : Int) < (m : Int) := by omega
      clear hc hxm
      have hgl_h := Lib.hid hgl
      have hgm_h := Lib.hid hgm
      have hO_h := Lib.hid hO
      have hC_h := Lib.hid hC
      have hq_h := Lib.hid hq
      have hr_h := Lib.hid hr
      have hx_h := Lib.hid hx
      have hBlt_h := Lib.hid hBlt
      clear hgl hgm hO hC hq hr hx hBlt
      have hE1 := hE_h.out (first.push (.slice B q d) ++ cap) wr
      go_wp2_with (fail)
      refine (hC_h.out).mono ?_
      rintro e w1 ⟨B1, d1, rfl, hI1, hfp1, hb1⟩
      have hsl : Sl (w1.alloc (.cells #[.slice B1 r d1] 33)) 33 1 A' k c' (gs.map Hd.val) := by
        have := (hO_h.out.sl.below hb1).alloc (.cells #[.slice B1 r d1] 33)
        rwa [hgl_h.out] at this
      clear hc' hE1
      have hI1_h := Lib.hid hI1
      have hfp1_h := Lib.hid hfp1
      have hb1_h := Lib.hid hb1
      have hsl_h := Lib.hid hsl
      clear hI1 hfp1 hb1 hsl
      go_wp2_with (at_builtin; refine wpList_append_Sl _ rfl _ _ _ rfl 33 Tryd.underlying22 info_ints rfl (by omega) rfl (hsl_h.out) rfl (news := [.slice B1 r d1]) rfl (Sl.rdc (Sl.laid w1 33 1 1 #[.slice B1 r d1] (by unfold maxLen; omega) rfl)) (by intro u hu; simp at hu; subst hu; rfl) (by unfold maxLen; omega) (by omega) ?_; intro A3 c3 w3 hsA3 hA3 hkA3)
      have hal : Below w1.heap.size w1 (w1.alloc (.cells #[.slice B1 r d1] 33)) := below_alloc _ _
      have hO2 := hO_h.out.snoc (w1 := w1.alloc (.cells #[.slice B1 r d1] 33)) (below_trans hb1_h.out hal hb1_h.out.size) (x := (B1, d1, g l)) (hI1_h.out.below hal) (fun b hb hb' => by
        have h1 := hO_h.out.sl.lt b hb'
        have h2 := hO_h.out.new b hb'
        rcases hfp1_h.out b hb with h3 | h3
        · have := hBlt_h.out b h3; omega
        · omega) (by rw [hgl_h.out]) (by show Sl w3 _ 1 A3 (k + 1) c3 (gs.map Hd.val ++ [.slice B1 (g l).length d1]); rw [← hr_h.out]; exact hsA3) hA3 hkA3
      clear hsA3 hA3 hkA3
      have hO2_h := Lib.hid hO2
      clear hO2
      go_roundw
      case rel => exact ⟨k + 1, A3, c3, gs ++ [(B1, d1, g l)], by omega, by go_num, rfl, by rw [List.length_append, hgl_h.out]; rfl, by rw [List.map_append, hgm_h.out, List.take_add_one, hx_h.out]; simp, hO2_h.out⟩
      case measure => simp [intOf]; omega
    · obtain rfl : k = m := by omega
      have hgm2 : gs.map (fun h : Hd => h.2.2) = hs.map (fun h : Hd => g h.2.2) := by rw [hgm, List.take_of_length_le (by rw [← hm_h.out]; exact Nat.le_refl _)]
      clear hgm
      have hgl_h := Lib.hid hgl
      have hgm2_h := Lib.hid hgm2
      have hO_h := Lib.hid hO
      clear hgl hgm2 hO
      go_wp2_with (fail)
      go_ret
      exact ⟨A', c', gs, rfl, hgm2_h.out, hO_h.out⟩

set_option maxRecDepth 100000 in
set_option maxHeartbeats 1000000 in
theorem relation_any (p a b : Int) (n : Nat) (A : Option Addr) (c : Nat) (hs : List Hd) (w : World) (h : RdR w A hs) (hp : fieldB p = true) (hn : a + b = (n : Int)) (hm : Mat p hs.length n (hs.map fun h : Hd => h.2.2)) (hl : hs.length ≤ 1048576) (hn' : n ≤ 1048576) :
    Calls Tryd.prog 130 #[.int .i64 p, .int .i64 a, .int .i64 b, .slice A hs.length c] w fun e w' => ∃ v' fp, e = .returned v' ∧ OwSys w' v' (a, b, redM p n (hs.map fun h : Hd => h.2.2)) fp ∧ FreshL w.heap.size fp ∧ Below w.heap.size w w' := by
  obtain ⟨W, hW, hB0, k0⟩ := alloc_box w (.cells #[.int .i64 0, .int .i64 0, .slice none 0 0] tRel)
  have hC := reduced_any p n A c hs W (h.below hB0) hp hm hl hn'
  obtain ⟨R, hR⟩ : ∃ R, R = redM p n (hs.map fun h : Hd => h.2.2) := ⟨_, rfl⟩
  rw [← hR] at hC ⊢
  rw [← hn] at hC
  have hwr : IntKind.i64.wrap (a + b) = a + b := IntWalk.i64_in _ (by omega)
  clear h hm hp hn
  have hC_h := Lib.hid hC
  have hB0_h := Lib.hid hB0
  have k0_h := Lib.hid k0
  have hR_h := Lib.hid hR
  clear hC hB0 k0 hR
  go_enter Tryd.func130, Tryd.ntmps130
  go_upto_region 1 with (fail)
  rw [← hW]
  clear hW
  go_wp2_with (fail)
  refine (hC_h.out).mono ?_
  rintro e w1 hret
  obtain ⟨A1, c1, rfl, hO1⟩ := hret.om
  have k1 := box_below k0_h.out hO1.below_
  have hB1 := below_trans hB0_h.out hO1.below_ hB0_h.out.size
  obtain ⟨⟨d0, d1, d2⟩, g0, g1, g2⟩ := box3 k1
  obtain ⟨s1, s2⟩ := set3 (a := .int .i64 a) (b := .int .i64 b) (c := .slice A1 R.length c1) k1
  have hw0 := (Array.getElem?_eq_some_iff.1 k0_h.out).1
  have hB3 := below_keeps hB1 s2 hB1.size (fun k hk => by omega)
  have hBs := hB0_h.out.size
  clear hret k1 hB1
  have s1_h := Lib.hid s1
  have s2_h := Lib.hid s2
  have hO1_h := Lib.hid hO1
  have hB3_h := Lib.hid hB3
  clear s1 s2 hO1 hB3
  go_wp2_with (fail)
  refine bodyPost_ret (results_cell_row rfl _ _ w.heap.size _ _ (0, 0) _ rfl s1_h.out Tryd.underlying43 rfl (by kernel_rfl)) rfl ?_
  obtain ⟨fp, h1, h2⟩ := OwSys.of_ret (a := a) (b := b) hO1_h.out s2_h.out (fun k hk => by omega) rfl
  exact ⟨_, fp, rfl, h1, h2.mono hBs, hB3_h.out⟩
theorem OwMt.of_ret {w0 w : World} {L : List (List Int)} {A : Option Addr} {c : Nat} {a : Int} (h : OM w0 w A c L) {w' : World} {S : Nat → Prop} (hk : Keeps S w w') (hS : ∀ k, S k → k < w0.heap.size) {n : Nat} (hn : L.length = n) : ∃ fp, OwMt w' (.agg #[.int .i64 a, .slice A n c]) (a, L) fp ∧ FreshL w0.heap.size fp := by
  subst hn
  obtain ⟨fp, h1, h2⟩ := OwMt.of_om (a := a) h
  exact ⟨fp, h1.keeps hk fun k hk' hs => by have := h2 k hk'; have := hS k hs; omega, h2⟩
end Go.Proofs.YtahnhblodfdfhaaDoor
namespace Go.Proofs.YtahnhblodfdfhaaDoor
open Go.RowKit

theorem alloc2 (w : World) (o o' : Obj) : ∃ W, W = (w.alloc o).alloc o' ∧ Below w.heap.size w W ∧ W.heap[w.heap.size]? = some o ∧ W.heap[w.heap.size + 1]? = some o' := by
  refine ⟨_, rfl, ((Below.refl _ _).alloc (Nat.le_refl _) _).alloc (by simp) _, box_below (heap_alloc_new w _) (below_alloc _ _), ?_⟩
  have := heap_alloc_new (w.alloc o) o'
  rwa [World.size_alloc] at this
theorem RdO.nil (w W : World) (hb : Below w.heap.size w W) : RdO w W none 0 [] := ⟨Sl.nil _ _ _, fun x hx => (by cases hx), fun x hx => (by cases hx), fun b hb' => (by simp at hb'), hb⟩
def partV (f r : Nat) (u : List Int) : List Int := (u.drop f).take r
theorem partV_len {f r n : Nat} {u : List Int} (h : u.length = n) (hr : f + r ≤ n) : (partV f r u).length = r := by unfold partV; rw [List.length_take, List.length_drop]; omega
theorem partV_mat {p : Int} {m n f r : Nat} {L : List (List Int)} (h : Mat p m n L) (hr : f + r ≤ n) : Mat p m r (L.map (partV f r)) :=
  h.map fun _ hv hx => ⟨partV_len hv hr, fun x hx' => hx x (List.mem_of_mem_drop (List.mem_of_mem_take hx'))⟩
theorem part_first {p : Int} {s : Sys} (_h : RelOk p s) : s.2.2.map (partV 0 s.1.toNat) = firstM s := by
  unfold firstM partV; simp
theorem part_second {p : Int} {s : Sys} (h : RelOk p s) : s.2.2.map (partV s.1.toNat s.2.1.toNat) = secondM s := by
  unfold secondM
  refine List.map_congr_left fun v hv => ?_
  have := (h.row hv).1
  have h1 := h.lo
  have h2 := h.hi
  unfold partV
  rw [List.take_of_length_le (by rw [List.length_drop]; omega)]

theorem first_each {na n : Nat} {b : Int} {V : Value} (hV : V.oneCell' = true) {w : World} {x : Hd} (hx : IS w x.1 x.2.1 x.2.2) (hl : x.2.2.length = n) (hn : na ≤ n) : ∀ W', Below w.heap.size w W' → Calls Tryd.prog 126 (#[Value.agg #[.int .i64 na, .int .i64 b, V]].push (.slice x.1 x.2.2.length x.2.1) ++ #[]) W' fun e w'' => ∃ B c', e = .returned (.slice B (partV 0 na x.2.2).length c') ∧ IS w'' B c' (partV 0 na x.2.2) ∧ (∀ b, b ∈ fpA B → b ∈ fpA x.1 ∨ W'.heap.size ≤ b) ∧ Below W'.heap.size W' w'' := by
  intro W' hb
  have h0 : Sl W' 3 1 x.1 x.2.2.length x.2.1 (ints x.2.2) := hx.below hb
  have hp : partV 0 na x.2.2 = x.2.2.take na := by simp [partV]
  have hp2 : (x.2.2.take na).length = na := by rw [List.length_take]; omega
  have := first_any na b V hV x.1 x.2.1 x.2.2.length x.2.2 W' h0 (by omega)
  refine Calls.mono ?_ (fun e w'' h => h)
  simp only [List.push_toArray, List.cons_append, List.nil_append, Array.append_empty]
  refine this.mono ?_
  rintro e w2 ⟨B', rfl, hS, hf, hb2⟩
  exact ⟨B', x.2.1, by rw [hp, hp2], by unfold IS; rw [hp, hp2]; exact hS, fun b hb => .inl (hf b hb), hb2⟩
theorem second_each {na r n : Nat} {b : Int} {V : Value} (hV : V.oneCell' = true) {w : World} {x : Hd} (hx : IS w x.1 x.2.1 x.2.2) (hl : x.2.2.length = n) (hn : n = na + r) : ∀ W', Below w.heap.size w W' → Calls Tryd.prog 125 (#[Value.agg #[.int .i64 na, .int .i64 b, V]].push (.slice x.1 x.2.2.length x.2.1) ++ #[]) W' fun e w'' => ∃ B c', e = .returned (.slice B (partV na r x.2.2).length c') ∧ IS w'' B c' (partV na r x.2.2) ∧ (∀ b, b ∈ fpA B → b ∈ fpA x.1 ∨ W'.heap.size ≤ b) ∧ Below W'.heap.size W' w'' := by
  intro W' hb
  have h0 : Sl W' 3 1 x.1 x.2.2.length x.2.1 (ints x.2.2) := hx.below hb
  have hp : partV na r x.2.2 = x.2.2.drop na := by unfold partV; rw [List.take_of_length_le (by rw [List.length_drop]; omega)]
  have hp2 : (x.2.2.drop na).length = r := by rw [List.length_drop]; omega
  have := second_any na b V hV x.1 x.2.1 x.2.2.length r x.2.2 W' h0 (by omega)
  refine Calls.mono ?_ (fun e w'' h => h)
  simp only [List.push_toArray, List.cons_append, List.nil_append, Array.append_empty]
  refine this.mono ?_
  rintro e w2 ⟨B', c', rfl, hS, hf, hb2⟩
  exact ⟨B', c', by rw [hp, hp2], by unfold IS; rw [hp, hp2]; exact hS, fun b hb => .inl (hf b hb), hb2⟩
end Go.Proofs.YtahnhblodfdfhaaDoor
namespace Go.Proofs.YtahnhblodfdfhaaDoor
open Go.RowKit

end Go.Proofs.YtahnhblodfdfhaaDoor
namespace Go.Proofs.YtahnhblodfdfhaaDoor
open Go.RowKit

set_option maxRecDepth 8000 in
theorem eachFirst_any (p : Int) {v : Value} {s : Sys} {fp : List Nat} (w : World) (h : OwSys w v s fp) (hs : RelOk p s) :
    Calls Tryd.prog 124 #[v, .func (.func 126) #[v] #[]] w fun e w' => ∃ A' c' gs n, e = .returned (.slice A' n c') ∧ gs.length = n ∧ n ≤ 24 ∧ gs.map (fun h : Hd => h.2.2) = firstM s ∧ RdO w w' A' c' gs := by
  have hpf := part_first hs
  obtain ⟨A, c, gs, rfl, hL, hO, rfl⟩ := h
  obtain ⟨a, b, L⟩ := s
  have h0 : 0 ≤ a := hs.lo
  have h1 : 0 ≤ b := hs.hi
  have h2 : a + b ≤ 24 := hs.sum
  have hfld : fieldB p = true := hs.fld
  have hrow : ∀ u, u ∈ L → (u.length : Int) = a + b ∧ Res p u := fun u hu => hs.row hu
  have hlen : (L.length : Int) ≤ a + b := hs.len
  clear hs
  obtain ⟨na, rfl⟩ : ∃ na : Nat, a = (na : Int) := ⟨a.toNat, by omega⟩
  obtain ⟨nb, rfl⟩ : ∃ nb : Nat, b = (nb : Int) := ⟨b.toNat, by omega⟩
  have hL' : L = gs.map (fun h : Hd => h.2.2) := hL
  clear hL
  obtain ⟨m, hm⟩ : ∃ m, m = gs.length := ⟨_, rfl⟩
  have hLm : L.length = m := by rw [hL', List.length_map, hm]
  have hm24 : (m : Int) ≤ 24 := by have := hlen; rw [hLm] at this; omega
  have hgr : ∀ x, x ∈ gs → x.2.2.length = na + nb := fun x hx => by have := (hrow _ (by rw [hL']; exact List.mem_map_of_mem hx)).1; omega
  have hE := each_any 126 #[.agg #[.int .i64 (na : Int), .int .i64 (nb : Int), .slice A gs.length c]] #[] (partV 0 na) (na : Int) (nb : Int) A c gs w hO.rd hO.rows (by omega) (fun _ _ => rfl) (fun x hx => first_each rfl (hO.rows x hx) (hgr x hx) (by omega))
  refine hE.mono ?_
  rintro e w' ⟨A', c', g1, rfl, hg1, hO1⟩
  have hgl : g1.length = gs.length := by have := congrArg List.length hg1; rwa [List.length_map, List.length_map] at this
  refine ⟨A', c', g1, gs.length, rfl, hgl, by omega, ?_, hO1⟩
  rw [hg1, ← hpf]
  show _ = L.map _
  rw [hL', List.map_map]; rfl
set_option maxRecDepth 8000 in
theorem eachSecond_any (p : Int) {v : Value} {s : Sys} {fp : List Nat} (w : World) (h : OwSys w v s fp) (hs : RelOk p s) :
    Calls Tryd.prog 124 #[v, .func (.func 125) #[v] #[]] w fun e w' => ∃ A' c' gs n, e = .returned (.slice A' n c') ∧ gs.length = n ∧ n ≤ 24 ∧ gs.map (fun h : Hd => h.2.2) = secondM s ∧ RdO w w' A' c' gs := by
  have hpf := part_second hs
  obtain ⟨A, c, gs, rfl, hL, hO, rfl⟩ := h
  obtain ⟨a, b, L⟩ := s
  have h0 : 0 ≤ a := hs.lo
  have h1 : 0 ≤ b := hs.hi
  have h2 : a + b ≤ 24 := hs.sum
  have hfld : fieldB p = true := hs.fld
  have hrow : ∀ u, u ∈ L → (u.length : Int) = a + b ∧ Res p u := fun u hu => hs.row hu
  have hlen : (L.length : Int) ≤ a + b := hs.len
  clear hs
  obtain ⟨na, rfl⟩ : ∃ na : Nat, a = (na : Int) := ⟨a.toNat, by omega⟩
  obtain ⟨nb, rfl⟩ : ∃ nb : Nat, b = (nb : Int) := ⟨b.toNat, by omega⟩
  have hL' : L = gs.map (fun h : Hd => h.2.2) := hL
  clear hL
  obtain ⟨m, hm⟩ : ∃ m, m = gs.length := ⟨_, rfl⟩
  have hLm : L.length = m := by rw [hL', List.length_map, hm]
  have hm24 : (m : Int) ≤ 24 := by have := hlen; rw [hLm] at this; omega
  have hgr : ∀ x, x ∈ gs → x.2.2.length = na + nb := fun x hx => by have := (hrow _ (by rw [hL']; exact List.mem_map_of_mem hx)).1; omega
  have hE := each_any 125 #[.agg #[.int .i64 (na : Int), .int .i64 (nb : Int), .slice A gs.length c]] #[] (partV na nb) (na : Int) (nb : Int) A c gs w hO.rd hO.rows (by omega) (fun _ _ => rfl) (fun x hx => second_each rfl (hO.rows x hx) (hgr x hx) (by omega))
  refine hE.mono ?_
  rintro e w' ⟨A', c', g1, rfl, hg1, hO1⟩
  have hgl : g1.length = gs.length := by have := congrArg List.length hg1; rwa [List.length_map, List.length_map] at this
  refine ⟨A', c', g1, gs.length, rfl, hgl, by omega, ?_, hO1⟩
  rw [hg1, ← hpf]
  show _ = L.map _
  rw [hL', List.map_map]; rfl
theorem domM_ok {p : Int} {s : Sys} : OkR (domM p s).1.2 := by
  unfold domM
  split
  · rename_i h
    have hs := RelOk.of h
    have hm := firstM_mat hs
    have hl : (firstM s).length = s.2.2.length := by unfold firstM; rw [List.length_map]
    rw [← hl] at hm
    have hr := redM_spec hs.fld hm
    have := hs.len; have := hs.sum; have := hs.hi; have := hs.lo
    exact okR_mat hr.1.1 (by have := hr.2.2; omega) (by omega)
  · exact okR_nil
theorem ranM_ok {p : Int} {s : Sys} : OkR (ranM p s).1.2 := by
  unfold ranM
  split
  · rename_i h
    have hs := RelOk.of h
    have hm := secondM_mat hs
    have hl : (secondM s).length = s.2.2.length := by unfold secondM; rw [List.length_map]
    rw [← hl] at hm
    have hr := redM_spec hs.fld hm
    have := hs.len; have := hs.sum; have := hs.hi; have := hs.lo
    exact okR_mat hr.1.1 (by have := hr.2.2; omega) (by omega)
  · exact okR_nil
end Go.Proofs.YtahnhblodfdfhaaDoor
namespace Go.Proofs.YtahnhblodfdfhaaDoor
open Go.RowKit

section
variable {P : Program} {w : World} {e : TypeId} {sz n cap : Nat} {A : Option Addr} {xs : List Value}
/-- A slice expression: what it yields in every world, and what its value reads as. -/
theorem Sl.sliced (hs : Sl w e sz A n cap xs) (t : TypeId) {z : Option Value} {bytes : Nat} (ht : P.underlying t = some (.slice e)) (hinfo : (P.info? e).map (fun i => (i.zero, i.size, i.bytes)) = some (z, sz, bytes))
    (lo hi mx : Option Value) (l hgh m : Nat) (hlo : OptIs lo l (l = 0)) (hhi : OptIs hi hgh (hgh = n ∧ mx = none)) (hmx : OptIs mx m (m = cap)) (h1 : l ≤ hgh) (h2 : hgh ≤ n) (h3 : hgh ≤ m) (h4 : m ≤ cap) :
    ∃ A', (∀ w', (Instr.sliceAt t (.slice A n cap) lo hi mx).run P w' = .ok (.slice A' (hgh - l) (m - l)) w') ∧ Sl w e sz A' (hgh - l) (m - l) ((xs.drop (l * sz)).take ((hgh - l) * sz)) ∧ (∀ b, b ∈ fpA A' → b ∈ fpA A) := by
  obtain ⟨hcut, hfp, hsub⟩ := hs.cut h1 h2 h3 h4
  refine ⟨_, fun w => ?_, hcut, hfp⟩
  unfold OptIs at hlo hhi hmx
  obtain ⟨i, hi', hzz⟩ := Option.map_eq_some_iff.1 hinfo
  simp only [Prod.mk.injEq] at hzz
  have hb : ∀ (k : IntKind) (i : Int) (j y : Nat) (code : BoundsCode), i = (j : Int) → j ≤ y → (Instr.sliceBound (.int k i) y code).run P w = .ok j w := by
    intro k i j y code e hj
    subst e
    rw [run_sliceBound w k _ y code (by omega) (by omega)]; simp
  have hsb : (Instr.sliceBounds true n cap lo hi mx).run P w = .ok (l, hgh, m) w := by
    unfold Instr.sliceBounds
    cases mx with
    | none =>
      subst hmx
      cases hi with
      | none =>
        obtain ⟨rfl, _⟩ := hhi
        cases lo with
        | none => subst hlo; simp
        | some v => obtain ⟨k, L, rfl, hL⟩ := hlo; simp [hb k L l _ _ hL h1]
      | some v =>
        obtain ⟨k, L, rfl, hL⟩ := hhi
        have hb1 := hb k L hgh m .sliceAcap hL h3
        cases lo with
        | none => subst hlo; simp [hb1]
        | some v => obtain ⟨k', L', rfl, hL'⟩ := hlo; simp [hb1, hb k' L' l _ _ hL' h1]
    | some vm =>
      obtain ⟨km, M, rfl, hM⟩ := hmx
      have hb0 := hb km M m cap .slice3Acap hM h4
      cases hi with
      | none => obtain ⟨_, h0⟩ := hhi; cases h0
      | some v =>
        obtain ⟨k, L, rfl, hL⟩ := hhi
        have hb1 := hb k L hgh m .slice3B hL h3
        cases lo with
        | none => subst hlo; simp [hb0, hb1]
        | some v => obtain ⟨k', L', rfl, hL'⟩ := hlo; simp [hb0, hb1, hb k' L' l _ _ hL' h1]
  have hrun : (Instr.slice t (.slice A n cap) lo hi mx).run P w = .ok (.slice (if m = l then A else A.map (·.add (l * sz))) (hgh - l) (m - l)) w := by
    simp only [Instr.slice, Sem.run_bind, run_underlying ht, Result.andThen_ok, hsb]
    simp [sizeOf, typeInfo, hi', hzz.2.1]
  simp [Instr.sliceAt, run_underlying ht, hrun]
theorem xop_sliceW {ρ : Operand → Value} {o : Oper} {w w' : World} {t : TypeId} {x : Operand} {lo hi mx : Option Operand} {v : Value} (ho : o.op = .slice t x lo hi mx) (hr : (Instr.sliceAt t (ρ x) (lo.map ρ) (hi.map ρ) (mx.map ρ)).run P w = .ok v w') : (execOp ρ o).run P w = .ok (.value v) w' := by
  simp [execOp, ho, hr, Result.andThen]
end
/-- Rows just laid. -/
theorem laid_rdr {w : World} (hs : List Hd) (h : ∀ x, x ∈ hs → RdI w x.1 x.2.2) (hl : hs.length ≤ maxLen) : RdR (w.alloc (.cells (hs.map Hd.val).toArray 33)) (some ⟨w.heap.size, 0, none⟩) hs := by
  have hs1 := Sl.laid w 33 1 hs.length (hs.map Hd.val).toArray hl (by simp)
  refine ⟨fun i x hx => ?_, fun x hx => (h x hx).below (below_alloc _ _)⟩
  obtain ⟨ad, hA, _, hc, _⟩ := hs1.cell (j := i) (u := x.val) (by simp [hx])
  exact ⟨ad, hA, hc⟩
/-- The parts of a row exchanged. -/
def swapV (a : Nat) (u : List Int) : List Int := u.drop a ++ u.take a
theorem swapV_len (a : Nat) (u : List Int) : (swapV a u).length = u.length := by unfold swapV; rw [List.length_append, List.length_drop, List.length_take]; omega
theorem swapV_res {p : Int} {a : Nat} {u : List Int} (h : Res p u) : Res p (swapV a u) := fun x hx => by
  rcases List.mem_append.1 hx with hx | hx
  · exact h x (List.mem_of_mem_drop hx)
  · exact h x (List.mem_of_mem_take hx)
def convM (p : Int) (s : Sys) : Sys := (s.2.1, s.1, redM p (s.1 + s.2.1).toNat (s.2.2.map (swapV s.1.toNat)))

set_option maxRecDepth 8000 in
set_option maxHeartbeats 2000000 in
theorem conv1_any (g na nb : Nat) (V : Value) (hV : V.oneCell' = true) (B : Option Addr) (d n : Nat) (u : List Int) (w : World) (h : Sl w 3 1 B n d (ints u)) (hn : n = na + nb) (hn2 : n ≤ 1000) (hg : w.heap[g]? = some (.cells #[.int .i64 na, .int .i64 nb, V] tRel)) :
    Calls Tryd.prog 189 #[.slice B n d, .pointer (some ⟨g, 0, none⟩)] w (RetI w (swapV na u)) := by
  have hul : u.length = n := by have := h.1; rw [ints_length] at this; omega
  have hl2 : (u.drop na).length = nb := by rw [List.length_drop]; omega
  have hl3 : (u.take na).length = na := by rw [List.length_take]; omega
  have hn_h := Lib.hid hn
  have hg_h := Lib.hid hg
  have h_h := Lib.hid h
  have hul_h := Lib.hid hul
  have hl2_h := Lib.hid hl2
  have hl3_h := Lib.hid hl3
  clear hn hg h hul hl2 hl3
  go_enter Tryd.func189, Tryd.ntmps189
  go_wp2_with (fail)
  have hbd : Below w.heap.size w w.drew := below_drewN (Below.refl _ _) 1
  refine beginH (fun w' => w'.heap[g]? = some (.cells #[.int .i64 na, .int .i64 nb, V] tRel)) (by kernel_rfl) ?_
  generalize w.drew = W1 at hbd ⊢
  replace hg_h := Lib.hid (box_below hg_h.out hbd)
  have h1 := h_h.out.below hbd
  have h1_h := Lib.hid h1
  have hbd_h := Lib.hid hbd
  clear h1 hbd
  refine takeH 0 (v := ?_) rfl (by kernel_rfl) (by kernel_rfl) (by kernel_rfl) (fun _ _ _ h => h) hg_h.out (by rfl) (fun W' hW' => ?_) ?_; rotate_left; · (obtain ⟨⟨y0, y1, y2⟩, y3, y4, y5⟩ := box3 hW'; clear hW'; go_simp; first | done | with_reducible rfl)
  simp only [Act.put, List.setIfInBounds_toArray, List.set_cons_zero, List.set_cons_succ]
  refine takeH 1 (v := ?_) rfl (by kernel_rfl) (by kernel_rfl) (by kernel_rfl) (fun _ _ _ h => h) hg_h.out (by rfl) (fun W' hW' => ?_) ?_; rotate_left; · (obtain ⟨⟨y0, y1, y2⟩, y3, y4, y5⟩ := box3 hW'; clear hW'; go_simp; first | done | with_reducible rfl)
  simp only [Act.put, List.setIfInBounds_toArray, List.set_cons_zero, List.set_cons_succ]
  refine takeH 3 (v := ?_) rfl (by kernel_rfl) (by kernel_rfl) (by kernel_rfl) (fun _ _ _ h => h) hg_h.out (by rfl) (fun W' hW' => ?_) ?_; rotate_left; · (obtain ⟨⟨y0, y1, y2⟩, y3, y4, y5⟩ := box3 hW'; clear hW'; go_simp; first | done | with_reducible rfl)
  simp only [Act.put, List.setIfInBounds_toArray, List.set_cons_zero, List.set_cons_succ]
  refine takeH 4 (v := ?_) rfl (by kernel_rfl) (by kernel_rfl) (by kernel_rfl) (fun _ _ _ h => h) hg_h.out (by rfl) (fun W' hW' => ?_) ?_; rotate_left; · (obtain ⟨⟨y0, y1, y2⟩, y3, y4, y5⟩ := box3 hW'; clear hW'; go_simp; first | done | with_reducible rfl)
  simp only [Act.put, List.setIfInBounds_toArray, List.set_cons_zero, List.set_cons_succ]
  refine' callH 2 (f := _) (args := _) rfl (by kernel_rfl) (by rfl) ?_ ?_; rotate_left 2; · (go_simp; first | done | with_reducible rfl | (constructor <;> with_reducible rfl))
  refine (second_any na (nb : Int) V hV B d n nb u W1 h1_h.out hn_h.out).mono ?_
  rintro e w2 ⟨B2, c2, rfl, hS2, hf2, hb2⟩
  replace hg_h := Lib.hid (box_below hg_h.out hb2)
  refine ⟨_, rfl, hg_h.out, ?_⟩
  simp only [Act.put, List.setIfInBounds_toArray, List.set_cons_zero, List.set_cons_succ]
  have h2 := h1_h.out.below hb2
  have h2_h := Lib.hid h2
  have hS2_h := Lib.hid hS2
  have hf2_h := Lib.hid hf2
  have hb2_h := Lib.hid hb2
  clear h2 hS2 hf2 hb2
  refine' callH 5 (f := _) (args := _) rfl (by kernel_rfl) (by rfl) ?_ ?_; rotate_left 2; · (go_simp; first | done | with_reducible rfl | (constructor <;> with_reducible rfl))
  refine (first_any na (nb : Int) V hV B d n u w2 h2_h.out (by have := hn_h.out; omega)).mono ?_
  rintro e w3 ⟨B3, rfl, hS3, hf3, hb3⟩
  replace hg_h := Lib.hid (box_below hg_h.out hb3)
  refine ⟨_, rfl, hg_h.out, ?_⟩
  simp only [Act.put, List.setIfInBounds_toArray, List.set_cons_zero, List.set_cons_succ]
  have hS2' := hS2_h.out.below hb3
  have hr2 : RdI w3 B2 (u.drop na) := fun j x hj => by
    obtain ⟨ad, hA, _, hc, _⟩ := hS2'.cell (ints_get hj)
    exact ⟨ad, hA, hc⟩
  have hr3 : RdI w3 B3 (u.take na) := fun j x hj => by
    obtain ⟨ad, hA, _, hc, _⟩ := hS3.cell (ints_get hj)
    exact ⟨ad, hA, hc⟩
  have hlr := laid_rdr (w := w3) [(B2, c2, u.drop na), (B3, d, u.take na)] (fun x hx => by
    rcases List.mem_cons.1 hx with rfl | hx
    · exact hr2
    · obtain rfl := List.mem_singleton.1 hx; exact hr3) (by unfold maxLen; simp)
  have e : (([(B2, c2, u.drop na), (B3, d, u.take na)] : List Hd).map Hd.val).toArray = #[.slice B2 nb c2, .slice B3 na d] := by
    simp [Hd.val, hl2_h.out, hl3_h.out]
  rw [e] at hlr
  have hgn := box_below hg_h.out (below_alloc w3 (.cells #[.slice B2 nb c2, .slice B3 na d] 33))
  have hJ := joined_any (some ⟨w3.heap.size, 0, none⟩) 2 [(B2, c2, u.drop na), (B3, d, u.take na)] _ hlr (by simp) (by simp; have := hul_h.out; omega)
  have e2 : (([(B2, c2, u.drop na), (B3, d, u.take na)] : List Hd).map fun h : Hd => h.2.2).flatten = swapV na u := by simp [swapV]
  rw [e2] at hJ
  have hB3 := below_trans (below_trans hbd_h.out hb2_h.out hbd_h.out.size) hb3 (Nat.le_trans hbd_h.out.size hb2_h.out.size)
  have hB4 := below_trans hB3 (below_alloc w3 (.cells #[.slice B2 nb c2, .slice B3 na d] 33)) hB3.size
  clear hlr e e2 hr2 hr3 hS2' hS3 hf3 hb3 hB3
  have hgn_h := Lib.hid hgn
  have hJ_h := Lib.hid hJ
  have hB4_h := Lib.hid hB4
  clear hgn hJ hB4
  refine oneH 6 rfl (by kernel_rfl) (by rfl) (fun K hK => ?_)
  go_simp
  refine hK _ _ hgn_h.out ?_
  clear hK K
  refine' callH 7 (f := _) (args := _) rfl (by kernel_rfl) (by rfl) ?_ ?_; rotate_left 2; · (go_simp; first | done | with_reducible rfl | (constructor <;> with_reducible rfl))
  refine (hJ_h.out).mono ?_
  rintro e w4 ⟨A4, c4, rfl, hi4, hf4, hb4⟩
  replace hgn_h := Lib.hid (box_below hgn_h.out hb4)
  refine ⟨_, rfl, hgn_h.out, ?_⟩
  simp only [Act.put, List.setIfInBounds_toArray, List.set_cons_zero, List.set_cons_succ]
  have hres : RetI w (swapV na u) (.returned (.slice A4 (swapV na u).length c4)) w4 := ⟨A4, c4, rfl, hi4, hf4.mono hB4_h.out.size, below_trans hB4_h.out hb4 hB4_h.out.size⟩
  clear hi4 hf4 hb4
  have hres_h := Lib.hid hres
  clear hres
  refine takeH 8 (v := ?_) rfl (by kernel_rfl) (by kernel_rfl) (by kernel_rfl) (fun _ _ _ h => h) hgn_h.out (by rfl) (fun W' hW' => ?_) ?_; rotate_left; · (skip; clear hW'; go_simp; first | done | with_reducible rfl)
  simp only [Act.put, List.setIfInBounds_toArray, List.set_cons_zero, List.set_cons_succ]
  refine doneH (by kernel_rfl) ?_
  go_wp2_with (fail)
  go_ret
  exact hres_h.out

set_option maxRecDepth 8000 in
set_option maxHeartbeats 2000000 in
theorem converse_any (p : Int) {v : Value} {s : Sys} {fp : List Nat} (w : World) (h : OwSys w v s fp) (hs : RelOk p s) :
    Calls Tryd.prog 170 #[.int .i64 p, v] w fun e w' => ∃ v' fp', e = .returned v' ∧ OwSys w' v' (convM p s) fp' ∧ FreshL w.heap.size fp' ∧ Below w.heap.size w w' := by
  have hmat0 := hs.mat.map (f := swapV s.1.toNat) fun v hv hr => ⟨(swapV_len _ v).trans hv, swapV_res hr⟩
  obtain ⟨A, c, gs, rfl, hL, hO, rfl⟩ := h
  obtain ⟨a, b, L⟩ := s
  have h0 : 0 ≤ a := hs.lo
  have h1 : 0 ≤ b := hs.hi
  have h2 : a + b ≤ 24 := hs.sum
  have hfld : fieldB p = true := hs.fld
  have hrow : ∀ u, u ∈ L → (u.length : Int) = a + b ∧ Res p u := fun u hu => hs.row hu
  have hlen : (L.length : Int) ≤ a + b := hs.len
  clear hs
  obtain ⟨na, rfl⟩ : ∃ na : Nat, a = (na : Int) := ⟨a.toNat, by omega⟩
  obtain ⟨nb, rfl⟩ : ∃ nb : Nat, b = (nb : Int) := ⟨b.toNat, by omega⟩
  have hL' : L = gs.map (fun h : Hd => h.2.2) := hL
  clear hL
  obtain ⟨m, hm⟩ : ∃ m, m = gs.length := ⟨_, rfl⟩
  have hLm : L.length = m := by rw [hL', List.length_map, hm]
  have hm24 : (m : Int) ≤ 24 := by have := hlen; rw [hLm] at this; omega
  have hgr : ∀ x, x ∈ gs → x.2.2.length = na + nb := fun x hx => by have := (hrow _ (by rw [hL']; exact List.mem_map_of_mem hx)).1; omega
  obtain ⟨n, hn⟩ : ∃ n, n = na + nb := ⟨_, rfl⟩
  obtain ⟨X, hX⟩ : ∃ X, X = L.map (swapV na) := ⟨_, rfl⟩
  have hmat : Mat p X.length n X := by rw [hX, hn, List.length_map]; exact hmat0
  obtain ⟨R, hR⟩ : ∃ R, R = redM p n X := ⟨_, rfl⟩
  have hgoal : convM p ((na : Int), (nb : Int), L) = ((nb : Int), (na : Int), R) := by
    rw [hR, hX, hn]; rfl
  rw [hgoal]
  show Calls Tryd.prog _ #[.int .i64 p, .agg #[.int .i64 (na : Int), .int .i64 (nb : Int), .slice A gs.length c]] w _
  rw [← hm]
  have hEa := fun (W' : World) (hb : Below w.heap.size w W') (hg : W'.heap[w.heap.size]? = some (.cells #[.int .i64 (na : Int), .int .i64 (nb : Int), .slice A m c] tRel)) => each_any 189 #[] #[.pointer (some ⟨w.heap.size, 0, none⟩)] (swapV na) (na : Int) (nb : Int) A c gs W' (hO.below hb).rd (hO.below hb).rows (by omega) (fun _ _ => rfl) (fun x hx W2 hb2 => by
    have hI : Sl W2 3 1 x.1 x.2.2.length x.2.1 (ints x.2.2) := ((hO.below hb).rows x hx).below hb2
    have hl := hgr x hx
    have := conv1_any w.heap.size na nb (.slice A m c) rfl x.1 x.2.1 x.2.2.length x.2.2 W2 hI (by omega) (by omega) (box_below hg hb2)
    refine this.mono ?_
    rintro e w4 ⟨A4, c4, rfl, hi4, hf4, hb4⟩
    exact ⟨A4, c4, rfl, hi4, fun b hb => .inr (hf4 b hb), hb4⟩)
  simp only [← hm] at hEa
  obtain ⟨W, hW, b0, k0, k1⟩ := alloc2 w (.cells #[.int .i64 (na : Int), .int .i64 (nb : Int), .slice A m c] tRel) (.cells #[.int .i64 0, .int .i64 0, .slice none 0 0] tRel)
  have hmf : ∀ (fn : Fn) (first cap : Array Value) (w : World), (Instr.makeFunc fn first cap).run Tryd.prog w = .ok (.func fn first cap) w := fun _ _ _ _ => rfl
  clear hO hmat0 hgoal hgr
  have hL'_h := Lib.hid hL'
  have hm_h := Lib.hid hm
  have hLm_h := Lib.hid hLm
  have k0_h := Lib.hid k0
  have k1_h := Lib.hid k1
  have b0_h := Lib.hid b0
  have hrow_h := Lib.hid hrow
  have hlen_h := Lib.hid hlen
  have hfld_h := Lib.hid hfld
  have hmat_h := Lib.hid hmat
  have hX_h := Lib.hid hX
  have hR_h := Lib.hid hR
  have hEa_h := Lib.hid hEa
  have hn_h := Lib.hid hn
  clear hL' hm hLm k0 k1 b0 hrow hlen hfld hmat hX hR hEa hn
  go_enter Tryd.func170, Tryd.ntmps170
  go_wp2_with (fail)
  rw [← hW]
  clear hW
  have hbd : Below W.heap.size W W.drew := below_drewN (Below.refl _ _) 1
  refine beginH (fun w' => w'.heap[w.heap.size]? = some (.cells #[.int .i64 (na : Int), .int .i64 (nb : Int), .slice A m c] tRel)) (by kernel_rfl) ?_
  generalize W.drew = W1 at hbd ⊢
  replace k0_h := Lib.hid (box_below k0_h.out hbd)
  replace k1_h := Lib.hid (box_below k1_h.out hbd)
  have hB1 := below_trans b0_h.out hbd b0_h.out.size
  have hw1 : w.heap.size + 1 < W1.heap.size := (Array.getElem?_eq_some_iff.1 k1_h.out).1
  have hbd_h := Lib.hid hbd
  have hB1_h := Lib.hid hB1
  clear hbd hB1
  refine takeH 0 (v := ?_) rfl (by kernel_rfl) (by kernel_rfl) (by kernel_rfl) (fun _ _ _ h => h) k0_h.out (by rfl) (fun W' hW' => ?_) ?_; rotate_left; · (obtain ⟨⟨y0, y1, y2⟩, y3, y4, y5⟩ := box3 hW'; clear hW'; go_simp; first | done | with_reducible rfl)
  simp only [Act.put, List.setIfInBounds_toArray, List.set_cons_zero, List.set_cons_succ]
  refine takeH 1 (v := ?_) rfl (by kernel_rfl) (by kernel_rfl) (by kernel_rfl) (fun _ _ _ h => h) k0_h.out (by rfl) (fun W' hW' => ?_) ?_; rotate_left; · (obtain ⟨⟨y0, y1, y2⟩, y3, y4, y5⟩ := box3 hW'; clear hW'; go_simp; first | done | with_reducible rfl)
  simp only [Act.put, List.setIfInBounds_toArray, List.set_cons_zero, List.set_cons_succ]
  refine takeH 2 (v := ?_) rfl (by kernel_rfl) (by kernel_rfl) (by kernel_rfl) (fun _ _ _ h => h) k0_h.out (by rfl) (fun W' hW' => ?_) ?_; rotate_left; · (obtain ⟨⟨y0, y1, y2⟩, y3, y4, y5⟩ := box3 hW'; clear hW'; go_simp; first | done | with_reducible rfl)
  simp only [Act.put, List.setIfInBounds_toArray, List.set_cons_zero, List.set_cons_succ]
  refine takeH 3 (v := ?_) rfl (by kernel_rfl) (by kernel_rfl) (by kernel_rfl) (fun _ _ _ h => h) k0_h.out (by rfl) (fun W' hW' => ?_) ?_; rotate_left; · (obtain ⟨⟨y0, y1, y2⟩, y3, y4, y5⟩ := box3 hW'; clear hW'; go_simp; first | done | with_reducible rfl)
  simp only [Act.put, List.setIfInBounds_toArray, List.set_cons_zero, List.set_cons_succ]
  refine takeH 4 (v := ?_) rfl (by kernel_rfl) (by kernel_rfl) (by kernel_rfl) (fun _ _ _ h => h) k0_h.out (by rfl) (fun W' hW' => ?_) ?_; rotate_left; · (obtain ⟨⟨y0, y1, y2⟩, y3, y4, y5⟩ := box3 hW'; clear hW'; go_simp; first | done | with_reducible rfl)
  simp only [Act.put, List.setIfInBounds_toArray, List.set_cons_zero, List.set_cons_succ]
  refine takeH 5 (v := ?_) rfl (by kernel_rfl) (by kernel_rfl) (by kernel_rfl) (fun _ _ _ h => h) k0_h.out (by rfl) (fun W' hW' => ?_) ?_; rotate_left; · (obtain ⟨⟨y0, y1, y2⟩, y3, y4, y5⟩ := box3 hW'; clear hW'; go_simp; first | done | with_reducible rfl)
  simp only [Act.put, List.setIfInBounds_toArray, List.set_cons_zero, List.set_cons_succ]
  refine takeH 6 (v := ?_) rfl (by kernel_rfl) (by kernel_rfl) (by kernel_rfl) (fun _ _ _ h => h) k0_h.out (by rfl) (fun W' hW' => ?_) ?_; rotate_left; · (skip; clear hW'; go_simp; first | done | with_reducible rfl)
  simp only [Act.put, List.setIfInBounds_toArray, List.set_cons_zero, List.set_cons_succ]
  refine' callH 7 (f := _) (args := _) rfl (by kernel_rfl) (by rfl) ?_ ?_; rotate_left 2; · (go_simp; first | done | with_reducible rfl | (constructor <;> with_reducible rfl))
  refine (hEa_h.out W1 hB1_h.out k0_h.out).mono ?_
  rintro e w2 ⟨A1, c1, g1, rfl, hg1, hO1⟩
  replace k0_h := Lib.hid (box_below k0_h.out hO1.below_)
  replace k1_h := Lib.hid (box_below k1_h.out hO1.below_)
  have hz2 := box_lt k1_h.out
  refine ⟨_, rfl, k0_h.out, ?_⟩
  simp only [Act.put, List.setIfInBounds_toArray, List.set_cons_zero, List.set_cons_succ]
  have hg2 : g1.map (fun h : Hd => h.2.2) = X := by rw [hg1, hX_h.out, hL'_h.out, List.map_map]; rfl
  have hgl : g1.length = m := by have := congrArg List.length hg2; rwa [List.length_map, hX_h.out, List.length_map, hLm_h.out] at this
  have hXl : X.length = m := by rw [hX_h.out, List.length_map, hLm_h.out]
  have hC := relation_any p (nb : Int) (na : Int) n A1 c1 g1 w2 hO1.rdr hfld_h.out (by have := hn_h.out; omega) (by rw [hg2, hgl, ← hXl]; exact hmat_h.out) (by omega) (by have := hn_h.out; omega)
  rw [hg2, ← hR_h.out, hgl] at hC
  have hB2 := below_trans hB1_h.out hO1.below_ hB1_h.out.size
  clear hg1 hg2 hgl hXl hO1
  have hC_h := Lib.hid hC
  have hB2_h := Lib.hid hB2
  clear hC hB2
  refine' callH 8 (f := _) (args := _) rfl (by kernel_rfl) (by rfl) ?_ ?_; rotate_left 2; · (go_simp; first | done | with_reducible rfl | (constructor <;> with_reducible rfl))
  refine (hC_h.out).mono ?_
  rintro e w3 ⟨v3, fp3, rfl, hO3, hf3, hb3⟩
  replace k0_h := Lib.hid (box_below k0_h.out hb3)
  replace k1_h := Lib.hid (box_below k1_h.out hb3)
  refine ⟨_, rfl, k0_h.out, ?_⟩
  simp only [Act.put, List.setIfInBounds_toArray, List.set_cons_zero, List.set_cons_succ]
  obtain ⟨A3, n3, c3, rfl⟩ := hO3.shape
  have hB3 := below_trans hB2_h.out hb3 hB2_h.out.size
  have hBs := hB2_h.out.size
  have hz3 : w.heap.size + 1 < w3.heap.size := (Array.getElem?_eq_some_iff.1 k1_h.out).1
  obtain ⟨⟨d0, d1, d2⟩, g0, g1', g2'⟩ := box3 k1_h.out
  obtain ⟨s1, s2⟩ := set3 (a := .int .i64 (nb : Int)) (b := .int .i64 (na : Int)) (c := .slice A3 n3 c3) k1_h.out
  have k0' := box_keeps k0_h.out s2 (by omega)
  have hO4 := hO3.keeps s2 (fun k hk e => by have := hf3 k hk; omega)
  have hB4 := below_keeps hB3 s2 hB3.size (fun k hk => by omega)
  have hf4 := hf3.mono hBs
  clear hO3 hf3 hb3 hB3
  have s1_h := Lib.hid s1
  have s2_h := Lib.hid s2
  have k0'_h := Lib.hid k0'
  have hO4_h := Lib.hid hO4
  have hB4_h := Lib.hid hB4
  have hf4_h := Lib.hid hf4
  clear s1 s2 k0' hO4 hB4 hf4
  refine oneH 9 rfl (by kernel_rfl) (by rfl) (fun K hK => ?_)
  go_simp
  refine hK _ _ k0'_h.out ?_
  clear hK K
  refine doneH (by kernel_rfl) ?_
  go_wp2_with (fail)
  refine bodyPost_ret (results_cell_row rfl _ _ (w.heap.size + 1) _ _ (0, 0) _ rfl s1_h.out Tryd.underlying43 rfl (by kernel_rfl)) rfl ?_
  exact ⟨_, rfl, fp3, hO4_h.out, hf4_h.out, hB4_h.out⟩
/-- The converse, or none. -/
def conM (p : Int) (s : Sys) : Sys × Bool := if relB p s then (convM p s, true) else ((0, 0, []), false)
theorem conM_ok {p : Int} {s : Sys} : OkR (conM p s).1.2.2 := by
  unfold conM
  split
  · rename_i h
    have hs := RelOk.of h
    have hm := hs.mat.map (f := swapV s.1.toNat) fun v hv hr => ⟨(swapV_len _ v).trans hv, swapV_res hr⟩
    have hl : (s.2.2.map (swapV s.1.toNat)).length = s.2.2.length := List.length_map _
    rw [← hl] at hm
    have hr := redM_spec hs.fld hm
    have := hs.len; have := hs.sum; have := hs.hi; have := hs.lo
    exact okR_mat hr.1.1 (by have := hr.2.2; omega) (by omega)
  · exact okR_nil
end Go.Proofs.YtahnhblodfdfhaaDoor
