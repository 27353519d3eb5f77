/-
  THE WALKS: rlPart, domain; the contracts of DomainOf, RangeOf, IsTotal.

  THE WALKS: each; relation, span.
-/
import Derived.Test.YtpfidjegdpkhdaaDoorRlT
import Derived.Test.YtpfidjegdpkhdaaDoorRelOf
import Derived.BigQuiet
namespace Go.Proofs.YtpfidjegdpkhdaaDoor
open Go.RowKit

/-- An outer row of a call's own, whose rows are read: they may lie in old or new memory. -/
structure RdO (w0 w : World) (A : Option Addr) (cap : Nat) (hs : List Hd) : Prop where
  sl : Sl w 37 1 A hs.length cap (hs.map Hd.val)
  rows : ∀ h, h ∈ hs → IS w h.1 h.2.1 h.2.2
  outer : ∀ h, h ∈ hs → ∀ b, b ∈ fpA h.1 → ¬ b ∈ fpA A
  new : ∀ b, b ∈ fpA A → w0.heap.size ≤ b
  below_ : Below w0.heap.size w0 w
section
variable {w0 w w' : World} {A : Option Addr} {cap : Nat} {hs : List Hd}
theorem RdO.below (h : RdO w0 w A cap hs) (hb : Below w.heap.size w w') : RdO w0 w' A cap hs := ⟨h.sl.below hb, fun x hx => (h.rows x hx).below hb, h.outer, h.new, below_trans h.below_ hb h.below_.size⟩
theorem RdO.rdr (h : RdO w0 w A cap hs) : RdR w A hs := by
  refine ⟨fun i x hx => ?_, fun x hx => (h.rows x hx).rd⟩
  obtain ⟨ad, hA, _, hc, _⟩ := h.sl.cell (j := i) (u := x.val) (by simp [hx])
  exact ⟨ad, hA, hc⟩
theorem RdO.snoc {w1 w2 : World} (h : RdO w0 w A cap hs) (hb : Below w.heap.size w w1) {x : Hd} (hx : IS w1 x.1 x.2.1 x.2.2) (hxo : ∀ b, b ∈ fpA x.1 → ¬ b ∈ fpA A) {A' : Option Addr} {cap' n : Nat} (hn : n = hs.length + 1) (hs' : Sl w2 37 1 A' n cap' (hs.map Hd.val ++ [x.val])) (hA' : ∀ b, b ∈ fpA A' → b ∈ fpA A ∨ w1.heap.size ≤ b) (hk : Keeps (· ∈ fpA A) w1 w2) : RdO w0 w2 A' cap' (hs ++ [x]) := by
  subst hn
  have hbw := below_trans h.below_ hb h.below_.size
  refine ⟨by simpa using hs', fun y hy => ?_, fun y hy b hb1 hb2 => ?_, fun b hb' => ?_, below_keeps hbw hk hbw.size h.new⟩
  · rcases List.mem_append.1 hy with hy | hy
    · exact ((h.rows y hy).below hb).keeps hk (h.outer y hy)
    · obtain rfl := List.mem_singleton.1 hy; exact hx.keeps hk hxo
  · rcases List.mem_append.1 hy with hy | hy
    · rcases hA' b hb2 with h1 | h1
      · exact h.outer y hy b hb1 h1
      · have := (h.rows y hy).lt b hb1; have := hb.size; omega
    · obtain rfl := List.mem_singleton.1 hy
      rcases hA' b hb2 with h1 | h1
      · exact hxo b hb1 h1
      · have := hx.lt b hb1; omega
  · rcases hA' b hb' with h1 | h1
    · exact h.new b h1
    · have := hbw.size; omega
theorem RdO.start (w W : World) (hb : Below w.heap.size w W) : RdO w (W.alloc (.cells #[] 37)) (some ⟨W.heap.size, 0, none⟩) 0 [] := by
  refine ⟨by simpa using Sl.laid W 37 1 0 #[] (Nat.zero_le _) rfl, fun x hx => (by cases hx), fun x hx => (by cases hx), fun b hb' => ?_, below_trans hb (below_alloc _ _) hb.size⟩
  simp at hb'; subst hb'; exact hb.size
end
set_option maxRecDepth 8000 in
set_option maxHeartbeats 1000000 in
theorem each_any (F : FuncId) (first cap : Array Value) (g : List Int → List Int) (a b : Int) (A : Option Addr) (c : Nat) (hs : List Hd) (w : World) (hR : RdR w A hs) (hI : ∀ x, x ∈ hs → IS w x.1 x.2.1 x.2.2) (hl : hs.length ≤ 1048576) (hE : ∀ (args : Array Value) (w : World), (callFunc F args).run Tryd.prog w = .ok (.enter F args) w)
    (hF : ∀ x, x ∈ hs → ∀ W', Below w.heap.size w W' → Calls Tryd.prog F (first.push (.slice x.1 x.2.2.length x.2.1) ++ cap) W' fun e w'' => ∃ B c', e = .returned (.slice B (g x.2.2).length c') ∧ IS w'' B c' (g x.2.2) ∧ (∀ b, b ∈ fpA B → b ∈ fpA x.1 ∨ W'.heap.size ≤ b) ∧ Below W'.heap.size W' w'') :
    Calls Tryd.prog 96 #[.agg #[.int .i64 a, .int .i64 b, .slice A hs.length c], .func (.func F) first cap] w fun e w' => ∃ A' c' gs, e = .returned (.slice A' hs.length c') ∧ gs.map (fun h : Hd => h.2.2) = hs.map (fun h : Hd => g h.2.2) ∧ RdO w w' A' c' gs := by
  obtain ⟨m, hm⟩ : ∃ m, m = hs.length := ⟨_, rfl⟩
  rw [← hm] at hl ⊢
  obtain ⟨W, hW, b0, k0⟩ := alloc_box w (.cells #[.int .i64 a, .int .i64 b, .slice A m c] tRel)
  obtain ⟨⟨c0, c1, c2⟩, f0, f1, f2⟩ := box3 k0
  have hO0 := RdO.start w W b0
  have hz0 := (Array.getElem?_eq_some_iff.1 k0).1
  have hm_h := Lib.hid hm
  have hF_h := Lib.hid hF
  have hI_h := Lib.hid hI
  have hR_h := Lib.hid hR
  have k0_h := Lib.hid k0
  have b0_h := Lib.hid b0
  have hO0_h := Lib.hid hO0
  have hE_h := Lib.hid hE
  clear hm hF hI hR k0 b0 hO0 hE
  go_enter Tryd.func96, Tryd.ntmps96
  go_upto_region 1 with (fail)
  rw [← hW]
  clear hW
  go_wp2_with (fail)
  clear c0 c1 c2 f0 f1 f2
  go_loopw [12, 5] (fun i v wr => ∃ (k : Nat) (A' : Option Addr) (c' : Nat) (gs : List Hd), k ≤ m ∧ i = .int .i64 k ∧ v = .slice A' k c' ∧ gs.length = k ∧ gs.map (fun h : Hd => h.2.2) = (hs.take k).map (fun h : Hd => g h.2.2) ∧ RdO w wr A' c' gs) (fun i _ _ => m - (intOf i).toNat)
  case atStart => exact ⟨0, _, 0, [], Nat.zero_le _, rfl, rfl, rfl, rfl, hO0_h.out⟩
  case round =>
    obtain ⟨k, A', c', gs, hk, rfl, rfl, hgl, hgm, hO⟩ := hrel
    by_cases hlt : k < m
    · obtain ⟨x, hx⟩ : ∃ x, hs[k]? = some x := ⟨_, List.getElem?_eq_getElem (by rw [← hm_h.out]; exact hlt)⟩
      obtain ⟨ad, rfl, hc⟩ := (hR_h.out.below hO.below_).1 k x hx
      obtain ⟨B, d, l⟩ := x
      have hxm := List.mem_of_getElem? hx
      have hC := hF_h.out _ hxm wr hO.below_
      have hBlt := (hI_h.out _ hxm).lt
      have hc' : wr.cell? (ad.add k) = some (.slice B l.length d) := hc
      obtain ⟨q, hq⟩ : ∃ q, q = l.length := ⟨_, rfl⟩
      obtain ⟨r, hr⟩ : ∃ r, r = (g l).length := ⟨_, rfl⟩
      simp only [← hq, ← hr] at hC
      rw [← hq] at hc'
      have hkI : (k : Int) < (m : Int) := by omega
      clear hc hxm
      have hgl_h := Lib.hid hgl
      have hgm_h := Lib.hid hgm
      have hO_h := Lib.hid hO
      have hC_h := Lib.hid hC
      have hq_h := Lib.hid hq
      have hr_h := Lib.hid hr
      have hx_h := Lib.hid hx
      have hBlt_h := Lib.hid hBlt
      clear hgl hgm hO hC hq hr hx hBlt
      have hE1 := hE_h.out (first.push (.slice B q d) ++ cap) wr
      go_wp2_with (fail)
      refine (hC_h.out).mono ?_
      rintro e w1 ⟨B1, d1, rfl, hI1, hfp1, hb1⟩
      have hsl : Sl (w1.alloc (.cells #[.slice B1 r d1] 37)) 37 1 A' k c' (gs.map Hd.val) := by
        have := (hO_h.out.sl.below hb1).alloc (.cells #[.slice B1 r d1] 37)
        rwa [hgl_h.out] at this
      clear hc' hE1
      have hI1_h := Lib.hid hI1
      have hfp1_h := Lib.hid hfp1
      have hb1_h := Lib.hid hb1
      have hsl_h := Lib.hid hsl
      clear hI1 hfp1 hb1 hsl
      go_wp2_with (at_builtin; refine wpList_append_Sl _ rfl _ _ _ rfl 37 Tryd.underlying22 info_ints rfl (by omega) rfl (hsl_h.out) rfl (news := [.slice B1 r d1]) rfl (Sl.rdc (Sl.laid w1 37 1 1 #[.slice B1 r d1] (by unfold maxLen; omega) rfl)) (by intro u hu; simp at hu; subst hu; rfl) (by unfold maxLen; omega) (by omega) ?_; intro A3 c3 w3 hsA3 hA3 hkA3)
      have hal : Below w1.heap.size w1 (w1.alloc (.cells #[.slice B1 r d1] 37)) := below_alloc _ _
      have hO2 := hO_h.out.snoc (w1 := w1.alloc (.cells #[.slice B1 r d1] 37)) (below_trans hb1_h.out hal hb1_h.out.size) (x := (B1, d1, g l)) (hI1_h.out.below hal) (fun b hb hb' => by
        have h1 := hO_h.out.sl.lt b hb'
        have h2 := hO_h.out.new b hb'
        rcases hfp1_h.out b hb with h3 | h3
        · have := hBlt_h.out b h3; omega
        · omega) (by rw [hgl_h.out]) (by show Sl w3 _ 1 A3 (k + 1) c3 (gs.map Hd.val ++ [.slice B1 (g l).length d1]); rw [← hr_h.out]; exact hsA3) hA3 hkA3
      clear hsA3 hA3 hkA3
      have hO2_h := Lib.hid hO2
      clear hO2
      go_roundw
      case rel => exact ⟨k + 1, A3, c3, gs ++ [(B1, d1, g l)], by omega, by go_num, rfl, by rw [List.length_append, hgl_h.out]; rfl, by rw [List.map_append, hgm_h.out, List.take_add_one, hx_h.out]; simp, hO2_h.out⟩
      case measure => simp [intOf]; omega
    · obtain rfl : k = m := by omega
      have hgm2 : gs.map (fun h : Hd => h.2.2) = hs.map (fun h : Hd => g h.2.2) := by rw [hgm, List.take_of_length_le (by rw [← hm_h.out]; exact Nat.le_refl _)]
      clear hgm
      have hgl_h := Lib.hid hgl
      have hgm2_h := Lib.hid hgm2
      have hO_h := Lib.hid hO
      clear hgl hgm2 hO
      go_wp2_with (fail)
      go_ret
      exact ⟨A', c', gs, rfl, hgm2_h.out, hO_h.out⟩

set_option maxRecDepth 100000 in
set_option maxHeartbeats 1000000 in
theorem relation_any (p a b : Int) (n : Nat) (A : Option Addr) (c : Nat) (hs : List Hd) (w : World) (h : RdR w A hs) (hp : fieldB p = true) (hn : a + b = (n : Int)) (hm : Mat p hs.length n (hs.map fun h : Hd => h.2.2)) (hl : hs.length ≤ 1048576) (hn' : n ≤ 1048576) :
    Calls Tryd.prog 140 #[.int .i64 p, .int .i64 a, .int .i64 b, .slice A hs.length c] w fun e w' => ∃ v' fp, e = .returned v' ∧ OwSys w' v' (a, b, redM p n (hs.map fun h : Hd => h.2.2)) fp ∧ FreshL w.heap.size fp ∧ Below w.heap.size w w' := by
  obtain ⟨W, hW, hB0, k0⟩ := alloc_box w (.cells #[.int .i64 0, .int .i64 0, .slice none 0 0] tRel)
  have hC := reduced_any p n A c hs W (h.below hB0) hp hm hl hn'
  obtain ⟨R, hR⟩ : ∃ R, R = redM p n (hs.map fun h : Hd => h.2.2) := ⟨_, rfl⟩
  rw [← hR] at hC ⊢
  rw [← hn] at hC
  have hwr : IntKind.i64.wrap (a + b) = a + b := IntWalk.i64_in _ (by omega)
  clear h hm hp hn
  have hC_h := Lib.hid hC
  have hB0_h := Lib.hid hB0
  have k0_h := Lib.hid k0
  have hR_h := Lib.hid hR
  clear hC hB0 k0 hR
  go_enter Tryd.func140, Tryd.ntmps140
  go_upto_region 1 with (fail)
  rw [← hW]
  clear hW
  go_wp2_with (fail)
  refine (hC_h.out).mono ?_
  rintro e w1 hret
  obtain ⟨A1, c1, rfl, hO1⟩ := hret.om
  have k1 := box_below k0_h.out hO1.below_
  have hB1 := below_trans hB0_h.out hO1.below_ hB0_h.out.size
  obtain ⟨⟨d0, d1, d2⟩, g0, g1, g2⟩ := box3 k1
  obtain ⟨s1, s2⟩ := set3 (a := .int .i64 a) (b := .int .i64 b) (c := .slice A1 R.length c1) k1
  have hw0 := (Array.getElem?_eq_some_iff.1 k0_h.out).1
  have hB3 := below_keeps hB1 s2 hB1.size (fun k hk => by omega)
  have hBs := hB0_h.out.size
  clear hret k1 hB1
  have s1_h := Lib.hid s1
  have s2_h := Lib.hid s2
  have hO1_h := Lib.hid hO1
  have hB3_h := Lib.hid hB3
  clear s1 s2 hO1 hB3
  go_wp2_with (fail)
  refine bodyPost_ret (results_cell_row rfl _ _ w.heap.size _ _ (0, 0) _ rfl s1_h.out Tryd.underlying51 rfl (by kernel_rfl)) rfl ?_
  obtain ⟨fp, h1, h2⟩ := OwSys.of_ret (a := a) (b := b) hO1_h.out s2_h.out (fun k hk => by omega) rfl
  exact ⟨_, fp, rfl, h1, h2.mono hBs, hB3_h.out⟩
theorem OwMt.of_ret {w0 w : World} {L : List (List Int)} {A : Option Addr} {c : Nat} {a : Int} (h : OM w0 w A c L) {w' : World} {S : Nat → Prop} (hk : Keeps S w w') (hS : ∀ k, S k → k < w0.heap.size) {n : Nat} (hn : L.length = n) : ∃ fp, OwMt w' (.agg #[.int .i64 a, .slice A n c]) (a, L) fp ∧ FreshL w0.heap.size fp := by
  subst hn
  obtain ⟨fp, h1, h2⟩ := OwMt.of_om (a := a) h
  exact ⟨fp, h1.keeps hk fun k hk' hs => by have := h2 k hk'; have := hS k hs; omega, h2⟩
set_option maxRecDepth 100000 in
set_option maxHeartbeats 1000000 in
theorem span_any (p : Int) (n : Nat) (A : Option Addr) (c : Nat) (hs : List Hd) (w : World) (h : RdR w A hs) (hp : fieldB p = true) (hm : Mat p hs.length n (hs.map fun h : Hd => h.2.2)) (hl : hs.length ≤ 1048576) (hn' : n ≤ 1048576) :
    Calls Tryd.prog 95 #[.int .i64 p, .int .i64 n, .slice A hs.length c] w fun e w' => ∃ v' fp, e = .returned v' ∧ OwMt w' v' ((n : Int), redM p n (hs.map fun h : Hd => h.2.2)) fp ∧ FreshL w.heap.size fp ∧ Below w.heap.size w w' := by
  obtain ⟨W, hW, hB0, k0⟩ := alloc_box w (.cells #[.int .i64 0, .slice none 0 0] tSpc)
  have hC := reduced_any p n A c hs W (h.below hB0) hp hm hl hn'
  obtain ⟨R, hR⟩ : ∃ R, R = redM p n (hs.map fun h : Hd => h.2.2) := ⟨_, rfl⟩
  rw [← hR] at hC ⊢
  clear h hm hp
  have hC_h := Lib.hid hC
  have hB0_h := Lib.hid hB0
  have k0_h := Lib.hid k0
  have hR_h := Lib.hid hR
  clear hC hB0 k0 hR
  go_enter Tryd.func95, Tryd.ntmps95
  go_upto_region 1 with (fail)
  rw [← hW]
  clear hW
  go_wp2_with (fail)
  refine (hC_h.out).mono ?_
  rintro e w1 hret
  obtain ⟨A1, c1, rfl, hO1⟩ := hret.om
  have k1 := box_below k0_h.out hO1.below_
  have hB1 := below_trans hB0_h.out hO1.below_ hB0_h.out.size
  obtain ⟨⟨d0, d1⟩, g0, g1⟩ := box2 k1
  obtain ⟨s1, s2⟩ := set2 (a := .int .i64 (n : Int)) (b := .slice A1 R.length c1) k1
  have hw0 := (Array.getElem?_eq_some_iff.1 k0_h.out).1
  have hB3 := below_keeps hB1 s2 hB1.size (fun k hk => by omega)
  have hBs := hB0_h.out.size
  clear hret k1 hB1
  have s1_h := Lib.hid s1
  have s2_h := Lib.hid s2
  have hO1_h := Lib.hid hO1
  have hB3_h := Lib.hid hB3
  clear s1 s2 hO1 hB3
  go_wp2_with (fail)
  refine bodyPost_ret (results_cell_row rfl _ _ w.heap.size _ _ (0, 0) _ rfl s1_h.out Tryd.underlying48 rfl (by kernel_rfl)) rfl ?_
  obtain ⟨fp, h1, h2⟩ := OwMt.of_ret (a := (n : Int)) hO1_h.out s2_h.out (fun k hk => by omega) rfl
  exact ⟨_, fp, rfl, h1, h2.mono hBs, hB3_h.out⟩
end Go.Proofs.YtpfidjegdpkhdaaDoor
namespace Go.Proofs.YtpfidjegdpkhdaaDoor
open Go.RowKit

theorem alloc2 (w : World) (o o' : Obj) : ∃ W, W = (w.alloc o).alloc o' ∧ Below w.heap.size w W ∧ W.heap[w.heap.size]? = some o ∧ W.heap[w.heap.size + 1]? = some o' := by
  refine ⟨_, rfl, ((Below.refl _ _).alloc (Nat.le_refl _) _).alloc (by simp) _, box_below (heap_alloc_new w _) (below_alloc _ _), ?_⟩
  have := heap_alloc_new (w.alloc o) o'
  rwa [World.size_alloc] at this
theorem RdO.nil (w W : World) (hb : Below w.heap.size w W) : RdO w W none 0 [] := ⟨Sl.nil _ _ _, fun x hx => (by cases hx), fun x hx => (by cases hx), fun b hb' => (by simp at hb'), hb⟩
def partV (f r : Nat) (u : List Int) : List Int := (u.drop f).take r
theorem partV_len {f r n : Nat} {u : List Int} (h : u.length = n) (hr : f + r ≤ n) : (partV f r u).length = r := by unfold partV; rw [List.length_take, List.length_drop]; omega
theorem partV_mat {p : Int} {m n f r : Nat} {L : List (List Int)} (h : Mat p m n L) (hr : f + r ≤ n) : Mat p m r (L.map (partV f r)) :=
  h.map fun _ hv hx => ⟨partV_len hv hr, fun x hx' => hx x (List.mem_of_mem_drop (List.mem_of_mem_take hx'))⟩
theorem part_first {p : Int} {s : Sys} (_h : RelOk p s) : s.2.2.map (partV 0 s.1.toNat) = firstM s := by
  unfold firstM partV; simp
theorem part_second {p : Int} {s : Sys} (h : RelOk p s) : s.2.2.map (partV s.1.toNat s.2.1.toNat) = secondM s := by
  unfold secondM
  refine List.map_congr_left fun v hv => ?_
  have := (h.row hv).1
  have h1 := h.lo
  have h2 := h.hi
  unfold partV
  rw [List.take_of_length_le (by rw [List.length_drop]; omega)]

set_option maxRecDepth 8000 in
set_option maxHeartbeats 2000000 in
theorem rlPart_any (p : Int) {v : Value} {s : Sys} {fp : List Nat} (f t r : Nat) (w : World) (h : OwSys w v s fp) (hs : RelOk p s) (hft : t = f + r) (ht : (t : Int) ≤ s.1 + s.2.1) :
    Calls Tryd.prog 93 #[.int .i64 p, v, .int .i64 f, .int .i64 t] w fun e w' => ∃ v' fp', e = .returned v' ∧ OwMt w' v' ((r : Int), redM p r (s.2.2.map (partV f r))) fp' ∧ FreshL w.heap.size fp' ∧ Below w.heap.size w w' := by
  obtain ⟨A, c, gs, rfl, hL, hO, rfl⟩ := h
  have hmat := partV_mat (f := f) (r := r) hs.mat (by have := hs.lo; have := hs.hi; omega)
  obtain ⟨a, b, L⟩ := s
  have h0 : 0 ≤ a := hs.lo
  have h1 : 0 ≤ b := hs.hi
  have h2 : a + b ≤ 24 := hs.sum
  have hfld : fieldB p = true := hs.fld
  have hrow : ∀ u, u ∈ L → (u.length : Int) = a + b ∧ Res p u := fun u hu => hs.row hu
  have hlen : (L.length : Int) ≤ a + b := hs.len
  clear hs
  obtain ⟨na, rfl⟩ : ∃ na : Nat, a = (na : Int) := ⟨a.toNat, by omega⟩
  obtain ⟨nb, rfl⟩ : ∃ nb : Nat, b = (nb : Int) := ⟨b.toNat, by omega⟩
  have hL' : L = gs.map (fun h : Hd => h.2.2) := hL
  clear hL
  obtain ⟨m, hm⟩ : ∃ m, m = gs.length := ⟨_, rfl⟩
  have hLm : L.length = m := by rw [hL', List.length_map, hm]
  have hm24 : (m : Int) ≤ 24 := by have := hlen; rw [hLm] at this; omega
  have hfr : f + r ≤ na + nb := by have : (t : Int) ≤ na + nb := ht; omega
  have hft' : f ≤ t := by omega
  have hrt0 : t - f = r := by omega
  have ht' : t ≤ na + nb := by have : (t : Int) ≤ na + nb := ht; omega
  clear ht
  obtain ⟨X, hX⟩ : ∃ X, X = L.map (partV f r) := ⟨_, rfl⟩
  have hmat' : Mat p X.length r X := by rw [hX, List.length_map]; exact hmat
  obtain ⟨R, hR⟩ : ∃ R, R = redM p r X := ⟨_, rfl⟩
  have hgoal : redM p r (L.map (partV f r)) = R := by rw [hR, hX]
  show Calls Tryd.prog _ #[.int .i64 p, .agg #[.int .i64 (na : Int), .int .i64 (nb : Int), .slice A gs.length c], .int .i64 f, .int .i64 t] w fun e w' => ∃ v' fp', e = .returned v' ∧ OwMt w' v' ((r : Int), redM p r (L.map (partV f r))) fp' ∧ FreshL w.heap.size fp' ∧ Below w.heap.size w w'
  rw [hgoal, ← hm]
  obtain ⟨W, hW, b0, k0, k1⟩ := alloc2 w (.cells #[.int .i64 (na : Int), .int .i64 (nb : Int), .slice A m c] tRel) (.cells #[.int .i64 0, .slice none 0 0] tSpc)
  have hO0 := hO.below b0
  have hz0 := box_lt k0
  have hz1 := box_lt k1
  have hN0 := RdO.nil W W (Below.refl _ _)
  obtain ⟨⟨c0, c1, c2⟩, f0, f1, f2⟩ := box3 k0
  have hte : (t : Int) - (f : Int) = (r : Int) := by omega
  have htw : IntKind.i64.wrap ((t : Int) - (f : Int)) = (t : Int) - (f : Int) := IntWalk.i64_in _ (by omega)
  clear hO hmat hgoal
  have hL'_h := Lib.hid hL'
  have hm_h := Lib.hid hm
  have hLm_h := Lib.hid hLm
  have b0_h := Lib.hid b0
  have k0_h := Lib.hid k0
  have k1_h := Lib.hid k1
  have hO0_h := Lib.hid hO0
  have hrow_h := Lib.hid hrow
  have hlen_h := Lib.hid hlen
  have hfld_h := Lib.hid hfld
  have hmat'_h := Lib.hid hmat'
  have hX_h := Lib.hid hX
  have hR_h := Lib.hid hR
  have hN0_h := Lib.hid hN0
  have hte_h := Lib.hid hte
  have hft_h := Lib.hid hft
  have hrt0_h := Lib.hid hrt0
  clear hL' hm hLm b0 k0 k1 hO0 hrow hlen hfld hmat' hX hR hN0 hte hft hrt0
  go_enter Tryd.func93, Tryd.ntmps93
  go_upto_region 1 with (fail)
  rw [← hW]
  clear hW
  go_wp2_with (fail)
  clear c0 c1 c2 f0 f1 f2
  go_loopw [15, 9] (fun i v wr => ∃ (k : Nat) (A' : Option Addr) (c' : Nat) (ys : List Hd), k ≤ m ∧ i = .int .i64 k ∧ v = .slice A' k c' ∧ ys.length = k ∧ ys.map (fun h : Hd => h.2.2) = (L.take k).map (partV f r) ∧ RdO W wr A' c' ys) (fun i _ _ => m - (intOf i).toNat)
  case atStart => exact ⟨0, none, 0, [], Nat.zero_le _, rfl, rfl, rfl, rfl, hN0_h.out⟩
  case round =>
    obtain ⟨k, A', c', ys, hk, rfl, rfl, hyl, hym, hO⟩ := hrel
    by_cases hlt : k < m
    · have hOr := hO0_h.out.below hO.below_
      obtain ⟨ad, B, d, u, rfl, hx, hc, _⟩ := hOr.rd.at_ (k := k) (by rw [← hm_h.out]; exact hlt)
      have hyL : L[k]? = some u := by rw [hL'_h.out, List.getElem?_map, hx]; rfl
      have hul : u.length = na + nb := by have := (hrow_h.out _ (List.mem_of_getElem? hyL)).1; omega
      have hI : Sl wr 3 1 B (na + nb) d (ints u) := by have := hOr.rows _ (List.mem_of_getElem? hx); unfold IS at this; rwa [hul] at this
      have hBlt : ∀ b, b ∈ fpA B → b < W.heap.size := fun b hb => (hO0_h.out.rows _ (List.mem_of_getElem? hx)).lt b hb
      have hcap := hI.2.1
      rw [hul] at hc
      have hpl : (partV f r u).length = r := partV_len hul hfr
      have hkI : (k : Int) < (m : Int) := by omega
      have hrt := hrt0_h.out
      have hSL : ∀ o, Sl (wr.alloc o) 37 1 A' k c' (ys.map Hd.val) := fun o => by
        have := hO.sl.alloc o
        rwa [hyl] at this
      clear hOr hx
      have hyL_h := Lib.hid hyL
      have hul_h := Lib.hid hul
      have hyl_h := Lib.hid hyl
      have hym_h := Lib.hid hym
      have hO_h := Lib.hid hO
      have hBlt_h := Lib.hid hBlt
      have hpl_h := Lib.hid hpl
      have hSL_h := Lib.hid hSL
      have hrt_h := Lib.hid hrt
      clear hyL hul hyl hym hO hBlt hpl hSL hrt
      go_wp2_with (first
        | (refine wpList_slice_Sl rfl (.tmp 20) (some (.tmp 21)) (some (.tmp 22)) none 37 rfl 3 Tryd.underlying37 info_int rfl hI f t d (optSome rfl) (optSome rfl) (optNone rfl) hft' ht' (by omega) (Nat.le_refl _) ?_; intro A2 hcut hfp _)
        | (at_builtin; refine wpList_append_Sl _ rfl _ _ _ rfl 37 Tryd.underlying22 info_ints rfl (by omega) rfl (hSL_h.out (.cells #[.slice A2 (t - f) (d - f)] 37)) rfl (news := [.slice A2 (t - f) (d - f)]) rfl (Sl.rdc (Sl.laid wr 37 1 1 #[.slice A2 (t - f) (d - f)] (by unfold maxLen; omega) rfl)) (by intro u hu; simp at hu; subst hu; rfl) (by unfold maxLen; omega) (by omega) ?_; intro A3 c3 w3 hsA3 hA3 hkA3))
      have hcut' : IS wr A2 (d - f) (partV f r u) := by
        unfold IS
        rw [hpl_h.out]
        have e : ((ints u).drop (f * 1)).take (r * 1) = ints (partV f r u) := by simp [ints, partV, List.map_take, List.map_drop]
        rw [← e, ← hrt_h.out]; exact hcut
      clear hcut
      rw [hrt_h.out] at hsA3
      have hcut'_h := Lib.hid hcut'
      have hfp_h := Lib.hid hfp
      clear hcut' hfp
      have hO2 := hO_h.out.snoc (below_alloc wr _) (x := (A2, d - f, partV f r u)) (hcut'_h.out.below (below_alloc wr _)) (fun b hb hb' => by
        have h1 := hO_h.out.new b hb'
        have := hBlt_h.out b (hfp_h.out b hb)
        omega) (by rw [hyl_h.out]) (by show Sl w3 _ 1 A3 (k + 1) c3 (ys.map Hd.val ++ [.slice A2 (partV f r u).length (d - f)]); rw [hpl_h.out]; exact hsA3) hA3 hkA3
      clear hsA3 hA3 hkA3
      have hO2_h := Lib.hid hO2
      clear hO2
      go_roundw
      case rel => exact ⟨k + 1, A3, c3, ys ++ [(A2, d - f, partV f r u)], by omega, by go_num, rfl, by rw [List.length_append, hyl_h.out]; rfl, by rw [List.map_append, hym_h.out, List.take_add_one, hyL_h.out]; simp, hO2_h.out⟩
      case measure => simp [intOf]; omega
    · obtain rfl : k = m := by omega
      have hym2 : ys.map (fun h : Hd => h.2.2) = X := by rw [hym, List.take_of_length_le (by rw [hLm_h.out]; exact Nat.le_refl _), hX_h.out]
      have hC := spReduce_any p r A' c' ys wr hO.rdr hfld_h.out (by rw [hym2]; have := hmat'_h.out; rwa [show X.length = ys.length by rw [← hym2, List.length_map]] at this) (by omega) (by omega)
      rw [hym2, ← hR_h.out, hyl, ← hte_h.out] at hC
      have k1r := box_below k1_h.out hO.below_
      have hBr := below_trans b0_h.out hO.below_ b0_h.out.size
      have hzr := hO.below_.size
      clear hym hym2 hyl hO
      have hC_h := Lib.hid hC
      have k1r_h := Lib.hid k1r
      have hBr_h := Lib.hid hBr
      clear hC k1r hBr
      go_wp2_with (fail)
      refine (hC_h.out).mono ?_
      rintro e w1 hret
      obtain ⟨A1, c1, rfl, hO1⟩ := hret.om
      have k1' := box_below k1r_h.out hO1.below_
      have hB1 := below_trans hBr_h.out hO1.below_ hBr_h.out.size
      obtain ⟨⟨d0, d1⟩, g0, g1⟩ := box2 k1'
      obtain ⟨s1, s2⟩ := set2 (a := .int .i64 ((t : Int) - (f : Int))) (b := .slice A1 R.length c1) k1'
      have hB3 := below_keeps hB1 s2 hB1.size (fun k hk => by omega)
      have hBs := hBr_h.out.size
      clear hret k1' hB1
      have s1_h := Lib.hid s1
      have s2_h := Lib.hid s2
      have hO1_h := Lib.hid hO1
      have hB3_h := Lib.hid hB3
      clear s1 s2 hO1 hB3
      go_wp2_with (fail)
      refine bodyPost_ret (results_cell_row rfl _ _ (w.heap.size + 1) _ _ (0, 0) _ rfl s1_h.out Tryd.underlying48 rfl (by kernel_rfl)) rfl ?_
      obtain ⟨fp, h1, h2⟩ := OwMt.of_ret (a := (t : Int) - (f : Int)) hO1_h.out s2_h.out (fun k hk => by omega) rfl
      exact ⟨_, fp, rfl, by rw [← hte_h.out]; exact h1, h2.mono hBs, hB3_h.out⟩

theorem first_each {na n : Nat} {b : Int} {V : Value} (hV : V.oneCell' = true) {w : World} {x : Hd} (hx : IS w x.1 x.2.1 x.2.2) (hl : x.2.2.length = n) (hn : na ≤ n) : ∀ W', Below w.heap.size w W' → Calls Tryd.prog 137 (#[Value.agg #[.int .i64 na, .int .i64 b, V]].push (.slice x.1 x.2.2.length x.2.1) ++ #[]) W' fun e w'' => ∃ B c', e = .returned (.slice B (partV 0 na x.2.2).length c') ∧ IS w'' B c' (partV 0 na x.2.2) ∧ (∀ b, b ∈ fpA B → b ∈ fpA x.1 ∨ W'.heap.size ≤ b) ∧ Below W'.heap.size W' w'' := by
  intro W' hb
  have h0 : Sl W' 3 1 x.1 x.2.2.length x.2.1 (ints x.2.2) := hx.below hb
  have hp : partV 0 na x.2.2 = x.2.2.take na := by simp [partV]
  have hp2 : (x.2.2.take na).length = na := by rw [List.length_take]; omega
  have := first_any na b V hV x.1 x.2.1 x.2.2.length x.2.2 W' h0 (by omega)
  refine Calls.mono ?_ (fun e w'' h => h)
  simp only [List.push_toArray, List.cons_append, List.nil_append, Array.append_empty]
  refine this.mono ?_
  rintro e w2 ⟨B', rfl, hS, hf, hb2⟩
  exact ⟨B', x.2.1, by rw [hp, hp2], by unfold IS; rw [hp, hp2]; exact hS, fun b hb => .inl (hf b hb), hb2⟩
theorem second_each {na r n : Nat} {b : Int} {V : Value} (hV : V.oneCell' = true) {w : World} {x : Hd} (hx : IS w x.1 x.2.1 x.2.2) (hl : x.2.2.length = n) (hn : n = na + r) : ∀ W', Below w.heap.size w W' → Calls Tryd.prog 97 (#[Value.agg #[.int .i64 na, .int .i64 b, V]].push (.slice x.1 x.2.2.length x.2.1) ++ #[]) W' fun e w'' => ∃ B c', e = .returned (.slice B (partV na r x.2.2).length c') ∧ IS w'' B c' (partV na r x.2.2) ∧ (∀ b, b ∈ fpA B → b ∈ fpA x.1 ∨ W'.heap.size ≤ b) ∧ Below W'.heap.size W' w'' := by
  intro W' hb
  have h0 : Sl W' 3 1 x.1 x.2.2.length x.2.1 (ints x.2.2) := hx.below hb
  have hp : partV na r x.2.2 = x.2.2.drop na := by unfold partV; rw [List.take_of_length_le (by rw [List.length_drop]; omega)]
  have hp2 : (x.2.2.drop na).length = r := by rw [List.length_drop]; omega
  have := second_any na b V hV x.1 x.2.1 x.2.2.length r x.2.2 W' h0 (by omega)
  refine Calls.mono ?_ (fun e w'' h => h)
  simp only [List.push_toArray, List.cons_append, List.nil_append, Array.append_empty]
  refine this.mono ?_
  rintro e w2 ⟨B', c', rfl, hS, hf, hb2⟩
  exact ⟨B', c', by rw [hp, hp2], by unfold IS; rw [hp, hp2]; exact hS, fun b hb => .inl (hf b hb), hb2⟩
end Go.Proofs.YtpfidjegdpkhdaaDoor
