/-
  THE WALK: spec.syLess; the contracts of EliminateLast.
-/
import Derived.Test.YtahnhblodfdfhaaDoorElimA
import Derived.Test.YtahnhblodfdfhaaDoorRlZ
namespace Go.Proofs.YtahnhblodfdfhaaDoor
open Go.RowKit

abbrev tSysE : TypeId := 26
theorem set_f2e {w : World} {B : Nat} {t : TypeId} {x y z b : Value} (h : w.heap[B]? = some (.cells #[x, y, z] t)) : (w.setCell ⟨B, 2, none⟩ b).heap[B]? = some (.cells #[x, y, b] t) ∧ Keeps (· = B) w (w.setCell ⟨B, 2, none⟩ b) := by
  refine ⟨by simp [World.setCell, Array.getElem?_modify, h], ?_⟩
  exact (Keeps.refl (fun x => x = B) w).setCell (p := ⟨B, 2, none⟩) rfl _
theorem IS.ne_row {w : World} {A B : Option Addr} {c n cap : Nat} {l : List Int} {xs : List Value} (h : IS w A c l) (h' : Sl w 33 1 B n cap xs) : ∀ x, x ∈ fpA A → x ∉ fpA B := by
  intro x hx hx'
  rcases h.2.2.2 with ⟨rfl, _⟩ | ⟨g, off, cur, rfl, hg, _⟩
  · simp at hx
  rcases h'.2.2.2 with ⟨rfl, _⟩ | ⟨g', off', cur', rfl, hg', _⟩
  · simp at hx'
  simp at hx hx'
  subst hx
  subst hx'
  rw [hg] at hg'
  injection hg' with hg'
  injection hg' with _ h2 _
  exact absurd h2 (by decide)
theorem IS.ne_sys {w : World} {A : Option Addr} {c b : Nat} {l : List Int} {cs : Array Value} (h : IS w A c l) (hb : w.heap[b]? = some (.cells cs tSysE)) : ∀ x, x ∈ fpA A → x ≠ b := by
  intro x hx e
  subst e
  rcases h.2.2.2 with ⟨rfl, _⟩ | ⟨g, off, cur, rfl, hg, _⟩
  · simp at hx
  · simp at hx
    subst hx
    rw [hb] at hg
    injection hg with hg
    injection hg with _ h2 _
    exact absurd h2 (by decide)
theorem take_sliced {w : World} {A : Option Addr} {n cap k : Nat} {l : List Int} (h : IS w A cap l) (hn : l.length = n) (hk : k ≤ n) :
    ∃ A', (∀ w', (Instr.sliceAt 33 (.slice A n cap) none (some (.int .i64 (k : Int))) none).run Tryd.prog w' = .ok (.slice A' k cap) w') ∧ IS w A' cap (l.take k) ∧ ∀ b, b ∈ fpA A' → b ∈ fpA A := by
  have hS : Sl w 3 1 A n cap (ints l) := by have := h; unfold IS at this; rw [hn] at this; exact this
  obtain ⟨A', h1, h2, h3⟩ := hS.sliced (P := Tryd.prog) 33 Tryd.underlying33 info_int none (some (.int .i64 (k : Int))) none 0 k cap (optNone rfl) (optSome rfl) (optNone rfl) (Nat.zero_le _) hk (by have := hS.2.1; omega) (Nat.le_refl _)
  refine ⟨A', h1, ?_, h3⟩
  have hlk : (l.take k).length = k := by rw [List.length_take, hn]; omega
  unfold IS
  rw [hlk]
  have e : ints (l.take k) = ((ints l).drop (0 * 1)).take ((k - 0) * 1) := by simp [ints, List.map_take]
  rw [e]
  exact h2
theorem pvI_at {L : List (List Int)} {c k : Nat} (h : k ≤ pvI L c) (hk : k < L.length) (hx : (L.getD k []).getD c 0 ≠ 0) : pvI L c = k :=
  pvI_step (fun _ hi => take_lt_pvI (by omega)) hk hx

set_option maxRecDepth 100000 in
set_option maxHeartbeats 4000000 in
theorem syLess_any (p : Int) {v : Value} {s : Sys} (c : Nat) (w : World) (h : RdSysV w v s) (hs : SysOk p s) (hc : s.1 + s.2.1 = (c : Int) + 1) (hb : 1 ≤ s.2.1) :
    Calls Tryd.prog 49 #[.int .i64 p, v] w fun e w' => ∃ v' fp, e = .returned v' ∧ OwSys w' v' (s.1, s.2.1 - 1, elimM p c s.2.2) fp ∧ FreshL w.heap.size fp ∧ Below w.heap.size w w' := by
  obtain ⟨A, cp, gs, rfl, hL, hR⟩ := h
  obtain ⟨a, b, L⟩ := s
  have hL' : L = gs.map (fun h : Hd => h.2.2) := hL
  have hva : 0 ≤ a ∧ a ≤ 24 := hs.vis
  have hvb : 0 ≤ b ∧ b ≤ 100 := hs.hid
  have hcc : a + b = (c : Int) + 1 := hc
  have hb1' : 1 ≤ b := hb
  have hc124 : c ≤ 124 := by omega
  have hLm0 : L.length = gs.length := by rw [hL', List.length_map]
  have hgl : L.length ≤ 160 := hs.len
  have hfld : fieldB p = true := hs.fld
  have hpb := fieldB_bounds hfld
  have hmat : Mat p L.length (c + 1) L := by
    have := hs.mat
    have e : ((a, b, L) : Sys).1 + ((a, b, L) : Sys).2.1 = ((c + 1 : Nat) : Int) := by show a + b = _; omega
    rw [e] at this; exact this
  rw [← elimM_eq hmat]
  obtain ⟨m, hm⟩ : ∃ m, m = gs.length := ⟨_, rfl⟩
  rw [← hm] at hLm0
  show Calls Tryd.prog _ #[.int .i64 p, .agg #[.int .i64 a, .int .i64 b, .slice A gs.length cp]] w _
  rw [← hm]
  obtain ⟨W, hW, b0, k0, k1⟩ := alloc2 w (.cells #[.int .i64 a, .int .i64 b, .slice A m cp] tSysE) (.cells #[.int .i64 0, .int .i64 0, .slice none 0 0] tSysE)
  have hWs : W.heap.size = w.heap.size + 1 + 1 := by rw [hW]; simp
  obtain ⟨W3, hW3, b3, k3⟩ : ∃ W3, W3 = W.alloc (.cells #[.int .i64 a, .int .i64 (b - 1), .slice none 0 0] tSysE) ∧ Below W.heap.size W W3 ∧ W3.heap[W.heap.size]? = some (.cells #[.int .i64 a, .int .i64 (b - 1), .slice none 0 0] tSysE) := ⟨_, rfl, below_alloc _ _, heap_alloc_new _ _⟩
  obtain ⟨bx, hbx⟩ : ∃ bx, bx = W.heap.size := ⟨_, rfl⟩
  rw [← hbx] at k3
  have hnil : OMx W bx W3 none 0 (lessTo p c L 0) := OMx.nil b3 (by omega) (box_lt k3)
  obtain ⟨⟨c0, c1, c2⟩, f0, f1, f2⟩ := box3 k0
  have e1 : IntKind.i64.wrap (a + b) = a + b := IntWalk.i64_in _ (by omega)
  have e2 : IntKind.i64.wrap (a + b - 1) = (c : Int) := by rw [IntWalk.i64_in _ (by omega)]; omega
  have e3 : IntKind.i64.wrap (b - 1) = b - 1 := IntWalk.i64_in _ (by omega)
  have hbxI : bx = w.heap.size + 1 + 1 := hbx.trans hWs
  have hm160 : m ≤ 160 := by omega
  clear hL hs hc hb hva hvb hcc hb1'
  have hL'_h := Lib.hid hL'
  have hR_h := Lib.hid hR
  have hLm0_h := Lib.hid hLm0
  have hgl_h := Lib.hid hgl
  have hfld_h := Lib.hid hfld
  have hpb_h := Lib.hid hpb
  have hmat_h := Lib.hid hmat
  have hm_h := Lib.hid hm
  have b0_h := Lib.hid b0
  have k0_h := Lib.hid k0
  have k1_h := Lib.hid k1
  have hWs_h := Lib.hid hWs
  have b3_h := Lib.hid b3
  have k3_h := Lib.hid k3
  have hbx_h := Lib.hid hbx
  have hnil_h := Lib.hid hnil
  have hbxI_h := Lib.hid hbxI
  clear hL' hR hLm0 hgl hfld hpb hmat hm b0 k0 k1 hWs b3 k3 hbx hnil hbxI
  go_enter Tryd.func49, Tryd.ntmps49
  go_upto_region 1 with (fail)
  rw [← hW]
  clear hW
  go_upto_region 3 with (fail)
  rw [← hW3, ← hbx_h.out]
  clear hW3 c0 c1 c2 f0 f1 f2
  have k03 := box_below k0_h.out b3_h.out
  have hz3 := b3_h.out.size
  obtain ⟨⟨c0, c1, c2⟩, f0, f1, f2⟩ := box3 k03
  have k03_h := Lib.hid k03
  have hz3_h := Lib.hid hz3
  clear k03 hz3
  go_wp2_with (fail)
  go_loopw [25, 7] (fun i pv wr => ∃ (k q : Nat) (A1 : Option Addr) (c1 : Nat), k ≤ m ∧ q ≤ k ∧ i = .int .i64 k ∧ (lessTo p c L k).length = q ∧ wr.heap[bx]? = some (.cells #[.int .i64 a, .int .i64 (b - 1), .slice A1 q c1] tSysE) ∧ OMx W bx wr A1 c1 (lessTo p c L k) ∧ ((k ≤ pvI L c ∧ pv = .slice none 0 0) ∨ (pvI L c < k ∧ ∃ (Bp : Option Addr) (pc : Nat), pv = .slice Bp (c + 1) pc ∧ IS wr Bp pc (L.getD (pvI L c) [])))) (fun i _ _ => m - (intOf i).toNat)
  case atStart => exact ⟨0, 0, none, 0, Nat.zero_le _, Nat.le_refl _, rfl, rfl, k3_h.out, hnil_h.out, .inl ⟨Nat.zero_le _, rfl⟩⟩
  case round =>
    clear c0 c1 c2 f0 f1 f2 k03_h
    obtain ⟨k, q, A1, c1, hk, hqk, rfl, hq, kx, hOM, hpv⟩ := hrel
    obtain ⟨wo, rfl⟩ : ∃ x, x = wr := ⟨_, rfl⟩
    have hBW := hOM.below_
    have hBw := below_trans b0_h.out hBW b0_h.out.size
    by_cases hlt : k < m
    case neg =>
      obtain rfl : m = k := by omega
      have k1r := box_below k1_h.out hBW
      obtain ⟨⟨x0, x1, x2⟩, x3, x4, x5⟩ := box3 kx
      obtain ⟨⟨y0, y1, y2⟩, y3, y4, y5⟩ := box3 k1r
      obtain ⟨s1, s2⟩ := set3 (a := .int .i64 a) (b := .int .i64 (b - 1)) (c := .slice A1 q c1) k1r
      obtain ⟨fp, hO, hf⟩ := OwSys.of_ret (a := a) (b := b - 1) hOM.om s2 (fun z hz => by have := hWs_h.out; omega) hq
      have hB3 := below_keeps hBw s2 hBw.size (fun z hz => by omega)
      have hf2 : FreshL w.heap.size fp := hf.mono b0_h.out.size
      rw [← hLm0_h.out] at hO
      clear s2 hf
      have hq_h := Lib.hid hq
      have kx_h := Lib.hid kx
      have hOM_h := Lib.hid hOM
      have hpv_h := Lib.hid hpv
      have hBW_h := Lib.hid hBW
      have hBw_h := Lib.hid hBw
      have k1r_h := Lib.hid k1r
      have s1_h := Lib.hid s1
      have hO_h := Lib.hid hO
      have hB3_h := Lib.hid hB3
      have hf2_h := Lib.hid hf2
      clear hq kx hOM hpv hBW hBw k1r s1 hO hB3 hf2
      go_wp2_with (fail)
      refine bodyPost_ret (results_cell_row rfl _ _ (w.heap.size + 1) _ _ (0, 0) _ rfl s1_h.out Tryd.underlying26 rfl (by kernel_rfl)) rfl ?_
      exact ⟨_, fp, rfl, hO_h.out, hf2_h.out, hB3_h.out⟩
    obtain ⟨ad, B0, d0, l, rfl, hx, hcell, hrd⟩ := (hR_h.out.below hBw).at_ (k := k) (by rw [← hm_h.out]; exact hlt)
    have hkI : (k : Int) < (m : Int) := by omega
    have hLk : L[k]? = some l := by rw [hL'_h.out, List.getElem?_map, hx]; rfl
    have hgd : L.getD k [] = l := by rw [List.getD_eq_getElem?_getD, hLk]; rfl
    obtain ⟨hln, hres⟩ := hmat_h.out.get (i := k) (by rw [hLm0_h.out]; exact hlt)
    rw [hgd] at hln hres
    have hOw := l1Own_any B0 d0 l wo hrd (by omega)
    obtain ⟨x, hxe⟩ : ∃ x, x = l.getD c 0 := ⟨_, rfl⟩
    have hxg : l[c]? = some x := by rw [hxe, List.getD_eq_getElem?_getD, List.getElem?_eq_getElem (by omega)]; rfl
    have hxb : 0 ≤ x ∧ x < p := hres x (List.mem_of_getElem? hxg)
    have hcI : (c : Int) < ((c + 1 : Nat) : Int) := by omega
    have hcJ : (c : Int) < (c : Int) + 1 := by omega
    rw [hln] at hcell hOw
    clear hrd hx
    have hBW_h := Lib.hid hBW
    have hBw_h := Lib.hid hBw
    have hLk_h := Lib.hid hLk
    have hgd_h := Lib.hid hgd
    have hln_h := Lib.hid hln
    have hres_h := Lib.hid hres
    have hOw_h := Lib.hid hOw
    have hxe_h := Lib.hid hxe
    have hxg_h := Lib.hid hxg
    have hxb_h := Lib.hid hxb
    have hOM_h := Lib.hid hOM
    have hq_h := Lib.hid hq
    clear hBW hBw hLk hgd hln hres hOw hxe hxg hxb hOM hq
    go_wp2_with (fail)
    refine (hOw_h.out).mono ?_
    rintro e w5 ⟨Ar, cr, rfl, hir, hfr, hbr⟩
    rw [hln_h.out]
    have kx5 := box_below kx hbr
    obtain ⟨ar, x', rfl, hx', _, hcr, -⟩ := hir.at_ (j := c) (by rw [hln_h.out]; omega)
    obtain rfl : x' = x := by have := hxg_h.out; rw [hx'] at this; exact Option.some.inj this
    have kx5_h := Lib.hid kx5
    have hir_h := Lib.hid hir
    have hfr_h := Lib.hid hfr
    have hbr_h := Lib.hid hbr
    have hx'_h := Lib.hid hx'
    have kx_h := Lib.hid kx
    clear kx5 hir hfr hbr hx' kx
    rcases hpv with ⟨hkp, rfl⟩ | ⟨hkp, Bp, pc, rfl, hip⟩
    · by_cases hx0 : x' = 0
      · have hbz : (x' != 0) = false := by rw [hx0]; rfl
        have hkn : k < pvI L c := by
          rcases Nat.lt_or_ge k (pvI L c) with h | h
          · exact h
          · have e : pvI L c = k := by omega
            have := pvI_ne (L := L) (c := c) (by rw [e, hLm0_h.out]; exact hlt)
            rw [e, hgd_h.out, ← hxe_h.out] at this
            exact absurd hx0 this
        have hx0_h := Lib.hid hx0
        clear hx0
        obtain ⟨A2, hr2, hS2, hf2⟩ := take_sliced (n := c + 1) (k := c) hir_h.out hln_h.out (Nat.le_succ _)
        obtain ⟨row, hrow⟩ : ∃ r, r = l.take c := ⟨_, rfl⟩
        rw [← hrow] at hS2
        have hrl : row.length = c := by rw [hrow, List.length_take]; have := hln_h.out; omega
        have hless : lessTo p c L (k + 1) = lessTo p c L k ++ [row] := by
          rw [hrow]
          rw [lessTo, if_neg (by omega), if_pos hkn, hgd_h.out]
        have hf4 : Fresh wo.heap.size A2 := fun z hz => hfr_h.out z (hf2 z hz)
        clear hf2
        have hr2_h := Lib.hid hr2
        have hS2_h := Lib.hid hS2
        have hrow_h := Lib.hid hrow
        have hrl_h := Lib.hid hrl
        have hless_h := Lib.hid hless
        have hf4_h := Lib.hid hf4
        clear hr2 hS2 hrow hrl hless hf4

        go_upto_region 12 with (fail)
        refine beginZw 8 (fun w' => w'.heap[bx]? = some (.cells #[.int .i64 a, .int .i64 (b - 1), .slice A1 q c1] tSysE)) (by kernel_rfl) (fun W1 hW1 => ?_)
        have hbd : Below w5.heap.size w5 W1 := by rw [hW1]; exact below_drewN (Below.refl _ _) 1
        clear hW1
        have hF := box_below kx5_h.out hbd
        have hF_h := Lib.hid hF
        have hbd_h := Lib.hid hbd
        clear hF hbd
        refine takeC 0 (v := ?_) rfl (by kernel_rfl) (by kernel_rfl) (by kernel_rfl) (by kernel_rfl) (fun _ _ _ h => h) hF_h.out (by rfl) (fun W' hW' => ?_) ?_; rotate_left; · (obtain ⟨⟨x0, x1, x2⟩, x3, x4, x5⟩ := box3 hW'; clear hW'; go_simp; first | done | with_reducible rfl)
        simp only [Act.put, List.setIfInBounds_toArray, List.set_cons_zero, List.set_cons_succ]
        refine takeC 1 (v := ?_) rfl (by kernel_rfl) (by kernel_rfl) (by kernel_rfl) (by kernel_rfl) (fun _ _ _ h => h) hF_h.out (by rfl) (fun W' hW' => ?_) ?_; rotate_left; · (obtain ⟨⟨x0, x1, x2⟩, x3, x4, x5⟩ := box3 hW'; clear hW'; go_simp; first | done | with_reducible rfl)
        simp only [Act.put, List.setIfInBounds_toArray, List.set_cons_zero, List.set_cons_succ]
        refine takeC 2 (v := ?_) rfl (by kernel_rfl) (by kernel_rfl) (by kernel_rfl) (by kernel_rfl) (fun _ _ _ h => h) hF_h.out (by rfl) (fun W' hW' => ?_) ?_; rotate_left; · (obtain ⟨⟨x0, x1, x2⟩, x3, x4, x5⟩ := box3 hW'; clear hW'; go_simp; first | done | with_reducible rfl)
        simp only [Act.put, List.setIfInBounds_toArray, List.set_cons_zero, List.set_cons_succ]
        refine takeC 3 (v := ?_) rfl (by kernel_rfl) (by kernel_rfl) (by kernel_rfl) (by kernel_rfl) (fun _ _ _ h => h) hF_h.out (by rfl) (fun W' hW' => ?_) ?_; rotate_left; · (obtain ⟨⟨x0, x1, x2⟩, x3, x4, x5⟩ := box3 hW'; clear hW'; go_simp; first | done | with_reducible rfl)
        simp only [Act.put, List.setIfInBounds_toArray, List.set_cons_zero, List.set_cons_succ]
        refine takeC 4 (v := .slice A2 c cr) rfl (by kernel_rfl) (by kernel_rfl) (by kernel_rfl) (by kernel_rfl) (fun _ _ _ h => h) hF_h.out (by rfl) (fun W' _ => xop_sliceW rfl (hr2_h.out W')) ?_
        simp only [Act.put, List.setIfInBounds_toArray, List.set_cons_zero, List.set_cons_succ]
        have hB5 := below_trans hbr_h.out hbd_h.out hbr_h.out.size
        obtain ⟨ys, hLy, hOy, hfy, h0y, h1y, h2y⟩ := hOM_h.out
        have hyl : ys.length = q := by have := congrArg List.length hLy; rw [List.length_map] at this; have := hq_h.out; omega
        have hsl : Sl (W1.alloc (.cells #[.slice A2 c cr] 33)) 33 1 A1 q c1 (ys.map Hd.val) := by
          have := (hOy.sl.below hB5).alloc (.cells #[.slice A2 c cr] 33)
          rwa [hyl] at this
        have hal : Below W1.heap.size W1 (W1.alloc (.cells #[.slice A2 c cr] 33)) := below_alloc _ _
        have hF6 := box_below hF_h.out hal
        have hi4 := hS2_h.out.below hbd_h.out
        have hPa := fun (Bp : Option Addr) (pc : Nat) (lp : List Int) (hp : IS w5 Bp pc lp) => (⟨(hp.below hbd_h.out).below hal, IS.ne_row hp (hOy.sl.below hbr_h.out)⟩ : IS (W1.alloc (.cells #[.slice A2 c cr] 33)) Bp pc lp ∧ ∀ x, x ∈ fpA Bp → x ∉ fpA A1)
        have hF6_h := Lib.hid hF6
        have hB5_h := Lib.hid hB5
        have hi4_h := Lib.hid hi4
        have hsl_h := Lib.hid hsl
        have hLy_h := Lib.hid hLy
        have hOy_h := Lib.hid hOy
        have hfy_h := Lib.hid hfy
        have h0y_h := Lib.hid h0y
        have hyl_h := Lib.hid hyl
        have hal_h := Lib.hid hal
        have hPa_h := Lib.hid hPa
        clear hF6 hB5 hi4 hsl hLy hOy hfy h0y hyl hal hPa
        refine oneZ 5 rfl (by kernel_rfl) (by rfl) (fun K hK => ?_)
        go_simp
        refine hK _ _ (fun _ => hF6_h.out) ?_
        clear hK K
        refine appZ 6 rfl (by kernel_rfl) (by rfl) _ _ _ rfl 33 Tryd.underlying22 info_ints rfl (by omega) rfl hsl_h.out rfl (news := [.slice A2 c cr]) rfl (Sl.rdc (Sl.laid W1 33 1 1 #[.slice A2 c cr] (by unfold maxLen; omega) rfl)) (by intro u hu; simp at hu; subst hu; rfl) (by unfold maxLen; omega) (by omega) ?_
        intro A6 c6 w6 hsA6 hA6 hkA6 hrdA6
        clear hrdA6
        have hO6 := OMx.snoc (l := row) (w1 := W1.alloc (.cells #[.slice A2 c cr] 33)) hLy_h.out hOy_h.out hfy_h.out h0y_h.out h1y h2y (below_trans hB5_h.out hal_h.out hB5_h.out.size) (hi4_h.out.below hal_h.out) hf4_h.out (by rw [hyl_h.out]) (by rw [hrl_h.out]; exact hsA6) hA6 hkA6
        have hF7 := box_keeps hF6_h.out hkA6 (fun h => (hfy_h.out _ (List.mem_append_left _ h)).2 rfl)
        have hPv := fun (Bp : Option Addr) (pc : Nat) (lp : List Int) (hp : IS w5 Bp pc lp) => (hPa_h.out Bp pc lp hp).1.keeps hkA6 (hPa_h.out Bp pc lp hp).2
        refine ⟨fun _ => hF7, ?_⟩
        obtain ⟨s1, s2⟩ := set_f2e (b := .slice A6 (q + 1) c6) hF7
        have hO7 := hO6.store s2
        obtain ⟨⟨x0, x1, x2⟩, x3, x4, x5⟩ := box3 hF7
        have hPv2 := fun (Bp : Option Addr) (pc : Nat) (lp : List Int) (hp : IS w5 Bp pc lp) => (hPv Bp pc lp hp).keeps s2 (fun x hx hx2 => IS.ne_sys (hPv Bp pc lp hp) hF7 x hx hx2)
        clear hsA6 hA6 hkA6 hO6 s2 hPv
        have hF7_h := Lib.hid hF7
        have hO7_h := Lib.hid hO7
        have s1_h := Lib.hid s1
        have hPv2_h := Lib.hid hPv2
        clear hF7 hO7 s1 hPv2
        simp only [Act.put, List.setIfInBounds_toArray, List.set_cons_zero, List.set_cons_succ]
        refine takeC 7 (v := ?_) rfl (by kernel_rfl) (by kernel_rfl) (by kernel_rfl) (by kernel_rfl) (fun _ _ _ h => h) hF7_h.out (by rfl) (fun W' hW' => ?_) ?_; rotate_left; · (skip; clear hW'; go_simp; first | done | with_reducible rfl)
        simp only [Act.put, List.setIfInBounds_toArray, List.set_cons_zero, List.set_cons_succ]
        refine oneZ 8 rfl (by kernel_rfl) (by rfl) (fun K hK => ?_)
        go_simp
        refine hK _ _ (fun h => by cases h) ?_
        clear hK K
        refine doneZ (by kernel_rfl) ?_
        go_wp2_with (fail)
        go_roundw
        case rel => exact ⟨k + 1, q + 1, A6, c6, by omega, by omega, by go_num, by rw [hless_h.out, List.length_append, hq_h.out]; rfl, s1_h.out, by rw [hless_h.out]; exact hO7_h.out, .inl ⟨by omega, rfl⟩⟩
        case measure => simp [intOf]; omega

      · have hbz : (x' != 0) = true := by rw [bne_iff_ne]; exact hx0
        have hpk : pvI L c = k := pvI_at hkp (by rw [hLm0_h.out]; exact hlt) (by rw [hgd_h.out, ← hxe_h.out]; exact hx0)
        have hless : lessTo p c L (k + 1) = lessTo p c L k := by rw [lessTo, if_pos hpk.symm]
        have hOM5 := hOM_h.out.below hbr_h.out
        rw [← hless] at hOM5
        have hq5 : (lessTo p c L (k + 1)).length = q := by rw [hless]; exact hq_h.out
        have hip : IS w5 (some ar) cr (L.getD (pvI L c) []) := by rw [hpk, hgd_h.out]; exact hir_h.out
        have hpl : pvI L c < k + 1 := by omega
        have hx0_h := Lib.hid hx0
        clear hx0 hless
        have hpk_h := Lib.hid hpk
        have hOM5_h := Lib.hid hOM5
        have hq5_h := Lib.hid hq5
        have hip_h := Lib.hid hip
        have hpl_h := Lib.hid hpl
        clear hpk hOM5 hq5 hip hpl
        go_wp2_with (fail)
        go_roundw
        case rel => exact ⟨k + 1, q, A1, c1, by omega, by omega, by go_num, hq5_h.out, kx5_h.out, hOM5_h.out, .inr ⟨hpl_h.out, some ar, cr, rfl, hip_h.out⟩⟩
        case measure => simp [intOf]; omega
    · have hip5 := hip.below hbr_h.out
      have hne0 : ((c : Int) + 1 == 0) = false := by rw [beq_eq_false_iff_ne]; omega
      have hkne : ¬ k = pvI L c := by omega
      have hkge : ¬ k < pvI L c := by omega
      by_cases hx0 : x' = 0
      · have hbz : (x' != 0) = false := by rw [hx0]; rfl
        have hz0 : l.getD c 0 = 0 := by rw [← hxe_h.out]; exact hx0
        have hx0_h := Lib.hid hx0
        clear hx0
        have hip5_h := Lib.hid hip5
        have hip_h := Lib.hid hip
        have hz0_h := Lib.hid hz0
        clear hip5 hip hz0
        obtain ⟨A2, hr2, hS2, hf2⟩ := take_sliced (n := c + 1) (k := c) hir_h.out hln_h.out (Nat.le_succ _)
        obtain ⟨row, hrow⟩ : ∃ r, r = l.take c := ⟨_, rfl⟩
        rw [← hrow] at hS2
        have hrl : row.length = c := by rw [hrow, List.length_take]; have := hln_h.out; omega
        have hless : lessTo p c L (k + 1) = lessTo p c L k ++ [row] := by
          rw [hrow]
          rw [lessTo, if_neg hkne, if_neg hkge, hgd_h.out, eV_zero hres_h.out hz0_h.out]
        have hf4 : Fresh wo.heap.size A2 := fun z hz => hfr_h.out z (hf2 z hz)
        clear hf2
        have hr2_h := Lib.hid hr2
        have hS2_h := Lib.hid hS2
        have hrow_h := Lib.hid hrow
        have hrl_h := Lib.hid hrl
        have hless_h := Lib.hid hless
        have hf4_h := Lib.hid hf4
        clear hr2 hS2 hrow hrl hless hf4

        go_upto_region 12 with (fail)
        refine beginZw 8 (fun w' => w'.heap[bx]? = some (.cells #[.int .i64 a, .int .i64 (b - 1), .slice A1 q c1] tSysE)) (by kernel_rfl) (fun W1 hW1 => ?_)
        have hbd : Below w5.heap.size w5 W1 := by rw [hW1]; exact below_drewN (Below.refl _ _) 1
        clear hW1
        have hF := box_below kx5_h.out hbd
        have hF_h := Lib.hid hF
        have hbd_h := Lib.hid hbd
        clear hF hbd
        refine takeC 0 (v := ?_) rfl (by kernel_rfl) (by kernel_rfl) (by kernel_rfl) (by kernel_rfl) (fun _ _ _ h => h) hF_h.out (by rfl) (fun W' hW' => ?_) ?_; rotate_left; · (obtain ⟨⟨x0, x1, x2⟩, x3, x4, x5⟩ := box3 hW'; clear hW'; go_simp; first | done | with_reducible rfl)
        simp only [Act.put, List.setIfInBounds_toArray, List.set_cons_zero, List.set_cons_succ]
        refine takeC 1 (v := ?_) rfl (by kernel_rfl) (by kernel_rfl) (by kernel_rfl) (by kernel_rfl) (fun _ _ _ h => h) hF_h.out (by rfl) (fun W' hW' => ?_) ?_; rotate_left; · (obtain ⟨⟨x0, x1, x2⟩, x3, x4, x5⟩ := box3 hW'; clear hW'; go_simp; first | done | with_reducible rfl)
        simp only [Act.put, List.setIfInBounds_toArray, List.set_cons_zero, List.set_cons_succ]
        refine takeC 2 (v := ?_) rfl (by kernel_rfl) (by kernel_rfl) (by kernel_rfl) (by kernel_rfl) (fun _ _ _ h => h) hF_h.out (by rfl) (fun W' hW' => ?_) ?_; rotate_left; · (obtain ⟨⟨x0, x1, x2⟩, x3, x4, x5⟩ := box3 hW'; clear hW'; go_simp; first | done | with_reducible rfl)
        simp only [Act.put, List.setIfInBounds_toArray, List.set_cons_zero, List.set_cons_succ]
        refine takeC 3 (v := ?_) rfl (by kernel_rfl) (by kernel_rfl) (by kernel_rfl) (by kernel_rfl) (fun _ _ _ h => h) hF_h.out (by rfl) (fun W' hW' => ?_) ?_; rotate_left; · (obtain ⟨⟨x0, x1, x2⟩, x3, x4, x5⟩ := box3 hW'; clear hW'; go_simp; first | done | with_reducible rfl)
        simp only [Act.put, List.setIfInBounds_toArray, List.set_cons_zero, List.set_cons_succ]
        refine takeC 4 (v := .slice A2 c cr) rfl (by kernel_rfl) (by kernel_rfl) (by kernel_rfl) (by kernel_rfl) (fun _ _ _ h => h) hF_h.out (by rfl) (fun W' _ => xop_sliceW rfl (hr2_h.out W')) ?_
        simp only [Act.put, List.setIfInBounds_toArray, List.set_cons_zero, List.set_cons_succ]
        have hB5 := below_trans hbr_h.out hbd_h.out hbr_h.out.size
        obtain ⟨ys, hLy, hOy, hfy, h0y, h1y, h2y⟩ := hOM_h.out
        have hyl : ys.length = q := by have := congrArg List.length hLy; rw [List.length_map] at this; have := hq_h.out; omega
        have hsl : Sl (W1.alloc (.cells #[.slice A2 c cr] 33)) 33 1 A1 q c1 (ys.map Hd.val) := by
          have := (hOy.sl.below hB5).alloc (.cells #[.slice A2 c cr] 33)
          rwa [hyl] at this
        have hal : Below W1.heap.size W1 (W1.alloc (.cells #[.slice A2 c cr] 33)) := below_alloc _ _
        have hF6 := box_below hF_h.out hal
        have hi4 := hS2_h.out.below hbd_h.out
        have hPa := fun (Bp : Option Addr) (pc : Nat) (lp : List Int) (hp : IS w5 Bp pc lp) => (⟨(hp.below hbd_h.out).below hal, IS.ne_row hp (hOy.sl.below hbr_h.out)⟩ : IS (W1.alloc (.cells #[.slice A2 c cr] 33)) Bp pc lp ∧ ∀ x, x ∈ fpA Bp → x ∉ fpA A1)
        have hF6_h := Lib.hid hF6
        have hB5_h := Lib.hid hB5
        have hi4_h := Lib.hid hi4
        have hsl_h := Lib.hid hsl
        have hLy_h := Lib.hid hLy
        have hOy_h := Lib.hid hOy
        have hfy_h := Lib.hid hfy
        have h0y_h := Lib.hid h0y
        have hyl_h := Lib.hid hyl
        have hal_h := Lib.hid hal
        have hPa_h := Lib.hid hPa
        clear hF6 hB5 hi4 hsl hLy hOy hfy h0y hyl hal hPa
        refine oneZ 5 rfl (by kernel_rfl) (by rfl) (fun K hK => ?_)
        go_simp
        refine hK _ _ (fun _ => hF6_h.out) ?_
        clear hK K
        refine appZ 6 rfl (by kernel_rfl) (by rfl) _ _ _ rfl 33 Tryd.underlying22 info_ints rfl (by omega) rfl hsl_h.out rfl (news := [.slice A2 c cr]) rfl (Sl.rdc (Sl.laid W1 33 1 1 #[.slice A2 c cr] (by unfold maxLen; omega) rfl)) (by intro u hu; simp at hu; subst hu; rfl) (by unfold maxLen; omega) (by omega) ?_
        intro A6 c6 w6 hsA6 hA6 hkA6 hrdA6
        clear hrdA6
        have hO6 := OMx.snoc (l := row) (w1 := W1.alloc (.cells #[.slice A2 c cr] 33)) hLy_h.out hOy_h.out hfy_h.out h0y_h.out h1y h2y (below_trans hB5_h.out hal_h.out hB5_h.out.size) (hi4_h.out.below hal_h.out) hf4_h.out (by rw [hyl_h.out]) (by rw [hrl_h.out]; exact hsA6) hA6 hkA6
        have hF7 := box_keeps hF6_h.out hkA6 (fun h => (hfy_h.out _ (List.mem_append_left _ h)).2 rfl)
        have hPv := fun (Bp : Option Addr) (pc : Nat) (lp : List Int) (hp : IS w5 Bp pc lp) => (hPa_h.out Bp pc lp hp).1.keeps hkA6 (hPa_h.out Bp pc lp hp).2
        refine ⟨fun _ => hF7, ?_⟩
        obtain ⟨s1, s2⟩ := set_f2e (b := .slice A6 (q + 1) c6) hF7
        have hO7 := hO6.store s2
        obtain ⟨⟨x0, x1, x2⟩, x3, x4, x5⟩ := box3 hF7
        have hPv2 := fun (Bp : Option Addr) (pc : Nat) (lp : List Int) (hp : IS w5 Bp pc lp) => (hPv Bp pc lp hp).keeps s2 (fun x hx hx2 => IS.ne_sys (hPv Bp pc lp hp) hF7 x hx hx2)
        clear hsA6 hA6 hkA6 hO6 s2 hPv
        have hF7_h := Lib.hid hF7
        have hO7_h := Lib.hid hO7
        have s1_h := Lib.hid s1
        have hPv2_h := Lib.hid hPv2
        clear hF7 hO7 s1 hPv2
        simp only [Act.put, List.setIfInBounds_toArray, List.set_cons_zero, List.set_cons_succ]
        refine takeC 7 (v := ?_) rfl (by kernel_rfl) (by kernel_rfl) (by kernel_rfl) (by kernel_rfl) (fun _ _ _ h => h) hF7_h.out (by rfl) (fun W' hW' => ?_) ?_; rotate_left; · (skip; clear hW'; go_simp; first | done | with_reducible rfl)
        simp only [Act.put, List.setIfInBounds_toArray, List.set_cons_zero, List.set_cons_succ]
        refine oneZ 8 rfl (by kernel_rfl) (by rfl) (fun K hK => ?_)
        go_simp
        refine hK _ _ (fun h => by cases h) ?_
        clear hK K
        refine doneZ (by kernel_rfl) ?_
        go_wp2_with (fail)
        go_roundw
        case rel => exact ⟨k + 1, q + 1, A6, c6, by omega, by omega, by go_num, by rw [hless_h.out, List.length_append, hq_h.out]; rfl, s1_h.out, by rw [hless_h.out]; exact hO7_h.out, .inr ⟨by omega, Bp, pc, rfl, hPv2_h.out Bp pc _ hip5_h.out⟩⟩
        case measure => simp [intOf]; omega

      · have hbz : (x' != 0) = true := by rw [bne_iff_ne]; exact hx0
        obtain ⟨hpn, hpres⟩ := hmat_h.out.get (i := pvI L c) (by rw [hLm0_h.out]; omega)
        obtain ⟨pv, hpve⟩ : ∃ v, v = L.getD (pvI L c) [] := ⟨_, rfl⟩
        rw [← hpve] at hpn hpres hip5 hip
        obtain ⟨bp, y, rfl, hy, _, hcy, -⟩ := hip5.at_ (j := c) (by rw [hpn]; omega)
        have hyb := hpres y (List.mem_of_getElem? hy)
        have hy0 : y ≠ 0 := by
          have := pvI_ne (L := L) (c := c) (by rw [hLm0_h.out]; omega)
          rw [← hpve, List.getD_eq_getElem?_getD, hy] at this
          exact this
        have hyg : pv.getD c 0 = y := by rw [List.getD_eq_getElem?_getD, hy]; rfl
        have hp0 := hpb_h.out.1
        have hiv := (invM_spec (p := p) (a := y) hfld_h.out (by omega) (by omega)).2
        have hI := fun (W : World) => fdInv_any p y W hfld_h.out (by omega) (by omega)
        obtain ⟨iv, hive⟩ : ∃ i, i = invM p y := ⟨_, rfl⟩
        simp only [← hive] at hI
        rw [← hive] at hiv
        have hMu := fun (W : World) => fdMul_any p x' iv W (by omega) (by have := hxb_h.out; omega) (by have := hxb_h.out; have := hpb_h.out; omega) (by omega) (by have := hpb_h.out; omega)
        obtain ⟨fq, hfq⟩ : ∃ f, f = x' * iv % p := ⟨_, rfl⟩
        have hfb : 0 ≤ fq ∧ fq < p := by rw [hfq]; exact ⟨Int.emod_nonneg _ (by omega), Int.emod_lt_of_pos _ (by omega)⟩
        simp only [← hfq] at hMu
        have hMl := fun (W : World) (hb : Below w5.heap.size w5 W) => mxLess_any p fq (some ar) (some bp) cr pc (c + 1) l pv W (hir_h.out.below hb) (hip5.rd.below hb) (fun z hz hz2 => by have := hip.lt z hz; have := hfr_h.out z hz2; omega) hln_h.out hpn (by omega) (by omega) (by have := hpb_h.out; omega) hres_h.out hpres hfb
        have hev : addT p l (-fq) pv = eV p c pv l := by unfold eV; rw [hyg, ← hxe_h.out, hfq, hive]
        simp only [hev] at hMl
        have hbd : Below w5.heap.size w5 w5.drew := below_drewN (Below.refl _ _) 1
        have hx0_h := Lib.hid hx0
        clear hx0 hy hyb hy0 hyg hp0 hiv hpres
        have hip5_h := Lib.hid hip5
        have hip_h := Lib.hid hip
        have hpve_h := Lib.hid hpve
        have hpn_h := Lib.hid hpn
        have hI_h := Lib.hid hI
        have hMu_h := Lib.hid hMu
        have hMl_h := Lib.hid hMl
        have hev_h := Lib.hid hev
        have hbd_h := Lib.hid hbd
        have hive_h := Lib.hid hive
        have hfq_h := Lib.hid hfq
        have hfb_h := Lib.hid hfb
        clear hip5 hip hpve hpn hI hMu hMl hev hbd hive hfq hfb
        go_upto_region 11 with (fail)
        refine beginZw 15 (fun w' => w'.cell? (ar.add c) = some (.int .i64 x') ∧ w'.cell? (bp.add c) = some (.int .i64 y)) (by kernel_rfl) (fun W1 hW1 => ?_)
        have hS1 : W1.cell? (ar.add c) = some (.int .i64 x') ∧ W1.cell? (bp.add c) = some (.int .i64 y) := by rw [hW1]; exact ⟨hcr, hcy⟩
        have hB1 : Below w5.heap.size w5 W1 := by rw [hW1]; exact hbd_h.out
        clear hW1 hcr hcy
        have hS1_h := Lib.hid hS1
        have hB1_h := Lib.hid hB1
        clear hS1 hB1
        refine takeC 0 (v := ?_) rfl (by kernel_rfl) (by kernel_rfl) (by kernel_rfl) (by kernel_rfl) (fun _ _ _ h => h) hS1_h.out (by rfl) (fun W' hW' => ?_) ?_; rotate_left; · (have y0 := hW'.1; have y1 := hW'.2; clear hW'; go_simp; first | done | with_reducible rfl)
        simp only [Act.put, List.setIfInBounds_toArray, List.set_cons_zero, List.set_cons_succ]
        refine takeC 1 (v := ?_) rfl (by kernel_rfl) (by kernel_rfl) (by kernel_rfl) (by kernel_rfl) (fun _ _ _ h => h) hS1_h.out (by rfl) (fun W' hW' => ?_) ?_; rotate_left; · (have y0 := hW'.1; have y1 := hW'.2; clear hW'; go_simp; first | done | with_reducible rfl)
        simp only [Act.put, List.setIfInBounds_toArray, List.set_cons_zero, List.set_cons_succ]
        refine takeC 2 (v := ?_) rfl (by kernel_rfl) (by kernel_rfl) (by kernel_rfl) (by kernel_rfl) (fun _ _ _ h => h) hS1_h.out (by rfl) (fun W' hW' => ?_) ?_; rotate_left; · (have y0 := hW'.1; have y1 := hW'.2; clear hW'; go_simp; first | done | with_reducible rfl)
        simp only [Act.put, List.setIfInBounds_toArray, List.set_cons_zero, List.set_cons_succ]
        refine takeC 3 (v := ?_) rfl (by kernel_rfl) (by kernel_rfl) (by kernel_rfl) (by kernel_rfl) (fun _ _ _ h => h) hS1_h.out (by rfl) (fun W' hW' => ?_) ?_; rotate_left; · (have y0 := hW'.1; have y1 := hW'.2; clear hW'; go_simp; first | done | with_reducible rfl)
        simp only [Act.put, List.setIfInBounds_toArray, List.set_cons_zero, List.set_cons_succ]
        refine takeC 4 (v := ?_) rfl (by kernel_rfl) (by kernel_rfl) (by kernel_rfl) (by kernel_rfl) (fun _ _ _ h => h) hS1_h.out (by rfl) (fun W' hW' => ?_) ?_; rotate_left; · (have y0 := hW'.1; have y1 := hW'.2; clear hW'; go_simp; first | done | with_reducible rfl)
        simp only [Act.put, List.setIfInBounds_toArray, List.set_cons_zero, List.set_cons_succ]
        refine takeC 5 (v := ?_) rfl (by kernel_rfl) (by kernel_rfl) (by kernel_rfl) (by kernel_rfl) (fun _ _ _ h => h) hS1_h.out (by rfl) (fun W' hW' => ?_) ?_; rotate_left; · (have y0 := hW'.1; have y1 := hW'.2; clear hW'; go_simp; first | done | with_reducible rfl)
        simp only [Act.put, List.setIfInBounds_toArray, List.set_cons_zero, List.set_cons_succ]
        refine takeC 6 (v := ?_) rfl (by kernel_rfl) (by kernel_rfl) (by kernel_rfl) (by kernel_rfl) (fun _ _ _ h => h) hS1_h.out (by rfl) (fun W' hW' => ?_) ?_; rotate_left; · (have y0 := hW'.1; have y1 := hW'.2; clear hW'; go_simp; first | done | with_reducible rfl)
        simp only [Act.put, List.setIfInBounds_toArray, List.set_cons_zero, List.set_cons_succ]
        refine takeC 7 (v := ?_) rfl (by kernel_rfl) (by kernel_rfl) (by kernel_rfl) (by kernel_rfl) (fun _ _ _ h => h) hS1_h.out (by rfl) (fun W' hW' => ?_) ?_; rotate_left; · (have y0 := hW'.1; have y1 := hW'.2; clear hW'; go_simp; first | done | with_reducible rfl)
        simp only [Act.put, List.setIfInBounds_toArray, List.set_cons_zero, List.set_cons_succ]
        refine takeC 8 (v := ?_) rfl (by kernel_rfl) (by kernel_rfl) (by kernel_rfl) (by kernel_rfl) (fun _ _ _ h => h) hS1_h.out (by rfl) (fun W' hW' => ?_) ?_; rotate_left; · (have y0 := hW'.1; have y1 := hW'.2; clear hW'; go_simp; first | done | with_reducible rfl)
        simp only [Act.put, List.setIfInBounds_toArray, List.set_cons_zero, List.set_cons_succ]
        refine takeC 9 (v := ?_) rfl (by kernel_rfl) (by kernel_rfl) (by kernel_rfl) (by kernel_rfl) (fun _ _ _ h => h) hS1_h.out (by rfl) (fun W' hW' => ?_) ?_; rotate_left; · (have y0 := hW'.1; have y1 := hW'.2; clear hW'; go_simp; first | done | with_reducible rfl)
        simp only [Act.put, List.setIfInBounds_toArray, List.set_cons_zero, List.set_cons_succ]
        refine takeC 10 (v := ?_) rfl (by kernel_rfl) (by kernel_rfl) (by kernel_rfl) (by kernel_rfl) (fun _ _ _ h => h) hS1_h.out (by rfl) (fun W' hW' => ?_) ?_; rotate_left; · (have y0 := hW'.1; have y1 := hW'.2; clear hW'; go_simp; first | done | with_reducible rfl)
        simp only [Act.put, List.setIfInBounds_toArray, List.set_cons_zero, List.set_cons_succ]
        refine takeC 11 (v := ?_) rfl (by kernel_rfl) (by kernel_rfl) (by kernel_rfl) (by kernel_rfl) (fun _ _ _ h => h) hS1_h.out (by rfl) (fun W' hW' => ?_) ?_; rotate_left; · (have y0 := hW'.1; have y1 := hW'.2; clear hW'; go_simp; first | done | with_reducible rfl)
        simp only [Act.put, List.setIfInBounds_toArray, List.set_cons_zero, List.set_cons_succ]
        refine takeC 12 (v := ?_) rfl (by kernel_rfl) (by kernel_rfl) (by kernel_rfl) (by kernel_rfl) (fun _ _ _ h => h) hS1_h.out (by rfl) (fun W' hW' => ?_) ?_; rotate_left; · (have y0 := hW'.1; have y1 := hW'.2; clear hW'; go_simp; first | done | with_reducible rfl)
        simp only [Act.put, List.setIfInBounds_toArray, List.set_cons_zero, List.set_cons_succ]
        refine callZ 13 (f := ?f1) (args := ?args1) rfl (by kernel_rfl) (by rfl) ?hrun1 ?hcall1
        case hrun1 => (go_simp; first | done | with_reducible rfl | (constructor <;> with_reducible rfl))
        case hcall1 =>
          refine (hI_h.out _).mono ?_
          rintro e w' ⟨rfl, rfl⟩
          refine ⟨_, rfl, fun _ => hS1_h.out, ?_⟩
          simp only [Act.put, List.setIfInBounds_toArray, List.set_cons_zero, List.set_cons_succ]
          refine callZ 14 (f := ?f2) (args := ?args2) rfl (by kernel_rfl) (by rfl) ?hrun2 ?hcall2
          case hrun2 => (go_simp; first | done | with_reducible rfl | (constructor <;> with_reducible rfl))
          case hcall2 =>
            refine (hMu_h.out _).mono ?_
            rintro e w' ⟨rfl, rfl⟩
            refine ⟨_, rfl, fun _ => hS1_h.out, ?_⟩
            simp only [Act.put, List.setIfInBounds_toArray, List.set_cons_zero, List.set_cons_succ]
            refine callZ 15 (f := ?f3) (args := ?args3) rfl (by kernel_rfl) (by rfl) ?hrun3 ?hcall3
            case hrun3 => (go_simp; first | done | with_reducible rfl | (constructor <;> with_reducible rfl))
            case hcall3 =>
              refine (hMl_h.out _ hB1_h.out).mono ?_
              rintro e w7 ⟨rfl, hwr⟩
              refine ⟨_, rfl, fun h => (by cases h), ?_⟩
              simp only [Act.put, List.setIfInBounds_toArray, List.set_cons_zero, List.set_cons_succ]
              have hel : (eV p c pv l).length = c + 1 := by rw [eV_length]; exact hln_h.out
              have hi7 : IS w7 (some ar) cr (eV p c pv l) := by
                have h0 := (hir_h.out.below hB1_h.out)
                unfold IS at h0 ⊢
                rw [hel, ← hln_h.out]
                exact hwr.sl h0 (by rw [ints_length, hel, hln_h.out, Nat.mul_one])
              have hB5' := below_trans hbr_h.out hB1_h.out hbr_h.out.size
              have hbr7 := below_keeps hB5' hwr.1 hB5'.size (fun z hz => hfr_h.out z hz)
              have hip7 := (hip5_h.out.below hB1_h.out).keeps hwr.1 (fun z hz hz2 => by have := hip_h.out.lt z hz; have := hfr_h.out z hz2; omega)
              have kx7 := box_keeps (box_below kx5_h.out hB1_h.out) hwr.1 (fun hz => by have := hfr_h.out _ hz; have := box_lt kx_h.out; omega)
              clear hbr_h kx5_h hir_h hwr hB5'
              have hbr := hbr7
              have kx5 := kx7
              clear hbr7 kx7
              have hel_h := Lib.hid hel
              have hi7_h := Lib.hid hi7
              have hbr_h := Lib.hid hbr
              have kx5_h := Lib.hid kx5
              have hip7_h := Lib.hid hip7
              clear hel hi7 hbr kx5 hip7
              refine doneZ (by kernel_rfl) ?_
              obtain ⟨A2, hr2, hS2, hf2⟩ := take_sliced (n := c + 1) (k := c) hi7_h.out hel_h.out (Nat.le_succ _)
              obtain ⟨row, hrow⟩ : ∃ r, r = (eV p c pv l).take c := ⟨_, rfl⟩
              rw [← hrow] at hS2
              have hrl : row.length = c := by rw [hrow, List.length_take]; have := hel_h.out; omega
              have hless : lessTo p c L (k + 1) = lessTo p c L k ++ [row] := by
                rw [hrow]
                rw [lessTo, if_neg hkne, if_neg hkge, hgd_h.out, ← hpve_h.out]
              have hf4 : Fresh wo.heap.size A2 := fun z hz => hfr_h.out z (hf2 z hz)
              clear hf2
              have hr2_h := Lib.hid hr2
              have hS2_h := Lib.hid hS2
              have hrow_h := Lib.hid hrow
              have hrl_h := Lib.hid hrl
              have hless_h := Lib.hid hless
              have hf4_h := Lib.hid hf4
              clear hr2 hS2 hrow hrl hless hf4

              go_upto_region 12 with (fail)
              refine beginZw 8 (fun w' => w'.heap[bx]? = some (.cells #[.int .i64 a, .int .i64 (b - 1), .slice A1 q c1] tSysE)) (by kernel_rfl) (fun W1 hW1 => ?_)
              have hbd : Below w7.heap.size w7 W1 := by rw [hW1]; exact below_drewN (Below.refl _ _) 1
              clear hW1
              have hF := box_below kx5_h.out hbd
              have hF_h := Lib.hid hF
              have hbd_h := Lib.hid hbd
              clear hF hbd
              refine takeC 0 (v := ?_) rfl (by kernel_rfl) (by kernel_rfl) (by kernel_rfl) (by kernel_rfl) (fun _ _ _ h => h) hF_h.out (by rfl) (fun W' hW' => ?_) ?_; rotate_left; · (obtain ⟨⟨x0, x1, x2⟩, x3, x4, x5⟩ := box3 hW'; clear hW'; go_simp; first | done | with_reducible rfl)
              simp only [Act.put, List.setIfInBounds_toArray, List.set_cons_zero, List.set_cons_succ]
              refine takeC 1 (v := ?_) rfl (by kernel_rfl) (by kernel_rfl) (by kernel_rfl) (by kernel_rfl) (fun _ _ _ h => h) hF_h.out (by rfl) (fun W' hW' => ?_) ?_; rotate_left; · (obtain ⟨⟨x0, x1, x2⟩, x3, x4, x5⟩ := box3 hW'; clear hW'; go_simp; first | done | with_reducible rfl)
              simp only [Act.put, List.setIfInBounds_toArray, List.set_cons_zero, List.set_cons_succ]
              refine takeC 2 (v := ?_) rfl (by kernel_rfl) (by kernel_rfl) (by kernel_rfl) (by kernel_rfl) (fun _ _ _ h => h) hF_h.out (by rfl) (fun W' hW' => ?_) ?_; rotate_left; · (obtain ⟨⟨x0, x1, x2⟩, x3, x4, x5⟩ := box3 hW'; clear hW'; go_simp; first | done | with_reducible rfl)
              simp only [Act.put, List.setIfInBounds_toArray, List.set_cons_zero, List.set_cons_succ]
              refine takeC 3 (v := ?_) rfl (by kernel_rfl) (by kernel_rfl) (by kernel_rfl) (by kernel_rfl) (fun _ _ _ h => h) hF_h.out (by rfl) (fun W' hW' => ?_) ?_; rotate_left; · (obtain ⟨⟨x0, x1, x2⟩, x3, x4, x5⟩ := box3 hW'; clear hW'; go_simp; first | done | with_reducible rfl)
              simp only [Act.put, List.setIfInBounds_toArray, List.set_cons_zero, List.set_cons_succ]
              refine takeC 4 (v := .slice A2 c cr) rfl (by kernel_rfl) (by kernel_rfl) (by kernel_rfl) (by kernel_rfl) (fun _ _ _ h => h) hF_h.out (by rfl) (fun W' _ => xop_sliceW rfl (hr2_h.out W')) ?_
              simp only [Act.put, List.setIfInBounds_toArray, List.set_cons_zero, List.set_cons_succ]
              have hB5 := below_trans hbr_h.out hbd_h.out hbr_h.out.size
              obtain ⟨ys, hLy, hOy, hfy, h0y, h1y, h2y⟩ := hOM_h.out
              have hyl : ys.length = q := by have := congrArg List.length hLy; rw [List.length_map] at this; have := hq_h.out; omega
              have hsl : Sl (W1.alloc (.cells #[.slice A2 c cr] 33)) 33 1 A1 q c1 (ys.map Hd.val) := by
                have := (hOy.sl.below hB5).alloc (.cells #[.slice A2 c cr] 33)
                rwa [hyl] at this
              have hal : Below W1.heap.size W1 (W1.alloc (.cells #[.slice A2 c cr] 33)) := below_alloc _ _
              have hF6 := box_below hF_h.out hal
              have hi4 := hS2_h.out.below hbd_h.out
              have hPa := fun (Bp : Option Addr) (pc : Nat) (lp : List Int) (hp : IS w7 Bp pc lp) => (⟨(hp.below hbd_h.out).below hal, IS.ne_row hp (hOy.sl.below hbr_h.out)⟩ : IS (W1.alloc (.cells #[.slice A2 c cr] 33)) Bp pc lp ∧ ∀ x, x ∈ fpA Bp → x ∉ fpA A1)
              have hF6_h := Lib.hid hF6
              have hB5_h := Lib.hid hB5
              have hi4_h := Lib.hid hi4
              have hsl_h := Lib.hid hsl
              have hLy_h := Lib.hid hLy
              have hOy_h := Lib.hid hOy
              have hfy_h := Lib.hid hfy
              have h0y_h := Lib.hid h0y
              have hyl_h := Lib.hid hyl
              have hal_h := Lib.hid hal
              have hPa_h := Lib.hid hPa
              clear hF6 hB5 hi4 hsl hLy hOy hfy h0y hyl hal hPa
              refine oneZ 5 rfl (by kernel_rfl) (by rfl) (fun K hK => ?_)
              go_simp
              refine hK _ _ (fun _ => hF6_h.out) ?_
              clear hK K
              refine appZ 6 rfl (by kernel_rfl) (by rfl) _ _ _ rfl 33 Tryd.underlying22 info_ints rfl (by omega) rfl hsl_h.out rfl (news := [.slice A2 c cr]) rfl (Sl.rdc (Sl.laid W1 33 1 1 #[.slice A2 c cr] (by unfold maxLen; omega) rfl)) (by intro u hu; simp at hu; subst hu; rfl) (by unfold maxLen; omega) (by omega) ?_
              intro A6 c6 w6 hsA6 hA6 hkA6 hrdA6
              clear hrdA6
              have hO6 := OMx.snoc (l := row) (w1 := W1.alloc (.cells #[.slice A2 c cr] 33)) hLy_h.out hOy_h.out hfy_h.out h0y_h.out h1y h2y (below_trans hB5_h.out hal_h.out hB5_h.out.size) (hi4_h.out.below hal_h.out) hf4_h.out (by rw [hyl_h.out]) (by rw [hrl_h.out]; exact hsA6) hA6 hkA6
              have hF7 := box_keeps hF6_h.out hkA6 (fun h => (hfy_h.out _ (List.mem_append_left _ h)).2 rfl)
              have hPv := fun (Bp : Option Addr) (pc : Nat) (lp : List Int) (hp : IS w7 Bp pc lp) => (hPa_h.out Bp pc lp hp).1.keeps hkA6 (hPa_h.out Bp pc lp hp).2
              refine ⟨fun _ => hF7, ?_⟩
              obtain ⟨s1, s2⟩ := set_f2e (b := .slice A6 (q + 1) c6) hF7
              have hO7 := hO6.store s2
              obtain ⟨⟨x0, x1, x2⟩, x3, x4, x5⟩ := box3 hF7
              have hPv2 := fun (Bp : Option Addr) (pc : Nat) (lp : List Int) (hp : IS w7 Bp pc lp) => (hPv Bp pc lp hp).keeps s2 (fun x hx hx2 => IS.ne_sys (hPv Bp pc lp hp) hF7 x hx hx2)
              clear hsA6 hA6 hkA6 hO6 s2 hPv
              have hF7_h := Lib.hid hF7
              have hO7_h := Lib.hid hO7
              have s1_h := Lib.hid s1
              have hPv2_h := Lib.hid hPv2
              clear hF7 hO7 s1 hPv2
              simp only [Act.put, List.setIfInBounds_toArray, List.set_cons_zero, List.set_cons_succ]
              refine takeC 7 (v := ?_) rfl (by kernel_rfl) (by kernel_rfl) (by kernel_rfl) (by kernel_rfl) (fun _ _ _ h => h) hF7_h.out (by rfl) (fun W' hW' => ?_) ?_; rotate_left; · (skip; clear hW'; go_simp; first | done | with_reducible rfl)
              simp only [Act.put, List.setIfInBounds_toArray, List.set_cons_zero, List.set_cons_succ]
              refine oneZ 8 rfl (by kernel_rfl) (by rfl) (fun K hK => ?_)
              go_simp
              refine hK _ _ (fun h => by cases h) ?_
              clear hK K
              refine doneZ (by kernel_rfl) ?_
              go_wp2_with (fail)
              go_roundw
              case rel => exact ⟨k + 1, q + 1, A6, c6, by omega, by omega, by go_num, by rw [hless_h.out, List.length_append, hq_h.out]; rfl, s1_h.out, by rw [hless_h.out]; exact hO7_h.out, .inr ⟨by omega, some bp, pc, rfl, by rw [← hpve_h.out]; exact hPv2_h.out _ pc _ hip7_h.out⟩⟩
              case measure => simp [intOf]; omega

end Go.Proofs.YtahnhblodfdfhaaDoor
