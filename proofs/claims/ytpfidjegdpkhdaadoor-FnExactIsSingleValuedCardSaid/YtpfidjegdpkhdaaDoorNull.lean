/-
  THE WALKS: spec.spLead, spec.fdNeg, spec.spNull.
-/
import Derived.Test.YtpfidjegdpkhdaaDoorSpRed
import Derived.Test.YtpfidjegdpkhdaaDoorNullM
namespace Go.Proofs.YtpfidjegdpkhdaaDoor
open Go.RowKit

set_option maxHeartbeats 400000 in
theorem spLead_any (A : Option Addr) (c n : Nat) (l : List Int) (w : World) (h : RdI w A l) (hn : l.length = n) (hl : n ≤ 17592186044416) :
    Calls Tryd.prog 86 #[.slice A n c] w fun e w' => e = .returned (.int .i64 (leadV l : Nat)) ∧ w = w' := by
  have HN := Lib.hid hn
  clear hn
  go_enter Tryd.func86, Tryd.ntmps86
  go_wp2_with (fail)
  go_loop [3] (fun v => ∃ k : Nat, k ≤ n ∧ v = .int .i64 k ∧ (l.take k).all (· == 0) = true) (fun v => n - (intOf v).toNat)
  case atStart => exact ⟨0, Nat.zero_le _, rfl, by simp⟩
  case round =>
    obtain ⟨k, hk, rfl, hz⟩ := hrel
    have HZ := Lib.hid hz
    clear hz
    by_cases hlt : k < n
    · obtain ⟨ad, x, rfl, hx, hc⟩ := h.at_ (j := k) (by rw [HN.out]; exact hlt)
      have HX := Lib.hid hx
      have hkI : (k : Int) < (n : Int) := by omega
      clear hx h
      by_cases hx0 : x = 0
      · subst hx0
        have hs := leadV_step HX.out rfl HZ.out
        have HS := Lib.hid hs
        clear hs
        go_wp2_with (fail)
        go_round
        case rel => exact ⟨k + 1, by omega, by go_num, HS.out⟩
        case measure => simp [intOf]; omega
      · have hx1 : (x == 0) = false := by rw [beq_eq_false_iff_ne]; exact hx0
        have he := leadV_at (l := l) (k := k) (by rw [HN.out]; omega) HZ.out (fun _ => by rw [getD_of_some HX.out]; exact hx0)
        have HE := Lib.hid he
        clear he hx0
        go_wp2_with (fail)
        go_ret
        exact ⟨ret_int (by rw [HE.out]), rfl⟩
    · obtain rfl : n = k := by omega
      have he := leadV_at (l := l) (k := n) (by rw [HN.out]; omega) HZ.out (fun h => absurd h (by rw [HN.out]; omega))
      have HE := Lib.hid he
      clear he h
      go_wp2_with (fail)
      go_ret
      exact ⟨ret_int (by rw [HE.out]), rfl⟩

set_option maxHeartbeats 400000 in
theorem fdNeg_any (p a : Int) (w : World) (h0 : 0 < p) (h97 : p ≤ 97) (ha : 0 ≤ a) (ha' : a < p) :
    Calls Tryd.prog 80 #[.int .i64 p, .int .i64 a] w fun e w' => e = .returned (.int .i64 (-a % p)) ∧ w = w' := by
  have hz : (p == 0) = false := by rw [beq_eq_false_iff_ne]; omega
  have he : (p - a) % p = -a % p := by rw [show p - a = -a + p by omega, Int.add_emod_right]
  have HE := Lib.hid he
  clear he
  go_enter Tryd.func80, Tryd.ntmps80
  go_wp2_with (fail)
  go_ret
  exact ⟨ret_int HE.out, rfl⟩

theorem RetSS.mono {w0 w w' : World} {L : List (List Int)} {e : Ending} (h : RetSS w L e w') (hb : Below w0.heap.size w0 w) : RetSS w0 L e w' := by
  obtain ⟨A, cap, hs, rfl, hL, hO, hf, h0⟩ := h
  exact ⟨A, cap, hs, rfl, hL, hO, fun b hb' => Nat.le_trans hb.size (hf b hb'), below_trans hb h0 hb.size⟩

theorem made_is {w : World} {G : Addr} {n : Nat} (h : Sl w tInt 1 (some G) n n ((madeCells (Value.int .i64 0).cells (n * 1)).toList.take (n * 1))) : IS w (some G) n (List.replicate n 0) := by
  unfold IS; rw [← madeZeros]; simpa using h
theorem is_cell {w : World} {G : Addr} {c : Nat} {l : List Int} (h : IS w (some G) c l) {j : Nat} (hj : j < l.length) : ∃ y, w.cell? (G.add j) = some (.int .i64 y) ∧ w.frozen? (G.add j) = false := by
  obtain ⟨ad, y, hA, _, _, hc, hf⟩ := h.at_ hj
  obtain rfl := Option.some.inj hA
  exact ⟨y, hc, hf j⟩

set_option maxRecDepth 100000 in
set_option maxHeartbeats 4000000 in
theorem spNull_any (p : Int) (n : Nat) (A : Option Addr) (c : Nat) (hs : List Hd) (w : World) (h : RdR w A hs) (hp : fieldB p = true) (hm : Mat p hs.length n (hs.map fun h : Hd => h.2.2)) (hl : hs.length ≤ 1048576) (hn : n ≤ 1048576) :
    Calls Tryd.prog 83 #[.int .i64 p, .int .i64 n, .slice A hs.length c] w (RetSS w (nullM p n (hs.map fun h : Hd => h.2.2))) := by
  have hC := spReduce_any p n A c hs w h hp hm hl hn
  obtain ⟨hred, _, hRl⟩ := redM_spec hp (L := hs.map fun h : Hd => h.2.2) (by rw [List.length_map]; exact hm)
  rw [List.length_map] at hRl
  obtain ⟨R, hR⟩ : ∃ R, R = redM p n (hs.map fun h : Hd => h.2.2) := ⟨_, rfl⟩
  have hres : nullM p n (hs.map fun h : Hd => h.2.2) = redM p n (nvecs p n R) := by rw [hR]; rfl
  rw [← hR] at hC hred hRl
  rw [hres]
  have hpb := fieldB_bounds hp
  obtain ⟨r, hr⟩ : ∃ r, r = R.length := ⟨_, rfl⟩
  rw [← hr] at hRl
  have hRm : Mat p r n R := by rw [hr]; exact hred.1
  have HC := Lib.hid hC
  have HRED := Lib.hid hred
  have HR := Lib.hid hr
  have HRM := Lib.hid hRm
  have HP := Lib.hid hp
  clear hC hred hR hres hr hRm hm h hp
  go_enter Tryd.func83, Tryd.ntmps83
  go_wp2_with (fail)
  refine HC.out.mono ?_
  rintro e w1 hret
  obtain ⟨A1, c1, rfl, hO1⟩ := hret.om
  rw [← HR.out]
  clear hret
  obtain ⟨gs, hLg, hRd⟩ := hO1.rdr
  have hgl : gs.length = r := by rw [HR.out, hLg, List.length_map]
  have hb01 := hO1.below_
  have HLG := Lib.hid hLg
  have HGL := Lib.hid hgl
  clear hLg hgl hO1
  go_wp2_with (at_make; refine wpList_make_Sl _ rfl _ _ _ rfl 3 Tryd.underlying37 info_int n n rfl rfl rfl rfl (Nat.le_refl _) (by omega) (by unfold maxLen; omega) ?_; intro G w2 hs2 hG hb2)
  have his0 : IS w2 (some G) n (List.replicate n 0) := by unfold IS; rw [← madeZeros]; simpa using hs2
  clear hs2
  go_loopw [25] (fun i wr => ∃ k : Nat, k ≤ n ∧ i = .int .i64 k ∧ IS wr (some G) n ((List.replicate n (-1 : Int)).take k ++ (List.replicate n (0 : Int)).drop k) ∧ Below w1.heap.size w1 wr) (fun i _ => n - (intOf i).toNat)
  case atStart => exact ⟨0, Nat.zero_le _, rfl, by simpa using his0, hb2⟩
  case round =>
    clear his0
    obtain ⟨k, hk, rfl, his, hb⟩ := hrel
    have hlen : ((List.replicate n (-1 : Int)).take k ++ (List.replicate n (0 : Int)).drop k).length = n := by simp; omega
    by_cases hlt : k < n
    · obtain ⟨ad', y, hA', hy, hlt', hc', hf'⟩ := his.at_ (j := k) (by rw [hlen]; exact hlt)
      obtain rfl := Option.some.inj hA'
      have hf := hf' k
      have his' := his.set (ad := G) rfl (j := k) (-1) (by rw [hlen]; exact hlt)
      rw [take_append_step (by simp) (show (List.replicate n (-1 : Int))[k]? = some (-1) by simp [hlt])] at his'
      have HI := Lib.hid his'
      have hb' := Lib.hid (hb.setCell (p := G.add k) (by rw [block_of_add]; exact hG) (.int .i64 (-1)))
      have hkI : (k : Int) < (n : Int) := by omega
      clear his' hf' hA' his hy hlen
      go_wp2_with (fail)
      go_roundw
      case rel => exact ⟨k + 1, by omega, by go_num, HI.out, hb'.out⟩
      case measure => simp [intOf]; omega
    · obtain rfl : n = k := by omega
      have his1 : IS wr (some G) n (leadTo R n 0) := by
        have := his
        rwa [List.take_of_length_le (by simp), List.drop_of_length_le (by simp), List.append_nil] at this
      clear his hlen
      go_wp2_with (fail)
      go_loopw [34] (fun i wr => ∃ k : Nat, k ≤ r ∧ i = .int .i64 k ∧ IS wr (some G) n (leadTo R n k) ∧ Below w1.heap.size w1 wr) (fun i _ => r - (intOf i).toNat)
      case atStart => exact ⟨0, Nat.zero_le _, rfl, his1, hb⟩
      case round =>
        clear his1 hb
        obtain ⟨k, hk, rfl, his, hb⟩ := hrel
        by_cases hlt : k < r
        · obtain ⟨ad, B, d, l, rfl, hx, hc, hri⟩ := (hRd.below hb).at_ (k := k) (by rw [HGL.out]; exact hlt)
          have hlR : R.getD k [] = l := by rw [HLG.out]; exact getD_map_hd hx
          have hll : l.length = n := by rw [← hlR]; exact (HRM.out.get hlt).1
          have hld : leadV l < n := by rw [← hlR]; exact lead_lt HRED.out (by rw [← HR.out]; exact hlt)
          rw [hll] at hc
          obtain ⟨ad', y, hA', hy, hlt', hc', hf'⟩ := his.at_ (j := leadV l) (by rw [leadTo_length]; exact hld)
          obtain rfl := Option.some.inj hA'
          have hf := hf' (leadV l)
          have his' := his.set (ad := G) rfl (j := leadV l) ((k : Nat) : Int) (by rw [leadTo_length]; exact hld)
          have hst : (leadTo R n k).set (leadV l) ((k : Nat) : Int) = leadTo R n (k + 1) := by rw [leadTo, hlR]
          rw [hst] at his'
          have hC := spLead_any B d n l wr hri hll (by omega)
          obtain ⟨ld, hldd⟩ : ∃ ld, ld = leadV l := ⟨_, rfl⟩
          rw [← hldd] at hld hc' hf his' hC
          have HCC := Lib.hid hC
          have HI := Lib.hid his'
          have hb' := Lib.hid (hb.setCell (p := G.add ld) (by rw [block_of_add]; exact hG) (.int .i64 ((k : Nat) : Int)))
          have hkI : (k : Int) < (r : Int) := by omega
          have hldI : (ld : Int) < (n : Int) := by omega
          clear his' hst hf' hA' his hy hldd hC hx hlR hll hri hb
          go_wp2_with (fail)
          refine HCC.out.mono ?_
          rintro e w' ⟨rfl, rfl⟩
          go_wp2_with (fail)
          go_roundw
          case rel => exact ⟨k + 1, by omega, by go_num, HI.out, hb'.out⟩
          case measure => simp [intOf]; omega
        · obtain rfl : r = k := by omega
          have hRd3 := hRd.below hb
          have hbw3 := below_trans hb01 hb hb01.size
          obtain ⟨w3, hw3⟩ : ∃ w3, w3 = wr := ⟨_, rfl⟩
          rw [← hw3] at his hRd3 hbw3
          have hO3 : OM w3 wr none 0 [] := by rw [hw3]; exact OM.nil wr
          clear hRd hb hw3
          go_wp2_with (fail)
          go_loopw [13, 12] (fun jv ov wr => ∃ (j : Nat) (Ao : Option Addr) (co : Nat), j ≤ n ∧ jv = .int .i64 j ∧ ov = .slice Ao (nvTo p n R j).length co ∧ OM w3 wr Ao co (nvTo p n R j)) (fun jv _ _ => n - (intOf jv).toNat)
          case atStart => exact ⟨0, none, 0, Nat.zero_le _, rfl, rfl, hO3⟩
          case round =>
            clear hO3
            obtain ⟨j, Ao, co, hj, rfl, rfl, hO⟩ := hrel
            by_cases hjn : j < n
            case neg =>
              obtain rfl : n = j := by omega
              obtain ⟨os, hLo, hRo⟩ := hO.rdr
              have hmo := nvTo_mat (p := p) (by omega) n R n
              have hlo := nvTo_length p n R n
              have hol : os.length = (nvTo p n R n).length := by rw [hLo, List.length_map]
              rw [hLo] at hmo
              rw [List.length_map] at hmo
              have hS := spReduce_any p n Ao co os wr hRo HP.out hmo (by omega) (by omega)
              rw [← hLo, hol, nvTo_end] at hS
              have HS := Lib.hid hS
              have hbww := Lib.hid (below_trans hbw3 hO.below_ hbw3.size)
              rw [nvTo_end]
              clear hS hLo hol hmo hlo hRo hO hRd3 his
              go_wp2_with (fail)
              refine HS.out.mono ?_
              rintro e w' hret
              have HRT := Lib.hid (hret.mono hbww.out)
              obtain ⟨A9, c9, rfl, _⟩ := hret.om
              clear hret
              go_wp2_with (fail)
              go_ret
              exact HRT.out
            case pos =>
              have hisj := his.below hO.below_
              obtain ⟨ad', y, hA', hy, _, hc', _⟩ := hisj.at_ (j := j) (by rw [leadTo_length]; exact hjn)
              obtain rfl := Option.some.inj hA'
              have hyd : (leadTo R n r).getD j 0 = y := by simp [List.getD, hy]
              have hfree := freeB_lead (R := R) hjn
              rw [← HR.out, hyd] at hfree
              have hjI : (j : Int) < (n : Int) := by omega
              have hsucc := nvTo_succ p n R j
              by_cases hy0 : 0 ≤ y
              · have hfb : freeB R j = false := by
                  rw [Bool.eq_false_iff]; intro hh; exact hfree.1 hh hy0
                rw [hfb] at hsucc
                have hs2 : nvTo p n R (j + 1) = nvTo p n R j := by rw [hsucc]; simp
                have HS2 := Lib.hid hs2
                have HO := Lib.hid hO
                clear hs2 hsucc hfb hfree hyd hy hisj hO hRd3 his hA'
                go_wp2_with (fail)
                go_roundw
                case rel => exact ⟨j + 1, Ao, co, by omega, by go_num, by rw [HS2.out], by rw [HS2.out]; exact HO.out⟩
                case measure => simp [intOf]; omega
              · have hfb : freeB R j = true := hfree.2 hy0
                rw [hfb] at hsucc
                have hs2 : nvTo p n R (j + 1) = nvTo p n R j ++ [nvL p n R j r] := by rw [hsucc, HR.out]; rfl
                have HS2 := Lib.hid hs2
                have hRdj := hRd3.below hO.below_
                have hlo := nvTo_length p n R j
                obtain ⟨m0, hm0⟩ : ∃ m0, m0 = (nvTo p n R j).length := ⟨_, rfl⟩
                rw [← hm0] at hlo
                rw [← hm0]
                obtain ⟨os, hLo, hOo, hfo, h0o⟩ := hO
                have hol : os.length = m0 := by rw [hm0, hLo, List.length_map]
                obtain ⟨wr0, hwr0⟩ : ∃ wr0, wr0 = wr := ⟨_, rfl⟩
                rw [← hwr0] at hOo h0o hRdj hc'
                have HLO := Lib.hid hLo
                have HOL := Lib.hid hol
                have HM0 := Lib.hid hm0
                have HWR := Lib.hid hwr0
                rw [hwr0] at hc'
                clear hs2 hsucc hfb hfree hyd hy hisj his hA' hLo hol hm0 hRd3
                go_wp2_with (at_make; refine wpList_make_Sl _ rfl _ _ _ rfl 3 Tryd.underlying37 info_int n n rfl rfl rfl rfl (Nat.le_refl _) (by omega) (by unfold maxLen; omega) ?_; intro Gv w4 hs4 hGv hb4; have hisv := made_is hs4; obtain ⟨yv, hcv, hfv⟩ := is_cell hisv (j := j) (by rw [List.length_replicate]; exact hjn); have HISV := Lib.hid hisv; clear hs4 hisv)
                rw [← hwr0] at hGv hb4
                have hisv1 := HISV.out.set (ad := Gv) rfl (j := j) 1 (by simp; exact hjn)
                have hb5 := hb4.setCell (p := Gv.add j) (by rw [block_of_add]; exact hGv) (.int .i64 1)
                have HV1 := Lib.hid (show IS (w4.setCell (Gv.add j) (.int .i64 1)) (some Gv) n (nvL p n R j 0) from hisv1)
                have HB5 := Lib.hid hb5
                clear hisv1 hb5 hwr0 hc' hcv hfv
                go_loopw [62] (fun iv wr5 => ∃ i : Nat, i ≤ r ∧ iv = .int .i64 i ∧ IS wr5 (some Gv) n (nvL p n R j i) ∧ Below wr0.heap.size wr0 wr5) (fun iv _ => r - (intOf iv).toNat)
                case atStart => exact ⟨0, Nat.zero_le _, rfl, HV1.out, HB5.out⟩
                case round =>
                  obtain ⟨i, hi, rfl, hiv, hbi⟩ := hrel
                  by_cases hir : i < r
                  · obtain ⟨ad, B, d, l, rfl, hx, hc, hri⟩ := (hRdj.below hbi).at_ (k := i) (by rw [HGL.out]; exact hir)
                    have hlR : R.getD i [] = l := by rw [HLG.out]; exact getD_map_hd hx
                    have hll : l.length = n := by rw [← hlR]; exact (HRM.out.get hir).1
                    have hld : leadV l < n := by rw [← hlR]; exact lead_lt HRED.out (by rw [← HR.out]; exact hir)
                    rw [hll] at hc
                    obtain ⟨bd, x, hB, hxx, hcx⟩ := hri.at_ (j := j) (by rw [hll]; exact hjn)
                    have hxe : x = en R i j := by unfold en; rw [hlR]; simp [List.getD, hxx]
                    have hxb := HRM.out.en (by omega) hir j
                    rw [← hxe] at hxb
                    obtain ⟨adv, yv, hAv, hyv, _, hcv, hfv'⟩ := hiv.at_ (j := leadV l) (by rw [nvL_length]; exact hld)
                    obtain rfl := Option.some.inj hAv
                    have hfv := hfv' (leadV l)
                    have hisv' := hiv.set (ad := Gv) rfl (j := leadV l) (-x % p) (by rw [nvL_length]; exact hld)
                    have hst : (nvL p n R j i).set (leadV l) (-x % p) = nvL p n R j (i + 1) := by rw [nvL, hlR, hxe]
                    rw [hst] at hisv'
                    have hC1 := spLead_any B d n l wr.drew hri hll (by omega)
                    obtain ⟨ld, hldd⟩ : ∃ ld, ld = leadV l := ⟨_, rfl⟩
                    rw [← hldd] at hld hcv hfv hisv' hC1
                    have C1 := Lib.hid (stillC2 hC1)
                    have C2 := Lib.hid (stillC2 (fdNeg_any p x wr.drew (by omega) (by omega) hxb.1 hxb.2))
                    have HI := Lib.hid hisv'.drew
                    have hb' := Lib.hid (below_drewN (hbi.setCell (p := Gv.add ld) (by rw [block_of_add]; exact hGv) (.int .i64 (-x % p))) 1)
                    have hiI : (i : Int) < (r : Int) := by omega
                    have hldI : (ld : Int) < (n : Int) := by omega
                    subst hB
                    clear hisv' hst hfv' hAv hiv hyv hldd hC1 hx hlR hll hri hxx hxe hbi
                    go_wp2_with (fail)
                    refine wp_region_still_tail 12 (by kernel_rfl) (by kernel_rfl) ?_
                    simp only [List.take_succ_cons, List.take_zero, List.drop_succ_cons, List.drop_zero]
                    change wpStill _ _ wr.drew (fun a' => wpList _ _ _ _ a' wr.drew) _ _
                    repeat still_step
                    still_call C1.out
                    repeat still_step
                    still_call C2.out
                    repeat still_step
                    refine wpStill_nil ?_
                    go_wp2_with (fail)
                    go_roundw
                    case rel => exact ⟨i + 1, by omega, by go_num, HI.out, hb'.out⟩
                    case measure => simp [intOf]; omega
                  · obtain rfl : r = i := by omega
                    have hsl : Sl (wr.alloc (.cells #[.slice (some Gv) n n] 37)) 37 1 Ao m0 co (os.map Hd.val) := by
                      have := (hOo.sl.below hbi).alloc (.cells #[.slice (some Gv) n n] 37)
                      rwa [HOL.out] at this
                    go_wp2_with (at_builtin; refine wpList_append_Sl _ rfl _ _ _ rfl 37 Tryd.underlying22 info_ints rfl (by omega) rfl hsl rfl (news := [.slice (some Gv) n n]) rfl (Sl.rdc (Sl.laid wr 37 1 1 #[.slice (some Gv) n n] (by unfold maxLen; omega) rfl)) (by intro u hu; simp at hu; subst hu; rfl) (by unfold maxLen; omega) (by omega) ?_; intro A6 c6 w6 hs6 hA6 hk6)
                    have hal : Below wr.heap.size wr (wr.alloc (.cells #[.slice (some Gv) n n] 37)) := (Below.refl _ _).alloc (Nat.le_refl _) _
                    have hOM2 := OM.snoc (w1 := wr.alloc (.cells #[.slice (some Gv) n n] 37)) (l := nvL p n R j r) (B := some Gv) (c := n) HLO.out hOo hfo h0o (below_trans hbi hal hbi.size) (hiv.below hal) (fun b hb => by simp at hb; subst hb; exact hGv) (by rw [HOL.out]) (by rw [nvL_length]; exact hs6) hA6 hk6
                    have HO := Lib.hid hOM2
                    have hlen2 : (nvTo p n R (j + 1)).length = m0 + 1 := by rw [HS2.out, List.length_append, ← HM0.out]; rfl
                    have HL2 := Lib.hid hlen2
                    clear hOM2 hs6 hsl hOo hfo hiv hlen2
                    go_wp2_with (fail)
                    go_roundw
                    case rel => exact ⟨j + 1, A6, c6, by omega, by go_num, by rw [HL2.out], by rw [HS2.out]; exact HO.out⟩
                    case measure => simp [intOf]; omega
end Go.Proofs.YtpfidjegdpkhdaaDoor
