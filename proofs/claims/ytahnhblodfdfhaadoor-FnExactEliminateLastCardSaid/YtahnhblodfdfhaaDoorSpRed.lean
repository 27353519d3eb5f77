/-
  THE WALK: the reduction on the reference's side (spec.spReduce).
-/
import Derived.Test.YtahnhblodfdfhaaDoorOM
import Derived.Test.YtahnhblodfdfhaaDoorRedM
import Derived.StillTailTactics
import Derived.IntWalk
namespace Go.Proofs.YtahnhblodfdfhaaDoor
open Go.RowKit

theorem stillC2 {P : Program} {f : FuncId} {args : Array Value} {w : World} {v : Value} (h : Calls P f args w fun e w' => e = .returned v ∧ w = w') : Calls P f args w fun e w'' => e = .returned v ∧ w'' = w :=
  h.mono fun _ _ ⟨h1, h2⟩ => ⟨h1, h2.symm⟩
theorem pvFrom_eq {L : List (List Int)} {c m k : Nat} (hk : k < m) (h : en L k c = 0) : pvFrom L c (m - k) k = pvFrom L c (m - (k + 1)) (k + 1) := by
  obtain ⟨f, hf⟩ : ∃ f, m - k = f + 1 := ⟨m - k - 1, by omega⟩
  rw [hf, pvFrom, if_pos h, show f = m - (k + 1) by omega]
theorem pvFrom_hit {L : List (List Int)} {c m k : Nat} (hk : k < m) (h : en L k c ≠ 0) : pvFrom L c (m - k) k = k := by
  obtain ⟨f, hf⟩ : ∃ f, m - k = f + 1 := ⟨m - k - 1, by omega⟩
  rw [hf, pvFrom, if_neg h]
theorem pvFrom_end {L : List (List Int)} {c m : Nat} : pvFrom L c (m - m) m = m := by rw [Nat.sub_self]; rfl

set_option maxRecDepth 100000 in
set_option maxHeartbeats 4000000 in
theorem spReduce_any (p : Int) (n : Nat) (A : Option Addr) (c : Nat) (hs : List Hd) (w : World) (h : RdR w A hs) (hp : fieldB p = true) (hm : Mat p hs.length n (hs.map fun h : Hd => h.2.2)) (hl : hs.length ≤ 1048576) (hn : n ≤ 1048576) :
    Calls Tryd.prog 113 #[.int .i64 p, .int .i64 n, .slice A hs.length c] w (RetSS w (redM p n (hs.map fun h : Hd => h.2.2))) := by
  obtain ⟨L, hLh⟩ : ∃ L, L = hs.map fun h : Hd => h.2.2 := ⟨_, rfl⟩
  rw [← hLh] at hm ⊢
  obtain ⟨m, hmm⟩ : ∃ m, m = hs.length := ⟨_, rfl⟩
  rw [← hmm] at hm hl ⊢
  have HLh := Lib.hid hLh
  have HM := Lib.hid hmm
  have HMat := Lib.hid hm
  have hpb := fieldB_bounds hp
  have HP := Lib.hid hp
  have hLen := Lib.hid hm.len
  clear hLh hmm hm hp
  go_enter Tryd.func113, Tryd.ntmps113
  go_wp2_with (fail)
  go_loopw [21, 7] (fun i v wr => ∃ (k : Nat) (A' : Option Addr) (c' : Nat), k ≤ m ∧ i = .int .i64 k ∧ v = .slice A' k c' ∧ OM w wr A' c' (L.take k)) (fun i _ _ => m - (intOf i).toNat)
  case atStart => exact ⟨0, none, 0, Nat.zero_le _, rfl, rfl, by simpa using OM.nil w⟩
  case round =>
    obtain ⟨k, A', c', hk, rfl, rfl, hOM⟩ := hrel
    by_cases hlt : k < m
    · obtain ⟨ad, B, d, l, rfl, hx, hc, hri⟩ := (h.below hOM.below_).at_ (k := k) (by rw [← HM.out]; exact hlt)
      have hlx : L[k]? = some l := by rw [HLh.out, List.getElem?_map, hx]; rfl
      have hln : l.length = n := (HMat.out.row l (List.mem_of_getElem? hlx)).1
      have hll : l.length ≤ 1048576 := by omega
      obtain ⟨gs, hLg, hO, hf, h0⟩ := hOM
      have hgl : gs.length = k := by
        have := congrArg List.length hLg
        rw [List.length_take, hLen.out, List.length_map] at this
        omega
      have HX := Lib.hid hlx
      have HG := Lib.hid hLg
      have HGL := Lib.hid hgl
      have HLN := Lib.hid hln
      have hkI : (k : Int) < (m : Int) := by omega
      have hC := l1Own_any B d l wr hri (by omega)
      have HC := Lib.hid hC
      clear hx hlx hLg hgl hln hC h
      go_wp2_with (fail)
      refine HC.out.mono ?_
      rintro e w1 ⟨B1, c1, rfl, hi1, hf1, hb1⟩
      have hsl : Sl (w1.alloc (.cells #[.slice B1 l.length c1] 33)) 33 1 A' k c' (gs.map Hd.val) := by
        have := (hO.sl.below hb1).alloc (.cells #[.slice B1 l.length c1] 33)
        rwa [HGL.out] at this
      go_wp2_with (at_builtin; refine wpList_append_Sl _ rfl _ _ _ rfl 33 Tryd.underlying22 info_ints rfl (by omega) rfl hsl rfl (news := [.slice B1 l.length c1]) rfl (Sl.rdc (Sl.laid w1 33 1 1 #[.slice B1 l.length c1] (by unfold maxLen; omega) rfl)) (by intro u hu; simp at hu; subst hu; rfl) (by unfold maxLen; omega) (by omega) ?_; intro A2 c2 w2 hs2 hA2 hk2)
      have hal : Below w1.heap.size w1 (w1.alloc (.cells #[.slice B1 l.length c1] 33)) := (Below.refl _ _).alloc (Nat.le_refl _) _
      have hOM2 := OM.snoc (w1 := w1.alloc (.cells #[.slice B1 l.length c1] 33)) HG.out hO hf h0 (below_trans hb1 hal hb1.size) (hi1.below hal) hf1 (by rw [HGL.out]) hs2 hA2 hk2
      have HO := Lib.hid hOM2
      clear hOM2 hs2 hsl hO hf
      go_roundw
      case rel => exact ⟨k + 1, A2, c2, by omega, by go_num, rfl, by rw [List.take_add_one, HX.out]; exact HO.out⟩
      case measure => simp [intOf]; omega
    · obtain rfl : k = m := by omega
      have hOM' : OM w wr A' c' L := by have := hOM; rwa [List.take_of_length_le (by rw [hLen.out]; omega)] at this
      clear hOM h
      go_wp2_with (fail)
      go_loopw [11, 10] (fun ci ri wr => ∃ (col R : Nat) (M : List (List Int)), col ≤ n ∧ ci = .int .i64 col ∧ ri = .int .i64 R ∧ (redTo p L [] col).1 = R ∧ (redTo p L [] col).2.1 = M ∧ OM w wr A' c' M) (fun ci _ _ => n - (intOf ci).toNat)
      case atStart => exact ⟨0, 0, L, Nat.zero_le _, rfl, rfl, rfl, rfl, hOM'⟩
      case round =>
        clear hOM'
        obtain ⟨col, R, M, hcol, rfl, rfl, hR, hMd, hOM⟩ := hrel
        obtain ⟨hMm, hRm⟩ := redTo_mat HP.out HMat.out [] hcol
        rw [hMd] at hMm
        rw [hR] at hRm
        have HR := Lib.hid hR
        have HMd := Lib.hid hMd
        have HMm := Lib.hid hMm
        have HMl := Lib.hid hMm.len
        clear hR hMd hMm
        by_cases hgo : col < n ∧ R < k
        case neg =>
          -- the end
          have hend : redM p n L = M.take R := by
            unfold redM
            by_cases hc : col < n
            · have hRk : R = k := by omega
              have hs := redTo_stable (p := p) (L := L) (A := []) (c := col) (by rw [HR.out, HMd.out, HMl.out]; omega) (n - col)
              rw [show col + (n - col) = n by omega] at hs
              rw [hs, HR.out, HMd.out]
            · obtain rfl : col = n := by omega
              rw [HR.out, HMd.out]
          have HE := Lib.hid hend
          obtain ⟨gs, hLg, hO, hf, h0⟩ := hOM
          have hgl : gs.length = k := by
            have := congrArg List.length hLg
            rw [HMl.out, List.length_map] at this; omega
          have HG := Lib.hid hLg
          have HGL := Lib.hid hgl
          have hsl : Sl wr 33 1 A' k c' (gs.map Hd.val) := by have := hO.sl; rwa [hgl] at this
          have hRI : (R : Int) ≤ (k : Int) := by omega
          clear hLg hgl hend
          by_cases hc : col < n
          · have hRk : ¬ ((R : Int) < (k : Int)) := by omega
            go_wp2_with (refine wpList_slice_Sl rfl (.tmp 174) none (some (.tmp 175)) none 22 rfl 33 Tryd.underlying22 info_ints rfl hsl 0 R c' (optNone rfl) (optSome (by omega)) (optNone rfl) (by omega) (by omega) (by have := hsl.2.1; omega) (Nat.le_refl _) ?_; intro A2 hcut hfp _)
            go_ret
            have hT := OM.take (k := R) (m := c') (A' := A2) HG.out hO hf h0 (by rw [HGL.out]; omega) (by rw [List.map_take]; simpa using hcut) hfp
            have hlen : (M.take R).length = R := by rw [List.length_take, HMl.out]; omega
            have hr := hT.ret
            rw [hlen] at hr
            rw [HE.out]
            exact hr
          · have hcI : ¬ ((col : Int) < (n : Int)) := by omega
            go_wp2_with (refine wpList_slice_Sl rfl (.tmp 174) none (some (.tmp 175)) none 22 rfl 33 Tryd.underlying22 info_ints rfl hsl 0 R c' (optNone rfl) (optSome (by omega)) (optNone rfl) (by omega) (by omega) (by have := hsl.2.1; omega) (Nat.le_refl _) ?_; intro A2 hcut hfp _)
            go_ret
            have hT := OM.take (k := R) (m := c') (A' := A2) HG.out hO hf h0 (by rw [HGL.out]; omega) (by rw [List.map_take]; simpa using hcut) hfp
            have hlen : (M.take R).length = R := by rw [List.length_take, HMl.out]; omega
            have hr := hT.ret
            rw [hlen] at hr
            rw [HE.out]
            exact hr
        case pos =>
          obtain ⟨hcn, hRk⟩ := hgo
          have hcI : (col : Int) < (n : Int) := by omega
          have hRI : (R : Int) < (k : Int) := by omega
          go_wp2_with (fail)
          go_loop [12] (fun v => ∃ q : Nat, R ≤ q ∧ q ≤ k ∧ v = .int .i64 q ∧ pvFrom M col (k - q) q = pvFrom M col (k - R) R) (fun v => k - (intOf v).toNat)
          case atStart => exact ⟨R, Nat.le_refl _, by omega, rfl, rfl⟩
          case round =>
            obtain ⟨q, hRq, hqk, rfl, hpv⟩ := hrel
            have HPV := Lib.hid hpv
            clear hpv
            by_cases hlt : q < k
            · obtain ⟨ad, B, d, hA', hcq, hfq, hIq⟩ := hOM.get (i := q) (by rw [HMl.out]; exact hlt)
              have hrl := (HMm.out.get hlt).1
              obtain ⟨bd, x, hB, hx, _, hcx, _⟩ := hIq.at_ (j := col) (by rw [hrl]; exact hcn)
              have hxe : x = en M q col := by unfold en; simp [List.getD] at hx ⊢; rw [hx]; rfl
              have hxb := HMm.out.en (by omega) hlt col
              rw [← hxe] at hxb
              rw [hrl] at hcq
              have HXE := Lib.hid hxe
              have HA' := Lib.hid hA'
              have hqI : (q : Int) < (k : Int) := by omega
              subst hA'
              subst hB
              by_cases hx0 : x = 0
              · subst hx0
                have hpn := pvFrom_eq hlt HXE.out.symm
                have HPN := Lib.hid hpn
                clear hpn hxe hIq hOM hrl hx hfq
                go_wp2_with (fail)
                go_round
                case rel => exact ⟨q + 1, by omega, by omega, by go_num, by rw [← HPN.out]; exact HPV.out⟩
                case measure => simp [intOf]; omega
              · have hx1 : (x == 0) = false := by rw [beq_eq_false_iff_ne]; exact hx0
                have hpn : pvFrom M col (k - R) R = q := by rw [← HPV.out]; exact pvFrom_hit hlt (by rw [← HXE.out]; exact hx0)
                have HPN := Lib.hid hpn
                obtain ⟨ad2, BR, cR, hA2, hcR, hfR, _⟩ := hOM.get (i := R) (by rw [HMl.out]; omega)
                obtain rfl := Option.some.inj hA2
                rw [(HMm.out.get (show R < k by omega)).1] at hcR
                have hOS := hOM.swap (r := R) (k := q) (by rw [HMl.out]; omega) (by rw [HMl.out]; omega) rfl hcq hcR
                have hSm := HMm.out.swap (r := R) (k := q) (by omega) (by omega)
                obtain ⟨S, hS⟩ : ∃ S, S = swapL M R q := ⟨_, rfl⟩
                have hSx : en S R col = x := by
                  rw [hxe, hS]; unfold en
                  rw [swapL_get (by rw [HMl.out]; omega) (by rw [HMl.out]; omega)]
                  by_cases e : R = q
                  · rw [if_pos e, e]
                  · rw [if_neg e, if_pos rfl]
                rw [← hS] at hOS hSm
                obtain ⟨ad3, B3, c3, hA3, hc3, hf3, hI3⟩ := hOS.get (i := R) (by rw [hSm.len]; omega)
                obtain rfl := Option.some.inj hA3
                have hl3 := (hSm.get (show R < k by omega)).1
                obtain ⟨b3, y, hB3, hy, _, hcy, _⟩ := hI3.at_ (j := col) (by rw [hl3]; exact hcn)
                have hyx : y = x := by rw [← hSx]; unfold en; simp [List.getD] at hy ⊢; rw [hy]; rfl
                subst hyx
                subst hB3
                rw [hl3] at hc3
                have hcq2 : ((wr.setCell (ad.add R) (.slice (some bd) n d)).cell? (ad.add q)).isSome = true := by
                  by_cases e : ad.add R = ad.add q
                  · rw [e, World.cell?_setCell_same' _ _ _ (by rw [hcq]; rfl)]; rfl
                  · rw [World.cell?_setCell_other _ _ _ _ e, hcq]; rfl
                obtain ⟨V2, hcq2⟩ := Option.isSome_iff_exists.1 hcq2
                have HS := Lib.hid hS
                have HSm := Lib.hid hSm
                have HOS := Lib.hid hOS
                have HSX := Lib.hid hSx
                have HL3 := Lib.hid hl3
                clear hpn HPV hxe hIq hOM hrl hx hS hSm hOS hSx hI3 hl3 hy hf3
                have hy1 : 1 ≤ y := by omega
                have hy2 : y < p := hxb.2
                obtain ⟨W2, hW2⟩ : ∃ W2, W2 = (wr.setCell (ad.add R) (.slice (some bd) n d)).setCell (ad.add q) (.slice BR n cR) := ⟨_, rfl⟩
                rw [← hW2] at hc3 hcy
                have hOS2 : OM w W2 (some ad) c' S := by rw [hW2]; exact HOS.out
                have HOS2 := Lib.hid hOS2
                obtain ⟨iv, hiv⟩ : ∃ iv, iv = invM p y := ⟨_, rfl⟩
                have hinv := invM_spec HP.out hy1 hy2
                rw [← hiv] at hinv
                have hiv1 := hinv.2.1
                have hiv2 := hinv.2.2
                have HIV := Lib.hid hiv
                have hI := fdInv_any p y W2 HP.out hy1 hy2
                rw [← hiv] at hI
                have HI := Lib.hid hI
                clear hinv hiv HOS hOS2 hI
                rw [hW2] at hc3 hcy
                go_wp2_with (fail)
                rw [← hW2] at hc3 hcy ⊢
                clear hW2 hcq2 hcR hfR hcq hcx hfq
                refine HI.out.mono ?_
                clear HI
                rintro e w' ⟨rfl, rfl⟩
                go_wp2_with (fail)
                obtain ⟨V, hVd⟩ : ∃ V, V = S.getD R [] := ⟨_, rfl⟩
                have hVl : V.length = n := by rw [hVd]; exact HL3.out
                have hVr : Res p V := by rw [hVd]; exact (HSm.out.get hRk).2
                have HVd := Lib.hid hVd
                have HVl := Lib.hid hVl
                clear hVd hVl hc3 hcy
                go_loopw [92] (fun i wr3 => ∃ j : Nat, j ≤ n ∧ i = .int .i64 j ∧ OM w wr3 (some ad) c' (S.set R ((scaleV p iv V).take j ++ V.drop j))) (fun i _ => n - (intOf i).toNat)
                case atStart => exact ⟨0, Nat.zero_le _, rfl, by rw [List.take_zero, List.nil_append, List.drop_zero, HVd.out, set_getD]; exact HOS2.out⟩
                case round =>
                  obtain ⟨j, hj, rfl, hOj⟩ := hrel
                  have hlc : ((scaleV p iv V).take j ++ V.drop j).length = n := by rw [len_take_drop (by rw [scaleV_length]) (by rw [HVl.out]; exact hj)]; exact HVl.out
                  by_cases hjn : j < n
                  · obtain ⟨ad4, B4, c4, hA4, hc4, hf4, hI4⟩ := hOj.get (i := R) (by rw [List.length_set, HSm.out.len]; omega)
                    obtain rfl := Option.some.inj hA4
                    rw [getD_set_self (by rw [HSm.out.len]; omega)] at hc4 hI4
                    obtain ⟨b4, z, hB4, hz, hbl, hcz, hfz'⟩ := hI4.at_ (j := j) (by rw [hlc]; exact hjn)
                    rw [get_take_drop (by rw [scaleV_length]) (by rw [HVl.out]; exact hjn)] at hz
                    have hfz := hfz' j
                    have hzb := hVr z (List.mem_of_getElem? hz)
                    subst hB4
                    have hset := hOj.set (i := R) (by rw [List.length_set, HSm.out.len]; omega) rfl hc4 (j := j) (by rw [getD_set_self (by rw [HSm.out.len]; omega), hlc]; exact hjn) (z * iv % p)
                    have hsz : (scaleV p iv V)[j]? = some (z * iv % p) := by simp [scaleV, hz]
                    rw [getD_set_self (by rw [HSm.out.len]; omega), List.set_set, take_append_step (by rw [scaleV_length]) hsz] at hset
                    rw [hlc] at hc4
                    have HST := Lib.hid hset
                    have hjI : (j : Int) < (n : Int) := by omega
                    have C1 := Lib.hid (stillC2 (fdMul_any p z iv wr.drew (by omega) hzb.1 (by omega) (by omega) (by omega)))
                    clear hset hsz hz hI4 hfz' hlc hOj
                    go_wp2_with (fail)
                    refine wp_region_still_tail 15 (by kernel_rfl) (by kernel_rfl) ?_
                    simp only [List.take_succ_cons, List.take_zero, List.drop_succ_cons, List.drop_zero]
                    change wpStill _ _ wr.drew (fun a' => wpList _ _ _ _ a' wr.drew) _ _
                    repeat still_step
                    still_call C1.out
                    repeat still_step
                    refine wpStill_nil ?_
                    go_wp2_with (fail)
                    go_roundw
                    case rel => exact ⟨j + 1, by omega, by go_num, HST.out.drew⟩
                    case measure => simp [intOf]; omega
                  · obtain rfl : n = j := by omega
                    obtain ⟨M2, hM2⟩ : ∃ M2, M2 = scaleL p R iv S := ⟨_, rfl⟩
                    have hO2 : OM w wr (some ad) c' M2 := by
                      have := hOj
                      rw [List.take_of_length_le (by rw [scaleV_length, HVl.out]; omega), List.drop_of_length_le (by rw [HVl.out]; omega), List.append_nil, HVd.out] at this
                      rw [hM2]; exact this
                    have hm2 : Mat p k n M2 := by rw [hM2]; exact HSm.out.scale (by omega) hRk iv
                    have HM2 := Lib.hid hM2
                    have Hm2 := Lib.hid hm2
                    have hml2 := Lib.hid hm2.len
                    clear hM2 hm2 hOj hlc
                    go_wp2_with (fail)
                    go_loopw [114] (fun i wr5 => ∃ g : Nat, g ≤ k ∧ i = .int .i64 g ∧ OM w wr5 (some ad) c' (elimTo p R (fun i => en M2 i col) M2 g)) (fun i _ => k - (intOf i).toNat)
                    case atStart => exact ⟨0, Nat.zero_le _, rfl, by rw [elimTo_zero]; exact hO2⟩
                    case round =>
                      clear hO2
                      obtain ⟨g, hg, rfl, hOg⟩ := hrel
                      have hEm := Hm2.out.elim (r := R) (q := g) (f := fun i => en M2 i col) (by omega)
                      by_cases hgk : g < k
                      · have hgI : (g : Int) < (k : Int) := by omega
                        by_cases hgR : g = R
                        · have hb : ((g : Int) == (R : Int)) = true := by rw [beq_iff_eq]; omega
                          have hsk := elimTo_skip (p := p) (L := M2) (f := fun i => en M2 i col) (.inl hgR)
                          have HSK := Lib.hid hsk
                          have HGR := Lib.hid hgR
                          clear hsk hgR hEm
                          go_wp2_with (fail)
                          go_roundw
                          case rel => exact ⟨g + 1, by omega, by go_num, by rw [HSK.out]; exact hOg⟩
                          case measure => simp [intOf]; omega
                        · have hb : ((g : Int) == (R : Int)) = false := by rw [beq_eq_false_iff_ne]; omega
                          have hml2' := hml2.out
                          obtain ⟨ad4, B4, c4, hA4, hc4, hf4, hI4⟩ := hOg.get (i := g) (by rw [elimTo_length, hml2']; exact hgk)
                          obtain rfl := Option.some.inj hA4
                          rw [elimTo_at (by rw [hml2']; exact hgk)] at hc4 hI4
                          have hgl := (Hm2.out.get hgk).1
                          rw [hgl] at hc4
                          obtain ⟨b4, x2, hB4, hx2, _, hcx2, _⟩ := hI4.at_ (j := col) (by rw [hgl]; exact hcn)
                          have hx2e : x2 = en M2 g col := by unfold en; simp [List.getD] at hx2 ⊢; rw [hx2]; rfl
                          have hx2b := Hm2.out.en (by omega) hgk col
                          rw [← hx2e] at hx2b
                          subst hB4
                          have HX2 := Lib.hid hx2e
                          have HML := Lib.hid hml2'
                          clear hI4 hx2 hx2e hml2' hgl
                          by_cases hx20 : x2 = 0
                          · subst hx20
                            have hsk := elimTo_skip (p := p) (r := R) (q := g) (L := M2) (f := fun i => en M2 i col) (.inr HX2.out.symm)
                            have HSK := Lib.hid hsk
                            clear hsk hEm
                            go_wp2_with (fail)
                            go_roundw
                            case rel => exact ⟨g + 1, by omega, by go_num, by rw [HSK.out]; exact hOg⟩
                            case measure => simp [intOf]; omega
                          · have hx21 : (x2 == 0) = false := by rw [beq_eq_false_iff_ne]; exact hx20
                            have hst := elimTo_step (p := p) (r := R) (q := g) (L := M2) (f := fun i => en M2 i col) (by rw [HML.out]; exact hgk) hgR (by rw [← HX2.out]; exact hx20)
                            obtain ⟨E, hE⟩ : ∃ E, E = elimTo p R (fun i => en M2 i col) M2 g := ⟨_, rfl⟩
                            rw [← hE] at hOg hEm hst
                            obtain ⟨Vg, hVg⟩ : ∃ Vg, Vg = M2.getD g [] := ⟨_, rfl⟩
                            obtain ⟨VR, hVR⟩ : ∃ VR, VR = M2.getD R [] := ⟨_, rfl⟩
                            have hst' : elimTo p R (fun i => en M2 i col) M2 (g + 1) = E.set g (addT p Vg (-x2) VR) := by rw [hst, hVg, hVR, HX2.out]
                            have hEg : E.getD g [] = Vg := by rw [hE, elimTo_at (by rw [HML.out]; exact hgk), hVg]
                            have hER : E.getD R [] = VR := by rw [hE, elimTo_piv (by rw [HML.out]; exact hRk), hVR]
                            have hVgl : Vg.length = n := by rw [hVg]; exact (Hm2.out.get hgk).1
                            have hVRl : VR.length = n := by rw [hVR]; exact (Hm2.out.get hRk).1
                            have hVgr : Res p Vg := by rw [hVg]; exact (Hm2.out.get hgk).2
                            have hVRr : Res p VR := by rw [hVR]; exact (Hm2.out.get hRk).2
                            have HST := Lib.hid hst'
                            have HEG := Lib.hid hEg
                            have HER := Lib.hid hER
                            have HVGL := Lib.hid hVgl
                            have HVRL := Lib.hid hVRl
                            have HEL := Lib.hid hEm.len
                            have HOG := Lib.hid hOg
                            have HGR := Lib.hid hgR
                            clear hst hst' hEg hER hVgl hVRl hE hVg hVR hEm hOg hgR
                            go_wp2_with (fail)
                            clear hc4 hf4 hcx2
                            go_loopw [142] (fun i wr6 => ∃ j : Nat, j ≤ n ∧ i = .int .i64 j ∧ OM w wr6 (some ad) c' (E.set g ((addT p Vg (-x2) VR).take j ++ Vg.drop j))) (fun i _ => n - (intOf i).toNat)
                            case atStart => exact ⟨0, Nat.zero_le _, rfl, by rw [List.take_zero, List.nil_append, List.drop_zero, ← HEG.out, set_getD]; exact HOG.out⟩
                            case round =>
                              obtain ⟨j, hj, rfl, hOj⟩ := hrel
                              have hlc : ((addT p Vg (-x2) VR).take j ++ Vg.drop j).length = n := by rw [len_take_drop (by rw [addT_length]) (by rw [HVGL.out]; exact hj)]; exact HVGL.out
                              by_cases hjn : j < n
                              · obtain ⟨ad4, B4, c4, hA4, hc4, hf4, hI4⟩ := hOj.get (i := g) (by rw [List.length_set, HEL.out]; exact hgk)
                                obtain rfl := Option.some.inj hA4
                                rw [getD_set_self (by rw [HEL.out]; exact hgk)] at hc4 hI4
                                obtain ⟨b4, z, hB4, hz, _, hcz, hfz'⟩ := hI4.at_ (j := j) (by rw [hlc]; exact hjn)
                                rw [get_take_drop (by rw [addT_length]) (by rw [HVGL.out]; exact hjn)] at hz
                                have hfz := hfz' j
                                have hzb := hVgr z (List.mem_of_getElem? hz)
                                obtain ⟨ad5, B5, c5, hA5, hc5, hf5, hI5⟩ := hOj.get (i := R) (by rw [List.length_set, HEL.out]; exact hRk)
                                obtain rfl := Option.some.inj hA5
                                rw [getD_set_ne' HGR.out, HER.out] at hc5 hI5
                                obtain ⟨b5, y2, hB5, hy2', _, hcy2, _⟩ := hI5.at_ (j := j) (by rw [HVRL.out]; exact hjn)
                                have hyb := hVRr y2 (List.mem_of_getElem? hy2')
                                rw [HVRL.out] at hc5
                                subst hB4
                                subst hB5
                                have hset := hOj.set (i := g) (by rw [List.length_set, HEL.out]; exact hgk) rfl hc4 (j := j) (by rw [getD_set_self (by rw [HEL.out]; exact hgk), hlc]; exact hjn) ((z - x2 * y2) % p)
                                have hsz : (addT p Vg (-x2) VR)[j]? = some ((z - x2 * y2) % p) := by rw [show z - x2 * y2 = z + -x2 * y2 by rw [Int.neg_mul]; omega]; exact addT_get hz hy2'
                                rw [getD_set_self (by rw [HEL.out]; exact hgk), List.set_set, take_append_step (by rw [addT_length]) hsz] at hset
                                rw [hlc] at hc4
                                have HSE := Lib.hid hset
                                have hjI : (j : Int) < (n : Int) := by omega
                                have q1 := Int.emod_nonneg (x2 * y2) (show p ≠ 0 by omega)
                                have q2 := Int.emod_lt_of_pos (x2 * y2) (show 0 < p by omega)
                                have C1 := Lib.hid (stillC2 (fdMul_any p x2 y2 wr.drew (by omega) hx2b.1 (by omega) hyb.1 (by omega)))
                                have C2 := Lib.hid (stillC2 (fdSub_any p z (x2 * y2 % p) wr.drew (by omega) (by omega) hzb.1 (by omega) (by omega) (by omega)))
                                clear hset hsz hz hI4 hfz' hlc hOj hI5 hy2' hf4 hf5
                                go_wp2_with (fail)
                                refine wp_region_still_tail 24 (by kernel_rfl) (by kernel_rfl) ?_
                                simp only [List.take_succ_cons, List.take_zero, List.drop_succ_cons, List.drop_zero]
                                change wpStill _ _ wr.drew (fun a' => wpList _ _ _ _ a' wr.drew) _ _
                                repeat still_step
                                still_call C1.out
                                repeat still_step
                                still_call C2.out
                                repeat still_step
                                refine wpStill_nil ?_
                                go_wp2_with (fail)
                                go_roundw
                                case rel => exact ⟨j + 1, by omega, by go_num, HSE.out.drew⟩
                                case measure => simp [intOf]; omega
                              · obtain rfl : n = j := by omega
                                have hO6 : OM w wr (some ad) c' (elimTo p R (fun i => en M2 i col) M2 (g + 1)) := by
                                  have := hOj
                                  rw [List.take_of_length_le (by rw [addT_length, HVGL.out]; omega), List.drop_of_length_le (by rw [HVGL.out]; omega), List.append_nil] at this
                                  rw [HST.out]; exact this
                                clear hOj hlc
                                go_wp2_with (fail)
                                go_roundw
                                case rel => exact ⟨g + 1, by omega, by go_num, hO6⟩
                                case measure => simp [intOf]; omega
                      · obtain rfl : k = g := by omega
                        obtain ⟨e1, e2, _⟩ := redTo_some (p := p) (L := L) (A := []) (c := col) (k := q) (by rw [HMd.out, HR.out, HMl.out]; exact HPN.out) (by rw [HMd.out, HMl.out]; omega) (M := M2) (by rw [HM2.out, HMd.out, HR.out, HS.out, HIV.out, HXE.out])
                        rw [HR.out] at e1 e2
                        rw [hml2.out] at e2
                        have E1 := Lib.hid e1
                        have E2 := Lib.hid e2
                        clear e1 e2 hEm
                        go_wp2_with (fail)
                        go_roundw
                        case rel => exact ⟨col + 1, R + 1, _, by omega, by go_num, by go_num, E1.out, E2.out, hOg⟩
                        case measure => simp [intOf]; omega
            · obtain rfl : q = k := by omega
              have hpn : ¬ pvFrom M col (M.length - R) R < M.length := by rw [HMl.out, ← HPV.out, pvFrom_end]; omega
              have hred := redTo_none (p := p) (L := L) (A := []) (c := col) (by rw [HMd.out, HR.out]; exact hpn)
              have HRD := Lib.hid hred
              clear hpn hred
              go_wp2_with (fail)
              go_roundw
              case rel => exact ⟨col + 1, R, M, by omega, by go_num, rfl, by rw [HRD.out]; exact HR.out, by rw [HRD.out]; exact HMd.out, hOM⟩
              case measure => simp [intOf]; omega
end Go.Proofs.YtahnhblodfdfhaaDoor
