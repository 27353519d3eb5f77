/-
  THE WALK: spec.hgGlued.
-/
import Derived.Test.YtanhmljgeiajoaaGrCa
import Derived.Test.YtanhmljgeiajoaaGrGd
namespace Go.Proofs.Ytanhmljgeiajoaa
open Go.RowKit

set_option maxRecDepth 100000 in
set_option maxHeartbeats 16000000 in
theorem hgGlued_any {v : Value} {g : Gr} (w : World) (n : Nat) (X : Option Addr) (xc : Nat) (Y : Option Addr) (yc q : Nat) (ps : List (Int × Int)) (h : RdGr w v g) (ok : OkG g) (hgn : g.1 = (n : Int)) (hv : grB g = true)
    (hX : RdI w X (ps.map Prod.fst)) (hY : RdI w Y (ps.map Prod.snd)) (hq : ps.length = q) (hqb : q ≤ 1048576) (hin : ∀ q, q ∈ ps → (0 ≤ q.1 ∧ q.1 < n) ∧ 0 ≤ q.2 ∧ q.2 < n) :
    Calls Try.prog 106 #[v, .slice X q xc, .slice Y q yc] w fun e w' => ∃ v' fp A c, e = .returned (.tuple #[v', .slice A n c]) ∧ OwGr w' v' (mapG (numM (joinsM (idW n) ps)) (nrM (joinsM (idW n) ps) n : Int) g) fp ∧ FreshL w.heap.size fp ∧ IS w' A c (numM (joinsM (idW n) ps)) ∧ Fresh w.heap.size A ∧ Below w.heap.size w w' := by
  obtain ⟨n', e1', hn1, hm60, _, _, hinW⟩ := grB_parts hv
  obtain rfl : n' = n := by omega
  have hful := fun (w : Nat) (hw : w < n') => grB_full hv hgn hw
  have hCls := fun j => Cls.clsP hin j
  have hCP := clsP_all n' ps
  rw [hq] at hCP
  obtain ⟨C, hC⟩ : ∃ C, C = joinsM (idW n') ps := ⟨_, rfl⟩
  rw [← hC] at hCP ⊢
  have hCm := hCls q
  rw [hCP] at hCm
  clear hC
  have hG0 := h
  obtain ⟨A, n0, c, B, m0, d, C', k0', e0, rfl⟩ := h.shape
  rw [hgn] at h ⊢
  obtain ⟨n, rfl⟩ : ∃ x, x = n' := ⟨_, rfl⟩
  obtain ⟨W, hW, bW, k0, k1⟩ := allocs2 w (.cells #[.int .i64 (n : Int), .slice A n0 c, .slice B m0 d, .slice C' k0' e0] tGr) (.cells #[.int .i64 0, .slice none 0 0, .slice none 0 0, .slice none 0 0] tGr)
  have hGW := h.below bW
  have hCnt := fun (W' : World) (hb : Below W.heap.size W W') => hgCounts_any W' n (hGW.below hb) ok hgn (by omega) hinW
  have hMap := fun (W' : World) (hb : Below W.heap.size W W') (Z : Option Addr) (zc : Nat) (hz : RdI W' Z (numM C)) => hgMap_any W' (nrM C n : Int) Z zc n (numM C) (hGW.below hb) ok hz (by rw [numM_length, hCm.len]) hinW
  obtain ⟨O, hO⟩ : ∃ O, O = orgW g := ⟨_, rfl⟩
  obtain ⟨T, hT⟩ : ∃ T, T = dstW g := ⟨_, rfl⟩
  have hpos : ∀ k : Nat, k < n → 1 ≤ O.count (k : Int) + T.count (k : Int) := fun k hk => by
    have h1 := hful k hk
    have h2 := count_zero (g := g) (k := k)
    rw [← hO, ← hT] at h2
    rcases Nat.eq_zero_or_pos (O.count (k : Int) + T.count (k : Int)) with hz | hz
    · have := h2.1 (by omega)
      rw [Bool.eq_false_iff, ne_eq, List.contains_iff_mem] at this
      exact absurd h1 this
    · exact hz
  have hOl : O.length + T.length ≤ 20000000 := by
    have h1 := out_len g.2.1
    have h2 : cntE g.2.1 + g.2.2.1.length + g.2.2.2.length ≤ 8388608 := ok.2.2
    have h3 : O.length = g.2.2.1.length + (outW g.2.1).length := by rw [hO]; show (g.2.2.1 ++ outW g.2.1).length = _; rw [List.length_append]
    have h4 : T.length = g.2.2.2.length + (inpW g.2.1).length := by rw [hT]; show (g.2.2.2 ++ inpW g.2.1).length = _; rw [List.length_append]
    omega
  simp only [← hO, ← hT] at hCnt
  have hXW := hX.below bW
  have hYW := hY.below bW
  obtain ⟨⟨c0, c1, c2, c3⟩, f0, f1, f2, f3⟩ := box4 k0
  obtain ⟨Rg, hRg⟩ : ∃ Rg, Rg = mapG (numM C) (nrM C n : Int) g := ⟨_, rfl⟩
  rw [← hRg]
  simp only [← hRg] at hMap
  clear hv e1' hinW hful hG0 h hX hY hgn ok hO hT hGW
  have hCls_h := Lib.hid hCls
  have hCP_h := Lib.hid hCP
  have bW_h := Lib.hid bW
  have k0_h := Lib.hid k0
  have k1_h := Lib.hid k1
  have hCm_h := Lib.hid hCm
  have hCnt_h := Lib.hid hCnt
  have hMap_h := Lib.hid hMap
  have hpos_h := Lib.hid hpos
  have hOl_h := Lib.hid hOl
  have hXW_h := Lib.hid hXW
  have hYW_h := Lib.hid hYW
  have hin_h := Lib.hid hin
  have hRg_h := Lib.hid hRg
  have hq_h := Lib.hid hq
  clear hCls hCP bW k0 k1 hCm hCnt hMap hpos hOl hXW hYW hin hRg hq
  go_enter Try.func106, Try.ntmps106
  go_upto_region 1 with (fail)
  rw [← hW]
  clear hW
  go_wp2_with (at_make; refine wpList_make_Sl _ rfl _ _ _ rfl tInt Try.underlying23 info_int n n rfl rfl rfl rfl (Nat.le_refl _) (by omega) (by unfold maxLen; omega) ?_; intro G w1 hs0 hG hb1)
  have hG1 : IS w1 (some G) n (List.replicate n 0) := IS.of_made hs0
  clear hs0 c0 c1 c2 c3 f0 f1 f2 f3
  have hG1_h := Lib.hid hG1
  have hb1_h := Lib.hid hb1
  clear hG1 hb1
  go_loopw [28] (fun i wr => ∃ k : Nat, k ≤ n ∧ i = .int .i64 k ∧ IS wr (some G) n ((idW n).take k ++ List.replicate (n - k) 0) ∧ Below W.heap.size W wr) (fun i _ => n - (intOf i).toNat)

  case atStart => exact ⟨0, Nat.zero_le _, rfl, by simpa using hG1_h.out, hb1_h.out⟩
  case round =>
   clear hG1_h hb1_h
   obtain ⟨k, hk, rfl, hIS, hB1⟩ := hrel
   by_cases hlt : k < n
   · have hlen : ((idW n).take k ++ List.replicate (n - k) (0 : Int)).length = n := by rw [List.length_append, List.length_take, List.length_replicate, idW_length]; omega
     have hset := hIS.set (ad := G) rfl (j := k) (k : Int) (by rw [hlen]; exact hlt)
     have htk : (idW n).take (k + 1) = (idW n).take k ++ [(k : Int)] := by rw [List.take_add_one, idW_get hlt]; rfl
     rw [set_rep_step _ _ _ (by rw [List.length_take, idW_length]; omega) hlt, ← htk] at hset
     obtain ⟨ad, y, hA, hy, _, hc', hf'⟩ := hIS.at_ (j := k) (by rw [hlen]; exact hlt)
     obtain rfl := Option.some.inj hA
     have hfz := hf' k
     have hb' := hB1.setCell (p := G.add k) (by rw [block_of_add]; exact hG) (.int .i64 (k : Int))
     have hkI : (k : Int) < (n : Int) := by omega
     clear hf' hIS hy hlen hB1 hA htk
     have hset_h := Lib.hid hset
     have hb'_h := Lib.hid hb'
     clear hset hb'
     go_wp2_with (fail)
     go_roundw
     case rel => exact ⟨k + 1, by omega, by go_num, hset_h.out, hb'_h.out⟩
     case measure => simp [intOf]; omega
   · obtain rfl : n = k := by omega
     rw [List.take_of_length_le (by simp), Nat.sub_self, List.replicate_zero, List.append_nil] at hIS
     have kr := box_below k0_h.out hB1
     obtain ⟨⟨c0, c1, c2, c3⟩, f0, f1, f2, f3⟩ := box4 kr
     obtain ⟨w2, rfl⟩ : ∃ x, x = wr := ⟨_, rfl⟩
     clear kr
     have hIS_h := Lib.hid hIS
     have hB1_h := Lib.hid hB1
     clear hIS hB1
     go_wp2_with (fail)
     clear c0 c1 c2 c3 f0 f1 f2 f3
     go_loopw [38] (fun i wr => ∃ j : Nat, j ≤ q ∧ i = .int .i64 j ∧ IS wr (some G) n (clsP n ps j) ∧ Below W.heap.size W wr) (fun i _ => q - (intOf i).toNat)
     case atStart => exact ⟨0, Nat.zero_le _, rfl, by rw [clsP_zero]; exact hIS_h.out, hB1_h.out⟩
     case round =>
      clear hIS_h hB1_h
      obtain ⟨j, hj, rfl, hISj, hBj⟩ := hrel
      obtain ⟨wi, rfl⟩ : ∃ x, x = wr := ⟨_, rfl⟩
      by_cases hltj : j < q
      · obtain ⟨⟨x1, x2⟩, hx⟩ : ∃ x, ps[j]? = some x := ⟨_, List.getElem?_eq_getElem (by rw [hq_h.out]; exact hltj)⟩
        have hxr := hin_h.out _ (List.mem_of_getElem? hx)
        simp only at hxr
        obtain ⟨bb, rfl⟩ : ∃ bb : Nat, x1 = (bb : Int) := ⟨x1.toNat, by omega⟩
        obtain ⟨a, rfl⟩ : ∃ bb : Nat, x2 = (bb : Int) := ⟨x2.toNat, by omega⟩
        have hbn : bb < n := by omega
        have han : a < n := by omega
        have hDj := hCls_h.out j
        obtain ⟨D, hD⟩ : ∃ D, D = clsP n ps j := ⟨_, rfl⟩
        have hnext := clsP_step (n := n) hx
        rw [← hD] at hnext hDj hISj
        obtain ⟨X', hX'⟩ : ∃ X, X = D.getD bb 0 := ⟨_, rfl⟩
        obtain ⟨Y', hY'⟩ : ∃ Y, Y = D.getD a 0 := ⟨_, rfl⟩
        have hX1 := hDj.le bb hbn
        have hY1 := hDj.le a han
        have gX := hDj.get hbn
        have gY := hDj.get han
        rw [← hX'] at hX1 gX hnext
        rw [← hY'] at hY1 gY hnext
        obtain ⟨gd0, rfl, y0⟩ := (hXW_h.out.below hBj) j (bb : Int) (by rw [List.getElem?_map, hx]; rfl)
        obtain ⟨gd1, rfl, y1⟩ := (hYW_h.out.below hBj) j (a : Int) (by rw [List.getElem?_map, hx]; rfl)
        obtain ⟨gd2, g2e, y2⟩ := hISj.rd bb _ gX
        obtain rfl := Option.some.inj g2e
        obtain ⟨gd3, g3e, y3⟩ := hISj.rd a _ gY
        obtain rfl := Option.some.inj g3e
        have hjI : (j : Int) < (q : Int) := by omega
        have hbI : (bb : Int) < (n : Int) := by omega
        have haI : (a : Int) < (n : Int) := by omega
        clear g2e g3e hxr gX gY
        have hx_h := Lib.hid hx
        have hBj_h := Lib.hid hBj
        have hISj_h := Lib.hid hISj
        have hDj_h := Lib.hid hDj
        have hD_h := Lib.hid hD
        have hnext_h := Lib.hid hnext
        have hX'_h := Lib.hid hX'
        have hY'_h := Lib.hid hY'
        clear hx hBj hISj hDj hD hnext hX' hY'
        go_wp2_with (fail)
        go_quiet (fail)
        go_wp2_with (fail)
        clear y0 y1 y2 y3
        go_loopw [57] (fun i wr => ∃ e : Nat, e ≤ n ∧ i = .int .i64 e ∧ IS wr (some G) n ((relab X' Y' D).take e ++ D.drop e) ∧ Below W.heap.size W wr) (fun i _ => n - (intOf i).toNat)
        case atStart => exact ⟨0, Nat.zero_le _, rfl, by simpa using hISj_h.out.below (below_drewN (Below.refl _ _) _), below_drewN hBj_h.out _⟩
        case round =>
         clear hBj_h hISj_h
         obtain ⟨e, he, rfl, hISe, hBe⟩ := hrel
         obtain ⟨wj, rfl⟩ : ∃ x, x = wr := ⟨_, rfl⟩
         by_cases hlte : e < n
         · obtain ⟨V, hV⟩ : ∃ V, V = D.getD e 0 := ⟨_, rfl⟩
           have gV := hDj_h.out.get hlte
           rw [← hV] at gV
           have hDl := hDj_h.out.len
           have hlen : ((relab X' Y' D).take e ++ D.drop e).length = n := by rw [List.length_append, List.length_take, List.length_drop, relab_length, hDl]; omega
           have gm : ((relab X' Y' D).take e ++ D.drop e)[e]? = some V := by rw [get_mid (by rw [relab_length]; omega)]; exact gV
           have gr := relab_get (x := X') (y := Y') gV
           have heI : (e : Int) < (n : Int) := by omega
           obtain ⟨M, hM⟩ : ∃ M, M = max X' Y' := ⟨_, rfl⟩
           obtain ⟨mn, hmn⟩ : ∃ mn, mn = min X' Y' := ⟨_, rfl⟩
           have hMo := fun W => l1Most_any X' Y' W
           have hLe := fun W => l1Least_any X' Y' W
           simp only [← hM] at hMo
           simp only [← hmn] at hLe
           unfold relV at gr
           rw [← hM, ← hmn] at gr
           by_cases hVM : V = M
           · subst hVM
             rw [if_pos rfl] at gr
             have hMo_h := Lib.hid hMo
             have hLe_h := Lib.hid hLe
             clear hMo hLe
             go_wp2_with (fail)
             refine beginB (by kernel_rfl) (fun W1 hW1 => ?_)
             have hbw : Below wj.heap.size wj W1 := by rw [hW1]; exact below_drew (Below.refl _ _)
             clear hW1
             have hI1 := hISe.below hbw
             have hB2 := below_trans hBe hbw hBe.size
             obtain ⟨zd, ze, y2⟩ := hI1.rd e _ gm
             obtain rfl := Option.some.inj ze
             clear ze hISe hBe hbw
             have hset := hI1.set (ad := G) rfl (j := e) mn (by rw [hlen]; exact hlte)
             rw [mid_set (by omega) gr] at hset
             obtain ⟨zd, z0, ze, _, _, zc, zf⟩ := hI1.at_ (j := e) (by rw [hlen]; exact hlte)
             obtain rfl := Option.some.inj ze
             have zfe := zf e
             have hks : Keeps (· ∈ fpA (some G)) W1 (W1.setCell (G.add e) (.int .i64 mn)) := Keeps.setCell (S := (· ∈ fpA (some G))) (Keeps.refl _ W1) (p := G.add e) (by rw [block_of_add]; simp) _
             have hB2' := below_keeps hB2 hks hB2.size (fun b hb => by simp at hb; omega)
             clear hI1 hB2 hks ze zf zc gm gr gV
             have hset_h := Lib.hid hset
             have hB2'_h := Lib.hid hB2'
             have hV_h := Lib.hid hV
             have hDl_h := Lib.hid hDl
             have hlen_h := Lib.hid hlen
             have hM_h := Lib.hid hM
             have hmn_h := Lib.hid hmn
             clear hset hB2' hV hDl hlen hM hmn
             refine takeH 0 (v := ?_) rfl (by kernel_rfl) (by kernel_rfl) (by kernel_rfl) (fun _ _ _ h => h) (Below.refl _ _) (by rfl) (fun W' hW' => ?_) ?_; rotate_left; · (have z := (hW'.cell (World.block_lt_of_cell? _ _ y2)).trans y2; clear hW'; go_simp; first | done | with_reducible rfl)
             simp only [Act.put, List.setIfInBounds_toArray, List.set_cons_zero, List.set_cons_succ]
             refine takeH 1 (v := ?_) rfl (by kernel_rfl) (by kernel_rfl) (by kernel_rfl) (fun _ _ _ h => h) (Below.refl _ _) (by rfl) (fun W' hW' => ?_) ?_; rotate_left; · (have z := (hW'.cell (World.block_lt_of_cell? _ _ y2)).trans y2; clear hW'; go_simp; first | done | with_reducible rfl)
             simp only [Act.put, List.setIfInBounds_toArray, List.set_cons_zero, List.set_cons_succ]
             refine takeH 2 (v := ?_) rfl (by kernel_rfl) (by kernel_rfl) (by kernel_rfl) (fun _ _ _ h => h) (Below.refl _ _) (by rfl) (fun W' hW' => ?_) ?_; rotate_left; · (have z := (hW'.cell (World.block_lt_of_cell? _ _ y2)).trans y2; clear hW'; go_simp; first | done | with_reducible rfl)
             simp only [Act.put, List.setIfInBounds_toArray, List.set_cons_zero, List.set_cons_succ]
             refine takeH 3 (v := ?_) rfl (by kernel_rfl) (by kernel_rfl) (by kernel_rfl) (fun _ _ _ h => h) (Below.refl _ _) (by rfl) (fun W' hW' => ?_) ?_; rotate_left; · (have z := (hW'.cell (World.block_lt_of_cell? _ _ y2)).trans y2; clear hW'; go_simp; first | done | with_reducible rfl)
             simp only [Act.put, List.setIfInBounds_toArray, List.set_cons_zero, List.set_cons_succ]
             refine takeH 4 (v := ?_) rfl (by kernel_rfl) (by kernel_rfl) (by kernel_rfl) (fun _ _ _ h => h) (Below.refl _ _) (by rfl) (fun W' hW' => ?_) ?_; rotate_left; · (skip; clear hW'; go_simp; first | done | with_reducible rfl)
             simp only [Act.put, List.setIfInBounds_toArray, List.set_cons_zero, List.set_cons_succ]
             refine takeH 5 (v := ?_) rfl (by kernel_rfl) (by kernel_rfl) (by kernel_rfl) (fun _ _ _ h => h) (Below.refl _ _) (by rfl) (fun W' hW' => ?_) ?_; rotate_left; · (skip; clear hW'; go_simp; first | done | with_reducible rfl)
             simp only [Act.put, List.setIfInBounds_toArray, List.set_cons_zero, List.set_cons_succ]
             refine' callH 6 (f := _) (args := _) rfl (by kernel_rfl) (by rfl) ?_ ?_; rotate_left 2; · (go_simp; first | done | with_reducible rfl | (constructor <;> with_reducible rfl))
             refine ((hMo_h.out _)).mono ?_
             rintro e w2 ⟨rfl, rfl⟩
             refine ⟨_, rfl, Below.refl _ _, ?_⟩
             simp only [Act.put, List.setIfInBounds_toArray, List.set_cons_zero, List.set_cons_succ]
             refine takeH 7 (v := ?_) rfl (by kernel_rfl) (by kernel_rfl) (by kernel_rfl) (fun _ _ _ h => h) (Below.refl _ _) (by rfl) (fun W' hW' => ?_) ?_; rotate_left; · (skip; clear hW'; go_simp; first | done | with_reducible rfl)
             simp only [Act.put, List.setIfInBounds_toArray, List.set_cons_zero, List.set_cons_succ]
             refine doneH (by kernel_rfl) ?_
             go_wp2_with (fail)
             refine ((hLe_h.out _)).mono ?_
             rintro e w3 ⟨rfl, rfl⟩
             go_wp2_with (fail)
             go_roundw
             case rel => exact ⟨e + 1, by omega, by go_num, hset_h.out, hB2'_h.out⟩
             case measure => simp [intOf]; omega
           · rw [if_neg hVM] at gr
             have hsk := mid_skip gr gV
             have hbq : (V == M) = false := by rw [beq_eq_false_iff_ne]; exact hVM
             have hMo_h := Lib.hid hMo
             have hLe_h := Lib.hid hLe
             have hsk_h := Lib.hid hsk
             clear hMo hLe hsk
             go_wp2_with (fail)
             refine beginB (by kernel_rfl) (fun W1 hW1 => ?_)
             have hbw : Below wj.heap.size wj W1 := by rw [hW1]; exact below_drew (Below.refl _ _)
             clear hW1
             have hI1 := hISe.below hbw
             have hB2 := below_trans hBe hbw hBe.size
             obtain ⟨zd, ze, y2⟩ := hI1.rd e _ gm
             obtain rfl := Option.some.inj ze
             clear ze hISe hBe hbw
             rw [hsk_h.out] at hI1
             clear gm gr gV
             have hI1_h := Lib.hid hI1
             have hB2_h := Lib.hid hB2
             have hV_h := Lib.hid hV
             have hDl_h := Lib.hid hDl
             have hlen_h := Lib.hid hlen
             have hM_h := Lib.hid hM
             have hmn_h := Lib.hid hmn
             clear hI1 hB2 hV hDl hlen hM hmn
             refine takeH 0 (v := ?_) rfl (by kernel_rfl) (by kernel_rfl) (by kernel_rfl) (fun _ _ _ h => h) (Below.refl _ _) (by rfl) (fun W' hW' => ?_) ?_; rotate_left; · (have z := (hW'.cell (World.block_lt_of_cell? _ _ y2)).trans y2; clear hW'; go_simp; first | done | with_reducible rfl)
             simp only [Act.put, List.setIfInBounds_toArray, List.set_cons_zero, List.set_cons_succ]
             refine takeH 1 (v := ?_) rfl (by kernel_rfl) (by kernel_rfl) (by kernel_rfl) (fun _ _ _ h => h) (Below.refl _ _) (by rfl) (fun W' hW' => ?_) ?_; rotate_left; · (have z := (hW'.cell (World.block_lt_of_cell? _ _ y2)).trans y2; clear hW'; go_simp; first | done | with_reducible rfl)
             simp only [Act.put, List.setIfInBounds_toArray, List.set_cons_zero, List.set_cons_succ]
             refine takeH 2 (v := ?_) rfl (by kernel_rfl) (by kernel_rfl) (by kernel_rfl) (fun _ _ _ h => h) (Below.refl _ _) (by rfl) (fun W' hW' => ?_) ?_; rotate_left; · (have z := (hW'.cell (World.block_lt_of_cell? _ _ y2)).trans y2; clear hW'; go_simp; first | done | with_reducible rfl)
             simp only [Act.put, List.setIfInBounds_toArray, List.set_cons_zero, List.set_cons_succ]
             refine takeH 3 (v := ?_) rfl (by kernel_rfl) (by kernel_rfl) (by kernel_rfl) (fun _ _ _ h => h) (Below.refl _ _) (by rfl) (fun W' hW' => ?_) ?_; rotate_left; · (have z := (hW'.cell (World.block_lt_of_cell? _ _ y2)).trans y2; clear hW'; go_simp; first | done | with_reducible rfl)
             simp only [Act.put, List.setIfInBounds_toArray, List.set_cons_zero, List.set_cons_succ]
             refine takeH 4 (v := ?_) rfl (by kernel_rfl) (by kernel_rfl) (by kernel_rfl) (fun _ _ _ h => h) (Below.refl _ _) (by rfl) (fun W' hW' => ?_) ?_; rotate_left; · (skip; clear hW'; go_simp; first | done | with_reducible rfl)
             simp only [Act.put, List.setIfInBounds_toArray, List.set_cons_zero, List.set_cons_succ]
             refine takeH 5 (v := ?_) rfl (by kernel_rfl) (by kernel_rfl) (by kernel_rfl) (fun _ _ _ h => h) (Below.refl _ _) (by rfl) (fun W' hW' => ?_) ?_; rotate_left; · (skip; clear hW'; go_simp; first | done | with_reducible rfl)
             simp only [Act.put, List.setIfInBounds_toArray, List.set_cons_zero, List.set_cons_succ]
             refine' callH 6 (f := _) (args := _) rfl (by kernel_rfl) (by rfl) ?_ ?_; rotate_left 2; · (go_simp; first | done | with_reducible rfl | (constructor <;> with_reducible rfl))
             refine ((hMo_h.out _)).mono ?_
             rintro e w2 ⟨rfl, rfl⟩
             refine ⟨_, rfl, Below.refl _ _, ?_⟩
             simp only [Act.put, List.setIfInBounds_toArray, List.set_cons_zero, List.set_cons_succ]
             refine takeH 7 (v := ?_) rfl (by kernel_rfl) (by kernel_rfl) (by kernel_rfl) (fun _ _ _ h => h) (Below.refl _ _) (by rfl) (fun W' hW' => ?_) ?_; rotate_left; · (skip; clear hW'; go_simp; first | done | with_reducible rfl)
             simp only [Act.put, List.setIfInBounds_toArray, List.set_cons_zero, List.set_cons_succ]
             refine doneH (by kernel_rfl) ?_
             go_wp2_with (fail)
             go_roundw
             case rel => exact ⟨e + 1, by omega, by go_num, hI1_h.out, hB2_h.out⟩
             case measure => simp [intOf]; omega
         · obtain rfl : n = e := by omega
           have hDl := hDj_h.out.len
           rw [List.take_of_length_le (by rw [relab_length]; omega), List.drop_of_length_le (by omega), List.append_nil, ← hnext_h.out] at hISe
           have hISe_h := Lib.hid hISe
           have hBe_h := Lib.hid hBe
           clear hISe hBe
           go_wp2_with (fail)
           go_roundw
           case rel => exact ⟨j + 1, by omega, by go_num, hISe_h.out, hBe_h.out⟩
           case measure => simp [intOf]; omega
      · obtain rfl : q = j := by omega
        rw [hCP_h.out] at hISj
        have kr := box_below k0_h.out hBj
        obtain ⟨⟨y0, y1, y2, y3⟩, g0, g1, g2, g3⟩ := box4 kr
        have hCw := hCnt_h.out wi hBj
        have hGl := hISj.lt G.block (by simp)
        have hWo := hBj.size
        clear kr
        have hISj_h := Lib.hid hISj
        have hBj_h := Lib.hid hBj
        have hCw_h := Lib.hid hCw
        clear hISj hBj hCw
        go_wp2_with (fail)
        refine (hCw_h.out).mono ?_
        rintro e w4 ⟨OA, TA, oc, tc, rfl, hOA, hTA, -, -, hb4⟩
        have hIS4 := hISj_h.out.below hb4
        have hB4 := below_trans hBj_h.out hb4 hBj_h.out.size
        have hz4 := hb4.size
        have kr := box_below k0_h.out hB4
        clear y0 y1 y2 y3 g0 g1 g2 g3 hb4
        obtain ⟨⟨y0, y1, y2, y3⟩, g0, g1, g2, g3⟩ := box4 kr
        clear kr hISj_h hBj_h
        have hOA_h := Lib.hid hOA
        have hTA_h := Lib.hid hTA
        have hIS4_h := Lib.hid hIS4
        have hB4_h := Lib.hid hB4
        clear hOA hTA hIS4 hB4
        go_wp2_with (at_make; refine wpList_make_Sl _ rfl _ _ _ rfl tBool Try.underlying106 info_bool n n rfl rfl rfl rfl (Nat.le_refl _) (by omega) (by unfold maxLen; omega) ?_; intro U w5 hs0 hUb hb5)
        have hU5 : Sl w5 tBool 1 (some U) n n (bls (seenM n (C.take 0))) := by
          have e : (madeCells (Value.bool false).cells (n * 1)).toList.take (n * 1) = bls (List.replicate n false) := by
            rw [Nat.mul_one]; simp [Value.cells, toList_madeCells_one, bls]
          rw [List.take_zero, seenM_nil, ← e]; exact hs0
        have hIS5 := hIS4_h.out.below hb5
        have hOA5 := hOA_h.out.below hb5
        have hTA5 := hTA_h.out.below hb5
        have hB5 := below_trans hB4_h.out hb5 hB4_h.out.size
        have hGU : ∀ b, b ∈ fpA (some G) → ¬ b ∈ fpA (some U) := fun b hb hb' => by simp at hb hb'; omega
        have hOU : ∀ b, b ∈ fpA OA → ¬ b ∈ fpA (some U) := fun b hb hb' => by
          have := hOA_h.out.lt b hb
          simp at hb'; omega
        have hTU : ∀ b, b ∈ fpA TA → ¬ b ∈ fpA (some U) := fun b hb hb' => by
          have := hTA_h.out.lt b hb
          simp at hb'; omega
        clear y0 y1 y2 y3 g0 g1 g2 g3 hs0 hOA_h hTA_h hIS4_h
        have hU5_h := Lib.hid hU5
        have hIS5_h := Lib.hid hIS5
        have hOA5_h := Lib.hid hOA5
        have hTA5_h := Lib.hid hTA5
        have hB5_h := Lib.hid hB5
        have hGU_h := Lib.hid hGU
        have hOU_h := Lib.hid hOU
        have hTU_h := Lib.hid hTU
        have hb5_h := Lib.hid hb5
        clear hU5 hIS5 hOA5 hTA5 hB5 hGU hOU hTU hb5
        go_loopw [86] (fun i wr => ∃ k : Nat, k ≤ n ∧ i = .int .i64 k ∧ Sl wr tBool 1 (some U) n n (bls (seenM n (C.take k))) ∧ IS wr (some G) n C ∧ IS wr OA oc (cntM n O) ∧ IS wr TA tc (cntM n T) ∧ Below W.heap.size W wr) (fun i _ => n - (intOf i).toNat)
        case atStart => exact ⟨0, Nat.zero_le _, rfl, hU5_h.out, hIS5_h.out, hOA5_h.out, hTA5_h.out, hB5_h.out⟩
        case round =>
         have hB5z := hB5_h.out.size
         clear hU5_h hIS5_h hOA5_h hTA5_h hB5_h
         obtain ⟨k, hk, rfl, hUk, hIk, hOk, hTk, hBk⟩ := hrel
         by_cases hlt : k < n
         · have gC := hCm_h.out.get hlt
           obtain ⟨hr0, hrk⟩ := hCm_h.out.le k hlt
           obtain ⟨u, hu⟩ : ∃ u : Nat, C.getD k 0 = (u : Int) := ⟨(C.getD k 0).toNat, by omega⟩
           rw [hu] at gC hr0 hrk
           have hun : u < n := by omega
           obtain ⟨gd2, g2e, y2⟩ := hIk.rd k _ gC
           obtain rfl := Option.some.inj g2e
           obtain ⟨x, hx⟩ : ∃ x, x = O.count (k : Int) := ⟨_, rfl⟩
           obtain ⟨y, hy⟩ : ∃ y, y = T.count (k : Int) := ⟨_, rfl⟩
           have l1 := count_le O (k : Int)
           have l2 := count_le T (k : Int)
           have hps := hpos_h.out k hlt
           rw [← hx] at l1 hps
           rw [← hy] at l2 hps
           have hxb : x ≤ 20000000 := by have := hOl_h.out; omega
           have hyb : y ≤ 20000000 := by have := hOl_h.out; omega
           have hpI : (0 : Int) < (x : Int) + (y : Int) := by omega
           have hwxy : IntKind.i64.wrap ((x : Int) + (y : Int)) = (x : Int) + (y : Int) := IntWalk.i64_in _ (by omega)
           have hwp : 0 < x + y := by omega
           have hkI : (k : Int) < (n : Int) := by omega
           have huI : (u : Int) < (n : Int) := by omega
           clear g2e l1 l2
           have hUk_h := Lib.hid hUk
           have hIk_h := Lib.hid hIk
           have hOk_h := Lib.hid hOk
           have hTk_h := Lib.hid hTk
           have hBk_h := Lib.hid hBk
           have hx_h := Lib.hid hx
           have hy_h := Lib.hid hy
           have gC_h := Lib.hid gC
           have hu_h := Lib.hid hu
           clear hUk hIk hOk hTk hBk hx hy gC hu
           go_wp2_with (fail)
           refine beginB (by kernel_rfl) (fun W1 hW1 => ?_)
           have hbw : Below wr.heap.size wr W1 := by rw [hW1]; exact below_drew (Below.refl _ _)
           clear hW1
           have hU1 := hUk_h.out.below hbw
           have hI1 := hIk_h.out.below hbw
           have hO1 := hOk_h.out.below hbw
           have hT1 := hTk_h.out.below hbw
           have hB1 := below_trans hBk_h.out hbw hBk_h.out.size
           obtain ⟨od, hoe, _, oc1, _⟩ := hO1.getc hlt
           obtain ⟨td, hte, _, tc1, _⟩ := hT1.getc hlt
           rw [← hx_h.out] at oc1
           rw [← hy_h.out] at tc1
           obtain ⟨b, hb⟩ : ∃ b, (seenM n (C.take k))[u]? = some b := ⟨_, List.getElem?_eq_getElem (by rw [seenM_length]; exact hun)⟩
           obtain ⟨ud, e2, -, u0, u1⟩ := Sl.cell hU1 (bls_get hb)
           obtain rfl := Option.some.inj e2
           have hset := Sl.set hU1 rfl u (.bool true) (by simp [bls]; omega)
           rw [bls_set, ← seenM_put gC_h.out hun] at hset
           have hks : Keeps (· ∈ fpA (some U)) W1 (W1.setCell (U.add u) (.bool true)) := Keeps.setCell (S := (· ∈ fpA (some U))) (Keeps.refl _ W1) (p := U.add u) (by rw [block_of_add]; simp) _
           have hI2 := hI1.keeps hks hGU_h.out
           have hO2 := hO1.keeps hks hOU_h.out
           have hT2 := hT1.keeps hks hTU_h.out
           have hB2 := below_keeps hB1 hks hB1.size (fun b hb => by simp at hb; omega)
           have hoe_h := Lib.hid hoe
           have hte_h := Lib.hid hte
           clear hU1 hI1 hO1 hT1 hB1 hks e2 hb hbw y2 hoe hte
           have hset_h := Lib.hid hset
           have hI2_h := Lib.hid hI2
           have hO2_h := Lib.hid hO2
           have hT2_h := Lib.hid hT2
           have hB2_h := Lib.hid hB2
           clear hset hI2 hO2 hT2 hB2
           refine takeH 0 (v := ?_) rfl (by kernel_rfl) (by kernel_rfl) (by kernel_rfl) (fun _ _ _ h => h) (Below.refl _ _) (by rfl) (fun W' hW' => ?_) ?_; rotate_left; · (have z := (hW'.cell (World.block_lt_of_cell? _ _ oc1)).trans oc1; have z1 := hoe_h.out; clear hW'; go_simp; first | done | with_reducible rfl)
           simp only [Act.put, List.setIfInBounds_toArray, List.set_cons_zero, List.set_cons_succ]
           refine takeH 1 (v := ?_) rfl (by kernel_rfl) (by kernel_rfl) (by kernel_rfl) (fun _ _ _ h => h) (Below.refl _ _) (by rfl) (fun W' hW' => ?_) ?_; rotate_left; · (have z := (hW'.cell (World.block_lt_of_cell? _ _ oc1)).trans oc1; have z1 := hoe_h.out; clear hW'; go_simp; first | done | with_reducible rfl)
           simp only [Act.put, List.setIfInBounds_toArray, List.set_cons_zero, List.set_cons_succ]
           refine takeH 2 (v := ?_) rfl (by kernel_rfl) (by kernel_rfl) (by kernel_rfl) (fun _ _ _ h => h) (Below.refl _ _) (by rfl) (fun W' hW' => ?_) ?_; rotate_left; · (have z := (hW'.cell (World.block_lt_of_cell? _ _ oc1)).trans oc1; have z1 := hoe_h.out; clear hW'; go_simp; first | done | with_reducible rfl)
           simp only [Act.put, List.setIfInBounds_toArray, List.set_cons_zero, List.set_cons_succ]
           refine takeH 3 (v := ?_) rfl (by kernel_rfl) (by kernel_rfl) (by kernel_rfl) (fun _ _ _ h => h) (Below.refl _ _) (by rfl) (fun W' hW' => ?_) ?_; rotate_left; · (have z := (hW'.cell (World.block_lt_of_cell? _ _ oc1)).trans oc1; have z1 := hoe_h.out; clear hW'; go_simp; first | done | with_reducible rfl)
           simp only [Act.put, List.setIfInBounds_toArray, List.set_cons_zero, List.set_cons_succ]
           refine takeH 4 (v := ?_) rfl (by kernel_rfl) (by kernel_rfl) (by kernel_rfl) (fun _ _ _ h => h) (Below.refl _ _) (by rfl) (fun W' hW' => ?_) ?_; rotate_left; · (have z := (hW'.cell (World.block_lt_of_cell? _ _ tc1)).trans tc1; have z1 := hte_h.out; clear hW'; go_simp; first | done | with_reducible rfl)
           simp only [Act.put, List.setIfInBounds_toArray, List.set_cons_zero, List.set_cons_succ]
           refine takeH 5 (v := ?_) rfl (by kernel_rfl) (by kernel_rfl) (by kernel_rfl) (fun _ _ _ h => h) (Below.refl _ _) (by rfl) (fun W' hW' => ?_) ?_; rotate_left; · (have z := (hW'.cell (World.block_lt_of_cell? _ _ tc1)).trans tc1; have z1 := hte_h.out; clear hW'; go_simp; first | done | with_reducible rfl)
           simp only [Act.put, List.setIfInBounds_toArray, List.set_cons_zero, List.set_cons_succ]
           refine takeH 6 (v := ?_) rfl (by kernel_rfl) (by kernel_rfl) (by kernel_rfl) (fun _ _ _ h => h) (Below.refl _ _) (by rfl) (fun W' hW' => ?_) ?_; rotate_left; · (have z := (hW'.cell (World.block_lt_of_cell? _ _ tc1)).trans tc1; have z1 := hte_h.out; clear hW'; go_simp; first | done | with_reducible rfl)
           simp only [Act.put, List.setIfInBounds_toArray, List.set_cons_zero, List.set_cons_succ]
           refine takeH 7 (v := ?_) rfl (by kernel_rfl) (by kernel_rfl) (by kernel_rfl) (fun _ _ _ h => h) (Below.refl _ _) (by rfl) (fun W' hW' => ?_) ?_; rotate_left; · (have z := (hW'.cell (World.block_lt_of_cell? _ _ tc1)).trans tc1; have z1 := hte_h.out; clear hW'; go_simp; first | done | with_reducible rfl)
           simp only [Act.put, List.setIfInBounds_toArray, List.set_cons_zero, List.set_cons_succ]
           refine takeH 8 (v := ?_) rfl (by kernel_rfl) (by kernel_rfl) (by kernel_rfl) (fun _ _ _ h => h) (Below.refl _ _) (by rfl) (fun W' hW' => ?_) ?_; rotate_left; · (skip; clear hW'; go_simp; first | done | with_reducible rfl)
           simp only [Act.put, List.setIfInBounds_toArray, List.set_cons_zero, List.set_cons_succ]
           refine takeH 9 (v := ?_) rfl (by kernel_rfl) (by kernel_rfl) (by kernel_rfl) (fun _ _ _ h => h) (Below.refl _ _) (by rfl) (fun W' hW' => ?_) ?_; rotate_left; · (skip; clear hW'; go_simp; first | done | with_reducible rfl)
           simp only [Act.put, List.setIfInBounds_toArray, List.set_cons_zero, List.set_cons_succ]
           refine doneH (by kernel_rfl) ?_
           go_wp2_with (fail)
           go_roundw
           case rel => exact ⟨k + 1, by omega, by go_num, hset_h.out, hI2_h.out, hO2_h.out, hT2_h.out, hB2_h.out⟩
           case measure => simp [intOf]; omega
         · obtain rfl : n = k := by omega
           have hCl := hCm_h.out.len
           rw [List.take_of_length_le (by omega)] at hUk
           have kr := box_below k0_h.out hBk
           obtain ⟨⟨y0, y1, y2, y3⟩, g0, g1, g2, g3⟩ := box4 kr
           clear kr hOk hTk
           obtain ⟨wo, rfl⟩ : ∃ x, x = wr := ⟨_, rfl⟩
           have hUk_h := Lib.hid hUk
           have hIk_h := Lib.hid hIk
           have hBk_h := Lib.hid hBk
           have hCl_h := Lib.hid hCl
           clear hUk hIk hBk hCl
           go_wp2_with (at_make; refine wpList_make_Sl _ rfl _ _ _ rfl tInt Try.underlying23 info_int n n rfl rfl rfl rfl (Nat.le_refl _) (by omega) (by unfold maxLen; omega) ?_; intro Z w6 hs0 hZb hb6)
           have hZ1 : IS w6 (some Z) n (List.replicate n 0) := IS.of_made hs0
           have hU6 := hUk_h.out.below hb6
           have hI6 := hIk_h.out.below hb6
           have hB6 := below_trans hBk_h.out hb6 hBk_h.out.size
           have hGZ : ∀ b, b ∈ fpA (some G) → ¬ b ∈ fpA (some Z) := fun b hb hb' => by
             have := hIk_h.out.lt G.block (by simp)
             simp at hb hb'; omega
           have hUZ : ∀ b, b ∈ fpA (some U) → ¬ b ∈ fpA (some Z) := fun b hb hb' => by
             have := hUk_h.out.lt U.block (by simp)
             simp at hb hb'; omega
           have hWo' := hBk_h.out.size
           clear y0 y1 y2 y3 g0 g1 g2 g3 hb6 hs0 hUk_h hIk_h hBk_h
           have hZ1_h := Lib.hid hZ1
           have hU6_h := Lib.hid hU6
           have hI6_h := Lib.hid hI6
           have hB6_h := Lib.hid hB6
           have hGZ_h := Lib.hid hGZ
           have hUZ_h := Lib.hid hUZ
           clear hZ1 hU6 hI6 hB6 hGZ hUZ
           go_loopw [110, 20] (fun i u wr => ∃ k : Nat, k ≤ n ∧ i = .int .i64 k ∧ u = .int .i64 (nrM C k : Int) ∧ IS wr (some Z) n ((num0 C).take k ++ List.replicate (n - k) 0) ∧ IS wr (some G) n C ∧ Sl wr tBool 1 (some U) n n (bls (seenM n C)) ∧ Below W.heap.size W wr) (fun i _ _ => n - (intOf i).toNat)
           case atStart => exact ⟨0, Nat.zero_le _, rfl, rfl, by simpa using hZ1_h.out, hI6_h.out, hU6_h.out, hB6_h.out⟩
           case round =>
            clear hZ1_h hI6_h hU6_h hB6_h
            obtain ⟨k, hk, rfl, rfl, hIZ, hIG, hU, hBk⟩ := hrel
            obtain ⟨wi, rfl⟩ : ∃ x, x = wr := ⟨_, rfl⟩
            have hnl : (num0 C).length = n := by rw [num0_length, hCl_h.out]
            by_cases hlt : k < n
            · have gC := hCm_h.out.get hlt
              obtain ⟨hr0, hrk⟩ := hCm_h.out.le k hlt
              obtain ⟨u, hu⟩ : ∃ u : Nat, C.getD k 0 = (u : Int) := ⟨(C.getD k 0).toNat, by omega⟩
              rw [hu] at gC hr0 hrk
              obtain ⟨gd2, g2e, y2⟩ := hIG.rd k _ gC
              obtain rfl := Option.some.inj g2e
              have htk := num0_take (C := C) (k := k) (by rw [hCl_h.out]; exact hlt)
              rw [hu] at htk
              have hlenZ : ((num0 C).take k ++ List.replicate (n - k) (0 : Int)).length = n := by rw [List.length_append, List.length_take, List.length_replicate, hnl]; omega
              have hkI : (k : Int) < (n : Int) := by omega
              have hle := nrM_le C k
              by_cases huk : u = k
              · subst huk
                have hsk : nrM C (u + 1) = nrM C u + 1 := nrM_new hu
                rw [if_pos rfl] at htk
                have hset := hIZ.set (ad := Z) rfl (j := u) (nrM C u : Int) (by rw [hlenZ]; exact hlt)
                rw [set_rep_step _ _ _ (by rw [List.length_take, hnl]; omega) hlt, ← htk] at hset
                obtain ⟨zd, z0, ze, _, _, zc, zf⟩ := hIZ.at_ (j := u) (by rw [hlenZ]; exact hlt)
                obtain rfl := Option.some.inj ze
                have zfe := zf u
                obtain ⟨ud, e2, -, u0, u1⟩ := Sl.cell hU (bls_get (seen_all hlt (List.mem_of_getElem? gC)))
                obtain rfl := Option.some.inj e2
                have hks : Keeps (· ∈ fpA (some Z)) wi (wi.setCell (Z.add u) (.int .i64 (nrM C u : Int))) := Keeps.setCell (S := (· ∈ fpA (some Z))) (Keeps.refl _ wi) (p := Z.add u) (by rw [block_of_add]; simp) _
                have hIG2 := hIG.keeps hks hGZ_h.out
                have hU2 := hU.keeps hks hUZ_h.out
                have hBk2 := below_keeps hBk hks hBk.size (fun b hb => by simp at hb; omega)
                clear hIZ hIG hU hBk hks ze zf g2e htk hlenZ gC hr0 hrk hnl e2
                have hset_h := Lib.hid hset
                have hIG2_h := Lib.hid hIG2
                have hU2_h := Lib.hid hU2
                have hBk2_h := Lib.hid hBk2
                have hsk_h := Lib.hid hsk
                have hu_h := Lib.hid hu
                clear hset hIG2 hU2 hBk2 hsk hu
                go_wp2_with (fail)
                go_roundw
                case rel => exact ⟨u + 1, by omega, by go_num, by rw [hsk_h.out]; go_num, hset_h.out, hIG2_h.out, hU2_h.out, hBk2_h.out⟩
                case measure => simp [intOf]; omega
              · have huI : ¬ (u : Int) = (k : Int) := by omega
                rw [if_neg huI] at htk
                have hbq : ((u : Int) == (k : Int)) = false := by rw [beq_eq_false_iff_ne]; exact huI
                have hsk : nrM C (k + 1) = nrM C k := nrM_skip (by rw [hu]; omega)
                have hrep : (num0 C).take k ++ List.replicate (n - k) (0 : Int) = (num0 C).take (k + 1) ++ List.replicate (n - (k + 1)) 0 := by
                  rw [htk, show n - k = (n - (k + 1)) + 1 by omega, List.replicate_succ, List.append_assoc]; rfl
                rw [hrep] at hIZ
                clear htk hlenZ gC g2e hnl hrep
                have hIZ_h := Lib.hid hIZ
                have hIG_h := Lib.hid hIG
                have hU_h := Lib.hid hU
                have hBk_h := Lib.hid hBk
                have hsk_h := Lib.hid hsk
                have hu_h := Lib.hid hu
                clear hIZ hIG hU hBk hsk hu
                go_wp2_with (fail)
                go_roundw
                case rel => exact ⟨k + 1, by omega, by go_num, by rw [hsk_h.out], hIZ_h.out, hIG_h.out, hU_h.out, hBk_h.out⟩
                case measure => simp [intOf]; omega
            · obtain rfl : n = k := by omega
              rw [List.take_of_length_le (by omega), Nat.sub_self, List.replicate_zero, List.append_nil] at hIZ
              clear hnl
              have hIZ_h := Lib.hid hIZ
              have hIG_h := Lib.hid hIG
              have hU_h := Lib.hid hU
              have hBk_h := Lib.hid hBk
              clear hIZ hIG hU hBk
              go_wp2_with (fail)
              go_loopw [134] (fun i wr => ∃ k : Nat, k ≤ n ∧ i = .int .i64 k ∧ IS wr (some Z) n ((numM C).take k ++ (num0 C).drop k) ∧ IS wr (some G) n C ∧ Sl wr tBool 1 (some U) n n (bls (seenM n C)) ∧ Below W.heap.size W wr) (fun i _ => n - (intOf i).toNat)
              case atStart => exact ⟨0, Nat.zero_le _, rfl, by simpa using hIZ_h.out, hIG_h.out, hU_h.out, hBk_h.out⟩
              case round =>
               clear hIZ_h hIG_h hU_h hBk_h
               obtain ⟨k, hk, rfl, hIZ, hIG, hU, hBk⟩ := hrel
               obtain ⟨wj, rfl⟩ : ∃ x, x = wr := ⟨_, rfl⟩
               have hnl : (numM C).length = n := by rw [numM_length, hCl_h.out]
               have hn0l : (num0 C).length = n := by rw [num0_length, hCl_h.out]
               by_cases hlt : k < n
               · have gC := hCm_h.out.get hlt
                 obtain ⟨hr0, hrk⟩ := hCm_h.out.le k hlt
                 obtain ⟨u, hu⟩ : ∃ u : Nat, C.getD k 0 = (u : Int) := ⟨(C.getD k 0).toNat, by omega⟩
                 have hfu := hCm_h.out.fix k hlt
                 rw [hu] at gC hr0 hrk hfu
                 rw [Int.toNat_natCast] at hfu
                 have hun : u < n := by omega
                 obtain ⟨gd2, g2e, y2⟩ := hIG.rd k _ gC
                 obtain rfl := Option.some.inj g2e
                 have hnk := numM_at hCm_h.out hlt hu
                 have hlenZ : ((numM C).take k ++ (num0 C).drop k).length = n := by rw [List.length_append, List.length_take, List.length_drop, hnl, hn0l]; omega
                 have gm : ((numM C).take k ++ (num0 C).drop k)[u]? = some (nrM C u : Int) := by
                   by_cases huk : u < k
                   · rw [List.getElem?_append_left (by rw [List.length_take, hnl]; omega), List.getElem?_take_of_lt huk]
                     exact numM_at hCm_h.out (by omega) hfu
                   · obtain rfl : u = k := by omega
                     rw [get_mid (by omega), num0_get (by rw [hCl_h.out]; omega), if_pos hu]
                 obtain ⟨gd3, g3e, y3⟩ := hIZ.rd u _ gm
                 obtain rfl := Option.some.inj g3e
                 have hset := hIZ.set (ad := Z) rfl (j := k) (nrM C u : Int) (by rw [hlenZ]; exact hlt)
                 rw [mid_set (by omega) hnk] at hset
                 obtain ⟨zd, z0, ze, _, _, zc, zf⟩ := hIZ.at_ (j := k) (by rw [hlenZ]; exact hlt)
                 obtain rfl := Option.some.inj ze
                 have zfe := zf k
                 have hks : Keeps (· ∈ fpA (some Z)) wj (wj.setCell (Z.add k) (.int .i64 (nrM C u : Int))) := Keeps.setCell (S := (· ∈ fpA (some Z))) (Keeps.refl _ wj) (p := Z.add k) (by rw [block_of_add]; simp) _
                 have hIG2 := hIG.keeps hks hGZ_h.out
                 have hU2 := hU.keeps hks hUZ_h.out
                 have hBk2 := below_keeps hBk hks hBk.size (fun b hb => by simp at hb; omega)
                 have gC2 := hIG2.rd k _ gC
                 obtain ⟨gd4, g4e, y4⟩ := gC2
                 obtain rfl := Option.some.inj g4e
                 obtain ⟨ud, e2, -, u0, u1⟩ := Sl.cell hU2 (bls_get (seen_all hun (List.mem_of_getElem? gC)))
                 obtain rfl := Option.some.inj e2
                 have hkI : (k : Int) < (n : Int) := by omega
                 have huI : (u : Int) < (n : Int) := by omega
                 clear hIZ hIG hU hBk hks ze zf g2e g3e g4e e2 hnk hlenZ gC gm hnl hn0l
                 have hset_h := Lib.hid hset
                 have hIG2_h := Lib.hid hIG2
                 have hU2_h := Lib.hid hU2
                 have hBk2_h := Lib.hid hBk2
                 have hu_h := Lib.hid hu
                 have hfu_h := Lib.hid hfu
                 clear hset hIG2 hU2 hBk2 hu hfu
                 go_wp2_with (fail)
                 go_roundw
                 case rel => exact ⟨k + 1, by omega, by go_num, hset_h.out, hIG2_h.out, hU2_h.out, hBk2_h.out⟩
                 case measure => simp [intOf]; omega
               · obtain rfl : n = k := by omega
                 rw [List.take_of_length_le (by omega), List.drop_of_length_le (by omega), List.append_nil] at hIZ
                 have kr := box_below k0_h.out hBk
                 have k1r := box_below k1_h.out hBk
                 obtain ⟨⟨y0, y1, y2, y3⟩, g0, g1, g2, g3⟩ := box4 kr
                 have hMw := hMap_h.out wj hBk (some Z) n hIZ.rd
                 have hB0 := below_trans bW_h.out hBk bW_h.out.size
                 clear hIG hU hnl hn0l kr
                 have hIZ_h := Lib.hid hIZ
                 have hBk_h := Lib.hid hBk
                 have hMw_h := Lib.hid hMw
                 have k1r_h := Lib.hid k1r
                 have hB0_h := Lib.hid hB0
                 clear hIZ hBk hMw k1r hB0
                 go_wp2_with (fail)
                 refine (hMw_h.out).mono ?_
                 rintro e w8 ⟨v8, fp8, rfl, hO8, hf8, hb8⟩
                 obtain ⟨A8, n8, c8, B8, m8, d8, C8, q8, u8, rfl⟩ := hO8.shape
                 have k1d := box_below k1r_h.out hb8
                 have hB8 := below_trans hB0_h.out hb8 hB0_h.out.size
                 obtain ⟨⟨d0, d1, d2, d3⟩, g0', g1', g2', g3'⟩ := box4 k1d
                 obtain ⟨s1, s2⟩ := set4 (a := .int .i64 Rg.1) (b := .slice A8 n8 c8) (c := .slice B8 m8 d8) (d := .slice C8 q8 u8) k1d
                 have hBs := below_keeps hB8 s2 hB8.size (fun k hk => by omega)
                 have hwW := bW_h.out.size
                 have hwk := hBk_h.out.size
                 have hk1 := box_lt k1_h.out
                 have hOs := hO8.keeps s2 (fun x hx e => by have := hf8 x hx; omega)
                 have hFs : FreshL w.heap.size fp8 := fun x hx => by have := hf8 x hx; omega
                 have hZs := (hIZ_h.out.below hb8).keeps s2 (fun x hx e => by simp at hx; omega)
                 have hFz : Fresh w.heap.size (some Z) := fun b hb => by simp at hb; omega
                 clear hb8 hO8 hB8 k1d s2 hf8 y0 y1 y2 y3 g0 g1 g2 g3
                 have s1_h := Lib.hid s1
                 have hBs_h := Lib.hid hBs
                 have hOs_h := Lib.hid hOs
                 have hFs_h := Lib.hid hFs
                 have hZs_h := Lib.hid hZs
                 have hFz_h := Lib.hid hFz
                 clear s1 hBs hOs hFs hZs hFz
                 go_wp2_with (fail)
                 refine bodyPost_ret (results_cell_tmp rfl _ _ (w.heap.size + 1) _ _ (0, 0) _ rfl s1_h.out Try.underlying31 rfl (by kernel_rfl)) rfl ?_
                 exact ⟨_, _, _, _, rfl, hOs_h.out, hFs_h.out, hZs_h.out, hFz_h.out, hBs_h.out⟩

end Go.Proofs.Ytanhmljgeiajoaa
