/-
  THE WALKS: impl.kernel, impl.orthogonal.

  THE WALK: impl.transposed.
-/
import Derived.Test.YtahnhblodfdfhaaDoorOrth
namespace Go.Proofs.YtahnhblodfdfhaaDoor
open Go.RowKit

/-- A new row is laid at i. -/
theorem OM.put {w0 w w1 : World} {A : Option Addr} {cap : Nat} {L : List (List Int)} (h : OM w0 w A cap L) {i : Nat} (hi : i < L.length) {ad : Addr} (hA : A = some ad) (hb : Below w.heap.size w w1) {B : Option Addr} {c : Nat} {l : List Int} (hx : IS w1 B c l) (hf1 : Fresh w.heap.size B) :
    OM w0 (w1.setCell (ad.add i) (.slice B l.length c)) A cap (L.set i l) := by
  subst hA
  obtain ⟨hs, rfl, hO, hf, h0⟩ := h
  have hi' : i < hs.length := by simpa using hi
  have hAl : ∀ b, b ∈ fpA (some ad) → b < w.heap.size := fun b hb' => hO.sl.lt b hb'
  have hRl : ∀ y, y ∈ hs → (∀ b, b ∈ fpA y.1 → b < w.heap.size) := fun y hy b hb' => (hO.rows y hy).lt b hb'
  have hk : Keeps (· ∈ fpA (some ad)) w1 (w1.setCell (ad.add i) (.slice B l.length c)) := (Keeps.refl _ w1).setCell (p := ad.add i) (by rw [block_of_add]; simp) _
  have hget : ∀ (k : Nat) (x : Hd), (hs.set i (B, c, l))[k]? = some x → (k = i ∧ x = (B, c, l)) ∨ (k ≠ i ∧ hs[k]? = some x) := by
    intro k x hx
    rw [List.getElem?_set] at hx
    split at hx
    · rename_i hk; subst hk
      simp at hx
      exact .inl ⟨rfl, hx.symm⟩
    · rename_i hk; exact .inr ⟨fun e => hk e.symm, hx⟩
  have hsz := h0.size
  have hbs := hb.size
  refine ⟨hs.set i (B, c, l), by rw [List.map_set], ⟨?_, fun x hx' => ?_, ?_, fun x hx' b hb1 hb2 => ?_⟩, fun b hb' => ?_, ?_⟩
  · have := (hO.sl.below hb).set (ad := ad) rfl i (Hd.val (B, c, l)) (by simpa using hi')
    rw [← List.map_set] at this
    rw [List.length_set]; exact this
  · rcases List.mem_or_eq_of_mem_set hx' with hx' | hx'
    · exact ((hO.rows x hx').below hb).keeps hk fun b hb' => hO.outer x hx' b hb'
    · subst hx'
      exact hx.keeps hk fun b hb' hb'' => by
        have := hf1 b hb'
        have := hAl b hb''
        omega
  · refine List.pairwise_iff_getElem.2 fun a b ha hb' hab c' h1 h2 => ?_
    rcases hget a _ (List.getElem?_eq_getElem ha) with ⟨ea, e1⟩ | ⟨ea, e1⟩ <;> rcases hget b _ (List.getElem?_eq_getElem hb') with ⟨eb, e2⟩ | ⟨eb, e2⟩
    · omega
    · rw [e1] at h1
      have := hf1 c' h1
      have := hRl _ (List.mem_of_getElem? e2) c' h2
      omega
    · rw [e2] at h2
      have := hf1 c' h2
      have := hRl _ (List.mem_of_getElem? e1) c' h1
      omega
    · exact hO.apart_get e1 e2 (by omega) c' h1 h2
  · rcases List.mem_or_eq_of_mem_set hx' with hx' | hx'
    · exact hO.outer x hx' b hb1 hb2
    · subst hx'
      have := hf1 b hb1
      have := hAl b hb2
      omega
  · rcases List.mem_append.1 hb' with hb' | hb'
    · exact hf b (List.mem_append_left _ hb')
    · obtain ⟨y, hy, hb'⟩ := mem_fpR.1 hb'
      rcases List.mem_or_eq_of_mem_set hy with hy | hy
      · exact hf b (List.mem_append_right _ (mem_fpR.2 ⟨_, hy, hb'⟩))
      · subst hy
        have := hf1 b hb'
        omega
  · exact below_keeps (below_trans h0 hb hsz) hk (by omega) fun b hb' => hf b (List.mem_append_left _ hb')

theorem nils_om {w w1 : World} {G : Addr} {m : Nat} (hs : Sl w1 33 1 (some G) m m ((List.replicate m nilHd).map Hd.val)) (hG : w.heap.size ≤ G.block) (hb : Below w.heap.size w w1) : OM w w1 (some G) m (List.replicate m []) := by
  obtain ⟨gs, hL, hO, hf⟩ := nils_rw hs
  exact ⟨gs, hL, hO, fun b hb' => by have := hf b hb'; simp at this; omega, hb⟩

set_option maxHeartbeats 2000000 in
set_option maxRecDepth 100000 in
theorem transposed_any (A : Option Addr) (c n : Nat) (hs : List Hd) (w : World) (h : RdR w A hs) (hrow : ∀ x, x ∈ hs → x.2.2.length = n) (hn : n ≤ 1048576) (hl : hs.length ≤ 1048576) :
    Calls Tryd.prog 172 #[.slice A hs.length c, .int .i64 n] w (RetSS w (transM (hs.map fun h : Hd => h.2.2) n)) := by
  obtain ⟨L, hLh⟩ : ∃ L, L = hs.map fun h : Hd => h.2.2 := ⟨_, rfl⟩
  rw [← hLh]
  obtain ⟨m, hmm⟩ : ∃ m, m = hs.length := ⟨_, rfl⟩
  rw [← hmm] at hl ⊢
  have hLen := Lib.hid (show L.length = m by rw [hLh, List.length_map, hmm])
  have HLh := Lib.hid hLh
  have HM := Lib.hid hmm
  have HROW := Lib.hid hrow
  have hTl := Lib.hid (show (transM L n).length = n by simp [transM])
  have hcol := Lib.hid (show ∀ j, j < n → (transM L n)[j]? = some (L.map fun v => v.getD j 0) from fun j hj => by simp [transM, hj])
  clear hLh hmm hrow
  go_enter Tryd.func172, Tryd.ntmps172
  go_wp2_with (at_make; refine wpList_make_Sl _ rfl _ _ _ rfl 33 Tryd.underlying22 info_ints n n rfl rfl rfl rfl (Nat.le_refl _) (by omega) (by unfold maxLen; omega) ?_; intro G w2 hs2 hG hb2)
  have hOM0 : OM w w2 (some G) n (List.replicate n []) := nils_om (by rw [← madeNils]; simpa using hs2) hG hb2
  clear hs2 hG hb2
  go_loopw [13] (fun i wr => ∃ (j : Nat), j ≤ n ∧ i = .int .i64 j ∧ OM w wr (some G) n ((transM L n).take j ++ (List.replicate n []).drop j)) (fun i _ => n - (intOf i).toNat)
  case atStart => exact ⟨0, Nat.zero_le _, rfl, by simpa using hOM0⟩
  case round =>
    clear hOM0
    obtain ⟨j, hj, rfl, hOM⟩ := hrel
    by_cases hlt : j < n
    · obtain ⟨bs, hbs⟩ : ∃ bs, bs = (transM L n).take j ++ (List.replicate n ([] : List Int)).drop j := ⟨_, rfl⟩
      rw [← hbs] at hOM
      have hbl : bs.length = n := by rw [hbs, List.length_append, List.length_take, List.length_drop, List.length_replicate, hTl.out]; omega
      have HBL := Lib.hid hbl
      have hz := zeros_any m wr (by omega)
      have HZ := Lib.hid hz
      obtain ⟨adG, Bg, cg, hAg, hcg, hfg, _⟩ := hOM.get (i := j) (by rw [hbl]; exact hlt)
      obtain rfl := Option.some.inj hAg
      have HBS := Lib.hid hbs
      have HOM := Lib.hid hOM
      have hbO := Lib.hid hOM.below_
      have hjI : (j : Int) < (n : Int) := by omega
      have hbk := World.block_lt_of_cell? wr _ hcg
      have HCG := Lib.hid hcg
      have HFG := Lib.hid hfg
      clear hz hbs hbl hOM hAg hcg hfg
      go_wp2_with (fail)
      refine HZ.out.mono ?_
      rintro e w3 ⟨Az, cz, rfl, hiz, hfz, hbz⟩
      rw [List.length_replicate]
      have hput := HOM.out.put (i := j) (by rw [HBL.out]; exact hlt) rfl hbz hiz hfz
      rw [List.length_replicate] at hput
      have HPUT := Lib.hid hput
      have hcg3 : w3.cell? (G.add j) = some (.slice Bg (bs.getD j []).length cg) := (hbz.cell hbk).trans HCG.out
      have hfg3 : w3.frozen? (G.add j) = false := (hbz.frozen hbk).trans HFG.out
      clear hput hiz
      go_wp2_with (fail)
      obtain ⟨cl, hcl⟩ : ∃ cl, cl = L.map fun v => v.getD j 0 := ⟨_, rfl⟩
      have hcll : cl.length = m := by rw [hcl, List.length_map, hLen.out]
      have HCL := Lib.hid hcl
      have HCLL := Lib.hid hcll
      have hstart : OM w (w3.setCell (G.add j) (.slice Az m cz)) (some G) n (bs.set j (cl.take 0 ++ (List.replicate m (0 : Int)).drop 0)) := by simpa using HPUT.out
      have HSTART := Lib.hid hstart
      clear hcl hcll hstart hcg3 hfg3 hfz hbz
      go_loopw [24] (fun i w' => ∃ (k : Nat), k ≤ m ∧ i = .int .i64 k ∧ OM w w' (some G) n (bs.set j (cl.take k ++ (List.replicate m (0 : Int)).drop k))) (fun i _ => m - (intOf i).toNat)
      case atStart => exact ⟨0, Nat.zero_le _, rfl, HSTART.out⟩
      case round =>
        clear HSTART HPUT HCG HFG HZ HOM
        obtain ⟨k, hk, rfl, hOM⟩ := hrel
        have hxl : (cl.take k ++ (List.replicate m (0 : Int)).drop k).length = m := by rw [List.length_append, List.length_take, List.length_drop, List.length_replicate, HCLL.out]; omega
        by_cases hlt2 : k < m
        · obtain ⟨bd, B, d, l, rfl, hx, hc, hri⟩ := (h.below hOM.below_).at_ (k := k) (by rw [← HM.out]; exact hlt2)
          have hlx : L[k]? = some l := by rw [HLh.out, List.getElem?_map, hx]; rfl
          have hll : l.length = n := HROW.out _ (List.mem_of_getElem? hx)
          rw [hll] at hc
          obtain ⟨ld, x, hLd, hxx, hcx⟩ := hri.at_ (j := j) (by rw [hll]; exact hlt)
          subst hLd
          obtain ⟨adG, Bg, cg, hAg, hcg, hfg, hIg⟩ := hOM.get (i := j) (by rw [List.length_set, HBL.out]; exact hlt)
          obtain rfl := Option.some.inj hAg
          have hgd : (bs.set j (cl.take k ++ (List.replicate m (0 : Int)).drop k)).getD j [] = cl.take k ++ (List.replicate m (0 : Int)).drop k := getD_set_self (by rw [HBL.out]; exact hlt)
          rw [hgd] at hcg hIg
          rw [hxl] at hcg
          obtain ⟨gd, y, hBg, _, _, hcy, hfy⟩ := hIg.at_ (j := k) (by rw [hxl]; exact hlt2)
          subst hBg
          have hfy' := hfy k
          have hset := hOM.set (i := j) (by rw [List.length_set, HBL.out]; exact hlt) rfl hcg (j := k) (by rw [hgd, hxl]; exact hlt2) x
          rw [hgd, List.set_set] at hset
          have hclx : cl[k]? = some x := by rw [HCL.out, List.getElem?_map, hlx]; simp [List.getD, hxx]
          rw [take_append_step (by rw [HCLL.out, List.length_replicate]) hclx] at hset
          have hset' := hset.drew
          have HSET := Lib.hid hset'
          have hkI : (k : Int) < (m : Int) := by omega
          have hjI' : (j : Int) < (n : Int) := by omega
          clear hset hset' hclx hgd hxl hfy hIg hAg hOM hri hxx hll hlx hx h
          go_wp2_with (fail)
          refine wp_region_still_tail 10 (by kernel_rfl) (by kernel_rfl) ?_
          simp only [List.take_succ_cons, List.take_zero, List.drop_succ_cons, List.drop_zero]
          change wpStill _ _ wr.drew (fun a' => wpList _ _ _ _ a' wr.drew) _ _
          have e1 : wr.drew.cell? (G.add j) = some (.slice (some gd) m cg) := hcg
          have e2 : wr.drew.cell? (ld.add j) = some (.int .i64 x) := hcx
          repeat still_step
          refine wpStill_nil ?_
          go_wp2_with (fail)
          go_roundw
          case rel => exact ⟨k + 1, by omega, by go_num, HSET.out⟩
          case measure => simp [intOf]; omega
        · obtain rfl : m = k := by omega
          have hfin : OM w wr (some G) n ((transM L n).take (j + 1) ++ (List.replicate n ([] : List Int)).drop (j + 1)) := by
            have h1 := hOM
            rw [List.take_of_length_le (by rw [HCLL.out]; omega), List.drop_of_length_le (by rw [List.length_replicate]; omega), List.append_nil, HBS.out, take_append_step (by rw [hTl.out, List.length_replicate]) (by rw [hcol.out j hlt, HCL.out])] at h1
            exact h1
          have HFIN := Lib.hid hfin
          clear hOM hfin hxl h
          go_wp2_with (fail)
          go_roundw
          case rel => exact ⟨j + 1, by omega, by go_num, HFIN.out⟩
          case measure => simp [intOf]; omega
    · obtain rfl : n = j := by omega
      have hOM' : OM w wr (some G) n (transM L n) := by
        have := hOM
        rwa [List.take_of_length_le (by rw [hTl.out]; omega), List.drop_of_length_le (by simp), List.append_nil] at this
      clear hOM h
      go_wp2_with (fail)
      go_ret
      have := hOM'.ret
      rw [hTl.out] at this
      exact this
end Go.Proofs.YtahnhblodfdfhaaDoor
namespace Go.Proofs.YtahnhblodfdfhaaDoor
open Go.RowKit

theorem redTo_mat3 {p : Int} (hp : fieldB p = true) {m n : Nat} {L A : List (List Int)} (hm : Mat p m n L) (hA : Mat p m m A) : ∀ c, c ≤ n → Mat p m m (redTo p L A c).2.2
  | 0, _ => hA
  | c + 1, hc => by
    have hpb := fieldB_bounds hp
    obtain ⟨ld, hR⟩ := redTo_inv hp hm A c (by omega)
    have h1 := redTo_mat3 hp hm hA c (by omega)
    rw [redTo]
    obtain ⟨s, hs⟩ : ∃ s, s = redTo p L A c := ⟨_, rfl⟩
    rw [← hs] at hR h1 ⊢
    rcases colStep_cases hp (show c < n by omega) hR.mat hR.inv.le with ⟨e, _⟩ | ⟨k, iv, k1, k2, k3, _, _, k6, k7, k8⟩
    · rw [e]; exact h1
    · rw [k7]
      have hr : s.1 < m := by omega
      have hse := step_en (p := p) (by omega) h1 hr k2 iv (fun i => en (scaleL p s.1 iv (swapL s.2.1 s.1 k)) i c)
      rw [h1.len]
      exact hse.1

theorem Mat.drop {p : Int} {m n r : Nat} {L : List (List Int)} (h : Mat p m n L) : Mat p (m - r) n (L.drop r) :=
  ⟨by rw [List.length_drop, h.len], fun v hv => h.row v (List.mem_of_mem_drop hv)⟩
theorem RdR.cut {w : World} {A A' : Option Addr} {n : Nat} {hs : List Hd} (h : RdR w A hs) {r c : Nat} (hsl : Sl w 33 1 A' n c ((hs.drop r).map Hd.val)) : RdR w A' (hs.drop r) := by
  refine ⟨fun i x hx => ?_, fun x hx => h.2 x (List.mem_of_mem_drop hx)⟩
  obtain ⟨ad, hA, _, hc, _⟩ := hsl.cell (j := i) (u := x.val) (by rw [List.getElem?_map, hx]; rfl)
  exact ⟨ad, hA, hc⟩

set_option maxRecDepth 100000 in
theorem kernel_any (p : Int) (n : Nat) (A : Option Addr) (c : Nat) (hs : List Hd) (w : World) (h : RdR w A hs) (hp : fieldB p = true) (hm : Mat p hs.length n (hs.map fun h : Hd => h.2.2)) (hl : hs.length ≤ 1048576) (hn : n ≤ 1048576) :
    Calls Tryd.prog 127 #[.int .i64 p, .slice A hs.length c, .int .i64 n] w (RetSS w (kerM p n (hs.map fun h : Hd => h.2.2))) := by
  have hC := clones_any A c hs w h hl (fun x hx => by have := (hm.row _ (List.mem_map_of_mem hx)).1; omega)
  obtain ⟨L, hLh⟩ : ∃ L, L = hs.map fun h : Hd => h.2.2 := ⟨_, rfl⟩
  rw [← hLh] at hm hC ⊢
  obtain ⟨m, hmm⟩ : ∃ m, m = hs.length := ⟨_, rfl⟩
  rw [← hmm] at hl hm hC ⊢
  have hpb := fieldB_bounds hp
  have HC := Lib.hid hC
  have HMat := Lib.hid hm
  have HL := Lib.hid hm.len
  clear hC hLh hmm hm h
  go_enter Tryd.func127, Tryd.ntmps127
  go_wp2_with (fail)
  refine HC.out.mono ?_
  rintro e w1 hret
  obtain ⟨A1, c1, rfl, hO1⟩ := hret.om
  rw [HL.out]
  have hI := Lib.hid (identityRows_any m w1 hl)
  clear hret
  go_wp2_with (fail)
  refine hI.out.mono ?_
  rintro e w2 hret
  obtain ⟨A2, c2, rfl, hO2⟩ := hret.om
  rw [show (idM m).length = m by simp [idM]]
  clear hret
  obtain ⟨fp, hR1, hfr, hlt⟩ := hO1.rw_
  have hR2 := hR1.below hO2.below_
  obtain ⟨fp2, hK, hfr2, hlt2⟩ := hO2.rw_
  have hmI : Mat p m m (idM m) := idM_mat (by omega) m
  have hRd := reduction_any p n m m A1 c1 L fp A2 c2 (idM m) fp2 w2 hR2 hK (fun b hb hb' => by
    have := hlt b hb
    have := hfr2 b hb'
    omega) (fun b hb => Nat.lt_of_lt_of_le (hlt b hb) hO2.size) hlt2 hp HMat.out hmI hl hn hl
  have hB2 : Below w.heap.size w w2 := below_trans hO1.below_ hO2.below_ hO1.below_.size
  have hres : kerM p n L = redM p m ((redTo p L (idM m) n).2.2.drop (redTo p L (idM m) n).1) := by unfold kerM; rw [HL.out]
  have hM3 := redTo_mat3 hp HMat.out hmI n (Nat.le_refl n)
  have hRm := (redTo_mat hp HMat.out (idM m) (Nat.le_refl n)).2
  obtain ⟨R, hR⟩ : ∃ R, R = (redTo p L (idM m) n).1 := ⟨_, rfl⟩
  obtain ⟨M, hM⟩ : ∃ M, M = (redTo p L (idM m) n).2.2 := ⟨_, rfl⟩
  rw [← hR, ← hM] at hRd hres
  rw [← hM] at hM3
  rw [← hR] at hRm
  have HRd := Lib.hid hRd
  have HRES := Lib.hid hres
  have HM3 := Lib.hid hM3
  have HP := Lib.hid hp
  have HFR := Lib.hid hfr
  have HFR2 := Lib.hid (hfr2.mono hO1.size)
  clear hRd hres hK hR1 hR2 hmI hO1 hO2 hR hM hp hfr hfr2 hlt hlt2 hM3
  go_wp2_with (fail)
  refine HRd.out.mono ?_
  rintro e w3 ⟨rfl, _, h2, hk3⟩
  have hB3 : Below w.heap.size w w3 := below_keeps hB2 hk3 hB2.size fun b hb => by
    rcases hb with hb | hb
    · exact HFR.out b hb
    · exact HFR2.out b hb
  obtain ⟨gs, hLg, hO, hf, h0⟩ := h2.om (w0 := w) HFR2.out hB3
  have hgl : gs.length = m := by
    have := congrArg List.length hLg
    rw [HM3.out.len, List.length_map] at this; omega
  have hsl : Sl w3 33 1 A2 m c2 (gs.map Hd.val) := by have := hO.sl; rwa [hgl] at this
  have hRd3 := Lib.hid hO.rd
  have HG := Lib.hid hLg
  have HGL := Lib.hid hgl
  have hmc := hsl.2.1
  clear hLg hgl h2 hO hf
  go_wp2_with (refine wpList_slice_Sl rfl (.tmp 21) (some (.tmp 22)) none none 22 rfl 33 Tryd.underlying22 info_ints rfl hsl R m c2 (optSome (by omega)) (optNone ⟨rfl, rfl⟩) (optNone rfl) (by omega) (Nat.le_refl _) (by omega) (Nat.le_refl _) ?_; intro A3 hcut hfp _)
  have hcut' : Sl w3 33 1 A3 (m - R) (c2 - R) ((gs.drop R).map Hd.val) := by
    have := hcut
    simp only [Nat.mul_one] at this
    rw [List.take_of_length_le (by simp [HGL.out]), ← List.map_drop] at this
    exact this
  have hdl : (gs.drop R).length = m - R := by rw [List.length_drop, HGL.out]
  have hmd : Mat p (gs.drop R).length m ((gs.drop R).map fun h : Hd => h.2.2) := by
    rw [hdl, List.map_drop, ← HG.out]; exact HM3.out.drop
  have hC3 := reduced_any p m A3 (c2 - R) (gs.drop R) w3 (RdR.cut hRd3.out hcut') HP.out hmd (by omega) hl
  rw [hdl, List.map_drop, ← HG.out, ← HRES.out] at hC3
  have HC3 := Lib.hid hC3
  clear hC3 hmd hdl hcut' hcut hsl
  go_wp2_with (fail)
  refine HC3.out.mono ?_
  rintro e w4 hret
  obtain ⟨A4, c4, rfl, hO4⟩ := hret.om
  go_wp2_with (fail)
  go_ret
  exact hret.mono hB3

set_option maxRecDepth 100000 in
theorem orthogonal_any (p : Int) (n : Nat) (A : Option Addr) (c : Nat) (hs : List Hd) (w : World) (h : RdR w A hs) (hp : fieldB p = true) (hm : Mat p hs.length n (hs.map fun h : Hd => h.2.2)) (hl : hs.length ≤ 1048576) (hn : n ≤ 1048576) :
    Calls Tryd.prog 144 #[.int .i64 p, .slice A hs.length c, .int .i64 n] w (RetSS w (perpM p n (hs.map fun h : Hd => h.2.2))) := by
  have hpb := fieldB_bounds hp
  have hC := transposed_any A c n hs w h (fun x hx => (hm.row _ (List.mem_map_of_mem hx)).1) hn hl
  have hT := transM_mat (p := p) (by omega) hm
  have hpe : perpM p n (hs.map fun h : Hd => h.2.2) = kerM p hs.length (transM (hs.map fun h : Hd => h.2.2) n) := by unfold perpM; rw [List.length_map]
  rw [hpe]
  obtain ⟨m, hmm⟩ : ∃ m, m = hs.length := ⟨_, rfl⟩
  rw [← hmm] at hl hC hT ⊢
  obtain ⟨T, hTT⟩ : ∃ T, T = transM (hs.map fun h : Hd => h.2.2) n := ⟨_, rfl⟩
  rw [← hTT] at hC hT ⊢
  have HC := Lib.hid hC
  have HT := Lib.hid hT
  have HP := Lib.hid hp
  clear hC hT hp hpe hm hmm hTT h
  go_enter Tryd.func144, Tryd.ntmps144
  go_wp2_with (fail)
  refine HC.out.mono ?_
  rintro e w1 hret
  obtain ⟨A1, c1, rfl, hO1⟩ := hret.om
  rw [HT.out.len]
  obtain ⟨gs, hLg, hrd⟩ := hO1.rdr
  have hgl : gs.length = n := by
    have := congrArg List.length hLg
    rw [HT.out.len, List.length_map] at this; omega
  have hmg : Mat p gs.length m (gs.map fun h : Hd => h.2.2) := by rw [hgl, ← hLg]; exact HT.out
  have hC2 := kernel_any p m A1 c1 gs w1 hrd HP.out hmg (by omega) hl
  rw [hgl, ← hLg] at hC2
  have HC2 := Lib.hid hC2
  have hB1 := hO1.below_
  clear hC2 hmg hgl hLg hrd hret hO1
  go_wp2_with (fail)
  refine HC2.out.mono ?_
  rintro e w2 hret
  obtain ⟨A2, c2, rfl, hO2⟩ := hret.om
  go_wp2_with (fail)
  go_ret
  exact hret.mono hB1
end Go.Proofs.YtahnhblodfdfhaaDoor
