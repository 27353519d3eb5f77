/-
  THE WALKS: impl.clones, impl.reduced.
-/
import Derived.Test.YtomekicglojhhaaDoorReduc
namespace Go.Proofs.YtomekicglojhhaaDoor
open Go.RowKit

set_option maxHeartbeats 1000000 in
theorem clones_any (A : Option Addr) (c : Nat) (hs : List Hd) (w : World) (h : RdR w A hs) (hl : hs.length ≤ 1048576) (hr : ∀ x, x ∈ hs → x.2.2.length ≤ 1048576) :
    Calls Tryd.prog 115 #[.slice A hs.length c] w (RetSS w (hs.map fun h : Hd => h.2.2)) := by
  obtain ⟨L, hLh⟩ : ∃ L, L = hs.map fun h : Hd => h.2.2 := ⟨_, rfl⟩
  rw [← hLh]
  obtain ⟨m, hmm⟩ : ∃ m, m = hs.length := ⟨_, rfl⟩
  rw [← hmm] at hl ⊢
  have HLh := Lib.hid hLh
  have HM := Lib.hid hmm
  have hLen := Lib.hid (show L.length = m by rw [hLh, List.length_map, hmm])
  clear hLh hmm
  go_enter Tryd.func115, Tryd.ntmps115
  go_wp2_with (at_make; refine wpList_make_Sl _ rfl _ _ _ rfl 47 Tryd.underlying22 info_ints 0 m rfl rfl rfl rfl (Nat.zero_le _) (by omega) (by unfold maxLen; omega) ?_; intro G w1 hs1 hG hb1)
  have hOM0 : OM w w1 (some G) m [] := by
    refine ⟨[], rfl, ⟨by simpa using hs1, fun h hh => (by cases hh), .nil, fun h hh => (by cases hh)⟩, fun b hb => ?_, hb1⟩
    have : b = G.block := by simpa [fpR] using hb
    subst this; exact hG
  clear hs1
  go_loopw [11, 3] (fun i v wr => ∃ (k : Nat) (A' : Option Addr) (c' : Nat), k ≤ m ∧ i = .int .i64 k ∧ v = .slice A' k c' ∧ OM w wr A' c' (L.take k)) (fun i _ _ => m - (intOf i).toNat)
  case atStart => exact ⟨0, some G, m, Nat.zero_le _, rfl, rfl, hOM0⟩
  case round =>
    clear hOM0
    obtain ⟨k, A', c', hk, rfl, rfl, hOM⟩ := hrel
    by_cases hlt : k < m
    · obtain ⟨ad, B, d, l, rfl, hx, hc, hri⟩ := (h.below hOM.below_).at_ (k := k) (by rw [← HM.out]; exact hlt)
      have hlx : L[k]? = some l := by rw [HLh.out, List.getElem?_map, hx]; rfl
      have hll : l.length ≤ 1048576 := hr _ (List.mem_of_getElem? hx)
      obtain ⟨gs, hLg, hO, hf, h0⟩ := hOM
      have hgl : gs.length = k := by
        have := congrArg List.length hLg
        rw [List.length_take, hLen.out, List.length_map] at this
        omega
      have HX := Lib.hid hlx
      have HG := Lib.hid hLg
      have HGL := Lib.hid hgl
      have hkI : (k : Int) < (m : Int) := by omega
      have hC := clone_any B d l wr hri (by omega)
      have HC := Lib.hid hC
      clear hx hlx hLg hgl hC h hr
      go_wp2_with (fail)
      refine HC.out.mono ?_
      rintro e w1 ⟨B1, c1, rfl, hi1, hf1, hb1⟩
      have hsl : Sl (w1.alloc (.cells #[.slice B1 l.length c1] 47)) 47 1 A' k c' (gs.map Hd.val) := by
        have := (hO.sl.below hb1).alloc (.cells #[.slice B1 l.length c1] 47)
        rwa [HGL.out] at this
      go_wp2_with (at_builtin; refine wpList_append_Sl _ rfl _ _ _ rfl 47 Tryd.underlying22 info_ints rfl (by omega) rfl hsl rfl (news := [.slice B1 l.length c1]) rfl (Sl.rdc (Sl.laid w1 47 1 1 #[.slice B1 l.length c1] (by unfold maxLen; omega) rfl)) (by intro u hu; simp at hu; subst hu; rfl) (by unfold maxLen; omega) (by omega) ?_; intro A2 c2 w2 hs2 hA2 hk2)
      have hal : Below w1.heap.size w1 (w1.alloc (.cells #[.slice B1 l.length c1] 47)) := (Below.refl _ _).alloc (Nat.le_refl _) _
      have hOM2 := OM.snoc (w1 := w1.alloc (.cells #[.slice B1 l.length c1] 47)) HG.out hO hf h0 (below_trans hb1 hal hb1.size) (hi1.below hal) hf1 (by rw [HGL.out]) hs2 hA2 hk2
      have HO := Lib.hid hOM2
      clear hOM2 hs2 hsl hO hf
      go_roundw
      case rel => exact ⟨k + 1, A2, c2, by omega, by go_num, rfl, by rw [List.take_add_one, HX.out]; exact HO.out⟩
      case measure => simp [intOf]; omega
    · obtain rfl : m = k := by omega
      have hOM' : OM w wr A' c' L := by have := hOM; rwa [List.take_of_length_le (by rw [hLen.out]; omega)] at this
      clear hOM h hr
      go_wp2_with (fail)
      go_ret
      have := hOM'.ret
      rw [hLen.out] at this
      exact this

theorem nils_rw {w1 : World} {G : Addr} {m : Nat} (hs : Sl w1 47 1 (some G) m m ((List.replicate m nilHd).map Hd.val)) : RwF w1 (some G) m (List.replicate m []) [G.block] := by
  refine ⟨List.replicate m nilHd, by simp [nilHd], ⟨by simpa using hs, fun h hh => ?_, ?_, fun h hh b hb => ?_⟩, fun b hb => ?_⟩
  · obtain rfl := (List.mem_replicate.1 hh).2
    exact Sl.nil _ _ _
  · refine List.pairwise_iff_getElem.2 fun i j hi hj _ b hb => ?_
    simp [nilHd] at hb
  · obtain rfl := (List.mem_replicate.1 hh).2
    simp [nilHd] at hb
  · rcases List.mem_append.1 hb with hb | hb
    · simpa using hb
    · obtain ⟨x, hx, hb⟩ := mem_fpR.1 hb
      obtain rfl := (List.mem_replicate.1 hx).2
      simp [nilHd] at hb

set_option maxHeartbeats 1000000 in
theorem reduced_any (p : Int) (n : Nat) (A : Option Addr) (c : Nat) (hs : List Hd) (w : World) (h : RdR w A hs) (hp : fieldB p = true) (hm : Mat p hs.length n (hs.map fun h : Hd => h.2.2)) (hl : hs.length ≤ 1048576) (hn : n ≤ 1048576) :
    Calls Tryd.prog 126 #[.int .i64 p, .slice A hs.length c, .int .i64 n] w (RetSS w (redM p n (hs.map fun h : Hd => h.2.2))) := by
  have hC := clones_any A c hs w h hl (fun x hx => by have := (hm.row _ (List.mem_map_of_mem hx)).1; omega)
  obtain ⟨L, hLh⟩ : ∃ L, L = hs.map fun h : Hd => h.2.2 := ⟨_, rfl⟩
  rw [← hLh] at hm hC ⊢
  obtain ⟨m, hmm⟩ : ∃ m, m = hs.length := ⟨_, rfl⟩
  rw [← hmm] at hl hm hC ⊢
  have hpb := fieldB_bounds hp
  have HC := Lib.hid hC
  have HMat := Lib.hid hm
  have HL := Lib.hid hm.len
  clear hC hLh hmm hm h
  go_enter Tryd.func126, Tryd.ntmps126
  go_wp2_with (fail)
  refine HC.out.mono ?_
  rintro e w1 hret
  obtain ⟨A1, c1, rfl, hO1⟩ := hret.om
  rw [HL.out]
  clear hret
  go_wp2_with (at_make; refine wpList_make_Sl _ rfl _ _ _ rfl 47 Tryd.underlying22 info_ints m m rfl rfl rfl rfl (Nat.le_refl _) (by omega) (by unfold maxLen; omega) ?_; intro G w2 hs2 hG hb2)
  have hs2' : Sl w2 47 1 (some G) m m ((List.replicate m nilHd).map Hd.val) := by rw [← madeNils]; simpa using hs2
  have hK := nils_rw hs2'
  have hGl : G.block < w2.heap.size := hs2'.lt G.block (by simp)
  obtain ⟨fp, hR1, hfr, hlt⟩ := hO1.rw_
  have hR2 := hR1.below hb2
  have hmK : Mat p m 0 (List.replicate m []) := ⟨by simp, fun v hv => by obtain rfl := (List.mem_replicate.1 hv).2; exact ⟨rfl, fun x hx => by cases hx⟩⟩
  have hRd := reduction_any p n m 0 A1 c1 L fp (some G) m (List.replicate m []) [G.block] w2 hR2 hK (fun b hb hb' => by
    have := hlt b hb
    have e : b = G.block := by simpa using hb'
    omega) (fun b hb => Nat.lt_of_lt_of_le (hlt b hb) hb2.size) (fun b hb => by have e : b = G.block := by simpa using hb
                                                                                omega) hp HMat.out hmK hl hn (by omega)
  obtain ⟨e1, e2⟩ := redTo_fst p L (List.replicate m []) [] n
  rw [e1, e2] at hRd
  have hB2 : Below w.heap.size w w2 := below_trans hO1.below_ hb2 hO1.below_.size
  have hres : redM p n L = (redTo p L [] n).2.1.take (redTo p L [] n).1 := rfl
  obtain ⟨hMt, hRm⟩ := redTo_mat hp HMat.out [] (Nat.le_refl n)
  obtain ⟨R, hR⟩ : ∃ R, R = (redTo p L [] n).1 := ⟨_, rfl⟩
  obtain ⟨M, hM⟩ : ∃ M, M = (redTo p L [] n).2.1 := ⟨_, rfl⟩
  rw [← hR, ← hM] at hRd hres
  rw [← hM] at hMt
  rw [← hR] at hRm
  have HRd := Lib.hid hRd
  have HRES := Lib.hid hres
  have HML := Lib.hid hMt.len
  have HP := Lib.hid hp
  have HFR := Lib.hid hfr
  have hGw : w.heap.size ≤ G.block := Nat.le_trans hO1.below_.size hG
  clear hRd hres hMt hs2 hs2' hK hR1 hR2 hmK e1 e2 hO1 hR hM hp hfr hlt
  go_wp2_with (fail)
  refine HRd.out.mono ?_
  rintro e w3 ⟨rfl, h1, _, hk3⟩
  have hB3 : Below w.heap.size w w3 := below_keeps hB2 hk3 hB2.size fun b hb => by
    rcases hb with hb | hb
    · exact HFR.out b hb
    · have e : b = G.block := by simpa using hb
      omega
  obtain ⟨gs, hLg, hO, hf, h0⟩ := h1.om (w0 := w) HFR.out hB3
  have hgl : gs.length = m := by
    have := congrArg List.length hLg
    rw [HML.out, List.length_map] at this; omega
  have HG := Lib.hid hLg
  have HGL := Lib.hid hgl
  have hsl : Sl w3 47 1 A1 m c1 (gs.map Hd.val) := by have := hO.sl; rwa [hgl] at this
  clear hLg hgl h1
  go_wp2_with (refine wpList_slice_Sl rfl (.tmp 20) none (some (.tmp 21)) (some (.tmp 22)) 22 rfl 47 Tryd.underlying22 info_ints rfl hsl 0 R R (optNone rfl) (optSome (by omega)) (optSome (by omega)) (by omega) (by omega) (Nat.le_refl _) (by have := hsl.2.1; omega) ?_; intro A2 hcut hfp _)
  go_ret
  have hT := OM.take (k := R) (m := R) (A' := A2) HG.out hO hf h0 (by rw [HGL.out]; omega) (by rw [List.map_take]; simpa using hcut) hfp
  have hlen : (M.take R).length = R := by rw [List.length_take, HML.out]; omega
  have hr := hT.ret
  rw [hlen] at hr
  rw [HRES.out]
  exact hr
end Go.Proofs.YtomekicglojhhaaDoor
