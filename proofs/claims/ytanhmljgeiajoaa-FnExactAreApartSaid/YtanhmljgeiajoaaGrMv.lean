/-
  THE WALKS: graphs whose wires become others (hgMap, moved).
-/
import Derived.Test.YtanhmljgeiajoaaGrN
import Derived.Test.YtanhmljgeiajoaaGrJ
import Derived.Test.YtanhmljgeiajoaaRegC
import Derived.Deep.DeepCutAuto
namespace Go.Proofs.Ytanhmljgeiajoaa
open Go.RowKit

theorem OIg.ls {w0 w : World} {A : Option Addr} {c : Nat} {l : List Int} (h : OIg w0 w A c l) : OwLs w [] [(A, c, l)] := OwLs.one (x := (A, c, l)) h.is

theorem alloc_box1g (w : World) (o : Obj) : ∃ W, W = w.alloc o ∧ Below w.heap.size w W ∧ W.heap[w.heap.size]? = some o := ⟨_, rfl, below_alloc _ _, heap_alloc_new _ _⟩
set_option maxRecDepth 100000 in
set_option maxHeartbeats 8000000 in
theorem hgMap_any {v : Value} {g : Gr} (w : World) (cnt : Int) (T : Option Addr) (tc n : Nat) (tt : List Int) (h : RdGr w v g) (ok : OkG g) (ht : RdI w T tt) (htn : tt.length = n) (hin : inW (n : Int) (allW g) = true) :
    Calls Try.prog 73 #[v, .slice T n tc, .int .i64 cnt] w fun e w' => ∃ v' fp, e = .returned v' ∧ OwGr w' v' (mapG tt cnt g) fp ∧ FreshL w.heap.size fp ∧ Below w.heap.size w w' := by
  obtain ⟨A, c, hs, ⟨B, b, s⟩, ⟨C, d, t⟩, rfl, e1, e2, e3, hE, hRa, hRb⟩ := h
  obtain ⟨z, es, s0, t0⟩ := g
  have a1 : es = hs.map egOf := e1
  have a2 : s = s0 := e2
  have a3 : t = t0 := e3
  subst a2 a3
  have hin0 : inW (n : Int) (s ++ (t ++ edW es)) = true := hin
  have hinS := inW_iff.1 (inW_app_left hin0)
  have hinT := inW_iff.1 (inW_app_left (inW_app_right hin0))
  have hinE := inW_iff.1 (inW_app_right (inW_app_right hin0))
  have hlen1 : es.length ≤ 1048576 := ok.1.1
  have hlen2 : s.length ≤ 1048576 := ok.1.2.1
  have hlen3 : t.length ≤ 1048576 := ok.1.2.2
  have hlE : ∀ x, x ∈ es → x.2.2.1.length ≤ 1048576 ∧ x.2.2.2.length ≤ 1048576 := ok.2.1
  obtain ⟨m, hm⟩ : ∃ m, m = hs.length := ⟨_, rfl⟩
  obtain ⟨p, hp⟩ : ∃ p, p = s.length := ⟨_, rfl⟩
  obtain ⟨r, hr⟩ : ∃ r, r = t.length := ⟨_, rfl⟩
  have hmes : es.length = m := by rw [a1, List.length_map, hm]
  have hRa0 : RdI w B s := hRa
  have hRb0 : RdI w C t := hRb
  obtain ⟨G, hG⟩ : ∃ G, G = mapG tt cnt (z, es, s, t) := ⟨_, rfl⟩
  rw [← hG]
  show Calls Try.prog _ #[.agg #[.int .i64 z, .slice A hs.length c, .slice B s.length b, .slice C t.length d], .slice T n tc, .int .i64 cnt] w _
  rw [← hm, ← hp, ← hr]
  obtain ⟨W, hW, bW, k0, k1⟩ := allocs2 w (.cells #[.int .i64 z, .slice A m c, .slice B p b, .slice C r d] tGr) (.cells #[.int .i64 0, .slice none 0 0, .slice none 0 0, .slice none 0 0] tGr)
  have hC1 := fun (W' : World) (hb : Below w.heap.size w W') => hgList_any B T b tc p n s tt W' (hRa0.below hb) (ht.below hb) hp.symm htn hinS (by omega)
  have hC2 := fun (W' : World) (hb : Below w.heap.size w W') => hgList_any C T d tc r n t tt W' (hRb0.below hb) (ht.below hb) hr.symm htn hinT (by omega)
  have hmb : (m : Int) ≤ 1048576 := by omega
  clear hRa hRb ok e1 e2 e3 hin hin0 hlen1 hlen2 hlen3 hinS hinT
  have hE_h := Lib.hid hE
  have hRa0_h := Lib.hid hRa0
  have hRb0_h := Lib.hid hRb0
  have a1_h := Lib.hid a1
  have hlE_h := Lib.hid hlE
  have hm_h := Lib.hid hm
  have hp_h := Lib.hid hp
  have hr_h := Lib.hid hr
  have hmes_h := Lib.hid hmes
  have hinE_h := Lib.hid hinE
  have hC1_h := Lib.hid hC1
  have hC2_h := Lib.hid hC2
  have bW_h := Lib.hid bW
  have k0_h := Lib.hid k0
  have k1_h := Lib.hid k1
  have ht_h := Lib.hid ht
  have htn_h := Lib.hid htn
  have hG_h := Lib.hid hG
  clear hE hRa0 hRb0 a1 hlE hm hp hr hmes hinE hC1 hC2 bW k0 k1 ht htn hG
  go_enter Try.func73, Try.ntmps73
  go_upto_region 1 with (fail)
  rw [← hW]
  clear hW
  go_cut [7] (fun sv wx => ∃ (bx : Nat) (X Y : Hd), sv = .pointer (some ⟨bx, 0, none⟩) ∧ wx.heap[bx]? = some (.cells #[.int .i64 cnt, .slice none 0 0, .slice X.1 p X.2.1, .slice Y.1 r Y.2.1] tGr) ∧ X.2.2 = mapL tt s ∧ Y.2.2 = mapL tt t ∧ OwLs wx [] [X, Y] ∧ (∀ x, x ∈ fpR [X, Y] → W.heap.size ≤ x ∧ x ≠ bx) ∧ W.heap.size ≤ bx ∧ Below W.heap.size W wx)
  case first =>
    refine beginH (fun w' => w'.heap[w.heap.size]? = some (.cells #[.int .i64 z, .slice A m c, .slice B p b, .slice C r d] tGr)) (by kernel_rfl) ?_
    have hbd : Below W.heap.size W W.drew := below_drew (Below.refl _ _)
    generalize W.drew = W1 at hbd ⊢
    have k0d := box_below k0_h.out hbd
    have hBd := below_trans bW_h.out hbd bW_h.out.size
    have hbd_h := Lib.hid hbd
    have k0d_h := Lib.hid k0d
    have hBd_h := Lib.hid hBd
    clear hbd k0d hBd
    refine takeH 0 (v := ?_) rfl (by kernel_rfl) (by kernel_rfl) (by kernel_rfl) (fun _ _ _ h => h) k0d_h.out (by rfl) (fun W' hW' => ?_) ?_; rotate_left; · (obtain ⟨⟨y0, y1, y2, y3⟩, y4, y5, y6, y7⟩ := box4 hW'; clear hW'; go_simp; first | done | with_reducible rfl)
    simp only [Act.put, List.setIfInBounds_toArray, List.set_cons_zero, List.set_cons_succ]
    refine takeH 1 (v := ?_) rfl (by kernel_rfl) (by kernel_rfl) (by kernel_rfl) (fun _ _ _ h => h) k0d_h.out (by rfl) (fun W' hW' => ?_) ?_; rotate_left; · (obtain ⟨⟨y0, y1, y2, y3⟩, y4, y5, y6, y7⟩ := box4 hW'; clear hW'; go_simp; first | done | with_reducible rfl)
    simp only [Act.put, List.setIfInBounds_toArray, List.set_cons_zero, List.set_cons_succ]
    refine takeH 2 (v := ?_) rfl (by kernel_rfl) (by kernel_rfl) (by kernel_rfl) (fun _ _ _ h => h) k0d_h.out (by rfl) (fun W' hW' => ?_) ?_; rotate_left; · (obtain ⟨⟨y0, y1, y2, y3⟩, y4, y5, y6, y7⟩ := box4 hW'; clear hW'; go_simp; first | done | with_reducible rfl)
    simp only [Act.put, List.setIfInBounds_toArray, List.set_cons_zero, List.set_cons_succ]
    refine takeH 3 (v := ?_) rfl (by kernel_rfl) (by kernel_rfl) (by kernel_rfl) (fun _ _ _ h => h) k0d_h.out (by rfl) (fun W' hW' => ?_) ?_; rotate_left; · (obtain ⟨⟨y0, y1, y2, y3⟩, y4, y5, y6, y7⟩ := box4 hW'; clear hW'; go_simp; first | done | with_reducible rfl)
    simp only [Act.put, List.setIfInBounds_toArray, List.set_cons_zero, List.set_cons_succ]
    refine takeH 5 (v := ?_) rfl (by kernel_rfl) (by kernel_rfl) (by kernel_rfl) (fun _ _ _ h => h) k0d_h.out (by rfl) (fun W' hW' => ?_) ?_; rotate_left; · (obtain ⟨⟨y0, y1, y2, y3⟩, y4, y5, y6, y7⟩ := box4 hW'; clear hW'; go_simp; first | done | with_reducible rfl)
    simp only [Act.put, List.setIfInBounds_toArray, List.set_cons_zero, List.set_cons_succ]
    refine takeH 6 (v := ?_) rfl (by kernel_rfl) (by kernel_rfl) (by kernel_rfl) (fun _ _ _ h => h) k0d_h.out (by rfl) (fun W' hW' => ?_) ?_; rotate_left; · (obtain ⟨⟨y0, y1, y2, y3⟩, y4, y5, y6, y7⟩ := box4 hW'; clear hW'; go_simp; first | done | with_reducible rfl)
    simp only [Act.put, List.setIfInBounds_toArray, List.set_cons_zero, List.set_cons_succ]
    refine takeH 7 (v := ?_) rfl (by kernel_rfl) (by kernel_rfl) (by kernel_rfl) (fun _ _ _ h => h) k0d_h.out (by rfl) (fun W' hW' => ?_) ?_; rotate_left; · (obtain ⟨⟨y0, y1, y2, y3⟩, y4, y5, y6, y7⟩ := box4 hW'; clear hW'; go_simp; first | done | with_reducible rfl)
    simp only [Act.put, List.setIfInBounds_toArray, List.set_cons_zero, List.set_cons_succ]
    refine callOrH 4 10 (f := ?fo1) (args := ?argso1) (vj := ?vjo1) (wj := ?wjo1) rfl rfl (by kernel_rfl) (by rfl) (by rfl) ?hruno1 ?hrunjo1 ?h1o1 ?hSjo1 ?h2o1
    case hruno1 => (go_simp; first | done | with_reducible rfl | (constructor <;> with_reducible rfl))
    case hrunjo1 => (go_simp; first | done | with_reducible rfl | (constructor <;> with_reducible rfl))
    case hSjo1 => exact (box_below k0d_h.out (below_alloc _ _))
    case h1o1 =>
      refine (hC1_h.out W1 hBd_h.out).mono ?_
      rintro e w2 ⟨A2, c2, rfl, hO2⟩
      have hB2 := below_trans hBd_h.out hO2.below_ hBd_h.out.size
      have k2 := box_below k0d_h.out hO2.below_
      have hW2 := below_trans hbd_h.out hO2.below_ hbd_h.out.size
      refine ⟨_, rfl, k2, ?_⟩
      have hO2_h := Lib.hid hO2
      have hB2_h := Lib.hid hB2
      have k2_h := Lib.hid k2
      have hW2_h := Lib.hid hW2
      clear hO2 hB2 k2 hW2
      simp only [Act.put, List.setIfInBounds_toArray, List.set_cons_zero, List.set_cons_succ]
      refine callOrH 8 10 (f := ?fo2) (args := ?argso2) (vj := ?vjo2) (wj := ?wjo2) rfl rfl (by kernel_rfl) (by rfl) (by rfl) ?hruno2 ?hrunjo2 ?h1o2 ?hSjo2 ?h2o2
      case hruno2 => (go_simp; first | done | with_reducible rfl | (constructor <;> with_reducible rfl))
      case hrunjo2 => (go_simp; first | done | with_reducible rfl | (constructor <;> with_reducible rfl))
      case hSjo2 => exact (box_below k2_h.out (below_alloc _ _))
      case h1o2 =>
        refine (hC2_h.out w2 hB2_h.out).mono ?_
        rintro e w3 ⟨A3, c3, rfl, hO3⟩
        have k3 := box_below k2_h.out hO3.below_
        have hW3 := below_trans hW2_h.out hO3.below_ hW2_h.out.size
        have hLs := OwLs.two (x := (A2, c2, mapL tt s)) (y := (A3, c3, mapL tt t)) hO2_h.out.is hO3.below_ hO3.is hO3.new
        have hlt2 := hLs.lt
        have hfr : ∀ x, x ∈ fpR [((A2, c2, mapL tt s) : Hd), (A3, c3, mapL tt t)] → W.heap.size ≤ x ∧ x ≠ w3.heap.size := fun x hx => by
          have h1 := hlt2 x hx
          rw [fpR_cons, fpR_cons] at hx
          rcases List.mem_append.1 hx with hx | hx
          · have := hO2_h.out.new x hx; have := hbd_h.out.size; omega
          · rcases List.mem_append.1 hx with hx | hx
            · have := hO3.new x hx; have := hW2_h.out.size; omega
            · simp [fpR] at hx
        refine ⟨_, rfl, k3, ?_⟩
        obtain ⟨W5, hW5, bW5, x5⟩ := alloc_box1g w3 (.cells #[.int .i64 0, .slice none 0 0, .slice none 0 0, .slice none 0 0] tGr)
        obtain ⟨s1, s2⟩ := set4 (a := .int .i64 cnt) (b := .slice none 0 0) (c := .slice A2 p c2) (d := .slice A3 r c3) x5
        have k5 := box_below k3 bW5
        have k6 := box_keeps k5 s2 (by have := box_lt k3; omega)
        have hLs5 := (hLs.below bW5).keeps s2 (fun x hx e => (hfr x hx).2 e)
        have hBf := below_keeps (below_trans hW3 bW5 hW3.size) s2 (Nat.le_trans hW3.size bW5.size) (fun x hx => by rw [hx]; exact hW3.size)
        have hge := hW3.size
        obtain ⟨⟨y0, y1, y2, y3⟩, y4, y5, y6, y7⟩ := box4 x5
        have k3_h := Lib.hid k3
        have hLs5_h := Lib.hid hLs5
        have hBf_h := Lib.hid hBf
        have s1_h := Lib.hid s1
        have s2_h := Lib.hid s2
        have x5_h := Lib.hid x5
        have k5_h := Lib.hid k5
        have k6_h := Lib.hid k6
        have hfr_h := Lib.hid hfr
        have hge_h := Lib.hid hge
        clear k3 hLs5 hBf s1 s2 x5 k5 k6 hfr hge
        clear hW3 hLs hlt2 bW5 hO3
        simp only [Act.put, List.setIfInBounds_toArray, List.set_cons_zero, List.set_cons_succ]
        refine takeH 9 (v := ?_) rfl (by kernel_rfl) (by kernel_rfl) (by kernel_rfl) (fun _ _ _ h => h) k3_h.out (by rfl) (fun W' hW' => ?_) ?_; rotate_left; · (skip; clear hW'; go_simp; first | done | with_reducible rfl)
        simp only [Act.put, List.setIfInBounds_toArray, List.set_cons_zero, List.set_cons_succ]
        refine oneH 10 rfl (by kernel_rfl) (by rfl) (fun K hK => ?_)
        go_simp
        rw [← hW5]
        refine hK _ _ k5_h.out ?_
        clear hK K hW5
        refine oneH 11 rfl (by kernel_rfl) (by rfl) (fun K hK => ?_)
        go_simp
        refine hK _ _ k6_h.out ?_
        clear hK K
        refine doneH (by kernel_rfl) ?_
        go_wp2_with (fail)
        go_meet
        exact ⟨w3.heap.size, (A2, c2, mapL tt s), (A3, c3, mapL tt t), rfl, s1_h.out, rfl, rfl, hLs5_h.out, hfr_h.out, hge_h.out, hBf_h.out⟩
      case h2o2 =>
        have bA := below_alloc w2 (.cells #[.int .i64 0, .slice none 0 0, .slice none 0 0, .slice none 0 0] tGr)
        have kA := heap_alloc_new w2 (.cells #[.int .i64 0, .slice none 0 0, .slice none 0 0, .slice none 0 0] tGr)
        have hB3 := below_trans hB2_h.out bA hB2_h.out.size
        have hWA := below_trans hW2_h.out bA hW2_h.out.size
        have k2a := box_below k2_h.out bA
        have hzA : (w2.alloc (.cells #[.int .i64 0, .slice none 0 0, .slice none 0 0, .slice none 0 0] tGr)).heap.size = w2.heap.size + 1 := World.size_alloc _ _
        simp only [Act.put, List.setIfInBounds_toArray, List.set_cons_zero, List.set_cons_succ]
        refine' callH 8 (f := _) (args := _) rfl (by kernel_rfl) (by rfl) ?_ ?_; rotate_left 2; · (go_simp; first | done | with_reducible rfl | (constructor <;> with_reducible rfl))
        refine (hC2_h.out _ hB3).mono ?_
        rintro e w3 ⟨A3, c3, rfl, hO3⟩
        have k3 := box_below k2a hO3.below_
        have kb := box_below kA hO3.below_
        have hW3 := below_trans hWA hO3.below_ hWA.size
        have hLs := OwLs.two (x := (A2, c2, mapL tt s)) (y := (A3, c3, mapL tt t)) (hO2_h.out.is.below bA) hO3.below_ hO3.is hO3.new
        have hws := hW2_h.out.size
        have hzk := box_lt k2_h.out
        have hfr : ∀ x, x ∈ fpR [((A2, c2, mapL tt s) : Hd), (A3, c3, mapL tt t)] → W.heap.size ≤ x ∧ x ≠ w2.heap.size := fun x hx => by
          rw [fpR_cons, fpR_cons] at hx
          rcases List.mem_append.1 hx with hx | hx
          · have h1 := hO2_h.out.is.lt x hx; have := hO2_h.out.new x hx; have := hbd_h.out.size; omega
          · rcases List.mem_append.1 hx with hx | hx
            · have := hO3.new x hx; omega
            · simp [fpR] at hx
        obtain ⟨s1, s2⟩ := set4 (a := .int .i64 cnt) (b := .slice none 0 0) (c := .slice A2 p c2) (d := .slice A3 r c3) kb
        have k6 := box_keeps k3 s2 (by omega)
        have hLs5 := hLs.keeps s2 (fun x hx e => (hfr x hx).2 e)
        have hBf := below_keeps hW3 s2 hW3.size (fun x hx => by omega)
        refine ⟨_, rfl, k3, ?_⟩
        obtain ⟨⟨y0, y1, y2, y3⟩, y4, y5, y6, y7⟩ := box4 kb
        have k3_h := Lib.hid k3
        have hLs5_h := Lib.hid hLs5
        have hBf_h := Lib.hid hBf
        have s1_h := Lib.hid s1
        have s2_h := Lib.hid s2
        have kb_h := Lib.hid kb
        have k6_h := Lib.hid k6
        have hfr_h := Lib.hid hfr
        clear k3 hLs5 hBf s1 s2 kb k6 hfr
        clear hW3 hLs hO3
        simp only [Act.put, List.setIfInBounds_toArray, List.set_cons_zero, List.set_cons_succ]
        refine takeH 9 (v := ?_) rfl (by kernel_rfl) (by kernel_rfl) (by kernel_rfl) (fun _ _ _ h => h) k3_h.out (by rfl) (fun W' hW' => ?_) ?_; rotate_left; · (skip; clear hW'; go_simp; first | done | with_reducible rfl)
        simp only [Act.put, List.setIfInBounds_toArray, List.set_cons_zero, List.set_cons_succ]
        refine oneH 11 rfl (by kernel_rfl) (by rfl) (fun K hK => ?_)
        go_simp
        refine hK _ _ k6_h.out ?_
        clear hK K
        refine doneH (by kernel_rfl) ?_
        go_wp2_with (fail)
        go_meet
        exact ⟨w2.heap.size, (A2, c2, mapL tt s), (A3, c3, mapL tt t), rfl, s1_h.out, rfl, rfl, hLs5_h.out, hfr_h.out, by omega, hBf_h.out⟩
    case h2o1 =>
      have bA := below_alloc W1 (.cells #[.int .i64 0, .slice none 0 0, .slice none 0 0, .slice none 0 0] tGr)
      have kA := heap_alloc_new W1 (.cells #[.int .i64 0, .slice none 0 0, .slice none 0 0, .slice none 0 0] tGr)
      have hBa := below_trans hBd_h.out bA hBd_h.out.size
      have hWA := below_trans hbd_h.out bA hbd_h.out.size
      have k2a := box_below k0d_h.out bA
      have hzA : (W1.alloc (.cells #[.int .i64 0, .slice none 0 0, .slice none 0 0, .slice none 0 0] tGr)).heap.size = W1.heap.size + 1 := World.size_alloc _ _
      simp only [Act.put, List.setIfInBounds_toArray, List.set_cons_zero, List.set_cons_succ]
      refine' callH 4 (f := _) (args := _) rfl (by kernel_rfl) (by rfl) ?_ ?_; rotate_left 2; · (go_simp; first | done | with_reducible rfl | (constructor <;> with_reducible rfl))
      refine (hC1_h.out _ hBa).mono ?_
      rintro e w2 ⟨A2, c2, rfl, hO2⟩
      have hB2 := below_trans hBa hO2.below_ hBa.size
      have k2 := box_below k2a hO2.below_
      have kb2 := box_below kA hO2.below_
      have hW2 := below_trans hWA hO2.below_ hWA.size
      refine ⟨_, rfl, k2, ?_⟩
      simp only [Act.put, List.setIfInBounds_toArray, List.set_cons_zero, List.set_cons_succ]
      refine' callH 8 (f := _) (args := _) rfl (by kernel_rfl) (by rfl) ?_ ?_; rotate_left 2; · (go_simp; first | done | with_reducible rfl | (constructor <;> with_reducible rfl))
      refine (hC2_h.out _ hB2).mono ?_
      rintro e w3 ⟨A3, c3, rfl, hO3⟩
      have k3 := box_below k2 hO3.below_
      have kb := box_below kb2 hO3.below_
      have hW3 := below_trans hW2 hO3.below_ hW2.size
      have hLs := OwLs.two (x := (A2, c2, mapL tt s)) (y := (A3, c3, mapL tt t)) hO2.is hO3.below_ hO3.is hO3.new
      have hws := hbd_h.out.size
      have hzk := box_lt k0d_h.out
      have hws2 := hO2.below_.size
      have hfr : ∀ x, x ∈ fpR [((A2, c2, mapL tt s) : Hd), (A3, c3, mapL tt t)] → W.heap.size ≤ x ∧ x ≠ W1.heap.size := fun x hx => by
        rw [fpR_cons, fpR_cons] at hx
        rcases List.mem_append.1 hx with hx | hx
        · have := hO2.new x hx; omega
        · rcases List.mem_append.1 hx with hx | hx
          · have := hO3.new x hx; omega
          · simp [fpR] at hx
      obtain ⟨s1, s2⟩ := set4 (a := .int .i64 cnt) (b := .slice none 0 0) (c := .slice A2 p c2) (d := .slice A3 r c3) kb
      have k6 := box_keeps k3 s2 (by omega)
      have hLs5 := hLs.keeps s2 (fun x hx e => (hfr x hx).2 e)
      have hBf := below_keeps hW3 s2 hW3.size (fun x hx => by omega)
      refine ⟨_, rfl, k3, ?_⟩
      obtain ⟨⟨y0, y1, y2, y3⟩, y4, y5, y6, y7⟩ := box4 kb
      have k3_h := Lib.hid k3
      have hLs5_h := Lib.hid hLs5
      have hBf_h := Lib.hid hBf
      have s1_h := Lib.hid s1
      have s2_h := Lib.hid s2
      have kb_h := Lib.hid kb
      have k6_h := Lib.hid k6
      have hfr_h := Lib.hid hfr
      clear k3 hLs5 hBf s1 s2 kb k6 hfr
      clear hW3 hLs hO3
      simp only [Act.put, List.setIfInBounds_toArray, List.set_cons_zero, List.set_cons_succ]
      refine takeH 9 (v := ?_) rfl (by kernel_rfl) (by kernel_rfl) (by kernel_rfl) (fun _ _ _ h => h) k3_h.out (by rfl) (fun W' hW' => ?_) ?_; rotate_left; · (skip; clear hW'; go_simp; first | done | with_reducible rfl)
      simp only [Act.put, List.setIfInBounds_toArray, List.set_cons_zero, List.set_cons_succ]
      refine oneH 11 rfl (by kernel_rfl) (by rfl) (fun K hK => ?_)
      go_simp
      refine hK _ _ k6_h.out ?_
      clear hK K
      refine doneH (by kernel_rfl) ?_
      go_wp2_with (fail)
      go_meet
      exact ⟨W1.heap.size, (A2, c2, mapL tt s), (A3, c3, mapL tt t), rfl, s1_h.out, rfl, rfl, hLs5_h.out, hfr_h.out, by omega, hBf_h.out⟩
  case rest =>
    obtain ⟨bx, ⟨X1, X2, X3⟩, ⟨Y1, Y2, Y3⟩, rfl, kx, rfl, rfl, hLs, hfr, hbx, hBc⟩ := hcut
    obtain ⟨w4, rfl⟩ : ∃ x, x = wc := ⟨_, rfl⟩
    have k0c := box_below k0_h.out hBc
    have hws := bW_h.out.size
    obtain ⟨⟨c0, c1, c2, c3⟩, f0, f1, f2, f3⟩ := box4 k0c
    have k0c_h := Lib.hid k0c
    have kx_h := Lib.hid kx
    have hLs_h := Lib.hid hLs
    have hfr_h := Lib.hid hfr
    have hBc_h := Lib.hid hBc
    clear k0c kx hLs hfr hBc
    go_wp2_with (fail)
    clear c0 c1 c2 c3 f0 f1 f2 f3
    go_loopw [23] (fun i wr => ∃ (k : Nat) (A' : Option Addr) (c' : Nat) (ys : List EHd), k ≤ m ∧ i = .int .i64 k ∧ ys.length = k ∧ ys.map egOf = (es.take k).map (mapE tt) ∧ wr.heap[bx]? = some (.cells #[.int .i64 cnt, .slice A' k c', .slice X1 p X2, .slice Y1 r Y2] tGr) ∧ Sl wr tEd 4 A' k c' (ecs ys) ∧ OwLs wr (fpA A') ((X1, X2, mapL tt s) :: (Y1, Y2, mapL tt t) :: eh ys) ∧ (∀ x, x ∈ fpA A' ++ fpR (((X1, X2, mapL tt s) : Hd) :: (Y1, Y2, mapL tt t) :: eh ys) → W.heap.size ≤ x ∧ x ≠ bx) ∧ Below W.heap.size W wr) (fun i _ => m - (intOf i).toNat)
    case atStart => exact ⟨0, none, 0, [], Nat.zero_le _, rfl, rfl, rfl, kx_h.out, Sl.nil _ _ _, hLs_h.out, hfr_h.out, hBc_h.out⟩
    case round =>
      clear kx_h hLs_h hfr_h hBc_h k0c_h
      obtain ⟨k, A', c', ys, hk, rfl, hyl, hye, kx, hsl, hLs, hfr, hBr⟩ := hrel
      have hBw := below_trans bW_h.out hBr bW_h.out.size
      by_cases hlt : k < m
      · obtain ⟨ad, κ, vv, B1, b1, s1, C1, b2, t1, rfl, hn, ⟨d0, d1, d2, d3⟩, hr1, hr2⟩ := (hE_h.out.below hBw).at_ (j := k) (by rw [← hm_h.out]; exact hlt)
        have hek : es[k]? = some (κ, vv, s1, t1) := by rw [a1_h.out, List.getElem?_map, hn]; rfl
        obtain ⟨hm1, hm2⟩ := mem_edW_of (List.mem_of_getElem? hek)
        have hln := hlE_h.out _ (List.mem_of_getElem? hek)
        have hrA : RdI w B1 s1 := (hE_h.out.2 _ (List.mem_of_getElem? hn)).1
        have hrB : RdI w C1 t1 := (hE_h.out.2 _ (List.mem_of_getElem? hn)).2
        have hCa := fun (W' : World) (hb : Below w.heap.size w W') => hgList_any B1 T b1 tc s1.length n s1 tt W' (hrA.below hb) (ht_h.out.below hb) rfl htn_h.out (fun x hx => hinE_h.out x (hm1 x hx)) hln.1
        have hCb := fun (W' : World) (hb : Below w.heap.size w W') => hgList_any C1 T b2 tc t1.length n t1 tt W' (hrB.below hb) (ht_h.out.below hb) rfl htn_h.out (fun x hx => hinE_h.out x (hm2 x hx)) hln.2
        obtain ⟨p1, hp1⟩ : ∃ p1, p1 = s1.length := ⟨_, rfl⟩
        obtain ⟨r1, hr1'⟩ : ∃ r1, r1 = t1.length := ⟨_, rfl⟩
        rw [← hp1] at d2
        rw [← hr1'] at d3
        simp only [← hp1] at hCa
        simp only [← hr1'] at hCb
        have hkI : (k : Int) < (m : Int) := by omega
        obtain ⟨wo, rfl⟩ : ∃ x, x = wr := ⟨_, rfl⟩
        obtain ⟨W6, hW6, bW6, k6⟩ := alloc_box1g wo (.cells #[.int .i64 κ, .int .i64 vv, .slice B1 p1 b1, .slice C1 r1 b2] tEd)
        have kx6 := box_below kx bW6
        have hxl := box_lt kx
        have hsl6 := hsl.below bW6
        have hLs6 := hLs.below bW6
        have hfl := hsl.lt
        have hll := hLs.lt
        have hB6 := below_trans hBw bW6 hBw.size
        have hW6b := below_trans hBr bW6 hBr.size
        have hr1_h := Lib.hid hr1'
        clear hr1' hr1 hr2 hn hm1 hm2 hln hrA hrB hsl hLs kx hBr hBw
        have hek_h := Lib.hid hek
        have hp1_h := Lib.hid hp1
        have bW6_h := Lib.hid bW6
        have hye_h := Lib.hid hye
        have hyl_h := Lib.hid hyl
        have hCa_h := Lib.hid hCa
        have hCb_h := Lib.hid hCb
        have hfr_h := Lib.hid hfr
        have kx6_h := Lib.hid kx6
        have k6_h := Lib.hid k6
        have hsl6_h := Lib.hid hsl6
        have hLs6_h := Lib.hid hLs6
        have hB6_h := Lib.hid hB6
        have hW6b_h := Lib.hid hW6b
        have hfl_h := Lib.hid hfl
        have hll_h := Lib.hid hll
        clear hek hp1 bW6 hye hyl hCa hCb hfr kx6 k6 hsl6 hLs6 hB6 hW6b hfl hll
        go_upto_region 5 with (fail)
        rw [← hW6]
        clear hW6 d0 d1 d2 d3
        refine beginZw 18 (fun w' => w'.heap[bx]? = some (.cells #[.int .i64 cnt, .slice A' k c', .slice X1 p X2, .slice Y1 r Y2] tGr) ∧ w'.heap[wo.heap.size]? = some (.cells #[.int .i64 κ, .int .i64 vv, .slice B1 p1 b1, .slice C1 r1 b2] tEd)) (by kernel_rfl) (fun W7 hW7 => ?_)
        have hbd : Below W6.heap.size W6 W7 := by rw [hW7]; exact below_drew (Below.refl _ _)
        clear hW7
        have hF := And.intro (box_below kx6_h.out hbd) (box_below k6_h.out hbd)
        have hB7 := below_trans hB6_h.out hbd hB6_h.out.size
        have hW7b := below_trans hW6b_h.out hbd hW6b_h.out.size
        have hsl7 := hsl6_h.out.below hbd
        have hLs7 := hLs6_h.out.below hbd
        have h7s : wo.heap.size ≤ W7.heap.size := Nat.le_trans bW6_h.out.size hbd.size
        clear hbd
        have hF_h := Lib.hid hF
        have hB7_h := Lib.hid hB7
        have hW7b_h := Lib.hid hW7b
        have hsl7_h := Lib.hid hsl7
        have hLs7_h := Lib.hid hLs7
        clear hF hB7 hW7b hsl7 hLs7
        refine takeC 0 (v := ?_) rfl (by kernel_rfl) (by kernel_rfl) (by kernel_rfl) (by kernel_rfl) (fun _ _ _ h => h) hF_h.out (by rfl) (fun W' hW' => ?_) ?_; rotate_left; · (obtain ⟨⟨y0, y1, y2, y3⟩, y4, y5, y6, y7⟩ := box4 hW'.1; obtain ⟨⟨x0, x1, x2, x3⟩, x4, x5, x6, x7⟩ := box4 hW'.2; clear hW'; go_simp; first | done | with_reducible rfl)
        simp only [Act.put, List.setIfInBounds_toArray, List.set_cons_zero, List.set_cons_succ]
        refine takeC 1 (v := ?_) rfl (by kernel_rfl) (by kernel_rfl) (by kernel_rfl) (by kernel_rfl) (fun _ _ _ h => h) hF_h.out (by rfl) (fun W' hW' => ?_) ?_; rotate_left; · (obtain ⟨⟨y0, y1, y2, y3⟩, y4, y5, y6, y7⟩ := box4 hW'.1; obtain ⟨⟨x0, x1, x2, x3⟩, x4, x5, x6, x7⟩ := box4 hW'.2; clear hW'; go_simp; first | done | with_reducible rfl)
        simp only [Act.put, List.setIfInBounds_toArray, List.set_cons_zero, List.set_cons_succ]
        refine takeC 2 (v := ?_) rfl (by kernel_rfl) (by kernel_rfl) (by kernel_rfl) (by kernel_rfl) (fun _ _ _ h => h) hF_h.out (by rfl) (fun W' hW' => ?_) ?_; rotate_left; · (obtain ⟨⟨y0, y1, y2, y3⟩, y4, y5, y6, y7⟩ := box4 hW'.1; obtain ⟨⟨x0, x1, x2, x3⟩, x4, x5, x6, x7⟩ := box4 hW'.2; clear hW'; go_simp; first | done | with_reducible rfl)
        simp only [Act.put, List.setIfInBounds_toArray, List.set_cons_zero, List.set_cons_succ]
        refine takeC 3 (v := ?_) rfl (by kernel_rfl) (by kernel_rfl) (by kernel_rfl) (by kernel_rfl) (fun _ _ _ h => h) hF_h.out (by rfl) (fun W' hW' => ?_) ?_; rotate_left; · (obtain ⟨⟨y0, y1, y2, y3⟩, y4, y5, y6, y7⟩ := box4 hW'.1; obtain ⟨⟨x0, x1, x2, x3⟩, x4, x5, x6, x7⟩ := box4 hW'.2; clear hW'; go_simp; first | done | with_reducible rfl)
        simp only [Act.put, List.setIfInBounds_toArray, List.set_cons_zero, List.set_cons_succ]
        refine takeC 4 (v := ?_) rfl (by kernel_rfl) (by kernel_rfl) (by kernel_rfl) (by kernel_rfl) (fun _ _ _ h => h) hF_h.out (by rfl) (fun W' hW' => ?_) ?_; rotate_left; · (obtain ⟨⟨y0, y1, y2, y3⟩, y4, y5, y6, y7⟩ := box4 hW'.1; obtain ⟨⟨x0, x1, x2, x3⟩, x4, x5, x6, x7⟩ := box4 hW'.2; clear hW'; go_simp; first | done | with_reducible rfl)
        simp only [Act.put, List.setIfInBounds_toArray, List.set_cons_zero, List.set_cons_succ]
        refine takeC 5 (v := ?_) rfl (by kernel_rfl) (by kernel_rfl) (by kernel_rfl) (by kernel_rfl) (fun _ _ _ h => h) hF_h.out (by rfl) (fun W' hW' => ?_) ?_; rotate_left; · (obtain ⟨⟨y0, y1, y2, y3⟩, y4, y5, y6, y7⟩ := box4 hW'.1; obtain ⟨⟨x0, x1, x2, x3⟩, x4, x5, x6, x7⟩ := box4 hW'.2; clear hW'; go_simp; first | done | with_reducible rfl)
        simp only [Act.put, List.setIfInBounds_toArray, List.set_cons_zero, List.set_cons_succ]
        refine takeC 6 (v := ?_) rfl (by kernel_rfl) (by kernel_rfl) (by kernel_rfl) (by kernel_rfl) (fun _ _ _ h => h) hF_h.out (by rfl) (fun W' hW' => ?_) ?_; rotate_left; · (obtain ⟨⟨y0, y1, y2, y3⟩, y4, y5, y6, y7⟩ := box4 hW'.1; obtain ⟨⟨x0, x1, x2, x3⟩, x4, x5, x6, x7⟩ := box4 hW'.2; clear hW'; go_simp; first | done | with_reducible rfl)
        simp only [Act.put, List.setIfInBounds_toArray, List.set_cons_zero, List.set_cons_succ]
        refine takeC 7 (v := ?_) rfl (by kernel_rfl) (by kernel_rfl) (by kernel_rfl) (by kernel_rfl) (fun _ _ _ h => h) hF_h.out (by rfl) (fun W' hW' => ?_) ?_; rotate_left; · (obtain ⟨⟨y0, y1, y2, y3⟩, y4, y5, y6, y7⟩ := box4 hW'.1; obtain ⟨⟨x0, x1, x2, x3⟩, x4, x5, x6, x7⟩ := box4 hW'.2; clear hW'; go_simp; first | done | with_reducible rfl)
        simp only [Act.put, List.setIfInBounds_toArray, List.set_cons_zero, List.set_cons_succ]
        refine takeC 8 (v := ?_) rfl (by kernel_rfl) (by kernel_rfl) (by kernel_rfl) (by kernel_rfl) (fun _ _ _ h => h) hF_h.out (by rfl) (fun W' hW' => ?_) ?_; rotate_left; · (obtain ⟨⟨y0, y1, y2, y3⟩, y4, y5, y6, y7⟩ := box4 hW'.1; obtain ⟨⟨x0, x1, x2, x3⟩, x4, x5, x6, x7⟩ := box4 hW'.2; clear hW'; go_simp; first | done | with_reducible rfl)
        simp only [Act.put, List.setIfInBounds_toArray, List.set_cons_zero, List.set_cons_succ]
        refine takeC 10 (v := ?_) rfl (by kernel_rfl) (by kernel_rfl) (by kernel_rfl) (by kernel_rfl) (fun _ _ _ h => h) hF_h.out (by rfl) (fun W' hW' => ?_) ?_; rotate_left; · (obtain ⟨⟨y0, y1, y2, y3⟩, y4, y5, y6, y7⟩ := box4 hW'.1; obtain ⟨⟨x0, x1, x2, x3⟩, x4, x5, x6, x7⟩ := box4 hW'.2; clear hW'; go_simp; first | done | with_reducible rfl)
        simp only [Act.put, List.setIfInBounds_toArray, List.set_cons_zero, List.set_cons_succ]
        refine takeC 11 (v := ?_) rfl (by kernel_rfl) (by kernel_rfl) (by kernel_rfl) (by kernel_rfl) (fun _ _ _ h => h) hF_h.out (by rfl) (fun W' hW' => ?_) ?_; rotate_left; · (obtain ⟨⟨y0, y1, y2, y3⟩, y4, y5, y6, y7⟩ := box4 hW'.1; obtain ⟨⟨x0, x1, x2, x3⟩, x4, x5, x6, x7⟩ := box4 hW'.2; clear hW'; go_simp; first | done | with_reducible rfl)
        simp only [Act.put, List.setIfInBounds_toArray, List.set_cons_zero, List.set_cons_succ]
        refine takeC 12 (v := ?_) rfl (by kernel_rfl) (by kernel_rfl) (by kernel_rfl) (by kernel_rfl) (fun _ _ _ h => h) hF_h.out (by rfl) (fun W' hW' => ?_) ?_; rotate_left; · (obtain ⟨⟨y0, y1, y2, y3⟩, y4, y5, y6, y7⟩ := box4 hW'.1; obtain ⟨⟨x0, x1, x2, x3⟩, x4, x5, x6, x7⟩ := box4 hW'.2; clear hW'; go_simp; first | done | with_reducible rfl)
        simp only [Act.put, List.setIfInBounds_toArray, List.set_cons_zero, List.set_cons_succ]
        refine callZ 9 (f := ?f1) (args := ?args1) rfl (by kernel_rfl) (by rfl) ?hrun1 ?hcall1
        case hrun1 => (go_simp; first | done | with_reducible rfl | (constructor <;> with_reducible rfl))
        case hcall1 =>
          refine (hCa_h.out W7 hB7_h.out).mono ?_
          rintro e w8 ⟨A8, c8, rfl, hO8⟩
          have hF8 := And.intro (box_below hF_h.out.1 hO8.below_) (box_below hF_h.out.2 hO8.below_)
          have hB8 := below_trans hB7_h.out hO8.below_ hB7_h.out.size
          have hW8b := below_trans hW7b_h.out hO8.below_ hW7b_h.out.size
          refine ⟨_, rfl, fun _ => hF8, ?_⟩
          have hF8_h := Lib.hid hF8
          have hB8_h := Lib.hid hB8
          have hW8b_h := Lib.hid hW8b
          have hO8_h := Lib.hid hO8
          clear hF8 hB8 hW8b hO8
          simp only [Act.put, List.setIfInBounds_toArray, List.set_cons_zero, List.set_cons_succ]
          refine callZ 13 (f := ?f2) (args := ?args2) rfl (by kernel_rfl) (by rfl) ?hrun2 ?hcall2
          case hrun2 => (go_simp; first | done | with_reducible rfl | (constructor <;> with_reducible rfl))
          case hcall2 =>
            refine (hCb_h.out w8 hB8_h.out).mono ?_
            rintro e w9 ⟨A9, c9, rfl, hO9⟩
            have hF9 := And.intro (box_below hF8_h.out.1 hO9.below_) (box_below hF8_h.out.2 hO9.below_)
            have hB9 := below_trans hB8_h.out hO9.below_ hB8_h.out.size
            have hW9b := below_trans hW8b_h.out hO9.below_ hW8b_h.out.size
            have h79 : Below W7.heap.size W7 w9 := below_trans hO8_h.out.below_ hO9.below_ hO8_h.out.below_.size
            have hLs9 := hLs7_h.out.app h79 (ms := [(A8, c8, mapL tt s1), (A9, c9, mapL tt t1)]) (OwLs.two (x := (A8, c8, mapL tt s1)) (y := (A9, c9, mapL tt t1)) hO8_h.out.is hO9.below_ hO9.is hO9.new) (fun x hx => by
              rw [fpR_cons, fpR_cons] at hx
              rcases List.mem_append.1 hx with hx | hx
              · exact hO8_h.out.new x hx
              · rcases List.mem_append.1 hx with hx | hx
                · have := hO9.new x hx; have := hO8_h.out.below_.size; omega
                · simp [fpR] at hx) (fun x hx => hsl7_h.out.lt x hx)
            have hnew : ∀ x, x ∈ fpR [((A8, c8, mapL tt s1) : Hd), (A9, c9, mapL tt t1)] → W7.heap.size ≤ x := fun x hx => by
              rw [fpR_cons, fpR_cons] at hx
              rcases List.mem_append.1 hx with hx | hx
              · exact hO8_h.out.new x hx
              · rcases List.mem_append.1 hx with hx | hx
                · have := hO9.new x hx; have := hO8_h.out.below_.size; omega
                · simp [fpR] at hx
            have hsl9 := hsl7_h.out.below h79
            refine ⟨_, rfl, fun _ => hF9, ?_⟩
            clear hO9
            obtain ⟨w10, hw10, bw10, -⟩ := alloc_box1g w9 (.cells #[.int .i64 κ, .int .i64 vv, .slice A8 p1 c8, .slice A9 r1 c9] tEd)
            have hF10 := And.intro (box_below hF9.1 bw10) (box_below hF9.2 bw10)
            have hsl10 := hsl9.below bw10
            have hLs10 := hLs9.below bw10
            have h9s := h79.size
            have hW10b := below_trans hW9b bw10 hW9b.size
            have hlaid : RdC w10 (some ⟨w9.heap.size, 0, none⟩) [.int .i64 κ, .int .i64 vv, .slice A8 p1 c8, .slice A9 r1 c9] := by
              rw [hw10]; exact Sl.rdc (Sl.laid w9 tEd 4 1 #[.int .i64 κ, .int .i64 vv, .slice A8 p1 c8, .slice A9 r1 c9] (by unfold maxLen; omega) rfl)
            have hF9_h := Lib.hid hF9
            have hF10_h := Lib.hid hF10
            have hsl10_h := Lib.hid hsl10
            have hLs10_h := Lib.hid hLs10
            have hnew_h := Lib.hid hnew
            have hW10b_h := Lib.hid hW10b
            have hlaid_h := Lib.hid hlaid
            have bw10_h := Lib.hid bw10
            clear hF9 hF10 hsl10 hLs10 hnew hW10b hlaid bw10
            clear hsl9 hLs9 hB9 hW9b h79
            simp only [Act.put, List.setIfInBounds_toArray, List.set_cons_zero, List.set_cons_succ]
            refine takeC 14 (v := ?_) rfl (by kernel_rfl) (by kernel_rfl) (by kernel_rfl) (by kernel_rfl) (fun _ _ _ h => h) hF9_h.out (by rfl) (fun W' hW' => ?_) ?_; rotate_left; · (skip; clear hW'; go_simp; first | done | with_reducible rfl)
            simp only [Act.put, List.setIfInBounds_toArray, List.set_cons_zero, List.set_cons_succ]
            refine oneZ 15 rfl (by kernel_rfl) (by rfl) (fun K hK => ?_)
            go_simp
            rw [← hw10]
            refine hK _ _ (fun _ => hF10_h.out) ?_
            clear hK K hw10
            refine appZ 16 rfl (by kernel_rfl) (by rfl) _ _ _ rfl tEd Try.underlying29 info_ed rfl (by omega) rfl hsl10_h.out rfl (news := [.int .i64 κ, .int .i64 vv, .slice A8 p1 c8, .slice A9 r1 c9]) rfl hlaid_h.out (by intro u hu; simp at hu; rcases hu with rfl | rfl | rfl | rfl <;> rfl) (by unfold maxLen; omega) (by omega) ?_
            intro A11 c11 w11 hs11 hA11 hk11 hrd11
            clear hrd11
            have hsle : Sl w11 tEd 4 A11 (k + 1) c11 (ecs (ys ++ [(κ, vv, (A8, c8, mapL tt s1), (A9, c9, mapL tt t1))])) := by
              have e : ecs ys ++ [.int .i64 κ, .int .i64 vv, .slice A8 p1 c8, .slice A9 r1 c9] = ecs (ys ++ [(κ, vv, (A8, c8, mapL tt s1), (A9, c9, mapL tt t1))]) := by
                rw [ecs_append]; simp only [ecs, ec, Hd.val, mapL_length, List.append_nil]; rw [← hp1_h.out, ← hr1_h.out]
              rw [← e]; exact hs11
            have hLs11 := hLs10_h.out.grow hA11 hk11
            have hfp11 : ∀ x, x ∈ fpA A11 ++ fpR (((X1, X2, mapL tt s) : Hd) :: (Y1, Y2, mapL tt t) :: eh (ys ++ [(κ, vv, (A8, c8, mapL tt s1), (A9, c9, mapL tt t1))])) → W.heap.size ≤ x ∧ x ≠ bx := fun x hx => by
              have hs7 := hW7b_h.out.size
              rcases List.mem_append.1 hx with hx | hx
              · rcases hA11 x hx with h1 | h1
                · exact hfr_h.out x (List.mem_append_left _ h1)
                · have := hW10b_h.out.size; have := bw10_h.out.size; omega
              · rw [eh_append, ← List.cons_append, ← List.cons_append, fpR_append] at hx
                rcases List.mem_append.1 hx with hx | hx
                · exact hfr_h.out x (List.mem_append_right _ hx)
                · have := hnew_h.out x hx; omega
            have hkA : ∀ x, x ∈ fpA A' → x ≠ bx ∧ x ≠ wo.heap.size := fun x hx => ⟨(hfr_h.out x (List.mem_append_left _ hx)).2, fun e => by have := hfl_h.out x hx; omega⟩
            have hF11 := And.intro (box_keeps hF10_h.out.1 hk11 (fun h => (hkA _ h).1 rfl)) (box_keeps hF10_h.out.2 hk11 (fun h => (hkA _ h).2 rfl))
            have hW11b := below_keeps hW10b_h.out hk11 hW10b_h.out.size (fun x hx => (hfr_h.out x (List.mem_append_left _ hx)).1)
            refine ⟨fun _ => hF11, ?_⟩
            obtain ⟨s1', s2'⟩ := box_set hF11.1 1 (.slice A11 (k + 1) c11)
            have s3' : (w11.setCell ⟨bx, 1, none⟩ (.slice A11 (k + 1) c11)).heap[bx]? = some (.cells #[.int .i64 cnt, .slice A11 (k + 1) c11, .slice X1 p X2, .slice Y1 r Y2] tGr) := s1'
            have hsl12 := hsle.keeps s2' (fun x hx e => (hfp11 x (List.mem_append_left _ hx)).2 e)
            have hLs12 := hLs11.keeps s2' (fun x hx e => (hfp11 x (List.mem_append_right _ (by rw [eh_append]; exact hx))).2 e)
            have hW12b := below_keeps hW11b s2' hW11b.size (fun x hx => by omega)
            have hye2 : (ys ++ [(κ, vv, (A8, c8, mapL tt s1), (A9, c9, mapL tt t1))]).map egOf = (es.take (k + 1)).map (mapE tt) := by
              rw [List.map_append, hye_h.out, List.take_add_one, hek_h.out, List.map_append]; rfl
            obtain ⟨⟨y0, y1, y2, y3⟩, y4, y5, y6, y7⟩ := box4 hF11.1
            clear hs11 hA11 hk11 hsle hLs11 s1' s2' hW11b hkA
            have hF11_h := Lib.hid hF11
            have s3'_h := Lib.hid s3'
            have hsl12_h := Lib.hid hsl12
            have hLs12_h := Lib.hid hLs12
            have hW12b_h := Lib.hid hW12b
            have hye2_h := Lib.hid hye2
            have hfp11_h := Lib.hid hfp11
            clear hF11 s3' hsl12 hLs12 hW12b hye2 hfp11
            simp only [Act.put, List.setIfInBounds_toArray, List.set_cons_zero, List.set_cons_succ]
            refine takeC 17 (v := ?_) rfl (by kernel_rfl) (by kernel_rfl) (by kernel_rfl) (by kernel_rfl) (fun _ _ _ h => h) hF11_h.out (by rfl) (fun W' hW' => ?_) ?_; rotate_left; · (skip; clear hW'; go_simp; first | done | with_reducible rfl)
            simp only [Act.put, List.setIfInBounds_toArray, List.set_cons_zero, List.set_cons_succ]
            refine oneZ 18 rfl (by kernel_rfl) (by rfl) (fun K hK => ?_)
            go_simp
            refine hK _ _ (fun h => by cases h) ?_
            clear hK K
            refine doneZ (by kernel_rfl) ?_
            go_wp2_with (fail)
            go_roundw
            case rel => exact ⟨k + 1, A11, c11, _, by omega, by go_num, by rw [List.length_append, hyl_h.out]; rfl, hye2_h.out, s3'_h.out, hsl12_h.out, by rw [eh_append]; exact hLs12_h.out, hfp11_h.out, hW12b_h.out⟩
            case measure => simp [intOf]; omega
      · obtain rfl : m = k := by omega
        rw [List.take_of_length_le (by rw [hmes_h.out]; exact Nat.le_refl _)] at hye
        have k1r := box_below k1_h.out hBr
        obtain ⟨t1', t2'⟩ := set4 (a := .int .i64 cnt) (b := .slice A' m c') (c := .slice X1 p X2) (d := .slice Y1 r Y2) k1r
        have hk1W := box_lt k1_h.out
        have hsl2 := hsl.keeps t2' (fun x hx e => by have := (hfr x (List.mem_append_left _ hx)).1; omega)
        have hLs2 := hLs.keeps t2' (fun x hx e => by have := (hfr x (List.mem_append_right _ hx)).1; omega)
        have hB9 := below_keeps hBw t2' hBw.size (fun x hx => by omega)
        have hfw : FreshL w.heap.size (fpA A' ++ fpR (((X1, X2, mapL tt s) : Hd) :: (Y1, Y2, mapL tt t) :: eh ys)) := fun x hx => by have := (hfr x hx).1; omega
        obtain ⟨⟨c0, c1, c2, c3⟩, f0, f1, f2, f3⟩ := box4 kx
        obtain ⟨⟨d0, d1, d2, d3⟩, g0, g1, g2, g3⟩ := box4 k1r
        clear hsl hLs t2' k1r kx hBr hBw hfr
        have hye_h := Lib.hid hye
        have hyl_h := Lib.hid hyl
        have t1'_h := Lib.hid t1'
        have hsl2_h := Lib.hid hsl2
        have hLs2_h := Lib.hid hLs2
        have hB9_h := Lib.hid hB9
        have hfw_h := Lib.hid hfw
        clear hye hyl t1' hsl2 hLs2 hB9 hfw
        go_wp2_with (fail)
        refine bodyPost_ret (results_cell_row rfl _ _ (w.heap.size + 1) _ _ (0, 0) _ rfl t1'_h.out Try.underlying31 rfl (by kernel_rfl)) rfl ?_
        refine ⟨_, fpA A' ++ fpR (((X1, X2, mapL tt s) : Hd) :: (Y1, Y2, mapL tt t) :: eh ys), rfl, ?_, hfw_h.out, hB9_h.out⟩
        rw [hG_h.out]
        refine ⟨A', c', ys, (X1, X2, mapL tt s), (Y1, Y2, mapL tt t), ?_, hye_h.out.symm, rfl, rfl, ?_, hLs2_h.out, rfl⟩
        · simp only [mapL_length]; rw [hyl_h.out, hp_h.out, hr_h.out]; rfl
        · rw [hyl_h.out]; exact hsl2_h.out
set_option maxRecDepth 100000 in
set_option maxHeartbeats 8000000 in
theorem moved_any {v : Value} {g : Gr} (w : World) (cnt : Int) (T : Option Addr) (tc n : Nat) (tt : List Int) (h : RdGr w v g) (ok : OkG g) (ht : RdI w T tt) (htn : tt.length = n) (hin : inW (n : Int) (allW g) = true) :
    Calls Try.prog 99 #[v, .int .i64 cnt, .slice T n tc] w fun e w' => ∃ v' fp, e = .returned v' ∧ OwGr w' v' (mapG tt cnt g) fp ∧ FreshL w.heap.size fp ∧ Below w.heap.size w w' := by
  obtain ⟨A, c, hs, ⟨B, b, s⟩, ⟨C, d, t⟩, rfl, e1, e2, e3, hE, hRa, hRb⟩ := h
  obtain ⟨z, es, s0, t0⟩ := g
  have a1 : es = hs.map egOf := e1
  have a2 : s = s0 := e2
  have a3 : t = t0 := e3
  subst a2 a3
  have hin0 : inW (n : Int) (s ++ (t ++ edW es)) = true := hin
  have hinS := inW_iff.1 (inW_app_left hin0)
  have hinT := inW_iff.1 (inW_app_left (inW_app_right hin0))
  have hinE := inW_iff.1 (inW_app_right (inW_app_right hin0))
  have hlen1 : es.length ≤ 1048576 := ok.1.1
  have hlen2 : s.length ≤ 1048576 := ok.1.2.1
  have hlen3 : t.length ≤ 1048576 := ok.1.2.2
  have hlE : ∀ x, x ∈ es → x.2.2.1.length ≤ 1048576 ∧ x.2.2.2.length ≤ 1048576 := ok.2.1
  obtain ⟨m, hm⟩ : ∃ m, m = hs.length := ⟨_, rfl⟩
  obtain ⟨p, hp⟩ : ∃ p, p = s.length := ⟨_, rfl⟩
  obtain ⟨r, hr⟩ : ∃ r, r = t.length := ⟨_, rfl⟩
  have hmes : es.length = m := by rw [a1, List.length_map, hm]
  have hRa0 : RdI w B s := hRa
  have hRb0 : RdI w C t := hRb
  obtain ⟨G, hG⟩ : ∃ G, G = mapG tt cnt (z, es, s, t) := ⟨_, rfl⟩
  rw [← hG]
  show Calls Try.prog _ #[.agg #[.int .i64 z, .slice A hs.length c, .slice B s.length b, .slice C t.length d], .int .i64 cnt, .slice T n tc] w _
  rw [← hm, ← hp, ← hr]
  obtain ⟨W, hW, bW, k0, k1⟩ := allocs2 w (.cells #[.int .i64 z, .slice A m c, .slice B p b, .slice C r d] tGr) (.cells #[.int .i64 0, .slice none 0 0, .slice none 0 0, .slice none 0 0] tGr)
  have hC1 := fun (W' : World) (hb : Below w.heap.size w W') => mapped_any B T b tc p n s tt W' (hRa0.below hb) (ht.below hb) hp.symm htn hinS (by omega)
  have hC2 := fun (W' : World) (hb : Below w.heap.size w W') => mapped_any C T d tc r n t tt W' (hRb0.below hb) (ht.below hb) hr.symm htn hinT (by omega)
  have hmb : (m : Int) ≤ 1048576 := by omega
  clear hRa hRb ok e1 e2 e3 hin hin0 hlen1 hlen2 hlen3 hinS hinT
  have hE_h := Lib.hid hE
  have hRa0_h := Lib.hid hRa0
  have hRb0_h := Lib.hid hRb0
  have a1_h := Lib.hid a1
  have hlE_h := Lib.hid hlE
  have hm_h := Lib.hid hm
  have hp_h := Lib.hid hp
  have hr_h := Lib.hid hr
  have hmes_h := Lib.hid hmes
  have hinE_h := Lib.hid hinE
  have hC1_h := Lib.hid hC1
  have hC2_h := Lib.hid hC2
  have bW_h := Lib.hid bW
  have k0_h := Lib.hid k0
  have k1_h := Lib.hid k1
  have ht_h := Lib.hid ht
  have htn_h := Lib.hid htn
  have hG_h := Lib.hid hG
  clear hE hRa0 hRb0 a1 hlE hm hp hr hmes hinE hC1 hC2 bW k0 k1 ht htn hG
  go_enter Try.func99, Try.ntmps99
  go_upto_region 1 with (fail)
  rw [← hW]
  clear hW
  go_cut [7] (fun sv wx => ∃ (bx : Nat) (X Y : Hd), sv = .pointer (some ⟨bx, 0, none⟩) ∧ wx.heap[bx]? = some (.cells #[.int .i64 cnt, .slice none 0 0, .slice X.1 p X.2.1, .slice Y.1 r Y.2.1] tGr) ∧ X.2.2 = mapL tt s ∧ Y.2.2 = mapL tt t ∧ OwLs wx [] [X, Y] ∧ (∀ x, x ∈ fpR [X, Y] → W.heap.size ≤ x ∧ x ≠ bx) ∧ W.heap.size ≤ bx ∧ Below W.heap.size W wx)
  case first =>
    refine beginH (fun w' => w'.heap[w.heap.size]? = some (.cells #[.int .i64 z, .slice A m c, .slice B p b, .slice C r d] tGr)) (by kernel_rfl) ?_
    have hbd : Below W.heap.size W W.drew := below_drew (Below.refl _ _)
    generalize W.drew = W1 at hbd ⊢
    have k0d := box_below k0_h.out hbd
    have hBd := below_trans bW_h.out hbd bW_h.out.size
    have hbd_h := Lib.hid hbd
    have k0d_h := Lib.hid k0d
    have hBd_h := Lib.hid hBd
    clear hbd k0d hBd
    refine takeH 0 (v := ?_) rfl (by kernel_rfl) (by kernel_rfl) (by kernel_rfl) (fun _ _ _ h => h) k0d_h.out (by rfl) (fun W' hW' => ?_) ?_; rotate_left; · (obtain ⟨⟨y0, y1, y2, y3⟩, y4, y5, y6, y7⟩ := box4 hW'; clear hW'; go_simp; first | done | with_reducible rfl)
    simp only [Act.put, List.setIfInBounds_toArray, List.set_cons_zero, List.set_cons_succ]
    refine takeH 1 (v := ?_) rfl (by kernel_rfl) (by kernel_rfl) (by kernel_rfl) (fun _ _ _ h => h) k0d_h.out (by rfl) (fun W' hW' => ?_) ?_; rotate_left; · (obtain ⟨⟨y0, y1, y2, y3⟩, y4, y5, y6, y7⟩ := box4 hW'; clear hW'; go_simp; first | done | with_reducible rfl)
    simp only [Act.put, List.setIfInBounds_toArray, List.set_cons_zero, List.set_cons_succ]
    refine takeH 2 (v := ?_) rfl (by kernel_rfl) (by kernel_rfl) (by kernel_rfl) (fun _ _ _ h => h) k0d_h.out (by rfl) (fun W' hW' => ?_) ?_; rotate_left; · (obtain ⟨⟨y0, y1, y2, y3⟩, y4, y5, y6, y7⟩ := box4 hW'; clear hW'; go_simp; first | done | with_reducible rfl)
    simp only [Act.put, List.setIfInBounds_toArray, List.set_cons_zero, List.set_cons_succ]
    refine takeH 3 (v := ?_) rfl (by kernel_rfl) (by kernel_rfl) (by kernel_rfl) (fun _ _ _ h => h) k0d_h.out (by rfl) (fun W' hW' => ?_) ?_; rotate_left; · (obtain ⟨⟨y0, y1, y2, y3⟩, y4, y5, y6, y7⟩ := box4 hW'; clear hW'; go_simp; first | done | with_reducible rfl)
    simp only [Act.put, List.setIfInBounds_toArray, List.set_cons_zero, List.set_cons_succ]
    refine takeH 5 (v := ?_) rfl (by kernel_rfl) (by kernel_rfl) (by kernel_rfl) (fun _ _ _ h => h) k0d_h.out (by rfl) (fun W' hW' => ?_) ?_; rotate_left; · (obtain ⟨⟨y0, y1, y2, y3⟩, y4, y5, y6, y7⟩ := box4 hW'; clear hW'; go_simp; first | done | with_reducible rfl)
    simp only [Act.put, List.setIfInBounds_toArray, List.set_cons_zero, List.set_cons_succ]
    refine takeH 6 (v := ?_) rfl (by kernel_rfl) (by kernel_rfl) (by kernel_rfl) (fun _ _ _ h => h) k0d_h.out (by rfl) (fun W' hW' => ?_) ?_; rotate_left; · (obtain ⟨⟨y0, y1, y2, y3⟩, y4, y5, y6, y7⟩ := box4 hW'; clear hW'; go_simp; first | done | with_reducible rfl)
    simp only [Act.put, List.setIfInBounds_toArray, List.set_cons_zero, List.set_cons_succ]
    refine takeH 7 (v := ?_) rfl (by kernel_rfl) (by kernel_rfl) (by kernel_rfl) (fun _ _ _ h => h) k0d_h.out (by rfl) (fun W' hW' => ?_) ?_; rotate_left; · (obtain ⟨⟨y0, y1, y2, y3⟩, y4, y5, y6, y7⟩ := box4 hW'; clear hW'; go_simp; first | done | with_reducible rfl)
    simp only [Act.put, List.setIfInBounds_toArray, List.set_cons_zero, List.set_cons_succ]
    refine callOrH 4 10 (f := ?fo1) (args := ?argso1) (vj := ?vjo1) (wj := ?wjo1) rfl rfl (by kernel_rfl) (by rfl) (by rfl) ?hruno1 ?hrunjo1 ?h1o1 ?hSjo1 ?h2o1
    case hruno1 => (go_simp; first | done | with_reducible rfl | (constructor <;> with_reducible rfl))
    case hrunjo1 => (go_simp; first | done | with_reducible rfl | (constructor <;> with_reducible rfl))
    case hSjo1 => exact (box_below k0d_h.out (below_alloc _ _))
    case h1o1 =>
      refine (hC1_h.out W1 hBd_h.out).mono ?_
      rintro e w2 ⟨A2, c2, rfl, hO2⟩
      have hB2 := below_trans hBd_h.out hO2.below_ hBd_h.out.size
      have k2 := box_below k0d_h.out hO2.below_
      have hW2 := below_trans hbd_h.out hO2.below_ hbd_h.out.size
      refine ⟨_, rfl, k2, ?_⟩
      have hO2_h := Lib.hid hO2
      have hB2_h := Lib.hid hB2
      have k2_h := Lib.hid k2
      have hW2_h := Lib.hid hW2
      clear hO2 hB2 k2 hW2
      simp only [Act.put, List.setIfInBounds_toArray, List.set_cons_zero, List.set_cons_succ]
      refine callOrH 8 10 (f := ?fo2) (args := ?argso2) (vj := ?vjo2) (wj := ?wjo2) rfl rfl (by kernel_rfl) (by rfl) (by rfl) ?hruno2 ?hrunjo2 ?h1o2 ?hSjo2 ?h2o2
      case hruno2 => (go_simp; first | done | with_reducible rfl | (constructor <;> with_reducible rfl))
      case hrunjo2 => (go_simp; first | done | with_reducible rfl | (constructor <;> with_reducible rfl))
      case hSjo2 => exact (box_below k2_h.out (below_alloc _ _))
      case h1o2 =>
        refine (hC2_h.out w2 hB2_h.out).mono ?_
        rintro e w3 ⟨A3, c3, rfl, hO3⟩
        have k3 := box_below k2_h.out hO3.below_
        have hW3 := below_trans hW2_h.out hO3.below_ hW2_h.out.size
        have hLs := OwLs.two (x := (A2, c2, mapL tt s)) (y := (A3, c3, mapL tt t)) hO2_h.out.is hO3.below_ hO3.is hO3.new
        have hlt2 := hLs.lt
        have hfr : ∀ x, x ∈ fpR [((A2, c2, mapL tt s) : Hd), (A3, c3, mapL tt t)] → W.heap.size ≤ x ∧ x ≠ w3.heap.size := fun x hx => by
          have h1 := hlt2 x hx
          rw [fpR_cons, fpR_cons] at hx
          rcases List.mem_append.1 hx with hx | hx
          · have := hO2_h.out.new x hx; have := hbd_h.out.size; omega
          · rcases List.mem_append.1 hx with hx | hx
            · have := hO3.new x hx; have := hW2_h.out.size; omega
            · simp [fpR] at hx
        refine ⟨_, rfl, k3, ?_⟩
        obtain ⟨W5, hW5, bW5, x5⟩ := alloc_box1g w3 (.cells #[.int .i64 0, .slice none 0 0, .slice none 0 0, .slice none 0 0] tGr)
        obtain ⟨s1, s2⟩ := set4 (a := .int .i64 cnt) (b := .slice none 0 0) (c := .slice A2 p c2) (d := .slice A3 r c3) x5
        have k5 := box_below k3 bW5
        have k6 := box_keeps k5 s2 (by have := box_lt k3; omega)
        have hLs5 := (hLs.below bW5).keeps s2 (fun x hx e => (hfr x hx).2 e)
        have hBf := below_keeps (below_trans hW3 bW5 hW3.size) s2 (Nat.le_trans hW3.size bW5.size) (fun x hx => by rw [hx]; exact hW3.size)
        have hge := hW3.size
        obtain ⟨⟨y0, y1, y2, y3⟩, y4, y5, y6, y7⟩ := box4 x5
        have k3_h := Lib.hid k3
        have hLs5_h := Lib.hid hLs5
        have hBf_h := Lib.hid hBf
        have s1_h := Lib.hid s1
        have s2_h := Lib.hid s2
        have x5_h := Lib.hid x5
        have k5_h := Lib.hid k5
        have k6_h := Lib.hid k6
        have hfr_h := Lib.hid hfr
        have hge_h := Lib.hid hge
        clear k3 hLs5 hBf s1 s2 x5 k5 k6 hfr hge
        clear hW3 hLs hlt2 bW5 hO3
        simp only [Act.put, List.setIfInBounds_toArray, List.set_cons_zero, List.set_cons_succ]
        refine takeH 9 (v := ?_) rfl (by kernel_rfl) (by kernel_rfl) (by kernel_rfl) (fun _ _ _ h => h) k3_h.out (by rfl) (fun W' hW' => ?_) ?_; rotate_left; · (skip; clear hW'; go_simp; first | done | with_reducible rfl)
        simp only [Act.put, List.setIfInBounds_toArray, List.set_cons_zero, List.set_cons_succ]
        refine oneH 10 rfl (by kernel_rfl) (by rfl) (fun K hK => ?_)
        go_simp
        rw [← hW5]
        refine hK _ _ k5_h.out ?_
        clear hK K hW5
        refine oneH 11 rfl (by kernel_rfl) (by rfl) (fun K hK => ?_)
        go_simp
        refine hK _ _ k6_h.out ?_
        clear hK K
        refine doneH (by kernel_rfl) ?_
        go_wp2_with (fail)
        go_meet
        exact ⟨w3.heap.size, (A2, c2, mapL tt s), (A3, c3, mapL tt t), rfl, s1_h.out, rfl, rfl, hLs5_h.out, hfr_h.out, hge_h.out, hBf_h.out⟩
      case h2o2 =>
        have bA := below_alloc w2 (.cells #[.int .i64 0, .slice none 0 0, .slice none 0 0, .slice none 0 0] tGr)
        have kA := heap_alloc_new w2 (.cells #[.int .i64 0, .slice none 0 0, .slice none 0 0, .slice none 0 0] tGr)
        have hB3 := below_trans hB2_h.out bA hB2_h.out.size
        have hWA := below_trans hW2_h.out bA hW2_h.out.size
        have k2a := box_below k2_h.out bA
        have hzA : (w2.alloc (.cells #[.int .i64 0, .slice none 0 0, .slice none 0 0, .slice none 0 0] tGr)).heap.size = w2.heap.size + 1 := World.size_alloc _ _
        simp only [Act.put, List.setIfInBounds_toArray, List.set_cons_zero, List.set_cons_succ]
        refine' callH 8 (f := _) (args := _) rfl (by kernel_rfl) (by rfl) ?_ ?_; rotate_left 2; · (go_simp; first | done | with_reducible rfl | (constructor <;> with_reducible rfl))
        refine (hC2_h.out _ hB3).mono ?_
        rintro e w3 ⟨A3, c3, rfl, hO3⟩
        have k3 := box_below k2a hO3.below_
        have kb := box_below kA hO3.below_
        have hW3 := below_trans hWA hO3.below_ hWA.size
        have hLs := OwLs.two (x := (A2, c2, mapL tt s)) (y := (A3, c3, mapL tt t)) (hO2_h.out.is.below bA) hO3.below_ hO3.is hO3.new
        have hws := hW2_h.out.size
        have hzk := box_lt k2_h.out
        have hfr : ∀ x, x ∈ fpR [((A2, c2, mapL tt s) : Hd), (A3, c3, mapL tt t)] → W.heap.size ≤ x ∧ x ≠ w2.heap.size := fun x hx => by
          rw [fpR_cons, fpR_cons] at hx
          rcases List.mem_append.1 hx with hx | hx
          · have h1 := hO2_h.out.is.lt x hx; have := hO2_h.out.new x hx; have := hbd_h.out.size; omega
          · rcases List.mem_append.1 hx with hx | hx
            · have := hO3.new x hx; omega
            · simp [fpR] at hx
        obtain ⟨s1, s2⟩ := set4 (a := .int .i64 cnt) (b := .slice none 0 0) (c := .slice A2 p c2) (d := .slice A3 r c3) kb
        have k6 := box_keeps k3 s2 (by omega)
        have hLs5 := hLs.keeps s2 (fun x hx e => (hfr x hx).2 e)
        have hBf := below_keeps hW3 s2 hW3.size (fun x hx => by omega)
        refine ⟨_, rfl, k3, ?_⟩
        obtain ⟨⟨y0, y1, y2, y3⟩, y4, y5, y6, y7⟩ := box4 kb
        have k3_h := Lib.hid k3
        have hLs5_h := Lib.hid hLs5
        have hBf_h := Lib.hid hBf
        have s1_h := Lib.hid s1
        have s2_h := Lib.hid s2
        have kb_h := Lib.hid kb
        have k6_h := Lib.hid k6
        have hfr_h := Lib.hid hfr
        clear k3 hLs5 hBf s1 s2 kb k6 hfr
        clear hW3 hLs hO3
        simp only [Act.put, List.setIfInBounds_toArray, List.set_cons_zero, List.set_cons_succ]
        refine takeH 9 (v := ?_) rfl (by kernel_rfl) (by kernel_rfl) (by kernel_rfl) (fun _ _ _ h => h) k3_h.out (by rfl) (fun W' hW' => ?_) ?_; rotate_left; · (skip; clear hW'; go_simp; first | done | with_reducible rfl)
        simp only [Act.put, List.setIfInBounds_toArray, List.set_cons_zero, List.set_cons_succ]
        refine oneH 11 rfl (by kernel_rfl) (by rfl) (fun K hK => ?_)
        go_simp
        refine hK _ _ k6_h.out ?_
        clear hK K
        refine doneH (by kernel_rfl) ?_
        go_wp2_with (fail)
        go_meet
        exact ⟨w2.heap.size, (A2, c2, mapL tt s), (A3, c3, mapL tt t), rfl, s1_h.out, rfl, rfl, hLs5_h.out, hfr_h.out, by omega, hBf_h.out⟩
    case h2o1 =>
      have bA := below_alloc W1 (.cells #[.int .i64 0, .slice none 0 0, .slice none 0 0, .slice none 0 0] tGr)
      have kA := heap_alloc_new W1 (.cells #[.int .i64 0, .slice none 0 0, .slice none 0 0, .slice none 0 0] tGr)
      have hBa := below_trans hBd_h.out bA hBd_h.out.size
      have hWA := below_trans hbd_h.out bA hbd_h.out.size
      have k2a := box_below k0d_h.out bA
      have hzA : (W1.alloc (.cells #[.int .i64 0, .slice none 0 0, .slice none 0 0, .slice none 0 0] tGr)).heap.size = W1.heap.size + 1 := World.size_alloc _ _
      simp only [Act.put, List.setIfInBounds_toArray, List.set_cons_zero, List.set_cons_succ]
      refine' callH 4 (f := _) (args := _) rfl (by kernel_rfl) (by rfl) ?_ ?_; rotate_left 2; · (go_simp; first | done | with_reducible rfl | (constructor <;> with_reducible rfl))
      refine (hC1_h.out _ hBa).mono ?_
      rintro e w2 ⟨A2, c2, rfl, hO2⟩
      have hB2 := below_trans hBa hO2.below_ hBa.size
      have k2 := box_below k2a hO2.below_
      have kb2 := box_below kA hO2.below_
      have hW2 := below_trans hWA hO2.below_ hWA.size
      refine ⟨_, rfl, k2, ?_⟩
      simp only [Act.put, List.setIfInBounds_toArray, List.set_cons_zero, List.set_cons_succ]
      refine' callH 8 (f := _) (args := _) rfl (by kernel_rfl) (by rfl) ?_ ?_; rotate_left 2; · (go_simp; first | done | with_reducible rfl | (constructor <;> with_reducible rfl))
      refine (hC2_h.out _ hB2).mono ?_
      rintro e w3 ⟨A3, c3, rfl, hO3⟩
      have k3 := box_below k2 hO3.below_
      have kb := box_below kb2 hO3.below_
      have hW3 := below_trans hW2 hO3.below_ hW2.size
      have hLs := OwLs.two (x := (A2, c2, mapL tt s)) (y := (A3, c3, mapL tt t)) hO2.is hO3.below_ hO3.is hO3.new
      have hws := hbd_h.out.size
      have hzk := box_lt k0d_h.out
      have hws2 := hO2.below_.size
      have hfr : ∀ x, x ∈ fpR [((A2, c2, mapL tt s) : Hd), (A3, c3, mapL tt t)] → W.heap.size ≤ x ∧ x ≠ W1.heap.size := fun x hx => by
        rw [fpR_cons, fpR_cons] at hx
        rcases List.mem_append.1 hx with hx | hx
        · have := hO2.new x hx; omega
        · rcases List.mem_append.1 hx with hx | hx
          · have := hO3.new x hx; omega
          · simp [fpR] at hx
      obtain ⟨s1, s2⟩ := set4 (a := .int .i64 cnt) (b := .slice none 0 0) (c := .slice A2 p c2) (d := .slice A3 r c3) kb
      have k6 := box_keeps k3 s2 (by omega)
      have hLs5 := hLs.keeps s2 (fun x hx e => (hfr x hx).2 e)
      have hBf := below_keeps hW3 s2 hW3.size (fun x hx => by omega)
      refine ⟨_, rfl, k3, ?_⟩
      obtain ⟨⟨y0, y1, y2, y3⟩, y4, y5, y6, y7⟩ := box4 kb
      have k3_h := Lib.hid k3
      have hLs5_h := Lib.hid hLs5
      have hBf_h := Lib.hid hBf
      have s1_h := Lib.hid s1
      have s2_h := Lib.hid s2
      have kb_h := Lib.hid kb
      have k6_h := Lib.hid k6
      have hfr_h := Lib.hid hfr
      clear k3 hLs5 hBf s1 s2 kb k6 hfr
      clear hW3 hLs hO3
      simp only [Act.put, List.setIfInBounds_toArray, List.set_cons_zero, List.set_cons_succ]
      refine takeH 9 (v := ?_) rfl (by kernel_rfl) (by kernel_rfl) (by kernel_rfl) (fun _ _ _ h => h) k3_h.out (by rfl) (fun W' hW' => ?_) ?_; rotate_left; · (skip; clear hW'; go_simp; first | done | with_reducible rfl)
      simp only [Act.put, List.setIfInBounds_toArray, List.set_cons_zero, List.set_cons_succ]
      refine oneH 11 rfl (by kernel_rfl) (by rfl) (fun K hK => ?_)
      go_simp
      refine hK _ _ k6_h.out ?_
      clear hK K
      refine doneH (by kernel_rfl) ?_
      go_wp2_with (fail)
      go_meet
      exact ⟨W1.heap.size, (A2, c2, mapL tt s), (A3, c3, mapL tt t), rfl, s1_h.out, rfl, rfl, hLs5_h.out, hfr_h.out, by omega, hBf_h.out⟩
  case rest =>
    obtain ⟨bx, ⟨X1, X2, X3⟩, ⟨Y1, Y2, Y3⟩, rfl, kx, rfl, rfl, hLs, hfr, hbx, hBc⟩ := hcut
    obtain ⟨w4, rfl⟩ : ∃ x, x = wc := ⟨_, rfl⟩
    have k0c := box_below k0_h.out hBc
    have hws := bW_h.out.size
    obtain ⟨⟨c0, c1, c2, c3⟩, f0, f1, f2, f3⟩ := box4 k0c
    have k0c_h := Lib.hid k0c
    have kx_h := Lib.hid kx
    have hLs_h := Lib.hid hLs
    have hfr_h := Lib.hid hfr
    have hBc_h := Lib.hid hBc
    clear k0c kx hLs hfr hBc
    go_wp2_with (fail)
    clear c0 c1 c2 c3 f0 f1 f2 f3
    go_loopw [23] (fun i wr => ∃ (k : Nat) (A' : Option Addr) (c' : Nat) (ys : List EHd), k ≤ m ∧ i = .int .i64 k ∧ ys.length = k ∧ ys.map egOf = (es.take k).map (mapE tt) ∧ wr.heap[bx]? = some (.cells #[.int .i64 cnt, .slice A' k c', .slice X1 p X2, .slice Y1 r Y2] tGr) ∧ Sl wr tEd 4 A' k c' (ecs ys) ∧ OwLs wr (fpA A') ((X1, X2, mapL tt s) :: (Y1, Y2, mapL tt t) :: eh ys) ∧ (∀ x, x ∈ fpA A' ++ fpR (((X1, X2, mapL tt s) : Hd) :: (Y1, Y2, mapL tt t) :: eh ys) → W.heap.size ≤ x ∧ x ≠ bx) ∧ Below W.heap.size W wr) (fun i _ => m - (intOf i).toNat)
    case atStart => exact ⟨0, none, 0, [], Nat.zero_le _, rfl, rfl, rfl, kx_h.out, Sl.nil _ _ _, hLs_h.out, hfr_h.out, hBc_h.out⟩
    case round =>
      clear kx_h hLs_h hfr_h hBc_h k0c_h
      obtain ⟨k, A', c', ys, hk, rfl, hyl, hye, kx, hsl, hLs, hfr, hBr⟩ := hrel
      have hBw := below_trans bW_h.out hBr bW_h.out.size
      by_cases hlt : k < m
      · obtain ⟨ad, κ, vv, B1, b1, s1, C1, b2, t1, rfl, hn, ⟨d0, d1, d2, d3⟩, hr1, hr2⟩ := (hE_h.out.below hBw).at_ (j := k) (by rw [← hm_h.out]; exact hlt)
        have hek : es[k]? = some (κ, vv, s1, t1) := by rw [a1_h.out, List.getElem?_map, hn]; rfl
        obtain ⟨hm1, hm2⟩ := mem_edW_of (List.mem_of_getElem? hek)
        have hln := hlE_h.out _ (List.mem_of_getElem? hek)
        have hrA : RdI w B1 s1 := (hE_h.out.2 _ (List.mem_of_getElem? hn)).1
        have hrB : RdI w C1 t1 := (hE_h.out.2 _ (List.mem_of_getElem? hn)).2
        have hCa := fun (W' : World) (hb : Below w.heap.size w W') => mapped_any B1 T b1 tc s1.length n s1 tt W' (hrA.below hb) (ht_h.out.below hb) rfl htn_h.out (fun x hx => hinE_h.out x (hm1 x hx)) hln.1
        have hCb := fun (W' : World) (hb : Below w.heap.size w W') => mapped_any C1 T b2 tc t1.length n t1 tt W' (hrB.below hb) (ht_h.out.below hb) rfl htn_h.out (fun x hx => hinE_h.out x (hm2 x hx)) hln.2
        obtain ⟨p1, hp1⟩ : ∃ p1, p1 = s1.length := ⟨_, rfl⟩
        obtain ⟨r1, hr1'⟩ : ∃ r1, r1 = t1.length := ⟨_, rfl⟩
        rw [← hp1] at d2
        rw [← hr1'] at d3
        simp only [← hp1] at hCa
        simp only [← hr1'] at hCb
        have hkI : (k : Int) < (m : Int) := by omega
        obtain ⟨wo, rfl⟩ : ∃ x, x = wr := ⟨_, rfl⟩
        obtain ⟨W6, hW6, bW6, k6⟩ := alloc_box1g wo (.cells #[.int .i64 κ, .int .i64 vv, .slice B1 p1 b1, .slice C1 r1 b2] tEd)
        have kx6 := box_below kx bW6
        have hxl := box_lt kx
        have hsl6 := hsl.below bW6
        have hLs6 := hLs.below bW6
        have hfl := hsl.lt
        have hll := hLs.lt
        have hB6 := below_trans hBw bW6 hBw.size
        have hW6b := below_trans hBr bW6 hBr.size
        have hr1_h := Lib.hid hr1'
        clear hr1' hr1 hr2 hn hm1 hm2 hln hrA hrB hsl hLs kx hBr hBw
        have hek_h := Lib.hid hek
        have hp1_h := Lib.hid hp1
        have bW6_h := Lib.hid bW6
        have hye_h := Lib.hid hye
        have hyl_h := Lib.hid hyl
        have hCa_h := Lib.hid hCa
        have hCb_h := Lib.hid hCb
        have hfr_h := Lib.hid hfr
        have kx6_h := Lib.hid kx6
        have k6_h := Lib.hid k6
        have hsl6_h := Lib.hid hsl6
        have hLs6_h := Lib.hid hLs6
        have hB6_h := Lib.hid hB6
        have hW6b_h := Lib.hid hW6b
        have hfl_h := Lib.hid hfl
        have hll_h := Lib.hid hll
        clear hek hp1 bW6 hye hyl hCa hCb hfr kx6 k6 hsl6 hLs6 hB6 hW6b hfl hll
        go_upto_region 5 with (fail)
        rw [← hW6]
        clear hW6 d0 d1 d2 d3
        refine beginZw 18 (fun w' => w'.heap[bx]? = some (.cells #[.int .i64 cnt, .slice A' k c', .slice X1 p X2, .slice Y1 r Y2] tGr) ∧ w'.heap[wo.heap.size]? = some (.cells #[.int .i64 κ, .int .i64 vv, .slice B1 p1 b1, .slice C1 r1 b2] tEd)) (by kernel_rfl) (fun W7 hW7 => ?_)
        have hbd : Below W6.heap.size W6 W7 := by rw [hW7]; exact below_drew (Below.refl _ _)
        clear hW7
        have hF := And.intro (box_below kx6_h.out hbd) (box_below k6_h.out hbd)
        have hB7 := below_trans hB6_h.out hbd hB6_h.out.size
        have hW7b := below_trans hW6b_h.out hbd hW6b_h.out.size
        have hsl7 := hsl6_h.out.below hbd
        have hLs7 := hLs6_h.out.below hbd
        have h7s : wo.heap.size ≤ W7.heap.size := Nat.le_trans bW6_h.out.size hbd.size
        clear hbd
        have hF_h := Lib.hid hF
        have hB7_h := Lib.hid hB7
        have hW7b_h := Lib.hid hW7b
        have hsl7_h := Lib.hid hsl7
        have hLs7_h := Lib.hid hLs7
        clear hF hB7 hW7b hsl7 hLs7
        refine takeC 0 (v := ?_) rfl (by kernel_rfl) (by kernel_rfl) (by kernel_rfl) (by kernel_rfl) (fun _ _ _ h => h) hF_h.out (by rfl) (fun W' hW' => ?_) ?_; rotate_left; · (obtain ⟨⟨y0, y1, y2, y3⟩, y4, y5, y6, y7⟩ := box4 hW'.1; obtain ⟨⟨x0, x1, x2, x3⟩, x4, x5, x6, x7⟩ := box4 hW'.2; clear hW'; go_simp; first | done | with_reducible rfl)
        simp only [Act.put, List.setIfInBounds_toArray, List.set_cons_zero, List.set_cons_succ]
        refine takeC 1 (v := ?_) rfl (by kernel_rfl) (by kernel_rfl) (by kernel_rfl) (by kernel_rfl) (fun _ _ _ h => h) hF_h.out (by rfl) (fun W' hW' => ?_) ?_; rotate_left; · (obtain ⟨⟨y0, y1, y2, y3⟩, y4, y5, y6, y7⟩ := box4 hW'.1; obtain ⟨⟨x0, x1, x2, x3⟩, x4, x5, x6, x7⟩ := box4 hW'.2; clear hW'; go_simp; first | done | with_reducible rfl)
        simp only [Act.put, List.setIfInBounds_toArray, List.set_cons_zero, List.set_cons_succ]
        refine takeC 2 (v := ?_) rfl (by kernel_rfl) (by kernel_rfl) (by kernel_rfl) (by kernel_rfl) (fun _ _ _ h => h) hF_h.out (by rfl) (fun W' hW' => ?_) ?_; rotate_left; · (obtain ⟨⟨y0, y1, y2, y3⟩, y4, y5, y6, y7⟩ := box4 hW'.1; obtain ⟨⟨x0, x1, x2, x3⟩, x4, x5, x6, x7⟩ := box4 hW'.2; clear hW'; go_simp; first | done | with_reducible rfl)
        simp only [Act.put, List.setIfInBounds_toArray, List.set_cons_zero, List.set_cons_succ]
        refine takeC 3 (v := ?_) rfl (by kernel_rfl) (by kernel_rfl) (by kernel_rfl) (by kernel_rfl) (fun _ _ _ h => h) hF_h.out (by rfl) (fun W' hW' => ?_) ?_; rotate_left; · (obtain ⟨⟨y0, y1, y2, y3⟩, y4, y5, y6, y7⟩ := box4 hW'.1; obtain ⟨⟨x0, x1, x2, x3⟩, x4, x5, x6, x7⟩ := box4 hW'.2; clear hW'; go_simp; first | done | with_reducible rfl)
        simp only [Act.put, List.setIfInBounds_toArray, List.set_cons_zero, List.set_cons_succ]
        refine takeC 4 (v := ?_) rfl (by kernel_rfl) (by kernel_rfl) (by kernel_rfl) (by kernel_rfl) (fun _ _ _ h => h) hF_h.out (by rfl) (fun W' hW' => ?_) ?_; rotate_left; · (obtain ⟨⟨y0, y1, y2, y3⟩, y4, y5, y6, y7⟩ := box4 hW'.1; obtain ⟨⟨x0, x1, x2, x3⟩, x4, x5, x6, x7⟩ := box4 hW'.2; clear hW'; go_simp; first | done | with_reducible rfl)
        simp only [Act.put, List.setIfInBounds_toArray, List.set_cons_zero, List.set_cons_succ]
        refine takeC 5 (v := ?_) rfl (by kernel_rfl) (by kernel_rfl) (by kernel_rfl) (by kernel_rfl) (fun _ _ _ h => h) hF_h.out (by rfl) (fun W' hW' => ?_) ?_; rotate_left; · (obtain ⟨⟨y0, y1, y2, y3⟩, y4, y5, y6, y7⟩ := box4 hW'.1; obtain ⟨⟨x0, x1, x2, x3⟩, x4, x5, x6, x7⟩ := box4 hW'.2; clear hW'; go_simp; first | done | with_reducible rfl)
        simp only [Act.put, List.setIfInBounds_toArray, List.set_cons_zero, List.set_cons_succ]
        refine takeC 6 (v := ?_) rfl (by kernel_rfl) (by kernel_rfl) (by kernel_rfl) (by kernel_rfl) (fun _ _ _ h => h) hF_h.out (by rfl) (fun W' hW' => ?_) ?_; rotate_left; · (obtain ⟨⟨y0, y1, y2, y3⟩, y4, y5, y6, y7⟩ := box4 hW'.1; obtain ⟨⟨x0, x1, x2, x3⟩, x4, x5, x6, x7⟩ := box4 hW'.2; clear hW'; go_simp; first | done | with_reducible rfl)
        simp only [Act.put, List.setIfInBounds_toArray, List.set_cons_zero, List.set_cons_succ]
        refine takeC 7 (v := ?_) rfl (by kernel_rfl) (by kernel_rfl) (by kernel_rfl) (by kernel_rfl) (fun _ _ _ h => h) hF_h.out (by rfl) (fun W' hW' => ?_) ?_; rotate_left; · (obtain ⟨⟨y0, y1, y2, y3⟩, y4, y5, y6, y7⟩ := box4 hW'.1; obtain ⟨⟨x0, x1, x2, x3⟩, x4, x5, x6, x7⟩ := box4 hW'.2; clear hW'; go_simp; first | done | with_reducible rfl)
        simp only [Act.put, List.setIfInBounds_toArray, List.set_cons_zero, List.set_cons_succ]
        refine takeC 8 (v := ?_) rfl (by kernel_rfl) (by kernel_rfl) (by kernel_rfl) (by kernel_rfl) (fun _ _ _ h => h) hF_h.out (by rfl) (fun W' hW' => ?_) ?_; rotate_left; · (obtain ⟨⟨y0, y1, y2, y3⟩, y4, y5, y6, y7⟩ := box4 hW'.1; obtain ⟨⟨x0, x1, x2, x3⟩, x4, x5, x6, x7⟩ := box4 hW'.2; clear hW'; go_simp; first | done | with_reducible rfl)
        simp only [Act.put, List.setIfInBounds_toArray, List.set_cons_zero, List.set_cons_succ]
        refine takeC 10 (v := ?_) rfl (by kernel_rfl) (by kernel_rfl) (by kernel_rfl) (by kernel_rfl) (fun _ _ _ h => h) hF_h.out (by rfl) (fun W' hW' => ?_) ?_; rotate_left; · (obtain ⟨⟨y0, y1, y2, y3⟩, y4, y5, y6, y7⟩ := box4 hW'.1; obtain ⟨⟨x0, x1, x2, x3⟩, x4, x5, x6, x7⟩ := box4 hW'.2; clear hW'; go_simp; first | done | with_reducible rfl)
        simp only [Act.put, List.setIfInBounds_toArray, List.set_cons_zero, List.set_cons_succ]
        refine takeC 11 (v := ?_) rfl (by kernel_rfl) (by kernel_rfl) (by kernel_rfl) (by kernel_rfl) (fun _ _ _ h => h) hF_h.out (by rfl) (fun W' hW' => ?_) ?_; rotate_left; · (obtain ⟨⟨y0, y1, y2, y3⟩, y4, y5, y6, y7⟩ := box4 hW'.1; obtain ⟨⟨x0, x1, x2, x3⟩, x4, x5, x6, x7⟩ := box4 hW'.2; clear hW'; go_simp; first | done | with_reducible rfl)
        simp only [Act.put, List.setIfInBounds_toArray, List.set_cons_zero, List.set_cons_succ]
        refine takeC 12 (v := ?_) rfl (by kernel_rfl) (by kernel_rfl) (by kernel_rfl) (by kernel_rfl) (fun _ _ _ h => h) hF_h.out (by rfl) (fun W' hW' => ?_) ?_; rotate_left; · (obtain ⟨⟨y0, y1, y2, y3⟩, y4, y5, y6, y7⟩ := box4 hW'.1; obtain ⟨⟨x0, x1, x2, x3⟩, x4, x5, x6, x7⟩ := box4 hW'.2; clear hW'; go_simp; first | done | with_reducible rfl)
        simp only [Act.put, List.setIfInBounds_toArray, List.set_cons_zero, List.set_cons_succ]
        refine callZ 9 (f := ?f3) (args := ?args3) rfl (by kernel_rfl) (by rfl) ?hrun3 ?hcall3
        case hrun3 => (go_simp; first | done | with_reducible rfl | (constructor <;> with_reducible rfl))
        case hcall3 =>
          refine (hCa_h.out W7 hB7_h.out).mono ?_
          rintro e w8 ⟨A8, c8, rfl, hO8⟩
          have hF8 := And.intro (box_below hF_h.out.1 hO8.below_) (box_below hF_h.out.2 hO8.below_)
          have hB8 := below_trans hB7_h.out hO8.below_ hB7_h.out.size
          have hW8b := below_trans hW7b_h.out hO8.below_ hW7b_h.out.size
          refine ⟨_, rfl, fun _ => hF8, ?_⟩
          have hF8_h := Lib.hid hF8
          have hB8_h := Lib.hid hB8
          have hW8b_h := Lib.hid hW8b
          have hO8_h := Lib.hid hO8
          clear hF8 hB8 hW8b hO8
          simp only [Act.put, List.setIfInBounds_toArray, List.set_cons_zero, List.set_cons_succ]
          refine callZ 13 (f := ?f4) (args := ?args4) rfl (by kernel_rfl) (by rfl) ?hrun4 ?hcall4
          case hrun4 => (go_simp; first | done | with_reducible rfl | (constructor <;> with_reducible rfl))
          case hcall4 =>
            refine (hCb_h.out w8 hB8_h.out).mono ?_
            rintro e w9 ⟨A9, c9, rfl, hO9⟩
            have hF9 := And.intro (box_below hF8_h.out.1 hO9.below_) (box_below hF8_h.out.2 hO9.below_)
            have hB9 := below_trans hB8_h.out hO9.below_ hB8_h.out.size
            have hW9b := below_trans hW8b_h.out hO9.below_ hW8b_h.out.size
            have h79 : Below W7.heap.size W7 w9 := below_trans hO8_h.out.below_ hO9.below_ hO8_h.out.below_.size
            have hLs9 := hLs7_h.out.app h79 (ms := [(A8, c8, mapL tt s1), (A9, c9, mapL tt t1)]) (OwLs.two (x := (A8, c8, mapL tt s1)) (y := (A9, c9, mapL tt t1)) hO8_h.out.is hO9.below_ hO9.is hO9.new) (fun x hx => by
              rw [fpR_cons, fpR_cons] at hx
              rcases List.mem_append.1 hx with hx | hx
              · exact hO8_h.out.new x hx
              · rcases List.mem_append.1 hx with hx | hx
                · have := hO9.new x hx; have := hO8_h.out.below_.size; omega
                · simp [fpR] at hx) (fun x hx => hsl7_h.out.lt x hx)
            have hnew : ∀ x, x ∈ fpR [((A8, c8, mapL tt s1) : Hd), (A9, c9, mapL tt t1)] → W7.heap.size ≤ x := fun x hx => by
              rw [fpR_cons, fpR_cons] at hx
              rcases List.mem_append.1 hx with hx | hx
              · exact hO8_h.out.new x hx
              · rcases List.mem_append.1 hx with hx | hx
                · have := hO9.new x hx; have := hO8_h.out.below_.size; omega
                · simp [fpR] at hx
            have hsl9 := hsl7_h.out.below h79
            refine ⟨_, rfl, fun _ => hF9, ?_⟩
            clear hO9
            obtain ⟨w10, hw10, bw10, -⟩ := alloc_box1g w9 (.cells #[.int .i64 κ, .int .i64 vv, .slice A8 p1 c8, .slice A9 r1 c9] tEd)
            have hF10 := And.intro (box_below hF9.1 bw10) (box_below hF9.2 bw10)
            have hsl10 := hsl9.below bw10
            have hLs10 := hLs9.below bw10
            have h9s := h79.size
            have hW10b := below_trans hW9b bw10 hW9b.size
            have hlaid : RdC w10 (some ⟨w9.heap.size, 0, none⟩) [.int .i64 κ, .int .i64 vv, .slice A8 p1 c8, .slice A9 r1 c9] := by
              rw [hw10]; exact Sl.rdc (Sl.laid w9 tEd 4 1 #[.int .i64 κ, .int .i64 vv, .slice A8 p1 c8, .slice A9 r1 c9] (by unfold maxLen; omega) rfl)
            have hF9_h := Lib.hid hF9
            have hF10_h := Lib.hid hF10
            have hsl10_h := Lib.hid hsl10
            have hLs10_h := Lib.hid hLs10
            have hnew_h := Lib.hid hnew
            have hW10b_h := Lib.hid hW10b
            have hlaid_h := Lib.hid hlaid
            have bw10_h := Lib.hid bw10
            clear hF9 hF10 hsl10 hLs10 hnew hW10b hlaid bw10
            clear hsl9 hLs9 hB9 hW9b h79
            simp only [Act.put, List.setIfInBounds_toArray, List.set_cons_zero, List.set_cons_succ]
            refine takeC 14 (v := ?_) rfl (by kernel_rfl) (by kernel_rfl) (by kernel_rfl) (by kernel_rfl) (fun _ _ _ h => h) hF9_h.out (by rfl) (fun W' hW' => ?_) ?_; rotate_left; · (skip; clear hW'; go_simp; first | done | with_reducible rfl)
            simp only [Act.put, List.setIfInBounds_toArray, List.set_cons_zero, List.set_cons_succ]
            refine oneZ 15 rfl (by kernel_rfl) (by rfl) (fun K hK => ?_)
            go_simp
            rw [← hw10]
            refine hK _ _ (fun _ => hF10_h.out) ?_
            clear hK K hw10
            refine appZ 16 rfl (by kernel_rfl) (by rfl) _ _ _ rfl tEd Try.underlying29 info_ed rfl (by omega) rfl hsl10_h.out rfl (news := [.int .i64 κ, .int .i64 vv, .slice A8 p1 c8, .slice A9 r1 c9]) rfl hlaid_h.out (by intro u hu; simp at hu; rcases hu with rfl | rfl | rfl | rfl <;> rfl) (by unfold maxLen; omega) (by omega) ?_
            intro A11 c11 w11 hs11 hA11 hk11 hrd11
            clear hrd11
            have hsle : Sl w11 tEd 4 A11 (k + 1) c11 (ecs (ys ++ [(κ, vv, (A8, c8, mapL tt s1), (A9, c9, mapL tt t1))])) := by
              have e : ecs ys ++ [.int .i64 κ, .int .i64 vv, .slice A8 p1 c8, .slice A9 r1 c9] = ecs (ys ++ [(κ, vv, (A8, c8, mapL tt s1), (A9, c9, mapL tt t1))]) := by
                rw [ecs_append]; simp only [ecs, ec, Hd.val, mapL_length, List.append_nil]; rw [← hp1_h.out, ← hr1_h.out]
              rw [← e]; exact hs11
            have hLs11 := hLs10_h.out.grow hA11 hk11
            have hfp11 : ∀ x, x ∈ fpA A11 ++ fpR (((X1, X2, mapL tt s) : Hd) :: (Y1, Y2, mapL tt t) :: eh (ys ++ [(κ, vv, (A8, c8, mapL tt s1), (A9, c9, mapL tt t1))])) → W.heap.size ≤ x ∧ x ≠ bx := fun x hx => by
              have hs7 := hW7b_h.out.size
              rcases List.mem_append.1 hx with hx | hx
              · rcases hA11 x hx with h1 | h1
                · exact hfr_h.out x (List.mem_append_left _ h1)
                · have := hW10b_h.out.size; have := bw10_h.out.size; omega
              · rw [eh_append, ← List.cons_append, ← List.cons_append, fpR_append] at hx
                rcases List.mem_append.1 hx with hx | hx
                · exact hfr_h.out x (List.mem_append_right _ hx)
                · have := hnew_h.out x hx; omega
            have hkA : ∀ x, x ∈ fpA A' → x ≠ bx ∧ x ≠ wo.heap.size := fun x hx => ⟨(hfr_h.out x (List.mem_append_left _ hx)).2, fun e => by have := hfl_h.out x hx; omega⟩
            have hF11 := And.intro (box_keeps hF10_h.out.1 hk11 (fun h => (hkA _ h).1 rfl)) (box_keeps hF10_h.out.2 hk11 (fun h => (hkA _ h).2 rfl))
            have hW11b := below_keeps hW10b_h.out hk11 hW10b_h.out.size (fun x hx => (hfr_h.out x (List.mem_append_left _ hx)).1)
            refine ⟨fun _ => hF11, ?_⟩
            obtain ⟨s1', s2'⟩ := box_set hF11.1 1 (.slice A11 (k + 1) c11)
            have s3' : (w11.setCell ⟨bx, 1, none⟩ (.slice A11 (k + 1) c11)).heap[bx]? = some (.cells #[.int .i64 cnt, .slice A11 (k + 1) c11, .slice X1 p X2, .slice Y1 r Y2] tGr) := s1'
            have hsl12 := hsle.keeps s2' (fun x hx e => (hfp11 x (List.mem_append_left _ hx)).2 e)
            have hLs12 := hLs11.keeps s2' (fun x hx e => (hfp11 x (List.mem_append_right _ (by rw [eh_append]; exact hx))).2 e)
            have hW12b := below_keeps hW11b s2' hW11b.size (fun x hx => by omega)
            have hye2 : (ys ++ [(κ, vv, (A8, c8, mapL tt s1), (A9, c9, mapL tt t1))]).map egOf = (es.take (k + 1)).map (mapE tt) := by
              rw [List.map_append, hye_h.out, List.take_add_one, hek_h.out, List.map_append]; rfl
            obtain ⟨⟨y0, y1, y2, y3⟩, y4, y5, y6, y7⟩ := box4 hF11.1
            clear hs11 hA11 hk11 hsle hLs11 s1' s2' hW11b hkA
            have hF11_h := Lib.hid hF11
            have s3'_h := Lib.hid s3'
            have hsl12_h := Lib.hid hsl12
            have hLs12_h := Lib.hid hLs12
            have hW12b_h := Lib.hid hW12b
            have hye2_h := Lib.hid hye2
            have hfp11_h := Lib.hid hfp11
            clear hF11 s3' hsl12 hLs12 hW12b hye2 hfp11
            simp only [Act.put, List.setIfInBounds_toArray, List.set_cons_zero, List.set_cons_succ]
            refine takeC 17 (v := ?_) rfl (by kernel_rfl) (by kernel_rfl) (by kernel_rfl) (by kernel_rfl) (fun _ _ _ h => h) hF11_h.out (by rfl) (fun W' hW' => ?_) ?_; rotate_left; · (skip; clear hW'; go_simp; first | done | with_reducible rfl)
            simp only [Act.put, List.setIfInBounds_toArray, List.set_cons_zero, List.set_cons_succ]
            refine oneZ 18 rfl (by kernel_rfl) (by rfl) (fun K hK => ?_)
            go_simp
            refine hK _ _ (fun h => by cases h) ?_
            clear hK K
            refine doneZ (by kernel_rfl) ?_
            go_wp2_with (fail)
            go_roundw
            case rel => exact ⟨k + 1, A11, c11, _, by omega, by go_num, by rw [List.length_append, hyl_h.out]; rfl, hye2_h.out, s3'_h.out, hsl12_h.out, by rw [eh_append]; exact hLs12_h.out, hfp11_h.out, hW12b_h.out⟩
            case measure => simp [intOf]; omega
      · obtain rfl : m = k := by omega
        rw [List.take_of_length_le (by rw [hmes_h.out]; exact Nat.le_refl _)] at hye
        have k1r := box_below k1_h.out hBr
        obtain ⟨t1', t2'⟩ := set4 (a := .int .i64 cnt) (b := .slice A' m c') (c := .slice X1 p X2) (d := .slice Y1 r Y2) k1r
        have hk1W := box_lt k1_h.out
        have hsl2 := hsl.keeps t2' (fun x hx e => by have := (hfr x (List.mem_append_left _ hx)).1; omega)
        have hLs2 := hLs.keeps t2' (fun x hx e => by have := (hfr x (List.mem_append_right _ hx)).1; omega)
        have hB9 := below_keeps hBw t2' hBw.size (fun x hx => by omega)
        have hfw : FreshL w.heap.size (fpA A' ++ fpR (((X1, X2, mapL tt s) : Hd) :: (Y1, Y2, mapL tt t) :: eh ys)) := fun x hx => by have := (hfr x hx).1; omega
        obtain ⟨⟨c0, c1, c2, c3⟩, f0, f1, f2, f3⟩ := box4 kx
        obtain ⟨⟨d0, d1, d2, d3⟩, g0, g1, g2, g3⟩ := box4 k1r
        clear hsl hLs t2' k1r kx hBr hBw hfr
        have hye_h := Lib.hid hye
        have hyl_h := Lib.hid hyl
        have t1'_h := Lib.hid t1'
        have hsl2_h := Lib.hid hsl2
        have hLs2_h := Lib.hid hLs2
        have hB9_h := Lib.hid hB9
        have hfw_h := Lib.hid hfw
        clear hye hyl t1' hsl2 hLs2 hB9 hfw
        go_wp2_with (fail)
        refine bodyPost_ret (results_cell_row rfl _ _ (w.heap.size + 1) _ _ (0, 0) _ rfl t1'_h.out Try.underlying31 rfl (by kernel_rfl)) rfl ?_
        refine ⟨_, fpA A' ++ fpR (((X1, X2, mapL tt s) : Hd) :: (Y1, Y2, mapL tt t) :: eh ys), rfl, ?_, hfw_h.out, hB9_h.out⟩
        rw [hG_h.out]
        refine ⟨A', c', ys, (X1, X2, mapL tt s), (Y1, Y2, mapL tt t), ?_, hye_h.out.symm, rfl, rfl, ?_, hLs2_h.out, rfl⟩
        · simp only [mapL_length]; rw [hyl_h.out, hp_h.out, hr_h.out]; rfl
        · rw [hyl_h.out]; exact hsl2_h.out
end Go.Proofs.Ytanhmljgeiajoaa
