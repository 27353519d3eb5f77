/-
  What the texts above it need, part 3.
-/
import Derived.Test.YtjompikdkhhlgaaGreatKIsomorphismOf2
import Derived.Deep.DeepCutAuto
namespace Go.Proofs.YtjompikdkhhlgaaGreat
open Go.RowKit
theorem OIg.ls {w0 w : World} {A : Option Addr} {c : Nat} {l : List Int} (h : OIg w0 w A c l) : OwLs w [] [(A, c, l)] := OwLs.one (x := (A, c, l)) h.is
theorem alloc_box1g (w : World) (o : Obj) : ∃ W, W = w.alloc o ∧ Below w.heap.size w W ∧ W.heap[w.heap.size]? = some o := ⟨_, rfl, t_below_alloc _ _, heap_alloc_new _ _⟩
set_option maxRecDepth 100000 in
set_option maxHeartbeats 8000000 in
theorem hgMap_any {v : Value} {g : Gr} (w : World) (cnt : Int) (T : Option Addr) (tc n : Nat) (tt : List Int) (h : RdGr w v g) (ok : OkG g) (ht : RdI w T tt) (htn : tt.length = n) (hin : inW (n : Int) (t_allW g) = true) :
  Calls Tryz.prog 75 #[v, .slice T n tc, .int .i64 cnt] w fun e w' => ∃ v' fp, e = .returned v' ∧ OwGr w' v' (mapG tt cnt g) fp ∧ FreshL w.heap.size fp ∧ Below w.heap.size w w' := by
 obtain ⟨A, c, hs, ⟨B, b, s⟩, ⟨C, d, t⟩, rfl, e1, e2, e3, hE, hRa, hRb⟩ := h
 obtain ⟨z, es, s0, t0⟩ := g
 have a1 : es = hs.map egOf := e1
 have a2 : s = s0 := e2
 have a3 : t = t0 := e3
 subst a2 a3
 have hin0 : inW (n : Int) (s ++ (t ++ edW es)) = true := hin
 have hinS := inW_iff.1 (inW_app_left hin0)
 have hinT := inW_iff.1 (inW_app_left (inW_app_right hin0))
 have hinE := inW_iff.1 (inW_app_right (inW_app_right hin0))
 have hlen1 : es.length ≤ 1048576 := ok.1.1
 have hlen2 : s.length ≤ 1048576 := ok.1.2.1
 have hlen3 : t.length ≤ 1048576 := ok.1.2.2
 have hlE : ∀ x, x ∈ es → x.2.2.1.length ≤ 1048576 ∧ x.2.2.2.length ≤ 1048576 := ok.2.1
 obtain ⟨m, hm⟩ : ∃ m, m = hs.length := ⟨_, rfl⟩
 obtain ⟨p, hp⟩ : ∃ p, p = s.length := ⟨_, rfl⟩
 obtain ⟨r, hr⟩ : ∃ r, r = t.length := ⟨_, rfl⟩
 have hmes : es.length = m := by rw [a1, List.length_map, hm]
 have hRa0 : RdI w B s := hRa
 have hRb0 : RdI w C t := hRb
 obtain ⟨G, hG⟩ : ∃ G, G = mapG tt cnt (z, es, s, t) := ⟨_, rfl⟩
 rw [← hG]
 show Calls Tryz.prog _ #[.agg #[.int .i64 z, .slice A hs.length c, .slice B s.length b, .slice C t.length d], .slice T n tc, .int .i64 cnt] w _
 rw [← hm, ← hp, ← hr]
 obtain ⟨W, hW, bW, k0, k1⟩ := allocs2 w (.cells #[.int .i64 z, .slice A m c, .slice B p b, .slice C r d] tGr) (.cells #[.int .i64 0, .slice none 0 0, .slice none 0 0, .slice none 0 0] tGr)
 have hC1 := fun (W' : World) (hb : Below w.heap.size w W') => hgList_any B T b tc p n s tt W' (hRa0.below hb) (ht.below hb) hp.symm htn hinS (by omega)
 have hC2 := fun (W' : World) (hb : Below w.heap.size w W') => hgList_any C T d tc r n t tt W' (hRb0.below hb) (ht.below hb) hr.symm htn hinT (by omega)
 have hmb : (m : Int) ≤ 1048576 := by omega
 clear hRa hRb ok e1 e2 e3 hin hin0 hlen1 hlen2 hlen3 hinS hinT; have hE_h := lH hE; have hRa0_h := lH hRa0; have hRb0_h := lH hRb0; have a1_h := lH a1; have hlE_h := lH hlE; have hm_h := lH hm; have hp_h := lH hp; have hr_h := lH hr; have hmes_h := lH hmes; have hinE_h := lH hinE; have hC1_h := lH hC1; have hC2_h := lH hC2; have bW_h := lH bW; have k0_h := lH k0; have k1_h := lH k1; have ht_h := lH ht; have htn_h := lH htn; have hG_h := lH hG; clear hE hRa0 hRb0 a1 hlE hm hp hr hmes hinE hC1 hC2 bW k0 k1 ht htn hG
 go_enter Tryz.func75, Tryz.ntmps75
 go_upto_region 1 with (fail)
 rw [← hW]
 clear hW
 go_cut [7] (fun sv wx => ∃ (bx : Nat) (X Y : Hd), sv = .pointer (some ⟨bx, 0, none⟩) ∧ wx.heap[bx]? = some (.cells #[.int .i64 cnt, .slice none 0 0, .slice X.1 p X.2.1, .slice Y.1 r Y.2.1] tGr) ∧ X.2.2 = mapL tt s ∧ Y.2.2 = mapL tt t ∧ OwLs wx [] [X, Y] ∧ (∀ x, x ∈ fpR [X, Y] → W.heap.size ≤ x ∧ x ≠ bx) ∧ W.heap.size ≤ bx ∧ Below W.heap.size W wx)
 case first =>
  refine beginH (fun w' => w'.heap[w.heap.size]? = some (.cells #[.int .i64 z, .slice A m c, .slice B p b, .slice C r d] tGr)) (by kernel_rfl) ?_
  have hbd : Below W.heap.size W W.drew := below_drew (Below.refl _ _)
  generalize W.drew = W1 at hbd ⊢
  have k0d := t_box_below k0_h.out hbd
  have hBd := below_trans bW_h.out hbd bW_h.out.size
  have hbd_h := lH hbd; have k0d_h := lH k0d; have hBd_h := lH hBd; clear hbd k0d hBd
  refine tkH 0 ?_ rfl k0d_h.out (fun W' hW' => ?_) ?_; rotate_left; · (obtain ⟨⟨y0, y1, y2, y3⟩, y4, y5, y6, y7⟩ := t_box4 hW'; clear hW'; go_simp; first | done | with_reducible rfl)
  simp only [Act.put, nS]
  refine tkH 1 ?_ rfl k0d_h.out (fun W' hW' => ?_) ?_; rotate_left; · (obtain ⟨⟨y0, y1, y2, y3⟩, y4, y5, y6, y7⟩ := t_box4 hW'; clear hW'; go_simp; first | done | with_reducible rfl)
  simp only [Act.put, nS]
  refine tkH 2 ?_ rfl k0d_h.out (fun W' hW' => ?_) ?_; rotate_left; · (obtain ⟨⟨y0, y1, y2, y3⟩, y4, y5, y6, y7⟩ := t_box4 hW'; clear hW'; go_simp; first | done | with_reducible rfl)
  simp only [Act.put, nS]
  refine tkH 3 ?_ rfl k0d_h.out (fun W' hW' => ?_) ?_; rotate_left; · (obtain ⟨⟨y0, y1, y2, y3⟩, y4, y5, y6, y7⟩ := t_box4 hW'; clear hW'; go_simp; first | done | with_reducible rfl)
  simp only [Act.put, nS]
  refine tkH 5 ?_ rfl k0d_h.out (fun W' hW' => ?_) ?_; rotate_left; · (obtain ⟨⟨y0, y1, y2, y3⟩, y4, y5, y6, y7⟩ := t_box4 hW'; clear hW'; go_simp; first | done | with_reducible rfl)
  simp only [Act.put, nS]
  refine tkH 6 ?_ rfl k0d_h.out (fun W' hW' => ?_) ?_; rotate_left; · (obtain ⟨⟨y0, y1, y2, y3⟩, y4, y5, y6, y7⟩ := t_box4 hW'; clear hW'; go_simp; first | done | with_reducible rfl)
  simp only [Act.put, nS]
  refine tkH 7 ?_ rfl k0d_h.out (fun W' hW' => ?_) ?_; rotate_left; · (obtain ⟨⟨y0, y1, y2, y3⟩, y4, y5, y6, y7⟩ := t_box4 hW'; clear hW'; go_simp; first | done | with_reducible rfl)
  simp only [Act.put, nS]
  refine callOrH 4 10 (f := ?fo1) (args := ?argso1) (vj := ?vjo1) (wj := ?wjo1) rfl rfl (by kernel_rfl) (by rfl) (by rfl) ?hruno1 ?hrunjo1 ?h1o1 ?hSjo1 ?h2o1
  case hruno1 => (go_simp; first | done | with_reducible rfl | (constructor <;> with_reducible rfl))
  case hrunjo1 => (go_simp; first | done | with_reducible rfl | (constructor <;> with_reducible rfl))
  case hSjo1 => exact (t_box_below k0d_h.out (t_below_alloc _ _))
  case h1o1 =>
   refine (hC1_h.out W1 hBd_h.out).mono ?_
   rintro e w2 ⟨A2, c2, rfl, hO2⟩
   have hB2 := below_trans hBd_h.out hO2.below_ hBd_h.out.size
   have k2 := t_box_below k0d_h.out hO2.below_
   have hW2 := below_trans hbd_h.out hO2.below_ hbd_h.out.size
   refine ⟨_, rfl, k2, ?_⟩
   have hO2_h := lH hO2; have hB2_h := lH hB2; have k2_h := lH k2; have hW2_h := lH hW2; clear hO2 hB2 k2 hW2
   simp only [Act.put, nS]
   refine callOrH 8 10 (f := ?fo2) (args := ?argso2) (vj := ?vjo2) (wj := ?wjo2) rfl rfl (by kernel_rfl) (by rfl) (by rfl) ?hruno2 ?hrunjo2 ?h1o2 ?hSjo2 ?h2o2
   case hruno2 => (go_simp; first | done | with_reducible rfl | (constructor <;> with_reducible rfl))
   case hrunjo2 => (go_simp; first | done | with_reducible rfl | (constructor <;> with_reducible rfl))
   case hSjo2 => exact (t_box_below k2_h.out (t_below_alloc _ _))
   case h1o2 =>
    refine (hC2_h.out w2 hB2_h.out).mono ?_
    rintro e w3 ⟨A3, c3, rfl, hO3⟩
    have k3 := t_box_below k2_h.out hO3.below_
    have hW3 := below_trans hW2_h.out hO3.below_ hW2_h.out.size
    have hLs := OwLs.two (x := (A2, c2, mapL tt s)) (y := (A3, c3, mapL tt t)) hO2_h.out.is hO3.below_ hO3.is hO3.new
    have hlt2 := hLs.lt
    have hfr : ∀ x, x ∈ fpR [((A2, c2, mapL tt s) : Hd), (A3, c3, mapL tt t)] → W.heap.size ≤ x ∧ x ≠ w3.heap.size := fun x hx => by
     have h1 := hlt2 x hx
     rw [fpR_cons, fpR_cons] at hx
     rcases List.mem_append.1 hx with hx | hx
     · have := hO2_h.out.new x hx; have := hbd_h.out.size; omega
     · rcases List.mem_append.1 hx with hx | hx
       · have := hO3.new x hx; have := hW2_h.out.size; omega
       · simp [fpR] at hx
    refine ⟨_, rfl, k3, ?_⟩
    obtain ⟨W5, hW5, bW5, x5⟩ := alloc_box1g w3 (.cells #[.int .i64 0, .slice none 0 0, .slice none 0 0, .slice none 0 0] tGr)
    obtain ⟨s1, s2⟩ := set4 (a := .int .i64 cnt) (b := .slice none 0 0) (c := .slice A2 p c2) (d := .slice A3 r c3) x5
    have k5 := t_box_below k3 bW5
    have k6 := t_box_keeps k5 s2 (by have := t_box_lt k3; omega)
    have hLs5 := (hLs.below bW5).keeps s2 (fun x hx e => (hfr x hx).2 e)
    have hBf := below_keeps (below_trans hW3 bW5 hW3.size) s2 (Nat.le_trans hW3.size bW5.size) (fun x hx => by rw [hx]; exact hW3.size)
    have hge := hW3.size
    obtain ⟨⟨y0, y1, y2, y3⟩, y4, y5, y6, y7⟩ := t_box4 x5
    have k3_h := lH k3; have hLs5_h := lH hLs5; have hBf_h := lH hBf; have s1_h := lH s1; have s2_h := lH s2; have x5_h := lH x5; have k5_h := lH k5; have k6_h := lH k6; have hfr_h := lH hfr; have hge_h := lH hge; clear k3 hLs5 hBf s1 s2 x5 k5 k6 hfr hge; clear hW3 hLs hlt2 bW5 hO3
    simp only [Act.put, nS]
    refine tkH 9 ?_ rfl k3_h.out (fun W' hW' => ?_) ?_; rotate_left; · (skip; clear hW'; go_simp; first | done | with_reducible rfl)
    simp only [Act.put, nS]
    refine oneH 10 rfl (by kernel_rfl) (by rfl) (fun K hK => ?_)
    go_simp
    rw [← hW5]
    refine hK _ _ k5_h.out ?_
    clear hK K hW5
    refine oneH 11 rfl (by kernel_rfl) (by rfl) (fun K hK => ?_)
    go_simp
    refine hK _ _ k6_h.out ?_
    clear hK K
    refine doneH (by kernel_rfl) ?_
    go_wp2_with (fail)
    go_meet
    exact ⟨w3.heap.size, (A2, c2, mapL tt s), (A3, c3, mapL tt t), rfl, s1_h.out, rfl, rfl, hLs5_h.out, hfr_h.out, hge_h.out, hBf_h.out⟩
   case h2o2 =>
    have bA := t_below_alloc w2 (.cells #[.int .i64 0, .slice none 0 0, .slice none 0 0, .slice none 0 0] tGr)
    have kA := heap_alloc_new w2 (.cells #[.int .i64 0, .slice none 0 0, .slice none 0 0, .slice none 0 0] tGr)
    have hB3 := below_trans hB2_h.out bA hB2_h.out.size
    have hWA := below_trans hW2_h.out bA hW2_h.out.size
    have k2a := t_box_below k2_h.out bA
    have hzA : (w2.alloc (.cells #[.int .i64 0, .slice none 0 0, .slice none 0 0, .slice none 0 0] tGr)).heap.size = w2.heap.size + 1 := World.size_alloc _ _
    simp only [Act.put, nS]
    refine' callH 8 (f := _) (args := _) rfl (by kernel_rfl) (by rfl) ?_ ?_; rotate_left 2; · (go_simp; first | done | with_reducible rfl | (constructor <;> with_reducible rfl))
    refine (hC2_h.out _ hB3).mono ?_
    rintro e w3 ⟨A3, c3, rfl, hO3⟩
    have k3 := t_box_below k2a hO3.below_
    have kb := t_box_below kA hO3.below_
    have hW3 := below_trans hWA hO3.below_ hWA.size
    have hLs := OwLs.two (x := (A2, c2, mapL tt s)) (y := (A3, c3, mapL tt t)) (hO2_h.out.is.below bA) hO3.below_ hO3.is hO3.new
    have hws := hW2_h.out.size
    have hzk := t_box_lt k2_h.out
    have hfr : ∀ x, x ∈ fpR [((A2, c2, mapL tt s) : Hd), (A3, c3, mapL tt t)] → W.heap.size ≤ x ∧ x ≠ w2.heap.size := fun x hx => by
     rw [fpR_cons, fpR_cons] at hx
     rcases List.mem_append.1 hx with hx | hx
     · have h1 := hO2_h.out.is.lt x hx; have := hO2_h.out.new x hx; have := hbd_h.out.size; omega
     · rcases List.mem_append.1 hx with hx | hx
       · have := hO3.new x hx; omega
       · simp [fpR] at hx
    obtain ⟨s1, s2⟩ := set4 (a := .int .i64 cnt) (b := .slice none 0 0) (c := .slice A2 p c2) (d := .slice A3 r c3) kb
    have k6 := t_box_keeps k3 s2 (by omega)
    have hLs5 := hLs.keeps s2 (fun x hx e => (hfr x hx).2 e)
    have hBf := below_keeps hW3 s2 hW3.size (fun x hx => by omega)
    refine ⟨_, rfl, k3, ?_⟩
    obtain ⟨⟨y0, y1, y2, y3⟩, y4, y5, y6, y7⟩ := t_box4 kb
    have k3_h := lH k3; have hLs5_h := lH hLs5; have hBf_h := lH hBf; have s1_h := lH s1; have s2_h := lH s2; have kb_h := lH kb; have k6_h := lH k6; have hfr_h := lH hfr; clear k3 hLs5 hBf s1 s2 kb k6 hfr; clear hW3 hLs hO3
    simp only [Act.put, nS]
    refine tkH 9 ?_ rfl k3_h.out (fun W' hW' => ?_) ?_; rotate_left; · (skip; clear hW'; go_simp; first | done | with_reducible rfl)
    simp only [Act.put, nS]
    refine oneH 11 rfl (by kernel_rfl) (by rfl) (fun K hK => ?_)
    go_simp
    refine hK _ _ k6_h.out ?_
    clear hK K
    refine doneH (by kernel_rfl) ?_
    go_wp2_with (fail)
    go_meet
    exact ⟨w2.heap.size, (A2, c2, mapL tt s), (A3, c3, mapL tt t), rfl, s1_h.out, rfl, rfl, hLs5_h.out, hfr_h.out, by omega, hBf_h.out⟩
  case h2o1 =>
   have bA := t_below_alloc W1 (.cells #[.int .i64 0, .slice none 0 0, .slice none 0 0, .slice none 0 0] tGr)
   have kA := heap_alloc_new W1 (.cells #[.int .i64 0, .slice none 0 0, .slice none 0 0, .slice none 0 0] tGr)
   have hBa := below_trans hBd_h.out bA hBd_h.out.size
   have hWA := below_trans hbd_h.out bA hbd_h.out.size
   have k2a := t_box_below k0d_h.out bA
   have hzA : (W1.alloc (.cells #[.int .i64 0, .slice none 0 0, .slice none 0 0, .slice none 0 0] tGr)).heap.size = W1.heap.size + 1 := World.size_alloc _ _
   simp only [Act.put, nS]
   refine' callH 4 (f := _) (args := _) rfl (by kernel_rfl) (by rfl) ?_ ?_; rotate_left 2; · (go_simp; first | done | with_reducible rfl | (constructor <;> with_reducible rfl))
   refine (hC1_h.out _ hBa).mono ?_
   rintro e w2 ⟨A2, c2, rfl, hO2⟩
   have hB2 := below_trans hBa hO2.below_ hBa.size
   have k2 := t_box_below k2a hO2.below_
   have kb2 := t_box_below kA hO2.below_
   have hW2 := below_trans hWA hO2.below_ hWA.size
   refine ⟨_, rfl, k2, ?_⟩
   simp only [Act.put, nS]
   refine' callH 8 (f := _) (args := _) rfl (by kernel_rfl) (by rfl) ?_ ?_; rotate_left 2; · (go_simp; first | done | with_reducible rfl | (constructor <;> with_reducible rfl))
   refine (hC2_h.out _ hB2).mono ?_
   rintro e w3 ⟨A3, c3, rfl, hO3⟩
   have k3 := t_box_below k2 hO3.below_
   have kb := t_box_below kb2 hO3.below_
   have hW3 := below_trans hW2 hO3.below_ hW2.size
   have hLs := OwLs.two (x := (A2, c2, mapL tt s)) (y := (A3, c3, mapL tt t)) hO2.is hO3.below_ hO3.is hO3.new
   have hws := hbd_h.out.size
   have hzk := t_box_lt k0d_h.out
   have hws2 := hO2.below_.size
   have hfr : ∀ x, x ∈ fpR [((A2, c2, mapL tt s) : Hd), (A3, c3, mapL tt t)] → W.heap.size ≤ x ∧ x ≠ W1.heap.size := fun x hx => by
    rw [fpR_cons, fpR_cons] at hx
    rcases List.mem_append.1 hx with hx | hx
    · have := hO2.new x hx; omega
    · rcases List.mem_append.1 hx with hx | hx
      · have := hO3.new x hx; omega
      · simp [fpR] at hx
   obtain ⟨s1, s2⟩ := set4 (a := .int .i64 cnt) (b := .slice none 0 0) (c := .slice A2 p c2) (d := .slice A3 r c3) kb
   have k6 := t_box_keeps k3 s2 (by omega)
   have hLs5 := hLs.keeps s2 (fun x hx e => (hfr x hx).2 e)
   have hBf := below_keeps hW3 s2 hW3.size (fun x hx => by omega)
   refine ⟨_, rfl, k3, ?_⟩
   obtain ⟨⟨y0, y1, y2, y3⟩, y4, y5, y6, y7⟩ := t_box4 kb
   have k3_h := lH k3; have hLs5_h := lH hLs5; have hBf_h := lH hBf; have s1_h := lH s1; have s2_h := lH s2; have kb_h := lH kb; have k6_h := lH k6; have hfr_h := lH hfr; clear k3 hLs5 hBf s1 s2 kb k6 hfr; clear hW3 hLs hO3
   simp only [Act.put, nS]
   refine tkH 9 ?_ rfl k3_h.out (fun W' hW' => ?_) ?_; rotate_left; · (skip; clear hW'; go_simp; first | done | with_reducible rfl)
   simp only [Act.put, nS]
   refine oneH 11 rfl (by kernel_rfl) (by rfl) (fun K hK => ?_)
   go_simp
   refine hK _ _ k6_h.out ?_
   clear hK K
   refine doneH (by kernel_rfl) ?_
   go_wp2_with (fail)
   go_meet
   exact ⟨W1.heap.size, (A2, c2, mapL tt s), (A3, c3, mapL tt t), rfl, s1_h.out, rfl, rfl, hLs5_h.out, hfr_h.out, by omega, hBf_h.out⟩
 case rest =>
  obtain ⟨bx, ⟨X1, X2, X3⟩, ⟨Y1, Y2, Y3⟩, rfl, kx, rfl, rfl, hLs, hfr, hbx, hBc⟩ := hcut
  obtain ⟨w4, rfl⟩ : ∃ x, x = wc := ⟨_, rfl⟩
  have k0c := t_box_below k0_h.out hBc
  have hws := bW_h.out.size
  obtain ⟨⟨c0, c1, c2, c3⟩, f0, f1, f2, f3⟩ := t_box4 k0c
  have k0c_h := lH k0c; have kx_h := lH kx; have hLs_h := lH hLs; have hfr_h := lH hfr; have hBc_h := lH hBc; clear k0c kx hLs hfr hBc
  go_wp2_with (fail)
  clear c0 c1 c2 c3 f0 f1 f2 f3
  go_loopw [23] (fun i wr => ∃ (k : Nat) (A' : Option Addr) (c' : Nat) (ys : List EHd), k ≤ m ∧ i = .int .i64 k ∧ ys.length = k ∧ ys.map egOf = (es.take k).map (mapE tt) ∧ wr.heap[bx]? = some (.cells #[.int .i64 cnt, .slice A' k c', .slice X1 p X2, .slice Y1 r Y2] tGr) ∧ Sl wr tEd 4 A' k c' (ecs ys) ∧ OwLs wr (fpA A') ((X1, X2, mapL tt s) :: (Y1, Y2, mapL tt t) :: eh ys) ∧ (∀ x, x ∈ fpA A' ++ fpR (((X1, X2, mapL tt s) : Hd) :: (Y1, Y2, mapL tt t) :: eh ys) → W.heap.size ≤ x ∧ x ≠ bx) ∧ Below W.heap.size W wr) (fun i _ => m - (intOf i).toNat)
  case atStart => exact ⟨0, none, 0, [], Nat.zero_le _, rfl, rfl, rfl, kx_h.out, Sl.nil _ _ _, hLs_h.out, hfr_h.out, hBc_h.out⟩
  case round =>
   clear kx_h hLs_h hfr_h hBc_h k0c_h
   obtain ⟨k, A', c', ys, hk, rfl, hyl, hye, kx, hsl, hLs, hfr, hBr⟩ := hrel
   have hBw := below_trans bW_h.out hBr bW_h.out.size
   by_cases hlt : k < m
   · obtain ⟨ad, κ, vv, B1, b1, s1, C1, b2, t1, rfl, hn, ⟨d0, d1, d2, d3⟩, hr1, hr2⟩ := (hE_h.out.below hBw).at_ (j := k) (by rw [← hm_h.out]; exact hlt)
     have hek : es[k]? = some (κ, vv, s1, t1) := by rw [a1_h.out, List.getElem?_map, hn]; rfl
     obtain ⟨hm1, hm2⟩ := mem_edW_of (List.mem_of_getElem? hek)
     have hln := hlE_h.out _ (List.mem_of_getElem? hek)
     have hrA : RdI w B1 s1 := (hE_h.out.2 _ (List.mem_of_getElem? hn)).1
     have hrB : RdI w C1 t1 := (hE_h.out.2 _ (List.mem_of_getElem? hn)).2
     have hCa := fun (W' : World) (hb : Below w.heap.size w W') => hgList_any B1 T b1 tc s1.length n s1 tt W' (hrA.below hb) (ht_h.out.below hb) rfl htn_h.out (fun x hx => hinE_h.out x (hm1 x hx)) hln.1
     have hCb := fun (W' : World) (hb : Below w.heap.size w W') => hgList_any C1 T b2 tc t1.length n t1 tt W' (hrB.below hb) (ht_h.out.below hb) rfl htn_h.out (fun x hx => hinE_h.out x (hm2 x hx)) hln.2
     obtain ⟨p1, hp1⟩ : ∃ p1, p1 = s1.length := ⟨_, rfl⟩
     obtain ⟨r1, hr1'⟩ : ∃ r1, r1 = t1.length := ⟨_, rfl⟩
     rw [← hp1] at d2
     rw [← hr1'] at d3
     simp only [← hp1] at hCa
     simp only [← hr1'] at hCb
     have hkI : (k : Int) < (m : Int) := by omega
     obtain ⟨wo, rfl⟩ : ∃ x, x = wr := ⟨_, rfl⟩
     obtain ⟨W6, hW6, bW6, k6⟩ := alloc_box1g wo (.cells #[.int .i64 κ, .int .i64 vv, .slice B1 p1 b1, .slice C1 r1 b2] tEd)
     have kx6 := t_box_below kx bW6
     have hxl := t_box_lt kx
     have hsl6 := hsl.below bW6
     have hLs6 := hLs.below bW6
     have hfl := hsl.lt
     have hll := hLs.lt
     have hB6 := below_trans hBw bW6 hBw.size
     have hW6b := below_trans hBr bW6 hBr.size
     have hr1_h := lH hr1'; clear hr1' hr1 hr2 hn hm1 hm2 hln hrA hrB hsl hLs kx hBr hBw; have hek_h := lH hek; have hp1_h := lH hp1; have bW6_h := lH bW6; have hye_h := lH hye; have hyl_h := lH hyl; have hCa_h := lH hCa; have hCb_h := lH hCb; have hfr_h := lH hfr; have kx6_h := lH kx6; have k6_h := lH k6; have hsl6_h := lH hsl6; have hLs6_h := lH hLs6; have hB6_h := lH hB6; have hW6b_h := lH hW6b; have hfl_h := lH hfl; have hll_h := lH hll; clear hek hp1 bW6 hye hyl hCa hCb hfr kx6 k6 hsl6 hLs6 hB6 hW6b hfl hll
     go_upto_region 5 with (fail)
     rw [← hW6]
     clear hW6 d0 d1 d2 d3
     refine beginZw 18 (fun w' => w'.heap[bx]? = some (.cells #[.int .i64 cnt, .slice A' k c', .slice X1 p X2, .slice Y1 r Y2] tGr) ∧ w'.heap[wo.heap.size]? = some (.cells #[.int .i64 κ, .int .i64 vv, .slice B1 p1 b1, .slice C1 r1 b2] tEd)) (by kernel_rfl) (fun W7 hW7 => ?_)
     have hbd : Below W6.heap.size W6 W7 := by rw [hW7]; exact below_drew (Below.refl _ _)
     clear hW7
     have hF := And.intro (t_box_below kx6_h.out hbd) (t_box_below k6_h.out hbd)
     have hB7 := below_trans hB6_h.out hbd hB6_h.out.size
     have hW7b := below_trans hW6b_h.out hbd hW6b_h.out.size
     have hsl7 := hsl6_h.out.below hbd
     have hLs7 := hLs6_h.out.below hbd
     have h7s : wo.heap.size ≤ W7.heap.size := Nat.le_trans bW6_h.out.size hbd.size
     clear hbd; have hF_h := lH hF; have hB7_h := lH hB7; have hW7b_h := lH hW7b; have hsl7_h := lH hsl7; have hLs7_h := lH hLs7; clear hF hB7 hW7b hsl7 hLs7
     refine tkC 0 ?_ rfl hF_h.out (fun W' hW' => ?_) ?_; rotate_left; · (obtain ⟨⟨y0, y1, y2, y3⟩, y4, y5, y6, y7⟩ := t_box4 hW'.1; obtain ⟨⟨x0, x1, x2, x3⟩, x4, x5, x6, x7⟩ := t_box4 hW'.2; clear hW'; go_simp; first | done | with_reducible rfl)
     simp only [Act.put, nS]
     refine tkC 1 ?_ rfl hF_h.out (fun W' hW' => ?_) ?_; rotate_left; · (obtain ⟨⟨y0, y1, y2, y3⟩, y4, y5, y6, y7⟩ := t_box4 hW'.1; obtain ⟨⟨x0, x1, x2, x3⟩, x4, x5, x6, x7⟩ := t_box4 hW'.2; clear hW'; go_simp; first | done | with_reducible rfl)
     simp only [Act.put, nS]
     refine tkC 2 ?_ rfl hF_h.out (fun W' hW' => ?_) ?_; rotate_left; · (obtain ⟨⟨y0, y1, y2, y3⟩, y4, y5, y6, y7⟩ := t_box4 hW'.1; obtain ⟨⟨x0, x1, x2, x3⟩, x4, x5, x6, x7⟩ := t_box4 hW'.2; clear hW'; go_simp; first | done | with_reducible rfl)
     simp only [Act.put, nS]
     refine tkC 3 ?_ rfl hF_h.out (fun W' hW' => ?_) ?_; rotate_left; · (obtain ⟨⟨y0, y1, y2, y3⟩, y4, y5, y6, y7⟩ := t_box4 hW'.1; obtain ⟨⟨x0, x1, x2, x3⟩, x4, x5, x6, x7⟩ := t_box4 hW'.2; clear hW'; go_simp; first | done | with_reducible rfl)
     simp only [Act.put, nS]
     refine tkC 4 ?_ rfl hF_h.out (fun W' hW' => ?_) ?_; rotate_left; · (obtain ⟨⟨y0, y1, y2, y3⟩, y4, y5, y6, y7⟩ := t_box4 hW'.1; obtain ⟨⟨x0, x1, x2, x3⟩, x4, x5, x6, x7⟩ := t_box4 hW'.2; clear hW'; go_simp; first | done | with_reducible rfl)
     simp only [Act.put, nS]
     refine tkC 5 ?_ rfl hF_h.out (fun W' hW' => ?_) ?_; rotate_left; · (obtain ⟨⟨y0, y1, y2, y3⟩, y4, y5, y6, y7⟩ := t_box4 hW'.1; obtain ⟨⟨x0, x1, x2, x3⟩, x4, x5, x6, x7⟩ := t_box4 hW'.2; clear hW'; go_simp; first | done | with_reducible rfl)
     simp only [Act.put, nS]
     refine tkC 6 ?_ rfl hF_h.out (fun W' hW' => ?_) ?_; rotate_left; · (obtain ⟨⟨y0, y1, y2, y3⟩, y4, y5, y6, y7⟩ := t_box4 hW'.1; obtain ⟨⟨x0, x1, x2, x3⟩, x4, x5, x6, x7⟩ := t_box4 hW'.2; clear hW'; go_simp; first | done | with_reducible rfl)
     simp only [Act.put, nS]
     refine tkC 7 ?_ rfl hF_h.out (fun W' hW' => ?_) ?_; rotate_left; · (obtain ⟨⟨y0, y1, y2, y3⟩, y4, y5, y6, y7⟩ := t_box4 hW'.1; obtain ⟨⟨x0, x1, x2, x3⟩, x4, x5, x6, x7⟩ := t_box4 hW'.2; clear hW'; go_simp; first | done | with_reducible rfl)
     simp only [Act.put, nS]
     refine tkC 8 ?_ rfl hF_h.out (fun W' hW' => ?_) ?_; rotate_left; · (obtain ⟨⟨y0, y1, y2, y3⟩, y4, y5, y6, y7⟩ := t_box4 hW'.1; obtain ⟨⟨x0, x1, x2, x3⟩, x4, x5, x6, x7⟩ := t_box4 hW'.2; clear hW'; go_simp; first | done | with_reducible rfl)
     simp only [Act.put, nS]
     refine tkC 10 ?_ rfl hF_h.out (fun W' hW' => ?_) ?_; rotate_left; · (obtain ⟨⟨y0, y1, y2, y3⟩, y4, y5, y6, y7⟩ := t_box4 hW'.1; obtain ⟨⟨x0, x1, x2, x3⟩, x4, x5, x6, x7⟩ := t_box4 hW'.2; clear hW'; go_simp; first | done | with_reducible rfl)
     simp only [Act.put, nS]
     refine tkC 11 ?_ rfl hF_h.out (fun W' hW' => ?_) ?_; rotate_left; · (obtain ⟨⟨y0, y1, y2, y3⟩, y4, y5, y6, y7⟩ := t_box4 hW'.1; obtain ⟨⟨x0, x1, x2, x3⟩, x4, x5, x6, x7⟩ := t_box4 hW'.2; clear hW'; go_simp; first | done | with_reducible rfl)
     simp only [Act.put, nS]
     refine tkC 12 ?_ rfl hF_h.out (fun W' hW' => ?_) ?_; rotate_left; · (obtain ⟨⟨y0, y1, y2, y3⟩, y4, y5, y6, y7⟩ := t_box4 hW'.1; obtain ⟨⟨x0, x1, x2, x3⟩, x4, x5, x6, x7⟩ := t_box4 hW'.2; clear hW'; go_simp; first | done | with_reducible rfl)
     simp only [Act.put, nS]
     refine callZ 9 (f := ?f1) (args := ?args1) rfl (by kernel_rfl) (by rfl) ?hrun1 ?hcall1
     case hrun1 => (go_simp; first | done | with_reducible rfl | (constructor <;> with_reducible rfl))
     case hcall1 =>
      refine (hCa_h.out W7 hB7_h.out).mono ?_
      rintro e w8 ⟨A8, c8, rfl, hO8⟩
      have hF8 := And.intro (t_box_below hF_h.out.1 hO8.below_) (t_box_below hF_h.out.2 hO8.below_)
      have hB8 := below_trans hB7_h.out hO8.below_ hB7_h.out.size
      have hW8b := below_trans hW7b_h.out hO8.below_ hW7b_h.out.size
      refine ⟨_, rfl, fun _ => hF8, ?_⟩
      have hF8_h := lH hF8; have hB8_h := lH hB8; have hW8b_h := lH hW8b; have hO8_h := lH hO8; clear hF8 hB8 hW8b hO8
      simp only [Act.put, nS]
      refine callZ 13 (f := ?f2) (args := ?args2) rfl (by kernel_rfl) (by rfl) ?hrun2 ?hcall2
      case hrun2 => (go_simp; first | done | with_reducible rfl | (constructor <;> with_reducible rfl))
      case hcall2 =>
       refine (hCb_h.out w8 hB8_h.out).mono ?_
       rintro e w9 ⟨A9, c9, rfl, hO9⟩
       have hF9 := And.intro (t_box_below hF8_h.out.1 hO9.below_) (t_box_below hF8_h.out.2 hO9.below_)
       have hB9 := below_trans hB8_h.out hO9.below_ hB8_h.out.size
       have hW9b := below_trans hW8b_h.out hO9.below_ hW8b_h.out.size
       have h79 : Below W7.heap.size W7 w9 := below_trans hO8_h.out.below_ hO9.below_ hO8_h.out.below_.size
       have hLs9 := hLs7_h.out.app h79 (ms := [(A8, c8, mapL tt s1), (A9, c9, mapL tt t1)]) (OwLs.two (x := (A8, c8, mapL tt s1)) (y := (A9, c9, mapL tt t1)) hO8_h.out.is hO9.below_ hO9.is hO9.new) (fun x hx => by
        rw [fpR_cons, fpR_cons] at hx
        rcases List.mem_append.1 hx with hx | hx
        · exact hO8_h.out.new x hx
        · rcases List.mem_append.1 hx with hx | hx
          · have := hO9.new x hx; have := hO8_h.out.below_.size; omega
          · simp [fpR] at hx) (fun x hx => hsl7_h.out.lt x hx)
       have hnew : ∀ x, x ∈ fpR [((A8, c8, mapL tt s1) : Hd), (A9, c9, mapL tt t1)] → W7.heap.size ≤ x := fun x hx => by
        rw [fpR_cons, fpR_cons] at hx
        rcases List.mem_append.1 hx with hx | hx
        · exact hO8_h.out.new x hx
        · rcases List.mem_append.1 hx with hx | hx
          · have := hO9.new x hx; have := hO8_h.out.below_.size; omega
          · simp [fpR] at hx
       have hsl9 := hsl7_h.out.below h79
       refine ⟨_, rfl, fun _ => hF9, ?_⟩
       clear hO9
       obtain ⟨w10, hw10, bw10, -⟩ := alloc_box1g w9 (.cells #[.int .i64 κ, .int .i64 vv, .slice A8 p1 c8, .slice A9 r1 c9] tEd)
       have hF10 := And.intro (t_box_below hF9.1 bw10) (t_box_below hF9.2 bw10)
       have hsl10 := hsl9.below bw10
       have hLs10 := hLs9.below bw10
       have h9s := h79.size
       have hW10b := below_trans hW9b bw10 hW9b.size
       have hlaid : RdC w10 (some ⟨w9.heap.size, 0, none⟩) [.int .i64 κ, .int .i64 vv, .slice A8 p1 c8, .slice A9 r1 c9] := by
        rw [hw10]; exact Sl.rdc (Sl.laid w9 tEd 4 1 #[.int .i64 κ, .int .i64 vv, .slice A8 p1 c8, .slice A9 r1 c9] (by unfold maxLen; omega) rfl)
       have hF9_h := lH hF9; have hF10_h := lH hF10; have hsl10_h := lH hsl10; have hLs10_h := lH hLs10; have hnew_h := lH hnew; have hW10b_h := lH hW10b; have hlaid_h := lH hlaid; have bw10_h := lH bw10; clear hF9 hF10 hsl10 hLs10 hnew hW10b hlaid bw10; clear hsl9 hLs9 hB9 hW9b h79
       simp only [Act.put, nS]
       refine tkC 14 ?_ rfl hF9_h.out (fun W' hW' => ?_) ?_; rotate_left; · (skip; clear hW'; go_simp; first | done | with_reducible rfl)
       simp only [Act.put, nS]
       refine oneZ 15 rfl (by kernel_rfl) (by rfl) (fun K hK => ?_)
       go_simp
       rw [← hw10]
       refine hK _ _ (fun _ => hF10_h.out) ?_
       clear hK K hw10
       refine appZ 16 rfl (by kernel_rfl) (by rfl) _ _ _ rfl tEd Tryz.underlying27 info_ed rfl (by omega) rfl hsl10_h.out rfl (news := [.int .i64 κ, .int .i64 vv, .slice A8 p1 c8, .slice A9 r1 c9]) rfl hlaid_h.out (by intro u hu; simp at hu; rcases hu with rfl | rfl | rfl | rfl <;> rfl) (by unfold maxLen; omega) (by omega) ?_
       intro A11 c11 w11 hs11 hA11 hk11 hrd11
       clear hrd11
       have hsle : Sl w11 tEd 4 A11 (k + 1) c11 (ecs (ys ++ [(κ, vv, (A8, c8, mapL tt s1), (A9, c9, mapL tt t1))])) := by
        have e : ecs ys ++ [.int .i64 κ, .int .i64 vv, .slice A8 p1 c8, .slice A9 r1 c9] = ecs (ys ++ [(κ, vv, (A8, c8, mapL tt s1), (A9, c9, mapL tt t1))]) := by
         rw [ecs_append]; simp only [ecs, ec, Hd.val, mapL_length, List.append_nil]; rw [← hp1_h.out, ← hr1_h.out]
        rw [← e]; exact hs11
       have hLs11 := hLs10_h.out.grow hA11 hk11
       have hfp11 : ∀ x, x ∈ fpA A11 ++ fpR (((X1, X2, mapL tt s) : Hd) :: (Y1, Y2, mapL tt t) :: eh (ys ++ [(κ, vv, (A8, c8, mapL tt s1), (A9, c9, mapL tt t1))])) → W.heap.size ≤ x ∧ x ≠ bx := fun x hx => by
        have hs7 := hW7b_h.out.size
        rcases List.mem_append.1 hx with hx | hx
        · rcases hA11 x hx with h1 | h1
          · exact hfr_h.out x (List.mem_append_left _ h1)
          · have := hW10b_h.out.size; have := bw10_h.out.size; omega
        · rw [eh_append, ← List.cons_append, ← List.cons_append, fpR_append] at hx
          rcases List.mem_append.1 hx with hx | hx
          · exact hfr_h.out x (List.mem_append_right _ hx)
          · have := hnew_h.out x hx; omega
       have hkA : ∀ x, x ∈ fpA A' → x ≠ bx ∧ x ≠ wo.heap.size := fun x hx => ⟨(hfr_h.out x (List.mem_append_left _ hx)).2, fun e => by have := hfl_h.out x hx; omega⟩
       have hF11 := And.intro (t_box_keeps hF10_h.out.1 hk11 (fun h => (hkA _ h).1 rfl)) (t_box_keeps hF10_h.out.2 hk11 (fun h => (hkA _ h).2 rfl))
       have hW11b := below_keeps hW10b_h.out hk11 hW10b_h.out.size (fun x hx => (hfr_h.out x (List.mem_append_left _ hx)).1)
       refine ⟨fun _ => hF11, ?_⟩
       obtain ⟨s1', s2'⟩ := box_set hF11.1 1 (.slice A11 (k + 1) c11)
       have s3' : (w11.setCell ⟨bx, 1, none⟩ (.slice A11 (k + 1) c11)).heap[bx]? = some (.cells #[.int .i64 cnt, .slice A11 (k + 1) c11, .slice X1 p X2, .slice Y1 r Y2] tGr) := s1'
       have hsl12 := hsle.keeps s2' (fun x hx e => (hfp11 x (List.mem_append_left _ hx)).2 e)
       have hLs12 := hLs11.keeps s2' (fun x hx e => (hfp11 x (List.mem_append_right _ (by rw [eh_append]; exact hx))).2 e)
       have hW12b := below_keeps hW11b s2' hW11b.size (fun x hx => by omega)
       have hye2 : (ys ++ [(κ, vv, (A8, c8, mapL tt s1), (A9, c9, mapL tt t1))]).map egOf = (es.take (k + 1)).map (mapE tt) := by
        rw [List.map_append, hye_h.out, List.take_add_one, hek_h.out, List.map_append]; rfl
       obtain ⟨⟨y0, y1, y2, y3⟩, y4, y5, y6, y7⟩ := t_box4 hF11.1
       clear hs11 hA11 hk11 hsle hLs11 s1' s2' hW11b hkA; have hF11_h := lH hF11; have s3'_h := lH s3'; have hsl12_h := lH hsl12; have hLs12_h := lH hLs12; have hW12b_h := lH hW12b; have hye2_h := lH hye2; have hfp11_h := lH hfp11; clear hF11 s3' hsl12 hLs12 hW12b hye2 hfp11
       simp only [Act.put, nS]
       refine tkC 17 ?_ rfl hF11_h.out (fun W' hW' => ?_) ?_; rotate_left; · (skip; clear hW'; go_simp; first | done | with_reducible rfl)
       simp only [Act.put, nS]
       refine oneZ 18 rfl (by kernel_rfl) (by rfl) (fun K hK => ?_)
       go_simp
       refine hK _ _ (fun h => by cases h) ?_
       clear hK K
       refine doneZ (by kernel_rfl) ?_
       go_wp2_with (fail)
       go_roundw
       case rel => exact ⟨k + 1, A11, c11, _, by omega, by go_num, by rw [List.length_append, hyl_h.out]; rfl, hye2_h.out, s3'_h.out, hsl12_h.out, by rw [eh_append]; exact hLs12_h.out, hfp11_h.out, hW12b_h.out⟩
       case measure => simp [intOf]; omega
   · obtain rfl : m = k := by omega
     rw [List.take_of_length_le (by rw [hmes_h.out]; exact Nat.le_refl _)] at hye
     have k1r := t_box_below k1_h.out hBr
     obtain ⟨t1', t2'⟩ := set4 (a := .int .i64 cnt) (b := .slice A' m c') (c := .slice X1 p X2) (d := .slice Y1 r Y2) k1r
     have hk1W := t_box_lt k1_h.out
     have hsl2 := hsl.keeps t2' (fun x hx e => by have := (hfr x (List.mem_append_left _ hx)).1; omega)
     have hLs2 := hLs.keeps t2' (fun x hx e => by have := (hfr x (List.mem_append_right _ hx)).1; omega)
     have hB9 := below_keeps hBw t2' hBw.size (fun x hx => by omega)
     have hfw : FreshL w.heap.size (fpA A' ++ fpR (((X1, X2, mapL tt s) : Hd) :: (Y1, Y2, mapL tt t) :: eh ys)) := fun x hx => by have := (hfr x hx).1; omega
     obtain ⟨⟨c0, c1, c2, c3⟩, f0, f1, f2, f3⟩ := t_box4 kx
     obtain ⟨⟨d0, d1, d2, d3⟩, g0, g1, g2, g3⟩ := t_box4 k1r
     clear hsl hLs t2' k1r kx hBr hBw hfr; have hye_h := lH hye; have hyl_h := lH hyl; have t1'_h := lH t1'; have hsl2_h := lH hsl2; have hLs2_h := lH hLs2; have hB9_h := lH hB9; have hfw_h := lH hfw; clear hye hyl t1' hsl2 hLs2 hB9 hfw
     go_wp2_with (fail)
     refine bodyPost_ret (results_cell_row rfl _ _ (w.heap.size + 1) _ _ (0, 0) _ rfl t1'_h.out Tryz.underlying29 rfl (by kernel_rfl)) rfl ?_
     refine ⟨_, fpA A' ++ fpR (((X1, X2, mapL tt s) : Hd) :: (Y1, Y2, mapL tt t) :: eh ys), rfl, ?_, hfw_h.out, hB9_h.out⟩
     rw [hG_h.out]
     refine ⟨A', c', ys, (X1, X2, mapL tt s), (Y1, Y2, mapL tt t), ?_, hye_h.out.symm, rfl, rfl, ?_, hLs2_h.out, rfl⟩
     · simp only [mapL_length]; rw [hyl_h.out, hp_h.out, hr_h.out]; rfl
     · rw [hyl_h.out]; exact hsl2_h.out
set_option maxRecDepth 100000 in
set_option maxHeartbeats 8000000 in
theorem moved_any {v : Value} {g : Gr} (w : World) (cnt : Int) (T : Option Addr) (tc n : Nat) (tt : List Int) (h : RdGr w v g) (ok : OkG g) (ht : RdI w T tt) (htn : tt.length = n) (hin : inW (n : Int) (t_allW g) = true) :
  Calls Tryz.prog 81 #[v, .int .i64 cnt, .slice T n tc] w fun e w' => ∃ v' fp, e = .returned v' ∧ OwGr w' v' (mapG tt cnt g) fp ∧ FreshL w.heap.size fp ∧ Below w.heap.size w w' := by
 obtain ⟨A, c, hs, ⟨B, b, s⟩, ⟨C, d, t⟩, rfl, e1, e2, e3, hE, hRa, hRb⟩ := h
 obtain ⟨z, es, s0, t0⟩ := g
 have a1 : es = hs.map egOf := e1
 have a2 : s = s0 := e2
 have a3 : t = t0 := e3
 subst a2 a3
 have hin0 : inW (n : Int) (s ++ (t ++ edW es)) = true := hin
 have hinS := inW_iff.1 (inW_app_left hin0)
 have hinT := inW_iff.1 (inW_app_left (inW_app_right hin0))
 have hinE := inW_iff.1 (inW_app_right (inW_app_right hin0))
 have hlen1 : es.length ≤ 1048576 := ok.1.1
 have hlen2 : s.length ≤ 1048576 := ok.1.2.1
 have hlen3 : t.length ≤ 1048576 := ok.1.2.2
 have hlE : ∀ x, x ∈ es → x.2.2.1.length ≤ 1048576 ∧ x.2.2.2.length ≤ 1048576 := ok.2.1
 obtain ⟨m, hm⟩ : ∃ m, m = hs.length := ⟨_, rfl⟩
 obtain ⟨p, hp⟩ : ∃ p, p = s.length := ⟨_, rfl⟩
 obtain ⟨r, hr⟩ : ∃ r, r = t.length := ⟨_, rfl⟩
 have hmes : es.length = m := by rw [a1, List.length_map, hm]
 have hRa0 : RdI w B s := hRa
 have hRb0 : RdI w C t := hRb
 obtain ⟨G, hG⟩ : ∃ G, G = mapG tt cnt (z, es, s, t) := ⟨_, rfl⟩
 rw [← hG]
 show Calls Tryz.prog _ #[.agg #[.int .i64 z, .slice A hs.length c, .slice B s.length b, .slice C t.length d], .int .i64 cnt, .slice T n tc] w _
 rw [← hm, ← hp, ← hr]
 obtain ⟨W, hW, bW, k0, k1⟩ := allocs2 w (.cells #[.int .i64 z, .slice A m c, .slice B p b, .slice C r d] tGr) (.cells #[.int .i64 0, .slice none 0 0, .slice none 0 0, .slice none 0 0] tGr)
 have hC1 := fun (W' : World) (hb : Below w.heap.size w W') => mapped_any B T b tc p n s tt W' (hRa0.below hb) (ht.below hb) hp.symm htn hinS (by omega)
 have hC2 := fun (W' : World) (hb : Below w.heap.size w W') => mapped_any C T d tc r n t tt W' (hRb0.below hb) (ht.below hb) hr.symm htn hinT (by omega)
 have hmb : (m : Int) ≤ 1048576 := by omega
 clear hRa hRb ok e1 e2 e3 hin hin0 hlen1 hlen2 hlen3 hinS hinT; have hE_h := lH hE; have hRa0_h := lH hRa0; have hRb0_h := lH hRb0; have a1_h := lH a1; have hlE_h := lH hlE; have hm_h := lH hm; have hp_h := lH hp; have hr_h := lH hr; have hmes_h := lH hmes; have hinE_h := lH hinE; have hC1_h := lH hC1; have hC2_h := lH hC2; have bW_h := lH bW; have k0_h := lH k0; have k1_h := lH k1; have ht_h := lH ht; have htn_h := lH htn; have hG_h := lH hG; clear hE hRa0 hRb0 a1 hlE hm hp hr hmes hinE hC1 hC2 bW k0 k1 ht htn hG
 go_enter Tryz.func81, Tryz.ntmps81
 go_upto_region 1 with (fail)
 rw [← hW]
 clear hW
 go_cut [7] (fun sv wx => ∃ (bx : Nat) (X Y : Hd), sv = .pointer (some ⟨bx, 0, none⟩) ∧ wx.heap[bx]? = some (.cells #[.int .i64 cnt, .slice none 0 0, .slice X.1 p X.2.1, .slice Y.1 r Y.2.1] tGr) ∧ X.2.2 = mapL tt s ∧ Y.2.2 = mapL tt t ∧ OwLs wx [] [X, Y] ∧ (∀ x, x ∈ fpR [X, Y] → W.heap.size ≤ x ∧ x ≠ bx) ∧ W.heap.size ≤ bx ∧ Below W.heap.size W wx)
 case first =>
  refine beginH (fun w' => w'.heap[w.heap.size]? = some (.cells #[.int .i64 z, .slice A m c, .slice B p b, .slice C r d] tGr)) (by kernel_rfl) ?_
  have hbd : Below W.heap.size W W.drew := below_drew (Below.refl _ _)
  generalize W.drew = W1 at hbd ⊢
  have k0d := t_box_below k0_h.out hbd
  have hBd := below_trans bW_h.out hbd bW_h.out.size
  have hbd_h := lH hbd; have k0d_h := lH k0d; have hBd_h := lH hBd; clear hbd k0d hBd
  refine tkH 0 ?_ rfl k0d_h.out (fun W' hW' => ?_) ?_; rotate_left; · (obtain ⟨⟨y0, y1, y2, y3⟩, y4, y5, y6, y7⟩ := t_box4 hW'; clear hW'; go_simp; first | done | with_reducible rfl)
  simp only [Act.put, nS]
  refine tkH 1 ?_ rfl k0d_h.out (fun W' hW' => ?_) ?_; rotate_left; · (obtain ⟨⟨y0, y1, y2, y3⟩, y4, y5, y6, y7⟩ := t_box4 hW'; clear hW'; go_simp; first | done | with_reducible rfl)
  simp only [Act.put, nS]
  refine tkH 2 ?_ rfl k0d_h.out (fun W' hW' => ?_) ?_; rotate_left; · (obtain ⟨⟨y0, y1, y2, y3⟩, y4, y5, y6, y7⟩ := t_box4 hW'; clear hW'; go_simp; first | done | with_reducible rfl)
  simp only [Act.put, nS]
  refine tkH 3 ?_ rfl k0d_h.out (fun W' hW' => ?_) ?_; rotate_left; · (obtain ⟨⟨y0, y1, y2, y3⟩, y4, y5, y6, y7⟩ := t_box4 hW'; clear hW'; go_simp; first | done | with_reducible rfl)
  simp only [Act.put, nS]
  refine tkH 5 ?_ rfl k0d_h.out (fun W' hW' => ?_) ?_; rotate_left; · (obtain ⟨⟨y0, y1, y2, y3⟩, y4, y5, y6, y7⟩ := t_box4 hW'; clear hW'; go_simp; first | done | with_reducible rfl)
  simp only [Act.put, nS]
  refine tkH 6 ?_ rfl k0d_h.out (fun W' hW' => ?_) ?_; rotate_left; · (obtain ⟨⟨y0, y1, y2, y3⟩, y4, y5, y6, y7⟩ := t_box4 hW'; clear hW'; go_simp; first | done | with_reducible rfl)
  simp only [Act.put, nS]
  refine tkH 7 ?_ rfl k0d_h.out (fun W' hW' => ?_) ?_; rotate_left; · (obtain ⟨⟨y0, y1, y2, y3⟩, y4, y5, y6, y7⟩ := t_box4 hW'; clear hW'; go_simp; first | done | with_reducible rfl)
  simp only [Act.put, nS]
  refine callOrH 4 10 (f := ?fo1) (args := ?argso1) (vj := ?vjo1) (wj := ?wjo1) rfl rfl (by kernel_rfl) (by rfl) (by rfl) ?hruno1 ?hrunjo1 ?h1o1 ?hSjo1 ?h2o1
  case hruno1 => (go_simp; first | done | with_reducible rfl | (constructor <;> with_reducible rfl))
  case hrunjo1 => (go_simp; first | done | with_reducible rfl | (constructor <;> with_reducible rfl))
  case hSjo1 => exact (t_box_below k0d_h.out (t_below_alloc _ _))
  case h1o1 =>
   refine (hC1_h.out W1 hBd_h.out).mono ?_
   rintro e w2 ⟨A2, c2, rfl, hO2⟩
   have hB2 := below_trans hBd_h.out hO2.below_ hBd_h.out.size
   have k2 := t_box_below k0d_h.out hO2.below_
   have hW2 := below_trans hbd_h.out hO2.below_ hbd_h.out.size
   refine ⟨_, rfl, k2, ?_⟩
   have hO2_h := lH hO2; have hB2_h := lH hB2; have k2_h := lH k2; have hW2_h := lH hW2; clear hO2 hB2 k2 hW2
   simp only [Act.put, nS]
   refine callOrH 8 10 (f := ?fo2) (args := ?argso2) (vj := ?vjo2) (wj := ?wjo2) rfl rfl (by kernel_rfl) (by rfl) (by rfl) ?hruno2 ?hrunjo2 ?h1o2 ?hSjo2 ?h2o2
   case hruno2 => (go_simp; first | done | with_reducible rfl | (constructor <;> with_reducible rfl))
   case hrunjo2 => (go_simp; first | done | with_reducible rfl | (constructor <;> with_reducible rfl))
   case hSjo2 => exact (t_box_below k2_h.out (t_below_alloc _ _))
   case h1o2 =>
    refine (hC2_h.out w2 hB2_h.out).mono ?_
    rintro e w3 ⟨A3, c3, rfl, hO3⟩
    have k3 := t_box_below k2_h.out hO3.below_
    have hW3 := below_trans hW2_h.out hO3.below_ hW2_h.out.size
    have hLs := OwLs.two (x := (A2, c2, mapL tt s)) (y := (A3, c3, mapL tt t)) hO2_h.out.is hO3.below_ hO3.is hO3.new
    have hlt2 := hLs.lt
    have hfr : ∀ x, x ∈ fpR [((A2, c2, mapL tt s) : Hd), (A3, c3, mapL tt t)] → W.heap.size ≤ x ∧ x ≠ w3.heap.size := fun x hx => by
     have h1 := hlt2 x hx
     rw [fpR_cons, fpR_cons] at hx
     rcases List.mem_append.1 hx with hx | hx
     · have := hO2_h.out.new x hx; have := hbd_h.out.size; omega
     · rcases List.mem_append.1 hx with hx | hx
       · have := hO3.new x hx; have := hW2_h.out.size; omega
       · simp [fpR] at hx
    refine ⟨_, rfl, k3, ?_⟩
    obtain ⟨W5, hW5, bW5, x5⟩ := alloc_box1g w3 (.cells #[.int .i64 0, .slice none 0 0, .slice none 0 0, .slice none 0 0] tGr)
    obtain ⟨s1, s2⟩ := set4 (a := .int .i64 cnt) (b := .slice none 0 0) (c := .slice A2 p c2) (d := .slice A3 r c3) x5
    have k5 := t_box_below k3 bW5
    have k6 := t_box_keeps k5 s2 (by have := t_box_lt k3; omega)
    have hLs5 := (hLs.below bW5).keeps s2 (fun x hx e => (hfr x hx).2 e)
    have hBf := below_keeps (below_trans hW3 bW5 hW3.size) s2 (Nat.le_trans hW3.size bW5.size) (fun x hx => by rw [hx]; exact hW3.size)
    have hge := hW3.size
    obtain ⟨⟨y0, y1, y2, y3⟩, y4, y5, y6, y7⟩ := t_box4 x5
    have k3_h := lH k3; have hLs5_h := lH hLs5; have hBf_h := lH hBf; have s1_h := lH s1; have s2_h := lH s2; have x5_h := lH x5; have k5_h := lH k5; have k6_h := lH k6; have hfr_h := lH hfr; have hge_h := lH hge; clear k3 hLs5 hBf s1 s2 x5 k5 k6 hfr hge; clear hW3 hLs hlt2 bW5 hO3
    simp only [Act.put, nS]
    refine tkH 9 ?_ rfl k3_h.out (fun W' hW' => ?_) ?_; rotate_left; · (skip; clear hW'; go_simp; first | done | with_reducible rfl)
    simp only [Act.put, nS]
    refine oneH 10 rfl (by kernel_rfl) (by rfl) (fun K hK => ?_)
    go_simp
    rw [← hW5]
    refine hK _ _ k5_h.out ?_
    clear hK K hW5
    refine oneH 11 rfl (by kernel_rfl) (by rfl) (fun K hK => ?_)
    go_simp
    refine hK _ _ k6_h.out ?_
    clear hK K
    refine doneH (by kernel_rfl) ?_
    go_wp2_with (fail)
    go_meet
    exact ⟨w3.heap.size, (A2, c2, mapL tt s), (A3, c3, mapL tt t), rfl, s1_h.out, rfl, rfl, hLs5_h.out, hfr_h.out, hge_h.out, hBf_h.out⟩
   case h2o2 =>
    have bA := t_below_alloc w2 (.cells #[.int .i64 0, .slice none 0 0, .slice none 0 0, .slice none 0 0] tGr)
    have kA := heap_alloc_new w2 (.cells #[.int .i64 0, .slice none 0 0, .slice none 0 0, .slice none 0 0] tGr)
    have hB3 := below_trans hB2_h.out bA hB2_h.out.size
    have hWA := below_trans hW2_h.out bA hW2_h.out.size
    have k2a := t_box_below k2_h.out bA
    have hzA : (w2.alloc (.cells #[.int .i64 0, .slice none 0 0, .slice none 0 0, .slice none 0 0] tGr)).heap.size = w2.heap.size + 1 := World.size_alloc _ _
    simp only [Act.put, nS]
    refine' callH 8 (f := _) (args := _) rfl (by kernel_rfl) (by rfl) ?_ ?_; rotate_left 2; · (go_simp; first | done | with_reducible rfl | (constructor <;> with_reducible rfl))
    refine (hC2_h.out _ hB3).mono ?_
    rintro e w3 ⟨A3, c3, rfl, hO3⟩
    have k3 := t_box_below k2a hO3.below_
    have kb := t_box_below kA hO3.below_
    have hW3 := below_trans hWA hO3.below_ hWA.size
    have hLs := OwLs.two (x := (A2, c2, mapL tt s)) (y := (A3, c3, mapL tt t)) (hO2_h.out.is.below bA) hO3.below_ hO3.is hO3.new
    have hws := hW2_h.out.size
    have hzk := t_box_lt k2_h.out
    have hfr : ∀ x, x ∈ fpR [((A2, c2, mapL tt s) : Hd), (A3, c3, mapL tt t)] → W.heap.size ≤ x ∧ x ≠ w2.heap.size := fun x hx => by
     rw [fpR_cons, fpR_cons] at hx
     rcases List.mem_append.1 hx with hx | hx
     · have h1 := hO2_h.out.is.lt x hx; have := hO2_h.out.new x hx; have := hbd_h.out.size; omega
     · rcases List.mem_append.1 hx with hx | hx
       · have := hO3.new x hx; omega
       · simp [fpR] at hx
    obtain ⟨s1, s2⟩ := set4 (a := .int .i64 cnt) (b := .slice none 0 0) (c := .slice A2 p c2) (d := .slice A3 r c3) kb
    have k6 := t_box_keeps k3 s2 (by omega)
    have hLs5 := hLs.keeps s2 (fun x hx e => (hfr x hx).2 e)
    have hBf := below_keeps hW3 s2 hW3.size (fun x hx => by omega)
    refine ⟨_, rfl, k3, ?_⟩
    obtain ⟨⟨y0, y1, y2, y3⟩, y4, y5, y6, y7⟩ := t_box4 kb
    have k3_h := lH k3; have hLs5_h := lH hLs5; have hBf_h := lH hBf; have s1_h := lH s1; have s2_h := lH s2; have kb_h := lH kb; have k6_h := lH k6; have hfr_h := lH hfr; clear k3 hLs5 hBf s1 s2 kb k6 hfr; clear hW3 hLs hO3
    simp only [Act.put, nS]
    refine tkH 9 ?_ rfl k3_h.out (fun W' hW' => ?_) ?_; rotate_left; · (skip; clear hW'; go_simp; first | done | with_reducible rfl)
    simp only [Act.put, nS]
    refine oneH 11 rfl (by kernel_rfl) (by rfl) (fun K hK => ?_)
    go_simp
    refine hK _ _ k6_h.out ?_
    clear hK K
    refine doneH (by kernel_rfl) ?_
    go_wp2_with (fail)
    go_meet
    exact ⟨w2.heap.size, (A2, c2, mapL tt s), (A3, c3, mapL tt t), rfl, s1_h.out, rfl, rfl, hLs5_h.out, hfr_h.out, by omega, hBf_h.out⟩
  case h2o1 =>
   have bA := t_below_alloc W1 (.cells #[.int .i64 0, .slice none 0 0, .slice none 0 0, .slice none 0 0] tGr)
   have kA := heap_alloc_new W1 (.cells #[.int .i64 0, .slice none 0 0, .slice none 0 0, .slice none 0 0] tGr)
   have hBa := below_trans hBd_h.out bA hBd_h.out.size
   have hWA := below_trans hbd_h.out bA hbd_h.out.size
   have k2a := t_box_below k0d_h.out bA
   have hzA : (W1.alloc (.cells #[.int .i64 0, .slice none 0 0, .slice none 0 0, .slice none 0 0] tGr)).heap.size = W1.heap.size + 1 := World.size_alloc _ _
   simp only [Act.put, nS]
   refine' callH 4 (f := _) (args := _) rfl (by kernel_rfl) (by rfl) ?_ ?_; rotate_left 2; · (go_simp; first | done | with_reducible rfl | (constructor <;> with_reducible rfl))
   refine (hC1_h.out _ hBa).mono ?_
   rintro e w2 ⟨A2, c2, rfl, hO2⟩
   have hB2 := below_trans hBa hO2.below_ hBa.size
   have k2 := t_box_below k2a hO2.below_
   have kb2 := t_box_below kA hO2.below_
   have hW2 := below_trans hWA hO2.below_ hWA.size
   refine ⟨_, rfl, k2, ?_⟩
   simp only [Act.put, nS]
   refine' callH 8 (f := _) (args := _) rfl (by kernel_rfl) (by rfl) ?_ ?_; rotate_left 2; · (go_simp; first | done | with_reducible rfl | (constructor <;> with_reducible rfl))
   refine (hC2_h.out _ hB2).mono ?_
   rintro e w3 ⟨A3, c3, rfl, hO3⟩
   have k3 := t_box_below k2 hO3.below_
   have kb := t_box_below kb2 hO3.below_
   have hW3 := below_trans hW2 hO3.below_ hW2.size
   have hLs := OwLs.two (x := (A2, c2, mapL tt s)) (y := (A3, c3, mapL tt t)) hO2.is hO3.below_ hO3.is hO3.new
   have hws := hbd_h.out.size
   have hzk := t_box_lt k0d_h.out
   have hws2 := hO2.below_.size
   have hfr : ∀ x, x ∈ fpR [((A2, c2, mapL tt s) : Hd), (A3, c3, mapL tt t)] → W.heap.size ≤ x ∧ x ≠ W1.heap.size := fun x hx => by
    rw [fpR_cons, fpR_cons] at hx
    rcases List.mem_append.1 hx with hx | hx
    · have := hO2.new x hx; omega
    · rcases List.mem_append.1 hx with hx | hx
      · have := hO3.new x hx; omega
      · simp [fpR] at hx
   obtain ⟨s1, s2⟩ := set4 (a := .int .i64 cnt) (b := .slice none 0 0) (c := .slice A2 p c2) (d := .slice A3 r c3) kb
   have k6 := t_box_keeps k3 s2 (by omega)
   have hLs5 := hLs.keeps s2 (fun x hx e => (hfr x hx).2 e)
   have hBf := below_keeps hW3 s2 hW3.size (fun x hx => by omega)
   refine ⟨_, rfl, k3, ?_⟩
   obtain ⟨⟨y0, y1, y2, y3⟩, y4, y5, y6, y7⟩ := t_box4 kb
   have k3_h := lH k3; have hLs5_h := lH hLs5; have hBf_h := lH hBf; have s1_h := lH s1; have s2_h := lH s2; have kb_h := lH kb; have k6_h := lH k6; have hfr_h := lH hfr; clear k3 hLs5 hBf s1 s2 kb k6 hfr; clear hW3 hLs hO3
   simp only [Act.put, nS]
   refine tkH 9 ?_ rfl k3_h.out (fun W' hW' => ?_) ?_; rotate_left; · (skip; clear hW'; go_simp; first | done | with_reducible rfl)
   simp only [Act.put, nS]
   refine oneH 11 rfl (by kernel_rfl) (by rfl) (fun K hK => ?_)
   go_simp
   refine hK _ _ k6_h.out ?_
   clear hK K
   refine doneH (by kernel_rfl) ?_
   go_wp2_with (fail)
   go_meet
   exact ⟨W1.heap.size, (A2, c2, mapL tt s), (A3, c3, mapL tt t), rfl, s1_h.out, rfl, rfl, hLs5_h.out, hfr_h.out, by omega, hBf_h.out⟩
 case rest =>
  obtain ⟨bx, ⟨X1, X2, X3⟩, ⟨Y1, Y2, Y3⟩, rfl, kx, rfl, rfl, hLs, hfr, hbx, hBc⟩ := hcut
  obtain ⟨w4, rfl⟩ : ∃ x, x = wc := ⟨_, rfl⟩
  have k0c := t_box_below k0_h.out hBc
  have hws := bW_h.out.size
  obtain ⟨⟨c0, c1, c2, c3⟩, f0, f1, f2, f3⟩ := t_box4 k0c
  have k0c_h := lH k0c; have kx_h := lH kx; have hLs_h := lH hLs; have hfr_h := lH hfr; have hBc_h := lH hBc; clear k0c kx hLs hfr hBc
  go_wp2_with (fail)
  clear c0 c1 c2 c3 f0 f1 f2 f3
  go_loopw [23] (fun i wr => ∃ (k : Nat) (A' : Option Addr) (c' : Nat) (ys : List EHd), k ≤ m ∧ i = .int .i64 k ∧ ys.length = k ∧ ys.map egOf = (es.take k).map (mapE tt) ∧ wr.heap[bx]? = some (.cells #[.int .i64 cnt, .slice A' k c', .slice X1 p X2, .slice Y1 r Y2] tGr) ∧ Sl wr tEd 4 A' k c' (ecs ys) ∧ OwLs wr (fpA A') ((X1, X2, mapL tt s) :: (Y1, Y2, mapL tt t) :: eh ys) ∧ (∀ x, x ∈ fpA A' ++ fpR (((X1, X2, mapL tt s) : Hd) :: (Y1, Y2, mapL tt t) :: eh ys) → W.heap.size ≤ x ∧ x ≠ bx) ∧ Below W.heap.size W wr) (fun i _ => m - (intOf i).toNat)
  case atStart => exact ⟨0, none, 0, [], Nat.zero_le _, rfl, rfl, rfl, kx_h.out, Sl.nil _ _ _, hLs_h.out, hfr_h.out, hBc_h.out⟩
  case round =>
   clear kx_h hLs_h hfr_h hBc_h k0c_h
   obtain ⟨k, A', c', ys, hk, rfl, hyl, hye, kx, hsl, hLs, hfr, hBr⟩ := hrel
   have hBw := below_trans bW_h.out hBr bW_h.out.size
   by_cases hlt : k < m
   · obtain ⟨ad, κ, vv, B1, b1, s1, C1, b2, t1, rfl, hn, ⟨d0, d1, d2, d3⟩, hr1, hr2⟩ := (hE_h.out.below hBw).at_ (j := k) (by rw [← hm_h.out]; exact hlt)
     have hek : es[k]? = some (κ, vv, s1, t1) := by rw [a1_h.out, List.getElem?_map, hn]; rfl
     obtain ⟨hm1, hm2⟩ := mem_edW_of (List.mem_of_getElem? hek)
     have hln := hlE_h.out _ (List.mem_of_getElem? hek)
     have hrA : RdI w B1 s1 := (hE_h.out.2 _ (List.mem_of_getElem? hn)).1
     have hrB : RdI w C1 t1 := (hE_h.out.2 _ (List.mem_of_getElem? hn)).2
     have hCa := fun (W' : World) (hb : Below w.heap.size w W') => mapped_any B1 T b1 tc s1.length n s1 tt W' (hrA.below hb) (ht_h.out.below hb) rfl htn_h.out (fun x hx => hinE_h.out x (hm1 x hx)) hln.1
     have hCb := fun (W' : World) (hb : Below w.heap.size w W') => mapped_any C1 T b2 tc t1.length n t1 tt W' (hrB.below hb) (ht_h.out.below hb) rfl htn_h.out (fun x hx => hinE_h.out x (hm2 x hx)) hln.2
     obtain ⟨p1, hp1⟩ : ∃ p1, p1 = s1.length := ⟨_, rfl⟩
     obtain ⟨r1, hr1'⟩ : ∃ r1, r1 = t1.length := ⟨_, rfl⟩
     rw [← hp1] at d2
     rw [← hr1'] at d3
     simp only [← hp1] at hCa
     simp only [← hr1'] at hCb
     have hkI : (k : Int) < (m : Int) := by omega
     obtain ⟨wo, rfl⟩ : ∃ x, x = wr := ⟨_, rfl⟩
     obtain ⟨W6, hW6, bW6, k6⟩ := alloc_box1g wo (.cells #[.int .i64 κ, .int .i64 vv, .slice B1 p1 b1, .slice C1 r1 b2] tEd)
     have kx6 := t_box_below kx bW6
     have hxl := t_box_lt kx
     have hsl6 := hsl.below bW6
     have hLs6 := hLs.below bW6
     have hfl := hsl.lt
     have hll := hLs.lt
     have hB6 := below_trans hBw bW6 hBw.size
     have hW6b := below_trans hBr bW6 hBr.size
     have hr1_h := lH hr1'; clear hr1' hr1 hr2 hn hm1 hm2 hln hrA hrB hsl hLs kx hBr hBw; have hek_h := lH hek; have hp1_h := lH hp1; have bW6_h := lH bW6; have hye_h := lH hye; have hyl_h := lH hyl; have hCa_h := lH hCa; have hCb_h := lH hCb; have hfr_h := lH hfr; have kx6_h := lH kx6; have k6_h := lH k6; have hsl6_h := lH hsl6; have hLs6_h := lH hLs6; have hB6_h := lH hB6; have hW6b_h := lH hW6b; have hfl_h := lH hfl; have hll_h := lH hll; clear hek hp1 bW6 hye hyl hCa hCb hfr kx6 k6 hsl6 hLs6 hB6 hW6b hfl hll
     go_upto_region 5 with (fail)
     rw [← hW6]
     clear hW6 d0 d1 d2 d3
     refine beginZw 18 (fun w' => w'.heap[bx]? = some (.cells #[.int .i64 cnt, .slice A' k c', .slice X1 p X2, .slice Y1 r Y2] tGr) ∧ w'.heap[wo.heap.size]? = some (.cells #[.int .i64 κ, .int .i64 vv, .slice B1 p1 b1, .slice C1 r1 b2] tEd)) (by kernel_rfl) (fun W7 hW7 => ?_)
     have hbd : Below W6.heap.size W6 W7 := by rw [hW7]; exact below_drew (Below.refl _ _)
     clear hW7
     have hF := And.intro (t_box_below kx6_h.out hbd) (t_box_below k6_h.out hbd)
     have hB7 := below_trans hB6_h.out hbd hB6_h.out.size
     have hW7b := below_trans hW6b_h.out hbd hW6b_h.out.size
     have hsl7 := hsl6_h.out.below hbd
     have hLs7 := hLs6_h.out.below hbd
     have h7s : wo.heap.size ≤ W7.heap.size := Nat.le_trans bW6_h.out.size hbd.size
     clear hbd; have hF_h := lH hF; have hB7_h := lH hB7; have hW7b_h := lH hW7b; have hsl7_h := lH hsl7; have hLs7_h := lH hLs7; clear hF hB7 hW7b hsl7 hLs7
     refine tkC 0 ?_ rfl hF_h.out (fun W' hW' => ?_) ?_; rotate_left; · (obtain ⟨⟨y0, y1, y2, y3⟩, y4, y5, y6, y7⟩ := t_box4 hW'.1; obtain ⟨⟨x0, x1, x2, x3⟩, x4, x5, x6, x7⟩ := t_box4 hW'.2; clear hW'; go_simp; first | done | with_reducible rfl)
     simp only [Act.put, nS]
     refine tkC 1 ?_ rfl hF_h.out (fun W' hW' => ?_) ?_; rotate_left; · (obtain ⟨⟨y0, y1, y2, y3⟩, y4, y5, y6, y7⟩ := t_box4 hW'.1; obtain ⟨⟨x0, x1, x2, x3⟩, x4, x5, x6, x7⟩ := t_box4 hW'.2; clear hW'; go_simp; first | done | with_reducible rfl)
     simp only [Act.put, nS]
     refine tkC 2 ?_ rfl hF_h.out (fun W' hW' => ?_) ?_; rotate_left; · (obtain ⟨⟨y0, y1, y2, y3⟩, y4, y5, y6, y7⟩ := t_box4 hW'.1; obtain ⟨⟨x0, x1, x2, x3⟩, x4, x5, x6, x7⟩ := t_box4 hW'.2; clear hW'; go_simp; first | done | with_reducible rfl)
     simp only [Act.put, nS]
     refine tkC 3 ?_ rfl hF_h.out (fun W' hW' => ?_) ?_; rotate_left; · (obtain ⟨⟨y0, y1, y2, y3⟩, y4, y5, y6, y7⟩ := t_box4 hW'.1; obtain ⟨⟨x0, x1, x2, x3⟩, x4, x5, x6, x7⟩ := t_box4 hW'.2; clear hW'; go_simp; first | done | with_reducible rfl)
     simp only [Act.put, nS]
     refine tkC 4 ?_ rfl hF_h.out (fun W' hW' => ?_) ?_; rotate_left; · (obtain ⟨⟨y0, y1, y2, y3⟩, y4, y5, y6, y7⟩ := t_box4 hW'.1; obtain ⟨⟨x0, x1, x2, x3⟩, x4, x5, x6, x7⟩ := t_box4 hW'.2; clear hW'; go_simp; first | done | with_reducible rfl)
     simp only [Act.put, nS]
     refine tkC 5 ?_ rfl hF_h.out (fun W' hW' => ?_) ?_; rotate_left; · (obtain ⟨⟨y0, y1, y2, y3⟩, y4, y5, y6, y7⟩ := t_box4 hW'.1; obtain ⟨⟨x0, x1, x2, x3⟩, x4, x5, x6, x7⟩ := t_box4 hW'.2; clear hW'; go_simp; first | done | with_reducible rfl)
     simp only [Act.put, nS]
     refine tkC 6 ?_ rfl hF_h.out (fun W' hW' => ?_) ?_; rotate_left; · (obtain ⟨⟨y0, y1, y2, y3⟩, y4, y5, y6, y7⟩ := t_box4 hW'.1; obtain ⟨⟨x0, x1, x2, x3⟩, x4, x5, x6, x7⟩ := t_box4 hW'.2; clear hW'; go_simp; first | done | with_reducible rfl)
     simp only [Act.put, nS]
     refine tkC 7 ?_ rfl hF_h.out (fun W' hW' => ?_) ?_; rotate_left; · (obtain ⟨⟨y0, y1, y2, y3⟩, y4, y5, y6, y7⟩ := t_box4 hW'.1; obtain ⟨⟨x0, x1, x2, x3⟩, x4, x5, x6, x7⟩ := t_box4 hW'.2; clear hW'; go_simp; first | done | with_reducible rfl)
     simp only [Act.put, nS]
     refine tkC 8 ?_ rfl hF_h.out (fun W' hW' => ?_) ?_; rotate_left; · (obtain ⟨⟨y0, y1, y2, y3⟩, y4, y5, y6, y7⟩ := t_box4 hW'.1; obtain ⟨⟨x0, x1, x2, x3⟩, x4, x5, x6, x7⟩ := t_box4 hW'.2; clear hW'; go_simp; first | done | with_reducible rfl)
     simp only [Act.put, nS]
     refine tkC 10 ?_ rfl hF_h.out (fun W' hW' => ?_) ?_; rotate_left; · (obtain ⟨⟨y0, y1, y2, y3⟩, y4, y5, y6, y7⟩ := t_box4 hW'.1; obtain ⟨⟨x0, x1, x2, x3⟩, x4, x5, x6, x7⟩ := t_box4 hW'.2; clear hW'; go_simp; first | done | with_reducible rfl)
     simp only [Act.put, nS]
     refine tkC 11 ?_ rfl hF_h.out (fun W' hW' => ?_) ?_; rotate_left; · (obtain ⟨⟨y0, y1, y2, y3⟩, y4, y5, y6, y7⟩ := t_box4 hW'.1; obtain ⟨⟨x0, x1, x2, x3⟩, x4, x5, x6, x7⟩ := t_box4 hW'.2; clear hW'; go_simp; first | done | with_reducible rfl)
     simp only [Act.put, nS]
     refine tkC 12 ?_ rfl hF_h.out (fun W' hW' => ?_) ?_; rotate_left; · (obtain ⟨⟨y0, y1, y2, y3⟩, y4, y5, y6, y7⟩ := t_box4 hW'.1; obtain ⟨⟨x0, x1, x2, x3⟩, x4, x5, x6, x7⟩ := t_box4 hW'.2; clear hW'; go_simp; first | done | with_reducible rfl)
     simp only [Act.put, nS]
     refine callZ 9 (f := ?f3) (args := ?args3) rfl (by kernel_rfl) (by rfl) ?hrun3 ?hcall3
     case hrun3 => (go_simp; first | done | with_reducible rfl | (constructor <;> with_reducible rfl))
     case hcall3 =>
      refine (hCa_h.out W7 hB7_h.out).mono ?_
      rintro e w8 ⟨A8, c8, rfl, hO8⟩
      have hF8 := And.intro (t_box_below hF_h.out.1 hO8.below_) (t_box_below hF_h.out.2 hO8.below_)
      have hB8 := below_trans hB7_h.out hO8.below_ hB7_h.out.size
      have hW8b := below_trans hW7b_h.out hO8.below_ hW7b_h.out.size
      refine ⟨_, rfl, fun _ => hF8, ?_⟩
      have hF8_h := lH hF8; have hB8_h := lH hB8; have hW8b_h := lH hW8b; have hO8_h := lH hO8; clear hF8 hB8 hW8b hO8
      simp only [Act.put, nS]
      refine callZ 13 (f := ?f4) (args := ?args4) rfl (by kernel_rfl) (by rfl) ?hrun4 ?hcall4
      case hrun4 => (go_simp; first | done | with_reducible rfl | (constructor <;> with_reducible rfl))
      case hcall4 =>
       refine (hCb_h.out w8 hB8_h.out).mono ?_
       rintro e w9 ⟨A9, c9, rfl, hO9⟩
       have hF9 := And.intro (t_box_below hF8_h.out.1 hO9.below_) (t_box_below hF8_h.out.2 hO9.below_)
       have hB9 := below_trans hB8_h.out hO9.below_ hB8_h.out.size
       have hW9b := below_trans hW8b_h.out hO9.below_ hW8b_h.out.size
       have h79 : Below W7.heap.size W7 w9 := below_trans hO8_h.out.below_ hO9.below_ hO8_h.out.below_.size
       have hLs9 := hLs7_h.out.app h79 (ms := [(A8, c8, mapL tt s1), (A9, c9, mapL tt t1)]) (OwLs.two (x := (A8, c8, mapL tt s1)) (y := (A9, c9, mapL tt t1)) hO8_h.out.is hO9.below_ hO9.is hO9.new) (fun x hx => by
        rw [fpR_cons, fpR_cons] at hx
        rcases List.mem_append.1 hx with hx | hx
        · exact hO8_h.out.new x hx
        · rcases List.mem_append.1 hx with hx | hx
          · have := hO9.new x hx; have := hO8_h.out.below_.size; omega
          · simp [fpR] at hx) (fun x hx => hsl7_h.out.lt x hx)
       have hnew : ∀ x, x ∈ fpR [((A8, c8, mapL tt s1) : Hd), (A9, c9, mapL tt t1)] → W7.heap.size ≤ x := fun x hx => by
        rw [fpR_cons, fpR_cons] at hx
        rcases List.mem_append.1 hx with hx | hx
        · exact hO8_h.out.new x hx
        · rcases List.mem_append.1 hx with hx | hx
          · have := hO9.new x hx; have := hO8_h.out.below_.size; omega
          · simp [fpR] at hx
       have hsl9 := hsl7_h.out.below h79
       refine ⟨_, rfl, fun _ => hF9, ?_⟩
       clear hO9
       obtain ⟨w10, hw10, bw10, -⟩ := alloc_box1g w9 (.cells #[.int .i64 κ, .int .i64 vv, .slice A8 p1 c8, .slice A9 r1 c9] tEd)
       have hF10 := And.intro (t_box_below hF9.1 bw10) (t_box_below hF9.2 bw10)
       have hsl10 := hsl9.below bw10
       have hLs10 := hLs9.below bw10
       have h9s := h79.size
       have hW10b := below_trans hW9b bw10 hW9b.size
       have hlaid : RdC w10 (some ⟨w9.heap.size, 0, none⟩) [.int .i64 κ, .int .i64 vv, .slice A8 p1 c8, .slice A9 r1 c9] := by
        rw [hw10]; exact Sl.rdc (Sl.laid w9 tEd 4 1 #[.int .i64 κ, .int .i64 vv, .slice A8 p1 c8, .slice A9 r1 c9] (by unfold maxLen; omega) rfl)
       have hF9_h := lH hF9; have hF10_h := lH hF10; have hsl10_h := lH hsl10; have hLs10_h := lH hLs10; have hnew_h := lH hnew; have hW10b_h := lH hW10b; have hlaid_h := lH hlaid; have bw10_h := lH bw10; clear hF9 hF10 hsl10 hLs10 hnew hW10b hlaid bw10; clear hsl9 hLs9 hB9 hW9b h79
       simp only [Act.put, nS]
       refine tkC 14 ?_ rfl hF9_h.out (fun W' hW' => ?_) ?_; rotate_left; · (skip; clear hW'; go_simp; first | done | with_reducible rfl)
       simp only [Act.put, nS]
       refine oneZ 15 rfl (by kernel_rfl) (by rfl) (fun K hK => ?_)
       go_simp
       rw [← hw10]
       refine hK _ _ (fun _ => hF10_h.out) ?_
       clear hK K hw10
       refine appZ 16 rfl (by kernel_rfl) (by rfl) _ _ _ rfl tEd Tryz.underlying27 info_ed rfl (by omega) rfl hsl10_h.out rfl (news := [.int .i64 κ, .int .i64 vv, .slice A8 p1 c8, .slice A9 r1 c9]) rfl hlaid_h.out (by intro u hu; simp at hu; rcases hu with rfl | rfl | rfl | rfl <;> rfl) (by unfold maxLen; omega) (by omega) ?_
       intro A11 c11 w11 hs11 hA11 hk11 hrd11
       clear hrd11
       have hsle : Sl w11 tEd 4 A11 (k + 1) c11 (ecs (ys ++ [(κ, vv, (A8, c8, mapL tt s1), (A9, c9, mapL tt t1))])) := by
        have e : ecs ys ++ [.int .i64 κ, .int .i64 vv, .slice A8 p1 c8, .slice A9 r1 c9] = ecs (ys ++ [(κ, vv, (A8, c8, mapL tt s1), (A9, c9, mapL tt t1))]) := by
         rw [ecs_append]; simp only [ecs, ec, Hd.val, mapL_length, List.append_nil]; rw [← hp1_h.out, ← hr1_h.out]
        rw [← e]; exact hs11
       have hLs11 := hLs10_h.out.grow hA11 hk11
       have hfp11 : ∀ x, x ∈ fpA A11 ++ fpR (((X1, X2, mapL tt s) : Hd) :: (Y1, Y2, mapL tt t) :: eh (ys ++ [(κ, vv, (A8, c8, mapL tt s1), (A9, c9, mapL tt t1))])) → W.heap.size ≤ x ∧ x ≠ bx := fun x hx => by
        have hs7 := hW7b_h.out.size
        rcases List.mem_append.1 hx with hx | hx
        · rcases hA11 x hx with h1 | h1
          · exact hfr_h.out x (List.mem_append_left _ h1)
          · have := hW10b_h.out.size; have := bw10_h.out.size; omega
        · rw [eh_append, ← List.cons_append, ← List.cons_append, fpR_append] at hx
          rcases List.mem_append.1 hx with hx | hx
          · exact hfr_h.out x (List.mem_append_right _ hx)
          · have := hnew_h.out x hx; omega
       have hkA : ∀ x, x ∈ fpA A' → x ≠ bx ∧ x ≠ wo.heap.size := fun x hx => ⟨(hfr_h.out x (List.mem_append_left _ hx)).2, fun e => by have := hfl_h.out x hx; omega⟩
       have hF11 := And.intro (t_box_keeps hF10_h.out.1 hk11 (fun h => (hkA _ h).1 rfl)) (t_box_keeps hF10_h.out.2 hk11 (fun h => (hkA _ h).2 rfl))
       have hW11b := below_keeps hW10b_h.out hk11 hW10b_h.out.size (fun x hx => (hfr_h.out x (List.mem_append_left _ hx)).1)
       refine ⟨fun _ => hF11, ?_⟩
       obtain ⟨s1', s2'⟩ := box_set hF11.1 1 (.slice A11 (k + 1) c11)
       have s3' : (w11.setCell ⟨bx, 1, none⟩ (.slice A11 (k + 1) c11)).heap[bx]? = some (.cells #[.int .i64 cnt, .slice A11 (k + 1) c11, .slice X1 p X2, .slice Y1 r Y2] tGr) := s1'
       have hsl12 := hsle.keeps s2' (fun x hx e => (hfp11 x (List.mem_append_left _ hx)).2 e)
       have hLs12 := hLs11.keeps s2' (fun x hx e => (hfp11 x (List.mem_append_right _ (by rw [eh_append]; exact hx))).2 e)
       have hW12b := below_keeps hW11b s2' hW11b.size (fun x hx => by omega)
       have hye2 : (ys ++ [(κ, vv, (A8, c8, mapL tt s1), (A9, c9, mapL tt t1))]).map egOf = (es.take (k + 1)).map (mapE tt) := by
        rw [List.map_append, hye_h.out, List.take_add_one, hek_h.out, List.map_append]; rfl
       obtain ⟨⟨y0, y1, y2, y3⟩, y4, y5, y6, y7⟩ := t_box4 hF11.1
       clear hs11 hA11 hk11 hsle hLs11 s1' s2' hW11b hkA; have hF11_h := lH hF11; have s3'_h := lH s3'; have hsl12_h := lH hsl12; have hLs12_h := lH hLs12; have hW12b_h := lH hW12b; have hye2_h := lH hye2; have hfp11_h := lH hfp11; clear hF11 s3' hsl12 hLs12 hW12b hye2 hfp11
       simp only [Act.put, nS]
       refine tkC 17 ?_ rfl hF11_h.out (fun W' hW' => ?_) ?_; rotate_left; · (skip; clear hW'; go_simp; first | done | with_reducible rfl)
       simp only [Act.put, nS]
       refine oneZ 18 rfl (by kernel_rfl) (by rfl) (fun K hK => ?_)
       go_simp
       refine hK _ _ (fun h => by cases h) ?_
       clear hK K
       refine doneZ (by kernel_rfl) ?_
       go_wp2_with (fail)
       go_roundw
       case rel => exact ⟨k + 1, A11, c11, _, by omega, by go_num, by rw [List.length_append, hyl_h.out]; rfl, hye2_h.out, s3'_h.out, hsl12_h.out, by rw [eh_append]; exact hLs12_h.out, hfp11_h.out, hW12b_h.out⟩
       case measure => simp [intOf]; omega
   · obtain rfl : m = k := by omega
     rw [List.take_of_length_le (by rw [hmes_h.out]; exact Nat.le_refl _)] at hye
     have k1r := t_box_below k1_h.out hBr
     obtain ⟨t1', t2'⟩ := set4 (a := .int .i64 cnt) (b := .slice A' m c') (c := .slice X1 p X2) (d := .slice Y1 r Y2) k1r
     have hk1W := t_box_lt k1_h.out
     have hsl2 := hsl.keeps t2' (fun x hx e => by have := (hfr x (List.mem_append_left _ hx)).1; omega)
     have hLs2 := hLs.keeps t2' (fun x hx e => by have := (hfr x (List.mem_append_right _ hx)).1; omega)
     have hB9 := below_keeps hBw t2' hBw.size (fun x hx => by omega)
     have hfw : FreshL w.heap.size (fpA A' ++ fpR (((X1, X2, mapL tt s) : Hd) :: (Y1, Y2, mapL tt t) :: eh ys)) := fun x hx => by have := (hfr x hx).1; omega
     obtain ⟨⟨c0, c1, c2, c3⟩, f0, f1, f2, f3⟩ := t_box4 kx
     obtain ⟨⟨d0, d1, d2, d3⟩, g0, g1, g2, g3⟩ := t_box4 k1r
     clear hsl hLs t2' k1r kx hBr hBw hfr; have hye_h := lH hye; have hyl_h := lH hyl; have t1'_h := lH t1'; have hsl2_h := lH hsl2; have hLs2_h := lH hLs2; have hB9_h := lH hB9; have hfw_h := lH hfw; clear hye hyl t1' hsl2 hLs2 hB9 hfw
     go_wp2_with (fail)
     refine bodyPost_ret (results_cell_row rfl _ _ (w.heap.size + 1) _ _ (0, 0) _ rfl t1'_h.out Tryz.underlying29 rfl (by kernel_rfl)) rfl ?_
     refine ⟨_, fpA A' ++ fpR (((X1, X2, mapL tt s) : Hd) :: (Y1, Y2, mapL tt t) :: eh ys), rfl, ?_, hfw_h.out, hB9_h.out⟩
     rw [hG_h.out]
     refine ⟨A', c', ys, (X1, X2, mapL tt s), (Y1, Y2, mapL tt t), ?_, hye_h.out.symm, rfl, rfl, ?_, hLs2_h.out, rfl⟩
     · simp only [mapL_length]; rw [hyl_h.out, hp_h.out, hr_h.out]; rfl
     · rw [hyl_h.out]; exact hsl2_h.out
section
variable {P : Program} {l : List Oper} {Q : Exit → Act → World → Prop} {md : Region.Mode} {S : World → Prop}
theorem valOrH (i j : Nat) {oi oj : Oper} {vi vj : Value} {wi wj : World} {fuel : Nat} {listed : Array Bool} {a : Act} {w : World} {li lj : List Oper} (hdi : l.drop i = oi :: li) (hdj : l.drop j = oj :: lj)
  (hr : Region.ready md l.toArray listed = [i, j]) (hwi : Region.wanted oi (yielded l.toArray a.tmps) = true) (hwj : Region.wanted oj (yielded l.toArray a.tmps) = true)
  (hruni : (execOp a.eval oi).run P w = .ok (.value vi) wi) (hrunj : (execOp a.eval oj).run P w = .ok (.value vj) wj)
  (hSi : S wi) (h1 : wpAnyH P md l.toArray Q S fuel (listed.setIfInBounds i true) (a.put oi.dst vi) wi)
  (hSj : S wj) (h2 : wpAnyH P md l.toArray Q S fuel (listed.setIfInBounds j true) (a.put oj.dst vj) wj) : wpAnyH P md l.toArray Q S (fuel + 1) listed a w := by
 refine wpAnyH_all hr (by simp) fun k hk => ?_
 have hk' : k = i ∨ k = j := by simpa using hk
 rcases hk' with rfl | rfl
 · unfold wpOp
   simp only [at_drop hdi, hwi, if_true]
   refine .inl ?_
   unfold Oper.wp
   rw [hruni]
   exact ⟨hSi, h1⟩
 · unfold wpOp
   simp only [at_drop hdj, hwj, if_true]
   refine .inl ?_
   unfold Oper.wp
   rw [hrunj]
   exact ⟨hSj, h2⟩
theorem run_makeOp {o : Oper} {a : Act} {w : World} (lo c : Operand) (t : TypeId) (ho : o.op = .makeSlice t lo c) (e : TypeId) {z : Value} {size bytes : Nat} (ht : P.underlying t = some (.slice e)) (hinfo : (P.info? e).map (fun i => (i.zero, i.size, i.bytes)) = some (some z, size, bytes))
  (n : Nat) (hel : a.eval lo = .int .i64 (n : Int)) (hec : a.eval c = .int .i64 (n : Int)) (hbytes : bytes * n ≤ 281474976710656) (h63 : n ≤ maxLen) :
  (execOp a.eval o).run P w = .ok (.value (.slice (some ⟨w.heap.size, 0, none⟩) n n)) (w.alloc (.cells (madeCells z.cells (n * size)) e)) := by
 obtain ⟨i, hi, hz, hz1, hz2⟩ := info_parts hinfo
 subst hz1 hz2
 have h63' : (n : Int) ≤ 9223372036854775807 := by simp only [maxLen] at h63; omega
 have hb' : (i.bytes : Int) * (n : Int) ≤ 281474976710656 := by
  have h : ((i.bytes * n : Nat) : Int) ≤ 281474976710656 := by omega
  rwa [Int.natCast_mul] at h
 have hrun := run_make (P := P) w t e i z ht hi hz .i64 .i64 n n (by omega) (by omega) hb' h63'
 simp only [Int.toNat_natCast] at hrun
 simp only [execOp, ho, hel, hec, hrun, Sem.run_bind, Sem.run_pure, Result.andThen_ok]
end
theorem made_edges (w : World) (n : Nat) (h : n ≤ maxLen) : Sl (w.alloc (.cells (madeCells (Value.agg #[.int .i64 0, .int .i64 0, .slice none 0 0, .slice none 0 0]).cells (n * 4)) tEd)) tEd 4 (some ⟨w.heap.size, 0, none⟩) n n (ecs (List.replicate n eh0)) := by
 rw [← madeEdges]
 refine ⟨?_, Nat.le_refl _, h, .inr ⟨w.heap.size, 0, _, rfl, heap_alloc_new w _, by simp [size_madeCells], by simp⟩⟩
 simp only [List.length_take, Array.length_toList, size_madeCells]
 omega
theorem egOf_eh0 : egOf eh0 = eg0 := rfl
theorem ren_ow {w : World} {g : Gr} {ws el : List Int} {n m c : Nat} {G : Option Addr} {ms : List EHd} {X Y : Hd} (hms : ms.map egOf = g.2.1.map (mapE ws)) (hml : ms.length = m) (hel : el.length = m) (hp : permB el = true) (hg : g.1 = (n : Int)) (hX : X.2.2 = mapL ws g.2.2.1) (hY : Y.2.2 = mapL ws g.2.2.2)
  (hsl : Sl w tEd 4 G m c (ecs (lay eh0 el ms m))) (hLs : OwLs w (fpA G) (X :: Y :: eh ms)) :
  OwGr w (.agg #[.int .i64 (n : Int), .slice G m c, .slice X.1 X.2.2.length X.2.1, .slice Y.1 Y.2.2.length Y.2.1]) (renG g ws el) (fpA G ++ fpR (X :: Y :: eh (lay eh0 el ms m))) := by
 subst hml
 have hl : g.2.1.length = ms.length := by have := congrArg List.length hms; rw [List.length_map, List.length_map] at this; exact this.symm
 have hpm := lay_all (d := eh0) hp hel
 refine ⟨G, c, lay eh0 el ms ms.length, X, Y, ?_, ?_, hX, hY, by rw [lay_length]; exact hsl, hLs.perm (((eh_perm hpm).cons Y).cons X), rfl⟩
 · rw [lay_length]; unfold renG; rw [← hg]
 · show lay eg0 el (g.2.1.map (mapE ws)) g.2.1.length = _
   rw [lay_map, egOf_eh0, hms, hl]
theorem ren_fp {el : List Int} {m : Nat} {ms : List EHd} {X Y : Hd} (hml : ms.length = m) (hel : el.length = m) (hp : permB el = true) {x : Nat} (hx : x ∈ fpR (X :: Y :: eh (lay eh0 el ms m))) : x ∈ fpR (X :: Y :: eh ms) := by
 subst hml
 obtain ⟨h, hh, hb⟩ := mem_fpR.1 hx
 exact mem_fpR.2 ⟨h, ((((eh_perm (lay_all (d := eh0) hp hel)).cons Y).cons X).mem_iff).1 hh, hb⟩
set_option maxRecDepth 100000 in
set_option maxHeartbeats 8000000 in
theorem renumbered_any {v : Value} {g : Gr} (w : World) (n m : Nat) (T : Option Addr) (tc : Nat) (ws : List Int) (U : Option Addr) (uc : Nat) (el : List Int) (h : RdGr w v g) (ok : OkG g) (ht : RdI w T ws) (hu : RdI w U el) (hgn : g.1 = (n : Int)) (hgm : g.2.1.length = m) (htn : ws.length = n) (hel : el.length = m) (hin : inW (n : Int) (t_allW g) = true) (hper : permB el = true) (hmb : m ≤ 60) :
  Calls Tryz.prog 58 #[v, .slice T n tc, .slice U m uc] w fun e w' => ∃ v' fp, e = .returned v' ∧ OwGr w' v' (renG g ws el) fp ∧ FreshL w.heap.size fp ∧ Below w.heap.size w w' := by
 have hG0 := h
 obtain ⟨A, c, hs, ⟨B, b, s⟩, ⟨C, d, t⟩, rfl, e1, e2, e3, hE, hRa, hRb⟩ := h
 obtain ⟨z, es, s0, t0⟩ := g
 have a1 : es = hs.map egOf := e1
 have a2 : s = s0 := e2
 have a3 : t = t0 := e3
 have a4 : z = (n : Int) := hgn
 subst a2 a3 a4
 have hm : m = hs.length := by have : es.length = m := hgm; rw [← this, a1, List.length_map]
 obtain ⟨p, hp⟩ : ∃ p, p = s.length := ⟨_, rfl⟩
 obtain ⟨r, hr⟩ : ∃ r, r = t.length := ⟨_, rfl⟩
 change RdGr w (.agg #[.int .i64 (n : Int), .slice A hs.length c, .slice B s.length b, .slice C t.length d]) ((n : Int), es, s, t) at hG0
 show Calls Tryz.prog _ #[.agg #[.int .i64 (n : Int), .slice A hs.length c, .slice B s.length b, .slice C t.length d], .slice T n tc, .slice U m uc] w _
 rw [← hm, ← hp, ← hr] at hG0 ⊢
 obtain ⟨Gf, hGf⟩ : ∃ Gf, Gf = renG ((n : Int), es, s, t) ws el := ⟨_, rfl⟩
 rw [← hGf]
 obtain ⟨W, hW, bW, k0, k1⟩ := allocs2 w (.cells #[.int .i64 (n : Int), .slice A m c, .slice B p b, .slice C r d] tGr) (.cells #[.int .i64 0, .slice none 0 0, .slice none 0 0, .slice none 0 0] tGr)
 have hM := moved_any W (n : Int) T tc n ws (hG0.below bW) ok (ht.below bW) htn hin
 clear hE hRa hRb e1 e2 e3 hgn hG0 ok hin
 obtain ⟨⟨c0, c1, c2, c3⟩, f0, f1, f2, f3⟩ := t_box4 k0
 have hM_h := lH hM; have hm_h := lH hm; have hp_h := lH hp; have hr_h := lH hr; have a1_h := lH a1; have bW_h := lH bW; have k0_h := lH k0; have k1_h := lH k1; have ht_h := lH ht; have hu_h := lH hu; have htn_h := lH htn; have hel_h := lH hel; have hper_h := lH hper; have hGf_h := lH hGf; have hgm_h := lH hgm; clear hM hm hp hr a1 bW k0 k1 ht hu htn hel hper hGf hgm
 go_enter Tryz.func58, Tryz.ntmps58
 go_upto_region 1 with (fail)
 rw [← hW]
 clear hW
 go_wp2_with (fail)
 refine (hM_h.out).mono ?_
 rintro e w1 ⟨v1, fp1, rfl, hO1, hf1, hb1⟩
 obtain ⟨A1, q1, ms, ⟨X1, X2, X3⟩, ⟨Y1, Y2, Y3⟩, rfl, m1, m2, m3, hsl1, hLs1, rfl⟩ := hO1
 have hms : ms.map egOf = es.map (mapE ws) := m1.symm
 have hX3 : X3 = mapL ws s := m2
 have hY3 : Y3 = mapL ws t := m3
 subst hX3 hY3
 have hml : ms.length = m := by have := congrArg List.length hms; rw [List.length_map, List.length_map] at this; rw [this]; exact hgm_h.out
 simp only [mapL_length] at *
 rw [hml, ← hp_h.out, ← hr_h.out]
 have e0 : (mapG ws (n : Int) ((n : Int), es, s, t)).1 = (n : Int) := rfl
 rw [e0]
 clear m1 m2 m3 e0
 have k0a := t_box_below k0_h.out hb1
 have k1a := t_box_below k1_h.out hb1
 have hB1 := below_trans bW_h.out hb1 bW_h.out.size
 have hws := hb1.size
 rw [hml] at hsl1
 clear c0 c1 c2 c3 f0 f1 f2 f3
 obtain ⟨W3, hW3, bW3, k3⟩ := alloc_box1g w1 (.cells #[.int .i64 (n : Int), .slice A1 m q1, .slice X1 p X2, .slice Y1 r Y2] tGr)
 have k0b := t_box_below k0a bW3
 have k1b := t_box_below k1a bW3
 have hB3 := below_trans hB1 bW3 hB1.size
 have hsl3 := hsl1.below bW3
 have hLs3 := hLs1.below bW3
 have hlt1 : ∀ x, x ∈ fpA A1 ++ fpR (((X1, X2, mapL ws s) : Hd) :: (Y1, Y2, mapL ws t) :: eh ms) → W.heap.size ≤ x ∧ x < w1.heap.size := fun x hx => ⟨hf1 x hx, by
  rcases List.mem_append.1 hx with hx | hx
  · exact hsl1.lt x hx
  · exact hLs1.lt x hx⟩
 obtain ⟨⟨c0, c1, c2, c3⟩, f0, f1, f2, f3⟩ := t_box4 k3
 obtain ⟨⟨d0, d1, d2, d3⟩, g0, g1, g2, g3⟩ := t_box4 k0b
 clear k0a k1a hB1 hsl1 hLs1 hb1 hf1; have k3_h := lH k3; have k0b_h := lH k0b; have k1b_h := lH k1b; have hB3_h := lH hB3; have hsl3_h := lH hsl3; have hLs3_h := lH hLs3; have hlt1_h := lH hlt1; have hms_h := lH hms; have hml_h := lH hml; have bW3_h := lH bW3; clear k3 k0b k1b hB3 hsl3 hLs3 hlt1 hms hml bW3
 go_upto_region 2 with (fail)
 rw [← hW3]
 clear hW3
 go_cut [8] (fun sv wx => ∃ (bx : Nat) (G : Addr), sv = .pointer (some ⟨bx, 0, none⟩) ∧ wx.heap[bx]? = some (.cells #[.int .i64 (n : Int), .slice (some G) m m, .slice X1 p X2, .slice Y1 r Y2] tGr) ∧ Sl wx tEd 4 (some G) m m (ecs (List.replicate m eh0)) ∧ bx ≠ G.block ∧ W3.heap.size ≤ bx ∧ W3.heap.size ≤ G.block ∧ Below W3.heap.size W3 wx)
 case first =>
  refine beginH (fun w' => w'.heap[w1.heap.size]? = some (.cells #[.int .i64 (n : Int), .slice A1 m q1, .slice X1 p X2, .slice Y1 r Y2] tGr)) (by kernel_rfl) ?_
  have hbd : Below W3.heap.size W3 W3.drew := below_drew (Below.refl _ _)
  generalize W3.drew = W4 at hbd ⊢
  have k3d := t_box_below k3_h.out hbd
  have hlt3 := t_box_lt k3_h.out
  have hs4 := hbd.size
  have hbd_h := lH hbd; have k3d_h := lH k3d; clear hbd k3d; clear c0 c1 c2 c3 f0 f1 f2 f3 d0 d1 d2 d3 g0 g1 g2 g3
  refine tkH 0 ?_ rfl k3d_h.out (fun W' hW' => ?_) ?_; rotate_left; · (obtain ⟨⟨y0, y1, y2, y3⟩, y4, y5, y6, y7⟩ := t_box4 hW'; clear hW'; go_simp; first | done | with_reducible rfl)
  simp only [Act.put, nS]
  refine tkH 1 ?_ rfl k3d_h.out (fun W' hW' => ?_) ?_; rotate_left; · (obtain ⟨⟨y0, y1, y2, y3⟩, y4, y5, y6, y7⟩ := t_box4 hW'; clear hW'; go_simp; first | done | with_reducible rfl)
  simp only [Act.put, nS]
  refine tkH 2 ?_ rfl k3d_h.out (fun W' hW' => ?_) ?_; rotate_left; · (obtain ⟨⟨y0, y1, y2, y3⟩, y4, y5, y6, y7⟩ := t_box4 hW'; clear hW'; go_simp; first | done | with_reducible rfl)
  simp only [Act.put, nS]
  refine tkH 3 ?_ rfl k3d_h.out (fun W' hW' => ?_) ?_; rotate_left; · (obtain ⟨⟨y0, y1, y2, y3⟩, y4, y5, y6, y7⟩ := t_box4 hW'; clear hW'; go_simp; first | done | with_reducible rfl)
  simp only [Act.put, nS]
  refine tkH 4 ?_ rfl k3d_h.out (fun W' hW' => ?_) ?_; rotate_left; · (obtain ⟨⟨y0, y1, y2, y3⟩, y4, y5, y6, y7⟩ := t_box4 hW'; clear hW'; go_simp; first | done | with_reducible rfl)
  simp only [Act.put, nS]
  refine tkH 5 ?_ rfl k3d_h.out (fun W' hW' => ?_) ?_; rotate_left; · (obtain ⟨⟨y0, y1, y2, y3⟩, y4, y5, y6, y7⟩ := t_box4 hW'; clear hW'; go_simp; first | done | with_reducible rfl)
  simp only [Act.put, nS]
  refine tkH 6 ?_ rfl k3d_h.out (fun W' hW' => ?_) ?_; rotate_left; · (obtain ⟨⟨y0, y1, y2, y3⟩, y4, y5, y6, y7⟩ := t_box4 hW'; clear hW'; go_simp; first | done | with_reducible rfl)
  simp only [Act.put, nS]
  refine tkH 7 ?_ rfl k3d_h.out (fun W' hW' => ?_) ?_; rotate_left; · (obtain ⟨⟨y0, y1, y2, y3⟩, y4, y5, y6, y7⟩ := t_box4 hW'; clear hW'; go_simp; first | done | with_reducible rfl)
  simp only [Act.put, nS]
  refine tkH 8 ?_ rfl k3d_h.out (fun W' hW' => ?_) ?_; rotate_left; · (obtain ⟨⟨y0, y1, y2, y3⟩, y4, y5, y6, y7⟩ := t_box4 hW'; clear hW'; go_simp; first | done | with_reducible rfl)
  simp only [Act.put, nS]
  refine valOrH 9 11 (vi := .slice (some ⟨W4.heap.size, 0, none⟩) m m) (wi := W4.alloc (.cells (madeCells (Value.agg #[.int .i64 0, .int .i64 0, .slice none 0 0, .slice none 0 0]).cells (m * 4)) tEd)) (vj := ?vy) (wj := ?wy) rfl rfl (by kernel_rfl) (by rfl) (by rfl) ?hr1 ?hr2 ?hS1 ?h1 ?hS2 ?h2
  case hr1 => exact run_makeOp _ _ _ rfl tEd Tryz.underlying27 info_ed m rfl rfl (by omega) (by unfold maxLen; omega)
  case hr2 => (go_simp; first | done | with_reducible rfl | (constructor <;> with_reducible rfl))
  case hS1 => exact t_box_below k3d_h.out (t_below_alloc _ _)
  case h1 =>
   have hmk := made_edges W4 m (by unfold maxLen; omega)
   have bA := t_below_alloc W4 (.cells (madeCells (Value.agg #[.int .i64 0, .int .i64 0, .slice none 0 0, .slice none 0 0]).cells (m * 4)) tEd)
   have hzA : (W4.alloc (.cells (madeCells (Value.agg #[.int .i64 0, .int .i64 0, .slice none 0 0, .slice none 0 0]).cells (m * 4)) tEd)).heap.size = W4.heap.size + 1 := World.size_alloc _ _
   have kA := t_box_below k3d_h.out bA
   have hWA := below_trans hbd_h.out bA hbd_h.out.size
   generalize W4.alloc (.cells (madeCells (Value.agg #[.int .i64 0, .int .i64 0, .slice none 0 0, .slice none 0 0]).cells (m * 4)) tEd) = W5 at hmk bA hzA kA hWA ⊢
   obtain ⟨W6, hW6, bW6, k6⟩ := alloc_box1g W5 (.cells #[.int .i64 0, .slice none 0 0, .slice none 0 0, .slice none 0 0] tGr)
   have kB := t_box_below kA bW6
   obtain ⟨s1, s2⟩ := set4 (a := .int .i64 (n : Int)) (b := .slice (some ⟨W4.heap.size, 0, none⟩) m m) (c := .slice X1 p X2) (d := .slice Y1 r Y2) k6
   have kC := t_box_keeps kB s2 (by omega)
   have hmk6 := (hmk.below bW6).keeps s2 (fun x hx e => by simp at hx; omega)
   have hWf := below_keeps (below_trans hWA bW6 hWA.size) s2 (Nat.le_trans hWA.size bW6.size) (fun x hx => by omega)
   obtain ⟨⟨y0, y1, y2, y3⟩, y4, y5, y6, y7⟩ := t_box4 k6
   clear hmk bA hWA bW6 s2; have kA_h := lH kA; have kB_h := lH kB; have kC_h := lH kC; have s1_h := lH s1; have hmk6_h := lH hmk6; have hWf_h := lH hWf; have k6_h := lH k6; have hzA_h := lH hzA; clear kA kB kC s1 hmk6 hWf k6 hzA
   simp only [Act.put, nS]
   refine tkH 10 ?_ rfl kA_h.out (fun W' hW' => ?_) ?_; rotate_left; · (skip; clear hW'; go_simp; first | done | with_reducible rfl)
   simp only [Act.put, nS]
   refine oneH 11 rfl (by kernel_rfl) (by rfl) (fun K hK => ?_)
   go_simp
   rw [← hW6]
   refine hK _ _ kB_h.out ?_
   clear hK K hW6
   refine oneH 12 rfl (by kernel_rfl) (by rfl) (fun K hK => ?_)
   go_simp
   refine hK _ _ kC_h.out ?_
   clear hK K
   refine doneH (by kernel_rfl) ?_
   go_wp2_with (fail)
   go_meet
   exact ⟨_, ⟨W4.heap.size, 0, none⟩, rfl, s1_h.out, hmk6_h.out, by show W5.heap.size ≠ W4.heap.size; have := hzA_h.out; omega, by have := hzA_h.out; omega, by show W3.heap.size ≤ W4.heap.size; omega, hWf_h.out⟩
  case hS2 => exact t_box_below k3d_h.out (t_below_alloc _ _)
  case h2 =>
   have bA := t_below_alloc W4 (.cells #[.int .i64 0, .slice none 0 0, .slice none 0 0, .slice none 0 0] tGr)
   have kX := heap_alloc_new W4 (.cells #[.int .i64 0, .slice none 0 0, .slice none 0 0, .slice none 0 0] tGr)
   have hzA : (W4.alloc (.cells #[.int .i64 0, .slice none 0 0, .slice none 0 0, .slice none 0 0] tGr)).heap.size = W4.heap.size + 1 := World.size_alloc _ _
   have kA := t_box_below k3d_h.out bA
   have hWA := below_trans hbd_h.out bA hbd_h.out.size
   simp only [Act.put, nS]
   generalize W4.alloc (.cells #[.int .i64 0, .slice none 0 0, .slice none 0 0, .slice none 0 0] tGr) = W5 at bA kX hzA kA hWA ⊢
   have hmk := made_edges W5 m (by unfold maxLen; omega)
   have bB := t_below_alloc W5 (.cells (madeCells (Value.agg #[.int .i64 0, .int .i64 0, .slice none 0 0, .slice none 0 0]).cells (m * 4)) tEd)
   have kB := t_box_below kA bB
   have kY := t_box_below kX bB
   have hWB := below_trans hWA bB hWA.size
   refine runH 9 rfl (by kernel_rfl) (by rfl) (run_makeOp _ _ _ rfl tEd Tryz.underlying27 info_ed m rfl rfl (by omega) (by unfold maxLen; omega)) kB ?_
   generalize W5.alloc (.cells (madeCells (Value.agg #[.int .i64 0, .int .i64 0, .slice none 0 0, .slice none 0 0]).cells (m * 4)) tEd) = W6 at hmk bB kB kY hWB ⊢
   obtain ⟨s1, s2⟩ := set4 (a := .int .i64 (n : Int)) (b := .slice (some ⟨W5.heap.size, 0, none⟩) m m) (c := .slice X1 p X2) (d := .slice Y1 r Y2) kY
   have kC := t_box_keeps kB s2 (by omega)
   have hmk6 := hmk.keeps s2 (fun x hx e => by simp at hx; omega)
   have hWf := below_keeps hWB s2 hWB.size (fun x hx => by omega)
   obtain ⟨⟨y0, y1, y2, y3⟩, y4, y5, y6, y7⟩ := t_box4 kY
   clear hmk bA bB hWA hWB s2 kX; have kA_h := lH kA; have kB_h := lH kB; have kC_h := lH kC; have s1_h := lH s1; have hmk6_h := lH hmk6; have hWf_h := lH hWf; have kY_h := lH kY; have hzA_h := lH hzA; clear kA kB kC s1 hmk6 hWf kY hzA
   simp only [Act.put, nS]
   refine tkH 10 ?_ rfl kB_h.out (fun W' hW' => ?_) ?_; rotate_left; · (skip; clear hW'; go_simp; first | done | with_reducible rfl)
   simp only [Act.put, nS]
   refine oneH 12 rfl (by kernel_rfl) (by rfl) (fun K hK => ?_)
   go_simp
   refine hK _ _ kC_h.out ?_
   clear hK K
   refine doneH (by kernel_rfl) ?_
   go_wp2_with (fail)
   go_meet
   exact ⟨_, ⟨W5.heap.size, 0, none⟩, rfl, s1_h.out, hmk6_h.out, by show W4.heap.size ≠ W5.heap.size; have := hzA_h.out; omega, by omega, by show W3.heap.size ≤ W5.heap.size; have := hzA_h.out; omega, hWf_h.out⟩
 case rest =>
  obtain ⟨bx, G, rfl, kx, hslG, hne, hbx, hGb, hWc⟩ := hcut
  obtain ⟨w5, rfl⟩ : ∃ x, x = wc := ⟨_, rfl⟩
  have k3c := t_box_below k3_h.out hWc
  have hlt3 := t_box_lt k3_h.out
  clear c0 c1 c2 c3 f0 f1 f2 f3 d0 d1 d2 d3 g0 g1 g2 g3
  obtain ⟨⟨c0, c1, c2, c3⟩, f0, f1, f2, f3⟩ := t_box4 k3c
  have kx_h := lH kx; have hslG_h := lH hslG; have hWc_h := lH hWc; have k3c_h := lH k3c; have hne_h := lH hne; clear kx hslG hWc k3c hne
  go_wp2_with (fail)
  clear c0 c1 c2 c3 f0 f1 f2 f3
  go_loopw [30] (fun i wr => ∃ k : Nat, k ≤ m ∧ i = .int .i64 k ∧ wr.heap[bx]? = some (.cells #[.int .i64 (n : Int), .slice (some G) m m, .slice X1 p X2, .slice Y1 r Y2] tGr) ∧ Sl wr tEd 4 (some G) m m (ecs (lay eh0 el ms k)) ∧ Below W3.heap.size W3 wr) (fun i _ => m - (intOf i).toNat)
  case atStart => exact ⟨0, Nat.zero_le _, rfl, kx_h.out, by rw [lay, hml_h.out]; exact hslG_h.out, hWc_h.out⟩
  case round =>
   clear kx_h hslG_h hWc_h
   obtain ⟨k, hk, rfl, kx, hslG, hWr⟩ := hrel
   have hBr := below_trans hB3_h.out hWr hB3_h.out.size
   by_cases hlt : k < m
   · obtain ⟨⟨κ, vv, ⟨B1, b1, s1⟩, ⟨C1, b2, t1⟩⟩, hn⟩ : ∃ x, ms[k]? = some x := ⟨_, List.getElem?_eq_getElem (by rw [hml_h.out]; exact hlt)⟩
     obtain ⟨ad, hA, -, d0, d1, d2, d3⟩ : ∃ ad, A1 = some ad ∧ True ∧ wr.cell? (ad.add (k * 4)) = some (.int .i64 κ) ∧ wr.cell? ⟨(ad.add (k * 4)).block, (ad.add (k * 4)).off + 1, none⟩ = some (.int .i64 vv) ∧ wr.cell? ⟨(ad.add (k * 4)).block, (ad.add (k * 4)).off + 2, none⟩ = some (.slice B1 s1.length b1) ∧ wr.cell? ⟨(ad.add (k * 4)).block, (ad.add (k * 4)).off + 3, none⟩ = some (.slice C1 t1.length b2) := by
      have hs := hsl3_h.out.below hWr
      obtain ⟨i0, i1, i2, i3⟩ := ecs_get hn
      obtain ⟨ad, hA, _, x0, _⟩ := Sl.cell hs i0
      obtain ⟨ad1, h1, _, x1, _⟩ := Sl.cell hs i1
      obtain ⟨ad2, h2, _, x2, _⟩ := Sl.cell hs i2
      obtain ⟨ad3, h3, _, x3, _⟩ := Sl.cell hs i3
      rw [hA] at h1 h2 h3
      obtain rfl := Option.some.inj h1
      obtain rfl := Option.some.inj h2
      obtain rfl := Option.some.inj h3
      rw [add_next _ _ 1 (by omega)] at x1
      rw [add_next _ _ 2 (by omega)] at x2
      rw [add_next _ _ 3 (by omega)] at x3
      exact ⟨ad, hA, trivial, x0, x1, x2, x3⟩
     subst hA
     obtain ⟨ud, y, rfl, hy, hyc⟩ := (hu_h.out.below hBr).at_ (j := k) (by rw [hel_h.out]; exact hlt)
     have hyin := perm_in hper_h.out y (List.mem_of_getElem? hy)
     rw [hel_h.out] at hyin
     obtain ⟨q, rfl⟩ : ∃ q : Nat, y = (q : Int) := ⟨y.toNat, by omega⟩
     have hqm : q < m := by omega
     have hlst : lay eh0 el ms (k + 1) = (lay eh0 el ms k).set q (κ, vv, (B1, b1, s1), (C1, b2, t1)) := by
      have e1 : el.getD k 0 = (q : Int) := by simp [List.getD, hy]
      have e2 : ms.getD k eh0 = (κ, vv, (B1, b1, s1), (C1, b2, t1)) := by simp [List.getD, hn]
      rw [lay, e1, e2]; rfl
     obtain ⟨p1, hp1⟩ : ∃ p1, p1 = s1.length := ⟨_, rfl⟩
     obtain ⟨r1, hr1'⟩ : ∃ r1, r1 = t1.length := ⟨_, rfl⟩
     obtain ⟨wo, rfl⟩ : ∃ x, x = wr := ⟨_, rfl⟩
     obtain ⟨W6, hW6, bW6, k6⟩ := alloc_box1g wo (.cells #[.int .i64 κ, .int .i64 vv, .slice B1 p1 b1, .slice C1 r1 b2] tEd)
     have kx6 := t_box_below kx bW6
     have hsl6 := hslG.below bW6
     have hW6b := below_trans hWr bW6 hWr.size
     have hGl := hslG.lt G.block (by simp)
     have hlen : (lay eh0 el ms k).length = m := by rw [lay_length, hml_h.out]
     have hud := (hu_h.out.below (below_trans hB3_h.out hW6b hB3_h.out.size))
     have hkI : (k : Int) < (m : Int) := by omega
     have hqI : (q : Int) < (m : Int) := by omega
     have hyc6 : W6.cell? (ud.add k) = some (.int .i64 (q : Int)) := (bW6.cell (World.block_lt_of_cell? _ _ hyc)).trans hyc
     rw [← hp1] at d2
     rw [← hr1'] at d3
     have hr1_h := lH hr1'
     have hxl := t_box_lt kx
     clear hr1' hyin hWr hBr kx hslG hud; have hp1_h := lH hp1; have bW6_h := lH bW6; have k6_h := lH k6; have kx6_h := lH kx6; have hsl6_h := lH hsl6; have hW6b_h := lH hW6b; have hlst_h := lH hlst; have hlen_h := lH hlen; have hy_h := lH hy; have hn_h := lH hn; have hyc6_h := lH hyc6; clear hp1 bW6 k6 kx6 hsl6 hW6b hlst hlen hy hn hyc6
     go_upto_region 6 with (fail)
     rw [← hW6]
     clear hW6 d0 d1 d2 d3 hyc
     refine beginH (fun w' => w'.heap[bx]? = some (.cells #[.int .i64 (n : Int), .slice (some G) m m, .slice X1 p X2, .slice Y1 r Y2] tGr) ∧ w'.heap[wo.heap.size]? = some (.cells #[.int .i64 κ, .int .i64 vv, .slice B1 p1 b1, .slice C1 r1 b2] tEd) ∧ w'.cell? (ud.add k) = some (.int .i64 (q : Int))) (by kernel_rfl) ?_
     have hbd : Below W6.heap.size W6 W6.drew := below_drew (Below.refl _ _)
     generalize W6.drew = W7 at hbd ⊢
     have hF := And.intro (t_box_below kx6_h.out hbd) (And.intro (t_box_below k6_h.out hbd) ((hbd.cell (World.block_lt_of_cell? _ _ hyc6_h.out)).trans hyc6_h.out))
     have hsl7 := hsl6_h.out.below hbd
     have hW7b := below_trans hW6b_h.out hbd hW6b_h.out.size
     obtain ⟨⟨⟨x0, e0⟩, g0⟩, ⟨⟨x1, e1⟩, g1⟩, ⟨⟨x2, e2⟩, g2⟩, ⟨x3, e3⟩, g3⟩ := ES.mid hsl7 hlen_h.out (j := q) κ vv (.slice B1 p1 b1) hqm
     obtain ⟨hset, hks⟩ := ES.set hsl7 hlen_h.out (ad := G) rfl (j := q) κ vv B1 C1 b1 b2 s1 t1 hqm
     rw [← hlst_h.out, ← hp1_h.out, ← hr1_h.out] at hset
     rw [← hp1_h.out, ← hr1_h.out] at hks
     have hudG : ud.block ≠ G.block := by
      have h1 := World.block_lt_of_cell? w _ ((hu_h.out) k (q : Int) hy_h.out |>.choose_spec.2)
      obtain ⟨ud', hu1, hu2⟩ := hu_h.out k (q : Int) hy_h.out
      obtain rfl := Option.some.inj hu1
      have h2 := World.block_lt_of_cell? w _ hu2
      rw [block_of_add] at h2
      have := hB3_h.out.size
      omega
     have hF2 := And.intro (t_box_keeps hF.1 hks (by simp only [fpA_some, List.mem_singleton]; exact hne_h.out)) (And.intro (t_box_keeps hF.2.1 hks (by simp only [fpA_some, List.mem_singleton]; omega)) ((World.cell?_of_block (hks.block _ (World.block_lt_of_cell? _ _ hF.2.2) (by rw [block_of_add]; simp only [fpA_some, List.mem_singleton]; exact hudG))).trans hF.2.2))
     have hW8b := below_keeps hW7b hks hW7b.size (fun x hx => by simp at hx; omega)
     clear hbd hsl7 hW7b hks; have hF_h := lH hF; have hF2_h := lH hF2; have hset_h := lH hset; have hW8b_h := lH hW8b; have hudG_h := lH hudG; clear hF hF2 hset hW8b hudG
     refine tkH 0 ?_ rfl hF_h.out (fun W' hW' => ?_) ?_; rotate_left; · (obtain ⟨⟨y0, y1, y2, y3⟩, y4, y5, y6, y7⟩ := t_box4 hW'.1; obtain ⟨⟨z0, z1, z2, z3⟩, z4, z5, z6, z7⟩ := t_box4 hW'.2.1; have z8 := hW'.2.2; clear hW'; go_simp; first | done | with_reducible rfl)
     simp only [Act.put, nS]
     refine tkH 1 ?_ rfl hF_h.out (fun W' hW' => ?_) ?_; rotate_left; · (obtain ⟨⟨y0, y1, y2, y3⟩, y4, y5, y6, y7⟩ := t_box4 hW'.1; obtain ⟨⟨z0, z1, z2, z3⟩, z4, z5, z6, z7⟩ := t_box4 hW'.2.1; have z8 := hW'.2.2; clear hW'; go_simp; first | done | with_reducible rfl)
     simp only [Act.put, nS]
     refine tkH 2 ?_ rfl hF_h.out (fun W' hW' => ?_) ?_; rotate_left; · (obtain ⟨⟨y0, y1, y2, y3⟩, y4, y5, y6, y7⟩ := t_box4 hW'.1; obtain ⟨⟨z0, z1, z2, z3⟩, z4, z5, z6, z7⟩ := t_box4 hW'.2.1; have z8 := hW'.2.2; clear hW'; go_simp; first | done | with_reducible rfl)
     simp only [Act.put, nS]
     refine tkH 3 ?_ rfl hF_h.out (fun W' hW' => ?_) ?_; rotate_left; · (obtain ⟨⟨y0, y1, y2, y3⟩, y4, y5, y6, y7⟩ := t_box4 hW'.1; obtain ⟨⟨z0, z1, z2, z3⟩, z4, z5, z6, z7⟩ := t_box4 hW'.2.1; have z8 := hW'.2.2; clear hW'; go_simp; first | done | with_reducible rfl)
     simp only [Act.put, nS]
     refine tkH 4 ?_ rfl hF_h.out (fun W' hW' => ?_) ?_; rotate_left; · (obtain ⟨⟨y0, y1, y2, y3⟩, y4, y5, y6, y7⟩ := t_box4 hW'.1; obtain ⟨⟨z0, z1, z2, z3⟩, z4, z5, z6, z7⟩ := t_box4 hW'.2.1; have z8 := hW'.2.2; clear hW'; go_simp; first | done | with_reducible rfl)
     simp only [Act.put, nS]
     refine tkH 5 ?_ rfl hF_h.out (fun W' hW' => ?_) ?_; rotate_left; · (obtain ⟨⟨y0, y1, y2, y3⟩, y4, y5, y6, y7⟩ := t_box4 hW'.1; obtain ⟨⟨z0, z1, z2, z3⟩, z4, z5, z6, z7⟩ := t_box4 hW'.2.1; have z8 := hW'.2.2; clear hW'; go_simp; first | done | with_reducible rfl)
     simp only [Act.put, nS]
     refine tkH 6 ?_ rfl hF_h.out (fun W' hW' => ?_) ?_; rotate_left; · (obtain ⟨⟨y0, y1, y2, y3⟩, y4, y5, y6, y7⟩ := t_box4 hW'.1; obtain ⟨⟨z0, z1, z2, z3⟩, z4, z5, z6, z7⟩ := t_box4 hW'.2.1; have z8 := hW'.2.2; clear hW'; go_simp; first | done | with_reducible rfl)
     simp only [Act.put, nS]
     refine tkH 7 ?_ rfl hF_h.out (fun W' hW' => ?_) ?_; rotate_left; · (skip; clear hW'; go_simp; first | done | with_reducible rfl)
     simp only [Act.put, nS]
     refine oneH 8 rfl (by kernel_rfl) (by rfl) (fun K hK => ?_)
     go_simp
     refine hK _ _ hF2_h.out ?_
     clear hK K
     refine doneH (by kernel_rfl) ?_
     go_wp2_with (fail)
     go_roundw
     case rel => exact ⟨k + 1, by omega, by go_num, hF2_h.out.1, hset_h.out, hW8b_h.out⟩
     case measure => simp [intOf]; omega
   · obtain rfl : m = k := by omega
     have k1r := t_box_below k1b_h.out hWr
     obtain ⟨t1', t2'⟩ := set4 (a := .int .i64 (n : Int)) (b := .slice (some G) m m) (c := .slice X1 p X2) (d := .slice Y1 r Y2) k1r
     have hk1W := t_box_lt k1_h.out
     have hLsr := hLs3_h.out.below hWr
     have hw13 := bW3_h.out.size
     have hLsG : OwLs wr (fpA (some G)) ((X1, X2, mapL ws s) :: (Y1, Y2, mapL ws t) :: eh ms) := ⟨hLsr.rows, hLsr.apart, fun x hx b hb hb' => by
      have h1 := (hlt1_h.out b (List.mem_append_right _ (mem_fpR.2 ⟨x, hx, hb⟩))).2
      simp at hb'; omega⟩
     have hsl2 := hslG.keeps t2' (fun x hx e => by simp at hx; omega)
     have hLs2 := hLsG.keeps t2' (fun x hx e => by have := (hlt1_h.out x (List.mem_append_right _ hx)).1; omega)
     have hB9 := below_keeps hBr t2' hBr.size (fun x hx => by omega)
     have hOw := ren_ow (g := ((n : Int), es, s, t)) (ws := ws) (X := (X1, X2, mapL ws s)) (Y := (Y1, Y2, mapL ws t)) hms_h.out hml_h.out hel_h.out hper_h.out rfl rfl rfl hsl2 hLs2
     simp only [mapL_length] at hOw
     rw [← hp_h.out, ← hr_h.out, ← hGf_h.out] at hOw
     have hfw : FreshL w.heap.size (fpA (some G) ++ fpR (((X1, X2, mapL ws s) : Hd) :: (Y1, Y2, mapL ws t) :: eh (lay eh0 el ms m))) := fun x hx => by
      have hwW := bW_h.out.size
      rcases List.mem_append.1 hx with hx | hx
      · simp at hx; have := hB3_h.out.size; omega
      · have := (hlt1_h.out x (List.mem_append_right _ (ren_fp hml_h.out hel_h.out hper_h.out hx))).1; omega
     obtain ⟨⟨c0, c1, c2, c3⟩, f0, f1, f2, f3⟩ := t_box4 kx
     obtain ⟨⟨d0, d1, d2, d3⟩, g0, g1, g2, g3⟩ := t_box4 k1r
     clear hslG hLsr hLsG t2' k1r kx hWr hBr hsl2 hLs2; have t1'_h := lH t1'; have hB9_h := lH hB9; have hfw_h := lH hfw; have hOw_h := lH hOw; clear t1' hB9 hfw hOw
     go_wp2_with (fail)
     refine bodyPost_ret (results_cell_row rfl _ _ (w.heap.size + 1) _ _ (0, 0) _ rfl t1'_h.out Tryz.underlying29 rfl (by kernel_rfl)) rfl ?_
     exact ⟨_, _, rfl, hOw_h.out, hfw_h.out, hB9_h.out⟩
set_option maxRecDepth 100000 in
set_option maxHeartbeats 8000000 in
theorem hgRenumber_any {v : Value} {g : Gr} (w : World) (n m : Nat) (T : Option Addr) (tc : Nat) (ws : List Int) (U : Option Addr) (uc : Nat) (el : List Int) (h : RdGr w v g) (ok : OkG g) (ht : RdI w T ws) (hu : RdI w U el) (hgn : g.1 = (n : Int)) (hgm : g.2.1.length = m) (htn : ws.length = n) (hel : el.length = m) (hin : inW (n : Int) (t_allW g) = true) (hper : permB el = true) (hmb : m ≤ 60) :
  Calls Tryz.prog 54 #[v, .slice T n tc, .slice U m uc] w fun e w' => ∃ v' fp, e = .returned v' ∧ OwGr w' v' (renG g ws el) fp ∧ FreshL w.heap.size fp ∧ Below w.heap.size w w' := by
 have hG0 := h
 obtain ⟨A, c, hs, ⟨B, b, s⟩, ⟨C, d, t⟩, rfl, e1, e2, e3, hE, hRa, hRb⟩ := h
 obtain ⟨z, es, s0, t0⟩ := g
 have a1 : es = hs.map egOf := e1
 have a2 : s = s0 := e2
 have a3 : t = t0 := e3
 have a4 : z = (n : Int) := hgn
 subst a2 a3 a4
 have hm : m = hs.length := by have : es.length = m := hgm; rw [← this, a1, List.length_map]
 obtain ⟨p, hp⟩ : ∃ p, p = s.length := ⟨_, rfl⟩
 obtain ⟨r, hr⟩ : ∃ r, r = t.length := ⟨_, rfl⟩
 change RdGr w (.agg #[.int .i64 (n : Int), .slice A hs.length c, .slice B s.length b, .slice C t.length d]) ((n : Int), es, s, t) at hG0
 show Calls Tryz.prog _ #[.agg #[.int .i64 (n : Int), .slice A hs.length c, .slice B s.length b, .slice C t.length d], .slice T n tc, .slice U m uc] w _
 rw [← hm, ← hp, ← hr] at hG0 ⊢
 obtain ⟨Gf, hGf⟩ : ∃ Gf, Gf = renG ((n : Int), es, s, t) ws el := ⟨_, rfl⟩
 rw [← hGf]
 obtain ⟨W, hW, bW, k0, k1⟩ := allocs2 w (.cells #[.int .i64 (n : Int), .slice A m c, .slice B p b, .slice C r d] tGr) (.cells #[.int .i64 0, .slice none 0 0, .slice none 0 0, .slice none 0 0] tGr)
 have hM := hgMap_any W (n : Int) T tc n ws (hG0.below bW) ok (ht.below bW) htn hin
 clear hE hRa hRb e1 e2 e3 hgn hG0 ok hin
 obtain ⟨⟨c0, c1, c2, c3⟩, f0, f1, f2, f3⟩ := t_box4 k0
 have hM_h := lH hM; have hm_h := lH hm; have hp_h := lH hp; have hr_h := lH hr; have a1_h := lH a1; have bW_h := lH bW; have k0_h := lH k0; have k1_h := lH k1; have ht_h := lH ht; have hu_h := lH hu; have htn_h := lH htn; have hel_h := lH hel; have hper_h := lH hper; have hGf_h := lH hGf; have hgm_h := lH hgm; clear hM hm hp hr a1 bW k0 k1 ht hu htn hel hper hGf hgm
 go_enter Tryz.func54, Tryz.ntmps54
 go_upto_region 1 with (fail)
 rw [← hW]
 clear hW
 go_wp2_with (fail)
 refine (hM_h.out).mono ?_
 rintro e w1 ⟨v1, fp1, rfl, hO1, hf1, hb1⟩
 obtain ⟨A1, q1, ms, ⟨X1, X2, X3⟩, ⟨Y1, Y2, Y3⟩, rfl, m1, m2, m3, hsl1, hLs1, rfl⟩ := hO1
 have hms : ms.map egOf = es.map (mapE ws) := m1.symm
 have hX3 : X3 = mapL ws s := m2
 have hY3 : Y3 = mapL ws t := m3
 subst hX3 hY3
 have hml : ms.length = m := by have := congrArg List.length hms; rw [List.length_map, List.length_map] at this; rw [this]; exact hgm_h.out
 simp only [mapL_length] at *
 rw [hml, ← hp_h.out, ← hr_h.out]
 have e0 : (mapG ws (n : Int) ((n : Int), es, s, t)).1 = (n : Int) := rfl
 rw [e0]
 clear m1 m2 m3 e0
 have k0a := t_box_below k0_h.out hb1
 have k1a := t_box_below k1_h.out hb1
 have hB1 := below_trans bW_h.out hb1 bW_h.out.size
 have hws := hb1.size
 rw [hml] at hsl1
 clear c0 c1 c2 c3 f0 f1 f2 f3
 obtain ⟨W3, hW3, bW3, k3⟩ := alloc_box1g w1 (.cells #[.int .i64 (n : Int), .slice A1 m q1, .slice X1 p X2, .slice Y1 r Y2] tGr)
 have k0b := t_box_below k0a bW3
 have k1b := t_box_below k1a bW3
 have hB3 := below_trans hB1 bW3 hB1.size
 have hsl3 := hsl1.below bW3
 have hLs3 := hLs1.below bW3
 have hlt1 : ∀ x, x ∈ fpA A1 ++ fpR (((X1, X2, mapL ws s) : Hd) :: (Y1, Y2, mapL ws t) :: eh ms) → W.heap.size ≤ x ∧ x < w1.heap.size := fun x hx => ⟨hf1 x hx, by
  rcases List.mem_append.1 hx with hx | hx
  · exact hsl1.lt x hx
  · exact hLs1.lt x hx⟩
 obtain ⟨⟨c0, c1, c2, c3⟩, f0, f1, f2, f3⟩ := t_box4 k3
 obtain ⟨⟨d0, d1, d2, d3⟩, g0, g1, g2, g3⟩ := t_box4 k0b
 clear k0a k1a hB1 hsl1 hLs1 hb1 hf1; have k3_h := lH k3; have k0b_h := lH k0b; have k1b_h := lH k1b; have hB3_h := lH hB3; have hsl3_h := lH hsl3; have hLs3_h := lH hLs3; have hlt1_h := lH hlt1; have hms_h := lH hms; have hml_h := lH hml; have bW3_h := lH bW3; clear k3 k0b k1b hB3 hsl3 hLs3 hlt1 hms hml bW3
 go_upto_region 2 with (fail)
 rw [← hW3]
 clear hW3
 obtain ⟨W4, hW4, bW4, k4⟩ := alloc_box1g W3 (.cells #[.int .i64 (n : Int), .slice none 0 0, .slice X1 p X2, .slice Y1 r Y2] tGr)
 have k3d := t_box_below k3_h.out bW4
 have hlt3 := t_box_lt k3_h.out
 have bW4_h := lH bW4; have k4_h := lH k4; have k3d_h := lH k3d; clear bW4 k4 k3d
 go_upto_region 3 with (fail)
 rw [← hW4]
 clear hW4 c0 c1 c2 c3 f0 f1 f2 f3 d0 d1 d2 d3 g0 g1 g2 g3
 go_upto_if 25 with (fail)
 go_cut [] (fun wx => ∃ (G : Option Addr) (gc : Nat), wx.heap[W3.heap.size]? = some (.cells #[.int .i64 (n : Int), .slice G m gc, .slice X1 p X2, .slice Y1 r Y2] tGr) ∧ Sl wx tEd 4 G m gc (ecs (List.replicate m eh0)) ∧ (∀ x, x ∈ fpA G → W4.heap.size ≤ x) ∧ Below W3.heap.size W3 wx)
 case first =>
  by_cases hm0 : m = 0
  · have hm1 : ¬ ((0 : Int) < (m : Int)) := by omega
    have e1 : (Value.slice none 0 0) = .slice none m 0 := by rw [hm0]
    have e2 : Sl W4 tEd 4 none m 0 (ecs (List.replicate m eh0)) := by rw [hm0]; exact Sl.nil _ _ _
    have hm0_h := lH hm0; clear hm0; have e1_h := lH e1; have e2_h := lH e2; clear e1 e2
    go_wp2_with (fail)
    go_meet
    exact ⟨none, 0, by rw [← e1_h.out]; exact k4_h.out, e2_h.out, fun x hx => (by cases hx), bW4_h.out⟩
  · have hm1 : (0 : Int) < (m : Int) := by omega
    obtain ⟨⟨c0, c1, c2, c3⟩, f0, f1, f2, f3⟩ := t_box4 k4_h.out
    go_wp2_with (at_make; refine wpList_make_Sl _ rfl _ _ _ rfl tEd Tryz.underlying27 info_ed m m rfl rfl rfl rfl (Nat.le_refl _) (by omega) (by unfold maxLen; omega) ?_; intro G w5 hs5 hG5 hb5; have kx5 := t_box_below k4_h.out hb5; clear c0 c1 c2 c3 f0 f1 f2 f3; obtain ⟨⟨c0, c1, c2, c3⟩, f0, f1, f2, f3⟩ := t_box4 kx5; have kx5_h := lH kx5; clear kx5)
    have hs6 : Sl w5 tEd 4 (some G) m m (ecs (List.replicate m eh0)) := by rw [← madeEdges]; exact hs5
    obtain ⟨s1, s2⟩ := box_set kx5_h.out 1 (.slice (some G) m m)
    have s3 : (w5.setCell ⟨W3.heap.size, 1, none⟩ (.slice (some G) m m)).heap[W3.heap.size]? = some (.cells #[.int .i64 (n : Int), .slice (some G) m m, .slice X1 p X2, .slice Y1 r Y2] tGr) := s1
    have h4 := t_box_lt k4_h.out
    have hs7 := hs6.keeps s2 (fun x hx e => by simp at hx; omega)
    have hW7 := below_keeps (below_trans bW4_h.out hb5 bW4_h.out.size) s2 (Nat.le_trans bW4_h.out.size hb5.size) (fun x hx => by omega)
    go_meet
    exact ⟨some G, m, s3, hs7, fun x hx => by simp at hx; omega, hW7⟩
 case rest =>
  obtain ⟨G, gc, kx, hslG, hGb, hWc⟩ := hcut
  obtain ⟨w5, rfl⟩ : ∃ x, x = wc := ⟨_, rfl⟩
  have h34 := bW4_h.out.size
  have h4 := t_box_lt k4_h.out
  have kx_h := lH kx; have hslG_h := lH hslG; have hWc_h := lH hWc; have hGb_h := lH hGb; clear kx hslG hWc hGb
  go_wp2_with (fail)
  go_loopw [32] (fun i wr => ∃ k : Nat, k ≤ m ∧ i = .int .i64 k ∧ wr.heap[W3.heap.size]? = some (.cells #[.int .i64 (n : Int), .slice G m gc, .slice X1 p X2, .slice Y1 r Y2] tGr) ∧ Sl wr tEd 4 G m gc (ecs (lay eh0 el ms k)) ∧ Below W3.heap.size W3 wr) (fun i _ => m - (intOf i).toNat)
  case atStart => exact ⟨0, Nat.zero_le _, rfl, kx_h.out, by rw [lay, hml_h.out]; exact hslG_h.out, hWc_h.out⟩
  case round =>
   clear kx_h hslG_h hWc_h
   obtain ⟨k, hk, rfl, kx, hslG, hWr⟩ := hrel
   have hBr := below_trans hB3_h.out hWr hB3_h.out.size
   by_cases hlt : k < m
   · obtain ⟨⟨κ, vv, ⟨B1, b1, s1⟩, ⟨C1, b2, t1⟩⟩, hn⟩ : ∃ x, ms[k]? = some x := ⟨_, List.getElem?_eq_getElem (by rw [hml_h.out]; exact hlt)⟩
     obtain ⟨ad, hA, hab, d0, d1, d2, d3⟩ : ∃ ad, A1 = some ad ∧ True ∧ wr.cell? (ad.add (k * 4)) = some (.int .i64 κ) ∧ wr.cell? ⟨(ad.add (k * 4)).block, (ad.add (k * 4)).off + 1, none⟩ = some (.int .i64 vv) ∧ wr.cell? ⟨(ad.add (k * 4)).block, (ad.add (k * 4)).off + 2, none⟩ = some (.slice B1 s1.length b1) ∧ wr.cell? ⟨(ad.add (k * 4)).block, (ad.add (k * 4)).off + 3, none⟩ = some (.slice C1 t1.length b2) := by
      have hs := hsl3_h.out.below hWr
      obtain ⟨i0, i1, i2, i3⟩ := ecs_get hn
      obtain ⟨ad, hA, _, x0, _⟩ := Sl.cell hs i0
      obtain ⟨ad1, h1, _, x1, _⟩ := Sl.cell hs i1
      obtain ⟨ad2, h2, _, x2, _⟩ := Sl.cell hs i2
      obtain ⟨ad3, h3, _, x3, _⟩ := Sl.cell hs i3
      rw [hA] at h1 h2 h3
      obtain rfl := Option.some.inj h1
      obtain rfl := Option.some.inj h2
      obtain rfl := Option.some.inj h3
      rw [add_next _ _ 1 (by omega)] at x1
      rw [add_next _ _ 2 (by omega)] at x2
      rw [add_next _ _ 3 (by omega)] at x3
      exact ⟨ad, hA, trivial, x0, x1, x2, x3⟩
     subst hA
     have hadb : ad.block < w1.heap.size := (hlt1_h.out ad.block (List.mem_append_left _ (by simp))).2
     obtain ⟨ud, y, rfl, hy, hyc⟩ := (hu_h.out.below hBr).at_ (j := k) (by rw [hel_h.out]; exact hlt)
     have hyin := perm_in hper_h.out y (List.mem_of_getElem? hy)
     rw [hel_h.out] at hyin
     obtain ⟨q, rfl⟩ : ∃ q : Nat, y = (q : Int) := ⟨y.toNat, by omega⟩
     have hqm : q < m := by omega
     have hlst : lay eh0 el ms (k + 1) = (lay eh0 el ms k).set q (κ, vv, (B1, b1, s1), (C1, b2, t1)) := by
      have e1 : el.getD k 0 = (q : Int) := by simp [List.getD, hy]
      have e2 : ms.getD k eh0 = (κ, vv, (B1, b1, s1), (C1, b2, t1)) := by simp [List.getD, hn]
      rw [lay, e1, e2]; rfl
     obtain ⟨p1, hp1⟩ : ∃ p1, p1 = s1.length := ⟨_, rfl⟩
     obtain ⟨r1, hr1'⟩ : ∃ r1, r1 = t1.length := ⟨_, rfl⟩
     have hlen : (lay eh0 el ms k).length = m := by rw [lay_length, hml_h.out]
     obtain ⟨gd, rfl, hgl, -⟩ : ∃ gd, G = some gd ∧ gd.block < wr.heap.size ∧ True := by
      obtain ⟨u, hu⟩ : ∃ u, (ecs (lay eh0 el ms k))[0]? = some u := ⟨_, List.getElem?_eq_getElem (by rw [ecs_length, hlen]; omega)⟩
      obtain ⟨gd, h1, h2, _⟩ := Sl.cell hslG hu
      exact ⟨gd, h1, h2, trivial⟩
     have hgb := hGb_h.out gd.block (by simp)
     have k3r := t_box_below k3_h.out hWr
     have hkI : (k : Int) < (m : Int) := by omega
     have hqI : (q : Int) < (m : Int) := by omega
     rw [← hp1] at d2
     rw [← hr1'] at d3
     have hr1_h := lH hr1'
     have hw13 := bW3_h.out.size
     have hall : wr.heap[W3.heap.size]? = some (.cells #[.int .i64 (n : Int), .slice (some gd) m gc, .slice X1 p X2, .slice Y1 r Y2] tGr) ∧ wr.heap[w1.heap.size]? = some (.cells #[.int .i64 (n : Int), .slice (some ad) m q1, .slice X1 p X2, .slice Y1 r Y2] tGr) ∧ wr.cell? (ad.add (k * 4)) = some (.int .i64 κ) ∧ wr.cell? ⟨(ad.add (k * 4)).block, (ad.add (k * 4)).off + 1, none⟩ = some (.int .i64 vv) ∧ wr.cell? ⟨(ad.add (k * 4)).block, (ad.add (k * 4)).off + 2, none⟩ = some (.slice B1 p1 b1) ∧ wr.cell? ⟨(ad.add (k * 4)).block, (ad.add (k * 4)).off + 3, none⟩ = some (.slice C1 r1 b2) := ⟨kx, k3r, d0, d1, d2, d3⟩
     clear hr1' hyin hBr kx d0 d1 d2 d3 k3r hab; have hp1_h := lH hp1; have hall_h := lH hall; have hslG_h := lH hslG; have hWr_h := lH hWr; have hlst_h := lH hlst; have hlen_h := lH hlen; have hy_h := lH hy; have hn_h := lH hn; clear hp1 hall hslG hWr hlst hlen hy hn
     go_wp2_with (fail)
     refine beginH (fun w' => w'.heap[W3.heap.size]? = some (.cells #[.int .i64 (n : Int), .slice (some gd) m gc, .slice X1 p X2, .slice Y1 r Y2] tGr) ∧ w'.heap[w1.heap.size]? = some (.cells #[.int .i64 (n : Int), .slice (some ad) m q1, .slice X1 p X2, .slice Y1 r Y2] tGr) ∧ w'.cell? (ad.add (k * 4)) = some (.int .i64 κ) ∧ w'.cell? ⟨(ad.add (k * 4)).block, (ad.add (k * 4)).off + 1, none⟩ = some (.int .i64 vv) ∧ w'.cell? ⟨(ad.add (k * 4)).block, (ad.add (k * 4)).off + 2, none⟩ = some (.slice B1 p1 b1) ∧ w'.cell? ⟨(ad.add (k * 4)).block, (ad.add (k * 4)).off + 3, none⟩ = some (.slice C1 r1 b2)) (by kernel_rfl) ?_
     have hbd : Below wr.heap.size wr wr.drew := below_drew (Below.refl _ _)
     generalize wr.drew = W7 at hbd ⊢
     have hcb : ∀ (a : Addr) u, wr.cell? a = some u → W7.cell? a = some u := fun a u h => (hbd.cell (World.block_lt_of_cell? _ _ h)).trans h
     obtain ⟨a0, a1', a2, a3, a4, a5⟩ := hall_h.out
     have hF := And.intro (t_box_below a0 hbd) (And.intro (t_box_below a1' hbd) (And.intro (hcb _ _ a2) (And.intro (hcb _ _ a3) (And.intro (hcb _ _ a4) (hcb _ _ a5)))))
     clear a0 a1' a2 a3 a4 a5 hcb
     have hsl7 := hslG_h.out.below hbd
     have hW7b := below_trans hWr_h.out hbd hWr_h.out.size
     obtain ⟨⟨⟨x0, e0⟩, g0⟩, ⟨⟨x1, e1⟩, g1⟩, ⟨⟨x2, e2⟩, g2⟩, ⟨x3, e3⟩, g3⟩ := ES.mid hsl7 hlen_h.out (j := q) κ vv (.slice B1 p1 b1) hqm
     obtain ⟨hset, hks⟩ := ES.set hsl7 hlen_h.out (ad := gd) rfl (j := q) κ vv B1 C1 b1 b2 s1 t1 hqm
     rw [← hlst_h.out, ← hp1_h.out, ← hr1_h.out] at hset
     rw [← hp1_h.out, ← hr1_h.out] at hks
     have hne1 : ad.block ≠ gd.block := by omega
     have hkc : ∀ (a : Addr) u W', Keeps (· ∈ fpA (some gd)) W7 W' → a.block = ad.block → W7.cell? a = some u → W'.cell? a = some u := fun a u W' hk he h => (World.cell?_of_block (hk.block _ (World.block_lt_of_cell? _ _ h) (by rw [he]; simp only [fpA_some, List.mem_singleton]; exact hne1))).trans h
     obtain ⟨a0, a1', a2, a3, a4, a5⟩ := hF
     have hF2 := And.intro (t_box_keeps a0 hks (by simp only [fpA_some, List.mem_singleton]; omega)) (And.intro (t_box_keeps a1' hks (by simp only [fpA_some, List.mem_singleton]; omega)) (And.intro (hkc _ _ _ hks (by exact block_of_add ad (k * 4)) a2) (And.intro (hkc _ _ _ hks (by exact block_of_add ad (k * 4)) a3) (And.intro (hkc _ _ _ hks (by exact block_of_add ad (k * 4)) a4) (hkc _ _ _ hks (by exact block_of_add ad (k * 4)) a5)))))
     have hF := And.intro a0 (And.intro a1' (And.intro a2 (And.intro a3 (And.intro a4 a5))))
     have hW8b := below_keeps hW7b hks hW7b.size (fun x hx => by simp at hx; omega)
     clear hbd hsl7 hW7b hks hkc a0 a1' a2 a3 a4 a5; have hF_h := lH hF; have hF2_h := lH hF2; have hset_h := lH hset; have hW8b_h := lH hW8b; clear hF hF2 hset hW8b
     refine tkH 0 ?_ rfl hF_h.out (fun W' hW' => ?_) ?_; rotate_left; · (obtain ⟨⟨y0, y1, y2, y3⟩, y4, y5, y6, y7⟩ := t_box4 hW'.1; obtain ⟨⟨z0, z1, z2, z3⟩, z4, z5, z6, z7⟩ := t_box4 hW'.2.1; obtain ⟨v0, v1, v2, v3⟩ := hW'.2.2; clear hW'; go_simp; first | done | with_reducible rfl)
     simp only [Act.put, nS]
     refine tkH 1 ?_ rfl hF_h.out (fun W' hW' => ?_) ?_; rotate_left; · (obtain ⟨⟨y0, y1, y2, y3⟩, y4, y5, y6, y7⟩ := t_box4 hW'.1; obtain ⟨⟨z0, z1, z2, z3⟩, z4, z5, z6, z7⟩ := t_box4 hW'.2.1; obtain ⟨v0, v1, v2, v3⟩ := hW'.2.2; clear hW'; go_simp; first | done | with_reducible rfl)
     simp only [Act.put, nS]
     refine tkH 2 ?_ rfl hF_h.out (fun W' hW' => ?_) ?_; rotate_left; · (obtain ⟨⟨y0, y1, y2, y3⟩, y4, y5, y6, y7⟩ := t_box4 hW'.1; obtain ⟨⟨z0, z1, z2, z3⟩, z4, z5, z6, z7⟩ := t_box4 hW'.2.1; obtain ⟨v0, v1, v2, v3⟩ := hW'.2.2; clear hW'; go_simp; first | done | with_reducible rfl)
     simp only [Act.put, nS]
     refine tkH 3 ?_ rfl hF_h.out (fun W' hW' => ?_) ?_; rotate_left; · (obtain ⟨⟨y0, y1, y2, y3⟩, y4, y5, y6, y7⟩ := t_box4 hW'.1; obtain ⟨⟨z0, z1, z2, z3⟩, z4, z5, z6, z7⟩ := t_box4 hW'.2.1; obtain ⟨v0, v1, v2, v3⟩ := hW'.2.2; clear hW'; go_simp; first | done | with_reducible rfl)
     simp only [Act.put, nS]
     refine tkH 4 ?_ rfl hF_h.out (fun W' hW' => ?_) ?_; rotate_left; · (obtain ⟨⟨y0, y1, y2, y3⟩, y4, y5, y6, y7⟩ := t_box4 hW'.1; obtain ⟨⟨z0, z1, z2, z3⟩, z4, z5, z6, z7⟩ := t_box4 hW'.2.1; obtain ⟨v0, v1, v2, v3⟩ := hW'.2.2; clear hW'; go_simp; first | done | with_reducible rfl)
     simp only [Act.put, nS]
     refine tkH 5 ?_ rfl hF_h.out (fun W' hW' => ?_) ?_; rotate_left; · (obtain ⟨⟨y0, y1, y2, y3⟩, y4, y5, y6, y7⟩ := t_box4 hW'.1; obtain ⟨⟨z0, z1, z2, z3⟩, z4, z5, z6, z7⟩ := t_box4 hW'.2.1; obtain ⟨v0, v1, v2, v3⟩ := hW'.2.2; clear hW'; go_simp; first | done | with_reducible rfl)
     simp only [Act.put, nS]
     refine tkH 6 ?_ rfl hF_h.out (fun W' hW' => ?_) ?_; rotate_left; · (obtain ⟨⟨y0, y1, y2, y3⟩, y4, y5, y6, y7⟩ := t_box4 hW'.1; obtain ⟨⟨z0, z1, z2, z3⟩, z4, z5, z6, z7⟩ := t_box4 hW'.2.1; obtain ⟨v0, v1, v2, v3⟩ := hW'.2.2; clear hW'; go_simp; first | done | with_reducible rfl)
     simp only [Act.put, nS]
     refine tkH 7 ?_ rfl hF_h.out (fun W' hW' => ?_) ?_; rotate_left; · (obtain ⟨⟨y0, y1, y2, y3⟩, y4, y5, y6, y7⟩ := t_box4 hW'.1; obtain ⟨⟨z0, z1, z2, z3⟩, z4, z5, z6, z7⟩ := t_box4 hW'.2.1; obtain ⟨v0, v1, v2, v3⟩ := hW'.2.2; clear hW'; go_simp; first | done | with_reducible rfl)
     simp only [Act.put, nS]
     refine tkH 8 ?_ rfl hF_h.out (fun W' hW' => ?_) ?_; rotate_left; · (obtain ⟨⟨y0, y1, y2, y3⟩, y4, y5, y6, y7⟩ := t_box4 hW'.1; obtain ⟨⟨z0, z1, z2, z3⟩, z4, z5, z6, z7⟩ := t_box4 hW'.2.1; obtain ⟨v0, v1, v2, v3⟩ := hW'.2.2; clear hW'; go_simp; first | done | with_reducible rfl)
     simp only [Act.put, nS]
     refine oneH 9 rfl (by kernel_rfl) (by rfl) (fun K hK => ?_)
     go_simp
     refine hK _ _ hF2_h.out ?_
     clear hK K
     refine doneH (by kernel_rfl) ?_
     go_wp2_with (fail)
     go_roundw
     case rel => exact ⟨k + 1, by omega, by go_num, hF2_h.out.1, hset_h.out, hW8b_h.out⟩
     case measure => simp [intOf]; omega
   · obtain rfl : m = k := by omega
     have k1r := t_box_below k1b_h.out hWr
     obtain ⟨t1', t2'⟩ := set4 (a := .int .i64 (n : Int)) (b := .slice G m gc) (c := .slice X1 p X2) (d := .slice Y1 r Y2) k1r
     have hk1W := t_box_lt k1_h.out
     have hLsr := hLs3_h.out.below hWr
     have hw13 := bW3_h.out.size
     have hLsG : OwLs wr (fpA G) ((X1, X2, mapL ws s) :: (Y1, Y2, mapL ws t) :: eh ms) := ⟨hLsr.rows, hLsr.apart, fun x hx b hb hb' => by
      have h1 := (hlt1_h.out b (List.mem_append_right _ (mem_fpR.2 ⟨x, hx, hb⟩))).2
      have := hGb_h.out b hb'; omega⟩
     have hsl2 := hslG.keeps t2' (fun x hx e => by have := hGb_h.out x hx; have := hB3_h.out.size; omega)
     have hLs2 := hLsG.keeps t2' (fun x hx e => by have := (hlt1_h.out x (List.mem_append_right _ hx)).1; omega)
     have hB9 := below_keeps hBr t2' hBr.size (fun x hx => by omega)
     have hOw := ren_ow (g := ((n : Int), es, s, t)) (ws := ws) (X := (X1, X2, mapL ws s)) (Y := (Y1, Y2, mapL ws t)) hms_h.out hml_h.out hel_h.out hper_h.out rfl rfl rfl hsl2 hLs2
     simp only [mapL_length] at hOw
     rw [← hp_h.out, ← hr_h.out, ← hGf_h.out] at hOw
     have hfw : FreshL w.heap.size (fpA G ++ fpR (((X1, X2, mapL ws s) : Hd) :: (Y1, Y2, mapL ws t) :: eh (lay eh0 el ms m))) := fun x hx => by
      have hwW := bW_h.out.size
      rcases List.mem_append.1 hx with hx | hx
      · have := hGb_h.out x hx; have := hB3_h.out.size; omega
      · have := (hlt1_h.out x (List.mem_append_right _ (ren_fp hml_h.out hel_h.out hper_h.out hx))).1; omega
     obtain ⟨⟨c0, c1, c2, c3⟩, f0, f1, f2, f3⟩ := t_box4 kx
     obtain ⟨⟨d0, d1, d2, d3⟩, g0, g1, g2, g3⟩ := t_box4 k1r
     clear hslG hLsr hLsG t2' k1r kx hWr hBr hsl2 hLs2; have t1'_h := lH t1'; have hB9_h := lH hB9; have hfw_h := lH hfw; have hOw_h := lH hOw; clear t1' hB9 hfw hOw
     go_wp2_with (fail)
     refine bodyPost_ret (results_cell_row rfl _ _ (w.heap.size + 1) _ _ (0, 0) _ rfl t1'_h.out Tryz.underlying29 rfl (by kernel_rfl)) rfl ?_
     exact ⟨_, _, rfl, hOw_h.out, hfw_h.out, hB9_h.out⟩
theorem drop_of {α : Type} {l : List α} {k : Nat} {x : α} (h : l[k]? = some x) : l.drop k = x :: l.drop (k + 1) := by
 have hl := (List.getElem?_eq_some_iff.1 h).1
 rw [List.drop_eq_getElem_cons hl, (List.getElem?_eq_some_iff.1 h).2]
theorem RdI.below' {w w' : World} {A : Option Addr} {l : List Int} (h : RdI w A l) (hb : Below w.heap.size w w') : RdI w' A l := h.below hb
set_option maxRecDepth 8000 in
set_option maxHeartbeats 2000000 in
theorem isPermutation_any (A : Option Addr) (c : Nat) (l : List Int) (w : World) (h : RdI w A l) (hl : l.length ≤ 1048576) :
  Calls Tryz.prog 79 #[.slice A l.length c, .int .i64 l.length] w fun e w' => e = .returned (.bool (permB l)) ∧ Below w.heap.size w w' := by
 obtain ⟨m, hm⟩ : ∃ m, m = l.length := ⟨_, rfl⟩
 obtain ⟨T, hT⟩ : ∃ T, T = permB l := ⟨_, rfl⟩
 rw [← hm] at hl ⊢
 rw [← hT]
 have hm_h := lH hm; have hT_h := lH hT; clear hm hT
 go_enter Tryz.func79, Tryz.ntmps79
 go_wp2_with (at_make; refine wpList_make_Sl _ rfl _ _ _ rfl tBool Tryz.underlying98 info_bool m m rfl rfl rfl rfl (Nat.le_refl _) (by omega) (by unfold maxLen; omega) ?_; intro G w1 hs hG hb1)
 have hs0 : Sl w1 tBool 1 (some G) m m (bls (List.replicate m false)) := by
  have e : (madeCells (Value.bool false).cells (m * 1)).toList.take (m * 1) = bls (List.replicate m false) := by
   rw [Nat.mul_one]; simp [Value.cells, toList_madeCells_one, bls]
  rw [← e]; exact hs
 have hp0 : permGo (l.drop 0) (List.replicate m false) = T := by rw [hT_h.out, hm_h.out]; rfl
 clear hs; have hs0_h := lH hs0; have hp0_h := lH hp0; have hb1_h := lH hb1; clear hs0 hp0 hb1
 go_loopw [16] (fun iv wr => ∃ (k : Nat) (seen : List Bool), k ≤ m ∧ iv = .int .i64 k ∧ seen.length = m ∧ Sl wr tBool 1 (some G) m m (bls seen) ∧ permGo (l.drop k) seen = T ∧ Below w.heap.size w wr) (fun iv _ => m - (intOf iv).toNat)
 case atStart => exact ⟨0, _, Nat.zero_le _, rfl, by simp, hs0_h.out, hp0_h.out, hb1_h.out⟩
 case round =>
  obtain ⟨k, seen, hk, rfl, hsl, hS, hp, hB⟩ := hrel
  clear hs0_h hp0_h
  by_cases hlt : k < m
  · obtain ⟨ad, x, rfl, hx, hc⟩ := (h.below' hB).at_ (j := k) (by rw [← hm_h.out]; exact hlt)
    have hkI : (k : Int) < (m : Int) := by omega
    rw [drop_of hx] at hp
    unfold permGo at hp
    by_cases hin : 0 ≤ x ∧ x ≤ (m : Int) - 1
    · obtain ⟨j, rfl⟩ : ∃ j : Nat, x = (j : Int) := ⟨x.toNat, by omega⟩
      have hI : t_inB (j : Int) 0 ((m : Int) - 1) = true := decide_eq_true hin
      have hjm : j < m := by omega
      obtain ⟨b, hb⟩ : ∃ b, seen[j]? = some b := ⟨_, List.getElem?_eq_getElem (by omega)⟩
      obtain ⟨ad2, e2, -, y0, y1⟩ := Sl.cell hS (bls_get hb)
      obtain rfl := Option.some.inj e2
      have hgd : seen.getD j true = b := by simp [List.getD, hb]
      have hj0 : (0 : Int) ≤ (j : Int) := by omega
      have hjc : (j : Int) < (m : Int) := by omega
      cases b
      · rw [if_pos ⟨by omega, by omega, by simpa using hgd⟩, Int.toNat_natCast] at hp
        have hset := Sl.set hS rfl j (.bool true) (by simp [bls]; omega)
        rw [bls_set] at hset
        have hks : Keeps (fun b => b = G.block) wr (wr.setCell (G.add j) (.bool true)) := Keeps.setCell (S := fun b => b = G.block) (Keeps.refl _ wr) (p := G.add j) (by rw [block_of_add]) _
        have hB2 := below_keeps hB hks hB.size (fun b hb => by omega)
        have hx_h := lH hx; have hp_h := lH hp; have hset_h := lH hset; have hks_h := lH hks; have hB2_h := lH hB2; have hB_h := lH hB; have hS_h := lH hS; have hb_h := lH hb; have hgd_h := lH hgd; have hsl_h := lH hsl; clear hx hp hset hks hB2 hB hS hb hgd hsl
        go_wp2_with (fail)
        refine (t_within_any _ _ _ _).mono ?_
        rintro e w' ⟨rfl, rfl⟩
        rw [hI]
        go_wp2_with (fail)
        go_roundw
        case rel => exact ⟨k + 1, _, by omega, by go_num, by simp [hsl_h.out], hset_h.out, hp_h.out, hB2_h.out⟩
        case measure => simp [intOf]; omega
      · rw [if_neg (fun hh => by have := hh.2.2; rw [Int.toNat_natCast, hgd] at this; cases this)] at hp
        obtain rfl : T = false := hp.symm
        have hx_h := lH hx; have hp_h := lH hp; have hB_h := lH hB; have hS_h := lH hS; have hb_h := lH hb; have hgd_h := lH hgd; have hsl_h := lH hsl; clear hx hp hB hS hb hgd hsl
        go_wp2_with (fail)
        refine (t_within_any _ _ _ _).mono ?_
        rintro e w' ⟨rfl, rfl⟩
        rw [hI]
        go_wp2_with (fail)
        go_ret
        exact ⟨rfl, hB_h.out⟩
    · have hI : t_inB x 0 ((m : Int) - 1) = false := decide_eq_false hin
      rw [if_neg (fun hh => hin ⟨hh.1, by have := hh.2.1; omega⟩)] at hp
      obtain rfl : T = false := hp.symm
      have hx_h := lH hx; have hp_h := lH hp; have hB_h := lH hB; have hS_h := lH hS; have hsl_h := lH hsl; clear hx hp hB hS hsl
      go_wp2_with (fail)
      refine (t_within_any _ _ _ _).mono ?_
      rintro e w' ⟨rfl, rfl⟩
      rw [hI]
      go_wp2_with (fail)
      go_ret
      exact ⟨rfl, hB_h.out⟩
  · obtain rfl : k = m := by omega
    rw [List.drop_of_length_le (by rw [← hm_h.out]; exact Nat.le_refl _)] at hp
    obtain rfl : T = true := hp.symm
    have hp_h := lH hp; have hB_h := lH hB; have hS_h := lH hS; have hsl_h := lH hsl; clear hp hB hS hsl
    go_wp2_with (fail)
    go_ret
    exact ⟨rfl, hB_h.out⟩
set_option maxRecDepth 8000 in
theorem isPermN_any (A : Option Addr) (c : Nat) (n : Int) (l : List Int) (w : World) (h : RdI w A l) (hl : l.length ≤ 1048576) :
  Calls Tryz.prog 79 #[.slice A l.length c, .int .i64 n] w fun e w' => e = .returned (.bool (prmN n l)) ∧ Below w.heap.size w w' := by
 by_cases hn : (l.length : Int) = n
 · subst hn
   have : prmN (l.length : Int) l = permB l := by simp [prmN]
   rw [this]
   exact isPermutation_any A c l w h hl
 · have : prmN n l = false := by simp [prmN, hn]
   rw [this]
   go_enter Tryz.func79, Tryz.ntmps79
   go_wp2_with (fail)
   go_ret
   exact ⟨rfl, Below.refl _ _⟩
abbrev g0 : Gr := (0, [], [], [])
theorem grB_parts {g : Gr} (h : grB g = true) : ∃ n : Nat, g.1 = (n : Int) ∧ n ≤ 100 ∧ g.2.1.length ≤ 60 ∧ g.2.2.1.length ≤ 12 ∧ g.2.2.2.length ≤ 12 ∧ inW (n : Int) (t_allW g) = true := by
 unfold grB at h
 simp only [Bool.and_eq_true, decide_eq_true_eq] at h
 obtain ⟨⟨h1, h2, h3, h4⟩, _, h6, _⟩ := h
 have h1' : 0 ≤ g.1 ∧ g.1 ≤ 100 := of_decide_eq_true h1
 refine ⟨g.1.toNat, by omega, by omega, h2, h3, h4, ?_⟩
 rw [show ((g.1.toNat : Nat) : Int) = g.1 by omega]; exact h6
theorem prmN_parts {n : Int} {l : List Int} (h : prmN n l = true) : (l.length : Int) = n ∧ permB l = true := by
 unfold prmN at h
 rw [Bool.and_eq_true, decide_eq_true_eq] at h
 exact h
theorem cntE_perm {l m : List Eg} (h : l.Perm m) : cntE l = cntE m := by
 induction h with
 | nil => rfl
 | cons x _ ih => simp [cntE, ih]
 | swap x y _ => simp [cntE]; omega
 | trans _ _ h1 h2 => exact h1.trans h2
theorem cntE_map (ws : List Int) (l : List Eg) : cntE (l.map (mapE ws)) = cntE l := by
 induction l with
 | nil => rfl
 | cons x r ih => simp [cntE, mapE, ih]
theorem renG_ok {g : Gr} {ws es : List Int} (ok : OkG g) (hp : permB es = true) (hl : es.length = g.2.1.length) : OkG (renG g ws es) := by
 have hpm : (lay eg0 es (g.2.1.map (mapE ws)) g.2.1.length).Perm (g.2.1.map (mapE ws)) := by
  have := lay_all (d := eg0) (xs := g.2.1.map (mapE ws)) hp (by simpa using hl)
  simpa using this
 obtain ⟨⟨o1, o2, o3⟩, o4, o5⟩ := ok
 refine ⟨⟨?_, ?_, ?_⟩, fun e he => ?_, ?_⟩
 · show (lay eg0 es (g.2.1.map (mapE ws)) g.2.1.length).length ≤ _
   rw [hpm.length_eq, List.length_map]; exact o1
 · show (mapL ws g.2.2.1).length ≤ _
   rw [mapL_length]; exact o2
 · show (mapL ws g.2.2.2).length ≤ _
   rw [mapL_length]; exact o3
 · have he' : e ∈ g.2.1.map (mapE ws) := hpm.mem_iff.1 he
   obtain ⟨x, hx, rfl⟩ := List.mem_map.1 he'
   simp only [mapE, mapL_length]
   exact o4 x hx
 · show cntE (lay eg0 es (g.2.1.map (mapE ws)) g.2.1.length) + (mapL ws g.2.2.1).length + (mapL ws g.2.2.2).length ≤ _
   rw [cntE_perm hpm, cntE_map, mapL_length, mapL_length]; exact o5
theorem mono_of {g : Gr} (h : monoB g = true) : ∃ n, Mono g n := by
 unfold monoB at h
 simp only [Bool.and_eq_true] at h
 obtain ⟨h1, h2, h3⟩ := h
 obtain ⟨n, hn, n100, m60, i12, o12, hin⟩ := grB_parts h1
 have hk : ∀ e, e ∈ g.2.1 → egB e = true := by
  unfold grB at h1
  simp only [Bool.and_eq_true] at h1
  exact List.all_eq_true.1 h1.2.1
 obtain ⟨l2, p2⟩ := prmN_parts h2
 obtain ⟨_, p3⟩ := prmN_parts h3
 rw [hn] at l2
 have o2 := permGo_nodup p2
 have o3 := permGo_nodup p3
 have rng : ∀ x, x ∈ orgW g → 0 ≤ x ∧ x < (n : Int) := fun x hx => by
  refine inW_iff.1 hin x ?_
  unfold orgW at hx
  unfold t_allW
  rcases List.mem_append.1 hx with hx | hx
  · exact List.mem_append_left _ hx
  · refine List.mem_append_right _ (List.mem_append_right _ ?_)
    have key : ∀ es : List Eg, x ∈ outW es → x ∈ edW es := fun es => by
     induction es with
     | nil => intro hh; simp [outW] at hh
     | cons a r ih =>
       intro hh
       unfold outW at hh
       unfold edW
       rcases List.mem_append.1 hh with h2 | h2
       · simp [h2]
       · simp [ih h2]
    exact key _ hx
 exact ⟨n, hn, n100, m60, i12, o12, fun x hx => inW_iff.1 hin x hx, o2.1, o3.1, fun w hw => perm_full o2.1 rng (by omega) hw, hk⟩
def tabK (f : Eg → List Int) (es : List Eg) (n k : Nat) : List Int := (List.range n).map fun w : Nat => atE f es k (w : Int)
def tabJ (f : Eg → List Int) (es : List Eg) (n k j : Nat) : List Int := (List.range n).map fun w : Nat => if (w : Int) ∈ (f (es.getD k eg0)).take j then (k : Int) else atE f es k (w : Int)
@[simp] theorem tabK_length (f : Eg → List Int) (es : List Eg) (n k : Nat) : (tabK f es n k).length = n := by simp [tabK]
@[simp] theorem tabJ_length (f : Eg → List Int) (es : List Eg) (n k j : Nat) : (tabJ f es n k j).length = n := by simp [tabJ]
theorem tabK_get {f : Eg → List Int} {es : List Eg} {n k w : Nat} (h : w < n) : (tabK f es n k)[w]? = some (atE f es k (w : Int)) := by simp [tabK, h]
theorem tabK_zero (f : Eg → List Int) (es : List Eg) (n : Nat) : tabK f es n 0 = List.replicate n (-1) := by
 unfold tabK
 rw [List.eq_replicate_iff]
 refine ⟨by simp, fun x hx => ?_⟩
 obtain ⟨w, _, rfl⟩ := List.mem_map.1 hx
 rfl
theorem tabJ_zero (f : Eg → List Int) (es : List Eg) (n k : Nat) : tabJ f es n k 0 = tabK f es n k := by simp [tabJ, tabK]
theorem tabJ_all {f : Eg → List Int} {es : List Eg} {n k j : Nat} (h : (f (es.getD k eg0)).length ≤ j) : tabJ f es n k j = tabK f es n (k + 1) := by
 unfold tabJ tabK
 rw [List.take_of_length_le h]
 rfl
theorem tabJ_step {f : Eg → List Int} {es : List Eg} {n k j x : Nat} (h : (f (es.getD k eg0))[j]? = some (x : Int)) : tabJ f es n k (j + 1) = (tabJ f es n k j).set x (k : Int) := by
 apply List.ext_getElem?
 intro i
 rw [List.getElem?_set]
 by_cases hi : i < n
 · unfold tabJ
   simp only [List.getElem?_map, List.getElem?_range hi, Option.map_some, List.length_map, List.length_range]
   have e : (f (es.getD k eg0)).take (j + 1) = (f (es.getD k eg0)).take j ++ [(x : Int)] := by rw [List.take_add_one, h]; rfl
   rw [e]
   by_cases hx : x = i
   · subst hx
     simp [hi]
   · have hne : ¬ (i : Int) = (x : Int) := by omega
     simp [hx, hne]
 · rw [List.getElem?_eq_none (by simpa using hi), List.getElem?_eq_none (by simpa using hi)]
   split
   · rw [if_neg (by rw [tabJ_length]; omega)]
   · rfl
set_option maxHeartbeats 400000 in
theorem cnNone_any (n : Nat) (w : World) (hn : n ≤ 1048576) :
  Calls Tryz.prog 90 #[.int .i64 n] w fun e w' => ∃ G, e = .returned (.slice (some G) n n) ∧ IS w' (some G) n (List.replicate n (-1)) ∧ w.heap.size ≤ G.block ∧ Below w.heap.size w w' := by
 go_enter Tryz.func90, Tryz.ntmps90
 go_wp2_with (at_make; refine wpList_make_Sl _ rfl _ _ _ rfl tInt Tryz.underlying23 info_int n n rfl rfl rfl rfl (Nat.le_refl _) (by omega) (by unfold maxLen; omega) ?_; intro G w1 hs hfG hb1)
 have his0 : IS w1 (some G) n (List.replicate n 0) := IS.of_made hs
 clear hs
 go_loopw [9] (fun i wr => ∃ k : Nat, k ≤ n ∧ i = .int .i64 k ∧ IS wr (some G) n ((List.replicate n (-1)).take k ++ (List.replicate n (0 : Int)).drop k) ∧ Below w.heap.size w wr) (fun i _ => n - (intOf i).toNat)
 case atStart => exact ⟨0, Nat.zero_le _, rfl, by simpa using his0, hb1⟩
 case round =>
  clear his0 hb1
  obtain ⟨k, hk, rfl, his, hb⟩ := hrel
  have hlen : ((List.replicate n (-1 : Int)).take k ++ (List.replicate n (0 : Int)).drop k).length = n := by simp; omega
  by_cases hlt : k < n
  · obtain ⟨ad, y, hA, hy, _, hc', hf'⟩ := his.at_ (j := k) (by rw [hlen]; exact hlt)
    obtain rfl := Option.some.inj hA
    have hfz := hf' k
    have his' := his.set (ad := G) rfl (j := k) (-1) (by rw [hlen]; exact hlt)
    rw [take_append_step (x := (-1 : Int)) (by simp) (by simp [hlt])] at his'
    have HI := lH his'
    have hb' := lH (hb.setCell (p := G.add k) (by rw [block_of_add]; exact hfG) (.int .i64 (-1)))
    have hkI : (k : Int) < (n : Int) := by omega
    clear his' hf' his hy hlen hb
    go_wp2_with (fail)
    go_roundw
    case rel => exact ⟨k + 1, by omega, by go_num, HI.out, hb'.out⟩
    case measure => simp [intOf]; omega
  · obtain rfl : n = k := by omega
    have his2 : IS wr (some G) n (List.replicate n (-1)) := by
     have := his
     rwa [List.take_of_length_le (by simp), List.drop_of_length_le (by simp), List.append_nil] at this
    clear his hlen
    go_wp2_with (fail)
    go_ret
    exact ⟨G, rfl, his2, hfG, hb⟩
set_option maxRecDepth 100000 in
set_option maxHeartbeats 8000000 in
theorem mtOrigins_any {v : Value} {g : Gr} (w : World) (n : Nat) (h : RdGr w v g) (hm : Mono g n) :
  Calls Tryz.prog 113 #[v] w fun e w' => ∃ G, e = .returned (.slice (some G) n n) ∧ IS w' (some G) n (tabK outE g.2.1 n g.2.1.length) ∧ w.heap.size ≤ G.block ∧ Below w.heap.size w w' := by
 obtain ⟨A, c, hs, ⟨B, b, s⟩, ⟨C', d', t⟩, rfl, e1, e2, e3, hE, hRa, hRb⟩ := h
 have hwr : ∀ i : Nat, i < g.2.1.length → ∀ x, x ∈ outE (g.2.1.getD i eg0) → 0 ≤ x ∧ x < (n : Int) := fun i hi x hx => hm.wires (e := (i : Int)) (by omega) (by omega) x (by unfold wiresE edgeAt; rw [Int.toNat_natCast]; exact List.mem_append_right _ hx)
 have hk' := hm.kind
 have hn100 := hm.n100
 have hm60 := hm.m60
 have hgn := hm.hn
 clear hm
 obtain ⟨z, es, s0, t0⟩ := g
 have a1 : es = hs.map egOf := e1
 have a4 : z = (n : Int) := hgn
 subst a4
 have hegB : ∀ e, e ∈ es → egB e = true := hk'
 have hwr' : ∀ i : Nat, i < es.length → ∀ x, x ∈ outE (es.getD i eg0) → 0 ≤ x ∧ x < (n : Int) := hwr
 obtain ⟨m, hm⟩ : ∃ m, m = hs.length := ⟨_, rfl⟩
 have hLm : es.length = m := by rw [a1, List.length_map, hm]
 have hm60' : es.length ≤ 60 := hm60
 show Calls Tryz.prog _ #[.agg #[.int .i64 (n : Int), .slice A hs.length c, .slice B s.length b, .slice C' t.length d']] w fun e w' => ∃ G, e = .returned (.slice (some G) n n) ∧ IS w' (some G) n (tabK outE es n es.length) ∧ w.heap.size ≤ G.block ∧ Below w.heap.size w w'
 rw [hLm] at hwr' hm60' ⊢
 rw [← hm]
 obtain ⟨p, hp⟩ : ∃ p, p = s.length := ⟨_, rfl⟩
 obtain ⟨r, hr⟩ : ∃ r, r = t.length := ⟨_, rfl⟩
 rw [← hp, ← hr]
 obtain ⟨W, hW, bW, k0⟩ := (⟨_, rfl, t_below_alloc _ _, heap_alloc_new _ _⟩ : ∃ W, W = w.alloc (.cells #[.int .i64 (n : Int), .slice A m c, .slice B p b, .slice C' r d'] tGr) ∧ Below w.heap.size w W ∧ W.heap[w.heap.size]? = some (.cells #[.int .i64 (n : Int), .slice A m c, .slice B p b, .slice C' r d'] tGr))
 obtain ⟨⟨c0, c1, c2, c3⟩, f0, f1, f2, f3⟩ := t_box4 k0
 clear hRa hRb e1 e2 e3 hgn hwr hk' hm60; have hE_h := lH hE; have hegB_h := lH hegB; have hwr'_h := lH hwr'; have hm_h := lH hm; have hLm_h := lH hLm; have a1_h := lH a1; have hp_h := lH hp; have hr_h := lH hr; have bW_h := lH bW; have k0_h := lH k0; clear hE hegB hwr' hm hLm a1 hp hr bW k0
 go_enter Tryz.func113, Tryz.ntmps113
 go_upto_region 1 with (fail)
 rw [← hW]
 clear hW
 go_wp2_with (at_make; refine wpList_make_Sl _ rfl _ _ _ rfl tInt Tryz.underlying23 info_int n n rfl rfl rfl rfl (Nat.le_refl _) (by omega) (by unfold maxLen; omega) ?_; intro G w1 hs1 hfG hb1)
 have his0 : IS w1 (some G) n (List.replicate n 0) := IS.of_made hs1
 clear hs1 c0 c1 c2 c3 f0 f1 f2 f3
 have hGw : w.heap.size ≤ G.block := by have := bW_h.out.size; omega
 have his0_h := lH his0; have hb1_h := lH hb1; clear his0 hb1
 go_loopw [14] (fun i wr => ∃ k : Nat, k ≤ n ∧ i = .int .i64 k ∧ IS wr (some G) n ((List.replicate n (-1)).take k ++ (List.replicate n (0 : Int)).drop k) ∧ Below W.heap.size W wr) (fun i _ => n - (intOf i).toNat)
 case atStart => exact ⟨0, Nat.zero_le _, rfl, by simpa using his0_h.out, hb1_h.out⟩
 case round =>
  clear his0_h hb1_h
  obtain ⟨k, hk, rfl, his, hb⟩ := hrel
  obtain ⟨wo, rfl⟩ : ∃ x, x = wr := ⟨_, rfl⟩
  have hlen : ((List.replicate n (-1 : Int)).take k ++ (List.replicate n (0 : Int)).drop k).length = n := by simp; omega
  by_cases hlt : k < n
  · obtain ⟨ad, y, hA, hy, _, hc', hf'⟩ := his.at_ (j := k) (by rw [hlen]; exact hlt)
    obtain rfl := Option.some.inj hA
    have hfz := hf' k
    have his' := his.set (ad := G) rfl (j := k) (-1) (by rw [hlen]; exact hlt)
    rw [take_append_step (x := (-1 : Int)) (by simp) (by simp [hlt])] at his'
    have hb' := hb.setCell (p := G.add k) (by rw [block_of_add]; exact hfG) (.int .i64 (-1))
    have hkI : (k : Int) < (n : Int) := by omega
    clear hf' his hy hlen hb; have his'_h := lH his'; have hb'_h := lH hb'; clear his' hb'
    go_wp2_with (fail)
    go_roundw
    case rel => exact ⟨k + 1, by omega, by go_num, his'_h.out, hb'_h.out⟩
    case measure => simp [intOf]; omega
  · obtain rfl : n = k := by omega
    have his2 : IS wo (some G) n (tabK outE es n 0) := by
     rw [tabK_zero]
     have := his
     rwa [List.take_of_length_le (by simp), List.drop_of_length_le (by simp), List.append_nil] at this
    have ko := t_box_below k0_h.out hb
    obtain ⟨⟨c0, c1, c2, c3⟩, f0, f1, f2, f3⟩ := t_box4 ko
    clear his hlen ko; have his2_h := lH his2; have hb_h := lH hb; clear his2 hb
    go_wp2_with (fail)
    clear c0 c1 c2 c3 f0 f1 f2 f3
    go_loopw [24] (fun i wr => ∃ k : Nat, k ≤ m ∧ i = .int .i64 k ∧ IS wr (some G) n (tabK outE es n k) ∧ Below W.heap.size W wr) (fun i _ => m - (intOf i).toNat)
    case atStart => exact ⟨0, Nat.zero_le _, rfl, his2_h.out, hb_h.out⟩
    case round =>
     clear his2_h hb_h
     obtain ⟨k, hk, rfl, hIS, hB1⟩ := hrel
     obtain ⟨wo, rfl⟩ : ∃ x, x = wr := ⟨_, rfl⟩
     have hBw := below_trans bW_h.out hB1 bW_h.out.size
     by_cases hlt : k < m
     · obtain ⟨ad, κ, vv, B1, b1, s1, C1, b2, t1, rfl, hn, ⟨d0, d1, d2, d3⟩, _⟩ := (hE_h.out.below hBw).at_ (j := k) (by rw [← hm_h.out]; exact hlt)
       have hr1 := (hE_h.out.2 _ (List.mem_of_getElem? hn)).2
       have hek : es[k]? = some (κ, vv, s1, t1) := by rw [a1_h.out, List.getElem?_map, hn]; rfl
       have hed : es.getD k eg0 = (κ, vv, s1, t1) := by rw [List.getD_eq_getElem?_getD, hek]; rfl
       obtain ⟨⟨l1, l2⟩, l3⟩ := egB_len (hegB_h.out _ (List.mem_of_getElem? hek))
       simp only at l1 l2 l3
       have hwk := hwr'_h.out k hlt
       rw [hed] at hwk
       have hwk' : ∀ x, x ∈ t1 → 0 ≤ x ∧ x < (n : Int) := hwk
       clear hwk
       obtain ⟨p1, hp1⟩ : ∃ p1, p1 = s1.length := ⟨_, rfl⟩
       obtain ⟨r1, hr1'⟩ : ∃ r1, r1 = t1.length := ⟨_, rfl⟩
       rw [← hp1] at d2 l1
       rw [← hr1'] at d3 l2
       obtain ⟨W6, hW6, bW6, k6⟩ := (⟨_, rfl, t_below_alloc _ _, heap_alloc_new _ _⟩ : ∃ W, W = wo.alloc (.cells #[.int .i64 κ, .int .i64 vv, .slice B1 p1 b1, .slice C1 r1 b2] tEd) ∧ Below wo.heap.size wo W ∧ W.heap[wo.heap.size]? = some (.cells #[.int .i64 κ, .int .i64 vv, .slice B1 p1 b1, .slice C1 r1 b2] tEd))
       have kr := t_box_below k0_h.out hB1
       have hB6 := below_trans hB1 bW6 hB1.size
       have hI6 := hIS.below bW6
       obtain ⟨⟨c0, c1, c2, c3⟩, f0, f1, f2, f3⟩ := t_box4 k6
       obtain ⟨⟨y0, y1, y2, y3⟩, g0, g1, g2, g3⟩ := t_box4 kr
       have hkI : (k : Int) < (m : Int) := by omega
       have hr1_h' := lH hr1'; clear hr1' hn kr l3; have hek_h := lH hek; have hed_h := lH hed; have hp1_h := lH hp1; have bW6_h := lH bW6; have k6_h := lH k6; have hIS_h := lH hIS; have hB1_h := lH hB1; have hBw_h := lH hBw; have hwk'_h := lH hwk'; have hB6_h := lH hB6; have hI6_h := lH hI6; have hr1_h := lH hr1; clear hek hed hp1 bW6 k6 hIS hB1 hBw hwk' hB6 hI6 hr1
       go_upto_region 10 with (fail)
       rw [← hW6]
       clear hW6 d0 d1 d2 d3 y0 y1 y2 y3 g0 g1 g2 g3
       go_wp2_with (fail)
       clear c0 c1 c2 c3 f0 f1 f2 f3
       go_loopw [32] (fun i wr => ∃ j : Nat, j ≤ r1 ∧ i = .int .i64 j ∧ IS wr (some G) n (tabJ outE es n k j) ∧ Below W.heap.size W wr) (fun i _ => r1 - (intOf i).toNat)
       case atStart => exact ⟨0, Nat.zero_le _, rfl, by rw [tabJ_zero]; exact hI6_h.out, hB6_h.out⟩
       case round =>
        clear hI6_h hB6_h
        obtain ⟨j, hj, rfl, hISj, hBj⟩ := hrel
        obtain ⟨wi, rfl⟩ : ∃ x, x = wr := ⟨_, rfl⟩
        by_cases hltj : j < r1
        · obtain ⟨x, hx⟩ : ∃ x, t1[j]? = some x := ⟨_, List.getElem?_eq_getElem (by rw [← hr1_h'.out]; exact hltj)⟩
          have hxr := hwk'_h.out x (List.mem_of_getElem? hx)
          obtain ⟨bb, rfl⟩ : ∃ bb : Nat, x = (bb : Int) := ⟨x.toNat, by omega⟩
          obtain ⟨cd, rfl, yj⟩ := (hr1_h.out.below (below_trans bW_h.out hBj bW_h.out.size)) j _ hx
          have hstep : tabJ outE es n k (j + 1) = _ := tabJ_step (x := bb) (n := n) (by rw [hed_h.out]; exact hx)
          obtain ⟨zd, z0, ze, _, _, zc, zf⟩ := hISj.at_ (j := bb) (by rw [tabJ_length]; omega)
          obtain rfl := Option.some.inj ze
          have zfk := zf bb
          have hset := hISj.set (ad := G) rfl (j := bb) (k : Int) (by rw [tabJ_length]; omega)
          rw [← hstep] at hset
          have hBk := hBj.setCell (p := G.add bb) (by rw [block_of_add]; exact hfG) (.int .i64 (k : Int))
          have hjI : (j : Int) < (r1 : Int) := by omega
          have hbI : (bb : Int) < (n : Int) := by omega
          clear hISj hBj zf ze hstep hxr; have hset_h := lH hset; have hBk_h := lH hBk; have hx_h := lH hx; clear hset hBk hx
          go_wp2_with (fail)
          go_roundw
          case rel => exact ⟨j + 1, by omega, by go_num, hset_h.out, hBk_h.out⟩
          case measure => simp [intOf]; omega
        · obtain rfl : r1 = j := by omega
          have hI2 : IS wi (some G) n (tabK outE es n (k + 1)) := by
           rw [← tabJ_all (j := r1) (by rw [hed_h.out]; show t1.length ≤ _; rw [← hr1_h'.out]; exact Nat.le_refl _)]
           exact hISj
          clear hISj; have hI2_h := lH hI2; have hBj_h := lH hBj; clear hI2 hBj
          go_wp2_with (fail)
          go_roundw
          case rel => exact ⟨k + 1, by omega, by go_num, hI2_h.out, hBj_h.out⟩
          case measure => simp [intOf]; omega
     · obtain rfl : m = k := by omega
       have hIS_h := lH hIS; have hBw_h := lH hBw; clear hIS hBw; clear hB1
       go_wp2_with (fail)
       go_ret
       exact ⟨G, rfl, hIS_h.out, hGw, hBw_h.out⟩
set_option maxRecDepth 100000 in
set_option maxHeartbeats 8000000 in
theorem mtEnds_any {v : Value} {g : Gr} (w : World) (n : Nat) (h : RdGr w v g) (hm : Mono g n) :
  Calls Tryz.prog 114 #[v] w fun e w' => ∃ G, e = .returned (.slice (some G) n n) ∧ IS w' (some G) n (tabK inE g.2.1 n g.2.1.length) ∧ w.heap.size ≤ G.block ∧ Below w.heap.size w w' := by
 obtain ⟨A, c, hs, ⟨B, b, s⟩, ⟨C', d', t⟩, rfl, e1, e2, e3, hE, hRa, hRb⟩ := h
 have hwr : ∀ i : Nat, i < g.2.1.length → ∀ x, x ∈ inE (g.2.1.getD i eg0) → 0 ≤ x ∧ x < (n : Int) := fun i hi x hx => hm.wires (e := (i : Int)) (by omega) (by omega) x (by unfold wiresE edgeAt; rw [Int.toNat_natCast]; exact List.mem_append_left _ hx)
 have hk' := hm.kind
 have hn100 := hm.n100
 have hm60 := hm.m60
 have hgn := hm.hn
 clear hm
 obtain ⟨z, es, s0, t0⟩ := g
 have a1 : es = hs.map egOf := e1
 have a4 : z = (n : Int) := hgn
 subst a4
 have hegB : ∀ e, e ∈ es → egB e = true := hk'
 have hwr' : ∀ i : Nat, i < es.length → ∀ x, x ∈ inE (es.getD i eg0) → 0 ≤ x ∧ x < (n : Int) := hwr
 obtain ⟨m, hm⟩ : ∃ m, m = hs.length := ⟨_, rfl⟩
 have hLm : es.length = m := by rw [a1, List.length_map, hm]
 have hm60' : es.length ≤ 60 := hm60
 show Calls Tryz.prog _ #[.agg #[.int .i64 (n : Int), .slice A hs.length c, .slice B s.length b, .slice C' t.length d']] w fun e w' => ∃ G, e = .returned (.slice (some G) n n) ∧ IS w' (some G) n (tabK inE es n es.length) ∧ w.heap.size ≤ G.block ∧ Below w.heap.size w w'
 rw [hLm] at hwr' hm60' ⊢
 rw [← hm]
 obtain ⟨p, hp⟩ : ∃ p, p = s.length := ⟨_, rfl⟩
 obtain ⟨r, hr⟩ : ∃ r, r = t.length := ⟨_, rfl⟩
 rw [← hp, ← hr]
 obtain ⟨W, hW, bW, k0⟩ := (⟨_, rfl, t_below_alloc _ _, heap_alloc_new _ _⟩ : ∃ W, W = w.alloc (.cells #[.int .i64 (n : Int), .slice A m c, .slice B p b, .slice C' r d'] tGr) ∧ Below w.heap.size w W ∧ W.heap[w.heap.size]? = some (.cells #[.int .i64 (n : Int), .slice A m c, .slice B p b, .slice C' r d'] tGr))
 obtain ⟨⟨c0, c1, c2, c3⟩, f0, f1, f2, f3⟩ := t_box4 k0
 clear hRa hRb e1 e2 e3 hgn hwr hk' hm60; have hE_h := lH hE; have hegB_h := lH hegB; have hwr'_h := lH hwr'; have hm_h := lH hm; have hLm_h := lH hLm; have a1_h := lH a1; have hp_h := lH hp; have hr_h := lH hr; have bW_h := lH bW; have k0_h := lH k0; clear hE hegB hwr' hm hLm a1 hp hr bW k0
 go_enter Tryz.func114, Tryz.ntmps114
 go_upto_region 1 with (fail)
 rw [← hW]
 clear hW
 go_wp2_with (at_make; refine wpList_make_Sl _ rfl _ _ _ rfl tInt Tryz.underlying23 info_int n n rfl rfl rfl rfl (Nat.le_refl _) (by omega) (by unfold maxLen; omega) ?_; intro G w1 hs1 hfG hb1)
 have his0 : IS w1 (some G) n (List.replicate n 0) := IS.of_made hs1
 clear hs1 c0 c1 c2 c3 f0 f1 f2 f3
 have hGw : w.heap.size ≤ G.block := by have := bW_h.out.size; omega
 have his0_h := lH his0; have hb1_h := lH hb1; clear his0 hb1
 go_loopw [14] (fun i wr => ∃ k : Nat, k ≤ n ∧ i = .int .i64 k ∧ IS wr (some G) n ((List.replicate n (-1)).take k ++ (List.replicate n (0 : Int)).drop k) ∧ Below W.heap.size W wr) (fun i _ => n - (intOf i).toNat)
 case atStart => exact ⟨0, Nat.zero_le _, rfl, by simpa using his0_h.out, hb1_h.out⟩
 case round =>
  clear his0_h hb1_h
  obtain ⟨k, hk, rfl, his, hb⟩ := hrel
  obtain ⟨wo, rfl⟩ : ∃ x, x = wr := ⟨_, rfl⟩
  have hlen : ((List.replicate n (-1 : Int)).take k ++ (List.replicate n (0 : Int)).drop k).length = n := by simp; omega
  by_cases hlt : k < n
  · obtain ⟨ad, y, hA, hy, _, hc', hf'⟩ := his.at_ (j := k) (by rw [hlen]; exact hlt)
    obtain rfl := Option.some.inj hA
    have hfz := hf' k
    have his' := his.set (ad := G) rfl (j := k) (-1) (by rw [hlen]; exact hlt)
    rw [take_append_step (x := (-1 : Int)) (by simp) (by simp [hlt])] at his'
    have hb' := hb.setCell (p := G.add k) (by rw [block_of_add]; exact hfG) (.int .i64 (-1))
    have hkI : (k : Int) < (n : Int) := by omega
    clear hf' his hy hlen hb; have his'_h := lH his'; have hb'_h := lH hb'; clear his' hb'
    go_wp2_with (fail)
    go_roundw
    case rel => exact ⟨k + 1, by omega, by go_num, his'_h.out, hb'_h.out⟩
    case measure => simp [intOf]; omega
  · obtain rfl : n = k := by omega
    have his2 : IS wo (some G) n (tabK inE es n 0) := by
     rw [tabK_zero]
     have := his
     rwa [List.take_of_length_le (by simp), List.drop_of_length_le (by simp), List.append_nil] at this
    have ko := t_box_below k0_h.out hb
    obtain ⟨⟨c0, c1, c2, c3⟩, f0, f1, f2, f3⟩ := t_box4 ko
    clear his hlen ko; have his2_h := lH his2; have hb_h := lH hb; clear his2 hb
    go_wp2_with (fail)
    clear c0 c1 c2 c3 f0 f1 f2 f3
    go_loopw [24] (fun i wr => ∃ k : Nat, k ≤ m ∧ i = .int .i64 k ∧ IS wr (some G) n (tabK inE es n k) ∧ Below W.heap.size W wr) (fun i _ => m - (intOf i).toNat)
    case atStart => exact ⟨0, Nat.zero_le _, rfl, his2_h.out, hb_h.out⟩
    case round =>
     clear his2_h hb_h
     obtain ⟨k, hk, rfl, hIS, hB1⟩ := hrel
     obtain ⟨wo, rfl⟩ : ∃ x, x = wr := ⟨_, rfl⟩
     have hBw := below_trans bW_h.out hB1 bW_h.out.size
     by_cases hlt : k < m
     · obtain ⟨ad, κ, vv, B1, b1, s1, C1, b2, t1, rfl, hn, ⟨d0, d1, d2, d3⟩, _⟩ := (hE_h.out.below hBw).at_ (j := k) (by rw [← hm_h.out]; exact hlt)
       have hr1 := (hE_h.out.2 _ (List.mem_of_getElem? hn)).1
       have hek : es[k]? = some (κ, vv, s1, t1) := by rw [a1_h.out, List.getElem?_map, hn]; rfl
       have hed : es.getD k eg0 = (κ, vv, s1, t1) := by rw [List.getD_eq_getElem?_getD, hek]; rfl
       obtain ⟨⟨l1, l2⟩, l3⟩ := egB_len (hegB_h.out _ (List.mem_of_getElem? hek))
       simp only at l1 l2 l3
       have hwk := hwr'_h.out k hlt
       rw [hed] at hwk
       have hwk' : ∀ x, x ∈ s1 → 0 ≤ x ∧ x < (n : Int) := hwk
       clear hwk
       obtain ⟨p1, hp1⟩ : ∃ p1, p1 = s1.length := ⟨_, rfl⟩
       obtain ⟨r1, hr1'⟩ : ∃ r1, r1 = t1.length := ⟨_, rfl⟩
       rw [← hp1] at d2 l1
       rw [← hr1'] at d3 l2
       obtain ⟨W6, hW6, bW6, k6⟩ := (⟨_, rfl, t_below_alloc _ _, heap_alloc_new _ _⟩ : ∃ W, W = wo.alloc (.cells #[.int .i64 κ, .int .i64 vv, .slice B1 p1 b1, .slice C1 r1 b2] tEd) ∧ Below wo.heap.size wo W ∧ W.heap[wo.heap.size]? = some (.cells #[.int .i64 κ, .int .i64 vv, .slice B1 p1 b1, .slice C1 r1 b2] tEd))
       have kr := t_box_below k0_h.out hB1
       have hB6 := below_trans hB1 bW6 hB1.size
       have hI6 := hIS.below bW6
       obtain ⟨⟨c0, c1, c2, c3⟩, f0, f1, f2, f3⟩ := t_box4 k6
       obtain ⟨⟨y0, y1, y2, y3⟩, g0, g1, g2, g3⟩ := t_box4 kr
       have hkI : (k : Int) < (m : Int) := by omega
       have hr1_h' := lH hr1'; clear hr1' hn kr l3; have hek_h := lH hek; have hed_h := lH hed; have hp1_h := lH hp1; have bW6_h := lH bW6; have k6_h := lH k6; have hIS_h := lH hIS; have hB1_h := lH hB1; have hBw_h := lH hBw; have hwk'_h := lH hwk'; have hB6_h := lH hB6; have hI6_h := lH hI6; have hr1_h := lH hr1; clear hek hed hp1 bW6 k6 hIS hB1 hBw hwk' hB6 hI6 hr1
       go_upto_region 10 with (fail)
       rw [← hW6]
       clear hW6 d0 d1 d2 d3 y0 y1 y2 y3 g0 g1 g2 g3
       go_wp2_with (fail)
       clear c0 c1 c2 c3 f0 f1 f2 f3
       go_loopw [32] (fun i wr => ∃ j : Nat, j ≤ p1 ∧ i = .int .i64 j ∧ IS wr (some G) n (tabJ inE es n k j) ∧ Below W.heap.size W wr) (fun i _ => p1 - (intOf i).toNat)
       case atStart => exact ⟨0, Nat.zero_le _, rfl, by rw [tabJ_zero]; exact hI6_h.out, hB6_h.out⟩
       case round =>
        clear hI6_h hB6_h
        obtain ⟨j, hj, rfl, hISj, hBj⟩ := hrel
        obtain ⟨wi, rfl⟩ : ∃ x, x = wr := ⟨_, rfl⟩
        by_cases hltj : j < p1
        · obtain ⟨x, hx⟩ : ∃ x, s1[j]? = some x := ⟨_, List.getElem?_eq_getElem (by rw [← hp1_h.out]; exact hltj)⟩
          have hxr := hwk'_h.out x (List.mem_of_getElem? hx)
          obtain ⟨bb, rfl⟩ : ∃ bb : Nat, x = (bb : Int) := ⟨x.toNat, by omega⟩
          obtain ⟨cd, rfl, yj⟩ := (hr1_h.out.below (below_trans bW_h.out hBj bW_h.out.size)) j _ hx
          have hstep : tabJ inE es n k (j + 1) = _ := tabJ_step (x := bb) (n := n) (by rw [hed_h.out]; exact hx)
          obtain ⟨zd, z0, ze, _, _, zc, zf⟩ := hISj.at_ (j := bb) (by rw [tabJ_length]; omega)
          obtain rfl := Option.some.inj ze
          have zfk := zf bb
          have hset := hISj.set (ad := G) rfl (j := bb) (k : Int) (by rw [tabJ_length]; omega)
          rw [← hstep] at hset
          have hBk := hBj.setCell (p := G.add bb) (by rw [block_of_add]; exact hfG) (.int .i64 (k : Int))
          have hjI : (j : Int) < (p1 : Int) := by omega
          have hbI : (bb : Int) < (n : Int) := by omega
          clear hISj hBj zf ze hstep hxr; have hset_h := lH hset; have hBk_h := lH hBk; have hx_h := lH hx; clear hset hBk hx
          go_wp2_with (fail)
          go_roundw
          case rel => exact ⟨j + 1, by omega, by go_num, hset_h.out, hBk_h.out⟩
          case measure => simp [intOf]; omega
        · obtain rfl : p1 = j := by omega
          have hI2 : IS wi (some G) n (tabK inE es n (k + 1)) := by
           rw [← tabJ_all (j := p1) (by rw [hed_h.out]; show s1.length ≤ _; rw [← hp1_h.out]; exact Nat.le_refl _)]
           exact hISj
          clear hISj; have hI2_h := lH hI2; have hBj_h := lH hBj; clear hI2 hBj
          go_wp2_with (fail)
          go_roundw
          case rel => exact ⟨k + 1, by omega, by go_num, hI2_h.out, hBj_h.out⟩
          case measure => simp [intOf]; omega
     · obtain rfl : m = k := by omega
       have hIS_h := lH hIS; have hBw_h := lH hBw; clear hIS hBw; clear hB1
       go_wp2_with (fail)
       go_ret
       exact ⟨G, rfl, hIS_h.out, hGw, hBw_h.out⟩
@[simp] theorem numsL_length (n : Nat) (o : List Int) : (numsL n o).length = n := by simp [numsL]
theorem numsL_get {n w : Nat} {o : List Int} (h : w < n) : (numsL n o)[w]? = some (if (w : Int) ∈ o then idx o (w : Int) else -1) := by simp [numsL, h]
theorem numsL_snoc {n w : Nat} {o : List Int} (hw : (w : Int) ∉ o) : numsL n (o ++ [(w : Int)]) = (numsL n o).set w (o.length : Int) := by
 apply List.ext_getElem?
 intro i
 rw [List.getElem?_set]
 by_cases hi : i < n
 · rw [numsL_get hi, numsL_get hi, numsL_length]
   by_cases e : w = i
   · subst e
     rw [if_pos rfl, if_pos hi, if_pos (by simp), idx_append, if_neg hw]
     simp [idx]
   · have hne : ¬ (i : Int) = (w : Int) := by omega
     rw [if_neg e]
     by_cases ho : (i : Int) ∈ o
     · rw [if_pos (by simp [ho]), if_pos ho, idx_append, if_pos ho]
     · rw [if_neg (by simp [ho, hne]), if_neg ho]
 · rw [List.getElem?_eq_none (by rw [numsL_length]; omega), List.getElem?_eq_none (by rw [numsL_length]; omega)]
   split
   · rw [if_neg (by rw [numsL_length]; omega)]
   · rfl
theorem giveL_step {o l : List Int} {k : Nat} {x : Int} (h : l[k]? = some x) : giveL o (l.take (k + 1)) = if x ∈ giveL o (l.take k) then giveL o (l.take k) else giveL o (l.take k) ++ [x] := by
 rw [List.take_add_one, h, giveL_append]
 show giveL _ [x] = _
 rw [giveL_one]
 by_cases hx : x ∈ giveL o (l.take k)
 · rw [if_pos hx, if_pos (by simpa using hx)]
 · rw [if_neg hx, if_neg (by simpa using hx)]
def RetGive (w : World) (N : Addr) (n : Nat) (A : Option Addr) (o : List Int) (w' : World) (A' : Option Addr) (cap' : Nat) : Prop :=
 IS w' (some N) n (numsL n o) ∧ IS w' A' cap' o ∧ (∀ b, b ∈ fpA A' → b ∈ fpA A ∨ w.heap.size ≤ b) ∧ Keeps (fun b => b = N.block ∨ b ∈ fpA A) w w'
set_option maxRecDepth 100000 in
set_option maxHeartbeats 8000000 in
theorem cnGive_any (N : Addr) (n : Nat) (A B : Option Addr) (cap b p q0 : Nat) (o L : List Int) (w : World) (hN : IS w (some N) n (numsL n o)) (hA : IS w A cap o) (hNA : ∀ b, b ∈ fpA A → b ≠ N.block) (hB : RdI w B L) (hBf : 0 < p → ∀ b, b ∈ fpA B → b ≠ N.block ∧ ¬ b ∈ fpA A)
  (hn : n ≤ 100) (ho : o.Nodup) (hor : ∀ x, x ∈ o → 0 ≤ x ∧ x < (n : Int)) (hL : ∀ x, x ∈ L → 0 ≤ x ∧ x < (n : Int)) (hp : L.length = p) (hq0 : o.length = q0) (hpb : p ≤ 1048576) :
  Calls Tryz.prog 91 #[.slice (some N) n n, .slice A q0 cap, .slice B p b] w fun e w' => ∃ (A' : Option Addr) (cap' : Nat), e = .returned (.slice A' (giveL o L).length cap') ∧ RetGive w N n A (giveL o L) w' A' cap' := by
 have hNl : N.block < w.heap.size := hN.lt N.block (by simp)
 have hR0 : RetGive w N n A (giveL o (L.take 0)) w A cap := ⟨hN, hA, fun b hb => .inl hb, Keeps.refl _ _⟩
 have hin : ∀ k, (giveL o (L.take k)).length ≤ n := fun k => nodup_le (giveL_nodup ho) fun x hx => by
  rcases mem_giveL.1 hx with hx | hx
  · exact hor x hx
  · exact hL x (List.mem_of_mem_take hx)
 clear hN hA; have hR0_h := lH hR0; have hNA_h := lH hNA; have hB_h := lH hB; have hBf_h := lH hBf; have ho_h := lH ho; have hor_h := lH hor; have hL_h := lH hL; have hp_h := lH hp; have hin_h := lH hin; have hq0_h := lH hq0; clear hR0 hNA hB hBf ho hor hL hp hin hq0
 go_enter Tryz.func91, Tryz.ntmps91
 go_wp2_with (fail)
 go_loopw [11, 1] (fun i v wr => ∃ (k q : Nat) (A' : Option Addr) (cap' : Nat), k ≤ p ∧ i = .int .i64 k ∧ v = .slice A' q cap' ∧ q = (giveL o (L.take k)).length ∧ RetGive w N n A (giveL o (L.take k)) wr A' cap') (fun i _ _ => p - (intOf i).toNat)
 case atStart => exact ⟨0, q0, A, cap, Nat.zero_le _, rfl, rfl, by rw [← hq0_h.out]; rfl, hR0_h.out⟩
 case round =>
  clear hR0_h
  obtain ⟨k, q, A', cap', hk, rfl, rfl, hq, hR⟩ := hrel
  obtain ⟨wo, rfl⟩ : ∃ x, x = wr := ⟨_, rfl⟩
  by_cases hlt : k < p
  · obtain ⟨hRN, hRA, hRf, hRk⟩ := hR
    obtain ⟨x, hx⟩ : ∃ x, L[k]? = some x := ⟨_, List.getElem?_eq_getElem (by rw [hp_h.out]; exact hlt)⟩
    have hxr := hL_h.out x (List.mem_of_getElem? hx)
    obtain ⟨bb, rfl⟩ : ∃ bb : Nat, x = (bb : Int) := ⟨x.toNat, by omega⟩
    have hBo : RdI wo B L := hB_h.out.keeps hRk fun b hb h => by
     have := hBf_h.out (by omega) b hb
     rcases h with h | h
     · exact this.1 h
     · exact this.2 h
    obtain ⟨bd, rfl, yb⟩ := hBo k _ hx
    have hbn : bb < n := by omega
    have hbI : (bb : Int) < (n : Int) := by omega
    have hkI : (k : Int) < (p : Int) := by omega
    have hst := giveL_step (o := o) hx
    have hqn := hin_h.out k
    rw [← hq] at hqn
    by_cases hm : (bb : Int) ∈ giveL o (L.take k)
    · rw [if_pos hm] at hst
      obtain ⟨d, hd⟩ : ∃ d, d = idx (giveL o (L.take k)) (bb : Int) := ⟨_, rfl⟩
      have hd0 : 0 ≤ d := by rw [hd]; exact (idx_lt hm).1
      obtain ⟨nd, ne, nc⟩ := hRN.rd bb d (by rw [numsL_get hbn, if_pos hm, hd])
      obtain rfl := Option.some.inj ne
      have hdI : ¬ d < 0 := by omega
      have hR' : RetGive w N n A (giveL o (L.take k)) wo A' cap' := ⟨hRN, hRA, hRf, hRk⟩
      rw [← hst] at hR' hq
      clear hRN hRA hRf hRk hBo hx hxr hst hm hd; have hR'_h := lH hR'; have hq_h := lH hq; clear hR' hq
      go_wp2_with (fail)
      go_roundw
      case rel => exact ⟨k + 1, q, A', cap', by omega, by go_num, rfl, hq_h.out, hR'_h.out⟩
      case measure => simp [intOf]; omega
    · rw [if_neg hm] at hst
      have hsn := numsL_snoc (n := n) hm
      rw [← hst, ← hq] at hsn
      obtain ⟨nd, ny, ne, ny', _, nc', nf⟩ := hRN.at_ (j := bb) (by rw [numsL_length]; omega)
      obtain rfl := Option.some.inj ne
      obtain rfl : ny = -1 := by
       rw [numsL_get hbn, if_neg hm] at ny'
       exact (Option.some.inj ny').symm
      have nfz := nf bb
      have hNA' : ∀ b, b ∈ fpA A' → b ≠ N.block := fun b hb => by
       rcases hRf b hb with h | h
       · exact hNA_h.out b h
       · omega
      have hset := hRN.set (ad := N) rfl (j := bb) (q : Int) (by rw [numsL_length]; omega)
      rw [← hsn] at hset
      have hks : Keeps (fun b => b = N.block) wo (wo.setCell (N.add bb) (.int .i64 (q : Int))) := Keeps.setCell (Keeps.refl _ wo) (p := N.add bb) (by rw [block_of_add]) _
      have hA1 := hRA.keeps hks fun b hb => hNA' b hb
      obtain ⟨w1, hw1⟩ : ∃ w1, w1 = wo.setCell (N.add bb) (.int .i64 (q : Int)) := ⟨_, rfl⟩
      rw [← hw1] at hset hks hA1
      have hsl : Sl (w1.alloc (.cells #[.int .i64 (bb : Int)] tInt)) tInt 1 A' q cap' (ints (giveL o (L.take k))) := by
       have := Sl.alloc hA1 (.cells #[.int .i64 (bb : Int)] tInt)
       rwa [← hq] at this
      clear hRN hRA hBo hxr hsn hm nf ne ny' hA1; have hset_h := lH hset; have hks_h := lH hks; have hst_h := lH hst; have hq_h := lH hq; have hRf_h := lH hRf; have hRk_h := lH hRk; have hNA'_h := lH hNA'; have hsl_h := lH hsl; have hx_h := lH hx; clear hset hks hst hq hRf hRk hNA' hsl hx
      go_upto_region 6 with (fail)
      rw [← hw1]
      clear nc' yb nfz hw1
      go_wp2_with (at_builtin; refine wpList_append_Sl _ rfl _ _ _ rfl 3 Tryz.underlying23 info_int rfl (by omega) rfl hsl_h.out rfl (news := [.int .i64 (bb : Int)]) rfl (Sl.rdc (Sl.laid w1 3 1 1 #[.int .i64 (bb : Int)] (by unfold maxLen; omega) rfl)) (by intro u hu; simp at hu; subst hu; rfl) (by unfold maxLen; omega) (by omega) ?_; intro A3 c3 w3 hs3 hA3 hk3)
      have hz1 := hks_h.out.size
      have hal : Keeps (fun b => b = N.block) w1 (w1.alloc (.cells #[.int .i64 (bb : Int)] tInt)) := (Keeps.refl _ w1).alloc _
      have hz2 := hal.size
      have hN3 : IS w3 (some N) n (numsL n (giveL o (L.take (k + 1)))) := (hset_h.out.below (t_below_alloc w1 _)).keeps hk3 fun b hb h => by
       simp at hb
       subst hb
       exact hNA'_h.out _ h rfl
      have hR' : RetGive w N n A (giveL o (L.take (k + 1))) w3 A3 c3 := by
       refine ⟨hN3, ?_, fun b hb => ?_, ?_⟩
       · rw [hst_h.out]
         unfold IS
         have : ints (giveL o (L.take k) ++ [(bb : Int)]) = ints (giveL o (L.take k)) ++ [.int .i64 (bb : Int)] := by simp [ints]
         rw [this, List.length_append, ← hq_h.out]; exact hs3
       · rcases hA3 b hb with h | h
         · exact hRf_h.out b h
         · have := hRk_h.out.size
           have h' : w1.heap.size ≤ b := Nat.le_trans hal.size h
           right; omega
       · have hT := (((hRk_h.out.mono (T := fun b => (b = N.block ∨ b ∈ fpA A) ∨ w.heap.size ≤ b) fun b _ h => .inl h).trans ((hks_h.out.trans hal).mono fun b _ h => .inl (.inl h))).trans (hk3.mono fun b _ h => (by
          rcases hRf_h.out b h with h | h
          · exact .inl (.inr h)
          · exact .inr h)))
         exact hT.mono fun b hb h => h.resolve_right (by omega)
      have hq' : q + 1 = (giveL o (L.take (k + 1))).length := by rw [hst_h.out, List.length_append, ← hq_h.out]; rfl
      clear hs3 hA3 hk3 hal hN3; have hR'_h := lH hR'; have hq'_h := lH hq'; clear hR' hq'
      go_roundw
      case rel => exact ⟨k + 1, q + 1, A3, c3, by omega, by go_num, rfl, hq'_h.out, hR'_h.out⟩
      case measure => simp [intOf]; omega
  · obtain rfl : p = k := by omega
    rw [List.take_of_length_le (by rw [hp_h.out]; exact Nat.le_refl _)] at hR hq
    have hR_h := lH hR; have hq_h := lH hq; clear hR hq
    go_wp2_with (fail)
    go_ret
    exact ⟨A', cap', by rw [← hq_h.out]; rfl, hR_h.out⟩
structure CnW (w0 : World) (n m : Nat) (N E : Addr) (w : World) (A : Option Addr) (cap : Nat) (s : WE) : Prop where
 num : IS w (some N) n (numsL n s.1)
 edg : IS w (some E) m (numsL m s.2)
 ord : IS w A cap s.1
 nf : w0.heap.size ≤ N.block
 ef : w0.heap.size ≤ E.block
 af : Fresh w0.heap.size A
 ne : N.block ≠ E.block
 an : ∀ b, b ∈ fpA A → b ≠ N.block ∧ b ≠ E.block
 bel : Below w0.heap.size w0 w
section
variable {w0 w w' : World} {n m : Nat} {N E : Addr} {A A' : Option Addr} {cap cap' : Nat} {s : WE}
theorem CnW.below (h : CnW w0 n m N E w A cap s) (hb : Below w.heap.size w w') : CnW w0 n m N E w' A cap s :=
 ⟨h.num.below hb, h.edg.below hb, h.ord.below hb, h.nf, h.ef, h.af, h.ne, h.an, below_trans h.bel hb h.bel.size⟩
theorem CnW.give (h : CnW w0 n m N E w A cap s) {o : List Int} (hr : RetGive w N n A o w' A' cap') : CnW w0 n m N E w' A' cap' (o, s.2) := by
 obtain ⟨h1, h2, h3, h4⟩ := hr
 have hNl := h.num.lt N.block (by simp)
 have hEl := h.edg.lt E.block (by simp)
 refine ⟨h1, h.edg.keeps h4 fun b hb hh => ?_, h2, h.nf, h.ef, fun b hb => ?_, h.ne, fun b hb => ?_, below_keeps h.bel h4 h.bel.size fun b hb => ?_⟩
 · have hbE : b = E.block := by simpa using hb
   subst hbE
   rcases hh with hh | hh
   · exact h.ne hh.symm
   · exact (h.an _ hh).2 rfl
 · rcases h3 b hb with hh | hh
   · exact h.af b hh
   · have := h.bel.size; omega
 · rcases h3 b hb with hh | hh
   · exact h.an b hh
   · exact ⟨by omega, by omega⟩
 · rcases hb with hb | hb
   · rw [hb]; exact h.nf
   · exact h.af b hb
theorem CnW.mark (h : CnW w0 n m N E w A cap s) {e : Nat} (he : e < m) (hne : (e : Int) ∉ s.2) : CnW w0 n m N E (w.setCell (E.add e) (.int .i64 (s.2.length : Int))) A cap (s.1, s.2 ++ [(e : Int)]) := by
 have hks : Keeps (fun b => b = E.block) w (w.setCell (E.add e) (.int .i64 (s.2.length : Int))) := Keeps.setCell (Keeps.refl _ w) (p := E.add e) (by rw [block_of_add]) _
 refine ⟨h.num.keeps hks fun b hb hh => ?_, ?_, h.ord.keeps hks fun b hb hh => (h.an b hb).2 hh, h.nf, h.ef, h.af, h.ne, h.an, below_keeps h.bel hks h.bel.size fun b hb => by rw [hb]; exact h.ef⟩
 · have hbN : b = N.block := by simpa using hb
   exact h.ne (hbN.symm.trans hh)
 · have := h.edg.set (ad := E) rfl (j := e) (s.2.length : Int) (by rw [numsL_length]; exact he)
   rw [← numsL_snoc hne] at this
   exact this
end
theorem numsL_of_not {n w : Nat} {o : List Int} (h : w < n) (ho : (w : Int) ∉ o) : (numsL n o)[w]? = some (-1) := by rw [numsL_get h, if_neg ho]
theorem numsL_of_mem {n w : Nat} {o : List Int} (h : w < n) (ho : (w : Int) ∈ o) : ∃ d, 0 ≤ d ∧ (numsL n o)[w]? = some d := by
 rw [numsL_get h, if_pos ho]
 exact ⟨_, (idx_lt ho).1, rfl⟩
def sJ (g : Gr) (s : WE) (x y : Int) : Nat → WE
 | 0 => s
 | 1 => stepE g s x
 | _ + 2 => stepE g (stepE g s x) y
theorem sJ_step {g : Gr} {s : WE} {x y e : Int} {j : Nat} (h : [x, y][j]? = some e) : sJ g s x y (j + 1) = stepE g (sJ g s x y j) e := by
 match j, h with
 | 0, h => obtain rfl := Option.some.inj h; rfl
 | 1, h => obtain rfl := Option.some.inj h; rfl
def Aside (w w2 : World) (A : Option Addr) : Prop := ∀ b, b ∈ fpA A → b < w.heap.size ∨ w2.heap.size ≤ b
def KeepM (w w2 w' : World) : Prop := Keeps (fun b => b < w.heap.size) w2 w'
theorem KeepM.below {w w2 w' w'' : World} (h : KeepM w w2 w') (hb : Below w'.heap.size w' w'') : KeepM w w2 w'' := h.trans (Keeps.of_below hb _)
theorem KeepM.keeps {w w2 w' w'' : World} (h : KeepM w w2 w') {S : Nat → Prop} (hk : Keeps S w' w'') (hS : ∀ b, S b → b < w.heap.size ∨ w2.heap.size ≤ b) : KeepM w w2 w'' :=
 ((Keeps.mono h (T := fun b => b < w.heap.size ∨ w2.heap.size ≤ b) fun b _ h => .inl h).trans (hk.mono fun b _ h => hS b h)).mono fun b hb h => h.resolve_right (by omega)
set_option maxRecDepth 100000 in
set_option maxHeartbeats 8000000 in
theorem cnWalk_any {v : Value} {g : Gr} (w0 w : World) (n m p q0 : Nat) (N E : Addr) (A0 : Option Addr) (cap0 : Nat) (s0 : WE) (h : RdGr w0 v g) (hMo : Mono g n) (hs : WInv g n s0) (hW : CnW w0 n m N E w A0 cap0 s0) (hm : g.2.1.length = m) (hq : s0.1.length = q0) (hp : s0.2.length = p) :
  Calls Tryz.prog 92 #[v, .slice (some N) n n, .slice (some E) m m, .slice A0 q0 cap0, .int .i64 (p : Int)] w fun e w' => ∃ (A' : Option Addr) (cap' : Nat), e = .returned (.tuple #[.int .i64 ((finW g s0).2.length : Int), .slice A' (finW g s0).1.length cap']) ∧ CnW w0 n m N E w' A' cap' (finW g s0) := by
 have hWk := fun k => hs.walk hMo k
 have hfin := fun k => finW_eq hMo (s := s0) (k := k)
 have hgr := fun (W' : World) (hb : Below w0.heap.size w0 W') => h.below hb
 have hto := toE_rng g
 have hfr := fromE_rng g
 have hcO := fun (W' : World) (hb : Below w0.heap.size w0 W') => mtOrigins_any W' n (hgr W' hb) hMo
 have hcE := fun (W' : World) (hb : Below w0.heap.size w0 W') => mtEnds_any W' n (hgr W' hb) hMo
 have hwi := fun (e : Int) (h0 : 0 ≤ e) (he : e < (g.2.1.length : Int)) => hMo.wires h0 he
 have hkind := hMo.kind
 have hn100 := hMo.n100
 have hm60 := hMo.m60
 have hgn := hMo.hn
 have hMo_h := lH hMo; clear hMo
 obtain ⟨A, c, hs', ⟨B, b, s⟩, ⟨C', d', t⟩, rfl, e1, e2, e3, hE, hRa, hRb⟩ := h
 obtain ⟨vv, hvv⟩ : ∃ x, x = Value.agg #[.int .i64 g.1, .slice A hs'.length c, .slice B s.length b, .slice C' t.length d'] := ⟨_, rfl⟩
 have hml : hs'.length = m := by rw [← hm, e1, List.length_map]
 simp only [hm] at hcO hcE hwi hm60 hto hfr
 rw [hml, hgn] at hvv hcO hcE ⊢
 obtain ⟨pp, hpp⟩ : ∃ p, p = s.length := ⟨_, rfl⟩
 obtain ⟨r, hr⟩ : ∃ r, r = t.length := ⟨_, rfl⟩
 rw [← hpp, ← hr] at hvv hcO hcE ⊢
 clear hvv hgr hRa hRb e2 e3
 obtain ⟨es, hes⟩ : ∃ es, es = g.2.1 := ⟨_, rfl⟩
 have a1 : es = hs'.map egOf := by rw [hes, e1]
 obtain ⟨W, hWe, bW, k0⟩ := (⟨_, rfl, t_below_alloc _ _, heap_alloc_new _ _⟩ : ∃ W, W = w.alloc (.cells #[.int .i64 (n : Int), .slice A m c, .slice B pp b, .slice C' r d'] tGr) ∧ Below w.heap.size w W ∧ W.heap[w.heap.size]? = some (.cells #[.int .i64 (n : Int), .slice A m c, .slice B pp b, .slice C' r d'] tGr))
 have hW1 := hW.below bW
 have hWsz : W.heap.size = w.heap.size + 1 := by rw [hWe]; simp
 have hlt3 : N.block < w.heap.size ∧ E.block < w.heap.size ∧ ∀ b, b ∈ fpA A0 → b < w.heap.size := ⟨hW.num.lt N.block (by simp), hW.edg.lt E.block (by simp), hW.ord.lt⟩
 have bWd : Below W.heap.size W W.drew := below_drewN (Below.refl _ _) 1
 have hb0 := below_trans hW1.bel bWd hW1.bel.size
 have hC1 := hcO W.drew hb0
 clear hcO; have hWk_h := lH hWk; have hfin_h := lH hfin; have hcE_h := lH hcE; have hto_h := lH hto; have hfr_h := lH hfr; have hwi_h := lH hwi; have hkind_h := lH hkind; have hs_h := lH hs; have hm_h := lH hm; have hq_h := lH hq; have hp_h := lH hp; have hml_h := lH hml; have hE_h := lH hE; have hpp_h := lH hpp; have hr_h := lH hr; have a1_h := lH a1; have bW_h := lH bW; have k0_h := lH k0; have hW1_h := lH hW1; have bWd_h := lH bWd; have hC1_h := lH hC1; have hes_h := lH hes; have hgn_h := lH hgn; clear hWk hfin hcE hto hfr hwi hkind hs hm hq hp hml hE hpp hr a1 bW k0 hW1 bWd hC1 hes hgn; clear hW e1
 go_enter Tryz.func92, Tryz.ntmps92
 go_upto_region 1 with (fail)
 rw [← hWe]
 clear hWe
 refine beginH (fun w' => w'.heap[w.heap.size]? = some (.cells #[.int .i64 (n : Int), .slice A m c, .slice B pp b, .slice C' r d'] tGr)) (by kernel_rfl) ?_
 have k1 := t_box_below k0_h.out bWd_h.out
 refine tkH 0 ?_ rfl k1 (fun W' hW' => ?_) ?_; rotate_left; · (obtain ⟨⟨y0, y1, y2, y3⟩, y4, y5, y6, y7⟩ := t_box4 hW'; clear hW'; go_simp; first | done | with_reducible rfl)
 simp only [Act.put, nS]
 refine tkH 2 ?_ rfl k1 (fun W' hW' => ?_) ?_; rotate_left; · (obtain ⟨⟨y0, y1, y2, y3⟩, y4, y5, y6, y7⟩ := t_box4 hW'; clear hW'; go_simp; first | done | with_reducible rfl)
 simp only [Act.put, nS]
 refine' callH 1 (f := _) (args := _) rfl (by kernel_rfl) (by rfl) ?_ ?_; rotate_left 2; · (go_simp; first | done | with_reducible rfl | (constructor <;> with_reducible rfl))
 refine (hC1_h.out).mono ?_
 rintro e w1 ⟨G1, rfl, hI1, hG1, hb1⟩
 have k2 := t_box_below k1 hb1
 have hbW1 := below_trans bWd_h.out hb1 bWd_h.out.size
 have hb01 := below_trans hb0 hb1 hb0.size
 have hC2 := hcE_h.out w1 hb01
 refine ⟨_, rfl, k2, ?_⟩
 simp only [Act.put, nS]
 refine' callH 3 (f := _) (args := _) rfl (by kernel_rfl) (by rfl) ?_ ?_; rotate_left 2; · (go_simp; first | done | with_reducible rfl | (constructor <;> with_reducible rfl))
 refine (hC2).mono ?_
 rintro e w2 ⟨G2, rfl, hI2, hG2, hb2⟩
 have k3 := t_box_below k2 hb2
 refine ⟨_, rfl, k3, ?_⟩
 simp only [Act.put, nS]
 refine tkH 4 ?_ rfl k3 (fun W' hW' => ?_) ?_; rotate_left; · (skip; clear hW'; go_simp; first | done | with_reducible rfl)
 simp only [Act.put, nS]
 refine tkH 5 ?_ rfl k3 (fun W' hW' => ?_) ?_; rotate_left; · (skip; clear hW'; go_simp; first | done | with_reducible rfl)
 simp only [Act.put, nS]
 refine doneH (by kernel_rfl) ?_
 have hI1' := hI1.below hb2
 have hW2 : CnW w0 n m N E w2 A0 cap0 s0 := ((hW1_h.out.below hbW1).below hb2)
 have hNw : N.block < w.heap.size ∧ E.block < w.heap.size ∧ ∀ b, b ∈ fpA A0 → b < w.heap.size := hlt3
 have hsz : w.heap.size < w1.heap.size ∧ w1.heap.size ≤ w2.heap.size ∧ W.heap.size = w.heap.size + 1 := ⟨by have := hbW1.size; have := bW_h.out.size; have := hWsz; omega, hb2.size, hWsz⟩
 have hG1r : w.heap.size < G1.block ∧ G1.block < w2.heap.size := ⟨by have : W.drew.heap.size = W.heap.size := rfl; omega, by have := hI1'.lt G1.block (by simp); exact this⟩
 have hG2r : w.heap.size < G2.block ∧ G2.block < w2.heap.size := ⟨by omega, hI2.lt G2.block (by simp)⟩
 have hA0 : Aside w w2 A0 := fun b hb => .inl (hNw.2.2 b hb)
 clear hb0 hC1_h k1 k2 hb1 hb2 hbW1 hC2 hI1 hcE_h k0_h bWd_h hb01 hW1_h; have hI1'_h := lH hI1'; have hI2_h := lH hI2; have k3_h := lH k3; have hW2_h := lH hW2; have hA0_h := lH hA0; clear hI1' hI2 k3 hW2 hA0
 go_wp2_with (fail)
 go_loopw [14, 3, 4] (fun i o cv wr => ∃ (k q pq : Nat) (A' : Option Addr) (cap' : Nat), k ≤ n ∧ i = .int .i64 k ∧ o = .slice A' q cap' ∧ cv = .int .i64 pq ∧ (walkTo g s0 k).1.length = q ∧ (walkTo g s0 k).2.length = pq ∧ CnW w0 n m N E wr A' cap' (walkTo g s0 k) ∧ Aside w w2 A' ∧ KeepM w w2 wr) (fun i _ _ _ => n - (intOf i).toNat)
 case atStart => exact ⟨0, q0, p, A0, cap0, Nat.zero_le _, rfl, rfl, rfl, hq_h.out, hp_h.out, hW2_h.out, hA0_h.out, Keeps.refl _ _⟩
 case round =>
  clear hW2_h hA0_h
  obtain ⟨k, q, pq, A', cap', hk, rfl, rfl, rfl, hq', hp', hC, hAs, hKe⟩ := hrel
  obtain ⟨wo, rfl⟩ : ∃ x, x = wr := ⟨_, rfl⟩
  have hle := (hWk_h.out k).le
  rw [hq', hp'] at hle
  by_cases hlt : k < q
  · obtain ⟨x, hx⟩ : ∃ x, (walkTo g s0 k).1[k]? = some x := ⟨_, List.getElem?_eq_getElem (by rw [hq']; exact hlt)⟩
    have hxr := (hWk_h.out k).rg1 x (List.mem_of_getElem? hx)
    obtain ⟨bb, rfl⟩ : ∃ bb : Nat, x = (bb : Int) := ⟨x.toNat, by omega⟩
    have hbn : bb < n := by omega
    have hgd : (walkTo g s0 k).1.getD k 0 = (bb : Int) := by rw [List.getD_eq_getElem?_getD, hx]; rfl
    have hrd : walkTo g s0 (k + 1) = stepE g (stepE g (walkTo g s0 k) (toE g (bb : Int))) (fromE g (bb : Int)) := by
     show roundW g (walkTo g s0 k) k = _
     unfold roundW
     rw [if_pos (by rw [hq']; exact hlt), hgd]
    obtain ⟨ad, rfl, ox⟩ := hC.ord.rd k _ hx
    have hT1 := hI1'_h.out.keeps hKe (fun b hb h => by simp at hb; omega)
    have hT2 := hI2_h.out.keeps hKe (fun b hb h => by simp at hb; omega)
    obtain ⟨fe, hfe⟩ : ∃ fe, fe = fromE g (bb : Int) := ⟨_, rfl⟩
    obtain ⟨te, hte⟩ : ∃ te, te = toE g (bb : Int) := ⟨_, rfl⟩
    obtain ⟨zd, ze, t1⟩ := hT1.rd bb fe (by rw [tabK_get hbn, hfe]; unfold fromE; rw [hm_h.out])
    obtain rfl := Option.some.inj ze
    obtain ⟨zd, ze, t2⟩ := hT2.rd bb te (by rw [tabK_get hbn, hte]; unfold toE; rw [hm_h.out])
    obtain rfl := Option.some.inj ze
    have hfr1 := hfr_h.out (bb : Int)
    have hto1 := hto_h.out (bb : Int)
    rw [← hfe] at hrd hfr1
    rw [← hte] at hrd hto1
    have hInv := hWk_h.out k
    obtain ⟨s, hs1⟩ : ∃ s, s = walkTo g s0 k := ⟨_, rfl⟩
    rw [← hs1] at hrd hInv hC hq' hp' hx
    have hkI : (k : Int) < (q : Int) := by omega
    have hbI : (bb : Int) < (n : Int) := by omega
    clear hT1 hT2 hxr ze hgd hx hfe hte hs1; have hrd_h := lH hrd; have hInv_h := lH hInv; have hC_h := lH hC; have hq'_h := lH hq'; have hp'_h := lH hp'; have hAs_h := lH hAs; have hKe_h := lH hKe; clear hrd hInv hC hq' hp' hAs hKe
    go_wp2_with (fail)
    refine beginB (by kernel_rfl) (fun W1 hW1 => ?_)
    have hbw : Below wo.heap.size wo W1 := by rw [hW1]; exact below_drew (Below.refl _ _)
    clear hW1
    have ox1 := (hbw.cell (World.block_lt_of_cell? _ _ ox)).trans ox
    have t11 := (hbw.cell (World.block_lt_of_cell? _ _ t1)).trans t1
    have t21 := (hbw.cell (World.block_lt_of_cell? _ _ t2)).trans t2
    have hC1 := hC_h.out.below hbw
    have hK1 := hKe_h.out.below hbw
    obtain ⟨W9, hW9, b9, i9⟩ : ∃ W9, W9 = W1.alloc (.cells #[.int .i64 te, .int .i64 fe] tInt) ∧ Below W1.heap.size W1 W9 ∧ IS W9 (some ⟨W1.heap.size, 0, none⟩) 2 [te, fe] := ⟨_, rfl, t_below_alloc _ _, by unfold IS; simpa [ints] using Sl.laid W1 tInt 1 2 #[.int .i64 te, .int .i64 fe] (by unfold maxLen; omega) rfl⟩
    have hbz := hbw.size
    clear ox t1 t2 hbw
    refine tkH 0 ?_ rfl (Below.refl _ _) (fun W' hW' => ?_) ?_; rotate_left; · (have z1 := (hW'.cell (World.block_lt_of_cell? _ _ ox1)).trans ox1; have z2 := (hW'.cell (World.block_lt_of_cell? _ _ t11)).trans t11; have z3 := (hW'.cell (World.block_lt_of_cell? _ _ t21)).trans t21; clear hW'; go_simp; first | done | with_reducible rfl)
    simp only [Act.put, nS]
    refine tkH 1 ?_ rfl (Below.refl _ _) (fun W' hW' => ?_) ?_; rotate_left; · (have z1 := (hW'.cell (World.block_lt_of_cell? _ _ ox1)).trans ox1; have z2 := (hW'.cell (World.block_lt_of_cell? _ _ t11)).trans t11; have z3 := (hW'.cell (World.block_lt_of_cell? _ _ t21)).trans t21; clear hW'; go_simp; first | done | with_reducible rfl)
    simp only [Act.put, nS]
    refine tkH 2 ?_ rfl (Below.refl _ _) (fun W' hW' => ?_) ?_; rotate_left; · (have z1 := (hW'.cell (World.block_lt_of_cell? _ _ ox1)).trans ox1; have z2 := (hW'.cell (World.block_lt_of_cell? _ _ t11)).trans t11; have z3 := (hW'.cell (World.block_lt_of_cell? _ _ t21)).trans t21; clear hW'; go_simp; first | done | with_reducible rfl)
    simp only [Act.put, nS]
    refine tkH 3 ?_ rfl (Below.refl _ _) (fun W' hW' => ?_) ?_; rotate_left; · (have z1 := (hW'.cell (World.block_lt_of_cell? _ _ ox1)).trans ox1; have z2 := (hW'.cell (World.block_lt_of_cell? _ _ t11)).trans t11; have z3 := (hW'.cell (World.block_lt_of_cell? _ _ t21)).trans t21; clear hW'; go_simp; first | done | with_reducible rfl)
    simp only [Act.put, nS]
    refine tkH 4 ?_ rfl (Below.refl _ _) (fun W' hW' => ?_) ?_; rotate_left; · (have z1 := (hW'.cell (World.block_lt_of_cell? _ _ ox1)).trans ox1; have z2 := (hW'.cell (World.block_lt_of_cell? _ _ t11)).trans t11; have z3 := (hW'.cell (World.block_lt_of_cell? _ _ t21)).trans t21; clear hW'; go_simp; first | done | with_reducible rfl)
    simp only [Act.put, nS]
    refine tkH 5 ?_ rfl (Below.refl _ _) (fun W' hW' => ?_) ?_; rotate_left; · (have z1 := (hW'.cell (World.block_lt_of_cell? _ _ ox1)).trans ox1; have z2 := (hW'.cell (World.block_lt_of_cell? _ _ t11)).trans t11; have z3 := (hW'.cell (World.block_lt_of_cell? _ _ t21)).trans t21; clear hW'; go_simp; first | done | with_reducible rfl)
    simp only [Act.put, nS]
    refine tkH 6 ?_ rfl (Below.refl _ _) (fun W' hW' => ?_) ?_; rotate_left; · (have z1 := (hW'.cell (World.block_lt_of_cell? _ _ ox1)).trans ox1; have z2 := (hW'.cell (World.block_lt_of_cell? _ _ t11)).trans t11; have z3 := (hW'.cell (World.block_lt_of_cell? _ _ t21)).trans t21; clear hW'; go_simp; first | done | with_reducible rfl)
    simp only [Act.put, nS]
    refine tkH 7 ?_ rfl (Below.refl _ _) (fun W' hW' => ?_) ?_; rotate_left; · (have z1 := (hW'.cell (World.block_lt_of_cell? _ _ ox1)).trans ox1; have z2 := (hW'.cell (World.block_lt_of_cell? _ _ t11)).trans t11; have z3 := (hW'.cell (World.block_lt_of_cell? _ _ t21)).trans t21; clear hW'; go_simp; first | done | with_reducible rfl)
    simp only [Act.put, nS]
    refine tkH 8 ?_ rfl (Below.refl _ _) (fun W' hW' => ?_) ?_; rotate_left; · (have z1 := (hW'.cell (World.block_lt_of_cell? _ _ ox1)).trans ox1; have z2 := (hW'.cell (World.block_lt_of_cell? _ _ t11)).trans t11; have z3 := (hW'.cell (World.block_lt_of_cell? _ _ t21)).trans t21; clear hW'; go_simp; first | done | with_reducible rfl)
    simp only [Act.put, nS]
    refine tkH 9 ?_ rfl (Below.refl _ _) (fun W' hW' => ?_) ?_; rotate_left; · (have z1 := (hW'.cell (World.block_lt_of_cell? _ _ ox1)).trans ox1; have z2 := (hW'.cell (World.block_lt_of_cell? _ _ t11)).trans t11; have z3 := (hW'.cell (World.block_lt_of_cell? _ _ t21)).trans t21; clear hW'; go_simp; first | done | with_reducible rfl)
    simp only [Act.put, nS]
    refine tkH 10 ?_ rfl (Below.refl _ _) (fun W' hW' => ?_) ?_; rotate_left; · (have z1 := (hW'.cell (World.block_lt_of_cell? _ _ ox1)).trans ox1; have z2 := (hW'.cell (World.block_lt_of_cell? _ _ t11)).trans t11; have z3 := (hW'.cell (World.block_lt_of_cell? _ _ t21)).trans t21; clear hW'; go_simp; first | done | with_reducible rfl)
    simp only [Act.put, nS]
    refine tkH 11 ?_ rfl (Below.refl _ _) (fun W' hW' => ?_) ?_; rotate_left; · (have z1 := (hW'.cell (World.block_lt_of_cell? _ _ ox1)).trans ox1; have z2 := (hW'.cell (World.block_lt_of_cell? _ _ t11)).trans t11; have z3 := (hW'.cell (World.block_lt_of_cell? _ _ t21)).trans t21; clear hW'; go_simp; first | done | with_reducible rfl)
    simp only [Act.put, nS]
    refine tkH 12 ?_ rfl (Below.refl _ _) (fun W' hW' => ?_) ?_; rotate_left; · (have z1 := (hW'.cell (World.block_lt_of_cell? _ _ ox1)).trans ox1; have z2 := (hW'.cell (World.block_lt_of_cell? _ _ t11)).trans t11; have z3 := (hW'.cell (World.block_lt_of_cell? _ _ t21)).trans t21; clear hW'; go_simp; first | done | with_reducible rfl)
    simp only [Act.put, nS]
    refine tkH 13 ?_ rfl (Below.refl _ _) (fun W' hW' => ?_) ?_; rotate_left; · (have z1 := (hW'.cell (World.block_lt_of_cell? _ _ ox1)).trans ox1; have z2 := (hW'.cell (World.block_lt_of_cell? _ _ t11)).trans t11; have z3 := (hW'.cell (World.block_lt_of_cell? _ _ t21)).trans t21; clear hW'; go_simp; first | done | with_reducible rfl)
    simp only [Act.put, nS]
    refine tkH 16 ?_ rfl (Below.refl _ _) (fun W' hW' => ?_) ?_; rotate_left; · (have z1 := (hW'.cell (World.block_lt_of_cell? _ _ ox1)).trans ox1; have z2 := (hW'.cell (World.block_lt_of_cell? _ _ t11)).trans t11; have z3 := (hW'.cell (World.block_lt_of_cell? _ _ t21)).trans t21; clear hW'; go_simp; first | done | with_reducible rfl)
    simp only [Act.put, nS]
    refine oneH 14 rfl (by kernel_rfl) (by rfl) (fun K hK => ?_)
    go_simp
    refine hK _ _ (t_below_alloc _ _) ?_
    clear hK K
    refine tkH 15 ?_ rfl (t_below_alloc _ _) (fun W' hW' => ?_) ?_; rotate_left; · (skip; clear hW'; go_simp; first | done | with_reducible rfl)
    simp only [Act.put, nS]
    refine doneH (by kernel_rfl) ?_
    rw [← hW9]
    obtain ⟨P, hP⟩ : ∃ P : Addr, P = ⟨W1.heap.size, 0, none⟩ := ⟨_, rfl⟩
    rw [← hP] at i9 ⊢
    have hPb : P.block = W1.heap.size := by rw [hP]
    have hW1s : wo.heap.size ≤ W1.heap.size ∧ w2.heap.size ≤ W1.heap.size := ⟨hbz, hK1.size⟩
    have hC9 := hC1.below b9
    have hK9 := hK1.below b9
    have hAP : ∀ b, b ∈ fpA (some ad) → b ≠ P.block := fun b hb => by
     have := hC1.ord.lt b hb
     omega
    have hsJ : ∀ j, WInv g n (sJ g s te fe j) := fun j => by
     match j with
     | 0 => exact hInv_h.out
     | 1 => exact hInv_h.out.step hMo_h.out (by rw [hm_h.out]; exact hto1.2)
     | j + 2 => exact (hInv_h.out.step hMo_h.out (by rw [hm_h.out]; exact hto1.2)).step hMo_h.out (by rw [hm_h.out]; exact hfr1.2)
    have her : ∀ e, e ∈ [te, fe] → -1 ≤ e ∧ e < (m : Int) := fun e he => by
     rcases List.mem_cons.1 he with rfl | he
     · exact hto1
     · obtain rfl := List.mem_singleton.1 he
       exact hfr1
    clear hC1 hK1 b9 hW9 hP ox1 t11 t21; have i9_h := lH i9; have hC9_h := lH hC9; have hK9_h := lH hK9; have hAP_h := lH hAP; have hsJ_h := lH hsJ; have her_h := lH her; have hto1_h := lH hto1; have hfr1_h := lH hfr1; clear i9 hC9 hK9 hAP hsJ her hto1 hfr1
    go_wp2_with (fail)
    go_loopw [43, 3, 4] (fun i o cv wr => ∃ (j q pq : Nat) (A' : Option Addr) (cap' : Nat), j ≤ 2 ∧ i = .int .i64 j ∧ o = .slice A' q cap' ∧ cv = .int .i64 pq ∧ (sJ g s te fe j).1.length = q ∧ (sJ g s te fe j).2.length = pq ∧ CnW w0 n m N E wr A' cap' (sJ g s te fe j) ∧ Aside w w2 A' ∧ KeepM w w2 wr ∧ IS wr (some P) 2 [te, fe] ∧ (∀ b, b ∈ fpA A' → b ≠ P.block)) (fun i _ _ _ => 2 - (intOf i).toNat)
    case atStart => exact ⟨0, q, pq, some ad, cap', Nat.zero_le _, rfl, rfl, rfl, hq'_h.out, hp'_h.out, hC9_h.out, hAs_h.out, hK9_h.out, i9_h.out, hAP_h.out⟩
    case round =>
     clear hC9_h hK9_h i9_h hAP_h hq'_h hp'_h hC_h hAs_h hKe_h
     obtain ⟨j, q, pq, A', cap', hj, rfl, rfl, rfl, hq', hp', hC, hAs, hKe, hIP, hAP⟩ := hrel
     obtain ⟨wi, rfl⟩ : ∃ x, x = wr := ⟨_, rfl⟩
     by_cases hltj : j < 2
     · obtain ⟨e, he⟩ : ∃ e, [te, fe][j]? = some e := ⟨_, List.getElem?_eq_getElem (by simpa using hltj)⟩
       have her' := her_h.out e (List.mem_of_getElem? he)
       have hst := sJ_step (g := g) (s := s) he
       obtain ⟨zd, ze, pe⟩ := hIP.rd j e he
       obtain rfl := Option.some.inj ze
       have hjI : (j : Int) < 2 := by omega
       by_cases h0 : e < 0
       · have hst' : sJ g s te fe (j + 1) = sJ g s te fe j := by rw [hst]; unfold stepE; rw [if_pos (.inl h0)]
         rw [← hst'] at hC hq' hp'
         clear hst hst' he; have hC_h := lH hC; have hq'_h := lH hq'; have hp'_h := lH hp'; have hAs_h := lH hAs; have hKe_h := lH hKe; have hIP_h := lH hIP; have hAP_h := lH hAP; clear hC hq' hp' hAs hKe hIP hAP
         go_wp2_with (fail)
         go_roundw
         case rel => exact ⟨j + 1, q, pq, A', cap', by omega, by go_num, rfl, rfl, hq'_h.out, hp'_h.out, hC_h.out, hAs_h.out, hKe_h.out, hIP_h.out, hAP_h.out⟩
         case measure => simp [intOf]; omega
       · obtain ⟨ee, rfl⟩ : ∃ ee : Nat, e = (ee : Int) := ⟨e.toNat, by omega⟩
         have hem : ee < m := by omega
         have heI : (ee : Int) < (m : Int) := by omega
         by_cases hmem : (ee : Int) ∈ (sJ g s te fe j).2
         · have hst' : sJ g s te fe (j + 1) = sJ g s te fe j := by rw [hst]; unfold stepE; rw [if_pos (.inr hmem)]
           obtain ⟨d, hd0, hd⟩ := numsL_of_mem hem hmem
           obtain ⟨zd, ze, pd⟩ := hC.edg.rd ee d hd
           obtain rfl := Option.some.inj ze
           rw [← hst'] at hC hq' hp'
           clear hst hst' he hmem hd ze; have hC_h := lH hC; have hq'_h := lH hq'; have hp'_h := lH hp'; have hAs_h := lH hAs; have hKe_h := lH hKe; have hIP_h := lH hIP; have hAP_h := lH hAP; clear hC hq' hp' hAs hKe hIP hAP
           go_wp2_with (fail)
           go_roundw
           case rel => exact ⟨j + 1, q, pq, A', cap', by omega, by go_num, rfl, rfl, hq'_h.out, hp'_h.out, hC_h.out, hAs_h.out, hKe_h.out, hIP_h.out, hAP_h.out⟩
           case measure => simp [intOf]; omega
         · obtain ⟨zd, zv, ze, zy, _, pd, zf⟩ := hC.edg.at_ (j := ee) (by rw [numsL_length]; exact hem)
           obtain rfl := Option.some.inj ze
           obtain rfl : zv = -1 := by
            rw [numsL_of_not (n := m) hem hmem] at zy
            exact (Option.some.inj zy).symm
           have zfe := zf ee
           have hC10 := hC.mark hem hmem
           rw [hp'] at hC10
           obtain ⟨w10, hw10⟩ : ∃ w10, w10 = wi.setCell (E.add ee) (.int .i64 (pq : Int)) := ⟨_, rfl⟩
           rw [← hw10] at hC10
           have hks : Keeps (fun b => b = E.block) wi w10 := by rw [hw10]; exact Keeps.setCell (Keeps.refl _ wi) (p := E.add ee) (by rw [block_of_add]) _
           have hK10 : KeepM w w2 w10 := hKe.keeps hks fun b hb => .inl (by rw [hb]; exact hlt3.2.1)
           have hIP10 := hIP.keeps hks fun b hb h => by simp at hb; omega
           obtain ⟨ad0, κ, vl, B1, b1, l1, C1, b2, l2, rfl, hn, ⟨d0, d1, d2, d3⟩, hr1, hr2⟩ := hE_h.out.at_ (j := ee) (by rw [hml_h.out]; exact hem)
           have hek : es[ee]? = some (κ, vl, l1, l2) := by rw [a1_h.out, List.getElem?_map, hn]; rfl
           have hed : edgeAt g (ee : Int) = (κ, vl, l1, l2) := by unfold edgeAt; rw [Int.toNat_natCast, ← hes_h.out, List.getD_eq_getElem?_getD, hek]; rfl
           obtain ⟨⟨g1, g2⟩, _⟩ := egB_len (hkind_h.out _ (by rw [← hes_h.out]; exact List.mem_of_getElem? hek))
           simp only at g1 g2
           have hwl := hwi_h.out (ee : Int) (by omega) heI
           rw [hed] at hwl
           have hwl1 : ∀ x, x ∈ l1 → 0 ≤ x ∧ x < (n : Int) := fun x hx => hwl x (List.mem_append_left _ hx)
           have hwl2 : ∀ x, x ∈ l2 → 0 ≤ x ∧ x < (n : Int) := fun x hx => hwl x (List.mem_append_right _ hx)
           have hsj := hsJ_h.out j
           have hsj1 := hsJ_h.out (j + 1)
           have hse : sJ g s te fe (j + 1) = (giveL (giveL (sJ g s te fe j).1 l1) l2, (sJ g s te fe j).2 ++ [(ee : Int)]) := by
            rw [hst]
            unfold stepE
            rw [if_neg (fun h => h.elim (fun h => by omega) hmem), hed]
            show (giveL _ (l1 ++ l2), _) = _
            rw [giveL_append]
           have hold : ∀ {B : Option Addr} {l : List Int}, RdI w0 B l → 0 < l.length → ∀ b, b ∈ fpA B → b < w0.heap.size := fun h h0 => h.block_lt (List.getElem?_eq_getElem h0)
           obtain ⟨o, ho⟩ : ∃ o, o = (sJ g s te fe j).1 := ⟨_, rfl⟩
           obtain ⟨o2, ho2⟩ : ∃ o2, o2 = (sJ g s te fe j).2 := ⟨_, rfl⟩
           have hpq60 : pq ≤ 60 := by have := hsj.le.2; rw [hp', hm_h.out] at this; omega
           have hon := hsj.nd1
           have hor := hsj.rg1
           have hO2 : o2.length = pq := by rw [ho2]; exact hp'
           rw [← ho, ← ho2] at hse hC10
           rw [← ho] at hon hor hq'
           have h1n := giveL_nodup (l := l1) hon
           have h1r : ∀ x, x ∈ giveL o l1 → 0 ≤ x ∧ x < (n : Int) := fun x hx => by
            rcases mem_giveL.1 hx with hx | hx
            · exact hor x hx
            · exact hwl1 x hx
           obtain ⟨p1, hp1⟩ : ∃ p1, l1.length = p1 := ⟨_, rfl⟩
           obtain ⟨p2, hp2⟩ : ∃ p2, l2.length = p2 := ⟨_, rfl⟩
           rw [hp1] at g1 d2
           rw [hp2] at g2 d3
           have c1 := cnGive_any N n A' B1 cap' b1 p1 q o l1 w10 hC10.num hC10.ord (fun b hb => (hC10.an b hb).1) (hr1.below hC10.bel) (fun h0 b hb => by
            have h1 := hold hr1 (by omega) b hb
            have h2 := hC10.nf
            exact ⟨by omega, fun h => by have := hC10.af b h; omega⟩) hn100 hon hor hwl1 hp1 hq' (by omega)
           obtain ⟨q1, hq1⟩ : ∃ q1, (giveL o l1).length = q1 := ⟨_, rfl⟩
           rw [hq1] at c1
           have k10 := t_box_keeps k3_h.out hK10 (by omega)
           have y2 := (hC10.bel.cell (World.block_lt_of_cell? _ _ d2)).trans d2
           have y3 := (hC10.bel.cell (World.block_lt_of_cell? _ _ d3)).trans d3
           obtain ⟨⟨u0, u1, u2, u3⟩, f0, f1, f2, f3⟩ := t_box4 k10
           have hlt3_h := lH hlt3
           have hpq : ((pq : Int) + 1) = ((pq + 1 : Nat) : Int) := by omega
           have hpq_h := lH hpq
           have hee : ¬ (ee : Int) < 0 := by omega
           clear hst he hmem zf ze zy hn hek hed hwl hsj hks hC hKe hIP hold ho ho2 k10 hq' hp' hpq; have hC10_h := lH hC10; have hK10_h := lH hK10; have hIP10_h := lH hIP10; have hAs_h := lH hAs; have hAP_h := lH hAP; have hse_h := lH hse; have c1_h := lH c1; have hsj1_h := lH hsj1; have h1n_h := lH h1n; have h1r_h := lH h1r; have hon_h := lH hon; have hor_h := lH hor; have hwl1_h := lH hwl1; have hwl2_h := lH hwl2; have hr1_h := lH hr1; have hr2_h := lH hr2; have hp1_h := lH hp1; have hp2_h := lH hp2; have hq1_h := lH hq1; have hO2_h := lH hO2; have d2_h := lH d2; have d3_h := lH d3; clear hC10 hK10 hIP10 hAs hAP hse c1 hsj1 h1n h1r hon hor hwl1 hwl2 hr1 hr2 hp1 hp2 hq1 hO2 d2 d3
           go_upto_region 11 with (fail)
           rw [← hw10]
           clear hw10 pd pe zfe
           go_wp2_with (fail)
           refine (c1_h.out).mono ?_
           rintro e w11 ⟨A1, cap1, rfl, hR1⟩
           have hC11 := hC10_h.out.give hR1
           have hPl : P.block < w10.heap.size := hIP10_h.out.lt P.block (by simp)
           have hAs10 : ∀ b, b = N.block ∨ b ∈ fpA A' → b < w.heap.size ∨ w2.heap.size ≤ b := fun b hb => by
            rcases hb with hb | hb
            · rw [hb]; exact .inl hlt3.1
            · exact hAs_h.out b hb
           have hK11 : KeepM w w2 w11 := hK10_h.out.keeps hR1.2.2.2 hAs10
           have hW10s := hK10_h.out.size
           have hAs11 : Aside w w2 A1 := fun b hb => by
            rcases hR1.2.2.1 b hb with h | h
            · exact hAs_h.out b h
            · right; omega
           have hNP : N.block ≠ P.block := by have := hC10_h.out.num.lt N.block (by simp); have := hlt3.1; have := hW1s; omega
           have hIP11 := hIP10_h.out.keeps hR1.2.2.2 fun b hb h => by
            simp at hb
            subst hb
            rcases h with h | h
            · exact hNP h.symm
            · exact hAP_h.out _ h rfl
           have hAP11 : ∀ b, b ∈ fpA A1 → b ≠ P.block := fun b hb => by
            rcases hR1.2.2.1 b hb with h | h
            · exact hAP_h.out b h
            · omega
           have hold : ∀ {B : Option Addr} {l : List Int}, RdI w0 B l → 0 < l.length → ∀ b, b ∈ fpA B → b < w0.heap.size := fun h h0 => h.block_lt (List.getElem?_eq_getElem h0)
           have c2 := cnGive_any N n A1 C1 cap1 b2 p2 q1 (giveL o l1) l2 w11 hC11.num hC11.ord (fun b hb => (hC11.an b hb).1) (hr2_h.out.below hC11.bel) (fun h0 b hb => by
            have h1 := hold hr2_h.out (by rw [hp2_h.out]; exact h0) b hb
            have h2 := hC11.nf
            exact ⟨by omega, fun h => by have := hC11.af b h; omega⟩) hn100 h1n_h.out h1r_h.out hwl2_h.out hp2_h.out hq1_h.out (by omega)
           obtain ⟨q2, hq2⟩ : ∃ q2, (giveL (giveL o l1) l2).length = q2 := ⟨_, rfl⟩
           rw [hq2] at c2
           have k11 := t_box_keeps k3_h.out hK11 (by omega)
           clear u0 u1 u2 u3 f0 f1 f2 f3 y2 y3
           have y3 := (hC11.bel.cell (World.block_lt_of_cell? _ _ d3_h.out)).trans d3_h.out
           obtain ⟨⟨u0, u1, u2, u3⟩, f0, f1, f2, f3⟩ := t_box4 k11
           clear hR1 hold k11 hAs10 c1_h hC10_h hK10_h hIP10_h hAs_h hAP_h; have hC11_h := lH hC11; have hK11_h := lH hK11; have hIP11_h := lH hIP11; have hAs11_h := lH hAs11; have hAP11_h := lH hAP11; have c2_h := lH c2; have hq2_h := lH hq2; clear hC11 hK11 hIP11 hAs11 hAP11 c2 hq2
           go_wp2_with (fail)
           refine (c2_h.out).mono ?_
           rintro e w12 ⟨A2, cap2, rfl, hR2⟩
           have hC12 := hC11_h.out.give hR2
           have hPl2 : P.block < w11.heap.size := hIP11_h.out.lt P.block (by simp)
           have hK12 : KeepM w w2 w12 := hK11_h.out.keeps hR2.2.2.2 fun b hb => by
            rcases hb with hb | hb
            · rw [hb]; exact .inl hlt3.1
            · exact hAs11_h.out b hb
           have hW11s := hK11_h.out.size
           have hAs12 : Aside w w2 A2 := fun b hb => by
            rcases hR2.2.2.1 b hb with h | h
            · exact hAs11_h.out b h
            · right; omega
           have hIP12 := hIP11_h.out.keeps hR2.2.2.2 fun b hb h => by
            simp at hb
            subst hb
            rcases h with h | h
            · exact hNP h.symm
            · exact hAP11_h.out _ h rfl
           have hAP12 : ∀ b, b ∈ fpA A2 → b ≠ P.block := fun b hb => by
            rcases hR2.2.2.1 b hb with h | h
            · exact hAP11_h.out b h
            · omega
           rw [← hse_h.out] at hC12
           have hq12 : (sJ g s te fe (j + 1)).1.length = q2 := by rw [hse_h.out]; exact hq2_h.out
           have hp12 : (sJ g s te fe (j + 1)).2.length = pq + 1 := by
            rw [hse_h.out]
            show (o2 ++ [(ee : Int)]).length = _
            rw [List.length_append, hO2_h.out]; rfl
           clear u0 u1 u2 u3 f0 f1 f2 f3 y3 hR2; have hC12_h := lH hC12; have hK12_h := lH hK12; have hIP12_h := lH hIP12; have hAs12_h := lH hAs12; have hAP12_h := lH hAP12; have hq12_h := lH hq12; have hp12_h := lH hp12; clear hC12 hK12 hIP12 hAs12 hAP12 hq12 hp12
           go_wp2_with (fail)
           go_roundw
           case rel => exact ⟨j + 1, q2, pq + 1, A2, cap2, by omega, by go_num, rfl, by go_num, hq12_h.out, hp12_h.out, hC12_h.out, hAs12_h.out, hK12_h.out, hIP12_h.out, hAP12_h.out⟩
           case measure => simp [intOf]; omega
     · obtain rfl : 2 = j := by omega
       have hse : sJ g s te fe 2 = walkTo g s0 (k + 1) := by rw [hrd_h.out]; rfl
       rw [hse] at hC hq' hp'
       clear hIP hAP; have hC_h := lH hC; have hq'_h := lH hq'; have hp'_h := lH hp'; have hAs_h := lH hAs; have hKe_h := lH hKe; clear hC hq' hp' hAs hKe
       go_wp2_with (fail)
       go_roundw
       case rel => exact ⟨k + 1, q, pq, A', cap', by omega, by go_num, rfl, rfl, hq'_h.out, hp'_h.out, hC_h.out, hAs_h.out, hKe_h.out⟩
       case measure => simp [intOf]; omega
  · have hf := hfin_h.out k hk (by rw [hq']; omega)
    have hkI : ¬ (k : Int) < (q : Int) := by omega
    rw [← hf] at hC hq' hp'
    clear hf hKe; have hC_h := lH hC; have hq'_h := lH hq'; have hp'_h := lH hp'; clear hC hq' hp'
    go_wp2_with (fail)
    go_ret2
    exact ⟨A', cap', by rw [← hq'_h.out, ← hp'_h.out]; rfl, hC_h.out⟩
theorem least_step {l : List Int} {k : Nat} {x : Int} (h : l[k]? = some x) : (l.take (k + 1)).foldl min (100 : Int) = min ((l.take k).foldl min 100) x := by
 rw [List.take_add_one, h, List.foldl_append]; rfl
theorem lexI_drop : ∀ {k : Nat} {l m : List Int}, l.take k = m.take k → k ≤ l.length → k ≤ m.length → lexI l m = lexI (l.drop k) (m.drop k)
 | 0, _, _, _, _, _ => rfl
 | k + 1, [], _, _, h, _ => by simp at h
 | k + 1, _ :: _, [], _, _, h => by simp at h
 | k + 1, a :: r, b :: s, h, h1, h2 => by
   have h' : a :: r.take k = b :: s.take k := h
   obtain ⟨e, e2⟩ := List.cons.inj h'
   show lexI (a :: r) (b :: s) = lexI (r.drop k) (s.drop k)
   rw [lexI, if_pos e]
   exact lexI_drop e2 (by simpa using h1) (by simpa using h2)
theorem lexI_at {k : Nat} {l m : List Int} {x y : Int} (h : l.take k = m.take k) (hx : l[k]? = some x) (hy : m[k]? = some y) (hne : ¬ x = y) : lexI l m = decide (x < y) := by
 have h1 := (List.getElem?_eq_some_iff.1 hx)
 have h2 := (List.getElem?_eq_some_iff.1 hy)
 obtain ⟨h1, rfl⟩ := h1
 obtain ⟨h2, rfl⟩ := h2
 rw [lexI_drop h (by omega) (by omega), List.drop_eq_getElem_cons h1, List.drop_eq_getElem_cons h2]
 unfold lexI
 rw [if_neg hne]
theorem lexI_end {k : Nat} {l m : List Int} (h : l.take k = m.take k) (h1 : k ≤ l.length) (h2 : k ≤ m.length) (hk : k = l.length ∨ k = m.length) : lexI l m = decide (l.length < m.length) := by
 rw [lexI_drop h h1 h2]
 by_cases e : k = m.length
 · rw [List.drop_of_length_le (l := m) (by omega), decide_eq_false (by omega)]
   cases l.drop k <;> rfl
 · rcases hk with hk | hk
   · rw [List.drop_of_length_le (l := l) (by omega), List.drop_eq_getElem_cons (l := m) (by omega), decide_eq_true (by omega)]
     rfl
   · exact absurd hk e
set_option maxRecDepth 100000 in
set_option maxHeartbeats 4000000 in
theorem cnLeast_any (A : Option Addr) (c p : Nat) (l : List Int) (w : World) (h : RdI w A l) (hp : l.length = p) (hpb : p ≤ 1048576) :
  Calls Tryz.prog 115 #[.slice A p c] w fun e w' => e = .returned (.int .i64 (leastW l)) ∧ w' = w := by
 have h_h := lH h; have hp_h := lH hp; clear h hp
 go_enter Tryz.func115, Tryz.ntmps115
 go_wp2_with (fail)
 go_loopw [8, 3] (fun i v wr => ∃ k : Nat, k ≤ p ∧ i = .int .i64 k ∧ v = .int .i64 ((l.take k).foldl min 100) ∧ wr = w) (fun i _ _ => p - (intOf i).toNat)
 case atStart => exact ⟨0, Nat.zero_le _, rfl, rfl, rfl⟩
 case round =>
  obtain ⟨k, hk, rfl, rfl, rfl⟩ := hrel
  by_cases hlt : k < p
  · obtain ⟨ad, x, rfl, hx, hc⟩ := h_h.out.at_ (j := k) (by rw [hp_h.out]; exact hlt)
    have hst := least_step hx
    have hkI : (k : Int) < (p : Int) := by omega
    obtain ⟨u, hu⟩ : ∃ u, u = (l.take k).foldl min (100 : Int) := ⟨_, rfl⟩
    rw [← hu] at hst ⊢
    have hL := fun (W : World) => l1Least_any u x W
    clear hx hu; have hst_h := lH hst; have hL_h := lH hL; clear hst hL
    go_wp2_with (fail)
    refine ((hL_h.out _)).mono ?_
    rintro e w' ⟨rfl, rfl⟩
    go_wp2_with (fail)
    go_roundw
    case rel => exact ⟨k + 1, by omega, by go_num, by rw [hst_h.out], by simp⟩
    case measure => simp [intOf]; omega
  · obtain rfl : p = k := by omega
    rw [List.take_of_length_le (by rw [hp_h.out]; exact Nat.le_refl _)]
    go_wp2_with (fail)
    go_ret
    exact ⟨rfl, rfl⟩
set_option maxRecDepth 100000 in
set_option maxHeartbeats 4000000 in
theorem cnBefore_any (A B : Option Addr) (a b p q : Nat) (l m : List Int) (w : World) (hA : RdI w A l) (hB : RdI w B m) (hp : l.length = p) (hq : m.length = q) (hpb : p ≤ 1048576) :
  Calls Tryz.prog 95 #[.slice A p a, .slice B q b] w fun e w' => e = .returned (.bool (lexI l m)) ∧ Below w.heap.size w w' := by
 have hA_h := lH hA; have hB_h := lH hB; have hp_h := lH hp; have hq_h := lH hq; clear hA hB hp hq
 go_enter Tryz.func95, Tryz.ntmps95
 go_wp2_with (fail)
 go_loopw [5] (fun i wr => ∃ k : Nat, (k ≤ p ∧ k ≤ q) ∧ i = .int .i64 k ∧ l.take k = m.take k ∧ Below w.heap.size w wr) (fun i _ => p - (intOf i).toNat)
 case atStart => exact ⟨0, ⟨Nat.zero_le _, Nat.zero_le _⟩, rfl, rfl, Below.refl _ _⟩
 case round =>
  obtain ⟨k, ⟨hk1, hk2⟩, rfl, hpre, hBe⟩ := hrel
  obtain ⟨wo, rfl⟩ : ∃ x, x = wr := ⟨_, rfl⟩
  by_cases hl1 : k < p
  · by_cases hl2 : k < q
    · obtain ⟨x, hx⟩ : ∃ x, l[k]? = some x := ⟨_, List.getElem?_eq_getElem (by rw [hp_h.out]; exact hl1)⟩
      obtain ⟨y, hy⟩ : ∃ y, m[k]? = some y := ⟨_, List.getElem?_eq_getElem (by rw [hq_h.out]; exact hl2)⟩
      obtain ⟨ad, rfl, xc⟩ := hA_h.out.below hBe k _ hx
      obtain ⟨bd, rfl, yc⟩ := hB_h.out.below hBe k _ hy
      have hkI : (k : Int) < (p : Int) := by omega
      have hkJ : (k : Int) < (q : Int) := by omega
      by_cases hxy : x = y
      · subst hxy
        have hpre' : l.take (k + 1) = m.take (k + 1) := by rw [List.take_add_one, List.take_add_one, hx, hy, hpre]
        clear hx hy hpre; have hBe_h := lH hBe; have hpre'_h := lH hpre'; clear hBe hpre'
        go_wp2_with (fail)
        refine beginB (by kernel_rfl) (fun W1 hW1 => ?_)
        have hbw : Below wo.heap.size wo W1 := by rw [hW1]; exact below_drew (Below.refl _ _)
        clear hW1
        have x1 := (hbw.cell (World.block_lt_of_cell? _ _ xc)).trans xc
        have y1 := (hbw.cell (World.block_lt_of_cell? _ _ yc)).trans yc
        have hB2 := below_trans hBe_h.out hbw hBe_h.out.size
        clear xc yc hbw; have hB2_h := lH hB2; clear hB2
        refine tkH 0 ?_ rfl (Below.refl _ _) (fun W' hW' => ?_) ?_; rotate_left; · (have z1 := (hW'.cell (World.block_lt_of_cell? _ _ x1)).trans x1; have z2 := (hW'.cell (World.block_lt_of_cell? _ _ y1)).trans y1; clear hW'; go_simp; first | done | with_reducible rfl)
        simp only [Act.put, nS]
        refine tkH 1 ?_ rfl (Below.refl _ _) (fun W' hW' => ?_) ?_; rotate_left; · (have z1 := (hW'.cell (World.block_lt_of_cell? _ _ x1)).trans x1; have z2 := (hW'.cell (World.block_lt_of_cell? _ _ y1)).trans y1; clear hW'; go_simp; first | done | with_reducible rfl)
        simp only [Act.put, nS]
        refine tkH 2 ?_ rfl (Below.refl _ _) (fun W' hW' => ?_) ?_; rotate_left; · (have z1 := (hW'.cell (World.block_lt_of_cell? _ _ x1)).trans x1; have z2 := (hW'.cell (World.block_lt_of_cell? _ _ y1)).trans y1; clear hW'; go_simp; first | done | with_reducible rfl)
        simp only [Act.put, nS]
        refine tkH 3 ?_ rfl (Below.refl _ _) (fun W' hW' => ?_) ?_; rotate_left; · (have z1 := (hW'.cell (World.block_lt_of_cell? _ _ x1)).trans x1; have z2 := (hW'.cell (World.block_lt_of_cell? _ _ y1)).trans y1; clear hW'; go_simp; first | done | with_reducible rfl)
        simp only [Act.put, nS]
        refine tkH 4 ?_ rfl (Below.refl _ _) (fun W' hW' => ?_) ?_; rotate_left; · (have z1 := (hW'.cell (World.block_lt_of_cell? _ _ x1)).trans x1; have z2 := (hW'.cell (World.block_lt_of_cell? _ _ y1)).trans y1; clear hW'; go_simp; first | done | with_reducible rfl)
        simp only [Act.put, nS]
        refine tkH 5 ?_ rfl (Below.refl _ _) (fun W' hW' => ?_) ?_; rotate_left; · (have z1 := (hW'.cell (World.block_lt_of_cell? _ _ x1)).trans x1; have z2 := (hW'.cell (World.block_lt_of_cell? _ _ y1)).trans y1; clear hW'; go_simp; first | done | with_reducible rfl)
        simp only [Act.put, nS]
        refine tkH 6 ?_ rfl (Below.refl _ _) (fun W' hW' => ?_) ?_; rotate_left; · (have z1 := (hW'.cell (World.block_lt_of_cell? _ _ x1)).trans x1; have z2 := (hW'.cell (World.block_lt_of_cell? _ _ y1)).trans y1; clear hW'; go_simp; first | done | with_reducible rfl)
        simp only [Act.put, nS]
        refine tkH 7 ?_ rfl (Below.refl _ _) (fun W' hW' => ?_) ?_; rotate_left; · (have z1 := (hW'.cell (World.block_lt_of_cell? _ _ x1)).trans x1; have z2 := (hW'.cell (World.block_lt_of_cell? _ _ y1)).trans y1; clear hW'; go_simp; first | done | with_reducible rfl)
        simp only [Act.put, nS]
        refine tkH 8 ?_ rfl (Below.refl _ _) (fun W' hW' => ?_) ?_; rotate_left; · (have z1 := (hW'.cell (World.block_lt_of_cell? _ _ x1)).trans x1; have z2 := (hW'.cell (World.block_lt_of_cell? _ _ y1)).trans y1; clear hW'; go_simp; first | done | with_reducible rfl)
        simp only [Act.put, nS]
        refine doneH (by kernel_rfl) ?_
        go_wp2_with (fail)
        go_roundw
        case rel => exact ⟨k + 1, ⟨by omega, by omega⟩, by go_num, hpre'_h.out, hB2_h.out⟩
        case measure => simp [intOf]; omega
      · have hlx := lexI_at hpre hx hy hxy
        clear hx hy hpre; have hBe_h := lH hBe; have hlx_h := lH hlx; clear hBe hlx
        go_wp2_with (fail)
        refine beginB (by kernel_rfl) (fun W1 hW1 => ?_)
        have hbw : Below wo.heap.size wo W1 := by rw [hW1]; exact below_drew (Below.refl _ _)
        clear hW1
        have x1 := (hbw.cell (World.block_lt_of_cell? _ _ xc)).trans xc
        have y1 := (hbw.cell (World.block_lt_of_cell? _ _ yc)).trans yc
        have hB2 := below_trans hBe_h.out hbw hBe_h.out.size
        clear xc yc hbw; have hB2_h := lH hB2; clear hB2
        refine tkH 0 ?_ rfl (Below.refl _ _) (fun W' hW' => ?_) ?_; rotate_left; · (have z1 := (hW'.cell (World.block_lt_of_cell? _ _ x1)).trans x1; have z2 := (hW'.cell (World.block_lt_of_cell? _ _ y1)).trans y1; clear hW'; go_simp; first | done | with_reducible rfl)
        simp only [Act.put, nS]
        refine tkH 1 ?_ rfl (Below.refl _ _) (fun W' hW' => ?_) ?_; rotate_left; · (have z1 := (hW'.cell (World.block_lt_of_cell? _ _ x1)).trans x1; have z2 := (hW'.cell (World.block_lt_of_cell? _ _ y1)).trans y1; clear hW'; go_simp; first | done | with_reducible rfl)
        simp only [Act.put, nS]
        refine tkH 2 ?_ rfl (Below.refl _ _) (fun W' hW' => ?_) ?_; rotate_left; · (have z1 := (hW'.cell (World.block_lt_of_cell? _ _ x1)).trans x1; have z2 := (hW'.cell (World.block_lt_of_cell? _ _ y1)).trans y1; clear hW'; go_simp; first | done | with_reducible rfl)
        simp only [Act.put, nS]
        refine tkH 3 ?_ rfl (Below.refl _ _) (fun W' hW' => ?_) ?_; rotate_left; · (have z1 := (hW'.cell (World.block_lt_of_cell? _ _ x1)).trans x1; have z2 := (hW'.cell (World.block_lt_of_cell? _ _ y1)).trans y1; clear hW'; go_simp; first | done | with_reducible rfl)
        simp only [Act.put, nS]
        refine tkH 4 ?_ rfl (Below.refl _ _) (fun W' hW' => ?_) ?_; rotate_left; · (have z1 := (hW'.cell (World.block_lt_of_cell? _ _ x1)).trans x1; have z2 := (hW'.cell (World.block_lt_of_cell? _ _ y1)).trans y1; clear hW'; go_simp; first | done | with_reducible rfl)
        simp only [Act.put, nS]
        refine tkH 5 ?_ rfl (Below.refl _ _) (fun W' hW' => ?_) ?_; rotate_left; · (have z1 := (hW'.cell (World.block_lt_of_cell? _ _ x1)).trans x1; have z2 := (hW'.cell (World.block_lt_of_cell? _ _ y1)).trans y1; clear hW'; go_simp; first | done | with_reducible rfl)
        simp only [Act.put, nS]
        refine tkH 6 ?_ rfl (Below.refl _ _) (fun W' hW' => ?_) ?_; rotate_left; · (have z1 := (hW'.cell (World.block_lt_of_cell? _ _ x1)).trans x1; have z2 := (hW'.cell (World.block_lt_of_cell? _ _ y1)).trans y1; clear hW'; go_simp; first | done | with_reducible rfl)
        simp only [Act.put, nS]
        refine tkH 7 ?_ rfl (Below.refl _ _) (fun W' hW' => ?_) ?_; rotate_left; · (have z1 := (hW'.cell (World.block_lt_of_cell? _ _ x1)).trans x1; have z2 := (hW'.cell (World.block_lt_of_cell? _ _ y1)).trans y1; clear hW'; go_simp; first | done | with_reducible rfl)
        simp only [Act.put, nS]
        refine tkH 8 ?_ rfl (Below.refl _ _) (fun W' hW' => ?_) ?_; rotate_left; · (have z1 := (hW'.cell (World.block_lt_of_cell? _ _ x1)).trans x1; have z2 := (hW'.cell (World.block_lt_of_cell? _ _ y1)).trans y1; clear hW'; go_simp; first | done | with_reducible rfl)
        simp only [Act.put, nS]
        refine doneH (by kernel_rfl) ?_
        go_wp2_with (fail)
        refine beginB (by kernel_rfl) (fun W2 hW2 => ?_)
        have hbw : Below W1.heap.size W1 W2 := by rw [hW2]; exact below_drew (Below.refl _ _)
        clear hW2
        have x2 := (hbw.cell (World.block_lt_of_cell? _ _ x1)).trans x1
        have y2 := (hbw.cell (World.block_lt_of_cell? _ _ y1)).trans y1
        have hB3 := below_trans hB2_h.out hbw hB2_h.out.size
        clear x1 y1 hbw; have hB3_h := lH hB3; clear hB3
        refine tkH 0 ?_ rfl (Below.refl _ _) (fun W' hW' => ?_) ?_; rotate_left; · (have z1 := (hW'.cell (World.block_lt_of_cell? _ _ x2)).trans x2; have z2 := (hW'.cell (World.block_lt_of_cell? _ _ y2)).trans y2; clear hW'; go_simp; first | done | with_reducible rfl)
        simp only [Act.put, nS]
        refine tkH 1 ?_ rfl (Below.refl _ _) (fun W' hW' => ?_) ?_; rotate_left; · (have z1 := (hW'.cell (World.block_lt_of_cell? _ _ x2)).trans x2; have z2 := (hW'.cell (World.block_lt_of_cell? _ _ y2)).trans y2; clear hW'; go_simp; first | done | with_reducible rfl)
        simp only [Act.put, nS]
        refine tkH 2 ?_ rfl (Below.refl _ _) (fun W' hW' => ?_) ?_; rotate_left; · (have z1 := (hW'.cell (World.block_lt_of_cell? _ _ x2)).trans x2; have z2 := (hW'.cell (World.block_lt_of_cell? _ _ y2)).trans y2; clear hW'; go_simp; first | done | with_reducible rfl)
        simp only [Act.put, nS]
        refine tkH 3 ?_ rfl (Below.refl _ _) (fun W' hW' => ?_) ?_; rotate_left; · (have z1 := (hW'.cell (World.block_lt_of_cell? _ _ x2)).trans x2; have z2 := (hW'.cell (World.block_lt_of_cell? _ _ y2)).trans y2; clear hW'; go_simp; first | done | with_reducible rfl)
        simp only [Act.put, nS]
        refine tkH 4 ?_ rfl (Below.refl _ _) (fun W' hW' => ?_) ?_; rotate_left; · (have z1 := (hW'.cell (World.block_lt_of_cell? _ _ x2)).trans x2; have z2 := (hW'.cell (World.block_lt_of_cell? _ _ y2)).trans y2; clear hW'; go_simp; first | done | with_reducible rfl)
        simp only [Act.put, nS]
        refine tkH 5 ?_ rfl (Below.refl _ _) (fun W' hW' => ?_) ?_; rotate_left; · (have z1 := (hW'.cell (World.block_lt_of_cell? _ _ x2)).trans x2; have z2 := (hW'.cell (World.block_lt_of_cell? _ _ y2)).trans y2; clear hW'; go_simp; first | done | with_reducible rfl)
        simp only [Act.put, nS]
        refine tkH 6 ?_ rfl (Below.refl _ _) (fun W' hW' => ?_) ?_; rotate_left; · (have z1 := (hW'.cell (World.block_lt_of_cell? _ _ x2)).trans x2; have z2 := (hW'.cell (World.block_lt_of_cell? _ _ y2)).trans y2; clear hW'; go_simp; first | done | with_reducible rfl)
        simp only [Act.put, nS]
        refine tkH 7 ?_ rfl (Below.refl _ _) (fun W' hW' => ?_) ?_; rotate_left; · (have z1 := (hW'.cell (World.block_lt_of_cell? _ _ x2)).trans x2; have z2 := (hW'.cell (World.block_lt_of_cell? _ _ y2)).trans y2; clear hW'; go_simp; first | done | with_reducible rfl)
        simp only [Act.put, nS]
        refine tkH 8 ?_ rfl (Below.refl _ _) (fun W' hW' => ?_) ?_; rotate_left; · (have z1 := (hW'.cell (World.block_lt_of_cell? _ _ x2)).trans x2; have z2 := (hW'.cell (World.block_lt_of_cell? _ _ y2)).trans y2; clear hW'; go_simp; first | done | with_reducible rfl)
        simp only [Act.put, nS]
        refine tkH 9 ?_ rfl (Below.refl _ _) (fun W' hW' => ?_) ?_; rotate_left; · (have z1 := (hW'.cell (World.block_lt_of_cell? _ _ x2)).trans x2; have z2 := (hW'.cell (World.block_lt_of_cell? _ _ y2)).trans y2; clear hW'; go_simp; first | done | with_reducible rfl)
        simp only [Act.put, nS]
        refine doneH (by kernel_rfl) ?_
        go_wp2_with (fail)
        go_ret
        exact ⟨by rw [hlx_h.out]; rfl, hB3_h.out⟩
    · obtain rfl : q = k := by omega
      have hlx := lexI_end hpre (by rw [hp_h.out]; exact hk1) (by rw [hq_h.out]; exact Nat.le_refl _) (.inr hq_h.out.symm)
      rw [hp_h.out, hq_h.out] at hlx
      have hkI : (q : Int) < (p : Int) := by omega
      clear hpre; have hBe_h := lH hBe; have hlx_h := lH hlx; clear hBe hlx
      go_wp2_with (fail)
      go_ret
      exact ⟨by rw [hlx_h.out]; rfl, hBe_h.out⟩
  · obtain rfl : p = k := by omega
    have hlx := lexI_end hpre (by rw [hp_h.out]; exact Nat.le_refl _) (by rw [hq_h.out]; exact hk2) (.inl hp_h.out.symm)
    rw [hp_h.out, hq_h.out] at hlx
    clear hpre; have hBe_h := lH hBe; have hlx_h := lH hlx; clear hBe hlx
    go_wp2_with (fail)
    go_ret
    exact ⟨by rw [hlx_h.out]; rfl, hBe_h.out⟩
theorem results_tmp4 {fn : Func} {t u v x : Tmp} (h : fn.results = #[.tmp t, .tmp u, .tmp v, .tmp x]) (tmps : Array Value) (P : Program) (w : World) :
  (results fn tmps).run P w = .ok (.tuple #[tmps.getD t undef, tmps.getD u undef, tmps.getD v undef, tmps.getD x undef]) w := by
 simp [results, h]
theorem CnW.base {w0 w W : World} {n m : Nat} {N E : Addr} {A : Option Addr} {cap : Nat} {s : WE} (h : CnW W n m N E w A cap s) (hb : Below w0.heap.size w0 W) : CnW w0 n m N E w A cap s :=
 ⟨h.num, h.edg, h.ord, by have := hb.size; have := h.nf; omega, by have := hb.size; have := h.ef; omega, h.af.mono hb.size, h.ne, h.an, below_trans hb h.bel hb.size⟩
theorem CnW.apart {w0 w : World} {n m : Nat} {N E : Addr} {A B : Option Addr} {cap p : Nat} {s : WE} {l : List Int} (h : CnW w0 n m N E w A cap s) (hB : RdI w0 B l) (hp : l.length = p) : 0 < p → ∀ b, b ∈ fpA B → b ≠ N.block ∧ ¬ b ∈ fpA A := fun h0 b hb => by
 have h1 := hB.block_lt (List.getElem?_eq_getElem (show 0 < l.length by omega)) b hb
 have h2 := h.nf
 exact ⟨by omega, fun hh => by have := h.af b hh; omega⟩
set_option maxRecDepth 100000 in
set_option maxHeartbeats 8000000 in
theorem cnOpen_any {v : Value} {g : Gr} (w : World) (n m : Nat) (h : RdGr w v g) (hMo : Mono g n) (hm : g.2.1.length = m) :
  Calls Tryz.prog 63 #[v] w fun e w' => ∃ (N E : Addr) (A' : Option Addr) (cap' : Nat), e = .returned (.tuple #[.slice (some N) n n, .slice (some E) m m, .slice A' (openM g).1.length cap', .int .i64 ((openM g).2.length : Int)]) ∧ CnW w n m N E w' A' cap' (openM g) := by
 have hn100 := hMo.n100
 have hm60 := hMo.m60
 have hi12 := hMo.i12
 have ho12 := hMo.o12
 have hgn := hMo.hn
 have hin := hMo.inn
 have hfin := startO_inv hMo
 have hW0 := h
 obtain ⟨A, c, hs, ⟨B, b, s⟩, ⟨C', d', t⟩, rfl, e1, e2, e3, hE, hRa, hRb⟩ := h
 have hml : hs.length = m := by rw [← hm, e1, List.length_map]
 have hs2 : s = g.2.2.1 := e2
 have ht2 : t = g.2.2.2 := e3
 have hins : ∀ x, x ∈ s → 0 ≤ x ∧ x < (n : Int) := fun x hx => hin x (by unfold t_allW; rw [hs2] at hx; exact List.mem_append_left _ hx)
 have hint : ∀ x, x ∈ t → 0 ≤ x ∧ x < (n : Int) := fun x hx => hin x (by unfold t_allW; rw [ht2] at hx; exact List.mem_append_right _ (List.mem_append_left _ hx))
 rw [← hs2] at hi12
 rw [← ht2] at ho12
 simp only [hml, hgn] at hW0 ⊢
 obtain ⟨pp, hpp⟩ : ∃ p, s.length = p := ⟨_, rfl⟩
 obtain ⟨r, hr⟩ : ∃ r, t.length = r := ⟨_, rfl⟩
 rw [hpp] at hW0 hi12 ⊢
 rw [hr] at hW0 ho12 ⊢
 obtain ⟨W, hWe, bW, k0⟩ := (⟨_, rfl, t_below_alloc _ _, heap_alloc_new _ _⟩ : ∃ W, W = w.alloc (.cells #[.int .i64 (n : Int), .slice A m c, .slice B pp b, .slice C' r d'] tGr) ∧ Below w.heap.size w W ∧ W.heap[w.heap.size]? = some (.cells #[.int .i64 (n : Int), .slice A m c, .slice B pp b, .slice C' r d'] tGr))
 have hWW := hW0.below bW
 have hsW := hRa.below bW
 have htW := hRb.below bW
 have bWd : Below W.heap.size W W.drew := below_drewN (Below.refl _ _) 1
 have hC1 := cnNone_any n W.drew (by omega)
 have hC2 := fun (W : World) => cnNone_any m W (by omega)
 clear e1 e2 e3 hE hRa hRb hW0 hin; have hMo_h := lH hMo; have hgn_h := lH hgn; have hm_h := lH hm; have hml_h := lH hml; have hs2_h := lH hs2; have ht2_h := lH ht2; have hins_h := lH hins; have hint_h := lH hint; have hpp_h := lH hpp; have hr_h := lH hr; have bW_h := lH bW; have k0_h := lH k0; have hWW_h := lH hWW; have hsW_h := lH hsW; have htW_h := lH htW; have bWd_h := lH bWd; have hC1_h := lH hC1; have hC2_h := lH hC2; have hfin_h := lH hfin; clear hMo hgn hm hml hs2 ht2 hins hint hpp hr bW k0 hWW hsW htW bWd hC1 hC2 hfin
 go_enter Tryz.func63, Tryz.ntmps63
 go_upto_region 1 with (fail)
 rw [← hWe]
 clear hWe
 refine beginH (fun w' => w'.heap[w.heap.size]? = some (.cells #[.int .i64 (n : Int), .slice A m c, .slice B pp b, .slice C' r d'] tGr)) (by kernel_rfl) ?_
 have k1 := t_box_below k0_h.out bWd_h.out
 refine tkH 0 ?_ rfl k1 (fun W' hW' => ?_) ?_; rotate_left; · (obtain ⟨⟨y0, y1, y2, y3⟩, y4, y5, y6, y7⟩ := t_box4 hW'; clear hW'; go_simp; first | done | with_reducible rfl)
 simp only [Act.put, nS]
 refine tkH 1 ?_ rfl k1 (fun W' hW' => ?_) ?_; rotate_left; · (obtain ⟨⟨y0, y1, y2, y3⟩, y4, y5, y6, y7⟩ := t_box4 hW'; clear hW'; go_simp; first | done | with_reducible rfl)
 simp only [Act.put, nS]
 refine tkH 3 ?_ rfl k1 (fun W' hW' => ?_) ?_; rotate_left; · (obtain ⟨⟨y0, y1, y2, y3⟩, y4, y5, y6, y7⟩ := t_box4 hW'; clear hW'; go_simp; first | done | with_reducible rfl)
 simp only [Act.put, nS]
 refine tkH 4 ?_ rfl k1 (fun W' hW' => ?_) ?_; rotate_left; · (obtain ⟨⟨y0, y1, y2, y3⟩, y4, y5, y6, y7⟩ := t_box4 hW'; clear hW'; go_simp; first | done | with_reducible rfl)
 simp only [Act.put, nS]
 refine tkH 5 ?_ rfl k1 (fun W' hW' => ?_) ?_; rotate_left; · (obtain ⟨⟨y0, y1, y2, y3⟩, y4, y5, y6, y7⟩ := t_box4 hW'; clear hW'; go_simp; first | done | with_reducible rfl)
 simp only [Act.put, nS]
 refine' callH 2 (f := _) (args := _) rfl (by kernel_rfl) (by rfl) ?_ ?_; rotate_left 2; · (go_simp; first | done | with_reducible rfl | (constructor <;> with_reducible rfl))
 refine (hC1_h.out).mono ?_
 rintro e w1 ⟨N, rfl, hI1, hG1, hb1⟩
 have k2 := t_box_below k1 hb1
 have hbW1 := below_trans bWd_h.out hb1 bWd_h.out.size
 refine ⟨_, rfl, k2, ?_⟩
 simp only [Act.put, nS]
 refine' callH 6 (f := _) (args := _) rfl (by kernel_rfl) (by rfl) ?_ ?_; rotate_left 2; · (go_simp; first | done | with_reducible rfl | (constructor <;> with_reducible rfl))
 refine ((hC2_h.out _)).mono ?_
 rintro e w2 ⟨E, rfl, hI2, hG2, hb2⟩
 have k3 := t_box_below k2 hb2
 refine ⟨_, rfl, k3, ?_⟩
 simp only [Act.put, nS]
 refine tkH 7 ?_ rfl k3 (fun W' hW' => ?_) ?_; rotate_left; · (skip; clear hW'; go_simp; first | done | with_reducible rfl)
 simp only [Act.put, nS]
 refine tkH 8 ?_ rfl k3 (fun W' hW' => ?_) ?_; rotate_left; · (skip; clear hW'; go_simp; first | done | with_reducible rfl)
 simp only [Act.put, nS]
 refine doneH (by kernel_rfl) ?_
 have hI1' := hI1.below hb2
 have hN2 : N.block < w1.heap.size := hI1.lt N.block (by simp)
 have hdz : W.drew.heap.size = W.heap.size := rfl
 have hz1 := hb1.size
 have hBW2 := below_trans hbW1 hb2 hbW1.size
 have hC0 : CnW W n m N E w2 none 0 ([], []) := ⟨by show IS w2 (some N) n (numsL n []); rw [numsL_zero]; exact hI1', by show IS w2 (some E) m (numsL m []); rw [numsL_zero]; exact hI2, Sl.nil _ _ _, by omega, by omega, Fresh.none_ _, by omega, fun b hb => by simp at hb, hBW2⟩
 have c1 := cnGive_any N n none B 0 b pp 0 [] s w2 hC0.num hC0.ord (fun b hb => (hC0.an b hb).1) (hsW_h.out.below hBW2) (hC0.apart hsW_h.out hpp_h.out) hn100 List.nodup_nil (fun x hx => by cases hx) hins_h.out hpp_h.out rfl (by omega)
 obtain ⟨q1, hq1⟩ : ∃ q1, (giveL [] s).length = q1 := ⟨_, rfl⟩
 rw [hq1] at c1
 obtain ⟨⟨y0, y1, y2, y3⟩, y4, y5, y6, y7⟩ := t_box4 k3
 clear hI1 hI2 hI1' hb1 hb2 hbW1 hC1_h hC2_h k1 k2 k3; have hC0_h := lH hC0; have c1_h := lH c1; have hq1_h := lH hq1; have hBW2_h := lH hBW2; clear hC0 c1 hq1 hBW2
 go_wp2_with (fail)
 refine (c1_h.out).mono ?_
 rintro e w3 ⟨A1, cap1, rfl, hR1⟩
 have hC1 : CnW W n m N E w3 A1 cap1 (giveL [] s, []) := hC0_h.out.give hR1
 have h1n := giveL_nodup (l := s) (o := []) List.nodup_nil
 have h1r : ∀ x, x ∈ giveL [] s → 0 ≤ x ∧ x < (n : Int) := fun x hx => by
  rcases mem_giveL.1 hx with hx | hx
  · cases hx
  · exact hins_h.out x hx
 have c2 := cnGive_any N n A1 C' cap1 d' r q1 (giveL [] s) t w3 hC1.num hC1.ord (fun b hb => (hC1.an b hb).1) (htW_h.out.below hC1.bel) (hC1.apart htW_h.out hr_h.out) hn100 h1n h1r hint_h.out hr_h.out hq1_h.out (by omega)
 have hst : giveL (giveL [] s) t = (startO g).1 := by
  rw [← giveL_append, hs2_h.out, ht2_h.out]; rfl
 rw [hst] at c2
 obtain ⟨q2, hq2⟩ : ∃ q2, (startO g).1.length = q2 := ⟨_, rfl⟩
 rw [hq2] at c2
 have k4 := t_box_below k0_h.out hC1.bel
 clear y0 y1 y2 y3 y4 y5 y6 y7 hC0_h c1_h hR1
 obtain ⟨⟨y0, y1, y2, y3⟩, y4, y5, y6, y7⟩ := t_box4 k4
 clear k4; have hC1_h := lH hC1; have c2_h := lH c2; have hq2_h := lH hq2; have h1n_h := lH h1n; have h1r_h := lH h1r; have hst_h := lH hst; clear hC1 c2 hq2 h1n h1r hst
 go_wp2_with (fail)
 refine (c2_h.out).mono ?_
 rintro e w4 ⟨A2, cap2, rfl, hR2⟩
 have hC2 : CnW W n m N E w4 A2 cap2 (startO g) := hC1_h.out.give hR2
 have cw := cnWalk_any W w4 n m 0 q2 N E A2 cap2 (startO g) hWW_h.out hMo_h.out hfin_h.out hC2 hm_h.out hq2_h.out rfl
 rw [show finW g (startO g) = openM g from rfl, show ((0 : Nat) : Int) = 0 from rfl] at cw
 obtain ⟨q3, hq3⟩ : ∃ q3, (openM g).1.length = q3 := ⟨_, rfl⟩
 obtain ⟨p3, hp3⟩ : ∃ p3, (openM g).2.length = p3 := ⟨_, rfl⟩
 rw [hq3, hp3] at cw
 have k4 := t_box_below k0_h.out hC2.bel
 clear y0 y1 y2 y3 y4 y5 y6 y7 hC1_h c2_h hR2
 obtain ⟨⟨y0, y1, y2, y3⟩, y4, y5, y6, y7⟩ := t_box4 k4
 clear k4 hC2; have cw_h := lH cw; have hq3_h := lH hq3; have hp3_h := lH hp3; clear cw hq3 hp3
 go_wp2_with (fail)
 refine (cw_h.out).mono ?_
 rintro e w5 ⟨A3, cap3, rfl, hC3⟩
 have hC4 := hC3.base bW_h.out
 clear hC3 y0 y1 y2 y3 y4 y5 y6 y7 cw_h; have hC4_h := lH hC4; clear hC4
 go_wp2_with (fail)
 try simp only [Exit.inBlock, Exit.then]
 refine bodyPost_ret (results_tmp4 rfl _ _ _) rfl ?_
 exact ⟨N, E, A3, cap3, by rw [hq3_h.out, hp3_h.out]; rfl, hC4_h.out⟩
end Go.Proofs.YtjompikdkhhlgaaGreat
namespace Go.Proofs.YtjompikdkhhlgaaGreat
def invL (o : List Int) (k : Nat) : List Int := (List.range o.length).map fun i => if o.getD i 0 < (k : Int) then o.getD i 0 else 0
@[simp] theorem invL_length (o : List Int) (k : Nat) : (invL o k).length = o.length := by simp [invL]
theorem invL_get {o : List Int} {k i : Nat} (h : i < o.length) : (invL o k)[i]? = some (if o.getD i 0 < (k : Int) then o.getD i 0 else 0) := by simp [invL, h]
theorem invL_zero {o : List Int} (h : ∀ x, x ∈ o → 0 ≤ x) : invL o 0 = List.replicate o.length 0 := by
 unfold invL
 rw [List.eq_replicate_iff]
 refine ⟨by simp, fun x hx => ?_⟩
 obtain ⟨i, hi, rfl⟩ := List.mem_map.1 hx
 have hi' := List.mem_range.1 hi
 have hm : o.getD i 0 ∈ o := by
  rw [List.getD_eq_getElem?_getD, List.getElem?_eq_getElem hi']
  exact List.getElem_mem hi'
 have := h _ hm
 rw [if_neg (by omega)]
theorem invL_end {o : List Int} {m : Nat} (h : ∀ x, x ∈ o → x < (m : Int)) : invL o m = o := by
 apply List.ext_getElem?
 intro i
 by_cases hi : i < o.length
 · rw [invL_get hi]
   have hm : o.getD i 0 = o[i] := by rw [List.getD_eq_getElem?_getD, List.getElem?_eq_getElem hi]; rfl
   rw [hm, if_pos (h _ (List.getElem_mem hi)), List.getElem?_eq_getElem hi]
 · rw [List.getElem?_eq_none (by rw [invL_length]; omega), List.getElem?_eq_none (by omega)]
theorem invL_skip {o : List Int} {k : Nat} (h : (k : Int) ∉ o) : invL o (k + 1) = invL o k := by
 unfold invL
 refine List.map_congr_left fun i hi => ?_
 have hi' := List.mem_range.1 hi
 have hne : o.getD i 0 ≠ (k : Int) := fun e => h (by
  rw [← e, List.getD_eq_getElem?_getD, List.getElem?_eq_getElem hi']
  exact List.getElem_mem hi')
 by_cases hlt : o.getD i 0 < (k : Int)
 · rw [if_pos hlt, if_pos (by omega)]
 · rw [if_neg hlt, if_neg (by omega)]
theorem invL_set {o : List Int} {k : Nat} (hn : o.Nodup) (h : (k : Int) ∈ o) : invL o (k + 1) = (invL o k).set (idx o (k : Int)).toNat (k : Int) := by
 have hr := idx_lt h
 have hg := idx_get h
 apply List.ext_getElem?
 intro i
 rw [List.getElem?_set]
 by_cases hi : i < o.length
 · rw [invL_get hi, invL_get hi, invL_length]
   by_cases e : (idx o (k : Int)).toNat = i
   · have ho : o.getD i 0 = (k : Int) := by rw [List.getD_eq_getElem?_getD, ← e, hg]; rfl
     rw [if_pos e, if_pos (by omega), ho, if_pos (by omega)]
   · rw [if_neg e]
     have hne : o.getD i 0 ≠ (k : Int) := fun e2 => e (by
      have h1 : o[i]? = some (k : Int) := by rw [List.getElem?_eq_getElem hi]; rw [List.getD_eq_getElem?_getD, List.getElem?_eq_getElem hi] at e2; exact congrArg some e2
      have := idx_at hn h1
      omega)
     by_cases hlt : o.getD i 0 < (k : Int)
     · rw [if_pos hlt, if_pos (by omega)]
     · rw [if_neg hlt, if_neg (by omega)]
 · rw [List.getElem?_eq_none (by rw [invL_length]; omega), List.getElem?_eq_none (by rw [invL_length]; omega)]
   split
   · rw [if_neg (by rw [invL_length]; omega)]
   · rfl
theorem mapL_nums {n : Nat} {o l : List Int} (hl : ∀ x, x ∈ l → (0 ≤ x ∧ x < (n : Int)) ∧ x ∈ o) : mapL (numsL n o) l = l.map (idx o) := by
 unfold mapL
 refine List.map_congr_left fun x hx => ?_
 obtain ⟨h1, h2⟩ := hl x hx
 rw [List.getD_eq_getElem?_getD, numsL_get (by omega), show ((x.toNat : Nat) : Int) = x by omega, if_pos h2]
 rfl
def codeTo (g : Gr) (s : WE) (k : Nat) : List Int := (s.2.take k).flatMap fun e => codeE s.1 (edgeAt g e)
theorem codeTo_step {g : Gr} {s : WE} {k : Nat} {e : Int} (h : s.2[k]? = some e) : codeTo g s (k + 1) = codeTo g s k ++ codeE s.1 (edgeAt g e) := by
 unfold codeTo
 rw [List.take_add_one, h, List.flatMap_append]
 simp
theorem codeTo_all (g : Gr) (s : WE) {k : Nat} (h : s.2.length ≤ k) : codeTo g s k = codeM g s := by
 unfold codeTo codeM
 rw [List.take_of_length_le h]
theorem codeE_mem {g : Gr} {n : Nat} {s : WE} (hs : WInv g n s) {e : Int} (he : e ∈ s.2) {k v : Int} {l1 l2 : List Int} (hed : edgeAt g e = (k, v, l1, l2)) : codeE s.1 (edgeAt g e) = ([k, v] ++ mapL (numsL n s.1) l1) ++ mapL (numsL n s.1) l2 := by
 have hc := hs.clo e he
 rw [hed] at hc ⊢
 have h1 : ∀ x, x ∈ l1 → (0 ≤ x ∧ x < (n : Int)) ∧ x ∈ s.1 := fun x hx => by
  have := hc x (List.mem_append_left _ hx)
  exact ⟨hs.rg1 x this, this⟩
 have h2 : ∀ x, x ∈ l2 → (0 ≤ x ∧ x < (n : Int)) ∧ x ∈ s.1 := fun x hx => by
  have := hc x (List.mem_append_right _ hx)
  exact ⟨hs.rg1 x this, this⟩
 rw [mapL_nums h1, mapL_nums h2]
 show [k, v] ++ (l1 ++ l2).map (idx s.1) = _
 rw [List.map_append, List.append_assoc]
theorem codeTo_len {g : Gr} {s : WE} (h : ∀ e, e ∈ s.2 → (wiresE (edgeAt g e)).length ≤ 4) : ∀ k, (codeTo g s k).length ≤ 6 * k
 | 0 => by simp [codeTo]
 | k + 1 => by
   have ih := codeTo_len h k
   cases hx : s.2[k]? with
   | none =>
     have : codeTo g s (k + 1) = codeTo g s k := by
      unfold codeTo
      rw [List.take_add_one, hx]; simp
     rw [this]; omega
   | some e =>
     rw [codeTo_step hx, List.length_append]
     have h1 := h e (List.mem_of_getElem? hx)
     have h2 : (codeE s.1 (edgeAt g e)).length = 2 + (wiresE (edgeAt g e)).length := by simp [codeE]; omega
     omega
end Go.Proofs.YtjompikdkhhlgaaGreat
