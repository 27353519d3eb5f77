/-
  THE WALKS: graphs with other numbers (renumbered, hgRenumber).
-/
import Derived.Test.YtanhmljgeiajoaaGrMv
namespace Go.Proofs.Ytanhmljgeiajoaa
open Go.RowKit

section
variable {P : Program} {l : List Oper} {Q : Exit → Act → World → Prop} {md : Region.Mode} {S : World → Prop}
/-- Two operations of known runs, whichever comes up first. -/
theorem valOrH (i j : Nat) {oi oj : Oper} {vi vj : Value} {wi wj : World} {fuel : Nat} {listed : Array Bool} {a : Act} {w : World} {li lj : List Oper} (hdi : l.drop i = oi :: li) (hdj : l.drop j = oj :: lj)
    (hr : Region.ready md l.toArray listed = [i, j]) (hwi : Region.wanted oi (yielded l.toArray a.tmps) = true) (hwj : Region.wanted oj (yielded l.toArray a.tmps) = true)
    (hruni : (execOp a.eval oi).run P w = .ok (.value vi) wi) (hrunj : (execOp a.eval oj).run P w = .ok (.value vj) wj)
    (hSi : S wi) (h1 : wpAnyH P md l.toArray Q S fuel (listed.setIfInBounds i true) (a.put oi.dst vi) wi)
    (hSj : S wj) (h2 : wpAnyH P md l.toArray Q S fuel (listed.setIfInBounds j true) (a.put oj.dst vj) wj) : wpAnyH P md l.toArray Q S (fuel + 1) listed a w := by
  refine wpAnyH_all hr (by simp) fun k hk => ?_
  have hk' : k = i ∨ k = j := by simpa using hk
  rcases hk' with rfl | rfl
  · unfold wpOp
    simp only [at_drop hdi, hwi, if_true]
    refine .inl ?_
    unfold Oper.wp
    rw [hruni]
    exact ⟨hSi, h1⟩
  · unfold wpOp
    simp only [at_drop hdj, hwj, if_true]
    refine .inl ?_
    unfold Oper.wp
    rw [hrunj]
    exact ⟨hSj, h2⟩
/-- make([]T, n): its run. -/
theorem run_makeOp {o : Oper} {a : Act} {w : World} (lo c : Operand) (t : TypeId) (ho : o.op = .makeSlice t lo c) (e : TypeId) {z : Value} {size bytes : Nat} (ht : P.underlying t = some (.slice e)) (hinfo : (P.info? e).map (fun i => (i.zero, i.size, i.bytes)) = some (some z, size, bytes))
    (n : Nat) (hel : a.eval lo = .int .i64 (n : Int)) (hec : a.eval c = .int .i64 (n : Int)) (hbytes : bytes * n ≤ 281474976710656) (h63 : n ≤ maxLen) :
    (execOp a.eval o).run P w = .ok (.value (.slice (some ⟨w.heap.size, 0, none⟩) n n)) (w.alloc (.cells (madeCells z.cells (n * size)) e)) := by
  obtain ⟨i, hi, hz, hz1, hz2⟩ := info_parts hinfo
  subst hz1 hz2
  have h63' : (n : Int) ≤ 9223372036854775807 := by simp only [maxLen] at h63; omega
  have hb' : (i.bytes : Int) * (n : Int) ≤ 281474976710656 := by
    have h : ((i.bytes * n : Nat) : Int) ≤ 281474976710656 := by omega
    rwa [Int.natCast_mul] at h
  have hrun := run_make (P := P) w t e i z ht hi hz .i64 .i64 n n (by omega) (by omega) hb' h63'
  simp only [Int.toNat_natCast] at hrun
  simp only [execOp, ho, hel, hec, hrun, Sem.run_bind, Sem.run_pure, Result.andThen_ok]
end
/-- Edges just made. -/
theorem made_edges (w : World) (n : Nat) (h : n ≤ maxLen) : Sl (w.alloc (.cells (madeCells (Value.agg #[.int .i64 0, .int .i64 0, .slice none 0 0, .slice none 0 0]).cells (n * 4)) tEd)) tEd 4 (some ⟨w.heap.size, 0, none⟩) n n (ecs (List.replicate n eh0)) := by
  rw [← madeEdges]
  refine ⟨?_, Nat.le_refl _, h, .inr ⟨w.heap.size, 0, _, rfl, heap_alloc_new w _, by simp [size_madeCells], by simp⟩⟩
  simp only [List.length_take, Array.length_toList, size_madeCells]
  omega
theorem egOf_eh0 : egOf eh0 = eg0 := rfl
/-- The result: laid edges, moved lists. -/
theorem ren_ow {w : World} {g : Gr} {ws el : List Int} {n m c : Nat} {G : Option Addr} {ms : List EHd} {X Y : Hd} (hms : ms.map egOf = g.2.1.map (mapE ws)) (hml : ms.length = m) (hel : el.length = m) (hp : permB el = true) (hg : g.1 = (n : Int)) (hX : X.2.2 = mapL ws g.2.2.1) (hY : Y.2.2 = mapL ws g.2.2.2)
    (hsl : Sl w tEd 4 G m c (ecs (lay eh0 el ms m))) (hLs : OwLs w (fpA G) (X :: Y :: eh ms)) :
    OwGr w (.agg #[.int .i64 (n : Int), .slice G m c, .slice X.1 X.2.2.length X.2.1, .slice Y.1 Y.2.2.length Y.2.1]) (renG g ws el) (fpA G ++ fpR (X :: Y :: eh (lay eh0 el ms m))) := by
  subst hml
  have hl : g.2.1.length = ms.length := by have := congrArg List.length hms; rw [List.length_map, List.length_map] at this; exact this.symm
  have hpm := lay_all (d := eh0) hp hel
  refine ⟨G, c, lay eh0 el ms ms.length, X, Y, ?_, ?_, hX, hY, by rw [lay_length]; exact hsl, hLs.perm (((eh_perm hpm).cons Y).cons X), rfl⟩
  · rw [lay_length]; unfold renG; rw [← hg]
  · show lay eg0 el (g.2.1.map (mapE ws)) g.2.1.length = _
    rw [lay_map, egOf_eh0, hms, hl]
theorem ren_fp {el : List Int} {m : Nat} {ms : List EHd} {X Y : Hd} (hml : ms.length = m) (hel : el.length = m) (hp : permB el = true) {x : Nat} (hx : x ∈ fpR (X :: Y :: eh (lay eh0 el ms m))) : x ∈ fpR (X :: Y :: eh ms) := by
  subst hml
  obtain ⟨h, hh, hb⟩ := mem_fpR.1 hx
  exact mem_fpR.2 ⟨h, ((((eh_perm (lay_all (d := eh0) hp hel)).cons Y).cons X).mem_iff).1 hh, hb⟩

set_option maxRecDepth 100000 in
set_option maxHeartbeats 8000000 in
theorem renumbered_any {v : Value} {g : Gr} (w : World) (n m : Nat) (T : Option Addr) (tc : Nat) (ws : List Int) (U : Option Addr) (uc : Nat) (el : List Int) (h : RdGr w v g) (ok : OkG g) (ht : RdI w T ws) (hu : RdI w U el) (hgn : g.1 = (n : Int)) (hgm : g.2.1.length = m) (htn : ws.length = n) (hel : el.length = m) (hin : inW (n : Int) (allW g) = true) (hper : permB el = true) (hmb : m ≤ 60) :
    Calls Try.prog 55 #[v, .slice T n tc, .slice U m uc] w fun e w' => ∃ v' fp, e = .returned v' ∧ OwGr w' v' (renG g ws el) fp ∧ FreshL w.heap.size fp ∧ Below w.heap.size w w' := by
  have hG0 := h
  obtain ⟨A, c, hs, ⟨B, b, s⟩, ⟨C, d, t⟩, rfl, e1, e2, e3, hE, hRa, hRb⟩ := h
  obtain ⟨z, es, s0, t0⟩ := g
  have a1 : es = hs.map egOf := e1
  have a2 : s = s0 := e2
  have a3 : t = t0 := e3
  have a4 : z = (n : Int) := hgn
  subst a2 a3 a4
  have hm : m = hs.length := by have : es.length = m := hgm; rw [← this, a1, List.length_map]
  obtain ⟨p, hp⟩ : ∃ p, p = s.length := ⟨_, rfl⟩
  obtain ⟨r, hr⟩ : ∃ r, r = t.length := ⟨_, rfl⟩
  change RdGr w (.agg #[.int .i64 (n : Int), .slice A hs.length c, .slice B s.length b, .slice C t.length d]) ((n : Int), es, s, t) at hG0
  show Calls Try.prog _ #[.agg #[.int .i64 (n : Int), .slice A hs.length c, .slice B s.length b, .slice C t.length d], .slice T n tc, .slice U m uc] w _
  rw [← hm, ← hp, ← hr] at hG0 ⊢
  obtain ⟨Gf, hGf⟩ : ∃ Gf, Gf = renG ((n : Int), es, s, t) ws el := ⟨_, rfl⟩
  rw [← hGf]
  obtain ⟨W, hW, bW, k0, k1⟩ := allocs2 w (.cells #[.int .i64 (n : Int), .slice A m c, .slice B p b, .slice C r d] tGr) (.cells #[.int .i64 0, .slice none 0 0, .slice none 0 0, .slice none 0 0] tGr)
  have hM := moved_any W (n : Int) T tc n ws (hG0.below bW) ok (ht.below bW) htn hin
  clear hE hRa hRb e1 e2 e3 hgn hG0 ok hin
  obtain ⟨⟨c0, c1, c2, c3⟩, f0, f1, f2, f3⟩ := box4 k0
  have hM_h := Lib.hid hM
  have hm_h := Lib.hid hm
  have hp_h := Lib.hid hp
  have hr_h := Lib.hid hr
  have a1_h := Lib.hid a1
  have bW_h := Lib.hid bW
  have k0_h := Lib.hid k0
  have k1_h := Lib.hid k1
  have ht_h := Lib.hid ht
  have hu_h := Lib.hid hu
  have htn_h := Lib.hid htn
  have hel_h := Lib.hid hel
  have hper_h := Lib.hid hper
  have hGf_h := Lib.hid hGf
  have hgm_h := Lib.hid hgm
  clear hM hm hp hr a1 bW k0 k1 ht hu htn hel hper hGf hgm
  go_enter Try.func55, Try.ntmps55
  go_upto_region 1 with (fail)
  rw [← hW]
  clear hW
  go_wp2_with (fail)
  refine (hM_h.out).mono ?_
  rintro e w1 ⟨v1, fp1, rfl, hO1, hf1, hb1⟩
  obtain ⟨A1, q1, ms, ⟨X1, X2, X3⟩, ⟨Y1, Y2, Y3⟩, rfl, m1, m2, m3, hsl1, hLs1, rfl⟩ := hO1
  have hms : ms.map egOf = es.map (mapE ws) := m1.symm
  have hX3 : X3 = mapL ws s := m2
  have hY3 : Y3 = mapL ws t := m3
  subst hX3 hY3
  have hml : ms.length = m := by have := congrArg List.length hms; rw [List.length_map, List.length_map] at this; rw [this]; exact hgm_h.out
  simp only [mapL_length] at *
  rw [hml, ← hp_h.out, ← hr_h.out]
  have e0 : (mapG ws (n : Int) ((n : Int), es, s, t)).1 = (n : Int) := rfl
  rw [e0]
  clear m1 m2 m3 e0
  have k0a := box_below k0_h.out hb1
  have k1a := box_below k1_h.out hb1
  have hB1 := below_trans bW_h.out hb1 bW_h.out.size
  have hws := hb1.size
  rw [hml] at hsl1
  clear c0 c1 c2 c3 f0 f1 f2 f3
  obtain ⟨W3, hW3, bW3, k3⟩ := alloc_box1g w1 (.cells #[.int .i64 (n : Int), .slice A1 m q1, .slice X1 p X2, .slice Y1 r Y2] tGr)
  have k0b := box_below k0a bW3
  have k1b := box_below k1a bW3
  have hB3 := below_trans hB1 bW3 hB1.size
  have hsl3 := hsl1.below bW3
  have hLs3 := hLs1.below bW3
  have hlt1 : ∀ x, x ∈ fpA A1 ++ fpR (((X1, X2, mapL ws s) : Hd) :: (Y1, Y2, mapL ws t) :: eh ms) → W.heap.size ≤ x ∧ x < w1.heap.size := fun x hx => ⟨hf1 x hx, by
    rcases List.mem_append.1 hx with hx | hx
    · exact hsl1.lt x hx
    · exact hLs1.lt x hx⟩
  obtain ⟨⟨c0, c1, c2, c3⟩, f0, f1, f2, f3⟩ := box4 k3
  obtain ⟨⟨d0, d1, d2, d3⟩, g0, g1, g2, g3⟩ := box4 k0b
  clear k0a k1a hB1 hsl1 hLs1 hb1 hf1
  have k3_h := Lib.hid k3
  have k0b_h := Lib.hid k0b
  have k1b_h := Lib.hid k1b
  have hB3_h := Lib.hid hB3
  have hsl3_h := Lib.hid hsl3
  have hLs3_h := Lib.hid hLs3
  have hlt1_h := Lib.hid hlt1
  have hms_h := Lib.hid hms
  have hml_h := Lib.hid hml
  have bW3_h := Lib.hid bW3
  clear k3 k0b k1b hB3 hsl3 hLs3 hlt1 hms hml bW3
  go_upto_region 2 with (fail)
  rw [← hW3]
  clear hW3
  go_cut [8] (fun sv wx => ∃ (bx : Nat) (G : Addr), sv = .pointer (some ⟨bx, 0, none⟩) ∧ wx.heap[bx]? = some (.cells #[.int .i64 (n : Int), .slice (some G) m m, .slice X1 p X2, .slice Y1 r Y2] tGr) ∧ Sl wx tEd 4 (some G) m m (ecs (List.replicate m eh0)) ∧ bx ≠ G.block ∧ W3.heap.size ≤ bx ∧ W3.heap.size ≤ G.block ∧ Below W3.heap.size W3 wx)
  case first =>
    refine beginH (fun w' => w'.heap[w1.heap.size]? = some (.cells #[.int .i64 (n : Int), .slice A1 m q1, .slice X1 p X2, .slice Y1 r Y2] tGr)) (by kernel_rfl) ?_
    have hbd : Below W3.heap.size W3 W3.drew := below_drew (Below.refl _ _)
    generalize W3.drew = W4 at hbd ⊢
    have k3d := box_below k3_h.out hbd
    have hlt3 := box_lt k3_h.out
    have hs4 := hbd.size
    have hbd_h := Lib.hid hbd
    have k3d_h := Lib.hid k3d
    clear hbd k3d
    clear c0 c1 c2 c3 f0 f1 f2 f3 d0 d1 d2 d3 g0 g1 g2 g3
    refine takeH 0 (v := ?_) rfl (by kernel_rfl) (by kernel_rfl) (by kernel_rfl) (fun _ _ _ h => h) k3d_h.out (by rfl) (fun W' hW' => ?_) ?_; rotate_left; · (obtain ⟨⟨y0, y1, y2, y3⟩, y4, y5, y6, y7⟩ := box4 hW'; clear hW'; go_simp; first | done | with_reducible rfl)
    simp only [Act.put, List.setIfInBounds_toArray, List.set_cons_zero, List.set_cons_succ]
    refine takeH 1 (v := ?_) rfl (by kernel_rfl) (by kernel_rfl) (by kernel_rfl) (fun _ _ _ h => h) k3d_h.out (by rfl) (fun W' hW' => ?_) ?_; rotate_left; · (obtain ⟨⟨y0, y1, y2, y3⟩, y4, y5, y6, y7⟩ := box4 hW'; clear hW'; go_simp; first | done | with_reducible rfl)
    simp only [Act.put, List.setIfInBounds_toArray, List.set_cons_zero, List.set_cons_succ]
    refine takeH 2 (v := ?_) rfl (by kernel_rfl) (by kernel_rfl) (by kernel_rfl) (fun _ _ _ h => h) k3d_h.out (by rfl) (fun W' hW' => ?_) ?_; rotate_left; · (obtain ⟨⟨y0, y1, y2, y3⟩, y4, y5, y6, y7⟩ := box4 hW'; clear hW'; go_simp; first | done | with_reducible rfl)
    simp only [Act.put, List.setIfInBounds_toArray, List.set_cons_zero, List.set_cons_succ]
    refine takeH 3 (v := ?_) rfl (by kernel_rfl) (by kernel_rfl) (by kernel_rfl) (fun _ _ _ h => h) k3d_h.out (by rfl) (fun W' hW' => ?_) ?_; rotate_left; · (obtain ⟨⟨y0, y1, y2, y3⟩, y4, y5, y6, y7⟩ := box4 hW'; clear hW'; go_simp; first | done | with_reducible rfl)
    simp only [Act.put, List.setIfInBounds_toArray, List.set_cons_zero, List.set_cons_succ]
    refine takeH 4 (v := ?_) rfl (by kernel_rfl) (by kernel_rfl) (by kernel_rfl) (fun _ _ _ h => h) k3d_h.out (by rfl) (fun W' hW' => ?_) ?_; rotate_left; · (obtain ⟨⟨y0, y1, y2, y3⟩, y4, y5, y6, y7⟩ := box4 hW'; clear hW'; go_simp; first | done | with_reducible rfl)
    simp only [Act.put, List.setIfInBounds_toArray, List.set_cons_zero, List.set_cons_succ]
    refine takeH 5 (v := ?_) rfl (by kernel_rfl) (by kernel_rfl) (by kernel_rfl) (fun _ _ _ h => h) k3d_h.out (by rfl) (fun W' hW' => ?_) ?_; rotate_left; · (obtain ⟨⟨y0, y1, y2, y3⟩, y4, y5, y6, y7⟩ := box4 hW'; clear hW'; go_simp; first | done | with_reducible rfl)
    simp only [Act.put, List.setIfInBounds_toArray, List.set_cons_zero, List.set_cons_succ]
    refine takeH 6 (v := ?_) rfl (by kernel_rfl) (by kernel_rfl) (by kernel_rfl) (fun _ _ _ h => h) k3d_h.out (by rfl) (fun W' hW' => ?_) ?_; rotate_left; · (obtain ⟨⟨y0, y1, y2, y3⟩, y4, y5, y6, y7⟩ := box4 hW'; clear hW'; go_simp; first | done | with_reducible rfl)
    simp only [Act.put, List.setIfInBounds_toArray, List.set_cons_zero, List.set_cons_succ]
    refine takeH 7 (v := ?_) rfl (by kernel_rfl) (by kernel_rfl) (by kernel_rfl) (fun _ _ _ h => h) k3d_h.out (by rfl) (fun W' hW' => ?_) ?_; rotate_left; · (obtain ⟨⟨y0, y1, y2, y3⟩, y4, y5, y6, y7⟩ := box4 hW'; clear hW'; go_simp; first | done | with_reducible rfl)
    simp only [Act.put, List.setIfInBounds_toArray, List.set_cons_zero, List.set_cons_succ]
    refine takeH 8 (v := ?_) rfl (by kernel_rfl) (by kernel_rfl) (by kernel_rfl) (fun _ _ _ h => h) k3d_h.out (by rfl) (fun W' hW' => ?_) ?_; rotate_left; · (obtain ⟨⟨y0, y1, y2, y3⟩, y4, y5, y6, y7⟩ := box4 hW'; clear hW'; go_simp; first | done | with_reducible rfl)
    simp only [Act.put, List.setIfInBounds_toArray, List.set_cons_zero, List.set_cons_succ]
    refine valOrH 9 11 (vi := .slice (some ⟨W4.heap.size, 0, none⟩) m m) (wi := W4.alloc (.cells (madeCells (Value.agg #[.int .i64 0, .int .i64 0, .slice none 0 0, .slice none 0 0]).cells (m * 4)) tEd)) (vj := ?vy) (wj := ?wy) rfl rfl (by kernel_rfl) (by rfl) (by rfl) ?hr1 ?hr2 ?hS1 ?h1 ?hS2 ?h2
    case hr1 => exact run_makeOp _ _ _ rfl tEd Try.underlying29 info_ed m rfl rfl (by omega) (by unfold maxLen; omega)
    case hr2 => (go_simp; first | done | with_reducible rfl | (constructor <;> with_reducible rfl))
    case hS1 => exact box_below k3d_h.out (below_alloc _ _)
    case h1 =>
      have hmk := made_edges W4 m (by unfold maxLen; omega)
      have bA := below_alloc W4 (.cells (madeCells (Value.agg #[.int .i64 0, .int .i64 0, .slice none 0 0, .slice none 0 0]).cells (m * 4)) tEd)
      have hzA : (W4.alloc (.cells (madeCells (Value.agg #[.int .i64 0, .int .i64 0, .slice none 0 0, .slice none 0 0]).cells (m * 4)) tEd)).heap.size = W4.heap.size + 1 := World.size_alloc _ _
      have kA := box_below k3d_h.out bA
      have hWA := below_trans hbd_h.out bA hbd_h.out.size
      generalize W4.alloc (.cells (madeCells (Value.agg #[.int .i64 0, .int .i64 0, .slice none 0 0, .slice none 0 0]).cells (m * 4)) tEd) = W5 at hmk bA hzA kA hWA ⊢
      obtain ⟨W6, hW6, bW6, k6⟩ := alloc_box1g W5 (.cells #[.int .i64 0, .slice none 0 0, .slice none 0 0, .slice none 0 0] tGr)
      have kB := box_below kA bW6
      obtain ⟨s1, s2⟩ := set4 (a := .int .i64 (n : Int)) (b := .slice (some ⟨W4.heap.size, 0, none⟩) m m) (c := .slice X1 p X2) (d := .slice Y1 r Y2) k6
      have kC := box_keeps kB s2 (by omega)
      have hmk6 := (hmk.below bW6).keeps s2 (fun x hx e => by simp at hx; omega)
      have hWf := below_keeps (below_trans hWA bW6 hWA.size) s2 (Nat.le_trans hWA.size bW6.size) (fun x hx => by omega)
      obtain ⟨⟨y0, y1, y2, y3⟩, y4, y5, y6, y7⟩ := box4 k6
      clear hmk bA hWA bW6 s2
      have kA_h := Lib.hid kA
      have kB_h := Lib.hid kB
      have kC_h := Lib.hid kC
      have s1_h := Lib.hid s1
      have hmk6_h := Lib.hid hmk6
      have hWf_h := Lib.hid hWf
      have k6_h := Lib.hid k6
      have hzA_h := Lib.hid hzA
      clear kA kB kC s1 hmk6 hWf k6 hzA
      simp only [Act.put, List.setIfInBounds_toArray, List.set_cons_zero, List.set_cons_succ]
      refine takeH 10 (v := ?_) rfl (by kernel_rfl) (by kernel_rfl) (by kernel_rfl) (fun _ _ _ h => h) kA_h.out (by rfl) (fun W' hW' => ?_) ?_; rotate_left; · (skip; clear hW'; go_simp; first | done | with_reducible rfl)
      simp only [Act.put, List.setIfInBounds_toArray, List.set_cons_zero, List.set_cons_succ]
      refine oneH 11 rfl (by kernel_rfl) (by rfl) (fun K hK => ?_)
      go_simp
      rw [← hW6]
      refine hK _ _ kB_h.out ?_
      clear hK K hW6
      refine oneH 12 rfl (by kernel_rfl) (by rfl) (fun K hK => ?_)
      go_simp
      refine hK _ _ kC_h.out ?_
      clear hK K
      refine doneH (by kernel_rfl) ?_
      go_wp2_with (fail)
      go_meet
      exact ⟨_, ⟨W4.heap.size, 0, none⟩, rfl, s1_h.out, hmk6_h.out, by show W5.heap.size ≠ W4.heap.size; have := hzA_h.out; omega, by have := hzA_h.out; omega, by show W3.heap.size ≤ W4.heap.size; omega, hWf_h.out⟩
    case hS2 => exact box_below k3d_h.out (below_alloc _ _)
    case h2 =>
      have bA := below_alloc W4 (.cells #[.int .i64 0, .slice none 0 0, .slice none 0 0, .slice none 0 0] tGr)
      have kX := heap_alloc_new W4 (.cells #[.int .i64 0, .slice none 0 0, .slice none 0 0, .slice none 0 0] tGr)
      have hzA : (W4.alloc (.cells #[.int .i64 0, .slice none 0 0, .slice none 0 0, .slice none 0 0] tGr)).heap.size = W4.heap.size + 1 := World.size_alloc _ _
      have kA := box_below k3d_h.out bA
      have hWA := below_trans hbd_h.out bA hbd_h.out.size
      simp only [Act.put, List.setIfInBounds_toArray, List.set_cons_zero, List.set_cons_succ]
      generalize W4.alloc (.cells #[.int .i64 0, .slice none 0 0, .slice none 0 0, .slice none 0 0] tGr) = W5 at bA kX hzA kA hWA ⊢
      have hmk := made_edges W5 m (by unfold maxLen; omega)
      have bB := below_alloc W5 (.cells (madeCells (Value.agg #[.int .i64 0, .int .i64 0, .slice none 0 0, .slice none 0 0]).cells (m * 4)) tEd)
      have kB := box_below kA bB
      have kY := box_below kX bB
      have hWB := below_trans hWA bB hWA.size
      refine runH 9 rfl (by kernel_rfl) (by rfl) (run_makeOp _ _ _ rfl tEd Try.underlying29 info_ed m rfl rfl (by omega) (by unfold maxLen; omega)) kB ?_
      generalize W5.alloc (.cells (madeCells (Value.agg #[.int .i64 0, .int .i64 0, .slice none 0 0, .slice none 0 0]).cells (m * 4)) tEd) = W6 at hmk bB kB kY hWB ⊢
      obtain ⟨s1, s2⟩ := set4 (a := .int .i64 (n : Int)) (b := .slice (some ⟨W5.heap.size, 0, none⟩) m m) (c := .slice X1 p X2) (d := .slice Y1 r Y2) kY
      have kC := box_keeps kB s2 (by omega)
      have hmk6 := hmk.keeps s2 (fun x hx e => by simp at hx; omega)
      have hWf := below_keeps hWB s2 hWB.size (fun x hx => by omega)
      obtain ⟨⟨y0, y1, y2, y3⟩, y4, y5, y6, y7⟩ := box4 kY
      clear hmk bA bB hWA hWB s2 kX
      have kA_h := Lib.hid kA
      have kB_h := Lib.hid kB
      have kC_h := Lib.hid kC
      have s1_h := Lib.hid s1
      have hmk6_h := Lib.hid hmk6
      have hWf_h := Lib.hid hWf
      have kY_h := Lib.hid kY
      have hzA_h := Lib.hid hzA
      clear kA kB kC s1 hmk6 hWf kY hzA
      simp only [Act.put, List.setIfInBounds_toArray, List.set_cons_zero, List.set_cons_succ]
      refine takeH 10 (v := ?_) rfl (by kernel_rfl) (by kernel_rfl) (by kernel_rfl) (fun _ _ _ h => h) kB_h.out (by rfl) (fun W' hW' => ?_) ?_; rotate_left; · (skip; clear hW'; go_simp; first | done | with_reducible rfl)
      simp only [Act.put, List.setIfInBounds_toArray, List.set_cons_zero, List.set_cons_succ]
      refine oneH 12 rfl (by kernel_rfl) (by rfl) (fun K hK => ?_)
      go_simp
      refine hK _ _ kC_h.out ?_
      clear hK K
      refine doneH (by kernel_rfl) ?_
      go_wp2_with (fail)
      go_meet
      exact ⟨_, ⟨W5.heap.size, 0, none⟩, rfl, s1_h.out, hmk6_h.out, by show W4.heap.size ≠ W5.heap.size; have := hzA_h.out; omega, by omega, by show W3.heap.size ≤ W5.heap.size; have := hzA_h.out; omega, hWf_h.out⟩
  case rest =>
    obtain ⟨bx, G, rfl, kx, hslG, hne, hbx, hGb, hWc⟩ := hcut
    obtain ⟨w5, rfl⟩ : ∃ x, x = wc := ⟨_, rfl⟩
    have k3c := box_below k3_h.out hWc
    have hlt3 := box_lt k3_h.out
    clear c0 c1 c2 c3 f0 f1 f2 f3 d0 d1 d2 d3 g0 g1 g2 g3
    obtain ⟨⟨c0, c1, c2, c3⟩, f0, f1, f2, f3⟩ := box4 k3c
    have kx_h := Lib.hid kx
    have hslG_h := Lib.hid hslG
    have hWc_h := Lib.hid hWc
    have k3c_h := Lib.hid k3c
    have hne_h := Lib.hid hne
    clear kx hslG hWc k3c hne
    go_wp2_with (fail)
    clear c0 c1 c2 c3 f0 f1 f2 f3
    go_loopw [30] (fun i wr => ∃ k : Nat, k ≤ m ∧ i = .int .i64 k ∧ wr.heap[bx]? = some (.cells #[.int .i64 (n : Int), .slice (some G) m m, .slice X1 p X2, .slice Y1 r Y2] tGr) ∧ Sl wr tEd 4 (some G) m m (ecs (lay eh0 el ms k)) ∧ Below W3.heap.size W3 wr) (fun i _ => m - (intOf i).toNat)
    case atStart => exact ⟨0, Nat.zero_le _, rfl, kx_h.out, by rw [lay, hml_h.out]; exact hslG_h.out, hWc_h.out⟩
    case round =>
      clear kx_h hslG_h hWc_h
      obtain ⟨k, hk, rfl, kx, hslG, hWr⟩ := hrel
      have hBr := below_trans hB3_h.out hWr hB3_h.out.size
      by_cases hlt : k < m
      · obtain ⟨⟨κ, vv, ⟨B1, b1, s1⟩, ⟨C1, b2, t1⟩⟩, hn⟩ : ∃ x, ms[k]? = some x := ⟨_, List.getElem?_eq_getElem (by rw [hml_h.out]; exact hlt)⟩
        obtain ⟨ad, hA, -, d0, d1, d2, d3⟩ : ∃ ad, A1 = some ad ∧ True ∧ wr.cell? (ad.add (k * 4)) = some (.int .i64 κ) ∧ wr.cell? ⟨(ad.add (k * 4)).block, (ad.add (k * 4)).off + 1, none⟩ = some (.int .i64 vv) ∧ wr.cell? ⟨(ad.add (k * 4)).block, (ad.add (k * 4)).off + 2, none⟩ = some (.slice B1 s1.length b1) ∧ wr.cell? ⟨(ad.add (k * 4)).block, (ad.add (k * 4)).off + 3, none⟩ = some (.slice C1 t1.length b2) := by
          have hs := hsl3_h.out.below hWr
          obtain ⟨i0, i1, i2, i3⟩ := ecs_get hn
          obtain ⟨ad, hA, _, x0, _⟩ := Sl.cell hs i0
          obtain ⟨ad1, h1, _, x1, _⟩ := Sl.cell hs i1
          obtain ⟨ad2, h2, _, x2, _⟩ := Sl.cell hs i2
          obtain ⟨ad3, h3, _, x3, _⟩ := Sl.cell hs i3
          rw [hA] at h1 h2 h3
          obtain rfl := Option.some.inj h1
          obtain rfl := Option.some.inj h2
          obtain rfl := Option.some.inj h3
          rw [add_next _ _ 1 (by omega)] at x1
          rw [add_next _ _ 2 (by omega)] at x2
          rw [add_next _ _ 3 (by omega)] at x3
          exact ⟨ad, hA, trivial, x0, x1, x2, x3⟩
        subst hA
        obtain ⟨ud, y, rfl, hy, hyc⟩ := (hu_h.out.below hBr).at_ (j := k) (by rw [hel_h.out]; exact hlt)
        have hyin := perm_in hper_h.out y (List.mem_of_getElem? hy)
        rw [hel_h.out] at hyin
        obtain ⟨q, rfl⟩ : ∃ q : Nat, y = (q : Int) := ⟨y.toNat, by omega⟩
        have hqm : q < m := by omega
        have hlst : lay eh0 el ms (k + 1) = (lay eh0 el ms k).set q (κ, vv, (B1, b1, s1), (C1, b2, t1)) := by
          have e1 : el.getD k 0 = (q : Int) := by simp [List.getD, hy]
          have e2 : ms.getD k eh0 = (κ, vv, (B1, b1, s1), (C1, b2, t1)) := by simp [List.getD, hn]
          rw [lay, e1, e2]; rfl
        obtain ⟨p1, hp1⟩ : ∃ p1, p1 = s1.length := ⟨_, rfl⟩
        obtain ⟨r1, hr1'⟩ : ∃ r1, r1 = t1.length := ⟨_, rfl⟩
        obtain ⟨wo, rfl⟩ : ∃ x, x = wr := ⟨_, rfl⟩
        obtain ⟨W6, hW6, bW6, k6⟩ := alloc_box1g wo (.cells #[.int .i64 κ, .int .i64 vv, .slice B1 p1 b1, .slice C1 r1 b2] tEd)
        have kx6 := box_below kx bW6
        have hsl6 := hslG.below bW6
        have hW6b := below_trans hWr bW6 hWr.size
        have hGl := hslG.lt G.block (by simp)
        have hlen : (lay eh0 el ms k).length = m := by rw [lay_length, hml_h.out]
        have hud := (hu_h.out.below (below_trans hB3_h.out hW6b hB3_h.out.size))
        have hkI : (k : Int) < (m : Int) := by omega
        have hqI : (q : Int) < (m : Int) := by omega
        have hyc6 : W6.cell? (ud.add k) = some (.int .i64 (q : Int)) := (bW6.cell (World.block_lt_of_cell? _ _ hyc)).trans hyc
        rw [← hp1] at d2
        rw [← hr1'] at d3
        have hr1_h := Lib.hid hr1'
        have hxl := box_lt kx
        clear hr1' hyin hWr hBr kx hslG hud
        have hp1_h := Lib.hid hp1
        have bW6_h := Lib.hid bW6
        have k6_h := Lib.hid k6
        have kx6_h := Lib.hid kx6
        have hsl6_h := Lib.hid hsl6
        have hW6b_h := Lib.hid hW6b
        have hlst_h := Lib.hid hlst
        have hlen_h := Lib.hid hlen
        have hy_h := Lib.hid hy
        have hn_h := Lib.hid hn
        have hyc6_h := Lib.hid hyc6
        clear hp1 bW6 k6 kx6 hsl6 hW6b hlst hlen hy hn hyc6
        go_upto_region 6 with (fail)
        rw [← hW6]
        clear hW6 d0 d1 d2 d3 hyc
        refine beginH (fun w' => w'.heap[bx]? = some (.cells #[.int .i64 (n : Int), .slice (some G) m m, .slice X1 p X2, .slice Y1 r Y2] tGr) ∧ w'.heap[wo.heap.size]? = some (.cells #[.int .i64 κ, .int .i64 vv, .slice B1 p1 b1, .slice C1 r1 b2] tEd) ∧ w'.cell? (ud.add k) = some (.int .i64 (q : Int))) (by kernel_rfl) ?_
        have hbd : Below W6.heap.size W6 W6.drew := below_drew (Below.refl _ _)
        generalize W6.drew = W7 at hbd ⊢
        have hF := And.intro (box_below kx6_h.out hbd) (And.intro (box_below k6_h.out hbd) ((hbd.cell (World.block_lt_of_cell? _ _ hyc6_h.out)).trans hyc6_h.out))
        have hsl7 := hsl6_h.out.below hbd
        have hW7b := below_trans hW6b_h.out hbd hW6b_h.out.size
        obtain ⟨⟨⟨x0, e0⟩, g0⟩, ⟨⟨x1, e1⟩, g1⟩, ⟨⟨x2, e2⟩, g2⟩, ⟨x3, e3⟩, g3⟩ := ES.mid hsl7 hlen_h.out (j := q) κ vv (.slice B1 p1 b1) hqm
        obtain ⟨hset, hks⟩ := ES.set hsl7 hlen_h.out (ad := G) rfl (j := q) κ vv B1 C1 b1 b2 s1 t1 hqm
        rw [← hlst_h.out, ← hp1_h.out, ← hr1_h.out] at hset
        rw [← hp1_h.out, ← hr1_h.out] at hks
        have hudG : ud.block ≠ G.block := by
          have h1 := World.block_lt_of_cell? w _ ((hu_h.out) k (q : Int) hy_h.out |>.choose_spec.2)
          obtain ⟨ud', hu1, hu2⟩ := hu_h.out k (q : Int) hy_h.out
          obtain rfl := Option.some.inj hu1
          have h2 := World.block_lt_of_cell? w _ hu2
          rw [block_of_add] at h2
          have := hB3_h.out.size
          omega
        have hF2 := And.intro (box_keeps hF.1 hks (by simp only [fpA_some, List.mem_singleton]; exact hne_h.out)) (And.intro (box_keeps hF.2.1 hks (by simp only [fpA_some, List.mem_singleton]; omega)) ((World.cell?_of_block (hks.block _ (World.block_lt_of_cell? _ _ hF.2.2) (by rw [block_of_add]; simp only [fpA_some, List.mem_singleton]; exact hudG))).trans hF.2.2))
        have hW8b := below_keeps hW7b hks hW7b.size (fun x hx => by simp at hx; omega)
        clear hbd hsl7 hW7b hks
        have hF_h := Lib.hid hF
        have hF2_h := Lib.hid hF2
        have hset_h := Lib.hid hset
        have hW8b_h := Lib.hid hW8b
        have hudG_h := Lib.hid hudG
        clear hF hF2 hset hW8b hudG
        refine takeH 0 (v := ?_) rfl (by kernel_rfl) (by kernel_rfl) (by kernel_rfl) (fun _ _ _ h => h) hF_h.out (by rfl) (fun W' hW' => ?_) ?_; rotate_left; · (obtain ⟨⟨y0, y1, y2, y3⟩, y4, y5, y6, y7⟩ := box4 hW'.1; obtain ⟨⟨z0, z1, z2, z3⟩, z4, z5, z6, z7⟩ := box4 hW'.2.1; have z8 := hW'.2.2; clear hW'; go_simp; first | done | with_reducible rfl)
        simp only [Act.put, List.setIfInBounds_toArray, List.set_cons_zero, List.set_cons_succ]
        refine takeH 1 (v := ?_) rfl (by kernel_rfl) (by kernel_rfl) (by kernel_rfl) (fun _ _ _ h => h) hF_h.out (by rfl) (fun W' hW' => ?_) ?_; rotate_left; · (obtain ⟨⟨y0, y1, y2, y3⟩, y4, y5, y6, y7⟩ := box4 hW'.1; obtain ⟨⟨z0, z1, z2, z3⟩, z4, z5, z6, z7⟩ := box4 hW'.2.1; have z8 := hW'.2.2; clear hW'; go_simp; first | done | with_reducible rfl)
        simp only [Act.put, List.setIfInBounds_toArray, List.set_cons_zero, List.set_cons_succ]
        refine takeH 2 (v := ?_) rfl (by kernel_rfl) (by kernel_rfl) (by kernel_rfl) (fun _ _ _ h => h) hF_h.out (by rfl) (fun W' hW' => ?_) ?_; rotate_left; · (obtain ⟨⟨y0, y1, y2, y3⟩, y4, y5, y6, y7⟩ := box4 hW'.1; obtain ⟨⟨z0, z1, z2, z3⟩, z4, z5, z6, z7⟩ := box4 hW'.2.1; have z8 := hW'.2.2; clear hW'; go_simp; first | done | with_reducible rfl)
        simp only [Act.put, List.setIfInBounds_toArray, List.set_cons_zero, List.set_cons_succ]
        refine takeH 3 (v := ?_) rfl (by kernel_rfl) (by kernel_rfl) (by kernel_rfl) (fun _ _ _ h => h) hF_h.out (by rfl) (fun W' hW' => ?_) ?_; rotate_left; · (obtain ⟨⟨y0, y1, y2, y3⟩, y4, y5, y6, y7⟩ := box4 hW'.1; obtain ⟨⟨z0, z1, z2, z3⟩, z4, z5, z6, z7⟩ := box4 hW'.2.1; have z8 := hW'.2.2; clear hW'; go_simp; first | done | with_reducible rfl)
        simp only [Act.put, List.setIfInBounds_toArray, List.set_cons_zero, List.set_cons_succ]
        refine takeH 4 (v := ?_) rfl (by kernel_rfl) (by kernel_rfl) (by kernel_rfl) (fun _ _ _ h => h) hF_h.out (by rfl) (fun W' hW' => ?_) ?_; rotate_left; · (obtain ⟨⟨y0, y1, y2, y3⟩, y4, y5, y6, y7⟩ := box4 hW'.1; obtain ⟨⟨z0, z1, z2, z3⟩, z4, z5, z6, z7⟩ := box4 hW'.2.1; have z8 := hW'.2.2; clear hW'; go_simp; first | done | with_reducible rfl)
        simp only [Act.put, List.setIfInBounds_toArray, List.set_cons_zero, List.set_cons_succ]
        refine takeH 5 (v := ?_) rfl (by kernel_rfl) (by kernel_rfl) (by kernel_rfl) (fun _ _ _ h => h) hF_h.out (by rfl) (fun W' hW' => ?_) ?_; rotate_left; · (obtain ⟨⟨y0, y1, y2, y3⟩, y4, y5, y6, y7⟩ := box4 hW'.1; obtain ⟨⟨z0, z1, z2, z3⟩, z4, z5, z6, z7⟩ := box4 hW'.2.1; have z8 := hW'.2.2; clear hW'; go_simp; first | done | with_reducible rfl)
        simp only [Act.put, List.setIfInBounds_toArray, List.set_cons_zero, List.set_cons_succ]
        refine takeH 6 (v := ?_) rfl (by kernel_rfl) (by kernel_rfl) (by kernel_rfl) (fun _ _ _ h => h) hF_h.out (by rfl) (fun W' hW' => ?_) ?_; rotate_left; · (obtain ⟨⟨y0, y1, y2, y3⟩, y4, y5, y6, y7⟩ := box4 hW'.1; obtain ⟨⟨z0, z1, z2, z3⟩, z4, z5, z6, z7⟩ := box4 hW'.2.1; have z8 := hW'.2.2; clear hW'; go_simp; first | done | with_reducible rfl)
        simp only [Act.put, List.setIfInBounds_toArray, List.set_cons_zero, List.set_cons_succ]
        refine takeH 7 (v := ?_) rfl (by kernel_rfl) (by kernel_rfl) (by kernel_rfl) (fun _ _ _ h => h) hF_h.out (by rfl) (fun W' hW' => ?_) ?_; rotate_left; · (skip; clear hW'; go_simp; first | done | with_reducible rfl)
        simp only [Act.put, List.setIfInBounds_toArray, List.set_cons_zero, List.set_cons_succ]
        refine oneH 8 rfl (by kernel_rfl) (by rfl) (fun K hK => ?_)
        go_simp
        refine hK _ _ hF2_h.out ?_
        clear hK K
        refine doneH (by kernel_rfl) ?_
        go_wp2_with (fail)
        go_roundw
        case rel => exact ⟨k + 1, by omega, by go_num, hF2_h.out.1, hset_h.out, hW8b_h.out⟩
        case measure => simp [intOf]; omega
      · obtain rfl : m = k := by omega
        have k1r := box_below k1b_h.out hWr
        obtain ⟨t1', t2'⟩ := set4 (a := .int .i64 (n : Int)) (b := .slice (some G) m m) (c := .slice X1 p X2) (d := .slice Y1 r Y2) k1r
        have hk1W := box_lt k1_h.out
        have hLsr := hLs3_h.out.below hWr
        have hw13 := bW3_h.out.size
        have hLsG : OwLs wr (fpA (some G)) ((X1, X2, mapL ws s) :: (Y1, Y2, mapL ws t) :: eh ms) := ⟨hLsr.rows, hLsr.apart, fun x hx b hb hb' => by
          have h1 := (hlt1_h.out b (List.mem_append_right _ (mem_fpR.2 ⟨x, hx, hb⟩))).2
          simp at hb'; omega⟩
        have hsl2 := hslG.keeps t2' (fun x hx e => by simp at hx; omega)
        have hLs2 := hLsG.keeps t2' (fun x hx e => by have := (hlt1_h.out x (List.mem_append_right _ hx)).1; omega)
        have hB9 := below_keeps hBr t2' hBr.size (fun x hx => by omega)
        have hOw := ren_ow (g := ((n : Int), es, s, t)) (ws := ws) (X := (X1, X2, mapL ws s)) (Y := (Y1, Y2, mapL ws t)) hms_h.out hml_h.out hel_h.out hper_h.out rfl rfl rfl hsl2 hLs2
        simp only [mapL_length] at hOw
        rw [← hp_h.out, ← hr_h.out, ← hGf_h.out] at hOw
        have hfw : FreshL w.heap.size (fpA (some G) ++ fpR (((X1, X2, mapL ws s) : Hd) :: (Y1, Y2, mapL ws t) :: eh (lay eh0 el ms m))) := fun x hx => by
          have hwW := bW_h.out.size
          rcases List.mem_append.1 hx with hx | hx
          · simp at hx; have := hB3_h.out.size; omega
          · have := (hlt1_h.out x (List.mem_append_right _ (ren_fp hml_h.out hel_h.out hper_h.out hx))).1; omega
        obtain ⟨⟨c0, c1, c2, c3⟩, f0, f1, f2, f3⟩ := box4 kx
        obtain ⟨⟨d0, d1, d2, d3⟩, g0, g1, g2, g3⟩ := box4 k1r
        clear hslG hLsr hLsG t2' k1r kx hWr hBr hsl2 hLs2
        have t1'_h := Lib.hid t1'
        have hB9_h := Lib.hid hB9
        have hfw_h := Lib.hid hfw
        have hOw_h := Lib.hid hOw
        clear t1' hB9 hfw hOw
        go_wp2_with (fail)
        refine bodyPost_ret (results_cell_row rfl _ _ (w.heap.size + 1) _ _ (0, 0) _ rfl t1'_h.out Try.underlying31 rfl (by kernel_rfl)) rfl ?_
        exact ⟨_, _, rfl, hOw_h.out, hfw_h.out, hB9_h.out⟩

set_option maxRecDepth 100000 in
set_option maxHeartbeats 8000000 in
theorem hgRenumber_any {v : Value} {g : Gr} (w : World) (n m : Nat) (T : Option Addr) (tc : Nat) (ws : List Int) (U : Option Addr) (uc : Nat) (el : List Int) (h : RdGr w v g) (ok : OkG g) (ht : RdI w T ws) (hu : RdI w U el) (hgn : g.1 = (n : Int)) (hgm : g.2.1.length = m) (htn : ws.length = n) (hel : el.length = m) (hin : inW (n : Int) (allW g) = true) (hper : permB el = true) (hmb : m ≤ 60) :
    Calls Try.prog 53 #[v, .slice T n tc, .slice U m uc] w fun e w' => ∃ v' fp, e = .returned v' ∧ OwGr w' v' (renG g ws el) fp ∧ FreshL w.heap.size fp ∧ Below w.heap.size w w' := by
  have hG0 := h
  obtain ⟨A, c, hs, ⟨B, b, s⟩, ⟨C, d, t⟩, rfl, e1, e2, e3, hE, hRa, hRb⟩ := h
  obtain ⟨z, es, s0, t0⟩ := g
  have a1 : es = hs.map egOf := e1
  have a2 : s = s0 := e2
  have a3 : t = t0 := e3
  have a4 : z = (n : Int) := hgn
  subst a2 a3 a4
  have hm : m = hs.length := by have : es.length = m := hgm; rw [← this, a1, List.length_map]
  obtain ⟨p, hp⟩ : ∃ p, p = s.length := ⟨_, rfl⟩
  obtain ⟨r, hr⟩ : ∃ r, r = t.length := ⟨_, rfl⟩
  change RdGr w (.agg #[.int .i64 (n : Int), .slice A hs.length c, .slice B s.length b, .slice C t.length d]) ((n : Int), es, s, t) at hG0
  show Calls Try.prog _ #[.agg #[.int .i64 (n : Int), .slice A hs.length c, .slice B s.length b, .slice C t.length d], .slice T n tc, .slice U m uc] w _
  rw [← hm, ← hp, ← hr] at hG0 ⊢
  obtain ⟨Gf, hGf⟩ : ∃ Gf, Gf = renG ((n : Int), es, s, t) ws el := ⟨_, rfl⟩
  rw [← hGf]
  obtain ⟨W, hW, bW, k0, k1⟩ := allocs2 w (.cells #[.int .i64 (n : Int), .slice A m c, .slice B p b, .slice C r d] tGr) (.cells #[.int .i64 0, .slice none 0 0, .slice none 0 0, .slice none 0 0] tGr)
  have hM := hgMap_any W (n : Int) T tc n ws (hG0.below bW) ok (ht.below bW) htn hin
  clear hE hRa hRb e1 e2 e3 hgn hG0 ok hin
  obtain ⟨⟨c0, c1, c2, c3⟩, f0, f1, f2, f3⟩ := box4 k0
  have hM_h := Lib.hid hM
  have hm_h := Lib.hid hm
  have hp_h := Lib.hid hp
  have hr_h := Lib.hid hr
  have a1_h := Lib.hid a1
  have bW_h := Lib.hid bW
  have k0_h := Lib.hid k0
  have k1_h := Lib.hid k1
  have ht_h := Lib.hid ht
  have hu_h := Lib.hid hu
  have htn_h := Lib.hid htn
  have hel_h := Lib.hid hel
  have hper_h := Lib.hid hper
  have hGf_h := Lib.hid hGf
  have hgm_h := Lib.hid hgm
  clear hM hm hp hr a1 bW k0 k1 ht hu htn hel hper hGf hgm
  go_enter Try.func53, Try.ntmps53
  go_upto_region 1 with (fail)
  rw [← hW]
  clear hW
  go_wp2_with (fail)
  refine (hM_h.out).mono ?_
  rintro e w1 ⟨v1, fp1, rfl, hO1, hf1, hb1⟩
  obtain ⟨A1, q1, ms, ⟨X1, X2, X3⟩, ⟨Y1, Y2, Y3⟩, rfl, m1, m2, m3, hsl1, hLs1, rfl⟩ := hO1
  have hms : ms.map egOf = es.map (mapE ws) := m1.symm
  have hX3 : X3 = mapL ws s := m2
  have hY3 : Y3 = mapL ws t := m3
  subst hX3 hY3
  have hml : ms.length = m := by have := congrArg List.length hms; rw [List.length_map, List.length_map] at this; rw [this]; exact hgm_h.out
  simp only [mapL_length] at *
  rw [hml, ← hp_h.out, ← hr_h.out]
  have e0 : (mapG ws (n : Int) ((n : Int), es, s, t)).1 = (n : Int) := rfl
  rw [e0]
  clear m1 m2 m3 e0
  have k0a := box_below k0_h.out hb1
  have k1a := box_below k1_h.out hb1
  have hB1 := below_trans bW_h.out hb1 bW_h.out.size
  have hws := hb1.size
  rw [hml] at hsl1
  clear c0 c1 c2 c3 f0 f1 f2 f3
  obtain ⟨W3, hW3, bW3, k3⟩ := alloc_box1g w1 (.cells #[.int .i64 (n : Int), .slice A1 m q1, .slice X1 p X2, .slice Y1 r Y2] tGr)
  have k0b := box_below k0a bW3
  have k1b := box_below k1a bW3
  have hB3 := below_trans hB1 bW3 hB1.size
  have hsl3 := hsl1.below bW3
  have hLs3 := hLs1.below bW3
  have hlt1 : ∀ x, x ∈ fpA A1 ++ fpR (((X1, X2, mapL ws s) : Hd) :: (Y1, Y2, mapL ws t) :: eh ms) → W.heap.size ≤ x ∧ x < w1.heap.size := fun x hx => ⟨hf1 x hx, by
    rcases List.mem_append.1 hx with hx | hx
    · exact hsl1.lt x hx
    · exact hLs1.lt x hx⟩
  obtain ⟨⟨c0, c1, c2, c3⟩, f0, f1, f2, f3⟩ := box4 k3
  obtain ⟨⟨d0, d1, d2, d3⟩, g0, g1, g2, g3⟩ := box4 k0b
  clear k0a k1a hB1 hsl1 hLs1 hb1 hf1
  have k3_h := Lib.hid k3
  have k0b_h := Lib.hid k0b
  have k1b_h := Lib.hid k1b
  have hB3_h := Lib.hid hB3
  have hsl3_h := Lib.hid hsl3
  have hLs3_h := Lib.hid hLs3
  have hlt1_h := Lib.hid hlt1
  have hms_h := Lib.hid hms
  have hml_h := Lib.hid hml
  have bW3_h := Lib.hid bW3
  clear k3 k0b k1b hB3 hsl3 hLs3 hlt1 hms hml bW3
  go_upto_region 2 with (fail)
  rw [← hW3]
  clear hW3
  obtain ⟨W4, hW4, bW4, k4⟩ := alloc_box1g W3 (.cells #[.int .i64 (n : Int), .slice none 0 0, .slice X1 p X2, .slice Y1 r Y2] tGr)
  have k3d := box_below k3_h.out bW4
  have hlt3 := box_lt k3_h.out
  have bW4_h := Lib.hid bW4
  have k4_h := Lib.hid k4
  have k3d_h := Lib.hid k3d
  clear bW4 k4 k3d
  go_upto_region 3 with (fail)
  rw [← hW4]
  clear hW4 c0 c1 c2 c3 f0 f1 f2 f3 d0 d1 d2 d3 g0 g1 g2 g3
  go_upto_if 25 with (fail)
  go_cut [] (fun wx => ∃ (G : Option Addr) (gc : Nat), wx.heap[W3.heap.size]? = some (.cells #[.int .i64 (n : Int), .slice G m gc, .slice X1 p X2, .slice Y1 r Y2] tGr) ∧ Sl wx tEd 4 G m gc (ecs (List.replicate m eh0)) ∧ (∀ x, x ∈ fpA G → W4.heap.size ≤ x) ∧ Below W3.heap.size W3 wx)
  case first =>
    by_cases hm0 : m = 0
    · have hm1 : ¬ ((0 : Int) < (m : Int)) := by omega
      have e1 : (Value.slice none 0 0) = .slice none m 0 := by rw [hm0]
      have e2 : Sl W4 tEd 4 none m 0 (ecs (List.replicate m eh0)) := by rw [hm0]; exact Sl.nil _ _ _
      have hm0_h := Lib.hid hm0
      clear hm0
      have e1_h := Lib.hid e1
      have e2_h := Lib.hid e2
      clear e1 e2
      go_wp2_with (fail)
      go_meet
      exact ⟨none, 0, by rw [← e1_h.out]; exact k4_h.out, e2_h.out, fun x hx => (by cases hx), bW4_h.out⟩
    · have hm1 : (0 : Int) < (m : Int) := by omega
      obtain ⟨⟨c0, c1, c2, c3⟩, f0, f1, f2, f3⟩ := box4 k4_h.out
      go_wp2_with (at_make; refine wpList_make_Sl _ rfl _ _ _ rfl tEd Try.underlying29 info_ed m m rfl rfl rfl rfl (Nat.le_refl _) (by omega) (by unfold maxLen; omega) ?_; intro G w5 hs5 hG5 hb5; have kx5 := box_below k4_h.out hb5; clear c0 c1 c2 c3 f0 f1 f2 f3; obtain ⟨⟨c0, c1, c2, c3⟩, f0, f1, f2, f3⟩ := box4 kx5; have kx5_h := Lib.hid kx5; clear kx5)
      have hs6 : Sl w5 tEd 4 (some G) m m (ecs (List.replicate m eh0)) := by rw [← madeEdges]; exact hs5
      obtain ⟨s1, s2⟩ := box_set kx5_h.out 1 (.slice (some G) m m)
      have s3 : (w5.setCell ⟨W3.heap.size, 1, none⟩ (.slice (some G) m m)).heap[W3.heap.size]? = some (.cells #[.int .i64 (n : Int), .slice (some G) m m, .slice X1 p X2, .slice Y1 r Y2] tGr) := s1
      have h4 := box_lt k4_h.out
      have hs7 := hs6.keeps s2 (fun x hx e => by simp at hx; omega)
      have hW7 := below_keeps (below_trans bW4_h.out hb5 bW4_h.out.size) s2 (Nat.le_trans bW4_h.out.size hb5.size) (fun x hx => by omega)
      go_meet
      exact ⟨some G, m, s3, hs7, fun x hx => by simp at hx; omega, hW7⟩
  case rest =>
    obtain ⟨G, gc, kx, hslG, hGb, hWc⟩ := hcut
    obtain ⟨w5, rfl⟩ : ∃ x, x = wc := ⟨_, rfl⟩
    have h34 := bW4_h.out.size
    have h4 := box_lt k4_h.out
    have kx_h := Lib.hid kx
    have hslG_h := Lib.hid hslG
    have hWc_h := Lib.hid hWc
    have hGb_h := Lib.hid hGb
    clear kx hslG hWc hGb
    go_wp2_with (fail)
    go_loopw [32] (fun i wr => ∃ k : Nat, k ≤ m ∧ i = .int .i64 k ∧ wr.heap[W3.heap.size]? = some (.cells #[.int .i64 (n : Int), .slice G m gc, .slice X1 p X2, .slice Y1 r Y2] tGr) ∧ Sl wr tEd 4 G m gc (ecs (lay eh0 el ms k)) ∧ Below W3.heap.size W3 wr) (fun i _ => m - (intOf i).toNat)
    case atStart => exact ⟨0, Nat.zero_le _, rfl, kx_h.out, by rw [lay, hml_h.out]; exact hslG_h.out, hWc_h.out⟩
    case round =>
      clear kx_h hslG_h hWc_h
      obtain ⟨k, hk, rfl, kx, hslG, hWr⟩ := hrel
      have hBr := below_trans hB3_h.out hWr hB3_h.out.size
      by_cases hlt : k < m
      · obtain ⟨⟨κ, vv, ⟨B1, b1, s1⟩, ⟨C1, b2, t1⟩⟩, hn⟩ : ∃ x, ms[k]? = some x := ⟨_, List.getElem?_eq_getElem (by rw [hml_h.out]; exact hlt)⟩
        obtain ⟨ad, hA, hab, d0, d1, d2, d3⟩ : ∃ ad, A1 = some ad ∧ True ∧ wr.cell? (ad.add (k * 4)) = some (.int .i64 κ) ∧ wr.cell? ⟨(ad.add (k * 4)).block, (ad.add (k * 4)).off + 1, none⟩ = some (.int .i64 vv) ∧ wr.cell? ⟨(ad.add (k * 4)).block, (ad.add (k * 4)).off + 2, none⟩ = some (.slice B1 s1.length b1) ∧ wr.cell? ⟨(ad.add (k * 4)).block, (ad.add (k * 4)).off + 3, none⟩ = some (.slice C1 t1.length b2) := by
          have hs := hsl3_h.out.below hWr
          obtain ⟨i0, i1, i2, i3⟩ := ecs_get hn
          obtain ⟨ad, hA, _, x0, _⟩ := Sl.cell hs i0
          obtain ⟨ad1, h1, _, x1, _⟩ := Sl.cell hs i1
          obtain ⟨ad2, h2, _, x2, _⟩ := Sl.cell hs i2
          obtain ⟨ad3, h3, _, x3, _⟩ := Sl.cell hs i3
          rw [hA] at h1 h2 h3
          obtain rfl := Option.some.inj h1
          obtain rfl := Option.some.inj h2
          obtain rfl := Option.some.inj h3
          rw [add_next _ _ 1 (by omega)] at x1
          rw [add_next _ _ 2 (by omega)] at x2
          rw [add_next _ _ 3 (by omega)] at x3
          exact ⟨ad, hA, trivial, x0, x1, x2, x3⟩
        subst hA
        have hadb : ad.block < w1.heap.size := (hlt1_h.out ad.block (List.mem_append_left _ (by simp))).2
        obtain ⟨ud, y, rfl, hy, hyc⟩ := (hu_h.out.below hBr).at_ (j := k) (by rw [hel_h.out]; exact hlt)
        have hyin := perm_in hper_h.out y (List.mem_of_getElem? hy)
        rw [hel_h.out] at hyin
        obtain ⟨q, rfl⟩ : ∃ q : Nat, y = (q : Int) := ⟨y.toNat, by omega⟩
        have hqm : q < m := by omega
        have hlst : lay eh0 el ms (k + 1) = (lay eh0 el ms k).set q (κ, vv, (B1, b1, s1), (C1, b2, t1)) := by
          have e1 : el.getD k 0 = (q : Int) := by simp [List.getD, hy]
          have e2 : ms.getD k eh0 = (κ, vv, (B1, b1, s1), (C1, b2, t1)) := by simp [List.getD, hn]
          rw [lay, e1, e2]; rfl
        obtain ⟨p1, hp1⟩ : ∃ p1, p1 = s1.length := ⟨_, rfl⟩
        obtain ⟨r1, hr1'⟩ : ∃ r1, r1 = t1.length := ⟨_, rfl⟩
        have hlen : (lay eh0 el ms k).length = m := by rw [lay_length, hml_h.out]
        obtain ⟨gd, rfl, hgl, -⟩ : ∃ gd, G = some gd ∧ gd.block < wr.heap.size ∧ True := by
          obtain ⟨u, hu⟩ : ∃ u, (ecs (lay eh0 el ms k))[0]? = some u := ⟨_, List.getElem?_eq_getElem (by rw [ecs_length, hlen]; omega)⟩
          obtain ⟨gd, h1, h2, _⟩ := Sl.cell hslG hu
          exact ⟨gd, h1, h2, trivial⟩
        have hgb := hGb_h.out gd.block (by simp)
        have k3r := box_below k3_h.out hWr
        have hkI : (k : Int) < (m : Int) := by omega
        have hqI : (q : Int) < (m : Int) := by omega
        rw [← hp1] at d2
        rw [← hr1'] at d3
        have hr1_h := Lib.hid hr1'
        have hw13 := bW3_h.out.size
        have hall : wr.heap[W3.heap.size]? = some (.cells #[.int .i64 (n : Int), .slice (some gd) m gc, .slice X1 p X2, .slice Y1 r Y2] tGr) ∧ wr.heap[w1.heap.size]? = some (.cells #[.int .i64 (n : Int), .slice (some ad) m q1, .slice X1 p X2, .slice Y1 r Y2] tGr) ∧ wr.cell? (ad.add (k * 4)) = some (.int .i64 κ) ∧ wr.cell? ⟨(ad.add (k * 4)).block, (ad.add (k * 4)).off + 1, none⟩ = some (.int .i64 vv) ∧ wr.cell? ⟨(ad.add (k * 4)).block, (ad.add (k * 4)).off + 2, none⟩ = some (.slice B1 p1 b1) ∧ wr.cell? ⟨(ad.add (k * 4)).block, (ad.add (k * 4)).off + 3, none⟩ = some (.slice C1 r1 b2) := ⟨kx, k3r, d0, d1, d2, d3⟩
        clear hr1' hyin hBr kx d0 d1 d2 d3 k3r hab
        have hp1_h := Lib.hid hp1
        have hall_h := Lib.hid hall
        have hslG_h := Lib.hid hslG
        have hWr_h := Lib.hid hWr
        have hlst_h := Lib.hid hlst
        have hlen_h := Lib.hid hlen
        have hy_h := Lib.hid hy
        have hn_h := Lib.hid hn
        clear hp1 hall hslG hWr hlst hlen hy hn
        go_wp2_with (fail)
        refine beginH (fun w' => w'.heap[W3.heap.size]? = some (.cells #[.int .i64 (n : Int), .slice (some gd) m gc, .slice X1 p X2, .slice Y1 r Y2] tGr) ∧ w'.heap[w1.heap.size]? = some (.cells #[.int .i64 (n : Int), .slice (some ad) m q1, .slice X1 p X2, .slice Y1 r Y2] tGr) ∧ w'.cell? (ad.add (k * 4)) = some (.int .i64 κ) ∧ w'.cell? ⟨(ad.add (k * 4)).block, (ad.add (k * 4)).off + 1, none⟩ = some (.int .i64 vv) ∧ w'.cell? ⟨(ad.add (k * 4)).block, (ad.add (k * 4)).off + 2, none⟩ = some (.slice B1 p1 b1) ∧ w'.cell? ⟨(ad.add (k * 4)).block, (ad.add (k * 4)).off + 3, none⟩ = some (.slice C1 r1 b2)) (by kernel_rfl) ?_
        have hbd : Below wr.heap.size wr wr.drew := below_drew (Below.refl _ _)
        generalize wr.drew = W7 at hbd ⊢
        have hcb : ∀ (a : Addr) u, wr.cell? a = some u → W7.cell? a = some u := fun a u h => (hbd.cell (World.block_lt_of_cell? _ _ h)).trans h
        obtain ⟨a0, a1', a2, a3, a4, a5⟩ := hall_h.out
        have hF := And.intro (box_below a0 hbd) (And.intro (box_below a1' hbd) (And.intro (hcb _ _ a2) (And.intro (hcb _ _ a3) (And.intro (hcb _ _ a4) (hcb _ _ a5)))))
        clear a0 a1' a2 a3 a4 a5 hcb
        have hsl7 := hslG_h.out.below hbd
        have hW7b := below_trans hWr_h.out hbd hWr_h.out.size
        obtain ⟨⟨⟨x0, e0⟩, g0⟩, ⟨⟨x1, e1⟩, g1⟩, ⟨⟨x2, e2⟩, g2⟩, ⟨x3, e3⟩, g3⟩ := ES.mid hsl7 hlen_h.out (j := q) κ vv (.slice B1 p1 b1) hqm
        obtain ⟨hset, hks⟩ := ES.set hsl7 hlen_h.out (ad := gd) rfl (j := q) κ vv B1 C1 b1 b2 s1 t1 hqm
        rw [← hlst_h.out, ← hp1_h.out, ← hr1_h.out] at hset
        rw [← hp1_h.out, ← hr1_h.out] at hks
        have hne1 : ad.block ≠ gd.block := by omega
        have hkc : ∀ (a : Addr) u W', Keeps (· ∈ fpA (some gd)) W7 W' → a.block = ad.block → W7.cell? a = some u → W'.cell? a = some u := fun a u W' hk he h => (World.cell?_of_block (hk.block _ (World.block_lt_of_cell? _ _ h) (by rw [he]; simp only [fpA_some, List.mem_singleton]; exact hne1))).trans h
        obtain ⟨a0, a1', a2, a3, a4, a5⟩ := hF
        have hF2 := And.intro (box_keeps a0 hks (by simp only [fpA_some, List.mem_singleton]; omega)) (And.intro (box_keeps a1' hks (by simp only [fpA_some, List.mem_singleton]; omega)) (And.intro (hkc _ _ _ hks (by exact block_of_add ad (k * 4)) a2) (And.intro (hkc _ _ _ hks (by exact block_of_add ad (k * 4)) a3) (And.intro (hkc _ _ _ hks (by exact block_of_add ad (k * 4)) a4) (hkc _ _ _ hks (by exact block_of_add ad (k * 4)) a5)))))
        have hF := And.intro a0 (And.intro a1' (And.intro a2 (And.intro a3 (And.intro a4 a5))))
        have hW8b := below_keeps hW7b hks hW7b.size (fun x hx => by simp at hx; omega)
        clear hbd hsl7 hW7b hks hkc a0 a1' a2 a3 a4 a5
        have hF_h := Lib.hid hF
        have hF2_h := Lib.hid hF2
        have hset_h := Lib.hid hset
        have hW8b_h := Lib.hid hW8b
        clear hF hF2 hset hW8b
        refine takeH 0 (v := ?_) rfl (by kernel_rfl) (by kernel_rfl) (by kernel_rfl) (fun _ _ _ h => h) hF_h.out (by rfl) (fun W' hW' => ?_) ?_; rotate_left; · (obtain ⟨⟨y0, y1, y2, y3⟩, y4, y5, y6, y7⟩ := box4 hW'.1; obtain ⟨⟨z0, z1, z2, z3⟩, z4, z5, z6, z7⟩ := box4 hW'.2.1; obtain ⟨v0, v1, v2, v3⟩ := hW'.2.2; clear hW'; go_simp; first | done | with_reducible rfl)
        simp only [Act.put, List.setIfInBounds_toArray, List.set_cons_zero, List.set_cons_succ]
        refine takeH 1 (v := ?_) rfl (by kernel_rfl) (by kernel_rfl) (by kernel_rfl) (fun _ _ _ h => h) hF_h.out (by rfl) (fun W' hW' => ?_) ?_; rotate_left; · (obtain ⟨⟨y0, y1, y2, y3⟩, y4, y5, y6, y7⟩ := box4 hW'.1; obtain ⟨⟨z0, z1, z2, z3⟩, z4, z5, z6, z7⟩ := box4 hW'.2.1; obtain ⟨v0, v1, v2, v3⟩ := hW'.2.2; clear hW'; go_simp; first | done | with_reducible rfl)
        simp only [Act.put, List.setIfInBounds_toArray, List.set_cons_zero, List.set_cons_succ]
        refine takeH 2 (v := ?_) rfl (by kernel_rfl) (by kernel_rfl) (by kernel_rfl) (fun _ _ _ h => h) hF_h.out (by rfl) (fun W' hW' => ?_) ?_; rotate_left; · (obtain ⟨⟨y0, y1, y2, y3⟩, y4, y5, y6, y7⟩ := box4 hW'.1; obtain ⟨⟨z0, z1, z2, z3⟩, z4, z5, z6, z7⟩ := box4 hW'.2.1; obtain ⟨v0, v1, v2, v3⟩ := hW'.2.2; clear hW'; go_simp; first | done | with_reducible rfl)
        simp only [Act.put, List.setIfInBounds_toArray, List.set_cons_zero, List.set_cons_succ]
        refine takeH 3 (v := ?_) rfl (by kernel_rfl) (by kernel_rfl) (by kernel_rfl) (fun _ _ _ h => h) hF_h.out (by rfl) (fun W' hW' => ?_) ?_; rotate_left; · (obtain ⟨⟨y0, y1, y2, y3⟩, y4, y5, y6, y7⟩ := box4 hW'.1; obtain ⟨⟨z0, z1, z2, z3⟩, z4, z5, z6, z7⟩ := box4 hW'.2.1; obtain ⟨v0, v1, v2, v3⟩ := hW'.2.2; clear hW'; go_simp; first | done | with_reducible rfl)
        simp only [Act.put, List.setIfInBounds_toArray, List.set_cons_zero, List.set_cons_succ]
        refine takeH 4 (v := ?_) rfl (by kernel_rfl) (by kernel_rfl) (by kernel_rfl) (fun _ _ _ h => h) hF_h.out (by rfl) (fun W' hW' => ?_) ?_; rotate_left; · (obtain ⟨⟨y0, y1, y2, y3⟩, y4, y5, y6, y7⟩ := box4 hW'.1; obtain ⟨⟨z0, z1, z2, z3⟩, z4, z5, z6, z7⟩ := box4 hW'.2.1; obtain ⟨v0, v1, v2, v3⟩ := hW'.2.2; clear hW'; go_simp; first | done | with_reducible rfl)
        simp only [Act.put, List.setIfInBounds_toArray, List.set_cons_zero, List.set_cons_succ]
        refine takeH 5 (v := ?_) rfl (by kernel_rfl) (by kernel_rfl) (by kernel_rfl) (fun _ _ _ h => h) hF_h.out (by rfl) (fun W' hW' => ?_) ?_; rotate_left; · (obtain ⟨⟨y0, y1, y2, y3⟩, y4, y5, y6, y7⟩ := box4 hW'.1; obtain ⟨⟨z0, z1, z2, z3⟩, z4, z5, z6, z7⟩ := box4 hW'.2.1; obtain ⟨v0, v1, v2, v3⟩ := hW'.2.2; clear hW'; go_simp; first | done | with_reducible rfl)
        simp only [Act.put, List.setIfInBounds_toArray, List.set_cons_zero, List.set_cons_succ]
        refine takeH 6 (v := ?_) rfl (by kernel_rfl) (by kernel_rfl) (by kernel_rfl) (fun _ _ _ h => h) hF_h.out (by rfl) (fun W' hW' => ?_) ?_; rotate_left; · (obtain ⟨⟨y0, y1, y2, y3⟩, y4, y5, y6, y7⟩ := box4 hW'.1; obtain ⟨⟨z0, z1, z2, z3⟩, z4, z5, z6, z7⟩ := box4 hW'.2.1; obtain ⟨v0, v1, v2, v3⟩ := hW'.2.2; clear hW'; go_simp; first | done | with_reducible rfl)
        simp only [Act.put, List.setIfInBounds_toArray, List.set_cons_zero, List.set_cons_succ]
        refine takeH 7 (v := ?_) rfl (by kernel_rfl) (by kernel_rfl) (by kernel_rfl) (fun _ _ _ h => h) hF_h.out (by rfl) (fun W' hW' => ?_) ?_; rotate_left; · (obtain ⟨⟨y0, y1, y2, y3⟩, y4, y5, y6, y7⟩ := box4 hW'.1; obtain ⟨⟨z0, z1, z2, z3⟩, z4, z5, z6, z7⟩ := box4 hW'.2.1; obtain ⟨v0, v1, v2, v3⟩ := hW'.2.2; clear hW'; go_simp; first | done | with_reducible rfl)
        simp only [Act.put, List.setIfInBounds_toArray, List.set_cons_zero, List.set_cons_succ]
        refine takeH 8 (v := ?_) rfl (by kernel_rfl) (by kernel_rfl) (by kernel_rfl) (fun _ _ _ h => h) hF_h.out (by rfl) (fun W' hW' => ?_) ?_; rotate_left; · (obtain ⟨⟨y0, y1, y2, y3⟩, y4, y5, y6, y7⟩ := box4 hW'.1; obtain ⟨⟨z0, z1, z2, z3⟩, z4, z5, z6, z7⟩ := box4 hW'.2.1; obtain ⟨v0, v1, v2, v3⟩ := hW'.2.2; clear hW'; go_simp; first | done | with_reducible rfl)
        simp only [Act.put, List.setIfInBounds_toArray, List.set_cons_zero, List.set_cons_succ]
        refine oneH 9 rfl (by kernel_rfl) (by rfl) (fun K hK => ?_)
        go_simp
        refine hK _ _ hF2_h.out ?_
        clear hK K
        refine doneH (by kernel_rfl) ?_
        go_wp2_with (fail)
        go_roundw
        case rel => exact ⟨k + 1, by omega, by go_num, hF2_h.out.1, hset_h.out, hW8b_h.out⟩
        case measure => simp [intOf]; omega
      · obtain rfl : m = k := by omega
        have k1r := box_below k1b_h.out hWr
        obtain ⟨t1', t2'⟩ := set4 (a := .int .i64 (n : Int)) (b := .slice G m gc) (c := .slice X1 p X2) (d := .slice Y1 r Y2) k1r
        have hk1W := box_lt k1_h.out
        have hLsr := hLs3_h.out.below hWr
        have hw13 := bW3_h.out.size
        have hLsG : OwLs wr (fpA G) ((X1, X2, mapL ws s) :: (Y1, Y2, mapL ws t) :: eh ms) := ⟨hLsr.rows, hLsr.apart, fun x hx b hb hb' => by
          have h1 := (hlt1_h.out b (List.mem_append_right _ (mem_fpR.2 ⟨x, hx, hb⟩))).2
          have := hGb_h.out b hb'; omega⟩
        have hsl2 := hslG.keeps t2' (fun x hx e => by have := hGb_h.out x hx; have := hB3_h.out.size; omega)
        have hLs2 := hLsG.keeps t2' (fun x hx e => by have := (hlt1_h.out x (List.mem_append_right _ hx)).1; omega)
        have hB9 := below_keeps hBr t2' hBr.size (fun x hx => by omega)
        have hOw := ren_ow (g := ((n : Int), es, s, t)) (ws := ws) (X := (X1, X2, mapL ws s)) (Y := (Y1, Y2, mapL ws t)) hms_h.out hml_h.out hel_h.out hper_h.out rfl rfl rfl hsl2 hLs2
        simp only [mapL_length] at hOw
        rw [← hp_h.out, ← hr_h.out, ← hGf_h.out] at hOw
        have hfw : FreshL w.heap.size (fpA G ++ fpR (((X1, X2, mapL ws s) : Hd) :: (Y1, Y2, mapL ws t) :: eh (lay eh0 el ms m))) := fun x hx => by
          have hwW := bW_h.out.size
          rcases List.mem_append.1 hx with hx | hx
          · have := hGb_h.out x hx; have := hB3_h.out.size; omega
          · have := (hlt1_h.out x (List.mem_append_right _ (ren_fp hml_h.out hel_h.out hper_h.out hx))).1; omega
        obtain ⟨⟨c0, c1, c2, c3⟩, f0, f1, f2, f3⟩ := box4 kx
        obtain ⟨⟨d0, d1, d2, d3⟩, g0, g1, g2, g3⟩ := box4 k1r
        clear hslG hLsr hLsG t2' k1r kx hWr hBr hsl2 hLs2
        have t1'_h := Lib.hid t1'
        have hB9_h := Lib.hid hB9
        have hfw_h := Lib.hid hfw
        have hOw_h := Lib.hid hOw
        clear t1' hB9 hfw hOw
        go_wp2_with (fail)
        refine bodyPost_ret (results_cell_row rfl _ _ (w.heap.size + 1) _ _ (0, 0) _ rfl t1'_h.out Try.underlying31 rfl (by kernel_rfl)) rfl ?_
        exact ⟨_, _, rfl, hOw_h.out, hfw_h.out, hB9_h.out⟩

end Go.Proofs.Ytanhmljgeiajoaa
