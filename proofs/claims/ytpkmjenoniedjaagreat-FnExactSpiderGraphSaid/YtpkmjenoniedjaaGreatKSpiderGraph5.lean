/-
  What the texts above it need, part 5.
-/
import Derived.Test.YtpkmjenoniedjaaGreatKSpiderGraph4
import Derived.Deep.LoopGhost
namespace Go.Proofs.YtpkmjenoniedjaaGreat
open Go.RowKit
theorem cp_at {w : World} {A : Option Addr} {n cap : Nat} {xs : List Cp} (hs : Sl w tCp 4 A n cap (xs.flatMap Cp.cells)) {j : Nat} {x : Cp} (hx : xs[j]? = some x) : ∃ ad, A = some ad ∧
  w.cell? (ad.add (j * 4)) = some (.pointer (some ⟨x.b, 0, none⟩)) ∧ w.cell? ⟨(ad.add (j * 4)).block, (ad.add (j * 4)).off + 1, none⟩ = some (.slice x.D x.dl x.dc) ∧ w.cell? ⟨(ad.add (j * 4)).block, (ad.add (j * 4)).off + 2, none⟩ = some (.int .i64 (leastW x.P.2.1.1)) ∧ w.cell? ⟨(ad.add (j * 4)).block, (ad.add (j * 4)).off + 3, none⟩ = some (.int .i64 x.P.2.2) := by
 have hk : ∀ x : Cp, x.cells.length = 4 := fun _ => rfl
 have h0 := flat_get hk xs j 0 x hx (by omega)
 have h1 := flat_get hk xs j 1 x hx (by omega)
 have h2 := flat_get hk xs j 2 x hx (by omega)
 have h3 := flat_get hk xs j 3 x hx (by omega)
 obtain ⟨ad, hA, _, c0, _⟩ := hs.cell h0
 obtain ⟨ad1, hA1, _, c1, _⟩ := hs.cell h1
 obtain ⟨ad2, hA2, _, c2, _⟩ := hs.cell h2
 obtain ⟨ad3, hA3, _, c3, _⟩ := hs.cell h3
 rw [hA] at hA1 hA2 hA3
 obtain rfl := Option.some.inj hA1
 obtain rfl := Option.some.inj hA2
 obtain rfl := Option.some.inj hA3
 rw [add_next _ _ 1 (by omega)] at c1
 rw [add_next _ _ 2 (by omega)] at c2
 rw [add_next _ _ 3 (by omega)] at c3
 exact ⟨ad, hA, c0, c1, c2, c3⟩
structure Num2 (W : World) (c2 c4 : Nat) (Wa Ea : Addr) (n m : Nat) (w : World) : Prop where
 b2 : w.heap[c2]? = some (.cells #[.slice (some Wa) n n] tIS)
 b4 : w.heap[c4]? = some (.cells #[.slice (some Ea) m m] tIS)
 i1 : IS w (some Wa) n (List.replicate n (-1))
 i2 : IS w (some Ea) m (List.replicate m (-1))
 ne : Wa.block ≠ Ea.block
 new : W.heap.size ≤ Wa.block ∧ W.heap.size ≤ Ea.block
 bel : Below W.heap.size W w
theorem NumS.sl {W w w' : World} {c1 c2 c3 c4 n m : Nat} {Wa Ea : Addr} {t : Nums} (hN : NumS W c1 c2 c3 c4 Wa Ea n m t w) {e : TypeId} (he : e ≠ tInt) {sz k cap : Nat} {A : Option Addr} {xs : List Value} (hs : Sl w e sz A k cap xs) (hk : Keeps (OwnN c1 c3 Wa Ea) w w') : Sl w' e sz A k cap xs :=
 hs.keeps hk fun b hb hS => by
  obtain ⟨⟨cs, q⟩, _⟩ := hN.off hS
  rcases hs.2.2.2 with ⟨rfl, _⟩ | ⟨g, off', cur, rfl, hg, _⟩
  · cases hb
  · obtain rfl : b = g := by simpa using hb
    rw [hg] at q
    injection q with q
    injection q with _ h1
    exact he h1
theorem ord_le {g : Gr} {n : Nat} (h : Mono g n) (k : Nat) : (ordW g k).length ≤ n ∧ (ordE g k).length ≤ g.2.1.length := by
 have e1 : ordW g (partsM g).length = ordW g k ++ ((partsM g).drop k).flatMap fun b => b.2.1.1 := by
  unfold ordW
  rw [List.take_length, List.append_assoc, ← List.flatMap_append, List.take_append_drop]
 have e2 : ordE g (partsM g).length = ordE g k ++ ((partsM g).drop k).flatMap fun b => b.2.1.2 := by
  unfold ordE
  rw [List.take_length, List.append_assoc, ← List.flatMap_append, List.take_append_drop]
 have h1 := nodup_le (ordW_all h).1 fun x hx => ((ordW_all h).2 x).1 hx
 have h2 := nodup_le (ordE_all h).1 fun x hx => ((ordE_all h).2 x).1 hx
 rw [e1, List.length_append] at h1
 rw [e2, List.length_append] at h2
 omega
theorem part_facts {g : Gr} {n : Nat} (h : Mono g n) {b : Prt} (hb : b ∈ partsM g) : (b.2.1.1.Nodup ∧ b.2.1.2.Nodup) ∧ (∀ x, x ∈ b.2.1.1 → 0 ≤ x ∧ x < (n : Int)) ∧ ∀ x, x ∈ b.2.1.2 → 0 ≤ x ∧ x < (g.2.1.length : Int) := by
 obtain ⟨c, _, hc, rfl⟩ := parts_of h hb
 obtain ⟨h1, h2, h3, h4⟩ := part_has h hc
 exact ⟨⟨h1, h2⟩, fun x hx => ((h3 x).1 hx).1, fun x hx => ((h4 x).1 hx).1⟩
def BoxV (v : Value) (w : World) : Prop := ∃ lb, v = .pointer (some ⟨lb, 0, none⟩) ∧ w.heap[lb]? = some (.cells #[.slice none 0 0] tIS)
set_option maxRecDepth 100000 in
set_option maxHeartbeats 8000000 in
theorem canonicalNumbers_any {v : Value} {g : Gr} (w : World) (n m : Nat) (h : RdGr w v g) (hMo : Mono g n) (hv : grB g = true) (hm : g.2.1.length = m) :
  Calls Tryz.prog 42 #[v] w fun e w' => ∃ Wa Ea : Addr, e = .returned (.tuple #[.slice (some Wa) n n, .slice (some Ea) m m]) ∧ IS w' (some Wa) n (cnM g).1 ∧ IS w' (some Ea) m (cnM g).2 ∧ Wa.block ≠ Ea.block ∧ w.heap.size ≤ Wa.block ∧ w.heap.size ≤ Ea.block ∧ Below w.heap.size w w' := by
 have hn100 := hMo.n100
 have hm60 : m ≤ 60 := by rw [← hm]; exact hMo.m60
 have hgn := hMo.hn
 have hW0 := h
 obtain ⟨A, c, hs, ⟨B, bb, s⟩, ⟨C, d, t⟩, rfl, e1, e2, e3, hE, hRa, hRb⟩ := h
 have hml : hs.length = m := by rw [← hm, e1, List.length_map]
 simp only [hgn, hml] at hW0 ⊢
 obtain ⟨p, hp⟩ : ∃ p, s.length = p := ⟨_, rfl⟩
 obtain ⟨r, hr⟩ : ∃ r, t.length = r := ⟨_, rfl⟩
 rw [hp, hr] at hW0 ⊢
 obtain ⟨W, hWe, bW, k0⟩ := (⟨_, rfl, t_below_alloc _ _, heap_alloc_new _ _⟩ : ∃ W, W = w.alloc (.cells #[.int .i64 (n : Int), .slice A m c, .slice B p bb, .slice C r d] tGr) ∧ Below w.heap.size w W ∧ W.heap[w.heap.size]? = some (.cells #[.int .i64 (n : Int), .slice A m c, .slice B p bb, .slice C r d] tGr))
 obtain ⟨⟨c0, c1, c2, c3⟩, f0, f1, f2, f3⟩ := t_box4 k0
 have how := openWalk_any W n (hW0.below bW) hMo
 have hC1 := fun W => repeated_any (-1) n W (by omega)
 have hC2 := fun W => repeated_any (-1) m W (by omega)
 clear hRa hRb e1 e2 e3 hE; have hMo_h := lH hMo; have hm_h := lH hm; have hW0_h := lH hW0; have hgn_h := lH hgn; have hml_h := lH hml; have hp_h := lH hp; have hr_h := lH hr; have bW_h := lH bW; have k0_h := lH k0; have hv_h := lH hv; have how_h := lH how; have hC1_h := lH hC1; have hC2_h := lH hC2; clear hMo hm hW0 hgn hml hp hr bW k0 hv how hC1 hC2
 go_enter Tryz.func42, Tryz.ntmps42
 go_upto_region 1 with (fail)
 rw [← hWe]
 clear hWe
 go_wp2_with (fail)
 refine (how_h.out).mono ?_
 rintro e w1 ⟨ob, ow, oe, rfl, hw1, hnew1, hb1⟩
 have k1 := t_box_below k0_h.out hb1
 have hB1 := below_trans bW_h.out hb1 bW_h.out.size
 clear how_h hb1 k0_h; clear c0 c1 c2 c3 f0 f1 f2 f3; have k1_h := lH k1; have hB1_h := lH hB1; have hw1_h := lH hw1; have hnew1_h := lH hnew1; clear k1 hB1 hw1 hnew1
 go_upto_region 2 with (fail)
 go_cut [5, 6] (fun s5 s6 wx => ∃ (c2 c4 : Nat) (Wa Ea : Addr), s5 = .pointer (some ⟨c2, 0, none⟩) ∧ s6 = .pointer (some ⟨c4, 0, none⟩) ∧ Num2 w1 c2 c4 Wa Ea n m wx)
 case first =>
  refine beginH (fun w' => Below w1.heap.size w1 w' ) (by kernel_rfl) ?_
  have hbd : Below w1.heap.size w1 w1.drew := below_drewN (Below.refl _ _) 1
  generalize w1.drew = W1 at hbd ⊢
  refine tkH 0 ?_ rfl hbd (fun W' hW' => ?_) ?_; rotate_left; · (obtain ⟨⟨y0, y1, y2, y3⟩, y4, y5, y6, y7⟩ := t_box4 (t_box_below k1_h.out hW'); clear hW'; go_simp; first | done | with_reducible rfl)
  simp only [Act.put, nS]
  refine tkH 1 ?_ rfl hbd (fun W' hW' => ?_) ?_; rotate_left; · (obtain ⟨⟨y0, y1, y2, y3⟩, y4, y5, y6, y7⟩ := t_box4 (t_box_below k1_h.out hW'); clear hW'; go_simp; first | done | with_reducible rfl)
  simp only [Act.put, nS]
  refine tkH 3 ?_ rfl hbd (fun W' hW' => ?_) ?_; rotate_left; · (obtain ⟨⟨y0, y1, y2, y3⟩, y4, y5, y6, y7⟩ := t_box4 (t_box_below k1_h.out hW'); clear hW'; go_simp; first | done | with_reducible rfl)
  simp only [Act.put, nS]
  refine tkH 4 ?_ rfl hbd (fun W' hW' => ?_) ?_; rotate_left; · (obtain ⟨⟨y0, y1, y2, y3⟩, y4, y5, y6, y7⟩ := t_box4 (t_box_below k1_h.out hW'); clear hW'; go_simp; first | done | with_reducible rfl)
  simp only [Act.put, nS]
  refine tkH 5 ?_ rfl hbd (fun W' hW' => ?_) ?_; rotate_left; · (obtain ⟨⟨y0, y1, y2, y3⟩, y4, y5, y6, y7⟩ := t_box4 (t_box_below k1_h.out hW'); clear hW'; go_simp; first | done | with_reducible rfl)
  simp only [Act.put, nS]
  refine relT [(2, 16), (6, 20), (7, 5), (8, 6)] (fun _ => []) (fun d _ v w => if d = 16 then RepV n (-1) v w else if d = 20 then RepV m (-1) v w else BoxV v w) (fun _ => blkV) 2 rfl (by kernel_rfl) ?st1 ?co1 (fun w' hw' => below_trans hbd hw' hbd.size) ?sp1 ?fi1
  case st1 => exact fun d xs => (RepV.stb n (-1)).ite ((RepV.stb m (-1)).ite fun v w w' ⟨lb, e, h⟩ hb => ⟨lb, e, t_box_below h hb⟩)
  case co1 => exact fun z hz xs ys v w hd h => h
  case sp1 =>
   refine ⟨⟨_, rfl, fun xs w5 hb5 hd K hK => ?_⟩, ⟨_, rfl, fun xs w5 hb5 hd K hK => ?_⟩, ⟨_, rfl, fun xs w5 hb5 hd K hK => ?_⟩, ⟨_, rfl, fun xs w5 hb5 hd K hK => ?_⟩, trivial⟩
   · simp only [putZ, List.foldl_cons, List.foldl_nil, Act.put, nS] at hK ⊢
     refine wp_callZ (f := ?f_1) (args := ?args_1) ?hr_1 ?hc_1
     case hr_1 => (go_simp; first | done | with_reducible rfl | (constructor <;> with_reducible rfl))
     case hc_1 =>
      refine (hC1_h.out w5).mono ?_
      rintro e w6 ⟨G, rfl, hI, hG, hb6⟩
      exact ⟨_, rfl, hK _ _ hb6 ⟨G, rfl, hI⟩ fun b hb => by
       obtain rfl : b = G.block := by simpa [blkV] using hb
       exact ⟨hG, hI.lt G.block (by simp)⟩⟩
   · simp only [putZ, List.foldl_cons, List.foldl_nil, Act.put, nS] at hK ⊢
     refine wp_callZ (f := ?f_2) (args := ?args_2) ?hr_2 ?hc_2
     case hr_2 => (go_simp; first | done | with_reducible rfl | (constructor <;> with_reducible rfl))
     case hc_2 =>
      refine (hC2_h.out w5).mono ?_
      rintro e w6 ⟨G, rfl, hI, hG, hb6⟩
      exact ⟨_, rfl, hK _ _ hb6 ⟨G, rfl, hI⟩ fun b hb => by
       obtain rfl : b = G.block := by simpa [blkV] using hb
       exact ⟨hG, hI.lt G.block (by simp)⟩⟩
   · simp only [putZ, List.foldl_cons, List.foldl_nil, Act.put, nS] at hK ⊢
     go_simp
     exact hK _ _ (t_below_alloc _ _) ⟨_, rfl, heap_alloc_new _ _⟩ fun b hb => by
      obtain rfl : b = w5.heap.size := by simpa [blkV] using hb
      simp
   · simp only [putZ, List.foldl_cons, List.foldl_nil, Act.put, nS] at hK ⊢
     go_simp
     exact hK _ _ (t_below_alloc _ _) ⟨_, rfl, heap_alloc_new _ _⟩ fun b hb => by
      obtain rfl : b = w5.heap.size := by simpa [blkV] using hb
      simp
  case fi1 =>
   intro xs w6 hb6 hR hO hD
   obtain ⟨G1, h1, hI1⟩ := (hR (2, 16) (by simp) : RepV n (-1) (xs 16) w6)
   obtain ⟨G2, h2, hI2⟩ := (hR (6, 20) (by simp) : RepV m (-1) (xs 20) w6)
   obtain ⟨l1, h3, hx1⟩ := (hR (7, 5) (by simp) : BoxV (xs 5) w6)
   obtain ⟨l2, h4, hx2⟩ := (hR (8, 6) (by simp) : BoxV (xs 6) w6)
   have o1 := hO (2, 16) (by simp) G1.block (by show _ ∈ blkV (xs 16); rw [h1]; simp [blkV])
   have o2 := hO (6, 20) (by simp) G2.block (by show _ ∈ blkV (xs 20); rw [h2]; simp [blkV])
   have o3 := hO (7, 5) (by simp) l1 (by show _ ∈ blkV (xs 5); rw [h3]; simp [blkV])
   have o4 := hO (8, 6) (by simp) l2 (by show _ ∈ blkV (xs 6); rw [h4]; simp [blkV])
   have d12 : G1.block ≠ G2.block := fun e => hD (2, 16) (by simp) (6, 20) (by simp) (by decide) G1.block (by show _ ∈ blkV (xs 16); rw [h1]; simp [blkV]) (by show _ ∈ blkV (xs 20); rw [h2, e]; simp [blkV])
   have d34 : l1 ≠ l2 := fun e => hD (7, 5) (by simp) (8, 6) (by simp) (by decide) l1 (by show _ ∈ blkV (xs 5); rw [h3]; simp [blkV]) (by show _ ∈ blkV (xs 6); rw [h4, e]; simp [blkV])
   have hbW := below_trans hbd hb6 hbd.size
   have hz1 := hbd.size
   obtain ⟨x1, y1⟩ := cellT hx1
   obtain ⟨x2, y2⟩ := cellT hx2
   obtain ⟨s1, k1'⟩ := set1c (y := .slice (some G1) n n) hx1
   have hx2' := t_box_keeps hx2 k1' (fun e => d34 e.symm)
   obtain ⟨s12, k12'⟩ := set1c (y := .slice (some G2) m m) hx2'
   obtain ⟨x4, y4⟩ := cellT hx2'
   have key : ∀ W', W'.heap[l1]? = some (.cells #[.slice (some G1) n n] tIS) → W'.heap[l2]? = some (.cells #[.slice (some G2) m m] tIS) → Keeps (fun b => b = l1 ∨ b = l2) w6 W' → Num2 w1 l1 l2 G1 G2 n m W' := fun W' q1 q2 hk => by
    have off : ∀ G : Addr, ∀ c l, IS w6 (some G) c l → ¬ (G.block = l1 ∨ G.block = l2) := fun G c l hI h => by
     rcases h with h | h
     · exact is_ne_box hI hx1 (by decide) h
     · exact is_ne_box hI hx2 (by decide) h
    exact ⟨q1, q2, hI1.keeps hk (fun b hb hs' => off _ _ _ hI1 (by rw [show b = G1.block by simpa using hb] at hs'; exact hs')), hI2.keeps hk (fun b hb hs' => off _ _ _ hI2 (by rw [show b = G2.block by simpa using hb] at hs'; exact hs')), d12, ⟨by omega, by omega⟩, below_keeps hbW hk hbW.size fun b hb => by omega⟩
   have kA := key _ (t_box_keeps s1 k12' d34) s12 ((k1'.mono (T := fun b => b = l1 ∨ b = l2) fun _ _ e => .inl e).trans (k12'.mono (T := fun b => b = l1 ∨ b = l2) fun _ _ e => .inr e))
   have hS1 := below_keeps hbW k1' hbW.size fun b hb => by omega
   clear hR hO hD hI1 hI2 hx1 hx2 hx2' s1 s12 k1' k12' key d12 o1 o2 o3 o4; have kA_h := lH kA; have hS1_h := lH hS1; clear kA hS1
   simp only [putZ, List.foldl_cons, List.foldl_nil, Act.put, nS, h1, h2, h3, h4, mkZ]
   refine oneH 9 rfl (by kernel_rfl) (by rfl) (fun K hK => ?_)
   go_simp
   refine hK _ _ (hS1_h.out) ?_
   clear hK K
   refine oneH 10 rfl (by kernel_rfl) (by rfl) (fun K hK => ?_)
   go_simp
   refine hK _ _ (kA_h.out.bel) ?_
   clear hK K
   refine doneH (by kernel_rfl) ?_
   go_wp2_with (fail)
   go_meet
   exact ⟨l1, l2, G1, G2, rfl, rfl, kA_h.out⟩
 case rest =>
  obtain ⟨c2, c4, Wa, Ea, rfl, rfl, hN⟩ := hcut
  have k2 := t_box_below k1_h.out hN.bel
  obtain ⟨⟨c0, c1, c2', c3⟩, f0, f1, f2, f3⟩ := t_box4 k2
  have hw2 := hw1_h.out.below hN.bel
  have hB2 := below_trans hB1_h.out hN.bel hB1_h.out.size
  have hlt1 := t_box_lt k1_h.out
  clear hw1_h k1_h hC1_h hC2_h
  obtain ⟨W3, hW3, b3, q0, q1⟩ := twoBoxesC wc (.cells #[.int .i64 0] tInt) (.cells #[.int .i64 0] tInt)
  have hN3 : NumS w1 wc.heap.size c2 (wc.heap.size + 1) c4 Wa Ea n m (List.replicate n (-1), List.replicate m (-1), 0, 0) W3 :=
   ⟨q0, t_box_below hN.b2 b3, q1, t_box_below hN.b4 b3, hN.i1.below b3, hN.i2.below b3, by simp, by simp, ⟨by omega, hN.ne, ⟨by have := hN.i1.lt Wa.block (by simp); omega, by have := hN.i2.lt Ea.block (by simp); omega⟩, by have := hN.i1.lt Wa.block (by simp); omega, by have := hN.i2.lt Ea.block (by simp); omega⟩, ⟨hN.bel.size, by have := hN.bel.size; omega, hN.new.1, hN.new.2⟩, below_trans hN.bel b3 hN.bel.size⟩
  have hw3 := hw2.below b3
  have hop := openM_inv hMo_h.out
  have hadd := addNums_any w1 W3 wc.heap.size c2 (wc.heap.size + 1) c4 n m ob ow oe Wa Ea _ (openM g) hN3 hw3 ⟨hop.nd1, hop.nd2⟩ hop.rg1 (by rw [← hm_h.out]; exact hop.rg2) hn100 hm60 ⟨⟨Int.le_refl 0, (by decide : (0 : Int) ≤ 1048576)⟩, Int.le_refl 0, (by decide : (0 : Int) ≤ 1048576)⟩
  have hB3 := below_trans hB2 b3 hB2.size
  have k3 := t_box_below k2 b3
  clear hN hw2 hB2 k2 q0 q1 b3 hop; have hN3_h := lH hN3; have hw3_h := lH hw3; have hB3_h := lH hB3; have k3_h := lH k3; have hadd_h := lH hadd; have hlt1_h := lH hlt1; clear hN3 hw3 hB3 k3 hadd hlt1
  go_upto_region 5 with (fail)
  rw [← hW3]
  clear hW3 c0 c1 c2' c3 f0 f1 f2 f3
  go_wp2_with (fail)
  refine (hadd_h.out).mono ?_
  rintro e w4 ⟨rfl, hN4, hk4⟩
  have e0 : addN (List.replicate n (-1), List.replicate m (-1), 0, 0) (openM g) = cnTo g 0 := by
   show _ = cn0 g
   unfold cn0
   rw [hgn_h.out, hm_h.out, Int.toNat_natCast]
  rw [e0] at hN4
  have hw4 := hw3_h.out.nums hN3_h.out hk4
  have hB4 := below_keeps hB3_h.out hk4 hB3_h.out.size (fun b hb => by have := (hN3_h.out.off hb).2.1; have := hlt1_h.out; omega)
  have k4 := t_box_keeps k3_h.out hk4 (fun hb => by have := (hN3_h.out.off hb).2.1; have := hlt1_h.out; omega)
  have hcp := closedParts_any w4 n m ob ow oe (hW0_h.out.below hB4) hMo_h.out hv_h.out hm_h.out hw4
  obtain ⟨⟨c0, c1, c2', c3⟩, f0, f1, f2, f3⟩ := t_box4 k4
  clear hk4 hadd_h hw4 hw3_h hN3_h k3_h hB3_h k4 e0; have hcp_h := lH hcp; have hN4_h := lH hN4; have hB4_h := lH hB4; clear hcp hN4 hB4
  go_wp2_with (fail)
  refine (hcp_h.out).mono ?_
  rintro e w5 ⟨Ax, cx, xs, rfl, hsl5, hok5, hPx, hb5⟩
  obtain ⟨xl, hxl⟩ : ∃ q, xs.length = q := ⟨_, rfl⟩
  have hxp : (partsM g).length = xl := by rw [← hPx, List.length_map, hxl]
  rw [hxl] at hsl5 ⊢
  have hN5 := hN4_h.out.below hb5
  have hB5 := below_trans hB4_h.out hb5 hB4_h.out.size
  have hxm : xl ≤ 9223372036854775807 := by
   have h1 := Nat.le_trans hsl5.2.1 hsl5.2.2.1
   unfold maxLen at h1
   exact h1
  clear hcp_h hN4_h hB4_h hb5 c0 c1 c2' c3 f0 f1 f2 f3; have hsl5_h := lH hsl5; have hok5_h := lH hok5; have hPx_h := lH hPx; have hN5_h := lH hN5; have hB5_h := lH hB5; have hxl_h := lH hxl; have hxp_h := lH hxp; clear hsl5 hok5 hPx hN5 hB5 hxl hxp
  go_wp2_with (fail)
  go_loopw [29] (fun i wr => ∃ k : Nat, k ≤ xl ∧ i = .int .i64 k ∧ NumS w1 wc.heap.size c2 (wc.heap.size + 1) c4 Wa Ea n m (cnTo g k) wr ∧ Keeps (OwnN wc.heap.size (wc.heap.size + 1) Wa Ea) w5 wr) (fun i _ => xl - (intOf i).toNat)
  case atStart => exact ⟨0, Nat.zero_le _, rfl, hN5_h.out, Keeps.refl _ _⟩
  case round =>
   obtain ⟨k, hk, rfl, hN, hK⟩ := hrel
   obtain ⟨wo, rfl⟩ : ∃ x, x = wr := ⟨_, rfl⟩
   have hBo := below_keeps hB5_h.out hK hB5_h.out.size (fun b hb => by have := (hN5_h.out.off hb).2.1; have := hlt1_h.out; omega)
   by_cases hlt : k < xl
   · obtain ⟨x, hx⟩ : ∃ x, xs[k]? = some x := ⟨_, List.getElem?_eq_getElem (by rw [hxl_h.out]; exact hlt)⟩
     have hslo := hN5_h.out.sl (by decide) hsl5_h.out hK
     obtain ⟨ad, rfl, d0, d1, d2, d3⟩ := cp_at hslo hx
     have hwx := ((hok5_h.out x (List.mem_of_getElem? hx)).wk).nums hN5_h.out hK
     have hpx : (partsM g)[k]? = some x.P := by rw [← hPx_h.out, List.getElem?_map, hx]; rfl
     have hpf := part_facts hMo_h.out (List.mem_of_getElem? hpx)
     have hgd : (partsM g).getD k ([], ([], []), 0) = x.P := by rw [List.getD_eq_getElem?_getD, hpx]; rfl
     obtain ⟨xb, xmw, xme, XD, xdl, xdc, P⟩ := x
     simp only at d0 d1 d2 d3 hwx hpf hgd
     obtain ⟨u, hu⟩ : ∃ u, leastW P.2.1.1 = u := ⟨_, rfl⟩
     obtain ⟨wy, hwy⟩ : ∃ u, P.2.2 = u := ⟨_, rfl⟩
     rw [hu] at d2
     rw [hwy] at d3
     have hor := ord_le hMo_h.out k
     rw [hm_h.out] at hor
     have hct := cnTo_eq hMo_h.out k (by rw [hxp_h.out]; exact hk)
     obtain ⟨W6, hW6, bW6, k6⟩ := (⟨_, rfl, t_below_alloc _ _, heap_alloc_new _ _⟩ : ∃ W, W = wo.alloc (.cells #[.pointer (some ⟨xb, 0, none⟩), .slice XD xdl xdc, .int .i64 u, .int .i64 wy] tCp) ∧ Below wo.heap.size wo W ∧ W.heap[wo.heap.size]? = some (.cells #[.pointer (some ⟨xb, 0, none⟩), .slice XD xdl xdc, .int .i64 u, .int .i64 wy] tCp))
     have hadd := addNums_any w1 W6 wc.heap.size c2 (wc.heap.size + 1) c4 n m xb xmw xme Wa Ea (cnTo g k) P.2.1 (hN.below bW6) (hwx.below bW6) hpf.1 hpf.2.1 (by rw [← hm_h.out]; exact hpf.2.2) hn100 hm60 (by rw [hct]; simp only; omega)
     have e1 : addN (cnTo g k) P.2.1 = cnTo g (k + 1) := by rw [cnTo, hgd]
     rw [e1] at hadd
     have hK6 := hK.trans (Keeps.of_below bW6 _)
     obtain ⟨⟨c0, c1, c2', c3⟩, f0, f1, f2, f3⟩ := t_box4 k6
     have hkI : (k : Int) < (xl : Int) := by omega
     clear hN hK hBo hslo hwx hpx hpf hgd hor hct e1 bW6 k6 hx hu hwy; have hadd_h := lH hadd; have hK6_h := lH hK6; clear hadd hK6
     go_upto_region 9 with (fail)
     rw [← hW6]
     clear hW6 d0 d1 d2 d3
     go_wp2_with (fail)
     refine (hadd_h.out).mono ?_
     rintro e w7 ⟨rfl, hN7, hk7⟩
     have hK7 := hK6_h.out.trans hk7
     clear hk7 hadd_h hK6_h c0 c1 c2' c3 f0 f1 f2 f3; have hN7_h := lH hN7; have hK7_h := lH hK7; clear hN7 hK7
     go_wp2_with (fail)
     go_roundw
     case rel => exact ⟨k + 1, by omega, by go_num, hN7_h.out, hK7_h.out⟩
     case measure => simp [intOf]; omega
   · obtain rfl : xl = k := by omega
     have hN_h := lH hN; have hBo_h := lH hBo; clear hN hBo
     go_upto_region 11 with (fail)
     refine beginH (fun w' => Below wo.heap.size wo w') (by kernel_rfl) ?_
     have hbd : Below wo.heap.size wo wo.drew := below_drewN (Below.refl _ _) 1
     generalize wo.drew = W1 at hbd ⊢
     refine tkH 0 ?_ rfl hbd (fun W' hW' => ?_) ?_; rotate_left; · (obtain ⟨_, ⟨y2, z2⟩, _, y4, z4⟩ := (hN_h.out.below hW').bx; clear hW'; go_simp; first | done | with_reducible rfl)
     simp only [Act.put, nS]
     refine tkH 1 ?_ rfl hbd (fun W' hW' => ?_) ?_; rotate_left; · (obtain ⟨_, ⟨y2, z2⟩, _, y4, z4⟩ := (hN_h.out.below hW').bx; clear hW'; go_simp; first | done | with_reducible rfl)
     simp only [Act.put, nS]
     refine tkH 2 ?_ rfl hbd (fun W' hW' => ?_) ?_; rotate_left; · (obtain ⟨_, ⟨y2, z2⟩, _, y4, z4⟩ := (hN_h.out.below hW').bx; clear hW'; go_simp; first | done | with_reducible rfl)
     simp only [Act.put, nS]
     refine tkH 3 ?_ rfl hbd (fun W' hW' => ?_) ?_; rotate_left; · (obtain ⟨_, ⟨y2, z2⟩, _, y4, z4⟩ := (hN_h.out.below hW').bx; clear hW'; go_simp; first | done | with_reducible rfl)
     simp only [Act.put, nS]
     refine doneH (by kernel_rfl) ?_
     have hNe := hN_h.out.below hbd
     have hBe := below_trans hBo_h.out hbd hBo_h.out.size
     have hB1s := hB1_h.out.size
     have hnw := hNe.new
     have hc1 : (cnM g).1 = (cnTo g xl).1 := by unfold cnM; rw [hxp_h.out]
     have hc2 : (cnM g).2 = (cnTo g xl).2.1 := by unfold cnM; rw [hxp_h.out]
     go_wp2_with (fail)
     go_ret2
     exact ⟨Wa, Ea, rfl, by rw [hc1]; exact hNe.i1, by rw [hc2]; exact hNe.i2, hNe.ap.2.1, by omega, by omega, hBe⟩
def PrtOk (g : Gr) (P : Prt) : Prop := ∃ f : Int, (0 ≤ f ∧ f < (g.2.1.length : Int)) ∧ P.1 = codeM g (fromM g f) ∧ P.2.1 = fromM g f
theorem prt_ok {g : Gr} {n : Nat} (h : Mono g n) {P : Prt} (hP : PrtOk g P) : P.1.length ≤ 360 ∧ ((∀ x, x ∈ P.2.1.1 → 0 ≤ x ∧ x < (n : Int)) ∧ P.2.1.1.length ≤ n) ∧ (∀ x, x ∈ P.2.1.2 → 0 ≤ x ∧ x < (g.2.1.length : Int)) ∧ P.2.1.2.length ≤ g.2.1.length := by
 obtain ⟨f, hf, h1, h2⟩ := hP
 have hI := fromM_inv h hf.2
 rw [h1, h2]
 exact ⟨codeM_len h hI, ⟨hI.rg1, hI.le.1⟩, hI.rg2, hI.le.2⟩
theorem prtOf_ok {g : Gr} {e : Nat} (he : e < g.2.1.length) : PrtOk g (prtOf g (e : Int)) := ⟨(e : Int), by omega, rfl, rfl⟩
theorem ref_ok {g : Gr} {e : Nat} (he : e < g.2.1.length) : ∀ k, k ≤ g.2.1.length → PrtOk g (refB g e k) ∧ 1 ≤ (refB g e k).2.2 ∧ (refB g e k).2.2 ≤ (k : Int) + 1
 | 0, _ => ⟨prtOf_ok he, by show (1 : Int) ≤ 1; decide, by show (1 : Int) ≤ _; decide⟩
 | k + 1, hk => by
   obtain ⟨h1, h2, h3⟩ := ref_ok he k (by omega)
   rw [refB]
   split
   · unfold prtNext
     split
     · obtain ⟨f, hf, a, b⟩ := h1
       exact ⟨⟨f, hf, a, b⟩, by show (1 : Int) ≤ (refB g e k).2.2 + 1; omega, by show (refB g e k).2.2 + 1 ≤ _; omega⟩
     · split
       · exact ⟨prtOf_ok (by omega), by show (1 : Int) ≤ 1; decide, by show (1 : Int) ≤ _; omega⟩
       · exact ⟨h1, h2, by omega⟩
   · exact ⟨h1, h2, by omega⟩
theorem scan_ok (g : Gr) : ∀ k, k ≤ g.2.1.length → (scanTo g k).2.length ≤ k ∧ ∀ P, P ∈ (scanTo g k).2 → PrtOk g P ∧ 1 ≤ P.2.2 ∧ P.2.2 ≤ (g.2.1.length : Int) + 1
 | 0, _ => ⟨Nat.le_refl _, fun P hP => by cases hP⟩
 | k + 1, hk => by
   obtain ⟨h1, h2⟩ := scan_ok g k (by omega)
   rw [scanTo]
   split
   · exact ⟨by omega, h2⟩
   · have hp := insP_perm (refB g k g.2.1.length) (scanTo g k).2
     refine ⟨by show (insP _ _).length ≤ _; rw [hp.length_eq, List.length_cons]; omega, fun P hP => ?_⟩
     have hP' : P ∈ insP (refB g k g.2.1.length) (scanTo g k).2 := hP
     rcases List.mem_cons.1 (hp.mem_iff.1 hP') with rfl | h
     · exact ref_ok (by omega) _ (Nat.le_refl _)
     · exact h2 P h
theorem refB_start (g : Gr) (e : Nat) : ∀ k, k ≤ e + 1 → refB g e k = prtOf g (e : Int)
 | 0, _ => rfl
 | k + 1, h => by rw [refB, if_neg (fun x => by have := x.1; omega), refB_start g e k (by omega)]
theorem insK_drop (b : Prt) : ∀ (l : List Prt) (i : Nat) (x : Prt), l[i]? = some x → insK b (l.drop i) = if befP b x then 0 else insK b (l.drop (i + 1)) + 1
 | [], i, _, h => by simp at h
 | a :: r, 0, x, h => by
   obtain rfl : a = x := by simpa using h
   rfl
 | a :: r, i + 1, x, h => insK_drop b r i x (by simpa using h)
theorem lp_at {w : World} {A : Option Addr} {n cap : Nat} {xs : List Lp} (hs : Sl w tLp 4 A n cap (xs.flatMap Lp.cells)) {j : Nat} {x : Lp} (hx : xs[j]? = some x) : ∃ ad, A = some ad ∧
  w.cell? (ad.add (j * 4)) = some (.slice x.D x.dl x.dc) ∧ w.cell? ⟨(ad.add (j * 4)).block, (ad.add (j * 4)).off + 1, none⟩ = some (.slice x.A x.al x.ac) ∧ w.cell? ⟨(ad.add (j * 4)).block, (ad.add (j * 4)).off + 2, none⟩ = some (.slice x.G x.gl x.gc) ∧ w.cell? ⟨(ad.add (j * 4)).block, (ad.add (j * 4)).off + 3, none⟩ = some (.int .i64 x.P.2.2) := by
 have hk : ∀ x : Lp, x.cells.length = 4 := fun _ => rfl
 have h0 := flat_get hk xs j 0 x hx (by omega)
 have h1 := flat_get hk xs j 1 x hx (by omega)
 have h2 := flat_get hk xs j 2 x hx (by omega)
 have h3 := flat_get hk xs j 3 x hx (by omega)
 obtain ⟨ad, hA, _, c0, _⟩ := hs.cell h0
 obtain ⟨ad1, hA1, _, c1, _⟩ := hs.cell h1
 obtain ⟨ad2, hA2, _, c2, _⟩ := hs.cell h2
 obtain ⟨ad3, hA3, _, c3, _⟩ := hs.cell h3
 rw [hA] at hA1 hA2 hA3
 obtain rfl := Option.some.inj hA1
 obtain rfl := Option.some.inj hA2
 obtain rfl := Option.some.inj hA3
 rw [add_next _ _ 1 (by omega)] at c1
 rw [add_next _ _ 2 (by omega)] at c2
 rw [add_next _ _ 3 (by omega)] at c3
 exact ⟨ad, hA, c0, c1, c2, c3⟩
def LpF (B : Nat) (w : World) (x : Lp) : Prop := LpOk w x ∧ Fresh B x.D ∧ Fresh B x.A ∧ Fresh B x.G
theorem LpF.below {B : Nat} {w w' : World} {x : Lp} (h : LpF B w x) (hb : Below w.heap.size w w') : LpF B w' x := ⟨h.1.below hb, h.2⟩
theorem LpF.keeps {B : Nat} {w w' : World} {x : Lp} (h : LpF B w x) {S : Nat → Prop} (hk : Keeps S w w') (hS : ∀ b, S b → b < B) : LpF B w' x :=
 ⟨h.1.keeps hk fun b hb hs => by
  have := hS b hs
  rcases hb with hb | hb | hb
  · have := h.2.1 b hb; omega
  · have := h.2.2.1 b hb; omega
  · have := h.2.2.2 b hb; omega, h.2⟩
theorem LpOk.typ {w w' : World} {x : Lp} (h : LpOk w x) {S : Nat → Prop} (hk : Keeps S w w') (hS : ∀ b, S b → ∃ cs t fr, w.heap[b]? = some (.cells cs t fr) ∧ t ≠ tInt) : LpOk w' x :=
 h.keeps hk fun b hb hs => by
  obtain ⟨cs, t, fr, hg, ht⟩ := hS b hs
  have key : ∀ (A : Option Addr) (c : Nat) (l : List Int), IS w A c l → b ∈ fpA A → False := fun A c l hI hb => by
   rcases hI.2.2.2 with ⟨rfl, _⟩ | ⟨g, off, cur, rfl, hg', _⟩
   · cases hb
   · obtain rfl : b = g := by simpa using hb
     rw [hg] at hg'
     injection hg' with hg'
     injection hg' with _ h1
     exact ht h1
  rcases hb with hb | hb | hb
  · exact key _ _ _ h.cod hb
  · exact key _ _ _ h.wir hb
  · exact key _ _ _ h.edg hb
theorem sl_typ {w : World} {e : TypeId} {sz n cap : Nat} {A : Option Addr} {xs : List Value} (hs : Sl w e sz A n cap xs) (he : e ≠ tInt) : ∀ b, b ∈ fpA A → ∃ cs t fr, w.heap[b]? = some (.cells cs t fr) ∧ t ≠ tInt := fun b hb => by
 rcases hs.2.2.2 with ⟨rfl, _⟩ | ⟨g, off, cur, rfl, hg, _⟩
 · cases hb
 · obtain rfl : b = g := by simpa using hb
   exact ⟨_, _, _, hg, he⟩
structure Sc (W : World) (E : Addr) (m : Nat) (seen : List Int) (ps : List Prt) (B : Option Addr) (ln cap : Nat) (xs : List Lp) (El : List Int) (w : World) : Prop where
 edg : IS w (some E) m El
 ell : El.length = m
 elv : ∀ f : Nat, f < m → (0 ≤ El.getD f 0 ↔ (f : Int) ∈ seen)
 sl : Sl w tLp 4 B ln cap (xs.flatMap Lp.cells)
 xln : xs.length = ln
 ok : ∀ x, x ∈ xs → LpF W.heap.size w x
 pps : xs.map (fun x => x.P) = ps
 bf : Fresh W.heap.size B
 en : E.block < W.heap.size
 kp : Keeps (fun b => b = E.block) W w
section
variable {W w w' : World} {E : Addr} {m ln cap : Nat} {seen : List Int} {ps : List Prt} {B : Option Addr} {xs : List Lp} {El : List Int}
theorem Sc.below (h : Sc W E m seen ps B ln cap xs El w) (hb : Below w.heap.size w w') : Sc W E m seen ps B ln cap xs El w' :=
 ⟨h.edg.below hb, h.ell, h.elv, h.sl.below hb, h.xln, fun x hx => (h.ok x hx).below hb, h.pps, h.bf, h.en, h.kp.free (Keeps.of_below hb (fun _ => False)) fun _ _ h => h.elim⟩
theorem Sc.setE (h : Sc W E m seen ps B ln cap xs El w) {f : Nat} (hf : f < m) : Sc W E m (seen ++ [(f : Int)]) ps B ln cap xs (El.set f 0) (w.setCell (E.add f) (.int .i64 0)) ∧ Keeps (fun b => b = E.block) w (w.setCell (E.add f) (.int .i64 0)) := by
 have hk : Keeps (fun b => b = E.block) w (w.setCell (E.add f) (.int .i64 0)) := Keeps.setCell (S := fun b => b = E.block) (Keeps.refl _ w) (p := E.add f) (by rw [block_of_add]) _
 refine ⟨⟨h.edg.set rfl 0 (by rw [h.ell]; exact hf), by simpa using h.ell, fun j hj => ?_, h.sl.keeps hk fun b hb e => ?_, h.xln, fun x hx => (h.ok x hx).keeps hk fun b e => by rw [e]; exact h.en, h.pps, h.bf, h.en, h.kp.trans hk⟩, hk⟩
 · rw [List.mem_append, List.mem_singleton]
   by_cases e : f = j
   · subst e
     rw [List.getD_eq_getElem?_getD, List.getElem?_set, if_pos rfl, if_pos (by rw [h.ell]; exact hf)]
     exact ⟨fun _ => .inr rfl, fun _ => Int.le_refl 0⟩
   · rw [List.getD_eq_getElem?_getD, List.getElem?_set, if_neg e, ← List.getD_eq_getElem?_getD, h.elv j hj]
     exact ⟨.inl, fun h => h.resolve_right (fun x => e (by omega))⟩
 · have := h.bf b hb
   have := h.en
   omega
theorem Sc.box (h : Sc W E m seen ps B ln cap xs El w) {lb : Nat} (hk : Keeps (fun b => b = lb) w w') (hW : W.heap.size ≤ lb) (hB : ∀ b, b ∈ fpA B → b ≠ lb) {cs : Array Value} (hlb : w.heap[lb]? = some (.cells cs tLp)) : Sc W E m seen ps B ln cap xs El w' :=
 ⟨h.edg.keeps hk (fun b hb e => by have : b = E.block := (by simpa using hb); have := h.en; omega), h.ell, h.elv, h.sl.keeps hk hB, h.xln, fun x hx => ⟨(h.ok x hx).1.typ hk (fun b e => by subst e; exact ⟨cs, tLp, (0, 0), hlb, by decide⟩), (h.ok x hx).2⟩, h.pps, h.bf, h.en, h.kp.free hk fun b h1 e => by omega⟩
theorem Sc.ins (h : Sc W E m seen ps B ln cap xs El w) {b : Lp} {i : Nat} (hi : i = insK b.P ps) (hb : LpF W.heap.size w' b) {B' : Option Addr} {ln' cap' : Nat} (hln : ln' = ln + 1) (hs : Sl w' tLp 4 B' ln' cap' ((xs.take i ++ b :: xs.drop i).flatMap Lp.cells)) (hf : Fresh W.heap.size B') (hk : Keeps (fun x => x ∈ fpA B) w w') :
  Sc W E m seen (insP b.P ps) B' ln' cap' (xs.take i ++ b :: xs.drop i) El w' := by
 refine ⟨h.edg.keeps hk (fun x hx hm => ?_), h.ell, h.elv, hs, ?_, fun x hx => ?_, ?_, hf, h.en, h.kp.free hk fun x h1 h2 => ?_⟩
 · have : x = E.block := (by simpa using hx)
   have := h.bf x hm
   have := h.en
   omega
 · have := h.xln
   have := congrArg List.length (List.take_append_drop i xs)
   rw [List.length_append] at this ⊢
   rw [List.length_cons]
   omega
 · have key : ∀ y, y ∈ xs → LpF W.heap.size w' y := fun y hy => ⟨(h.ok y hy).1.typ hk (sl_typ h.sl (by decide)), (h.ok y hy).2⟩
   rcases List.mem_append.1 hx with hx | hx
   · exact key x (List.mem_of_mem_take hx)
   · rcases List.mem_cons.1 hx with rfl | hx
     · exact hb
     · exact key x (List.mem_of_mem_drop hx)
 · rw [insP_eq, ← hi, ← h.pps]
   simp
 · have := h.bf x h2
   omega
end
def RetLps (w : World) (ps : List Prt) (e : Ending) (w' : World) : Prop :=
 ∃ (A : Option Addr) (cap : Nat) (xs : List Lp), e = .returned (.slice A xs.length cap) ∧ Sl w' tLp 4 A xs.length cap (xs.flatMap Lp.cells) ∧ (∀ x, x ∈ xs → LpF w.heap.size w' x) ∧ xs.map (fun x => x.P) = ps ∧ Below w.heap.size w w'
theorem info_lp : (Tryz.prog.info? tLp).map (fun i => (i.zero, i.size, i.bytes)) = some (some (.agg #[.slice none 0 0, .slice none 0 0, .slice none 0 0, .int .i64 0]), 4, 80) := by kernel_rfl
structure LbS (W : World) (lb : Nat) (D : Option Addr) (dl dc : Nat) (A : Option Addr) (al ac : Nat) (G : Option Addr) (gl gc : Nat) (u : Int) (P : Prt) (w : World) : Prop where
 box : w.heap[lb]? = some (.cells #[.slice D dl dc, .slice A al ac, .slice G gl gc, .int .i64 u] tLp)
 ok : LpF W.heap.size w ⟨D, dl, dc, A, al, ac, G, gl, gc, P⟩
 uw : P.2.2 = u
section
variable {W w w' : World} {lb : Nat} {D : Option Addr} {dl dc : Nat} {A : Option Addr} {al ac : Nat} {G : Option Addr} {gl gc : Nat} {u : Int} {P : Prt}
theorem LbS.below (h : LbS W lb D dl dc A al ac G gl gc u P w) (hb : Below w.heap.size w w') : LbS W lb D dl dc A al ac G gl gc u P w' := ⟨t_box_below h.box hb, h.ok.below hb, h.uw⟩
end
theorem flat_split {α : Type} {f : α → List Value} {k : Nat} (hk : ∀ x, (f x).length = k) (l : List α) {i : Nat} (hi : i ≤ l.length) : (l.flatMap f).take (i * k) = (l.take i).flatMap f ∧ (l.flatMap f).drop (i * k) = (l.drop i).flatMap f := by
 have e : l.flatMap f = (l.take i).flatMap f ++ (l.drop i).flatMap f := by rw [← List.flatMap_append, List.take_append_drop]
 have hl : ((l.take i).flatMap f).length = i * k := by rw [flat_len hk, List.length_take, Nat.min_eq_left hi]
 rw [e]
 exact ⟨List.take_left' hl, List.drop_left' hl⟩
theorem lp_len (x : Lp) : x.cells.length = 4 := rfl
theorem Sc.parts {W w : World} {E : Addr} {m ln cap : Nat} {seen : List Int} {ps : List Prt} {B : Option Addr} {xs : List Lp} {El : List Int} (h : Sc W E m seen ps B ln cap xs El w) {i : Nat} (hi : i ≤ ln) :
  ∃ A1 A2, (∀ w', (Instr.sliceAt 74 (.slice B ln cap) (some (.int .i64 (i : Int))) none none).run Tryz.prog w' = .ok (.slice A1 (ln - i) (cap - i)) w') ∧ (∀ w', (Instr.sliceAt 74 (.slice B ln cap) none (some (.int .i64 (i : Int))) none).run Tryz.prog w' = .ok (.slice A2 i cap) w') ∧
    Sl w tLp 4 A1 (ln - i) (cap - i) ((xs.drop i).flatMap Lp.cells) ∧ Sl w tLp 4 A2 i cap ((xs.take i).flatMap Lp.cells) ∧ ∀ b, b ∈ fpA A2 → b ∈ fpA B := by
 have hc := h.sl.2.1
 obtain ⟨A1, r1, l1, _⟩ := Sl.slicedG h.sl 74 (P := Tryz.prog) Tryz.underlying74 info_lp (some (.int .i64 (i : Int))) none none i ln cap (optSome rfl) (optNone ⟨rfl, rfl⟩) (optNone rfl) hi (Nat.le_refl _) hc (Nat.le_refl _)
 obtain ⟨A2, r2, l2, f2⟩ := Sl.slicedG h.sl 74 (P := Tryz.prog) Tryz.underlying74 info_lp none (some (.int .i64 (i : Int))) none 0 i cap (optNone rfl) (optSome rfl) (optNone rfl) (Nat.zero_le _) hi (by omega) (Nat.le_refl _)
 have hsp := flat_split lp_len xs (i := i) (by rw [h.xln]; exact hi)
 refine ⟨A1, A2, r1, r2, ?_, ?_, f2⟩
 · rw [hsp.2, List.take_of_length_le (by rw [flat_len lp_len, List.length_drop, h.xln]; exact Nat.le_refl _)] at l1
   exact l1
 · simp only [Nat.zero_mul, List.drop_zero, Nat.sub_zero] at l2
   rw [hsp.1] at l2
   exact l2
theorem lps_one (xs : List Lp) : ∀ u, u ∈ xs.flatMap Lp.cells → u.oneCell' = true := fun u hu => by
 obtain ⟨x, _, hx⟩ := List.mem_flatMap.1 hu
 simp only [Lp.cells, List.mem_cons, List.not_mem_nil, or_false] at hx
 rcases hx with rfl | rfl | rfl | rfl <;> rfl
theorem set4d {w : World} {B : Nat} {t : TypeId} {x y z u b : Value} (h : w.heap[B]? = some (.cells #[x, y, z, u] t)) : (w.setCell ⟨B, 3, none⟩ b).heap[B]? = some (.cells #[x, y, z, b] t) ∧ Keeps (· = B) w (w.setCell ⟨B, 3, none⟩ b) := by
 refine ⟨?_, Keeps.setCell (S := (· = B)) (Keeps.refl _ w) (p := ⟨B, 3, none⟩) rfl b⟩
 simp [World.setCell, Array.getElem?_modify, h]
theorem prtNext_same {g : Gr} {b : Prt} {e : Int} (h : (prtOf g e).1 = b.1) : prtNext g b e = (b.1, b.2.1, b.2.2 + 1) := by unfold prtNext; rw [if_pos h]
theorem prtNext_less {g : Gr} {b : Prt} {e : Int} (h : (prtOf g e).1 ≠ b.1) (hl : lexI (prtOf g e).1 b.1 = true) : prtNext g b e = prtOf g e := by unfold prtNext; rw [if_neg h, if_pos hl]
theorem prtNext_not {g : Gr} {b : Prt} {e : Int} (h : (prtOf g e).1 ≠ b.1) (hl : lexI (prtOf g e).1 b.1 = false) : prtNext g b e = b := by unfold prtNext; rw [if_neg h, if_neg (by rw [hl]; simp)]
theorem lp_of_ret {g : Gr} {n : Nat} (hMo : Mono g n) {w w' : World} {P : Prt} (hP : PrtOk g P) {D : Option Addr} {dc : Nat} {A : Option Addr} {ac : Nat} {G : Option Addr} {gc : Nat} (h1 : IS w' D dc P.1) (h2 : IS w' A ac P.2.1.1) (h3 : IS w' G gc P.2.1.2) (f1 : Fresh w.heap.size D) (f2 : Fresh w.heap.size A) (f3 : Fresh w.heap.size G) {W : World} (hW : W.heap.size ≤ w.heap.size) :
  LpF W.heap.size w' ⟨D, P.1.length, dc, A, P.2.1.1.length, ac, G, P.2.1.2.length, gc, P⟩ := by
 obtain ⟨a1, ⟨a2, a3⟩, a4, a5⟩ := prt_ok hMo hP
 have := hMo.n100
 have := hMo.m60
 exact ⟨⟨h1, h2, h3, ⟨rfl, by show P.1.length ≤ _; omega⟩, ⟨rfl, by show P.2.1.1.length ≤ _; omega⟩, rfl, by show P.2.1.2.length ≤ _; omega⟩, fun b hb => Nat.le_trans hW (f1 b hb), fun b hb => Nat.le_trans hW (f2 b hb), fun b hb => Nat.le_trans hW (f3 b hb)⟩
set_option maxRecDepth 100000 in
set_option maxHeartbeats 16000000 in
theorem cnLoops_any {v : Value} {g : Gr} (w : World) (n m : Nat) (h : RdGr w v g) (hMo : Mono g n) (hm : g.2.1.length = m) :
  Calls Tryz.prog 46 #[v] w (RetLps w (partsM g)) := by
 have hn100 := hMo.n100
 have hm60 : m ≤ 60 := by rw [← hm]; exact hMo.m60
 have hgn := hMo.hn
 have hW0 := h
 obtain ⟨A, c, hs, ⟨B, bb, s⟩, ⟨C, d, t⟩, rfl, e1, e2, e3, hE, hRa, hRb⟩ := h
 have hml : hs.length = m := by rw [← hm, e1, List.length_map]
 simp only [hgn, hml] at hW0 ⊢
 obtain ⟨p, hp⟩ : ∃ p, s.length = p := ⟨_, rfl⟩
 obtain ⟨r, hr⟩ : ∃ r, t.length = r := ⟨_, rfl⟩
 rw [hp, hr] at hW0 ⊢
 obtain ⟨W, hWe, bW, k0⟩ := (⟨_, rfl, t_below_alloc _ _, heap_alloc_new _ _⟩ : ∃ W, W = w.alloc (.cells #[.int .i64 (n : Int), .slice A m c, .slice B p bb, .slice C r d] tGr) ∧ Below w.heap.size w W ∧ W.heap[w.heap.size]? = some (.cells #[.int .i64 (n : Int), .slice A m c, .slice B p bb, .slice C r d] tGr))
 obtain ⟨⟨c0, c1, c2, c3⟩, f0, f1, f2, f3⟩ := t_box4 k0
 have hop := cnOpen_any W n m (hW0.below bW) hMo hm
 obtain ⟨ol, hol⟩ : ∃ q, (openM g).1.length = q := ⟨_, rfl⟩
 obtain ⟨oc, hoc⟩ : ∃ q : Int, ((openM g).2.length : Int) = q := ⟨_, rfl⟩
 rw [hol, hoc] at hop
 clear hRa hRb e1 e2 e3 hE; have hMo_h := lH hMo; have hm_h := lH hm; have hW0_h := lH hW0; have hgn_h := lH hgn; have hml_h := lH hml; have hp_h := lH hp; have hr_h := lH hr; have bW_h := lH bW; have k0_h := lH k0; have hop_h := lH hop; have hol_h := lH hol; have hoc_h := lH hoc; clear hMo hm hW0 hgn hml hp hr bW k0 hop hol hoc
 go_enter Tryz.func46, Tryz.ntmps46
 go_upto_region 1 with (fail)
 rw [← hWe]
 clear hWe
 go_wp2_with (fail)
 refine (hop_h.out).mono ?_
 rintro e w1 ⟨N, E, A1, c1', rfl, hC1⟩
 have k1 := t_box_below k0_h.out hC1.bel
 have hB1 := below_trans bW_h.out hC1.bel bW_h.out.size
 have hlt1 := t_box_lt k1
 have hEl := hC1.edg.lt E.block (by simp)
 have hEn := hC1.ef
 have hwW : w.heap.size < W.heap.size := t_box_lt k0_h.out
 have hS1 : Sc w1 E m (scanTo g 0).1 (scanTo g 0).2 none 0 0 [] (numsL m (openM g).2) w1 :=
  ⟨hC1.edg, by simp [numsL], fun f hf => by
   rw [show (numsL m (openM g).2).getD f 0 = if (f : Int) ∈ (openM g).2 then idx (openM g).2 (f : Int) else -1 by simp [numsL, List.getD, hf]]
   show _ ↔ (f : Int) ∈ (openM g).2
   split
   · rename_i hh
     exact ⟨fun _ => hh, fun _ => (idx_lt hh).1⟩
   · rename_i hh
     exact ⟨fun h => absurd h (by decide), fun h => absurd h hh⟩, Sl.nil _ _ _, rfl, (fun x hx => by cases hx), rfl, Fresh.none_ _, hEl, Keeps.refl _ _⟩
 clear hop_h k0_h bW_h hC1; clear c0 c1 c2 c3 f0 f1 f2 f3
 obtain ⟨⟨c0, c1, c2, c3⟩, f0, f1, f2, f3⟩ := t_box4 k1
 have k1_h := lH k1; have hB1_h := lH hB1; have hS1_h := lH hS1; have hlt1_h := lH hlt1; have hEl_h := lH hEl; have hEn_h := lH hEn; have hwW_h := lH hwW; clear k1 hB1 hS1 hlt1 hEl hEn hwW
 go_wp2_with (fail)
 clear c0 c1 c2 c3 f0 f1 f2 f3
 go_loopw [26, 7] (fun i o wr => ∃ (k : Nat) (Bx : Option Addr) (ln cap : Nat) (xs : List Lp) (El : List Int), k ≤ m ∧ i = .int .i64 k ∧ o = .slice Bx ln cap ∧ Sc w1 E m (scanTo g k).1 (scanTo g k).2 Bx ln cap xs El wr) (fun i _ _ => m - (intOf i).toNat)
 case atStart => exact ⟨0, none, 0, 0, [], _, Nat.zero_le _, rfl, rfl, hS1_h.out⟩
 case round =>
  clear hS1_h
  obtain ⟨k, Bx, ln, cap, xs, El, hk, rfl, rfl, hS⟩ := hrel
  obtain ⟨wo, rfl⟩ : ∃ x, x = wr := ⟨_, rfl⟩
  have hBo := below_keeps hB1_h.out hS.kp hB1_h.out.size (fun b e => by rw [e]; have := hEn_h.out; have := hwW_h.out; omega)
  have ko := t_box_keeps k1_h.out hS.kp (fun e => by have := hEn_h.out; have := hwW_h.out; omega)
  by_cases hlt : k < m
  · obtain ⟨ad, ev, hA, hev, _, hcl, hfz⟩ := hS.edg.at_ (j := k) (by rw [hS.ell]; exact hlt)
    obtain rfl := Option.some.inj hA
    have hsn := hS.elv k hlt
    rw [List.getD_eq_getElem?_getD, hev, Option.getD_some] at hsn
    have hkI : (k : Int) < (m : Int) := by omega
    clear hfz hev
    by_cases hseen : (k : Int) ∈ (scanTo g k).1
    · have hst : scanTo g (k + 1) = scanTo g k := by rw [scanTo, if_pos hseen]
      have hge := hsn.2 hseen
      clear hsn hseen; have hS_h := lH hS; have hBo_h := lH hBo; have ko_h := lH ko; have hst_h := lH hst; clear hS hBo ko hst
      go_wp2_with (fail)
      go_roundw
      case rel => exact ⟨k + 1, Bx, ln, cap, xs, El, by omega, by go_num, rfl, by rw [hst_h.out]; exact hS_h.out⟩
      case measure => simp [intOf]; omega
    · have hlt0 : ev < 0 := by
       have : ¬ 0 ≤ ev := fun h => hseen (hsn.1 h)
       omega
      have hst : scanTo g (k + 1) = ((scanTo g k).1 ++ (fromM g (k : Int)).2, insP (refB g k m) (scanTo g k).2) := by rw [scanTo, if_neg hseen, hm_h.out]
      have hcf := cnFrom_any wo n m k (hW0_h.out.below hBo) hMo_h.out hm_h.out hlt
      have hPok := prtOf_ok (g := g) (e := k) (by rw [hm_h.out]; exact hlt)
      obtain ⟨⟨c0, c1, c2, c3⟩, f0, f1, f2, f3⟩ := t_box4 ko
      clear hsn hseen; have hS_h := lH hS; have hBo_h := lH hBo; have ko_h := lH ko; have hst_h := lH hst; have hcf_h := lH hcf; have hPok_h := lH hPok; clear hS hBo ko hst hcf hPok
      go_wp2_with (fail)
      refine (hcf_h.out).mono ?_
      rintro e w4 ⟨D0, dc0, A0, ac0, G0, gc0, rfl, i1, i2, i3, n1, n2, n3, hb4⟩
      have hLp := lp_of_ret hMo_h.out hPok_h.out i1 i2 i3 n1 n2 n3 (W := w1) hS_h.out.kp.size
      have hgl : (prtOf g (k : Int)).2.1 = fromM g (k : Int) := rfl
      have hPk : refB g k (k + 1) = prtOf g (k : Int) := refB_start g k (k + 1) (Nat.le_refl _)
      have hways : (prtOf g (k : Int)).2.2 = 1 := rfl
      obtain ⟨P0, hP0⟩ : ∃ P, prtOf g (k : Int) = P := ⟨_, rfl⟩
      rw [hP0] at hLp hgl hPk hways hPok_h ⊢
      obtain ⟨dl0, hdl0⟩ : ∃ q, P0.1.length = q := ⟨_, rfl⟩
      obtain ⟨al0, hal0⟩ : ∃ q, P0.2.1.1.length = q := ⟨_, rfl⟩
      obtain ⟨gl0, hgl0⟩ : ∃ q, P0.2.1.2.length = q := ⟨_, rfl⟩
      obtain ⟨u0, hu0⟩ : ∃ q, P0.2.2 = q := ⟨_, rfl⟩
      rw [hdl0, hal0, hgl0] at hLp
      rw [hdl0, hal0, hgl0, hu0]
      have hge : ∀ x, x ∈ P0.2.1.2 → 0 ≤ x ∧ x < (m : Int) := by rw [← hm_h.out]; exact (prt_ok hMo_h.out hPok_h.out).2.2.1
      have hgl60 : gl0 ≤ 60 := by have := (prt_ok hMo_h.out hPok_h.out).2.2.2; have := hm_h.out; omega
      obtain ⟨w5, hw5, b5, k5⟩ := (⟨_, rfl, t_below_alloc _ _, heap_alloc_new _ _⟩ : ∃ W, W = w4.alloc (.cells #[.slice D0 dl0 dc0, .slice A0 al0 ac0, .slice G0 gl0 gc0, .int .i64 u0] tLp) ∧ Below w4.heap.size w4 W ∧ W.heap[w4.heap.size]? = some (.cells #[.slice D0 dl0 dc0, .slice A0 al0 ac0, .slice G0 gl0 gc0, .int .i64 u0] tLp))
      have hb45 := below_trans hb4 b5 hb4.size
      have hS5 := hS_h.out.below hb45
      have hL5 : LbS w1 w4.heap.size D0 dl0 dc0 A0 al0 ac0 G0 gl0 gc0 u0 P0 w5 := ⟨k5, hLp.below b5, hu0⟩
      have hBlb : ∀ b, b ∈ fpA Bx → b ≠ w4.heap.size := fun b hb e => by have := hS_h.out.sl.lt b hb; have := hb4.size; omega
      have hlbW : w1.heap.size ≤ w4.heap.size := Nat.le_trans hS_h.out.kp.size hb4.size
      clear c0 c1 c2 c3 f0 f1 f2 f3
      obtain ⟨⟨c0, c1, c2, c3⟩, f0, f1, f2, f3⟩ := t_box4 k5
      clear i1 i2 i3 n1 n2 n3 hb4 hLp hcf_h hS_h b5 k5; have hgl_h := lH hgl; have hPk_h := lH hPk; have hways_h := lH hways; have hP0_h := lH hP0; have hdl0_h := lH hdl0; have hal0_h := lH hal0; have hgl0_h := lH hgl0; have hu0_h := lH hu0; have hge_h := lH hge; have hb45_h := lH hb45; have hS5_h := lH hS5; have hL5_h := lH hL5; have hBlb_h := lH hBlb; have hlbW_h := lH hlbW; clear hgl hPk hways hP0 hdl0 hal0 hgl0 hu0 hge hb45 hS5 hL5 hBlb hlbW
      go_upto_region 8 with (fail)
      rw [← hw5]
      clear hw5
      go_wp2_with (fail)
      clear c0 c1 c2 c3 f0 f1 f2 f3
      go_loopw [40] (fun i wr => ∃ (j : Nat) (El' : List Int), j ≤ gl0 ∧ i = .int .i64 j ∧ Sc w1 E m ((scanTo g k).1 ++ P0.2.1.2.take j) (scanTo g k).2 Bx ln cap xs El' wr ∧ LbS w1 w4.heap.size D0 dl0 dc0 A0 al0 ac0 G0 gl0 gc0 u0 P0 wr) (fun i _ => gl0 - (intOf i).toNat)
      case atStart => exact ⟨0, _, Nat.zero_le _, rfl, by rw [List.take_zero, List.append_nil]; exact hS5_h.out, hL5_h.out⟩
      case round =>
       clear hS5_h hL5_h
       obtain ⟨j, El', hj, rfl, hSj, hLj⟩ := hrel
       obtain ⟨wi, rfl⟩ : ∃ x, x = wr := ⟨_, rfl⟩
       by_cases hltj : j < gl0
       · obtain ⟨x, hx⟩ : ∃ x, P0.2.1.2[j]? = some x := ⟨_, List.getElem?_eq_getElem (by rw [hgl0_h.out]; exact hltj)⟩
         have hxr := hge_h.out x (List.mem_of_getElem? hx)
         obtain ⟨xx, rfl⟩ : ∃ xx : Nat, x = (xx : Int) := ⟨x.toNat, by omega⟩
         obtain ⟨gd, rfl, pg⟩ := hLj.ok.1.edg.rd j _ hx
         obtain ⟨ed, ev2, hA2, _, _, hcl2, hfz2⟩ := hSj.edg.at_ (j := xx) (by rw [hSj.ell]; omega)
         obtain rfl := Option.some.inj hA2
         have hfk := hfz2 xx
         obtain ⟨hSn, hkn⟩ := hSj.setE (f := xx) (by omega)
         rw [List.append_assoc, show P0.2.1.2.take j ++ [(xx : Int)] = P0.2.1.2.take (j + 1) by rw [List.take_add_one, hx]; rfl] at hSn
         have hLn : LbS w1 w4.heap.size D0 dl0 dc0 A0 al0 ac0 (some gd) gl0 gc0 u0 P0 (wi.setCell (E.add xx) (.int .i64 0)) := ⟨t_box_keeps hLj.box hkn (fun e => by have := hEl_h.out; have := hlbW_h.out; omega), hLj.ok.keeps hkn (fun b e => by rw [e]; exact hEl_h.out), hLj.uw⟩
         have hjI : (j : Int) < (gl0 : Int) := by omega
         have hxI : (xx : Int) < (m : Int) := by omega
         clear hfz2 hx hkn hSj hLj; have hSn_h := lH hSn; have hLn_h := lH hLn; clear hSn hLn
         go_wp2_with (fail)
         go_roundw
         case rel => exact ⟨j + 1, _, by omega, by go_num, hSn_h.out, hLn_h.out⟩
         case measure => simp [intOf]; omega
       · obtain rfl : gl0 = j := by omega
         rw [List.take_of_length_le (by rw [hgl0_h.out]; exact Nat.le_refl _)] at hSj
         have hseen : (scanTo g (k + 1)).1 = (scanTo g k).1 ++ P0.2.1.2 := by rw [hst_h.out, hgl_h.out]
         rw [← hseen] at hSj
         have hps : (scanTo g (k + 1)).2 = insP (refB g k m) (scanTo g k).2 := by rw [hst_h.out]
         have hbi : Below w1.heap.size w1 w1 := Below.refl _ _
         clear hseen hbi; have hSj_h := lH hSj; have hLj_h := lH hLj; have hps_h := lH hps; clear hSj hLj hps
         go_wp2_with (fail)
         go_loopw [12] (fun i wr => ∃ (f : Nat) (D : Option Addr) (dl dc : Nat) (A' : Option Addr) (al ac : Nat) (G : Option Addr) (gl gc : Nat) (u : Int), (k < f ∧ f ≤ m) ∧ i = .int .i64 f ∧ Sc w1 E m (scanTo g (k + 1)).1 (scanTo g k).2 Bx ln cap xs El' wr ∧ LbS w1 w4.heap.size D dl dc A' al ac G gl gc u (refB g k f) wr) (fun i _ => m - (intOf i).toNat)
         case atStart => exact ⟨k + 1, _, _, _, _, _, _, _, _, _, _, ⟨by omega, by omega⟩, by go_num, hSj_h.out, by rw [hPk_h.out]; exact hLj_h.out⟩
         case round =>
          clear hSj_h hLj_h
          obtain ⟨f, D, dl, dc, A', al, ac, G, gl, gc, u, ⟨hkf, hfm⟩, rfl, hSf, hLf⟩ := hrel
          obtain ⟨wf, rfl⟩ : ∃ x, x = wr := ⟨_, rfl⟩
          have kf := t_box_keeps k1_h.out hSf.kp (fun e => by have := hEn_h.out; have := hwW_h.out; omega)
          have hBf := below_keeps hB1_h.out hSf.kp hB1_h.out.size (fun b e => by rw [e]; have := hEn_h.out; have := hwW_h.out; omega)
          obtain ⟨⟨c0, c1, c2, c3⟩, f0, f1, f2, f3⟩ := t_box4 kf
          obtain ⟨⟨y0, y1, y2, y3⟩, z0, z1, z2, z3⟩ := t_box4 hLf.box
          obtain ⟨hRok, hR1, hR2⟩ := ref_ok (g := g) (e := k) (by rw [hm_h.out]; exact hlt) f (by rw [hm_h.out]; exact hfm)
          have huw := hLf.uw
          by_cases hff : f < m
          · have hfI : (f : Int) < (m : Int) := by omega
            have hstep : refB g k (f + 1) = if k < f ∧ (f : Int) ∈ (refB g k f).2.1.2 then prtNext g (refB g k f) (f : Int) else refB g k f := rfl
            obtain ⟨P, hP⟩ : ∃ P, refB g k f = P := ⟨_, rfl⟩
            rw [hP] at hLf hRok hR1 hR2 huw hstep
            have hhas := l1Has_any G gc gl P.2.1.2 (f : Int) wf hLf.ok.1.edg.rd hLf.ok.1.len.2.2.1 hLf.ok.1.len.2.2.2
            by_cases hin : (f : Int) ∈ P.2.1.2
            · rw [if_pos ⟨hkf, hin⟩] at hstep
              rw [show P.2.1.2.contains (f : Int) = true by simpa using hin] at hhas
              have hcf := cnFrom_any wf n m f (hW0_h.out.below hBf) hMo_h.out hm_h.out hff
              have hPok2 := prtOf_ok (g := g) (e := f) (by rw [hm_h.out]; exact hff)
              clear hin hP kf; have hSf_h := lH hSf; have hLf_h := lH hLf; have hBf_h := lH hBf; have hstep_h := lH hstep; have hhas_h := lH hhas; have hcf_h := lH hcf; have hPok2_h := lH hPok2; have hRok_h := lH hRok; have hR1_h := lH hR1; have hR2_h := lH hR2; have huw_h := lH huw; clear hSf hLf hBf hstep hhas hcf hPok2 hRok hR1 hR2 huw
              go_wp2_with (fail)
              refine (hhas_h.out).mono ?_
              rintro e w6 ⟨rfl, rfl⟩
              go_wp2_with (fail)
              refine (hcf_h.out).mono ?_
              rintro e w6 ⟨D2, dc2, A2, ac2, G2, gc2, rfl, i1, i2, i3, n1, n2, n3, hb6⟩
              have hLp2 := lp_of_ret hMo_h.out hPok2_h.out i1 i2 i3 n1 n2 n3 (W := w1) hSf_h.out.kp.size
              obtain ⟨P2, hP2⟩ : ∃ P, prtOf g (f : Int) = P := ⟨_, rfl⟩
              rw [hP2] at hLp2 hPok2_h ⊢
              have hcases : (P2.1 = P.1 → refB g k (f + 1) = (P.1, P.2.1, P.2.2 + 1)) ∧ (P2.1 ≠ P.1 → lexI P2.1 P.1 = true → refB g k (f + 1) = P2) ∧ (P2.1 ≠ P.1 → lexI P2.1 P.1 = false → refB g k (f + 1) = P) := by
               rw [hstep_h.out, ← hP2]
               exact ⟨prtNext_same, prtNext_less, prtNext_not⟩
              obtain ⟨dl2, hdl2⟩ : ∃ q, P2.1.length = q := ⟨_, rfl⟩
              obtain ⟨al2, hal2⟩ : ∃ q, P2.2.1.1.length = q := ⟨_, rfl⟩
              obtain ⟨gl2, hgl2⟩ : ∃ q, P2.2.1.2.length = q := ⟨_, rfl⟩
              obtain ⟨u2, hu2⟩ : ∃ q, P2.2.2 = q := ⟨_, rfl⟩
              rw [hdl2, hal2, hgl2] at hLp2
              rw [hdl2, hal2, hgl2, hu2]
              obtain ⟨w7, hw7, b7, k7⟩ := (⟨_, rfl, t_below_alloc _ _, heap_alloc_new _ _⟩ : ∃ W, W = w6.alloc (.cells #[.slice D2 dl2 dc2, .slice A2 al2 ac2, .slice G2 gl2 gc2, .int .i64 u2] tLp) ∧ Below w6.heap.size w6 W ∧ W.heap[w6.heap.size]? = some (.cells #[.slice D2 dl2 dc2, .slice A2 al2 ac2, .slice G2 gl2 gc2, .int .i64 u2] tLp))
              have hb67 := below_trans hb6 b7 hb6.size
              have hS7 := hSf_h.out.below hb67
              have hL7 := hLf_h.out.below hb67
              have hLp7 := hLp2.below b7
              have hsm := l1Same_any D2 D dc2 dc dl2 dl P2.1 P.1 w7 hLp7.1.cod.rd hL7.ok.1.cod.rd hLp7.1.len.1.1 hL7.ok.1.len.1.1 hLp7.1.len.1.2 hL7.ok.1.len.1.2
              have hne7 : w4.heap.size ≠ w6.heap.size := by have := t_box_lt hLf_h.out.box; have := hb6.size; omega
              have hBf7 := below_trans hBf_h.out hb67 hBf_h.out.size
              clear c0 c1 c2 c3 f0 f1 f2 f3 y0 y1 y2 y3 z0 z1 z2 z3
              obtain ⟨⟨c0, c1, c2, c3⟩, f0, f1, f2, f3⟩ := t_box4 k7
              obtain ⟨⟨y0, y1, y2, y3⟩, z0, z1, z2, z3⟩ := t_box4 hL7.box
              clear i1 i2 i3 n1 n2 n3 hb6 hLp2 hb67 b7 hSf_h hLf_h hBf_h hhas_h hcf_h hstep_h; have hS7_h := lH hS7; have hL7_h := lH hL7; have hLp7_h := lH hLp7; have hsm_h := lH hsm; have hcases_h := lH hcases; have hdl2_h := lH hdl2; have hal2_h := lH hal2; have hgl2_h := lH hgl2; have hu2_h := lH hu2; have hP2_h := lH hP2; have k7_h := lH k7; have hBf7_h := lH hBf7; clear hS7 hL7 hLp7 hsm hcases hdl2 hal2 hgl2 hu2 hP2 k7 hBf7
              go_upto_region 18 with (fail)
              rw [← hw7]
              clear hw7
              go_wp2_with (fail)
              refine (hsm_h.out).mono ?_
              rintro e w8 ⟨rfl, hb8⟩
              have hS8 := hS7_h.out.below hb8
              have hL8 := hL7_h.out.below hb8
              have hLp8 := hLp7_h.out.below hb8
              have k8 := t_box_below k7_h.out hb8
              clear c0 c1 c2 c3 f0 f1 f2 f3 y0 y1 y2 y3 z0 z1 z2 z3
              obtain ⟨⟨c0, c1, c2, c3⟩, f0, f1, f2, f3⟩ := t_box4 k8
              obtain ⟨⟨y0, y1, y2, y3⟩, z0, z1, z2, z3⟩ := t_box4 hL8.box
              clear hS7_h hL7_h hLp7_h k7_h hsm_h hb8
              by_cases hsame : P2.1 = P.1
              · rw [decide_eq_true hsame]
                obtain ⟨s1, s2⟩ := set4d (b := .int .i64 (u + 1)) hL8.box
                have hS9 := hS8.box s2 hlbW_h.out hBlb_h.out hL8.box
                have hL9 : LbS w1 w4.heap.size D dl dc A' al ac G gl gc (u + 1) (refB g k (f + 1)) (w8.setCell ⟨w4.heap.size, 3, none⟩ (.int .i64 (u + 1))) := by
                 rw [hcases_h.out.1 hsame]
                 obtain ⟨⟨o1, o2, o3, o4⟩, o5⟩ := hL8.ok
                 have o := (LpOk.typ ⟨o1, o2, o3, o4⟩ s2 (fun b e => by subst e; exact ⟨_, tLp, (0, 0), hL8.box, by decide⟩) : LpOk _ ⟨D, dl, dc, A', al, ac, G, gl, gc, P⟩)
                 exact ⟨s1, ⟨⟨o.cod, o.wir, o.edg, o.len⟩, o5⟩, by show P.2.2 + 1 = u + 1; rw [huw_h.out]⟩
                have hr1 := hR1_h.out
                have hr2 := hR2_h.out
                rw [huw_h.out] at hr1 hr2
                clear s1 s2 hS8 hL8 hLp8 k8; have hS9_h := lH hS9; have hL9_h := lH hL9; clear hS9 hL9
                go_wp2_with (fail)
                go_roundw
                case rel => exact ⟨f + 1, _, _, _, _, _, _, _, _, _, _, ⟨by omega, by omega⟩, by go_num, hS9_h.out, hL9_h.out⟩
                case measure => simp [intOf]; omega
              · rw [decide_eq_false hsame]
                have hbf := cnBefore_any D2 D dc2 dc dl2 dl P2.1 P.1 w8 hLp8.1.cod.rd hL8.ok.1.cod.rd hLp8.1.len.1.1 hL8.ok.1.len.1.1 hLp8.1.len.1.2
                obtain ⟨T, hT⟩ : ∃ T, lexI P2.1 P.1 = T := ⟨_, rfl⟩
                rw [hT] at hbf
                have hS8_h := lH hS8; have hL8_h := lH hL8; have hLp8_h := lH hLp8; have k8_h := lH k8; have hbf_h := lH hbf; clear hS8 hL8 hLp8 k8 hbf
                go_wp2_with (fail)
                refine (hbf_h.out).mono ?_
                rintro e w9 ⟨rfl, hb9⟩
                have hS9 := hS8_h.out.below hb9
                have hL9 := hL8_h.out.below hb9
                have hLp9 := hLp8_h.out.below hb9
                have k9 := t_box_below k8_h.out hb9
                clear c0 c1 c2 c3 f0 f1 f2 f3 y0 y1 y2 y3 z0 z1 z2 z3
                obtain ⟨⟨c0, c1, c2, c3⟩, f0, f1, f2, f3⟩ := t_box4 k9
                obtain ⟨⟨y0, y1, y2, y3⟩, z0, z1, z2, z3⟩ := t_box4 hL9.box
                clear hS8_h hL8_h hLp8_h k8_h hbf_h hb9
                cases T
                · rw [← hcases_h.out.2.2 hsame hT] at hL9
                  clear hLp9 k9; have hS9_h := lH hS9; have hL9_h := lH hL9; clear hS9 hL9
                  go_wp2_with (fail)
                  go_roundw
                  case rel => exact ⟨f + 1, _, _, _, _, _, _, _, _, _, _, ⟨by omega, by omega⟩, by go_num, hS9_h.out, hL9_h.out⟩
                  case measure => simp [intOf]; omega
                · obtain ⟨s1, s2⟩ := set4 (a := .slice D2 dl2 dc2) (b := .slice A2 al2 ac2) (c := .slice G2 gl2 gc2) (d := .int .i64 u2) hL9.box
                  have hS10 := hS9.box s2 hlbW_h.out hBlb_h.out hL9.box
                  have hL10 : LbS w1 w4.heap.size D2 dl2 dc2 A2 al2 ac2 G2 gl2 gc2 u2 (refB g k (f + 1)) ((((w9.setCell ⟨w4.heap.size, 0, none⟩ (.slice D2 dl2 dc2)).setCell ⟨w4.heap.size, 1, none⟩ (.slice A2 al2 ac2)).setCell ⟨w4.heap.size, 2, none⟩ (.slice G2 gl2 gc2)).setCell ⟨w4.heap.size, 3, none⟩ (.int .i64 u2)) := by
                   rw [hcases_h.out.2.1 hsame hT]
                   exact ⟨s1, ⟨hLp9.1.typ s2 (fun b e => by subst e; exact ⟨_, tLp, (0, 0), hL9.box, by decide⟩), hLp9.2⟩, hu2_h.out⟩
                  clear s1 s2 hS9 hL9 hLp9 k9; have hS10_h := lH hS10; have hL10_h := lH hL10; clear hS10 hL10
                  go_wp2_with (fail)
                  go_roundw
                  case rel => exact ⟨f + 1, _, _, _, _, _, _, _, _, _, _, ⟨by omega, by omega⟩, by go_num, hS10_h.out, hL10_h.out⟩
                  case measure => simp [intOf]; omega
            · rw [if_neg (fun h => hin h.2)] at hstep
              rw [show P.2.1.2.contains (f : Int) = false by simpa using hin] at hhas
              clear hin hP kf; have hSf_h := lH hSf; have hLf_h := lH hLf; have hBf_h := lH hBf; have hstep_h := lH hstep; have hhas_h := lH hhas; clear hSf hLf hBf hstep hhas
              go_wp2_with (fail)
              refine (hhas_h.out).mono ?_
              rintro e w6 ⟨rfl, rfl⟩
              go_wp2_with (fail)
              go_roundw
              case rel => exact ⟨f + 1, _, _, _, _, _, _, _, _, _, _, ⟨by omega, by omega⟩, by go_num, hSf_h.out, by rw [hstep_h.out]; exact hLf_h.out⟩
              case measure => simp [intOf]; omega
          · obtain rfl : m = f := by omega
            obtain ⟨P, hP⟩ : ∃ P, refB g k m = P := ⟨_, rfl⟩
            rw [hP] at hLf hRok hR1 hR2 huw hps_h
            clear hP kf y0 y1 y2 y3 z0 z1 z2 z3; have hSf_h := lH hSf; have hLf_h := lH hLf; have hBf_h := lH hBf; have hRok_h := lH hRok; have hR1_h := lH hR1; have hR2_h := lH hR2; have huw_h := lH huw; clear hSf hLf hBf hRok hR1 hR2 huw
            go_wp2_with (fail)
            have hln60 : ln ≤ 60 := by
             have h1 := (scan_ok g k (by rw [hm_h.out]; exact hk)).1
             have h2 := congrArg List.length hSf_h.out.pps
             rw [List.length_map, hSf_h.out.xln] at h2
             omega
            have hbest := prt_ok hMo_h.out hRok_h.out
            clear c0 c1 c2 c3 f0 f1 f2 f3; have hbest_h := lH hbest; clear hbest
            go_loopw [14] (fun i wr => ∃ (i' : Nat), i' ≤ ln ∧ i = .int .i64 i' ∧ insK P (scanTo g k).2 = i' + insK P ((scanTo g k).2.drop i') ∧ Below wf.heap.size wf wr) (fun i _ => ln - (intOf i).toNat)
            case atStart => exact ⟨0, Nat.zero_le _, rfl, by rw [List.drop_zero, Nat.zero_add], Below.refl _ _⟩
            case round =>
             obtain ⟨i, hil, rfl, hins, hbi⟩ := hrel
             obtain ⟨wi, rfl⟩ : ∃ x, x = wr := ⟨_, rfl⟩
             rcases Nat.lt_or_ge i ln with hi | hi
             case' inl =>
              obtain ⟨x, hx⟩ : ∃ x, xs[i]? = some x := ⟨_, List.getElem?_eq_getElem (by rw [hSf_h.out.xln]; exact hi)⟩
              have hxp : (scanTo g k).2[i]? = some x.P := by rw [← hSf_h.out.pps, List.getElem?_map, hx]; rfl
              have hid := insK_drop P _ i x.P hxp
              have hxok := prt_ok hMo_h.out ((scan_ok g k (by rw [hm_h.out]; exact hk)).2 x.P (List.mem_of_getElem? hxp)).1
              have hxf := hSf_h.out.ok x (List.mem_of_getElem? hx)
              obtain ⟨ad, hBx, d0, d1, d2, d3⟩ := lp_at hSf_h.out.sl hx
              obtain ⟨XD, xdl, xdc, XA, xal, xac, XG, xgl, xgc, XP⟩ := x
              simp only at d0 d1 d2 d3 hid hxok hxf
              obtain ⟨xu, hxu⟩ : ∃ q, XP.2.2 = q := ⟨_, rfl⟩
              rw [hxu] at d3
              have hcb : ∀ W', Below wf.heap.size wf W' → Calls Tryz.prog 65 #[.agg #[.slice D dl dc, .slice A' al ac, .slice G gl gc, .int .i64 u], .agg #[.slice XD xdl xdc, .slice XA xal xac, .slice XG xgl xgc, .int .i64 xu]] W' fun e w' => e = .returned (.bool (befP P XP)) ∧ Below W'.heap.size W' w' := fun W' hb => by
               have h1 := cnLoopBefore_any ⟨D, dl, dc, A', al, ac, G, gl, gc, P⟩ ⟨XD, xdl, xdc, XA, xal, xac, XG, xgl, xgc, XP⟩ W' (hLf_h.out.ok.1.below hb) (hxf.1.below hb) (fun v hv => (hbest_h.out.2.1.1 v hv).1) (fun v hv => (hxok.2.1.1 v hv).1)
               have e1 : Lp.cells ⟨D, dl, dc, A', al, ac, G, gl, gc, P⟩ = [.slice D dl dc, .slice A' al ac, .slice G gl gc, .int .i64 u] := by unfold Lp.cells; rw [huw_h.out]
               have e2 : Lp.cells ⟨XD, xdl, xdc, XA, xal, xac, XG, xgl, xgc, XP⟩ = [.slice XD xdl xdc, .slice XA xal xac, .slice XG xgl xgc, .int .i64 xu] := by unfold Lp.cells; rw [hxu]
               rw [e1, e2] at h1
               exact h1
              subst hBx
              obtain ⟨T, hT⟩ : ∃ T, befP P XP = T := ⟨_, rfl⟩
              rw [hT] at hcb hid
              have hiI : (i : Int) < (ln : Int) := by omega
              clear hx hxp hxok hxf hxu hT; have hins_h := lH hins; have hbi_h := lH hbi; have hid_h := lH hid; have hcb_h := lH hcb; clear hins hbi hid hcb
              go_upto_region 23 with (fail)
              refine beginH (fun w' => Below wi.heap.size wi w') (by kernel_rfl) ?_
              have hbd : Below wi.heap.size wi wi.drew := below_drewN (Below.refl _ _) 1
              generalize wi.drew = W1 at hbd ⊢
              refine tkH 0 ?_ rfl hbd (fun W' hW' => ?_) ?_; rotate_left; · (have hq := below_trans hbi_h.out hW' hbi_h.out.size; obtain ⟨⟨y0, y1, y2, y3⟩, z0, z1, z2, z3⟩ := t_box4 (t_box_below hLf_h.out.box hq); have v0 := (hq.cell (World.block_lt_of_cell? _ _ d0)).trans d0; have v1 := (hq.cell (World.block_lt_of_cell? _ _ d1)).trans d1; have v2 := (hq.cell (World.block_lt_of_cell? _ _ d2)).trans d2; have v3 := (hq.cell (World.block_lt_of_cell? _ _ d3)).trans d3; clear hq; clear hW'; go_simp; first | done | with_reducible rfl)
              simp only [Act.put, nS]
              refine tkH 1 ?_ rfl hbd (fun W' hW' => ?_) ?_; rotate_left; · (have hq := below_trans hbi_h.out hW' hbi_h.out.size; obtain ⟨⟨y0, y1, y2, y3⟩, z0, z1, z2, z3⟩ := t_box4 (t_box_below hLf_h.out.box hq); have v0 := (hq.cell (World.block_lt_of_cell? _ _ d0)).trans d0; have v1 := (hq.cell (World.block_lt_of_cell? _ _ d1)).trans d1; have v2 := (hq.cell (World.block_lt_of_cell? _ _ d2)).trans d2; have v3 := (hq.cell (World.block_lt_of_cell? _ _ d3)).trans d3; clear hq; clear hW'; go_simp; first | done | with_reducible rfl)
              simp only [Act.put, nS]
              refine tkH 2 ?_ rfl hbd (fun W' hW' => ?_) ?_; rotate_left; · (have hq := below_trans hbi_h.out hW' hbi_h.out.size; obtain ⟨⟨y0, y1, y2, y3⟩, z0, z1, z2, z3⟩ := t_box4 (t_box_below hLf_h.out.box hq); have v0 := (hq.cell (World.block_lt_of_cell? _ _ d0)).trans d0; have v1 := (hq.cell (World.block_lt_of_cell? _ _ d1)).trans d1; have v2 := (hq.cell (World.block_lt_of_cell? _ _ d2)).trans d2; have v3 := (hq.cell (World.block_lt_of_cell? _ _ d3)).trans d3; clear hq; clear hW'; go_simp; first | done | with_reducible rfl)
              simp only [Act.put, nS]
              refine tkH 3 ?_ rfl hbd (fun W' hW' => ?_) ?_; rotate_left; · (have hq := below_trans hbi_h.out hW' hbi_h.out.size; obtain ⟨⟨y0, y1, y2, y3⟩, z0, z1, z2, z3⟩ := t_box4 (t_box_below hLf_h.out.box hq); have v0 := (hq.cell (World.block_lt_of_cell? _ _ d0)).trans d0; have v1 := (hq.cell (World.block_lt_of_cell? _ _ d1)).trans d1; have v2 := (hq.cell (World.block_lt_of_cell? _ _ d2)).trans d2; have v3 := (hq.cell (World.block_lt_of_cell? _ _ d3)).trans d3; clear hq; clear hW'; go_simp; first | done | with_reducible rfl)
              simp only [Act.put, nS]
              refine tkH 4 ?_ rfl hbd (fun W' hW' => ?_) ?_; rotate_left; · (have hq := below_trans hbi_h.out hW' hbi_h.out.size; obtain ⟨⟨y0, y1, y2, y3⟩, z0, z1, z2, z3⟩ := t_box4 (t_box_below hLf_h.out.box hq); have v0 := (hq.cell (World.block_lt_of_cell? _ _ d0)).trans d0; have v1 := (hq.cell (World.block_lt_of_cell? _ _ d1)).trans d1; have v2 := (hq.cell (World.block_lt_of_cell? _ _ d2)).trans d2; have v3 := (hq.cell (World.block_lt_of_cell? _ _ d3)).trans d3; clear hq; clear hW'; go_simp; first | done | with_reducible rfl)
              simp only [Act.put, nS]
              refine tkH 5 ?_ rfl hbd (fun W' hW' => ?_) ?_; rotate_left; · (have hq := below_trans hbi_h.out hW' hbi_h.out.size; obtain ⟨⟨y0, y1, y2, y3⟩, z0, z1, z2, z3⟩ := t_box4 (t_box_below hLf_h.out.box hq); have v0 := (hq.cell (World.block_lt_of_cell? _ _ d0)).trans d0; have v1 := (hq.cell (World.block_lt_of_cell? _ _ d1)).trans d1; have v2 := (hq.cell (World.block_lt_of_cell? _ _ d2)).trans d2; have v3 := (hq.cell (World.block_lt_of_cell? _ _ d3)).trans d3; clear hq; clear hW'; go_simp; first | done | with_reducible rfl)
              simp only [Act.put, nS]
              refine tkH 6 ?_ rfl hbd (fun W' hW' => ?_) ?_; rotate_left; · (have hq := below_trans hbi_h.out hW' hbi_h.out.size; obtain ⟨⟨y0, y1, y2, y3⟩, z0, z1, z2, z3⟩ := t_box4 (t_box_below hLf_h.out.box hq); have v0 := (hq.cell (World.block_lt_of_cell? _ _ d0)).trans d0; have v1 := (hq.cell (World.block_lt_of_cell? _ _ d1)).trans d1; have v2 := (hq.cell (World.block_lt_of_cell? _ _ d2)).trans d2; have v3 := (hq.cell (World.block_lt_of_cell? _ _ d3)).trans d3; clear hq; clear hW'; go_simp; first | done | with_reducible rfl)
              simp only [Act.put, nS]
              refine tkH 7 ?_ rfl hbd (fun W' hW' => ?_) ?_; rotate_left; · (have hq := below_trans hbi_h.out hW' hbi_h.out.size; obtain ⟨⟨y0, y1, y2, y3⟩, z0, z1, z2, z3⟩ := t_box4 (t_box_below hLf_h.out.box hq); have v0 := (hq.cell (World.block_lt_of_cell? _ _ d0)).trans d0; have v1 := (hq.cell (World.block_lt_of_cell? _ _ d1)).trans d1; have v2 := (hq.cell (World.block_lt_of_cell? _ _ d2)).trans d2; have v3 := (hq.cell (World.block_lt_of_cell? _ _ d3)).trans d3; clear hq; clear hW'; go_simp; first | done | with_reducible rfl)
              simp only [Act.put, nS]
              refine tkH 8 ?_ rfl hbd (fun W' hW' => ?_) ?_; rotate_left; · (have hq := below_trans hbi_h.out hW' hbi_h.out.size; obtain ⟨⟨y0, y1, y2, y3⟩, z0, z1, z2, z3⟩ := t_box4 (t_box_below hLf_h.out.box hq); have v0 := (hq.cell (World.block_lt_of_cell? _ _ d0)).trans d0; have v1 := (hq.cell (World.block_lt_of_cell? _ _ d1)).trans d1; have v2 := (hq.cell (World.block_lt_of_cell? _ _ d2)).trans d2; have v3 := (hq.cell (World.block_lt_of_cell? _ _ d3)).trans d3; clear hq; clear hW'; go_simp; first | done | with_reducible rfl)
              simp only [Act.put, nS]
              refine tkH 9 ?_ rfl hbd (fun W' hW' => ?_) ?_; rotate_left; · (have hq := below_trans hbi_h.out hW' hbi_h.out.size; obtain ⟨⟨y0, y1, y2, y3⟩, z0, z1, z2, z3⟩ := t_box4 (t_box_below hLf_h.out.box hq); have v0 := (hq.cell (World.block_lt_of_cell? _ _ d0)).trans d0; have v1 := (hq.cell (World.block_lt_of_cell? _ _ d1)).trans d1; have v2 := (hq.cell (World.block_lt_of_cell? _ _ d2)).trans d2; have v3 := (hq.cell (World.block_lt_of_cell? _ _ d3)).trans d3; clear hq; clear hW'; go_simp; first | done | with_reducible rfl)
              simp only [Act.put, nS]
              refine' callH 10 (f := _) (args := _) rfl (by kernel_rfl) (by rfl) ?_ ?_; rotate_left 2; · (go_simp; first | done | with_reducible rfl | (constructor <;> with_reducible rfl))
              refine (hcb_h.out W1 (below_trans hbi_h.out hbd hbi_h.out.size)).mono ?_
              rintro e w6 ⟨rfl, hb6⟩
              have hb16 := below_trans hbd hb6 hbd.size
              have hbf6 := below_trans hbi_h.out hb16 hbi_h.out.size
              refine ⟨_, rfl, hb16, ?_⟩
              simp only [Act.put, nS]
              refine tkH 11 ?_ rfl hb16 (fun W' hW' => ?_) ?_; rotate_left; · (skip; clear hW'; go_simp; first | done | with_reducible rfl)
              simp only [Act.put, nS]
              refine tkH 12 ?_ rfl hb16 (fun W' hW' => ?_) ?_; rotate_left; · (skip; clear hW'; go_simp; first | done | with_reducible rfl)
              simp only [Act.put, nS]
              refine doneH (by kernel_rfl) ?_
              clear hcb_h hb6 hbd; have hbf6_h := lH hbf6; clear hbf6
              cases T
              · have hins' : insK P (scanTo g k).2 = i + 1 + insK P ((scanTo g k).2.drop (i + 1)) := by
                 have h1 := hid_h.out
                 rw [if_neg (by simp)] at h1
                 rw [hins_h.out, h1]
                 omega
                clear hins_h hbi_h; have hins'_h := lH hins'; clear hins'
                go_wp2_with (fail)
                go_roundw
                case rel => exact ⟨i + 1, by omega, by go_num, hins'_h.out, hbf6_h.out⟩
                case measure => simp [intOf]; omega
              have hie : i = insK P (scanTo g k).2 := by
               have h1 := hid_h.out
               rw [if_pos rfl] at h1
               rw [hins_h.out, h1]
               rfl
              clear d0 d1 d2 d3 hid_h hins_h hbi_h hb16; have hie_h := lH hie; clear hie
             case' inr =>
              have hiI : ¬ (i : Int) < (ln : Int) := by omega
              have hpl : (scanTo g k).2.length = ln := by
               have h2 := congrArg List.length hSf_h.out.pps
               rw [List.length_map, hSf_h.out.xln] at h2
               exact h2.symm
              have hie : i = insK P (scanTo g k).2 := by
               rw [hins, List.drop_of_length_le (by omega)]
               rfl
              clear hpl hins; have hbi_h := lH hbi; have hie_h := lH hie; clear hbi hie
              go_upto_region 23 with (fail)
              refine beginH (fun w' => Below wi.heap.size wi w') (by kernel_rfl) ?_
              have hbd : Below wi.heap.size wi wi.drew := below_drewN (Below.refl _ _) 1
              generalize wi.drew = w6 at hbd ⊢
              refine tkH 0 ?_ rfl hbd (fun W' hW' => ?_) ?_; rotate_left; · (skip; clear hW'; go_simp; first | done | with_reducible rfl)
              simp only [Act.put, nS]
              refine tkH 1 ?_ rfl hbd (fun W' hW' => ?_) ?_; rotate_left; · (skip; clear hW'; go_simp; first | done | with_reducible rfl)
              simp only [Act.put, nS]
              refine tkH 2 ?_ rfl hbd (fun W' hW' => ?_) ?_; rotate_left; · (skip; clear hW'; go_simp; first | done | with_reducible rfl)
              simp only [Act.put, nS]
              refine tkH 3 ?_ rfl hbd (fun W' hW' => ?_) ?_; rotate_left; · (skip; clear hW'; go_simp; first | done | with_reducible rfl)
              simp only [Act.put, nS]
              refine tkH 4 ?_ rfl hbd (fun W' hW' => ?_) ?_; rotate_left; · (skip; clear hW'; go_simp; first | done | with_reducible rfl)
              simp only [Act.put, nS]
              refine offH 5 rfl (by kernel_rfl) (by kernel_rfl) (by kernel_rfl) (fun _ _ _ h => h) hbd (by rfl) ?_
              simp only [Act.put, nS]
              refine offH 6 rfl (by kernel_rfl) (by kernel_rfl) (by kernel_rfl) (fun _ _ _ h => h) hbd (by rfl) ?_
              simp only [Act.put, nS]
              refine offH 7 rfl (by kernel_rfl) (by kernel_rfl) (by kernel_rfl) (fun _ _ _ h => h) hbd (by rfl) ?_
              simp only [Act.put, nS]
              refine offH 8 rfl (by kernel_rfl) (by kernel_rfl) (by kernel_rfl) (fun _ _ _ h => h) hbd (by rfl) ?_
              simp only [Act.put, nS]
              refine offH 9 rfl (by kernel_rfl) (by kernel_rfl) (by kernel_rfl) (fun _ _ _ h => h) hbd (by rfl) ?_
              simp only [Act.put, nS]
              refine offH 10 rfl (by kernel_rfl) (by kernel_rfl) (by kernel_rfl) (fun _ _ _ h => h) hbd (by rfl) ?_
              simp only [Act.put, nS]
              refine offH 11 rfl (by kernel_rfl) (by kernel_rfl) (by kernel_rfl) (fun _ _ _ h => h) hbd (by rfl) ?_
              simp only [Act.put, nS]
              refine tkH 12 ?_ rfl hbd (fun W' hW' => ?_) ?_; rotate_left; · (skip; clear hW'; go_simp; first | done | with_reducible rfl)
              simp only [Act.put, nS]
              refine doneH (by kernel_rfl) ?_
              have hbf6 := below_trans hbi_h.out hbd hbi_h.out.size
              clear hbd hbi_h; have hbf6_h := lH hbf6; clear hbf6
             all_goals
              have hSt := hSf_h.out.below hbf6_h.out
              have hLt := hLf_h.out.below hbf6_h.out
              obtain ⟨A1, A2, r1, r2, l1, l2, f2⟩ := hSt.parts hil
              obtain ⟨q, hq⟩ : ∃ q, ln - i = q := ⟨_, rfl⟩
              rw [hq] at l1 r1
              obtain ⟨W6, hW6, bW6, s6⟩ : ∃ W, W = w6.alloc (.cells #[] tLp) ∧ Below w6.heap.size w6 W ∧ Sl W tLp 4 (some ⟨w6.heap.size, 0, none⟩) 0 0 [] := ⟨_, rfl, t_below_alloc _ _, Sl.laid w6 tLp 4 0 #[] (Nat.zero_le _) rfl⟩
              have hl1 : ((xs.drop i).flatMap Lp.cells).length = q * 4 := by rw [flat_len lp_len, List.length_drop, hSt.xln, hq]
              have hrd1 := (l1.below bW6).rdc
              have hSt_h := lH hSt; have hLt_h := lH hLt; have l1_h := lH l1; have l2_h := lH l2; have f2_h := lH f2; have bW6_h := lH bW6; have s6_h := lH s6; have hl1_h := lH hl1; have hrd1_h := lH hrd1; clear hSt hLt l1 l2 f2 bW6 s6 hl1 hrd1
              go_wp2_with (at_builtin; rw [← hW6]; refine wpList_append_Sl _ rfl _ _ _ rfl tLp Tryz.underlying74 info_lp rfl (by omega) rfl s6_h.out rfl hl1_h.out hrd1_h.out (lps_one _) (by unfold maxLen; omega) (by omega) ?_; intro R rc w7 hsR hAR hkR)
              have hb67 := below_keeps bW6_h.out hkR bW6_h.out.size (fun b hb => by have : b = w6.heap.size := (by simpa using hb); omega)
              have hRf : ∀ b, b ∈ fpA R → w6.heap.size ≤ b := fun b hb => by
               rcases hAR b hb with h1 | h1
               · have : b = w6.heap.size := by simpa using h1
                 omega
               · have := bW6_h.out.size; omega
              have hA2f : ∀ b, b ∈ fpA A2 → b < w6.heap.size := fun b hb => l2_h.out.lt b hb
              simp only [List.nil_append] at hsR
              clear hAR hkR hrd1_h s6_h bW6_h l1_h hW6; have hb67_h := lH hb67; have hRf_h := lH hRf; have hA2f_h := lH hA2f; have hsR_h := lH hsR; clear hb67 hRf hA2f hsR
              refine beginH (fun w' => w'.heap[w4.heap.size]? = some (.cells #[.slice D dl dc, .slice A' al ac, .slice G gl gc, .int .i64 u] tLp)) (by kernel_rfl) ?_
              have hbd : Below w7.heap.size w7 w7.drew := below_drewN (Below.refl _ _) 1
              generalize w7.drew = w8 at hbd ⊢
              have hb68 := below_trans hb67_h.out hbd hb67_h.out.size
              obtain ⟨W9, hW9, b9, s9⟩ : ∃ W, W = w8.alloc (.cells #[.slice D dl dc, .slice A' al ac, .slice G gl gc, .int .i64 u] tLp) ∧ Below w8.heap.size w8 W ∧ Sl W tLp 4 (some ⟨w8.heap.size, 0, none⟩) 1 1 [.slice D dl dc, .slice A' al ac, .slice G gl gc, .int .i64 u] := ⟨_, rfl, t_below_alloc _ _, Sl.laid w8 tLp 4 1 #[.slice D dl dc, .slice A' al ac, .slice G gl gc, .int .i64 u] (by unfold maxLen; omega) rfl⟩
              have hb69 := below_trans hb68 b9 hb68.size
              have hL8 := hLt_h.out.below hb68
              have hL9 := hLt_h.out.below hb69
              have l29 := l2_h.out.below hb69
              have hR9 := hsR_h.out.below (below_trans hbd b9 hbd.size)
              have hrd9 := s9.rdc
              clear hbd hb68 b9 s9 hsR_h; have hb69_h := lH hb69; have hL8_h := lH hL8; have hL9_h := lH hL9; have l29_h := lH l29; have hR9_h := lH hR9; have hrd9_h := lH hrd9; clear hb69 hL8 hL9 l29 hR9 hrd9
              refine tkH 0 ?_ rfl hL8_h.out.box (fun W' hW' => ?_) ?_; rotate_left; · (obtain ⟨⟨y0, y1, y2, y3⟩, z0, z1, z2, z3⟩ := t_box4 hW'; clear hW'; go_simp; first | done | with_reducible rfl)
              simp only [Act.put, nS]
              refine tkH 1 ?_ rfl hL8_h.out.box (fun W' hW' => ?_) ?_; rotate_left; · (obtain ⟨⟨y0, y1, y2, y3⟩, z0, z1, z2, z3⟩ := t_box4 hW'; clear hW'; go_simp; first | done | with_reducible rfl)
              simp only [Act.put, nS]
              refine tkH 2 ?_ rfl hL8_h.out.box (fun W' hW' => ?_) ?_; rotate_left; · (obtain ⟨⟨y0, y1, y2, y3⟩, z0, z1, z2, z3⟩ := t_box4 hW'; clear hW'; go_simp; first | done | with_reducible rfl)
              simp only [Act.put, nS]
              refine tkH 3 ?_ rfl hL8_h.out.box (fun W' hW' => ?_) ?_; rotate_left; · (obtain ⟨⟨y0, y1, y2, y3⟩, z0, z1, z2, z3⟩ := t_box4 hW'; clear hW'; go_simp; first | done | with_reducible rfl)
              simp only [Act.put, nS]
              refine tkH 6 ?_ rfl hL8_h.out.box (fun W' hW' => ?_) ?_; rotate_left; · (obtain ⟨⟨y0, y1, y2, y3⟩, z0, z1, z2, z3⟩ := t_box4 hW'; clear hW'; go_simp; first | done | with_reducible rfl)
              simp only [Act.put, nS]
              refine oneH 4 rfl (by kernel_rfl) (by rfl) (fun K hK => ?_)
              go_simp
              refine hK _ _ (by rw [← hW9]; exact hL9_h.out.box) ?_
              clear hK K
              rw [← hW9]
              clear hW9
              refine appH 5 rfl (by kernel_rfl) (by rfl) _ _ _ rfl tLp Tryz.underlying74 info_lp rfl (by omega) rfl l29_h.out rfl (news := [.slice D dl dc, .slice A' al ac, .slice G gl gc, .int .i64 u]) rfl hrd9_h.out (by intro u hu; simp at hu; rcases hu with rfl | rfl | rfl | rfl <;> rfl) (by unfold maxLen; omega) (by omega) ?_
              intro A3 c3 w10 hs3 hA3 hk3
              have hlbA : ∀ b, b ∈ fpA A2 → b ≠ w4.heap.size := fun b hb => hBlb_h.out b (f2_h.out b hb)
              have hbx10 := t_box_keeps hL9_h.out.box hk3 (fun h => hlbA _ h rfl)
              have hR10 := hR9_h.out.keeps hk3 (fun b hb h => by have := hRf_h.out b hb; have := hA2f_h.out b h; omega)
              have hok10 := hL9_h.out.ok.1.typ hk3 (sl_typ l29_h.out (by decide))
              have hrd10 := hR10.rdc
              have hlb10 : w4.heap.size < W9.heap.size := t_box_lt hL9_h.out.box
              clear hL8_h hR9_h hrd9_h hR10; have hs3_h := lH hs3; have hA3_h := lH hA3; have hk3_h := lH hk3; have hbx10_h := lH hbx10; have hok10_h := lH hok10; have hrd10_h := lH hrd10; have hlbA_h := lH hlbA; have hlb10_h := lH hlb10; clear hs3 hA3 hk3 hbx10 hok10 hrd10 hlbA hlb10
              refine ⟨hbx10_h.out, ?_⟩
              simp only [Act.put, nS]
              refine appH 7 rfl (by kernel_rfl) (by rfl) _ _ _ rfl tLp Tryz.underlying74 info_lp rfl (by omega) rfl hs3_h.out rfl hl1_h.out hrd10_h.out (lps_one _) (by unfold maxLen; omega) (by omega) ?_
              intro A4 c4 w11 hs4 hA4 hk4
              have hA3c : ∀ b, b ∈ fpA A3 → b ∈ fpA A2 ∨ W9.heap.size ≤ b := hA3_h.out
              have hbx11 := t_box_keeps hbx10_h.out hk4 (fun h => by
               rcases hA3c _ h with h1 | h1
               · exact hlbA_h.out _ h1 rfl
               · have := hlb10_h.out; omega)
              have hok11 := hok10_h.out.typ hk4 (sl_typ hs3_h.out (by decide))
              have hk611 : Keeps (fun x => x ∈ fpA A2) w6 w11 := ((Keeps.of_below hb69_h.out _).trans hk3_h.out).free hk4 (fun b h1 h2 => by
               rcases hA3c _ h2 with h3 | h3
               · exact h3
               · have := hb69_h.out.size; omega)
              have ec : (xs.take i ++ (⟨D, dl, dc, A', al, ac, G, gl, gc, P⟩ : Lp) :: xs.drop i).flatMap Lp.cells = ((xs.take i).flatMap Lp.cells ++ [.slice D dl dc, .slice A' al ac, .slice G gl gc, .int .i64 u]) ++ (xs.drop i).flatMap Lp.cells := by
               have hcl : Lp.cells ⟨D, dl, dc, A', al, ac, G, gl, gc, P⟩ = [.slice D dl dc, .slice A' al ac, .slice G gl gc, .int .i64 u] := by unfold Lp.cells; rw [huw_h.out]
               rw [List.flatMap_append, List.flatMap_cons, hcl, ← List.append_assoc]
              rw [← ec] at hs4
              have hf4 : Fresh w1.heap.size A4 := fun b hb => by
               have hz := hb69_h.out.size
               have hz2 := hSt_h.out.kp.size
               have hz3 := hk3_h.out.size
               rcases hA4 b hb with h1 | h1
               · rcases hA3c b h1 with h2 | h2
                 · exact hSt_h.out.bf b (f2_h.out b h2)
                 · omega
               · omega
              have hS11 := hSt_h.out.ins (b := ⟨D, dl, dc, A', al, ac, G, gl, gc, P⟩) hie_h.out ⟨hok11, hL9_h.out.ok.2⟩ (by omega) hs4 hf4 (hk611.mono fun _ _ h => f2_h.out _ h)
              rw [← hps_h.out] at hS11
              clear hs4 hA4 hk4 hok11 hk611 ec hf4 hA3c hs3_h hA3_h hk3_h hbx10_h hok10_h hrd10_h; have hS11_h := lH hS11; have hbx11_h := lH hbx11; clear hS11 hbx11
              refine ⟨hbx11_h.out, ?_⟩
              simp only [Act.put, nS]
              refine tkH 8 ?_ rfl hbx11_h.out (fun W' hW' => ?_) ?_; rotate_left; · (skip; clear hW'; go_simp; first | done | with_reducible rfl)
              simp only [Act.put, nS]
              refine doneH (by kernel_rfl) ?_
              go_wp2_with (fail)
              go_roundw
              case rel => exact ⟨k + 1, _, _, _, _, _, by omega, by go_num, rfl, hS11_h.out⟩
              case measure => simp [intOf]; omega
  · obtain rfl : m = k := by omega
    have hpt : (scanTo g m).2 = partsM g := by unfold partsM; rw [hm_h.out]
    rw [hpt] at hS
    have hwWs := hB1_h.out.size
    have hxn := hS.xln
    have hS_h := lH hS; have hBo_h := lH hBo; have ko_h := lH ko; clear hS hBo ko
    obtain ⟨⟨c0, c1, c2, c3⟩, f0, f1, f2, f3⟩ := t_box4 ko_h.out
    go_wp2_with (fail)
    go_ret
    refine ⟨Bx, cap, xs, by rw [hxn]; exact congrArg Ending.returned (by go_num), by rw [hxn]; exact hS_h.out.sl, fun x hx => ?_, hS_h.out.pps, hBo_h.out⟩
    obtain ⟨o1, o2, o3, o4⟩ := hS_h.out.ok x hx
    exact ⟨o1, fun b hb => Nat.le_trans hwWs (o2 b hb), fun b hb => Nat.le_trans hwWs (o3 b hb), fun b hb => Nat.le_trans hwWs (o4 b hb)⟩
def RetCn (w : World) (n m : Nat) (p : List Int × List Int) (e : Ending) (w' : World) : Prop :=
 ∃ Wa Ea : Addr, e = .returned (.tuple #[.slice (some Wa) n n, .slice (some Ea) m m]) ∧ IS w' (some Wa) n p.1 ∧ IS w' (some Ea) m p.2 ∧ Wa.block ≠ Ea.block ∧ w.heap.size ≤ Wa.block ∧ w.heap.size ≤ Ea.block ∧ Below w.heap.size w w'
structure NuS (W : World) (N E : Addr) (n m : Nat) (t1 t2 : List Int) (w : World) : Prop where
 i1 : IS w (some N) n t1
 i2 : IS w (some E) m t2
 l1 : t1.length = n
 l2 : t2.length = m
 ne : N.block ≠ E.block
 lt : N.block < W.heap.size ∧ E.block < W.heap.size
 kp : Keeps (fun b => b = N.block ∨ b = E.block) W w
section
variable {W w w' : World} {N E : Addr} {n m : Nat} {t1 t2 : List Int}
theorem NuS.below (h : NuS W N E n m t1 t2 w) (hb : Below w.heap.size w w') : NuS W N E n m t1 t2 w' :=
 ⟨h.i1.below hb, h.i2.below hb, h.l1, h.l2, h.ne, h.lt, h.kp.free (Keeps.of_below hb (fun _ => False)) fun _ _ h => h.elim⟩
theorem NuS.set1 (h : NuS W N E n m t1 t2 w) {j : Nat} (x : Int) (hj : j < n) : NuS W N E n m (t1.set j x) t2 (w.setCell (N.add j) (.int .i64 x)) ∧ Keeps (fun b => b = N.block) w (w.setCell (N.add j) (.int .i64 x)) := by
 have hk : Keeps (fun b => b = N.block) w (w.setCell (N.add j) (.int .i64 x)) := Keeps.setCell (S := fun b => b = N.block) (Keeps.refl _ w) (p := N.add j) (by rw [block_of_add]) _
 exact ⟨⟨h.i1.set rfl x (by rw [h.l1]; exact hj), h.i2.keeps hk (fun b hb e => h.ne (e.symm.trans (by simpa using hb : b = E.block))), by simpa using h.l1, h.l2, h.ne, h.lt, h.kp.trans (hk.mono fun _ _ e => .inl e)⟩, hk⟩
theorem NuS.set2 (h : NuS W N E n m t1 t2 w) {j : Nat} (x : Int) (hj : j < m) : NuS W N E n m t1 (t2.set j x) (w.setCell (E.add j) (.int .i64 x)) ∧ Keeps (fun b => b = E.block) w (w.setCell (E.add j) (.int .i64 x)) := by
 have hk : Keeps (fun b => b = E.block) w (w.setCell (E.add j) (.int .i64 x)) := Keeps.setCell (S := fun b => b = E.block) (Keeps.refl _ w) (p := E.add j) (by rw [block_of_add]) _
 exact ⟨⟨h.i1.keeps hk (fun b hb e => h.ne ((by simpa using hb : b = N.block).symm.trans e)), h.i2.set rfl x (by rw [h.l2]; exact hj), h.l1, by simpa using h.l2, h.ne, h.lt, h.kp.trans (hk.mono fun _ _ e => .inr e)⟩, hk⟩
theorem NuS.sl (h : NuS W N E n m t1 t2 W) {e : TypeId} (he : e ≠ tInt) {sz k cap : Nat} {A : Option Addr} {xs : List Value} (hs : Sl W e sz A k cap xs) (hk : Keeps (fun b => b = N.block ∨ b = E.block) W w') : Sl w' e sz A k cap xs :=
 hs.keeps hk fun b hb hS => by
  obtain ⟨cs, t, fr, hg, ht⟩ := sl_typ hs he b hb
  obtain ⟨_, q1⟩ := is_box h.i1
  obtain ⟨_, q2⟩ := is_box h.i2
  rcases hS with rfl | rfl
  · rw [hg] at q1
    injection q1 with q1
    injection q1 with _ h1
    exact ht h1
  · rw [hg] at q2
    injection q2 with q2
    injection q2 with _ h1
    exact ht h1
end
set_option maxRecDepth 100000 in
set_option maxHeartbeats 16000000 in
theorem cnNumbers_any {v : Value} {g : Gr} (w : World) (n m : Nat) (h : RdGr w v g) (hMo : Mono g n) (hm : g.2.1.length = m) :
  Calls Tryz.prog 37 #[v] w (RetCn w n m (cnM g)) := by
 have hn100 := hMo.n100
 have hm60 : m ≤ 60 := by rw [← hm]; exact hMo.m60
 have hgn := hMo.hn
 have hW0 := h
 obtain ⟨A, c, hs, ⟨B, bb, s⟩, ⟨C, d, t⟩, rfl, e1, e2, e3, hE, hRa, hRb⟩ := h
 have hml : hs.length = m := by rw [← hm, e1, List.length_map]
 simp only [hgn, hml] at hW0 ⊢
 obtain ⟨p, hp⟩ : ∃ p, s.length = p := ⟨_, rfl⟩
 obtain ⟨r, hr⟩ : ∃ r, t.length = r := ⟨_, rfl⟩
 rw [hp, hr] at hW0 ⊢
 obtain ⟨W, hWe, bW, k0⟩ := (⟨_, rfl, t_below_alloc _ _, heap_alloc_new _ _⟩ : ∃ W, W = w.alloc (.cells #[.int .i64 (n : Int), .slice A m c, .slice B p bb, .slice C r d] tGr) ∧ Below w.heap.size w W ∧ W.heap[w.heap.size]? = some (.cells #[.int .i64 (n : Int), .slice A m c, .slice B p bb, .slice C r d] tGr))
 obtain ⟨⟨c0, c1, c2, c3⟩, f0, f1, f2, f3⟩ := t_box4 k0
 have hop := cnOpen_any W n m (hW0.below bW) hMo hm
 have hct0 := cnTo_eq hMo 0 (Nat.zero_le _)
 have hw0 : ordW g 0 = (openM g).1 := by unfold ordW; simp
 have he0 : ordE g 0 = (openM g).2 := by unfold ordE; simp
 rw [hw0, he0, hm] at hct0
 obtain ⟨ol, hol⟩ : ∃ q, (openM g).1.length = q := ⟨_, rfl⟩
 obtain ⟨oc, hoc⟩ : ∃ q : Int, ((openM g).2.length : Int) = q := ⟨_, rfl⟩
 rw [hol, hoc] at hop hct0
 clear hRa hRb e1 e2 e3 hE hw0 he0; have hMo_h := lH hMo; have hm_h := lH hm; have hW0_h := lH hW0; have hgn_h := lH hgn; have hml_h := lH hml; have hp_h := lH hp; have hr_h := lH hr; have bW_h := lH bW; have k0_h := lH k0; have hop_h := lH hop; have hol_h := lH hol; have hoc_h := lH hoc; have hct0_h := lH hct0; clear hMo hm hW0 hgn hml hp hr bW k0 hop hol hoc hct0
 go_enter Tryz.func37, Tryz.ntmps37
 go_upto_region 1 with (fail)
 rw [← hWe]
 clear hWe
 go_wp2_with (fail)
 refine (hop_h.out).mono ?_
 rintro e w1 ⟨N, E, A1, c1', rfl, hC1⟩
 have k1 := t_box_below k0_h.out hC1.bel
 have hB1 := below_trans bW_h.out hC1.bel bW_h.out.size
 have hwW : w.heap.size < W.heap.size := t_box_lt k0_h.out
 have hEn : w.heap.size < N.block ∧ w.heap.size < E.block := ⟨Nat.lt_of_lt_of_le hwW hC1.nf, Nat.lt_of_lt_of_le hwW hC1.ef⟩
 have hlp := cnLoops_any w1 n m (hW0_h.out.below hB1) hMo_h.out hm_h.out
 clear c0 c1 c2 c3 f0 f1 f2 f3
 obtain ⟨⟨c0, c1, c2, c3⟩, f0, f1, f2, f3⟩ := t_box4 k1
 clear hop_h k0_h bW_h; have k1_h := lH k1; have hB1_h := lH hB1; have hEn_h := lH hEn; have hlp_h := lH hlp; have hC1_h := lH hC1; clear k1 hB1 hEn hlp hC1
 go_wp2_with (fail)
 refine (hlp_h.out).mono ?_
 rintro e w3 ⟨Ax, cx, xs, rfl, hsl, hok, hpp, hb3⟩
 obtain ⟨xl, hxl⟩ : ∃ q, xs.length = q := ⟨_, rfl⟩
 have hxp : (partsM g).length = xl := by rw [← hpp, List.length_map, hxl]
 have hxm : xl ≤ 60 := by
  rw [← hxp]
  have := (scan_ok g g.2.1.length (Nat.le_refl _)).1
  have := hm_h.out
  unfold partsM
  omega
 rw [hxl] at hsl ⊢
 have hC3 := hC1_h.out
 have hB3 := below_trans hB1_h.out hb3 hB1_h.out.size
 have hlt3 : N.block < w1.heap.size ∧ E.block < w1.heap.size := ⟨hC3.num.lt N.block (by simp), hC3.edg.lt E.block (by simp)⟩
 have hN3 : NuS w3 N E n m (cnTo g 0).1 (cnTo g 0).2.1 w3 := by
  rw [hct0_h.out]
  exact ⟨hC3.num.below hb3, hC3.edg.below hb3, by simp [numsL], by simp [numsL], hC3.ne, ⟨by have := hb3.size; omega, by have := hb3.size; omega⟩, Keeps.refl _ _⟩
 have h01 : (cnTo g 0).2.2.1 = (ol : Int) := by rw [hct0_h.out]
 have h02 : (cnTo g 0).2.2.2 = oc := by rw [hct0_h.out]
 clear hlp_h hC1_h hC3 hb3 c0 c1 c2 c3 f0 f1 f2 f3 k1_h
 have hNz := hN3
 have hsl_h := lH hsl; have hok_h := lH hok; have hpp_h := lH hpp; have hB3_h := lH hB3; have hlt3_h := lH hlt3; have hN3_h := lH hN3; have h01_h := lH h01; have h02_h := lH h02; have hxl_h := lH hxl; have hxp_h := lH hxp; have hNz_h := lH hNz; clear hsl hok hpp hB3 hlt3 hN3 h01 h02 hxl hxp hNz
 go_wp2_with (fail)
 go_loopw [27, 8, 7] (fun i a b wr => ∃ (k : Nat), k ≤ xl ∧ i = .int .i64 k ∧ a = .int .i64 (cnTo g k).2.2.1 ∧ b = .int .i64 (cnTo g k).2.2.2 ∧ NuS w3 N E n m (cnTo g k).1 (cnTo g k).2.1 wr) (fun i _ _ _ => xl - (intOf i).toNat)
 case atStart => exact ⟨0, Nat.zero_le _, rfl, by rw [h01_h.out], by rw [h02_h.out], hN3_h.out⟩
 case round =>
  clear hN3_h h01_h h02_h
  obtain ⟨k, hk, rfl, rfl, rfl, hN⟩ := hrel
  obtain ⟨wo, rfl⟩ : ∃ x, x = wr := ⟨_, rfl⟩
  have hor := ord_le hMo_h.out k
  rw [hm_h.out] at hor
  have hct := cnTo_eq hMo_h.out k (by rw [hxp_h.out]; exact hk)
  obtain ⟨⟨t1, t2, n1, n2⟩, ht⟩ : ∃ t, cnTo g k = t := ⟨_, rfl⟩
  rw [ht] at hN hct ⊢
  simp only at hN ⊢
  have hn1 : 0 ≤ n1 ∧ n1 ≤ 100 := by
   have : n1 = ((ordW g k).length : Int) := by rw [Prod.mk.injEq, Prod.mk.injEq, Prod.mk.injEq] at hct; exact hct.2.2.1
   omega
  have hn2 : 0 ≤ n2 ∧ n2 ≤ 60 := by
   have : n2 = ((ordE g k).length : Int) := by rw [Prod.mk.injEq, Prod.mk.injEq, Prod.mk.injEq] at hct; exact hct.2.2.2
   omega
  by_cases hlt : k < xl
  · obtain ⟨x, hx⟩ : ∃ x, xs[k]? = some x := ⟨_, List.getElem?_eq_getElem (by rw [hxl_h.out]; exact hlt)⟩
    have hslo := hNz_h.out.sl (by decide) hsl_h.out hN.kp
    obtain ⟨ad, rfl, d0, d1, d2, d3⟩ := lp_at hslo hx
    have hxk : ∀ W' t1' t2', NuS w3 N E n m t1' t2' W' → LpF w1.heap.size W' x := fun W' t1' t2' hN' => (hok_h.out x (List.mem_of_getElem? hx)).keeps hN'.kp (fun b e => by have := hlt3_h.out; omega)
    have hpx : (partsM g)[k]? = some x.P := by rw [← hpp_h.out, List.getElem?_map, hx]; rfl
    have hpf := part_facts hMo_h.out (List.mem_of_getElem? hpx)
    have hgd : (partsM g).getD k ([], ([], []), 0) = x.P := by rw [List.getD_eq_getElem?_getD, hpx]; rfl
    have hlen := (hok_h.out x (List.mem_of_getElem? hx)).1.len
    obtain ⟨XD, xdl, xdc, XA, xal, xac, XG, xgl, xgc, P⟩ := x
    simp only at d0 d1 d2 d3 hpf hgd hlen
    obtain ⟨u, hu⟩ : ∃ q, P.2.2 = q := ⟨_, rfl⟩
    rw [hu] at d3
    have hadd : cnTo g (k + 1) = (putN t1 n1 P.2.1.1, putN t2 n2 P.2.1.2, n1 + (xal : Int), n2 + (xgl : Int)) := by
     rw [cnTo, hgd, ht]
     unfold addN
     rw [hlen.2.1.1, hlen.2.2.1]
    obtain ⟨⟨hnd1, hnd2⟩, hr1, hr2⟩ := hpf
    rw [hm_h.out] at hr2
    have hal : xal ≤ 100 := by have := nodup_le hnd1 hr1; have := hlen.2.1.1; omega
    have hgl : xgl ≤ 60 := by have := nodup_le hnd2 hr2; have := hlen.2.2.1; omega
    obtain ⟨o1, ho1⟩ : ∃ q, P.2.1.1 = q := ⟨_, rfl⟩
    obtain ⟨o2, ho2⟩ : ∃ q, P.2.1.2 = q := ⟨_, rfl⟩
    have hx1 : ∀ W' t1' t2', NuS w3 N E n m t1' t2' W' → RdI W' XA o1 := fun W' t1' t2' hN' => by rw [← ho1]; exact (hxk W' t1' t2' hN').1.wir.rd
    have hx2 : ∀ W' t1' t2', NuS w3 N E n m t1' t2' W' → RdI W' XG o2 := fun W' t1' t2' hN' => by rw [← ho2]; exact (hxk W' t1' t2' hN').1.edg.rd
    have hl1 : o1.length = xal := by rw [← ho1]; exact hlen.2.1.1
    have hl2 : o2.length = xgl := by rw [← ho2]; exact hlen.2.2.1
    rw [ho1] at hadd hnd1 hr1
    rw [ho2] at hadd hnd2 hr2
    obtain ⟨W6, hW6, bW6, k6⟩ := (⟨_, rfl, t_below_alloc _ _, heap_alloc_new _ _⟩ : ∃ W, W = wo.alloc (.cells #[.slice XD xdl xdc, .slice XA xal xac, .slice XG xgl xgc, .int .i64 u] tLp) ∧ Below wo.heap.size wo W ∧ W.heap[wo.heap.size]? = some (.cells #[.slice XD xdl xdc, .slice XA xal xac, .slice XG xgl xgc, .int .i64 u] tLp))
    have hN6 := hN.below bW6
    have hwo : w3.heap.size ≤ wo.heap.size := hN.kp.size
    have hkI : (k : Int) < (xl : Int) := by omega
    obtain ⟨⟨c0, c1, c2, c3⟩, f0, f1, f2, f3⟩ := t_box4 k6
    clear hN hslo hxk hpx hgd hlen hu ho1 ho2 hx hor hct ht bW6; have hN6_h := lH hN6; have hx1_h := lH hx1; have hx2_h := lH hx2; have hl1_h := lH hl1; have hl2_h := lH hl2; have hadd_h := lH hadd; have hnd1_h := lH hnd1; have hnd2_h := lH hnd2; have hr1_h := lH hr1; have hr2_h := lH hr2; have k6_h := lH k6; have hwo_h := lH hwo; clear hN6 hx1 hx2 hl1 hl2 hadd hnd1 hnd2 hr1 hr2 k6 hwo
    go_upto_region 6 with (fail)
    rw [← hW6]
    clear hW6 d0 d1 d2 d3
    go_wp2_with (fail)
    clear c0 c1 c2 c3 f0 f1 f2 f3
    go_loopw [34] (fun i wr => ∃ j : Nat, j ≤ xal ∧ i = .int .i64 j ∧ NuS w3 N E n m (putN t1 n1 (o1.take j)) t2 wr ∧ wr.heap[wo.heap.size]? = some (.cells #[.slice XD xdl xdc, .slice XA xal xac, .slice XG xgl xgc, .int .i64 u] tLp)) (fun i _ => xal - (intOf i).toNat)
    case atStart => exact ⟨0, Nat.zero_le _, rfl, by rw [List.take_zero, putN_nil]; exact hN6_h.out, k6_h.out⟩
    case round =>
     clear hN6_h k6_h
     obtain ⟨j, hj, rfl, hNj, kj⟩ := hrel
     obtain ⟨wi, rfl⟩ : ∃ x, x = wr := ⟨_, rfl⟩
     by_cases hltj : j < xal
     · obtain ⟨x, hx⟩ : ∃ x, o1[j]? = some x := ⟨_, List.getElem?_eq_getElem (by rw [hl1_h.out]; exact hltj)⟩
       have hxr := hr1_h.out x (List.mem_of_getElem? hx)
       obtain ⟨xx, rfl⟩ : ∃ xx : Nat, x = (xx : Int) := ⟨x.toNat, by omega⟩
       obtain ⟨gd, rfl, pg⟩ := hx1_h.out wi _ _ hNj j _ hx
       obtain ⟨zd, z0, ze, _, _, zc, zf⟩ := hNj.i1.at_ (j := xx) (by rw [hNj.l1]; omega)
       obtain rfl := Option.some.inj ze
       have zfk := zf xx
       obtain ⟨hNn, hkn⟩ := hNj.set1 (j := xx) (n1 + (j : Int)) (by omega)
       rw [← putN_step hnd1_h.out hx] at hNn
       have kn := t_box_keeps kj hkn (fun e => by have := hNj.lt.1; have := hwo_h.out; omega)
       have hjI : (j : Int) < (xal : Int) := by omega
       have hxI : (xx : Int) < (n : Int) := by omega
       clear zf ze hNj kj hkn hx; have hNn_h := lH hNn; have kn_h := lH kn; clear hNn kn
       go_wp2_with (fail)
       go_roundw
       case rel => exact ⟨j + 1, by omega, by go_num, hNn_h.out, kn_h.out⟩
       case measure => simp [intOf]; omega
     · obtain rfl : xal = j := by omega
       rw [List.take_of_length_le (by rw [hl1_h.out]; exact Nat.le_refl _)] at hNj
       obtain ⟨⟨c0, c1, c2, c3⟩, f0, f1, f2, f3⟩ := t_box4 kj
       have hNj_h := lH hNj; have kj_h := lH kj; clear hNj kj
       go_wp2_with (fail)
       clear c0 c1 c2 c3 f0 f1 f2 f3
       go_loopw [49] (fun i wr => ∃ j : Nat, j ≤ xgl ∧ i = .int .i64 j ∧ NuS w3 N E n m (putN t1 n1 o1) (putN t2 n2 (o2.take j)) wr ∧ wr.heap[wo.heap.size]? = some (.cells #[.slice XD xdl xdc, .slice XA xal xac, .slice XG xgl xgc, .int .i64 u] tLp)) (fun i _ => xgl - (intOf i).toNat)
       case atStart => exact ⟨0, Nat.zero_le _, rfl, by rw [List.take_zero, putN_nil]; exact hNj_h.out, kj_h.out⟩
       case round =>
        clear hNj_h kj_h
        obtain ⟨j, hj', rfl, hNj, kj⟩ := hrel
        obtain ⟨wu, rfl⟩ : ∃ x, x = wr := ⟨_, rfl⟩
        by_cases hltj' : j < xgl
        · obtain ⟨x, hx⟩ : ∃ x, o2[j]? = some x := ⟨_, List.getElem?_eq_getElem (by rw [hl2_h.out]; exact hltj')⟩
          have hxr := hr2_h.out x (List.mem_of_getElem? hx)
          obtain ⟨xx, rfl⟩ : ∃ xx : Nat, x = (xx : Int) := ⟨x.toNat, by omega⟩
          obtain ⟨gd, rfl, pg⟩ := hx2_h.out wu _ _ hNj j _ hx
          obtain ⟨zd, z0, ze, _, _, zc, zf⟩ := hNj.i2.at_ (j := xx) (by rw [hNj.l2]; omega)
          obtain rfl := Option.some.inj ze
          have zfk := zf xx
          obtain ⟨hNn, hkn⟩ := hNj.set2 (j := xx) (n2 + (j : Int)) (by omega)
          rw [← putN_step hnd2_h.out hx] at hNn
          have kn := t_box_keeps kj hkn (fun e => by have := hNj.lt.2; have := hwo_h.out; omega)
          have hjI : (j : Int) < (xgl : Int) := by omega
          have hxI : (xx : Int) < (m : Int) := by omega
          clear zf ze hNj kj hkn hx; have hNn_h := lH hNn; have kn_h := lH kn; clear hNn kn
          go_wp2_with (fail)
          go_roundw
          case rel => exact ⟨j + 1, by omega, by go_num, hNn_h.out, kn_h.out⟩
          case measure => simp [intOf]; omega
        · obtain rfl : xgl = j := by omega
          rw [List.take_of_length_le (by rw [hl2_h.out]; exact Nat.le_refl _)] at hNj
          obtain ⟨⟨c0, c1, c2, c3⟩, f0, f1, f2, f3⟩ := t_box4 kj
          clear kj; have hNj_h := lH hNj; clear hNj
          go_wp2_with (fail)
          go_roundw
          case rel => exact ⟨k + 1, by omega, by go_num, by rw [hadd_h.out], by rw [hadd_h.out], by rw [hadd_h.out]; exact hNj_h.out⟩
          case measure => simp [intOf]; omega
  · obtain rfl : xl = k := by omega
    have hc1 : (cnM g).1 = t1 := by unfold cnM; rw [hxp_h.out, ht]
    have hc2 : (cnM g).2 = t2 := by unfold cnM; rw [hxp_h.out, ht]
    have hBe := below_keeps hB3_h.out hN.kp hB3_h.out.size (fun b hb => by have := hEn_h.out; omega)
    clear hct ht; have hN_h := lH hN; clear hN
    go_wp2_with (fail)
    go_ret2
    have hz := hEn_h.out
    exact ⟨N, E, rfl, by rw [hc1]; exact hN_h.out.i1, by rw [hc2]; exact hN_h.out.i2, hN_h.out.ne, by omega, by omega, hBe⟩
theorem info_ints : (Tryz.prog.info? 23).map (fun i => (i.zero, i.size, i.bytes)) = some (some (.slice none 0 0), 1, 24) := by kernel_rfl
def rowsO (a : Hd) (hs : List EHd) (k : Nat) : List Hd := a :: (hs.take k).map fun h => h.2.2.2
def rowsI (a : Hd) (hs : List EHd) (k : Nat) : List Hd := a :: (hs.take k).map fun h => h.2.2.1
theorem rowsO_step {a : Hd} {hs : List EHd} {k : Nat} {x : EHd} (h : hs[k]? = some x) : rowsO a hs (k + 1) = rowsO a hs k ++ [x.2.2.2] := by
 unfold rowsO; rw [List.take_add_one, h]; simp
theorem rowsI_step {a : Hd} {hs : List EHd} {k : Nat} {x : EHd} (h : hs[k]? = some x) : rowsI a hs (k + 1) = rowsI a hs k ++ [x.2.2.1] := by
 unfold rowsI; rw [List.take_add_one, h]; simp
theorem outW_flat (hs : List EHd) : outW (hs.map egOf) = ((hs.map fun h => h.2.2.2).map fun h : Hd => h.2.2).flatten := by
 induction hs with
 | nil => rfl
 | cons x r ih => simp only [List.map_cons, outW, List.flatten_cons, ih]; rfl
theorem inpW_flat (hs : List EHd) : inpW (hs.map egOf) = ((hs.map fun h => h.2.2.1).map fun h : Hd => h.2.2).flatten := by
 induction hs with
 | nil => rfl
 | cons x r ih => simp only [List.map_cons, inpW, List.flatten_cons, ih]; rfl
theorem rows_rd {w : World} {A : Option Addr} {n c : Nat} {hs : List Hd} (h : Sl w 23 1 A n c (hs.map Hd.val)) (hr : ∀ x, x ∈ hs → RdI w x.1 x.2.2) : RdR w A hs :=
 ⟨fun i x hx => by
  obtain ⟨ad, hA, _, hc, _⟩ := Sl.cell h (show (hs.map Hd.val)[i]? = some x.val by rw [List.getElem?_map, hx]; rfl)
  exact ⟨ad, hA, hc⟩, hr⟩
set_option maxRecDepth 100000 in
set_option maxHeartbeats 8000000 in
theorem isMonogamous_any {v : Value} {g : Gr} (w : World) (h : RdGr w v g) (ok : OkG g) :
  Calls Tryz.prog 31 #[v] w fun e w' => e = .returned (.bool (monoB g)) ∧ Below w.heap.size w w' := by
 obtain ⟨D, hD⟩ : ∃ D, D = monoB g := ⟨_, rfl⟩
 have hDD := hD
 unfold monoB at hDD
 rw [← hD]
 have hG0 := h
 obtain ⟨A, c, hs, ⟨B, b, s⟩, ⟨C, d, t⟩, rfl, e1, e2, e3, hE, hRa, hRb⟩ := h
 obtain ⟨z, es, s0, t0⟩ := g
 have a1 : es = hs.map egOf := e1
 have a2 : s = s0 := e2
 have a3 : t = t0 := e3
 subst a2 a3
 obtain ⟨m, hm⟩ : ∃ m, m = hs.length := ⟨_, rfl⟩
 obtain ⟨p, hp⟩ : ∃ p, p = s.length := ⟨_, rfl⟩
 obtain ⟨r, hr⟩ : ∃ r, r = t.length := ⟨_, rfl⟩
 change RdGr w (.agg #[.int .i64 z, .slice A hs.length c, .slice B s.length b, .slice C t.length d]) (z, es, s, t) at hG0
 show Calls Tryz.prog _ #[.agg #[.int .i64 z, .slice A hs.length c, .slice B s.length b, .slice C t.length d]] w _
 rw [← hm, ← hp, ← hr] at hG0 ⊢
 obtain ⟨W, hW, bW, k0⟩ := (⟨_, rfl, t_below_alloc _ _, heap_alloc_new _ _⟩ : ∃ W, W = w.alloc (.cells #[.int .i64 z, .slice A m c, .slice B p b, .slice C r d] tGr) ∧ Below w.heap.size w W ∧ W.heap[w.heap.size]? = some (.cells #[.int .i64 z, .slice A m c, .slice B p b, .slice C r d] tGr))
 have hG := isGraph_any W (hG0.below bW) ok
 obtain ⟨T, hT⟩ : ∃ T, T = grB (z, es, s, t) := ⟨_, rfl⟩
 rw [← hT] at hG hDD
 have hol := out_len es
 have hOk := ok.2.2
 have hL1 : (s ++ outW es).length ≤ 16777216 := by
  have : cntE es + s.length + t.length ≤ 8388608 := hOk
  rw [List.length_append]; omega
 have hL2 : (t ++ inpW es).length ≤ 16777216 := by
  have : cntE es + s.length + t.length ≤ 8388608 := hOk
  rw [List.length_append]; omega
 have hEW := hE.below bW
 have hRaW : RdI W B s := RdI.below hRa bW
 have hRbW : RdI W C t := RdI.below hRb bW
 obtain ⟨⟨c0, c1, c2, c3⟩, f0, f1, f2, f3⟩ := t_box4 k0
 cases T
 case false =>
  obtain rfl : D = false := by rw [hDD]; rfl
  clear hDD hT hol hOk hL1 hL2; have hG_h := lH hG; have bW_h := lH bW; have k0_h := lH k0; have hD_h := lH hD; have hm_h := lH hm; have hp_h := lH hp; have hr_h := lH hr; clear hG bW k0 hD hm hp hr
  go_enter Tryz.func31, Tryz.ntmps31
  go_upto_region 1 with (fail)
  rw [← hW]
  clear hW
  go_wp2_with (fail)
  refine (hG_h.out).mono ?_
  rintro e w1 ⟨rfl, hb1⟩
  have hB := below_trans bW_h.out hb1 bW_h.out.size
  clear hb1; have hB_h := lH hB; clear hB
  go_wp2_with (fail)
  go_ret
  exact ⟨rfl, hB_h.out⟩
 case true =>
 obtain ⟨n, e1', hn1, hm60, hs12, ht12, hinW⟩ := grB_parts hT.symm
 have e1'' : z = (n : Int) := e1'
 subst e1''
 have hegB : ∀ e, e ∈ es → egB e = true := by
  have hv := hT.symm
  unfold grB at hv
  simp only [Bool.and_eq_true] at hv
  exact List.all_eq_true.1 hv.2.1
 have hm60' : m ≤ 60 := by have : es.length ≤ 60 := hm60; rw [a1, List.length_map] at this; omega
 have hsp : p ≤ 12 := by rw [hp]; exact hs12
 have htr : r ≤ 12 := by rw [hr]; exact ht12
 rw [Bool.true_and] at hDD
 have hO1 : ((rowsO (B, b, s) hs m).map fun h : Hd => h.2.2).flatten = orgW ((n : Int), es, s, t) := by
  unfold rowsO; rw [List.take_of_length_le (by omega), List.map_cons, List.flatten_cons, ← outW_flat, ← a1]; rfl
 have hI1 : ((rowsI (C, d, t) hs m).map fun h : Hd => h.2.2).flatten = dstW ((n : Int), es, s, t) := by
  unfold rowsI; rw [List.take_of_length_le (by omega), List.map_cons, List.flatten_cons, ← inpW_flat, ← a1]; rfl
 have hl1 : (rowsO (B, b, s) hs m).length = m + 1 := by unfold rowsO; simp; omega
 have hl2 : (rowsI (C, d, t) hs m).length = m + 1 := by unfold rowsI; simp; omega
 have hrd1 : ∀ W', Below W.heap.size W W' → ∀ x, x ∈ rowsO (B, b, s) hs m → RdI W' x.1 x.2.2 := fun W' hb x hx => by
  rcases List.mem_cons.1 hx with rfl | hx
  · exact hRaW.below hb
  · obtain ⟨y, hy, rfl⟩ := List.mem_map.1 hx
    exact ((hEW.below hb).2 y (List.mem_of_mem_take hy)).2
 have hrd2 : ∀ W', Below W.heap.size W W' → ∀ x, x ∈ rowsI (C, d, t) hs m → RdI W' x.1 x.2.2 := fun W' hb x hx => by
  rcases List.mem_cons.1 hx with rfl | hx
  · exact hRbW.below hb
  · obtain ⟨y, hy, rfl⟩ := List.mem_map.1 hx
    exact ((hEW.below hb).2 y (List.mem_of_mem_take hy)).1
 have hLo : (orgW ((n : Int), es, s, t)).length ≤ 1048576 ∧ (dstW ((n : Int), es, s, t)).length ≤ 1048576 := by
  have hb : ∀ l : List Eg, (∀ e, e ∈ l → egB e = true) → (outW l).length ≤ 2 * l.length ∧ (inpW l).length ≤ 2 * l.length := by
   intro l
   induction l with
   | nil => intro _; simp [outW, inpW]
   | cons e r ih =>
     intro h
     have h1 := egB_len (h e (by simp))
     have h2 := ih fun x hx => h x (by simp [hx])
     simp only [outW, inpW, List.length_append, List.length_cons]; omega
  have h2 := hb es hegB
  have h3 : es.length ≤ 60 := hm60
  have h4 : s.length ≤ 12 := hs12
  have h5 : t.length ≤ 12 := ht12
  constructor
  · show (s ++ outW es).length ≤ _
    rw [List.length_append]; omega
  · show (t ++ inpW es).length ≤ _
    rw [List.length_append]; omega
 have hU1 := fun (W' : World) (Q : Option Addr) (q : Nat) (hb : Below W.heap.size W W') (h : Sl W' 23 1 Q (m + 1) q ((rowsO (B, b, s) hs m).map Hd.val)) => occursOnce_any (n : Int) Q q (m + 1) (rowsO (B, b, s) hs m) (orgW ((n : Int), es, s, t)) W' (rows_rd h (hrd1 W' hb)) hl1 (by omega) hO1 hLo.1
 have hU2 := fun (W' : World) (Q : Option Addr) (q : Nat) (hb : Below W.heap.size W W') (h : Sl W' 23 1 Q (m + 1) q ((rowsI (C, d, t) hs m).map Hd.val)) => occursOnce_any (n : Int) Q q (m + 1) (rowsI (C, d, t) hs m) (dstW ((n : Int), es, s, t)) W' (rows_rd h (hrd2 W' hb)) hl2 (by omega) hI1 hLo.2
 obtain ⟨T1, hT1⟩ : ∃ T, T = prmN (n : Int) (orgW ((n : Int), es, s, t)) := ⟨_, rfl⟩
 obtain ⟨T2, hT2⟩ : ∃ T, T = prmN (n : Int) (dstW ((n : Int), es, s, t)) := ⟨_, rfl⟩
 simp only [← hT1] at hU1
 simp only [← hT2] at hU2
 have hDT : D = (T1 && T2) := by rw [hDD, hT1, hT2]
 have hsv : (Hd.val (B, b, s)) = .slice B p b := by unfold Hd.val; rw [hp]
 have htv : (Hd.val (C, d, t)) = .slice C r d := by unfold Hd.val; rw [hr]
 clear hDD hT hol hOk hL1 hL2 hegB hinW e1' hO1 hI1 hl1 hl2 hrd1 hrd2 hLo hT1 hT2 hD hRa hRb hE e1 e2 e3 hG0 ok hm60 hs12 ht12; have hG_h := lH hG; have bW_h := lH bW; have k0_h := lH k0; have hm_h := lH hm; have hp_h := lH hp; have hr_h := lH hr; have a1_h := lH a1; have hEW_h := lH hEW; have hRaW_h := lH hRaW; have hRbW_h := lH hRbW; have hU1_h := lH hU1; have hU2_h := lH hU2; have hDT_h := lH hDT; have hsv_h := lH hsv; have htv_h := lH htv; clear hG bW k0 hm hp hr a1 hEW hRaW hRbW hU1 hU2 hDT hsv htv
 go_enter Tryz.func31, Tryz.ntmps31
 go_upto_region 1 with (fail)
 rw [← hW]
 clear hW
 go_wp2_with (fail)
 refine (hG_h.out).mono ?_
 rintro e w1 ⟨rfl, hb1⟩
 have k1 := t_box_below k0_h.out hb1
 clear c0 c1 c2 c3 f0 f1 f2 f3; have hb1_h := lH hb1; have k1_h := lH k1; clear hb1 k1
 go_wp2_with (fail)
 go_cut [3, 4] (fun x y wx => ∃ Q1 Q2 : Nat, x = .slice (some ⟨Q1, 0, none⟩) 1 1 ∧ y = .slice (some ⟨Q2, 0, none⟩) 1 1 ∧ Sl wx 23 1 (some ⟨Q1, 0, none⟩) 1 1 [.slice B p b] ∧ Sl wx 23 1 (some ⟨Q2, 0, none⟩) 1 1 [.slice C r d] ∧ Q1 ≠ Q2 ∧ W.heap.size ≤ Q1 ∧ W.heap.size ≤ Q2 ∧ Below W.heap.size W wx)
 case first =>
  refine beginH (fun w' => w'.heap[w.heap.size]? = some (.cells #[.int .i64 (n : Int), .slice A m c, .slice B p b, .slice C r d] tGr)) (by kernel_rfl) ?_
  have hbd : Below w1.heap.size w1 w1.drew := below_drew (Below.refl _ _)
  generalize w1.drew = W4 at hbd ⊢
  have k4 := t_box_below k1_h.out hbd
  have hb4 := below_trans hb1_h.out hbd hb1_h.out.size
  have hz4 := hb4.size
  clear hbd; have k4_h := lH k4; have hb4_h := lH hb4; clear k4 hb4
  refine tkH 0 ?_ rfl k4_h.out (fun W' hW' => ?_) ?_; rotate_left; · (obtain ⟨⟨y0, y1, y2, y3⟩, y4, y5, y6, y7⟩ := t_box4 hW'; clear hW'; go_simp; first | done | with_reducible rfl)
  simp only [Act.put, nS]
  refine tkH 1 ?_ rfl k4_h.out (fun W' hW' => ?_) ?_; rotate_left; · (obtain ⟨⟨y0, y1, y2, y3⟩, y4, y5, y6, y7⟩ := t_box4 hW'; clear hW'; go_simp; first | done | with_reducible rfl)
  simp only [Act.put, nS]
  refine tkH 3 ?_ rfl k4_h.out (fun W' hW' => ?_) ?_; rotate_left; · (obtain ⟨⟨y0, y1, y2, y3⟩, y4, y5, y6, y7⟩ := t_box4 hW'; clear hW'; go_simp; first | done | with_reducible rfl)
  simp only [Act.put, nS]
  refine tkH 4 ?_ rfl k4_h.out (fun W' hW' => ?_) ?_; rotate_left; · (obtain ⟨⟨y0, y1, y2, y3⟩, y4, y5, y6, y7⟩ := t_box4 hW'; clear hW'; go_simp; first | done | with_reducible rfl)
  simp only [Act.put, nS]
  refine valOrH 2 5 (vi := .slice (some ⟨W4.heap.size, 0, none⟩) 1 1) (wi := W4.alloc (.cells #[.slice B p b] 23)) (vj := .slice (some ⟨W4.heap.size, 0, none⟩) 1 1) (wj := W4.alloc (.cells #[.slice C r d] 23)) rfl rfl (by kernel_rfl) (by rfl) (by rfl) ?hr1 ?hr2 ?hS1 ?h1 ?hS2 ?h2
  case hr1 => (go_simp; first | done | with_reducible rfl | (constructor <;> with_reducible rfl))
  case hr2 => (go_simp; first | done | with_reducible rfl | (constructor <;> with_reducible rfl))
  case hS1 => exact t_box_below k4_h.out (t_below_alloc _ _)
  case hS2 => exact t_box_below k4_h.out (t_below_alloc _ _)
  case h1 =>
   have hs1 : Sl (W4.alloc (.cells #[.slice B p b] 23)) 23 1 (some ⟨W4.heap.size, 0, none⟩) 1 1 [.slice B p b] := Sl.laid W4 23 1 1 #[.slice B p b] (by unfold maxLen; omega) rfl
   have bA := t_below_alloc W4 (.cells #[.slice B p b] 23)
   have hzA : (W4.alloc (.cells #[.slice B p b] 23)).heap.size = W4.heap.size + 1 := World.size_alloc _ _
   have kA := t_box_below k4_h.out bA
   have hbA := below_trans hb4_h.out bA hb4_h.out.size
   generalize W4.alloc (.cells #[.slice B p b] 23) = W5 at hs1 bA hzA kA hbA ⊢
   have bB := t_below_alloc W5 (.cells #[.slice C r d] 23)
   have kB := t_box_below kA bB
   have hs1' := hs1.below bB
   have hs2 : Sl (W5.alloc (.cells #[.slice C r d] 23)) 23 1 (some ⟨W5.heap.size, 0, none⟩) 1 1 [.slice C r d] := Sl.laid W5 23 1 1 #[.slice C r d] (by unfold maxLen; omega) rfl
   have hbB := below_trans hbA bB hbA.size
   clear hs1 bA bB hbA; have kA_h := lH kA; have kB_h := lH kB; have hs1'_h := lH hs1'; have hs2_h := lH hs2; have hbB_h := lH hbB; have hzA_h := lH hzA; clear kA kB hs1' hs2 hbB hzA
   simp only [Act.put, nS]
   refine tkH 6 ?_ rfl kA_h.out (fun W' hW' => ?_) ?_; rotate_left; · (skip; clear hW'; go_simp; first | done | with_reducible rfl)
   simp only [Act.put, nS]
   refine oneH 5 rfl (by kernel_rfl) (by rfl) (fun K hK => ?_)
   go_simp
   refine hK _ _ kB_h.out ?_
   clear hK K
   refine tkH 7 ?_ rfl kB_h.out (fun W' hW' => ?_) ?_; rotate_left; · (skip; clear hW'; go_simp; first | done | with_reducible rfl)
   simp only [Act.put, nS]
   refine doneH (by kernel_rfl) ?_
   go_wp2_with (fail)
   go_meet
   exact ⟨W4.heap.size, W5.heap.size, rfl, rfl, hs1'_h.out, hs2_h.out, by have := hzA_h.out; omega, hz4, by have := hzA_h.out; omega, hbB_h.out⟩
  case h2 =>
   have hs1 : Sl (W4.alloc (.cells #[.slice C r d] 23)) 23 1 (some ⟨W4.heap.size, 0, none⟩) 1 1 [.slice C r d] := Sl.laid W4 23 1 1 #[.slice C r d] (by unfold maxLen; omega) rfl
   have bA := t_below_alloc W4 (.cells #[.slice C r d] 23)
   have hzA : (W4.alloc (.cells #[.slice C r d] 23)).heap.size = W4.heap.size + 1 := World.size_alloc _ _
   have kA := t_box_below k4_h.out bA
   have hbA := below_trans hb4_h.out bA hb4_h.out.size
   generalize W4.alloc (.cells #[.slice C r d] 23) = W5 at hs1 bA hzA kA hbA ⊢
   have bB := t_below_alloc W5 (.cells #[.slice B p b] 23)
   have kB := t_box_below kA bB
   have hs1' := hs1.below bB
   have hs2 : Sl (W5.alloc (.cells #[.slice B p b] 23)) 23 1 (some ⟨W5.heap.size, 0, none⟩) 1 1 [.slice B p b] := Sl.laid W5 23 1 1 #[.slice B p b] (by unfold maxLen; omega) rfl
   have hbB := below_trans hbA bB hbA.size
   clear hs1 bA bB hbA; have kA_h := lH kA; have kB_h := lH kB; have hs1'_h := lH hs1'; have hs2_h := lH hs2; have hbB_h := lH hbB; have hzA_h := lH hzA; clear kA kB hs1' hs2 hbB hzA
   simp only [Act.put, nS]
   refine oneH 2 rfl (by kernel_rfl) (by rfl) (fun K hK => ?_)
   go_simp
   refine hK _ _ kB_h.out ?_
   clear hK K
   refine tkH 6 ?_ rfl kB_h.out (fun W' hW' => ?_) ?_; rotate_left; · (skip; clear hW'; go_simp; first | done | with_reducible rfl)
   simp only [Act.put, nS]
   refine tkH 7 ?_ rfl kB_h.out (fun W' hW' => ?_) ?_; rotate_left; · (skip; clear hW'; go_simp; first | done | with_reducible rfl)
   simp only [Act.put, nS]
   refine doneH (by kernel_rfl) ?_
   go_wp2_with (fail)
   go_meet
   exact ⟨W5.heap.size, W4.heap.size, rfl, rfl, hs2_h.out, hs1'_h.out, by have := hzA_h.out; omega, by have := hzA_h.out; omega, hz4, hbB_h.out⟩
 case rest =>
 obtain ⟨Q1, Q2, rfl, rfl, hs1, hs2, hne, hq1, hq2, hWc⟩ := hcut
 obtain ⟨w2, rfl⟩ : ∃ x, x = wc := ⟨_, rfl⟩
 have k2 := t_box_below k0_h.out hWc
 obtain ⟨⟨c0, c1, c2, c3⟩, f0, f1, f2, f3⟩ := t_box4 k2
 have hs1' : Sl w2 23 1 (some ⟨Q1, 0, none⟩) (0 + 1) 1 ((rowsO (B, b, s) hs 0).map Hd.val) := by unfold rowsO; simp only [List.take_zero, List.map_nil, List.map_cons]; rw [hsv_h.out]; exact hs1
 have hs2' : Sl w2 23 1 (some ⟨Q2, 0, none⟩) (0 + 1) 1 ((rowsI (C, d, t) hs 0).map Hd.val) := by unfold rowsI; simp only [List.take_zero, List.map_nil, List.map_cons]; rw [htv_h.out]; exact hs2
 have hap : ∀ x, x ∈ fpA (some (⟨Q1, 0, none⟩ : Addr)) → ¬ x ∈ fpA (some (⟨Q2, 0, none⟩ : Addr)) := fun x hx hx' => by simp at hx hx'; omega
 have hf1 : Fresh W.heap.size (some (⟨Q1, 0, none⟩ : Addr)) := fun x hx => by simp at hx; omega
 have hf2 : Fresh W.heap.size (some (⟨Q2, 0, none⟩ : Addr)) := fun x hx => by simp at hx; omega
 clear hs1 hs2 k2 hne hq1 hq2; have hs1'_h := lH hs1'; have hs2'_h := lH hs2'; have hap_h := lH hap; have hf1_h := lH hf1; have hf2_h := lH hf2; have hWc_h := lH hWc; clear hs1' hs2' hap hf1 hf2 hWc
 go_wp2_with (fail)
 clear c0 c1 c2 c3 f0 f1 f2 f3
 go_loopw [19, 3, 4] (fun i x y wr => ∃ (k c1 c2 : Nat) (A1 A2 : Option Addr), k ≤ m ∧ i = .int .i64 k ∧ x = .slice A1 (k + 1) c1 ∧ y = .slice A2 (k + 1) c2 ∧ Sl wr 23 1 A1 (k + 1) c1 ((rowsO (B, b, s) hs k).map Hd.val) ∧ Sl wr 23 1 A2 (k + 1) c2 ((rowsI (C, d, t) hs k).map Hd.val) ∧ (∀ x, x ∈ fpA A1 → ¬ x ∈ fpA A2) ∧ Fresh W.heap.size A1 ∧ Fresh W.heap.size A2 ∧ Below W.heap.size W wr) (fun i _ _ _ => m - (intOf i).toNat)
 case atStart => exact ⟨0, 1, 1, _, _, Nat.zero_le _, rfl, rfl, rfl, hs1'_h.out, hs2'_h.out, hap_h.out, hf1_h.out, hf2_h.out, hWc_h.out⟩
 case round =>
  clear hs1'_h hs2'_h hap_h hf1_h hf2_h hWc_h
  obtain ⟨k, e1, e2, A1, A2, hk, rfl, rfl, rfl, hS1, hS2, hap, hf1, hf2, hB1⟩ := hrel
  obtain ⟨wo, rfl⟩ : ∃ x, x = wr := ⟨_, rfl⟩
  have kr := t_box_below k0_h.out hB1
  by_cases hlt : k < m
  · obtain ⟨ad, κ, vv, B1, b1, s1, C1, b2, t1, rfl, hn, ⟨d0, d1, d2, d3⟩, -, -⟩ := (hEW_h.out.below hB1).at_ (j := k) (by rw [← hm_h.out]; exact hlt)
    have hst1 := rowsO_step (a := (B, b, s)) hn
    have hst2 := rowsI_step (a := (C, d, t)) hn
    simp only at hst1 hst2
    obtain ⟨p1, hp1⟩ : ∃ p1, p1 = s1.length := ⟨_, rfl⟩
    obtain ⟨r1, hr1'⟩ : ∃ r1, r1 = t1.length := ⟨_, rfl⟩
    rw [← hp1] at d2
    rw [← hr1'] at d3
    obtain ⟨W6, hW6, bW6, k6⟩ := (⟨_, rfl, t_below_alloc _ _, heap_alloc_new _ _⟩ : ∃ W, W = wo.alloc (.cells #[.int .i64 κ, .int .i64 vv, .slice B1 p1 b1, .slice C1 r1 b2] tEd) ∧ Below wo.heap.size wo W ∧ W.heap[wo.heap.size]? = some (.cells #[.int .i64 κ, .int .i64 vv, .slice B1 p1 b1, .slice C1 r1 b2] tEd))
    obtain ⟨⟨y0, y1, y2, y3⟩, g0, g1, g2, g3⟩ := t_box4 k6
    have hS1' := (hS1.below bW6).alloc (.cells #[.slice C1 r1 b2] 23)
    have hlt1 := hS1.lt
    have hlt2 := hS2.lt
    have hz6 := bW6.size
    have hz0 := hB1.size
    have hS26 := hS2.below bW6
    have hB6 := below_trans hB1 bW6 hB1.size
    have hr1_h := lH hr1'
    have hkI : (k : Int) < (m : Int) := by omega
    clear hr1' hn kr hS1 hS2 hB1; have hp1_h := lH hp1; have k6_h := lH k6; have hst1_h := lH hst1; have hst2_h := lH hst2; have hS1'_h := lH hS1'; have hS26_h := lH hS26; have hap_h := lH hap; have hf1_h := lH hf1; have hf2_h := lH hf2; have hB6_h := lH hB6; have hlt1_h := lH hlt1; have hlt2_h := lH hlt2; have bW6_h := lH bW6; clear hp1 k6 hst1 hst2 hS1' hS26 hap hf1 hf2 hB6 hlt1 hlt2 bW6
    go_upto_region 7 with (fail)
    rw [← hW6]
    clear hW6 d0 d1 d2 d3
    go_upto_region 8 with (at_builtin; refine wpList_append_Sl _ rfl _ _ _ rfl 23 Tryz.underlying63 info_ints rfl (by omega) rfl (hS1'_h.out) rfl (news := [.slice C1 r1 b2]) rfl (Sl.rdc (Sl.laid W6 23 1 1 #[.slice C1 r1 b2] (by unfold maxLen; omega) rfl)) (by intro u hu; simp at hu; subst hu; rfl) (by unfold maxLen; omega) (by omega) ?_; intro A3 c3 w3 hsA3 hA3 hkA3)
    have bal := t_below_alloc W6 (.cells #[.slice C1 r1 b2] 23)
    have hza : (W6.alloc (.cells #[.slice C1 r1 b2] 23)).heap.size = W6.heap.size + 1 := World.size_alloc _ _
    have hf1' := hf1_h.out
    have hf2' := hf2_h.out
    have hl1' := hlt1_h.out
    have hl2' := hlt2_h.out
    have hap' := hap_h.out
    have hS2a := (hS26_h.out.alloc (.cells #[.slice C1 r1 b2] 23)).keeps hkA3 (fun x hx e => hap' x e hx)
    have k6' := t_box_keeps (t_box_below k6_h.out bal) hkA3 (fun e => by have := hl1' _ e; omega)
    have hB7 := below_keeps (below_trans hB6_h.out bal hB6_h.out.size) hkA3 (Nat.le_trans hB6_h.out.size bal.size) hf1'
    have hsz3 := hkA3.size
    have hap3 : ∀ x, x ∈ fpA A3 → ¬ x ∈ fpA A2 := fun x hx hx' => by
     rcases hA3 x hx with h | h
     · exact hap' x h hx'
     · have := hl2' x hx'; omega
    have hf3 : Fresh W.heap.size A3 := fun x hx => by
     rcases hA3 x hx with h | h
     · exact hf1' x h
     · omega
    have hl3 := hsA3.lt
    have hl2b := hS2a.lt
    have hS2b := hS2a.alloc (.cells #[.slice B1 p1 b1] 23)
    clear y0 y1 y2 y3 g0 g1 g2 g3 hA3 hkA3 bal hf1' hl1' hl2' hap'
    obtain ⟨⟨y0, y1, y2, y3⟩, g0, g1, g2, g3⟩ := t_box4 k6'
    clear k6' hS2a hf2'; have hsA3_h := lH hsA3; have hS2b_h := lH hS2b; have hB7_h := lH hB7; have hap3_h := lH hap3; have hf3_h := lH hf3; have hl3_h := lH hl3; have hl2b_h := lH hl2b; clear hsA3 hS2b hB7 hap3 hf3 hl3 hl2b
    go_wp2_with (at_builtin; refine wpList_append_Sl _ rfl _ _ _ rfl 23 Tryz.underlying63 info_ints rfl (by omega) rfl (hS2b_h.out) rfl (news := [.slice B1 p1 b1]) rfl (Sl.rdc (Sl.laid w3 23 1 1 #[.slice B1 p1 b1] (by unfold maxLen; omega) rfl)) (by intro u hu; simp at hu; subst hu; rfl) (by unfold maxLen; omega) (by omega) ?_; intro A4 c4 w4 hsA4 hA4 hkA4)
    have bal := t_below_alloc w3 (.cells #[.slice B1 p1 b1] 23)
    have hzb : (w3.alloc (.cells #[.slice B1 p1 b1] 23)).heap.size = w3.heap.size + 1 := World.size_alloc _ _
    have hap3' := hap3_h.out
    have hl3' := hl3_h.out
    have hf2' := hf2_h.out
    have hS1c := (hsA3_h.out.alloc (.cells #[.slice B1 p1 b1] 23)).keeps hkA4 (fun x hx e => hap3' x hx e)
    have hB8 := below_keeps (below_trans hB7_h.out bal hB7_h.out.size) hkA4 (Nat.le_trans hB7_h.out.size bal.size) hf2'
    have hsz7 := hB7_h.out.size
    have hap4 : ∀ x, x ∈ fpA A3 → ¬ x ∈ fpA A4 := fun x hx hx' => by
     rcases hA4 x hx' with h | h
     · exact hap3' x hx h
     · have := hl3' x hx; omega
    have hf4 : Fresh W.heap.size A4 := fun x hx => by
     rcases hA4 x hx with h | h
     · exact hf2' x h
     · omega
    have hS1d : Sl w4 23 1 A3 (k + 1 + 1) c3 ((rowsO (B, b, s) hs (k + 1)).map Hd.val) := by
     rw [hst1_h.out, List.map_append]
     show Sl w4 _ 1 A3 (k + 1 + 1) c3 (_ ++ [.slice C1 t1.length b2])
     rw [← hr1_h.out]; exact hS1c
    have hS2d : Sl w4 23 1 A4 (k + 1 + 1) c4 ((rowsI (C, d, t) hs (k + 1)).map Hd.val) := by
     rw [hst2_h.out, List.map_append]
     show Sl w4 _ 1 A4 (k + 1 + 1) c4 (_ ++ [.slice B1 s1.length b1])
     rw [← hp1_h.out]; exact hsA4
    clear y0 y1 y2 y3 g0 g1 g2 g3 hA4 hkA4 bal hap3' hl3' hf2' hS1c hsA4; have hS1d_h := lH hS1d; have hS2d_h := lH hS2d; have hB8_h := lH hB8; have hap4_h := lH hap4; have hf4_h := lH hf4; clear hS1d hS2d hB8 hap4 hf4
    go_wp2_with (fail)
    go_roundw
    case rel => exact ⟨k + 1, c3, c4, A3, A4, by omega, by go_num, rfl, rfl, hS1d_h.out, hS2d_h.out, hap4_h.out, hf3_h.out, hf4_h.out, hB8_h.out⟩
    case measure => simp [intOf]; omega
  · obtain rfl : m = k := by omega
    have hV1 := hU1_h.out wo A1 e1 hB1 hS1
    obtain ⟨⟨y0, y1, y2, y3⟩, g0, g1, g2, g3⟩ := t_box4 kr
    clear hap hf1 hf2 kr hS1; have hV1_h := lH hV1; have hB1_h := lH hB1; have hS2_h := lH hS2; clear hV1 hB1 hS2
    go_wp2_with (fail)
    refine (hV1_h.out).mono ?_
    rintro e w3 ⟨rfl, hb3⟩
    have hB3 := below_trans hB1_h.out hb3 hB1_h.out.size
    have hS23 := hS2_h.out.below hb3
    have kr3 := t_box_below k0_h.out hB3
    have hBz := below_trans bW_h.out hB3 bW_h.out.size
    clear y0 y1 y2 y3 g0 g1 g2 g3 hb3
    cases T1
    case false =>
     obtain rfl : D = false := hDT_h.out
     clear hS23 kr3 hB3; have hBz_h := lH hBz; clear hBz
     go_wp2_with (fail)
     go_ret
     exact ⟨rfl, hBz_h.out⟩
    case true =>
     obtain rfl : D = T2 := hDT_h.out.trans (Bool.true_and _)
     have hV2 := hU2_h.out w3 A2 e2 hB3 hS23
     obtain ⟨⟨y0, y1, y2, y3⟩, g0, g1, g2, g3⟩ := t_box4 kr3
     clear hS23 kr3 hB3; have hBz_h := lH hBz; have hV2_h := lH hV2; clear hBz hV2
     go_wp2_with (fail)
     refine (hV2_h.out).mono ?_
     rintro e w4 ⟨rfl, hb4⟩
     have hBy := below_trans hBz_h.out hb4 hBz_h.out.size
     clear hb4 y0 y1 y2 y3 g0 g1 g2 g3; have hBy_h := lH hBy; clear hBy
     go_wp2_with (fail)
     go_ret
     exact ⟨rfl, hBy_h.out⟩
theorem mono_gr {g : Gr} (h : monoB g = true) : grB g = true := by
 unfold monoB at h
 simp only [Bool.and_eq_true] at h
 exact h.1
def cgG (g : Gr) : Gr := renG g (cnM g).1 (cnM g).2
theorem cgG_ok {g : Gr} {n : Nat} (ok : OkG g) (hMo : Mono g n) : OkG (cgG g) := renG_ok ok (cnM_perm hMo).2.1 (cnM_perm hMo).2.2
theorem mono_inW {g : Gr} {n : Nat} (h : Mono g n) : inW (n : Int) (t_allW g) = true := by
 unfold inW
 rw [List.all_eq_true]
 intro x hx
 have := h.inn x hx
 show t_inB x 0 ((n : Int) - 1) = true
 unfold t_inB
 rw [decide_eq_true_eq]
 omega
set_option maxRecDepth 100000 in
set_option maxHeartbeats 4000000 in
theorem canonical_any {v : Value} {g : Gr} (w : World) (n : Nat) (h : RdGr w v g) (ok : OkG g) (hMo : Mono g n) (hv : grB g = true) :
  Calls Tryz.prog 32 #[v] w fun e w' => ∃ v' fp, e = .returned v' ∧ OwGr w' v' (cgG g) fp ∧ FreshL w.heap.size fp ∧ Below w.heap.size w w' := by
 obtain ⟨m, hm⟩ : ∃ m, g.2.1.length = m := ⟨_, rfl⟩
 have hl1 := (cnM_perm hMo).1.2
 have hl2 := (cnM_perm hMo).2.2
 have hpe := (cnM_perm hMo).2.1
 rw [hm] at hl2
 have hm60 : m ≤ 60 := by rw [← hm]; exact hMo.m60
 have hin := mono_inW hMo
 obtain ⟨P, hP⟩ : ∃ P, cgG g = P := ⟨_, rfl⟩
 have hP' : renG g (cnM g).1 (cnM g).2 = P := hP
 rw [hP]
 obtain ⟨A, n0, c, B, m0, d, C, k0', e0, rfl⟩ := h.shape
 obtain ⟨z, hz⟩ : ∃ z, z = g.1 := ⟨_, rfl⟩
 rw [← hz] at h ⊢
 obtain ⟨W, hW, bW, k0, k1⟩ := allocs2 w (.cells #[.int .i64 z, .slice A n0 c, .slice B m0 d, .slice C k0' e0] tGr) (.cells #[.int .i64 0, .slice none 0 0, .slice none 0 0, .slice none 0 0] tGr)
 have hF := fun (W' : World) (hb : Below W.heap.size W W') => canonicalNumbers_any W' n m ((h.below bW).below hb) hMo hv hm
 have hR := fun (W' : World) (T U : Addr) (hb : Below W.heap.size W W') (ht : IS W' (some T) n (cnM g).1) (hu : IS W' (some U) m (cnM g).2) => renumbered_any W' n m (some T) n (cnM g).1 (some U) m (cnM g).2 ((h.below bW).below hb) ok ht.rd hu.rd hMo.hn hm hl1 hl2 hin hpe hm60
 simp only [hP'] at hR
 obtain ⟨⟨c0, c1, c2, c3⟩, f0, f1, f2, f3⟩ := t_box4 k0
 clear hMo hv hm h hz hP hP' hl1 hl2 hpe hin; have bW_h := lH bW; have k0_h := lH k0; have k1_h := lH k1; have hF_h := lH hF; have hR_h := lH hR; clear bW k0 k1 hF hR
 go_enter Tryz.func32, Tryz.ntmps32
 go_upto_region 1 with (fail)
 rw [← hW]
 clear hW
 refine beginH (fun w' => w'.heap[w.heap.size]? = some (.cells #[.int .i64 z, .slice A n0 c, .slice B m0 d, .slice C k0' e0] tGr)) (by kernel_rfl) ?_
 have hbd : Below W.heap.size W W.drew := below_drewN (Below.refl _ _) 1
 generalize W.drew = W1 at hbd ⊢
 have kd := t_box_below k0_h.out hbd
 clear c0 c1 c2 c3 f0 f1 f2 f3
 refine tkH 0 ?_ rfl kd (fun W' hW' => ?_) ?_; rotate_left; · (obtain ⟨⟨y0, y1, y2, y3⟩, z0, z1, z2, z3⟩ := t_box4 hW'; clear hW'; go_simp; first | done | with_reducible rfl)
 simp only [Act.put, nS]
 refine tkH 1 ?_ rfl kd (fun W' hW' => ?_) ?_; rotate_left; · (obtain ⟨⟨y0, y1, y2, y3⟩, z0, z1, z2, z3⟩ := t_box4 hW'; clear hW'; go_simp; first | done | with_reducible rfl)
 simp only [Act.put, nS]
 refine' callH 2 (f := _) (args := _) rfl (by kernel_rfl) (by rfl) ?_ ?_; rotate_left 2; · (go_simp; first | done | with_reducible rfl | (constructor <;> with_reducible rfl))
 refine (hF_h.out W1 hbd).mono ?_
 rintro e w2 ⟨Wa, Ea, rfl, hI1, hI2, _, _, _, hb2⟩
 have hb12 := below_trans hbd hb2 hbd.size
 have kd2 := t_box_below kd hb2
 have hRc := hR_h.out w2 Wa Ea hb12 hI1 hI2
 refine ⟨_, rfl, kd2, ?_⟩
 simp only [Act.put, nS]
 refine tkH 3 ?_ rfl kd2 (fun W' hW' => ?_) ?_; rotate_left; · (skip; clear hW'; go_simp; first | done | with_reducible rfl)
 simp only [Act.put, nS]
 refine tkH 4 ?_ rfl kd2 (fun W' hW' => ?_) ?_; rotate_left; · (skip; clear hW'; go_simp; first | done | with_reducible rfl)
 simp only [Act.put, nS]
 refine' callH 5 (f := _) (args := _) rfl (by kernel_rfl) (by rfl) ?_ ?_; rotate_left 2; · (go_simp; first | done | with_reducible rfl | (constructor <;> with_reducible rfl))
 refine (hRc).mono ?_
 rintro e w6 ⟨v6, fp6, rfl, hO6, hf6, hb6⟩
 have kd6 := t_box_below kd2 hb6
 obtain ⟨A6, n6, c6, B6, m6, d6, C6, q6, u6, rfl⟩ := hO6.shape
 refine ⟨_, rfl, kd6, ?_⟩
 simp only [Act.put, nS]
 have hb16 := below_trans hb12 hb6 hb12.size
 have k1d := t_box_below k1_h.out hb16
 have hk1 := t_box_lt k1_h.out
 have hz2 := hb12.size
 have hB6 := below_trans bW_h.out hb16 bW_h.out.size
 obtain ⟨⟨d0, d1, d2, d3⟩, g0', g1, g2, g3⟩ := t_box4 k1d
 obtain ⟨s1, s2⟩ := set4 (a := .int .i64 P.1) (b := .slice A6 n6 c6) (c := .slice B6 m6 d6) (d := .slice C6 q6 u6) k1d
 have hBs := below_keeps hB6 s2 hB6.size (fun k hk => by omega)
 have hwW := bW_h.out.size
 have hOs := hO6.keeps s2 (fun x hx e => by have := hf6 x hx; omega)
 have hFs : FreshL w.heap.size fp6 := fun x hx => by have := hf6 x hx; omega
 have kds := t_box_keeps kd6 s2 (by omega)
 clear hb6 hO6 hB6 k1d s2 hf6 hRc hI1 hI2 hb2 hbd kd kd2 hb12; have s1_h := lH s1; have hBs_h := lH hBs; have hOs_h := lH hOs; have hFs_h := lH hFs; clear s1 hBs hOs hFs
 refine oneH 6 rfl (by kernel_rfl) (by rfl) (fun K hK => ?_)
 go_simp
 refine hK _ _ kds ?_
 clear hK K
 refine doneH (by kernel_rfl) ?_
 go_wp2_with (fail)
 refine bodyPost_ret (results_cell_row rfl _ _ (w.heap.size + 1) _ _ (0, 0) _ rfl s1_h.out Tryz.underlying25 rfl (by kernel_rfl)) rfl ?_
 exact ⟨_, _, rfl, hOs_h.out, hFs_h.out, hBs_h.out⟩
set_option maxRecDepth 100000 in
set_option maxHeartbeats 4000000 in
theorem cnGraph_any {v : Value} {g : Gr} (w : World) (n : Nat) (h : RdGr w v g) (ok : OkG g) (hMo : Mono g n) (_hv : grB g = true) :
  Calls Tryz.prog 27 #[v] w fun e w' => ∃ v' fp, e = .returned v' ∧ OwGr w' v' (cgG g) fp ∧ FreshL w.heap.size fp ∧ Below w.heap.size w w' := by
 obtain ⟨m, hm⟩ : ∃ m, g.2.1.length = m := ⟨_, rfl⟩
 have hl1 := (cnM_perm hMo).1.2
 have hl2 := (cnM_perm hMo).2.2
 have hpe := (cnM_perm hMo).2.1
 rw [hm] at hl2
 have hm60 : m ≤ 60 := by rw [← hm]; exact hMo.m60
 have hin := mono_inW hMo
 obtain ⟨P, hP⟩ : ∃ P, cgG g = P := ⟨_, rfl⟩
 have hP' : renG g (cnM g).1 (cnM g).2 = P := hP
 rw [hP]
 obtain ⟨A, n0, c, B, m0, d, C, k0', e0, rfl⟩ := h.shape
 obtain ⟨z, hz⟩ : ∃ z, z = g.1 := ⟨_, rfl⟩
 rw [← hz] at h ⊢
 obtain ⟨W, hW, bW, k0, k1⟩ := allocs2 w (.cells #[.int .i64 z, .slice A n0 c, .slice B m0 d, .slice C k0' e0] tGr) (.cells #[.int .i64 0, .slice none 0 0, .slice none 0 0, .slice none 0 0] tGr)
 have hF := fun (W' : World) (hb : Below W.heap.size W W') => cnNumbers_any W' n m ((h.below bW).below hb) hMo hm
 have hR := fun (W' : World) (T U : Addr) (hb : Below W.heap.size W W') (ht : IS W' (some T) n (cnM g).1) (hu : IS W' (some U) m (cnM g).2) => hgRenumber_any W' n m (some T) n (cnM g).1 (some U) m (cnM g).2 ((h.below bW).below hb) ok ht.rd hu.rd hMo.hn hm hl1 hl2 hin hpe hm60
 simp only [hP'] at hR
 obtain ⟨⟨c0, c1, c2, c3⟩, f0, f1, f2, f3⟩ := t_box4 k0
 clear hMo _hv hm h hz hP hP' hl1 hl2 hpe hin; have bW_h := lH bW; have k0_h := lH k0; have k1_h := lH k1; have hF_h := lH hF; have hR_h := lH hR; clear bW k0 k1 hF hR
 go_enter Tryz.func27, Tryz.ntmps27
 go_upto_region 1 with (fail)
 rw [← hW]
 clear hW
 go_wp2_with (fail)
 refine (hF_h.out W (Below.refl _ _)).mono ?_
 rintro e w2 ⟨Wa, Ea, rfl, hI1, hI2, _, _, _, hb2⟩
 have kd2 := t_box_below k0_h.out hb2
 have hRc := hR_h.out w2 Wa Ea hb2 hI1 hI2
 have k1b := t_box_below k1_h.out hb2
 have hB2 := below_trans bW_h.out hb2 bW_h.out.size
 have hz2 := hb2.size
 clear c0 c1 c2 c3 f0 f1 f2 f3
 obtain ⟨⟨c0, c1, c2, c3⟩, f0, f1, f2, f3⟩ := t_box4 kd2
 clear hb2 hI1 hI2 kd2; have hRc_h := lH hRc; have k1b_h := lH k1b; have hB2_h := lH hB2; clear hRc k1b hB2
 go_wp2_with (fail)
 refine (hRc_h.out).mono ?_
 rintro e w6 ⟨v6, fp6, rfl, hO6, hf6, hb6⟩
 obtain ⟨A6, n6, c6, B6, m6, d6, C6, q6, u6, rfl⟩ := hO6.shape
 have k1d := t_box_below k1b_h.out hb6
 have hk1 := t_box_lt k1b_h.out
 have hB6 := below_trans hB2_h.out hb6 hB2_h.out.size
 obtain ⟨⟨d0, d1, d2, d3⟩, g0', g1, g2, g3⟩ := t_box4 k1d
 obtain ⟨s1, s2⟩ := set4 (a := .int .i64 P.1) (b := .slice A6 n6 c6) (c := .slice B6 m6 d6) (d := .slice C6 q6 u6) k1d
 have hBs := below_keeps hB6 s2 hB6.size (fun k hk => by omega)
 have hwW := bW_h.out.size
 have hOs := hO6.keeps s2 (fun x hx e => by have := hf6 x hx; omega)
 have hFs : FreshL w.heap.size fp6 := fun x hx => by have := hf6 x hx; omega
 clear hb6 hO6 hB6 k1d s2 hf6; have s1_h := lH s1; have hBs_h := lH hBs; have hOs_h := lH hOs; have hFs_h := lH hFs; clear s1 hBs hOs hFs
 go_wp2_with (fail)
 refine bodyPost_ret (results_cell_row rfl _ _ (w.heap.size + 1) _ _ (0, 0) _ rfl s1_h.out Tryz.underlying25 rfl (by kernel_rfl)) rfl ?_
 exact ⟨_, _, rfl, hOs_h.out, hFs_h.out, hBs_h.out⟩
end Go.Proofs.YtpkmjenoniedjaaGreat
namespace Go.Proofs.YtpkmjenoniedjaaGreat
def outTo : Nat → Nat → Nat → List Eg → List Int × Nat × List Eg
 | 0, w, k, E => ([], k, E ++ [(4, 0, [(w : Int)], [])])
 | 1, w, k, E => ([(w : Int)], k, E)
 | n + 2, w, k, E => ((k : Int) :: (outTo (n + 1) (k + 1) (k + 2) (E ++ [(3, 0, [(w : Int)], [(k : Int), ((k : Int) + 1)])])).1, (outTo (n + 1) (k + 1) (k + 2) (E ++ [(3, 0, [(w : Int)], [(k : Int), ((k : Int) + 1)])])).2)
def inTo : Nat → Nat → List Eg → List Int × Nat × List Eg
 | 0, k, E => ([], k + 1, E ++ [(10, 0, [], [(k : Int)])])
 | 1, k, E => ([(k : Int)], k + 1, E)
 | n + 2, k, E => (((k : Int) + 1) :: (inTo (n + 1) (k + 2) E).1, (inTo (n + 1) (k + 2) E).2.1, (inTo (n + 1) (k + 2) E).2.2 ++ [(9, 0, [((k : Int) + 1), ((k : Int) + 2)], [(k : Int)])])
def gatTo : List Nat → Nat → List Eg → Nat × Nat × List Eg
 | [], k, E => (k, k + 1, E ++ [(10, 0, [], [(k : Int)])])
 | [x], k, E => (x, k, E)
 | x :: y :: l, k, E => ((gatTo (y :: l) k E).2.1, (gatTo (y :: l) k E).2.1 + 1, (gatTo (y :: l) k E).2.2 ++ [(9, 0, [(x : Int), ((gatTo (y :: l) k E).1 : Int)], [((gatTo (y :: l) k E).2.1 : Int)])])
def spP (n m : Nat) : Gr := (((outTo m 0 (inTo n 0 []).2.1 (inTo n 0 []).2.2).2.1 : Int), (outTo m 0 (inTo n 0 []).2.1 (inTo n 0 []).2.2).2.2, (inTo n 0 []).1, (outTo m 0 (inTo n 0 []).2.1 (inTo n 0 []).2.2).1)
def spS (n m : Nat) : Gr := (((outTo m (gatTo (List.range n) n []).1 (gatTo (List.range n) n []).2.1 (gatTo (List.range n) n []).2.2).2.1 : Int), (outTo m (gatTo (List.range n) n []).1 (gatTo (List.range n) n []).2.1 (gatTo (List.range n) n []).2.2).2.2, (List.range n).map Int.ofNat, (outTo m (gatTo (List.range n) n []).1 (gatTo (List.range n) n []).2.1 (gatTo (List.range n) n []).2.2).1)
theorem outTo_len : ∀ (n w k : Nat) (E : List Eg), (outTo n w k E).1.length = n
 | 0, _, _, _ => rfl
 | 1, _, _, _ => rfl
 | n + 2, w, k, E => by
   unfold outTo
   rw [List.length_cons, outTo_len (n + 1)]
theorem gatTo_len : ∀ (l : List Nat) (k : Nat) (E : List Eg), (gatTo l k E).2.1 ≤ k + l.length + 1 ∧ (gatTo l k E).2.2.length ≤ E.length + l.length + 1
 | [], k, E => by simp [gatTo]
 | [x], k, E => by simp only [gatTo, List.length_cons, List.length_nil]; omega
 | x :: y :: l, k, E => by
   have := gatTo_len (y :: l) k E
   simp only [List.length_cons] at this
   simp only [gatTo, List.length_cons, List.length_append, List.length_nil]
   omega
theorem inTo_len : ∀ (n k : Nat) (E : List Eg), (inTo n k E).1.length = n ∧ (inTo n k E).2.1 ≤ k + 2 * n + 1 ∧ (inTo n k E).2.2.length ≤ E.length + n + 1
 | 0, k, E => by simp [inTo]
 | 1, k, E => ⟨rfl, by show k + 1 ≤ _; omega, by show E.length ≤ _; omega⟩
 | n + 2, k, E => by
   have := inTo_len (n + 1) (k + 2) E
   simp only [inTo, List.length_cons, List.length_append, List.length_nil]
   omega
open Go.RowKit
abbrev tDr : TypeId := 41
abbrev tMk : TypeId := 34
theorem sd_apart {w : World} {e e' : TypeId} {sz sz' n n' c c' : Nat} {A B : Option Addr} {xs ys : List Value} (h : Sl w e sz A n c xs) (h' : Sl w e' sz' B n' c' ys) (he : e ≠ e') : ∀ b, b ∈ fpA A → ¬ b ∈ fpA B := by
 intro x hx hx'
 rcases h.2.2.2 with ⟨rfl, _⟩ | ⟨g, off, cur, rfl, hg, _⟩
 · simp at hx
 · rcases h'.2.2.2 with ⟨rfl, _⟩ | ⟨g', off', cur', rfl, hg', _⟩
   · simp at hx'
   · obtain rfl : x = g := by simpa using hx
     obtain rfl : x = g' := by simpa using hx'
     rw [hg] at hg'
     injection hg' with hg'
     injection hg' with _ h1
     exact he h1
theorem sd_ne {w : World} {e ty : TypeId} {sz n c d : Nat} {A : Option Addr} {xs : List Value} {cs : Array Value} (h : Sl w e sz A n c xs) (hb : w.heap[d]? = some (.cells cs ty)) (he : e ≠ ty) : ∀ b, b ∈ fpA A → b ≠ d := by
 intro x hx hx'
 rcases h.2.2.2 with ⟨rfl, _⟩ | ⟨g, off, cur, rfl, hg, _⟩
 · simp at hx
 · obtain rfl : x = g := by simpa using hx
   rw [hx', hb] at hg
   injection hg with hg
   injection hg with _ h1
   exact he h1.symm
structure Dr (ty : TypeId) (w : World) (d : Nat) (A : Option Addr) (cap k : Nat) (hs : List EHd) (va vb : Value) : Prop where
 box : w.heap[d]? = some (.cells #[.int .i64 (k : Int), .slice A hs.length cap, va, vb] ty)
 sl : Sl w tEd 4 A hs.length cap (ecs hs)
 eds : ∀ x, x ∈ hs → IS w x.2.2.1.1 x.2.2.1.2.1 x.2.2.1.2.2 ∧ IS w x.2.2.2.1 x.2.2.2.2.1 x.2.2.2.2.2
def StD (d : Nat) (w : World) (A : Option Addr) (w' : World) (A' : Option Addr) : Prop := Keeps (fun b => b = d ∨ b ∈ fpA A) w w' ∧ ∀ b, b ∈ fpA A' → b ∈ fpA A ∨ w.heap.size ≤ b
section
variable {ty : TypeId} {w w' w'' : World} {d : Nat} {A A' A'' : Option Addr} {cap k : Nat} {hs : List EHd} {va vb : Value}
theorem StD.refl : StD d w A w A := ⟨Keeps.refl _ _, fun _ h => .inl h⟩
theorem StD.trans (h : StD d w A w' A') (k : StD d w' A' w'' A'') : StD d w A w'' A'' :=
 ⟨h.1.free k.1 fun x hx hT => hT.imp id fun e => (h.2 x e).resolve_right (by omega), fun x hx => by
  rcases k.2 x hx with h1 | h1
  · exact h.2 x h1
  · exact .inr (Nat.le_trans h.1.size h1)⟩
theorem StD.of_below (h : Below w.heap.size w w') : StD d w A w' A := ⟨Keeps.of_below h _, fun _ h => .inl h⟩
theorem Dr.isk (h : Dr ty w d A cap k hs va vb) (hty : tInt ≠ ty) {B : Option Addr} {c : Nat} {l : List Int} (hI : IS w B c l) (hk : StD d w A w' A') : IS w' B c l :=
 hI.keeps hk.1 fun x hx e => e.elim (sd_ne hI h.box hty x hx) (sd_apart hI h.sl (by decide) x hx)
theorem Dr.below (h : Dr ty w d A cap k hs va vb) (hb : Below w.heap.size w w') : Dr ty w' d A cap k hs va vb :=
 ⟨t_box_below h.box hb, h.sl.below hb, fun x hx => ⟨(h.eds x hx).1.below hb, (h.eds x hx).2.below hb⟩⟩
theorem Dr.lt (h : Dr ty w d A cap k hs va vb) : d < w.heap.size := t_box_lt h.box
theorem Dr.set0 (h : Dr ty w d A cap k hs va vb) (hty : tInt ≠ ty) (hte : tEd ≠ ty) (k' : Nat) :
  Dr ty (w.setCell ⟨d, 0, none⟩ (.int .i64 (k' : Int))) d A cap k' hs va vb ∧ StD d w A (w.setCell ⟨d, 0, none⟩ (.int .i64 (k' : Int))) A := by
 obtain ⟨s1, s2⟩ := set4_0 (b := .int .i64 (k' : Int)) h.box
 have hS : StD d w A (w.setCell ⟨d, 0, none⟩ (.int .i64 (k' : Int))) A := ⟨s2.mono fun _ _ e => .inl e, fun _ h => .inl h⟩
 exact ⟨⟨s1, h.sl.keeps s2 (sd_ne h.sl h.box hte), fun x hx => ⟨h.isk hty (h.eds x hx).1 hS, h.isk hty (h.eds x hx).2 hS⟩⟩, hS⟩
theorem Dr.app (h : Dr ty w d A cap k hs va vb) (hty : tInt ≠ ty) (hte : tEd ≠ ty) {κ v : Int} {B C : Hd} (hB : IS w B.1 B.2.1 B.2.2) (hC : IS w C.1 C.2.1 C.2.2) {w1 : World} {A1 : Option Addr} {c1 : Nat} {nh : Nat} (hn : hs.length = nh)
  (hs1 : Sl w1 tEd 4 A1 (nh + 1) c1 (ecs hs ++ [.int .i64 κ, .int .i64 v, B.val, C.val])) (hA : ∀ b, b ∈ fpA A1 → b ∈ fpA A ∨ w.heap.size ≤ b) (hk : Keeps (· ∈ fpA A) w w1) :
  Dr ty (w1.setCell ⟨d, 1, none⟩ (.slice A1 (nh + 1) c1)) d A1 c1 k (hs ++ [(κ, v, B, C)]) va vb ∧ StD d w A (w1.setCell ⟨d, 1, none⟩ (.slice A1 (nh + 1) c1)) A1 := by
 subst hn
 have hb1 := t_box_keeps h.box hk (fun e => sd_ne h.sl h.box hte _ e rfl)
 obtain ⟨s1, s2⟩ := box_set hb1 1 (.slice A1 (hs.length + 1) c1)
 have s1' : (w1.setCell ⟨d, 1, none⟩ (.slice A1 (hs.length + 1) c1)).heap[d]? = some (.cells #[.int .i64 (k : Int), .slice A1 (hs.length + 1) c1, va, vb] ty) := s1
 have hS : StD d w A (w1.setCell ⟨d, 1, none⟩ (.slice A1 (hs.length + 1) c1)) A1 := ⟨(hk.mono fun _ _ e => .inr e).trans (s2.mono fun _ _ e => .inl e), hA⟩
 refine ⟨⟨by rw [List.length_append]; exact s1', ?_, fun x hx => ?_⟩, hS⟩
 · rw [List.length_append, ecs_append]
   exact hs1.keeps s2 (sd_ne hs1 hb1 hte)
 · rcases List.mem_append.1 hx with hx | hx
   · exact ⟨h.isk hty (h.eds x hx).1 hS, h.isk hty (h.eds x hx).2 hS⟩
   · rw [List.mem_singleton.1 hx]
     exact ⟨h.isk hty hB hS, h.isk hty hC hS⟩
end
set_option maxRecDepth 100000 in
set_option maxHeartbeats 4000000 in
theorem drWire_any {w : World} {d : Nat} {A : Option Addr} {cap k : Nat} {hs : List EHd} {va vb : Value} (h : Dr tDr w d A cap k hs va vb) (hk : k < 1000000) :
  Calls Tryz.prog 28 #[.pointer (some ⟨d, 0, none⟩)] w fun e w' => e = .returned (.int .i64 (k : Int)) ∧ Dr tDr w' d A cap (k + 1) hs va vb ∧ StD d w A w' A := by
 obtain ⟨h1, h2⟩ := h.set0 (by decide) (by decide) (k + 1)
 obtain ⟨⟨c0, c1, c2, c3⟩, f0, f1, f2, f3⟩ := t_box4 h.box
 obtain ⟨⟨d0, d1, d2, d3⟩, g0, g1, g2, g3⟩ := t_box4 h1.box
 have e1 : ((k + 1 : Nat) : Int) = (k : Int) + 1 := by omega
 rw [e1] at h1 h2 d0 d1 d2 d3 g0 g1 g2 g3
 clear e1; have h_h := lH h; have h1_h := lH h1; have h2_h := lH h2; clear h h1 h2
 go_enter Tryz.func28, Tryz.ntmps28
 go_wp2_with (fail)
 go_ret
 exact ⟨rfl, h1_h.out, h2_h.out⟩
set_option maxRecDepth 100000 in
set_option maxHeartbeats 4000000 in
theorem drEdge_any {w : World} {d : Nat} {A : Option Addr} {cap k : Nat} {hs : List EHd} {va vb : Value} (κ v : Int) (B C : Option Addr) (nB cB nC cC : Nat) (lB lC : List Int) (h : Dr tDr w d A cap k hs va vb) (hn : hs.length < 1000000)
  (hB : IS w B cB lB) (hC : IS w C cC lC) (hlB : lB.length = nB) (hlC : lC.length = nC) :
  Calls Tryz.prog 29 #[.pointer (some ⟨d, 0, none⟩), .int .i64 κ, .int .i64 v, .slice B nB cB, .slice C nC cC] w fun e w' => e = .returned (.tuple #[]) ∧ ∃ A' cap', Dr tDr w' d A' cap' k (hs ++ [(κ, v, (B, cB, lB), (C, cC, lC))]) va vb ∧ StD d w A w' A' := by
 obtain ⟨nh, hnh⟩ : ∃ n, hs.length = n := ⟨_, rfl⟩
 have hsl := h.sl
 have hbx := h.box
 rw [hnh] at hsl hn hbx
 have b7 := t_below_alloc w (.cells #[.int .i64 κ, .int .i64 v, .slice B nB cB, .slice C nC cC] tEd)
 have hap := fun (w1 : World) (A1 : Option Addr) (c1 : Nat) (hs1 : Sl w1 tEd 4 A1 (nh + 1) c1 (ecs hs ++ [.int .i64 κ, .int .i64 v, .slice B nB cB, .slice C nC cC])) (hA : ∀ b, b ∈ fpA A1 → b ∈ fpA A ∨ (w.alloc (.cells #[.int .i64 κ, .int .i64 v, .slice B nB cB, .slice C nC cC] tEd)).heap.size ≤ b) (hk : Keeps (· ∈ fpA A) (w.alloc (.cells #[.int .i64 κ, .int .i64 v, .slice B nB cB, .slice C nC cC] tEd)) w1) =>
  (h.below b7).app (B := (B, cB, lB)) (C := (C, cC, lC)) (by decide) (by decide) (hB.below b7) (hC.below b7) hnh (w1 := w1) (A1 := A1) (c1 := c1) (by rw [show Hd.val (B, cB, lB) = .slice B nB cB by rw [← hlB]; rfl, show Hd.val (C, cC, lC) = .slice C nC cC by rw [← hlC]; rfl]; exact hs1) hA hk
 obtain ⟨⟨c0, c1, c2, c3⟩, f0, f1, f2, f3⟩ := t_box4 hbx
 have hbk := fun (w1 : World) (hk : Keeps (· ∈ fpA A) (w.alloc (.cells #[.int .i64 κ, .int .i64 v, .slice B nB cB, .slice C nC cC] tEd)) w1) => t_box4 (t_box_keeps (t_box_below hbx b7) hk (fun e => sd_ne hsl hbx (by decide) _ e rfl))
 have hsl7 := hsl.below b7
 have hS7 : StD d w A (w.alloc (.cells #[.int .i64 κ, .int .i64 v, .slice B nB cB, .slice C nC cC] tEd)) A := StD.of_below b7
 clear hbx hsl b7; have h_h := lH h; have hB_h := lH hB; have hC_h := lH hC; have hlB_h := lH hlB; have hlC_h := lH hlC; have hnh_h := lH hnh; have hap_h := lH hap; have hS7_h := lH hS7; clear h hB hC hlB hlC hnh hap hS7
 go_enter Tryz.func29, Tryz.ntmps29
 go_wp2_with (at_builtin; refine wpList_append_Sl _ rfl _ _ _ rfl tEd Tryz.underlying22 info_ed rfl (by omega) rfl hsl7 rfl (news := [.int .i64 κ, .int .i64 v, .slice B nB cB, .slice C nC cC]) rfl (Sl.rdc (Sl.laid w tEd 4 1 #[.int .i64 κ, .int .i64 v, .slice B nB cB, .slice C nC cC] (by unfold maxLen; omega) rfl)) (by intro u hu; simp at hu; rcases hu with rfl | rfl | rfl | rfl <;> rfl) (by unfold maxLen; omega) (by omega) ?_; intro A11 c11 w11 hs11 hA11 hk11; obtain ⟨⟨z0, z1, z2, z3⟩, z4, z5, z6, z7⟩ := hbk w11 hk11)
 go_end0
 have q := hap_h.out w11 A11 c11 hs11 hA11 hk11
 exact ⟨rfl, A11, c11, q.1, hS7_h.out.trans q.2⟩
set_option maxRecDepth 100000 in
set_option maxHeartbeats 4000000 in
theorem mkWire_any {w : World} {d : Nat} {A : Option Addr} {cap k : Nat} {hs : List EHd} {va vb : Value} (h : Dr tMk w d A cap k hs va vb) (hk : k < 1000000) :
  Calls Tryz.prog 24 #[.pointer (some ⟨d, 0, none⟩)] w fun e w' => e = .returned (.int .i64 (k : Int)) ∧ Dr tMk w' d A cap (k + 1) hs va vb ∧ StD d w A w' A := by
 obtain ⟨h1, h2⟩ := h.set0 (by decide) (by decide) (k + 1)
 obtain ⟨⟨c0, c1, c2, c3⟩, f0, f1, f2, f3⟩ := t_box4 h.box
 obtain ⟨⟨d0, d1, d2, d3⟩, g0, g1, g2, g3⟩ := t_box4 h1.box
 have e1 : ((k + 1 : Nat) : Int) = (k : Int) + 1 := by omega
 rw [e1] at h1 h2 d0 d1 d2 d3 g0 g1 g2 g3
 clear e1; have h_h := lH h; have h1_h := lH h1; have h2_h := lH h2; clear h h1 h2
 go_enter Tryz.func24, Tryz.ntmps24
 go_wp2_with (fail)
 go_ret
 exact ⟨rfl, h1_h.out, h2_h.out⟩
set_option maxRecDepth 100000 in
set_option maxHeartbeats 4000000 in
theorem mkEdge_any {w : World} {d : Nat} {A : Option Addr} {cap k : Nat} {hs : List EHd} {va vb : Value} (κ v : Int) (B C : Option Addr) (nB cB nC cC : Nat) (lB lC : List Int) (h : Dr tMk w d A cap k hs va vb) (hn : hs.length < 1000000)
  (hB : IS w B cB lB) (hC : IS w C cC lC) (hlB : lB.length = nB) (hlC : lC.length = nC) :
  Calls Tryz.prog 25 #[.pointer (some ⟨d, 0, none⟩), .int .i64 κ, .int .i64 v, .slice B nB cB, .slice C nC cC] w fun e w' => e = .returned (.tuple #[]) ∧ ∃ A' cap', Dr tMk w' d A' cap' k (hs ++ [(κ, v, (B, cB, lB), (C, cC, lC))]) va vb ∧ StD d w A w' A' := by
 obtain ⟨nh, hnh⟩ : ∃ n, hs.length = n := ⟨_, rfl⟩
 have hsl := h.sl
 have hbx := h.box
 rw [hnh] at hsl hn hbx
 have b7 := t_below_alloc w (.cells #[.int .i64 κ, .int .i64 v, .slice B nB cB, .slice C nC cC] tEd)
 have hap := fun (w1 : World) (A1 : Option Addr) (c1 : Nat) (hs1 : Sl w1 tEd 4 A1 (nh + 1) c1 (ecs hs ++ [.int .i64 κ, .int .i64 v, .slice B nB cB, .slice C nC cC])) (hA : ∀ b, b ∈ fpA A1 → b ∈ fpA A ∨ (w.alloc (.cells #[.int .i64 κ, .int .i64 v, .slice B nB cB, .slice C nC cC] tEd)).heap.size ≤ b) (hk : Keeps (· ∈ fpA A) (w.alloc (.cells #[.int .i64 κ, .int .i64 v, .slice B nB cB, .slice C nC cC] tEd)) w1) =>
  (h.below b7).app (B := (B, cB, lB)) (C := (C, cC, lC)) (by decide) (by decide) (hB.below b7) (hC.below b7) hnh (w1 := w1) (A1 := A1) (c1 := c1) (by rw [show Hd.val (B, cB, lB) = .slice B nB cB by rw [← hlB]; rfl, show Hd.val (C, cC, lC) = .slice C nC cC by rw [← hlC]; rfl]; exact hs1) hA hk
 obtain ⟨⟨c0, c1, c2, c3⟩, f0, f1, f2, f3⟩ := t_box4 hbx
 have hbk := fun (w1 : World) (hk : Keeps (· ∈ fpA A) (w.alloc (.cells #[.int .i64 κ, .int .i64 v, .slice B nB cB, .slice C nC cC] tEd)) w1) => t_box4 (t_box_keeps (t_box_below hbx b7) hk (fun e => sd_ne hsl hbx (by decide) _ e rfl))
 have hsl7 := hsl.below b7
 have hS7 : StD d w A (w.alloc (.cells #[.int .i64 κ, .int .i64 v, .slice B nB cB, .slice C nC cC] tEd)) A := StD.of_below b7
 clear hbx hsl b7; have h_h := lH h; have hB_h := lH hB; have hC_h := lH hC; have hlB_h := lH hlB; have hlC_h := lH hlC; have hnh_h := lH hnh; have hap_h := lH hap; have hS7_h := lH hS7; clear h hB hC hlB hlC hnh hap hS7
 go_enter Tryz.func25, Tryz.ntmps25
 go_wp2_with (at_builtin; refine wpList_append_Sl _ rfl _ _ _ rfl tEd Tryz.underlying22 info_ed rfl (by omega) rfl hsl7 rfl (news := [.int .i64 κ, .int .i64 v, .slice B nB cB, .slice C nC cC]) rfl (Sl.rdc (Sl.laid w tEd 4 1 #[.int .i64 κ, .int .i64 v, .slice B nB cB, .slice C nC cC] (by unfold maxLen; omega) rfl)) (by intro u hu; simp at hu; rcases hu with rfl | rfl | rfl | rfl <;> rfl) (by unfold maxLen; omega) (by omega) ?_; intro A11 c11 w11 hs11 hA11 hk11; obtain ⟨⟨z0, z1, z2, z3⟩, z4, z5, z6, z7⟩ := hbk w11 hk11)
 go_end0
 have q := hap_h.out w11 A11 c11 hs11 hA11 hk11
 exact ⟨rfl, A11, c11, q.1, hS7_h.out.trans q.2⟩
def StH (w : World) (hs hs' : List EHd) : Prop := ∀ x, x ∈ hs' → x ∈ hs ∨ ∀ b, b ∈ fpA x.2.2.1.1 ∨ b ∈ fpA x.2.2.2.1 → w.heap.size ≤ b
theorem StH.refl {w : World} {hs : List EHd} : StH w hs hs := fun _ h => .inl h
theorem StH.trans {w w' : World} {hs hs' hs'' : List EHd} (h : StH w hs hs') (hz : w.heap.size ≤ w'.heap.size) (k : StH w' hs' hs'') : StH w hs hs'' := fun x hx => by
 rcases k x hx with h1 | h1
 · exact h x h1
 · exact .inr fun b hb => Nat.le_trans hz (h1 b hb)
theorem StH.snoc {w : World} {hs hs' : List EHd} (h : StH w hs hs') {y : EHd} (hy : ∀ b, b ∈ fpA y.2.2.1.1 ∨ b ∈ fpA y.2.2.2.1 → w.heap.size ≤ b) : StH w hs (hs' ++ [y]) := fun x hx => by
 rcases List.mem_append.1 hx with hx | hx
 · exact h x hx
 · rw [List.mem_singleton.1 hx]; exact .inr hy
theorem Dr.off {ty : TypeId} {w w0 w' : World} {d q : Nat} {A : Option Addr} {cap k : Nat} {hs hs0 : List EHd} {va vb : Value} (h : Dr ty w d A cap k hs va vb) (hk : Keeps (· = q) w w') (hd : d ≠ q) (hA : ∀ b, b ∈ fpA A → b ≠ q)
  (h0 : ∀ x, x ∈ hs0 → ∀ b, b ∈ fpA x.2.2.1.1 ∨ b ∈ fpA x.2.2.2.1 → b < q) (hH : StH w0 hs0 hs) (hq : q < w0.heap.size) : Dr ty w' d A cap k hs va vb := by
 have key : ∀ x, x ∈ hs → ∀ b, b ∈ fpA x.2.2.1.1 ∨ b ∈ fpA x.2.2.2.1 → b ≠ q := fun x hx b hb => by
  rcases hH x hx with h1 | h1
  · have := h0 x h1 b hb; omega
  · have := h1 b hb; omega
 exact ⟨t_box_keeps h.box hk hd, h.sl.keeps hk hA, fun x hx => ⟨(h.eds x hx).1.keeps hk fun b hb => key x hx b (.inl hb), (h.eds x hx).2.keeps hk fun b hb => key x hx b (.inr hb)⟩⟩
theorem Dr.edlt {ty : TypeId} {w : World} {d : Nat} {A : Option Addr} {cap k : Nat} {hs : List EHd} {va vb : Value} (h : Dr ty w d A cap k hs va vb) : ∀ x, x ∈ hs → ∀ b, b ∈ fpA x.2.2.1.1 ∨ b ∈ fpA x.2.2.2.1 → b < w.heap.size := fun x hx b hb => hb.elim (fun e => (h.eds x hx).1.lt b e) fun e => (h.eds x hx).2.lt b e
def FanR (ty : TypeId) (d : Nat) (w : World) (A : Option Addr) (hs : List EHd) (va vb : Value) (r : List Int × Nat × List Eg) (e : Ending) (w' : World) : Prop :=
 ∃ (B : Option Addr) (c nB : Nat) (A' : Option Addr) (cap' : Nat) (hs' : List EHd), e = .returned (.slice B nB c) ∧ r.1.length = nB ∧ IS w' B c r.1 ∧ Dr ty w' d A' cap' r.2.1 hs' va vb ∧ hs'.map egOf = r.2.2 ∧ StD d w A w' A' ∧ StH w hs hs'
theorem is_one (w : World) (x : Int) : IS (w.alloc (.cells #[.int .i64 x] tInt)) (some ⟨w.heap.size, 0, none⟩) 1 [x] := Sl.laid w tInt 1 1 #[.int .i64 x] (by unfold maxLen; omega) rfl
theorem is_two (w : World) (x y : Int) : IS (w.alloc (.cells #[.int .i64 x, .int .i64 y] tInt)) (some ⟨w.heap.size, 0, none⟩) 2 [x, y] := Sl.laid w tInt 1 2 #[.int .i64 x, .int .i64 y] (by unfold maxLen; omega) rfl
theorem is_app {w : World} {A : Option Addr} {nB c : Nat} {a : Int} {l : List Int} (h : Sl w tInt 1 A (1 + nB) c ([.int .i64 a] ++ ints l)) (hl : l.length = nB) : IS w A c (a :: l) := by
 unfold IS
 rw [List.length_cons, hl, Nat.add_comm]
 exact h
set_option maxRecDepth 100000 in
set_option maxHeartbeats 4000000 in
theorem mkFan_0 {w : World} {d : Nat} {A : Option Addr} {cap k : Nat} {hs : List EHd} {va vb : Value} (x : Nat) (h : Dr tMk w d A cap k hs va vb) (hl : hs.length < 10000) :
  Calls Tryz.prog 11 #[.pointer (some ⟨d, 0, none⟩), .int .i64 (x : Int), .int .i64 0] w (FanR tMk d w A hs va vb (outTo 0 x k (hs.map egOf))) := by
 have b1 := t_below_alloc w (.cells #[.int .i64 (x : Int)] tInt)
 have hE := mkEdge_any 4 0 (some ⟨w.heap.size, 0, none⟩) none 1 1 0 0 [(x : Int)] [] (h.below b1) (by omega) (is_one w x) (Sl.nil _ _ _) rfl rfl
 have h_h := lH h; have b1_h := lH b1; have hE_h := lH hE; clear h b1 hE
 go_enter Tryz.func11, Tryz.ntmps11
 go_wp2_with (fail)
 refine (hE_h.out).mono ?_
 rintro e w2 ⟨rfl, A2, c2, h2, s2⟩
 have h2_h := lH h2; have s2_h := lH s2; clear h2 s2
 go_wp2_with (fail)
 go_ret
 exact ⟨none, 0, 0, A2, c2, _, rfl, rfl, Sl.nil _ _ _, h2_h.out, by rw [List.map_append]; rfl, (StD.of_below b1_h.out).trans s2_h.out, StH.refl.snoc (fun b hb => by simp at hb; omega)⟩
set_option maxRecDepth 100000 in
set_option maxHeartbeats 4000000 in
theorem mkFan_1 {w : World} {d : Nat} {A : Option Addr} {cap k : Nat} {hs : List EHd} {va vb : Value} (x : Nat) (h : Dr tMk w d A cap k hs va vb) :
  Calls Tryz.prog 11 #[.pointer (some ⟨d, 0, none⟩), .int .i64 (x : Int), .int .i64 1] w (FanR tMk d w A hs va vb (outTo 1 x k (hs.map egOf))) := by
 have b1 := t_below_alloc w (.cells #[.int .i64 (x : Int)] tInt)
 have h2 := h.below b1
 have h3 := is_one w (x : Int)
 have h_h := lH h; have b1_h := lH b1; have h2_h := lH h2; have h3_h := lH h3; clear h b1 h2 h3
 go_enter Tryz.func11, Tryz.ntmps11
 go_wp2_with (fail)
 go_ret
 exact ⟨_, 1, 1, A, cap, _, rfl, rfl, h3_h.out, h2_h.out, rfl, StD.of_below b1_h.out, StH.refl⟩
set_option maxRecDepth 100000 in
set_option maxHeartbeats 4000000 in
theorem mkFan_step {d : Nat} {va vb : Value} (n : Nat) (N : Int) (hN : N = ((n + 2 : Nat) : Int)) (hn : n ≤ 1000)
  (ih : ∀ (w : World) (A : Option Addr) (cap k : Nat) (hs : List EHd) (x : Nat) (X N : Int), X = (x : Int) → N = ((n + 1 : Nat) : Int) → Dr tMk w d A cap k hs va vb → k + 2 * (n + 1) < 10000 → hs.length + (n + 1) < 10000 → Calls Tryz.prog 11 #[.pointer (some ⟨d, 0, none⟩), .int .i64 X, .int .i64 N] w (FanR tMk d w A hs va vb (outTo (n + 1) x k (hs.map egOf))))
  {w : World} {A : Option Addr} {cap k : Nat} {hs : List EHd} (x : Nat) (h : Dr tMk w d A cap k hs va vb) (hk : k + 2 * (n + 2) < 10000) (hl : hs.length + (n + 2) < 10000) :
  Calls Tryz.prog 11 #[.pointer (some ⟨d, 0, none⟩), .int .i64 (x : Int), .int .i64 N] w (FanR tMk d w A hs va vb (outTo (n + 2) x k (hs.map egOf))) := by
 have hb0 : (N == 0) = false := beq_eq_false_iff_ne.2 (by omega)
 have hb1 : (N == 1) = false := beq_eq_false_iff_ne.2 (by omega)
 have hlo : 2 ≤ N := by omega
 have hhi : N ≤ 1002 := by omega
 have hW1 := mkWire_any h (by omega)
 obtain ⟨R, hR⟩ : ∃ R, R = outTo (n + 2) x k (hs.map egOf) := ⟨_, rfl⟩
 rw [← hR]
 have hN_h := lH hN; have ih_h := lH ih; have h_h := lH h; have hW1_h := lH hW1; have hl_h := lH hl; have hR_h := lH hR; clear hN ih h hW1 hl hR
 go_enter Tryz.func11, Tryz.ntmps11
 go_wp2_with (fail)
 refine (hW1_h.out).mono ?_
 rintro e w1 ⟨rfl, h1, s1⟩
 have hW2 := mkWire_any h1 (by omega)
 have h1_h := lH h1; have s1_h := lH s1; have hW2_h := lH hW2; clear h1 s1 hW2
 go_wp2_with (fail)
 refine (hW2_h.out).mono ?_
 rintro e w2 ⟨rfl, h2, s2⟩
 have b3 := t_below_alloc w2 (.cells #[.int .i64 (x : Int)] tInt)
 have b4 := t_below_alloc (w2.alloc (.cells #[.int .i64 (x : Int)] tInt)) (.cells #[.int .i64 (k : Int), .int .i64 ((k : Int) + 1)] tInt)
 have hE := mkEdge_any 3 0 (some ⟨w2.heap.size, 0, none⟩) (some ⟨w2.heap.size + 1, 0, none⟩) 1 1 2 2 [(x : Int)] [(k : Int), (k : Int) + 1] ((h2.below b3).below b4) (by have := hl_h.out; omega) ((is_one w2 x).below b4) (by have := is_two (w2.alloc (.cells #[.int .i64 (x : Int)] tInt)) (k : Int) ((k : Int) + 1); rw [World.size_alloc] at this; exact this) rfl rfl
 have s24 := (s1_h.out.trans s2).trans ((StD.of_below b3).trans (StD.of_below b4))
 have hz1 := s1_h.out.1.size
 have hz2 := s2.1.size
 have e1 : ((k + 1 : Nat) : Int) = (k : Int) + 1 := by omega
 rw [e1]
 clear e1 s2 h2 b3 b4; have hE_h := lH hE; have s24_h := lH s24; have hz1_h := lH hz1; have hz2_h := lH hz2; clear hE s24 hz1 hz2
 go_wp2_with (fail)
 refine (hE_h.out).mono ?_
 rintro e w3 ⟨rfl, A3, c3, h3, s3⟩
 have s13 := s24_h.out.trans s3
 have b5 := t_below_alloc w3 (.cells #[.int .i64 (k : Int)] tInt)
 obtain ⟨hs3, hhs3⟩ : ∃ l, l = hs ++ [((3, 0, (some ⟨w2.heap.size, 0, none⟩, 1, [(x : Int)]), (some ⟨w2.heap.size + 1, 0, none⟩, 2, [(k : Int), (k : Int) + 1])) : EHd)] := ⟨_, rfl⟩
 rw [← hhs3] at h3
 have hI := ih_h.out (w3.alloc (.cells #[.int .i64 (k : Int)] tInt)) A3 c3 (k + 1 + 1) hs3 (k + 1) ((k : Int) + 1) (N - 1) (by omega) (by have := hN_h.out; omega) (h3.below b5) (by omega) (by rw [hhs3, List.length_append]; have := hl_h.out; simp only [List.length_cons, List.length_nil]; omega)
 have he3 : hs3.map egOf = hs.map egOf ++ [(3, 0, [(x : Int)], [(k : Int), (k : Int) + 1])] := by rw [hhs3, List.map_append]; rfl
 rw [he3] at hI
 have hR2 := hR_h.out
 obtain ⟨r, hr⟩ : ∃ r, r = outTo (n + 1) (k + 1) (k + 1 + 1) (hs.map egOf ++ [(3, 0, [(x : Int)], [(k : Int), (k : Int) + 1])]) := ⟨_, rfl⟩
 have hrl : r.1.length = n + 1 := by rw [hr, outTo_len]
 rw [← hr] at hI
 have hR3 : R = ((k : Int) :: r.1, r.2) := by rw [hr]; exact hR2
 have t3 : StH w hs hs3 := by
  rw [hhs3]
  have := hz1_h.out
  have := hz2_h.out
  exact StH.refl.snoc fun b hb => by simp at hb; omega
 have hone := is_one w3 (k : Int)
 clear s3 hR2 hr he3 hhs3; have h3_h := lH h3; have s13_h := lH s13; have b5_h := lH b5; have hI_h := lH hI; have hR3_h := lH hR3; have t3_h := lH t3; have hone_h := lH hone; have hrl_h := lH hrl; clear h3 s13 b5 hI hR3 t3 hone hrl
 go_wp2_with (fail)
 refine (hI_h.out).mono ?_
 rintro e w4 ⟨B4, c4, n4, A4, k4, hs4, rfl, hn4, hI4, h4, e4, s4, t4⟩
 have hone4 := (h3_h.out.below b5_h.out).isk (by decide) hone_h.out s4
 have hrd4 := hI4.rd.rdc
 have hl4 : (ints r.1).length = n4 * 1 := by rw [ints_length, hn4, Nat.mul_one]
 have hn4b : n4 ≤ 1001 := by have := hrl_h.out; omega
 have hone4_h := lH hone4; have hrd4_h := lH hrd4; have hl4_h := lH hl4; have hn4_h := lH hn4; have hI4_h := lH hI4; have h4_h := lH h4; have e4_h := lH e4; have s4_h := lH s4; have t4_h := lH t4; clear hone4 hrd4 hl4 hn4 hI4 h4 e4 s4 t4
 go_wp2_with (at_builtin; refine wpList_append_Sl _ rfl _ _ _ rfl 3 Tryz.underlying23 info_int rfl (by omega) rfl hone4_h.out rfl hl4_h.out hrd4_h.out (ints_one _) (by unfold maxLen; omega) (by omega) ?_; intro A5 c5 w5 hs5 hA5 hk5)
 go_ret
 have hz3 := s13_h.out.1.size
 have hd3 := h3_h.out.lt
 have hk5' : Keeps (· = w3.heap.size) w4 w5 := hk5.mono fun b _ e => by simpa using e
 have h5 := h4_h.out.off hk5' (by omega) (fun b hb e => sd_apart hone4_h.out h4_h.out.sl (by decide) w3.heap.size (by simp) (e ▸ hb)) h3_h.out.edlt t4_h.out (by rw [World.size_alloc]; omega)
 have s5 := (s13_h.out.trans (StD.of_below b5_h.out)).trans s4_h.out
 rw [hR3_h.out]
 exact ⟨A5, c5, 1 + n4, A4, k4, hs4, rfl, by rw [List.length_cons, hn4_h.out, Nat.add_comm], is_app hs5 hn4_h.out, h5, e4_h.out, ⟨s5.1.free hk5' (fun b hb hT => by omega), s5.2⟩, t3_h.out.trans (by rw [World.size_alloc]; omega) t4_h.out⟩
theorem mkFan_any {d : Nat} {va vb : Value} : ∀ (n : Nat), n ≤ 1000 → ∀ (w : World) (A : Option Addr) (cap k : Nat) (hs : List EHd) (x : Nat) (X N : Int), X = (x : Int) → N = (n : Int) → Dr tMk w d A cap k hs va vb → k + 2 * n < 10000 → hs.length + n < 10000 →
  Calls Tryz.prog 11 #[.pointer (some ⟨d, 0, none⟩), .int .i64 X, .int .i64 N] w (FanR tMk d w A hs va vb (outTo n x k (hs.map egOf)))
 | 0, _, _, _, _, _, _, x, _, _, rfl, rfl, h, _, hl => mkFan_0 x h (by omega)
 | 1, _, _, _, _, _, _, x, _, _, rfl, rfl, h, _, _ => mkFan_1 x h
 | n + 2, hn, _, _, _, _, _, x, _, _, rfl, hN, h, hk, hl => mkFan_step n _ hN (by omega) (mkFan_any (n + 1) (by omega)) x h hk hl
def intL (l : List Nat) : List Int := l.map fun x : Nat => (x : Int)
def GatR (ty : TypeId) (d : Nat) (w : World) (A : Option Addr) (va vb : Value) (r : Nat × Nat × List Eg) (e : Ending) (w' : World) : Prop :=
 e = .returned (.int .i64 (r.1 : Int)) ∧ ∃ (A' : Option Addr) (cap' : Nat) (hs' : List EHd), Dr ty w' d A' cap' r.2.1 hs' va vb ∧ hs'.map egOf = r.2.2 ∧ StD d w A w' A'
theorem sd_drop {w : World} {A : Option Addr} {cap n r : Nat} {a : Int} {l : List Int} (h : IS w A cap (a :: l)) (hn : l.length = r) (hnr : n = r + 1) :
  ∃ A' c', (∀ w', (Instr.sliceAt 23 (.slice A n cap) (some (.int .i64 1)) none none).run Tryz.prog w' = .ok (.slice A' r c') w') ∧ IS w A' c' l := by
 have hS : Sl w tInt 1 A n cap (ints (a :: l)) := by have := h; unfold IS at this; rw [List.length_cons, hn, ← hnr] at this; exact this
 obtain ⟨A', h1, h2, _⟩ := hS.slicedG (P := Tryz.prog) 23 Tryz.underlying23 info_int (some (.int .i64 ((1 : Nat) : Int))) none none 1 n cap (optSome rfl) (optNone ⟨rfl, rfl⟩) (optNone rfl) (by omega) (Nat.le_refl _) (by have := hS.2.1; omega) (Nat.le_refl _)
 have hr : n - 1 = r := by omega
 rw [hr] at h1 h2
 refine ⟨A', cap - 1, h1, ?_⟩
 unfold IS
 rw [hn]
 have e : ints l = ((ints (a :: l)).drop (1 * 1)).take (r * 1) := by
  have hl : (ints l).length = r := by rw [ints_length, hn]
  simp only [Nat.mul_one]
  show ints l = (ints l).take r
  rw [List.take_of_length_le (by omega)]
 rw [e]
 exact h2
set_option maxRecDepth 100000 in
set_option maxHeartbeats 4000000 in
theorem mkGat_0 {w : World} {d : Nat} {A : Option Addr} {cap k : Nat} {hs : List EHd} {va vb : Value} (B : Option Addr) (c : Nat) (h : Dr tMk w d A cap k hs va vb) (hk : k < 10000) (hl : hs.length < 10000) :
  Calls Tryz.prog 12 #[.pointer (some ⟨d, 0, none⟩), .slice B 0 c] w (GatR tMk d w A va vb (gatTo [] k (hs.map egOf))) := by
 have hW := mkWire_any h (by omega)
 have h_h := lH h; have hW_h := lH hW; have hl_h := lH hl; clear h hW hl
 go_enter Tryz.func12, Tryz.ntmps12
 go_wp2_with (fail)
 refine (hW_h.out).mono ?_
 rintro e w1 ⟨rfl, h1, s1⟩
 have b1 := t_below_alloc w1 (.cells #[.int .i64 (k : Int)] tInt)
 have hE := mkEdge_any 10 0 none (some ⟨w1.heap.size, 0, none⟩) 0 0 1 1 [] [(k : Int)] (h1.below b1) (by have := hl_h.out; omega) (Sl.nil _ _ _) (is_one w1 k) rfl rfl
 have s2 := s1.trans (StD.of_below b1)
 clear h1 s1 b1; have hE_h := lH hE; have s2_h := lH s2; clear hE s2
 go_wp2_with (fail)
 refine (hE_h.out).mono ?_
 rintro e w2 ⟨rfl, A2, c2, h2, s3⟩
 have s23 := s2_h.out.trans s3
 clear s3; have h2_h := lH h2; have s23_h := lH s23; clear h2 s23
 go_wp2_with (fail)
 go_ret
 exact ⟨rfl, A2, c2, _, h2_h.out, by rw [List.map_append]; rfl, s23_h.out⟩
set_option maxRecDepth 100000 in
set_option maxHeartbeats 4000000 in
theorem mkGat_1 {w : World} {d : Nat} {A : Option Addr} {cap k : Nat} {hs : List EHd} {va vb : Value} (B : Option Addr) (c x : Nat) (h : Dr tMk w d A cap k hs va vb) (hI : IS w B c [(x : Int)]) :
  Calls Tryz.prog 12 #[.pointer (some ⟨d, 0, none⟩), .slice B 1 c] w (GatR tMk d w A va vb (gatTo [x] k (hs.map egOf))) := by
 obtain ⟨ad, rfl, c0⟩ := hI.rd 0 _ rfl
 have had : ad.add 0 = ad := rfl
 rw [had] at c0
 clear hI had; have h_h := lH h; clear h
 go_enter Tryz.func12, Tryz.ntmps12
 go_wp2_with (fail)
 go_ret
 exact ⟨rfl, A, cap, hs, h_h.out, rfl, StD.refl⟩
set_option maxRecDepth 100000 in
set_option maxHeartbeats 4000000 in
theorem mkGat_step {d : Nat} {va vb : Value} (x y : Nat) (l : List Nat) (hn : l.length ≤ 1000)
  (ih : ∀ (w : World) (A : Option Addr) (cap k : Nat) (hs : List EHd) (B : Option Addr) (c nB : Nat), (y :: l).length = nB → IS w B c (intL (y :: l)) → Dr tMk w d A cap k hs va vb → k + nB < 8000 → hs.length + nB < 8000 → Calls Tryz.prog 12 #[.pointer (some ⟨d, 0, none⟩), .slice B nB c] w (GatR tMk d w A va vb (gatTo (y :: l) k (hs.map egOf))))
  {w : World} {A : Option Addr} {cap k : Nat} {hs : List EHd} (B : Option Addr) (c nB : Nat) (hnB : (x :: y :: l).length = nB) (hI : IS w B c (intL (x :: y :: l))) (h : Dr tMk w d A cap k hs va vb) (hk : k + nB < 8000) (hl : hs.length + nB < 8000) :
  Calls Tryz.prog 12 #[.pointer (some ⟨d, 0, none⟩), .slice B nB c] w (GatR tMk d w A va vb (gatTo (x :: y :: l) k (hs.map egOf))) := by
 simp only [List.length_cons] at hnB
 obtain ⟨r1, hr1⟩ : ∃ r1, (y :: l).length = r1 := ⟨_, rfl⟩
 have hnr : nB = r1 + 1 := by rw [← hr1, List.length_cons]; omega
 have hr1b : 1 ≤ r1 ∧ r1 ≤ 1001 := by rw [← hr1, List.length_cons]; omega
 obtain ⟨B', c', hsl, hI'⟩ := sd_drop (l := intL (y :: l)) hI (by unfold intL; rw [List.length_map, hr1]) hnr
 have hih := ih w A cap k hs B' c' r1 hr1 hI' h (by omega) (by omega)
 obtain ⟨r, hr⟩ : ∃ r, r = gatTo (y :: l) k (hs.map egOf) := ⟨_, rfl⟩
 have hlen := gatTo_len (y :: l) k (hs.map egOf)
 rw [← hr, hr1, List.length_map] at hlen
 obtain ⟨hlen1, hlen2⟩ := hlen
 have hR : gatTo (x :: y :: l) k (hs.map egOf) = (r.2.1, r.2.1 + 1, r.2.2 ++ [(9, 0, [(x : Int), (r.1 : Int)], [(r.2.1 : Int)])]) := by rw [hr]; rfl
 rw [← hr] at hih
 rw [hR]
 have hb1 : ((nB : Int) == 1) = false := beq_eq_false_iff_ne.2 (by omega)
 have hb0 : ((nB : Int) == 0) = false := beq_eq_false_iff_ne.2 (by omega)
 have hnb : 2 ≤ nB ∧ nB ≤ 1002 := by omega
 obtain ⟨hnb1, hnb2⟩ := hnb
 clear hnB hr hr1 hR ih hn; have h_h := lH h; have hI_h := lH hI; have hih_h := lH hih; have hl_h := lH hl; have hk_h := lH hk; have hnr_h := lH hnr; have hlen1_h := lH hlen1; have hlen2_h := lH hlen2; have hI'_h := lH hI'; clear h hI hih hl hk hnr hlen1 hlen2 hI'
 go_enter Tryz.func12, Tryz.ntmps12
 go_wp2_with (fail)
 refine (hih_h.out).mono ?_
 rintro e w1 ⟨rfl, A1, k1, hs1, h1, e1, s1⟩
 have hW := mkWire_any h1 (by have := hlen1_h.out; have := hk_h.out; omega)
 have h1_h := lH h1; have e1_h := lH e1; have s1_h := lH s1; have hW_h := lH hW; clear h1 e1 s1 hW
 go_wp2_with (fail)
 refine (hW_h.out).mono ?_
 rintro e w2 ⟨rfl, h2, s2⟩
 have s12 := s1_h.out.trans s2
 have hI2 := h_h.out.isk (by decide) hI_h.out s12
 obtain ⟨ad, rfl, c0⟩ := hI2.rd 0 (x : Int) rfl
 have had : ad.add 0 = ad := rfl
 rw [had] at c0
 have b3 := t_below_alloc w2 (.cells #[.int .i64 (x : Int), .int .i64 (r.1 : Int)] tInt)
 have b4 := t_below_alloc (w2.alloc (.cells #[.int .i64 (x : Int), .int .i64 (r.1 : Int)] tInt)) (.cells #[.int .i64 (r.2.1 : Int)] tInt)
 have hE := mkEdge_any 9 0 (some ⟨w2.heap.size, 0, none⟩) (some ⟨w2.heap.size + 1, 0, none⟩) 2 2 1 1 [(x : Int), (r.1 : Int)] [(r.2.1 : Int)] ((h2.below b3).below b4) (by have := congrArg List.length e1_h.out; rw [List.length_map] at this; have := hlen2_h.out; have := hl_h.out; omega) ((is_two w2 x r.1).below b4) (by have := is_one (w2.alloc (.cells #[.int .i64 (x : Int), .int .i64 (r.1 : Int)] tInt)) (r.2.1 : Int); rw [World.size_alloc] at this; exact this) rfl rfl
 have s24 := s12.trans ((StD.of_below b3).trans (StD.of_below b4))
 clear s2 s12 hI2 had b3 b4 h2; have hE_h := lH hE; have s24_h := lH s24; clear hE s24
 go_wp2_with (fail)
 refine (hE_h.out).mono ?_
 rintro e w3 ⟨rfl, A3, c3, h3, s3⟩
 have s5 := s24_h.out.trans s3
 clear s3 c0; have h3_h := lH h3; have s5_h := lH s5; clear h3 s5
 go_wp2_with (fail)
 go_ret
 exact ⟨rfl, A3, c3, _, h3_h.out, by rw [List.map_append, e1_h.out]; rfl, s5_h.out⟩
theorem mkGat_any {d : Nat} {va vb : Value} : ∀ (l : List Nat), l.length ≤ 1000 → ∀ (w : World) (A : Option Addr) (cap k : Nat) (hs : List EHd) (B : Option Addr) (c nB : Nat), l.length = nB → IS w B c (intL l) → Dr tMk w d A cap k hs va vb → k + nB < 8000 → hs.length + nB < 8000 →
  Calls Tryz.prog 12 #[.pointer (some ⟨d, 0, none⟩), .slice B nB c] w (GatR tMk d w A va vb (gatTo l k (hs.map egOf)))
 | [], _, _, _, _, _, _, B, c, _, rfl, _, h, hk, hl => mkGat_0 B c h (by omega) (by omega)
 | [x], _, _, _, _, _, _, B, c, _, rfl, hI, h, _, _ => mkGat_1 B c x h hI
 | x :: y :: l, hn, _, _, _, _, _, B, c, nB, hnB, hI, h, hk, hl => mkGat_step x y l (by simp only [List.length_cons] at hn; omega) (mkGat_any (y :: l) (by simp only [List.length_cons] at hn ⊢; omega)) B c nB hnB hI h hk hl
def rngL (n : Nat) : List Int := (List.range n).map fun x : Nat => (x : Int)
theorem rngL_succ (n : Nat) : rngL (n + 1) = rngL n ++ [(n : Int)] := by simp [rngL, List.range_succ]
theorem rngL_len (n : Nat) : (rngL n).length = n := by simp [rngL]
theorem Dr.in_ {ty : TypeId} {w w1 : World} {d k j : Nat} {Ai Ai' : Option Addr} {ci ci' : Nat} {vb : Value} {l l' : List Int} (h : Dr ty w d none 0 k [] (.slice Ai j ci) vb) (hty : tInt ≠ ty) (hI : IS w Ai ci l) (hI' : IS w1 Ai' ci' l') (hk : Keeps (· ∈ fpA Ai) w w1) :
  w1.heap[d]? = some (.cells #[.int .i64 (k : Int), .slice none 0 0, .slice Ai j ci, vb] ty) ∧ Dr ty (w1.setCell ⟨d, 2, none⟩ (.slice Ai' (j + 1) ci')) d none 0 k [] (.slice Ai' (j + 1) ci') vb ∧ IS (w1.setCell ⟨d, 2, none⟩ (.slice Ai' (j + 1) ci')) Ai' ci' l' ∧ Keeps (fun b => b = d ∨ b ∈ fpA Ai) w (w1.setCell ⟨d, 2, none⟩ (.slice Ai' (j + 1) ci')) := by
 have hb1 := t_box_keeps h.box hk (fun e => sd_ne hI h.box hty _ e rfl)
 obtain ⟨s1, s2⟩ := box_set hb1 2 (.slice Ai' (j + 1) ci')
 exact ⟨hb1, ⟨s1, Sl.nil _ _ _, fun x hx => by cases hx⟩, hI'.keeps s2 (sd_ne hI' hb1 hty), (hk.mono fun _ _ e => .inr e).trans (s2.mono fun _ _ e => .inl e)⟩
theorem cell2 {w : World} {d : Nat} {x y z u : Value} {t : TypeId} (h : w.heap[d]? = some (.cells #[x, y, z, u] t)) : w.cell? ⟨d, 2, none⟩ = some z ∧ w.frozen? ⟨d, 2, none⟩ = false := by
 obtain ⟨⟨_, _, h1, _⟩, _, _, h2, _⟩ := t_box4 h
 exact ⟨h1, h2⟩
theorem sd_kb {S : Nat → Prop} {w w' w'' : World} (h : Keeps S w w') (k : Below w'.heap.size w' w'') : Keeps S w w'' := h.free (Keeps.of_below k (fun _ => False)) (fun _ _ h => h.elim)
set_option maxRecDepth 100000 in
set_option maxHeartbeats 4000000 in
theorem mkInputs_any {w : World} {d : Nat} {vb : Value} (n : Nat) (h : Dr tMk w d none 0 0 [] (.slice none 0 0) vb) (hn : n ≤ 12) :
  Calls Tryz.prog 10 #[.pointer (some ⟨d, 0, none⟩), .int .i64 (n : Int)] w fun e w' => e = .returned (.tuple #[]) ∧ ∃ (Ai : Option Addr) (ci : Nat), Dr tMk w' d none 0 n [] (.slice Ai n ci) vb ∧ IS w' Ai ci (rngL n) ∧ Keeps (· = d) w w' := by
 have hd := h.lt
 have h_h := lH h; clear h
 go_enter Tryz.func10, Tryz.ntmps10
 go_wp2_with (fail)
 go_loopw [1] (fun i wr => ∃ (j m : Nat) (Ai : Option Addr) (ci : Nat), j + m = n ∧ i = .int .i64 (m : Int) ∧ Dr tMk wr d none 0 j [] (.slice Ai j ci) vb ∧ IS wr Ai ci (rngL j) ∧ (∀ b, b ∈ fpA Ai → w.heap.size ≤ b) ∧ Keeps (· = d) w wr) (fun i _ => (intOf i).toNat)
 case atStart => exact ⟨0, n, none, 0, by omega, rfl, h_h.out, Sl.nil _ _ _, fun b hb => (by cases hb), Keeps.refl _ _⟩
 case round =>
  obtain ⟨j, m, Ai, ci, hjm, rfl, hD, hI, hA, hK⟩ := hrel
  obtain ⟨wo, rfl⟩ : ∃ x, x = wr := ⟨_, rfl⟩
  by_cases hm : m = 0
  · subst hm
    obtain rfl : j = n := by omega
    have hD_h := lH hD; have hI_h := lH hI; have hA_h := lH hA; have hK_h := lH hK; clear hD hI hA hK
    go_wp2_with (fail)
    go_end0
    exact ⟨rfl, Ai, ci, hD_h.out, hI_h.out, hK_h.out⟩
  · obtain ⟨m1, rfl⟩ : ∃ m1, m = m1 + 1 := ⟨m - 1, by omega⟩
    have hm12 : m1 ≤ 12 ∧ j ≤ 12 := by omega
    obtain ⟨hm12, hj12⟩ := hm12
    obtain ⟨M, hM⟩ : ∃ M : Int, M = ((m1 + 1 : Nat) : Int) := ⟨_, rfl⟩
    rw [← hM]
    have hM0 : 0 < M := by omega
    have hM13 : M ≤ 13 := by omega
    clear hm; have hD_h := lH hD; have hI_h := lH hI; have hA_h := lH hA; have hK_h := lH hK; have hM_h := lH hM; have hjm_h := lH hjm; clear hD hI hA hK hM hjm
    go_upto_region 2 with (fail)
    refine beginZw 13 (fun w' => w'.cell? ⟨d, 2, none⟩ = some (.slice Ai j ci) ∧ w'.frozen? ⟨d, 2, none⟩ = false) (by kernel_rfl) (fun W1 hW1 => ?_)
    have hbd : Below wo.heap.size wo W1 := by rw [hW1]; exact below_drewN (Below.refl _ _) 1
    have hD1 := hD_h.out.below hbd
    have hI1 := hI_h.out.below hbd
    have hW := mkWire_any hD1 (by omega)
    have hF1 := cell2 hD1.box
    clear hW1; have hD1_h := lH hD1; have hI1_h := lH hI1; have hbd_h := lH hbd; have hW_h := lH hW; have hF1_h := lH hF1; clear hD1 hI1 hbd hW hF1
    refine tkC 0 ?_ rfl hF1_h.out (fun W' hW' => ?_) ?_; rotate_left; · (have y1 := hW'.1; have y2 := hW'.2; clear hW'; go_simp; first | done | with_reducible rfl)
    simp only [Act.put, nS]
    refine tkC 1 ?_ rfl hF1_h.out (fun W' hW' => ?_) ?_; rotate_left; · (have y1 := hW'.1; have y2 := hW'.2; clear hW'; go_simp; first | done | with_reducible rfl)
    simp only [Act.put, nS]
    refine tkC 2 ?_ rfl hF1_h.out (fun W' hW' => ?_) ?_; rotate_left; · (have y1 := hW'.1; have y2 := hW'.2; clear hW'; go_simp; first | done | with_reducible rfl)
    simp only [Act.put, nS]
    refine tkC 3 ?_ rfl hF1_h.out (fun W' hW' => ?_) ?_; rotate_left; · (have y1 := hW'.1; have y2 := hW'.2; clear hW'; go_simp; first | done | with_reducible rfl)
    simp only [Act.put, nS]
    refine tkC 4 ?_ rfl hF1_h.out (fun W' hW' => ?_) ?_; rotate_left; · (have y1 := hW'.1; have y2 := hW'.2; clear hW'; go_simp; first | done | with_reducible rfl)
    simp only [Act.put, nS]
    refine tkC 5 ?_ rfl hF1_h.out (fun W' hW' => ?_) ?_; rotate_left; · (have y1 := hW'.1; have y2 := hW'.2; clear hW'; go_simp; first | done | with_reducible rfl)
    simp only [Act.put, nS]
    refine tkC 6 ?_ rfl hF1_h.out (fun W' hW' => ?_) ?_; rotate_left; · (have y1 := hW'.1; have y2 := hW'.2; clear hW'; go_simp; first | done | with_reducible rfl)
    simp only [Act.put, nS]
    refine callZ 7 (f := ?f1) (args := ?args1) rfl (by kernel_rfl) (by rfl) ?hrun1 ?hcall1
    case hrun1 => (go_simp; first | done | with_reducible rfl | (constructor <;> with_reducible rfl))
    case hcall1 =>
     refine (hW_h.out).mono ?_
     rintro e w2 ⟨rfl, hD2, hs2⟩
     have hI2 := hD1_h.out.isk (by decide) hI1_h.out hs2
     have b3 := t_below_alloc w2 (.cells #[.int .i64 (j : Int)] tInt)
     have hF2 := cell2 hD2.box
     have hD3 := hD2.below b3
     have hI3 := hI2.below b3
     have hF3 := cell2 hD3.box
     have hone := is_one w2 (j : Int)
     have hrd3 := hone.rd.rdc
     have hsl3 : Sl (w2.alloc (.cells #[.int .i64 (j : Int)] tInt)) tInt 1 Ai j ci (ints (rngL j)) := by
      have := hI3
      unfold IS at this
      rw [rngL_len] at this
      exact this
     have hl1 : (ints [(j : Int)]).length = 1 * 1 := rfl
     have hz1 := hbd_h.out.size
     have hz2 := hs2.1.size
     have hs2' : Keeps (· = d) W1 w2 := hs2.1.mono (T := (· = d)) (fun b _ e => e.elim id (fun e => by simp at e))
     have hK1 := sd_kb hK_h.out hbd_h.out
     have hK2 := hK1.trans hs2'
     have hK3 := sd_kb hK2 b3
     refine ⟨_, rfl, fun _ => hF2, ?_⟩
     clear hI2 b3 hs2 hD2 hs2' hK1 hK2; have hF2_h := lH hF2; have hD3_h := lH hD3; have hI3_h := lH hI3; have hF3_h := lH hF3; have hone_h := lH hone; have hrd3_h := lH hrd3; have hsl3_h := lH hsl3; have hl1_h := lH hl1; have hz1_h := lH hz1; have hz2_h := lH hz2; have hK3_h := lH hK3; clear hF2 hD3 hI3 hF3 hone hrd3 hsl3 hl1 hz1 hz2 hK3
     simp only [Act.put, nS]
     refine oneZ 8 rfl (by kernel_rfl) (by rfl) (fun K hK => ?_)
     go_simp
     refine hK _ _ (fun _ => hF3_h.out) ?_
     clear hK K
     refine appZ 9 rfl (by kernel_rfl) (by rfl) _ _ _ rfl tInt Tryz.underlying23 info_int rfl (by omega) rfl hsl3_h.out rfl hl1_h.out hrd3_h.out (ints_one [(j : Int)]) (by unfold maxLen; omega) (by omega) ?_
     intro A6 c6 w4 hsA6 hA6 hkA6 hrdA6
     clear hrdA6
     have hI4 : IS w4 A6 c6 (rngL (j + 1)) := by
      unfold IS
      rw [rngL_len, rngL_succ]
      have : ints (rngL j ++ [(j : Int)]) = ints (rngL j) ++ ints [(j : Int)] := by simp [ints]
      rw [this]
      exact hsA6
     obtain ⟨q1, q2, q3, q4⟩ := hD3_h.out.in_ (by decide) hI3_h.out hI4 hkA6
     have hF4 := cell2 q1
     have hA4 : ∀ b, b ∈ fpA A6 → w.heap.size ≤ b := fun b hb => by
      rcases hA6 b hb with h1 | h1
      · exact hA_h.out b h1
      · rw [World.size_alloc] at h1
        have := hK_h.out.size
        have := hz1_h.out
        have := hz2_h.out
        omega
     have hK4 := hK3_h.out.free q4 (fun b hb e => e.elim id fun e => by have := hA_h.out b e; omega)
     refine ⟨fun _ => hF4, ?_⟩
     simp only [Act.put, nS]
     clear hsA6 hA6 hkA6 q4 q1 hI4; have hF4_h := lH hF4; have q2_h := lH q2; have q3_h := lH q3; have hA4_h := lH hA4; have hK4_h := lH hK4; clear hF4 q2 q3 hA4 hK4
     refine tkC 10 ?_ rfl hF4_h.out (fun W' hW' => ?_) ?_; rotate_left; · (have y1 := hW'.1; have y2 := hW'.2; clear hW'; go_simp; first | done | with_reducible rfl)
     simp only [Act.put, nS]
     refine tkC 11 ?_ rfl hF4_h.out (fun W' hW' => ?_) ?_; rotate_left; · (have y1 := hW'.1; have y2 := hW'.2; clear hW'; go_simp; first | done | with_reducible rfl)
     simp only [Act.put, nS]
     refine tkC 12 ?_ rfl hF4_h.out (fun W' hW' => ?_) ?_; rotate_left; · (have y1 := hW'.1; have y2 := hW'.2; clear hW'; go_simp; first | done | with_reducible rfl)
     simp only [Act.put, nS]
     obtain ⟨y1, y2⟩ := hF4_h.out
     refine oneZ 13 rfl (by kernel_rfl) (by rfl) (fun K hK => ?_)
     go_simp
     refine hK _ _ (fun h => by cases h) ?_
     clear hK K
     refine doneZ (by kernel_rfl) ?_
     go_wp2_with (fail)
     go_roundw
     case rel => exact ⟨j + 1, m1, A6, c6, by have := hjm_h.out; omega, by have := hM_h.out; congr 1; omega, q2_h.out, q3_h.out, hA4_h.out, hK4_h.out⟩
     case measure => have := hM_h.out; simp [intOf]; omega
theorem Dr.offB {ty : TypeId} {w w' : World} {d : Nat} {A B : Option Addr} {cap k n c : Nat} {hs : List EHd} {va vb : Value} {xs : List Value} (h : Dr ty w d A cap k hs va vb) (hty : tInt ≠ ty) (hB : Sl w tInt 1 B n c xs) (hk : Keeps (· ∈ fpA B) w w')
  (hne : ∀ x, x ∈ hs → ∀ b, b ∈ fpA x.2.2.1.1 ∨ b ∈ fpA x.2.2.2.1 → ¬ b ∈ fpA B) : Dr ty w' d A cap k hs va vb :=
 ⟨t_box_keeps h.box hk (fun e => sd_ne hB h.box hty _ e rfl), h.sl.keeps hk (fun b hb hb' => sd_apart hB h.sl (by decide) b hb' hb), fun x hx => ⟨(h.eds x hx).1.keeps hk fun b hb => hne x hx b (.inl hb), (h.eds x hx).2.keeps hk fun b hb => hne x hx b (.inr hb)⟩⟩
theorem two_cells {w : World} {B : Option Addr} {c : Nat} {a b : Int} (h : IS w B c [a, b]) : ∃ g o, B = some ⟨g, o, none⟩ ∧ w.cell? ⟨g, o, none⟩ = some (.int .i64 a) ∧ w.cell? ⟨g, o + 1, none⟩ = some (.int .i64 b) := by
 obtain ⟨ad, rfl, h0⟩ := h.rd 0 a rfl
 obtain ⟨ad', e, h1⟩ := h.rd 1 b rfl
 obtain rfl := Option.some.inj e
 rcases h.2.2.2 with ⟨e, _⟩ | ⟨g, off, cur, e, _⟩
 · cases e
 · obtain rfl := Option.some.inj e
   exact ⟨g, off, rfl, h0, h1⟩
set_option maxRecDepth 100000 in
set_option maxHeartbeats 4000000 in
theorem drWires_any {w : World} {d : Nat} {A : Option Addr} {cap k : Nat} {hs : List EHd} {va vb : Value} (h : Dr tDr w d A cap k hs va vb) (hk : k < 100000) :
  Calls Tryz.prog 30 #[.pointer (some ⟨d, 0, none⟩), .int .i64 2] w fun e w' => ∃ (B : Option Addr) (c : Nat), e = .returned (.slice B 2 c) ∧ IS w' B c [(k : Int), (k : Int) + 1] ∧ (∀ b, b ∈ fpA B → w.heap.size ≤ b) ∧ Dr tDr w' d A cap (k + 2) hs va vb ∧ StD d w A w' A := by
 have hlt0 := h.edlt
 have b0 := t_below_alloc w (.cells #[] tInt)
 have hz := Sl.laid w tInt 1 0 #[] (by unfold maxLen; omega) rfl
 have hD0 := h.below b0
 have h_h := lH h; have hlt0_h := lH hlt0; have b0_h := lH b0; have hz_h := lH hz; have hD0_h := lH hD0; clear h hlt0 b0 hz hD0
 go_enter Tryz.func30, Tryz.ntmps30
 go_wp2_with (fail)
 go_loopw [8, 5] (fun i o wr => ∃ (j : Nat) (B : Option Addr) (c : Nat), j ≤ 2 ∧ i = .int .i64 (j : Int) ∧ o = .slice B j c ∧ Sl wr tInt 1 B j c (ints ((List.range j).map fun x : Nat => (k : Int) + (x : Int))) ∧ (∀ b, b ∈ fpA B → w.heap.size ≤ b) ∧ Dr tDr wr d A cap (k + j) hs va vb ∧ StD d w A wr A) (fun i _ _ => 2 - (intOf i).toNat)
 case atStart => exact ⟨0, _, 0, by omega, rfl, rfl, hz_h.out, fun b hb => by simp at hb; omega, hD0_h.out, StD.of_below b0_h.out⟩
 case round =>
  obtain ⟨j, B, c, hj, rfl, rfl, hI, hB, hD, hS⟩ := hrel
  obtain ⟨wo, rfl⟩ : ∃ x, x = wr := ⟨_, rfl⟩
  clear hD0_h b0_h hz_h
  by_cases hlt : j < 2
  · have hW := drWire_any hD (by omega)
    have hlt' : (j : Int) < 2 := by omega
    have hI_h := lH hI; have hB_h := lH hB; have hD_h := lH hD; have hS_h := lH hS; have hW_h := lH hW; clear hI hB hD hS hW
    go_wp2_with (fail)
    refine (hW_h.out).mono ?_
    rintro e w2 ⟨rfl, hD2, hS2⟩
    have e1 : ((k + j : Nat) : Int) = (k : Int) + (j : Int) := by omega
    rw [e1]
    clear e1
    obtain ⟨kj, hkj⟩ : ∃ kj, kj = (k : Int) + (j : Int) := ⟨_, rfl⟩
    rw [← hkj]
    have hI2 := hI_h.out.keeps hS2.1 fun x hx e => e.elim (sd_ne hI_h.out hD_h.out.box (by decide) x hx) (sd_apart hI_h.out hD_h.out.sl (by decide) x hx)
    have b3 := t_below_alloc w2 (.cells #[.int .i64 kj] tInt)
    have hI3 := hI2.below b3
    have hD3 := hD2.below b3
    have hrd := (is_one w2 kj).rd.rdc
    have hl1 : (ints [kj]).length = 1 * 1 := rfl
    have hS3 := (hS_h.out.trans hS2).trans (StD.of_below b3)
    clear hI2 hD2 hS2 b3; have hI3_h := lH hI3; have hD3_h := lH hD3; have hrd_h := lH hrd; have hl1_h := lH hl1; have hS3_h := lH hS3; have hkj_h := lH hkj; clear hI3 hD3 hrd hl1 hS3 hkj
    go_wp2_with (at_builtin; refine wpList_append_Sl _ rfl _ _ _ rfl 3 Tryz.underlying23 info_int rfl (by omega) rfl hI3_h.out rfl hl1_h.out hrd_h.out (ints_one _) (by unfold maxLen; omega) (by omega) ?_; intro A5 c5 w5 hs5 hA5 hk5)
    have hD5 := hD3_h.out.offB (by decide) hI3_h.out hk5 (fun x hx b hb hb' => by have := hlt0_h.out x hx b hb; have := hB_h.out b hb'; omega)
    have hS5 : StD d w A w5 A := ⟨hS3_h.out.1.free hk5 (fun b hb e => by have := hB_h.out b e; omega), fun b hb => .inl hb⟩
    have hB5 : ∀ b, b ∈ fpA A5 → w.heap.size ≤ b := fun b hb => by
     rcases hA5 b hb with e | e
     · exact hB_h.out b e
     · exact Nat.le_trans hS3_h.out.1.size e
    have hl5 : Sl w5 tInt 1 A5 (j + 1) c5 (ints ((List.range (j + 1)).map fun x : Nat => (k : Int) + (x : Int))) := by
     rw [List.range_succ, List.map_append]
     have : ints ((List.range j).map (fun x : Nat => (k : Int) + (x : Int)) ++ [j].map fun x : Nat => (k : Int) + (x : Int)) = ints ((List.range j).map fun x : Nat => (k : Int) + (x : Int)) ++ ints [kj] := by rw [hkj_h.out]; simp [ints]
     rw [this]
     exact hs5
    clear hs5 hA5 hk5; have hD5_h := lH hD5; have hS5_h := lH hS5; have hB5_h := lH hB5; have hl5_h := lH hl5; clear hD5 hS5 hB5 hl5
    go_wp2_with (fail)
    go_roundw
    case rel => exact ⟨j + 1, A5, c5, by omega, by go_num, rfl, hl5_h.out, hB5_h.out, hD5_h.out, hS5_h.out⟩
    case measure => simp [intOf]; omega
  · obtain rfl : j = 2 := by omega
    have hI' : IS wo B c [(k : Int), (k : Int) + 1] := by
     have e : ([(k : Int), (k : Int) + 1]) = (List.range 2).map fun x : Nat => (k : Int) + (x : Int) := by simp [List.range_succ]
     rw [e]
     exact hI
    have hI_h := lH hI; have hB_h := lH hB; have hD_h := lH hD; have hS_h := lH hS; have hI'_h := lH hI'; clear hI hB hD hS hI'
    go_wp2_with (fail)
    go_ret
    exact ⟨B, c, rfl, hI'_h.out, hB_h.out, hD_h.out, hS_h.out⟩
set_option maxRecDepth 100000 in
set_option maxHeartbeats 4000000 in
theorem drFan_0 {w : World} {d : Nat} {A : Option Addr} {cap k : Nat} {hs : List EHd} {va vb : Value} (x : Nat) (h : Dr tDr w d A cap k hs va vb) (hl : hs.length < 10000) :
  Calls Tryz.prog 16 #[.pointer (some ⟨d, 0, none⟩), .int .i64 (x : Int), .int .i64 0] w (FanR tDr d w A hs va vb (outTo 0 x k (hs.map egOf))) := by
 have b1 := t_below_alloc w (.cells #[.int .i64 (x : Int)] tInt)
 have hE := drEdge_any 4 0 (some ⟨w.heap.size, 0, none⟩) none 1 1 0 0 [(x : Int)] [] (h.below b1) (by omega) (is_one w x) (Sl.nil _ _ _) rfl rfl
 have h_h := lH h; have b1_h := lH b1; have hE_h := lH hE; clear h b1 hE
 go_enter Tryz.func16, Tryz.ntmps16
 go_wp2_with (fail)
 refine (hE_h.out).mono ?_
 rintro e w2 ⟨rfl, A2, c2, h2, s2⟩
 have h2_h := lH h2; have s2_h := lH s2; clear h2 s2
 go_wp2_with (fail)
 go_ret
 exact ⟨none, 0, 0, A2, c2, _, rfl, rfl, Sl.nil _ _ _, h2_h.out, by rw [List.map_append]; rfl, (StD.of_below b1_h.out).trans s2_h.out, StH.refl.snoc (fun b hb => by simp at hb; omega)⟩
set_option maxRecDepth 100000 in
set_option maxHeartbeats 4000000 in
theorem drFan_1 {w : World} {d : Nat} {A : Option Addr} {cap k : Nat} {hs : List EHd} {va vb : Value} (x : Nat) (h : Dr tDr w d A cap k hs va vb) :
  Calls Tryz.prog 16 #[.pointer (some ⟨d, 0, none⟩), .int .i64 (x : Int), .int .i64 1] w (FanR tDr d w A hs va vb (outTo 1 x k (hs.map egOf))) := by
 have b1 := t_below_alloc w (.cells #[.int .i64 (x : Int)] tInt)
 have h2 := h.below b1
 have h3 := is_one w (x : Int)
 have h_h := lH h; have b1_h := lH b1; have h2_h := lH h2; have h3_h := lH h3; clear h b1 h2 h3
 go_enter Tryz.func16, Tryz.ntmps16
 go_wp2_with (fail)
 go_ret
 exact ⟨_, 1, 1, A, cap, _, rfl, rfl, h3_h.out, h2_h.out, rfl, StD.of_below b1_h.out, StH.refl⟩
section
variable {P : Program} {l : List Oper} {Q : Exit → Act → World → Prop} {md : Region.Mode} {S : World → Prop}
theorem sdOrCallH (i j : Nat) {oi oj : Oper} {f : FuncId} {args : Array Value} {vj : Value} {wj : World} {fuel : Nat} {listed : Array Bool} {a : Act} {w : World} {li lj : List Oper} (hdi : l.drop i = oi :: li) (hdj : l.drop j = oj :: lj)
  (hr : Region.ready md l.toArray listed = [j, i]) (hwi : Region.wanted oi (yielded l.toArray a.tmps) = true) (hwj : Region.wanted oj (yielded l.toArray a.tmps) = true)
  (hrun : (execOp a.eval oi).run P w = .ok (.enter f args) w) (hrunj : (execOp a.eval oj).run P w = .ok (.value vj) wj)
  (h1 : Calls P f args w fun e w' => ∃ v, e = .returned v ∧ S w' ∧ wpAnyH P md l.toArray Q S fuel (listed.setIfInBounds i true) (a.put oi.dst v) w')
  (hSj : S wj) (h2 : wpAnyH P md l.toArray Q S fuel (listed.setIfInBounds j true) (a.put oj.dst vj) wj) : wpAnyH P md l.toArray Q S (fuel + 1) listed a w := by
 refine wpAnyH_all hr (by simp) fun k hk => ?_
 have hk' : k = j ∨ k = i := by simpa using hk
 rcases hk' with rfl | rfl
 · unfold wpOp
   simp only [at_drop hdj, hwj, if_true]
   refine .inl ?_
   unfold Oper.wp
   rw [hrunj]
   exact ⟨hSj, h2⟩
 · unfold wpOp
   simp only [at_drop hdi, hwi, if_true]
   refine .inl ?_
   unfold Oper.wp
   rw [hrun]
   exact h1.mono fun e w' ⟨v, he, a1, a2⟩ => by subst he; exact ⟨a1, a2⟩
end
theorem sd_wrap {x : Int} (h : 0 ≤ x) (h' : x ≤ 100000) : IntKind.i64.wrap x = x := by simp [IntKind.wrap, IntKind.bits, IntKind.signed]; omega
set_option maxRecDepth 100000 in
set_option maxHeartbeats 4000000 in
theorem drFan_step {d : Nat} {va vb : Value} (n : Nat) (N : Int) (hN : N = ((n + 2 : Nat) : Int)) (hn : n ≤ 1000)
  (ih : ∀ (w : World) (A : Option Addr) (cap k : Nat) (hs : List EHd) (x : Nat) (X N : Int), X = (x : Int) → N = ((n + 1 : Nat) : Int) → Dr tDr w d A cap k hs va vb → k + 2 * (n + 1) < 10000 → hs.length + (n + 1) < 10000 → Calls Tryz.prog 16 #[.pointer (some ⟨d, 0, none⟩), .int .i64 X, .int .i64 N] w (FanR tDr d w A hs va vb (outTo (n + 1) x k (hs.map egOf))))
  {w : World} {A : Option Addr} {cap k : Nat} {hs : List EHd} (x : Nat) (h : Dr tDr w d A cap k hs va vb) (hk : k + 2 * (n + 2) < 10000) (hl : hs.length + (n + 2) < 10000) :
  Calls Tryz.prog 16 #[.pointer (some ⟨d, 0, none⟩), .int .i64 (x : Int), .int .i64 N] w (FanR tDr d w A hs va vb (outTo (n + 2) x k (hs.map egOf))) := by
 have hb0 : (N == 0) = false := beq_eq_false_iff_ne.2 (by omega)
 have hb1 : (N == 1) = false := beq_eq_false_iff_ne.2 (by omega)
 have hlo : 2 ≤ N := by omega
 have hhi : N ≤ 1002 := by omega
 have hW1 := drWires_any h (by omega)
 obtain ⟨R, hR⟩ : ∃ R, R = outTo (n + 2) x k (hs.map egOf) := ⟨_, rfl⟩
 rw [← hR]
 have hwr : IntKind.i64.wrap (N - 1) = N - 1 := sd_wrap (by omega) (by omega)
 have hN_h := lH hN; have ih_h := lH ih; have h_h := lH h; have hW1_h := lH hW1; have hl_h := lH hl; have hR_h := lH hR; have hwr_h := lH hwr; clear hN ih h hW1 hl hR hwr
 go_enter Tryz.func16, Tryz.ntmps16
 go_wp2_with (fail)
 refine (hW1_h.out).mono ?_
 rintro e w2 ⟨B, cB, rfl, hI2, hB2, h2, s2⟩
 have b3 := t_below_alloc w2 (.cells #[.int .i64 (x : Int)] tInt)
 have hE := drEdge_any 3 0 (some ⟨w2.heap.size, 0, none⟩) B 1 1 2 cB [(x : Int)] [(k : Int), (k : Int) + 1] (h2.below b3) (by have := hl_h.out; omega) (is_one w2 x) (hI2.below b3) rfl rfl
 have s24 := s2.trans (StD.of_below b3)
 have hz2 := s2.1.size
 have hI3 := hI2.below b3
 have hD3 := h2.below b3
 clear s2 h2 b3 hI2; have hE_h := lH hE; have s24_h := lH s24; have hz2_h := lH hz2; have hB2_h := lH hB2; have hI3_h := lH hI3; have hD3_h := lH hD3; clear hE s24 hz2 hB2 hI3 hD3
 go_wp2_with (fail)
 refine (hE_h.out).mono ?_
 rintro e w3 ⟨rfl, A3, c3, h3, s3⟩
 have s13 := s24_h.out.trans s3
 have hI4 := hD3_h.out.isk (by decide) hI3_h.out s3
 obtain ⟨hs3, hhs3⟩ : ∃ l, l = hs ++ [((3, 0, (some ⟨w2.heap.size, 0, none⟩, 1, [(x : Int)]), (B, cB, [(k : Int), (k : Int) + 1])) : EHd)] := ⟨_, rfl⟩
 rw [← hhs3] at h3
 have he3 : hs3.map egOf = hs.map egOf ++ [(3, 0, [(x : Int)], [(k : Int), (k : Int) + 1])] := by rw [hhs3, List.map_append]; rfl
 have hI := fun (W : World) (hD : Dr tDr W d A3 c3 (k + 2) hs3 va vb) => ih_h.out W A3 c3 (k + 2) hs3 (k + 1) ((k : Int) + 1) (IntKind.i64.wrap (N - 1)) (by omega) (by rw [hwr_h.out]; have := hN_h.out; omega) hD (by omega) (by rw [hhs3, List.length_append]; have := hl_h.out; simp only [List.length_cons, List.length_nil]; omega)
 simp only [he3] at hI
 have hR2 := hR_h.out
 obtain ⟨r, hr⟩ : ∃ r, r = outTo (n + 1) (k + 1) (k + 2) (hs.map egOf ++ [(3, 0, [(x : Int)], [(k : Int), (k : Int) + 1])]) := ⟨_, rfl⟩
 have hrl : r.1.length = n + 1 := by rw [hr, outTo_len]
 simp only [← hr] at hI
 have hR3 : R = ((k : Int) :: r.1, r.2) := by rw [hr]; exact hR2
 have t3 : StH w hs hs3 := by
  rw [hhs3]
  have := hz2_h.out
  exact StH.refl.snoc fun b hb => by
   rcases hb with hb | hb
   · simp at hb; omega
   · exact hB2_h.out b hb
 obtain ⟨g, o, rfl, y1, y2⟩ := two_cells hI4
 clear s3 hR2 hr he3 hhs3 y1 y2; have h3_h := lH h3; have s13_h := lH s13; have hI_h := lH hI; have hR3_h := lH hR3; have t3_h := lH t3; have hrl_h := lH hrl; have hI4_h := lH hI4; clear h3 s13 hI hR3 t3 hrl hI4
 go_wp2_with (fail)
 refine beginH (fun w' => w'.cell? ⟨g, o, none⟩ = some (.int .i64 (k : Int)) ∧ w'.cell? ⟨g, o + 1, none⟩ = some (.int .i64 ((k : Int) + 1))) (by kernel_rfl) ?_
 have hbd : Below w3.heap.size w3 w3.drew := below_drewN (Below.refl _ _) 1
 generalize w3.drew = W1 at hbd ⊢
 have hD1 := h3_h.out.below hbd
 have hIx := hI4_h.out.below hbd
 have hY : ∀ {w' : World}, IS w' (some ⟨g, o, none⟩) cB [(k : Int), (k : Int) + 1] → w'.cell? ⟨g, o, none⟩ = some (.int .i64 (k : Int)) ∧ w'.cell? ⟨g, o + 1, none⟩ = some (.int .i64 ((k : Int) + 1)) := fun {w'} hh => by
  obtain ⟨g', o', e, q1, q2⟩ := two_cells hh
  obtain ⟨rfl, rfl⟩ : g = g' ∧ o = o' := by have := Option.some.inj e; injection this with e1 e2; exact ⟨e1, e2⟩
  exact ⟨q1, q2⟩
 have hS1 := hY hIx
 have s1d : StD d w A W1 A3 := s13_h.out.trans (StD.of_below hbd)
 have hz3 := s1d.1.size
 clear hbd; have hD1_h := lH hD1; have hIx_h := lH hIx; have hS1_h := lH hS1; have s1d_h := lH s1d; have hz3_h := lH hz3; clear hD1 hIx hS1 s1d hz3
 refine tkH 0 ?_ rfl hS1_h.out (fun W' hW' => ?_) ?_; rotate_left; · (have y1 := hW'.1; have y2 := hW'.2; clear hW'; go_simp; first | done | with_reducible rfl)
 simp only [Act.put, nS]
 refine tkH 1 ?_ rfl hS1_h.out (fun W' hW' => ?_) ?_; rotate_left; · (have y1 := hW'.1; have y2 := hW'.2; clear hW'; go_simp; first | done | with_reducible rfl)
 simp only [Act.put, nS]
 refine tkH 2 ?_ rfl hS1_h.out (fun W' hW' => ?_) ?_; rotate_left; · (have y1 := hW'.1; have y2 := hW'.2; clear hW'; go_simp; first | done | with_reducible rfl)
 simp only [Act.put, nS]
 refine tkH 4 ?_ rfl hS1_h.out (fun W' hW' => ?_) ?_; rotate_left; · (have y1 := hW'.1; have y2 := hW'.2; clear hW'; go_simp; first | done | with_reducible rfl)
 simp only [Act.put, nS]
 refine tkH 5 ?_ rfl hS1_h.out (fun W' hW' => ?_) ?_; rotate_left; · (have y1 := hW'.1; have y2 := hW'.2; clear hW'; go_simp; first | done | with_reducible rfl)
 simp only [Act.put, nS]
 refine tkH 6 ?_ rfl hS1_h.out (fun W' hW' => ?_) ?_; rotate_left; · (have y1 := hW'.1; have y2 := hW'.2; clear hW'; go_simp; first | done | with_reducible rfl)
 simp only [Act.put, nS]
 refine tkH 7 ?_ rfl hS1_h.out (fun W' hW' => ?_) ?_; rotate_left; · (have y1 := hW'.1; have y2 := hW'.2; clear hW'; go_simp; first | done | with_reducible rfl)
 simp only [Act.put, nS]
 refine tkH 8 ?_ rfl hS1_h.out (fun W' hW' => ?_) ?_; rotate_left; · (have y1 := hW'.1; have y2 := hW'.2; clear hW'; go_simp; first | done | with_reducible rfl)
 simp only [Act.put, nS]
 refine tkH 9 ?_ rfl hS1_h.out (fun W' hW' => ?_) ?_; rotate_left; · (have y1 := hW'.1; have y2 := hW'.2; clear hW'; go_simp; first | done | with_reducible rfl)
 simp only [Act.put, nS]
 refine sdOrCallH 10 3 (f := ?f1) (args := ?args1) (vj := ?vj1) (wj := ?wj1) rfl rfl (by kernel_rfl) (by rfl) (by rfl) ?hrun1 ?hrunj1 ?h11 ?hSj1 ?h21
 case hrun1 => (go_simp; first | done | with_reducible rfl | (constructor <;> with_reducible rfl))
 case hrunj1 => (go_simp; first | done | with_reducible rfl | (constructor <;> with_reducible rfl))
 case hSj1 => exact (hY (hIx_h.out.below (t_below_alloc _ _)))
 case h11 =>
  refine (hI_h.out W1 hD1_h.out).mono ?_
  rintro e w4 ⟨B4, c4, n4, A4, k4, hs4, rfl, hn4, hI4', h4, e4, s4, t4⟩
  have hIx4 := hD1_h.out.isk (by decide) hIx_h.out s4
  refine ⟨_, rfl, hY hIx4, ?_⟩
  simp only [Act.put, nS]
  have b5 := t_below_alloc w4 (.cells #[.int .i64 (k : Int)] tInt)
  have hone := is_one w4 (k : Int)
  have hrd4 := (hI4'.below b5).rd.rdc
  have hl4 : (ints r.1).length = n4 * 1 := by rw [ints_length, hn4, Nat.mul_one]
  have hn4b : n4 ≤ 1001 := by have := hrl_h.out; omega
  have hIx5 := hIx4.below b5
  have h5 := h4.below b5
  have s5 := (s1d_h.out.trans s4).trans (StD.of_below b5)
  have hz5 := s4.1.size
  have hg5 : g ≠ w4.heap.size := fun e => by have := hIx4.lt g (by simp); omega
  have hlt4 := h4.edlt
  have hA4 : ∀ b, b ∈ fpA A4 → b ≠ w4.heap.size := fun b hb e => by have := h4.sl.lt b hb; omega
  have hd4 : d ≠ w4.heap.size := fun e => by have := h4.lt; omega
  clear hIx4 h4 b5 s4; have hone_h := lH hone; have hrd4_h := lH hrd4; have hl4_h := lH hl4; have hn4_h := lH hn4; have hI4'_h := lH hI4'; have e4_h := lH e4; have s5_h := lH s5; have t4_h := lH t4; have hIx5_h := lH hIx5; have h5_h := lH h5; have hz5_h := lH hz5; have hg5_h := lH hg5; have hlt4_h := lH hlt4; have hA4_h := lH hA4; have hd4_h := lH hd4; clear hone hrd4 hl4 hn4 hI4' e4 s5 t4 hIx5 h5 hz5 hg5 hlt4 hA4 hd4
  refine oneH 3 rfl (by kernel_rfl) (by rfl) (fun K hK => ?_)
  go_simp
  refine hK _ _ (hY hIx5_h.out) ?_
  clear hK K
  refine appH 11 rfl (by kernel_rfl) (by rfl) _ _ _ rfl tInt Tryz.underlying23 info_int rfl (by omega) rfl hone_h.out rfl hl4_h.out hrd4_h.out (ints_one r.1) (by unfold maxLen; omega) (by omega) ?_
  intro A5 c5 w5 hsA5 hA5 hkA5
  have hk5' : Keeps (· = w4.heap.size) (w4.alloc (.cells #[.int .i64 (k : Int)] tInt)) w5 := hkA5.mono fun b _ e => by simpa using e
  have hIx6 := hIx5_h.out.keeps hk5' (fun b hb e => by simp at hb; exact hg5_h.out (hb.symm.trans e))
  have h6 : Dr tDr w5 d A4 k4 r.2.1 hs4 va vb := ⟨t_box_keeps h5_h.out.box hk5' hd4_h.out, h5_h.out.sl.keeps hk5' hA4_h.out, fun y hy => ⟨(h5_h.out.eds y hy).1.keeps hk5' fun b hb e => by have := hlt4_h.out y hy b (.inl hb); omega, (h5_h.out.eds y hy).2.keeps hk5' fun b hb e => by have := hlt4_h.out y hy b (.inr hb); omega⟩⟩
  have s6 : StD d w A w5 A4 := ⟨s5_h.out.1.free hk5' (fun b hb e => by have := hz5_h.out; have := hz3_h.out; omega), s5_h.out.2⟩
  have hI6 : IS w5 A5 c5 ((k : Int) :: r.1) := is_app hsA5 hn4_h.out
  refine ⟨hY hIx6, ?_⟩
  have hS6 := hY hIx6
  simp only [Act.put, nS]
  clear hsA5 hA5 hkA5 hk5' hIx6; have h6_h := lH h6; have s6_h := lH s6; have hI6_h := lH hI6; have hS6_h := lH hS6; clear h6 s6 hI6 hS6
  refine tkH 12 ?_ rfl hS6_h.out (fun W' hW' => ?_) ?_; rotate_left; · (skip; clear hW'; go_simp; first | done | with_reducible rfl)
  simp only [Act.put, nS]
  refine doneH (by kernel_rfl) ?_
  go_wp2_with (fail)
  go_ret
  rw [hR3_h.out]
  exact ⟨A5, c5, 1 + n4, A4, k4, hs4, rfl, by rw [List.length_cons, hn4_h.out, Nat.add_comm], hI6_h.out, h6_h.out, e4_h.out, s6_h.out, t3_h.out.trans hz3_h.out t4_h.out⟩
 case h21 =>
  have b5 := t_below_alloc W1 (.cells #[.int .i64 (k : Int)] tInt)
  have hone := is_one W1 (k : Int)
  have hD5 := hD1_h.out.below b5
  have hIx5 := hIx_h.out.below b5
  have hlt1 := hD1_h.out.edlt
  have hd1 := hD1_h.out.lt
  have hgl := hIx_h.out.lt g (by simp)
  simp only [Act.put, nS]
  refine' callH 10 (f := _) (args := _) rfl (by kernel_rfl) (by rfl) ?_ ?_; rotate_left 2; · (go_simp; first | done | with_reducible rfl | (constructor <;> with_reducible rfl))
  refine (hI_h.out _ hD5).mono ?_
  rintro e w4 ⟨B4, c4, n4, A4, k4, hs4, rfl, hn4, hI4', h4, e4, s4, t4⟩
  have hone4 := hD5.isk (by decide) hone s4
  have hIx6 := hD5.isk (by decide) hIx5 s4
  have hrd4 := hI4'.rd.rdc
  have hl4 : (ints r.1).length = n4 * 1 := by rw [ints_length, hn4, Nat.mul_one]
  have hn4b : n4 ≤ 1001 := by have := hrl_h.out; omega
  have s5 := (s1d_h.out.trans (StD.of_below b5)).trans s4
  refine ⟨_, rfl, hY hIx6, ?_⟩
  simp only [Act.put, nS]
  have hW1s : (W1.alloc (.cells #[.int .i64 (k : Int)] tInt)).heap.size = W1.heap.size + 1 := World.size_alloc _ _
  clear hone hIx5 hD5 b5 s4; have hone4_h := lH hone4; have hrd4_h := lH hrd4; have hl4_h := lH hl4; have hn4_h := lH hn4; have hI4'_h := lH hI4'; have e4_h := lH e4; have s5_h := lH s5; have t4_h := lH t4; have h4_h := lH h4; have hIx6_h := lH hIx6; have hlt1_h := lH hlt1; have hd1_h := lH hd1; have hgl_h := lH hgl; have hW1s_h := lH hW1s; clear hone4 hrd4 hl4 hn4 hI4' e4 s5 t4 h4 hIx6 hlt1 hd1 hgl hW1s
  refine appH 11 rfl (by kernel_rfl) (by rfl) _ _ _ rfl tInt Tryz.underlying23 info_int rfl (by omega) rfl hone4_h.out rfl hl4_h.out hrd4_h.out (ints_one r.1) (by unfold maxLen; omega) (by omega) ?_
  intro A5 c5 w5 hsA5 hA5 hkA5
  have hk5' : Keeps (· = W1.heap.size) w4 w5 := hkA5.mono fun b _ e => by simpa using e
  have hIx7 := hIx6_h.out.keeps hk5' (fun b hb e => by simp at hb; have := hgl_h.out; omega)
  have h6 := h4_h.out.off hk5' (by have := hd1_h.out; omega) (fun b hb e => sd_apart hone4_h.out h4_h.out.sl (by decide) W1.heap.size (by simp) (e ▸ hb)) hlt1_h.out t4_h.out (by have := hW1s_h.out; omega)
  have s6 : StD d w A w5 A4 := ⟨s5_h.out.1.free hk5' (fun b hb e => by have := hz3_h.out; omega), s5_h.out.2⟩
  have hI6 : IS w5 A5 c5 ((k : Int) :: r.1) := is_app hsA5 hn4_h.out
  refine ⟨hY hIx7, ?_⟩
  have hS6 := hY hIx7
  simp only [Act.put, nS]
  clear hsA5 hA5 hkA5 hk5' hIx7; have h6_h := lH h6; have s6_h := lH s6; have hI6_h := lH hI6; have hS6_h := lH hS6; clear h6 s6 hI6 hS6
  refine tkH 12 ?_ rfl hS6_h.out (fun W' hW' => ?_) ?_; rotate_left; · (skip; clear hW'; go_simp; first | done | with_reducible rfl)
  simp only [Act.put, nS]
  refine doneH (by kernel_rfl) ?_
  go_wp2_with (fail)
  go_ret
  rw [hR3_h.out]
  exact ⟨A5, c5, 1 + n4, A4, k4, hs4, rfl, by rw [List.length_cons, hn4_h.out, Nat.add_comm], hI6_h.out, h6_h.out, e4_h.out, s6_h.out, t3_h.out.trans (by have := hz3_h.out; have := hW1s_h.out; omega) t4_h.out⟩
theorem drFan_any {d : Nat} {va vb : Value} : ∀ (n : Nat), n ≤ 1000 → ∀ (w : World) (A : Option Addr) (cap k : Nat) (hs : List EHd) (x : Nat) (X N : Int), X = (x : Int) → N = (n : Int) → Dr tDr w d A cap k hs va vb → k + 2 * n < 10000 → hs.length + n < 10000 →
  Calls Tryz.prog 16 #[.pointer (some ⟨d, 0, none⟩), .int .i64 X, .int .i64 N] w (FanR tDr d w A hs va vb (outTo n x k (hs.map egOf)))
 | 0, _, _, _, _, _, _, x, _, _, rfl, rfl, h, _, hl => drFan_0 x h (by omega)
 | 1, _, _, _, _, _, _, x, _, _, rfl, rfl, h, _, _ => drFan_1 x h
 | n + 2, hn, _, _, _, _, _, x, _, _, rfl, hN, h, hk, hl => drFan_step n _ hN (by omega) (drFan_any (n + 1) (by omega)) x h hk hl
def InR (ty : TypeId) (d : Nat) (w : World) (A : Option Addr) (k : Nat) (va vb : Value) (r : List Int × Nat × List Eg) (e : Ending) (w' : World) : Prop :=
 ∃ (B : Option Addr) (c nB : Nat) (A' : Option Addr) (cap' : Nat) (hs' : List EHd), e = .returned (.tuple #[.slice B nB c, .int .i64 (k : Int)]) ∧ r.1.length = nB ∧ IS w' B c r.1 ∧ Dr ty w' d A' cap' r.2.1 hs' va vb ∧ hs'.map egOf = r.2.2 ∧ StD d w A w' A'
set_option maxRecDepth 100000 in
set_option maxHeartbeats 4000000 in
theorem drIn_0 {w : World} {d : Nat} {A : Option Addr} {cap k : Nat} {hs : List EHd} {va vb : Value} (h : Dr tDr w d A cap k hs va vb) (hk : k < 10000) (hl : hs.length < 10000) :
  Calls Tryz.prog 15 #[.pointer (some ⟨d, 0, none⟩), .int .i64 0] w (InR tDr d w A k va vb (inTo 0 k (hs.map egOf))) := by
 have hW := drWire_any h (by omega)
 have h_h := lH h; have hW_h := lH hW; have hl_h := lH hl; clear h hW hl
 go_enter Tryz.func15, Tryz.ntmps15
 go_wp2_with (fail)
 refine (hW_h.out).mono ?_
 rintro e w1 ⟨rfl, h1, s1⟩
 have b1 := t_below_alloc w1 (.cells #[.int .i64 (k : Int)] tInt)
 have hE := drEdge_any 10 0 none (some ⟨w1.heap.size, 0, none⟩) 0 0 1 1 [] [(k : Int)] (h1.below b1) (by have := hl_h.out; omega) (Sl.nil _ _ _) (is_one w1 k) rfl rfl
 have s2 := s1.trans (StD.of_below b1)
 clear h1 s1 b1; have hE_h := lH hE; have s2_h := lH s2; clear hE s2
 go_wp2_with (fail)
 refine (hE_h.out).mono ?_
 rintro e w2 ⟨rfl, A2, c2, h2, s3⟩
 have s23 := s2_h.out.trans s3
 clear s3; have h2_h := lH h2; have s23_h := lH s23; clear h2 s23
 go_wp2_with (fail)
 go_ret2
 exact ⟨none, 0, 0, A2, c2, _, rfl, rfl, Sl.nil _ _ _, h2_h.out, by rw [List.map_append]; rfl, s23_h.out⟩
set_option maxRecDepth 100000 in
set_option maxHeartbeats 4000000 in
theorem drIn_1 {w : World} {d : Nat} {A : Option Addr} {cap k : Nat} {hs : List EHd} {va vb : Value} (h : Dr tDr w d A cap k hs va vb) (hk : k < 10000) :
  Calls Tryz.prog 15 #[.pointer (some ⟨d, 0, none⟩), .int .i64 1] w (InR tDr d w A k va vb (inTo 1 k (hs.map egOf))) := by
 have hW := drWire_any h (by omega)
 have h_h := lH h; have hW_h := lH hW; clear h hW
 go_enter Tryz.func15, Tryz.ntmps15
 go_wp2_with (fail)
 refine (hW_h.out).mono ?_
 rintro e w1 ⟨rfl, h1, s1⟩
 have b1 := t_below_alloc w1 (.cells #[.int .i64 (k : Int)] tInt)
 have h2 := h1.below b1
 have s2 := s1.trans (StD.of_below b1)
 have h3 := is_one w1 (k : Int)
 clear h1 s1 b1; have h2_h := lH h2; have s2_h := lH s2; have h3_h := lH h3; clear h2 s2 h3
 go_wp2_with (fail)
 go_ret2
 exact ⟨_, 1, 1, A, cap, _, rfl, rfl, h3_h.out, h2_h.out, rfl, s2_h.out⟩
set_option maxRecDepth 100000 in
set_option maxHeartbeats 4000000 in
theorem drIn_step {d : Nat} {va vb : Value} (n : Nat) (N : Int) (hN : N = ((n + 2 : Nat) : Int)) (hn : n ≤ 1000)
  (ih : ∀ (w : World) (A : Option Addr) (cap k : Nat) (hs : List EHd) (N : Int), N = ((n + 1 : Nat) : Int) → Dr tDr w d A cap k hs va vb → k + 2 * (n + 1) < 10000 → hs.length + (n + 1) < 8000 → Calls Tryz.prog 15 #[.pointer (some ⟨d, 0, none⟩), .int .i64 N] w (InR tDr d w A k va vb (inTo (n + 1) k (hs.map egOf))))
  {w : World} {A : Option Addr} {cap k : Nat} {hs : List EHd} (h : Dr tDr w d A cap k hs va vb) (hk : k + 2 * (n + 2) < 10000) (hl : hs.length + (n + 2) < 8000) :
  Calls Tryz.prog 15 #[.pointer (some ⟨d, 0, none⟩), .int .i64 N] w (InR tDr d w A k va vb (inTo (n + 2) k (hs.map egOf))) := by
 have hb0 : (N == 0) = false := beq_eq_false_iff_ne.2 (by omega)
 have hb1 : (N == 1) = false := beq_eq_false_iff_ne.2 (by omega)
 have hlo : 2 ≤ N := by omega
 have hhi : N ≤ 1002 := by omega
 have hW1 := drWire_any h (by omega)
 obtain ⟨R, hR⟩ : ∃ R, R = inTo (n + 2) k (hs.map egOf) := ⟨_, rfl⟩
 rw [← hR]
 have hN_h := lH hN; have ih_h := lH ih; have h_h := lH h; have hW1_h := lH hW1; have hl_h := lH hl; have hR_h := lH hR; clear hN ih h hW1 hl hR
 go_enter Tryz.func15, Tryz.ntmps15
 go_wp2_with (fail)
 refine (hW1_h.out).mono ?_
 rintro e w1 ⟨rfl, h1, s1⟩
 have hW2 := drWire_any h1 (by omega)
 have h1_h := lH h1; have s1_h := lH s1; have hW2_h := lH hW2; clear h1 s1 hW2
 go_wp2_with (fail)
 refine (hW2_h.out).mono ?_
 rintro e w2 ⟨rfl, h2, s2⟩
 have s12 := s1_h.out.trans s2
 have hI := ih_h.out w2 A cap (k + 1 + 1) hs (N - 1) (by have := hN_h.out; omega) h2 (by omega) (by have := hl_h.out; omega)
 obtain ⟨r, hr⟩ : ∃ r, r = inTo (n + 1) (k + 1 + 1) (hs.map egOf) := ⟨_, rfl⟩
 have hR2 := hR_h.out
 have hR3 : R = (((k : Int) + 1) :: r.1, r.2.1, r.2.2 ++ [(9, 0, [(k : Int) + 1, (k : Int) + 2], [(k : Int)])]) := by rw [hr]; exact hR2
 have hrl := inTo_len (n + 1) (k + 1 + 1) (hs.map egOf)
 rw [← hr, List.length_map] at hrl
 rw [← hr] at hI
 have e1 : ((k + 1 : Nat) : Int) = (k : Int) + 1 := by omega
 rw [e1]
 clear e1 hR2 hr s2; have h2_h := lH h2; have s12_h := lH s12; have hI_h := lH hI; have hR3_h := lH hR3; have hrl_h := lH hrl; clear h2 s12 hI hR3 hrl
 go_wp2_with (fail)
 refine (hI_h.out).mono ?_
 rintro e w3 ⟨B3, c3, n3, A3, k3, hs3, rfl, hn3, hI3, h3, e3, s3⟩
 have e2 : ((k + 1 + 1 : Nat) : Int) = (k : Int) + 2 := by omega
 rw [e2]
 clear e2
 have b4 := t_below_alloc w3 (.cells #[.int .i64 ((k : Int) + 1), .int .i64 ((k : Int) + 2)] tInt)
 have b5 := t_below_alloc (w3.alloc (.cells #[.int .i64 ((k : Int) + 1), .int .i64 ((k : Int) + 2)] tInt)) (.cells #[.int .i64 (k : Int)] tInt)
 have hE := drEdge_any 9 0 (some ⟨w3.heap.size, 0, none⟩) (some ⟨w3.heap.size + 1, 0, none⟩) 2 2 1 1 [(k : Int) + 1, (k : Int) + 2] [(k : Int)] ((h3.below b4).below b5) (by have := congrArg List.length e3; rw [List.length_map] at this; have := hrl_h.out.2.2; have := hl_h.out; omega) ((is_two w3 ((k : Int) + 1) ((k : Int) + 2)).below b5) (by have := is_one (w3.alloc (.cells #[.int .i64 ((k : Int) + 1), .int .i64 ((k : Int) + 2)] tInt)) (k : Int); rw [World.size_alloc] at this; exact this) rfl rfl
 have s35 := (s12_h.out.trans s3).trans ((StD.of_below b4).trans (StD.of_below b5))
 have hI5 := (hI3.below b4).below b5
 have h5 := (h3.below b4).below b5
 have hn3b : n3 ≤ 1001 := by have := hrl_h.out.1; omega
 have hl3 : (ints r.1).length = n3 * 1 := by rw [ints_length, hn3, Nat.mul_one]
 clear s3 b4 b5 hI3 h3; have hE_h := lH hE; have s35_h := lH s35; have hI5_h := lH hI5; have h5_h := lH h5; have hl3_h := lH hl3; have hn3_h := lH hn3; have e3_h := lH e3; clear hE s35 hI5 h5 hl3 hn3 e3
 go_wp2_with (fail)
 refine (hE_h.out).mono ?_
 rintro e w6 ⟨rfl, A6, c6, h6, s6⟩
 have hI6 := h5_h.out.isk (by decide) hI5_h.out s6
 have s16 := s35_h.out.trans s6
 have b7 := t_below_alloc w6 (.cells #[.int .i64 ((k : Int) + 1)] tInt)
 have hone := is_one w6 ((k : Int) + 1)
 have hrd7 := (hI6.below b7).rd.rdc
 have h7 := h6.below b7
 have s17 := s16.trans (StD.of_below b7)
 have hlt6 := h6.edlt
 have hA6 : ∀ b, b ∈ fpA A6 → b ≠ w6.heap.size := fun b hb e => by have := h6.sl.lt b hb; omega
 have hd6 : d ≠ w6.heap.size := fun e => by have := h6.lt; omega
 have hz6 := s16.1.size
 clear s6 hI6 s16 b7 h6; have hone_h := lH hone; have hrd7_h := lH hrd7; have h7_h := lH h7; have s17_h := lH s17; have hlt6_h := lH hlt6; have hA6_h := lH hA6; have hd6_h := lH hd6; have hz6_h := lH hz6; clear hone hrd7 h7 s17 hlt6 hA6 hd6 hz6
 go_wp2_with (at_builtin; refine wpList_append_Sl _ rfl _ _ _ rfl 3 Tryz.underlying23 info_int rfl (by omega) rfl hone_h.out rfl hl3_h.out hrd7_h.out (ints_one _) (by unfold maxLen; omega) (by omega) ?_; intro A8 c8 w8 hs8 hA8 hk8)
 go_ret2
 have hk8' : Keeps (· = w6.heap.size) (w6.alloc (.cells #[.int .i64 ((k : Int) + 1)] tInt)) w8 := hk8.mono fun b _ e => by simpa using e
 have h8 : Dr tDr w8 d A6 c6 r.2.1 _ va vb := ⟨t_box_keeps h7_h.out.box hk8' hd6_h.out, h7_h.out.sl.keeps hk8' hA6_h.out, fun y hy => ⟨(h7_h.out.eds y hy).1.keeps hk8' fun b hb e => by have := hlt6_h.out y hy b (.inl hb); omega, (h7_h.out.eds y hy).2.keeps hk8' fun b hb e => by have := hlt6_h.out y hy b (.inr hb); omega⟩⟩
 have s8 : StD d w A w8 A6 := ⟨s17_h.out.1.free hk8' (fun b hb e => by have := hz6_h.out; omega), s17_h.out.2⟩
 rw [hR3_h.out]
 exact ⟨A8, c8, 1 + n3, A6, c6, _, rfl, by rw [List.length_cons, hn3_h.out, Nat.add_comm], is_app hs8 hn3_h.out, h8, by rw [List.map_append, e3_h.out]; rfl, s8⟩
theorem drIn_any {d : Nat} {va vb : Value} : ∀ (n : Nat), n ≤ 1000 → ∀ (w : World) (A : Option Addr) (cap k : Nat) (hs : List EHd) (N : Int), N = (n : Int) → Dr tDr w d A cap k hs va vb → k + 2 * n < 10000 → hs.length + n < 8000 →
  Calls Tryz.prog 15 #[.pointer (some ⟨d, 0, none⟩), .int .i64 N] w (InR tDr d w A k va vb (inTo n k (hs.map egOf)))
 | 0, _, _, _, _, _, _, _, rfl, h, hk, hl => drIn_0 h (by omega) (by omega)
 | 1, _, _, _, _, _, _, _, rfl, h, hk, _ => drIn_1 h (by omega)
 | n + 2, hn, _, _, _, _, _, _, hN, h, hk, hl => drIn_step n _ hN (by omega) (drIn_any (n + 1) (by omega)) h hk hl
theorem Dr.rdg {ty : TypeId} {w : World} {d : Nat} {A Ai Bo : Option Addr} {cap k ni ci no co : Nat} {hs : List EHd} {li lo : List Int} (h : Dr ty w d A cap k hs (.slice Ai ni ci) (.slice Bo no co)) (hI : IS w Ai ci li) (hO : IS w Bo co lo) (ei : li.length = ni) (eo : lo.length = no) :
  RdGr w (.agg #[.int .i64 (k : Int), .slice A hs.length cap, .slice Ai ni ci, .slice Bo no co]) ((k : Int), hs.map egOf, li, lo) :=
 ⟨A, cap, hs, (Ai, ci, li), (Bo, co, lo), by rw [← ei, ← eo], rfl, rfl, rfl, ⟨Sl.rdc h.sl, fun x hx => ⟨(h.eds x hx).1.rd, (h.eds x hx).2.rd⟩⟩, hI.rd, hO.rd⟩
theorem Dr.set3 {ty : TypeId} {w : World} {d : Nat} {A : Option Addr} {cap k : Nat} {hs : List EHd} {va vb : Value} (h : Dr ty w d A cap k hs va vb) (hty : tInt ≠ ty) (hte : tEd ≠ ty) (v : Value) :
  Dr ty (w.setCell ⟨d, 3, none⟩ v) d A cap k hs va v ∧ StD d w A (w.setCell ⟨d, 3, none⟩ v) A := by
 obtain ⟨s1, s2⟩ := box_set h.box 3 v
 have hS : StD d w A (w.setCell ⟨d, 3, none⟩ v) A := ⟨s2.mono fun _ _ e => .inl e, fun _ h => .inl h⟩
 exact ⟨⟨s1, h.sl.keeps s2 (sd_ne h.sl h.box hte), fun x hx => ⟨h.isk hty (h.eds x hx).1 hS, h.isk hty (h.eds x hx).2 hS⟩⟩, hS⟩
set_option maxRecDepth 100000 in
set_option maxHeartbeats 4000000 in
theorem mkDone_any {w : World} {d : Nat} {A Ai Bo : Option Addr} {cap k ni ci no co : Nat} {hs : List EHd} {li lo : List Int} (h : Dr tMk w d A cap k hs (.slice Ai ni ci) (.slice Bo no co)) (hI : IS w Ai ci li) (hO : IS w Bo co lo) (ei : li.length = ni) (eo : lo.length = no)
  (ok : OkG ((k : Int), hs.map egOf, li, lo)) (hm : monoB ((k : Int), hs.map egOf, li, lo) = true) :
  Calls Tryz.prog 13 #[.pointer (some ⟨d, 0, none⟩)] w fun e w' => ∃ v' fp, e = .returned (.tuple #[v', .bool true]) ∧ OwGr w' v' (cgG ((k : Int), hs.map egOf, li, lo)) fp ∧ FreshL w.heap.size fp ∧ Below w.heap.size w w' := by
 obtain ⟨n, hMo⟩ := mono_of hm
 have hv := mono_gr hm
 have hr := h.rdg hI hO ei eo
 have hbx := h.box
 obtain ⟨nh, hnh⟩ : ∃ nh, hs.length = nh := ⟨_, rfl⟩
 rw [hnh] at hr hbx
 obtain ⟨g, hg⟩ : ∃ g : Gr, ((k : Int), hs.map egOf, li, lo) = g := ⟨_, rfl⟩
 rw [hg] at hr hMo hv ok ⊢
 obtain ⟨W, hW, bW, k0⟩ := (⟨_, rfl, t_below_alloc _ _, heap_alloc_new _ _⟩ : ∃ W, W = w.alloc (.cells #[.int .i64 0, .slice none 0 0, .slice none 0 0, .slice none 0 0] tGr) ∧ Below w.heap.size w W ∧ W.heap[w.heap.size]? = some (.cells #[.int .i64 0, .slice none 0 0, .slice none 0 0, .slice none 0 0] tGr))
 have hV := hgValid_any W (hr.below bW) ok
 rw [hv] at hV
 have hF := fun (W' : World) (hb : Below W.heap.size W W') => cnGraph_any W' n ((hr.below bW).below hb) ok hMo hv
 have hbW := t_box_below hbx bW
 obtain ⟨P, hP⟩ : ∃ P, cgG g = P := ⟨_, rfl⟩
 simp only [hP] at hF ⊢
 obtain ⟨⟨c0, c1, c2, c3⟩, f0, f1, f2, f3⟩ := t_box4 hbW
 clear h hI hO ei eo ok hm hMo hv hr hbx hnh hg hP; have bW_h := lH bW; have k0_h := lH k0; have hV_h := lH hV; have hF_h := lH hF; have hbW_h := lH hbW; clear bW k0 hV hF hbW
 go_enter Tryz.func13, Tryz.ntmps13
 go_upto_region 1 with (fail)
 rw [← hW]
 clear hW
 go_wp2_with (fail)
 refine (hV_h.out).mono ?_
 rintro e w1 ⟨rfl, hb1⟩
 have hb1x := t_box_below hbW_h.out hb1
 have k1 := t_box_below k0_h.out hb1
 clear c0 c1 c2 c3 f0 f1 f2 f3
 obtain ⟨⟨c0, c1, c2, c3⟩, f0, f1, f2, f3⟩ := t_box4 hb1x
 have hB1 := below_trans bW_h.out hb1 bW_h.out.size
 clear hb1x; have hb1_h := lH hb1; have k1_h := lH k1; have hB1_h := lH hB1; clear hb1 k1 hB1
 go_wp2_with (fail)
 refine (hF_h.out _ hb1_h.out).mono ?_
 rintro e w6 ⟨v6, fp6, rfl, hO6, hf6, hb6⟩
 obtain ⟨A6, n6, c6, B6, m6, d6, C6, q6, u6, rfl⟩ := hO6.shape
 have k1d := t_box_below k1_h.out hb6
 have hk1 := t_box_lt k1_h.out
 have hB6 := below_trans hB1_h.out hb6 hB1_h.out.size
 obtain ⟨⟨d0, d1, d2, d3⟩, g0', g1, g2, g3⟩ := t_box4 k1d
 obtain ⟨s1, s2⟩ := set4 (a := .int .i64 P.1) (b := .slice A6 n6 c6) (c := .slice B6 m6 d6) (d := .slice C6 q6 u6) k1d
 have hBs := below_keeps hB6 s2 hB6.size (fun k hk => by omega)
 have hwW := hB1_h.out.size
 have hOs := hO6.keeps s2 (fun x hx e => by have := hf6 x hx; omega)
 have hFs : FreshL w.heap.size fp6 := fun x hx => by have := hf6 x hx; omega
 clear hb6 hO6 hB6 k1d s2 hf6; have s1_h := lH s1; have hBs_h := lH hBs; have hOs_h := lH hOs; have hFs_h := lH hFs; clear s1 hBs hOs hFs
 go_wp2_with (fail)
 refine bodyPost_ret (t_results_cell_tmp rfl _ _ w.heap.size _ _ (0, 0) _ rfl s1_h.out Tryz.underlying25 rfl (by kernel_rfl)) rfl ?_
 exact ⟨_, _, rfl, hOs_h.out, hFs_h.out, hBs_h.out⟩
set_option maxRecDepth 100000 in
set_option maxHeartbeats 4000000 in
theorem drFinish_any {w : World} {d : Nat} {A Ai Bo : Option Addr} {cap k ni ci no co : Nat} {hs : List EHd} {li lo : List Int} (h : Dr tDr w d A cap k hs (.slice Ai ni ci) (.slice Bo no co)) (hI : IS w Ai ci li) (hO : IS w Bo co lo) (ei : li.length = ni) (eo : lo.length = no)
  (ok : OkG ((k : Int), hs.map egOf, li, lo)) (hm : monoB ((k : Int), hs.map egOf, li, lo) = true) :
  Calls Tryz.prog 17 #[.pointer (some ⟨d, 0, none⟩)] w fun e w' => ∃ v' fp, e = .returned (.tuple #[v', .bool true]) ∧ OwGr w' v' (cgG ((k : Int), hs.map egOf, li, lo)) fp ∧ FreshL w.heap.size fp ∧ Below w.heap.size w w' := by
 obtain ⟨n, hMo⟩ := mono_of hm
 have hv := mono_gr hm
 have hr := h.rdg hI hO ei eo
 have hbx := h.box
 obtain ⟨nh, hnh⟩ : ∃ nh, hs.length = nh := ⟨_, rfl⟩
 rw [hnh] at hr hbx
 obtain ⟨g, hg⟩ : ∃ g : Gr, ((k : Int), hs.map egOf, li, lo) = g := ⟨_, rfl⟩
 rw [hg] at hr hMo hv ok hm ⊢
 obtain ⟨W, hW, bW, k0⟩ := (⟨_, rfl, t_below_alloc _ _, heap_alloc_new _ _⟩ : ∃ W, W = w.alloc (.cells #[.int .i64 0, .slice none 0 0, .slice none 0 0, .slice none 0 0] tGr) ∧ Below w.heap.size w W ∧ W.heap[w.heap.size]? = some (.cells #[.int .i64 0, .slice none 0 0, .slice none 0 0, .slice none 0 0] tGr))
 have hV := isMonogamous_any W (hr.below bW) ok
 rw [hm] at hV
 have hF := fun (W' : World) (hb : Below W.heap.size W W') => canonical_any W' n ((hr.below bW).below hb) ok hMo hv
 have hbW := t_box_below hbx bW
 obtain ⟨P, hP⟩ : ∃ P, cgG g = P := ⟨_, rfl⟩
 simp only [hP] at hF ⊢
 obtain ⟨⟨c0, c1, c2, c3⟩, f0, f1, f2, f3⟩ := t_box4 hbW
 clear h hI hO ei eo ok hm hMo hv hr hbx hnh hg hP; have bW_h := lH bW; have k0_h := lH k0; have hV_h := lH hV; have hF_h := lH hF; have hbW_h := lH hbW; clear bW k0 hV hF hbW
 go_enter Tryz.func17, Tryz.ntmps17
 go_upto_region 1 with (fail)
 rw [← hW]
 clear hW
 go_wp2_with (fail)
 refine (hV_h.out).mono ?_
 rintro e w1 ⟨rfl, hb1⟩
 have hb1x := t_box_below hbW_h.out hb1
 have k1 := t_box_below k0_h.out hb1
 clear c0 c1 c2 c3 f0 f1 f2 f3
 obtain ⟨⟨c0, c1, c2, c3⟩, f0, f1, f2, f3⟩ := t_box4 hb1x
 have hB1 := below_trans bW_h.out hb1 bW_h.out.size
 clear hb1x; have hb1_h := lH hb1; have k1_h := lH k1; have hB1_h := lH hB1; clear hb1 k1 hB1
 go_wp2_with (fail)
 refine (hF_h.out _ hb1_h.out).mono ?_
 rintro e w6 ⟨v6, fp6, rfl, hO6, hf6, hb6⟩
 obtain ⟨A6, n6, c6, B6, m6, d6, C6, q6, u6, rfl⟩ := hO6.shape
 have k1d := t_box_below k1_h.out hb6
 have hk1 := t_box_lt k1_h.out
 have hB6 := below_trans hB1_h.out hb6 hB1_h.out.size
 obtain ⟨⟨d0, d1, d2, d3⟩, g0', g1, g2, g3⟩ := t_box4 k1d
 obtain ⟨s1, s2⟩ := set4 (a := .int .i64 P.1) (b := .slice A6 n6 c6) (c := .slice B6 m6 d6) (d := .slice C6 q6 u6) k1d
 have hBs := below_keeps hB6 s2 hB6.size (fun k hk => by omega)
 have hwW := hB1_h.out.size
 have hOs := hO6.keeps s2 (fun x hx e => by have := hf6 x hx; omega)
 have hFs : FreshL w.heap.size fp6 := fun x hx => by have := hf6 x hx; omega
 clear hb6 hO6 hB6 k1d s2 hf6; have s1_h := lH s1; have hBs_h := lH hBs; have hOs_h := lH hOs; have hFs_h := lH hFs; clear s1 hBs hOs hFs
 go_wp2_with (fail)
 refine bodyPost_ret (t_results_cell_tmp rfl _ _ w.heap.size _ _ (0, 0) _ rfl s1_h.out Tryz.underlying25 rfl (by kernel_rfl)) rfl ?_
 exact ⟨_, _, rfl, hOs_h.out, hFs_h.out, hBs_h.out⟩
end Go.Proofs.YtpkmjenoniedjaaGreat
namespace Go.Proofs.YtpkmjenoniedjaaGreat
instance okGDec (g : Gr) : Decidable (OkG g) := by unfold OkG; infer_instance
def spB (n m : Nat) : Bool := (monoB (spP n m) && monoB (spS n m)) && (decide (OkG (spP n m)) && (decide (OkG (spS n m)) && decide (cgG (spP n m) = cgG (spS n m))))
theorem spB_0 : ∀ m : Fin 13, spB 0 m.1 = true := by decide +kernel
theorem spB_1 : ∀ m : Fin 13, spB 1 m.1 = true := by decide +kernel
theorem spB_2 : ∀ m : Fin 13, spB 2 m.1 = true := by decide +kernel
theorem spB_3 : ∀ m : Fin 13, spB 3 m.1 = true := by decide +kernel
theorem spB_4 : ∀ m : Fin 13, spB 4 m.1 = true := by decide +kernel
theorem spB_5 : ∀ m : Fin 13, spB 5 m.1 = true := by decide +kernel
theorem spB_6 : ∀ m : Fin 13, spB 6 m.1 = true := by decide +kernel
theorem spB_7 : ∀ m : Fin 13, spB 7 m.1 = true := by decide +kernel
theorem spB_8 : ∀ m : Fin 13, spB 8 m.1 = true := by decide +kernel
theorem spB_9 : ∀ m : Fin 13, spB 9 m.1 = true := by decide +kernel
theorem spB_10 : ∀ m : Fin 13, spB 10 m.1 = true := by decide +kernel
theorem spB_11 : ∀ m : Fin 13, spB 11 m.1 = true := by decide +kernel
theorem spB_12 : ∀ m : Fin 13, spB 12 m.1 = true := by decide +kernel
theorem spB_all {n m : Nat} (hn : n ≤ 12) (hm : m ≤ 12) : spB n m = true := by
 have hm' : m < 13 := by omega
 match n, hn with
 | 0, _ => exact spB_0 ⟨m, hm'⟩
 | 1, _ => exact spB_1 ⟨m, hm'⟩
 | 2, _ => exact spB_2 ⟨m, hm'⟩
 | 3, _ => exact spB_3 ⟨m, hm'⟩
 | 4, _ => exact spB_4 ⟨m, hm'⟩
 | 5, _ => exact spB_5 ⟨m, hm'⟩
 | 6, _ => exact spB_6 ⟨m, hm'⟩
 | 7, _ => exact spB_7 ⟨m, hm'⟩
 | 8, _ => exact spB_8 ⟨m, hm'⟩
 | 9, _ => exact spB_9 ⟨m, hm'⟩
 | 10, _ => exact spB_10 ⟨m, hm'⟩
 | 11, _ => exact spB_11 ⟨m, hm'⟩
 | 12, _ => exact spB_12 ⟨m, hm'⟩
theorem sp_parts {n m : Nat} (hn : n ≤ 12) (hm : m ≤ 12) : (monoB (spP n m) = true ∧ OkG (spP n m)) ∧ (monoB (spS n m) = true ∧ OkG (spS n m)) ∧ cgG (spP n m) = cgG (spS n m) := by
 have h := spB_all hn hm
 unfold spB at h
 simp only [Bool.and_eq_true, decide_eq_true_eq] at h
 obtain ⟨⟨h1, h2⟩, h3, h4, h5⟩ := h
 exact ⟨⟨h1, h3⟩, ⟨h2, h4⟩, h5⟩
def spR (n m : Int) : Gr × Bool := if t_inB n 0 12 && t_inB m 0 12 then (cgG (spS n.toNat m.toNat), true) else (g0, false)
theorem spR_ok (n m : Int) : OkG (spR n m).1 := by
 unfold spR
 split
 · rename_i h
   rw [Bool.and_eq_true] at h
   unfold t_inB at h
   rw [decide_eq_true_eq, decide_eq_true_eq] at h
   obtain ⟨_, ⟨h1, h2⟩, _⟩ := sp_parts (n := n.toNat) (m := m.toNat) (by omega) (by omega)
   obtain ⟨k, hMo⟩ := mono_of h1
   exact cgG_ok h2 hMo
 · exact g0_ok
open Go.RowKit
theorem spR_no {n m : Int} (h : t_inB n 0 12 = false ∨ t_inB m 0 12 = false) : spR n m = (g0, false) := by
 unfold spR
 rw [if_neg]
 rw [Bool.and_eq_true]
 rintro ⟨h1, h2⟩
 rcases h with h | h
 · rw [h] at h1; cases h1
 · rw [h] at h2; cases h2
set_option maxRecDepth 100000 in
set_option maxHeartbeats 4000000 in
theorem sSpiderNo {n m : Int} {w : World} (h : t_inB n 0 12 = false ∨ t_inB m 0 12 = false) :
  Calls Tryz.prog 4 #[.int .i64 n, .int .i64 m] w fun e w' => ∃ v' fp, e = .returned (.tuple #[v', .bool false]) ∧ OwGr w' v' g0 fp ∧ FreshL w.heap.size fp ∧ Below w.heap.size w w' := by
 obtain ⟨W, hW, bW, k0⟩ := (⟨_, rfl, t_below_alloc _ _, heap_alloc_new _ _⟩ : ∃ W, W = w.alloc (.cells #[.int .i64 0, .slice none 0 0, .slice none 0 0, .slice none 0 0] tGr) ∧ Below w.heap.size w W ∧ W.heap[w.heap.size]? = some (.cells #[.int .i64 0, .slice none 0 0, .slice none 0 0, .slice none 0 0] tGr))
 have h1 := t_l1In_any n 0 12 W
 have h2 := t_l1In_any m 0 12 W
 have hk1 := t_box_lt k0
 obtain ⟨⟨u0, u1, u2, u3⟩, g0', g1, g2, g3⟩ := t_box4 k0
 obtain ⟨s1, s2⟩ := set4 (a := .int .i64 0) (b := .slice none 0 0) (c := .slice none 0 0) (d := .slice none 0 0) k0
 have hBs := below_keeps bW s2 bW.size (fun k hk => by omega)
 obtain ⟨T1, hT1⟩ : ∃ T, t_inB n 0 12 = T := ⟨_, rfl⟩
 obtain ⟨T2, hT2⟩ : ∃ T, t_inB m 0 12 = T := ⟨_, rfl⟩
 rw [hT1] at h1 h
 rw [hT2] at h2 h
 clear hT1 hT2 k0 s2; have h1_h := lH h1; have h2_h := lH h2; have s1_h := lH s1; have hBs_h := lH hBs; have h_h := lH h; have bW_h := lH bW; clear h1 h2 s1 hBs h bW
 cases T1
 case false =>
  go_enter Tryz.func4, Tryz.ntmps4
  go_upto_region 1 with (fail)
  rw [← hW]
  clear hW
  go_wp2_with (fail)
  refine (h1_h.out).mono ?_
  rintro e w1 ⟨rfl, rfl⟩
  go_wp2_with (fail)
  refine bodyPost_ret (t_results_cell_tmp rfl _ _ w.heap.size _ _ (0, 0) _ rfl s1_h.out Tryz.underlying25 rfl (by kernel_rfl)) rfl ?_
  exact ⟨_, _, rfl, OwGr.zero _, fun b hb => (by cases hb), hBs_h.out⟩
 case true =>
  obtain rfl : T2 = false := h_h.out.resolve_left (by simp)
  go_enter Tryz.func4, Tryz.ntmps4
  go_upto_region 1 with (fail)
  rw [← hW]
  clear hW
  go_wp2_with (fail)
  refine (h1_h.out).mono ?_
  rintro e w1 ⟨rfl, rfl⟩
  go_wp2_with (fail)
  refine (h2_h.out).mono ?_
  rintro e w1 ⟨rfl, rfl⟩
  go_wp2_with (fail)
  refine bodyPost_ret (t_results_cell_tmp rfl _ _ w.heap.size _ _ (0, 0) _ rfl s1_h.out Tryz.underlying25 rfl (by kernel_rfl)) rfl ?_
  exact ⟨_, _, rfl, OwGr.zero _, fun b hb => (by cases hb), hBs_h.out⟩
set_option maxRecDepth 100000 in
set_option maxHeartbeats 4000000 in
theorem sSpiderYes {N M : Nat} {w : World} (hN : N ≤ 12) (hM : M ≤ 12) :
  Calls Tryz.prog 4 #[.int .i64 (N : Int), .int .i64 (M : Int)] w fun e w' => ∃ v' fp, e = .returned (.tuple #[v', .bool true]) ∧ OwGr w' v' (cgG (spS N M)) fp ∧ FreshL w.heap.size fp ∧ Below w.heap.size w w' := by
 obtain ⟨_, ⟨hmo, hok⟩, _⟩ := sp_parts hN hM
 obtain ⟨W, hW, bW, k0⟩ := (⟨_, rfl, t_below_alloc _ _, heap_alloc_new _ _⟩ : ∃ W, W = w.alloc (.cells #[.int .i64 0, .slice none 0 0, .slice none 0 0, .slice none 0 0] tGr) ∧ Below w.heap.size w W ∧ W.heap[w.heap.size]? = some (.cells #[.int .i64 0, .slice none 0 0, .slice none 0 0, .slice none 0 0] tGr))
 have hWs : W.heap.size = w.heap.size + 1 := by rw [hW, World.size_alloc]
 have h1 := t_l1In_any (N : Int) 0 12 W
 have h2 := t_l1In_any (M : Int) 0 12 W
 rw [show t_inB (N : Int) 0 12 = true by unfold t_inB; exact decide_eq_true (by omega)] at h1
 rw [show t_inB (M : Int) 0 12 = true by unfold t_inB; exact decide_eq_true (by omega)] at h2
 have b1 := t_below_alloc W (.cells #[.int .i64 0, .slice none 0 0, .slice none 0 0, .slice none 0 0] tMk)
 have hD : Dr tMk (W.alloc (.cells #[.int .i64 0, .slice none 0 0, .slice none 0 0, .slice none 0 0] tMk)) W.heap.size none 0 0 [] (.slice none 0 0) (.slice none 0 0) := ⟨heap_alloc_new _ _, Sl.nil _ _ _, fun x hx => by cases hx⟩
 have k1 := t_box_below k0 b1
 have B2 := below_trans bW b1 bW.size
 have hIn := mkInputs_any N hD hN
 obtain ⟨G, hG⟩ : ∃ G, spS N M = G := ⟨_, rfl⟩
 rw [hG] at hmo hok ⊢
 clear k0 b1 bW; have h1_h := lH h1; have h2_h := lH h2; have hD_h := lH hD; have k1_h := lH k1; have B2_h := lH B2; have hIn_h := lH hIn; have hmo_h := lH hmo; have hok_h := lH hok; have hG_h := lH hG; have hWs_h := lH hWs; clear h1 h2 hD k1 B2 hIn hmo hok hG hWs
 go_enter Tryz.func4, Tryz.ntmps4
 go_upto_region 1 with (fail)
 rw [← hW]
 clear hW
 go_wp2_with (fail)
 refine (h1_h.out).mono ?_
 rintro e w1 ⟨rfl, rfl⟩
 go_wp2_with (fail)
 refine (h2_h.out).mono ?_
 rintro e w1 ⟨rfl, rfl⟩
 go_wp2_with (fail)
 refine (hIn_h.out).mono ?_
 rintro e w3 ⟨rfl, Ai, ci, D3, I3, K3⟩
 have k3 := t_box_keeps k1_h.out K3 (by have := hWs_h.out; omega)
 have B3 := below_keeps B2_h.out K3 B2_h.out.size (fun b hb => by have := hWs_h.out; omega)
 have hGt := mkGat_any (List.range N) (by rw [List.length_range]; omega) w3 none 0 N [] Ai ci N List.length_range I3 D3 (by omega) (by simp; omega)
 obtain ⟨⟨c0, c1, c2, c3⟩, f0, f1, f2, f3⟩ := t_box4 D3.box
 clear K3; have D3_h := lH D3; have I3_h := lH I3; have k3_h := lH k3; have B3_h := lH B3; have hGt_h := lH hGt; clear D3 I3 k3 B3 hGt
 go_wp2_with (fail)
 refine (hGt_h.out).mono ?_
 rintro e w4 ⟨rfl, A4, c4, hs4, D4, e4, s4⟩
 have I4 := D3_h.out.isk (by decide) I3_h.out s4
 have k4 := t_box_keeps k3_h.out s4.1 (fun e => by have := hWs_h.out; rcases e with e | e; omega; simp at e)
 have B4 := below_keeps B3_h.out s4.1 B3_h.out.size (fun b hb => by have := hWs_h.out; rcases hb with e | e; omega; simp at e)
 obtain ⟨r, hr⟩ : ∃ r, r = gatTo (List.range N) N [] := ⟨_, rfl⟩
 have hrl := gatTo_len (List.range N) N []
 simp only [List.map_nil, ← hr] at D4 e4 hrl ⊢
 rw [List.length_range, List.length_nil] at hrl
 have hs4l : hs4.length ≤ 20 := by have := congrArg List.length e4; rw [List.length_map] at this; omega
 have hFn := mkFan_any M (by omega) w4 A4 c4 r.2.1 hs4 r.1 (r.1 : Int) (M : Int) rfl rfl D4 (by omega) (by omega)
 rw [e4] at hFn
 clear c0 c1 c2 c3 f0 f1 f2 f3 hrl; have D4_h := lH D4; have e4_h := lH e4; have s4_h := lH s4; have I4_h := lH I4; have k4_h := lH k4; have B4_h := lH B4; have hFn_h := lH hFn; have hr_h := lH hr; have hs4l_h := lH hs4l; clear D4 e4 s4 I4 k4 B4 hFn hr hs4l
 go_wp2_with (fail)
 refine (hFn_h.out).mono ?_
 rintro e w5 ⟨B5, c5, n5, A5, cc5, hs5, rfl, hn5, I5, D5, e5, s5, t5⟩
 have I5' := D4_h.out.isk (by decide) I4_h.out s5
 have hA4 : ∀ b, b ∈ fpA A4 → w.heap.size < b := fun b hb => by
  have := B3_h.out.size
  rcases s4_h.out.2 b hb with e | e
  · simp at e
  · have := D3_h.out.lt; have := hWs_h.out; omega
 have k5 := t_box_keeps k4_h.out s5.1 (fun e => by have := hWs_h.out; rcases e with e | e; omega; have := hA4 _ e; omega)
 have B5' := below_keeps B4_h.out s5.1 B4_h.out.size (fun b hb => by have := hWs_h.out; rcases hb with e | e; omega; have := hA4 _ e; omega)
 obtain ⟨D6, s6⟩ := D5.set3 (by decide) (by decide) (.slice B5 n5 c5)
 have I6 := D5.isk (by decide) I5 s6
 have I6' := D5.isk (by decide) I5' s6
 have hA5 : ∀ b, b ∈ fpA A5 → w.heap.size < b := fun b hb => by
  rcases s5.2 b hb with e | e
  · exact hA4 b e
  · have := D4_h.out.lt; have := hWs_h.out; omega
 have k6 := t_box_keeps k5 s6.1 (fun e => by have := hWs_h.out; rcases e with e | e; omega; have := hA5 _ e; omega)
 have B6 := below_keeps B5' s6.1 B5'.size (fun b hb => by have := hWs_h.out; rcases hb with e | e; omega; have := hA5 _ e; omega)
 have hgg : (((outTo M r.1 r.2.1 r.2.2).2.1 : Int), hs5.map egOf, rngL N, (outTo M r.1 r.2.1 r.2.2).1) = G := by rw [e5, hr_h.out, ← hG_h.out]; rfl
 have hDn := mkDone_any D6 I6' I6 (rngL_len N) hn5 (by rw [hgg]; exact hok_h.out) (by rw [hgg]; exact hmo_h.out)
 rw [hgg] at hDn
 obtain ⟨⟨c0, c1, c2, c3⟩, f0, f1, f2, f3⟩ := t_box4 D5.box
 clear I5' k5 B5' s5 t5 e5 D5 I5 s6 I6 I6' D6 hgg hA5 hA4 hn5; have hDn_h := lH hDn; have k6_h := lH k6; have B6_h := lH B6; clear hDn k6 B6
 go_wp2_with (fail)
 refine (hDn_h.out).mono ?_
 rintro e w7 ⟨v7, fp7, rfl, hO7, hf7, hb7⟩
 obtain ⟨A6, n6, c6, B6, m6, d6, C6, q6, u6, rfl⟩ := hO7.shape
 have k7 := t_box_below k6_h.out hb7
 have B7 := below_trans B6_h.out hb7 B6_h.out.size
 have hk1 := t_box_lt k6_h.out
 have hwW := B6_h.out.size
 obtain ⟨⟨d0, d1, d2, d3⟩, g0', g1, g2, g3⟩ := t_box4 k7
 obtain ⟨s1, s2⟩ := set4 (a := .int .i64 (cgG G).1) (b := .slice A6 n6 c6) (c := .slice B6 m6 d6) (d := .slice C6 q6 u6) k7
 have hBs := below_keeps B7 s2 B7.size (fun k hk => by omega)
 have hOs := hO7.keeps s2 (fun x hx e => by have := hf7 x hx; omega)
 have hFs : FreshL w.heap.size fp7 := fun x hx => by have := hf7 x hx; omega
 clear hb7 hO7 B7 k7 s2 hf7 c0 c1 c2 c3 f0 f1 f2 f3; have s1_h := lH s1; have hBs_h := lH hBs; have hOs_h := lH hOs; have hFs_h := lH hFs; clear s1 hBs hOs hFs
 go_wp2_with (fail)
 refine bodyPost_ret (t_results_cell_tmp rfl _ _ w.heap.size _ _ (0, 0) _ rfl s1_h.out Tryz.underlying25 rfl (by kernel_rfl)) rfl ?_
 exact ⟨_, _, rfl, hOs_h.out, hFs_h.out, hBs_h.out⟩
theorem sSpiderGraph_law (n m : Int) {w : World} :
  Calls Tryz.prog 4 #[.int .i64 n, .int .i64 m] w fun e w' => ∃ v' fp, e = .returned (.tuple #[v', .bool (spR n m).2]) ∧ OwGr w' v' (spR n m).1 fp ∧ FreshL w.heap.size fp ∧ Below w.heap.size w w' := by
 cases h1 : t_inB n 0 12
 · rw [spR_no (.inl h1)]
   exact sSpiderNo (.inl h1)
 · cases h2 : t_inB m 0 12
   · rw [spR_no (.inr h2)]
     exact sSpiderNo (.inr h2)
   · have e : spR n m = (cgG (spS n.toNat m.toNat), true) := by unfold spR; rw [h1, h2]; rfl
     unfold t_inB at h1 h2
     rw [decide_eq_true_eq] at h1 h2
     obtain ⟨N, rfl⟩ : ∃ N : Nat, n = N := ⟨n.toNat, by omega⟩
     obtain ⟨M, rfl⟩ : ∃ M : Nat, m = M := ⟨m.toNat, by omega⟩
     rw [e]
     exact sSpiderYes (by omega) (by omega)
theorem Dr.set2 {ty : TypeId} {w : World} {d : Nat} {A : Option Addr} {cap k : Nat} {hs : List EHd} {va vb : Value} (h : Dr ty w d A cap k hs va vb) (hty : tInt ≠ ty) (hte : tEd ≠ ty) (v : Value) :
  Dr ty (w.setCell ⟨d, 2, none⟩ v) d A cap k hs v vb ∧ StD d w A (w.setCell ⟨d, 2, none⟩ v) A := by
 obtain ⟨s1, s2⟩ := box_set h.box 2 v
 have hS : StD d w A (w.setCell ⟨d, 2, none⟩ v) A := ⟨s2.mono fun _ _ e => .inl e, fun _ h => .inl h⟩
 exact ⟨⟨s1, h.sl.keeps s2 (sd_ne h.sl h.box hte), fun x hx => ⟨h.isk hty (h.eds x hx).1 hS, h.isk hty (h.eds x hx).2 hS⟩⟩, hS⟩
set_option maxRecDepth 100000 in
set_option maxHeartbeats 4000000 in
theorem iSpiderNo {n m : Int} {w : World} (h : t_inB n 0 12 = false ∨ t_inB m 0 12 = false) :
  Calls Tryz.prog 5 #[.int .i64 n, .int .i64 m] w fun e w' => ∃ v' fp, e = .returned (.tuple #[v', .bool false]) ∧ OwGr w' v' g0 fp ∧ FreshL w.heap.size fp ∧ Below w.heap.size w w' := by
 obtain ⟨W, hW, bW, k0⟩ := (⟨_, rfl, t_below_alloc _ _, heap_alloc_new _ _⟩ : ∃ W, W = w.alloc (.cells #[.int .i64 0, .slice none 0 0, .slice none 0 0, .slice none 0 0] tGr) ∧ Below w.heap.size w W ∧ W.heap[w.heap.size]? = some (.cells #[.int .i64 0, .slice none 0 0, .slice none 0 0, .slice none 0 0] tGr))
 have h1 := t_within_any n 0 12 W
 have h2 := t_within_any m 0 12 W
 have hk1 := t_box_lt k0
 obtain ⟨⟨u0, u1, u2, u3⟩, g0', g1, g2, g3⟩ := t_box4 k0
 obtain ⟨s1, s2⟩ := set4 (a := .int .i64 0) (b := .slice none 0 0) (c := .slice none 0 0) (d := .slice none 0 0) k0
 have hBs := below_keeps bW s2 bW.size (fun k hk => by omega)
 obtain ⟨T1, hT1⟩ : ∃ T, t_inB n 0 12 = T := ⟨_, rfl⟩
 obtain ⟨T2, hT2⟩ : ∃ T, t_inB m 0 12 = T := ⟨_, rfl⟩
 rw [hT1] at h1 h
 rw [hT2] at h2 h
 clear hT1 hT2 k0 s2; have h1_h := lH h1; have h2_h := lH h2; have s1_h := lH s1; have hBs_h := lH hBs; have h_h := lH h; have bW_h := lH bW; clear h1 h2 s1 hBs h bW
 cases T1
 case false =>
  go_enter Tryz.func5, Tryz.ntmps5
  go_upto_region 1 with (fail)
  rw [← hW]
  clear hW
  go_wp2_with (fail)
  refine (h1_h.out).mono ?_
  rintro e w1 ⟨rfl, rfl⟩
  go_wp2_with (fail)
  refine bodyPost_ret (t_results_cell_tmp rfl _ _ w.heap.size _ _ (0, 0) _ rfl s1_h.out Tryz.underlying25 rfl (by kernel_rfl)) rfl ?_
  exact ⟨_, _, rfl, OwGr.zero _, fun b hb => (by cases hb), hBs_h.out⟩
 case true =>
  obtain rfl : T2 = false := h_h.out.resolve_left (by simp)
  go_enter Tryz.func5, Tryz.ntmps5
  go_upto_region 1 with (fail)
  rw [← hW]
  clear hW
  go_wp2_with (fail)
  refine (h1_h.out).mono ?_
  rintro e w1 ⟨rfl, rfl⟩
  go_wp2_with (fail)
  refine (h2_h.out).mono ?_
  rintro e w1 ⟨rfl, rfl⟩
  go_wp2_with (fail)
  refine bodyPost_ret (t_results_cell_tmp rfl _ _ w.heap.size _ _ (0, 0) _ rfl s1_h.out Tryz.underlying25 rfl (by kernel_rfl)) rfl ?_
  exact ⟨_, _, rfl, OwGr.zero _, fun b hb => (by cases hb), hBs_h.out⟩
set_option maxRecDepth 100000 in
set_option maxHeartbeats 4000000 in
theorem iSpiderYes {N M : Nat} {w : World} (hN : N ≤ 12) (hM : M ≤ 12) :
  Calls Tryz.prog 5 #[.int .i64 (N : Int), .int .i64 (M : Int)] w fun e w' => ∃ v' fp, e = .returned (.tuple #[v', .bool true]) ∧ OwGr w' v' (cgG (spS N M)) fp ∧ FreshL w.heap.size fp ∧ Below w.heap.size w w' := by
 obtain ⟨⟨hmo, hok⟩, _, hcg⟩ := sp_parts hN hM
 rw [← hcg]
 clear hcg
 obtain ⟨W, hW, bW, k0⟩ := (⟨_, rfl, t_below_alloc _ _, heap_alloc_new _ _⟩ : ∃ W, W = w.alloc (.cells #[.int .i64 0, .slice none 0 0, .slice none 0 0, .slice none 0 0] tGr) ∧ Below w.heap.size w W ∧ W.heap[w.heap.size]? = some (.cells #[.int .i64 0, .slice none 0 0, .slice none 0 0, .slice none 0 0] tGr))
 have hWs : W.heap.size = w.heap.size + 1 := by rw [hW, World.size_alloc]
 have h1 := t_within_any (N : Int) 0 12 W
 have h2 := t_within_any (M : Int) 0 12 W
 rw [show t_inB (N : Int) 0 12 = true by unfold t_inB; exact decide_eq_true (by omega)] at h1
 rw [show t_inB (M : Int) 0 12 = true by unfold t_inB; exact decide_eq_true (by omega)] at h2
 have b1 := t_below_alloc W (.cells #[.int .i64 0, .slice none 0 0, .slice none 0 0, .slice none 0 0] tDr)
 have hD : Dr tDr (W.alloc (.cells #[.int .i64 0, .slice none 0 0, .slice none 0 0, .slice none 0 0] tDr)) W.heap.size none 0 0 [] (.slice none 0 0) (.slice none 0 0) := ⟨heap_alloc_new _ _, Sl.nil _ _ _, fun x hx => by cases hx⟩
 have hdl := hD.lt
 have k1 := t_box_below k0 b1
 have B2 := below_trans bW b1 bW.size
 have hIn := drIn_any N (by omega) _ none 0 0 [] (N : Int) rfl hD (by omega) (by simp; omega)
 obtain ⟨G, hG⟩ : ∃ G, spP N M = G := ⟨_, rfl⟩
 rw [hG] at hmo hok ⊢
 have hrl := inTo_len N 0 []
 obtain ⟨r, hr⟩ : ∃ r, r = inTo N 0 [] := ⟨_, rfl⟩
 simp only [List.map_nil, ← hr] at hIn hrl
 rw [List.length_nil] at hrl
 clear k0 b1 bW hD; have h1_h := lH h1; have h2_h := lH h2; have k1_h := lH k1; have B2_h := lH B2; have hIn_h := lH hIn; have hmo_h := lH hmo; have hok_h := lH hok; have hG_h := lH hG; have hWs_h := lH hWs; have hr_h := lH hr; have hrl_h := lH hrl; have hdl_h := lH hdl; clear h1 h2 k1 B2 hIn hmo hok hG hWs hr hrl hdl
 go_enter Tryz.func5, Tryz.ntmps5
 go_upto_region 1 with (fail)
 rw [← hW]
 clear hW
 go_wp2_with (fail)
 refine (h1_h.out).mono ?_
 rintro e w1 ⟨rfl, rfl⟩
 go_wp2_with (fail)
 refine (h2_h.out).mono ?_
 rintro e w1 ⟨rfl, rfl⟩
 go_wp2_with (fail)
 refine (hIn_h.out).mono ?_
 rintro e w4 ⟨Ai, ci, nI, A4, c4, hs4, rfl, hnI, I4, D4, e4, s4⟩
 have k4 := t_box_keeps k1_h.out s4.1 (fun e => by have := hWs_h.out; rcases e with e | e; omega; simp at e)
 have B4 := below_keeps B2_h.out s4.1 B2_h.out.size (fun b hb => by have := hWs_h.out; rcases hb with e | e; omega; simp at e)
 have hs4l : hs4.length ≤ 20 := by have := congrArg List.length e4; rw [List.length_map] at this; have := hrl_h.out.2.2; omega
 have hFn := drFan_any M (by omega) w4 A4 c4 r.2.1 hs4 0 ((0 : Nat) : Int) (M : Int) rfl rfl D4 (by have := hrl_h.out.2.1; omega) (by omega)
 rw [e4] at hFn
 have hA4 : ∀ b, b ∈ fpA A4 → w.heap.size < b := fun b hb => by
  rcases s4.2 b hb with e | e
  · simp at e
  · have := hdl_h.out; have := hWs_h.out; omega
 have hd4 := D4.lt
 have D4_h := lH D4; have e4_h := lH e4; have I4_h := lH I4; have k4_h := lH k4; have B4_h := lH B4; have hFn_h := lH hFn; have hs4l_h := lH hs4l; have hA4_h := lH hA4; have hd4_h := lH hd4; have hnI_h := lH hnI; clear D4 e4 I4 k4 B4 hFn hs4l hA4 hd4 hnI
 go_wp2_with (fail)
 refine (hFn_h.out).mono ?_
 rintro e w5 ⟨B5, c5, n5, A5, cc5, hs5, rfl, hn5, I5, D5, e5, s5, t5⟩
 have I5' := D4_h.out.isk (by decide) I4_h.out s5
 have k5 := t_box_keeps k4_h.out s5.1 (fun e => by have := hWs_h.out; rcases e with e | e; omega; have := hA4_h.out _ e; omega)
 have B5' := below_keeps B4_h.out s5.1 B4_h.out.size (fun b hb => by have := hWs_h.out; rcases hb with e | e; omega; have := hA4_h.out _ e; omega)
 have hA5 : ∀ b, b ∈ fpA A5 → w.heap.size < b := fun b hb => by
  rcases s5.2 b hb with e | e
  · exact hA4_h.out b e
  · have := hd4_h.out; have := hWs_h.out; omega
 obtain ⟨D6, s6⟩ := D5.set2 (by decide) (by decide) (.slice Ai nI ci)
 obtain ⟨D7, s7⟩ := D6.set3 (by decide) (by decide) (.slice B5 n5 c5)
 have s57 := s6.trans s7
 have I7 := D5.isk (by decide) I5 s57
 have I7' := D5.isk (by decide) I5' s57
 have k7 := t_box_keeps k5 s57.1 (fun e => by have := hWs_h.out; rcases e with e | e; omega; have := hA5 _ e; omega)
 have B7 := below_keeps B5' s57.1 B5'.size (fun b hb => by have := hWs_h.out; rcases hb with e | e; omega; have := hA5 _ e; omega)
 have hgg : (((outTo M 0 r.2.1 r.2.2).2.1 : Int), hs5.map egOf, r.1, (outTo M 0 r.2.1 r.2.2).1) = G := by rw [e5, hr_h.out, ← hG_h.out]; rfl
 have hDn := drFinish_any D7 I7' I7 hnI_h.out hn5 (by rw [hgg]; exact hok_h.out) (by rw [hgg]; exact hmo_h.out)
 rw [hgg] at hDn
 obtain ⟨⟨c0, c1, c2, c3⟩, f0, f1, f2, f3⟩ := t_box4 D5.box
 obtain ⟨⟨d0, d1, d2, d3⟩, h0, h1, h2, h3⟩ := t_box4 D6.box
 clear I5' k5 B5' s5 t5 e5 D5 I5 s6 D6 D7 s7 s57 I7 I7' hgg hA5 hn5; have hDn_h := lH hDn; have k7_h := lH k7; have B7_h := lH B7; clear hDn k7 B7
 go_wp2_with (fail)
 refine (hDn_h.out).mono ?_
 rintro e w8 ⟨v7, fp7, rfl, hO7, hf7, hb7⟩
 obtain ⟨A6, n6, c6, B6, m6, d6, C6, q6, u6, rfl⟩ := hO7.shape
 have k8 := t_box_below k7_h.out hb7
 have B8 := below_trans B7_h.out hb7 B7_h.out.size
 have hk1 := t_box_lt k7_h.out
 have hwW := B7_h.out.size
 clear c0 c1 c2 c3 f0 f1 f2 f3 d0 d1 d2 d3 h0 h1 h2 h3
 obtain ⟨⟨d0, d1, d2, d3⟩, g0', g1, g2, g3⟩ := t_box4 k8
 obtain ⟨s1, s2⟩ := set4 (a := .int .i64 (cgG G).1) (b := .slice A6 n6 c6) (c := .slice B6 m6 d6) (d := .slice C6 q6 u6) k8
 have hBs := below_keeps B8 s2 B8.size (fun k hk => by omega)
 have hOs := hO7.keeps s2 (fun x hx e => by have := hf7 x hx; omega)
 have hFs : FreshL w.heap.size fp7 := fun x hx => by have := hf7 x hx; omega
 clear hb7 hO7 B8 k8 s2 hf7; have s1_h := lH s1; have hBs_h := lH hBs; have hOs_h := lH hOs; have hFs_h := lH hFs; clear s1 hBs hOs hFs
 go_wp2_with (fail)
 refine bodyPost_ret (t_results_cell_tmp rfl _ _ w.heap.size _ _ (0, 0) _ rfl s1_h.out Tryz.underlying25 rfl (by kernel_rfl)) rfl ?_
 exact ⟨_, _, rfl, hOs_h.out, hFs_h.out, hBs_h.out⟩
theorem iSpiderGraph_law (n m : Int) {w : World} :
  Calls Tryz.prog 5 #[.int .i64 n, .int .i64 m] w fun e w' => ∃ v' fp, e = .returned (.tuple #[v', .bool (spR n m).2]) ∧ OwGr w' v' (spR n m).1 fp ∧ FreshL w.heap.size fp ∧ Below w.heap.size w w' := by
 cases h1 : t_inB n 0 12
 · rw [spR_no (.inl h1)]
   exact iSpiderNo (.inl h1)
 · cases h2 : t_inB m 0 12
   · rw [spR_no (.inr h2)]
     exact iSpiderNo (.inr h2)
   · have e : spR n m = (cgG (spS n.toNat m.toNat), true) := by unfold spR; rw [h1, h2]; rfl
     unfold t_inB at h1 h2
     rw [decide_eq_true_eq] at h1 h2
     obtain ⟨N, rfl⟩ : ∃ N : Nat, n = N := ⟨n.toNat, by omega⟩
     obtain ⟨M, rfl⟩ : ∃ M : Nat, m = M := ⟨m.toNat, by omega⟩
     rw [e]
     exact iSpiderYes (by omega) (by omega)
end Go.Proofs.YtpkmjenoniedjaaGreat
