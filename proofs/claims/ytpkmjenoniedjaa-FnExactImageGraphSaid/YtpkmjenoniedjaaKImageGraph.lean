/-
  The program's ImageGraph returns what the reference's returns, for all arguments (laws.FnExactImageGraph answers true). No condition.
-/
import Derived.Test.YtpkmjenoniedjaaKImageGraph3
namespace Go.Proofs.Ytpkmjenoniedjaa
theorem numL_succ (l : List Int) (k : Nat) : numL l (k + 1) = numL l k ++ [if l.contains (k : Int) then (rankL l k : Int) else 0] := by
 unfold numL
 rw [List.range_succ, List.map_append]; rfl
theorem numL_len (l : List Int) (k : Nat) : (numL l k).length = k := by simp [numL]
theorem memL_succ (l : List Int) (k : Nat) : memL l (k + 1) = memL l k ++ (if l.contains (k : Int) then [k] else []) := by
 unfold memL
 rw [List.range_succ, List.filter_append]
 congr 1
 by_cases h : l.contains (k : Int) = true
 · simp only [List.filter_cons, h, if_true, List.filter_nil]
 · rw [if_neg h]; simp only [List.filter_cons, h, List.filter_nil]; rfl
def takE (l : List Int) (es : List Eg) (k : Nat) : List Eg := (memL l k).map fun f => es.getD f eg0
theorem takE_yes {l : List Int} {es : List Eg} {k : Nat} {e : Eg} (h : l.contains (k : Int) = true) (he : es[k]? = some e) : takE l es (k + 1) = takE l es k ++ [e] := by
 unfold takE
 rw [memL_succ, if_pos h, List.map_append]
 simp [List.getD_eq_getElem?_getD, he]
theorem takE_no {l : List Int} {es : List Eg} {k : Nat} (h : l.contains (k : Int) = false) : takE l es (k + 1) = takE l es k := by
 unfold takE
 rw [memL_succ, h]; simp
theorem ok_of_map {g : Gr} {ws : List Int} {n : Int} (ok : OkG (mapG ws n g)) : OkG g := by
 obtain ⟨⟨o1, o2, o3⟩, o4, o5⟩ := ok
 unfold mapG at o1 o2 o3 o4 o5
 simp only [List.length_map, mapL_length] at o1 o2 o3
 refine ⟨⟨o1, o2, o3⟩, fun e he => ?_, ?_⟩
 · have := o4 (mapE ws e) (List.mem_map_of_mem he)
   unfold mapE at this
   simpa only [mapL_length] using this
 · unfold cntG at o5 ⊢
   simpa only [cntE_map, mapL_length] using o5
theorem partG_ok {g pt : Gr} {m : Ma} {n : Nat} (ok : OkG pt) (hn : g.1 = (n : Int)) (hp : grB pt = true) (h : maB g pt m = true) : OkG (partG g pt m) := by
 have := imgG_ok ok hn h
 rw [img_eq hn hp h] at this
 exact ok_of_map this
theorem mapL_mem {l s : List Int} {n : Nat} (hb : ∀ x, x ∈ l → 0 ≤ x ∧ x < (n : Int)) (hs : ∀ x, x ∈ s → 0 ≤ x ∧ x < (l.length : Int)) : ∀ x, x ∈ mapL l s → 0 ≤ x ∧ x < (n : Int) := by
 intro x hx
 unfold mapL at hx
 obtain ⟨y, hy, rfl⟩ := List.mem_map.1 hx
 have h1 := hs y hy
 have hlt : y.toNat < l.length := by omega
 rw [List.getD_eq_getElem?_getD, List.getElem?_eq_getElem hlt]
 exact hb _ (List.getElem_mem hlt)
theorem edW_take {n : Nat} {es : List Eg} (hes : ∀ x, x ∈ edW es → 0 ≤ x ∧ x < (n : Int)) : ∀ (fs : List Nat), (∀ f, f ∈ fs → f < es.length) → ∀ x, x ∈ edW (fs.map fun f => es.getD f eg0) → 0 ≤ x ∧ x < (n : Int)
 | [], _, x, hx => by cases hx
 | f :: r, hf, x, hx => by
   have hlt := hf f (List.mem_cons_self ..)
   have e : es.getD f eg0 = es[f] := by rw [List.getD_eq_getElem?_getD, List.getElem?_eq_getElem hlt]; rfl
   simp only [List.map_cons, edW, List.mem_append, e] at hx
   have hin := List.getElem_mem hlt
   rcases hx with hx | hx | hx
   · exact hes x (edW_in hin (List.mem_append_left _ hx))
   · exact hes x (edW_in hin (List.mem_append_right _ hx))
   · exact edW_take hes r (fun f' hf' => hf f' (List.mem_cons_of_mem _ hf')) x hx
theorem partG_in {g pt : Gr} {m : Ma} {n : Nat} (hn : g.1 = (n : Int)) (hg : inW g.1 (t_allW g) = true) (hp : inW pt.1 (t_allW pt) = true) (h : maB g pt m = true) : inW (n : Int) (t_allW (partG g pt m)) = true := by
 obtain ⟨l1, _, ⟨b1, _⟩, _⟩ := maB_parts h
 rw [hn] at b1 hg
 rw [← l1] at hp
 have hp' := inW_iff.1 hp
 have hg' := inW_iff.1 hg
 refine inW_iff.2 fun x hx => ?_
 unfold t_allW partG at hx
 rcases List.mem_append.1 hx with hx | hx
 · exact mapL_mem b1 (fun y hy => hp' y (List.mem_append_left _ hy)) x hx
 · rcases List.mem_append.1 hx with hx | hx
   · exact mapL_mem b1 (fun y hy => hp' y (List.mem_append_right _ (List.mem_append_left _ hy))) x hx
   · refine edW_take (fun y hy => hg' y (List.mem_append_right _ (List.mem_append_right _ hy))) _ (fun f hf => ?_) x hx
     unfold memL at hf
     exact List.mem_range.1 (List.mem_filter.1 hf).1
end Go.Proofs.Ytpkmjenoniedjaa
namespace Go.Proofs.Ytpkmjenoniedjaa
theorem im_apart {w : World} {e e' : TypeId} {sz sz' n n' c c' : Nat} {A B : Option Addr} {xs ys : List Value} (h : Sl w e sz A n c xs) (h' : Sl w e' sz' B n' c' ys) (he : e ≠ e') : ∀ b, b ∈ fpA A → ¬ b ∈ fpA B := by
 intro x hx hx'
 rcases h.2.2.2 with ⟨rfl, _⟩ | ⟨g, off, cur, rfl, hg, _⟩
 · simp at hx
 · rcases h'.2.2.2 with ⟨rfl, _⟩ | ⟨g', off', cur', rfl, hg', _⟩
   · simp at hx'
   · obtain rfl : x = g := by simpa using hx
     obtain rfl : x = g' := by simpa using hx'
     rw [hg] at hg'
     injection hg' with hg'
     injection hg' with _ h1
     exact he h1
open Go.RowKit
theorem gr_parts {w : World} {z : Int} {A B C : Option Addr} {n0 c m0 d k e : Nat} {g : Gr} (h : RdGr w (.agg #[.int .i64 z, .slice A n0 c, .slice B m0 d, .slice C k e]) g) : ∃ hs : List EHd, g.2.1 = hs.map egOf ∧ hs.length = n0 ∧ RdE w A hs ∧ g.2.2.1.length = m0 ∧ RdI w B g.2.2.1 ∧ g.2.2.2.length = k ∧ RdI w C g.2.2.2 := by
 obtain ⟨A', c', hs, ⟨B', b', s'⟩, ⟨C', d', t'⟩, e, e1, e2, e3, hE, hs', ht'⟩ := h
 simp at e
 obtain ⟨_, ⟨rfl, rfl, rfl⟩, ⟨rfl, rfl, rfl⟩, rfl, rfl, rfl⟩ := e
 simp only at e2 e3 hs' ht'
 exact ⟨hs, e1, rfl, hE, by rw [← e2], by rw [← e2]; exact hs', by rw [← e3], by rw [← e3]; exact ht'⟩
theorem box3_below {w w' : World} {b1 b2 b3 : Nat} {o1 o2 o3 : Obj} (h : w.heap[b1]? = some o1 ∧ w.heap[b2]? = some o2 ∧ w.heap[b3]? = some o3) (hb : Below w.heap.size w w') : w'.heap[b1]? = some o1 ∧ w'.heap[b2]? = some o2 ∧ w'.heap[b3]? = some o3 := ⟨t_box_below h.1 hb, t_box_below h.2.1 hb, t_box_below h.2.2 hb⟩
theorem box3_keeps {w w' : World} {b1 b2 b3 : Nat} {o1 o2 o3 : Obj} {S : Nat → Prop} (h : w.heap[b1]? = some o1 ∧ w.heap[b2]? = some o2 ∧ w.heap[b3]? = some o3) (hk : Keeps S w w') (n1 : ¬ S b1) (n2 : ¬ S b2) (n3 : ¬ S b3) : w'.heap[b1]? = some o1 ∧ w'.heap[b2]? = some o2 ∧ w'.heap[b3]? = some o3 := ⟨t_box_keeps h.1 hk n1, t_box_keeps h.2.1 hk n2, t_box_keeps h.2.2 hk n3⟩
theorem rankL_le (l : List Int) (x : Nat) : rankL l x ≤ x := by
 unfold rankL
 exact Nat.le_trans (List.length_filter_le _ _) (by rw [List.length_range]; exact Nat.le_refl _)
theorem set_numL {l : List Int} {n k : Nat} (h : k < n) : (numL l k ++ List.replicate (n - k) (0 : Int)).set k (rankL l k : Int) = numL l k ++ ((rankL l k : Int) :: List.replicate (n - (k + 1)) 0) := by
 rw [show n - k = (n - (k + 1)) + 1 by omega, List.replicate_succ, List.set_append_right _ _ (by rw [numL_len]; exact Nat.le_refl _), numL_len, Nat.sub_self]; rfl
set_option maxRecDepth 100000 in
set_option maxHeartbeats 8000000 in
theorem sImageYes {vg vp vm : Value} {g pt : Gr} {m : Ma} {fm : List Nat} {w : World} (h : RdGr w vg g) (h' : RdGr w vp pt) (hm : OwMa w vm m fm) (ok : OkG g) (ok' : OkG pt) (okm : OkMa m) (hT : (monoB g && monoB pt) = true) (hQ : maB g pt m = true) :
  Calls Try.prog 6 #[vg, vp, vm] w fun e w' => ∃ v' fp, e = .returned (.tuple #[v', .bool true]) ∧ OwGr w' v' (imgG pt m) fp ∧ FreshL w.heap.size fp ∧ Below w.heap.size w w' := by
 have h1 := hT
 rw [Bool.and_eq_true] at h1
 obtain ⟨n, hMo⟩ := mono_of h1.1
 obtain ⟨n', hMo'⟩ := mono_of h1.2
 have hie := img_eq hMo.hn (monoB_gr h1.2) hQ
 have hpk := partG_ok ok' hMo.hn (monoB_gr h1.2) hQ
 obtain ⟨A, n0, c, B, m0, d, C, k0', e0, rfl⟩ := h.shape
 obtain ⟨A', n0', c', B', m0', d', C', k0'', e0', rfl⟩ := h'.shape
 obtain ⟨X, nu, x, Y, nv, y, rfl⟩ := hm.shape
 obtain ⟨eu, ev, hI1, hI2⟩ := ma_parts hm
 have hgn := hMo.hn
 rw [hgn] at h ⊢
 obtain ⟨z', hz'⟩ : ∃ z, z = pt.1 := ⟨_, rfl⟩
 rw [← hz'] at h' ⊢
 obtain ⟨W, hW, bW, k3, k4, k5, k6⟩ := im_allocs4 w (.cells #[.int .i64 (n : Int), .slice A n0 c, .slice B m0 d, .slice C k0' e0] tGr) (.cells #[.int .i64 z', .slice A' n0' c', .slice B' m0' d', .slice C' k0'' e0'] tGr) (.cells #[.slice X nu x, .slice Y nv y] tMa) (.cells #[.int .i64 0, .slice none 0 0, .slice none 0 0, .slice none 0 0] tGr)
 have hG := mtTwo_any W (h.below bW) (h'.below bW) ok ok'
 rw [hT] at hG
 have hM := fun (W' : World) (hb : Below W.heap.size W W') => mtIs_any W' ((h.below bW).below hb) ((h'.below bW).below hb) ((hm.below bW).below hb) (monoB_gr h1.1) (monoB_gr h1.2) okm
 simp only [hQ] at hM
 have hbu : nu ≤ 1048576 := by rw [← eu]; exact okm.1
 have hbv : nv ≤ 1048576 := by rw [← ev]; exact okm.2.1
 have hH1 := fun (W' : World) (a : Int) (hb : Below W.heap.size W W') => l1Has_any X x nu m.1 a W' (((hI1.below bW).below hb).rd) eu hbu
 have hH2 := fun (W' : World) (a : Int) (hb : Below W.heap.size W W') => l1Has_any Y y nv m.2 a W' (((hI2.below bW).below hb).rd) ev hbv
 have hnb : n ≤ 1048576 := by
  have := monoB_gr h1.1
  unfold grB t_inB at this
  simp only [Bool.and_eq_true, decide_eq_true_eq] at this
  omega
 obtain ⟨⟨c0, c1, c2, c3⟩, c4, c5, c6, c7⟩ := t_box4 k3
 obtain ⟨⟨d0, d1, d2, d3⟩, d4, d5, d6, d7⟩ := t_box4 k4
 have bW_h := lH bW; have k3_h := lH k3; have k4_h := lH k4; have k5_h := lH k5; have k6_h := lH k6; have hG_h := lH hG; have hM_h := lH hM; have hH1_h := lH hH1; have hH2_h := lH hH2; have hnb_h := lH hnb; have hz'_h := lH hz'; have h_h := lH h; have h'_h := lH h'; have hm_h := lH hm; have ok_h := lH ok; have ok'_h := lH ok'; have okm_h := lH okm; have hT_h := lH hT; have hQ_h := lH hQ; have hMo_h := lH hMo; have hMo'_h := lH hMo'; have hie_h := lH hie; have hpk_h := lH hpk; have hgn_h := lH hgn; have eu_h := lH eu; have ev_h := lH ev; have hI1_h := lH hI1; have hI2_h := lH hI2; have hbu_h := lH hbu; have hbv_h := lH hbv; have h1_h := lH h1; clear bW k3 k4 k5 k6 hG hM hH1 hH2 hnb hz' h h' hm ok ok' okm hT hQ hMo hMo' hie hpk hgn eu ev hI1 hI2 hbu hbv h1
 go_enter Try.func6, Try.ntmps6
 go_upto_region 1 with (fail)
 rw [← hW]
 clear hW
 go_wp2_with (fail)
 refine (hG_h.out).mono ?_
 rintro e w1 ⟨rfl, hb1⟩
 have k3a := t_box_below k3_h.out hb1
 have k4a := t_box_below k4_h.out hb1
 have k5a := t_box_below k5_h.out hb1
 clear c0 c1 c2 c3 c4 c5 c6 c7 d0 d1 d2 d3 d4 d5 d6 d7
 obtain ⟨⟨c0, c1, c2, c3⟩, c4, c5, c6, c7⟩ := t_box4 k3a
 obtain ⟨⟨d0, d1, d2, d3⟩, d4, d5, d6, d7⟩ := t_box4 k4a
 obtain ⟨⟨i0, i1⟩, i2, i3⟩ := t_box2 k5a
 have hMq := hM_h.out w1 hb1
 clear k3a k4a k5a; have hMq_h := lH hMq; have hb1_h := lH hb1; clear hMq hb1
 go_wp2_with (fail)
 refine (hMq_h.out).mono ?_
 rintro e w2 ⟨rfl, hb2⟩
 have hb12 := below_trans hb1_h.out hb2 hb1_h.out.size
 have k3b := t_box_below k3_h.out hb12
 clear hb2 c0 c1 c2 c3 c4 c5 c6 c7 d0 d1 d2 d3 d4 d5 d6 d7 i0 i1 i2 i3
 obtain ⟨⟨c0, c1, c2, c3⟩, c4, c5, c6, c7⟩ := t_box4 k3b
 clear k3b; have hb12_h := lH hb12; clear hb12
 have hnb := hnb_h.out
 go_wp2_with (at_make; refine wpList_make_Sl _ rfl _ _ _ rfl tInt Try.underlying23 info_int n n rfl rfl rfl rfl (Nat.le_refl _) (by omega) (by unfold maxLen; omega) ?_; intro G w3 hs0 hGb hb3)
 have hG1 : IS w3 (some G) n (List.replicate n 0) := IS.of_made hs0
 have hb13 := below_trans hb12_h.out hb3 hb12_h.out.size
 have hGW : W.heap.size ≤ G.block := by have := hb12_h.out.size; omega
 clear hs0 hb3 c0 c1 c2 c3 c4 c5 c6 c7; have hG1_h := lH hG1; have hb13_h := lH hb13; clear hG1 hb13
 go_wp2_with (fail)
 go_loopw [31, 9] (fun i u wr => ∃ k : Nat, k ≤ n ∧ i = .int .i64 k ∧ u = .int .i64 (rankL m.1 k : Int) ∧ IS wr (some G) n (numL m.1 k ++ List.replicate (n - k) 0) ∧ Below W.heap.size W wr) (fun i _ _ => n - (intOf i).toNat)
 case atStart => exact ⟨0, Nat.zero_le _, rfl, rfl, by simpa [numL] using hG1_h.out, hb13_h.out⟩
 case round =>
  clear hG1_h hb13_h
  obtain ⟨k, hk, rfl, rfl, hIS, hB1⟩ := hrel
  by_cases hlt : k < n
  · have hlen : (numL m.1 k ++ List.replicate (n - k) (0 : Int)).length = n := by rw [List.length_append, List.length_replicate, numL_len]; omega
    have k5c := t_box_below k5_h.out hB1
    obtain ⟨⟨i0, i1⟩, i2, i3⟩ := t_box2 k5c
    have hq := hH1_h.out wr (k : Int) hB1
    have hkI : (k : Int) < (n : Int) := by omega
    have hns := numL_succ m.1 k
    have hrs := rankL_succ m.1 k
    obtain ⟨H, hH⟩ : ∃ H, m.1.contains (k : Int) = H := ⟨_, rfl⟩
    rw [hH] at hq hns hrs
    have hrle := rankL_le m.1 k
    obtain ⟨r, hr⟩ : ∃ r, rankL m.1 k = r := ⟨_, rfl⟩
    rw [hr] at hrle
    cases H
    case false =>
     have hIS2 : IS wr (some G) n (numL m.1 (k + 1) ++ List.replicate (n - (k + 1)) 0) := by
      rw [hns]
      have e : List.replicate (n - k) (0 : Int) = 0 :: List.replicate (n - (k + 1)) 0 := by rw [show n - k = (n - (k + 1)) + 1 by omega, List.replicate_succ]
      rw [e] at hIS
      rw [List.append_assoc]; exact hIS
     have hr2 : rankL m.1 (k + 1) = rankL m.1 k := by rw [hrs]; rfl
     clear hIS hns hrs hH hlen k5c
     rw [hr] at hr2 ⊢
     have hIS2_h := lH hIS2; have hr2_h := lH hr2; have hB1_h := lH hB1; have hq_h := lH hq; have hr_h := lH hr; clear hIS2 hr2 hB1 hq hr
     go_wp2_with (fail)
     refine (hq_h.out).mono ?_
     rintro e wq ⟨rfl, rfl⟩
     go_wp2_with (fail)
     go_roundw
     case rel => exact ⟨k + 1, by omega, by go_num, by rw [hr2_h.out], hIS2_h.out, hB1_h.out⟩
     case measure => simp [intOf]; omega
    case true =>
     have hset := hIS.set (ad := G) rfl (j := k) (rankL m.1 k : Int) (by rw [hlen]; exact hlt)
     rw [set_numL hlt] at hset
     have hIS2e : numL m.1 (k + 1) ++ List.replicate (n - (k + 1)) (0 : Int) = numL m.1 k ++ ((rankL m.1 k : Int) :: List.replicate (n - (k + 1)) 0) := by rw [hns, List.append_assoc]; rfl
     rw [← hIS2e] at hset
     obtain ⟨ad, y, hA, hy, _, hc', hf'⟩ := hIS.at_ (j := k) (by rw [hlen]; exact hlt)
     obtain rfl := Option.some.inj hA
     have hfz := hf' k
     have hb' := hB1.setCell (p := G.add k) (by rw [block_of_add]; exact hGW) (.int .i64 (rankL m.1 k : Int))
     have hr2 : rankL m.1 (k + 1) = rankL m.1 k + 1 := by rw [hrs]; rfl
     clear hf' hIS hns hrs hH hlen k5c hy hB1 hA hIS2e
     rw [hr] at hr2 hset hb' ⊢
     have hset_h := lH hset; have hr2_h := lH hr2; have hb'_h := lH hb'; have hq_h := lH hq; have hr_h := lH hr; clear hset hr2 hb' hq hr
     go_wp2_with (fail)
     refine (hq_h.out).mono ?_
     rintro e wq ⟨rfl, rfl⟩
     go_wp2_with (fail)
     go_roundw
     case rel => exact ⟨k + 1, by omega, by go_num, by rw [hr2_h.out]; go_num, hset_h.out, hb'_h.out⟩
     case measure => simp [intOf]; omega
  · obtain rfl : n = k := by omega
    rw [Nat.sub_self, List.replicate_zero, List.append_nil] at hIS
    obtain ⟨W0, rfl⟩ : ∃ x, x = wr := ⟨_, rfl⟩
    have k3c := t_box_below k3_h.out hB1
    have k4c := t_box_below k4_h.out hB1
    have k5c := t_box_below k5_h.out hB1
    have hk := And.intro k3c (And.intro k4c k5c)
    have hBW := below_trans bW_h.out hB1 bW_h.out.size
    obtain ⟨hs', e1', e2', hE', l2', hR2', l3', hR3'⟩ := gr_parts h'_h.out
    obtain ⟨q1, q2, ⟨b1, nd1⟩, _⟩ := maB_parts hQ_h.out
    have hq : ∀ x, x ∈ t_allW pt → 0 ≤ x ∧ x < (nu : Int) := by
     have := inW_iff.1 (im_inW hMo'_h.out)
     rw [← hMo'_h.out.hn, ← q1, eu_h.out] at this
     exact this
    have hC1 := fun (W' : World) (hb : Below w.heap.size w W') => hgList_any B' X d' x m0' nu pt.2.2.1 m.1 W' (hR2'.below hb) (hI1_h.out.below hb).rd l2' eu_h.out (fun y hy => hq y (List.mem_append_left _ hy)) (by rw [← l2']; exact ok'_h.out.1.2.1)
    have hC2 := fun (W' : World) (hb : Below w.heap.size w W') => hgList_any C' X e0' x k0'' nu pt.2.2.2 m.1 W' (hR3'.below hb) (hI1_h.out.below hb).rd l3' eu_h.out (fun y hy => hq y (List.mem_append_right _ (List.mem_append_left _ hy))) (by rw [← l3']; exact ok'_h.out.1.2.2)
    clear k3c k4c k5c hR2' hR3' hE' b1 nd1 q1 q2 hq e1' e2' l2' l3'; have hIS_h := lH hIS; have hB1_h := lH hB1; have hk_h := lH hk; have hBW_h := lH hBW; have hC1_h := lH hC1; have hC2_h := lH hC2; clear hIS hB1 hk hBW hC1 hC2
    go_wp2_with (fail)
    go_cut [11] (fun sv wx => ∃ (bx : Nat) (P Q : Hd), sv = .pointer (some ⟨bx, 0, none⟩) ∧ wx.heap[bx]? = some (.cells #[.int .i64 (n : Int), .slice none 0 0, .slice P.1 m0' P.2.1, .slice Q.1 k0'' Q.2.1] tGr) ∧ P.2.2 = mapL m.1 pt.2.2.1 ∧ Q.2.2 = mapL m.1 pt.2.2.2 ∧ OwLs wx [] [P, Q] ∧ (∀ x, x ∈ fpR [P, Q] → W0.heap.size ≤ x ∧ x ≠ bx) ∧ W0.heap.size ≤ bx ∧ Below W0.heap.size W0 wx)
    case first =>
     refine beginH (fun w' => w'.heap[w.heap.size]? = some (.cells #[.int .i64 (n : Int), .slice A n0 c, .slice B m0 d, .slice C k0' e0] tGr) ∧ w'.heap[w.heap.size + 1]? = some (.cells #[.int .i64 z', .slice A' n0' c', .slice B' m0' d', .slice C' k0'' e0'] tGr) ∧ w'.heap[w.heap.size + 1 + 1]? = some (.cells #[.slice X nu x, .slice Y nv y] tMa)) (by kernel_rfl) ?_
     have hbd : Below W0.heap.size W0 W0.drew := below_drew (Below.refl _ _)
     generalize W0.drew = W1 at hbd ⊢
     have k0d := box3_below hk_h.out hbd
     have hBd := below_trans hBW_h.out hbd hBW_h.out.size
     have hbd_h := lH hbd; have k0d_h := lH k0d; have hBd_h := lH hBd; clear hbd k0d hBd
     refine tkH 0 ?_ rfl k0d_h.out (fun W' hW' => ?_) ?_; rotate_left; · (obtain ⟨⟨c0, c1, c2, c3⟩, c4, c5, c6, c7⟩ := t_box4 hW'.1; obtain ⟨⟨d0, d1, d2, d3⟩, d4, d5, d6, d7⟩ := t_box4 hW'.2.1; obtain ⟨⟨i0, i1⟩, i2, i3⟩ := t_box2 hW'.2.2; clear hW'; go_simp; first | done | with_reducible rfl)
     simp only [Act.put, nS]
     refine tkH 1 ?_ rfl k0d_h.out (fun W' hW' => ?_) ?_; rotate_left; · (obtain ⟨⟨c0, c1, c2, c3⟩, c4, c5, c6, c7⟩ := t_box4 hW'.1; obtain ⟨⟨d0, d1, d2, d3⟩, d4, d5, d6, d7⟩ := t_box4 hW'.2.1; obtain ⟨⟨i0, i1⟩, i2, i3⟩ := t_box2 hW'.2.2; clear hW'; go_simp; first | done | with_reducible rfl)
     simp only [Act.put, nS]
     refine tkH 2 ?_ rfl k0d_h.out (fun W' hW' => ?_) ?_; rotate_left; · (obtain ⟨⟨c0, c1, c2, c3⟩, c4, c5, c6, c7⟩ := t_box4 hW'.1; obtain ⟨⟨d0, d1, d2, d3⟩, d4, d5, d6, d7⟩ := t_box4 hW'.2.1; obtain ⟨⟨i0, i1⟩, i2, i3⟩ := t_box2 hW'.2.2; clear hW'; go_simp; first | done | with_reducible rfl)
     simp only [Act.put, nS]
     refine tkH 3 ?_ rfl k0d_h.out (fun W' hW' => ?_) ?_; rotate_left; · (obtain ⟨⟨c0, c1, c2, c3⟩, c4, c5, c6, c7⟩ := t_box4 hW'.1; obtain ⟨⟨d0, d1, d2, d3⟩, d4, d5, d6, d7⟩ := t_box4 hW'.2.1; obtain ⟨⟨i0, i1⟩, i2, i3⟩ := t_box2 hW'.2.2; clear hW'; go_simp; first | done | with_reducible rfl)
     simp only [Act.put, nS]
     refine tkH 4 ?_ rfl k0d_h.out (fun W' hW' => ?_) ?_; rotate_left; · (obtain ⟨⟨c0, c1, c2, c3⟩, c4, c5, c6, c7⟩ := t_box4 hW'.1; obtain ⟨⟨d0, d1, d2, d3⟩, d4, d5, d6, d7⟩ := t_box4 hW'.2.1; obtain ⟨⟨i0, i1⟩, i2, i3⟩ := t_box2 hW'.2.2; clear hW'; go_simp; first | done | with_reducible rfl)
     simp only [Act.put, nS]
     refine tkH 5 ?_ rfl k0d_h.out (fun W' hW' => ?_) ?_; rotate_left; · (obtain ⟨⟨c0, c1, c2, c3⟩, c4, c5, c6, c7⟩ := t_box4 hW'.1; obtain ⟨⟨d0, d1, d2, d3⟩, d4, d5, d6, d7⟩ := t_box4 hW'.2.1; obtain ⟨⟨i0, i1⟩, i2, i3⟩ := t_box2 hW'.2.2; clear hW'; go_simp; first | done | with_reducible rfl)
     simp only [Act.put, nS]
     refine tkH 7 ?_ rfl k0d_h.out (fun W' hW' => ?_) ?_; rotate_left; · (obtain ⟨⟨c0, c1, c2, c3⟩, c4, c5, c6, c7⟩ := t_box4 hW'.1; obtain ⟨⟨d0, d1, d2, d3⟩, d4, d5, d6, d7⟩ := t_box4 hW'.2.1; obtain ⟨⟨i0, i1⟩, i2, i3⟩ := t_box2 hW'.2.2; clear hW'; go_simp; first | done | with_reducible rfl)
     simp only [Act.put, nS]
     refine tkH 8 ?_ rfl k0d_h.out (fun W' hW' => ?_) ?_; rotate_left; · (obtain ⟨⟨c0, c1, c2, c3⟩, c4, c5, c6, c7⟩ := t_box4 hW'.1; obtain ⟨⟨d0, d1, d2, d3⟩, d4, d5, d6, d7⟩ := t_box4 hW'.2.1; obtain ⟨⟨i0, i1⟩, i2, i3⟩ := t_box2 hW'.2.2; clear hW'; go_simp; first | done | with_reducible rfl)
     simp only [Act.put, nS]
     refine tkH 9 ?_ rfl k0d_h.out (fun W' hW' => ?_) ?_; rotate_left; · (obtain ⟨⟨c0, c1, c2, c3⟩, c4, c5, c6, c7⟩ := t_box4 hW'.1; obtain ⟨⟨d0, d1, d2, d3⟩, d4, d5, d6, d7⟩ := t_box4 hW'.2.1; obtain ⟨⟨i0, i1⟩, i2, i3⟩ := t_box2 hW'.2.2; clear hW'; go_simp; first | done | with_reducible rfl)
     simp only [Act.put, nS]
     refine tkH 10 ?_ rfl k0d_h.out (fun W' hW' => ?_) ?_; rotate_left; · (obtain ⟨⟨c0, c1, c2, c3⟩, c4, c5, c6, c7⟩ := t_box4 hW'.1; obtain ⟨⟨d0, d1, d2, d3⟩, d4, d5, d6, d7⟩ := t_box4 hW'.2.1; obtain ⟨⟨i0, i1⟩, i2, i3⟩ := t_box2 hW'.2.2; clear hW'; go_simp; first | done | with_reducible rfl)
     simp only [Act.put, nS]
     refine callOrH 6 13 (f := ?fo1) (args := ?argso1) (vj := ?vjo1) (wj := ?wjo1) rfl rfl (by kernel_rfl) (by rfl) (by rfl) ?hruno1 ?hrunjo1 ?h1o1 ?hSjo1 ?h2o1
     case hruno1 => (go_simp; first | done | with_reducible rfl | (constructor <;> with_reducible rfl))
     case hrunjo1 => (go_simp; first | done | with_reducible rfl | (constructor <;> with_reducible rfl))
     case hSjo1 => exact (box3_below k0d_h.out (t_below_alloc _ _))
     case h1o1 =>
      refine (hC1_h.out W1 hBd_h.out).mono ?_
      rintro e w2 ⟨A2, c2, rfl, hO2⟩
      have hB2 := below_trans hBd_h.out hO2.below_ hBd_h.out.size
      have k2 := box3_below k0d_h.out hO2.below_
      have hW2 := below_trans hbd_h.out hO2.below_ hbd_h.out.size
      refine ⟨_, rfl, k2, ?_⟩
      have hO2_h := lH hO2; have hB2_h := lH hB2; have k2_h := lH k2; have hW2_h := lH hW2; clear hO2 hB2 k2 hW2
      simp only [Act.put, nS]
      refine callOrH 11 13 (f := ?fo2) (args := ?argso2) (vj := ?vjo2) (wj := ?wjo2) rfl rfl (by kernel_rfl) (by rfl) (by rfl) ?hruno2 ?hrunjo2 ?h1o2 ?hSjo2 ?h2o2
      case hruno2 => (go_simp; first | done | with_reducible rfl | (constructor <;> with_reducible rfl))
      case hrunjo2 => (go_simp; first | done | with_reducible rfl | (constructor <;> with_reducible rfl))
      case hSjo2 => exact (box3_below k2_h.out (t_below_alloc _ _))
      case h1o2 =>
       refine (hC2_h.out w2 hB2_h.out).mono ?_
       rintro e w3 ⟨A3, c3, rfl, hO3⟩
       have k3 := box3_below k2_h.out hO3.below_
       have hW3 := below_trans hW2_h.out hO3.below_ hW2_h.out.size
       have hLs := OwLs.two (x := (A2, c2, mapL m.1 pt.2.2.1)) (y := (A3, c3, mapL m.1 pt.2.2.2)) hO2_h.out.is hO3.below_ hO3.is hO3.new
       have hlt2 := hLs.lt
       have hfr : ∀ x, x ∈ fpR [((A2, c2, mapL m.1 pt.2.2.1) : Hd), (A3, c3, mapL m.1 pt.2.2.2)] → W0.heap.size ≤ x ∧ x ≠ w3.heap.size := fun x hx => by
        have h1 := hlt2 x hx
        rw [fpR_cons, fpR_cons] at hx
        rcases List.mem_append.1 hx with hx | hx
        · have := hO2_h.out.new x hx; have := hbd_h.out.size; omega
        · rcases List.mem_append.1 hx with hx | hx
          · have := hO3.new x hx; have := hW2_h.out.size; omega
          · simp [fpR] at hx
       refine ⟨_, rfl, k3, ?_⟩
       obtain ⟨W5, hW5, bW5, x5⟩ := alloc_box1g w3 (.cells #[.int .i64 0, .slice none 0 0, .slice none 0 0, .slice none 0 0] tGr)
       obtain ⟨s1, s2⟩ := set4 (a := .int .i64 (n : Int)) (b := .slice none 0 0) (c := .slice A2 m0' c2) (d := .slice A3 k0'' c3) x5
       have k5 := box3_below k3 bW5
       have k6 := box3_keeps k5 s2 (by have := t_box_lt k3.2.2; omega) (by have := t_box_lt k3.2.2; omega) (by have := t_box_lt k3.2.2; omega)
       have hLs5 := (hLs.below bW5).keeps s2 (fun x hx e => (hfr x hx).2 e)
       have hBf := below_keeps (below_trans hW3 bW5 hW3.size) s2 (Nat.le_trans hW3.size bW5.size) (fun x hx => by rw [hx]; exact hW3.size)
       have hge := hW3.size
       obtain ⟨⟨y0, y1, y2, y3⟩, y4, y5, y6, y7⟩ := t_box4 x5
       have k3_h := lH k3; have hLs5_h := lH hLs5; have hBf_h := lH hBf; have s1_h := lH s1; have s2_h := lH s2; have x5_h := lH x5; have k5_h := lH k5; have k6_h := lH k6; have hfr_h := lH hfr; have hge_h := lH hge; clear k3 hLs5 hBf s1 s2 x5 k5 k6 hfr hge; clear hW3 hLs hlt2 bW5 hO3
       simp only [Act.put, nS]
       refine tkH 12 ?_ rfl k3_h.out (fun W' hW' => ?_) ?_; rotate_left; · (skip; clear hW'; go_simp; first | done | with_reducible rfl)
       simp only [Act.put, nS]
       refine oneH 13 rfl (by kernel_rfl) (by rfl) (fun K hK => ?_)
       go_simp
       rw [← hW5]
       refine hK _ _ k5_h.out ?_
       clear hK K hW5
       refine oneH 14 rfl (by kernel_rfl) (by rfl) (fun K hK => ?_)
       go_simp
       refine hK _ _ k6_h.out ?_
       clear hK K
       refine doneH (by kernel_rfl) ?_
       go_wp2_with (fail)
       go_meet
       exact ⟨w3.heap.size, (A2, c2, mapL m.1 pt.2.2.1), (A3, c3, mapL m.1 pt.2.2.2), rfl, s1_h.out, rfl, rfl, hLs5_h.out, hfr_h.out, hge_h.out, hBf_h.out⟩
      case h2o2 =>
       have bA := t_below_alloc w2 (.cells #[.int .i64 0, .slice none 0 0, .slice none 0 0, .slice none 0 0] tGr)
       have kA := heap_alloc_new w2 (.cells #[.int .i64 0, .slice none 0 0, .slice none 0 0, .slice none 0 0] tGr)
       have hB3 := below_trans hB2_h.out bA hB2_h.out.size
       have hWA := below_trans hW2_h.out bA hW2_h.out.size
       have k2a := box3_below k2_h.out bA
       have hzA : (w2.alloc (.cells #[.int .i64 0, .slice none 0 0, .slice none 0 0, .slice none 0 0] tGr)).heap.size = w2.heap.size + 1 := World.size_alloc _ _
       simp only [Act.put, nS]
       refine' callH 11 (f := _) (args := _) rfl (by kernel_rfl) (by rfl) ?_ ?_; rotate_left 2; · (go_simp; first | done | with_reducible rfl | (constructor <;> with_reducible rfl))
       refine (hC2_h.out _ hB3).mono ?_
       rintro e w3 ⟨A3, c3, rfl, hO3⟩
       have k3 := box3_below k2a hO3.below_
       have kb := t_box_below kA hO3.below_
       have hW3 := below_trans hWA hO3.below_ hWA.size
       have hLs := OwLs.two (x := (A2, c2, mapL m.1 pt.2.2.1)) (y := (A3, c3, mapL m.1 pt.2.2.2)) (hO2_h.out.is.below bA) hO3.below_ hO3.is hO3.new
       have hws := hW2_h.out.size
       have hzk := t_box_lt k2_h.out.2.2
       have hfr : ∀ x, x ∈ fpR [((A2, c2, mapL m.1 pt.2.2.1) : Hd), (A3, c3, mapL m.1 pt.2.2.2)] → W0.heap.size ≤ x ∧ x ≠ w2.heap.size := fun x hx => by
        rw [fpR_cons, fpR_cons] at hx
        rcases List.mem_append.1 hx with hx | hx
        · have h1 := hO2_h.out.is.lt x hx; have := hO2_h.out.new x hx; have := hbd_h.out.size; omega
        · rcases List.mem_append.1 hx with hx | hx
          · have := hO3.new x hx; omega
          · simp [fpR] at hx
       obtain ⟨s1, s2⟩ := set4 (a := .int .i64 (n : Int)) (b := .slice none 0 0) (c := .slice A2 m0' c2) (d := .slice A3 k0'' c3) kb
       have k6 := box3_keeps k3 s2 (by omega) (by omega) (by omega)
       have hLs5 := hLs.keeps s2 (fun x hx e => (hfr x hx).2 e)
       have hBf := below_keeps hW3 s2 hW3.size (fun x hx => by omega)
       refine ⟨_, rfl, k3, ?_⟩
       obtain ⟨⟨y0, y1, y2, y3⟩, y4, y5, y6, y7⟩ := t_box4 kb
       have k3_h := lH k3; have hLs5_h := lH hLs5; have hBf_h := lH hBf; have s1_h := lH s1; have s2_h := lH s2; have kb_h := lH kb; have k6_h := lH k6; have hfr_h := lH hfr; clear k3 hLs5 hBf s1 s2 kb k6 hfr; clear hW3 hLs hO3
       simp only [Act.put, nS]
       refine tkH 12 ?_ rfl k3_h.out (fun W' hW' => ?_) ?_; rotate_left; · (skip; clear hW'; go_simp; first | done | with_reducible rfl)
       simp only [Act.put, nS]
       refine oneH 14 rfl (by kernel_rfl) (by rfl) (fun K hK => ?_)
       go_simp
       refine hK _ _ k6_h.out ?_
       clear hK K
       refine doneH (by kernel_rfl) ?_
       go_wp2_with (fail)
       go_meet
       exact ⟨w2.heap.size, (A2, c2, mapL m.1 pt.2.2.1), (A3, c3, mapL m.1 pt.2.2.2), rfl, s1_h.out, rfl, rfl, hLs5_h.out, hfr_h.out, by omega, hBf_h.out⟩
     case h2o1 =>
      have bA := t_below_alloc W1 (.cells #[.int .i64 0, .slice none 0 0, .slice none 0 0, .slice none 0 0] tGr)
      have kA := heap_alloc_new W1 (.cells #[.int .i64 0, .slice none 0 0, .slice none 0 0, .slice none 0 0] tGr)
      have hBa := below_trans hBd_h.out bA hBd_h.out.size
      have hWA := below_trans hbd_h.out bA hbd_h.out.size
      have k2a := box3_below k0d_h.out bA
      have hzA : (W1.alloc (.cells #[.int .i64 0, .slice none 0 0, .slice none 0 0, .slice none 0 0] tGr)).heap.size = W1.heap.size + 1 := World.size_alloc _ _
      simp only [Act.put, nS]
      refine' callH 6 (f := _) (args := _) rfl (by kernel_rfl) (by rfl) ?_ ?_; rotate_left 2; · (go_simp; first | done | with_reducible rfl | (constructor <;> with_reducible rfl))
      refine (hC1_h.out _ hBa).mono ?_
      rintro e w2 ⟨A2, c2, rfl, hO2⟩
      have hB2 := below_trans hBa hO2.below_ hBa.size
      have k2 := box3_below k2a hO2.below_
      have kb2 := t_box_below kA hO2.below_
      have hW2 := below_trans hWA hO2.below_ hWA.size
      refine ⟨_, rfl, k2, ?_⟩
      simp only [Act.put, nS]
      refine' callH 11 (f := _) (args := _) rfl (by kernel_rfl) (by rfl) ?_ ?_; rotate_left 2; · (go_simp; first | done | with_reducible rfl | (constructor <;> with_reducible rfl))
      refine (hC2_h.out _ hB2).mono ?_
      rintro e w3 ⟨A3, c3, rfl, hO3⟩
      have k3 := box3_below k2 hO3.below_
      have kb := t_box_below kb2 hO3.below_
      have hW3 := below_trans hW2 hO3.below_ hW2.size
      have hLs := OwLs.two (x := (A2, c2, mapL m.1 pt.2.2.1)) (y := (A3, c3, mapL m.1 pt.2.2.2)) hO2.is hO3.below_ hO3.is hO3.new
      have hws := hbd_h.out.size
      have hzk := t_box_lt k0d_h.out.2.2
      have hws2 := hO2.below_.size
      have hfr : ∀ x, x ∈ fpR [((A2, c2, mapL m.1 pt.2.2.1) : Hd), (A3, c3, mapL m.1 pt.2.2.2)] → W0.heap.size ≤ x ∧ x ≠ W1.heap.size := fun x hx => by
       rw [fpR_cons, fpR_cons] at hx
       rcases List.mem_append.1 hx with hx | hx
       · have := hO2.new x hx; omega
       · rcases List.mem_append.1 hx with hx | hx
         · have := hO3.new x hx; omega
         · simp [fpR] at hx
      obtain ⟨s1, s2⟩ := set4 (a := .int .i64 (n : Int)) (b := .slice none 0 0) (c := .slice A2 m0' c2) (d := .slice A3 k0'' c3) kb
      have k6 := box3_keeps k3 s2 (by omega) (by omega) (by omega)
      have hLs5 := hLs.keeps s2 (fun x hx e => (hfr x hx).2 e)
      have hBf := below_keeps hW3 s2 hW3.size (fun x hx => by omega)
      refine ⟨_, rfl, k3, ?_⟩
      obtain ⟨⟨y0, y1, y2, y3⟩, y4, y5, y6, y7⟩ := t_box4 kb
      have k3_h := lH k3; have hLs5_h := lH hLs5; have hBf_h := lH hBf; have s1_h := lH s1; have s2_h := lH s2; have kb_h := lH kb; have k6_h := lH k6; have hfr_h := lH hfr; clear k3 hLs5 hBf s1 s2 kb k6 hfr; clear hW3 hLs hO3
      simp only [Act.put, nS]
      refine tkH 12 ?_ rfl k3_h.out (fun W' hW' => ?_) ?_; rotate_left; · (skip; clear hW'; go_simp; first | done | with_reducible rfl)
      simp only [Act.put, nS]
      refine oneH 14 rfl (by kernel_rfl) (by rfl) (fun K hK => ?_)
      go_simp
      refine hK _ _ k6_h.out ?_
      clear hK K
      refine doneH (by kernel_rfl) ?_
      go_wp2_with (fail)
      go_meet
      exact ⟨W1.heap.size, (A2, c2, mapL m.1 pt.2.2.1), (A3, c3, mapL m.1 pt.2.2.2), rfl, s1_h.out, rfl, rfl, hLs5_h.out, hfr_h.out, by omega, hBf_h.out⟩
    case rest =>
     obtain ⟨bx, ⟨X1, X2, X3⟩, ⟨Y1, Y2, Y3⟩, rfl, kx, rfl, rfl, hLs, hfr, hbx, hBc⟩ := hcut
     obtain ⟨w4, rfl⟩ : ∃ x, x = wc := ⟨_, rfl⟩
     have k3d := t_box_below hk_h.out.1 hBc
     have k5d := t_box_below hk_h.out.2.2 hBc
     have hX := hLs.rows (X1, X2, mapL m.1 pt.2.2.1) (by simp)
     have hY := hLs.rows (Y1, Y2, mapL m.1 pt.2.2.2) (by simp)
     have hXb : ∀ x, x ∈ fpA X1 → x ≠ bx := fun x hx => (hfr x (by simp [fpR, hx])).2
     have hYb : ∀ x, x ∈ fpA Y1 → x ≠ bx := fun x hx => (hfr x (by simp [fpR, hx])).2
     obtain ⟨hs, e1, e2, hE, -⟩ := gr_parts h_h.out
     obtain ⟨⟨c0, c1, c2, c3⟩, c4, c5, c6, c7⟩ := t_box4 k3d
     have hbxl := t_box_lt kx
     have k3d_h := lH k3d; have k5d_h := lH k5d; have kx_h := lH kx; have hLs_h := lH hLs; have hfr_h := lH hfr; have hBc_h := lH hBc; have hX_h := lH hX; have hY_h := lH hY; have hXb_h := lH hXb; have hYb_h := lH hYb; have e1_h := lH e1; have e2_h := lH e2; have hE_h := lH hE; have hbx_h := lH hbx; have hbxl_h := lH hbxl; clear k3d k5d kx hLs hfr hBc hX hY hXb hYb e1 e2 hE hbx hbxl
     go_wp2_with (fail)
     clear c0 c1 c2 c3 c4 c5 c6 c7
     go_loopw [61] (fun i wr => ∃ (k q : Nat) (A1 : Option Addr) (a1 : Nat) (ys : List EHd), k ≤ n0 ∧ i = .int .i64 k ∧ ys.length = q ∧ q ≤ k ∧ ys.map egOf = takE m.2 g.2.1 k ∧ (∀ y, y ∈ ys → y ∈ hs) ∧ wr.heap[bx]? = some (.cells #[.int .i64 (n : Int), .slice A1 q a1, .slice X1 m0' X2, .slice Y1 k0'' Y2] tGr) ∧ Sl wr tEd 4 A1 q a1 (ecs ys) ∧ IS wr X1 X2 (mapL m.1 pt.2.2.1) ∧ IS wr Y1 Y2 (mapL m.1 pt.2.2.2) ∧ (∀ x, x ∈ fpA A1 → W0.heap.size ≤ x ∧ x ≠ bx) ∧ Below W0.heap.size W0 wr) (fun i _ => n0 - (intOf i).toNat)
     case atStart => exact ⟨0, 0, none, 0, [], Nat.zero_le _, rfl, rfl, Nat.le_refl _, rfl, fun y hy => (by cases hy), kx_h.out, Sl.nil _ _ _, hX_h.out, hY_h.out, fun x hx => (by cases hx), hBc_h.out⟩
     case round =>
      clear kx_h hLs_h hfr_h hBc_h k3d_h k5d_h hX_h hY_h
      obtain ⟨k, q, A1, a1, ys, hk', rfl, hyl, hqk, hye, hym, kx, hsl, hX, hY, hfr, hBr⟩ := hrel
      by_cases hlt : k < n0
      · have hwr := below_trans bW_h.out (below_trans hB1_h.out hBr hB1_h.out.size) bW_h.out.size
        have hWr := below_trans hB1_h.out hBr hB1_h.out.size
        obtain ⟨ad, κ, vv, B1, b1, s1, C1, b2, t1, rfl, hn, ⟨d0, d1, d2, d3⟩, hr1, hr2⟩ := (hE_h.out.below hwr).at_ (j := k) (by rw [e2_h.out]; exact hlt)
        have hek : g.2.1[k]? = some (κ, vv, s1, t1) := by rw [e1_h.out, List.getElem?_map, hn]; rfl
        have hkI : (k : Int) < (n0 : Int) := by omega
        have hn0 : n0 ≤ 1048576 := by rw [← e2_h.out, ← List.length_map (f := egOf), ← e1_h.out]; exact ok_h.out.1.1
        obtain ⟨wo, rfl⟩ : ∃ x, x = wr := ⟨_, rfl⟩
        obtain ⟨p1, hp1⟩ : ∃ p1, p1 = s1.length := ⟨_, rfl⟩
        obtain ⟨r1, hr1'⟩ : ∃ r1, r1 = t1.length := ⟨_, rfl⟩
        rw [← hp1] at d2
        rw [← hr1'] at d3
        obtain ⟨W6, hW6, bW6, k6⟩ := alloc_box1g wo (.cells #[.int .i64 κ, .int .i64 vv, .slice B1 p1 b1, .slice C1 r1 b2] tEd)
        have hq6 := hH2_h.out W6 (k : Int) (below_trans hWr bW6 hWr.size)
        have k5r := t_box_below (t_box_below k5_h.out hWr) bW6
        obtain ⟨⟨i0, i1⟩, i2, i3⟩ := t_box2 k5r
        clear k5r hr1 hr2; have hyl_h := lH hyl; have hqk_h := lH hqk; have hye_h := lH hye; have hym_h := lH hym; have kx_h := lH kx; have hsl_h := lH hsl; have hX_h := lH hX; have hY_h := lH hY; have hfr_h := lH hfr; have hBr_h := lH hBr; have hn_h := lH hn; have hek_h := lH hek; have hp1_h := lH hp1; have hr1'_h := lH hr1'; have bW6_h := lH bW6; have k6_h := lH k6; have hq6_h := lH hq6; have hwr_h := lH hwr; have hWr_h := lH hWr; clear hyl hqk hye hym kx hsl hX hY hfr hBr hn hek hp1 hr1' bW6 k6 hq6 hwr hWr
        go_upto_region 16 with (fail)
        rw [← hW6]
        clear hW6
        go_wp2_with (fail)
        refine (hq6_h.out).mono ?_
        rintro e wq ⟨rfl, rfl⟩
        obtain ⟨H, hH⟩ : ∃ H, m.2.contains (k : Int) = H := ⟨_, rfl⟩
        cases H
        case false =>
         rw [hH]
         have hye2 : ys.map egOf = takE m.2 g.2.1 (k + 1) := by rw [takE_no hH]; exact hye_h.out
         have kx6 := t_box_below kx_h.out bW6_h.out
         have hsl6 := hsl_h.out.below bW6_h.out
         have hX6 := hX_h.out.below bW6_h.out
         have hY6 := hY_h.out.below bW6_h.out
         have hBr6 := below_trans hBr_h.out bW6_h.out hBr_h.out.size
         clear hH; have hye2_h := lH hye2; have kx6_h := lH kx6; have hsl6_h := lH hsl6; have hX6_h := lH hX6; have hY6_h := lH hY6; have hBr6_h := lH hBr6; clear hye2 kx6 hsl6 hX6 hY6 hBr6
         go_wp2_with (fail)
         go_roundw
         case rel => exact ⟨k + 1, q, A1, a1, ys, by omega, by go_num, hyl_h.out, by have := hqk_h.out; omega, hye2_h.out, hym_h.out, kx6_h.out, hsl6_h.out, hX6_h.out, hY6_h.out, hfr_h.out, hBr6_h.out⟩
         case measure => simp [intOf]; omega
        case true =>
         rw [hH]
         have hye2 : (ys ++ [(κ, vv, (B1, b1, s1), (C1, b2, t1))]).map egOf = takE m.2 g.2.1 (k + 1) := by rw [takE_yes hH hek_h.out, List.map_append, hye_h.out]; rfl
         have kx6 := t_box_below kx_h.out bW6_h.out
         obtain ⟨⟨x0, x1, x2, x3⟩, x4, x5, x6, x7⟩ := t_box4 kx6
         obtain ⟨⟨y0, y1, y2, y3⟩, y4, y5, y6, y7⟩ := t_box4 k6_h.out
         have hxl := t_box_lt kx_h.out
         have hbl : bx < w4.heap.size := hbxl_h.out
         clear hH; have hye2_h := lH hye2; have kx6_h := lH kx6; clear hye2 kx6
         have hqk := hqk_h.out
         have b7 := t_below_alloc wq (.cells #[.int .i64 κ, .int .i64 vv, .slice B1 p1 b1, .slice C1 r1 b2] tEd)
         have hsl7 := (hsl_h.out.below bW6_h.out).below b7
         go_wp2_with (at_builtin; refine wpList_append_Sl _ rfl _ _ _ rfl tEd Try.underlying30 info_ed rfl (by omega) rfl hsl7 rfl (news := [.int .i64 κ, .int .i64 vv, .slice B1 p1 b1, .slice C1 r1 b2]) rfl (Sl.rdc (Sl.laid wq tEd 4 1 #[.int .i64 κ, .int .i64 vv, .slice B1 p1 b1, .slice C1 r1 b2] (by unfold maxLen; omega) rfl)) (by intro u hu; simp at hu; rcases hu with rfl | rfl | rfl | rfl <;> rfl) (by unfold maxLen; omega) (by omega) ?_; intro A11 c11 w11 hs11 hA11 hk11; have kx11 := t_box_keeps (t_box_below kx6_h.out b7) hk11 (fun h => (hfr_h.out _ h).2 rfl); obtain ⟨⟨z0, z1, z2, z3⟩, z4, z5, z6, z7⟩ := t_box4 kx11)
         clear z0 z1 z2 z3 z4 z5 z6 z7 x0 x1 x2 x3 x4 x5 x6 x7 y0 y1 y2 y3 y4 y5 y6 y7
         have hzq := b7.size
         have hz6 := bW6_h.out.size
         have hz0 := hBr_h.out.size
         have hX8 := ((hX_h.out.below bW6_h.out).below b7).keeps hk11 (im_apart hX_h.out hsl_h.out (by decide))
         have hY8 := ((hY_h.out.below bW6_h.out).below b7).keeps hk11 (im_apart hY_h.out hsl_h.out (by decide))
         have hfn : ∀ x, x ∈ fpA A11 → W0.heap.size ≤ x ∧ x ≠ bx := fun x hx => by
          rcases hA11 x hx with h1 | h1
          · exact hfr_h.out x h1
          · have h2 : wq.heap.size ≤ x := Nat.le_trans hzq h1
            exact ⟨by omega, by omega⟩
         have hsle : Sl w11 tEd 4 A11 (q + 1) c11 (ecs (ys ++ [(κ, vv, (B1, b1, s1), (C1, b2, t1))])) := by
          rw [ecs_append]
          rw [hp1_h.out, hr1'_h.out] at hs11
          exact hs11
         obtain ⟨s1', s2'⟩ := box_set kx11 1 (.slice A11 (q + 1) c11)
         have s3' : (w11.setCell ⟨bx, 1, none⟩ (.slice A11 (q + 1) c11)).heap[bx]? = some (.cells #[.int .i64 (n : Int), .slice A11 (q + 1) c11, .slice X1 m0' X2, .slice Y1 k0'' Y2] tGr) := s1'
         have hsl9 := hsle.keeps s2' (fun x hx e => (hfn x hx).2 e)
         have hX9 := hX8.keeps s2' (fun x hx e => hXb_h.out x hx e)
         have hY9 := hY8.keeps s2' (fun x hx e => hYb_h.out x hx e)
         have hB7 := below_trans (below_trans hBr_h.out bW6_h.out hz0) b7 (Nat.le_trans hz0 hz6)
         have hB8 := below_keeps hB7 hk11 hB7.size (fun x hx => (hfr_h.out x hx).1)
         have hB9 := below_keeps hB8 s2' hB8.size (fun x hx => by rw [hx]; exact hbx_h.out)
         have hym2 : ∀ y, y ∈ ys ++ [(κ, vv, (B1, b1, s1), (C1, b2, t1))] → y ∈ hs := fun y hy => by
          rcases List.mem_append.1 hy with hy | hy
          · exact hym_h.out y hy
          · rw [List.mem_singleton.1 hy]; exact List.mem_of_getElem? hn_h.out
         refine ⟨⟨k + 1, q + 1, A11, c11, _, by omega, by go_num, by rw [List.length_append, hyl_h.out]; rfl, by omega, hye2_h.out, hym2, s3', hsl9, hX9, hY9, hfn, hB9⟩, ?_⟩
         simp [intOf]; omega
      · obtain rfl : n0 = k := by omega
        have hWr := below_trans hBW_h.out hBr hBW_h.out.size
        have hwr := below_trans bW_h.out (below_trans hB1_h.out hBr hB1_h.out.size) bW_h.out.size
        have hlen : g.2.1.length = n0 := by rw [e1_h.out, List.length_map, e2_h.out]
        have hy2 : (partG g pt m).2.1 = ys.map egOf := by rw [hye]; show _ = takE m.2 g.2.1 n0; rw [← hlen]; rfl
        have hrd : RdGr wr (.agg #[.int .i64 (n : Int), .slice A1 q a1, .slice X1 m0' X2, .slice Y1 k0'' Y2]) (partG g pt m) := by
         refine ⟨A1, a1, ys, (X1, X2, mapL m.1 pt.2.2.1), (Y1, Y2, mapL m.1 pt.2.2.2), ?_, hy2, rfl, rfl, ⟨Sl.rdc hsl, fun y hy => ?_⟩, hX.rd, hY.rd⟩
         · obtain ⟨_, _, _, _, l2, _, l3, _⟩ := gr_parts h'_h.out
           simp only [mapL_length, l2, l3, hyl]
           rw [show (partG g pt m).1 = g.1 from rfl, hgn_h.out]
         · have := hE_h.out.2 y (hym y hy)
           exact ⟨this.1.below hwr, this.2.below hwr⟩
        have hin := partG_in hMo_h.out.hn (by rw [hMo_h.out.hn]; exact im_inW hMo_h.out) (by rw [hMo'_h.out.hn]; exact im_inW hMo'_h.out) hQ_h.out
        have hmap := hgMap_any wr (rankL m.1 n : Int) (some G) n n (numL m.1 n) hrd hpk_h.out (hIS_h.out.below hBr).rd (numL_len _ _) hin
        rw [← hie_h.out] at hmap
        have hB1r := below_trans hB1_h.out hBr hB1_h.out.size
        have k6c := t_box_below k6_h.out hB1r
        obtain ⟨⟨y0, y1, y2, y3⟩, y4, y5, y6, y7⟩ := t_box4 kx
        clear hsl hX hY hfr hBr kx hrd hye hym hy2 hin; have hmap_h := lH hmap; have hB1r_h := lH hB1r; have k6c_h := lH k6c; have hWr_h := lH hWr; have hwr_h := lH hwr; clear hmap hB1r k6c hWr hwr
        go_wp2_with (fail)
        refine (hmap_h.out).mono ?_
        rintro e w9 ⟨v9, fp9, rfl, hO9, hf9, hb9⟩
        obtain ⟨A6, n6, c6, B6, m6, d6, C6, q6, u6, rfl⟩ := hO9.shape
        have k6d := t_box_below k6c_h.out hb9
        have hk1 := t_box_lt k6c_h.out
        have hB9 := below_trans hwr_h.out hb9 hwr_h.out.size
        obtain ⟨⟨u0, u1, u2, u3⟩, g0', g1, g2, g3⟩ := t_box4 k6d
        obtain ⟨PI, hPI⟩ : ∃ PI, PI = (imgG pt m).1 := ⟨_, rfl⟩
        obtain ⟨s1, s2⟩ := set4 (a := .int .i64 PI) (b := .slice A6 n6 c6) (c := .slice B6 m6 d6) (d := .slice C6 q6 u6) k6d
        have hBs := below_keeps hB9 s2 hB9.size (fun k hk => by omega)
        have hwW := hwr_h.out.size
        have hOs := hO9.keeps s2 (fun x hx e => by have := hf9 x hx; omega)
        have hFs : FreshL w.heap.size fp9 := fun x hx => by have := hf9 x hx; omega
        rw [← hPI] at hOs ⊢
        clear hb9 hO9 hB9 k6d s2 hf9 hPI; have s1_h := lH s1; have hBs_h := lH hBs; have hOs_h := lH hOs; have hFs_h := lH hFs; clear s1 hBs hOs hFs
        go_wp2_with (fail)
        refine bodyPost_ret (t_results_cell_tmp rfl _ _ (w.heap.size + 1 + 1 + 1) _ _ (0, 0) _ rfl s1_h.out Try.underlying32 rfl (by kernel_rfl)) rfl ?_
        exact ⟨_, _, rfl, hOs_h.out, hFs_h.out, hBs_h.out⟩
set_option maxRecDepth 100000 in
set_option maxHeartbeats 4000000 in
theorem sImageNo {vg vp vm : Value} {g pt : Gr} {m : Ma} {fm : List Nat} {w : World} (h : RdGr w vg g) (h' : RdGr w vp pt) (hm : OwMa w vm m fm) (ok : OkG g) (ok' : OkG pt) (okm : OkMa m) (hno : (monoB g && monoB pt) = false ∨ maB g pt m = false) :
  Calls Try.prog 6 #[vg, vp, vm] w fun e w' => ∃ v' fp, e = .returned (.tuple #[v', .bool false]) ∧ OwGr w' v' g0 fp ∧ FreshL w.heap.size fp ∧ Below w.heap.size w w' := by
 obtain ⟨T, hT⟩ : ∃ D, D = (monoB g && monoB pt) := ⟨_, rfl⟩
 obtain ⟨Q, hQ⟩ : ∃ D, D = maB g pt m := ⟨_, rfl⟩
 rw [← hT, ← hQ] at hno
 obtain ⟨A, n0, c, B, m0, d, C, k0', e0, rfl⟩ := h.shape
 obtain ⟨A', n0', c', B', m0', d', C', k0'', e0', rfl⟩ := h'.shape
 obtain ⟨X, nu, x, Y, nv, y, rfl⟩ := hm.shape
 obtain ⟨z, hz⟩ : ∃ z, z = g.1 := ⟨_, rfl⟩
 rw [← hz] at h ⊢
 obtain ⟨z', hz'⟩ : ∃ z, z = pt.1 := ⟨_, rfl⟩
 rw [← hz'] at h' ⊢
 obtain ⟨W, hW, bW, k3, k4, k5, k6⟩ := im_allocs4 w (.cells #[.int .i64 z, .slice A n0 c, .slice B m0 d, .slice C k0' e0] tGr) (.cells #[.int .i64 z', .slice A' n0' c', .slice B' m0' d', .slice C' k0'' e0'] tGr) (.cells #[.slice X nu x, .slice Y nv y] tMa) (.cells #[.int .i64 0, .slice none 0 0, .slice none 0 0, .slice none 0 0] tGr)
 have hG := mtTwo_any W (h.below bW) (h'.below bW) ok ok'
 rw [← hT] at hG
 have hM : T = true → ∀ (W' : World), Below W.heap.size W W' → _ := fun hh (W' : World) (hb : Below W.heap.size W W') => mtIs_any W' ((h.below bW).below hb) ((h'.below bW).below hb) ((hm.below bW).below hb) (monoB_gr (Bool.and_eq_true .. ▸ hT.symm.trans hh).1) (monoB_gr (Bool.and_eq_true .. ▸ hT.symm.trans hh).2) okm
 simp only [← hQ] at hM
 obtain ⟨⟨c0, c1, c2, c3⟩, c4, c5, c6, c7⟩ := t_box4 k3
 obtain ⟨⟨d0, d1, d2, d3⟩, d4, d5, d6, d7⟩ := t_box4 k4
 clear h h' hm ok ok' okm hz hz' hT hQ; have bW_h := lH bW; have k3_h := lH k3; have k4_h := lH k4; have k5_h := lH k5; have k6_h := lH k6; have hG_h := lH hG; have hM_h := lH hM; have hno_h := lH hno; clear bW k3 k4 k5 k6 hG hM hno
 go_enter Try.func6, Try.ntmps6
 go_upto_region 1 with (fail)
 rw [← hW]
 clear hW
 go_wp2_with (fail)
 refine (hG_h.out).mono ?_
 rintro e w1 ⟨rfl, hb1⟩
 have k3a := t_box_below k3_h.out hb1
 have k4a := t_box_below k4_h.out hb1
 have k5a := t_box_below k5_h.out hb1
 have k6a := t_box_below k6_h.out hb1
 have hB1 := below_trans bW_h.out hb1 bW_h.out.size
 clear c0 c1 c2 c3 c4 c5 c6 c7 d0 d1 d2 d3 d4 d5 d6 d7
 obtain ⟨⟨c0, c1, c2, c3⟩, c4, c5, c6, c7⟩ := t_box4 k3a
 obtain ⟨⟨d0, d1, d2, d3⟩, d4, d5, d6, d7⟩ := t_box4 k4a
 obtain ⟨⟨i0, i1⟩, i2, i3⟩ := t_box2 k5a
 cases T
 case false =>
  have hk1 := t_box_lt k6_h.out
  obtain ⟨⟨u0, u1, u2, u3⟩, g0', g1, g2, g3⟩ := t_box4 k6a
  obtain ⟨s1, s2⟩ := set4 (a := .int .i64 0) (b := .slice none 0 0) (c := .slice none 0 0) (d := .slice none 0 0) k6a
  have hBs := below_keeps hB1 s2 hB1.size (fun k hk => by omega)
  clear k3a k4a k5a k6a hb1 hB1 s2; have s1_h := lH s1; have hBs_h := lH hBs; clear s1 hBs
  go_wp2_with (fail)
  refine bodyPost_ret (t_results_cell_tmp rfl _ _ (w.heap.size + 1 + 1 + 1) _ _ (0, 0) _ rfl s1_h.out Try.underlying32 rfl (by kernel_rfl)) rfl ?_
  exact ⟨_, _, rfl, OwGr.zero _, fun b hb => (by cases hb), hBs_h.out⟩
 case true =>
  have hMq := hM_h.out rfl w1 hb1
  have hQ0 : Q = false := hno_h.out.resolve_left (by simp)
  subst hQ0
  clear k3a k4a k5a k6a; have hB1_h := lH hB1; have hMq_h := lH hMq; have hb1_h := lH hb1; clear hB1 hMq hb1
  go_wp2_with (fail)
  refine (hMq_h.out).mono ?_
  rintro e w2 ⟨rfl, hb2⟩
  have hb12 := below_trans hb1_h.out hb2 hb1_h.out.size
  have hB2 := below_trans hB1_h.out hb2 hB1_h.out.size
  have k6b := t_box_below k6_h.out hb12
  clear hb2 c0 c1 c2 c3 c4 c5 c6 c7 d0 d1 d2 d3 d4 d5 d6 d7 i0 i1 i2 i3
  have hk1 := t_box_lt k6_h.out
  obtain ⟨⟨u0, u1, u2, u3⟩, g0', g1, g2, g3⟩ := t_box4 k6b
  obtain ⟨s1, s2⟩ := set4 (a := .int .i64 0) (b := .slice none 0 0) (c := .slice none 0 0) (d := .slice none 0 0) k6b
  have hBs := below_keeps hB2 s2 hB2.size (fun k hk => by omega)
  clear k6b hb12 hB2 s2; have s1_h := lH s1; have hBs_h := lH hBs; clear s1 hBs
  go_wp2_with (fail)
  refine bodyPost_ret (t_results_cell_tmp rfl _ _ (w.heap.size + 1 + 1 + 1) _ _ (0, 0) _ rfl s1_h.out Try.underlying32 rfl (by kernel_rfl)) rfl ?_
  exact ⟨_, _, rfl, OwGr.zero _, fun b hb => (by cases hb), hBs_h.out⟩
theorem sImageGraph_any {vg vp vm : Value} {g pt : Gr} {m : Ma} {fm : List Nat} {w : World} (h : RdGr w vg g) (h' : RdGr w vp pt) (hm : OwMa w vm m fm) (ok : OkG g) (ok' : OkG pt) (okm : OkMa m) :
  Calls Try.prog 6 #[vg, vp, vm] w fun e w' => ∃ v' fp, e = .returned (.tuple #[v', .bool (imR g pt m).2]) ∧ OwGr w' v' (imR g pt m).1 fp ∧ FreshL w.heap.size fp ∧ Below w.heap.size w w' := by
 cases hT : (monoB g && monoB pt)
 · rw [imR_no1 hT]
   exact sImageNo h h' hm ok ok' okm (.inl hT)
 · cases hQ : maB g pt m
   · rw [imR_no2 hQ]
     exact sImageNo h h' hm ok ok' okm (.inr hQ)
   · rw [imR_yes hT hQ]
     exact sImageYes h h' hm ok ok' okm hT hQ
theorem sImageGraph_law {vg vp vm : Value} {g pt : Gr} {m : Ma} {fg fq fm : List Nat} {w : World} (h : OwGr w vg g fg) (h' : OwGr w vp pt fq) (hm : OwMa w vm m fm) (ok : OkG g) (ok' : OkG pt) (okm : OkMa m) :
  Calls Try.prog 6 #[vg, vp, vm] w fun e w' => ∃ v' fp, e = .returned (.tuple #[v', .bool (imR g pt m).2]) ∧ OwGr w' v' (imR g pt m).1 fp ∧ FreshL w.heap.size fp ∧ Below w.heap.size w w' := sImageGraph_any h.rd h'.rd hm ok ok' okm
theorem iImageGraph_law {vg vp vm : Value} {g pt : Gr} {m : Ma} {fg fq fm : List Nat} {w : World} (h : OwGr w vg g fg) (h' : OwGr w vp pt fq) (hm : OwMa w vm m fm) (ok : OkG g) (ok' : OkG pt) (okm : OkMa m) :
  Calls Try.prog 9 #[vg, vp, vm] w fun e w' => ∃ v' fp, e = .returned (.tuple #[v', .bool (imR g pt m).2]) ∧ OwGr w' v' (imR g pt m).1 fp ∧ FreshL w.heap.size fp ∧ Below w.heap.size w w' := iImageGraph_any h.rd h'.rd hm ok ok' okm
def HeMa (w : World) (v : Value) (m : Ma) (k : Nat) (fp : List Nat) : Prop := OwMa w v (marks k m.1.length, marks (k + m.1.length) m.2.length) fp
theorem HeMa.below {w w' : World} {v : Value} {m : Ma} {k : Nat} {fp : List Nat} (h : HeMa w v m k fp) (hb : Below w.heap.size w w') : HeMa w' v m k fp := OwMa.below h hb
theorem HeMa.keeps {w w' : World} {v : Value} {m : Ma} {k : Nat} {fp : List Nat} (h : HeMa w v m k fp) {S : Nat → Prop} (hk : Keeps S w w') (hS : ∀ b, b ∈ fp → ¬ S b) : HeMa w' v m k fp := OwMa.keeps h hk hS
theorem two_apart {A B : Option Addr} {x y : List Int} {a b : Nat} {w : World} {fp : List Nat} (h : OwLs w fp [(A, a, x), (B, b, y)]) : ∀ q, q ∈ fpA A → ¬ q ∈ fpA B := by
 have := h.apart
 rw [List.pairwise_cons] at this
 exact this.1 (B, b, y) (by simp)
set_option maxRecDepth 100000 in
set_option maxHeartbeats 2000000 in
theorem markMatch_law {v : Value} {m : Ma} {fp : List Nat} {K : Int} {w : World} (k : Nat) (h : OwMa w v m fp) (hK : K = (k : Int)) (_ok : OkMa m) (hl : k + cntMa m ≤ 17592186044000 ∧ 0 < k) :
  Calls Try.prog 13 #[v, .int .i64 K] w fun e w' => e = .returned (.int .i64 (K + (cntMa m : Int))) ∧ HeMa w' v m k fp ∧ Keeps (· ∈ fp) w w' := by
 subst hK
 obtain ⟨⟨A, a, x⟩, ⟨B, b, y⟩, rfl, e1, e2, hO, rfl⟩ := h
 obtain ⟨x0, y0⟩ := m
 have a1 : x = x0 := e1
 have a2 : y = y0 := e2
 subst a1 a2
 clear e1 e2 _ok
 have hap := two_apart hO
 have hIx := hO.rows (A, a, x) (by simp)
 have hIy := hO.rows (B, b, y) (by simp)
 simp only at hIx hIy
 have hl2 : k + (x.length + y.length) ≤ 17592186044000 := hl.1
 have hfp : ∀ q, q ∈ fpR [(A, a, x), (B, b, y)] ↔ q ∈ fpA A ∨ q ∈ fpA B := fun q => by simp [fpR]
 obtain ⟨fp, hfpe⟩ : ∃ f, fpR [((A, a, x) : Hd), (B, b, y)] = f := ⟨_, rfl⟩
 have hOl := hO.lt
 rw [hfpe] at hfp hOl ⊢
 obtain ⟨W, hW, bW, k0⟩ := (⟨_, rfl, t_below_alloc _ _, heap_alloc_new _ _⟩ : ∃ W, W = w.alloc (.cells #[.slice A x.length a, .slice B y.length b] tMa) ∧ Below w.heap.size w W ∧ W.heap[w.heap.size]? = some (.cells #[.slice A x.length a, .slice B y.length b] tMa))
 have hC1 := markIntS_any A a x k W (hIx.below bW) (by omega)
 have hC2 := fun (W' : World) (hI : IS W' B b y) => markIntS_any B b y (k + x.length) W' hI (by omega)
 show Calls Try.prog _ #[.agg #[.slice A x.length a, .slice B y.length b], .int .i64 (k : Int)] w fun e w' => e = .returned (.int .i64 ((k : Int) + ((x.length + y.length : Nat) : Int))) ∧ HeMa w' (.agg #[.slice A x.length a, .slice B y.length b]) (x, y) k fp ∧ Keeps (· ∈ fp) w w'
 obtain ⟨p, hp⟩ : ∃ p, x.length = p := ⟨_, rfl⟩
 obtain ⟨q, hq⟩ : ∃ q, y.length = q := ⟨_, rfl⟩
 obtain ⟨R1, hR1⟩ : ∃ R : Nat, k + p = R := ⟨_, rfl⟩
 obtain ⟨R2, hR2⟩ : ∃ R : Nat, R1 + q = R := ⟨_, rfl⟩
 simp only [hp, hR1] at hC1
 simp only [hp, hq, hR1, hR2] at hC2
 have hfin : (k : Int) + ((p + q : Nat) : Int) = (R2 : Int) := by omega
 rw [hp, hq] at k0 hW
 rw [hp, hq, hfin]
 have hlt := fun b hb => hOl b ((hfp b).2 hb)
 obtain ⟨⟨c0, c1⟩, f0, f1⟩ := t_box2 k0
 clear hl hfin; have hC1_h := lH hC1; have hC2_h := lH hC2; have hIx_h := lH hIx; have hIy_h := lH hIy; have hap_h := lH hap; have hfp_h := lH hfp; have hfpe_h := lH hfpe; have bW_h := lH bW; have k0_h := lH k0; have hlt_h := lH hlt; have hO_h := lH hO; have hp_h := lH hp; have hq_h := lH hq; have hR1_h := lH hR1; have hR2_h := lH hR2; have hOl_h := lH hOl; clear hC1 hC2 hIx hIy hap hfp hfpe bW k0 hlt hO hp hq hR1 hR2 hOl
 go_enter Try.func13, Try.ntmps13
 go_upto_region 1 with (fail)
 rw [← hW]
 clear hW
 go_wp2_with (fail)
 refine (hC1_h.out).mono ?_
 rintro e w1 ⟨rfl, hI1, hk1⟩
 have k1 := t_box_keeps k0_h.out hk1 (fun hb => by have := hlt_h.out _ (.inl hb); omega)
 have hIy1 := (hIy_h.out.below bW_h.out).keeps hk1 (fun b hb hb' => hap_h.out b hb' hb)
 have hC2' := hC2_h.out w1 hIy1
 clear c0 c1 f0 f1
 obtain ⟨⟨c0, c1⟩, f0, f1⟩ := t_box2 k1
 have hkw1 : Keeps (· ∈ fp) w w1 := (Keeps.of_below bW_h.out _).trans (hk1.mono fun b _ hb => (hfp_h.out b).2 (.inl hb))
 clear hk1 k1; have hC2'_h := lH hC2'; have hI1_h := lH hI1; have hkw1_h := lH hkw1; clear hC2' hI1 hkw1
 go_wp2_with (fail)
 refine (hC2'_h.out).mono ?_
 rintro e w2 ⟨rfl, hI2, hk2⟩
 have hI12 := hI1_h.out.keeps hk2 (fun b hb hb' => hap_h.out b hb hb')
 have hkw2 := hkw1_h.out.trans (hk2.mono (T := (· ∈ fp)) fun b _ hb => (hfp_h.out b).2 (.inr hb))
 clear hk2; have hI2_h := lH hI2; have hI12_h := lH hI12; have hkw2_h := lH hkw2; clear hI2 hI12 hkw2
 go_wp2_with (fail)
 go_ret
 refine ⟨rfl, ⟨(A, a, marks k p), (B, b, marks R1 q), by simp only [marks_length], by rw [← hp_h.out], by rw [← hq_h.out, ← hR1_h.out, ← hp_h.out], ⟨fun h hh => ?_, ?_, fun h hh b _ hb => (by cases hb)⟩, ?_⟩, hkw2_h.out⟩
 · rcases List.mem_cons.1 hh with rfl | hh
   · exact hI12_h.out
   · obtain rfl := List.mem_singleton.1 hh
     exact hI2_h.out
 · rw [List.pairwise_cons]
   refine ⟨fun h hh => ?_, List.pairwise_singleton _ _⟩
   obtain rfl := List.mem_singleton.1 hh
   exact hap_h.out
 · rw [← hfpe_h.out]
   rfl
theorem eh_get {l : List EHd} {j : Nat} {n : EHd} (h : l[j]? = some n) : (eh l)[2 * j]? = some n.2.2.1 ∧ (eh l)[2 * j + 1]? = some n.2.2.2 := by
 induction l generalizing j with
 | nil => simp at h
 | cons a r ih =>
   cases j with
   | zero =>
     obtain rfl : a = n := by simpa using h
     simp [eh]
   | succ j =>
     have := ih (j := j) (by simpa using h)
     rw [show 2 * (j + 1) = 2 * j + 1 + 1 by omega]
     simpa [eh] using this
theorem eh_set {l : List EHd} {j : Nat} (n : EHd) (h : j < l.length) : ((eh l).set (2 * j) n.2.2.1).set (2 * j + 1) n.2.2.2 = eh (l.set j n) := by
 induction l generalizing j with
 | nil => simp at h
 | cons a r ih =>
   cases j with
   | zero => simp [eh]
   | succ j =>
     have := ih (j := j) (by simpa using h)
     rw [show 2 * (j + 1) = 2 * j + 1 + 1 by omega]
     simpa [eh] using this
@[simp] theorem eh_length (l : List EHd) : (eh l).length = 2 * l.length := by
  induction l with
  | nil => rfl
  | cons a r ih => simp only [eh, List.length_cons, ih]; omega
theorem fpR_map {l m : List Hd} (h : l.map (·.1) = m.map (·.1)) : fpR l = fpR m := by
 have e : ∀ x : List Hd, fpR x = (x.map (·.1)).flatMap fpA := fun x => by unfold fpR; rw [List.flatMap_map]
 rw [e, e, h]
theorem set_same {α : Type} {l : List α} {i : Nat} {x : α} (h : l[i]? = some x) : l.set i x = l := by
 apply List.ext_getElem?
 intro k
 rw [List.getElem?_set]
 split
 · rename_i e; subst e
   have := (List.getElem?_eq_some_iff.1 h).1
   rw [if_pos this, h]
 · rfl
section
variable {w w' : World} {fp : List Nat} {ls : List Hd}
theorem OwLs.wr (h : OwLs w fp ls) {i : Nat} {B : Option Addr} {c : Nat} {l l' : List Int} (hi : ls[i]? = some (B, c, l)) (hk : Keeps (· ∈ fpA B) w w') (hI : IS w' B c l') : OwLs w' fp (ls.set i (B, c, l')) := by
 have hap : ∀ (k : Nat) (x : Hd), ls[k]? = some x → i ≠ k → ∀ b, b ∈ fpA x.1 → ¬ b ∈ fpA B := fun k x hx hne b hb hb' => by
  have hp := List.pairwise_iff_getElem.1 h.apart
  obtain ⟨hi', ei⟩ := List.getElem?_eq_some_iff.1 hi
  obtain ⟨hk', ek⟩ := List.getElem?_eq_some_iff.1 hx
  rcases Nat.lt_or_gt_of_ne hne with hlt | hlt
  · exact hp i k hi' hk' hlt b (by rw [ei]; exact hb') (by rw [ek]; exact hb)
  · exact hp k i hk' hi' hlt b (by rw [ek]; exact hb) (by rw [ei]; exact hb')
 have hget : ∀ (k : Nat) (x : Hd), (ls.set i (B, c, l'))[k]? = some x → ∃ y : Hd, ls[k]? = some y ∧ y.1 = x.1 := by
  intro k x hx
  rw [List.getElem?_set] at hx
  split at hx
  · rename_i hk; subst hk
    simp at hx
    exact ⟨_, hi, by rw [← hx.2]⟩
  · exact ⟨x, hx, rfl⟩
 refine ⟨fun x hx => ?_, ?_, fun x hx => ?_⟩
 · obtain ⟨k, hkk⟩ := List.mem_iff_getElem?.1 hx
   rw [List.getElem?_set] at hkk
   split at hkk
   · simp at hkk
     rw [← hkk.2]
     exact hI
   · rename_i hik
     exact (h.rows x (List.mem_of_getElem? hkk)).keeps hk fun b hb hb' => hap k x hkk hik b hb hb'
 · refine List.pairwise_iff_getElem.2 fun a b ha hb hab => ?_
   obtain ⟨x, hx, ex⟩ := hget a _ (List.getElem?_eq_getElem ha)
   obtain ⟨y, hy, ey⟩ := hget b _ (List.getElem?_eq_getElem hb)
   rw [← ex, ← ey]
   obtain ⟨ha', e1⟩ := List.getElem?_eq_some_iff.1 hx
   obtain ⟨hb', e2⟩ := List.getElem?_eq_some_iff.1 hy
   rw [← e1, ← e2]
   exact List.pairwise_iff_getElem.1 h.apart a b ha' hb' hab
 · obtain ⟨k, hkk⟩ := List.mem_iff_getElem?.1 hx
   obtain ⟨y, hy, e⟩ := hget k x hkk
   rw [← e]; exact h.outer y (List.mem_of_getElem? hy)
theorem set_fst {ls : List Hd} {i : Nat} {B : Option Addr} {c : Nat} {l l' : List Int} (hi : ls[i]? = some (B, c, l)) : (ls.set i (B, c, l')).map (·.1) = ls.map (·.1) := by
 rw [List.map_set]
 exact set_same (by rw [List.getElem?_map, hi]; rfl)
end
theorem ecs_congr {l : List EHd} {j : Nat} {x y : EHd} (h : ec x = ec y) : ecs (l.set j x) = ecs (l.set j y) := by
 induction l generalizing j with
 | nil => rfl
 | cons a r ih =>
   cases j with
   | zero => simp [ecs, h]
   | succ j => simp only [List.set_cons_succ, ecs, ih]
theorem cntE_take_succ {L : List Eg} {j : Nat} {e : Eg} (h : L[j]? = some e) : cntE (L.take (j + 1)) = cntE (L.take j) + (2 + e.2.2.1.length + e.2.2.2.length) := by
 rw [List.take_add_one, h, cntE_append]; simp [cntE]
theorem cntE_take_le (L : List Eg) (j : Nat) : cntE (L.take j) ≤ cntE L := by
 conv => rhs; rw [← List.take_append_drop j L, cntE_append]
 omega
@[simp] theorem marksE_length : ∀ (k : Nat) (L : List Eg), (marksE k L).length = L.length
  | _, [] => rfl
  | k, e :: r => by simp [marksE, marksE_length]
theorem marksE_get : ∀ {L : List Eg} {k j : Nat} {e : Eg}, L[j]? = some e → (marksE k L)[j]? = some (((k + cntE (L.take j) : Nat) : Int), ((k + cntE (L.take j) + 1 : Nat) : Int), marks (k + cntE (L.take j) + 2) e.2.2.1.length, marks (k + cntE (L.take j) + 2 + e.2.2.1.length) e.2.2.2.length)
 | a :: r, k, 0, e, h => by
   obtain rfl : a = e := by simpa using h
   simp [marksE, cntE]
 | a :: r, k, j + 1, e, h => by
   have := marksE_get (L := r) (k := k + 2 + a.2.2.1.length + a.2.2.2.length) (j := j) (e := e) (by simpa using h)
   rw [show k + 2 + a.2.2.1.length + a.2.2.2.length + cntE (r.take j) = k + cntE ((a :: r).take (j + 1)) by simp [cntE]; omega] at this
   simpa [marksE] using this
set_option maxRecDepth 100000 in
set_option maxHeartbeats 4000000 in
theorem markEdgeS_any (A : Option Addr) (c m : Nat) (l : List EHd) (pre : List Hd) (k : Nat) (w : World) (h : Sl w tEd 4 A m c (ecs l)) (hO : OwLs w (fpA A) (pre ++ eh l)) (hm : l.length = m) (hml : m ≤ 1048576) (hl : k + cntE (l.map egOf) ≤ 17592186044000) :
  Calls Try.prog 31 #[.slice A m c, .int .i64 k] w fun e w' => ∃ ys : List EHd, e = .returned (.int .i64 ((k + cntE (l.map egOf) : Nat) : Int)) ∧ ys.length = m ∧ ys.map egOf = marksE k (l.map egOf) ∧ Sl w' tEd 4 A m c (ecs ys) ∧ OwLs w' (fpA A) (pre ++ eh ys) ∧ (eh ys).map (·.1) = (eh l).map (·.1) ∧ Keeps (· ∈ fpA A ++ fpR (eh l)) w w' := by
 obtain ⟨L, hL⟩ : ∃ L, L = l.map egOf := ⟨_, rfl⟩
 rw [← hL] at hl ⊢
 have hLm : L.length = m := by rw [hL, List.length_map, hm]
 have hm_h := lH hm; have hL_h := lH hL; have hLm_h := lH hLm; have h_h := lH h; have hO_h := lH hO; clear hm hL hLm h hO
 go_enter Try.func31, Try.ntmps31
 go_wp2_with (fail)
 go_loopw [1, 5] (fun q i wr => ∃ (j : Nat) (ys : List EHd), j ≤ m ∧ i = .int .i64 j ∧ q = .int .i64 ((k + cntE (L.take j) : Nat) : Int) ∧ ys.length = m ∧ ys.map egOf = (marksE k L).take j ++ L.drop j ∧ Sl wr tEd 4 A m c (ecs ys) ∧ OwLs wr (fpA A) (pre ++ eh ys) ∧ (eh ys).map (·.1) = (eh l).map (·.1) ∧ Keeps (· ∈ fpA A ++ fpR (eh l)) w wr) (fun _ i _ => m - (intOf i).toNat)
 case atStart => exact ⟨0, l, Nat.zero_le _, rfl, by simp [cntE], hm_h.out, by simpa using hL_h.out.symm, h_h.out, hO_h.out, rfl, Keeps.refl _ _⟩
 case round =>
  clear h_h hO_h
  obtain ⟨j, ys, hj, rfl, rfl, hyl, hye, his, hO, hfe, hkp⟩ := hrel
  by_cases hlt : j < m
  · obtain ⟨⟨κ, v, ⟨B, b, s⟩, ⟨C, d, t⟩⟩, hy⟩ : ∃ y, ys[j]? = some y := ⟨_, List.getElem?_eq_getElem (by omega)⟩
    have hLj : L[j]? = some (κ, v, s, t) := by
     have h1 : (ys.map egOf)[j]? = some (κ, v, s, t) := by rw [List.getElem?_map, hy]; rfl
     rw [hye, List.getElem?_append_right (by rw [List.length_take, marksE_length]; omega), List.length_take, marksE_length, List.getElem?_drop] at h1
     rwa [show j + (j - min j L.length) = j by rw [hLm_h.out]; omega] at h1
    obtain ⟨ad, hA, g0, g1⟩ : ∃ ad, A = some ad ∧ (∀ x, wr.frozen? (ad.add x) = false) ∧ ∀ i u, (ecs ys)[i]? = some u → wr.cell? (ad.add i) = some u := by
     obtain ⟨ad, hA, _, _, hf⟩ := Sl.cell his (ecs_get hy).1
     refine ⟨ad, hA, hf, fun i u hu => ?_⟩
     obtain ⟨ad', hA', _, hc, _⟩ := Sl.cell his hu
     rw [hA] at hA'
     obtain rfl := Option.some.inj hA'
     exact hc
    subst hA
    obtain ⟨y0, y1, y2, y3⟩ := ecs_get hy
    have hel : (ecs ys).length = m * 4 := by rw [ecs_length, hyl]
    obtain ⟨K, hK⟩ : ∃ K, K = k + cntE (L.take j) := ⟨_, rfl⟩
    have hcs := cntE_take_succ hLj
    have hcl := cntE_take_le L (j + 1)
    have hKb : K + (2 + s.length + t.length) ≤ 17592186044000 := by
     have : cntE (L.take (j + 1)) = cntE (L.take j) + (2 + s.length + t.length) := hcs
     omega
    -- the two stores
    obtain ⟨W1, hW1⟩ : ∃ W1, W1 = wr.setCell (ad.add (j * 4)) (.int .i64 (K : Int)) := ⟨_, rfl⟩
    have sl1 := Sl.set his rfl (j * 4) (.int .i64 (K : Int)) (by omega)
    rw [← hW1] at sl1
    obtain ⟨W2, hW2⟩ : ∃ W2, W2 = W1.setCell ⟨(ad.add (j * 4)).block, (ad.add (j * 4)).off + 1, none⟩ (.int .i64 ((K + 1 : Nat) : Int)) := ⟨_, rfl⟩
    have sl2 := Sl.set sl1 rfl (j * 4 + 1) (.int .i64 ((K + 1 : Nat) : Int)) (by rw [List.length_set]; omega)
    rw [add_next _ _ 1 (by omega), ← hW2] at sl2
    have q0 := g1 _ _ y0
    have q1 : W1.cell? ⟨(ad.add (j * 4)).block, (ad.add (j * 4)).off + 1, none⟩ = some (.int .i64 v) := by
     obtain ⟨ad', hA', _, hc, _⟩ := Sl.cell sl1 (j := j * 4 + 1) (u := .int .i64 v) (by rw [List.getElem?_set_ne (by omega)]; exact y1)
     obtain rfl := Option.some.inj hA'
     rwa [add_next _ _ 1 (by omega)] at hc
    have q1f : W1.frozen? ⟨(ad.add (j * 4)).block, (ad.add (j * 4)).off + 1, none⟩ = false := by
     obtain ⟨ad', hA', _, _, hf⟩ := Sl.cell sl1 (j := j * 4 + 1) (u := .int .i64 v) (by rw [List.getElem?_set_ne (by omega)]; exact y1)
     obtain rfl := Option.some.inj hA'
     have := hf (j * 4 + 1)
     rwa [add_next _ _ 1 (by omega)] at this
    have q2 : W2.cell? ⟨(ad.add (j * 4)).block, (ad.add (j * 4)).off + 2, none⟩ = some (.slice B s.length b) := by
     obtain ⟨ad', hA', _, hc, _⟩ := Sl.cell sl2 (j := j * 4 + 2) (u := .slice B s.length b) (by rw [List.getElem?_set_ne (by omega), List.getElem?_set_ne (by omega)]; exact y2)
     obtain rfl := Option.some.inj hA'
     rwa [add_next _ _ 2 (by omega)] at hc
    have hkB : Keeps (· ∈ fpA (some ad)) wr W2 := by
     rw [hW2, hW1]
     exact ((Keeps.refl _ wr).setCell (p := ad.add (j * 4)) (by rw [block_of_add]; simp) _).setCell (p := ⟨(ad.add (j * 4)).block, (ad.add (j * 4)).off + 1, none⟩) (by simp [block_of_add]) _
    have hset2 : ((ecs ys).set (j * 4) (.int .i64 (K : Int))).set (j * 4 + 1) (.int .i64 ((K + 1 : Nat) : Int)) = ecs (ys.set j ((K : Int), ((K + 1 : Nat) : Int), (B, b, s), (C, d, t))) := by
     rw [← ecs_set ((K : Int), ((K + 1 : Nat) : Int), (B, b, s), (C, d, t)) (by omega)]
     rw [set_same (i := j * 4 + 2) (by rw [List.getElem?_set_ne (by omega), List.getElem?_set_ne (by omega)]; exact y2), set_same (i := j * 4 + 3) (by rw [List.getElem?_set_ne (by omega), List.getElem?_set_ne (by omega)]; exact y3)]
    rw [hset2] at sl2
    have hO2 := hO.grow (fp' := fpA (some ad)) (fun x hx => .inl hx) hkB
    obtain ⟨z1, z2⟩ := eh_get hy
    have i1 : (pre ++ eh ys)[pre.length + 2 * j]? = some (B, b, s) := by rw [List.getElem?_append_right (by omega), Nat.add_sub_cancel_left]; exact z1
    have i2 : (pre ++ eh ys)[pre.length + (2 * j + 1)]? = some (C, d, t) := by rw [List.getElem?_append_right (by omega), Nat.add_sub_cancel_left]; exact z2
    have hI1 := hO2.rows _ (List.mem_of_getElem? i1)
    obtain ⟨p, hp⟩ : ∃ p, p = s.length := ⟨_, rfl⟩
    obtain ⟨r, hr⟩ : ∃ r, r = t.length := ⟨_, rfl⟩
    have hC1 := markIntS_any B b s (K + 2) W2 hI1 (by omega)
    have hC2 := fun (W : World) (hI : IS W C d t) => markIntS_any C d t (K + 2 + p) W hI (by omega)
    simp only [← hp] at hC1 q2 hKb
    simp only [← hr] at hC2 hKb
    have hjI : (j : Int) < (m : Int) := by omega
    have f0 := g0 (j * 4)
    have hBfp : ∀ x, x ∈ fpA B → x ∈ fpR (eh ys) := fun x hx => mem_fpR.2 ⟨_, List.mem_of_getElem? z1, hx⟩
    have hCfp : ∀ x, x ∈ fpA C → x ∈ fpR (eh ys) := fun x hx => mem_fpR.2 ⟨_, List.mem_of_getElem? z2, hx⟩
    have hfeq := fpR_map hfe
    have hBA : ∀ x, x ∈ fpA B → ¬ x ∈ fpA (some ad) := hO2.outer _ (List.mem_of_getElem? i1)
    rw [← hK]
    have eK1 : ((K : Int) + 1) = ((K + 1 : Nat) : Int) := by omega
    have eK2 : ((K : Int) + 1 + 1) = ((K + 2 : Nat) : Int) := by omega
    clear g0 g1 y0 y1 y2 y3 sl1 his hO hset2 hI1 hyl hcl hcs; have hC1_h := lH hC1; have hC2_h := lH hC2; have hp_h := lH hp; have hr_h := lH hr; have hK_h := lH hK; have hye_h := lH hye; have hy_h := lH hy; have hLj_h := lH hLj; have hkB_h := lH hkB; have hO2_h := lH hO2; have sl2_h := lH sl2; have i1_h := lH i1; have i2_h := lH i2; have z1_h := lH z1; have z2_h := lH z2; have hBfp_h := lH hBfp; have hCfp_h := lH hCfp; have hfeq_h := lH hfeq; have hfe_h := lH hfe; have hkp_h := lH hkp; have hel_h := lH hel; have hBA_h := lH hBA; have eK1_h := lH eK1; have eK2_h := lH eK2; clear hC1 hC2 hp hr hK hye hy hLj hkB hO2 sl2 i1 i2 z1 z2 hBfp hCfp hfeq hfe hkp hel hBA eK1 eK2
    go_upto_region 5 with (fail)
    rw [← hW1]
    clear hW1
    go_upto_region 7 with (fail)
    rw [eK1_h.out, ← hW2]
    clear hW2 q0 q1 q1f f0
    go_wp2_with (fail)
    rw [eK2_h.out]
    refine (hC1_h.out).mono ?_
    rintro e w3 ⟨rfl, hI3, hk3⟩
    have hO3 := hO2_h.out.wr i1_h.out hk3 hI3
    have sl3 := sl2_h.out.keeps hk3 (fun x hx hx' => hBA_h.out x hx' hx)
    have i3 : ((pre ++ eh ys).set (pre.length + 2 * j) (B, b, marks (K + 2) p))[pre.length + (2 * j + 1)]? = some (C, d, t) := by
     rw [List.getElem?_set_ne (by omega)]; exact i2_h.out
    have hI4 := hO3.rows _ (List.mem_of_getElem? i3)
    have hjl : j < ys.length := (List.getElem?_eq_some_iff.1 hy_h.out).1
    have q3 : w3.cell? ⟨(ad.add (j * 4)).block, (ad.add (j * 4)).off + 3, none⟩ = some (.slice C r d) := by
     have e := (ecs_get (l := ys.set j ((K : Int), ((K + 1 : Nat) : Int), (B, b, s), (C, d, t))) (j := j) (n := ((K : Int), ((K + 1 : Nat) : Int), (B, b, s), (C, d, t))) (by rw [List.getElem?_set_self hjl])).2.2.2
     obtain ⟨ad', hA', _, hc, _⟩ := Sl.cell sl3 e
     obtain rfl := Option.some.inj hA'
     rw [add_next _ _ 3 (by omega)] at hc
     rw [hr_h.out]; exact hc
    have hC4 := hC2_h.out w3 hI4
    have hk3' := hkB_h.out.trans (Keeps.of_below (Below.refl _ _) _)
    clear q2 hI3 hI4; have hO3_h := lH hO3; have sl3_h := lH sl3; have i3_h := lH i3; have hC4_h := lH hC4; have hk3_h := lH hk3; clear hO3 sl3 i3 hC4 hk3
    go_wp2_with (fail)
    refine (hC4_h.out).mono ?_
    rintro e w4 ⟨rfl, hI5, hk5⟩
    have hO5 := hO3_h.out.wr i3_h.out hk5 hI5
    have hCA : ∀ x, x ∈ fpA C → ¬ x ∈ fpA (some ad) := hO3_h.out.outer _ (List.mem_of_getElem? i3_h.out)
    have sl5 := sl3_h.out.keeps hk5 (fun x hx hx' => hCA x hx' hx)
    have hys : ecs (ys.set j ((K : Int), ((K + 1 : Nat) : Int), (B, b, s), (C, d, t))) = ecs (ys.set j ((K : Int), ((K + 1 : Nat) : Int), (B, b, marks (K + 2) p), (C, d, marks (K + 2 + p) r))) := ecs_congr (by simp only [ec, Hd.val, marks_length]; rw [← hp_h.out, ← hr_h.out])
    rw [hys] at sl5
    have hOe : ((pre ++ eh ys).set (pre.length + 2 * j) (B, b, marks (K + 2) p)).set (pre.length + (2 * j + 1)) (C, d, marks (K + 2 + p) r) = pre ++ eh (ys.set j ((K : Int), ((K + 1 : Nat) : Int), (B, b, marks (K + 2) p), (C, d, marks (K + 2 + p) r))) := by
     rw [List.set_append_right _ _ (by omega), List.set_append_right _ _ (by omega), Nat.add_sub_cancel_left, Nat.add_sub_cancel_left, ← eh_set _ hjl]
    rw [hOe] at hO5
    have hfe2 : (eh (ys.set j ((K : Int), ((K + 1 : Nat) : Int), (B, b, marks (K + 2) p), (C, d, marks (K + 2 + p) r)))).map (·.1) = (eh l).map (·.1) := by
     rw [← eh_set _ hjl, set_fst (l := t) (by rw [List.getElem?_set_ne (by omega)]; exact z2_h.out), set_fst z1_h.out, hfe_h.out]
    have hye2 : (ys.set j ((K : Int), ((K + 1 : Nat) : Int), (B, b, marks (K + 2) p), (C, d, marks (K + 2 + p) r))).map egOf = (marksE k L).take (j + 1) ++ L.drop (j + 1) := by
     rw [List.map_set, hye_h.out]
     have e := take_append_step (l := marksE k L) (m := L) (k := j) (by rw [marksE_length]) (marksE_get hLj_h.out)
     rw [← hK_h.out] at e
     rw [← e, hp_h.out, hr_h.out]; rfl
    have hkf : Keeps (· ∈ fpA (some ad) ++ fpR (eh l)) w w4 := by
     refine ((hkp_h.out.trans (hkB_h.out.mono fun x _ hx => List.mem_append_left _ hx)).trans (hk3_h.out.mono fun x _ hx => ?_)).trans (hk5.mono fun x _ hx => ?_)
     · rw [← hfeq_h.out]; exact List.mem_append_right _ (hBfp_h.out x hx)
     · rw [← hfeq_h.out]; exact List.mem_append_right _ (hCfp_h.out x hx)
    have hcs2 : k + cntE (L.take (j + 1)) = K + 2 + p + r := by
     have e1 : cntE (L.take (j + 1)) = cntE (L.take j) + (2 + s.length + t.length) := cntE_take_succ hLj_h.out
     have := hK_h.out; have := hp_h.out; have := hr_h.out; omega
    have hyl2 : ys.length = m := by have := hel_h.out; rw [ecs_length] at this; omega
    clear hI5 hk5 hCA hys hOe q3; have hO5_h := lH hO5; have sl5_h := lH sl5; have hfe2_h := lH hfe2; have hye2_h := lH hye2; have hkf_h := lH hkf; have hcs2_h := lH hcs2; have hyl2_h := lH hyl2; clear hO5 sl5 hfe2 hye2 hkf hcs2 hyl2
    go_wp2_with (fail)
    go_roundw
    case rel => exact ⟨j + 1, _, by omega, by go_num, by rw [hcs2_h.out]; go_num, by rw [List.length_set]; exact hyl2_h.out, hye2_h.out, sl5_h.out, hO5_h.out, hfe2_h.out, hkf_h.out⟩
    case measure => simp [intOf]; omega
  · obtain rfl : m = j := by omega
    have hye2 : ys.map egOf = marksE k L := by
     rw [hye, List.take_of_length_le (by rw [marksE_length, hLm_h.out]; exact Nat.le_refl _), List.drop_of_length_le (by rw [hLm_h.out]; exact Nat.le_refl _), List.append_nil]
    have hcn : cntE (L.take m) = cntE L := by rw [List.take_of_length_le (by rw [hLm_h.out]; exact Nat.le_refl _)]
    have hye2_h := lH hye2; have hcn_h := lH hcn; have hyl_h := lH hyl; have his_h := lH his; have hO_h := lH hO; have hfe_h := lH hfe; have hkp_h := lH hkp; clear hye2 hcn hyl his hO hfe hkp; clear hye
    go_wp2_with (fail)
    go_ret
    exact ⟨ret_int (by rw [hcn_h.out]), ys, hyl_h.out, hye2_h.out, his_h.out, hO_h.out, hfe_h.out, hkp_h.out.mono fun x _ hx => List.mem_append.1 hx⟩
set_option maxRecDepth 100000 in
set_option maxHeartbeats 2000000 in
theorem heldEdgeS_any (A : Option Addr) (c m : Nat) (l : List EHd) (L : List Eg) (k : Nat) (w : World) (h : RdE w A l) (hl : l.map egOf = marksE k L) (hm : l.length = m) (hml : m ≤ 1048576) (hb : k + cntE L ≤ 17592186044000) :
  Calls Try.prog 33 #[.slice A m c, .int .i64 k] w fun e w' => e = .returned (.int .i64 ((k + cntE L : Nat) : Int)) ∧ w = w' := by
 have hLm : L.length = m := by rw [← hm, ← marksE_length k L, ← hl, List.length_map]
 have hl_h := lH hl; have hm_h := lH hm; have hLm_h := lH hLm; clear hl hm hLm
 go_enter Try.func33, Try.ntmps33
 go_wp2_with (fail)
 go_loop [1, 5] (fun q i => ∃ j : Nat, j ≤ m ∧ i = .int .i64 j ∧ q = .int .i64 ((k + cntE (L.take j) : Nat) : Int)) (fun _ i => m - (intOf i).toNat)
 case atStart => exact ⟨0, Nat.zero_le _, rfl, by simp [cntE]⟩
 case round =>
  obtain ⟨j, hj, rfl, rfl⟩ := hrel
  by_cases hlt : j < m
  · obtain ⟨ad, κ, v, B, b, s, C, d, t, rfl, hn, ⟨d0, d1, d2, d3⟩, hr1, hr2⟩ := h.at_ (j := j) (by rw [hm_h.out]; exact hlt)
    obtain ⟨e, he⟩ : ∃ e, L[j]? = some e := ⟨_, List.getElem?_eq_getElem (by rw [hLm_h.out]; exact hlt)⟩
    have hg := marksE_get (k := k) he
    rw [← hl_h.out, List.getElem?_map, hn] at hg
    simp only [Option.map_some, Option.some.injEq, egOf, Prod.mk.injEq] at hg
    obtain ⟨g0, g1, g2, g3⟩ := hg
    have hcs := cntE_take_succ he
    have hcl := cntE_take_le L (j + 1)
    obtain ⟨K, hK⟩ : ∃ K, K = k + cntE (L.take j) := ⟨_, rfl⟩
    obtain ⟨p, hp⟩ : ∃ p, p = e.2.2.1.length := ⟨_, rfl⟩
    obtain ⟨r, hr⟩ : ∃ r, r = e.2.2.2.length := ⟨_, rfl⟩
    rw [← hK] at g0 g1 g2 g3 ⊢
    rw [← hp] at g2 g3 hcs
    rw [← hr] at g3 hcs
    subst g0 g1 g2 g3
    rw [marks_length] at d2 d3
    have hC1 := heldIntS_any B b p (K + 2) w hr1 (by omega)
    have hC2 := heldIntS_any C d r (K + 2 + p) w hr2 (by omega)
    have hjI : (j : Int) < (m : Int) := by omega
    have eK2 : ((K : Int) + 1 + 1) = ((K + 2 : Nat) : Int) := by omega
    have hKb : K + 2 + p + r ≤ 17592186044000 := by omega
    have hn1 : ¬ (((K + 2 + p : Nat) : Int) < 0) := by omega
    have hn2 : ¬ (((K + 2 + p + r : Nat) : Int) < 0) := by omega
    have hsum : k + cntE (L.take (j + 1)) = K + 2 + p + r := by omega
    have hC1_h := lH hC1; have hC2_h := lH hC2; have hK_h := lH hK; have hp_h := lH hp; have hr_h := lH hr; have eK2_h := lH eK2; have hsum_h := lH hsum; have he_h := lH he; have hn_h := lH hn; clear hC1 hC2 hK hp hr eK2 hsum he hn; clear h hr1 hr2 hcs hcl
    go_wp2_with (fail)
    rw [eK2_h.out]
    refine (hC1_h.out).mono ?_
    rintro e w1 ⟨rfl, rfl⟩
    go_wp2_with (fail)
    refine (hC2_h.out).mono ?_
    rintro e w1 ⟨rfl, rfl⟩
    go_wp2_with (fail)
    go_round
    case rel => exact ⟨j + 1, by omega, by go_num, by rw [hsum_h.out]; go_num⟩
    case measure => simp [intOf]; omega
  · obtain rfl : m = j := by omega
    have hcn : cntE (L.take m) = cntE L := by rw [List.take_of_length_le (by rw [hLm_h.out]; exact Nat.le_refl _)]
    have hcn_h := lH hcn; clear hcn; clear h
    go_wp2_with (fail)
    go_ret
    exact ⟨ret_int (by rw [hcn_h.out]), rfl⟩
set_option maxRecDepth 100000 in
set_option maxHeartbeats 2000000 in
theorem eqGraph_law {v v' : Value} {g g' : Gr} {w : World} (h : RdGr w v g) (h' : RdGr w v' g') (ok : OkG g) :
  Calls Try.prog 10 #[v, v'] w fun e w' => e = .returned (.bool (decide (g = g'))) ∧ Below w.heap.size w w' := by
 obtain ⟨A, c, hs, ⟨B, b, s⟩, ⟨C, d, t⟩, rfl, e1, e2, e3, hE, hRa, hRb⟩ := h
 obtain ⟨A', c', hs', ⟨B', b', s'⟩, ⟨C', d', t'⟩, rfl, e1', e2', e3', hE', hRa', hRb'⟩ := h'
 obtain ⟨z, es, s0, t0⟩ := g
 obtain ⟨z', es', s0', t0'⟩ := g'
 have a1 : es = hs.map egOf := e1
 have a2 : s = s0 := e2
 have a3 : t = t0 := e3
 have b1 : es' = hs'.map egOf := e1'
 have b2 : s' = s0' := e2'
 have b3 : t' = t0' := e3'
 subst a1 a2 a3 b1 b2 b3
 obtain ⟨⟨ok1, ok2, ok3⟩, ok4, -⟩ := ok
 have ok1' : hs.length ≤ 1048576 := by have : (hs.map egOf).length ≤ 1048576 := ok1; simpa using this
 have ok2' : s.length ≤ 1048576 := ok2
 have ok3' : t.length ≤ 1048576 := ok3
 have hQ0 := fun (W : World) (hb : Below w.heap.size w W) => eqEdgeS_any A A' c c' hs hs' W (hE.below hb) (hE'.below hb) ok1' (fun x hx => ok4 _ (List.mem_map_of_mem hx))
 have hQ1 := fun (W : World) (hb : Below w.heap.size w W) => eqIntS_any B B' b b' s s' W (RdI.below hRa hb) (RdI.below hRa' hb) (by omega)
 have hQ2 := fun (W : World) (hb : Below w.heap.size w W) => eqIntS_any C C' d d' t t' W (RdI.below hRb hb) (RdI.below hRb' hb) (by omega)
 show Calls Try.prog _ #[.agg #[.int .i64 z, .slice A hs.length c, .slice B s.length b, .slice C t.length d], .agg #[.int .i64 z', .slice A' hs'.length c', .slice B' s'.length b', .slice C' t'.length d']] w fun e w' => e = .returned (.bool (decide (((z, hs.map egOf, s, t) : Gr) = (z', hs'.map egOf, s', t')))) ∧ Below w.heap.size w w'
 obtain ⟨D, hD⟩ : ∃ D, D = decide (((z, hs.map egOf, s, t) : Gr) = (z', hs'.map egOf, s', t')) := ⟨_, rfl⟩
 obtain ⟨D0, hD0⟩ : ∃ D, D = decide (hs.map egOf = hs'.map egOf) := ⟨_, rfl⟩
 obtain ⟨D1, hD1⟩ : ∃ D, D = decide (s = s') := ⟨_, rfl⟩
 obtain ⟨D2, hD2⟩ : ∃ D, D = decide (t = t') := ⟨_, rfl⟩
 rw [← hD]
 simp only [← hD0] at hQ0
 simp only [← hD1] at hQ1
 simp only [← hD2] at hQ2
 have hDD : D = (decide (z = z') && (D0 && (D1 && D2))) := by
  rw [hD, hD0, hD1, hD2, Bool.eq_iff_iff]; simp
 obtain ⟨n, hn⟩ : ∃ n, n = hs.length := ⟨_, rfl⟩
 obtain ⟨n', hn'⟩ : ∃ n, n = hs'.length := ⟨_, rfl⟩
 obtain ⟨p, hp⟩ : ∃ p, p = s.length := ⟨_, rfl⟩
 obtain ⟨q, hq⟩ : ∃ q, q = t.length := ⟨_, rfl⟩
 obtain ⟨p', hp'⟩ : ∃ p, p = s'.length := ⟨_, rfl⟩
 obtain ⟨q', hq'⟩ : ∃ q, q = t'.length := ⟨_, rfl⟩
 simp only [← hn, ← hn'] at hQ0
 simp only [← hp, ← hp'] at hQ1
 simp only [← hq, ← hq'] at hQ2
 rw [← hn, ← hn', ← hp, ← hq, ← hp', ← hq']
 obtain ⟨W, hW, bW, k0, k1⟩ := allocs2 w (.cells #[.int .i64 z, .slice A n c, .slice B p b, .slice C q d] tGr) (.cells #[.int .i64 z', .slice A' n' c', .slice B' p' b', .slice C' q' d'] tGr)
 obtain ⟨⟨c0, c1, c2, c3⟩, f0, f1, f2, f3⟩ := t_box4 k0
 obtain ⟨⟨d0, d1, d2, d3⟩, g0, g1, g2, g3⟩ := t_box4 k1
 clear hE hE' hRa hRa' hRb hRb' hD hD0 hD1 hD2 hn hn' hp hq hp' hq' e1 e2 e3 e1' e2' e3' ok1 ok2 ok3 ok4
 by_cases e0 : z = z'
 · have t0 : (z != z') = false := by simp [e0]
   rw [decide_eq_true e0] at hDD
   cases D0
   · obtain rfl : D = false := by rw [hDD]; rfl
     clear e0 hDD; have hQ0_h := lH hQ0; have hQ1_h := lH hQ1; have hQ2_h := lH hQ2; have k0_h := lH k0; have k1_h := lH k1; have bW_h := lH bW; clear hQ0 hQ1 hQ2 k0 k1 bW
     go_enter Try.func10, Try.ntmps10
     go_upto_region 1 with (fail)
     rw [← hW]
     clear hW
     go_wp2_with (fail)
     refine (hQ0_h.out W bW_h.out).mono ?_
     rintro e w1 ⟨rfl, hb1⟩
     go_wp2_with (fail)
     go_ret
     exact ⟨rfl, below_trans bW_h.out hb1 bW_h.out.size⟩
   · cases D1
     · obtain rfl : D = false := by rw [hDD]; rfl
       clear e0 hDD; have hQ0_h := lH hQ0; have hQ1_h := lH hQ1; have hQ2_h := lH hQ2; have k0_h := lH k0; have k1_h := lH k1; have bW_h := lH bW; clear hQ0 hQ1 hQ2 k0 k1 bW
       go_enter Try.func10, Try.ntmps10
       go_upto_region 1 with (fail)
       rw [← hW]
       clear hW
       go_wp2_with (fail)
       refine (hQ0_h.out W bW_h.out).mono ?_
       rintro e w1 ⟨rfl, hb1⟩
       clear c0 c1 c2 c3 f0 f1 f2 f3 d0 d1 d2 d3 g0 g1 g2 g3
       obtain ⟨⟨c0, c1, c2, c3⟩, f0, f1, f2, f3⟩ := t_box4 (t_box_below k0_h.out hb1)
       obtain ⟨⟨d0, d1, d2, d3⟩, g0, g1, g2, g3⟩ := t_box4 (t_box_below k1_h.out hb1)
       have hB1 := below_trans bW_h.out hb1 bW_h.out.size
       clear hb1; have hB1_h := lH hB1; clear hB1
       go_wp2_with (fail)
       refine (hQ1_h.out w1 hB1_h.out).mono ?_
       rintro e w2 ⟨rfl, hq2⟩
       have hB2 := below_trans hB1_h.out hq2.below hB1_h.out.size
       clear hq2; have hB2_h := lH hB2; clear hB2
       go_wp2_with (fail)
       go_ret
       exact ⟨rfl, hB2_h.out⟩
     · obtain rfl : D = D2 := by rw [hDD]; rfl
       clear e0 hDD; have hQ0_h := lH hQ0; have hQ1_h := lH hQ1; have hQ2_h := lH hQ2; have k0_h := lH k0; have k1_h := lH k1; have bW_h := lH bW; clear hQ0 hQ1 hQ2 k0 k1 bW
       go_enter Try.func10, Try.ntmps10
       go_upto_region 1 with (fail)
       rw [← hW]
       clear hW
       go_wp2_with (fail)
       refine (hQ0_h.out W bW_h.out).mono ?_
       rintro e w1 ⟨rfl, hb1⟩
       clear c0 c1 c2 c3 f0 f1 f2 f3 d0 d1 d2 d3 g0 g1 g2 g3
       have k0a := t_box_below k0_h.out hb1
       have k1a := t_box_below k1_h.out hb1
       obtain ⟨⟨c0, c1, c2, c3⟩, f0, f1, f2, f3⟩ := t_box4 k0a
       obtain ⟨⟨d0, d1, d2, d3⟩, g0, g1, g2, g3⟩ := t_box4 k1a
       have hB1 := below_trans bW_h.out hb1 bW_h.out.size
       clear hb1; have hB1_h := lH hB1; have k0a_h := lH k0a; have k1a_h := lH k1a; clear hB1 k0a k1a
       go_wp2_with (fail)
       refine (hQ1_h.out w1 hB1_h.out).mono ?_
       rintro e w2 ⟨rfl, hq2⟩
       clear c0 c1 c2 c3 f0 f1 f2 f3 d0 d1 d2 d3 g0 g1 g2 g3
       obtain ⟨⟨c0, c1, c2, c3⟩, f0, f1, f2, f3⟩ := t_box4 (box_qt k0a_h.out hq2)
       obtain ⟨⟨d0, d1, d2, d3⟩, g0, g1, g2, g3⟩ := t_box4 (box_qt k1a_h.out hq2)
       have hB2 := below_trans hB1_h.out hq2.below hB1_h.out.size
       clear hq2; have hB2_h := lH hB2; clear hB2
       go_wp2_with (fail)
       refine (hQ2_h.out w2 hB2_h.out).mono ?_
       rintro e w3 ⟨rfl, hq3⟩
       have hB3 := below_trans hB2_h.out hq3.below hB2_h.out.size
       clear hq3; have hB3_h := lH hB3; clear hB3
       cases D
       · go_wp2_with (fail)
         go_ret
         exact ⟨rfl, hB3_h.out⟩
       · go_wp2_with (fail)
         go_ret
         exact ⟨rfl, hB3_h.out⟩
 · have t0 : (z != z') = true := by simp [e0]
   obtain rfl : D = false := by rw [hDD, decide_eq_false e0]; rfl
   clear e0 hDD; have hQ0_h := lH hQ0; have hQ1_h := lH hQ1; have hQ2_h := lH hQ2; have k0_h := lH k0; have k1_h := lH k1; have bW_h := lH bW; clear hQ0 hQ1 hQ2 k0 k1 bW
   go_enter Try.func10, Try.ntmps10
   go_upto_region 1 with (fail)
   rw [← hW]
   clear hW
   go_wp2_with (fail)
   go_ret
   exact ⟨rfl, bW_h.out⟩
theorem alloc_box1 (w : World) (o : Obj) : ∃ W, W = w.alloc o ∧ Below w.heap.size w W ∧ W.heap[w.heap.size]? = some o := ⟨_, rfl, t_below_alloc _ _, heap_alloc_new _ _⟩
set_option maxRecDepth 100000 in
set_option maxHeartbeats 2000000 in
theorem markGraph_law {v : Value} {g : Gr} {fp : List Nat} {K : Int} {w : World} (k : Nat) (h : OwGr w v g fp) (hK : K = (k : Int)) (_ok : OkG g) (hl : k + cntG g ≤ 17592186044000 ∧ 0 < k) :
  Calls Try.prog 12 #[v, .int .i64 K] w fun e w' => e = .returned (.int .i64 (K + (cntG g : Int))) ∧ HeGr w' v g k fp ∧ Keeps (· ∈ fp) w w' := by
 subst hK
 obtain ⟨A, c, hs, ⟨B, b, s⟩, ⟨C, d, t⟩, rfl, e1, e2, e3, hsl, hO, rfl⟩ := h
 obtain ⟨z, es, s0, t0⟩ := g
 have a1 : es = hs.map egOf := e1
 have a2 : s = s0 := e2
 have a3 : t = t0 := e3
 subst a1 a2 a3
 obtain ⟨⟨ok1, -, -⟩, -, -⟩ := _ok
 have ok1' : hs.length ≤ 1048576 := by have : (hs.map egOf).length ≤ 1048576 := ok1; simpa using this
 obtain ⟨E, hE⟩ : ∃ E, E = cntE (hs.map egOf) := ⟨_, rfl⟩
 obtain ⟨n, hn⟩ : ∃ n, n = hs.length := ⟨_, rfl⟩
 obtain ⟨p, hp⟩ : ∃ p, p = s.length := ⟨_, rfl⟩
 obtain ⟨q, hq⟩ : ∃ q, q = t.length := ⟨_, rfl⟩
 have hcg : cntG (z, hs.map egOf, s, t) = E + p + q := by rw [hE, hp, hq]; rfl
 rw [hcg] at hl ⊢
 have hl2 : k + (E + p + q) ≤ 17592186044000 := hl.1
 obtain ⟨W, hW, bW, k0⟩ := alloc_box1 w (.cells #[.int .i64 z, .slice A n c, .slice B p b, .slice C q d] tGr)
 have hC0 := markEdgeS_any A c n hs [(B, b, s), (C, d, t)] k W (by rw [hn]; exact hsl.below bW) (hO.below bW) hn.symm (by omega) (by rw [← hE]; omega)
 rw [← hE] at hC0
 have hC1 := fun (W' : World) (hI : IS W' B b s) => markIntS_any B b s (k + E) W' hI (by omega)
 have hC2 := fun (W' : World) (hI : IS W' C d t) => markIntS_any C d t (k + E + p) W' hI (by omega)
 simp only [← hp] at hC1
 simp only [← hq] at hC2
 show Calls Try.prog _ #[.agg #[.int .i64 z, .slice A hs.length c, .slice B s.length b, .slice C t.length d], .int .i64 (k : Int)] w fun e w' => e = .returned (.int .i64 ((k : Int) + ((E + p + q : Nat) : Int))) ∧ HeGr w' (.agg #[.int .i64 z, .slice A hs.length c, .slice B s.length b, .slice C t.length d]) (z, hs.map egOf, s, t) k (fpA A ++ fpR ((B, b, s) :: (C, d, t) :: eh hs)) ∧ Keeps (· ∈ fpA A ++ fpR ((B, b, s) :: (C, d, t) :: eh hs)) w w'
 have hlt : ∀ x, x ∈ fpA A ++ fpR (((B, b, s) : Hd) :: (C, d, t) :: eh hs) → x < w.heap.size := fun x hx => by
  rcases List.mem_append.1 hx with hx | hx
  · exact hsl.lt x hx
  · exact hO.lt x hx
 obtain ⟨fp, hfp⟩ : ∃ fp, fp = fpA A ++ fpR (((B, b, s) : Hd) :: (C, d, t) :: eh hs) := ⟨_, rfl⟩
 have hsub : ∀ x, x ∈ fpA A ++ fpR (eh hs) → x ∈ fp := fun x hx => by
  rw [hfp, fpR_cons, fpR_cons]; simp only [List.mem_append] at hx ⊢; rcases hx with h | h <;> simp [h]
 have hsubB : ∀ x, x ∈ fpA B → x ∈ fp := fun x hx => by rw [hfp, fpR_cons]; simp [hx]
 have hsubC : ∀ x, x ∈ fpA C → x ∈ fp := fun x hx => by rw [hfp, fpR_cons, fpR_cons]; simp [hx]
 rw [← hfp] at hlt ⊢
 obtain ⟨⟨c0, c1, c2, c3⟩, f0, f1, f2, f3⟩ := t_box4 k0
 rw [← hn, ← hp, ← hq]
 obtain ⟨R1, hR1⟩ : ∃ R : Nat, R = k + E + p := ⟨_, rfl⟩
 obtain ⟨R2, hR2⟩ : ∃ R : Nat, R = k + E + p + q := ⟨_, rfl⟩
 simp only [← hR1] at hC1 hC2
 have hRR : R1 + q = R2 := by omega
 rw [hRR] at hC2
 have hfin : (k : Int) + ((E + p + q : Nat) : Int) = (R2 : Int) := by omega
 rw [hfin]
 obtain ⟨R0, hR0⟩ : ∃ R : Nat, R = k + E := ⟨_, rfl⟩
 simp only [← hR0] at hC0 hC1
 clear hsl hO hl hl2 ok1 ok1' e1 e2 e3 hcg hfin; have hC0_h := lH hC0; have hC1_h := lH hC1; have hC2_h := lH hC2; have hE_h := lH hE; have hn_h := lH hn; have hp_h := lH hp; have hq_h := lH hq; have bW_h := lH bW; have k0_h := lH k0; have hlt_h := lH hlt; have hfp_h := lH hfp; have hsub_h := lH hsub; have hsubB_h := lH hsubB; have hsubC_h := lH hsubC; have hR0_h := lH hR0; have hR1_h := lH hR1; have hR2_h := lH hR2; have hRR_h := lH hRR; clear hC0 hC1 hC2 hE hn hp hq bW k0 hlt hfp hsub hsubB hsubC hR0 hR1 hR2 hRR
 go_enter Try.func12, Try.ntmps12
 go_upto_region 1 with (fail)
 rw [← hW]
 clear hW
 go_wp2_with (fail)
 refine (hC0_h.out).mono ?_
 rintro e w1 ⟨ys, rfl, hyl, hye, hsl1, hO1, hfe, hk1⟩
 clear c0 c1 c2 c3 f0 f1 f2 f3
 have k1 := t_box_keeps k0_h.out hk1 (fun hx => by have := hlt_h.out _ (hsub_h.out _ hx); omega)
 obtain ⟨⟨c0, c1, c2, c3⟩, f0, f1, f2, f3⟩ := t_box4 k1
 have hC1' := hC1_h.out w1 (hO1.rows (B, b, s) (by simp))
 have hyl_h := lH hyl; have hye_h := lH hye; have hsl1_h := lH hsl1; have hO1_h := lH hO1; have hfe_h := lH hfe; have hk1_h := lH hk1; have k1_h := lH k1; have hC1'_h := lH hC1'; clear hyl hye hsl1 hO1 hfe hk1 k1 hC1'
 go_wp2_with (fail)
 refine (hC1'_h.out).mono ?_
 rintro e w2 ⟨rfl, hI2, hk2⟩
 clear c0 c1 c2 c3 f0 f1 f2 f3
 have k2 := t_box_keeps k1_h.out hk2 (fun hx => by have := hlt_h.out _ (hsubB_h.out _ hx); omega)
 obtain ⟨⟨c0, c1, c2, c3⟩, f0, f1, f2, f3⟩ := t_box4 k2
 have hO2 := hO1_h.out.wr (i := 0) (B := B) (c := b) (l := s) rfl hk2 hI2
 have hsl2 := hsl1_h.out.keeps hk2 (fun x hx hx' => hO1_h.out.outer (B, b, s) (by simp) x hx' hx)
 have hC2' := hC2_h.out w2 (hO2.rows (C, d, t) (by simp))
 clear k2 hI2; have hO2_h := lH hO2; have hsl2_h := lH hsl2; have hk2_h := lH hk2; have hC2'_h := lH hC2'; clear hO2 hsl2 hk2 hC2'
 go_wp2_with (fail)
 refine (hC2'_h.out).mono ?_
 rintro e w3 ⟨rfl, hI3, hk3⟩
 have hO3 := hO2_h.out.wr (i := 1) (B := C) (c := d) (l := t) rfl hk3 hI3
 have hsl3 := hsl2_h.out.keeps hk3 (fun x hx hx' => hO2_h.out.outer (C, d, t) (by simp) x hx' hx)
 have hkf : Keeps (· ∈ fp) w w3 := (((Keeps.of_below bW_h.out _).trans (hk1_h.out.mono fun x _ hx => hsub_h.out x hx)).trans (hk2_h.out.mono fun x _ hx => hsubB_h.out x hx)).trans (hk3.mono fun x _ hx => hsubC_h.out x hx)
 have hHe : HeGr w3 (.agg #[.int .i64 z, .slice A n c, .slice B p b, .slice C q d]) (z, hs.map egOf, s, t) k fp := by
  refine ⟨A, c, ys, (B, b, marks R0 p), (C, d, marks R1 q), ?_, hye_h.out.symm, ?_, ?_, ?_, hO3, ?_⟩
  · rw [hyl_h.out]; simp only [marks_length]; rfl
  · show marks R0 p = marks (k + cntE (hs.map egOf)) s.length
    rw [← hE_h.out, ← hp_h.out, hR0_h.out]
  · show marks R1 q = marks (k + cntE (hs.map egOf) + s.length) t.length
    rw [← hE_h.out, ← hp_h.out, ← hq_h.out, hR1_h.out]
  · rw [hyl_h.out]; exact hsl3
  · rw [hfp_h.out]
    congr 1
    exact fpR_map (by simp only [List.map_cons]; rw [hfe_h.out])
 clear c0 c1 c2 c3 f0 f1 f2 f3 hI3 hk3 hO3 hsl3; have hkf_h := lH hkf; have hHe_h := lH hHe; clear hkf hHe
 go_wp2_with (fail)
 go_ret
 exact ⟨rfl, hHe_h.out, hkf_h.out⟩
set_option maxRecDepth 100000 in
set_option maxHeartbeats 2000000 in
theorem heldGraph_law {v : Value} {g : Gr} {k : Nat} {fp : List Nat} {K : Int} {w : World} (h : HeGr w v g k fp) (hK : K = (k : Int)) (_ok : OkG g) (hl : k + cntG g ≤ 17592186044000 ∧ 0 < k) :
  Calls Try.prog 14 #[v, .int .i64 K] w fun e w' => e = .returned (.int .i64 (K + (cntG g : Int))) ∧ Below w.heap.size w w' := by
 subst hK
 obtain ⟨A, c, hs, ⟨B, b, s⟩, ⟨C, d, t⟩, rfl, e1, e2, e3, hE, hRa, hRb⟩ := OwGr.rd h
 obtain ⟨z, es, s0, t0⟩ := g
 have a1 : hs.map egOf = marksE k es := e1.symm
 have a2 : s = marks (k + cntE es) s0.length := e2
 have a3 : t = marks (k + cntE es + s0.length) t0.length := e3
 subst a2 a3
 obtain ⟨⟨ok1, -, -⟩, -, -⟩ := _ok
 have ok1' : es.length ≤ 1048576 := ok1
 have hnl : es.length = hs.length := by have := congrArg List.length a1; rw [List.length_map, marksE_length] at this; exact this.symm
 obtain ⟨E, hEE⟩ : ∃ E, E = cntE es := ⟨_, rfl⟩
 obtain ⟨n, hn⟩ : ∃ n, n = hs.length := ⟨_, rfl⟩
 obtain ⟨p, hp⟩ : ∃ p, p = s0.length := ⟨_, rfl⟩
 obtain ⟨q, hq⟩ : ∃ q, q = t0.length := ⟨_, rfl⟩
 have hcg : cntG (z, es, s0, t0) = E + p + q := by rw [hEE, hp, hq]; rfl
 rw [hcg] at hl ⊢
 have hl2 : k + (E + p + q) ≤ 17592186044000 := hl.1
 show Calls Try.prog _ #[.agg #[.int .i64 z, .slice A hs.length c, .slice B (marks (k + cntE es) s0.length).length b, .slice C (marks (k + cntE es + s0.length) t0.length).length d], .int .i64 (k : Int)] w _
 have hRa' : RdI w B (marks (k + cntE es) s0.length) := hRa
 have hRb' : RdI w C (marks (k + cntE es + s0.length) t0.length) := hRb
 rw [marks_length, marks_length, ← hn, ← hp, ← hq]
 rw [← hEE, ← hp] at hRa' hRb'
 rw [← hq] at hRb'
 obtain ⟨W, hW, bW, k0⟩ := alloc_box1 w (.cells #[.int .i64 z, .slice A n c, .slice B p b, .slice C q d] tGr)
 have hC0 := heldEdgeS_any A c n hs es k W (hE.below bW) a1 hn.symm (by omega) (by rw [← hEE]; omega)
 rw [← hEE] at hC0
 have hC1 := heldIntS_any B b p (k + E) W (hRa'.below bW) (by omega)
 have hC2 := heldIntS_any C d q (k + E + p) W (hRb'.below bW) (by omega)
 obtain ⟨⟨c0, c1, c2, c3⟩, f0, f1, f2, f3⟩ := t_box4 k0
 obtain ⟨R0, hR0⟩ : ∃ R : Nat, R = k + E := ⟨_, rfl⟩
 obtain ⟨R1, hR1⟩ : ∃ R : Nat, R = k + E + p := ⟨_, rfl⟩
 obtain ⟨R2, hR2⟩ : ∃ R : Nat, R = k + E + p + q := ⟨_, rfl⟩
 rw [← hR0] at hC0 hC1
 rw [← hR1] at hC2
 rw [show R0 + p = R1 by omega] at hC1
 rw [show R1 + q = R2 by omega] at hC2
 have hfin : (k : Int) + ((E + p + q : Nat) : Int) = (R2 : Int) := by omega
 rw [hfin]
 have n0 : ¬ ((R0 : Int) < 0) := by omega
 have n1 : ¬ ((R1 : Int) < 0) := by omega
 have n2 : ¬ ((R2 : Int) < 0) := by omega
 clear hE hRa hRb hRa' hRb' h e1 e2 e3 a1 ok1 ok1' hnl hl hl2 hcg hfin hEE hn hp hq hR0 hR1 hR2; have hC0_h := lH hC0; have hC1_h := lH hC1; have hC2_h := lH hC2; have k0_h := lH k0; have bW_h := lH bW; clear hC0 hC1 hC2 k0 bW
 go_enter Try.func14, Try.ntmps14
 go_upto_region 1 with (fail)
 rw [← hW]
 clear hW
 go_wp2_with (fail)
 refine (hC0_h.out).mono ?_
 rintro e w1 ⟨rfl, rfl⟩
 go_wp2_with (fail)
 refine (hC1_h.out).mono ?_
 rintro e w1 ⟨rfl, rfl⟩
 go_wp2_with (fail)
 refine (hC2_h.out).mono ?_
 rintro e w1 ⟨rfl, rfl⟩
 go_wp2_with (fail)
 go_ret
 exact ⟨rfl, bW_h.out⟩
end Go.Proofs.Ytpkmjenoniedjaa
namespace Go.Proofs.Ytpkmjenoniedjaa
open Go.ChangeShapes Go.WideShapes Go.ChangeAt Go.RowKit
set_option maxHeartbeats 40000000 in
set_option maxRecDepth 100000 in
theorem lawImageGraph_any (vg : Value) (g : Gr) (vpt : Value) (pt : Gr) (vm : Value) (m : Ma) (w : World) (hg : RdGr w vg g) (hgg : BigGraph g) (hpt : RdGr w vpt pt) (hgpt : BigGraph pt) (hm : RdMa w vm m) (hgm : BigMatch m) :
  Calls Try.prog 3 #[vg, vpt, vm] w fun e w' => e = .returned (.bool true) ∧ Below w.heap.size w w' := by
 obtain ⟨Ag, ng, cg, Bg, mg, dg, Cg, kg, eg, rfl⟩ := hg.shape
 obtain ⟨Apt, npt, cpt, Bpt, mpt, dpt, Cpt, kpt, ept, rfl⟩ := hpt.shape
 obtain ⟨Am, nm, cm, Bm, mm, dm, rfl⟩ := hm.shape
 obtain ⟨Sg, hSg⟩ : ∃ S, S = szG (g) 1048576 := ⟨_, rfl⟩
 have HSg := lH hSg; clear hSg
 obtain ⟨Spt, hSpt⟩ : ∃ S, S = szG (pt) Sg := ⟨_, rfl⟩
 have HSpt := lH hSpt; clear hSpt
 obtain ⟨Sm, hSm⟩ : ∃ S, S = szMa (m) Spt := ⟨_, rfl⟩
 have HSm := lH hSm; clear hSm
 obtain ⟨R, hR⟩ : ∃ R, R = imR g pt m := ⟨_, rfl⟩
 have hokR : OkG pt → OkG R.1 := fun h => by rw [hR]; exact imR_ok h
 have sLaw : ∀ (vg vp vm : Value) (fg fq fm : List Nat) (w1 : World), OwGr w1 vg g fg → OwGr w1 vp pt fq → OwMa w1 vm m fm → OkG g → OkG pt → OkMa m → Calls Try.prog 6 #[vg, vp, vm] w1 fun e w' => ∃ v' fp, e = .returned (.tuple #[v', .bool R.2]) ∧ OwGr w' v' R.1 fp ∧ FreshL w1.heap.size fp ∧ Below w1.heap.size w1 w' := fun _ _ _ _ _ _ _ h h' hm ok ok' okm => by rw [hR]; exact sImageGraph_law h h' hm ok ok' okm
 have iLaw : ∀ (vg vp vm : Value) (fg fq fm : List Nat) (w1 : World), OwGr w1 vg g fg → OwGr w1 vp pt fq → OwMa w1 vm m fm → OkG g → OkG pt → OkMa m → Calls Try.prog 9 #[vg, vp, vm] w1 fun e w' => ∃ v' fp, e = .returned (.tuple #[v', .bool R.2]) ∧ OwGr w' v' R.1 fp ∧ FreshL w1.heap.size fp ∧ Below w1.heap.size w1 w' := fun _ _ _ _ _ _ _ h h' hm ok ok' okm => by rw [hR]; exact iImageGraph_law h h' hm ok ok' okm
 clear hR; have sLaw_h := lH sLaw; have iLaw_h := lH iLaw; clear sLaw iLaw
 have hB0 : Below w.heap.size w w := Below.refl _ _
 have hb1 := t_below_alloc (w) (.cells #[.int .i64 (g).1, .slice Ag ng cg, .slice Bg mg dg, .slice Cg kg eg] 25)
 have hB1 := below_trans hB0 hb1 hB0.size
 have bx1 := heap_alloc_new (w) (.cells #[.int .i64 (g).1, .slice Ag ng cg, .slice Bg mg dg, .slice Cg kg eg] 25)
 have lt_pg : LtL ((w).alloc (.cells #[.int .i64 (g).1, .slice Ag ng cg, .slice Bg mg dg, .slice Cg kg eg] 25)).heap.size [(w).heap.size] := fun b hb => by obtain rfl := List.mem_singleton.1 hb; exact t_box_lt bx1
 have fr_pg : FreshL (w).heap.size [(w).heap.size] := fun b hb => by obtain rfl := List.mem_singleton.1 hb; exact Nat.le_refl _
 have BX_pg_1 := lH bx1; clear bx1
 have hb2 := t_below_alloc ((w).alloc (.cells #[.int .i64 (g).1, .slice Ag ng cg, .slice Bg mg dg, .slice Cg kg eg] 25)) (.cells #[.int .i64 (pt).1, .slice Apt npt cpt, .slice Bpt mpt dpt, .slice Cpt kpt ept] 25)
 have hB2 := below_trans hB1 hb2 hB1.size
 have bx2 : (((w).alloc (.cells #[.int .i64 (g).1, .slice Ag ng cg, .slice Bg mg dg, .slice Cg kg eg] 25)).alloc (.cells #[.int .i64 (pt).1, .slice Apt npt cpt, .slice Bpt mpt dpt, .slice Cpt kpt ept] 25)).heap[(w).heap.size + 1]? = some (.cells #[.int .i64 (pt).1, .slice Apt npt cpt, .slice Bpt mpt dpt, .slice Cpt kpt ept] 25) := by
  have := heap_alloc_new ((w).alloc (.cells #[.int .i64 (g).1, .slice Ag ng cg, .slice Bg mg dg, .slice Cg kg eg] 25)) (.cells #[.int .i64 (pt).1, .slice Apt npt cpt, .slice Bpt mpt dpt, .slice Cpt kpt ept] 25)
  simp only [World.size_alloc] at this; exact this
 have lt_ppt : LtL (((w).alloc (.cells #[.int .i64 (g).1, .slice Ag ng cg, .slice Bg mg dg, .slice Cg kg eg] 25)).alloc (.cells #[.int .i64 (pt).1, .slice Apt npt cpt, .slice Bpt mpt dpt, .slice Cpt kpt ept] 25)).heap.size [(w).heap.size + 1] := fun b hb => by obtain rfl := List.mem_singleton.1 hb; exact t_box_lt bx2
 have fr_ppt : FreshL ((w).alloc (.cells #[.int .i64 (g).1, .slice Ag ng cg, .slice Bg mg dg, .slice Cg kg eg] 25)).heap.size [(w).heap.size + 1] := fun b hb => by obtain rfl := List.mem_singleton.1 hb; simp only [World.size_alloc]; exact Nat.le_refl _
 have BX_ppt_2 := lH bx2; clear bx2
 have hb3 := t_below_alloc (((w).alloc (.cells #[.int .i64 (g).1, .slice Ag ng cg, .slice Bg mg dg, .slice Cg kg eg] 25)).alloc (.cells #[.int .i64 (pt).1, .slice Apt npt cpt, .slice Bpt mpt dpt, .slice Cpt kpt ept] 25)) (.cells #[.slice Am nm cm, .slice Bm mm dm] 27)
 have hB3 := below_trans hB2 hb3 hB2.size
 have bx3 : ((((w).alloc (.cells #[.int .i64 (g).1, .slice Ag ng cg, .slice Bg mg dg, .slice Cg kg eg] 25)).alloc (.cells #[.int .i64 (pt).1, .slice Apt npt cpt, .slice Bpt mpt dpt, .slice Cpt kpt ept] 25)).alloc (.cells #[.slice Am nm cm, .slice Bm mm dm] 27)).heap[(w).heap.size + 1 + 1]? = some (.cells #[.slice Am nm cm, .slice Bm mm dm] 27) := by
  have := heap_alloc_new (((w).alloc (.cells #[.int .i64 (g).1, .slice Ag ng cg, .slice Bg mg dg, .slice Cg kg eg] 25)).alloc (.cells #[.int .i64 (pt).1, .slice Apt npt cpt, .slice Bpt mpt dpt, .slice Cpt kpt ept] 25)) (.cells #[.slice Am nm cm, .slice Bm mm dm] 27)
  simp only [World.size_alloc] at this; exact this
 have lt_pm : LtL ((((w).alloc (.cells #[.int .i64 (g).1, .slice Ag ng cg, .slice Bg mg dg, .slice Cg kg eg] 25)).alloc (.cells #[.int .i64 (pt).1, .slice Apt npt cpt, .slice Bpt mpt dpt, .slice Cpt kpt ept] 25)).alloc (.cells #[.slice Am nm cm, .slice Bm mm dm] 27)).heap.size [(w).heap.size + 1 + 1] := fun b hb => by obtain rfl := List.mem_singleton.1 hb; exact t_box_lt bx3
 have fr_pm : FreshL (((w).alloc (.cells #[.int .i64 (g).1, .slice Ag ng cg, .slice Bg mg dg, .slice Cg kg eg] 25)).alloc (.cells #[.int .i64 (pt).1, .slice Apt npt cpt, .slice Bpt mpt dpt, .slice Cpt kpt ept] 25)).heap.size [(w).heap.size + 1 + 1] := fun b hb => by obtain rfl := List.mem_singleton.1 hb; simp only [World.size_alloc]; exact Nat.le_refl _
 have BX_pm_3 := lH bx3; clear bx3
 by_cases negg : Sg < 0
 case pos =>
  go_enter Try.func3, Try.ntmps3
  have F1_pg_2 := lH (t_box_below BX_pg_1.out hb2)
  clear BX_pg_1
  have F2_pg_3 := lH (t_box_below F1_pg_2.out hb3)
  clear F1_pg_2
  obtain ⟨⟨c3_0, c3_1, c3_2, c3_3⟩, f3_0, f3_1, f3_2, f3_3⟩ := t_box4 F2_pg_3.out
  go_wp2_with (fail)
  refine (szGraph_law 1048576 (hg.below hB3) hgg (by omega) (by omega)).mono ?_
  rintro e w4 ⟨he4, hb4⟩
  have hB4 := below_trans hB3 hb4 hB3.size
  clear c3_0 c3_1 c3_2 c3_3 f3_0 f3_1 f3_2 f3_3
  rw [← HSg.out] at he4
  subst he4
  go_wp2_with (fail)
  go_ret
  exact ⟨rfl, hB4⟩
 have sokg := szG_ok (by rw [← HSg.out]; omega : 0 ≤ szG (g) 1048576) (by omega)
 have okg := sokg.1
 have sleg : Sg ≤ 1048576 := by rw [HSg.out]; exact sokg.2
 clear sokg
 by_cases negpt : Spt < 0
 case pos =>
  go_enter Try.func3, Try.ntmps3
  have F4_pg_2 := lH (t_box_below BX_pg_1.out hb2)
  clear BX_pg_1
  have F5_pg_3 := lH (t_box_below F4_pg_2.out hb3)
  clear F4_pg_2
  obtain ⟨⟨c6_0, c6_1, c6_2, c6_3⟩, f6_0, f6_1, f6_2, f6_3⟩ := t_box4 F5_pg_3.out
  go_wp2_with (fail)
  refine (szGraph_law 1048576 (hg.below hB3) hgg (by omega) (by omega)).mono ?_
  rintro e w4 ⟨he4, hb4⟩
  have hB4 := below_trans hB3 hb4 hB3.size
  clear c6_0 c6_1 c6_2 c6_3 f6_0 f6_1 f6_2 f6_3
  rw [← HSg.out] at he4
  subst he4
  have F7_ppt_3 := lH (t_box_below BX_ppt_2.out hb3)
  clear BX_ppt_2
  have F8_ppt_4 := lH (t_box_below F7_ppt_3.out hb4)
  clear F7_ppt_3
  obtain ⟨⟨c9_0, c9_1, c9_2, c9_3⟩, f9_0, f9_1, f9_2, f9_3⟩ := t_box4 F8_ppt_4.out
  go_wp2_with (fail)
  refine (szGraph_law Sg (hpt.below hB4) hgpt (by omega) (by omega)).mono ?_
  rintro e w5 ⟨he5, hb5⟩
  have hB5 := below_trans hB4 hb5 hB4.size
  clear c9_0 c9_1 c9_2 c9_3 f9_0 f9_1 f9_2 f9_3
  rw [← HSpt.out] at he5
  subst he5
  go_wp2_with (fail)
  go_ret
  exact ⟨rfl, hB5⟩
 have sokpt := szG_ok (by rw [← HSpt.out]; omega : 0 ≤ szG (pt) Sg) (by omega)
 have okpt := sokpt.1
 have slept : Spt ≤ Sg := by rw [HSpt.out]; exact sokpt.2
 clear sokpt
 by_cases negm : Sm < 0
 case pos =>
  go_enter Try.func3, Try.ntmps3
  have F10_pg_2 := lH (t_box_below BX_pg_1.out hb2)
  clear BX_pg_1
  have F11_pg_3 := lH (t_box_below F10_pg_2.out hb3)
  clear F10_pg_2
  obtain ⟨⟨c12_0, c12_1, c12_2, c12_3⟩, f12_0, f12_1, f12_2, f12_3⟩ := t_box4 F11_pg_3.out
  go_wp2_with (fail)
  refine (szGraph_law 1048576 (hg.below hB3) hgg (by omega) (by omega)).mono ?_
  rintro e w4 ⟨he4, hb4⟩
  have hB4 := below_trans hB3 hb4 hB3.size
  clear c12_0 c12_1 c12_2 c12_3 f12_0 f12_1 f12_2 f12_3
  rw [← HSg.out] at he4
  subst he4
  have F13_ppt_3 := lH (t_box_below BX_ppt_2.out hb3)
  clear BX_ppt_2
  have F14_ppt_4 := lH (t_box_below F13_ppt_3.out hb4)
  clear F13_ppt_3
  obtain ⟨⟨c15_0, c15_1, c15_2, c15_3⟩, f15_0, f15_1, f15_2, f15_3⟩ := t_box4 F14_ppt_4.out
  go_wp2_with (fail)
  refine (szGraph_law Sg (hpt.below hB4) hgpt (by omega) (by omega)).mono ?_
  rintro e w5 ⟨he5, hb5⟩
  have hB5 := below_trans hB4 hb5 hB4.size
  clear c15_0 c15_1 c15_2 c15_3 f15_0 f15_1 f15_2 f15_3
  rw [← HSpt.out] at he5
  subst he5
  have F16_pm_4 := lH (t_box_below BX_pm_3.out hb4)
  clear BX_pm_3
  have F17_pm_5 := lH (t_box_below F16_pm_4.out hb5)
  clear F16_pm_4
  obtain ⟨⟨c18_0, c18_1⟩, f18_0, f18_1⟩ := t_box2 F17_pm_5.out
  go_wp2_with (fail)
  refine (szMatch_law Spt (hm.below hB5) hgm (by omega) (by omega)).mono ?_
  rintro e w6 ⟨he6, hb6⟩
  have hB6 := below_trans hB5 hb6 hB5.size
  clear c18_0 c18_1 f18_0 f18_1
  rw [← HSm.out] at he6
  subst he6
  go_wp2_with (fail)
  go_ret
  exact ⟨rfl, hB6⟩
 have sokm := szMa_ok (by rw [← HSm.out]; omega : 0 ≤ szMa (m) Spt) (by omega)
 have okm := sokm.1
 have slem : Sm ≤ Spt := by rw [HSm.out]; exact sokm.2
 clear sokm
 go_enter Try.func3, Try.ntmps3
 have F19_pg_2 := lH (t_box_below BX_pg_1.out hb2)
 clear BX_pg_1
 have F20_pg_3 := lH (t_box_below F19_pg_2.out hb3)
 clear F19_pg_2
 obtain ⟨⟨c21_0, c21_1, c21_2, c21_3⟩, f21_0, f21_1, f21_2, f21_3⟩ := t_box4 F20_pg_3.out
 go_wp2_with (fail)
 refine (szGraph_law 1048576 (hg.below hB3) hgg (by omega) (by omega)).mono ?_
 rintro e w4 ⟨he4, hb4⟩
 have hB4 := below_trans hB3 hb4 hB3.size
 clear c21_0 c21_1 c21_2 c21_3 f21_0 f21_1 f21_2 f21_3
 rw [← HSg.out] at he4
 subst he4
 have F22_ppt_3 := lH (t_box_below BX_ppt_2.out hb3)
 clear BX_ppt_2
 have F23_ppt_4 := lH (t_box_below F22_ppt_3.out hb4)
 clear F22_ppt_3
 obtain ⟨⟨c24_0, c24_1, c24_2, c24_3⟩, f24_0, f24_1, f24_2, f24_3⟩ := t_box4 F23_ppt_4.out
 go_wp2_with (fail)
 refine (szGraph_law Sg (hpt.below hB4) hgpt (by omega) (by omega)).mono ?_
 rintro e w5 ⟨he5, hb5⟩
 have hB5 := below_trans hB4 hb5 hB4.size
 clear c24_0 c24_1 c24_2 c24_3 f24_0 f24_1 f24_2 f24_3
 rw [← HSpt.out] at he5
 subst he5
 have F25_pm_4 := lH (t_box_below BX_pm_3.out hb4)
 clear BX_pm_3
 have F26_pm_5 := lH (t_box_below F25_pm_4.out hb5)
 clear F25_pm_4
 obtain ⟨⟨c27_0, c27_1⟩, f27_0, f27_1⟩ := t_box2 F26_pm_5.out
 go_wp2_with (fail)
 refine (szMatch_law Spt (hm.below hB5) hgm (by omega) (by omega)).mono ?_
 rintro e w6 ⟨he6, hb6⟩
 have hB6 := below_trans hB5 hb6 hB5.size
 clear c27_0 c27_1 f27_0 f27_1
 rw [← HSm.out] at he6
 subst he6
 have F28_pg_4 := lH (t_box_below F20_pg_3.out hb4)
 clear F20_pg_3
 have F29_pg_5 := lH (t_box_below F28_pg_4.out hb5)
 clear F28_pg_4
 have F30_pg_6 := lH (t_box_below F29_pg_5.out hb6)
 clear F29_pg_5
 have F31_ppt_5 := lH (t_box_below F23_ppt_4.out hb5)
 clear F23_ppt_4
 have F32_ppt_6 := lH (t_box_below F31_ppt_5.out hb6)
 clear F31_ppt_5
 have F33_pm_6 := lH (t_box_below F26_pm_5.out hb6)
 clear F26_pm_5
 go_wp2_with (fail)
 go_cut [8, 9] (fun sb sf wx => ∃ (B34 nX34 cX34 mX34 dX34 kX34 eX34 : Nat) (AX34 BX34 CX34 : Option Addr) (fpx34 : List Nat), sb = .pointer (some ⟨B34, 0, none⟩) ∧ sf = .bool R.2 ∧ wx.heap[B34]? = some (.cells #[.int .i64 (R.1).1, .slice AX34 nX34 cX34, .slice BX34 mX34 dX34, .slice CX34 kX34 eX34] 32) ∧ OwGr wx (.agg #[.int .i64 (R.1).1, .slice AX34 nX34 cX34, .slice BX34 mX34 dX34, .slice CX34 kX34 eX34]) (R.1) fpx34 ∧ FreshL (w6).heap.size fpx34 ∧ (w6).heap.size ≤ B34 ∧ Below (w6).heap.size (w6) wx)
 case first =>
  refine beginH (fun w' => w'.heap[(w).heap.size]? = some (.cells #[.int .i64 (g).1, .slice Ag ng cg, .slice Bg mg dg, .slice Cg kg eg] 25) ∧ w'.heap[(w).heap.size + 1]? = some (.cells #[.int .i64 (pt).1, .slice Apt npt cpt, .slice Bpt mpt dpt, .slice Cpt kpt ept] 25) ∧ w'.heap[(w).heap.size + 1 + 1]? = some (.cells #[.slice Am nm cm, .slice Bm mm dm] 27)) (by kernel_rfl) ?_
  have hb7 : Below (w6).heap.size (w6) (w6).drew := below_drewN (Below.refl _ _) 1
  have hB7 := below_trans hB6 hb7 hB6.size
  have F35_pg_7 := lH (t_box_below F30_pg_6.out hb7)
  clear F30_pg_6
  have F36_ppt_7 := lH (t_box_below F32_ppt_6.out hb7)
  clear F32_ppt_6
  have F37_pm_7 := lH (t_box_below F33_pm_6.out hb7)
  clear F33_pm_6
  refine tkH 0 ?_ rfl ⟨F35_pg_7.out, F36_ppt_7.out, F37_pm_7.out⟩ (fun W' hW' => ?_) ?_; rotate_left; · (obtain ⟨q0, q1, q2⟩ := hW'; obtain ⟨⟨ca0_0, ca0_1, ca0_2, ca0_3⟩, ga0_0, ga0_1, ga0_2, ga0_3⟩ := t_box4 q0; obtain ⟨⟨ca1_0, ca1_1, ca1_2, ca1_3⟩, ga1_0, ga1_1, ga1_2, ga1_3⟩ := t_box4 q1; obtain ⟨⟨ca2_0, ca2_1⟩, ga2_0, ga2_1⟩ := t_box2 q2; clear q0 q1 q2; go_simp; first | done | with_reducible rfl)
  simp only [Act.put, nS]
  refine tkH 2 ?_ rfl ⟨F35_pg_7.out, F36_ppt_7.out, F37_pm_7.out⟩ (fun W' hW' => ?_) ?_; rotate_left; · (obtain ⟨q0, q1, q2⟩ := hW'; obtain ⟨⟨ca0_0, ca0_1, ca0_2, ca0_3⟩, ga0_0, ga0_1, ga0_2, ga0_3⟩ := t_box4 q0; obtain ⟨⟨ca1_0, ca1_1, ca1_2, ca1_3⟩, ga1_0, ga1_1, ga1_2, ga1_3⟩ := t_box4 q1; obtain ⟨⟨ca2_0, ca2_1⟩, ga2_0, ga2_1⟩ := t_box2 q2; clear q0 q1 q2; go_simp; first | done | with_reducible rfl)
  simp only [Act.put, nS]
  refine tkH 4 ?_ rfl ⟨F35_pg_7.out, F36_ppt_7.out, F37_pm_7.out⟩ (fun W' hW' => ?_) ?_; rotate_left; · (obtain ⟨q0, q1, q2⟩ := hW'; obtain ⟨⟨ca0_0, ca0_1, ca0_2, ca0_3⟩, ga0_0, ga0_1, ga0_2, ga0_3⟩ := t_box4 q0; obtain ⟨⟨ca1_0, ca1_1, ca1_2, ca1_3⟩, ga1_0, ga1_1, ga1_2, ga1_3⟩ := t_box4 q1; obtain ⟨⟨ca2_0, ca2_1⟩, ga2_0, ga2_1⟩ := t_box2 q2; clear q0 q1 q2; go_simp; first | done | with_reducible rfl)
  simp only [Act.put, nS]
  refine callOrH 1 10 (f := ?f38) (args := ?args38) (vj := ?vj38) (wj := ?wj38) rfl rfl (by kernel_rfl) (by rfl) (by rfl) ?hrun38 ?hrunj38 ?h138 ?hSj38 ?h238
  case hrun38 => (go_simp; first | done | with_reducible rfl | (constructor <;> with_reducible rfl))
  case hrunj38 => (go_simp; first | done | with_reducible rfl | (constructor <;> with_reducible rfl))
  case hSj38 => exact ⟨(t_box_below F35_pg_7.out (t_below_alloc _ _)), (t_box_below F36_ppt_7.out (t_below_alloc _ _)), (t_box_below F37_pm_7.out (t_below_alloc _ _))⟩
  case h138 =>
   refine (toGraph_law (hg.below hB7) okg).mono ?_
   rintro e w8 ⟨v8, fp8, rfl, o8, fr8, hb8⟩
   have hB8 := below_trans hB7 hb8 hB7.size
   have F39_pg_8 := lH (t_box_below F35_pg_7.out hb8)
   clear F35_pg_7
   have F40_ppt_8 := lH (t_box_below F36_ppt_7.out hb8)
   clear F36_ppt_7
   have F41_pm_8 := lH (t_box_below F37_pm_7.out hb8)
   clear F37_pm_7
   refine ⟨_, rfl, ⟨F39_pg_8.out, F40_ppt_8.out, F41_pm_8.out⟩, ?_⟩
   obtain ⟨A8, n8, c8, B8, m8, d8, C8, k8, e8, rfl⟩ := o8.shape
   have lt_ag := o8.lt
   simp only [Act.put, nS]
   refine callOrH 3 10 (f := ?f42) (args := ?args42) (vj := ?vj42) (wj := ?wj42) rfl rfl (by kernel_rfl) (by rfl) (by rfl) ?hrun42 ?hrunj42 ?h142 ?hSj42 ?h242
   case hrun42 => (go_simp; first | done | with_reducible rfl | (constructor <;> with_reducible rfl))
   case hrunj42 => (go_simp; first | done | with_reducible rfl | (constructor <;> with_reducible rfl))
   case hSj42 => exact ⟨(t_box_below F39_pg_8.out (t_below_alloc _ _)), (t_box_below F40_ppt_8.out (t_below_alloc _ _)), (t_box_below F41_pm_8.out (t_below_alloc _ _))⟩
   case h142 =>
    refine (toGraph_law (hpt.below hB8) okpt).mono ?_
    rintro e w9 ⟨v9, fp9, rfl, o9, fr9, hb9⟩
    have hB9 := below_trans hB8 hb9 hB8.size
    have F43_pg_9 := lH (t_box_below F39_pg_8.out hb9)
    clear F39_pg_8
    have F44_ppt_9 := lH (t_box_below F40_ppt_8.out hb9)
    clear F40_ppt_8
    have F45_pm_9 := lH (t_box_below F41_pm_8.out hb9)
    clear F41_pm_8
    refine ⟨_, rfl, ⟨F43_pg_9.out, F44_ppt_9.out, F45_pm_9.out⟩, ?_⟩
    obtain ⟨A9, n9, c9, B9, m9, d9, C9, k9, e9, rfl⟩ := o9.shape
    have lt_apt := o9.lt
    simp only [Act.put, nS]
    refine callOrH 5 10 (f := ?f46) (args := ?args46) (vj := ?vj46) (wj := ?wj46) rfl rfl (by kernel_rfl) (by rfl) (by rfl) ?hrun46 ?hrunj46 ?h146 ?hSj46 ?h246
    case hrun46 => (go_simp; first | done | with_reducible rfl | (constructor <;> with_reducible rfl))
    case hrunj46 => (go_simp; first | done | with_reducible rfl | (constructor <;> with_reducible rfl))
    case hSj46 => exact ⟨(t_box_below F43_pg_9.out (t_below_alloc _ _)), (t_box_below F44_ppt_9.out (t_below_alloc _ _)), (t_box_below F45_pm_9.out (t_below_alloc _ _))⟩
    case h146 =>
     refine (toMatch_law (hm.below hB9) okm).mono ?_
     rintro e w10 ⟨v10, fp10, rfl, o10, fr10, hb10⟩
     have hB10 := below_trans hB9 hb10 hB9.size
     have F47_pg_10 := lH (t_box_below F43_pg_9.out hb10)
     clear F43_pg_9
     have F48_ppt_10 := lH (t_box_below F44_ppt_9.out hb10)
     clear F44_ppt_9
     have F49_pm_10 := lH (t_box_below F45_pm_9.out hb10)
     clear F45_pm_9
     refine ⟨_, rfl, ⟨F47_pg_10.out, F48_ppt_10.out, F49_pm_10.out⟩, ?_⟩
     obtain ⟨A10, n10, c10, B10, m10, d10, rfl⟩ := o10.shape
     have lt_am := o10.lt
     simp only [Act.put, nS]
     refine callOrH 6 10 (f := ?f50) (args := ?args50) (vj := ?vj50) (wj := ?wj50) rfl rfl (by kernel_rfl) (by rfl) (by rfl) ?hrun50 ?hrunj50 ?h150 ?hSj50 ?h250
     case hrun50 => (go_simp; first | done | with_reducible rfl | (constructor <;> with_reducible rfl))
     case hrunj50 => (go_simp; first | done | with_reducible rfl | (constructor <;> with_reducible rfl))
     case hSj50 => exact ⟨(t_box_below F47_pg_10.out (t_below_alloc _ _)), (t_box_below F48_ppt_10.out (t_below_alloc _ _)), (t_box_below F49_pm_10.out (t_below_alloc _ _))⟩
     case h150 =>
      have F51_ag_9 := o8.below hb9
      clear o8
      have F52_ag_10 := F51_ag_9.below hb10
      clear F51_ag_9
      have F53_apt_10 := o9.below hb10
      clear o9
      refine (sLaw_h.out _ _ _ _ _ _ _  F52_ag_10 F53_apt_10 o10 okg okpt okm).mono ?_
      rintro e w11 ⟨v11_0, fp11_0, rfl, o11r0, fr11_0, hb11⟩
      have hB11 := below_trans hB10 hb11 hB10.size
      have F54_pg_11 := lH (t_box_below F47_pg_10.out hb11)
      clear F47_pg_10
      have F55_ppt_11 := lH (t_box_below F48_ppt_10.out hb11)
      clear F48_ppt_10
      have F56_pm_11 := lH (t_box_below F49_pm_10.out hb11)
      clear F49_pm_10
      refine ⟨_, rfl, ⟨F54_pg_11.out, F55_ppt_11.out, F56_pm_11.out⟩, ?_⟩
      obtain ⟨A11_0, n11_0, c11_0, B11_0, m11_0, d11_0, C11_0, k11_0, e11_0, rfl⟩ := o11r0.shape
      simp only [Act.put, nS]
      refine tkH 7 ?_ rfl ⟨F54_pg_11.out, F55_ppt_11.out, F56_pm_11.out⟩ (fun W' hW' => ?_) ?_; rotate_left; · (obtain ⟨q0, q1, q2⟩ := hW'; obtain ⟨⟨ca0_0, ca0_1, ca0_2, ca0_3⟩, ga0_0, ga0_1, ga0_2, ga0_3⟩ := t_box4 q0; obtain ⟨⟨ca1_0, ca1_1, ca1_2, ca1_3⟩, ga1_0, ga1_1, ga1_2, ga1_3⟩ := t_box4 q1; obtain ⟨⟨ca2_0, ca2_1⟩, ga2_0, ga2_1⟩ := t_box2 q2; clear q0 q1 q2; go_simp; first | done | with_reducible rfl)
      simp only [Act.put, nS]
      refine tkH 8 ?_ rfl ⟨F54_pg_11.out, F55_ppt_11.out, F56_pm_11.out⟩ (fun W' hW' => ?_) ?_; rotate_left; · (obtain ⟨q0, q1, q2⟩ := hW'; obtain ⟨⟨ca0_0, ca0_1, ca0_2, ca0_3⟩, ga0_0, ga0_1, ga0_2, ga0_3⟩ := t_box4 q0; obtain ⟨⟨ca1_0, ca1_1, ca1_2, ca1_3⟩, ga1_0, ga1_1, ga1_2, ga1_3⟩ := t_box4 q1; obtain ⟨⟨ca2_0, ca2_1⟩, ga2_0, ga2_1⟩ := t_box2 q2; clear q0 q1 q2; go_simp; first | done | with_reducible rfl)
      simp only [Act.put, nS]
      refine tkH 9 ?_ rfl ⟨F54_pg_11.out, F55_ppt_11.out, F56_pm_11.out⟩ (fun W' hW' => ?_) ?_; rotate_left; · (obtain ⟨q0, q1, q2⟩ := hW'; obtain ⟨⟨ca0_0, ca0_1, ca0_2, ca0_3⟩, ga0_0, ga0_1, ga0_2, ga0_3⟩ := t_box4 q0; obtain ⟨⟨ca1_0, ca1_1, ca1_2, ca1_3⟩, ga1_0, ga1_1, ga1_2, ga1_3⟩ := t_box4 q1; obtain ⟨⟨ca2_0, ca2_1⟩, ga2_0, ga2_1⟩ := t_box2 q2; clear q0 q1 q2; go_simp; first | done | with_reducible rfl)
      simp only [Act.put, nS]
      have hd6 : Below (w6).heap.size (w6) (w6) := Below.refl _ _
      have hd7 := below_trans hd6 hb7 hd6.size
      have hd8 := below_trans hd7 hb8 hd7.size
      have hd9 := below_trans hd8 hb9 hd8.size
      have hd10 := below_trans hd9 hb10 hd9.size
      have hd11 := below_trans hd10 hb11 hd10.size
      refine oneH 10 rfl (by kernel_rfl) (by rfl) (fun K hK => ?_)
      go_simp
      refine hK _ _ ⟨(t_box_below F54_pg_11.out (t_below_alloc _ _)), (t_box_below F55_ppt_11.out (t_below_alloc _ _)), (t_box_below F56_pm_11.out (t_below_alloc _ _))⟩ ?_
      clear hK K
      refine oneH 11 rfl (by kernel_rfl) (by rfl) (fun K hK => ?_)
      go_simp
      refine hK _ _ ⟨(t_box_below F54_pg_11.out (t_below_alloc _ _)), (t_box_below F55_ppt_11.out (t_below_alloc _ _)), (t_box_below F56_pm_11.out (t_below_alloc _ _))⟩ ?_
      clear hK K
      refine tkH 12 ?_ rfl ⟨(t_box_below F54_pg_11.out (t_below_alloc _ _)), (t_box_below F55_ppt_11.out (t_below_alloc _ _)), (t_box_below F56_pm_11.out (t_below_alloc _ _))⟩ (fun W' hW' => ?_) ?_; rotate_left; · (obtain ⟨q0, q1, q2⟩ := hW'; obtain ⟨⟨ca0_0, ca0_1, ca0_2, ca0_3⟩, ga0_0, ga0_1, ga0_2, ga0_3⟩ := t_box4 q0; obtain ⟨⟨ca1_0, ca1_1, ca1_2, ca1_3⟩, ga1_0, ga1_1, ga1_2, ga1_3⟩ := t_box4 q1; obtain ⟨⟨ca2_0, ca2_1⟩, ga2_0, ga2_1⟩ := t_box2 q2; clear q0 q1 q2; go_simp; first | done | with_reducible rfl)
      simp only [Act.put, nS]
      refine doneH (by kernel_rfl) ?_
      go_wp2_with (fail)
      go_meet
      exact ⟨_, _, _, _, _, _, _, _, _, _, _, rfl, rfl, heap_alloc_new _ _, o11r0.below (t_below_alloc _ _), (fr11_0.mono (Nat.le_trans (Nat.le_trans (Nat.le_trans (Nat.le_trans (Nat.le_refl _) hb7.size) hb8.size) hb9.size) hb10.size)), hd11.size, below_trans hd11 (t_below_alloc _ _) hd11.size⟩
     case h250 =>
      have lp57_pg := t_box_lt F47_pg_10.out
      have lp58_ppt := t_box_lt F48_ppt_10.out
      have lp59_pm := t_box_lt F49_pm_10.out
      have hb11 := t_below_alloc (w10) (.cells #[.int .i64 0, .slice none 0 0, .slice none 0 0, .slice none 0 0] 32)
      have bz11 := lH (show ((w10).alloc (.cells #[.int .i64 0, .slice none 0 0, .slice none 0 0, .slice none 0 0] 32)).heap[(w10).heap.size]? = some (.cells #[.int .i64 0, .slice none 0 0, .slice none 0 0, .slice none 0 0] 32) from heap_alloc_new (w10) (.cells #[.int .i64 0, .slice none 0 0, .slice none 0 0, .slice none 0 0] 32))
      have hB11 := below_trans hB10 hb11 hB10.size
      simp only [Act.put, nS]
      refine' callH 6 (f := _) (args := _) rfl (by kernel_rfl) (by rfl) ?_ ?_; rotate_left 2; · (go_simp; first | done | with_reducible rfl | (constructor <;> with_reducible rfl))
      have lB60 := t_box_lt bz11.out
      have F61_ag_9 := o8.below hb9
      clear o8
      have F62_ag_10 := F61_ag_9.below hb10
      clear F61_ag_9
      have F63_ag_11 := F62_ag_10.below hb11
      clear F62_ag_10
      have F64_apt_10 := o9.below hb10
      clear o9
      have F65_apt_11 := F64_apt_10.below hb11
      clear F64_apt_10
      have F66_am_11 := o10.below hb11
      clear o10
      refine (sLaw_h.out _ _ _ _ _ _ _  F63_ag_11 F65_apt_11 F66_am_11 okg okpt okm).mono ?_
      rintro e w12 ⟨v12_0, fp12_0, rfl, o12r0, fr12_0, hb12⟩
      have hB12 := below_trans hB11 hb12 hB11.size
      have F67_pg_11 := lH (t_box_below F47_pg_10.out hb11)
      clear F47_pg_10
      have F68_pg_12 := lH (t_box_below F67_pg_11.out hb12)
      clear F67_pg_11
      have F69_ppt_11 := lH (t_box_below F48_ppt_10.out hb11)
      clear F48_ppt_10
      have F70_ppt_12 := lH (t_box_below F69_ppt_11.out hb12)
      clear F69_ppt_11
      have F71_pm_11 := lH (t_box_below F49_pm_10.out hb11)
      clear F49_pm_10
      have F72_pm_12 := lH (t_box_below F71_pm_11.out hb12)
      clear F71_pm_11
      refine ⟨_, rfl, ⟨F68_pg_12.out, F70_ppt_12.out, F72_pm_12.out⟩, ?_⟩
      obtain ⟨A12_0, n12_0, c12_0, B12_0, m12_0, d12_0, C12_0, k12_0, e12_0, rfl⟩ := o12r0.shape
      simp only [Act.put, nS]
      refine tkH 7 ?_ rfl ⟨F68_pg_12.out, F70_ppt_12.out, F72_pm_12.out⟩ (fun W' hW' => ?_) ?_; rotate_left; · (obtain ⟨q0, q1, q2⟩ := hW'; obtain ⟨⟨ca0_0, ca0_1, ca0_2, ca0_3⟩, ga0_0, ga0_1, ga0_2, ga0_3⟩ := t_box4 q0; obtain ⟨⟨ca1_0, ca1_1, ca1_2, ca1_3⟩, ga1_0, ga1_1, ga1_2, ga1_3⟩ := t_box4 q1; obtain ⟨⟨ca2_0, ca2_1⟩, ga2_0, ga2_1⟩ := t_box2 q2; clear q0 q1 q2; go_simp; first | done | with_reducible rfl)
      simp only [Act.put, nS]
      refine tkH 8 ?_ rfl ⟨F68_pg_12.out, F70_ppt_12.out, F72_pm_12.out⟩ (fun W' hW' => ?_) ?_; rotate_left; · (obtain ⟨q0, q1, q2⟩ := hW'; obtain ⟨⟨ca0_0, ca0_1, ca0_2, ca0_3⟩, ga0_0, ga0_1, ga0_2, ga0_3⟩ := t_box4 q0; obtain ⟨⟨ca1_0, ca1_1, ca1_2, ca1_3⟩, ga1_0, ga1_1, ga1_2, ga1_3⟩ := t_box4 q1; obtain ⟨⟨ca2_0, ca2_1⟩, ga2_0, ga2_1⟩ := t_box2 q2; clear q0 q1 q2; go_simp; first | done | with_reducible rfl)
      simp only [Act.put, nS]
      refine tkH 9 ?_ rfl ⟨F68_pg_12.out, F70_ppt_12.out, F72_pm_12.out⟩ (fun W' hW' => ?_) ?_; rotate_left; · (obtain ⟨q0, q1, q2⟩ := hW'; obtain ⟨⟨ca0_0, ca0_1, ca0_2, ca0_3⟩, ga0_0, ga0_1, ga0_2, ga0_3⟩ := t_box4 q0; obtain ⟨⟨ca1_0, ca1_1, ca1_2, ca1_3⟩, ga1_0, ga1_1, ga1_2, ga1_3⟩ := t_box4 q1; obtain ⟨⟨ca2_0, ca2_1⟩, ga2_0, ga2_1⟩ := t_box2 q2; clear q0 q1 q2; go_simp; first | done | with_reducible rfl)
      simp only [Act.put, nS]
      have hd6 : Below (w6).heap.size (w6) (w6) := Below.refl _ _
      have hd7 := below_trans hd6 hb7 hd6.size
      have hd8 := below_trans hd7 hb8 hd7.size
      have hd9 := below_trans hd8 hb9 hd8.size
      have hd10 := below_trans hd9 hb10 hd9.size
      have hd11 := below_trans hd10 hb11 hd10.size
      have hd12 := below_trans hd11 hb12 hd11.size
      have F73_zbox_12 := lH (t_box_below bz11.out hb12)
      clear bz11
      obtain ⟨s1, s2⟩ := set4 (a := .int .i64 (R.1).1) (b := .slice A12_0 n12_0 c12_0) (c := .slice B12_0 m12_0 d12_0) (d := .slice C12_0 k12_0 e12_0) F73_zbox_12.out
      obtain ⟨⟨z0, z1, z2, z3⟩, z4, z5, z6, z7⟩ := t_box4 F73_zbox_12.out
      have o2 := o12r0.keeps s2 (fun b hb e => by have := fr12_0 b hb; have := lB60; omega)
      have hdf := below_keeps hd12 s2 hd12.size (fun k hk => by rw [hk]; exact hd10.size)
      refine oneH 11 rfl (by kernel_rfl) (by rfl) (fun K hK => ?_)
      go_simp
      refine hK _ _ ⟨(t_box_keeps F68_pg_12.out s2 (fun e => Nat.ne_of_lt lp57_pg e)), (t_box_keeps F70_ppt_12.out s2 (fun e => Nat.ne_of_lt lp58_ppt e)), (t_box_keeps F72_pm_12.out s2 (fun e => Nat.ne_of_lt lp59_pm e))⟩ ?_
      clear hK K
      refine tkH 12 ?_ rfl ⟨(t_box_keeps F68_pg_12.out s2 (fun e => Nat.ne_of_lt lp57_pg e)), (t_box_keeps F70_ppt_12.out s2 (fun e => Nat.ne_of_lt lp58_ppt e)), (t_box_keeps F72_pm_12.out s2 (fun e => Nat.ne_of_lt lp59_pm e))⟩ (fun W' hW' => ?_) ?_; rotate_left; · (obtain ⟨q0, q1, q2⟩ := hW'; obtain ⟨⟨ca0_0, ca0_1, ca0_2, ca0_3⟩, ga0_0, ga0_1, ga0_2, ga0_3⟩ := t_box4 q0; obtain ⟨⟨ca1_0, ca1_1, ca1_2, ca1_3⟩, ga1_0, ga1_1, ga1_2, ga1_3⟩ := t_box4 q1; obtain ⟨⟨ca2_0, ca2_1⟩, ga2_0, ga2_1⟩ := t_box2 q2; clear q0 q1 q2; go_simp; first | done | with_reducible rfl)
      simp only [Act.put, nS]
      refine doneH (by kernel_rfl) ?_
      go_wp2_with (fail)
      go_meet
      exact ⟨_, _, _, _, _, _, _, _, _, _, _, rfl, rfl, s1, o2, (fr12_0.mono (Nat.le_trans (Nat.le_trans (Nat.le_trans (Nat.le_trans (Nat.le_trans (Nat.le_refl _) hb7.size) hb8.size) hb9.size) hb10.size) hb11.size)), hd10.size, hdf⟩
    case h246 =>
     have lp74_pg := t_box_lt F43_pg_9.out
     have lp75_ppt := t_box_lt F44_ppt_9.out
     have lp76_pm := t_box_lt F45_pm_9.out
     have hb10 := t_below_alloc (w9) (.cells #[.int .i64 0, .slice none 0 0, .slice none 0 0, .slice none 0 0] 32)
     have bz10 := lH (show ((w9).alloc (.cells #[.int .i64 0, .slice none 0 0, .slice none 0 0, .slice none 0 0] 32)).heap[(w9).heap.size]? = some (.cells #[.int .i64 0, .slice none 0 0, .slice none 0 0, .slice none 0 0] 32) from heap_alloc_new (w9) (.cells #[.int .i64 0, .slice none 0 0, .slice none 0 0, .slice none 0 0] 32))
     have hB10 := below_trans hB9 hb10 hB9.size
     simp only [Act.put, nS]
     refine' callH 5 (f := _) (args := _) rfl (by kernel_rfl) (by rfl) ?_ ?_; rotate_left 2; · (go_simp; first | done | with_reducible rfl | (constructor <;> with_reducible rfl))
     refine (toMatch_law (hm.below hB10) okm).mono ?_
     rintro e w11 ⟨v11, fp11, rfl, o11, fr11, hb11⟩
     have hB11 := below_trans hB10 hb11 hB10.size
     have F77_pg_10 := lH (t_box_below F43_pg_9.out hb10)
     clear F43_pg_9
     have F78_pg_11 := lH (t_box_below F77_pg_10.out hb11)
     clear F77_pg_10
     have F79_ppt_10 := lH (t_box_below F44_ppt_9.out hb10)
     clear F44_ppt_9
     have F80_ppt_11 := lH (t_box_below F79_ppt_10.out hb11)
     clear F79_ppt_10
     have F81_pm_10 := lH (t_box_below F45_pm_9.out hb10)
     clear F45_pm_9
     have F82_pm_11 := lH (t_box_below F81_pm_10.out hb11)
     clear F81_pm_10
     refine ⟨_, rfl, ⟨F78_pg_11.out, F80_ppt_11.out, F82_pm_11.out⟩, ?_⟩
     obtain ⟨A11, n11, c11, B11, m11, d11, rfl⟩ := o11.shape
     have lt_am := o11.lt
     simp only [Act.put, nS]
     refine' callH 6 (f := _) (args := _) rfl (by kernel_rfl) (by rfl) ?_ ?_; rotate_left 2; · (go_simp; first | done | with_reducible rfl | (constructor <;> with_reducible rfl))
     have F84_zbox_11 := lH (t_box_below bz10.out hb11)
     clear bz10
     have lB83 := t_box_lt F84_zbox_11.out
     have F85_ag_9 := o8.below hb9
     clear o8
     have F86_ag_10 := F85_ag_9.below hb10
     clear F85_ag_9
     have F87_ag_11 := F86_ag_10.below hb11
     clear F86_ag_10
     have F88_apt_10 := o9.below hb10
     clear o9
     have F89_apt_11 := F88_apt_10.below hb11
     clear F88_apt_10
     refine (sLaw_h.out _ _ _ _ _ _ _  F87_ag_11 F89_apt_11 o11 okg okpt okm).mono ?_
     rintro e w12 ⟨v12_0, fp12_0, rfl, o12r0, fr12_0, hb12⟩
     have hB12 := below_trans hB11 hb12 hB11.size
     have F90_pg_12 := lH (t_box_below F78_pg_11.out hb12)
     clear F78_pg_11
     have F91_ppt_12 := lH (t_box_below F80_ppt_11.out hb12)
     clear F80_ppt_11
     have F92_pm_12 := lH (t_box_below F82_pm_11.out hb12)
     clear F82_pm_11
     refine ⟨_, rfl, ⟨F90_pg_12.out, F91_ppt_12.out, F92_pm_12.out⟩, ?_⟩
     obtain ⟨A12_0, n12_0, c12_0, B12_0, m12_0, d12_0, C12_0, k12_0, e12_0, rfl⟩ := o12r0.shape
     simp only [Act.put, nS]
     refine tkH 7 ?_ rfl ⟨F90_pg_12.out, F91_ppt_12.out, F92_pm_12.out⟩ (fun W' hW' => ?_) ?_; rotate_left; · (obtain ⟨q0, q1, q2⟩ := hW'; obtain ⟨⟨ca0_0, ca0_1, ca0_2, ca0_3⟩, ga0_0, ga0_1, ga0_2, ga0_3⟩ := t_box4 q0; obtain ⟨⟨ca1_0, ca1_1, ca1_2, ca1_3⟩, ga1_0, ga1_1, ga1_2, ga1_3⟩ := t_box4 q1; obtain ⟨⟨ca2_0, ca2_1⟩, ga2_0, ga2_1⟩ := t_box2 q2; clear q0 q1 q2; go_simp; first | done | with_reducible rfl)
     simp only [Act.put, nS]
     refine tkH 8 ?_ rfl ⟨F90_pg_12.out, F91_ppt_12.out, F92_pm_12.out⟩ (fun W' hW' => ?_) ?_; rotate_left; · (obtain ⟨q0, q1, q2⟩ := hW'; obtain ⟨⟨ca0_0, ca0_1, ca0_2, ca0_3⟩, ga0_0, ga0_1, ga0_2, ga0_3⟩ := t_box4 q0; obtain ⟨⟨ca1_0, ca1_1, ca1_2, ca1_3⟩, ga1_0, ga1_1, ga1_2, ga1_3⟩ := t_box4 q1; obtain ⟨⟨ca2_0, ca2_1⟩, ga2_0, ga2_1⟩ := t_box2 q2; clear q0 q1 q2; go_simp; first | done | with_reducible rfl)
     simp only [Act.put, nS]
     refine tkH 9 ?_ rfl ⟨F90_pg_12.out, F91_ppt_12.out, F92_pm_12.out⟩ (fun W' hW' => ?_) ?_; rotate_left; · (obtain ⟨q0, q1, q2⟩ := hW'; obtain ⟨⟨ca0_0, ca0_1, ca0_2, ca0_3⟩, ga0_0, ga0_1, ga0_2, ga0_3⟩ := t_box4 q0; obtain ⟨⟨ca1_0, ca1_1, ca1_2, ca1_3⟩, ga1_0, ga1_1, ga1_2, ga1_3⟩ := t_box4 q1; obtain ⟨⟨ca2_0, ca2_1⟩, ga2_0, ga2_1⟩ := t_box2 q2; clear q0 q1 q2; go_simp; first | done | with_reducible rfl)
     simp only [Act.put, nS]
     have hd6 : Below (w6).heap.size (w6) (w6) := Below.refl _ _
     have hd7 := below_trans hd6 hb7 hd6.size
     have hd8 := below_trans hd7 hb8 hd7.size
     have hd9 := below_trans hd8 hb9 hd8.size
     have hd10 := below_trans hd9 hb10 hd9.size
     have hd11 := below_trans hd10 hb11 hd10.size
     have hd12 := below_trans hd11 hb12 hd11.size
     have F93_zbox_12 := lH (t_box_below F84_zbox_11.out hb12)
     clear F84_zbox_11
     obtain ⟨s1, s2⟩ := set4 (a := .int .i64 (R.1).1) (b := .slice A12_0 n12_0 c12_0) (c := .slice B12_0 m12_0 d12_0) (d := .slice C12_0 k12_0 e12_0) F93_zbox_12.out
     obtain ⟨⟨z0, z1, z2, z3⟩, z4, z5, z6, z7⟩ := t_box4 F93_zbox_12.out
     have o2 := o12r0.keeps s2 (fun b hb e => by have := fr12_0 b hb; have := lB83; omega)
     have hdf := below_keeps hd12 s2 hd12.size (fun k hk => by rw [hk]; exact hd9.size)
     refine oneH 11 rfl (by kernel_rfl) (by rfl) (fun K hK => ?_)
     go_simp
     refine hK _ _ ⟨(t_box_keeps F90_pg_12.out s2 (fun e => Nat.ne_of_lt lp74_pg e)), (t_box_keeps F91_ppt_12.out s2 (fun e => Nat.ne_of_lt lp75_ppt e)), (t_box_keeps F92_pm_12.out s2 (fun e => Nat.ne_of_lt lp76_pm e))⟩ ?_
     clear hK K
     refine tkH 12 ?_ rfl ⟨(t_box_keeps F90_pg_12.out s2 (fun e => Nat.ne_of_lt lp74_pg e)), (t_box_keeps F91_ppt_12.out s2 (fun e => Nat.ne_of_lt lp75_ppt e)), (t_box_keeps F92_pm_12.out s2 (fun e => Nat.ne_of_lt lp76_pm e))⟩ (fun W' hW' => ?_) ?_; rotate_left; · (obtain ⟨q0, q1, q2⟩ := hW'; obtain ⟨⟨ca0_0, ca0_1, ca0_2, ca0_3⟩, ga0_0, ga0_1, ga0_2, ga0_3⟩ := t_box4 q0; obtain ⟨⟨ca1_0, ca1_1, ca1_2, ca1_3⟩, ga1_0, ga1_1, ga1_2, ga1_3⟩ := t_box4 q1; obtain ⟨⟨ca2_0, ca2_1⟩, ga2_0, ga2_1⟩ := t_box2 q2; clear q0 q1 q2; go_simp; first | done | with_reducible rfl)
     simp only [Act.put, nS]
     refine doneH (by kernel_rfl) ?_
     go_wp2_with (fail)
     go_meet
     exact ⟨_, _, _, _, _, _, _, _, _, _, _, rfl, rfl, s1, o2, (fr12_0.mono (Nat.le_trans (Nat.le_trans (Nat.le_trans (Nat.le_trans (Nat.le_trans (Nat.le_refl _) hb7.size) hb8.size) hb9.size) hb10.size) hb11.size)), hd9.size, hdf⟩
   case h242 =>
    have lp94_pg := t_box_lt F39_pg_8.out
    have lp95_ppt := t_box_lt F40_ppt_8.out
    have lp96_pm := t_box_lt F41_pm_8.out
    have hb9 := t_below_alloc (w8) (.cells #[.int .i64 0, .slice none 0 0, .slice none 0 0, .slice none 0 0] 32)
    have bz9 := lH (show ((w8).alloc (.cells #[.int .i64 0, .slice none 0 0, .slice none 0 0, .slice none 0 0] 32)).heap[(w8).heap.size]? = some (.cells #[.int .i64 0, .slice none 0 0, .slice none 0 0, .slice none 0 0] 32) from heap_alloc_new (w8) (.cells #[.int .i64 0, .slice none 0 0, .slice none 0 0, .slice none 0 0] 32))
    have hB9 := below_trans hB8 hb9 hB8.size
    simp only [Act.put, nS]
    refine' callH 3 (f := _) (args := _) rfl (by kernel_rfl) (by rfl) ?_ ?_; rotate_left 2; · (go_simp; first | done | with_reducible rfl | (constructor <;> with_reducible rfl))
    refine (toGraph_law (hpt.below hB9) okpt).mono ?_
    rintro e w10 ⟨v10, fp10, rfl, o10, fr10, hb10⟩
    have hB10 := below_trans hB9 hb10 hB9.size
    have F97_pg_9 := lH (t_box_below F39_pg_8.out hb9)
    clear F39_pg_8
    have F98_pg_10 := lH (t_box_below F97_pg_9.out hb10)
    clear F97_pg_9
    have F99_ppt_9 := lH (t_box_below F40_ppt_8.out hb9)
    clear F40_ppt_8
    have F100_ppt_10 := lH (t_box_below F99_ppt_9.out hb10)
    clear F99_ppt_9
    have F101_pm_9 := lH (t_box_below F41_pm_8.out hb9)
    clear F41_pm_8
    have F102_pm_10 := lH (t_box_below F101_pm_9.out hb10)
    clear F101_pm_9
    refine ⟨_, rfl, ⟨F98_pg_10.out, F100_ppt_10.out, F102_pm_10.out⟩, ?_⟩
    obtain ⟨A10, n10, c10, B10, m10, d10, C10, k10, e10, rfl⟩ := o10.shape
    have lt_apt := o10.lt
    simp only [Act.put, nS]
    refine' callH 5 (f := _) (args := _) rfl (by kernel_rfl) (by rfl) ?_ ?_; rotate_left 2; · (go_simp; first | done | with_reducible rfl | (constructor <;> with_reducible rfl))
    refine (toMatch_law (hm.below hB10) okm).mono ?_
    rintro e w11 ⟨v11, fp11, rfl, o11, fr11, hb11⟩
    have hB11 := below_trans hB10 hb11 hB10.size
    have F103_pg_11 := lH (t_box_below F98_pg_10.out hb11)
    clear F98_pg_10
    have F104_ppt_11 := lH (t_box_below F100_ppt_10.out hb11)
    clear F100_ppt_10
    have F105_pm_11 := lH (t_box_below F102_pm_10.out hb11)
    clear F102_pm_10
    refine ⟨_, rfl, ⟨F103_pg_11.out, F104_ppt_11.out, F105_pm_11.out⟩, ?_⟩
    obtain ⟨A11, n11, c11, B11, m11, d11, rfl⟩ := o11.shape
    have lt_am := o11.lt
    simp only [Act.put, nS]
    refine' callH 6 (f := _) (args := _) rfl (by kernel_rfl) (by rfl) ?_ ?_; rotate_left 2; · (go_simp; first | done | with_reducible rfl | (constructor <;> with_reducible rfl))
    have F107_zbox_10 := lH (t_box_below bz9.out hb10)
    clear bz9
    have F108_zbox_11 := lH (t_box_below F107_zbox_10.out hb11)
    clear F107_zbox_10
    have lB106 := t_box_lt F108_zbox_11.out
    have F109_ag_9 := o8.below hb9
    clear o8
    have F110_ag_10 := F109_ag_9.below hb10
    clear F109_ag_9
    have F111_ag_11 := F110_ag_10.below hb11
    clear F110_ag_10
    have F112_apt_11 := o10.below hb11
    clear o10
    refine (sLaw_h.out _ _ _ _ _ _ _  F111_ag_11 F112_apt_11 o11 okg okpt okm).mono ?_
    rintro e w12 ⟨v12_0, fp12_0, rfl, o12r0, fr12_0, hb12⟩
    have hB12 := below_trans hB11 hb12 hB11.size
    have F113_pg_12 := lH (t_box_below F103_pg_11.out hb12)
    clear F103_pg_11
    have F114_ppt_12 := lH (t_box_below F104_ppt_11.out hb12)
    clear F104_ppt_11
    have F115_pm_12 := lH (t_box_below F105_pm_11.out hb12)
    clear F105_pm_11
    refine ⟨_, rfl, ⟨F113_pg_12.out, F114_ppt_12.out, F115_pm_12.out⟩, ?_⟩
    obtain ⟨A12_0, n12_0, c12_0, B12_0, m12_0, d12_0, C12_0, k12_0, e12_0, rfl⟩ := o12r0.shape
    simp only [Act.put, nS]
    refine tkH 7 ?_ rfl ⟨F113_pg_12.out, F114_ppt_12.out, F115_pm_12.out⟩ (fun W' hW' => ?_) ?_; rotate_left; · (obtain ⟨q0, q1, q2⟩ := hW'; obtain ⟨⟨ca0_0, ca0_1, ca0_2, ca0_3⟩, ga0_0, ga0_1, ga0_2, ga0_3⟩ := t_box4 q0; obtain ⟨⟨ca1_0, ca1_1, ca1_2, ca1_3⟩, ga1_0, ga1_1, ga1_2, ga1_3⟩ := t_box4 q1; obtain ⟨⟨ca2_0, ca2_1⟩, ga2_0, ga2_1⟩ := t_box2 q2; clear q0 q1 q2; go_simp; first | done | with_reducible rfl)
    simp only [Act.put, nS]
    refine tkH 8 ?_ rfl ⟨F113_pg_12.out, F114_ppt_12.out, F115_pm_12.out⟩ (fun W' hW' => ?_) ?_; rotate_left; · (obtain ⟨q0, q1, q2⟩ := hW'; obtain ⟨⟨ca0_0, ca0_1, ca0_2, ca0_3⟩, ga0_0, ga0_1, ga0_2, ga0_3⟩ := t_box4 q0; obtain ⟨⟨ca1_0, ca1_1, ca1_2, ca1_3⟩, ga1_0, ga1_1, ga1_2, ga1_3⟩ := t_box4 q1; obtain ⟨⟨ca2_0, ca2_1⟩, ga2_0, ga2_1⟩ := t_box2 q2; clear q0 q1 q2; go_simp; first | done | with_reducible rfl)
    simp only [Act.put, nS]
    refine tkH 9 ?_ rfl ⟨F113_pg_12.out, F114_ppt_12.out, F115_pm_12.out⟩ (fun W' hW' => ?_) ?_; rotate_left; · (obtain ⟨q0, q1, q2⟩ := hW'; obtain ⟨⟨ca0_0, ca0_1, ca0_2, ca0_3⟩, ga0_0, ga0_1, ga0_2, ga0_3⟩ := t_box4 q0; obtain ⟨⟨ca1_0, ca1_1, ca1_2, ca1_3⟩, ga1_0, ga1_1, ga1_2, ga1_3⟩ := t_box4 q1; obtain ⟨⟨ca2_0, ca2_1⟩, ga2_0, ga2_1⟩ := t_box2 q2; clear q0 q1 q2; go_simp; first | done | with_reducible rfl)
    simp only [Act.put, nS]
    have hd6 : Below (w6).heap.size (w6) (w6) := Below.refl _ _
    have hd7 := below_trans hd6 hb7 hd6.size
    have hd8 := below_trans hd7 hb8 hd7.size
    have hd9 := below_trans hd8 hb9 hd8.size
    have hd10 := below_trans hd9 hb10 hd9.size
    have hd11 := below_trans hd10 hb11 hd10.size
    have hd12 := below_trans hd11 hb12 hd11.size
    have F116_zbox_12 := lH (t_box_below F108_zbox_11.out hb12)
    clear F108_zbox_11
    obtain ⟨s1, s2⟩ := set4 (a := .int .i64 (R.1).1) (b := .slice A12_0 n12_0 c12_0) (c := .slice B12_0 m12_0 d12_0) (d := .slice C12_0 k12_0 e12_0) F116_zbox_12.out
    obtain ⟨⟨z0, z1, z2, z3⟩, z4, z5, z6, z7⟩ := t_box4 F116_zbox_12.out
    have o2 := o12r0.keeps s2 (fun b hb e => by have := fr12_0 b hb; have := lB106; omega)
    have hdf := below_keeps hd12 s2 hd12.size (fun k hk => by rw [hk]; exact hd8.size)
    refine oneH 11 rfl (by kernel_rfl) (by rfl) (fun K hK => ?_)
    go_simp
    refine hK _ _ ⟨(t_box_keeps F113_pg_12.out s2 (fun e => Nat.ne_of_lt lp94_pg e)), (t_box_keeps F114_ppt_12.out s2 (fun e => Nat.ne_of_lt lp95_ppt e)), (t_box_keeps F115_pm_12.out s2 (fun e => Nat.ne_of_lt lp96_pm e))⟩ ?_
    clear hK K
    refine tkH 12 ?_ rfl ⟨(t_box_keeps F113_pg_12.out s2 (fun e => Nat.ne_of_lt lp94_pg e)), (t_box_keeps F114_ppt_12.out s2 (fun e => Nat.ne_of_lt lp95_ppt e)), (t_box_keeps F115_pm_12.out s2 (fun e => Nat.ne_of_lt lp96_pm e))⟩ (fun W' hW' => ?_) ?_; rotate_left; · (obtain ⟨q0, q1, q2⟩ := hW'; obtain ⟨⟨ca0_0, ca0_1, ca0_2, ca0_3⟩, ga0_0, ga0_1, ga0_2, ga0_3⟩ := t_box4 q0; obtain ⟨⟨ca1_0, ca1_1, ca1_2, ca1_3⟩, ga1_0, ga1_1, ga1_2, ga1_3⟩ := t_box4 q1; obtain ⟨⟨ca2_0, ca2_1⟩, ga2_0, ga2_1⟩ := t_box2 q2; clear q0 q1 q2; go_simp; first | done | with_reducible rfl)
    simp only [Act.put, nS]
    refine doneH (by kernel_rfl) ?_
    go_wp2_with (fail)
    go_meet
    exact ⟨_, _, _, _, _, _, _, _, _, _, _, rfl, rfl, s1, o2, (fr12_0.mono (Nat.le_trans (Nat.le_trans (Nat.le_trans (Nat.le_trans (Nat.le_trans (Nat.le_refl _) hb7.size) hb8.size) hb9.size) hb10.size) hb11.size)), hd8.size, hdf⟩
  case h238 =>
   have lp117_pg := t_box_lt F35_pg_7.out
   have lp118_ppt := t_box_lt F36_ppt_7.out
   have lp119_pm := t_box_lt F37_pm_7.out
   have hb8 := t_below_alloc ((w6).drew) (.cells #[.int .i64 0, .slice none 0 0, .slice none 0 0, .slice none 0 0] 32)
   have bz8 := lH (show (((w6).drew).alloc (.cells #[.int .i64 0, .slice none 0 0, .slice none 0 0, .slice none 0 0] 32)).heap[((w6)).heap.size]? = some (.cells #[.int .i64 0, .slice none 0 0, .slice none 0 0, .slice none 0 0] 32) from heap_alloc_new ((w6).drew) (.cells #[.int .i64 0, .slice none 0 0, .slice none 0 0, .slice none 0 0] 32))
   have hB8 := below_trans hB7 hb8 hB7.size
   simp only [Act.put, nS]
   refine' callH 1 (f := _) (args := _) rfl (by kernel_rfl) (by rfl) ?_ ?_; rotate_left 2; · (go_simp; first | done | with_reducible rfl | (constructor <;> with_reducible rfl))
   refine (toGraph_law (hg.below hB8) okg).mono ?_
   rintro e w9 ⟨v9, fp9, rfl, o9, fr9, hb9⟩
   have hB9 := below_trans hB8 hb9 hB8.size
   have F120_pg_8 := lH (t_box_below F35_pg_7.out hb8)
   clear F35_pg_7
   have F121_pg_9 := lH (t_box_below F120_pg_8.out hb9)
   clear F120_pg_8
   have F122_ppt_8 := lH (t_box_below F36_ppt_7.out hb8)
   clear F36_ppt_7
   have F123_ppt_9 := lH (t_box_below F122_ppt_8.out hb9)
   clear F122_ppt_8
   have F124_pm_8 := lH (t_box_below F37_pm_7.out hb8)
   clear F37_pm_7
   have F125_pm_9 := lH (t_box_below F124_pm_8.out hb9)
   clear F124_pm_8
   refine ⟨_, rfl, ⟨F121_pg_9.out, F123_ppt_9.out, F125_pm_9.out⟩, ?_⟩
   obtain ⟨A9, n9, c9, B9, m9, d9, C9, k9, e9, rfl⟩ := o9.shape
   have lt_ag := o9.lt
   simp only [Act.put, nS]
   refine' callH 3 (f := _) (args := _) rfl (by kernel_rfl) (by rfl) ?_ ?_; rotate_left 2; · (go_simp; first | done | with_reducible rfl | (constructor <;> with_reducible rfl))
   refine (toGraph_law (hpt.below hB9) okpt).mono ?_
   rintro e w10 ⟨v10, fp10, rfl, o10, fr10, hb10⟩
   have hB10 := below_trans hB9 hb10 hB9.size
   have F126_pg_10 := lH (t_box_below F121_pg_9.out hb10)
   clear F121_pg_9
   have F127_ppt_10 := lH (t_box_below F123_ppt_9.out hb10)
   clear F123_ppt_9
   have F128_pm_10 := lH (t_box_below F125_pm_9.out hb10)
   clear F125_pm_9
   refine ⟨_, rfl, ⟨F126_pg_10.out, F127_ppt_10.out, F128_pm_10.out⟩, ?_⟩
   obtain ⟨A10, n10, c10, B10, m10, d10, C10, k10, e10, rfl⟩ := o10.shape
   have lt_apt := o10.lt
   simp only [Act.put, nS]
   refine' callH 5 (f := _) (args := _) rfl (by kernel_rfl) (by rfl) ?_ ?_; rotate_left 2; · (go_simp; first | done | with_reducible rfl | (constructor <;> with_reducible rfl))
   refine (toMatch_law (hm.below hB10) okm).mono ?_
   rintro e w11 ⟨v11, fp11, rfl, o11, fr11, hb11⟩
   have hB11 := below_trans hB10 hb11 hB10.size
   have F129_pg_11 := lH (t_box_below F126_pg_10.out hb11)
   clear F126_pg_10
   have F130_ppt_11 := lH (t_box_below F127_ppt_10.out hb11)
   clear F127_ppt_10
   have F131_pm_11 := lH (t_box_below F128_pm_10.out hb11)
   clear F128_pm_10
   refine ⟨_, rfl, ⟨F129_pg_11.out, F130_ppt_11.out, F131_pm_11.out⟩, ?_⟩
   obtain ⟨A11, n11, c11, B11, m11, d11, rfl⟩ := o11.shape
   have lt_am := o11.lt
   simp only [Act.put, nS]
   refine' callH 6 (f := _) (args := _) rfl (by kernel_rfl) (by rfl) ?_ ?_; rotate_left 2; · (go_simp; first | done | with_reducible rfl | (constructor <;> with_reducible rfl))
   have F133_zbox_9 := lH (t_box_below bz8.out hb9)
   clear bz8
   have F134_zbox_10 := lH (t_box_below F133_zbox_9.out hb10)
   clear F133_zbox_9
   have F135_zbox_11 := lH (t_box_below F134_zbox_10.out hb11)
   clear F134_zbox_10
   have lB132 := t_box_lt F135_zbox_11.out
   have F136_ag_10 := o9.below hb10
   clear o9
   have F137_ag_11 := F136_ag_10.below hb11
   clear F136_ag_10
   have F138_apt_11 := o10.below hb11
   clear o10
   refine (sLaw_h.out _ _ _ _ _ _ _  F137_ag_11 F138_apt_11 o11 okg okpt okm).mono ?_
   rintro e w12 ⟨v12_0, fp12_0, rfl, o12r0, fr12_0, hb12⟩
   have hB12 := below_trans hB11 hb12 hB11.size
   have F139_pg_12 := lH (t_box_below F129_pg_11.out hb12)
   clear F129_pg_11
   have F140_ppt_12 := lH (t_box_below F130_ppt_11.out hb12)
   clear F130_ppt_11
   have F141_pm_12 := lH (t_box_below F131_pm_11.out hb12)
   clear F131_pm_11
   refine ⟨_, rfl, ⟨F139_pg_12.out, F140_ppt_12.out, F141_pm_12.out⟩, ?_⟩
   obtain ⟨A12_0, n12_0, c12_0, B12_0, m12_0, d12_0, C12_0, k12_0, e12_0, rfl⟩ := o12r0.shape
   simp only [Act.put, nS]
   refine tkH 7 ?_ rfl ⟨F139_pg_12.out, F140_ppt_12.out, F141_pm_12.out⟩ (fun W' hW' => ?_) ?_; rotate_left; · (obtain ⟨q0, q1, q2⟩ := hW'; obtain ⟨⟨ca0_0, ca0_1, ca0_2, ca0_3⟩, ga0_0, ga0_1, ga0_2, ga0_3⟩ := t_box4 q0; obtain ⟨⟨ca1_0, ca1_1, ca1_2, ca1_3⟩, ga1_0, ga1_1, ga1_2, ga1_3⟩ := t_box4 q1; obtain ⟨⟨ca2_0, ca2_1⟩, ga2_0, ga2_1⟩ := t_box2 q2; clear q0 q1 q2; go_simp; first | done | with_reducible rfl)
   simp only [Act.put, nS]
   refine tkH 8 ?_ rfl ⟨F139_pg_12.out, F140_ppt_12.out, F141_pm_12.out⟩ (fun W' hW' => ?_) ?_; rotate_left; · (obtain ⟨q0, q1, q2⟩ := hW'; obtain ⟨⟨ca0_0, ca0_1, ca0_2, ca0_3⟩, ga0_0, ga0_1, ga0_2, ga0_3⟩ := t_box4 q0; obtain ⟨⟨ca1_0, ca1_1, ca1_2, ca1_3⟩, ga1_0, ga1_1, ga1_2, ga1_3⟩ := t_box4 q1; obtain ⟨⟨ca2_0, ca2_1⟩, ga2_0, ga2_1⟩ := t_box2 q2; clear q0 q1 q2; go_simp; first | done | with_reducible rfl)
   simp only [Act.put, nS]
   refine tkH 9 ?_ rfl ⟨F139_pg_12.out, F140_ppt_12.out, F141_pm_12.out⟩ (fun W' hW' => ?_) ?_; rotate_left; · (obtain ⟨q0, q1, q2⟩ := hW'; obtain ⟨⟨ca0_0, ca0_1, ca0_2, ca0_3⟩, ga0_0, ga0_1, ga0_2, ga0_3⟩ := t_box4 q0; obtain ⟨⟨ca1_0, ca1_1, ca1_2, ca1_3⟩, ga1_0, ga1_1, ga1_2, ga1_3⟩ := t_box4 q1; obtain ⟨⟨ca2_0, ca2_1⟩, ga2_0, ga2_1⟩ := t_box2 q2; clear q0 q1 q2; go_simp; first | done | with_reducible rfl)
   simp only [Act.put, nS]
   have hd6 : Below (w6).heap.size (w6) (w6) := Below.refl _ _
   have hd7 := below_trans hd6 hb7 hd6.size
   have hd8 := below_trans hd7 hb8 hd7.size
   have hd9 := below_trans hd8 hb9 hd8.size
   have hd10 := below_trans hd9 hb10 hd9.size
   have hd11 := below_trans hd10 hb11 hd10.size
   have hd12 := below_trans hd11 hb12 hd11.size
   have F142_zbox_12 := lH (t_box_below F135_zbox_11.out hb12)
   clear F135_zbox_11
   obtain ⟨s1, s2⟩ := set4 (a := .int .i64 (R.1).1) (b := .slice A12_0 n12_0 c12_0) (c := .slice B12_0 m12_0 d12_0) (d := .slice C12_0 k12_0 e12_0) F142_zbox_12.out
   obtain ⟨⟨z0, z1, z2, z3⟩, z4, z5, z6, z7⟩ := t_box4 F142_zbox_12.out
   have o2 := o12r0.keeps s2 (fun b hb e => by have := fr12_0 b hb; have := lB132; omega)
   have hdf := below_keeps hd12 s2 hd12.size (fun k hk => by rw [hk]; exact hd7.size)
   refine oneH 11 rfl (by kernel_rfl) (by rfl) (fun K hK => ?_)
   go_simp
   refine hK _ _ ⟨(t_box_keeps F139_pg_12.out s2 (fun e => Nat.ne_of_lt lp117_pg e)), (t_box_keeps F140_ppt_12.out s2 (fun e => Nat.ne_of_lt lp118_ppt e)), (t_box_keeps F141_pm_12.out s2 (fun e => Nat.ne_of_lt lp119_pm e))⟩ ?_
   clear hK K
   refine tkH 12 ?_ rfl ⟨(t_box_keeps F139_pg_12.out s2 (fun e => Nat.ne_of_lt lp117_pg e)), (t_box_keeps F140_ppt_12.out s2 (fun e => Nat.ne_of_lt lp118_ppt e)), (t_box_keeps F141_pm_12.out s2 (fun e => Nat.ne_of_lt lp119_pm e))⟩ (fun W' hW' => ?_) ?_; rotate_left; · (obtain ⟨q0, q1, q2⟩ := hW'; obtain ⟨⟨ca0_0, ca0_1, ca0_2, ca0_3⟩, ga0_0, ga0_1, ga0_2, ga0_3⟩ := t_box4 q0; obtain ⟨⟨ca1_0, ca1_1, ca1_2, ca1_3⟩, ga1_0, ga1_1, ga1_2, ga1_3⟩ := t_box4 q1; obtain ⟨⟨ca2_0, ca2_1⟩, ga2_0, ga2_1⟩ := t_box2 q2; clear q0 q1 q2; go_simp; first | done | with_reducible rfl)
   simp only [Act.put, nS]
   refine doneH (by kernel_rfl) ?_
   go_wp2_with (fail)
   go_meet
   exact ⟨_, _, _, _, _, _, _, _, _, _, _, rfl, rfl, s1, o2, (fr12_0.mono (Nat.le_trans (Nat.le_trans (Nat.le_trans (Nat.le_trans (Nat.le_trans (Nat.le_refl _) hb7.size) hb8.size) hb9.size) hb10.size) hb11.size)), hd7.size, hdf⟩
 case rest =>
  obtain ⟨B34, nX34, cX34, mX34, dX34, kX34, eX34, AX34, BX34, CX34, fpx34, rfl, rfl, bx34c, o34c, fr34c, hge34, hb34c⟩ := hcut
  obtain ⟨w7c, rfl⟩ : ∃ x, x = wc := ⟨_, rfl⟩
  have hB7 := below_trans hB6 hb34c hB6.size
  have lt_W0 := o34c.lt
  have lt_bW0 : LtL (w7c).heap.size [B34] := fun b hb => by obtain rfl := List.mem_singleton.1 hb; exact t_box_lt bx34c
  have fr_bW0 : FreshL (w6).heap.size [B34] := fun b hb => by obtain rfl := List.mem_singleton.1 hb; exact hge34
  have BX_bW0_34 := lH bx34c; clear bx34c
  have F143_pg_7 := lH (t_box_below F30_pg_6.out hb34c)
  clear F30_pg_6
  obtain ⟨⟨c144_0, c144_1, c144_2, c144_3⟩, f144_0, f144_1, f144_2, f144_3⟩ := t_box4 F143_pg_7.out
  go_wp2_with (fail)
  refine (toGraph_law (hg.below hB7) okg).mono ?_
  rintro e w8 ⟨v8, fp8, rfl, o8, fr8, hb8⟩
  have hB8 := below_trans hB7 hb8 hB7.size
  clear c144_0 c144_1 c144_2 c144_3 f144_0 f144_1 f144_2 f144_3
  obtain ⟨A8, n8, c8, B8, m8, d8, C8, k8, e8, rfl⟩ := o8.shape
  have lt_xg := o8.lt
  have hb9 := t_below_alloc (w8) (.cells #[.int .i64 (g).1, .slice A8 n8 c8, .slice B8 m8 d8, .slice C8 k8 e8] 32)
  have hB9 := below_trans hB8 hb9 hB8.size
  have bx9 := heap_alloc_new (w8) (.cells #[.int .i64 (g).1, .slice A8 n8 c8, .slice B8 m8 d8, .slice C8 k8 e8] 32)
  have lt_bxg : LtL ((w8).alloc (.cells #[.int .i64 (g).1, .slice A8 n8 c8, .slice B8 m8 d8, .slice C8 k8 e8] 32)).heap.size [(w8).heap.size] := fun b hb => by obtain rfl := List.mem_singleton.1 hb; exact t_box_lt bx9
  have fr_bxg : FreshL (w8).heap.size [(w8).heap.size] := fun b hb => by obtain rfl := List.mem_singleton.1 hb; exact Nat.le_refl _
  have BX_bxg_9 := lH bx9; clear bx9
  have F145_ppt_7 := lH (t_box_below F32_ppt_6.out hb34c)
  clear F32_ppt_6
  have F146_ppt_8 := lH (t_box_below F145_ppt_7.out hb8)
  clear F145_ppt_7
  have F147_ppt_9 := lH (t_box_below F146_ppt_8.out hb9)
  clear F146_ppt_8
  obtain ⟨⟨c148_0, c148_1, c148_2, c148_3⟩, f148_0, f148_1, f148_2, f148_3⟩ := t_box4 F147_ppt_9.out
  go_wp2_with (fail)
  refine (toGraph_law (hpt.below hB9) okpt).mono ?_
  rintro e w10 ⟨v10, fp10, rfl, o10, fr10, hb10⟩
  have hB10 := below_trans hB9 hb10 hB9.size
  clear c148_0 c148_1 c148_2 c148_3 f148_0 f148_1 f148_2 f148_3
  obtain ⟨A10, n10, c10, B10, m10, d10, C10, k10, e10, rfl⟩ := o10.shape
  have lt_xpt := o10.lt
  have hb11 := t_below_alloc (w10) (.cells #[.int .i64 (pt).1, .slice A10 n10 c10, .slice B10 m10 d10, .slice C10 k10 e10] 32)
  have hB11 := below_trans hB10 hb11 hB10.size
  have bx11 := heap_alloc_new (w10) (.cells #[.int .i64 (pt).1, .slice A10 n10 c10, .slice B10 m10 d10, .slice C10 k10 e10] 32)
  have lt_bxpt : LtL ((w10).alloc (.cells #[.int .i64 (pt).1, .slice A10 n10 c10, .slice B10 m10 d10, .slice C10 k10 e10] 32)).heap.size [(w10).heap.size] := fun b hb => by obtain rfl := List.mem_singleton.1 hb; exact t_box_lt bx11
  have fr_bxpt : FreshL (w10).heap.size [(w10).heap.size] := fun b hb => by obtain rfl := List.mem_singleton.1 hb; exact Nat.le_refl _
  have BX_bxpt_11 := lH bx11; clear bx11
  have F149_pm_7 := lH (t_box_below F33_pm_6.out hb34c)
  clear F33_pm_6
  have F150_pm_8 := lH (t_box_below F149_pm_7.out hb8)
  clear F149_pm_7
  have F151_pm_9 := lH (t_box_below F150_pm_8.out hb9)
  clear F150_pm_8
  have F152_pm_10 := lH (t_box_below F151_pm_9.out hb10)
  clear F151_pm_9
  have F153_pm_11 := lH (t_box_below F152_pm_10.out hb11)
  clear F152_pm_10
  obtain ⟨⟨c154_0, c154_1⟩, f154_0, f154_1⟩ := t_box2 F153_pm_11.out
  go_wp2_with (fail)
  refine (toMatch_law (hm.below hB11) okm).mono ?_
  rintro e w12 ⟨v12, fp12, rfl, o12, fr12, hb12⟩
  have hB12 := below_trans hB11 hb12 hB11.size
  clear c154_0 c154_1 f154_0 f154_1
  obtain ⟨A12, n12, c12, B12, m12, d12, rfl⟩ := o12.shape
  have lt_xm := o12.lt
  have hb13 := t_below_alloc (w12) (.cells #[.slice A12 n12 c12, .slice B12 m12 d12] 36)
  have hB13 := below_trans hB12 hb13 hB12.size
  have bx13 := heap_alloc_new (w12) (.cells #[.slice A12 n12 c12, .slice B12 m12 d12] 36)
  have lt_bxm : LtL ((w12).alloc (.cells #[.slice A12 n12 c12, .slice B12 m12 d12] 36)).heap.size [(w12).heap.size] := fun b hb => by obtain rfl := List.mem_singleton.1 hb; exact t_box_lt bx13
  have fr_bxm : FreshL (w12).heap.size [(w12).heap.size] := fun b hb => by obtain rfl := List.mem_singleton.1 hb; exact Nat.le_refl _
  have BX_bxm_13 := lH bx13; clear bx13
  have F155_xg_9 := o8.below hb9
  clear o8
  have F156_xg_10 := F155_xg_9.below hb10
  clear F155_xg_9
  have F157_xg_11 := F156_xg_10.below hb11
  clear F156_xg_10
  have F158_xg_12 := F157_xg_11.below hb12
  clear F157_xg_11
  have F159_xg_13 := F158_xg_12.below hb13
  clear F158_xg_12
  have F160_xpt_11 := o10.below hb11
  clear o10
  have F161_xpt_12 := F160_xpt_11.below hb12
  clear F160_xpt_11
  have F162_xpt_13 := F161_xpt_12.below hb13
  clear F161_xpt_12
  have F163_xm_13 := o12.below hb13
  clear o12
  have F164_bxg_10 := lH (t_box_below BX_bxg_9.out hb10)
  clear BX_bxg_9
  have F165_bxg_11 := lH (t_box_below F164_bxg_10.out hb11)
  clear F164_bxg_10
  have F166_bxg_12 := lH (t_box_below F165_bxg_11.out hb12)
  clear F165_bxg_11
  have F167_bxg_13 := lH (t_box_below F166_bxg_12.out hb13)
  clear F166_bxg_12
  obtain ⟨⟨c168_0, c168_1, c168_2, c168_3⟩, f168_0, f168_1, f168_2, f168_3⟩ := t_box4 F167_bxg_13.out
  have F169_bxpt_12 := lH (t_box_below BX_bxpt_11.out hb12)
  clear BX_bxpt_11
  have F170_bxpt_13 := lH (t_box_below F169_bxpt_12.out hb13)
  clear F169_bxpt_12
  obtain ⟨⟨c171_0, c171_1, c171_2, c171_3⟩, f171_0, f171_1, f171_2, f171_3⟩ := t_box4 F170_bxpt_13.out
  obtain ⟨⟨c172_0, c172_1⟩, f172_0, f172_1⟩ := t_box2 BX_bxm_13.out
  go_wp2_with (fail)
  refine (iLaw_h.out _ _ _ _ _ _ _  F159_xg_13 F162_xpt_13 F163_xm_13 okg okpt okm).mono ?_
  rintro e w14 ⟨v14_0, fp14_0, rfl, o14r0, fr14_0, hb14⟩
  have hB14 := below_trans hB13 hb14 hB13.size
  clear c168_0 c168_1 c168_2 c168_3 f168_0 f168_1 f168_2 f168_3 c171_0 c171_1 c171_2 c171_3 f171_0 f171_1 f171_2 f171_3 c172_0 c172_1 f172_0 f172_1
  obtain ⟨A14_0, n14_0, c14_0, B14_0, m14_0, d14_0, C14_0, k14_0, e14_0, rfl⟩ := o14r0.shape
  have lt_G0 := o14r0.lt
  have hb15 := t_below_alloc (w14) (.cells #[.int .i64 (R.1).1, .slice A14_0 n14_0 c14_0, .slice B14_0 m14_0 d14_0, .slice C14_0 k14_0 e14_0] 32)
  have hB15 := below_trans hB14 hb15 hB14.size
  have bx15 := heap_alloc_new (w14) (.cells #[.int .i64 (R.1).1, .slice A14_0 n14_0 c14_0, .slice B14_0 m14_0 d14_0, .slice C14_0 k14_0 e14_0] 32)
  have lt_bG0 : LtL ((w14).alloc (.cells #[.int .i64 (R.1).1, .slice A14_0 n14_0 c14_0, .slice B14_0 m14_0 d14_0, .slice C14_0 k14_0 e14_0] 32)).heap.size [(w14).heap.size] := fun b hb => by obtain rfl := List.mem_singleton.1 hb; exact t_box_lt bx15
  have fr_bG0 : FreshL (w14).heap.size [(w14).heap.size] := fun b hb => by obtain rfl := List.mem_singleton.1 hb; exact Nat.le_refl _
  have BX_bG0_15 := lH bx15; clear bx15
  have F173_G0_15 := o14r0.below hb15
  clear o14r0
  have F174_W0_8 := o34c.below hb8
  clear o34c
  have F175_W0_9 := F174_W0_8.below hb9
  clear F174_W0_8
  have F176_W0_10 := F175_W0_9.below hb10
  clear F175_W0_9
  have F177_W0_11 := F176_W0_10.below hb11
  clear F176_W0_10
  have F178_W0_12 := F177_W0_11.below hb12
  clear F177_W0_11
  have F179_W0_13 := F178_W0_12.below hb13
  clear F178_W0_12
  have F180_W0_14 := F179_W0_13.below hb14
  clear F179_W0_13
  have F181_W0_15 := F180_W0_14.below hb15
  clear F180_W0_14
  obtain ⟨⟨c182_0, c182_1, c182_2, c182_3⟩, f182_0, f182_1, f182_2, f182_3⟩ := t_box4 BX_bG0_15.out
  have F183_bW0_8 := lH (t_box_below BX_bW0_34.out hb8)
  clear BX_bW0_34
  have F184_bW0_9 := lH (t_box_below F183_bW0_8.out hb9)
  clear F183_bW0_8
  have F185_bW0_10 := lH (t_box_below F184_bW0_9.out hb10)
  clear F184_bW0_9
  have F186_bW0_11 := lH (t_box_below F185_bW0_10.out hb11)
  clear F185_bW0_10
  have F187_bW0_12 := lH (t_box_below F186_bW0_11.out hb12)
  clear F186_bW0_11
  have F188_bW0_13 := lH (t_box_below F187_bW0_12.out hb13)
  clear F187_bW0_12
  have F189_bW0_14 := lH (t_box_below F188_bW0_13.out hb14)
  clear F188_bW0_13
  have F190_bW0_15 := lH (t_box_below F189_bW0_14.out hb15)
  clear F189_bW0_14
  obtain ⟨⟨c191_0, c191_1, c191_2, c191_3⟩, f191_0, f191_1, f191_2, f191_3⟩ := t_box4 F190_bW0_15.out
  go_wp2_with (fail)
  refine (eqGraph_law F173_G0_15.rd F181_W0_15.rd (hokR okpt)).mono ?_
  rintro e w16 ⟨rfl, hb16⟩
  have hB16 := below_trans hB15 hb16 hB15.size
  clear c182_0 c182_1 c182_2 c182_3 f182_0 f182_1 f182_2 f182_3 c191_0 c191_1 c191_2 c191_3 f191_0 f191_1 f191_2 f191_3
  rw [decide_eq_true (rfl : R.1 = R.1)]
  have F192_bxg_14 := lH (t_box_below F167_bxg_13.out hb14)
  clear F167_bxg_13
  have F193_bxg_15 := lH (t_box_below F192_bxg_14.out hb15)
  clear F192_bxg_14
  have F194_bxg_16 := lH (t_box_below F193_bxg_15.out hb16)
  clear F193_bxg_15
  have F195_pg_8 := lH (t_box_below F143_pg_7.out hb8)
  clear F143_pg_7
  have F196_pg_9 := lH (t_box_below F195_pg_8.out hb9)
  clear F195_pg_8
  have F197_pg_10 := lH (t_box_below F196_pg_9.out hb10)
  clear F196_pg_9
  have F198_pg_11 := lH (t_box_below F197_pg_10.out hb11)
  clear F197_pg_10
  have F199_pg_12 := lH (t_box_below F198_pg_11.out hb12)
  clear F198_pg_11
  have F200_pg_13 := lH (t_box_below F199_pg_12.out hb13)
  clear F199_pg_12
  have F201_pg_14 := lH (t_box_below F200_pg_13.out hb14)
  clear F200_pg_13
  have F202_pg_15 := lH (t_box_below F201_pg_14.out hb15)
  clear F201_pg_14
  have F203_pg_16 := lH (t_box_below F202_pg_15.out hb16)
  clear F202_pg_15
  have F204_xg_14 := F159_xg_13.below hb14
  clear F159_xg_13
  have F205_xg_15 := F204_xg_14.below hb15
  clear F204_xg_14
  have F206_xg_16 := F205_xg_15.below hb16
  clear F205_xg_15
  go_wp2_with (fail)
  refine beginH (fun w' => w'.heap[(w8).heap.size]? = some (.cells #[.int .i64 (g).1, .slice A8 n8 c8, .slice B8 m8 d8, .slice C8 k8 e8] 32) ∧ w'.heap[(w).heap.size]? = some (.cells #[.int .i64 (g).1, .slice Ag ng cg, .slice Bg mg dg, .slice Cg kg eg] 25)) (by kernel_rfl) ?_
  have hb17 : Below (w16).heap.size (w16) (w16).drew := below_drewN (Below.refl _ _) 1
  have hB17 := below_trans hB16 hb17 hB16.size
  have F208_bxg_17 := lH (t_box_below F194_bxg_16.out hb17)
  clear F194_bxg_16
  have F209_pg_17 := lH (t_box_below F203_pg_16.out hb17)
  clear F203_pg_16
  have F210_xg_17 := F206_xg_16.below hb17
  clear F206_xg_16
  refine tkH 0 ?_ rfl ⟨F208_bxg_17.out, F209_pg_17.out⟩ (fun W' hW' => ?_) ?_; rotate_left; · (obtain ⟨q1, q2⟩ := hW'; obtain ⟨⟨ca0, ca1, ca2, ca3⟩, gca0, gca1, gca2, gca3⟩ := t_box4 q1; obtain ⟨⟨cb0, cb1, cb2, cb3⟩, gcb0, gcb1, gcb2, gcb3⟩ := t_box4 q2; clear q1 q2; go_simp; first | done | with_reducible rfl)
  simp only [Act.put, nS]
  refine tkH 1 ?_ rfl ⟨F208_bxg_17.out, F209_pg_17.out⟩ (fun W' hW' => ?_) ?_; rotate_left; · (obtain ⟨q1, q2⟩ := hW'; obtain ⟨⟨ca0, ca1, ca2, ca3⟩, gca0, gca1, gca2, gca3⟩ := t_box4 q1; obtain ⟨⟨cb0, cb1, cb2, cb3⟩, gcb0, gcb1, gcb2, gcb3⟩ := t_box4 q2; clear q1 q2; go_simp; first | done | with_reducible rfl)
  simp only [Act.put, nS]
  refine' callH 2 (f := _) (args := _) rfl (by kernel_rfl) (by rfl) ?_ ?_; rotate_left 2; · (go_simp; first | done | with_reducible rfl | (constructor <;> with_reducible rfl))
  refine (toGraph_law (hg.below hB17) okg).mono ?_
  rintro e w18 ⟨v18, fp18, rfl, o18, fr18, hb18⟩
  have hB18 := below_trans hB17 hb18 hB17.size
  have F211_bxg_18 := lH (t_box_below F208_bxg_17.out hb18)
  clear F208_bxg_17
  have F212_pg_18 := lH (t_box_below F209_pg_17.out hb18)
  clear F209_pg_17
  have F213_xg_18 := F210_xg_17.below hb18
  clear F210_xg_17
  refine ⟨_, rfl, ⟨F211_bxg_18.out, F212_pg_18.out⟩, ?_⟩
  simp only [Act.put, nS]
  refine' callH 3 (f := _) (args := _) rfl (by kernel_rfl) (by rfl) ?_ ?_; rotate_left 2; · (go_simp; first | done | with_reducible rfl | (constructor <;> with_reducible rfl))
  refine (eqGraph_law F213_xg_18.rd o18.rd okg).mono ?_
  rintro e w19 ⟨rfl, hb19⟩
  have hB19 := below_trans hB18 hb19 hB18.size
  have F214_bxg_19 := lH (t_box_below F211_bxg_18.out hb19)
  clear F211_bxg_18
  have F215_pg_19 := lH (t_box_below F212_pg_18.out hb19)
  clear F212_pg_18
  have F216_xg_19 := F213_xg_18.below hb19
  clear F213_xg_18
  refine ⟨_, rfl, ⟨F214_bxg_19.out, F215_pg_19.out⟩, ?_⟩
  rw [decide_eq_true (rfl : g = g)]
  simp only [Act.put, nS]
  refine takeH 4 (v := .bool false) rfl (by kernel_rfl) (by kernel_rfl) (by kernel_rfl) (fun _ _ _ h => h) ⟨F214_bxg_19.out, F215_pg_19.out⟩ (by rfl) (fun W' hW' => ?_) ?_; · (go_simp; first | done | with_reducible rfl)
  simp only [Act.put, nS]
  refine doneH (by kernel_rfl) ?_
  have F217_bxpt_14 := lH (t_box_below F170_bxpt_13.out hb14)
  clear F170_bxpt_13
  have F218_bxpt_15 := lH (t_box_below F217_bxpt_14.out hb15)
  clear F217_bxpt_14
  have F219_bxpt_16 := lH (t_box_below F218_bxpt_15.out hb16)
  clear F218_bxpt_15
  have F220_bxpt_17 := lH (t_box_below F219_bxpt_16.out hb17)
  clear F219_bxpt_16
  have F221_bxpt_18 := lH (t_box_below F220_bxpt_17.out hb18)
  clear F220_bxpt_17
  have F222_bxpt_19 := lH (t_box_below F221_bxpt_18.out hb19)
  clear F221_bxpt_18
  have F223_ppt_10 := lH (t_box_below F147_ppt_9.out hb10)
  clear F147_ppt_9
  have F224_ppt_11 := lH (t_box_below F223_ppt_10.out hb11)
  clear F223_ppt_10
  have F225_ppt_12 := lH (t_box_below F224_ppt_11.out hb12)
  clear F224_ppt_11
  have F226_ppt_13 := lH (t_box_below F225_ppt_12.out hb13)
  clear F225_ppt_12
  have F227_ppt_14 := lH (t_box_below F226_ppt_13.out hb14)
  clear F226_ppt_13
  have F228_ppt_15 := lH (t_box_below F227_ppt_14.out hb15)
  clear F227_ppt_14
  have F229_ppt_16 := lH (t_box_below F228_ppt_15.out hb16)
  clear F228_ppt_15
  have F230_ppt_17 := lH (t_box_below F229_ppt_16.out hb17)
  clear F229_ppt_16
  have F231_ppt_18 := lH (t_box_below F230_ppt_17.out hb18)
  clear F230_ppt_17
  have F232_ppt_19 := lH (t_box_below F231_ppt_18.out hb19)
  clear F231_ppt_18
  have F233_xpt_14 := F162_xpt_13.below hb14
  clear F162_xpt_13
  have F234_xpt_15 := F233_xpt_14.below hb15
  clear F233_xpt_14
  have F235_xpt_16 := F234_xpt_15.below hb16
  clear F234_xpt_15
  have F236_xpt_17 := F235_xpt_16.below hb17
  clear F235_xpt_16
  have F237_xpt_18 := F236_xpt_17.below hb18
  clear F236_xpt_17
  have F238_xpt_19 := F237_xpt_18.below hb19
  clear F237_xpt_18
  go_wp2_with (fail)
  refine beginH (fun w' => w'.heap[(w10).heap.size]? = some (.cells #[.int .i64 (pt).1, .slice A10 n10 c10, .slice B10 m10 d10, .slice C10 k10 e10] 32) ∧ w'.heap[(w).heap.size + 1]? = some (.cells #[.int .i64 (pt).1, .slice Apt npt cpt, .slice Bpt mpt dpt, .slice Cpt kpt ept] 25)) (by kernel_rfl) ?_
  have hb20 : Below (w19).heap.size (w19) (w19).drew := below_drewN (Below.refl _ _) 1
  have hB20 := below_trans hB19 hb20 hB19.size
  have F240_bxpt_20 := lH (t_box_below F222_bxpt_19.out hb20)
  clear F222_bxpt_19
  have F241_ppt_20 := lH (t_box_below F232_ppt_19.out hb20)
  clear F232_ppt_19
  have F242_xpt_20 := F238_xpt_19.below hb20
  clear F238_xpt_19
  refine tkH 0 ?_ rfl ⟨F240_bxpt_20.out, F241_ppt_20.out⟩ (fun W' hW' => ?_) ?_; rotate_left; · (obtain ⟨q1, q2⟩ := hW'; obtain ⟨⟨ca0, ca1, ca2, ca3⟩, gca0, gca1, gca2, gca3⟩ := t_box4 q1; obtain ⟨⟨cb0, cb1, cb2, cb3⟩, gcb0, gcb1, gcb2, gcb3⟩ := t_box4 q2; clear q1 q2; go_simp; first | done | with_reducible rfl)
  simp only [Act.put, nS]
  refine tkH 1 ?_ rfl ⟨F240_bxpt_20.out, F241_ppt_20.out⟩ (fun W' hW' => ?_) ?_; rotate_left; · (obtain ⟨q1, q2⟩ := hW'; obtain ⟨⟨ca0, ca1, ca2, ca3⟩, gca0, gca1, gca2, gca3⟩ := t_box4 q1; obtain ⟨⟨cb0, cb1, cb2, cb3⟩, gcb0, gcb1, gcb2, gcb3⟩ := t_box4 q2; clear q1 q2; go_simp; first | done | with_reducible rfl)
  simp only [Act.put, nS]
  refine' callH 2 (f := _) (args := _) rfl (by kernel_rfl) (by rfl) ?_ ?_; rotate_left 2; · (go_simp; first | done | with_reducible rfl | (constructor <;> with_reducible rfl))
  refine (toGraph_law (hpt.below hB20) okpt).mono ?_
  rintro e w21 ⟨v21, fp21, rfl, o21, fr21, hb21⟩
  have hB21 := below_trans hB20 hb21 hB20.size
  have F243_bxpt_21 := lH (t_box_below F240_bxpt_20.out hb21)
  clear F240_bxpt_20
  have F244_ppt_21 := lH (t_box_below F241_ppt_20.out hb21)
  clear F241_ppt_20
  have F245_xpt_21 := F242_xpt_20.below hb21
  clear F242_xpt_20
  refine ⟨_, rfl, ⟨F243_bxpt_21.out, F244_ppt_21.out⟩, ?_⟩
  simp only [Act.put, nS]
  refine' callH 3 (f := _) (args := _) rfl (by kernel_rfl) (by rfl) ?_ ?_; rotate_left 2; · (go_simp; first | done | with_reducible rfl | (constructor <;> with_reducible rfl))
  refine (eqGraph_law F245_xpt_21.rd o21.rd okpt).mono ?_
  rintro e w22 ⟨rfl, hb22⟩
  have hB22 := below_trans hB21 hb22 hB21.size
  have F246_bxpt_22 := lH (t_box_below F243_bxpt_21.out hb22)
  clear F243_bxpt_21
  have F247_ppt_22 := lH (t_box_below F244_ppt_21.out hb22)
  clear F244_ppt_21
  have F248_xpt_22 := F245_xpt_21.below hb22
  clear F245_xpt_21
  refine ⟨_, rfl, ⟨F246_bxpt_22.out, F247_ppt_22.out⟩, ?_⟩
  rw [decide_eq_true (rfl : pt = pt)]
  simp only [Act.put, nS]
  refine takeH 4 (v := .bool false) rfl (by kernel_rfl) (by kernel_rfl) (by kernel_rfl) (fun _ _ _ h => h) ⟨F246_bxpt_22.out, F247_ppt_22.out⟩ (by rfl) (fun W' hW' => ?_) ?_; · (go_simp; first | done | with_reducible rfl)
  simp only [Act.put, nS]
  refine doneH (by kernel_rfl) ?_
  have F249_bxm_14 := lH (t_box_below BX_bxm_13.out hb14)
  clear BX_bxm_13
  have F250_bxm_15 := lH (t_box_below F249_bxm_14.out hb15)
  clear F249_bxm_14
  have F251_bxm_16 := lH (t_box_below F250_bxm_15.out hb16)
  clear F250_bxm_15
  have F252_bxm_17 := lH (t_box_below F251_bxm_16.out hb17)
  clear F251_bxm_16
  have F253_bxm_18 := lH (t_box_below F252_bxm_17.out hb18)
  clear F252_bxm_17
  have F254_bxm_19 := lH (t_box_below F253_bxm_18.out hb19)
  clear F253_bxm_18
  have F255_bxm_20 := lH (t_box_below F254_bxm_19.out hb20)
  clear F254_bxm_19
  have F256_bxm_21 := lH (t_box_below F255_bxm_20.out hb21)
  clear F255_bxm_20
  have F257_bxm_22 := lH (t_box_below F256_bxm_21.out hb22)
  clear F256_bxm_21
  have F258_pm_12 := lH (t_box_below F153_pm_11.out hb12)
  clear F153_pm_11
  have F259_pm_13 := lH (t_box_below F258_pm_12.out hb13)
  clear F258_pm_12
  have F260_pm_14 := lH (t_box_below F259_pm_13.out hb14)
  clear F259_pm_13
  have F261_pm_15 := lH (t_box_below F260_pm_14.out hb15)
  clear F260_pm_14
  have F262_pm_16 := lH (t_box_below F261_pm_15.out hb16)
  clear F261_pm_15
  have F263_pm_17 := lH (t_box_below F262_pm_16.out hb17)
  clear F262_pm_16
  have F264_pm_18 := lH (t_box_below F263_pm_17.out hb18)
  clear F263_pm_17
  have F265_pm_19 := lH (t_box_below F264_pm_18.out hb19)
  clear F264_pm_18
  have F266_pm_20 := lH (t_box_below F265_pm_19.out hb20)
  clear F265_pm_19
  have F267_pm_21 := lH (t_box_below F266_pm_20.out hb21)
  clear F266_pm_20
  have F268_pm_22 := lH (t_box_below F267_pm_21.out hb22)
  clear F267_pm_21
  have F269_xm_14 := F163_xm_13.below hb14
  clear F163_xm_13
  have F270_xm_15 := F269_xm_14.below hb15
  clear F269_xm_14
  have F271_xm_16 := F270_xm_15.below hb16
  clear F270_xm_15
  have F272_xm_17 := F271_xm_16.below hb17
  clear F271_xm_16
  have F273_xm_18 := F272_xm_17.below hb18
  clear F272_xm_17
  have F274_xm_19 := F273_xm_18.below hb19
  clear F273_xm_18
  have F275_xm_20 := F274_xm_19.below hb20
  clear F274_xm_19
  have F276_xm_21 := F275_xm_20.below hb21
  clear F275_xm_20
  have F277_xm_22 := F276_xm_21.below hb22
  clear F276_xm_21
  go_wp2_with (fail)
  refine beginH (fun w' => w'.heap[(w12).heap.size]? = some (.cells #[.slice A12 n12 c12, .slice B12 m12 d12] 36) ∧ w'.heap[(w).heap.size + 1 + 1]? = some (.cells #[.slice Am nm cm, .slice Bm mm dm] 27)) (by kernel_rfl) ?_
  have hb23 : Below (w22).heap.size (w22) (w22).drew := below_drewN (Below.refl _ _) 1
  have hB23 := below_trans hB22 hb23 hB22.size
  have F279_bxm_23 := lH (t_box_below F257_bxm_22.out hb23)
  clear F257_bxm_22
  have F280_pm_23 := lH (t_box_below F268_pm_22.out hb23)
  clear F268_pm_22
  have F281_xm_23 := F277_xm_22.below hb23
  clear F277_xm_22
  refine tkH 0 ?_ rfl ⟨F279_bxm_23.out, F280_pm_23.out⟩ (fun W' hW' => ?_) ?_; rotate_left; · (obtain ⟨q1, q2⟩ := hW'; obtain ⟨⟨ca0, ca1⟩, gca0, gca1⟩ := t_box2 q1; obtain ⟨⟨cb0, cb1⟩, gcb0, gcb1⟩ := t_box2 q2; clear q1 q2; go_simp; first | done | with_reducible rfl)
  simp only [Act.put, nS]
  refine tkH 1 ?_ rfl ⟨F279_bxm_23.out, F280_pm_23.out⟩ (fun W' hW' => ?_) ?_; rotate_left; · (obtain ⟨q1, q2⟩ := hW'; obtain ⟨⟨ca0, ca1⟩, gca0, gca1⟩ := t_box2 q1; obtain ⟨⟨cb0, cb1⟩, gcb0, gcb1⟩ := t_box2 q2; clear q1 q2; go_simp; first | done | with_reducible rfl)
  simp only [Act.put, nS]
  refine' callH 2 (f := _) (args := _) rfl (by kernel_rfl) (by rfl) ?_ ?_; rotate_left 2; · (go_simp; first | done | with_reducible rfl | (constructor <;> with_reducible rfl))
  refine (toMatch_law (hm.below hB23) okm).mono ?_
  rintro e w24 ⟨v24, fp24, rfl, o24, fr24, hb24⟩
  have hB24 := below_trans hB23 hb24 hB23.size
  have F282_bxm_24 := lH (t_box_below F279_bxm_23.out hb24)
  clear F279_bxm_23
  have F283_pm_24 := lH (t_box_below F280_pm_23.out hb24)
  clear F280_pm_23
  have F284_xm_24 := F281_xm_23.below hb24
  clear F281_xm_23
  refine ⟨_, rfl, ⟨F282_bxm_24.out, F283_pm_24.out⟩, ?_⟩
  simp only [Act.put, nS]
  refine' callH 3 (f := _) (args := _) rfl (by kernel_rfl) (by rfl) ?_ ?_; rotate_left 2; · (go_simp; first | done | with_reducible rfl | (constructor <;> with_reducible rfl))
  refine (eqMatch_law F284_xm_24.rd o24.rd okm).mono ?_
  rintro e w25 ⟨rfl, hb25⟩
  have hB25 := below_trans hB24 hb25 hB24.size
  have F285_bxm_25 := lH (t_box_below F282_bxm_24.out hb25)
  clear F282_bxm_24
  have F286_pm_25 := lH (t_box_below F283_pm_24.out hb25)
  clear F283_pm_24
  have F287_xm_25 := F284_xm_24.below hb25
  clear F284_xm_24
  refine ⟨_, rfl, ⟨F285_bxm_25.out, F286_pm_25.out⟩, ?_⟩
  rw [decide_eq_true (rfl : m = m)]
  simp only [Act.put, nS]
  refine takeH 4 (v := .bool false) rfl (by kernel_rfl) (by kernel_rfl) (by kernel_rfl) (fun _ _ _ h => h) ⟨F285_bxm_25.out, F286_pm_25.out⟩ (by rfl) (fun W' hW' => ?_) ?_; · (go_simp; first | done | with_reducible rfl)
  simp only [Act.put, nS]
  refine doneH (by kernel_rfl) ?_
  have F288_xg_20 := F216_xg_19.below hb20
  clear F216_xg_19
  have F289_xg_21 := F288_xg_20.below hb21
  clear F288_xg_20
  have F290_xg_22 := F289_xg_21.below hb22
  clear F289_xg_21
  have F291_xg_23 := F290_xg_22.below hb23
  clear F290_xg_22
  have F292_xg_24 := F291_xg_23.below hb24
  clear F291_xg_23
  have F293_xg_25 := F292_xg_24.below hb25
  clear F292_xg_24
  have F294_bxg_20 := lH (t_box_below F214_bxg_19.out hb20)
  clear F214_bxg_19
  have F295_bxg_21 := lH (t_box_below F294_bxg_20.out hb21)
  clear F294_bxg_20
  have F296_bxg_22 := lH (t_box_below F295_bxg_21.out hb22)
  clear F295_bxg_21
  have F297_bxg_23 := lH (t_box_below F296_bxg_22.out hb23)
  clear F296_bxg_22
  have F298_bxg_24 := lH (t_box_below F297_bxg_23.out hb24)
  clear F297_bxg_23
  have F299_bxg_25 := lH (t_box_below F298_bxg_24.out hb25)
  clear F298_bxg_24
  obtain ⟨⟨c300_0, c300_1, c300_2, c300_3⟩, f300_0, f300_1, f300_2, f300_3⟩ := t_box4 F299_bxg_25.out
  go_wp2_with (fail)
  refine (markGraph_law (1) F293_xg_25 (by omega) okg (by have := okg.2.2; have := okpt.2.2; have := okm.2.2; constructor <;> omega)).mono ?_
  rintro e w26 ⟨rfl, he26, hk26⟩
  have hB26 := below_keeps hB25 hk26 hB25.size (fun b hb => Nat.le_trans hB7.size (fr8 b hb))
  clear c300_0 c300_1 c300_2 c300_3 f300_0 f300_1 f300_2 f300_3
  have F301_xpt_23 := F248_xpt_22.below hb23
  clear F248_xpt_22
  have F302_xpt_24 := F301_xpt_23.below hb24
  clear F301_xpt_23
  have F303_xpt_25 := F302_xpt_24.below hb25
  clear F302_xpt_24
  have F304_xpt_26 := F303_xpt_25.keeps hk26 (apart_of' lt_xg (fr10.mono (Nat.le_trans (Nat.le_refl _) hb9.size)))
  clear F303_xpt_25
  have F305_bxpt_23 := lH (t_box_below F246_bxpt_22.out hb23)
  clear F246_bxpt_22
  have F306_bxpt_24 := lH (t_box_below F305_bxpt_23.out hb24)
  clear F305_bxpt_23
  have F307_bxpt_25 := lH (t_box_below F306_bxpt_24.out hb25)
  clear F306_bxpt_24
  have F308_bxpt_26 := lH (t_box_keeps F307_bxpt_25.out hk26 (fun hh => (apart_of' lt_xg (fr_bxpt.mono (Nat.le_trans (Nat.le_trans (Nat.le_refl _) hb9.size) hb10.size))) _ (List.mem_singleton.2 rfl) hh))
  clear F307_bxpt_25
  obtain ⟨⟨c309_0, c309_1, c309_2, c309_3⟩, f309_0, f309_1, f309_2, f309_3⟩ := t_box4 F308_bxpt_26.out
  go_wp2_with (fail)
  refine (markGraph_law (1 + cntG (g)) F304_xpt_26 (by omega) okpt (by have := okg.2.2; have := okpt.2.2; have := okm.2.2; constructor <;> omega)).mono ?_
  rintro e w27 ⟨rfl, he27, hk27⟩
  have hB27 := below_keeps hB26 hk27 hB26.size (fun b hb => Nat.le_trans hB9.size (fr10 b hb))
  clear c309_0 c309_1 c309_2 c309_3 f309_0 f309_1 f309_2 f309_3
  have F310_xm_26 := F287_xm_25.keeps hk26 (apart_of' lt_xg (fr12.mono (Nat.le_trans (Nat.le_trans (Nat.le_trans (Nat.le_refl _) hb9.size) hb10.size) hb11.size)))
  clear F287_xm_25
  have F311_xm_27 := F310_xm_26.keeps hk27 (apart_of' lt_xpt (fr12.mono (Nat.le_trans (Nat.le_refl _) hb11.size)))
  clear F310_xm_26
  have F312_bxm_26 := lH (t_box_keeps F285_bxm_25.out hk26 (fun hh => (apart_of' lt_xg (fr_bxm.mono (Nat.le_trans (Nat.le_trans (Nat.le_trans (Nat.le_trans (Nat.le_refl _) hb9.size) hb10.size) hb11.size) hb12.size))) _ (List.mem_singleton.2 rfl) hh))
  clear F285_bxm_25
  have F313_bxm_27 := lH (t_box_keeps F312_bxm_26.out hk27 (fun hh => (apart_of' lt_xpt (fr_bxm.mono (Nat.le_trans (Nat.le_trans (Nat.le_refl _) hb11.size) hb12.size))) _ (List.mem_singleton.2 rfl) hh))
  clear F312_bxm_26
  obtain ⟨⟨c314_0, c314_1⟩, f314_0, f314_1⟩ := t_box2 F313_bxm_27.out
  go_wp2_with (fail)
  refine (markMatch_law (1 + cntG (g) + cntG (pt)) F311_xm_27 (by omega) okm (by have := okg.2.2; have := okpt.2.2; have := okm.2.2; constructor <;> omega)).mono ?_
  rintro e w28 ⟨rfl, he28, hk28⟩
  have hB28 := below_keeps hB27 hk28 hB27.size (fun b hb => Nat.le_trans hB11.size (fr12 b hb))
  clear c314_0 c314_1 f314_0 f314_1
  have F315_G0_16 := F173_G0_15.below hb16
  clear F173_G0_15
  have F316_G0_17 := F315_G0_16.below hb17
  clear F315_G0_16
  have F317_G0_18 := F316_G0_17.below hb18
  clear F316_G0_17
  have F318_G0_19 := F317_G0_18.below hb19
  clear F317_G0_18
  have F319_G0_20 := F318_G0_19.below hb20
  clear F318_G0_19
  have F320_G0_21 := F319_G0_20.below hb21
  clear F319_G0_20
  have F321_G0_22 := F320_G0_21.below hb22
  clear F320_G0_21
  have F322_G0_23 := F321_G0_22.below hb23
  clear F321_G0_22
  have F323_G0_24 := F322_G0_23.below hb24
  clear F322_G0_23
  have F324_G0_25 := F323_G0_24.below hb25
  clear F323_G0_24
  have F325_G0_26 := F324_G0_25.keeps hk26 (apart_of' lt_xg (fr14_0.mono (Nat.le_trans (Nat.le_trans (Nat.le_trans (Nat.le_trans (Nat.le_trans (Nat.le_refl _) hb9.size) hb10.size) hb11.size) hb12.size) hb13.size)))
  clear F324_G0_25
  have F326_G0_27 := F325_G0_26.keeps hk27 (apart_of' lt_xpt (fr14_0.mono (Nat.le_trans (Nat.le_trans (Nat.le_trans (Nat.le_refl _) hb11.size) hb12.size) hb13.size)))
  clear F325_G0_26
  have F327_G0_28 := F326_G0_27.keeps hk28 (apart_of' lt_xm (fr14_0.mono (Nat.le_trans (Nat.le_refl _) hb13.size)))
  clear F326_G0_27
  have F328_W0_16 := F181_W0_15.below hb16
  clear F181_W0_15
  have F329_W0_17 := F328_W0_16.below hb17
  clear F328_W0_16
  have F330_W0_18 := F329_W0_17.below hb18
  clear F329_W0_17
  have F331_W0_19 := F330_W0_18.below hb19
  clear F330_W0_18
  have F332_W0_20 := F331_W0_19.below hb20
  clear F331_W0_19
  have F333_W0_21 := F332_W0_20.below hb21
  clear F332_W0_20
  have F334_W0_22 := F333_W0_21.below hb22
  clear F333_W0_21
  have F335_W0_23 := F334_W0_22.below hb23
  clear F334_W0_22
  have F336_W0_24 := F335_W0_23.below hb24
  clear F335_W0_23
  have F337_W0_25 := F336_W0_24.below hb25
  clear F336_W0_24
  have F338_W0_26 := F337_W0_25.keeps hk26 (apart_of lt_W0 (fr8))
  clear F337_W0_25
  have F339_W0_27 := F338_W0_26.keeps hk27 (apart_of lt_W0 (fr10.mono (Nat.le_trans (Nat.le_trans (Nat.le_refl _) hb8.size) hb9.size)))
  clear F338_W0_26
  have F340_W0_28 := F339_W0_27.keeps hk28 (apart_of lt_W0 (fr12.mono (Nat.le_trans (Nat.le_trans (Nat.le_trans (Nat.le_trans (Nat.le_refl _) hb8.size) hb9.size) hb10.size) hb11.size)))
  clear F339_W0_27
  have F341_bG0_16 := lH (t_box_below BX_bG0_15.out hb16)
  clear BX_bG0_15
  have F342_bG0_17 := lH (t_box_below F341_bG0_16.out hb17)
  clear F341_bG0_16
  have F343_bG0_18 := lH (t_box_below F342_bG0_17.out hb18)
  clear F342_bG0_17
  have F344_bG0_19 := lH (t_box_below F343_bG0_18.out hb19)
  clear F343_bG0_18
  have F345_bG0_20 := lH (t_box_below F344_bG0_19.out hb20)
  clear F344_bG0_19
  have F346_bG0_21 := lH (t_box_below F345_bG0_20.out hb21)
  clear F345_bG0_20
  have F347_bG0_22 := lH (t_box_below F346_bG0_21.out hb22)
  clear F346_bG0_21
  have F348_bG0_23 := lH (t_box_below F347_bG0_22.out hb23)
  clear F347_bG0_22
  have F349_bG0_24 := lH (t_box_below F348_bG0_23.out hb24)
  clear F348_bG0_23
  have F350_bG0_25 := lH (t_box_below F349_bG0_24.out hb25)
  clear F349_bG0_24
  have F351_bG0_26 := lH (t_box_keeps F350_bG0_25.out hk26 (fun hh => (apart_of' lt_xg (fr_bG0.mono (Nat.le_trans (Nat.le_trans (Nat.le_trans (Nat.le_trans (Nat.le_trans (Nat.le_trans (Nat.le_refl _) hb9.size) hb10.size) hb11.size) hb12.size) hb13.size) hb14.size))) _ (List.mem_singleton.2 rfl) hh))
  clear F350_bG0_25
  have F352_bG0_27 := lH (t_box_keeps F351_bG0_26.out hk27 (fun hh => (apart_of' lt_xpt (fr_bG0.mono (Nat.le_trans (Nat.le_trans (Nat.le_trans (Nat.le_trans (Nat.le_refl _) hb11.size) hb12.size) hb13.size) hb14.size))) _ (List.mem_singleton.2 rfl) hh))
  clear F351_bG0_26
  have F353_bG0_28 := lH (t_box_keeps F352_bG0_27.out hk28 (fun hh => (apart_of' lt_xm (fr_bG0.mono (Nat.le_trans (Nat.le_trans (Nat.le_refl _) hb13.size) hb14.size))) _ (List.mem_singleton.2 rfl) hh))
  clear F352_bG0_27
  obtain ⟨⟨c354_0, c354_1, c354_2, c354_3⟩, f354_0, f354_1, f354_2, f354_3⟩ := t_box4 F353_bG0_28.out
  have F355_bW0_16 := lH (t_box_below F190_bW0_15.out hb16)
  clear F190_bW0_15
  have F356_bW0_17 := lH (t_box_below F355_bW0_16.out hb17)
  clear F355_bW0_16
  have F357_bW0_18 := lH (t_box_below F356_bW0_17.out hb18)
  clear F356_bW0_17
  have F358_bW0_19 := lH (t_box_below F357_bW0_18.out hb19)
  clear F357_bW0_18
  have F359_bW0_20 := lH (t_box_below F358_bW0_19.out hb20)
  clear F358_bW0_19
  have F360_bW0_21 := lH (t_box_below F359_bW0_20.out hb21)
  clear F359_bW0_20
  have F361_bW0_22 := lH (t_box_below F360_bW0_21.out hb22)
  clear F360_bW0_21
  have F362_bW0_23 := lH (t_box_below F361_bW0_22.out hb23)
  clear F361_bW0_22
  have F363_bW0_24 := lH (t_box_below F362_bW0_23.out hb24)
  clear F362_bW0_23
  have F364_bW0_25 := lH (t_box_below F363_bW0_24.out hb25)
  clear F363_bW0_24
  have F365_bW0_26 := lH (t_box_keeps F364_bW0_25.out hk26 (fun hh => (apart_of lt_bW0 (fr8)) _ (List.mem_singleton.2 rfl) hh))
  clear F364_bW0_25
  have F366_bW0_27 := lH (t_box_keeps F365_bW0_26.out hk27 (fun hh => (apart_of lt_bW0 (fr10.mono (Nat.le_trans (Nat.le_trans (Nat.le_refl _) hb8.size) hb9.size))) _ (List.mem_singleton.2 rfl) hh))
  clear F365_bW0_26
  have F367_bW0_28 := lH (t_box_keeps F366_bW0_27.out hk28 (fun hh => (apart_of lt_bW0 (fr12.mono (Nat.le_trans (Nat.le_trans (Nat.le_trans (Nat.le_trans (Nat.le_refl _) hb8.size) hb9.size) hb10.size) hb11.size))) _ (List.mem_singleton.2 rfl) hh))
  clear F366_bW0_27
  obtain ⟨⟨c368_0, c368_1, c368_2, c368_3⟩, f368_0, f368_1, f368_2, f368_3⟩ := t_box4 F367_bW0_28.out
  go_wp2_with (fail)
  refine (eqGraph_law F327_G0_28.rd F340_W0_28.rd (hokR okpt)).mono ?_
  rintro e w29 ⟨rfl, hb29⟩
  have hB29 := below_trans hB28 hb29 hB28.size
  clear c354_0 c354_1 c354_2 c354_3 f354_0 f354_1 f354_2 f354_3 c368_0 c368_1 c368_2 c368_3 f368_0 f368_1 f368_2 f368_3
  rw [decide_eq_true (rfl : R.1 = R.1)]
  have F369_G0_29 := F327_G0_28.below hb29
  clear F327_G0_28
  have F370_bG0_29 := lH (t_box_below F353_bG0_28.out hb29)
  clear F353_bG0_28
  obtain ⟨⟨c371_0, c371_1, c371_2, c371_3⟩, f371_0, f371_1, f371_2, f371_3⟩ := t_box4 F370_bG0_29.out
  go_wp2_with (fail)
  refine (markGraph_law (1) F369_G0_29 (by omega) (hokR okpt) (by have := (hokR okpt).2.2; constructor <;> omega)).mono ?_
  rintro e w30 ⟨rfl, he30, hk30⟩
  have hB30 := below_keeps hB29 hk30 hB29.size (fun b hb => Nat.le_trans hB13.size (fr14_0 b hb))
  clear c371_0 c371_1 c371_2 c371_3 f371_0 f371_1 f371_2 f371_3
  have F372_bG0_30 := lH (t_box_keeps F370_bG0_29.out hk30 (fun hh => (apart_of' lt_G0 (fr_bG0)) _ (List.mem_singleton.2 rfl) hh))
  clear F370_bG0_29
  obtain ⟨⟨c373_0, c373_1, c373_2, c373_3⟩, f373_0, f373_1, f373_2, f373_3⟩ := t_box4 F372_bG0_30.out
  go_wp2_with (fail)
  refine (heldGraph_law he30 (by omega) (hokR okpt) (by have := (hokR okpt).2.2; constructor <;> omega)).mono ?_
  rintro e w31 ⟨rfl, hb31⟩
  have hB31 := below_trans hB30 hb31 hB30.size
  clear c373_0 c373_1 c373_2 c373_3 f373_0 f373_1 f373_2 f373_3
  have F374_pg_20 := lH (t_box_below F215_pg_19.out hb20)
  clear F215_pg_19
  have F375_pg_21 := lH (t_box_below F374_pg_20.out hb21)
  clear F374_pg_20
  have F376_pg_22 := lH (t_box_below F375_pg_21.out hb22)
  clear F375_pg_21
  have F377_pg_23 := lH (t_box_below F376_pg_22.out hb23)
  clear F376_pg_22
  have F378_pg_24 := lH (t_box_below F377_pg_23.out hb24)
  clear F377_pg_23
  have F379_pg_25 := lH (t_box_below F378_pg_24.out hb25)
  clear F378_pg_24
  have F380_pg_26 := lH (t_box_keeps F379_pg_25.out hk26 (fun hh => (apart_of lt_pg (fr8.mono (Nat.le_trans (Nat.le_trans (Nat.le_trans (Nat.le_trans (Nat.le_trans (Nat.le_trans (Nat.le_refl _) hb2.size) hb3.size) hb4.size) hb5.size) hb6.size) hb34c.size))) _ (List.mem_singleton.2 rfl) hh))
  clear F379_pg_25
  have F381_pg_27 := lH (t_box_keeps F380_pg_26.out hk27 (fun hh => (apart_of lt_pg (fr10.mono (Nat.le_trans (Nat.le_trans (Nat.le_trans (Nat.le_trans (Nat.le_trans (Nat.le_trans (Nat.le_trans (Nat.le_trans (Nat.le_refl _) hb2.size) hb3.size) hb4.size) hb5.size) hb6.size) hb34c.size) hb8.size) hb9.size))) _ (List.mem_singleton.2 rfl) hh))
  clear F380_pg_26
  have F382_pg_28 := lH (t_box_keeps F381_pg_27.out hk28 (fun hh => (apart_of lt_pg (fr12.mono (Nat.le_trans (Nat.le_trans (Nat.le_trans (Nat.le_trans (Nat.le_trans (Nat.le_trans (Nat.le_trans (Nat.le_trans (Nat.le_trans (Nat.le_trans (Nat.le_refl _) hb2.size) hb3.size) hb4.size) hb5.size) hb6.size) hb34c.size) hb8.size) hb9.size) hb10.size) hb11.size))) _ (List.mem_singleton.2 rfl) hh))
  clear F381_pg_27
  have F383_pg_29 := lH (t_box_below F382_pg_28.out hb29)
  clear F382_pg_28
  have F384_pg_30 := lH (t_box_keeps F383_pg_29.out hk30 (fun hh => (apart_of lt_pg (fr14_0.mono (Nat.le_trans (Nat.le_trans (Nat.le_trans (Nat.le_trans (Nat.le_trans (Nat.le_trans (Nat.le_trans (Nat.le_trans (Nat.le_trans (Nat.le_trans (Nat.le_trans (Nat.le_trans (Nat.le_refl _) hb2.size) hb3.size) hb4.size) hb5.size) hb6.size) hb34c.size) hb8.size) hb9.size) hb10.size) hb11.size) hb12.size) hb13.size))) _ (List.mem_singleton.2 rfl) hh))
  clear F383_pg_29
  have F385_pg_31 := lH (t_box_below F384_pg_30.out hb31)
  clear F384_pg_30
  have F386_ppt_23 := lH (t_box_below F247_ppt_22.out hb23)
  clear F247_ppt_22
  have F387_ppt_24 := lH (t_box_below F386_ppt_23.out hb24)
  clear F386_ppt_23
  have F388_ppt_25 := lH (t_box_below F387_ppt_24.out hb25)
  clear F387_ppt_24
  have F389_ppt_26 := lH (t_box_keeps F388_ppt_25.out hk26 (fun hh => (apart_of lt_ppt (fr8.mono (Nat.le_trans (Nat.le_trans (Nat.le_trans (Nat.le_trans (Nat.le_trans (Nat.le_refl _) hb3.size) hb4.size) hb5.size) hb6.size) hb34c.size))) _ (List.mem_singleton.2 rfl) hh))
  clear F388_ppt_25
  have F390_ppt_27 := lH (t_box_keeps F389_ppt_26.out hk27 (fun hh => (apart_of lt_ppt (fr10.mono (Nat.le_trans (Nat.le_trans (Nat.le_trans (Nat.le_trans (Nat.le_trans (Nat.le_trans (Nat.le_trans (Nat.le_refl _) hb3.size) hb4.size) hb5.size) hb6.size) hb34c.size) hb8.size) hb9.size))) _ (List.mem_singleton.2 rfl) hh))
  clear F389_ppt_26
  have F391_ppt_28 := lH (t_box_keeps F390_ppt_27.out hk28 (fun hh => (apart_of lt_ppt (fr12.mono (Nat.le_trans (Nat.le_trans (Nat.le_trans (Nat.le_trans (Nat.le_trans (Nat.le_trans (Nat.le_trans (Nat.le_trans (Nat.le_trans (Nat.le_refl _) hb3.size) hb4.size) hb5.size) hb6.size) hb34c.size) hb8.size) hb9.size) hb10.size) hb11.size))) _ (List.mem_singleton.2 rfl) hh))
  clear F390_ppt_27
  have F392_ppt_29 := lH (t_box_below F391_ppt_28.out hb29)
  clear F391_ppt_28
  have F393_ppt_30 := lH (t_box_keeps F392_ppt_29.out hk30 (fun hh => (apart_of lt_ppt (fr14_0.mono (Nat.le_trans (Nat.le_trans (Nat.le_trans (Nat.le_trans (Nat.le_trans (Nat.le_trans (Nat.le_trans (Nat.le_trans (Nat.le_trans (Nat.le_trans (Nat.le_trans (Nat.le_refl _) hb3.size) hb4.size) hb5.size) hb6.size) hb34c.size) hb8.size) hb9.size) hb10.size) hb11.size) hb12.size) hb13.size))) _ (List.mem_singleton.2 rfl) hh))
  clear F392_ppt_29
  have F394_ppt_31 := lH (t_box_below F393_ppt_30.out hb31)
  clear F393_ppt_30
  have F395_pm_26 := lH (t_box_keeps F286_pm_25.out hk26 (fun hh => (apart_of lt_pm (fr8.mono (Nat.le_trans (Nat.le_trans (Nat.le_trans (Nat.le_trans (Nat.le_refl _) hb4.size) hb5.size) hb6.size) hb34c.size))) _ (List.mem_singleton.2 rfl) hh))
  clear F286_pm_25
  have F396_pm_27 := lH (t_box_keeps F395_pm_26.out hk27 (fun hh => (apart_of lt_pm (fr10.mono (Nat.le_trans (Nat.le_trans (Nat.le_trans (Nat.le_trans (Nat.le_trans (Nat.le_trans (Nat.le_refl _) hb4.size) hb5.size) hb6.size) hb34c.size) hb8.size) hb9.size))) _ (List.mem_singleton.2 rfl) hh))
  clear F395_pm_26
  have F397_pm_28 := lH (t_box_keeps F396_pm_27.out hk28 (fun hh => (apart_of lt_pm (fr12.mono (Nat.le_trans (Nat.le_trans (Nat.le_trans (Nat.le_trans (Nat.le_trans (Nat.le_trans (Nat.le_trans (Nat.le_trans (Nat.le_refl _) hb4.size) hb5.size) hb6.size) hb34c.size) hb8.size) hb9.size) hb10.size) hb11.size))) _ (List.mem_singleton.2 rfl) hh))
  clear F396_pm_27
  have F398_pm_29 := lH (t_box_below F397_pm_28.out hb29)
  clear F397_pm_28
  have F399_pm_30 := lH (t_box_keeps F398_pm_29.out hk30 (fun hh => (apart_of lt_pm (fr14_0.mono (Nat.le_trans (Nat.le_trans (Nat.le_trans (Nat.le_trans (Nat.le_trans (Nat.le_trans (Nat.le_trans (Nat.le_trans (Nat.le_trans (Nat.le_trans (Nat.le_refl _) hb4.size) hb5.size) hb6.size) hb34c.size) hb8.size) hb9.size) hb10.size) hb11.size) hb12.size) hb13.size))) _ (List.mem_singleton.2 rfl) hh))
  clear F398_pm_29
  have F400_pm_31 := lH (t_box_below F399_pm_30.out hb31)
  clear F399_pm_30
  go_wp2_with (fail)
  go_cut [18, 19] (fun sb sf wx => ∃ (B401 nX401 cX401 mX401 dX401 kX401 eX401 : Nat) (AX401 BX401 CX401 : Option Addr) (fpx401 : List Nat), sb = .pointer (some ⟨B401, 0, none⟩) ∧ sf = .bool R.2 ∧ wx.heap[B401]? = some (.cells #[.int .i64 (R.1).1, .slice AX401 nX401 cX401, .slice BX401 mX401 dX401, .slice CX401 kX401 eX401] 32) ∧ OwGr wx (.agg #[.int .i64 (R.1).1, .slice AX401 nX401 cX401, .slice BX401 mX401 dX401, .slice CX401 kX401 eX401]) (R.1) fpx401 ∧ FreshL (w31).heap.size fpx401 ∧ (w31).heap.size ≤ B401 ∧ Below (w31).heap.size (w31) wx)
  case first =>
   refine beginH (fun w' => w'.heap[(w).heap.size]? = some (.cells #[.int .i64 (g).1, .slice Ag ng cg, .slice Bg mg dg, .slice Cg kg eg] 25) ∧ w'.heap[(w).heap.size + 1]? = some (.cells #[.int .i64 (pt).1, .slice Apt npt cpt, .slice Bpt mpt dpt, .slice Cpt kpt ept] 25) ∧ w'.heap[(w).heap.size + 1 + 1]? = some (.cells #[.slice Am nm cm, .slice Bm mm dm] 27)) (by kernel_rfl) ?_
   have hb32 : Below (w31).heap.size (w31) (w31).drew := below_drewN (Below.refl _ _) 1
   have hB32 := below_trans hB31 hb32 hB31.size
   have F402_pg_32 := lH (t_box_below F385_pg_31.out hb32)
   clear F385_pg_31
   have F403_ppt_32 := lH (t_box_below F394_ppt_31.out hb32)
   clear F394_ppt_31
   have F404_pm_32 := lH (t_box_below F400_pm_31.out hb32)
   clear F400_pm_31
   refine tkH 0 ?_ rfl ⟨F402_pg_32.out, F403_ppt_32.out, F404_pm_32.out⟩ (fun W' hW' => ?_) ?_; rotate_left; · (obtain ⟨q0, q1, q2⟩ := hW'; obtain ⟨⟨ca0_0, ca0_1, ca0_2, ca0_3⟩, ga0_0, ga0_1, ga0_2, ga0_3⟩ := t_box4 q0; obtain ⟨⟨ca1_0, ca1_1, ca1_2, ca1_3⟩, ga1_0, ga1_1, ga1_2, ga1_3⟩ := t_box4 q1; obtain ⟨⟨ca2_0, ca2_1⟩, ga2_0, ga2_1⟩ := t_box2 q2; clear q0 q1 q2; go_simp; first | done | with_reducible rfl)
   simp only [Act.put, nS]
   refine tkH 2 ?_ rfl ⟨F402_pg_32.out, F403_ppt_32.out, F404_pm_32.out⟩ (fun W' hW' => ?_) ?_; rotate_left; · (obtain ⟨q0, q1, q2⟩ := hW'; obtain ⟨⟨ca0_0, ca0_1, ca0_2, ca0_3⟩, ga0_0, ga0_1, ga0_2, ga0_3⟩ := t_box4 q0; obtain ⟨⟨ca1_0, ca1_1, ca1_2, ca1_3⟩, ga1_0, ga1_1, ga1_2, ga1_3⟩ := t_box4 q1; obtain ⟨⟨ca2_0, ca2_1⟩, ga2_0, ga2_1⟩ := t_box2 q2; clear q0 q1 q2; go_simp; first | done | with_reducible rfl)
   simp only [Act.put, nS]
   refine tkH 4 ?_ rfl ⟨F402_pg_32.out, F403_ppt_32.out, F404_pm_32.out⟩ (fun W' hW' => ?_) ?_; rotate_left; · (obtain ⟨q0, q1, q2⟩ := hW'; obtain ⟨⟨ca0_0, ca0_1, ca0_2, ca0_3⟩, ga0_0, ga0_1, ga0_2, ga0_3⟩ := t_box4 q0; obtain ⟨⟨ca1_0, ca1_1, ca1_2, ca1_3⟩, ga1_0, ga1_1, ga1_2, ga1_3⟩ := t_box4 q1; obtain ⟨⟨ca2_0, ca2_1⟩, ga2_0, ga2_1⟩ := t_box2 q2; clear q0 q1 q2; go_simp; first | done | with_reducible rfl)
   simp only [Act.put, nS]
   refine callOrH 1 10 (f := ?f405) (args := ?args405) (vj := ?vj405) (wj := ?wj405) rfl rfl (by kernel_rfl) (by rfl) (by rfl) ?hrun405 ?hrunj405 ?h1405 ?hSj405 ?h2405
   case hrun405 => (go_simp; first | done | with_reducible rfl | (constructor <;> with_reducible rfl))
   case hrunj405 => (go_simp; first | done | with_reducible rfl | (constructor <;> with_reducible rfl))
   case hSj405 => exact ⟨(t_box_below F402_pg_32.out (t_below_alloc _ _)), (t_box_below F403_ppt_32.out (t_below_alloc _ _)), (t_box_below F404_pm_32.out (t_below_alloc _ _))⟩
   case h1405 =>
    refine (toGraph_law (hg.below hB32) okg).mono ?_
    rintro e w33 ⟨v33, fp33, rfl, o33, fr33, hb33⟩
    have hB33 := below_trans hB32 hb33 hB32.size
    have F406_pg_33 := lH (t_box_below F402_pg_32.out hb33)
    clear F402_pg_32
    have F407_ppt_33 := lH (t_box_below F403_ppt_32.out hb33)
    clear F403_ppt_32
    have F408_pm_33 := lH (t_box_below F404_pm_32.out hb33)
    clear F404_pm_32
    refine ⟨_, rfl, ⟨F406_pg_33.out, F407_ppt_33.out, F408_pm_33.out⟩, ?_⟩
    obtain ⟨A33, n33, c33, B33, m33, d33, C33, k33, e33, rfl⟩ := o33.shape
    have lt_yg := o33.lt
    simp only [Act.put, nS]
    refine callOrH 3 10 (f := ?f409) (args := ?args409) (vj := ?vj409) (wj := ?wj409) rfl rfl (by kernel_rfl) (by rfl) (by rfl) ?hrun409 ?hrunj409 ?h1409 ?hSj409 ?h2409
    case hrun409 => (go_simp; first | done | with_reducible rfl | (constructor <;> with_reducible rfl))
    case hrunj409 => (go_simp; first | done | with_reducible rfl | (constructor <;> with_reducible rfl))
    case hSj409 => exact ⟨(t_box_below F406_pg_33.out (t_below_alloc _ _)), (t_box_below F407_ppt_33.out (t_below_alloc _ _)), (t_box_below F408_pm_33.out (t_below_alloc _ _))⟩
    case h1409 =>
     refine (toGraph_law (hpt.below hB33) okpt).mono ?_
     rintro e w34 ⟨v34, fp34, rfl, o34, fr34, hb34⟩
     have hB34 := below_trans hB33 hb34 hB33.size
     have F410_pg_34 := lH (t_box_below F406_pg_33.out hb34)
     clear F406_pg_33
     have F411_ppt_34 := lH (t_box_below F407_ppt_33.out hb34)
     clear F407_ppt_33
     have F412_pm_34 := lH (t_box_below F408_pm_33.out hb34)
     clear F408_pm_33
     refine ⟨_, rfl, ⟨F410_pg_34.out, F411_ppt_34.out, F412_pm_34.out⟩, ?_⟩
     obtain ⟨A34, n34, c34, B34, m34, d34, C34, k34, e34, rfl⟩ := o34.shape
     have lt_ypt := o34.lt
     simp only [Act.put, nS]
     refine callOrH 5 10 (f := ?f413) (args := ?args413) (vj := ?vj413) (wj := ?wj413) rfl rfl (by kernel_rfl) (by rfl) (by rfl) ?hrun413 ?hrunj413 ?h1413 ?hSj413 ?h2413
     case hrun413 => (go_simp; first | done | with_reducible rfl | (constructor <;> with_reducible rfl))
     case hrunj413 => (go_simp; first | done | with_reducible rfl | (constructor <;> with_reducible rfl))
     case hSj413 => exact ⟨(t_box_below F410_pg_34.out (t_below_alloc _ _)), (t_box_below F411_ppt_34.out (t_below_alloc _ _)), (t_box_below F412_pm_34.out (t_below_alloc _ _))⟩
     case h1413 =>
      refine (toMatch_law (hm.below hB34) okm).mono ?_
      rintro e w35 ⟨v35, fp35, rfl, o35, fr35, hb35⟩
      have hB35 := below_trans hB34 hb35 hB34.size
      have F414_pg_35 := lH (t_box_below F410_pg_34.out hb35)
      clear F410_pg_34
      have F415_ppt_35 := lH (t_box_below F411_ppt_34.out hb35)
      clear F411_ppt_34
      have F416_pm_35 := lH (t_box_below F412_pm_34.out hb35)
      clear F412_pm_34
      refine ⟨_, rfl, ⟨F414_pg_35.out, F415_ppt_35.out, F416_pm_35.out⟩, ?_⟩
      obtain ⟨A35, n35, c35, B35, m35, d35, rfl⟩ := o35.shape
      have lt_ym := o35.lt
      simp only [Act.put, nS]
      refine callOrH 6 10 (f := ?f417) (args := ?args417) (vj := ?vj417) (wj := ?wj417) rfl rfl (by kernel_rfl) (by rfl) (by rfl) ?hrun417 ?hrunj417 ?h1417 ?hSj417 ?h2417
      case hrun417 => (go_simp; first | done | with_reducible rfl | (constructor <;> with_reducible rfl))
      case hrunj417 => (go_simp; first | done | with_reducible rfl | (constructor <;> with_reducible rfl))
      case hSj417 => exact ⟨(t_box_below F414_pg_35.out (t_below_alloc _ _)), (t_box_below F415_ppt_35.out (t_below_alloc _ _)), (t_box_below F416_pm_35.out (t_below_alloc _ _))⟩
      case h1417 =>
       have F418_yg_34 := o33.below hb34
       clear o33
       have F419_yg_35 := F418_yg_34.below hb35
       clear F418_yg_34
       have F420_ypt_35 := o34.below hb35
       clear o34
       refine (iLaw_h.out _ _ _ _ _ _ _  F419_yg_35 F420_ypt_35 o35 okg okpt okm).mono ?_
       rintro e w36 ⟨v36_0, fp36_0, rfl, o36r0, fr36_0, hb36⟩
       have hB36 := below_trans hB35 hb36 hB35.size
       have F421_pg_36 := lH (t_box_below F414_pg_35.out hb36)
       clear F414_pg_35
       have F422_ppt_36 := lH (t_box_below F415_ppt_35.out hb36)
       clear F415_ppt_35
       have F423_pm_36 := lH (t_box_below F416_pm_35.out hb36)
       clear F416_pm_35
       refine ⟨_, rfl, ⟨F421_pg_36.out, F422_ppt_36.out, F423_pm_36.out⟩, ?_⟩
       obtain ⟨A36_0, n36_0, c36_0, B36_0, m36_0, d36_0, C36_0, k36_0, e36_0, rfl⟩ := o36r0.shape
       simp only [Act.put, nS]
       refine tkH 7 ?_ rfl ⟨F421_pg_36.out, F422_ppt_36.out, F423_pm_36.out⟩ (fun W' hW' => ?_) ?_; rotate_left; · (obtain ⟨q0, q1, q2⟩ := hW'; obtain ⟨⟨ca0_0, ca0_1, ca0_2, ca0_3⟩, ga0_0, ga0_1, ga0_2, ga0_3⟩ := t_box4 q0; obtain ⟨⟨ca1_0, ca1_1, ca1_2, ca1_3⟩, ga1_0, ga1_1, ga1_2, ga1_3⟩ := t_box4 q1; obtain ⟨⟨ca2_0, ca2_1⟩, ga2_0, ga2_1⟩ := t_box2 q2; clear q0 q1 q2; go_simp; first | done | with_reducible rfl)
       simp only [Act.put, nS]
       refine tkH 8 ?_ rfl ⟨F421_pg_36.out, F422_ppt_36.out, F423_pm_36.out⟩ (fun W' hW' => ?_) ?_; rotate_left; · (obtain ⟨q0, q1, q2⟩ := hW'; obtain ⟨⟨ca0_0, ca0_1, ca0_2, ca0_3⟩, ga0_0, ga0_1, ga0_2, ga0_3⟩ := t_box4 q0; obtain ⟨⟨ca1_0, ca1_1, ca1_2, ca1_3⟩, ga1_0, ga1_1, ga1_2, ga1_3⟩ := t_box4 q1; obtain ⟨⟨ca2_0, ca2_1⟩, ga2_0, ga2_1⟩ := t_box2 q2; clear q0 q1 q2; go_simp; first | done | with_reducible rfl)
       simp only [Act.put, nS]
       refine tkH 9 ?_ rfl ⟨F421_pg_36.out, F422_ppt_36.out, F423_pm_36.out⟩ (fun W' hW' => ?_) ?_; rotate_left; · (obtain ⟨q0, q1, q2⟩ := hW'; obtain ⟨⟨ca0_0, ca0_1, ca0_2, ca0_3⟩, ga0_0, ga0_1, ga0_2, ga0_3⟩ := t_box4 q0; obtain ⟨⟨ca1_0, ca1_1, ca1_2, ca1_3⟩, ga1_0, ga1_1, ga1_2, ga1_3⟩ := t_box4 q1; obtain ⟨⟨ca2_0, ca2_1⟩, ga2_0, ga2_1⟩ := t_box2 q2; clear q0 q1 q2; go_simp; first | done | with_reducible rfl)
       simp only [Act.put, nS]
       have hd31 : Below (w31).heap.size (w31) (w31) := Below.refl _ _
       have hd32 := below_trans hd31 hb32 hd31.size
       have hd33 := below_trans hd32 hb33 hd32.size
       have hd34 := below_trans hd33 hb34 hd33.size
       have hd35 := below_trans hd34 hb35 hd34.size
       have hd36 := below_trans hd35 hb36 hd35.size
       refine oneH 10 rfl (by kernel_rfl) (by rfl) (fun K hK => ?_)
       go_simp
       refine hK _ _ ⟨(t_box_below F421_pg_36.out (t_below_alloc _ _)), (t_box_below F422_ppt_36.out (t_below_alloc _ _)), (t_box_below F423_pm_36.out (t_below_alloc _ _))⟩ ?_
       clear hK K
       refine oneH 11 rfl (by kernel_rfl) (by rfl) (fun K hK => ?_)
       go_simp
       refine hK _ _ ⟨(t_box_below F421_pg_36.out (t_below_alloc _ _)), (t_box_below F422_ppt_36.out (t_below_alloc _ _)), (t_box_below F423_pm_36.out (t_below_alloc _ _))⟩ ?_
       clear hK K
       refine tkH 12 ?_ rfl ⟨(t_box_below F421_pg_36.out (t_below_alloc _ _)), (t_box_below F422_ppt_36.out (t_below_alloc _ _)), (t_box_below F423_pm_36.out (t_below_alloc _ _))⟩ (fun W' hW' => ?_) ?_; rotate_left; · (obtain ⟨q0, q1, q2⟩ := hW'; obtain ⟨⟨ca0_0, ca0_1, ca0_2, ca0_3⟩, ga0_0, ga0_1, ga0_2, ga0_3⟩ := t_box4 q0; obtain ⟨⟨ca1_0, ca1_1, ca1_2, ca1_3⟩, ga1_0, ga1_1, ga1_2, ga1_3⟩ := t_box4 q1; obtain ⟨⟨ca2_0, ca2_1⟩, ga2_0, ga2_1⟩ := t_box2 q2; clear q0 q1 q2; go_simp; first | done | with_reducible rfl)
       simp only [Act.put, nS]
       refine doneH (by kernel_rfl) ?_
       go_wp2_with (fail)
       go_meet
       exact ⟨_, _, _, _, _, _, _, _, _, _, _, rfl, rfl, heap_alloc_new _ _, o36r0.below (t_below_alloc _ _), (fr36_0.mono (Nat.le_trans (Nat.le_trans (Nat.le_trans (Nat.le_trans (Nat.le_refl _) hb32.size) hb33.size) hb34.size) hb35.size)), hd36.size, below_trans hd36 (t_below_alloc _ _) hd36.size⟩
      case h2417 =>
       have lp424_pg := t_box_lt F414_pg_35.out
       have lp425_ppt := t_box_lt F415_ppt_35.out
       have lp426_pm := t_box_lt F416_pm_35.out
       have hb36 := t_below_alloc (w35) (.cells #[.int .i64 0, .slice none 0 0, .slice none 0 0, .slice none 0 0] 32)
       have bz36 := lH (show ((w35).alloc (.cells #[.int .i64 0, .slice none 0 0, .slice none 0 0, .slice none 0 0] 32)).heap[(w35).heap.size]? = some (.cells #[.int .i64 0, .slice none 0 0, .slice none 0 0, .slice none 0 0] 32) from heap_alloc_new (w35) (.cells #[.int .i64 0, .slice none 0 0, .slice none 0 0, .slice none 0 0] 32))
       have hB36 := below_trans hB35 hb36 hB35.size
       simp only [Act.put, nS]
       refine' callH 6 (f := _) (args := _) rfl (by kernel_rfl) (by rfl) ?_ ?_; rotate_left 2; · (go_simp; first | done | with_reducible rfl | (constructor <;> with_reducible rfl))
       have lB427 := t_box_lt bz36.out
       have F428_yg_34 := o33.below hb34
       clear o33
       have F429_yg_35 := F428_yg_34.below hb35
       clear F428_yg_34
       have F430_yg_36 := F429_yg_35.below hb36
       clear F429_yg_35
       have F431_ypt_35 := o34.below hb35
       clear o34
       have F432_ypt_36 := F431_ypt_35.below hb36
       clear F431_ypt_35
       have F433_ym_36 := o35.below hb36
       clear o35
       refine (iLaw_h.out _ _ _ _ _ _ _  F430_yg_36 F432_ypt_36 F433_ym_36 okg okpt okm).mono ?_
       rintro e w37 ⟨v37_0, fp37_0, rfl, o37r0, fr37_0, hb37⟩
       have hB37 := below_trans hB36 hb37 hB36.size
       have F434_pg_36 := lH (t_box_below F414_pg_35.out hb36)
       clear F414_pg_35
       have F435_pg_37 := lH (t_box_below F434_pg_36.out hb37)
       clear F434_pg_36
       have F436_ppt_36 := lH (t_box_below F415_ppt_35.out hb36)
       clear F415_ppt_35
       have F437_ppt_37 := lH (t_box_below F436_ppt_36.out hb37)
       clear F436_ppt_36
       have F438_pm_36 := lH (t_box_below F416_pm_35.out hb36)
       clear F416_pm_35
       have F439_pm_37 := lH (t_box_below F438_pm_36.out hb37)
       clear F438_pm_36
       refine ⟨_, rfl, ⟨F435_pg_37.out, F437_ppt_37.out, F439_pm_37.out⟩, ?_⟩
       obtain ⟨A37_0, n37_0, c37_0, B37_0, m37_0, d37_0, C37_0, k37_0, e37_0, rfl⟩ := o37r0.shape
       simp only [Act.put, nS]
       refine tkH 7 ?_ rfl ⟨F435_pg_37.out, F437_ppt_37.out, F439_pm_37.out⟩ (fun W' hW' => ?_) ?_; rotate_left; · (obtain ⟨q0, q1, q2⟩ := hW'; obtain ⟨⟨ca0_0, ca0_1, ca0_2, ca0_3⟩, ga0_0, ga0_1, ga0_2, ga0_3⟩ := t_box4 q0; obtain ⟨⟨ca1_0, ca1_1, ca1_2, ca1_3⟩, ga1_0, ga1_1, ga1_2, ga1_3⟩ := t_box4 q1; obtain ⟨⟨ca2_0, ca2_1⟩, ga2_0, ga2_1⟩ := t_box2 q2; clear q0 q1 q2; go_simp; first | done | with_reducible rfl)
       simp only [Act.put, nS]
       refine tkH 8 ?_ rfl ⟨F435_pg_37.out, F437_ppt_37.out, F439_pm_37.out⟩ (fun W' hW' => ?_) ?_; rotate_left; · (obtain ⟨q0, q1, q2⟩ := hW'; obtain ⟨⟨ca0_0, ca0_1, ca0_2, ca0_3⟩, ga0_0, ga0_1, ga0_2, ga0_3⟩ := t_box4 q0; obtain ⟨⟨ca1_0, ca1_1, ca1_2, ca1_3⟩, ga1_0, ga1_1, ga1_2, ga1_3⟩ := t_box4 q1; obtain ⟨⟨ca2_0, ca2_1⟩, ga2_0, ga2_1⟩ := t_box2 q2; clear q0 q1 q2; go_simp; first | done | with_reducible rfl)
       simp only [Act.put, nS]
       refine tkH 9 ?_ rfl ⟨F435_pg_37.out, F437_ppt_37.out, F439_pm_37.out⟩ (fun W' hW' => ?_) ?_; rotate_left; · (obtain ⟨q0, q1, q2⟩ := hW'; obtain ⟨⟨ca0_0, ca0_1, ca0_2, ca0_3⟩, ga0_0, ga0_1, ga0_2, ga0_3⟩ := t_box4 q0; obtain ⟨⟨ca1_0, ca1_1, ca1_2, ca1_3⟩, ga1_0, ga1_1, ga1_2, ga1_3⟩ := t_box4 q1; obtain ⟨⟨ca2_0, ca2_1⟩, ga2_0, ga2_1⟩ := t_box2 q2; clear q0 q1 q2; go_simp; first | done | with_reducible rfl)
       simp only [Act.put, nS]
       have hd31 : Below (w31).heap.size (w31) (w31) := Below.refl _ _
       have hd32 := below_trans hd31 hb32 hd31.size
       have hd33 := below_trans hd32 hb33 hd32.size
       have hd34 := below_trans hd33 hb34 hd33.size
       have hd35 := below_trans hd34 hb35 hd34.size
       have hd36 := below_trans hd35 hb36 hd35.size
       have hd37 := below_trans hd36 hb37 hd36.size
       have F440_zbox_37 := lH (t_box_below bz36.out hb37)
       clear bz36
       obtain ⟨s1, s2⟩ := set4 (a := .int .i64 (R.1).1) (b := .slice A37_0 n37_0 c37_0) (c := .slice B37_0 m37_0 d37_0) (d := .slice C37_0 k37_0 e37_0) F440_zbox_37.out
       obtain ⟨⟨z0, z1, z2, z3⟩, z4, z5, z6, z7⟩ := t_box4 F440_zbox_37.out
       have o2 := o37r0.keeps s2 (fun b hb e => by have := fr37_0 b hb; have := lB427; omega)
       have hdf := below_keeps hd37 s2 hd37.size (fun k hk => by rw [hk]; exact hd35.size)
       refine oneH 11 rfl (by kernel_rfl) (by rfl) (fun K hK => ?_)
       go_simp
       refine hK _ _ ⟨(t_box_keeps F435_pg_37.out s2 (fun e => Nat.ne_of_lt lp424_pg e)), (t_box_keeps F437_ppt_37.out s2 (fun e => Nat.ne_of_lt lp425_ppt e)), (t_box_keeps F439_pm_37.out s2 (fun e => Nat.ne_of_lt lp426_pm e))⟩ ?_
       clear hK K
       refine tkH 12 ?_ rfl ⟨(t_box_keeps F435_pg_37.out s2 (fun e => Nat.ne_of_lt lp424_pg e)), (t_box_keeps F437_ppt_37.out s2 (fun e => Nat.ne_of_lt lp425_ppt e)), (t_box_keeps F439_pm_37.out s2 (fun e => Nat.ne_of_lt lp426_pm e))⟩ (fun W' hW' => ?_) ?_; rotate_left; · (obtain ⟨q0, q1, q2⟩ := hW'; obtain ⟨⟨ca0_0, ca0_1, ca0_2, ca0_3⟩, ga0_0, ga0_1, ga0_2, ga0_3⟩ := t_box4 q0; obtain ⟨⟨ca1_0, ca1_1, ca1_2, ca1_3⟩, ga1_0, ga1_1, ga1_2, ga1_3⟩ := t_box4 q1; obtain ⟨⟨ca2_0, ca2_1⟩, ga2_0, ga2_1⟩ := t_box2 q2; clear q0 q1 q2; go_simp; first | done | with_reducible rfl)
       simp only [Act.put, nS]
       refine doneH (by kernel_rfl) ?_
       go_wp2_with (fail)
       go_meet
       exact ⟨_, _, _, _, _, _, _, _, _, _, _, rfl, rfl, s1, o2, (fr37_0.mono (Nat.le_trans (Nat.le_trans (Nat.le_trans (Nat.le_trans (Nat.le_trans (Nat.le_refl _) hb32.size) hb33.size) hb34.size) hb35.size) hb36.size)), hd35.size, hdf⟩
     case h2413 =>
      have lp441_pg := t_box_lt F410_pg_34.out
      have lp442_ppt := t_box_lt F411_ppt_34.out
      have lp443_pm := t_box_lt F412_pm_34.out
      have hb35 := t_below_alloc (w34) (.cells #[.int .i64 0, .slice none 0 0, .slice none 0 0, .slice none 0 0] 32)
      have bz35 := lH (show ((w34).alloc (.cells #[.int .i64 0, .slice none 0 0, .slice none 0 0, .slice none 0 0] 32)).heap[(w34).heap.size]? = some (.cells #[.int .i64 0, .slice none 0 0, .slice none 0 0, .slice none 0 0] 32) from heap_alloc_new (w34) (.cells #[.int .i64 0, .slice none 0 0, .slice none 0 0, .slice none 0 0] 32))
      have hB35 := below_trans hB34 hb35 hB34.size
      simp only [Act.put, nS]
      refine' callH 5 (f := _) (args := _) rfl (by kernel_rfl) (by rfl) ?_ ?_; rotate_left 2; · (go_simp; first | done | with_reducible rfl | (constructor <;> with_reducible rfl))
      refine (toMatch_law (hm.below hB35) okm).mono ?_
      rintro e w36 ⟨v36, fp36, rfl, o36, fr36, hb36⟩
      have hB36 := below_trans hB35 hb36 hB35.size
      have F444_pg_35 := lH (t_box_below F410_pg_34.out hb35)
      clear F410_pg_34
      have F445_pg_36 := lH (t_box_below F444_pg_35.out hb36)
      clear F444_pg_35
      have F446_ppt_35 := lH (t_box_below F411_ppt_34.out hb35)
      clear F411_ppt_34
      have F447_ppt_36 := lH (t_box_below F446_ppt_35.out hb36)
      clear F446_ppt_35
      have F448_pm_35 := lH (t_box_below F412_pm_34.out hb35)
      clear F412_pm_34
      have F449_pm_36 := lH (t_box_below F448_pm_35.out hb36)
      clear F448_pm_35
      refine ⟨_, rfl, ⟨F445_pg_36.out, F447_ppt_36.out, F449_pm_36.out⟩, ?_⟩
      obtain ⟨A36, n36, c36, B36, m36, d36, rfl⟩ := o36.shape
      have lt_ym := o36.lt
      simp only [Act.put, nS]
      refine' callH 6 (f := _) (args := _) rfl (by kernel_rfl) (by rfl) ?_ ?_; rotate_left 2; · (go_simp; first | done | with_reducible rfl | (constructor <;> with_reducible rfl))
      have F451_zbox_36 := lH (t_box_below bz35.out hb36)
      clear bz35
      have lB450 := t_box_lt F451_zbox_36.out
      have F452_yg_34 := o33.below hb34
      clear o33
      have F453_yg_35 := F452_yg_34.below hb35
      clear F452_yg_34
      have F454_yg_36 := F453_yg_35.below hb36
      clear F453_yg_35
      have F455_ypt_35 := o34.below hb35
      clear o34
      have F456_ypt_36 := F455_ypt_35.below hb36
      clear F455_ypt_35
      refine (iLaw_h.out _ _ _ _ _ _ _  F454_yg_36 F456_ypt_36 o36 okg okpt okm).mono ?_
      rintro e w37 ⟨v37_0, fp37_0, rfl, o37r0, fr37_0, hb37⟩
      have hB37 := below_trans hB36 hb37 hB36.size
      have F457_pg_37 := lH (t_box_below F445_pg_36.out hb37)
      clear F445_pg_36
      have F458_ppt_37 := lH (t_box_below F447_ppt_36.out hb37)
      clear F447_ppt_36
      have F459_pm_37 := lH (t_box_below F449_pm_36.out hb37)
      clear F449_pm_36
      refine ⟨_, rfl, ⟨F457_pg_37.out, F458_ppt_37.out, F459_pm_37.out⟩, ?_⟩
      obtain ⟨A37_0, n37_0, c37_0, B37_0, m37_0, d37_0, C37_0, k37_0, e37_0, rfl⟩ := o37r0.shape
      simp only [Act.put, nS]
      refine tkH 7 ?_ rfl ⟨F457_pg_37.out, F458_ppt_37.out, F459_pm_37.out⟩ (fun W' hW' => ?_) ?_; rotate_left; · (obtain ⟨q0, q1, q2⟩ := hW'; obtain ⟨⟨ca0_0, ca0_1, ca0_2, ca0_3⟩, ga0_0, ga0_1, ga0_2, ga0_3⟩ := t_box4 q0; obtain ⟨⟨ca1_0, ca1_1, ca1_2, ca1_3⟩, ga1_0, ga1_1, ga1_2, ga1_3⟩ := t_box4 q1; obtain ⟨⟨ca2_0, ca2_1⟩, ga2_0, ga2_1⟩ := t_box2 q2; clear q0 q1 q2; go_simp; first | done | with_reducible rfl)
      simp only [Act.put, nS]
      refine tkH 8 ?_ rfl ⟨F457_pg_37.out, F458_ppt_37.out, F459_pm_37.out⟩ (fun W' hW' => ?_) ?_; rotate_left; · (obtain ⟨q0, q1, q2⟩ := hW'; obtain ⟨⟨ca0_0, ca0_1, ca0_2, ca0_3⟩, ga0_0, ga0_1, ga0_2, ga0_3⟩ := t_box4 q0; obtain ⟨⟨ca1_0, ca1_1, ca1_2, ca1_3⟩, ga1_0, ga1_1, ga1_2, ga1_3⟩ := t_box4 q1; obtain ⟨⟨ca2_0, ca2_1⟩, ga2_0, ga2_1⟩ := t_box2 q2; clear q0 q1 q2; go_simp; first | done | with_reducible rfl)
      simp only [Act.put, nS]
      refine tkH 9 ?_ rfl ⟨F457_pg_37.out, F458_ppt_37.out, F459_pm_37.out⟩ (fun W' hW' => ?_) ?_; rotate_left; · (obtain ⟨q0, q1, q2⟩ := hW'; obtain ⟨⟨ca0_0, ca0_1, ca0_2, ca0_3⟩, ga0_0, ga0_1, ga0_2, ga0_3⟩ := t_box4 q0; obtain ⟨⟨ca1_0, ca1_1, ca1_2, ca1_3⟩, ga1_0, ga1_1, ga1_2, ga1_3⟩ := t_box4 q1; obtain ⟨⟨ca2_0, ca2_1⟩, ga2_0, ga2_1⟩ := t_box2 q2; clear q0 q1 q2; go_simp; first | done | with_reducible rfl)
      simp only [Act.put, nS]
      have hd31 : Below (w31).heap.size (w31) (w31) := Below.refl _ _
      have hd32 := below_trans hd31 hb32 hd31.size
      have hd33 := below_trans hd32 hb33 hd32.size
      have hd34 := below_trans hd33 hb34 hd33.size
      have hd35 := below_trans hd34 hb35 hd34.size
      have hd36 := below_trans hd35 hb36 hd35.size
      have hd37 := below_trans hd36 hb37 hd36.size
      have F460_zbox_37 := lH (t_box_below F451_zbox_36.out hb37)
      clear F451_zbox_36
      obtain ⟨s1, s2⟩ := set4 (a := .int .i64 (R.1).1) (b := .slice A37_0 n37_0 c37_0) (c := .slice B37_0 m37_0 d37_0) (d := .slice C37_0 k37_0 e37_0) F460_zbox_37.out
      obtain ⟨⟨z0, z1, z2, z3⟩, z4, z5, z6, z7⟩ := t_box4 F460_zbox_37.out
      have o2 := o37r0.keeps s2 (fun b hb e => by have := fr37_0 b hb; have := lB450; omega)
      have hdf := below_keeps hd37 s2 hd37.size (fun k hk => by rw [hk]; exact hd34.size)
      refine oneH 11 rfl (by kernel_rfl) (by rfl) (fun K hK => ?_)
      go_simp
      refine hK _ _ ⟨(t_box_keeps F457_pg_37.out s2 (fun e => Nat.ne_of_lt lp441_pg e)), (t_box_keeps F458_ppt_37.out s2 (fun e => Nat.ne_of_lt lp442_ppt e)), (t_box_keeps F459_pm_37.out s2 (fun e => Nat.ne_of_lt lp443_pm e))⟩ ?_
      clear hK K
      refine tkH 12 ?_ rfl ⟨(t_box_keeps F457_pg_37.out s2 (fun e => Nat.ne_of_lt lp441_pg e)), (t_box_keeps F458_ppt_37.out s2 (fun e => Nat.ne_of_lt lp442_ppt e)), (t_box_keeps F459_pm_37.out s2 (fun e => Nat.ne_of_lt lp443_pm e))⟩ (fun W' hW' => ?_) ?_; rotate_left; · (obtain ⟨q0, q1, q2⟩ := hW'; obtain ⟨⟨ca0_0, ca0_1, ca0_2, ca0_3⟩, ga0_0, ga0_1, ga0_2, ga0_3⟩ := t_box4 q0; obtain ⟨⟨ca1_0, ca1_1, ca1_2, ca1_3⟩, ga1_0, ga1_1, ga1_2, ga1_3⟩ := t_box4 q1; obtain ⟨⟨ca2_0, ca2_1⟩, ga2_0, ga2_1⟩ := t_box2 q2; clear q0 q1 q2; go_simp; first | done | with_reducible rfl)
      simp only [Act.put, nS]
      refine doneH (by kernel_rfl) ?_
      go_wp2_with (fail)
      go_meet
      exact ⟨_, _, _, _, _, _, _, _, _, _, _, rfl, rfl, s1, o2, (fr37_0.mono (Nat.le_trans (Nat.le_trans (Nat.le_trans (Nat.le_trans (Nat.le_trans (Nat.le_refl _) hb32.size) hb33.size) hb34.size) hb35.size) hb36.size)), hd34.size, hdf⟩
    case h2409 =>
     have lp461_pg := t_box_lt F406_pg_33.out
     have lp462_ppt := t_box_lt F407_ppt_33.out
     have lp463_pm := t_box_lt F408_pm_33.out
     have hb34 := t_below_alloc (w33) (.cells #[.int .i64 0, .slice none 0 0, .slice none 0 0, .slice none 0 0] 32)
     have bz34 := lH (show ((w33).alloc (.cells #[.int .i64 0, .slice none 0 0, .slice none 0 0, .slice none 0 0] 32)).heap[(w33).heap.size]? = some (.cells #[.int .i64 0, .slice none 0 0, .slice none 0 0, .slice none 0 0] 32) from heap_alloc_new (w33) (.cells #[.int .i64 0, .slice none 0 0, .slice none 0 0, .slice none 0 0] 32))
     have hB34 := below_trans hB33 hb34 hB33.size
     simp only [Act.put, nS]
     refine' callH 3 (f := _) (args := _) rfl (by kernel_rfl) (by rfl) ?_ ?_; rotate_left 2; · (go_simp; first | done | with_reducible rfl | (constructor <;> with_reducible rfl))
     refine (toGraph_law (hpt.below hB34) okpt).mono ?_
     rintro e w35 ⟨v35, fp35, rfl, o35, fr35, hb35⟩
     have hB35 := below_trans hB34 hb35 hB34.size
     have F464_pg_34 := lH (t_box_below F406_pg_33.out hb34)
     clear F406_pg_33
     have F465_pg_35 := lH (t_box_below F464_pg_34.out hb35)
     clear F464_pg_34
     have F466_ppt_34 := lH (t_box_below F407_ppt_33.out hb34)
     clear F407_ppt_33
     have F467_ppt_35 := lH (t_box_below F466_ppt_34.out hb35)
     clear F466_ppt_34
     have F468_pm_34 := lH (t_box_below F408_pm_33.out hb34)
     clear F408_pm_33
     have F469_pm_35 := lH (t_box_below F468_pm_34.out hb35)
     clear F468_pm_34
     refine ⟨_, rfl, ⟨F465_pg_35.out, F467_ppt_35.out, F469_pm_35.out⟩, ?_⟩
     obtain ⟨A35, n35, c35, B35, m35, d35, C35, k35, e35, rfl⟩ := o35.shape
     have lt_ypt := o35.lt
     simp only [Act.put, nS]
     refine' callH 5 (f := _) (args := _) rfl (by kernel_rfl) (by rfl) ?_ ?_; rotate_left 2; · (go_simp; first | done | with_reducible rfl | (constructor <;> with_reducible rfl))
     refine (toMatch_law (hm.below hB35) okm).mono ?_
     rintro e w36 ⟨v36, fp36, rfl, o36, fr36, hb36⟩
     have hB36 := below_trans hB35 hb36 hB35.size
     have F470_pg_36 := lH (t_box_below F465_pg_35.out hb36)
     clear F465_pg_35
     have F471_ppt_36 := lH (t_box_below F467_ppt_35.out hb36)
     clear F467_ppt_35
     have F472_pm_36 := lH (t_box_below F469_pm_35.out hb36)
     clear F469_pm_35
     refine ⟨_, rfl, ⟨F470_pg_36.out, F471_ppt_36.out, F472_pm_36.out⟩, ?_⟩
     obtain ⟨A36, n36, c36, B36, m36, d36, rfl⟩ := o36.shape
     have lt_ym := o36.lt
     simp only [Act.put, nS]
     refine' callH 6 (f := _) (args := _) rfl (by kernel_rfl) (by rfl) ?_ ?_; rotate_left 2; · (go_simp; first | done | with_reducible rfl | (constructor <;> with_reducible rfl))
     have F474_zbox_35 := lH (t_box_below bz34.out hb35)
     clear bz34
     have F475_zbox_36 := lH (t_box_below F474_zbox_35.out hb36)
     clear F474_zbox_35
     have lB473 := t_box_lt F475_zbox_36.out
     have F476_yg_34 := o33.below hb34
     clear o33
     have F477_yg_35 := F476_yg_34.below hb35
     clear F476_yg_34
     have F478_yg_36 := F477_yg_35.below hb36
     clear F477_yg_35
     have F479_ypt_36 := o35.below hb36
     clear o35
     refine (iLaw_h.out _ _ _ _ _ _ _  F478_yg_36 F479_ypt_36 o36 okg okpt okm).mono ?_
     rintro e w37 ⟨v37_0, fp37_0, rfl, o37r0, fr37_0, hb37⟩
     have hB37 := below_trans hB36 hb37 hB36.size
     have F480_pg_37 := lH (t_box_below F470_pg_36.out hb37)
     clear F470_pg_36
     have F481_ppt_37 := lH (t_box_below F471_ppt_36.out hb37)
     clear F471_ppt_36
     have F482_pm_37 := lH (t_box_below F472_pm_36.out hb37)
     clear F472_pm_36
     refine ⟨_, rfl, ⟨F480_pg_37.out, F481_ppt_37.out, F482_pm_37.out⟩, ?_⟩
     obtain ⟨A37_0, n37_0, c37_0, B37_0, m37_0, d37_0, C37_0, k37_0, e37_0, rfl⟩ := o37r0.shape
     simp only [Act.put, nS]
     refine tkH 7 ?_ rfl ⟨F480_pg_37.out, F481_ppt_37.out, F482_pm_37.out⟩ (fun W' hW' => ?_) ?_; rotate_left; · (obtain ⟨q0, q1, q2⟩ := hW'; obtain ⟨⟨ca0_0, ca0_1, ca0_2, ca0_3⟩, ga0_0, ga0_1, ga0_2, ga0_3⟩ := t_box4 q0; obtain ⟨⟨ca1_0, ca1_1, ca1_2, ca1_3⟩, ga1_0, ga1_1, ga1_2, ga1_3⟩ := t_box4 q1; obtain ⟨⟨ca2_0, ca2_1⟩, ga2_0, ga2_1⟩ := t_box2 q2; clear q0 q1 q2; go_simp; first | done | with_reducible rfl)
     simp only [Act.put, nS]
     refine tkH 8 ?_ rfl ⟨F480_pg_37.out, F481_ppt_37.out, F482_pm_37.out⟩ (fun W' hW' => ?_) ?_; rotate_left; · (obtain ⟨q0, q1, q2⟩ := hW'; obtain ⟨⟨ca0_0, ca0_1, ca0_2, ca0_3⟩, ga0_0, ga0_1, ga0_2, ga0_3⟩ := t_box4 q0; obtain ⟨⟨ca1_0, ca1_1, ca1_2, ca1_3⟩, ga1_0, ga1_1, ga1_2, ga1_3⟩ := t_box4 q1; obtain ⟨⟨ca2_0, ca2_1⟩, ga2_0, ga2_1⟩ := t_box2 q2; clear q0 q1 q2; go_simp; first | done | with_reducible rfl)
     simp only [Act.put, nS]
     refine tkH 9 ?_ rfl ⟨F480_pg_37.out, F481_ppt_37.out, F482_pm_37.out⟩ (fun W' hW' => ?_) ?_; rotate_left; · (obtain ⟨q0, q1, q2⟩ := hW'; obtain ⟨⟨ca0_0, ca0_1, ca0_2, ca0_3⟩, ga0_0, ga0_1, ga0_2, ga0_3⟩ := t_box4 q0; obtain ⟨⟨ca1_0, ca1_1, ca1_2, ca1_3⟩, ga1_0, ga1_1, ga1_2, ga1_3⟩ := t_box4 q1; obtain ⟨⟨ca2_0, ca2_1⟩, ga2_0, ga2_1⟩ := t_box2 q2; clear q0 q1 q2; go_simp; first | done | with_reducible rfl)
     simp only [Act.put, nS]
     have hd31 : Below (w31).heap.size (w31) (w31) := Below.refl _ _
     have hd32 := below_trans hd31 hb32 hd31.size
     have hd33 := below_trans hd32 hb33 hd32.size
     have hd34 := below_trans hd33 hb34 hd33.size
     have hd35 := below_trans hd34 hb35 hd34.size
     have hd36 := below_trans hd35 hb36 hd35.size
     have hd37 := below_trans hd36 hb37 hd36.size
     have F483_zbox_37 := lH (t_box_below F475_zbox_36.out hb37)
     clear F475_zbox_36
     obtain ⟨s1, s2⟩ := set4 (a := .int .i64 (R.1).1) (b := .slice A37_0 n37_0 c37_0) (c := .slice B37_0 m37_0 d37_0) (d := .slice C37_0 k37_0 e37_0) F483_zbox_37.out
     obtain ⟨⟨z0, z1, z2, z3⟩, z4, z5, z6, z7⟩ := t_box4 F483_zbox_37.out
     have o2 := o37r0.keeps s2 (fun b hb e => by have := fr37_0 b hb; have := lB473; omega)
     have hdf := below_keeps hd37 s2 hd37.size (fun k hk => by rw [hk]; exact hd33.size)
     refine oneH 11 rfl (by kernel_rfl) (by rfl) (fun K hK => ?_)
     go_simp
     refine hK _ _ ⟨(t_box_keeps F480_pg_37.out s2 (fun e => Nat.ne_of_lt lp461_pg e)), (t_box_keeps F481_ppt_37.out s2 (fun e => Nat.ne_of_lt lp462_ppt e)), (t_box_keeps F482_pm_37.out s2 (fun e => Nat.ne_of_lt lp463_pm e))⟩ ?_
     clear hK K
     refine tkH 12 ?_ rfl ⟨(t_box_keeps F480_pg_37.out s2 (fun e => Nat.ne_of_lt lp461_pg e)), (t_box_keeps F481_ppt_37.out s2 (fun e => Nat.ne_of_lt lp462_ppt e)), (t_box_keeps F482_pm_37.out s2 (fun e => Nat.ne_of_lt lp463_pm e))⟩ (fun W' hW' => ?_) ?_; rotate_left; · (obtain ⟨q0, q1, q2⟩ := hW'; obtain ⟨⟨ca0_0, ca0_1, ca0_2, ca0_3⟩, ga0_0, ga0_1, ga0_2, ga0_3⟩ := t_box4 q0; obtain ⟨⟨ca1_0, ca1_1, ca1_2, ca1_3⟩, ga1_0, ga1_1, ga1_2, ga1_3⟩ := t_box4 q1; obtain ⟨⟨ca2_0, ca2_1⟩, ga2_0, ga2_1⟩ := t_box2 q2; clear q0 q1 q2; go_simp; first | done | with_reducible rfl)
     simp only [Act.put, nS]
     refine doneH (by kernel_rfl) ?_
     go_wp2_with (fail)
     go_meet
     exact ⟨_, _, _, _, _, _, _, _, _, _, _, rfl, rfl, s1, o2, (fr37_0.mono (Nat.le_trans (Nat.le_trans (Nat.le_trans (Nat.le_trans (Nat.le_trans (Nat.le_refl _) hb32.size) hb33.size) hb34.size) hb35.size) hb36.size)), hd33.size, hdf⟩
   case h2405 =>
    have lp484_pg := t_box_lt F402_pg_32.out
    have lp485_ppt := t_box_lt F403_ppt_32.out
    have lp486_pm := t_box_lt F404_pm_32.out
    have hb33 := t_below_alloc ((w31).drew) (.cells #[.int .i64 0, .slice none 0 0, .slice none 0 0, .slice none 0 0] 32)
    have bz33 := lH (show (((w31).drew).alloc (.cells #[.int .i64 0, .slice none 0 0, .slice none 0 0, .slice none 0 0] 32)).heap[((w31)).heap.size]? = some (.cells #[.int .i64 0, .slice none 0 0, .slice none 0 0, .slice none 0 0] 32) from heap_alloc_new ((w31).drew) (.cells #[.int .i64 0, .slice none 0 0, .slice none 0 0, .slice none 0 0] 32))
    have hB33 := below_trans hB32 hb33 hB32.size
    simp only [Act.put, nS]
    refine' callH 1 (f := _) (args := _) rfl (by kernel_rfl) (by rfl) ?_ ?_; rotate_left 2; · (go_simp; first | done | with_reducible rfl | (constructor <;> with_reducible rfl))
    refine (toGraph_law (hg.below hB33) okg).mono ?_
    rintro e w34 ⟨v34, fp34, rfl, o34, fr34, hb34⟩
    have hB34 := below_trans hB33 hb34 hB33.size
    have F487_pg_33 := lH (t_box_below F402_pg_32.out hb33)
    clear F402_pg_32
    have F488_pg_34 := lH (t_box_below F487_pg_33.out hb34)
    clear F487_pg_33
    have F489_ppt_33 := lH (t_box_below F403_ppt_32.out hb33)
    clear F403_ppt_32
    have F490_ppt_34 := lH (t_box_below F489_ppt_33.out hb34)
    clear F489_ppt_33
    have F491_pm_33 := lH (t_box_below F404_pm_32.out hb33)
    clear F404_pm_32
    have F492_pm_34 := lH (t_box_below F491_pm_33.out hb34)
    clear F491_pm_33
    refine ⟨_, rfl, ⟨F488_pg_34.out, F490_ppt_34.out, F492_pm_34.out⟩, ?_⟩
    obtain ⟨A34, n34, c34, B34, m34, d34, C34, k34, e34, rfl⟩ := o34.shape
    have lt_yg := o34.lt
    simp only [Act.put, nS]
    refine' callH 3 (f := _) (args := _) rfl (by kernel_rfl) (by rfl) ?_ ?_; rotate_left 2; · (go_simp; first | done | with_reducible rfl | (constructor <;> with_reducible rfl))
    refine (toGraph_law (hpt.below hB34) okpt).mono ?_
    rintro e w35 ⟨v35, fp35, rfl, o35, fr35, hb35⟩
    have hB35 := below_trans hB34 hb35 hB34.size
    have F493_pg_35 := lH (t_box_below F488_pg_34.out hb35)
    clear F488_pg_34
    have F494_ppt_35 := lH (t_box_below F490_ppt_34.out hb35)
    clear F490_ppt_34
    have F495_pm_35 := lH (t_box_below F492_pm_34.out hb35)
    clear F492_pm_34
    refine ⟨_, rfl, ⟨F493_pg_35.out, F494_ppt_35.out, F495_pm_35.out⟩, ?_⟩
    obtain ⟨A35, n35, c35, B35, m35, d35, C35, k35, e35, rfl⟩ := o35.shape
    have lt_ypt := o35.lt
    simp only [Act.put, nS]
    refine' callH 5 (f := _) (args := _) rfl (by kernel_rfl) (by rfl) ?_ ?_; rotate_left 2; · (go_simp; first | done | with_reducible rfl | (constructor <;> with_reducible rfl))
    refine (toMatch_law (hm.below hB35) okm).mono ?_
    rintro e w36 ⟨v36, fp36, rfl, o36, fr36, hb36⟩
    have hB36 := below_trans hB35 hb36 hB35.size
    have F496_pg_36 := lH (t_box_below F493_pg_35.out hb36)
    clear F493_pg_35
    have F497_ppt_36 := lH (t_box_below F494_ppt_35.out hb36)
    clear F494_ppt_35
    have F498_pm_36 := lH (t_box_below F495_pm_35.out hb36)
    clear F495_pm_35
    refine ⟨_, rfl, ⟨F496_pg_36.out, F497_ppt_36.out, F498_pm_36.out⟩, ?_⟩
    obtain ⟨A36, n36, c36, B36, m36, d36, rfl⟩ := o36.shape
    have lt_ym := o36.lt
    simp only [Act.put, nS]
    refine' callH 6 (f := _) (args := _) rfl (by kernel_rfl) (by rfl) ?_ ?_; rotate_left 2; · (go_simp; first | done | with_reducible rfl | (constructor <;> with_reducible rfl))
    have F500_zbox_34 := lH (t_box_below bz33.out hb34)
    clear bz33
    have F501_zbox_35 := lH (t_box_below F500_zbox_34.out hb35)
    clear F500_zbox_34
    have F502_zbox_36 := lH (t_box_below F501_zbox_35.out hb36)
    clear F501_zbox_35
    have lB499 := t_box_lt F502_zbox_36.out
    have F503_yg_35 := o34.below hb35
    clear o34
    have F504_yg_36 := F503_yg_35.below hb36
    clear F503_yg_35
    have F505_ypt_36 := o35.below hb36
    clear o35
    refine (iLaw_h.out _ _ _ _ _ _ _  F504_yg_36 F505_ypt_36 o36 okg okpt okm).mono ?_
    rintro e w37 ⟨v37_0, fp37_0, rfl, o37r0, fr37_0, hb37⟩
    have hB37 := below_trans hB36 hb37 hB36.size
    have F506_pg_37 := lH (t_box_below F496_pg_36.out hb37)
    clear F496_pg_36
    have F507_ppt_37 := lH (t_box_below F497_ppt_36.out hb37)
    clear F497_ppt_36
    have F508_pm_37 := lH (t_box_below F498_pm_36.out hb37)
    clear F498_pm_36
    refine ⟨_, rfl, ⟨F506_pg_37.out, F507_ppt_37.out, F508_pm_37.out⟩, ?_⟩
    obtain ⟨A37_0, n37_0, c37_0, B37_0, m37_0, d37_0, C37_0, k37_0, e37_0, rfl⟩ := o37r0.shape
    simp only [Act.put, nS]
    refine tkH 7 ?_ rfl ⟨F506_pg_37.out, F507_ppt_37.out, F508_pm_37.out⟩ (fun W' hW' => ?_) ?_; rotate_left; · (obtain ⟨q0, q1, q2⟩ := hW'; obtain ⟨⟨ca0_0, ca0_1, ca0_2, ca0_3⟩, ga0_0, ga0_1, ga0_2, ga0_3⟩ := t_box4 q0; obtain ⟨⟨ca1_0, ca1_1, ca1_2, ca1_3⟩, ga1_0, ga1_1, ga1_2, ga1_3⟩ := t_box4 q1; obtain ⟨⟨ca2_0, ca2_1⟩, ga2_0, ga2_1⟩ := t_box2 q2; clear q0 q1 q2; go_simp; first | done | with_reducible rfl)
    simp only [Act.put, nS]
    refine tkH 8 ?_ rfl ⟨F506_pg_37.out, F507_ppt_37.out, F508_pm_37.out⟩ (fun W' hW' => ?_) ?_; rotate_left; · (obtain ⟨q0, q1, q2⟩ := hW'; obtain ⟨⟨ca0_0, ca0_1, ca0_2, ca0_3⟩, ga0_0, ga0_1, ga0_2, ga0_3⟩ := t_box4 q0; obtain ⟨⟨ca1_0, ca1_1, ca1_2, ca1_3⟩, ga1_0, ga1_1, ga1_2, ga1_3⟩ := t_box4 q1; obtain ⟨⟨ca2_0, ca2_1⟩, ga2_0, ga2_1⟩ := t_box2 q2; clear q0 q1 q2; go_simp; first | done | with_reducible rfl)
    simp only [Act.put, nS]
    refine tkH 9 ?_ rfl ⟨F506_pg_37.out, F507_ppt_37.out, F508_pm_37.out⟩ (fun W' hW' => ?_) ?_; rotate_left; · (obtain ⟨q0, q1, q2⟩ := hW'; obtain ⟨⟨ca0_0, ca0_1, ca0_2, ca0_3⟩, ga0_0, ga0_1, ga0_2, ga0_3⟩ := t_box4 q0; obtain ⟨⟨ca1_0, ca1_1, ca1_2, ca1_3⟩, ga1_0, ga1_1, ga1_2, ga1_3⟩ := t_box4 q1; obtain ⟨⟨ca2_0, ca2_1⟩, ga2_0, ga2_1⟩ := t_box2 q2; clear q0 q1 q2; go_simp; first | done | with_reducible rfl)
    simp only [Act.put, nS]
    have hd31 : Below (w31).heap.size (w31) (w31) := Below.refl _ _
    have hd32 := below_trans hd31 hb32 hd31.size
    have hd33 := below_trans hd32 hb33 hd32.size
    have hd34 := below_trans hd33 hb34 hd33.size
    have hd35 := below_trans hd34 hb35 hd34.size
    have hd36 := below_trans hd35 hb36 hd35.size
    have hd37 := below_trans hd36 hb37 hd36.size
    have F509_zbox_37 := lH (t_box_below F502_zbox_36.out hb37)
    clear F502_zbox_36
    obtain ⟨s1, s2⟩ := set4 (a := .int .i64 (R.1).1) (b := .slice A37_0 n37_0 c37_0) (c := .slice B37_0 m37_0 d37_0) (d := .slice C37_0 k37_0 e37_0) F509_zbox_37.out
    obtain ⟨⟨z0, z1, z2, z3⟩, z4, z5, z6, z7⟩ := t_box4 F509_zbox_37.out
    have o2 := o37r0.keeps s2 (fun b hb e => by have := fr37_0 b hb; have := lB499; omega)
    have hdf := below_keeps hd37 s2 hd37.size (fun k hk => by rw [hk]; exact hd32.size)
    refine oneH 11 rfl (by kernel_rfl) (by rfl) (fun K hK => ?_)
    go_simp
    refine hK _ _ ⟨(t_box_keeps F506_pg_37.out s2 (fun e => Nat.ne_of_lt lp484_pg e)), (t_box_keeps F507_ppt_37.out s2 (fun e => Nat.ne_of_lt lp485_ppt e)), (t_box_keeps F508_pm_37.out s2 (fun e => Nat.ne_of_lt lp486_pm e))⟩ ?_
    clear hK K
    refine tkH 12 ?_ rfl ⟨(t_box_keeps F506_pg_37.out s2 (fun e => Nat.ne_of_lt lp484_pg e)), (t_box_keeps F507_ppt_37.out s2 (fun e => Nat.ne_of_lt lp485_ppt e)), (t_box_keeps F508_pm_37.out s2 (fun e => Nat.ne_of_lt lp486_pm e))⟩ (fun W' hW' => ?_) ?_; rotate_left; · (obtain ⟨q0, q1, q2⟩ := hW'; obtain ⟨⟨ca0_0, ca0_1, ca0_2, ca0_3⟩, ga0_0, ga0_1, ga0_2, ga0_3⟩ := t_box4 q0; obtain ⟨⟨ca1_0, ca1_1, ca1_2, ca1_3⟩, ga1_0, ga1_1, ga1_2, ga1_3⟩ := t_box4 q1; obtain ⟨⟨ca2_0, ca2_1⟩, ga2_0, ga2_1⟩ := t_box2 q2; clear q0 q1 q2; go_simp; first | done | with_reducible rfl)
    simp only [Act.put, nS]
    refine doneH (by kernel_rfl) ?_
    go_wp2_with (fail)
    go_meet
    exact ⟨_, _, _, _, _, _, _, _, _, _, _, rfl, rfl, s1, o2, (fr37_0.mono (Nat.le_trans (Nat.le_trans (Nat.le_trans (Nat.le_trans (Nat.le_trans (Nat.le_refl _) hb32.size) hb33.size) hb34.size) hb35.size) hb36.size)), hd32.size, hdf⟩
  case rest =>
   obtain ⟨B401, nX401, cX401, mX401, dX401, kX401, eX401, AX401, BX401, CX401, fpx401, rfl, rfl, bx401c, o401c, fr401c, hge401, hb401c⟩ := hcut
   obtain ⟨w32c, rfl⟩ : ∃ x, x = wc := ⟨_, rfl⟩
   have hB32 := below_trans hB31 hb401c hB31.size
   have lt_H0 := o401c.lt
   have lt_bH0 : LtL (w32c).heap.size [B401] := fun b hb => by obtain rfl := List.mem_singleton.1 hb; exact t_box_lt bx401c
   have fr_bH0 : FreshL (w31).heap.size [B401] := fun b hb => by obtain rfl := List.mem_singleton.1 hb; exact hge401
   have BX_bH0_401 := lH bx401c; clear bx401c
   have F510_W0_29 := F340_W0_28.below hb29
   clear F340_W0_28
   have F511_W0_30 := F510_W0_29.keeps hk30 (apart_of lt_W0 (fr14_0.mono (Nat.le_trans (Nat.le_trans (Nat.le_trans (Nat.le_trans (Nat.le_trans (Nat.le_trans (Nat.le_refl _) hb8.size) hb9.size) hb10.size) hb11.size) hb12.size) hb13.size)))
   clear F510_W0_29
   have F512_W0_31 := F511_W0_30.below hb31
   clear F511_W0_30
   have F513_W0_32 := F512_W0_31.below hb401c
   clear F512_W0_31
   obtain ⟨⟨c514_0, c514_1, c514_2, c514_3⟩, f514_0, f514_1, f514_2, f514_3⟩ := t_box4 BX_bH0_401.out
   have F515_bW0_29 := lH (t_box_below F367_bW0_28.out hb29)
   clear F367_bW0_28
   have F516_bW0_30 := lH (t_box_keeps F515_bW0_29.out hk30 (fun hh => (apart_of lt_bW0 (fr14_0.mono (Nat.le_trans (Nat.le_trans (Nat.le_trans (Nat.le_trans (Nat.le_trans (Nat.le_trans (Nat.le_refl _) hb8.size) hb9.size) hb10.size) hb11.size) hb12.size) hb13.size))) _ (List.mem_singleton.2 rfl) hh))
   clear F515_bW0_29
   have F517_bW0_31 := lH (t_box_below F516_bW0_30.out hb31)
   clear F516_bW0_30
   have F518_bW0_32 := lH (t_box_below F517_bW0_31.out hb401c)
   clear F517_bW0_31
   obtain ⟨⟨c519_0, c519_1, c519_2, c519_3⟩, f519_0, f519_1, f519_2, f519_3⟩ := t_box4 F518_bW0_32.out
   go_wp2_with (fail)
   refine (eqGraph_law o401c.rd F513_W0_32.rd (hokR okpt)).mono ?_
   rintro e w33 ⟨rfl, hb33⟩
   have hB33 := below_trans hB32 hb33 hB32.size
   clear c514_0 c514_1 c514_2 c514_3 f514_0 f514_1 f514_2 f514_3 c519_0 c519_1 c519_2 c519_3 f519_0 f519_1 f519_2 f519_3
   rw [decide_eq_true (rfl : R.1 = R.1)]
   have F520_G0_31 := he30.below hb31
   clear he30
   have F521_G0_32 := F520_G0_31.below hb401c
   clear F520_G0_31
   have F522_G0_33 := F521_G0_32.below hb33
   clear F521_G0_32
   have F523_bG0_31 := lH (t_box_below F372_bG0_30.out hb31)
   clear F372_bG0_30
   have F524_bG0_32 := lH (t_box_below F523_bG0_31.out hb401c)
   clear F523_bG0_31
   have F525_bG0_33 := lH (t_box_below F524_bG0_32.out hb33)
   clear F524_bG0_32
   obtain ⟨⟨c526_0, c526_1, c526_2, c526_3⟩, f526_0, f526_1, f526_2, f526_3⟩ := t_box4 F525_bG0_33.out
   go_wp2_with (fail)
   refine (heldGraph_law F522_G0_33 (by omega) (hokR okpt) (by have := (hokR okpt).2.2; constructor <;> omega)).mono ?_
   rintro e w34 ⟨rfl, hb34⟩
   have hB34 := below_trans hB33 hb34 hB33.size
   clear c526_0 c526_1 c526_2 c526_3 f526_0 f526_1 f526_2 f526_3
   go_wp2_with (fail)
   go_ret
   exact ⟨rfl, hB34⟩
theorem readImageGraph : ∀ t ∈ Try.f3.params.toList, Try.prog.readableRec t = true ∧ t < Try.prog.types.size := by
 rw [Try.params3]
 intro t ht
 have ht' : t ∈ ([25, 25, 27] : List TypeId) := ht
 rcases List.mem_cons.1 ht' with rfl | ht'
 · exact ⟨by kernel_rfl, of_decide_eq_true (by kernel_rfl)⟩
 rcases List.mem_cons.1 ht' with rfl | ht'
 · exact ⟨by kernel_rfl, of_decide_eq_true (by kernel_rfl)⟩
 rcases List.mem_cons.1 ht' with rfl | ht'
 · exact ⟨by kernel_rfl, of_decide_eq_true (by kernel_rfl)⟩
 cases ht'
set_option maxRecDepth 100000 in
theorem liftedImageGraph (os : Os) (started : os.Started) (H : Type) (enc : TypeId × Value → H) :
  ReturnsInHanded {} Try.checked os 3 .any (Rows.fnExactImageGraphSpec.pre6 enc Try.prog Try.f3 Rows.fnExactImageGraphRow.domain false) (Rows.fnExactImageGraphSpec.post enc Try.prog Try.f3 false true false false) := by
 refine returnsInHanded_of_change (C := Try.checked) own started (by kernel_rfl) Try.func3
  (ChangeSpec.witness6 (enc := enc) (C := Try.checked) false ⟨#[], #[.agg #[.int .i64 0, .slice none 0 0, .slice none 0 0, .slice none 0 0], .agg #[.int .i64 0, .slice none 0 0, .slice none 0 0, .slice none 0 0], .agg #[.slice none 0 0, .slice none 0 0]], []⟩ 8 (by kernel_rfl) (by kernel_rfl) (by kernel_rfl) (by kernel_rfl)) ?_
 intro W base args ds gs before hval0 hW hcnd _
 have hval : ∀ (j : Nat) t v, Try.f3.params[j]? = some t → args[j]? = some v → Value.okWide Try.prog W .any base t v := hval0
 have hW' := hW
 obtain ⟨p, q, hA0, hV, rfl, hfz, hnd⟩ := hW
 have hA : DataW.TrodAll enc Try.prog W 0 (fun _ => true) true Try.f3.params.toList args.toList ds p := hA0
 rw [Try.params3] at hA hval
 obtain ⟨v0, vs0, d0, ds0, p0, q0, hargs, rfl, rfl, t0, r0⟩ := trodAll_cons hA
 obtain ⟨v1, vs1, d1, ds1, p1, q1, rfl, rfl, rfl, t1, r1⟩ := trodAll_cons r0
 obtain ⟨v2, vs2, d2, ds2, p2, q2, rfl, rfl, rfl, t2, r2⟩ := trodAll_cons r1
 obtain ⟨rfl, rfl, rfl⟩ := trodAll_nil r2
 obtain rfl : args = #[v0, v1, v2] := by cases args; simp_all
 obtain ⟨rfl, rfl⟩ := trodVars_none hV
 obtain ⟨m0, hl0, hg0⟩ := in_Graph (hval 0 _ v0 rfl rfl) t0
 obtain ⟨m1, hl1, hg1⟩ := in_Graph (hval 1 _ v1 rfl rfl) t1
 obtain ⟨m2, hl2, hg2⟩ := in_Match (hval 2 _ v2 rfl rfl) t2
 clear hA0 hval0
 refine (lawImageGraph_any v0 m0 v1 m1 v2 m2 W hl0 hg0 hl1 hg1 hl2 hg2 ).mono fun e W' ⟨he, hb⟩ => ?_
 subst he
 exact ⟨_, rfl, post_true laidOut hW' hb readImageGraph (fun n hn => by cases hn) rfl rfl Try.underlying4⟩
theorem provedImageGraph : Rows.FnExactImageGraphSaid :=
 OpenClaim.holds_of_wide 3 Try.f3 rfl rfl rfl rfl rfl rfl rfl ⟨rfl, rfl, rfl, rfl, rfl⟩ rfl rfl rfl rfl rfl (by kernel_rfl) Try.func3 (by kernel_rfl)
  (of_decide_eq_true (by kernel_rfl)) (by unfold Func.isWrapper; first | (rw [if_pos (by decide +kernel)]; kernel_rfl) | (rw [if_neg (by decide +kernel)]; exact ⟨rfl, rfl⟩))
  (fun os started H enc _ => liftedImageGraph os started H enc)
#print axioms provedImageGraph
end Go.Proofs.Ytpkmjenoniedjaa
