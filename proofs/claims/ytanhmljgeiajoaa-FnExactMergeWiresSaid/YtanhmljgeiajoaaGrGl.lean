/-
  THE WALK: impl.Graph.glue.
-/
import Derived.Test.YtanhmljgeiajoaaGrGc
namespace Go.Proofs.Ytanhmljgeiajoaa
open Go.RowKit

abbrev tGu : TypeId := 79
/-- Pairs of ints in memory. -/
def RdP (w : World) (Q : Option Addr) (ps : List (Int × Int)) : Prop := ∀ j a b, ps[j]? = some (a, b) → ∃ ad, Q = some ad ∧ w.cell? (ad.add (j * 2)) = some (.int .i64 a) ∧ w.cell? ⟨(ad.add (j * 2)).block, (ad.add (j * 2)).off + 1, none⟩ = some (.int .i64 b)
theorem RdP.below {w w' : World} {Q : Option Addr} {ps : List (Int × Int)} (h : RdP w Q ps) (hb : Below w.heap.size w w') : RdP w' Q ps := fun j a b hj => by
  obtain ⟨ad, e, h1, h2⟩ := h j a b hj
  exact ⟨ad, e, (hb.cell (World.block_lt_of_cell? _ _ h1)).trans h1, (hb.cell (World.block_lt_of_cell? _ _ h2)).trans h2⟩
theorem box5 {B : Nat} {w : World} {x y z u r : Value} {t : TypeId} (h : w.heap[B]? = some (.cells #[x, y, z, u, r] t)) :
    (w.cell? ⟨B, 0, none⟩ = some x ∧ w.cell? ⟨B, 1, none⟩ = some y ∧ w.cell? ⟨B, 2, none⟩ = some z ∧ w.cell? ⟨B, 3, none⟩ = some u ∧ w.cell? ⟨B, 4, none⟩ = some r) ∧ w.frozen? ⟨B, 0, none⟩ = false ∧ w.frozen? ⟨B, 1, none⟩ = false ∧ w.frozen? ⟨B, 2, none⟩ = false ∧ w.frozen? ⟨B, 3, none⟩ = false ∧ w.frozen? ⟨B, 4, none⟩ = false := by
  simp [World.cell?, World.frozen?, h]
theorem set5 {w : World} {B : Nat} {t : TypeId} {x y z u v a b c d e : Value} (h : w.heap[B]? = some (.cells #[x, y, z, u, v] t)) : (((((w.setCell ⟨B, 0, none⟩ a).setCell ⟨B, 1, none⟩ b).setCell ⟨B, 2, none⟩ c).setCell ⟨B, 3, none⟩ d).setCell ⟨B, 4, none⟩ e).heap[B]? = some (.cells #[a, b, c, d, e] t) ∧ Keeps (· = B) w (((((w.setCell ⟨B, 0, none⟩ a).setCell ⟨B, 1, none⟩ b).setCell ⟨B, 2, none⟩ c).setCell ⟨B, 3, none⟩ d).setCell ⟨B, 4, none⟩ e) := by
  obtain ⟨h1, k1⟩ := box_set h 0 a
  obtain ⟨h2, k2⟩ := box_set h1 1 b
  obtain ⟨h3, k3⟩ := box_set h2 2 c
  obtain ⟨h4, k4⟩ := box_set h3 3 d
  obtain ⟨h5, k5⟩ := box_set h4 4 e
  exact ⟨h5, (((k1.trans k2).trans k3).trans k4).trans k5⟩
set_option maxRecDepth 100000 in
set_option maxHeartbeats 16000000 in
theorem glue_any {v : Value} {g : Gr} (w : World) (n : Nat) (X : Option Addr) (xc q : Nat) (ps : List (Int × Int)) (h : RdGr w v g) (ok : OkG g) (hgn : g.1 = (n : Int)) (hv : grB g = true)
    (hX : RdP w X ps) (hq : ps.length = q) (hqb : q ≤ 1048576) (hin : ∀ q, q ∈ ps → (0 ≤ q.1 ∧ q.1 < n) ∧ 0 ≤ q.2 ∧ q.2 < n) :
    Calls Try.prog 68 #[v, .slice X q xc] w fun e w' => ∃ A1 n1 c1 B1 m1 d1 C1 k1 e1 fp A c, e = .returned (.agg #[.int .i64 (mapG (numM (joinsM (idW n) ps)) (nrM (joinsM (idW n) ps) n : Int) g).1, .slice A1 n1 c1, .slice B1 m1 d1, .slice C1 k1 e1, .slice A n c]) ∧ OwGr w' (.agg #[.int .i64 (mapG (numM (joinsM (idW n) ps)) (nrM (joinsM (idW n) ps) n : Int) g).1, .slice A1 n1 c1, .slice B1 m1 d1, .slice C1 k1 e1]) (mapG (numM (joinsM (idW n) ps)) (nrM (joinsM (idW n) ps) n : Int) g) fp ∧ FreshL w.heap.size fp ∧ IS w' A c (numM (joinsM (idW n) ps)) ∧ Fresh w.heap.size A ∧ Below w.heap.size w w' := by
  obtain ⟨n', e1', hn1, hm60, _, _, hinW⟩ := grB_parts hv
  obtain rfl : n' = n := by omega
  have hful := fun (w : Nat) (hw : w < n') => grB_full hv hgn hw
  have hCls := fun j => Cls.clsP hin j
  have hCP := clsP_all n' ps
  rw [hq] at hCP
  obtain ⟨C, hC⟩ : ∃ C, C = joinsM (idW n') ps := ⟨_, rfl⟩
  rw [← hC] at hCP ⊢
  have hCm := hCls q
  rw [hCP] at hCm
  clear hC
  have hG0 := h
  obtain ⟨A, n0, c, B, m0, d, C', k0', e0, rfl⟩ := h.shape
  rw [hgn] at h ⊢
  obtain ⟨n, rfl⟩ : ∃ x, x = n' := ⟨_, rfl⟩
  obtain ⟨W, hW, bW, k0, k1⟩ := allocs2 w (.cells #[.int .i64 (n : Int), .slice A n0 c, .slice B m0 d, .slice C' k0' e0] tGr) (.cells #[.int .i64 0, .slice none 0 0, .slice none 0 0, .slice none 0 0, .slice none 0 0] tGu)
  have hGW := h.below bW
  have hMap := fun (W' : World) (hb : Below W.heap.size W W') (Z : Option Addr) (zc : Nat) (hz : RdI W' Z (numM C)) => moved_any W' (nrM C n : Int) Z zc n (numM C) (hGW.below hb) ok hz (by rw [numM_length, hCm.len]) hinW
  have hinA := fun x hx => inW_iff.1 hinW x hx
  have hU := upTo_any n W (by omega)
  have hZ := fun (W' : World) => zeros_any n W' (by omega)
  have hXW := hX.below bW
  obtain ⟨⟨c0, c1, c2, c3⟩, f0, f1, f2, f3⟩ := box4 k0
  obtain ⟨Rg, hRg⟩ : ∃ Rg, Rg = mapG (numM C) (nrM C n : Int) g := ⟨_, rfl⟩
  rw [← hRg]
  simp only [← hRg] at hMap
  clear hv e1' hinW hX hgn h
  have hCls_h := Lib.hid hCls
  have hCP_h := Lib.hid hCP
  have bW_h := Lib.hid bW
  have k0_h := Lib.hid k0
  have k1_h := Lib.hid k1
  have hCm_h := Lib.hid hCm
  have hMap_h := Lib.hid hMap
  have hXW_h := Lib.hid hXW
  have hin_h := Lib.hid hin
  have hRg_h := Lib.hid hRg
  have hq_h := Lib.hid hq
  have hU_h := Lib.hid hU
  have hZ_h := Lib.hid hZ
  have hful_h := Lib.hid hful
  have hinA_h := Lib.hid hinA
  have ok_h := Lib.hid ok
  have hGW_h := Lib.hid hGW
  have hG0_h := Lib.hid hG0
  clear hCls hCP bW k0 k1 hCm hMap hXW hin hRg hq hU hZ hful hinA ok hGW hG0
  go_enter Try.func68, Try.ntmps68
  go_upto_region 1 with (fail)
  rw [← hW]
  clear hW
  go_wp2_with (fail)
  refine (hU_h.out).mono ?_
  rintro e w1 ⟨G, rfl, hG1, hGb, hb1⟩
  obtain ⟨W1, hW1, bW1, k5⟩ := (⟨_, rfl, below_alloc _ _, heap_alloc_new _ _⟩ : ∃ W, W = w1.alloc (.cells #[.slice (some G) n n] tCl) ∧ Below w1.heap.size w1 W ∧ W.heap[w1.heap.size]? = some (.cells #[.slice (some G) n n] tCl))
  have hB1 := below_trans hb1 bW1 hb1.size
  have hG2 := hG1.below bW1
  have hGl := hG1.lt G.block (by simp)
  have hz1 := hb1.size
  clear c0 c1 c2 c3 f0 f1 f2 f3 hb1 hG1
  have k5_h := Lib.hid k5
  have hB1_h := Lib.hid hB1
  have hG2_h := Lib.hid hG2
  clear k5 hB1 hG2
  go_upto_region 2 with (fail)
  rw [← hW1]
  clear hW1
  go_wp2_with (fail)
  go_loopw [18] (fun i wr => ∃ (j : Nat) (P : List Int), j ≤ q ∧ i = .int .i64 j ∧ IS wr (some G) n P ∧ Par n P (clsP n ps j) ∧ wr.heap[w1.heap.size]? = some (.cells #[.slice (some G) n n] tCl) ∧ Below W.heap.size W wr) (fun i _ => q - (intOf i).toNat)
  case atStart => exact ⟨0, _, Nat.zero_le _, rfl, hG2_h.out, by rw [clsP_zero]; exact Par.id n, k5_h.out, hB1_h.out⟩
  case round =>
   clear hG2_h k5_h hB1_h
   obtain ⟨j, Pj, hj, rfl, hISj, hParj, k5, hBj⟩ := hrel
   obtain ⟨wi, rfl⟩ : ∃ x, x = wr := ⟨_, rfl⟩
   by_cases hltj : j < q
   · obtain ⟨⟨x1, x2⟩, hx⟩ : ∃ x, ps[j]? = some x := ⟨_, List.getElem?_eq_getElem (by rw [hq_h.out]; exact hltj)⟩
     have hxr := hin_h.out _ (List.mem_of_getElem? hx)
     simp only at hxr
     obtain ⟨bb, rfl⟩ : ∃ bb : Nat, x1 = (bb : Int) := ⟨x1.toNat, by omega⟩
     obtain ⟨a, rfl⟩ : ∃ bb : Nat, x2 = (bb : Int) := ⟨x2.toNat, by omega⟩
     have hbn : bb < n := by omega
     have han : a < n := by omega
     obtain ⟨xd, rfl, y0, y1⟩ := (hXW_h.out.below hBj) j _ _ hx
     obtain ⟨W6, hW6, bW6, k6⟩ := (⟨_, rfl, below_alloc _ _, heap_alloc_new _ _⟩ : ∃ W, W = wi.alloc (.cells #[.int .i64 (bb : Int), .int .i64 (a : Int)] 81) ∧ Below wi.heap.size wi W ∧ W.heap[wi.heap.size]? = some (.cells #[.int .i64 (bb : Int), .int .i64 (a : Int)] 81))
     have hjn := join_any G n bb a Pj _ W6 (hISj.below bW6) hParj (hCls_h.out j) hbn han
     rw [← clsP_step (n := n) hx] at hjn
     have k56 := box_below k5 bW6
     obtain ⟨z0, z1⟩ := box1 k56
     obtain ⟨⟨u0, u1⟩, v0, v1⟩ := box2 k6
     have hB6 := below_trans hBj bW6 hBj.size
     have hjI : (j : Int) < (q : Int) := by omega
     clear hISj hParj k5 bW6 k6 hBj hxr
     have hjn_h := Lib.hid hjn
     have hx_h := Lib.hid hx
     have k56_h := Lib.hid k56
     have hB6_h := Lib.hid hB6
     clear hjn hx k56 hB6
     go_upto_region 5 with (fail)
     rw [← hW6]
     clear hW6 y0 y1
     go_wp2_with (fail)
     refine (hjn_h.out).mono ?_
     rintro e w9 ⟨rfl, P9, hI9, hP9, hk9⟩
     have k59 := box_keeps k56_h.out hk9 (fun e => by simp at e; omega)
     have hB9 := below_keeps hB6_h.out hk9 hB6_h.out.size (fun b hb => by simp at hb; omega)
     clear hk9 z0 z1 u0 u1 v0 v1
     have hI9_h := Lib.hid hI9
     have hP9_h := Lib.hid hP9
     have k59_h := Lib.hid k59
     have hB9_h := Lib.hid hB9
     clear hI9 hP9 k59 hB9
     go_wp2_with (fail)
     go_roundw
     case rel => exact ⟨j + 1, P9, by omega, by go_num, hI9_h.out, hP9_h.out, k59_h.out, hB9_h.out⟩
     case measure => simp [intOf]; omega
   · obtain rfl : q = j := by omega
     rw [hCP_h.out] at hParj
     have kr := box_below k0_h.out hBj
     obtain ⟨⟨y0, y1, y2, y3⟩, g0, g1, g2, g3⟩ := box4 kr
     have hGl2 := hISj.lt G.block (by simp)
     have hxk := box_lt k5
     have hWo := hBj.size
     clear kr
     have hISj_h := Lib.hid hISj
     have hParj_h := Lib.hid hParj
     have k5_h := Lib.hid k5
     have hBj_h := Lib.hid hBj
     clear hISj hParj k5 hBj
     go_upto_region 8 with (at_make; refine wpList_make_Sl _ rfl _ _ _ rfl tBool Try.underlying106 info_bool n n rfl rfl rfl rfl (Nat.le_refl _) (by omega) (by unfold maxLen; omega) ?_; intro U w5 hs0 hUb hb5)
     have hU5 : Sl w5 tBool 1 (some U) n n (bls (seenM n (rootL C []))) := by
       have e : (madeCells (Value.bool false).cells (n * 1)).toList.take (n * 1) = bls (List.replicate n false) := by
         rw [Nat.mul_one]; simp [Value.cells, toList_madeCells_one, bls]
       show Sl w5 tBool 1 (some U) n n (bls (seenM n []))
       rw [seenM_nil, ← e]; exact hs0
     have hISj5 := hISj_h.out.below hb5
     have k55 := box_below k5_h.out hb5
     have hB5 := below_trans hBj_h.out hb5 hBj_h.out.size
     have hUl := hU5.lt U.block (by simp)
     obtain ⟨W6, hW6, bW6, k8⟩ := (⟨_, rfl, below_alloc _ _, heap_alloc_new _ _⟩ : ∃ W, W = w5.alloc (.cells #[.slice (some U) n n] tBools) ∧ Below w5.heap.size w5 W ∧ W.heap[w5.heap.size]? = some (.cells #[.slice (some U) n n] tBools))
     have hB6 := below_trans hB5 bW6 hB5.size
     have hGU0 : GU n w5.heap.size w1.heap.size U G Pj C [] W6 := ⟨k8, box_below k55 bW6, hU5.below bW6, hISj5.below bW6⟩
     have hLI := lists_any W hGW_h.out ok_h.out 107 #[.pointer (some ⟨w5.heap.size, 0, none⟩), .pointer (some ⟨w1.heap.size, 0, none⟩)] (fun _ _ => rfl)
       (fun l W => GU n w5.heap.size w1.heap.size U G Pj C l W) [U.block]
       (fun x hx => by simp at hx; omega) (fun l W W' h hb => h.below hb)
       (fun l B' c' m' W' hI hm' hall hml => glueC_any n w5.heap.size w1.heap.size U G Pj C l B' c' m' W' hParj_h.out hCm_h.out hml (fun x hx => hinA_h.out x (hall x hx)) (by omega) (by omega) (by omega) hI hm')
       W6 hGU0 hB6 (fun x hx => by have := bW6.size; simp at hx; omega)
     have hmf : ∀ (fn : Fn) (first cap : Array Value) (w : World), (Instr.makeFunc fn first cap).run Try.prog w = .ok (.func fn first cap) w := fun _ _ _ _ => rfl
     obtain ⟨SB, hSB⟩ : ∃ S, S = seenM n (rootL C (allW g)) := ⟨_, rfl⟩
     have hseen : ∀ k u : Nat, k < n → C.getD k 0 = (u : Int) → SB[u]? = some true := fun k u hk hu => by
       have hle := (hCm_h.out.le k hk).2
       rw [hSB]
       refine seen_all (by omega) (List.mem_map.2 ⟨(k : Int), hful_h.out k hk, ?_⟩)
       rw [Int.toNat_natCast]; exact hu
     have hLI2 : Calls Try.prog 91 #[.agg #[.int .i64 (n : Int), .slice A n0 c, .slice B m0 d, .slice C' k0' e0], .func (.func 107) #[] #[.pointer (some ⟨w5.heap.size, 0, none⟩), .pointer (some ⟨w1.heap.size, 0, none⟩)]] W6 fun e w' => e = .returned (.tuple #[]) ∧ (w'.heap[w5.heap.size]? = some (.cells #[.slice (some U) n n] tBools) ∧ w'.heap[w1.heap.size]? = some (.cells #[.slice (some G) n n] tCl) ∧ Sl w' tBool 1 (some U) n n (bls SB) ∧ IS w' (some G) n Pj) ∧ Keeps (· ∈ [U.block]) W6 w' := hLI.mono fun e w' ⟨h1, h2, h3⟩ => ⟨h1, ⟨h2.hu, h2.hc, by rw [hSB]; exact h2.hse, h2.his⟩, h3⟩
     have kr6 := box_below k0_h.out hB6
     have hz5 := hb5.size
     clear y0 y1 y2 y3 g0 g1 g2 g3 hs0 hU5 hISj5 k55 hLI hGU0 hSB hb5 hB5 k8 hISj_h k5_h
     obtain ⟨⟨y0, y1, y2, y3⟩, g0, g1, g2, g3⟩ := box4 kr6
     have hz6 := bW6.size
     clear kr6
     have hB6_h := Lib.hid hB6
     have hLI2_h := Lib.hid hLI2
     have hseen_h := Lib.hid hseen
     have bW6_h := Lib.hid bW6
     clear hB6 hLI2 hseen bW6
     rw [← hW6]
     clear hW6
     go_wp2_with (fail)
     refine (hLI2_h.out).mono ?_
     rintro e w9 ⟨rfl, ⟨k8, k5, hU9, hI9⟩, hk9⟩
     have hB9 := below_keeps hB6_h.out hk9 hB6_h.out.size (fun x hx => by simp at hx; omega)
     have kr9 := box_below k0_h.out hB9
     have hs9 := hk9.size
     clear y0 y1 y2 y3 g0 g1 g2 g3 hmf hk9
     obtain ⟨⟨y0, y1, y2, y3⟩, g0, g1, g2, g3⟩ := box4 kr9
     have hZw := hZ_h.out w9
     clear kr9
     have k8_h := Lib.hid k8
     have k5_h := Lib.hid k5
     have hU9_h := Lib.hid hU9
     have hI9_h := Lib.hid hI9
     have hB9_h := Lib.hid hB9
     have hZw_h := Lib.hid hZw
     clear k8 k5 hU9 hI9 hB9 hZw
     go_wp2_with (fail)
     refine (hZw_h.out).mono ?_
     rintro e w2 ⟨Z, rfl, hZ0, hZb, hb2⟩
     have hI2 := hI9_h.out.below hb2
     have hU2 := hU9_h.out.below hb2
     have k82 := box_below k8_h.out hb2
     have k52 := box_below k5_h.out hb2
     have hB2 := below_trans hB9_h.out hb2 hB9_h.out.size
     have hGZ : ∀ b, b ∈ fpA (some G) → ¬ b ∈ fpA (some Z) := fun b hb hb' => by
       have := hI9_h.out.lt G.block (by simp)
       simp at hb hb'; omega
     have hUZ : ∀ b, b ∈ fpA (some U) → ¬ b ∈ fpA (some Z) := fun b hb hb' => by
       have := hU9_h.out.lt U.block (by simp)
       simp at hb hb'; omega
     have hx8 := box_lt k8_h.out
     have hx5 := box_lt k5_h.out
     have hWo' := hB9_h.out.size
     clear y0 y1 y2 y3 g0 g1 g2 g3 hb2 hI9_h hU9_h k8_h k5_h
     have hZ0_h := Lib.hid hZ0
     have hI2_h := Lib.hid hI2
     have hU2_h := Lib.hid hU2
     have k82_h := Lib.hid k82
     have k52_h := Lib.hid k52
     have hB2_h := Lib.hid hB2
     have hGZ_h := Lib.hid hGZ
     have hUZ_h := Lib.hid hUZ
     clear hZ0 hI2 hU2 k82 k52 hB2 hGZ hUZ
     go_wp2_with (fail)
     go_loopw [40, 10] (fun i u wr => ∃ k : Nat, k ≤ n ∧ i = .int .i64 k ∧ u = .int .i64 (nrM C k : Int) ∧ IS wr (some Z) n ((numM C).take k ++ List.replicate (n - k) 0) ∧ IS wr (some G) n Pj ∧ Sl wr tBool 1 (some U) n n (bls SB) ∧ wr.heap[w5.heap.size]? = some (.cells #[.slice (some U) n n] tBools) ∧ wr.heap[w1.heap.size]? = some (.cells #[.slice (some G) n n] tCl) ∧ Below W.heap.size W wr) (fun i _ _ => n - (intOf i).toNat)
     case atStart => exact ⟨0, Nat.zero_le _, rfl, rfl, by simpa using hZ0_h.out, hI2_h.out, hU2_h.out, k82_h.out, k52_h.out, hB2_h.out⟩
     case round =>
      clear hZ0_h hI2_h hU2_h k82_h k52_h hB2_h
      obtain ⟨k, hk, rfl, rfl, hIZ, hIG, hU, k8, k5, hBk⟩ := hrel
      obtain ⟨wj, rfl⟩ : ∃ x, x = wr := ⟨_, rfl⟩
      have hnl : (numM C).length = n := by rw [numM_length, hCm_h.out.len]
      by_cases hlt : k < n
      · have hroot := root_any G n k Pj C wj hIG.rd hParj_h.out hlt
        obtain ⟨hr0, hrk⟩ := hCm_h.out.le k hlt
        obtain ⟨u, hu⟩ : ∃ u : Nat, C.getD k 0 = (u : Int) := ⟨(C.getD k 0).toNat, by omega⟩
        have hfu := hCm_h.out.fix k hlt
        rw [hu] at hroot hr0 hrk hfu
        rw [Int.toNat_natCast] at hfu
        have hun : u < n := by omega
        have huI2 : (u : Int) < (n : Int) := by omega
        obtain ⟨ud, e2, -, u0, u1⟩ := Sl.cell hU (bls_get (hseen_h.out k u hlt hu))
        obtain rfl := Option.some.inj e2
        obtain ⟨q0, q1⟩ := box1 k8
        obtain ⟨q2, q3⟩ := box1 k5
        have hnk := numM_at hCm_h.out hlt hu
        have htk := numM_take hnk
        have hlenZ : ((numM C).take k ++ List.replicate (n - k) (0 : Int)).length = n := by rw [List.length_append, List.length_take, List.length_replicate, hnl]; omega
        have hstep : ((numM C).take k ++ List.replicate (n - k) (0 : Int)).set k (nrM C u : Int) = (numM C).take (k + 1) ++ List.replicate (n - (k + 1)) 0 := by
          rw [htk]; exact set_rep_step _ _ _ (by rw [List.length_take, hnl]; omega) hlt
        have hset := hIZ.set (ad := Z) rfl (j := k) (nrM C u : Int) (by rw [hlenZ]; exact hlt)
        rw [hstep] at hset
        have hks : Keeps (· ∈ fpA (some Z)) wj (wj.setCell (Z.add k) (.int .i64 (nrM C u : Int))) := Keeps.setCell (S := (· ∈ fpA (some Z))) (Keeps.refl _ wj) (p := Z.add k) (by rw [block_of_add]; simp) _
        have hIG2 := hIG.keeps hks hGZ_h.out
        have hU2 := hU.keeps hks hUZ_h.out
        have k82 := box_keeps k8 hks (fun e => by simp at e; omega)
        have k52 := box_keeps k5 hks (fun e => by simp at e; omega)
        have hBk2 := below_keeps hBk hks hBk.size (fun b hb => by simp at hb; omega)
        obtain ⟨zd, z0, ze, _, _, zc, zf⟩ := hIZ.at_ (j := k) (by rw [hlenZ]; exact hlt)
        obtain rfl := Option.some.inj ze
        have zfk := zf k
        have hkI : (k : Int) < (n : Int) := by omega
        have hle := nrM_le C k
        by_cases huk : u < k
        · have huI : (u : Int) < (k : Int) := by omega
          have hsk : nrM C (k + 1) = nrM C k := nrM_skip (by rw [hu]; omega)
          have hnu := numM_at hCm_h.out (k := u) (r := u) (by omega) hfu
          have hzu : ((numM C).take k ++ List.replicate (n - k) (0 : Int))[u]? = some (nrM C u : Int) := by
            rw [List.getElem?_append_left (by rw [List.length_take, hnl]; omega), List.getElem?_take_of_lt huk]; exact hnu
          obtain ⟨zd2, ze2, zcu⟩ := hIZ.rd u _ hzu
          obtain rfl := Option.some.inj ze2
          clear zf hnk htk hstep hnl hlenZ hIZ hIG hU hks ze ze2 e2 hfu hr0 hrk k8 k5 hBk
          have hroot_h := Lib.hid hroot
          have hset_h := Lib.hid hset
          have hIG2_h := Lib.hid hIG2
          have hU2_h := Lib.hid hU2
          have k82_h := Lib.hid k82
          have k52_h := Lib.hid k52
          have hBk2_h := Lib.hid hBk2
          have hsk_h := Lib.hid hsk
          have hu_h := Lib.hid hu
          have hnu_h := Lib.hid hnu
          have hzu_h := Lib.hid hzu
          clear hroot hset hIG2 hU2 k82 k52 hBk2 hsk hu hnu hzu
          go_wp2_with (fail)
          refine (hroot_h.out).mono ?_
          rintro e w' ⟨rfl, rfl⟩
          go_wp2_with (fail)
          go_roundw
          case rel => exact ⟨k + 1, by omega, by go_num, by rw [hsk_h.out], hset_h.out, hIG2_h.out, hU2_h.out, k82_h.out, k52_h.out, hBk2_h.out⟩
          case measure => simp [intOf]; omega
        · obtain rfl : u = k := by omega
          have hsk : nrM C (u + 1) = nrM C u + 1 := nrM_new hu
          have huI : ¬ (u : Int) < (u : Int) := by omega
          clear zf hnk htk hstep hnl hlenZ hIZ hIG hU hks ze e2 hfu hr0 hrk k8 k5 hBk
          have hroot_h := Lib.hid hroot
          have hset_h := Lib.hid hset
          have hIG2_h := Lib.hid hIG2
          have hU2_h := Lib.hid hU2
          have k82_h := Lib.hid k82
          have k52_h := Lib.hid k52
          have hBk2_h := Lib.hid hBk2
          have hsk_h := Lib.hid hsk
          have hu_h := Lib.hid hu
          clear hroot hset hIG2 hU2 k82 k52 hBk2 hsk hu
          go_wp2_with (fail)
          refine (hroot_h.out).mono ?_
          rintro e w' ⟨rfl, rfl⟩
          go_wp2_with (fail)
          go_roundw
          case rel => exact ⟨u + 1, by omega, by go_num, by rw [hsk_h.out]; go_num, hset_h.out, hIG2_h.out, hU2_h.out, k82_h.out, k52_h.out, hBk2_h.out⟩
          case measure => simp [intOf]; omega
      · obtain rfl : n = k := by omega
        rw [List.take_of_length_le (by omega), Nat.sub_self, List.replicate_zero, List.append_nil] at hIZ
        have kr := box_below k0_h.out hBk
        have k1r := box_below k1_h.out hBk
        obtain ⟨⟨y0, y1, y2, y3⟩, g0, g1, g2, g3⟩ := box4 kr
        have hMw := hMap_h.out wj hBk (some Z) n hIZ.rd
        have hB0 := below_trans bW_h.out hBk bW_h.out.size
        clear hIG hU hnl kr k8 k5
        have hIZ_h := Lib.hid hIZ
        have hBk_h := Lib.hid hBk
        have hMw_h := Lib.hid hMw
        have k1r_h := Lib.hid k1r
        have hB0_h := Lib.hid hB0
        clear hIZ hBk hMw k1r hB0
        go_wp2_with (fail)
        refine (hMw_h.out).mono ?_
        rintro e w8 ⟨v8, fp8, rfl, hO8, hf8, hb8⟩
        obtain ⟨A8, n8, c8, B8, m8, d8, C8, q8, u8, rfl⟩ := hO8.shape
        have k1d := box_below k1r_h.out hb8
        have hB8 := below_trans hB0_h.out hb8 hB0_h.out.size
        obtain ⟨⟨d0, d1, d2, d3, d4⟩, g0', g1', g2', g3', g4'⟩ := box5 k1d
        obtain ⟨s1, s2⟩ := set5 (a := .int .i64 Rg.1) (b := .slice A8 n8 c8) (c := .slice B8 m8 d8) (d := .slice C8 q8 u8) (e := .slice (some Z) n n) k1d
        have hBs := below_keeps hB8 s2 hB8.size (fun k hk => by omega)
        have hwW := bW_h.out.size
        have hwk := hBk_h.out.size
        have hk1 := box_lt k1_h.out
        have hOs := hO8.keeps s2 (fun x hx e => by have := hf8 x hx; omega)
        have hFs : FreshL w.heap.size fp8 := fun x hx => by have := hf8 x hx; omega
        have hZs := (hIZ_h.out.below hb8).keeps s2 (fun x hx e => by simp at hx; omega)
        have hFz : Fresh w.heap.size (some Z) := fun b hb => by simp at hb; omega
        clear hb8 hO8 hB8 k1d s2 hf8 y0 y1 y2 y3 g0 g1 g2 g3
        have s1_h := Lib.hid s1
        have hBs_h := Lib.hid hBs
        have hOs_h := Lib.hid hOs
        have hFs_h := Lib.hid hFs
        have hZs_h := Lib.hid hZs
        have hFz_h := Lib.hid hFz
        clear s1 hBs hOs hFs hZs hFz
        go_wp2_with (fail)
        refine bodyPost_ret (results_cell_row rfl _ _ (w.heap.size + 1) _ _ (0, 0) _ rfl s1_h.out Try.underlying79 rfl (by kernel_rfl)) rfl ?_
        exact ⟨_, _, _, _, _, _, _, _, _, _, _, _, rfl, hOs_h.out, hFs_h.out, hZs_h.out, hFz_h.out, hBs_h.out⟩

end Go.Proofs.Ytanhmljgeiajoaa
