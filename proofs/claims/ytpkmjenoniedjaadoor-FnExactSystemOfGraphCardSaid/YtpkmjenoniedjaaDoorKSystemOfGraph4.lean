/-
  What the texts above it need, part 4.
-/
import Derived.Test.YtpkmjenoniedjaaDoorKSystemOfGraph3
import Derived.Deep.DeepCutAuto
import Derived.LoopN
import Derived.Deep.QuietTactic
import Derived.BigQuiet
import Derived.Test.YtpkmjenoniedjaaDoorCards
import Derived.Test.YtpkmjenoniedjaaDoorTie
import Derived.ProofKit
import Derived.OpenShut
import Derived.Deep.DeepHandedRow
import Derived.Lib.LaidTab
namespace Go.Proofs.YtpkmjenoniedjaaDoor
open Go.RowKit
def PRsF (B n : Nat) (L : List (List Int)) (v : Value) (w : World) : Prop := ∃ A c hs, v = .slice A n c ∧ hs.length = n ∧ hs.map (fun h : Hd => h.2.2) = L ∧ RdR w A hs ∧ (∀ x, x ∈ hs → IS w x.1 x.2.1 x.2.2) ∧ ∀ b, b ∈ fpA A → B ≤ b
theorem PRsF.stb (B n : Nat) (L : List (List Int)) : Stb (PRsF B n L) := fun _ _ _ h hb => by obtain ⟨A, c, hs, h1, h2, h3, h4, h5, h6⟩ := h; exact ⟨A, c, hs, h1, h2, h3, h4.below hb, fun x hx => (h5 x hx).below hb, h6⟩
theorem PRsF.laid (B : Nat) (w : World) (hB : B ≤ w.heap.size) (hs : List Hd) (h : ∀ x, x ∈ hs → IS w x.1 x.2.1 x.2.2) (hl : hs.length ≤ maxLen) : PRsF B hs.length (hs.map fun h : Hd => h.2.2) (.slice (some ⟨w.heap.size, 0, none⟩) hs.length hs.length) (w.alloc (.cells (hs.map Hd.val).toArray 23)) := by
 have h1 : RdR (w.alloc (.cells (hs.map Hd.val).toArray 23)) (some ⟨w.heap.size, 0, none⟩) hs := by
  have hsl := Sl.laid w 23 1 hs.length (hs.map Hd.val).toArray hl (by simp)
  refine ⟨fun i x hi => ?_, fun x hx => (h x hx).rd.below (below_alloc _ _)⟩
  obtain ⟨ad, hA, _, hc, _⟩ := hsl.cell (j := i) (u := x.val) (by simp [hi])
  exact ⟨ad, hA, by simpa using hc⟩
 exact ⟨_, _, hs, rfl, rfl, rfl, h1, fun x hx => (h x hx).below (below_alloc _ _), fun b hb => by simp at hb; omega⟩
def RetRcF (w : World) (L : List (List Int)) (e : Ending) (w' : World) : Prop := ∃ v, e = .returned v ∧ PRsF w.heap.size L.length L v w' ∧ Below w.heap.size w w'
set_option maxRecDepth 100000 in
set_option maxHeartbeats 4000000 in
theorem dnRowsF_any (p : Int) (n : Nat) (k v : Int) (A B : Option Addr) (a b : Nat) (l m : List Int) (w : World) (hA : RdI w A l) (hB : RdI w B m) (hk : 3 ≤ k ∧ k ≤ 14) (hty : ((l.length : Int), (m.length : Int)) = kindTy k) (hat : ∀ x, x ∈ l ++ m → 0 ≤ x ∧ x < (n : Int)) (hv0 : 0 ≤ v) (hvp : v < p) (h2p : 2 ≤ p) (h97 : p ≤ 97) (hn : n ≤ 1048576) :
  Calls Tryd.prog 33 #[.int .i64 p, .int .i64 (n : Int), .agg #[.int .i64 k, .int .i64 v, .slice A l.length a, .slice B m.length b]] w (RetRcF w (dnRowsM p n (k, v, l, m))) := by
 have h0 : 0 < p := by omega
 have hw1 : IntKind.i64.wrap (p - 1) = p - 1 := IntWalk.i64_in _ (by omega)
 have hem := Int.emod_nonneg (-v) (show p ≠ 0 by omega)
 have hem2 := Int.emod_lt_of_pos (-v) h0
 have hc : k = 3 ∨ k = 4 ∨ k = 5 ∨ k = 6 ∨ k = 7 ∨ k = 8 ∨ k = 9 ∨ k = 10 ∨ k = 11 ∨ k = 12 ∨ k = 13 ∨ k = 14 := by omega
 rcases hc with rfl | rfl | rfl | rfl | rfl | rfl | rfl | rfl | rfl | rfl | rfl | rfl
 · have hll : l.length = 1 := by have h1 := congrArg Prod.fst hty; have h2 : (l.length : Int) = 1 := h1; omega
   have hml : m.length = 2 := by have h1 := congrArg Prod.snd hty; have h2 : (m.length : Int) = 2 := h1; omega
   clear hty hk
   obtain ⟨x0, rfl⟩ := len_one hll
   obtain ⟨y0, y1, rfl⟩ := len_two hml
   have hM : dnRowsM p n (3, v, [x0], [y0, y1]) = [sprV p n [y0, x0] [1, p - 1], sprV p n [y1, x0] [1, p - 1]] := rfl
   rw [hM]
   clear hM
   obtain ⟨ad, _, rfl, ex0, cx0⟩ := hA.at_ (j := 0) (by simp)
   obtain rfl := Option.some.inj ex0
   have cx0 : w.cell? ad = some (.int .i64 x0) := cx0
   have had0 : ad.add 0 = ad := rfl
   obtain ⟨bd, _, rfl, ey0, cy0⟩ := hB.at_ (j := 0) (by simp)
   obtain rfl := Option.some.inj ey0
   have cy0 : w.cell? bd = some (.int .i64 y0) := cy0
   have hbd0 : bd.add 0 = bd := rfl
   obtain ⟨ad', _, e', ey1, cy1⟩ := hB.at_ (j := 1) (by simp)
   obtain rfl := Option.some.inj e'
   obtain rfl := Option.some.inj ey1
   have cy1 : w.cell? ⟨bd.block, bd.off + 1, none⟩ = some (.int .i64 y1) := cy1
   have qx0 := hat x0 (by simp)
   have qy0 := hat y0 (by simp)
   have qy1 := hat y1 (by simp)
   clear hat
   obtain ⟨W, hW⟩ : ∃ W, W = w.alloc (.cells #[.int .i64 3, .int .i64 v, .slice (some ad) 1 a, .slice (some bd) 2 b] tEd) := ⟨_, rfl⟩
   have bW := below_alloc w (.cells #[.int .i64 3, .int .i64 v, .slice (some ad) 1 a, .slice (some bd) 2 b] tEd)
   have k0 := heap_alloc_new w (.cells #[.int .i64 3, .int .i64 v, .slice (some ad) 1 a, .slice (some bd) 2 b] tEd)
   rw [← hW] at bW k0
   have cx0 := cell_mvd bW cx0
   have cy0 := cell_mvd bW cy0
   have cy1 := cell_mvd bW cy1
   obtain ⟨⟨g0, g1, g2, g3⟩, f0, f1, f2, f3⟩ := box4 k0
   have bW_h := lH bW; have k0_h := lH k0; clear bW k0
   go_enter Tryd.func33, Tryd.ntmps33
   go_upto_region 1 with (fail)
   rw [← hW]
   clear hW
   go_quiet (fail)
   obtain ⟨Wd, hWd⟩ : ∃ Wd, Wd = W.drewN nq := ⟨_, rfl⟩
   have hbd : Below W.heap.size W Wd := by rw [hWd]; exact below_drewN (Below.refl _ _) nq
   rw [← hWd]
   clear hWd g0 g1 g2 g3 f0 f1 f2 f3
   replace k0_h := lH (box_below k0_h.out hbd)
   have cx0 := cell_mvd hbd cx0
   have cy0 := cell_mvd hbd cy0
   have cy1 := cell_mvd hbd cy1
   have hB0 := below_trans bW_h.out hbd bW_h.out.size
   clear hbd; have hB0_h := lH hB0; clear hB0
   obtain ⟨⟨g0, g1, g2, g3⟩, f0, f1, f2, f3⟩ := box4 k0_h.out
   go_wp2_with (fail)
   clear g0 g1 g2 g3 f0 f1 f2 f3
   have hbd : Below Wd.heap.size Wd Wd.drew := below_drewN (Below.refl _ _) 1
   refine beginH (fun w' => Below Wd.heap.size Wd w') (by kernel_rfl) ?_
   generalize Wd.drew = W1 at hbd ⊢
   refine tkH 0 ?_ rfl hbd (fun W' hW' => ?_) ?_; rotate_left; · (have zx0 := cell_mvd hW' cx0; have zy0 := cell_mvd hW' cy0; have zy1 := cell_mvd hW' cy1; clear hW'; go_simp; first | done | with_reducible rfl)
   simp only [Act.put, nS]
   refine tkH 1 ?_ rfl hbd (fun W' hW' => ?_) ?_; rotate_left; · (have zx0 := cell_mvd hW' cx0; have zy0 := cell_mvd hW' cy0; have zy1 := cell_mvd hW' cy1; clear hW'; go_simp; first | done | with_reducible rfl)
   simp only [Act.put, nS]
   refine tkH 2 ?_ rfl hbd (fun W' hW' => ?_) ?_; rotate_left; · (have zx0 := cell_mvd hW' cx0; have zy0 := cell_mvd hW' cy0; have zy1 := cell_mvd hW' cy1; clear hW'; go_simp; first | done | with_reducible rfl)
   simp only [Act.put, nS]
   refine tkH 3 ?_ rfl hbd (fun W' hW' => ?_) ?_; rotate_left; · (have zx0 := cell_mvd hW' cx0; have zy0 := cell_mvd hW' cy0; have zy1 := cell_mvd hW' cy1; clear hW'; go_simp; first | done | with_reducible rfl)
   simp only [Act.put, nS]
   refine tkH 4 ?_ rfl hbd (fun W' hW' => ?_) ?_; rotate_left; · (have zx0 := cell_mvd hW' cx0; have zy0 := cell_mvd hW' cy0; have zy1 := cell_mvd hW' cy1; clear hW'; go_simp; first | done | with_reducible rfl)
   simp only [Act.put, nS]
   refine tkH 5 ?_ rfl hbd (fun W' hW' => ?_) ?_; rotate_left; · (have zx0 := cell_mvd hW' cx0; have zy0 := cell_mvd hW' cy0; have zy1 := cell_mvd hW' cy1; clear hW'; go_simp; first | done | with_reducible rfl)
   simp only [Act.put, nS]
   refine tkH 6 ?_ rfl hbd (fun W' hW' => ?_) ?_; rotate_left; · (have zx0 := cell_mvd hW' cx0; have zy0 := cell_mvd hW' cy0; have zy1 := cell_mvd hW' cy1; clear hW'; go_simp; first | done | with_reducible rfl)
   simp only [Act.put, nS]
   refine tkH 7 ?_ rfl hbd (fun W' hW' => ?_) ?_; rotate_left; · (have zx0 := cell_mvd hW' cx0; have zy0 := cell_mvd hW' cy0; have zy1 := cell_mvd hW' cy1; clear hW'; go_simp; first | done | with_reducible rfl)
   simp only [Act.put, nS]
   refine tkH 9 ?_ rfl hbd (fun W' hW' => ?_) ?_; rotate_left; · (have zx0 := cell_mvd hW' cx0; have zy0 := cell_mvd hW' cy0; have zy1 := cell_mvd hW' cy1; clear hW'; go_simp; first | done | with_reducible rfl)
   simp only [Act.put, nS]
   refine tkH 10 ?_ rfl hbd (fun W' hW' => ?_) ?_; rotate_left; · (have zx0 := cell_mvd hW' cx0; have zy0 := cell_mvd hW' cy0; have zy1 := cell_mvd hW' cy1; clear hW'; go_simp; first | done | with_reducible rfl)
   simp only [Act.put, nS]
   refine tkH 13 ?_ rfl hbd (fun W' hW' => ?_) ?_; rotate_left; · (have zx0 := cell_mvd hW' cx0; have zy0 := cell_mvd hW' cy0; have zy1 := cell_mvd hW' cy1; clear hW'; go_simp; first | done | with_reducible rfl)
   simp only [Act.put, nS]
   refine tkH 14 ?_ rfl hbd (fun W' hW' => ?_) ?_; rotate_left; · (have zx0 := cell_mvd hW' cx0; have zy0 := cell_mvd hW' cy0; have zy1 := cell_mvd hW' cy1; clear hW'; go_simp; first | done | with_reducible rfl)
   simp only [Act.put, nS]
   refine tkH 15 ?_ rfl hbd (fun W' hW' => ?_) ?_; rotate_left; · (have zx0 := cell_mvd hW' cx0; have zy0 := cell_mvd hW' cy0; have zy1 := cell_mvd hW' cy1; clear hW'; go_simp; first | done | with_reducible rfl)
   simp only [Act.put, nS]
   refine tkH 16 ?_ rfl hbd (fun W' hW' => ?_) ?_; rotate_left; · (have zx0 := cell_mvd hW' cx0; have zy0 := cell_mvd hW' cy0; have zy1 := cell_mvd hW' cy1; clear hW'; go_simp; first | done | with_reducible rfl)
   simp only [Act.put, nS]
   refine tkH 17 ?_ rfl hbd (fun W' hW' => ?_) ?_; rotate_left; · (have zx0 := cell_mvd hW' cx0; have zy0 := cell_mvd hW' cy0; have zy1 := cell_mvd hW' cy1; clear hW'; go_simp; first | done | with_reducible rfl)
   simp only [Act.put, nS]
   refine tkH 18 ?_ rfl hbd (fun W' hW' => ?_) ?_; rotate_left; · (have zx0 := cell_mvd hW' cx0; have zy0 := cell_mvd hW' cy0; have zy1 := cell_mvd hW' cy1; clear hW'; go_simp; first | done | with_reducible rfl)
   simp only [Act.put, nS]
   refine tkH 19 ?_ rfl hbd (fun W' hW' => ?_) ?_; rotate_left; · (have zx0 := cell_mvd hW' cx0; have zy0 := cell_mvd hW' cy0; have zy1 := cell_mvd hW' cy1; clear hW'; go_simp; first | done | with_reducible rfl)
   simp only [Act.put, nS]
   refine tkH 20 ?_ rfl hbd (fun W' hW' => ?_) ?_; rotate_left; · (have zx0 := cell_mvd hW' cx0; have zy0 := cell_mvd hW' cy0; have zy1 := cell_mvd hW' cy1; clear hW'; go_simp; first | done | with_reducible rfl)
   simp only [Act.put, nS]
   refine tkH 22 ?_ rfl hbd (fun W' hW' => ?_) ?_; rotate_left; · (have zx0 := cell_mvd hW' cx0; have zy0 := cell_mvd hW' cy0; have zy1 := cell_mvd hW' cy1; clear hW'; go_simp; first | done | with_reducible rfl)
   simp only [Act.put, nS]
   refine tkH 23 ?_ rfl hbd (fun W' hW' => ?_) ?_; rotate_left; · (have zx0 := cell_mvd hW' cx0; have zy0 := cell_mvd hW' cy0; have zy1 := cell_mvd hW' cy1; clear hW'; go_simp; first | done | with_reducible rfl)
   simp only [Act.put, nS]
   refine relZ (P := Tryd.prog) [(8, 36), (11, 39), (12, 40), (21, 49), (24, 52), (25, 53), (26, 54), (27, 6)] (fun i => if i = 12 then [36, 39] else if i = 25 then [49, 52] else if i = 26 then [40, 53] else if i = 27 then [54] else []) (fun d v5 w5 => if d = 36 then PIn 2 [y0, x0] v5 w5 else if d = 39 then PIn 2 [1, p - 1] v5 w5 else if d = 40 then PIs n (sprV p n [y0, x0] [1, p - 1]) v5 w5 else if d = 49 then PIn 2 [y1, x0] v5 w5 else if d = 52 then PIn 2 [1, p - 1] v5 w5 else if d = 53 then PIs n (sprV p n [y1, x0] [1, p - 1]) v5 w5 else if d = 54 then PRsF w.heap.size 2 [sprV p n [y0, x0] [1, p - 1], sprV p n [y1, x0] [1, p - 1]] v5 w5 else if d = 6 then PRsF w.heap.size 2 [sprV p n [y0, x0] [1, p - 1], sprV p n [y1, x0] [1, p - 1]] v5 w5 else True) (by kernel_rfl) (fun d => Stb.ite (PIn.stb _ _) (Stb.ite (PIn.stb _ _) (Stb.ite (PIs.stb _ _) (Stb.ite (PIn.stb _ _) (Stb.ite (PIn.stb _ _) (Stb.ite (PIs.stb _ _) (Stb.ite (PRsF.stb _ _ _) (Stb.ite (PRsF.stb _ _ _) (Stb.true))))))))) (fun w' hw' => below_trans hbd hw' hbd.size) ?steps3 ?fin3
   case steps3 =>
    refine ⟨⟨_, rfl, fun xs w5 hb5 hd K hK => ?_⟩, ⟨_, rfl, fun xs w5 hb5 hd K hK => ?_⟩, ⟨_, rfl, fun xs w5 hb5 hd K hK => ?_⟩, ⟨_, rfl, fun xs w5 hb5 hd K hK => ?_⟩, ⟨_, rfl, fun xs w5 hb5 hd K hK => ?_⟩, ⟨_, rfl, fun xs w5 hb5 hd K hK => ?_⟩, ⟨_, rfl, fun xs w5 hb5 hd K hK => ?_⟩, ⟨_, rfl, fun xs w5 hb5 hd K hK => ?_⟩, trivial⟩
    · simp only [putZ, List.foldl_cons, List.foldl_nil, Act.put, nS] at hK ⊢
      go_simp
      exact hK _ _ (below_alloc _ _) ⟨_, 2, rfl, rd_laidC w5 [y0, x0] (by unfold maxLen; simp)⟩
    · simp only [putZ, List.foldl_cons, List.foldl_nil, Act.put, nS] at hK ⊢
      go_simp
      exact hK _ _ (below_alloc _ _) ⟨_, 2, rfl, rd_laidC w5 [1, p - 1] (by unfold maxLen; simp)⟩
    · obtain ⟨B1, c1, e1, r1⟩ := (hd 36 (by decide) : PIn 2 [y0, x0] (xs 36) w5)
      obtain ⟨B2, c2, e2, r2⟩ := (hd 39 (by decide) : PIn 2 [1, p - 1] (xs 39) w5)
      simp only [putZ, List.foldl_cons, List.foldl_nil, Act.put, nS] at hK ⊢
      simp only [e1, e2] at hK ⊢
      refine wp_callZ (f := ?f_3) (args := ?args_3) ?hr_3 ?hc_3
      case hr_3 => (go_simp; first | done | with_reducible rfl | (constructor <;> with_reducible rfl))
      case hc_3 =>
       refine (dnRow_any p n 2 B1 B2 c1 c2 [y0, x0] [1, p - 1] w5 r1 r2 rfl rfl (fun x hx => by simp at hx; omega) (fun x hx => by simp at hx; omega) h0 h97 hn (by omega)).mono ?_
       rintro e w6 ⟨B3, c3, rfl, h3, _, hb6⟩
       have hl3 : (sprV p n [y0, x0] [1, p - 1]).length = n := sprTo_length _ _ _ _ _
       rw [hl3]
       exact ⟨_, rfl, hK _ _ hb6 ⟨B3, c3, rfl, h3⟩⟩
    · simp only [putZ, List.foldl_cons, List.foldl_nil, Act.put, nS] at hK ⊢
      go_simp
      exact hK _ _ (below_alloc _ _) ⟨_, 2, rfl, rd_laidC w5 [y1, x0] (by unfold maxLen; simp)⟩
    · simp only [putZ, List.foldl_cons, List.foldl_nil, Act.put, nS] at hK ⊢
      go_simp
      exact hK _ _ (below_alloc _ _) ⟨_, 2, rfl, rd_laidC w5 [1, p - 1] (by unfold maxLen; simp)⟩
    · obtain ⟨B1, c1, e1, r1⟩ := (hd 49 (by decide) : PIn 2 [y1, x0] (xs 49) w5)
      obtain ⟨B2, c2, e2, r2⟩ := (hd 52 (by decide) : PIn 2 [1, p - 1] (xs 52) w5)
      simp only [putZ, List.foldl_cons, List.foldl_nil, Act.put, nS] at hK ⊢
      simp only [e1, e2] at hK ⊢
      refine wp_callZ (f := ?f_6) (args := ?args_6) ?hr_6 ?hc_6
      case hr_6 => (go_simp; first | done | with_reducible rfl | (constructor <;> with_reducible rfl))
      case hc_6 =>
       refine (dnRow_any p n 2 B1 B2 c1 c2 [y1, x0] [1, p - 1] w5 r1 r2 rfl rfl (fun x hx => by simp at hx; omega) (fun x hx => by simp at hx; omega) h0 h97 hn (by omega)).mono ?_
       rintro e w6 ⟨B3, c3, rfl, h3, _, hb6⟩
       have hl3 : (sprV p n [y1, x0] [1, p - 1]).length = n := sprTo_length _ _ _ _ _
       rw [hl3]
       exact ⟨_, rfl, hK _ _ hb6 ⟨B3, c3, rfl, h3⟩⟩
    · obtain ⟨B0, c0, e0, r0⟩ := (hd 40 (by decide) : PIs n (sprV p n [y0, x0] [1, p - 1]) (xs 40) w5)
      obtain ⟨B1, c1, e1, r1⟩ := (hd 53 (by decide) : PIs n (sprV p n [y1, x0] [1, p - 1]) (xs 53) w5)
      have l0 : (sprV p n [y0, x0] [1, p - 1]).length = n := sprTo_length _ _ _ _ _
      have l1 : (sprV p n [y1, x0] [1, p - 1]).length = n := sprTo_length _ _ _ _ _
      simp only [putZ, List.foldl_cons, List.foldl_nil, Act.put, nS] at hK ⊢
      simp only [e0, e1] at hK ⊢
      go_simp
      have hp := PRsF.laid w.heap.size w5 (by first | (have := hB0_h.out.size; have := hbd.size; have := hb5.size; omega) | (have := hB1_h.out.size; have := hbd.size; have := hb5.size; omega)) ([(B0, c0, sprV p n [y0, x0] [1, p - 1]), (B1, c1, sprV p n [y1, x0] [1, p - 1])] : List Hd) (fun x hx => by
       simp only [List.mem_cons, List.not_mem_nil, or_false] at hx
       rcases hx with rfl | rfl
       · exact r0
       · exact r1) (by unfold maxLen; simp)
      have e5 : (([(B0, c0, sprV p n [y0, x0] [1, p - 1]), (B1, c1, sprV p n [y1, x0] [1, p - 1])] : List Hd).map Hd.val).toArray = #[.slice B0 n c0, .slice B1 n c1] := by simp [Hd.val, l0, l1]
      rw [e5] at hp
      exact hK _ _ (below_alloc _ _) hp
    · have h5 := (hd 54 (by decide) : PRsF w.heap.size 2 [sprV p n [y0, x0] [1, p - 1], sprV p n [y1, x0] [1, p - 1]] (xs 54) w5)
      simp only [putZ, List.foldl_cons, List.foldl_nil, Act.put, nS] at hK ⊢
      go_simp
      exact hK _ _ (Below.refl _ _) h5
   case fin3 =>
    intro xs w6 hb6 hR
    have h6 := (hR (27, 6) (by simp) : PRsF w.heap.size 2 [sprV p n [y0, x0] [1, p - 1], sprV p n [y1, x0] [1, p - 1]] (xs 6) w6)
    have hbf := below_trans hB0_h.out (below_trans hbd hb6 hbd.size) hB0_h.out.size
    clear hR cx0 cy0 cy1; have h6_h := lH h6; have hbf_h := lH hbf; clear h6 hbf
    simp only [putZ, List.foldl_cons, List.foldl_nil, Act.put, nS]
    go_wp2_with (fail)
    go_ret
    exact ⟨_, rfl, h6_h.out, hbf_h.out⟩
 · have hll : l.length = 1 := by have h1 := congrArg Prod.fst hty; have h2 : (l.length : Int) = 1 := h1; omega
   have hml : m.length = 0 := by have h1 := congrArg Prod.snd hty; have h2 : (m.length : Int) = 0 := h1; omega
   clear hty hk
   obtain ⟨x0, rfl⟩ := len_one hll
   obtain rfl : m = [] := List.eq_nil_of_length_eq_zero hml
   have hM : dnRowsM p n (4, v, [x0], []) = [] := rfl
   rw [hM]
   clear hM
   obtain ⟨ad, _, rfl, ex0, cx0⟩ := hA.at_ (j := 0) (by simp)
   obtain rfl := Option.some.inj ex0
   have cx0 : w.cell? ad = some (.int .i64 x0) := cx0
   have had0 : ad.add 0 = ad := rfl
   have qx0 := hat x0 (by simp)
   clear hat
   obtain ⟨W, hW⟩ : ∃ W, W = w.alloc (.cells #[.int .i64 4, .int .i64 v, .slice (some ad) 1 a, .slice B 0 b] tEd) := ⟨_, rfl⟩
   have bW := below_alloc w (.cells #[.int .i64 4, .int .i64 v, .slice (some ad) 1 a, .slice B 0 b] tEd)
   have k0 := heap_alloc_new w (.cells #[.int .i64 4, .int .i64 v, .slice (some ad) 1 a, .slice B 0 b] tEd)
   rw [← hW] at bW k0
   have cx0 := cell_mvd bW cx0
   obtain ⟨⟨g0, g1, g2, g3⟩, f0, f1, f2, f3⟩ := box4 k0
   have bW_h := lH bW; have k0_h := lH k0; clear bW k0
   go_enter Tryd.func33, Tryd.ntmps33
   go_upto_region 1 with (fail)
   rw [← hW]
   clear hW
   go_quiet (fail)
   obtain ⟨Wd, hWd⟩ : ∃ Wd, Wd = W.drewN nq := ⟨_, rfl⟩
   have hbd : Below W.heap.size W Wd := by rw [hWd]; exact below_drewN (Below.refl _ _) nq
   rw [← hWd]
   clear hWd g0 g1 g2 g3 f0 f1 f2 f3
   replace k0_h := lH (box_below k0_h.out hbd)
   have cx0 := cell_mvd hbd cx0
   have hB0 := below_trans bW_h.out hbd bW_h.out.size
   clear hbd; have hB0_h := lH hB0; clear hB0
   obtain ⟨⟨g0, g1, g2, g3⟩, f0, f1, f2, f3⟩ := box4 k0_h.out
   go_wp2_with (fail)
   go_ret
   exact ⟨_, rfl, ⟨none, 0, [], rfl, rfl, rfl, ⟨fun i h hh => by simp at hh, fun h hh => by cases hh⟩, (fun h hh => by cases hh), fun b hb => by simp at hb⟩, hB0_h.out⟩
 · have hll : l.length = 2 := by have h1 := congrArg Prod.fst hty; have h2 : (l.length : Int) = 2 := h1; omega
   have hml : m.length = 1 := by have h1 := congrArg Prod.snd hty; have h2 : (m.length : Int) = 1 := h1; omega
   clear hty hk
   obtain ⟨x0, x1, rfl⟩ := len_two hll
   obtain ⟨y0, rfl⟩ := len_one hml
   have hM : dnRowsM p n (5, v, [x0, x1], [y0]) = [sprV p n [y0, x0, x1] [1, p - 1, p - 1]] := rfl
   rw [hM]
   clear hM
   obtain ⟨ad, _, rfl, ex0, cx0⟩ := hA.at_ (j := 0) (by simp)
   obtain rfl := Option.some.inj ex0
   have cx0 : w.cell? ad = some (.int .i64 x0) := cx0
   have had0 : ad.add 0 = ad := rfl
   obtain ⟨ad', _, e', ex1, cx1⟩ := hA.at_ (j := 1) (by simp)
   obtain rfl := Option.some.inj e'
   obtain rfl := Option.some.inj ex1
   have cx1 : w.cell? ⟨ad.block, ad.off + 1, none⟩ = some (.int .i64 x1) := cx1
   obtain ⟨bd, _, rfl, ey0, cy0⟩ := hB.at_ (j := 0) (by simp)
   obtain rfl := Option.some.inj ey0
   have cy0 : w.cell? bd = some (.int .i64 y0) := cy0
   have hbd0 : bd.add 0 = bd := rfl
   have qx0 := hat x0 (by simp)
   have qx1 := hat x1 (by simp)
   have qy0 := hat y0 (by simp)
   clear hat
   obtain ⟨W, hW⟩ : ∃ W, W = w.alloc (.cells #[.int .i64 5, .int .i64 v, .slice (some ad) 2 a, .slice (some bd) 1 b] tEd) := ⟨_, rfl⟩
   have bW := below_alloc w (.cells #[.int .i64 5, .int .i64 v, .slice (some ad) 2 a, .slice (some bd) 1 b] tEd)
   have k0 := heap_alloc_new w (.cells #[.int .i64 5, .int .i64 v, .slice (some ad) 2 a, .slice (some bd) 1 b] tEd)
   rw [← hW] at bW k0
   have cx0 := cell_mvd bW cx0
   have cx1 := cell_mvd bW cx1
   have cy0 := cell_mvd bW cy0
   obtain ⟨⟨g0, g1, g2, g3⟩, f0, f1, f2, f3⟩ := box4 k0
   have bW_h := lH bW; have k0_h := lH k0; clear bW k0
   go_enter Tryd.func33, Tryd.ntmps33
   go_upto_region 1 with (fail)
   rw [← hW]
   clear hW
   go_quiet (fail)
   obtain ⟨Wd, hWd⟩ : ∃ Wd, Wd = W.drewN nq := ⟨_, rfl⟩
   have hbd : Below W.heap.size W Wd := by rw [hWd]; exact below_drewN (Below.refl _ _) nq
   rw [← hWd]
   clear hWd g0 g1 g2 g3 f0 f1 f2 f3
   replace k0_h := lH (box_below k0_h.out hbd)
   have cx0 := cell_mvd hbd cx0
   have cx1 := cell_mvd hbd cx1
   have cy0 := cell_mvd hbd cy0
   have hB0 := below_trans bW_h.out hbd bW_h.out.size
   clear hbd; have hB0_h := lH hB0; clear hB0
   obtain ⟨⟨g0, g1, g2, g3⟩, f0, f1, f2, f3⟩ := box4 k0_h.out
   go_wp2_with (fail)
   clear g0 g1 g2 g3 f0 f1 f2 f3
   have hbd : Below Wd.heap.size Wd Wd.drew := below_drewN (Below.refl _ _) 1
   refine beginH (fun w' => Below Wd.heap.size Wd w') (by kernel_rfl) ?_
   generalize Wd.drew = W1 at hbd ⊢
   refine tkH 0 ?_ rfl hbd (fun W' hW' => ?_) ?_; rotate_left; · (have zx0 := cell_mvd hW' cx0; have zx1 := cell_mvd hW' cx1; have zy0 := cell_mvd hW' cy0; clear hW'; go_simp; first | done | with_reducible rfl)
   simp only [Act.put, nS]
   refine tkH 1 ?_ rfl hbd (fun W' hW' => ?_) ?_; rotate_left; · (have zx0 := cell_mvd hW' cx0; have zx1 := cell_mvd hW' cx1; have zy0 := cell_mvd hW' cy0; clear hW'; go_simp; first | done | with_reducible rfl)
   simp only [Act.put, nS]
   refine tkH 2 ?_ rfl hbd (fun W' hW' => ?_) ?_; rotate_left; · (have zx0 := cell_mvd hW' cx0; have zx1 := cell_mvd hW' cx1; have zy0 := cell_mvd hW' cy0; clear hW'; go_simp; first | done | with_reducible rfl)
   simp only [Act.put, nS]
   refine tkH 3 ?_ rfl hbd (fun W' hW' => ?_) ?_; rotate_left; · (have zx0 := cell_mvd hW' cx0; have zx1 := cell_mvd hW' cx1; have zy0 := cell_mvd hW' cy0; clear hW'; go_simp; first | done | with_reducible rfl)
   simp only [Act.put, nS]
   refine tkH 4 ?_ rfl hbd (fun W' hW' => ?_) ?_; rotate_left; · (have zx0 := cell_mvd hW' cx0; have zx1 := cell_mvd hW' cx1; have zy0 := cell_mvd hW' cy0; clear hW'; go_simp; first | done | with_reducible rfl)
   simp only [Act.put, nS]
   refine tkH 5 ?_ rfl hbd (fun W' hW' => ?_) ?_; rotate_left; · (have zx0 := cell_mvd hW' cx0; have zx1 := cell_mvd hW' cx1; have zy0 := cell_mvd hW' cy0; clear hW'; go_simp; first | done | with_reducible rfl)
   simp only [Act.put, nS]
   refine tkH 6 ?_ rfl hbd (fun W' hW' => ?_) ?_; rotate_left; · (have zx0 := cell_mvd hW' cx0; have zx1 := cell_mvd hW' cx1; have zy0 := cell_mvd hW' cy0; clear hW'; go_simp; first | done | with_reducible rfl)
   simp only [Act.put, nS]
   refine tkH 7 ?_ rfl hbd (fun W' hW' => ?_) ?_; rotate_left; · (have zx0 := cell_mvd hW' cx0; have zx1 := cell_mvd hW' cx1; have zy0 := cell_mvd hW' cy0; clear hW'; go_simp; first | done | with_reducible rfl)
   simp only [Act.put, nS]
   refine tkH 8 ?_ rfl hbd (fun W' hW' => ?_) ?_; rotate_left; · (have zx0 := cell_mvd hW' cx0; have zx1 := cell_mvd hW' cx1; have zy0 := cell_mvd hW' cy0; clear hW'; go_simp; first | done | with_reducible rfl)
   simp only [Act.put, nS]
   refine tkH 9 ?_ rfl hbd (fun W' hW' => ?_) ?_; rotate_left; · (have zx0 := cell_mvd hW' cx0; have zx1 := cell_mvd hW' cx1; have zy0 := cell_mvd hW' cy0; clear hW'; go_simp; first | done | with_reducible rfl)
   simp only [Act.put, nS]
   refine tkH 10 ?_ rfl hbd (fun W' hW' => ?_) ?_; rotate_left; · (have zx0 := cell_mvd hW' cx0; have zx1 := cell_mvd hW' cx1; have zy0 := cell_mvd hW' cy0; clear hW'; go_simp; first | done | with_reducible rfl)
   simp only [Act.put, nS]
   refine tkH 12 ?_ rfl hbd (fun W' hW' => ?_) ?_; rotate_left; · (have zx0 := cell_mvd hW' cx0; have zx1 := cell_mvd hW' cx1; have zy0 := cell_mvd hW' cy0; clear hW'; go_simp; first | done | with_reducible rfl)
   simp only [Act.put, nS]
   refine tkH 13 ?_ rfl hbd (fun W' hW' => ?_) ?_; rotate_left; · (have zx0 := cell_mvd hW' cx0; have zx1 := cell_mvd hW' cx1; have zy0 := cell_mvd hW' cy0; clear hW'; go_simp; first | done | with_reducible rfl)
   simp only [Act.put, nS]
   refine tkH 14 ?_ rfl hbd (fun W' hW' => ?_) ?_; rotate_left; · (have zx0 := cell_mvd hW' cx0; have zx1 := cell_mvd hW' cx1; have zy0 := cell_mvd hW' cy0; clear hW'; go_simp; first | done | with_reducible rfl)
   simp only [Act.put, nS]
   refine tkH 15 ?_ rfl hbd (fun W' hW' => ?_) ?_; rotate_left; · (have zx0 := cell_mvd hW' cx0; have zx1 := cell_mvd hW' cx1; have zy0 := cell_mvd hW' cy0; clear hW'; go_simp; first | done | with_reducible rfl)
   simp only [Act.put, nS]
   refine relZ (P := Tryd.prog) [(11, 68), (16, 73), (17, 74), (18, 75), (19, 6)] (fun i => if i = 17 then [68, 73] else if i = 18 then [74] else if i = 19 then [75] else []) (fun d v5 w5 => if d = 68 then PIn 3 [y0, x0, x1] v5 w5 else if d = 73 then PIn 3 [1, p - 1, p - 1] v5 w5 else if d = 74 then PIs n (sprV p n [y0, x0, x1] [1, p - 1, p - 1]) v5 w5 else if d = 75 then PRsF w.heap.size 1 [sprV p n [y0, x0, x1] [1, p - 1, p - 1]] v5 w5 else if d = 6 then PRsF w.heap.size 1 [sprV p n [y0, x0, x1] [1, p - 1, p - 1]] v5 w5 else True) (by kernel_rfl) (fun d => Stb.ite (PIn.stb _ _) (Stb.ite (PIn.stb _ _) (Stb.ite (PIs.stb _ _) (Stb.ite (PRsF.stb _ _ _) (Stb.ite (PRsF.stb _ _ _) (Stb.true)))))) (fun w' hw' => below_trans hbd hw' hbd.size) ?steps5 ?fin5
   case steps5 =>
    refine ⟨⟨_, rfl, fun xs w5 hb5 hd K hK => ?_⟩, ⟨_, rfl, fun xs w5 hb5 hd K hK => ?_⟩, ⟨_, rfl, fun xs w5 hb5 hd K hK => ?_⟩, ⟨_, rfl, fun xs w5 hb5 hd K hK => ?_⟩, ⟨_, rfl, fun xs w5 hb5 hd K hK => ?_⟩, trivial⟩
    · simp only [putZ, List.foldl_cons, List.foldl_nil, Act.put, nS] at hK ⊢
      go_simp
      exact hK _ _ (below_alloc _ _) ⟨_, 3, rfl, rd_laidC w5 [y0, x0, x1] (by unfold maxLen; simp)⟩
    · simp only [putZ, List.foldl_cons, List.foldl_nil, Act.put, nS] at hK ⊢
      go_simp
      exact hK _ _ (below_alloc _ _) ⟨_, 3, rfl, rd_laidC w5 [1, p - 1, p - 1] (by unfold maxLen; simp)⟩
    · obtain ⟨B1, c1, e1, r1⟩ := (hd 68 (by decide) : PIn 3 [y0, x0, x1] (xs 68) w5)
      obtain ⟨B2, c2, e2, r2⟩ := (hd 73 (by decide) : PIn 3 [1, p - 1, p - 1] (xs 73) w5)
      simp only [putZ, List.foldl_cons, List.foldl_nil, Act.put, nS] at hK ⊢
      simp only [e1, e2] at hK ⊢
      refine wp_callZ (f := ?f_11) (args := ?args_11) ?hr_11 ?hc_11
      case hr_11 => (go_simp; first | done | with_reducible rfl | (constructor <;> with_reducible rfl))
      case hc_11 =>
       refine (dnRow_any p n 3 B1 B2 c1 c2 [y0, x0, x1] [1, p - 1, p - 1] w5 r1 r2 rfl rfl (fun x hx => by simp at hx; omega) (fun x hx => by simp at hx; omega) h0 h97 hn (by omega)).mono ?_
       rintro e w6 ⟨B3, c3, rfl, h3, _, hb6⟩
       have hl3 : (sprV p n [y0, x0, x1] [1, p - 1, p - 1]).length = n := sprTo_length _ _ _ _ _
       rw [hl3]
       exact ⟨_, rfl, hK _ _ hb6 ⟨B3, c3, rfl, h3⟩⟩
    · obtain ⟨B0, c0, e0, r0⟩ := (hd 74 (by decide) : PIs n (sprV p n [y0, x0, x1] [1, p - 1, p - 1]) (xs 74) w5)
      have l0 : (sprV p n [y0, x0, x1] [1, p - 1, p - 1]).length = n := sprTo_length _ _ _ _ _
      simp only [putZ, List.foldl_cons, List.foldl_nil, Act.put, nS] at hK ⊢
      simp only [e0] at hK ⊢
      go_simp
      have hp := PRsF.laid w.heap.size w5 (by first | (have := hB0_h.out.size; have := hbd.size; have := hb5.size; omega) | (have := hB1_h.out.size; have := hbd.size; have := hb5.size; omega)) ([(B0, c0, sprV p n [y0, x0, x1] [1, p - 1, p - 1])] : List Hd) (fun x hx => by
       simp only [List.mem_cons, List.not_mem_nil, or_false] at hx
       subst hx
       exact r0) (by unfold maxLen; simp)
      have e5 : (([(B0, c0, sprV p n [y0, x0, x1] [1, p - 1, p - 1])] : List Hd).map Hd.val).toArray = #[.slice B0 n c0] := by simp [Hd.val, l0]
      rw [e5] at hp
      exact hK _ _ (below_alloc _ _) hp
    · have h5 := (hd 75 (by decide) : PRsF w.heap.size 1 [sprV p n [y0, x0, x1] [1, p - 1, p - 1]] (xs 75) w5)
      simp only [putZ, List.foldl_cons, List.foldl_nil, Act.put, nS] at hK ⊢
      go_simp
      exact hK _ _ (Below.refl _ _) h5
   case fin5 =>
    intro xs w6 hb6 hR
    have h6 := (hR (19, 6) (by simp) : PRsF w.heap.size 1 [sprV p n [y0, x0, x1] [1, p - 1, p - 1]] (xs 6) w6)
    have hbf := below_trans hB0_h.out (below_trans hbd hb6 hbd.size) hB0_h.out.size
    clear hR cx0 cx1 cy0; have h6_h := lH h6; have hbf_h := lH hbf; clear h6 hbf
    simp only [putZ, List.foldl_cons, List.foldl_nil, Act.put, nS]
    go_wp2_with (fail)
    go_ret
    exact ⟨_, rfl, h6_h.out, hbf_h.out⟩
 · have hll : l.length = 0 := by have h1 := congrArg Prod.fst hty; have h2 : (l.length : Int) = 0 := h1; omega
   have hml : m.length = 1 := by have h1 := congrArg Prod.snd hty; have h2 : (m.length : Int) = 1 := h1; omega
   clear hty hk
   obtain rfl : l = [] := List.eq_nil_of_length_eq_zero hll
   obtain ⟨y0, rfl⟩ := len_one hml
   have hM : dnRowsM p n (6, v, [], [y0]) = [sprV p n [y0] [1]] := rfl
   rw [hM]
   clear hM
   obtain ⟨bd, _, rfl, ey0, cy0⟩ := hB.at_ (j := 0) (by simp)
   obtain rfl := Option.some.inj ey0
   have cy0 : w.cell? bd = some (.int .i64 y0) := cy0
   have hbd0 : bd.add 0 = bd := rfl
   have qy0 := hat y0 (by simp)
   clear hat
   obtain ⟨W, hW⟩ : ∃ W, W = w.alloc (.cells #[.int .i64 6, .int .i64 v, .slice A 0 a, .slice (some bd) 1 b] tEd) := ⟨_, rfl⟩
   have bW := below_alloc w (.cells #[.int .i64 6, .int .i64 v, .slice A 0 a, .slice (some bd) 1 b] tEd)
   have k0 := heap_alloc_new w (.cells #[.int .i64 6, .int .i64 v, .slice A 0 a, .slice (some bd) 1 b] tEd)
   rw [← hW] at bW k0
   have cy0 := cell_mvd bW cy0
   obtain ⟨⟨g0, g1, g2, g3⟩, f0, f1, f2, f3⟩ := box4 k0
   have bW_h := lH bW; have k0_h := lH k0; clear bW k0
   go_enter Tryd.func33, Tryd.ntmps33
   go_upto_region 1 with (fail)
   rw [← hW]
   clear hW
   go_quiet (fail)
   obtain ⟨Wd, hWd⟩ : ∃ Wd, Wd = W.drewN nq := ⟨_, rfl⟩
   have hbd : Below W.heap.size W Wd := by rw [hWd]; exact below_drewN (Below.refl _ _) nq
   rw [← hWd]
   clear hWd g0 g1 g2 g3 f0 f1 f2 f3
   replace k0_h := lH (box_below k0_h.out hbd)
   have cy0 := cell_mvd hbd cy0
   have hB0 := below_trans bW_h.out hbd bW_h.out.size
   clear hbd; have hB0_h := lH hB0; clear hB0
   obtain ⟨⟨g0, g1, g2, g3⟩, f0, f1, f2, f3⟩ := box4 k0_h.out
   go_wp2_with (fail)
   have r1 := (rd_laidC Wd [y0] (by unfold maxLen; simp)).below (below_alloc _ (.cells (ints [1]).toArray 3))
   have r2 := rd_laidC (Wd.alloc (.cells (ints [y0]).toArray 3)) [1] (by unfold maxLen; simp)
   simp only [World.size_alloc] at r2
   have b12 := below_trans (below_alloc Wd (.cells (ints [y0]).toArray 3)) (below_alloc _ (.cells (ints [1]).toArray 3)) (below_alloc Wd (.cells (ints [y0]).toArray 3)).size
   have hC := dnRow_any p n 1 _ _ 1 1 [y0] [1] _ r1 r2 rfl rfl (fun x hx => by simp at hx; omega) (fun x hx => by simp at hx; omega) h0 h97 hn (by omega)
   refine (hC).mono ?_
   rintro e w6 ⟨B3, c3, rfl, h3, _, hb6⟩
   have hl3 : (sprV p n [y0] [1]).length = n := sprTo_length _ _ _ _ _
   rw [hl3]
   have hbf := below_trans hB0_h.out (below_trans b12 hb6 b12.size) hB0_h.out.size
   have hp := PRsF.laid w.heap.size w6 (by have := hbf.size; omega) ([(B3, c3, sprV p n [y0] [1])] : List Hd) (fun x hx => by
    simp only [List.mem_cons, List.not_mem_nil, or_false] at hx
    subst hx
    exact h3) (by unfold maxLen; simp)
   have e5 : (([(B3, c3, sprV p n [y0] [1])] : List Hd).map Hd.val).toArray = #[.slice B3 n c3] := by simp [Hd.val, hl3]
   rw [e5] at hp
   have hbg := below_trans hbf (below_alloc w6 (.cells #[.slice B3 n c3] 23)) hbf.size
   clear hC r1 r2 b12 h3 hb6 e5; have hp_h := lH hp; have hbg_h := lH hbg; have hbf_h := lH hbf; clear hp hbg hbf
   go_wp2_with (fail)
   go_ret
   exact ⟨_, rfl, hp_h.out, hbg_h.out⟩
 · have hll : l.length = 1 := by have h1 := congrArg Prod.fst hty; have h2 : (l.length : Int) = 1 := h1; omega
   have hml : m.length = 1 := by have h1 := congrArg Prod.snd hty; have h2 : (m.length : Int) = 1 := h1; omega
   clear hty hk
   obtain ⟨x0, rfl⟩ := len_one hll
   obtain ⟨y0, rfl⟩ := len_one hml
   have hM : dnRowsM p n (7, v, [x0], [y0]) = [sprV p n [y0, x0] [1, -v % p]] := rfl
   rw [hM]
   clear hM
   obtain ⟨ad, _, rfl, ex0, cx0⟩ := hA.at_ (j := 0) (by simp)
   obtain rfl := Option.some.inj ex0
   have cx0 : w.cell? ad = some (.int .i64 x0) := cx0
   have had0 : ad.add 0 = ad := rfl
   obtain ⟨bd, _, rfl, ey0, cy0⟩ := hB.at_ (j := 0) (by simp)
   obtain rfl := Option.some.inj ey0
   have cy0 : w.cell? bd = some (.int .i64 y0) := cy0
   have hbd0 : bd.add 0 = bd := rfl
   have qx0 := hat x0 (by simp)
   have qy0 := hat y0 (by simp)
   clear hat
   obtain ⟨W, hW⟩ : ∃ W, W = w.alloc (.cells #[.int .i64 7, .int .i64 v, .slice (some ad) 1 a, .slice (some bd) 1 b] tEd) := ⟨_, rfl⟩
   have bW := below_alloc w (.cells #[.int .i64 7, .int .i64 v, .slice (some ad) 1 a, .slice (some bd) 1 b] tEd)
   have k0 := heap_alloc_new w (.cells #[.int .i64 7, .int .i64 v, .slice (some ad) 1 a, .slice (some bd) 1 b] tEd)
   rw [← hW] at bW k0
   have cx0 := cell_mvd bW cx0
   have cy0 := cell_mvd bW cy0
   obtain ⟨⟨g0, g1, g2, g3⟩, f0, f1, f2, f3⟩ := box4 k0
   have bW_h := lH bW; have k0_h := lH k0; clear bW k0
   go_enter Tryd.func33, Tryd.ntmps33
   go_upto_region 1 with (fail)
   rw [← hW]
   clear hW
   go_quiet (fail)
   obtain ⟨Wd, hWd⟩ : ∃ Wd, Wd = W.drewN nq := ⟨_, rfl⟩
   have hbd : Below W.heap.size W Wd := by rw [hWd]; exact below_drewN (Below.refl _ _) nq
   rw [← hWd]
   clear hWd g0 g1 g2 g3 f0 f1 f2 f3
   replace k0_h := lH (box_below k0_h.out hbd)
   have cx0 := cell_mvd hbd cx0
   have cy0 := cell_mvd hbd cy0
   have hB0 := below_trans bW_h.out hbd bW_h.out.size
   clear hbd; have hB0_h := lH hB0; clear hB0
   obtain ⟨⟨g0, g1, g2, g3⟩, f0, f1, f2, f3⟩ := box4 k0_h.out
   go_wp2_with (fail)
   clear g0  g2 g3 f0 f1 f2 f3
   have hbd : Below Wd.heap.size Wd Wd.drew := below_drewN (Below.refl _ _) 1
   refine beginH (fun w' => Below Wd.heap.size Wd w') (by kernel_rfl) ?_
   generalize Wd.drew = W1 at hbd ⊢
   refine tkH 0 ?_ rfl hbd (fun W' hW' => ?_) ?_; rotate_left; · (obtain ⟨⟨b0, b1, b2, b3⟩, d0, d1, d2, d3⟩ := box4 (box_below k0_h.out hW'); have zx0 := cell_mvd hW' cx0; have zy0 := cell_mvd hW' cy0; clear hW'; go_simp; first | done | with_reducible rfl)
   simp only [Act.put, nS]
   refine tkH 1 ?_ rfl hbd (fun W' hW' => ?_) ?_; rotate_left; · (obtain ⟨⟨b0, b1, b2, b3⟩, d0, d1, d2, d3⟩ := box4 (box_below k0_h.out hW'); have zx0 := cell_mvd hW' cx0; have zy0 := cell_mvd hW' cy0; clear hW'; go_simp; first | done | with_reducible rfl)
   simp only [Act.put, nS]
   refine tkH 2 ?_ rfl hbd (fun W' hW' => ?_) ?_; rotate_left; · (obtain ⟨⟨b0, b1, b2, b3⟩, d0, d1, d2, d3⟩ := box4 (box_below k0_h.out hW'); have zx0 := cell_mvd hW' cx0; have zy0 := cell_mvd hW' cy0; clear hW'; go_simp; first | done | with_reducible rfl)
   simp only [Act.put, nS]
   refine tkH 3 ?_ rfl hbd (fun W' hW' => ?_) ?_; rotate_left; · (obtain ⟨⟨b0, b1, b2, b3⟩, d0, d1, d2, d3⟩ := box4 (box_below k0_h.out hW'); have zx0 := cell_mvd hW' cx0; have zy0 := cell_mvd hW' cy0; clear hW'; go_simp; first | done | with_reducible rfl)
   simp only [Act.put, nS]
   refine tkH 4 ?_ rfl hbd (fun W' hW' => ?_) ?_; rotate_left; · (obtain ⟨⟨b0, b1, b2, b3⟩, d0, d1, d2, d3⟩ := box4 (box_below k0_h.out hW'); have zx0 := cell_mvd hW' cx0; have zy0 := cell_mvd hW' cy0; clear hW'; go_simp; first | done | with_reducible rfl)
   simp only [Act.put, nS]
   refine tkH 5 ?_ rfl hbd (fun W' hW' => ?_) ?_; rotate_left; · (obtain ⟨⟨b0, b1, b2, b3⟩, d0, d1, d2, d3⟩ := box4 (box_below k0_h.out hW'); have zx0 := cell_mvd hW' cx0; have zy0 := cell_mvd hW' cy0; clear hW'; go_simp; first | done | with_reducible rfl)
   simp only [Act.put, nS]
   refine tkH 6 ?_ rfl hbd (fun W' hW' => ?_) ?_; rotate_left; · (obtain ⟨⟨b0, b1, b2, b3⟩, d0, d1, d2, d3⟩ := box4 (box_below k0_h.out hW'); have zx0 := cell_mvd hW' cx0; have zy0 := cell_mvd hW' cy0; clear hW'; go_simp; first | done | with_reducible rfl)
   simp only [Act.put, nS]
   refine tkH 7 ?_ rfl hbd (fun W' hW' => ?_) ?_; rotate_left; · (obtain ⟨⟨b0, b1, b2, b3⟩, d0, d1, d2, d3⟩ := box4 (box_below k0_h.out hW'); have zx0 := cell_mvd hW' cx0; have zy0 := cell_mvd hW' cy0; clear hW'; go_simp; first | done | with_reducible rfl)
   simp only [Act.put, nS]
   refine tkH 9 ?_ rfl hbd (fun W' hW' => ?_) ?_; rotate_left; · (obtain ⟨⟨b0, b1, b2, b3⟩, d0, d1, d2, d3⟩ := box4 (box_below k0_h.out hW'); have zx0 := cell_mvd hW' cx0; have zy0 := cell_mvd hW' cy0; clear hW'; go_simp; first | done | with_reducible rfl)
   simp only [Act.put, nS]
   refine tkH 10 ?_ rfl hbd (fun W' hW' => ?_) ?_; rotate_left; · (obtain ⟨⟨b0, b1, b2, b3⟩, d0, d1, d2, d3⟩ := box4 (box_below k0_h.out hW'); have zx0 := cell_mvd hW' cx0; have zy0 := cell_mvd hW' cy0; clear hW'; go_simp; first | done | with_reducible rfl)
   simp only [Act.put, nS]
   refine tkH 11 ?_ rfl hbd (fun W' hW' => ?_) ?_; rotate_left; · (obtain ⟨⟨b0, b1, b2, b3⟩, d0, d1, d2, d3⟩ := box4 (box_below k0_h.out hW'); have zx0 := cell_mvd hW' cx0; have zy0 := cell_mvd hW' cy0; clear hW'; go_simp; first | done | with_reducible rfl)
   simp only [Act.put, nS]
   refine relZ (P := Tryd.prog) [(8, 97), (12, 101), (13, 102), (14, 103), (15, 104), (16, 6)] (fun i => if i = 13 then [101] else if i = 14 then [97, 102] else if i = 15 then [103] else if i = 16 then [104] else []) (fun d v5 w5 => if d = 97 then PIn 2 [y0, x0] v5 w5 else if d = 101 then PV (.int .i64 (-v % p)) v5 w5 else if d = 102 then PIn 2 [1, -v % p] v5 w5 else if d = 103 then PIs n (sprV p n [y0, x0] [1, -v % p]) v5 w5 else if d = 104 then PRsF w.heap.size 1 [sprV p n [y0, x0] [1, -v % p]] v5 w5 else if d = 6 then PRsF w.heap.size 1 [sprV p n [y0, x0] [1, -v % p]] v5 w5 else True) (by kernel_rfl) (fun d => Stb.ite (PIn.stb _ _) (Stb.ite (PV.stb _) (Stb.ite (PIn.stb _ _) (Stb.ite (PIs.stb _ _) (Stb.ite (PRsF.stb _ _ _) (Stb.ite (PRsF.stb _ _ _) (Stb.true))))))) (fun w' hw' => below_trans hbd hw' hbd.size) ?steps7 ?fin7
   case steps7 =>
    refine ⟨⟨_, rfl, fun xs w5 hb5 hd K hK => ?_⟩, ⟨_, rfl, fun xs w5 hb5 hd K hK => ?_⟩, ⟨_, rfl, fun xs w5 hb5 hd K hK => ?_⟩, ⟨_, rfl, fun xs w5 hb5 hd K hK => ?_⟩, ⟨_, rfl, fun xs w5 hb5 hd K hK => ?_⟩, ⟨_, rfl, fun xs w5 hb5 hd K hK => ?_⟩, trivial⟩
    · simp only [putZ, List.foldl_cons, List.foldl_nil, Act.put, nS] at hK ⊢
      go_simp
      exact hK _ _ (below_alloc _ _) ⟨_, 2, rfl, rd_laidC w5 [y0, x0] (by unfold maxLen; simp)⟩
    · simp only [putZ, List.foldl_cons, List.foldl_nil, Act.put, nS] at hK ⊢
      refine wp_callZ (f := ?f_15) (args := ?args_15) ?hr_15 ?hc_15
      case hr_15 => (go_simp; first | done | with_reducible rfl | (constructor <;> with_reducible rfl))
      case hc_15 =>
       refine (fdNeg_any p v w5 h0 h97 hv0 hvp).mono ?_
       rintro e w6 ⟨rfl, rfl⟩
       exact ⟨_, rfl, hK _ _ (Below.refl _ _) rfl⟩
    · have e1 : xs 101 = .int .i64 (-v % p) := hd 101 (by decide)
      simp only [putZ, List.foldl_cons, List.foldl_nil, Act.put, nS] at hK ⊢
      simp only [e1] at hK ⊢
      go_simp
      exact hK _ _ (below_alloc _ _) ⟨_, 2, rfl, rd_laidC w5 [1, -v % p] (by unfold maxLen; simp)⟩
    · obtain ⟨B1, c1, e1, r1⟩ := (hd 97 (by decide) : PIn 2 [y0, x0] (xs 97) w5)
      obtain ⟨B2, c2, e2, r2⟩ := (hd 102 (by decide) : PIn 2 [1, -v % p] (xs 102) w5)
      simp only [putZ, List.foldl_cons, List.foldl_nil, Act.put, nS] at hK ⊢
      simp only [e1, e2] at hK ⊢
      refine wp_callZ (f := ?f_17) (args := ?args_17) ?hr_17 ?hc_17
      case hr_17 => (go_simp; first | done | with_reducible rfl | (constructor <;> with_reducible rfl))
      case hc_17 =>
       refine (dnRow_any p n 2 B1 B2 c1 c2 [y0, x0] [1, -v % p] w5 r1 r2 rfl rfl (fun x hx => by simp at hx; omega) (fun x hx => by simp at hx; omega) h0 h97 hn (by omega)).mono ?_
       rintro e w6 ⟨B3, c3, rfl, h3, _, hb6⟩
       have hl3 : (sprV p n [y0, x0] [1, -v % p]).length = n := sprTo_length _ _ _ _ _
       rw [hl3]
       exact ⟨_, rfl, hK _ _ hb6 ⟨B3, c3, rfl, h3⟩⟩
    · obtain ⟨B0, c0, e0, r0⟩ := (hd 103 (by decide) : PIs n (sprV p n [y0, x0] [1, -v % p]) (xs 103) w5)
      have l0 : (sprV p n [y0, x0] [1, -v % p]).length = n := sprTo_length _ _ _ _ _
      simp only [putZ, List.foldl_cons, List.foldl_nil, Act.put, nS] at hK ⊢
      simp only [e0] at hK ⊢
      go_simp
      have hp := PRsF.laid w.heap.size w5 (by first | (have := hB0_h.out.size; have := hbd.size; have := hb5.size; omega) | (have := hB1_h.out.size; have := hbd.size; have := hb5.size; omega)) ([(B0, c0, sprV p n [y0, x0] [1, -v % p])] : List Hd) (fun x hx => by
       simp only [List.mem_cons, List.not_mem_nil, or_false] at hx
       subst hx
       exact r0) (by unfold maxLen; simp)
      have e5 : (([(B0, c0, sprV p n [y0, x0] [1, -v % p])] : List Hd).map Hd.val).toArray = #[.slice B0 n c0] := by simp [Hd.val, l0]
      rw [e5] at hp
      exact hK _ _ (below_alloc _ _) hp
    · have h5 := (hd 104 (by decide) : PRsF w.heap.size 1 [sprV p n [y0, x0] [1, -v % p]] (xs 104) w5)
      simp only [putZ, List.foldl_cons, List.foldl_nil, Act.put, nS] at hK ⊢
      go_simp
      exact hK _ _ (Below.refl _ _) h5
   case fin7 =>
    intro xs w6 hb6 hR
    have h6 := (hR (16, 6) (by simp) : PRsF w.heap.size 1 [sprV p n [y0, x0] [1, -v % p]] (xs 6) w6)
    have hbf := below_trans hB0_h.out (below_trans hbd hb6 hbd.size) hB0_h.out.size
    clear hR cx0 cy0; have h6_h := lH h6; have hbf_h := lH hbf; clear h6 hbf
    simp only [putZ, List.foldl_cons, List.foldl_nil, Act.put, nS]
    go_wp2_with (fail)
    go_ret
    exact ⟨_, rfl, h6_h.out, hbf_h.out⟩
 · have hll : l.length = 1 := by have h1 := congrArg Prod.fst hty; have h2 : (l.length : Int) = 1 := h1; omega
   have hml : m.length = 1 := by have h1 := congrArg Prod.snd hty; have h2 : (m.length : Int) = 1 := h1; omega
   clear hty hk
   obtain ⟨x0, rfl⟩ := len_one hll
   obtain ⟨y0, rfl⟩ := len_one hml
   have hM : dnRowsM p n (8, v, [x0], [y0]) = [] := rfl
   rw [hM]
   clear hM
   obtain ⟨ad, _, rfl, ex0, cx0⟩ := hA.at_ (j := 0) (by simp)
   obtain rfl := Option.some.inj ex0
   have cx0 : w.cell? ad = some (.int .i64 x0) := cx0
   have had0 : ad.add 0 = ad := rfl
   obtain ⟨bd, _, rfl, ey0, cy0⟩ := hB.at_ (j := 0) (by simp)
   obtain rfl := Option.some.inj ey0
   have cy0 : w.cell? bd = some (.int .i64 y0) := cy0
   have hbd0 : bd.add 0 = bd := rfl
   have qx0 := hat x0 (by simp)
   have qy0 := hat y0 (by simp)
   clear hat
   obtain ⟨W, hW⟩ : ∃ W, W = w.alloc (.cells #[.int .i64 8, .int .i64 v, .slice (some ad) 1 a, .slice (some bd) 1 b] tEd) := ⟨_, rfl⟩
   have bW := below_alloc w (.cells #[.int .i64 8, .int .i64 v, .slice (some ad) 1 a, .slice (some bd) 1 b] tEd)
   have k0 := heap_alloc_new w (.cells #[.int .i64 8, .int .i64 v, .slice (some ad) 1 a, .slice (some bd) 1 b] tEd)
   rw [← hW] at bW k0
   have cx0 := cell_mvd bW cx0
   have cy0 := cell_mvd bW cy0
   obtain ⟨⟨g0, g1, g2, g3⟩, f0, f1, f2, f3⟩ := box4 k0
   have bW_h := lH bW; have k0_h := lH k0; clear bW k0
   go_enter Tryd.func33, Tryd.ntmps33
   go_upto_region 1 with (fail)
   rw [← hW]
   clear hW
   go_quiet (fail)
   obtain ⟨Wd, hWd⟩ : ∃ Wd, Wd = W.drewN nq := ⟨_, rfl⟩
   have hbd : Below W.heap.size W Wd := by rw [hWd]; exact below_drewN (Below.refl _ _) nq
   rw [← hWd]
   clear hWd g0 g1 g2 g3 f0 f1 f2 f3
   replace k0_h := lH (box_below k0_h.out hbd)
   have cx0 := cell_mvd hbd cx0
   have cy0 := cell_mvd hbd cy0
   have hB0 := below_trans bW_h.out hbd bW_h.out.size
   clear hbd; have hB0_h := lH hB0; clear hB0
   obtain ⟨⟨g0, g1, g2, g3⟩, f0, f1, f2, f3⟩ := box4 k0_h.out
   go_wp2_with (fail)
   go_ret
   exact ⟨_, rfl, ⟨none, 0, [], rfl, rfl, rfl, ⟨fun i h hh => by simp at hh, fun h hh => by cases hh⟩, (fun h hh => by cases hh), fun b hb => by simp at hb⟩, hB0_h.out⟩
 · have hll : l.length = 2 := by have h1 := congrArg Prod.fst hty; have h2 : (l.length : Int) = 2 := h1; omega
   have hml : m.length = 1 := by have h1 := congrArg Prod.snd hty; have h2 : (m.length : Int) = 1 := h1; omega
   clear hty hk
   obtain ⟨x0, x1, rfl⟩ := len_two hll
   obtain ⟨y0, rfl⟩ := len_one hml
   have hM : dnRowsM p n (9, v, [x0, x1], [y0]) = [sprV p n [x0, y0] [1, p - 1], sprV p n [x1, y0] [1, p - 1]] := rfl
   rw [hM]
   clear hM
   obtain ⟨ad, _, rfl, ex0, cx0⟩ := hA.at_ (j := 0) (by simp)
   obtain rfl := Option.some.inj ex0
   have cx0 : w.cell? ad = some (.int .i64 x0) := cx0
   have had0 : ad.add 0 = ad := rfl
   obtain ⟨ad', _, e', ex1, cx1⟩ := hA.at_ (j := 1) (by simp)
   obtain rfl := Option.some.inj e'
   obtain rfl := Option.some.inj ex1
   have cx1 : w.cell? ⟨ad.block, ad.off + 1, none⟩ = some (.int .i64 x1) := cx1
   obtain ⟨bd, _, rfl, ey0, cy0⟩ := hB.at_ (j := 0) (by simp)
   obtain rfl := Option.some.inj ey0
   have cy0 : w.cell? bd = some (.int .i64 y0) := cy0
   have hbd0 : bd.add 0 = bd := rfl
   have qx0 := hat x0 (by simp)
   have qx1 := hat x1 (by simp)
   have qy0 := hat y0 (by simp)
   clear hat
   obtain ⟨W, hW⟩ : ∃ W, W = w.alloc (.cells #[.int .i64 9, .int .i64 v, .slice (some ad) 2 a, .slice (some bd) 1 b] tEd) := ⟨_, rfl⟩
   have bW := below_alloc w (.cells #[.int .i64 9, .int .i64 v, .slice (some ad) 2 a, .slice (some bd) 1 b] tEd)
   have k0 := heap_alloc_new w (.cells #[.int .i64 9, .int .i64 v, .slice (some ad) 2 a, .slice (some bd) 1 b] tEd)
   rw [← hW] at bW k0
   have cx0 := cell_mvd bW cx0
   have cx1 := cell_mvd bW cx1
   have cy0 := cell_mvd bW cy0
   obtain ⟨⟨g0, g1, g2, g3⟩, f0, f1, f2, f3⟩ := box4 k0
   have bW_h := lH bW; have k0_h := lH k0; clear bW k0
   go_enter Tryd.func33, Tryd.ntmps33
   go_upto_region 1 with (fail)
   rw [← hW]
   clear hW
   go_quiet (fail)
   obtain ⟨Wd, hWd⟩ : ∃ Wd, Wd = W.drewN nq := ⟨_, rfl⟩
   have hbd : Below W.heap.size W Wd := by rw [hWd]; exact below_drewN (Below.refl _ _) nq
   rw [← hWd]
   clear hWd g0 g1 g2 g3 f0 f1 f2 f3
   replace k0_h := lH (box_below k0_h.out hbd)
   have cx0 := cell_mvd hbd cx0
   have cx1 := cell_mvd hbd cx1
   have cy0 := cell_mvd hbd cy0
   have hB0 := below_trans bW_h.out hbd bW_h.out.size
   clear hbd; have hB0_h := lH hB0; clear hB0
   obtain ⟨⟨g0, g1, g2, g3⟩, f0, f1, f2, f3⟩ := box4 k0_h.out
   go_wp2_with (fail)
   go_quiet (fail)
   obtain ⟨We, hWe⟩ : ∃ We, We = Wd.drewN nq := ⟨_, rfl⟩
   have hbe : Below Wd.heap.size Wd We := by rw [hWe]; exact below_drewN (Below.refl _ _) nq
   rw [← hWe]
   clear hWe g0 g1 g2 g3 f0 f1 f2 f3
   replace k0_h := lH (box_below k0_h.out hbe)
   have cx0 := cell_mvd hbe cx0
   have cx1 := cell_mvd hbe cx1
   have cy0 := cell_mvd hbe cy0
   have hB1 := below_trans hB0_h.out hbe hB0_h.out.size
   clear hbe; have hB1_h := lH hB1; clear hB1
   obtain ⟨⟨g0, g1, g2, g3⟩, f0, f1, f2, f3⟩ := box4 k0_h.out
   go_wp2_with (fail)
   clear g0 g1 g2 g3 f0 f1 f2 f3
   have hbd : Below We.heap.size We We.drew := below_drewN (Below.refl _ _) 1
   refine beginH (fun w' => Below We.heap.size We w') (by kernel_rfl) ?_
   generalize We.drew = W1 at hbd ⊢
   refine tkH 0 ?_ rfl hbd (fun W' hW' => ?_) ?_; rotate_left; · (have zx0 := cell_mvd hW' cx0; have zx1 := cell_mvd hW' cx1; have zy0 := cell_mvd hW' cy0; clear hW'; go_simp; first | done | with_reducible rfl)
   simp only [Act.put, nS]
   refine tkH 1 ?_ rfl hbd (fun W' hW' => ?_) ?_; rotate_left; · (have zx0 := cell_mvd hW' cx0; have zx1 := cell_mvd hW' cx1; have zy0 := cell_mvd hW' cy0; clear hW'; go_simp; first | done | with_reducible rfl)
   simp only [Act.put, nS]
   refine tkH 2 ?_ rfl hbd (fun W' hW' => ?_) ?_; rotate_left; · (have zx0 := cell_mvd hW' cx0; have zx1 := cell_mvd hW' cx1; have zy0 := cell_mvd hW' cy0; clear hW'; go_simp; first | done | with_reducible rfl)
   simp only [Act.put, nS]
   refine tkH 3 ?_ rfl hbd (fun W' hW' => ?_) ?_; rotate_left; · (have zx0 := cell_mvd hW' cx0; have zx1 := cell_mvd hW' cx1; have zy0 := cell_mvd hW' cy0; clear hW'; go_simp; first | done | with_reducible rfl)
   simp only [Act.put, nS]
   refine tkH 4 ?_ rfl hbd (fun W' hW' => ?_) ?_; rotate_left; · (have zx0 := cell_mvd hW' cx0; have zx1 := cell_mvd hW' cx1; have zy0 := cell_mvd hW' cy0; clear hW'; go_simp; first | done | with_reducible rfl)
   simp only [Act.put, nS]
   refine tkH 5 ?_ rfl hbd (fun W' hW' => ?_) ?_; rotate_left; · (have zx0 := cell_mvd hW' cx0; have zx1 := cell_mvd hW' cx1; have zy0 := cell_mvd hW' cy0; clear hW'; go_simp; first | done | with_reducible rfl)
   simp only [Act.put, nS]
   refine tkH 6 ?_ rfl hbd (fun W' hW' => ?_) ?_; rotate_left; · (have zx0 := cell_mvd hW' cx0; have zx1 := cell_mvd hW' cx1; have zy0 := cell_mvd hW' cy0; clear hW'; go_simp; first | done | with_reducible rfl)
   simp only [Act.put, nS]
   refine tkH 7 ?_ rfl hbd (fun W' hW' => ?_) ?_; rotate_left; · (have zx0 := cell_mvd hW' cx0; have zx1 := cell_mvd hW' cx1; have zy0 := cell_mvd hW' cy0; clear hW'; go_simp; first | done | with_reducible rfl)
   simp only [Act.put, nS]
   refine tkH 9 ?_ rfl hbd (fun W' hW' => ?_) ?_; rotate_left; · (have zx0 := cell_mvd hW' cx0; have zx1 := cell_mvd hW' cx1; have zy0 := cell_mvd hW' cy0; clear hW'; go_simp; first | done | with_reducible rfl)
   simp only [Act.put, nS]
   refine tkH 10 ?_ rfl hbd (fun W' hW' => ?_) ?_; rotate_left; · (have zx0 := cell_mvd hW' cx0; have zx1 := cell_mvd hW' cx1; have zy0 := cell_mvd hW' cy0; clear hW'; go_simp; first | done | with_reducible rfl)
   simp only [Act.put, nS]
   refine tkH 13 ?_ rfl hbd (fun W' hW' => ?_) ?_; rotate_left; · (have zx0 := cell_mvd hW' cx0; have zx1 := cell_mvd hW' cx1; have zy0 := cell_mvd hW' cy0; clear hW'; go_simp; first | done | with_reducible rfl)
   simp only [Act.put, nS]
   refine tkH 14 ?_ rfl hbd (fun W' hW' => ?_) ?_; rotate_left; · (have zx0 := cell_mvd hW' cx0; have zx1 := cell_mvd hW' cx1; have zy0 := cell_mvd hW' cy0; clear hW'; go_simp; first | done | with_reducible rfl)
   simp only [Act.put, nS]
   refine tkH 15 ?_ rfl hbd (fun W' hW' => ?_) ?_; rotate_left; · (have zx0 := cell_mvd hW' cx0; have zx1 := cell_mvd hW' cx1; have zy0 := cell_mvd hW' cy0; clear hW'; go_simp; first | done | with_reducible rfl)
   simp only [Act.put, nS]
   refine tkH 16 ?_ rfl hbd (fun W' hW' => ?_) ?_; rotate_left; · (have zx0 := cell_mvd hW' cx0; have zx1 := cell_mvd hW' cx1; have zy0 := cell_mvd hW' cy0; clear hW'; go_simp; first | done | with_reducible rfl)
   simp only [Act.put, nS]
   refine tkH 17 ?_ rfl hbd (fun W' hW' => ?_) ?_; rotate_left; · (have zx0 := cell_mvd hW' cx0; have zx1 := cell_mvd hW' cx1; have zy0 := cell_mvd hW' cy0; clear hW'; go_simp; first | done | with_reducible rfl)
   simp only [Act.put, nS]
   refine tkH 18 ?_ rfl hbd (fun W' hW' => ?_) ?_; rotate_left; · (have zx0 := cell_mvd hW' cx0; have zx1 := cell_mvd hW' cx1; have zy0 := cell_mvd hW' cy0; clear hW'; go_simp; first | done | with_reducible rfl)
   simp only [Act.put, nS]
   refine tkH 19 ?_ rfl hbd (fun W' hW' => ?_) ?_; rotate_left; · (have zx0 := cell_mvd hW' cx0; have zx1 := cell_mvd hW' cx1; have zy0 := cell_mvd hW' cy0; clear hW'; go_simp; first | done | with_reducible rfl)
   simp only [Act.put, nS]
   refine tkH 20 ?_ rfl hbd (fun W' hW' => ?_) ?_; rotate_left; · (have zx0 := cell_mvd hW' cx0; have zx1 := cell_mvd hW' cx1; have zy0 := cell_mvd hW' cy0; clear hW'; go_simp; first | done | with_reducible rfl)
   simp only [Act.put, nS]
   refine tkH 22 ?_ rfl hbd (fun W' hW' => ?_) ?_; rotate_left; · (have zx0 := cell_mvd hW' cx0; have zx1 := cell_mvd hW' cx1; have zy0 := cell_mvd hW' cy0; clear hW'; go_simp; first | done | with_reducible rfl)
   simp only [Act.put, nS]
   refine tkH 23 ?_ rfl hbd (fun W' hW' => ?_) ?_; rotate_left; · (have zx0 := cell_mvd hW' cx0; have zx1 := cell_mvd hW' cx1; have zy0 := cell_mvd hW' cy0; clear hW'; go_simp; first | done | with_reducible rfl)
   simp only [Act.put, nS]
   refine relZ (P := Tryd.prog) [(8, 36), (11, 39), (12, 40), (21, 49), (24, 52), (25, 53), (26, 54), (27, 6)] (fun i => if i = 12 then [36, 39] else if i = 25 then [49, 52] else if i = 26 then [40, 53] else if i = 27 then [54] else []) (fun d v5 w5 => if d = 36 then PIn 2 [x0, y0] v5 w5 else if d = 39 then PIn 2 [1, p - 1] v5 w5 else if d = 40 then PIs n (sprV p n [x0, y0] [1, p - 1]) v5 w5 else if d = 49 then PIn 2 [x1, y0] v5 w5 else if d = 52 then PIn 2 [1, p - 1] v5 w5 else if d = 53 then PIs n (sprV p n [x1, y0] [1, p - 1]) v5 w5 else if d = 54 then PRsF w.heap.size 2 [sprV p n [x0, y0] [1, p - 1], sprV p n [x1, y0] [1, p - 1]] v5 w5 else if d = 6 then PRsF w.heap.size 2 [sprV p n [x0, y0] [1, p - 1], sprV p n [x1, y0] [1, p - 1]] v5 w5 else True) (by kernel_rfl) (fun d => Stb.ite (PIn.stb _ _) (Stb.ite (PIn.stb _ _) (Stb.ite (PIs.stb _ _) (Stb.ite (PIn.stb _ _) (Stb.ite (PIn.stb _ _) (Stb.ite (PIs.stb _ _) (Stb.ite (PRsF.stb _ _ _) (Stb.ite (PRsF.stb _ _ _) (Stb.true))))))))) (fun w' hw' => below_trans hbd hw' hbd.size) ?steps9 ?fin9
   case steps9 =>
    refine ⟨⟨_, rfl, fun xs w5 hb5 hd K hK => ?_⟩, ⟨_, rfl, fun xs w5 hb5 hd K hK => ?_⟩, ⟨_, rfl, fun xs w5 hb5 hd K hK => ?_⟩, ⟨_, rfl, fun xs w5 hb5 hd K hK => ?_⟩, ⟨_, rfl, fun xs w5 hb5 hd K hK => ?_⟩, ⟨_, rfl, fun xs w5 hb5 hd K hK => ?_⟩, ⟨_, rfl, fun xs w5 hb5 hd K hK => ?_⟩, ⟨_, rfl, fun xs w5 hb5 hd K hK => ?_⟩, trivial⟩
    · simp only [putZ, List.foldl_cons, List.foldl_nil, Act.put, nS] at hK ⊢
      go_simp
      exact hK _ _ (below_alloc _ _) ⟨_, 2, rfl, rd_laidC w5 [x0, y0] (by unfold maxLen; simp)⟩
    · simp only [putZ, List.foldl_cons, List.foldl_nil, Act.put, nS] at hK ⊢
      go_simp
      exact hK _ _ (below_alloc _ _) ⟨_, 2, rfl, rd_laidC w5 [1, p - 1] (by unfold maxLen; simp)⟩
    · obtain ⟨B1, c1, e1, r1⟩ := (hd 36 (by decide) : PIn 2 [x0, y0] (xs 36) w5)
      obtain ⟨B2, c2, e2, r2⟩ := (hd 39 (by decide) : PIn 2 [1, p - 1] (xs 39) w5)
      simp only [putZ, List.foldl_cons, List.foldl_nil, Act.put, nS] at hK ⊢
      simp only [e1, e2] at hK ⊢
      refine wp_callZ (f := ?f_22) (args := ?args_22) ?hr_22 ?hc_22
      case hr_22 => (go_simp; first | done | with_reducible rfl | (constructor <;> with_reducible rfl))
      case hc_22 =>
       refine (dnRow_any p n 2 B1 B2 c1 c2 [x0, y0] [1, p - 1] w5 r1 r2 rfl rfl (fun x hx => by simp at hx; omega) (fun x hx => by simp at hx; omega) h0 h97 hn (by omega)).mono ?_
       rintro e w6 ⟨B3, c3, rfl, h3, _, hb6⟩
       have hl3 : (sprV p n [x0, y0] [1, p - 1]).length = n := sprTo_length _ _ _ _ _
       rw [hl3]
       exact ⟨_, rfl, hK _ _ hb6 ⟨B3, c3, rfl, h3⟩⟩
    · simp only [putZ, List.foldl_cons, List.foldl_nil, Act.put, nS] at hK ⊢
      go_simp
      exact hK _ _ (below_alloc _ _) ⟨_, 2, rfl, rd_laidC w5 [x1, y0] (by unfold maxLen; simp)⟩
    · simp only [putZ, List.foldl_cons, List.foldl_nil, Act.put, nS] at hK ⊢
      go_simp
      exact hK _ _ (below_alloc _ _) ⟨_, 2, rfl, rd_laidC w5 [1, p - 1] (by unfold maxLen; simp)⟩
    · obtain ⟨B1, c1, e1, r1⟩ := (hd 49 (by decide) : PIn 2 [x1, y0] (xs 49) w5)
      obtain ⟨B2, c2, e2, r2⟩ := (hd 52 (by decide) : PIn 2 [1, p - 1] (xs 52) w5)
      simp only [putZ, List.foldl_cons, List.foldl_nil, Act.put, nS] at hK ⊢
      simp only [e1, e2] at hK ⊢
      refine wp_callZ (f := ?f_25) (args := ?args_25) ?hr_25 ?hc_25
      case hr_25 => (go_simp; first | done | with_reducible rfl | (constructor <;> with_reducible rfl))
      case hc_25 =>
       refine (dnRow_any p n 2 B1 B2 c1 c2 [x1, y0] [1, p - 1] w5 r1 r2 rfl rfl (fun x hx => by simp at hx; omega) (fun x hx => by simp at hx; omega) h0 h97 hn (by omega)).mono ?_
       rintro e w6 ⟨B3, c3, rfl, h3, _, hb6⟩
       have hl3 : (sprV p n [x1, y0] [1, p - 1]).length = n := sprTo_length _ _ _ _ _
       rw [hl3]
       exact ⟨_, rfl, hK _ _ hb6 ⟨B3, c3, rfl, h3⟩⟩
    · obtain ⟨B0, c0, e0, r0⟩ := (hd 40 (by decide) : PIs n (sprV p n [x0, y0] [1, p - 1]) (xs 40) w5)
      obtain ⟨B1, c1, e1, r1⟩ := (hd 53 (by decide) : PIs n (sprV p n [x1, y0] [1, p - 1]) (xs 53) w5)
      have l0 : (sprV p n [x0, y0] [1, p - 1]).length = n := sprTo_length _ _ _ _ _
      have l1 : (sprV p n [x1, y0] [1, p - 1]).length = n := sprTo_length _ _ _ _ _
      simp only [putZ, List.foldl_cons, List.foldl_nil, Act.put, nS] at hK ⊢
      simp only [e0, e1] at hK ⊢
      go_simp
      have hp := PRsF.laid w.heap.size w5 (by first | (have := hB0_h.out.size; have := hbd.size; have := hb5.size; omega) | (have := hB1_h.out.size; have := hbd.size; have := hb5.size; omega)) ([(B0, c0, sprV p n [x0, y0] [1, p - 1]), (B1, c1, sprV p n [x1, y0] [1, p - 1])] : List Hd) (fun x hx => by
       simp only [List.mem_cons, List.not_mem_nil, or_false] at hx
       rcases hx with rfl | rfl
       · exact r0
       · exact r1) (by unfold maxLen; simp)
      have e5 : (([(B0, c0, sprV p n [x0, y0] [1, p - 1]), (B1, c1, sprV p n [x1, y0] [1, p - 1])] : List Hd).map Hd.val).toArray = #[.slice B0 n c0, .slice B1 n c1] := by simp [Hd.val, l0, l1]
      rw [e5] at hp
      exact hK _ _ (below_alloc _ _) hp
    · have h5 := (hd 54 (by decide) : PRsF w.heap.size 2 [sprV p n [x0, y0] [1, p - 1], sprV p n [x1, y0] [1, p - 1]] (xs 54) w5)
      simp only [putZ, List.foldl_cons, List.foldl_nil, Act.put, nS] at hK ⊢
      go_simp
      exact hK _ _ (Below.refl _ _) h5
   case fin9 =>
    intro xs w6 hb6 hR
    have h6 := (hR (27, 6) (by simp) : PRsF w.heap.size 2 [sprV p n [x0, y0] [1, p - 1], sprV p n [x1, y0] [1, p - 1]] (xs 6) w6)
    have hbf := below_trans hB1_h.out (below_trans hbd hb6 hbd.size) hB1_h.out.size
    clear hR cx0 cx1 cy0; have h6_h := lH h6; have hbf_h := lH hbf; clear h6 hbf
    simp only [putZ, List.foldl_cons, List.foldl_nil, Act.put, nS]
    go_wp2_with (fail)
    go_ret
    exact ⟨_, rfl, h6_h.out, hbf_h.out⟩
 · have hll : l.length = 0 := by have h1 := congrArg Prod.fst hty; have h2 : (l.length : Int) = 0 := h1; omega
   have hml : m.length = 1 := by have h1 := congrArg Prod.snd hty; have h2 : (m.length : Int) = 1 := h1; omega
   clear hty hk
   obtain rfl : l = [] := List.eq_nil_of_length_eq_zero hll
   obtain ⟨y0, rfl⟩ := len_one hml
   have hM : dnRowsM p n (10, v, [], [y0]) = [] := rfl
   rw [hM]
   clear hM
   obtain ⟨bd, _, rfl, ey0, cy0⟩ := hB.at_ (j := 0) (by simp)
   obtain rfl := Option.some.inj ey0
   have cy0 : w.cell? bd = some (.int .i64 y0) := cy0
   have hbd0 : bd.add 0 = bd := rfl
   have qy0 := hat y0 (by simp)
   clear hat
   obtain ⟨W, hW⟩ : ∃ W, W = w.alloc (.cells #[.int .i64 10, .int .i64 v, .slice A 0 a, .slice (some bd) 1 b] tEd) := ⟨_, rfl⟩
   have bW := below_alloc w (.cells #[.int .i64 10, .int .i64 v, .slice A 0 a, .slice (some bd) 1 b] tEd)
   have k0 := heap_alloc_new w (.cells #[.int .i64 10, .int .i64 v, .slice A 0 a, .slice (some bd) 1 b] tEd)
   rw [← hW] at bW k0
   have cy0 := cell_mvd bW cy0
   obtain ⟨⟨g0, g1, g2, g3⟩, f0, f1, f2, f3⟩ := box4 k0
   have bW_h := lH bW; have k0_h := lH k0; clear bW k0
   go_enter Tryd.func33, Tryd.ntmps33
   go_upto_region 1 with (fail)
   rw [← hW]
   clear hW
   go_quiet (fail)
   obtain ⟨Wd, hWd⟩ : ∃ Wd, Wd = W.drewN nq := ⟨_, rfl⟩
   have hbd : Below W.heap.size W Wd := by rw [hWd]; exact below_drewN (Below.refl _ _) nq
   rw [← hWd]
   clear hWd g0 g1 g2 g3 f0 f1 f2 f3
   replace k0_h := lH (box_below k0_h.out hbd)
   have cy0 := cell_mvd hbd cy0
   have hB0 := below_trans bW_h.out hbd bW_h.out.size
   clear hbd; have hB0_h := lH hB0; clear hB0
   obtain ⟨⟨g0, g1, g2, g3⟩, f0, f1, f2, f3⟩ := box4 k0_h.out
   go_wp2_with (fail)
   go_quiet (fail)
   obtain ⟨We, hWe⟩ : ∃ We, We = Wd.drewN nq := ⟨_, rfl⟩
   have hbe : Below Wd.heap.size Wd We := by rw [hWe]; exact below_drewN (Below.refl _ _) nq
   rw [← hWe]
   clear hWe g0 g1 g2 g3 f0 f1 f2 f3
   replace k0_h := lH (box_below k0_h.out hbe)
   have cy0 := cell_mvd hbe cy0
   have hB1 := below_trans hB0_h.out hbe hB0_h.out.size
   clear hbe; have hB1_h := lH hB1; clear hB1
   obtain ⟨⟨g0, g1, g2, g3⟩, f0, f1, f2, f3⟩ := box4 k0_h.out
   go_wp2_with (fail)
   go_ret
   exact ⟨_, rfl, ⟨none, 0, [], rfl, rfl, rfl, ⟨fun i h hh => by simp at hh, fun h hh => by cases hh⟩, (fun h hh => by cases hh), fun b hb => by simp at hb⟩, hB1_h.out⟩
 · have hll : l.length = 1 := by have h1 := congrArg Prod.fst hty; have h2 : (l.length : Int) = 1 := h1; omega
   have hml : m.length = 2 := by have h1 := congrArg Prod.snd hty; have h2 : (m.length : Int) = 2 := h1; omega
   clear hty hk
   obtain ⟨x0, rfl⟩ := len_one hll
   obtain ⟨y0, y1, rfl⟩ := len_two hml
   have hM : dnRowsM p n (11, v, [x0], [y0, y1]) = [sprV p n [x0, y0, y1] [1, p - 1, p - 1]] := rfl
   rw [hM]
   clear hM
   obtain ⟨ad, _, rfl, ex0, cx0⟩ := hA.at_ (j := 0) (by simp)
   obtain rfl := Option.some.inj ex0
   have cx0 : w.cell? ad = some (.int .i64 x0) := cx0
   have had0 : ad.add 0 = ad := rfl
   obtain ⟨bd, _, rfl, ey0, cy0⟩ := hB.at_ (j := 0) (by simp)
   obtain rfl := Option.some.inj ey0
   have cy0 : w.cell? bd = some (.int .i64 y0) := cy0
   have hbd0 : bd.add 0 = bd := rfl
   obtain ⟨ad', _, e', ey1, cy1⟩ := hB.at_ (j := 1) (by simp)
   obtain rfl := Option.some.inj e'
   obtain rfl := Option.some.inj ey1
   have cy1 : w.cell? ⟨bd.block, bd.off + 1, none⟩ = some (.int .i64 y1) := cy1
   have qx0 := hat x0 (by simp)
   have qy0 := hat y0 (by simp)
   have qy1 := hat y1 (by simp)
   clear hat
   obtain ⟨W, hW⟩ : ∃ W, W = w.alloc (.cells #[.int .i64 11, .int .i64 v, .slice (some ad) 1 a, .slice (some bd) 2 b] tEd) := ⟨_, rfl⟩
   have bW := below_alloc w (.cells #[.int .i64 11, .int .i64 v, .slice (some ad) 1 a, .slice (some bd) 2 b] tEd)
   have k0 := heap_alloc_new w (.cells #[.int .i64 11, .int .i64 v, .slice (some ad) 1 a, .slice (some bd) 2 b] tEd)
   rw [← hW] at bW k0
   have cx0 := cell_mvd bW cx0
   have cy0 := cell_mvd bW cy0
   have cy1 := cell_mvd bW cy1
   obtain ⟨⟨g0, g1, g2, g3⟩, f0, f1, f2, f3⟩ := box4 k0
   have bW_h := lH bW; have k0_h := lH k0; clear bW k0
   go_enter Tryd.func33, Tryd.ntmps33
   go_upto_region 1 with (fail)
   rw [← hW]
   clear hW
   go_quiet (fail)
   obtain ⟨Wd, hWd⟩ : ∃ Wd, Wd = W.drewN nq := ⟨_, rfl⟩
   have hbd : Below W.heap.size W Wd := by rw [hWd]; exact below_drewN (Below.refl _ _) nq
   rw [← hWd]
   clear hWd g0 g1 g2 g3 f0 f1 f2 f3
   replace k0_h := lH (box_below k0_h.out hbd)
   have cx0 := cell_mvd hbd cx0
   have cy0 := cell_mvd hbd cy0
   have cy1 := cell_mvd hbd cy1
   have hB0 := below_trans bW_h.out hbd bW_h.out.size
   clear hbd; have hB0_h := lH hB0; clear hB0
   obtain ⟨⟨g0, g1, g2, g3⟩, f0, f1, f2, f3⟩ := box4 k0_h.out
   go_wp2_with (fail)
   go_quiet (fail)
   obtain ⟨We, hWe⟩ : ∃ We, We = Wd.drewN nq := ⟨_, rfl⟩
   have hbe : Below Wd.heap.size Wd We := by rw [hWe]; exact below_drewN (Below.refl _ _) nq
   rw [← hWe]
   clear hWe g0 g1 g2 g3 f0 f1 f2 f3
   replace k0_h := lH (box_below k0_h.out hbe)
   have cx0 := cell_mvd hbe cx0
   have cy0 := cell_mvd hbe cy0
   have cy1 := cell_mvd hbe cy1
   have hB1 := below_trans hB0_h.out hbe hB0_h.out.size
   clear hbe; have hB1_h := lH hB1; clear hB1
   obtain ⟨⟨g0, g1, g2, g3⟩, f0, f1, f2, f3⟩ := box4 k0_h.out
   go_wp2_with (fail)
   clear g0 g1 g2 g3 f0 f1 f2 f3
   have hbd : Below We.heap.size We We.drew := below_drewN (Below.refl _ _) 1
   refine beginH (fun w' => Below We.heap.size We w') (by kernel_rfl) ?_
   generalize We.drew = W1 at hbd ⊢
   refine tkH 0 ?_ rfl hbd (fun W' hW' => ?_) ?_; rotate_left; · (have zx0 := cell_mvd hW' cx0; have zy0 := cell_mvd hW' cy0; have zy1 := cell_mvd hW' cy1; clear hW'; go_simp; first | done | with_reducible rfl)
   simp only [Act.put, nS]
   refine tkH 1 ?_ rfl hbd (fun W' hW' => ?_) ?_; rotate_left; · (have zx0 := cell_mvd hW' cx0; have zy0 := cell_mvd hW' cy0; have zy1 := cell_mvd hW' cy1; clear hW'; go_simp; first | done | with_reducible rfl)
   simp only [Act.put, nS]
   refine tkH 2 ?_ rfl hbd (fun W' hW' => ?_) ?_; rotate_left; · (have zx0 := cell_mvd hW' cx0; have zy0 := cell_mvd hW' cy0; have zy1 := cell_mvd hW' cy1; clear hW'; go_simp; first | done | with_reducible rfl)
   simp only [Act.put, nS]
   refine tkH 3 ?_ rfl hbd (fun W' hW' => ?_) ?_; rotate_left; · (have zx0 := cell_mvd hW' cx0; have zy0 := cell_mvd hW' cy0; have zy1 := cell_mvd hW' cy1; clear hW'; go_simp; first | done | with_reducible rfl)
   simp only [Act.put, nS]
   refine tkH 4 ?_ rfl hbd (fun W' hW' => ?_) ?_; rotate_left; · (have zx0 := cell_mvd hW' cx0; have zy0 := cell_mvd hW' cy0; have zy1 := cell_mvd hW' cy1; clear hW'; go_simp; first | done | with_reducible rfl)
   simp only [Act.put, nS]
   refine tkH 5 ?_ rfl hbd (fun W' hW' => ?_) ?_; rotate_left; · (have zx0 := cell_mvd hW' cx0; have zy0 := cell_mvd hW' cy0; have zy1 := cell_mvd hW' cy1; clear hW'; go_simp; first | done | with_reducible rfl)
   simp only [Act.put, nS]
   refine tkH 6 ?_ rfl hbd (fun W' hW' => ?_) ?_; rotate_left; · (have zx0 := cell_mvd hW' cx0; have zy0 := cell_mvd hW' cy0; have zy1 := cell_mvd hW' cy1; clear hW'; go_simp; first | done | with_reducible rfl)
   simp only [Act.put, nS]
   refine tkH 7 ?_ rfl hbd (fun W' hW' => ?_) ?_; rotate_left; · (have zx0 := cell_mvd hW' cx0; have zy0 := cell_mvd hW' cy0; have zy1 := cell_mvd hW' cy1; clear hW'; go_simp; first | done | with_reducible rfl)
   simp only [Act.put, nS]
   refine tkH 8 ?_ rfl hbd (fun W' hW' => ?_) ?_; rotate_left; · (have zx0 := cell_mvd hW' cx0; have zy0 := cell_mvd hW' cy0; have zy1 := cell_mvd hW' cy1; clear hW'; go_simp; first | done | with_reducible rfl)
   simp only [Act.put, nS]
   refine tkH 9 ?_ rfl hbd (fun W' hW' => ?_) ?_; rotate_left; · (have zx0 := cell_mvd hW' cx0; have zy0 := cell_mvd hW' cy0; have zy1 := cell_mvd hW' cy1; clear hW'; go_simp; first | done | with_reducible rfl)
   simp only [Act.put, nS]
   refine tkH 10 ?_ rfl hbd (fun W' hW' => ?_) ?_; rotate_left; · (have zx0 := cell_mvd hW' cx0; have zy0 := cell_mvd hW' cy0; have zy1 := cell_mvd hW' cy1; clear hW'; go_simp; first | done | with_reducible rfl)
   simp only [Act.put, nS]
   refine tkH 12 ?_ rfl hbd (fun W' hW' => ?_) ?_; rotate_left; · (have zx0 := cell_mvd hW' cx0; have zy0 := cell_mvd hW' cy0; have zy1 := cell_mvd hW' cy1; clear hW'; go_simp; first | done | with_reducible rfl)
   simp only [Act.put, nS]
   refine tkH 13 ?_ rfl hbd (fun W' hW' => ?_) ?_; rotate_left; · (have zx0 := cell_mvd hW' cx0; have zy0 := cell_mvd hW' cy0; have zy1 := cell_mvd hW' cy1; clear hW'; go_simp; first | done | with_reducible rfl)
   simp only [Act.put, nS]
   refine tkH 14 ?_ rfl hbd (fun W' hW' => ?_) ?_; rotate_left; · (have zx0 := cell_mvd hW' cx0; have zy0 := cell_mvd hW' cy0; have zy1 := cell_mvd hW' cy1; clear hW'; go_simp; first | done | with_reducible rfl)
   simp only [Act.put, nS]
   refine tkH 15 ?_ rfl hbd (fun W' hW' => ?_) ?_; rotate_left; · (have zx0 := cell_mvd hW' cx0; have zy0 := cell_mvd hW' cy0; have zy1 := cell_mvd hW' cy1; clear hW'; go_simp; first | done | with_reducible rfl)
   simp only [Act.put, nS]
   refine relZ (P := Tryd.prog) [(11, 68), (16, 73), (17, 74), (18, 75), (19, 6)] (fun i => if i = 17 then [68, 73] else if i = 18 then [74] else if i = 19 then [75] else []) (fun d v5 w5 => if d = 68 then PIn 3 [x0, y0, y1] v5 w5 else if d = 73 then PIn 3 [1, p - 1, p - 1] v5 w5 else if d = 74 then PIs n (sprV p n [x0, y0, y1] [1, p - 1, p - 1]) v5 w5 else if d = 75 then PRsF w.heap.size 1 [sprV p n [x0, y0, y1] [1, p - 1, p - 1]] v5 w5 else if d = 6 then PRsF w.heap.size 1 [sprV p n [x0, y0, y1] [1, p - 1, p - 1]] v5 w5 else True) (by kernel_rfl) (fun d => Stb.ite (PIn.stb _ _) (Stb.ite (PIn.stb _ _) (Stb.ite (PIs.stb _ _) (Stb.ite (PRsF.stb _ _ _) (Stb.ite (PRsF.stb _ _ _) (Stb.true)))))) (fun w' hw' => below_trans hbd hw' hbd.size) ?steps11 ?fin11
   case steps11 =>
    refine ⟨⟨_, rfl, fun xs w5 hb5 hd K hK => ?_⟩, ⟨_, rfl, fun xs w5 hb5 hd K hK => ?_⟩, ⟨_, rfl, fun xs w5 hb5 hd K hK => ?_⟩, ⟨_, rfl, fun xs w5 hb5 hd K hK => ?_⟩, ⟨_, rfl, fun xs w5 hb5 hd K hK => ?_⟩, trivial⟩
    · simp only [putZ, List.foldl_cons, List.foldl_nil, Act.put, nS] at hK ⊢
      go_simp
      exact hK _ _ (below_alloc _ _) ⟨_, 3, rfl, rd_laidC w5 [x0, y0, y1] (by unfold maxLen; simp)⟩
    · simp only [putZ, List.foldl_cons, List.foldl_nil, Act.put, nS] at hK ⊢
      go_simp
      exact hK _ _ (below_alloc _ _) ⟨_, 3, rfl, rd_laidC w5 [1, p - 1, p - 1] (by unfold maxLen; simp)⟩
    · obtain ⟨B1, c1, e1, r1⟩ := (hd 68 (by decide) : PIn 3 [x0, y0, y1] (xs 68) w5)
      obtain ⟨B2, c2, e2, r2⟩ := (hd 73 (by decide) : PIn 3 [1, p - 1, p - 1] (xs 73) w5)
      simp only [putZ, List.foldl_cons, List.foldl_nil, Act.put, nS] at hK ⊢
      simp only [e1, e2] at hK ⊢
      refine wp_callZ (f := ?f_30) (args := ?args_30) ?hr_30 ?hc_30
      case hr_30 => (go_simp; first | done | with_reducible rfl | (constructor <;> with_reducible rfl))
      case hc_30 =>
       refine (dnRow_any p n 3 B1 B2 c1 c2 [x0, y0, y1] [1, p - 1, p - 1] w5 r1 r2 rfl rfl (fun x hx => by simp at hx; omega) (fun x hx => by simp at hx; omega) h0 h97 hn (by omega)).mono ?_
       rintro e w6 ⟨B3, c3, rfl, h3, _, hb6⟩
       have hl3 : (sprV p n [x0, y0, y1] [1, p - 1, p - 1]).length = n := sprTo_length _ _ _ _ _
       rw [hl3]
       exact ⟨_, rfl, hK _ _ hb6 ⟨B3, c3, rfl, h3⟩⟩
    · obtain ⟨B0, c0, e0, r0⟩ := (hd 74 (by decide) : PIs n (sprV p n [x0, y0, y1] [1, p - 1, p - 1]) (xs 74) w5)
      have l0 : (sprV p n [x0, y0, y1] [1, p - 1, p - 1]).length = n := sprTo_length _ _ _ _ _
      simp only [putZ, List.foldl_cons, List.foldl_nil, Act.put, nS] at hK ⊢
      simp only [e0] at hK ⊢
      go_simp
      have hp := PRsF.laid w.heap.size w5 (by first | (have := hB0_h.out.size; have := hbd.size; have := hb5.size; omega) | (have := hB1_h.out.size; have := hbd.size; have := hb5.size; omega)) ([(B0, c0, sprV p n [x0, y0, y1] [1, p - 1, p - 1])] : List Hd) (fun x hx => by
       simp only [List.mem_cons, List.not_mem_nil, or_false] at hx
       subst hx
       exact r0) (by unfold maxLen; simp)
      have e5 : (([(B0, c0, sprV p n [x0, y0, y1] [1, p - 1, p - 1])] : List Hd).map Hd.val).toArray = #[.slice B0 n c0] := by simp [Hd.val, l0]
      rw [e5] at hp
      exact hK _ _ (below_alloc _ _) hp
    · have h5 := (hd 75 (by decide) : PRsF w.heap.size 1 [sprV p n [x0, y0, y1] [1, p - 1, p - 1]] (xs 75) w5)
      simp only [putZ, List.foldl_cons, List.foldl_nil, Act.put, nS] at hK ⊢
      go_simp
      exact hK _ _ (Below.refl _ _) h5
   case fin11 =>
    intro xs w6 hb6 hR
    have h6 := (hR (19, 6) (by simp) : PRsF w.heap.size 1 [sprV p n [x0, y0, y1] [1, p - 1, p - 1]] (xs 6) w6)
    have hbf := below_trans hB1_h.out (below_trans hbd hb6 hbd.size) hB1_h.out.size
    clear hR cx0 cy0 cy1; have h6_h := lH h6; have hbf_h := lH hbf; clear h6 hbf
    simp only [putZ, List.foldl_cons, List.foldl_nil, Act.put, nS]
    go_wp2_with (fail)
    go_ret
    exact ⟨_, rfl, h6_h.out, hbf_h.out⟩
 · have hll : l.length = 1 := by have h1 := congrArg Prod.fst hty; have h2 : (l.length : Int) = 1 := h1; omega
   have hml : m.length = 0 := by have h1 := congrArg Prod.snd hty; have h2 : (m.length : Int) = 0 := h1; omega
   clear hty hk
   obtain ⟨x0, rfl⟩ := len_one hll
   obtain rfl : m = [] := List.eq_nil_of_length_eq_zero hml
   have hM : dnRowsM p n (12, v, [x0], []) = [sprV p n [x0] [1]] := rfl
   rw [hM]
   clear hM
   obtain ⟨ad, _, rfl, ex0, cx0⟩ := hA.at_ (j := 0) (by simp)
   obtain rfl := Option.some.inj ex0
   have cx0 : w.cell? ad = some (.int .i64 x0) := cx0
   have had0 : ad.add 0 = ad := rfl
   have qx0 := hat x0 (by simp)
   clear hat
   obtain ⟨W, hW⟩ : ∃ W, W = w.alloc (.cells #[.int .i64 12, .int .i64 v, .slice (some ad) 1 a, .slice B 0 b] tEd) := ⟨_, rfl⟩
   have bW := below_alloc w (.cells #[.int .i64 12, .int .i64 v, .slice (some ad) 1 a, .slice B 0 b] tEd)
   have k0 := heap_alloc_new w (.cells #[.int .i64 12, .int .i64 v, .slice (some ad) 1 a, .slice B 0 b] tEd)
   rw [← hW] at bW k0
   have cx0 := cell_mvd bW cx0
   obtain ⟨⟨g0, g1, g2, g3⟩, f0, f1, f2, f3⟩ := box4 k0
   have bW_h := lH bW; have k0_h := lH k0; clear bW k0
   go_enter Tryd.func33, Tryd.ntmps33
   go_upto_region 1 with (fail)
   rw [← hW]
   clear hW
   go_quiet (fail)
   obtain ⟨Wd, hWd⟩ : ∃ Wd, Wd = W.drewN nq := ⟨_, rfl⟩
   have hbd : Below W.heap.size W Wd := by rw [hWd]; exact below_drewN (Below.refl _ _) nq
   rw [← hWd]
   clear hWd g0 g1 g2 g3 f0 f1 f2 f3
   replace k0_h := lH (box_below k0_h.out hbd)
   have cx0 := cell_mvd hbd cx0
   have hB0 := below_trans bW_h.out hbd bW_h.out.size
   clear hbd; have hB0_h := lH hB0; clear hB0
   obtain ⟨⟨g0, g1, g2, g3⟩, f0, f1, f2, f3⟩ := box4 k0_h.out
   go_wp2_with (fail)
   go_quiet (fail)
   obtain ⟨We, hWe⟩ : ∃ We, We = Wd.drewN nq := ⟨_, rfl⟩
   have hbe : Below Wd.heap.size Wd We := by rw [hWe]; exact below_drewN (Below.refl _ _) nq
   rw [← hWe]
   clear hWe g0 g1 g2 g3 f0 f1 f2 f3
   replace k0_h := lH (box_below k0_h.out hbe)
   have cx0 := cell_mvd hbe cx0
   have hB1 := below_trans hB0_h.out hbe hB0_h.out.size
   clear hbe; have hB1_h := lH hB1; clear hB1
   obtain ⟨⟨g0, g1, g2, g3⟩, f0, f1, f2, f3⟩ := box4 k0_h.out
   go_wp2_with (fail)
   have r1 := (rd_laidC We [x0] (by unfold maxLen; simp)).below (below_alloc _ (.cells (ints [1]).toArray 3))
   have r2 := rd_laidC (We.alloc (.cells (ints [x0]).toArray 3)) [1] (by unfold maxLen; simp)
   simp only [World.size_alloc] at r2
   have b12 := below_trans (below_alloc We (.cells (ints [x0]).toArray 3)) (below_alloc _ (.cells (ints [1]).toArray 3)) (below_alloc We (.cells (ints [x0]).toArray 3)).size
   have hC := dnRow_any p n 1 _ _ 1 1 [x0] [1] _ r1 r2 rfl rfl (fun x hx => by simp at hx; omega) (fun x hx => by simp at hx; omega) h0 h97 hn (by omega)
   refine (hC).mono ?_
   rintro e w6 ⟨B3, c3, rfl, h3, _, hb6⟩
   have hl3 : (sprV p n [x0] [1]).length = n := sprTo_length _ _ _ _ _
   rw [hl3]
   have hbf := below_trans hB1_h.out (below_trans b12 hb6 b12.size) hB1_h.out.size
   have hp := PRsF.laid w.heap.size w6 (by have := hbf.size; omega) ([(B3, c3, sprV p n [x0] [1])] : List Hd) (fun x hx => by
    simp only [List.mem_cons, List.not_mem_nil, or_false] at hx
    subst hx
    exact h3) (by unfold maxLen; simp)
   have e5 : (([(B3, c3, sprV p n [x0] [1])] : List Hd).map Hd.val).toArray = #[.slice B3 n c3] := by simp [Hd.val, hl3]
   rw [e5] at hp
   have hbg := below_trans hbf (below_alloc w6 (.cells #[.slice B3 n c3] 23)) hbf.size
   clear hC r1 r2 b12 h3 hb6 e5; have hp_h := lH hp; have hbg_h := lH hbg; have hbf_h := lH hbf; clear hp hbg hbf
   go_wp2_with (fail)
   go_ret
   exact ⟨_, rfl, hp_h.out, hbg_h.out⟩
 · have hll : l.length = 1 := by have h1 := congrArg Prod.fst hty; have h2 : (l.length : Int) = 1 := h1; omega
   have hml : m.length = 1 := by have h1 := congrArg Prod.snd hty; have h2 : (m.length : Int) = 1 := h1; omega
   clear hty hk
   obtain ⟨x0, rfl⟩ := len_one hll
   obtain ⟨y0, rfl⟩ := len_one hml
   have hM : dnRowsM p n (13, v, [x0], [y0]) = [sprV p n [x0, y0] [1, -v % p]] := rfl
   rw [hM]
   clear hM
   obtain ⟨ad, _, rfl, ex0, cx0⟩ := hA.at_ (j := 0) (by simp)
   obtain rfl := Option.some.inj ex0
   have cx0 : w.cell? ad = some (.int .i64 x0) := cx0
   have had0 : ad.add 0 = ad := rfl
   obtain ⟨bd, _, rfl, ey0, cy0⟩ := hB.at_ (j := 0) (by simp)
   obtain rfl := Option.some.inj ey0
   have cy0 : w.cell? bd = some (.int .i64 y0) := cy0
   have hbd0 : bd.add 0 = bd := rfl
   have qx0 := hat x0 (by simp)
   have qy0 := hat y0 (by simp)
   clear hat
   obtain ⟨W, hW⟩ : ∃ W, W = w.alloc (.cells #[.int .i64 13, .int .i64 v, .slice (some ad) 1 a, .slice (some bd) 1 b] tEd) := ⟨_, rfl⟩
   have bW := below_alloc w (.cells #[.int .i64 13, .int .i64 v, .slice (some ad) 1 a, .slice (some bd) 1 b] tEd)
   have k0 := heap_alloc_new w (.cells #[.int .i64 13, .int .i64 v, .slice (some ad) 1 a, .slice (some bd) 1 b] tEd)
   rw [← hW] at bW k0
   have cx0 := cell_mvd bW cx0
   have cy0 := cell_mvd bW cy0
   obtain ⟨⟨g0, g1, g2, g3⟩, f0, f1, f2, f3⟩ := box4 k0
   have bW_h := lH bW; have k0_h := lH k0; clear bW k0
   go_enter Tryd.func33, Tryd.ntmps33
   go_upto_region 1 with (fail)
   rw [← hW]
   clear hW
   go_quiet (fail)
   obtain ⟨Wd, hWd⟩ : ∃ Wd, Wd = W.drewN nq := ⟨_, rfl⟩
   have hbd : Below W.heap.size W Wd := by rw [hWd]; exact below_drewN (Below.refl _ _) nq
   rw [← hWd]
   clear hWd g0 g1 g2 g3 f0 f1 f2 f3
   replace k0_h := lH (box_below k0_h.out hbd)
   have cx0 := cell_mvd hbd cx0
   have cy0 := cell_mvd hbd cy0
   have hB0 := below_trans bW_h.out hbd bW_h.out.size
   clear hbd; have hB0_h := lH hB0; clear hB0
   obtain ⟨⟨g0, g1, g2, g3⟩, f0, f1, f2, f3⟩ := box4 k0_h.out
   go_wp2_with (fail)
   go_quiet (fail)
   obtain ⟨We, hWe⟩ : ∃ We, We = Wd.drewN nq := ⟨_, rfl⟩
   have hbe : Below Wd.heap.size Wd We := by rw [hWe]; exact below_drewN (Below.refl _ _) nq
   rw [← hWe]
   clear hWe g0 g1 g2 g3 f0 f1 f2 f3
   replace k0_h := lH (box_below k0_h.out hbe)
   have cx0 := cell_mvd hbe cx0
   have cy0 := cell_mvd hbe cy0
   have hB1 := below_trans hB0_h.out hbe hB0_h.out.size
   clear hbe; have hB1_h := lH hB1; clear hB1
   obtain ⟨⟨g0, g1, g2, g3⟩, f0, f1, f2, f3⟩ := box4 k0_h.out
   go_wp2_with (fail)
   clear g0  g2 g3 f0 f1 f2 f3
   have hbd : Below We.heap.size We We.drew := below_drewN (Below.refl _ _) 1
   refine beginH (fun w' => Below We.heap.size We w') (by kernel_rfl) ?_
   generalize We.drew = W1 at hbd ⊢
   refine tkH 0 ?_ rfl hbd (fun W' hW' => ?_) ?_; rotate_left; · (obtain ⟨⟨b0, b1, b2, b3⟩, d0, d1, d2, d3⟩ := box4 (box_below k0_h.out hW'); have zx0 := cell_mvd hW' cx0; have zy0 := cell_mvd hW' cy0; clear hW'; go_simp; first | done | with_reducible rfl)
   simp only [Act.put, nS]
   refine tkH 1 ?_ rfl hbd (fun W' hW' => ?_) ?_; rotate_left; · (obtain ⟨⟨b0, b1, b2, b3⟩, d0, d1, d2, d3⟩ := box4 (box_below k0_h.out hW'); have zx0 := cell_mvd hW' cx0; have zy0 := cell_mvd hW' cy0; clear hW'; go_simp; first | done | with_reducible rfl)
   simp only [Act.put, nS]
   refine tkH 2 ?_ rfl hbd (fun W' hW' => ?_) ?_; rotate_left; · (obtain ⟨⟨b0, b1, b2, b3⟩, d0, d1, d2, d3⟩ := box4 (box_below k0_h.out hW'); have zx0 := cell_mvd hW' cx0; have zy0 := cell_mvd hW' cy0; clear hW'; go_simp; first | done | with_reducible rfl)
   simp only [Act.put, nS]
   refine tkH 3 ?_ rfl hbd (fun W' hW' => ?_) ?_; rotate_left; · (obtain ⟨⟨b0, b1, b2, b3⟩, d0, d1, d2, d3⟩ := box4 (box_below k0_h.out hW'); have zx0 := cell_mvd hW' cx0; have zy0 := cell_mvd hW' cy0; clear hW'; go_simp; first | done | with_reducible rfl)
   simp only [Act.put, nS]
   refine tkH 4 ?_ rfl hbd (fun W' hW' => ?_) ?_; rotate_left; · (obtain ⟨⟨b0, b1, b2, b3⟩, d0, d1, d2, d3⟩ := box4 (box_below k0_h.out hW'); have zx0 := cell_mvd hW' cx0; have zy0 := cell_mvd hW' cy0; clear hW'; go_simp; first | done | with_reducible rfl)
   simp only [Act.put, nS]
   refine tkH 5 ?_ rfl hbd (fun W' hW' => ?_) ?_; rotate_left; · (obtain ⟨⟨b0, b1, b2, b3⟩, d0, d1, d2, d3⟩ := box4 (box_below k0_h.out hW'); have zx0 := cell_mvd hW' cx0; have zy0 := cell_mvd hW' cy0; clear hW'; go_simp; first | done | with_reducible rfl)
   simp only [Act.put, nS]
   refine tkH 6 ?_ rfl hbd (fun W' hW' => ?_) ?_; rotate_left; · (obtain ⟨⟨b0, b1, b2, b3⟩, d0, d1, d2, d3⟩ := box4 (box_below k0_h.out hW'); have zx0 := cell_mvd hW' cx0; have zy0 := cell_mvd hW' cy0; clear hW'; go_simp; first | done | with_reducible rfl)
   simp only [Act.put, nS]
   refine tkH 7 ?_ rfl hbd (fun W' hW' => ?_) ?_; rotate_left; · (obtain ⟨⟨b0, b1, b2, b3⟩, d0, d1, d2, d3⟩ := box4 (box_below k0_h.out hW'); have zx0 := cell_mvd hW' cx0; have zy0 := cell_mvd hW' cy0; clear hW'; go_simp; first | done | with_reducible rfl)
   simp only [Act.put, nS]
   refine tkH 9 ?_ rfl hbd (fun W' hW' => ?_) ?_; rotate_left; · (obtain ⟨⟨b0, b1, b2, b3⟩, d0, d1, d2, d3⟩ := box4 (box_below k0_h.out hW'); have zx0 := cell_mvd hW' cx0; have zy0 := cell_mvd hW' cy0; clear hW'; go_simp; first | done | with_reducible rfl)
   simp only [Act.put, nS]
   refine tkH 10 ?_ rfl hbd (fun W' hW' => ?_) ?_; rotate_left; · (obtain ⟨⟨b0, b1, b2, b3⟩, d0, d1, d2, d3⟩ := box4 (box_below k0_h.out hW'); have zx0 := cell_mvd hW' cx0; have zy0 := cell_mvd hW' cy0; clear hW'; go_simp; first | done | with_reducible rfl)
   simp only [Act.put, nS]
   refine tkH 11 ?_ rfl hbd (fun W' hW' => ?_) ?_; rotate_left; · (obtain ⟨⟨b0, b1, b2, b3⟩, d0, d1, d2, d3⟩ := box4 (box_below k0_h.out hW'); have zx0 := cell_mvd hW' cx0; have zy0 := cell_mvd hW' cy0; clear hW'; go_simp; first | done | with_reducible rfl)
   simp only [Act.put, nS]
   refine relZ (P := Tryd.prog) [(8, 97), (12, 101), (13, 102), (14, 103), (15, 104), (16, 6)] (fun i => if i = 13 then [101] else if i = 14 then [97, 102] else if i = 15 then [103] else if i = 16 then [104] else []) (fun d v5 w5 => if d = 97 then PIn 2 [x0, y0] v5 w5 else if d = 101 then PV (.int .i64 (-v % p)) v5 w5 else if d = 102 then PIn 2 [1, -v % p] v5 w5 else if d = 103 then PIs n (sprV p n [x0, y0] [1, -v % p]) v5 w5 else if d = 104 then PRsF w.heap.size 1 [sprV p n [x0, y0] [1, -v % p]] v5 w5 else if d = 6 then PRsF w.heap.size 1 [sprV p n [x0, y0] [1, -v % p]] v5 w5 else True) (by kernel_rfl) (fun d => Stb.ite (PIn.stb _ _) (Stb.ite (PV.stb _) (Stb.ite (PIn.stb _ _) (Stb.ite (PIs.stb _ _) (Stb.ite (PRsF.stb _ _ _) (Stb.ite (PRsF.stb _ _ _) (Stb.true))))))) (fun w' hw' => below_trans hbd hw' hbd.size) ?steps13 ?fin13
   case steps13 =>
    refine ⟨⟨_, rfl, fun xs w5 hb5 hd K hK => ?_⟩, ⟨_, rfl, fun xs w5 hb5 hd K hK => ?_⟩, ⟨_, rfl, fun xs w5 hb5 hd K hK => ?_⟩, ⟨_, rfl, fun xs w5 hb5 hd K hK => ?_⟩, ⟨_, rfl, fun xs w5 hb5 hd K hK => ?_⟩, ⟨_, rfl, fun xs w5 hb5 hd K hK => ?_⟩, trivial⟩
    · simp only [putZ, List.foldl_cons, List.foldl_nil, Act.put, nS] at hK ⊢
      go_simp
      exact hK _ _ (below_alloc _ _) ⟨_, 2, rfl, rd_laidC w5 [x0, y0] (by unfold maxLen; simp)⟩
    · simp only [putZ, List.foldl_cons, List.foldl_nil, Act.put, nS] at hK ⊢
      refine wp_callZ (f := ?f_34) (args := ?args_34) ?hr_34 ?hc_34
      case hr_34 => (go_simp; first | done | with_reducible rfl | (constructor <;> with_reducible rfl))
      case hc_34 =>
       refine (fdNeg_any p v w5 h0 h97 hv0 hvp).mono ?_
       rintro e w6 ⟨rfl, rfl⟩
       exact ⟨_, rfl, hK _ _ (Below.refl _ _) rfl⟩
    · have e1 : xs 101 = .int .i64 (-v % p) := hd 101 (by decide)
      simp only [putZ, List.foldl_cons, List.foldl_nil, Act.put, nS] at hK ⊢
      simp only [e1] at hK ⊢
      go_simp
      exact hK _ _ (below_alloc _ _) ⟨_, 2, rfl, rd_laidC w5 [1, -v % p] (by unfold maxLen; simp)⟩
    · obtain ⟨B1, c1, e1, r1⟩ := (hd 97 (by decide) : PIn 2 [x0, y0] (xs 97) w5)
      obtain ⟨B2, c2, e2, r2⟩ := (hd 102 (by decide) : PIn 2 [1, -v % p] (xs 102) w5)
      simp only [putZ, List.foldl_cons, List.foldl_nil, Act.put, nS] at hK ⊢
      simp only [e1, e2] at hK ⊢
      refine wp_callZ (f := ?f_36) (args := ?args_36) ?hr_36 ?hc_36
      case hr_36 => (go_simp; first | done | with_reducible rfl | (constructor <;> with_reducible rfl))
      case hc_36 =>
       refine (dnRow_any p n 2 B1 B2 c1 c2 [x0, y0] [1, -v % p] w5 r1 r2 rfl rfl (fun x hx => by simp at hx; omega) (fun x hx => by simp at hx; omega) h0 h97 hn (by omega)).mono ?_
       rintro e w6 ⟨B3, c3, rfl, h3, _, hb6⟩
       have hl3 : (sprV p n [x0, y0] [1, -v % p]).length = n := sprTo_length _ _ _ _ _
       rw [hl3]
       exact ⟨_, rfl, hK _ _ hb6 ⟨B3, c3, rfl, h3⟩⟩
    · obtain ⟨B0, c0, e0, r0⟩ := (hd 103 (by decide) : PIs n (sprV p n [x0, y0] [1, -v % p]) (xs 103) w5)
      have l0 : (sprV p n [x0, y0] [1, -v % p]).length = n := sprTo_length _ _ _ _ _
      simp only [putZ, List.foldl_cons, List.foldl_nil, Act.put, nS] at hK ⊢
      simp only [e0] at hK ⊢
      go_simp
      have hp := PRsF.laid w.heap.size w5 (by first | (have := hB0_h.out.size; have := hbd.size; have := hb5.size; omega) | (have := hB1_h.out.size; have := hbd.size; have := hb5.size; omega)) ([(B0, c0, sprV p n [x0, y0] [1, -v % p])] : List Hd) (fun x hx => by
       simp only [List.mem_cons, List.not_mem_nil, or_false] at hx
       subst hx
       exact r0) (by unfold maxLen; simp)
      have e5 : (([(B0, c0, sprV p n [x0, y0] [1, -v % p])] : List Hd).map Hd.val).toArray = #[.slice B0 n c0] := by simp [Hd.val, l0]
      rw [e5] at hp
      exact hK _ _ (below_alloc _ _) hp
    · have h5 := (hd 104 (by decide) : PRsF w.heap.size 1 [sprV p n [x0, y0] [1, -v % p]] (xs 104) w5)
      simp only [putZ, List.foldl_cons, List.foldl_nil, Act.put, nS] at hK ⊢
      go_simp
      exact hK _ _ (Below.refl _ _) h5
   case fin13 =>
    intro xs w6 hb6 hR
    have h6 := (hR (16, 6) (by simp) : PRsF w.heap.size 1 [sprV p n [x0, y0] [1, -v % p]] (xs 6) w6)
    have hbf := below_trans hB1_h.out (below_trans hbd hb6 hbd.size) hB1_h.out.size
    clear hR cx0 cy0; have h6_h := lH h6; have hbf_h := lH hbf; clear h6 hbf
    simp only [putZ, List.foldl_cons, List.foldl_nil, Act.put, nS]
    go_wp2_with (fail)
    go_ret
    exact ⟨_, rfl, h6_h.out, hbf_h.out⟩
 · have hll : l.length = 1 := by have h1 := congrArg Prod.fst hty; have h2 : (l.length : Int) = 1 := h1; omega
   have hml : m.length = 1 := by have h1 := congrArg Prod.snd hty; have h2 : (m.length : Int) = 1 := h1; omega
   clear hty hk
   obtain ⟨x0, rfl⟩ := len_one hll
   obtain ⟨y0, rfl⟩ := len_one hml
   have hM : dnRowsM p n (14, v, [x0], [y0]) = [] := rfl
   rw [hM]
   clear hM
   obtain ⟨ad, _, rfl, ex0, cx0⟩ := hA.at_ (j := 0) (by simp)
   obtain rfl := Option.some.inj ex0
   have cx0 : w.cell? ad = some (.int .i64 x0) := cx0
   have had0 : ad.add 0 = ad := rfl
   obtain ⟨bd, _, rfl, ey0, cy0⟩ := hB.at_ (j := 0) (by simp)
   obtain rfl := Option.some.inj ey0
   have cy0 : w.cell? bd = some (.int .i64 y0) := cy0
   have hbd0 : bd.add 0 = bd := rfl
   have qx0 := hat x0 (by simp)
   have qy0 := hat y0 (by simp)
   clear hat
   obtain ⟨W, hW⟩ : ∃ W, W = w.alloc (.cells #[.int .i64 14, .int .i64 v, .slice (some ad) 1 a, .slice (some bd) 1 b] tEd) := ⟨_, rfl⟩
   have bW := below_alloc w (.cells #[.int .i64 14, .int .i64 v, .slice (some ad) 1 a, .slice (some bd) 1 b] tEd)
   have k0 := heap_alloc_new w (.cells #[.int .i64 14, .int .i64 v, .slice (some ad) 1 a, .slice (some bd) 1 b] tEd)
   rw [← hW] at bW k0
   have cx0 := cell_mvd bW cx0
   have cy0 := cell_mvd bW cy0
   obtain ⟨⟨g0, g1, g2, g3⟩, f0, f1, f2, f3⟩ := box4 k0
   have bW_h := lH bW; have k0_h := lH k0; clear bW k0
   go_enter Tryd.func33, Tryd.ntmps33
   go_upto_region 1 with (fail)
   rw [← hW]
   clear hW
   go_quiet (fail)
   obtain ⟨Wd, hWd⟩ : ∃ Wd, Wd = W.drewN nq := ⟨_, rfl⟩
   have hbd : Below W.heap.size W Wd := by rw [hWd]; exact below_drewN (Below.refl _ _) nq
   rw [← hWd]
   clear hWd g0 g1 g2 g3 f0 f1 f2 f3
   replace k0_h := lH (box_below k0_h.out hbd)
   have cx0 := cell_mvd hbd cx0
   have cy0 := cell_mvd hbd cy0
   have hB0 := below_trans bW_h.out hbd bW_h.out.size
   clear hbd; have hB0_h := lH hB0; clear hB0
   obtain ⟨⟨g0, g1, g2, g3⟩, f0, f1, f2, f3⟩ := box4 k0_h.out
   go_wp2_with (fail)
   go_quiet (fail)
   obtain ⟨We, hWe⟩ : ∃ We, We = Wd.drewN nq := ⟨_, rfl⟩
   have hbe : Below Wd.heap.size Wd We := by rw [hWe]; exact below_drewN (Below.refl _ _) nq
   rw [← hWe]
   clear hWe g0 g1 g2 g3 f0 f1 f2 f3
   replace k0_h := lH (box_below k0_h.out hbe)
   have cx0 := cell_mvd hbe cx0
   have cy0 := cell_mvd hbe cy0
   have hB1 := below_trans hB0_h.out hbe hB0_h.out.size
   clear hbe; have hB1_h := lH hB1; clear hB1
   obtain ⟨⟨g0, g1, g2, g3⟩, f0, f1, f2, f3⟩ := box4 k0_h.out
   go_wp2_with (fail)
   go_ret
   exact ⟨_, rfl, ⟨none, 0, [], rfl, rfl, rfl, ⟨fun i h hh => by simp at hh, fun h hh => by cases hh⟩, (fun h hh => by cases hh), fun b hb => by simp at hb⟩, hB1_h.out⟩
section
variable {P : Program}
theorem run_makeOpM {o : Oper} {a : Act} {w : World} (lo c : Operand) (t : TypeId) (ho : o.op = .makeSlice t lo c) (e : TypeId) {z : Value} {size bytes : Nat} (ht : P.underlying t = some (.slice e)) (hinfo : (P.info? e).map (fun i => (i.zero, i.size, i.bytes)) = some (some z, size, bytes))
  (n : Nat) (hel : a.eval lo = .int .i64 (n : Int)) (hec : a.eval c = .int .i64 (n : Int)) (hbytes : bytes * n ≤ 281474976710656) (h63 : n ≤ maxLen) :
  (execOp a.eval o).run P w = .ok (.value (.slice (some ⟨w.heap.size, 0, none⟩) n n)) (w.alloc (.cells (madeCells z.cells (n * size)) e)) := by
 obtain ⟨i, hi, hz, hz1, hz2⟩ := info_parts hinfo
 subst hz1 hz2
 have h63' : (n : Int) ≤ 9223372036854775807 := by simp only [maxLen] at h63; omega
 have hb' : (i.bytes : Int) * (n : Int) ≤ 281474976710656 := by
  have h : ((i.bytes * n : Nat) : Int) ≤ 281474976710656 := by omega
  rwa [Int.natCast_mul] at h
 have hrun := run_make (P := P) w t e i z ht hi hz .i64 .i64 n n (by omega) (by omega) hb' h63'
 simp only [Int.toNat_natCast] at hrun
 simp only [execOp, ho, hel, hec, hrun, Sem.run_bind, Sem.run_pure, Result.andThen_ok]
end
theorem madeIntsM (w : World) (n : Nat) (h : n ≤ maxLen) : IS (w.alloc (.cells (madeCells (Value.int .i64 0).cells (n * 1)) 3)) (some ⟨w.heap.size, 0, none⟩) n (List.replicate n 0) := by
 rw [Nat.mul_one]
 exact IS.made w n h
section
variable {P : Program} {l : List Oper} {Q : Exit → Act → World → Prop} {md : Region.Mode} {z : Nat} {F : World → Prop}
theorem sgValOrZ (i j : Nat) {oi oj : Oper} {vi vj : Value} {wi wj : World} {fuel : Nat} {listed : Array Bool} {a : Act} {w : World} {li lj : List Oper} (hdi : l.drop i = oi :: li) (hdj : l.drop j = oj :: lj)
  (hr : Region.ready md l.toArray listed = [i, j]) (hwi : Region.wanted oi (yielded l.toArray a.tmps) = true) (hwj : Region.wanted oj (yielded l.toArray a.tmps) = true)
  (hruni : (execOp a.eval oi).run P w = .ok (.value vi) wi) (hrunj : (execOp a.eval oj).run P w = .ok (.value vj) wj)
  (hSi : (listed.setIfInBounds i true).getD z true = false → F wi) (h1 : wpAnyZ P md l.toArray Q z F fuel (listed.setIfInBounds i true) (a.put oi.dst vi) wi)
  (hSj : (listed.setIfInBounds j true).getD z true = false → F wj) (h2 : wpAnyZ P md l.toArray Q z F fuel (listed.setIfInBounds j true) (a.put oj.dst vj) wj) : wpAnyZ P md l.toArray Q z F (fuel + 1) listed a w := by
 refine ⟨fun h0 => (by rw [hr] at h0; cases h0), fun k hk => ?_⟩
 rw [hr] at hk
 have hk' : k = i ∨ k = j := by simpa using hk
 rcases hk' with rfl | rfl
 · unfold wpOp
   simp only [at_drop hdi, hwi, if_true]
   refine .inl ?_
   unfold Oper.wp
   rw [hruni]
   exact ⟨hSi, h1⟩
 · unfold wpOp
   simp only [at_drop hdj, hwj, if_true]
   refine .inl ?_
   unfold Oper.wp
   rw [hrunj]
   exact ⟨hSj, h2⟩
end
theorem sg_two (w : World) (x y : Int) : IS (w.alloc (.cells #[.int .i64 x, .int .i64 y] tInt)) (some ⟨w.heap.size, 0, none⟩) 2 [x, y] := Sl.laid w tInt 1 2 #[.int .i64 x, .int .i64 y] (by unfold maxLen; omega) rfl
theorem sg_apart {w : World} {e e' : TypeId} {sz sz' n n' c c' : Nat} {A B : Option Addr} {xs ys : List Value} (h : Sl w e sz A n c xs) (h' : Sl w e' sz' B n' c' ys) (he : e ≠ e') : ∀ b, b ∈ fpA A → ¬ b ∈ fpA B := by
 intro x hx hx'
 rcases h.2.2.2 with ⟨rfl, _⟩ | ⟨g, off, cur, rfl, hg, _⟩
 · simp at hx
 · rcases h'.2.2.2 with ⟨rfl, _⟩ | ⟨g', off', cur', rfl, hg', _⟩
   · simp at hx'
   · obtain rfl : x = g := by simpa using hx
     obtain rfl : x = g' := by simpa using hx'
     rw [hg] at hg'
     injection hg' with hg'
     injection hg' with _ h1
     exact he h1
theorem sg_ne {w : World} {e ty : TypeId} {sz n c d : Nat} {A : Option Addr} {xs : List Value} {cs : Array Value} (h : Sl w e sz A n c xs) (hb : w.heap[d]? = some (.cells cs ty)) (he : e ≠ ty) : ∀ b, b ∈ fpA A → b ≠ d := by
 intro x hx hx'
 rcases h.2.2.2 with ⟨rfl, _⟩ | ⟨g, off, cur, rfl, hg, _⟩
 · simp at hx
 · obtain rfl : x = g := by simpa using hx
   rw [hx', hb] at hg
   injection hg with hg
   injection hg with _ h1
   exact he h1.symm
def RowsK (w : World) (A : Option Addr) (hs : List Hd) : Prop := (∀ i h, hs[i]? = some h → ∃ ad, A = some ad ∧ w.cell? (ad.add i) = some h.val) ∧ ∀ x, x ∈ hs → IS w x.1 x.2.1 x.2.2
theorem RowsK.below {w w' : World} {A : Option Addr} {hs : List Hd} (h : RowsK w A hs) (hb : Below w.heap.size w w') : RowsK w' A hs :=
 ⟨fun i x hi => by obtain ⟨ad, rfl, hc⟩ := h.1 i x hi; exact ⟨ad, rfl, cell_belowS hb hc⟩, fun x hx => (h.2 x hx).below hb⟩
theorem RowsK.keeps {S : Nat → Prop} {w w' : World} {A : Option Addr} {hs : List Hd} (h : RowsK w A hs) (hk : Keeps S w w') (hA : ∀ b, b ∈ fpA A → ¬ S b) (hI : ∀ x, x ∈ hs → ∀ b, b ∈ fpA x.1 → ¬ S b) : RowsK w' A hs :=
 ⟨fun i x hi => by obtain ⟨ad, rfl, hc⟩ := h.1 i x hi; exact ⟨ad, rfl, keeps_cell hk hc (by rw [block_of_add]; exact hA _ (by simp))⟩, fun x hx => (h.2 x hx).keeps hk (hI x hx)⟩
set_option maxRecDepth 100000 in
set_option maxHeartbeats 8000000 in
theorem syOf_any (p : Int) {v : Value} {g : Gr} (w : World) (h : RdGr w v g) (ok : OkG g) (hd : DnOk p g) :
  Calls Tryd.prog 16 #[.int .i64 p, v] w fun e w' => ∃ v' fp, e = .returned v' ∧ OwSys w' v' (sysV p g) fp ∧ FreshL w.heap.size fp ∧ Below w.heap.size w w' := by
 obtain ⟨A, c, hs, ⟨B, b, s⟩, ⟨C, d, t⟩, rfl, e1, e2, e3, hE, hRa, hRb⟩ := id h
 obtain ⟨z, es, s0, t0⟩ := g
 have a1 : es = hs.map egOf := e1
 have a2 : s = s0 := e2
 have a3 : t = t0 := e3
 subst a2 a3
 clear e1 e2 e3 h
 obtain ⟨m, hm⟩ : ∃ m, m = hs.length := ⟨_, rfl⟩
 have hmes : es.length = m := by rw [a1, List.length_map, hm]
 have hm60 : m ≤ 60 := by rw [← hmes]; exact hd.len
 obtain ⟨n, hn⟩ : ∃ n : Nat, z = (n : Int) := ⟨z.toNat, by have := hd.lo; show z = _; have : 0 ≤ z := hd.lo; omega⟩
 subst hn
 have hn100 : n ≤ 100 := by have : (n : Int) ≤ 100 := hd.hi; omega
 obtain ⟨hp2, hp97⟩ := fieldB_bounds hd.fld
 obtain ⟨ends, hends⟩ : ∃ ends, ends = s ++ t := ⟨_, rfl⟩
 obtain ⟨V, hV⟩ : ∃ V, V = ends.length := ⟨_, rfl⟩
 obtain ⟨ls, hls⟩ : ∃ q, q = s.length := ⟨_, rfl⟩
 obtain ⟨lt, hlt⟩ : ∃ q, q = t.length := ⟨_, rfl⟩
 have hV24 : V ≤ 24 := by rw [hV, hends, List.length_append]; have : s.length ≤ 12 := hd.li; have : t.length ≤ 12 := hd.lo'; omega
 have hee : ∀ x, x ∈ ends → 0 ≤ x ∧ x < (n : Int) := by rw [hends]; exact hd.ends
 have hsv : sysV p ((n : Int), es, s, t) = ((V : Int), (n : Int), endTo p V n ends V ++ es.flatMap (edR p V n)) := by
  unfold sysV sysRows
  simp only [← hends, ← hV, Int.toNat_natCast]
 obtain ⟨N, hN⟩ : ∃ N, N = V + n := ⟨_, rfl⟩
 have hNc : (V : Int) + (n : Int) = (N : Int) := by omega
 have hN124 : N ≤ 124 := by omega
 obtain ⟨W, hW, bW, k0, k1⟩ := alloc2 w (.cells #[.int .i64 (n : Int), .slice A m c, .slice B ls b, .slice C lt d] tGr) (.cells #[.int .i64 0, .int .i64 0, .slice none 0 0] tSysG)
 have hWs : W.heap.size = w.heap.size + 1 + 1 := by rw [hW, World.size_alloc, World.size_alloc]
 have hRa2 : RdI W B s := RdI.below hRa bW
 have hRb2 : RdI W C t := RdI.below hRb bW
 have hVl : ls + lt = V := by rw [hV, hends, List.length_append, hls, hlt]
 have hpw : IntKind.i64.wrap (p - 1) = p - 1 := IntWalk.i64_in _ (by omega)
 have hwN : IntKind.i64.wrap ((V : Int) + (n : Int)) = (N : Int) := by rw [hNc]; exact IntWalk.i64_in _ (by omega)
 rw [← hm, ← hls, ← hlt]
 rw [hsv]
 have hE_h := lH hE; have hRa_h := lH hRa; have hRb_h := lH hRb; have a1_h := lH a1; have hm_h := lH hm; have hmes_h := lH hmes; have hends_h := lH hends; have hV_h := lH hV; have hee_h := lH hee; have hN_h := lH hN; have hNc_h := lH hNc; have hWs_h := lH hWs; have bW_h := lH bW; have k0_h := lH k0; have k1_h := lH k1; have hsv_h := lH hsv; have hd_h := lH hd; have ok_h := lH ok; have hRa2_h := lH hRa2; have hRb2_h := lH hRb2; have hls_h := lH hls; have hlt_h := lH hlt; have hVl_h := lH hVl; clear hE hRa hRb a1 hm hmes hends hV hee hN hNc hWs bW k0 k1 hsv hd ok hRa2 hRb2 hls hlt hVl
 go_enter Tryd.func16, Tryd.ntmps16
 go_upto_region 1 with (fail)
 rw [← hW]
 clear hW
 refine beginH (fun w' => w'.heap[w.heap.size]? = some (.cells #[.int .i64 (n : Int), .slice A m c, .slice B ls b, .slice C lt d] tGr)) (by kernel_rfl) ?_
 have hbdW : Below W.heap.size W W.drew := below_drewN (Below.refl _ _) 1
 generalize W.drew = Wd at hbdW ⊢
 have kd := box_below k0_h.out hbdW
 have kd1 := box_below k1_h.out hbdW
 have kd_h := lH kd; have kd1_h := lH kd1; clear kd kd1
 refine tkH 0 ?_ rfl kd_h.out (fun W' hW' => ?_) ?_; rotate_left; · (obtain ⟨⟨y0, y1, y2, y3⟩, y4, y5, y6, y7⟩ := box4 hW'; clear hW'; go_simp; first | done | with_reducible rfl)
 simp only [Act.put, nS]
 refine tkH 1 ?_ rfl kd_h.out (fun W' hW' => ?_) ?_; rotate_left; · (obtain ⟨⟨y0, y1, y2, y3⟩, y4, y5, y6, y7⟩ := box4 hW'; clear hW'; go_simp; first | done | with_reducible rfl)
 simp only [Act.put, nS]
 refine tkH 3 ?_ rfl kd_h.out (fun W' hW' => ?_) ?_; rotate_left; · (obtain ⟨⟨y0, y1, y2, y3⟩, y4, y5, y6, y7⟩ := box4 hW'; clear hW'; go_simp; first | done | with_reducible rfl)
 simp only [Act.put, nS]
 refine tkH 4 ?_ rfl kd_h.out (fun W' hW' => ?_) ?_; rotate_left; · (obtain ⟨⟨y0, y1, y2, y3⟩, y4, y5, y6, y7⟩ := box4 hW'; clear hW'; go_simp; first | done | with_reducible rfl)
 simp only [Act.put, nS]
 refine' callH 2 (f := _) (args := _) rfl (by kernel_rfl) (by rfl) ?_ ?_; rotate_left 2; · (go_simp; first | done | with_reducible rfl | (constructor <;> with_reducible rfl))
 have hOw := l1Own_any B b s Wd (hRa2_h.out.below hbdW) (by have := hls_h.out; have := hVl_h.out; omega)
 rw [← hls_h.out] at hOw
 refine (hOw).mono ?_
 rintro e wq ⟨Ao, co, rfl, hio, hfo, hbq⟩
 rw [← hls_h.out]
 have kq := box_below kd_h.out hbq
 have kq1 := box_below kd1_h.out hbq
 refine ⟨_, rfl, kq, ?_⟩
 simp only [Act.put, nS]
 have hso : Sl wq 3 1 Ao ls co (ints s) := by have := hio; unfold IS at this; rw [← hls_h.out] at this; exact this
 have hbW2 := below_trans hbdW hbq hbdW.size
 have hrt := (hRb2_h.out.below hbW2).rdc
 have hlt2 : (ints t).length = lt * 1 := by rw [ints_length, ← hlt_h.out, Nat.mul_one]
 have hB2 := below_trans bW_h.out hbW2 bW_h.out.size
 have hzW : W.heap.size ≤ Wd.heap.size := hbdW.size
 have hlts : ls ≤ 24 ∧ lt ≤ 24 := by have := hVl_h.out; omega
 obtain ⟨hls24, hlt24⟩ := hlts
 clear hOw hio hbW2 hbdW hbq; have hso_h := lH hso; have hrt_h := lH hrt; have hlt2_h := lH hlt2; have hB2_h := lH hB2; have hfo_h := lH hfo; have kq_h := lH kq; have kq1_h := lH kq1; have hzW_h := lH hzW; clear hso hrt hlt2 hB2 hfo kq kq1 hzW
 refine appH 5 rfl (by kernel_rfl) (by rfl) _ _ _ rfl tInt Tryd.underlying23 info_int rfl (by omega) rfl hso_h.out rfl hlt2_h.out hrt_h.out (ints_one t) (by unfold maxLen; omega) (by omega) ?_
 intro A7 c7 w2 hsA7 hA7 hkA7
 have hf7 : ∀ b, b ∈ fpA Ao → W.heap.size ≤ b := fun b hb => Nat.le_trans hzW_h.out (hfo_h.out b hb)
 have k0c := box_keeps kq_h.out hkA7 (fun h => by have := hf7 _ h; have := hWs_h.out; omega)
 have k1c := box_keeps kq1_h.out hkA7 (fun h => by have := hf7 _ h; have := hWs_h.out; omega)
 have B2 := below_keeps hB2_h.out hkA7 hB2_h.out.size (fun b hb => by have := hf7 b hb; have := hWs_h.out; omega)
 have hI2 : IS w2 A7 c7 ends := by
  unfold IS
  rw [← hV_h.out, ← hVl_h.out, hends_h.out]
  have e : ints (s ++ t) = ints s ++ ints t := by simp [ints]
  rw [e]; exact hsA7
 rw [hVl_h.out]
 clear hsA7 hA7 hkA7 hf7
 refine ⟨k0c, ?_⟩
 have k0c_h := lH k0c; have k1c_h := lH k1c; have B2_h := lH B2; have hI2_h := lH hI2; clear k0c k1c B2 hI2
 simp only [Act.put, nS]
 refine tkH 6 ?_ rfl k0c_h.out (fun W' hW' => ?_) ?_; rotate_left; · (skip; clear hW'; go_simp; first | done | with_reducible rfl)
 simp only [Act.put, nS]
 refine doneH (by kernel_rfl) ?_
 obtain ⟨W3, hW3, b3, k3⟩ := (⟨_, rfl, below_alloc _ _, heap_alloc_new _ _⟩ : ∃ W3, W3 = w2.alloc (.cells #[.int .i64 (V : Int), .int .i64 (n : Int), .slice none 0 0] tSysG) ∧ Below w2.heap.size w2 W3 ∧ W3.heap[w2.heap.size]? = some (.cells #[.int .i64 (V : Int), .int .i64 (n : Int), .slice none 0 0] tSysG))
 have hOM0 : OMx w2 w2.heap.size W3 none 0 [] := OMx.nil b3 (Nat.le_refl _) (box_lt k3)
 obtain ⟨⟨c0, c1, c2, c3⟩, f0, f1, f2, f3⟩ := box4 k0c_h.out
 clear b3; have k3_h := lH k3; have hOM0_h := lH hOM0; clear k3 hOM0
 go_upto_region 3 with (fail)
 rw [← hW3]
 clear hW3 c0 c1 c2 c3 f0 f1 f2 f3
 go_wp2_with (fail)
 go_loopw [26] (fun i wr => ∃ (k : Nat) (A1 : Option Addr) (c1 : Nat), k ≤ V ∧ i = .int .i64 (k : Int) ∧ wr.heap[w2.heap.size]? = some (.cells #[.int .i64 (V : Int), .int .i64 (n : Int), .slice A1 k c1] tSysG) ∧ OMx w2 w2.heap.size wr A1 c1 (endTo p V n ends k)) (fun i _ => V - (intOf i).toNat)
 case atStart => exact ⟨0, none, 0, Nat.zero_le _, rfl, k3_h.out, hOM0_h.out⟩
 case round =>
  clear k3_h hOM0_h
  obtain ⟨k, A1, c1, hk, rfl, kx, hOM⟩ := hrel
  obtain ⟨wo, rfl⟩ : ∃ x, x = wr := ⟨_, rfl⟩
  by_cases hlt : k < V
  · have hkl : k < ends.length := by rw [← hV_h.out]; exact hlt
    obtain ⟨x, hx⟩ : ∃ x, ends[k]? = some x := ⟨_, List.getElem?_eq_getElem hkl⟩
    have hxg : ends.getD k 0 = x := by rw [List.getD_eq_getElem?_getD, hx]; rfl
    obtain ⟨hx0, hxn⟩ := hee_h.out x (List.mem_of_getElem? hx)
    obtain ⟨xx, rfl⟩ : ∃ xx : Nat, x = (xx : Int) := ⟨x.toNat, by omega⟩
    obtain ⟨ad, rfl, p1⟩ := (hI2_h.out.below hOM.below_).rd k (xx : Int) hx
    have hkI : (k : Int) < (V : Int) := by omega
    have hxnv : xx < n := by omega
    have hwr2 : IntKind.i64.wrap ((V : Int) + (xx : Int)) = (V : Int) + (xx : Int) := IntWalk.i64_in _ (by omega)
    clear hkl hx0 hxn; have kx_h := lH kx; have hOM_h := lH hOM; have hx_h := lH hx; have hxg_h := lH hxg; clear kx hOM hx hxg
    go_wp2_with (fail)
    refine beginZw 21 (fun w' => w'.heap[w2.heap.size]? = some (.cells #[.int .i64 (V : Int), .int .i64 (n : Int), .slice A1 k c1] tSysG)) (by kernel_rfl) (fun W1 hW1 => ?_)
    have hbd : Below wo.heap.size wo W1 := by rw [hW1]; exact below_drewN (Below.refl _ _) 1
    clear hW1
    have kx1 := box_below kx_h.out hbd
    have kx1_h := lH kx1; have hbd_h := lH hbd; clear kx1 hbd
    refine tkC 0 ?_ rfl kx1_h.out (fun W' hW' => ?_) ?_; rotate_left; · (obtain ⟨⟨x0, x1, x2⟩, x3, x4, x5⟩ := box3 hW'; have q1 := hwN; have q2 := hwr2; have q3 := hpw; clear hW'; go_simp; first | done | with_reducible rfl)
    simp only [Act.put, nS]
    refine tkC 1 ?_ rfl kx1_h.out (fun W' hW' => ?_) ?_; rotate_left; · (obtain ⟨⟨x0, x1, x2⟩, x3, x4, x5⟩ := box3 hW'; have q1 := hwN; have q2 := hwr2; have q3 := hpw; clear hW'; go_simp; first | done | with_reducible rfl)
    simp only [Act.put, nS]
    refine tkC 2 ?_ rfl kx1_h.out (fun W' hW' => ?_) ?_; rotate_left; · (obtain ⟨⟨x0, x1, x2⟩, x3, x4, x5⟩ := box3 hW'; have q1 := hwN; have q2 := hwr2; have q3 := hpw; clear hW'; go_simp; first | done | with_reducible rfl)
    simp only [Act.put, nS]
    refine tkC 3 ?_ rfl kx1_h.out (fun W' hW' => ?_) ?_; rotate_left; · (obtain ⟨⟨x0, x1, x2⟩, x3, x4, x5⟩ := box3 hW'; have q1 := hwN; have q2 := hwr2; have q3 := hpw; clear hW'; go_simp; first | done | with_reducible rfl)
    simp only [Act.put, nS]
    refine tkC 4 ?_ rfl kx1_h.out (fun W' hW' => ?_) ?_; rotate_left; · (obtain ⟨⟨x0, x1, x2⟩, x3, x4, x5⟩ := box3 hW'; have q1 := hwN; have q2 := hwr2; have q3 := hpw; clear hW'; go_simp; first | done | with_reducible rfl)
    simp only [Act.put, nS]
    refine tkC 5 ?_ rfl kx1_h.out (fun W' hW' => ?_) ?_; rotate_left; · (obtain ⟨⟨x0, x1, x2⟩, x3, x4, x5⟩ := box3 hW'; have q1 := hwN; have q2 := hwr2; have q3 := hpw; clear hW'; go_simp; first | done | with_reducible rfl)
    simp only [Act.put, nS]
    refine tkC 6 ?_ rfl kx1_h.out (fun W' hW' => ?_) ?_; rotate_left; · (obtain ⟨⟨x0, x1, x2⟩, x3, x4, x5⟩ := box3 hW'; have q1 := hwN; have q2 := hwr2; have q3 := hpw; clear hW'; go_simp; first | done | with_reducible rfl)
    simp only [Act.put, nS]
    refine tkC 7 ?_ rfl kx1_h.out (fun W' hW' => ?_) ?_; rotate_left; · (obtain ⟨⟨x0, x1, x2⟩, x3, x4, x5⟩ := box3 hW'; have q1 := hwN; have q2 := hwr2; have q3 := hpw; clear hW'; go_simp; first | done | with_reducible rfl)
    simp only [Act.put, nS]
    refine tkC 8 ?_ rfl kx1_h.out (fun W' hW' => ?_) ?_; rotate_left; · (obtain ⟨⟨x0, x1, x2⟩, x3, x4, x5⟩ := box3 hW'; have q1 := hwN; have q2 := hwr2; have q3 := hpw; clear hW'; go_simp; first | done | with_reducible rfl)
    simp only [Act.put, nS]
    refine tkC 9 ?_ rfl kx1_h.out (fun W' hW' => ?_) ?_; rotate_left; · (obtain ⟨⟨x0, x1, x2⟩, x3, x4, x5⟩ := box3 hW'; have q1 := hwN; have q2 := hwr2; have q3 := hpw; clear hW'; go_simp; first | done | with_reducible rfl)
    simp only [Act.put, nS]
    refine tkC 10 ?_ rfl kx1_h.out (fun W' hW' => ?_) ?_; rotate_left; · (obtain ⟨⟨x0, x1, x2⟩, x3, x4, x5⟩ := box3 hW'; have q1 := hwN; have q2 := hwr2; have q3 := hpw; clear hW'; go_simp; first | done | with_reducible rfl)
    simp only [Act.put, nS]
    refine tkC 11 ?_ rfl kx1_h.out (fun W' hW' => ?_) ?_; rotate_left; · (obtain ⟨⟨x0, x1, x2⟩, x3, x4, x5⟩ := box3 hW'; have q1 := hwN; have q2 := hwr2; have q3 := hpw; clear hW'; go_simp; first | done | with_reducible rfl)
    simp only [Act.put, nS]
    refine tkC 12 ?_ rfl kx1_h.out (fun W' hW' => ?_) ?_; rotate_left; · (obtain ⟨⟨x0, x1, x2⟩, x3, x4, x5⟩ := box3 hW'; have q1 := hwN; have q2 := hwr2; have q3 := hpw; clear hW'; go_simp; first | done | with_reducible rfl)
    simp only [Act.put, nS]
    refine tkC 14 ?_ rfl kx1_h.out (fun W' hW' => ?_) ?_; rotate_left; · (obtain ⟨⟨x0, x1, x2⟩, x3, x4, x5⟩ := box3 hW'; have q1 := hwN; have q2 := hwr2; have q3 := hpw; clear hW'; go_simp; first | done | with_reducible rfl)
    simp only [Act.put, nS]
    refine tkC 15 ?_ rfl kx1_h.out (fun W' hW' => ?_) ?_; rotate_left; · (obtain ⟨⟨x0, x1, x2⟩, x3, x4, x5⟩ := box3 hW'; have q1 := hwN; have q2 := hwr2; have q3 := hpw; clear hW'; go_simp; first | done | with_reducible rfl)
    simp only [Act.put, nS]
    refine sgValOrZ 13 16 (vi := .slice (some ⟨W1.heap.size, 0, none⟩) 2 2) (wi := W1.alloc (.cells #[.int .i64 (k : Int), .int .i64 ((V : Int) + (xx : Int))] tInt)) (vj := .slice (some ⟨W1.heap.size, 0, none⟩) 2 2) (wj := W1.alloc (.cells #[.int .i64 1, .int .i64 (p - 1)] tInt)) rfl rfl (by kernel_rfl) (by rfl) (by rfl) ?hr1 ?hr2 ?hS1 ?h1 ?hS2 ?h2
    case hr1 => (go_simp; first | done | with_reducible rfl | (constructor <;> with_reducible rfl))
    case hr2 => (go_simp; first | done | with_reducible rfl | (constructor <;> with_reducible rfl))
    case hS1 => exact fun _ => box_below kx1_h.out (below_alloc _ _)
    case hS2 => exact fun _ => box_below kx1_h.out (below_alloc _ _)
    case h1 =>
     simp only [Act.put, nS]
     refine oneZ 16 rfl (by kernel_rfl) (by rfl) (fun K hK => ?_)
     go_simp
     refine hK _ _ (fun _ => box_below (box_below kx1_h.out (below_alloc _ _)) (below_alloc _ _)) ?_
     clear hK K
     have hb10 : Below wo.heap.size wo ((W1.alloc (.cells #[.int .i64 (k : Int), .int .i64 ((V : Int) + (xx : Int))] tInt)).alloc (.cells #[.int .i64 1, .int .i64 (p - 1)] tInt)) := below_trans hbd_h.out (below_trans (below_alloc W1 (.cells #[.int .i64 (k : Int), .int .i64 ((V : Int) + (xx : Int))] tInt)) (below_alloc (W1.alloc (.cells #[.int .i64 (k : Int), .int .i64 ((V : Int) + (xx : Int))] tInt)) (.cells #[.int .i64 1, .int .i64 (p - 1)] tInt)) (below_alloc W1 (.cells #[.int .i64 (k : Int), .int .i64 ((V : Int) + (xx : Int))] tInt)).size) hbd_h.out.size
     have hdn := dnRow_any p N 2 (some ⟨W1.heap.size, 0, none⟩) (some ⟨W1.heap.size + 1, 0, none⟩) 2 2 [(k : Int), (V : Int) + (xx : Int)] [1, p - 1] (((W1.alloc (.cells #[.int .i64 (k : Int), .int .i64 ((V : Int) + (xx : Int))] tInt)).alloc (.cells #[.int .i64 1, .int .i64 (p - 1)] tInt))) ((sg_two W1 (k : Int) ((V : Int) + (xx : Int))).rd.below (below_alloc _ _)) ((by have := (sg_two (W1.alloc (.cells #[.int .i64 (k : Int), .int .i64 ((V : Int) + (xx : Int))] tInt)) 1 (p - 1)).rd; rw [World.size_alloc] at this; exact this)) rfl rfl (fun z hz => by have := hN_h.out; simp at hz; omega) (fun z hz => by simp at hz; omega) (by omega) hp97 (by omega) (by omega)
     have hen : sprV p N [(k : Int), (V : Int) + (xx : Int)] [1, p - 1] = endR p V n k (xx : Int) := by unfold endR; rw [← hN_h.out]
     rw [hen] at hdn
     clear hen; have hb10_h := lH hb10; have hdn_h := lH hdn; clear hb10 hdn
     refine callZ 17 (f := ?f1) (args := ?args1) rfl (by kernel_rfl) (by rfl) ?hrun1 ?hcall1
     case hrun1 => (go_simp; first | done | with_reducible rfl | (constructor <;> with_reducible rfl))
     case hcall1 =>
      refine (hdn_h.out).mono ?_
      rintro e w11 ⟨Ar, cr, rfl, hir, hfr, hbr⟩
      rw [endR_len, ← hN_h.out]
      have hb11 := below_trans hb10_h.out hbr hb10_h.out.size
      have hbl := box_lt kx_h.out
      obtain ⟨vs, hslv, hbx2, hfin⟩ := hOM_h.out.push (endTo_len p V n ends k) kx_h.out hb11 hir (N := N) (by rw [endR_len]; exact hN_h.out.symm) (fun q hq => Nat.le_trans hb10_h.out.size (hfr q hq))
      have kx11 := box_below kx_h.out hb11
      refine ⟨_, rfl, fun _ => kx11, ?_⟩
      clear hir hfr hbr hb11 hb10_h; have hslv_h := lH hslv; have hbx2_h := lH hbx2; have hfin_h := lH hfin; have kx11_h := lH kx11; clear hslv hbx2 hfin kx11
      simp only [Act.put, nS]
      refine oneZ 18 rfl (by kernel_rfl) (by rfl) (fun K hK => ?_)
      go_simp
      refine hK _ _ (fun _ => hbx2_h.out) ?_
      clear hK K
      refine appZ 19 rfl (by kernel_rfl) (by rfl) _ _ _ rfl 23 Tryd.underlying27 info_ints rfl (by omega) rfl hslv_h.out rfl (news := [.slice Ar N cr]) rfl (Sl.rdc (Sl.laid w11 23 1 1 #[.slice Ar N cr] (by unfold maxLen; omega) rfl)) (by intro u hu; simp at hu; subst hu; rfl) (by unfold maxLen; omega) (by omega) ?_
      intro A8 c8 w12 hsA8 hA8 hkA8 hrdA8
      clear hrdA8
      obtain ⟨hbx7, hOM7, hbx8⟩ := hfin_h.out A8 c8 w12 hsA8 hA8 hkA8
      have hes : endTo p V n ends (k + 1) = endTo p V n ends k ++ [endR p V n k (xx : Int)] := by rw [endTo_succ, hxg_h.out]
      rw [← hes] at hOM7
      refine ⟨fun _ => hbx7, ?_⟩
      simp only [Act.put, nS]
      obtain ⟨⟨u0, u1, u2⟩, u3, u4, u5⟩ := box3 hbx7
      clear hsA8 hA8 hkA8 hes; have hbx7_h := lH hbx7; have hOM7_h := lH hOM7; have hbx8_h := lH hbx8; clear hbx7 hOM7 hbx8
      refine tkC 20 ?_ rfl hbx7_h.out (fun W' hW' => ?_) ?_; rotate_left; · (skip; clear hW'; go_simp; first | done | with_reducible rfl)
      simp only [Act.put, nS]
      refine oneZ 21 rfl (by kernel_rfl) (by rfl) (fun K hK => ?_)
      go_simp
      refine hK _ _ (fun h => by cases h) ?_
      clear hK K
      refine doneZ (by kernel_rfl) ?_
      go_wp2_with (fail)
      go_roundw
      case rel => exact ⟨k + 1, A8, c8, by omega, by go_num, hbx8_h.out, hOM7_h.out⟩
      case measure => simp [intOf]; omega
    case h2 =>
     simp only [Act.put, nS]
     refine oneZ 13 rfl (by kernel_rfl) (by rfl) (fun K hK => ?_)
     go_simp
     refine hK _ _ (fun _ => box_below (box_below kx1_h.out (below_alloc _ _)) (below_alloc _ _)) ?_
     clear hK K
     have hb10 : Below wo.heap.size wo ((W1.alloc (.cells #[.int .i64 1, .int .i64 (p - 1)] tInt)).alloc (.cells #[.int .i64 (k : Int), .int .i64 ((V : Int) + (xx : Int))] tInt)) := below_trans hbd_h.out (below_trans (below_alloc W1 (.cells #[.int .i64 1, .int .i64 (p - 1)] tInt)) (below_alloc (W1.alloc (.cells #[.int .i64 1, .int .i64 (p - 1)] tInt)) (.cells #[.int .i64 (k : Int), .int .i64 ((V : Int) + (xx : Int))] tInt)) (below_alloc W1 (.cells #[.int .i64 1, .int .i64 (p - 1)] tInt)).size) hbd_h.out.size
     have hdn := dnRow_any p N 2 (some ⟨W1.heap.size + 1, 0, none⟩) (some ⟨W1.heap.size, 0, none⟩) 2 2 [(k : Int), (V : Int) + (xx : Int)] [1, p - 1] (((W1.alloc (.cells #[.int .i64 1, .int .i64 (p - 1)] tInt)).alloc (.cells #[.int .i64 (k : Int), .int .i64 ((V : Int) + (xx : Int))] tInt))) ((by have := (sg_two (W1.alloc (.cells #[.int .i64 1, .int .i64 (p - 1)] tInt)) (k : Int) ((V : Int) + (xx : Int))).rd; rw [World.size_alloc] at this; exact this)) ((sg_two W1 1 (p - 1)).rd.below (below_alloc _ _)) rfl rfl (fun z hz => by have := hN_h.out; simp at hz; omega) (fun z hz => by simp at hz; omega) (by omega) hp97 (by omega) (by omega)
     have hen : sprV p N [(k : Int), (V : Int) + (xx : Int)] [1, p - 1] = endR p V n k (xx : Int) := by unfold endR; rw [← hN_h.out]
     rw [hen] at hdn
     clear hen; have hb10_h := lH hb10; have hdn_h := lH hdn; clear hb10 hdn
     refine callZ 17 (f := ?f2) (args := ?args2) rfl (by kernel_rfl) (by rfl) ?hrun2 ?hcall2
     case hrun2 => (go_simp; first | done | with_reducible rfl | (constructor <;> with_reducible rfl))
     case hcall2 =>
      refine (hdn_h.out).mono ?_
      rintro e w11 ⟨Ar, cr, rfl, hir, hfr, hbr⟩
      rw [endR_len, ← hN_h.out]
      have hb11 := below_trans hb10_h.out hbr hb10_h.out.size
      have hbl := box_lt kx_h.out
      obtain ⟨vs, hslv, hbx2, hfin⟩ := hOM_h.out.push (endTo_len p V n ends k) kx_h.out hb11 hir (N := N) (by rw [endR_len]; exact hN_h.out.symm) (fun q hq => Nat.le_trans hb10_h.out.size (hfr q hq))
      have kx11 := box_below kx_h.out hb11
      refine ⟨_, rfl, fun _ => kx11, ?_⟩
      clear hir hfr hbr hb11 hb10_h; have hslv_h := lH hslv; have hbx2_h := lH hbx2; have hfin_h := lH hfin; have kx11_h := lH kx11; clear hslv hbx2 hfin kx11
      simp only [Act.put, nS]
      refine oneZ 18 rfl (by kernel_rfl) (by rfl) (fun K hK => ?_)
      go_simp
      refine hK _ _ (fun _ => hbx2_h.out) ?_
      clear hK K
      refine appZ 19 rfl (by kernel_rfl) (by rfl) _ _ _ rfl 23 Tryd.underlying27 info_ints rfl (by omega) rfl hslv_h.out rfl (news := [.slice Ar N cr]) rfl (Sl.rdc (Sl.laid w11 23 1 1 #[.slice Ar N cr] (by unfold maxLen; omega) rfl)) (by intro u hu; simp at hu; subst hu; rfl) (by unfold maxLen; omega) (by omega) ?_
      intro A8 c8 w12 hsA8 hA8 hkA8 hrdA8
      clear hrdA8
      obtain ⟨hbx7, hOM7, hbx8⟩ := hfin_h.out A8 c8 w12 hsA8 hA8 hkA8
      have hes : endTo p V n ends (k + 1) = endTo p V n ends k ++ [endR p V n k (xx : Int)] := by rw [endTo_succ, hxg_h.out]
      rw [← hes] at hOM7
      refine ⟨fun _ => hbx7, ?_⟩
      simp only [Act.put, nS]
      obtain ⟨⟨u0, u1, u2⟩, u3, u4, u5⟩ := box3 hbx7
      clear hsA8 hA8 hkA8 hes; have hbx7_h := lH hbx7; have hOM7_h := lH hOM7; have hbx8_h := lH hbx8; clear hbx7 hOM7 hbx8
      refine tkC 20 ?_ rfl hbx7_h.out (fun W' hW' => ?_) ?_; rotate_left; · (skip; clear hW'; go_simp; first | done | with_reducible rfl)
      simp only [Act.put, nS]
      refine oneZ 21 rfl (by kernel_rfl) (by rfl) (fun K hK => ?_)
      go_simp
      refine hK _ _ (fun h => by cases h) ?_
      clear hK K
      refine doneZ (by kernel_rfl) ?_
      go_wp2_with (fail)
      go_roundw
      case rel => exact ⟨k + 1, A8, c8, by omega, by go_num, hbx8_h.out, hOM7_h.out⟩
      case measure => simp [intOf]; omega
  · obtain rfl : V = k := by omega
    have k0d := box_below k0c_h.out hOM.below_
    obtain ⟨⟨x0, x1, x2, x3⟩, x4, x5, x6, x7⟩ := box4 k0d
    have hl0 := endTo_len p V n ends V
    clear hk hlt k0d; have kx_h := lH kx; have hOM_h := lH hOM; have hl0_h := lH hl0; clear kx hOM hl0
    go_wp2_with (fail)
    go_loopw [56] (fun i wr => ∃ (k q : Nat) (A2 : Option Addr) (c2 : Nat), k ≤ m ∧ i = .int .i64 (k : Int) ∧ q ≤ V + 2 * k ∧ (endTo p V n ends V ++ (es.take k).flatMap (edR p V n)).length = q ∧ wr.heap[w2.heap.size]? = some (.cells #[.int .i64 (V : Int), .int .i64 (n : Int), .slice A2 q c2] tSysG) ∧ OMx w2 w2.heap.size wr A2 c2 (endTo p V n ends V ++ (es.take k).flatMap (edR p V n))) (fun i _ => m - (intOf i).toNat)
    case atStart => exact ⟨0, V, A1, c1, Nat.zero_le _, rfl, by omega, by simpa using hl0_h.out, kx_h.out, by simpa using hOM_h.out⟩
    case round =>
     clear kx_h hOM_h hl0_h x0 x1 x2 x3 x4 x5 x6 x7
     obtain ⟨k, q, A2, c2, hk, rfl, hq2, hql, kx, hOM⟩ := hrel
     obtain ⟨wo2, rfl⟩ : ∃ x, x = wr := ⟨_, rfl⟩
     have hwr := below_trans B2_h.out hOM.below_ B2_h.out.size
     by_cases hlt : k < m
     · obtain ⟨ad2, κ, vv, B1, b1, s1, C1, b2, t1, rfl, hnn, ⟨d0, d1, d2, d3⟩, hr1, hr2⟩ := (hE_h.out.below hwr).at_ (j := k) (by rw [← hm_h.out]; exact hlt)
       have hek : es[k]? = some (κ, vv, s1, t1) := by rw [a1_h.out, List.getElem?_map, hnn]; rfl
       obtain ⟨hk314, hty, hxx, hv0, hvp, -, -⟩ := hd_h.out.edge _ (List.mem_of_getElem? hek)
       have hkI : (k : Int) < (m : Int) := by omega
       have hxx' : ∀ x, x ∈ s1 ++ t1 → 0 ≤ x ∧ x < (n : Int) := hxx
       have hEdl : (edR p V n (κ, vv, s1, t1)).length ≤ 2 := by unfold edR; rw [List.length_map]; exact dnRowsM_len _ _ _
       have htk : (es.take (k + 1)).flatMap (edR p V n) = (es.take k).flatMap (edR p V n) ++ edR p V n (κ, vv, s1, t1) := by rw [List.take_add_one, hek, List.flatMap_append]; simp
       obtain ⟨w3, hw3, b3, k3⟩ := (⟨_, rfl, below_alloc _ _, heap_alloc_new _ _⟩ : ∃ w3, w3 = wo2.alloc (.cells #[.int .i64 κ, .int .i64 vv, .slice B1 s1.length b1, .slice C1 t1.length b2] tEd) ∧ Below wo2.heap.size wo2 w3 ∧ w3.heap[wo2.heap.size]? = some (.cells #[.int .i64 κ, .int .i64 vv, .slice B1 s1.length b1, .slice C1 t1.length b2] tEd))
       obtain ⟨p1, hp1⟩ : ∃ p1, p1 = s1.length := ⟨_, rfl⟩
       obtain ⟨r1, hr1'⟩ : ∃ r1, r1 = t1.length := ⟨_, rfl⟩
       have hEc := dnRowsF_any p n κ vv B1 C1 b1 b2 s1 t1 w3 (hr1.below b3) (hr2.below b3) hk314 hty hxx' hv0 hvp hp2 hp97 (by omega)
       obtain ⟨L, hL⟩ : ∃ L, L = dnRowsM p n (κ, vv, s1, t1) := ⟨_, rfl⟩
       have hLm : ∀ u, u ∈ L → u.length = n := fun u hu => (dnRowsM_mat (show 0 < p by omega) n (κ, vv, s1, t1) u (hL ▸ hu)).1
       have hLe : edR p V n (κ, vv, s1, t1) = L.map (padR V) := by rw [hL]; rfl
       rw [← hL] at hEc
       obtain ⟨nr, hnr⟩ : ∃ nr, nr = L.length := ⟨_, rfl⟩
       unfold RetRcF at hEc
       rw [← hp1, ← hr1', ← hnr] at hEc
       rw [← hp1, ← hr1'] at k3 hw3
       rw [← hp1] at d2
       rw [← hr1'] at d3
       have hnr2 : nr ≤ 2 := by have := hEdl; rw [hLe, List.length_map] at this; omega
       have k0w := box_below (box_below k0c_h.out hOM.below_) b3
       obtain ⟨⟨g0, g1, g2, g3⟩, j0, j1, j2, j3⟩ := box4 k0w
       obtain ⟨⟨y0, y1, y2, y3⟩, y4, y5, y6, y7⟩ := box4 k3
       clear hxx hr1 hr2 hnn hty hk314 hv0 hvp hEdl k0w; have kx_h := lH kx; have hOM_h := lH hOM; have hwr_h := lH hwr; have hek_h := lH hek; have hxx'_h := lH hxx'; have htk_h := lH htk; have b3_h := lH b3; have k3_h := lH k3; have hEc_h := lH hEc; have hp1_h := lH hp1; have hr1'_h := lH hr1'; have hql_h := lH hql; have hL_h := lH hL; have hLm_h := lH hLm; have hLe_h := lH hLe; have hnr_h := lH hnr; clear kx hOM hwr hek hxx' htk b3 k3 hEc hp1 hr1' hql hL hLm hLe hnr
       go_upto_region 11 with (fail)
       rw [← hw3]
       clear hw3
       go_wp2_with (fail)
       refine (hEc_h.out).mono ?_
       rintro e w4 ⟨vr, rfl, ⟨A5, c5, hs5, rfl, hl5, hm5, hr5, hi5, hf5⟩, hb4⟩
       have hOM4 := (hOM_h.out.below b3_h.out).below hb4
       have kx4 := box_below (box_below kx_h.out b3_h.out) hb4
       clear y0 y1 y2 y3 y4 y5 y6 y7 d0 d1 d2 d3 g0 g1 g2 g3 j0 j1 j2 j3
       obtain ⟨Lk, hLk⟩ : ∃ Lk, Lk = endTo p V n ends V ++ (es.take k).flatMap (edR p V n) := ⟨_, rfl⟩
       rw [← hLk] at hOM4
       have hql' := hql_h.out
       rw [← hLk] at hql'
       have hLk1 : endTo p V n ends V ++ (es.take (k + 1)).flatMap (edR p V n) = Lk ++ L.map (padR V) := by rw [htk_h.out, hLk, hLe_h.out, List.append_assoc]
       have hRK : RowsK w4 A5 hs5 := ⟨hr5.1, hi5⟩
       have hA5 : ∀ b, b ∈ fpA A5 → 0 < nr → w3.heap.size ≤ b ∧ b < w4.heap.size := fun b hb h0 => by
        refine ⟨hf5 b hb, ?_⟩
        obtain ⟨ad5, rfl, hc5⟩ := hr5.1 0 _ (List.getElem?_eq_getElem (by rw [hl5]; exact h0))
        obtain rfl : b = ad5.block := by simpa using hb
        have := World.block_lt_of_cell? _ _ hc5
        rwa [block_of_add] at this
       have hA2 : ∀ b, b ∈ fpA A2 → b < w3.heap.size ∨ w4.heap.size ≤ b := fun b hb => by
        obtain ⟨vs, hsl, _⟩ := hOM_h.out.om.sl
        have := hsl.lt b hb
        have := b3_h.out.size
        exact .inl (by omega)
       clear hr5 hi5 hf5; have hl5_h := lH hl5; have hm5_h := lH hm5; have hb4_h := lH hb4; have hOM4_h := lH hOM4; have kx4_h := lH kx4; have hLk_h := lH hLk; have hql'_h := lH hql'; have hLk1_h := lH hLk1; have hRK_h := lH hRK; have hA5_h := lH hA5; have hA2_h := lH hA2; clear hl5 hm5 hb4 hOM4 kx4 hLk hql' hLk1 hRK hA5 hA2
       go_wp2_with (fail)
       go_loopw [66] (fun i wr => ∃ (j q2 : Nat) (A3 : Option Addr) (c3 : Nat), j ≤ nr ∧ i = .int .i64 (j : Int) ∧ q2 = q + j ∧ wr.heap[w2.heap.size]? = some (.cells #[.int .i64 (V : Int), .int .i64 (n : Int), .slice A3 q2 c3] tSysG) ∧ OMx w2 w2.heap.size wr A3 c3 (Lk ++ (L.take j).map (padR V)) ∧ RowsK wr A5 hs5 ∧ (∀ b, b ∈ fpA A3 → b < w3.heap.size ∨ w4.heap.size ≤ b) ∧ w4.heap.size ≤ wr.heap.size) (fun i _ => nr - (intOf i).toNat)
       case atStart => exact ⟨0, q, A2, c2, Nat.zero_le _, rfl, rfl, kx4_h.out, by simpa using hOM4_h.out, hRK_h.out, hA2_h.out, Nat.le_refl _⟩
       case round =>
        clear kx4_h hOM4_h hRK_h
        obtain ⟨j, q2, A3, c3, hj, rfl, hq2e, kx5, hOM5, hRw, hA3, hKz⟩ := hrel
        obtain ⟨wj, rfl⟩ : ∃ x, x = wr := ⟨_, rfl⟩
        by_cases hjlt : j < nr
        · obtain ⟨x, hx⟩ : ∃ x, hs5[j]? = some x := ⟨_, List.getElem?_eq_getElem (by rw [hl5_h.out]; exact hjlt)⟩
          have hxm := List.mem_of_getElem? hx
          obtain ⟨Bk, dk, u⟩ := x
          have hLu : L[j]? = some u := by rw [← hm5_h.out, List.getElem?_map, hx]; rfl
          have hul : u.length = n := hLm_h.out u (List.mem_of_getElem? hLu)
          have hxs : (L.take (j + 1)).map (padR V) = (L.take j).map (padR V) ++ [padR V u] := by rw [List.take_add_one, hLu, List.map_append]; rfl
          obtain ⟨ga, rfl, gc0⟩ := hRw.1 j _ hx
          have gc : wj.cell? (ga.add j) = some (.slice Bk n dk) := by rw [gc0, ← hul]; rfl
          clear gc0
          have hIu := hRw.2 _ hxm
          have hjI : (j : Int) < (nr : Int) := by omega
          have hLl : (Lk ++ (L.take j).map (padR V)).length = q2 := by rw [List.length_append, hql'_h.out, List.length_map, List.length_take, hq2e]; have := hnr_h.out; omega
          have hq2b : q2 ≤ 200 := by omega
          clear hxm; have hx_h := lH hx; have hLu_h := lH hLu; have hul_h := lH hul; have hxs_h := lH hxs; have hIu_h := lH hIu; have hLl_h := lH hLl; have kx5_h := lH kx5; have hOM5_h := lH hOM5; have hRw_h := lH hRw; have hA3_h := lH hA3; have hKz_h := lH hKz; have hq2e_h := lH hq2e; clear hx hLu hul hxs hIu hLl kx5 hOM5 hRw hA3 hKz hq2e
          go_wp2_with (fail)
          refine beginZw 10 (fun w' => w'.heap[w2.heap.size]? = some (.cells #[.int .i64 (V : Int), .int .i64 (n : Int), .slice A3 q2 c3] tSysG)) (by kernel_rfl) (fun W1 hW1 => ?_)
          have hbd : Below wj.heap.size wj W1 := by rw [hW1]; exact below_drewN (Below.refl _ _) 1
          clear hW1 gc
          have kx1 := box_below kx5_h.out hbd
          have kx1_h := lH kx1; have hbd_h := lH hbd; clear kx1 hbd
          refine tkC 0 ?_ rfl kx1_h.out (fun W' hW' => ?_) ?_; rotate_left; · (obtain ⟨⟨x0, x1, x2⟩, x3, x4, x5⟩ := box3 hW'; clear hW'; go_simp; first | done | with_reducible rfl)
          simp only [Act.put, nS]
          refine tkC 1 ?_ rfl kx1_h.out (fun W' hW' => ?_) ?_; rotate_left; · (obtain ⟨⟨x0, x1, x2⟩, x3, x4, x5⟩ := box3 hW'; clear hW'; go_simp; first | done | with_reducible rfl)
          simp only [Act.put, nS]
          refine tkC 2 ?_ rfl kx1_h.out (fun W' hW' => ?_) ?_; rotate_left; · (obtain ⟨⟨x0, x1, x2⟩, x3, x4, x5⟩ := box3 hW'; clear hW'; go_simp; first | done | with_reducible rfl)
          simp only [Act.put, nS]
          refine tkC 3 ?_ rfl kx1_h.out (fun W' hW' => ?_) ?_; rotate_left; · (obtain ⟨⟨x0, x1, x2⟩, x3, x4, x5⟩ := box3 hW'; clear hW'; go_simp; first | done | with_reducible rfl)
          simp only [Act.put, nS]
          refine tkC 5 ?_ rfl kx1_h.out (fun W' hW' => ?_) ?_; rotate_left; · (obtain ⟨⟨x0, x1, x2⟩, x3, x4, x5⟩ := box3 hW'; clear hW'; go_simp; first | done | with_reducible rfl)
          simp only [Act.put, nS]
          obtain ⟨w6, hw6⟩ : ∃ w6, w6 = W1.alloc (.cells (madeCells (Value.int .i64 0).cells (V * 1)) tInt) := ⟨_, rfl⟩
          have b6 : Below W1.heap.size W1 w6 := by rw [hw6]; exact below_alloc _ _
          have hmk := madeIntsM W1 V (by unfold maxLen; omega)
          rw [← hw6] at hmk
          have kx6 := box_below kx1_h.out b6
          have hb6 := below_trans hbd_h.out b6 hbd_h.out.size
          have hso : Sl w6 tInt 1 (some ⟨W1.heap.size, 0, none⟩) V V (ints (List.replicate V 0)) := by have := hmk; unfold IS at this; rw [List.length_replicate] at this; exact this
          have hru := (hIu_h.out.below hb6).rd.rdc
          have hlu : (ints u).length = n * 1 := by rw [ints_length, hul_h.out, Nat.mul_one]
          have hz1 : wj.heap.size ≤ W1.heap.size := hbd_h.out.size
          clear hmk b6; have kx6_h := lH kx6; have hb6_h := lH hb6; have hso_h := lH hso; have hru_h := lH hru; have hlu_h := lH hlu; have hz1_h := lH hz1; clear kx6 hb6 hso hru hlu hz1
          refine runZ 4 rfl (by kernel_rfl) (by rfl) (run_makeOpM _ _ 23 rfl tInt Tryd.underlying23 info_int V rfl rfl (by omega) (by unfold maxLen; omega)) (fun _ => hw6 ▸ kx6_h.out) ?_
          rw [← hw6]
          clear hw6
          simp only [Act.put, nS]
          refine appZ 6 rfl (by kernel_rfl) (by rfl) _ _ _ rfl tInt Tryd.underlying23 info_int rfl (by omega) rfl hso_h.out rfl hlu_h.out hru_h.out (ints_one u) (by unfold maxLen; omega) (by omega) ?_
          intro A7 c7 w7 hsA7 hA7 hkA7 hrdA7
          clear hrdA7
          have hk7 : ∀ b, b ∈ fpA (some (⟨W1.heap.size, 0, none⟩ : Addr)) → wj.heap.size ≤ b := fun b hb => by simp at hb; have := hz1_h.out; omega
          have hb7 := below_keeps hb6_h.out hkA7 hb6_h.out.size hk7
          have hI7 : IS w7 A7 c7 (padR V u) := by
           unfold IS
           rw [padR_len, hul_h.out]
           have e : ints (padR V u) = ints (List.replicate V 0) ++ ints u := by simp [padR, ints]
           rw [e]
           exact hsA7
          have hf7 : Fresh wj.heap.size A7 := fun b hb => by
           rcases hA7 b hb with h1 | h1
           · exact hk7 b h1
           · exact Nat.le_trans hb6_h.out.size h1
          have hbl := box_lt kx5_h.out
          have kx7 := box_keeps kx6_h.out hkA7 (fun h => by have := hk7 _ h; omega)
          obtain ⟨vs, hslv, hbx2, hfin⟩ := hOM5_h.out.push hLl_h.out kx5_h.out hb7 hI7 (N := N) (by rw [padR_len, hul_h.out]; exact hN_h.out.symm) hf7
          refine ⟨fun _ => kx7, ?_⟩
          have hVN : V + n = N := hN_h.out.symm
          rw [hVN]
          have hRa7 := (hRw_h.out.below hb7).below (below_alloc w7 (.cells #[.slice A7 N c7] 23))
          have hzz : w4.heap.size ≤ (w7.alloc (.cells #[.slice A7 N c7] 23)).heap.size := by rw [World.size_alloc]; have := hKz_h.out; have := hb7.size; omega
          clear hsA7 hA7 hkA7 hk7 hb7 hI7 hf7 hVN; have hslv_h := lH hslv; have hbx2_h := lH hbx2; have hfin_h := lH hfin; have kx7_h := lH kx7; have hbl_h := lH hbl; have hRa7_h := lH hRa7; have hzz_h := lH hzz; clear hslv hbx2 hfin kx7 hbl hRa7 hzz
          simp only [Act.put, nS]
          refine oneZ 7 rfl (by kernel_rfl) (by rfl) (fun K hK => ?_)
          go_simp
          refine hK _ _ (fun _ => hbx2_h.out) ?_
          clear hK K
          refine appZ 8 rfl (by kernel_rfl) (by rfl) _ _ _ rfl 23 Tryd.underlying27 info_ints rfl (by omega) rfl hslv_h.out rfl (news := [.slice A7 N c7]) rfl (Sl.rdc (Sl.laid w7 23 1 1 #[.slice A7 N c7] (by unfold maxLen; omega) rfl)) (by intro u hu; simp at hu; subst hu; rfl) (by unfold maxLen; omega) (by omega) ?_
          intro A9 c9 w9 hsA9 hA9 hkA9 hrdA9
          clear hrdA9
          obtain ⟨hbx9, hOM9, hbxe⟩ := hfin_h.out A9 c9 w9 hsA9 hA9 hkA9
          have hR9 : RowsK w9 (some ga) hs5 := hRa7_h.out.keeps hkA9 (fun b hb hb' => by
           have h1 := hA5_h.out b hb (by omega)
           rcases hA3_h.out b hb' with h2 | h2 <;> omega) (fun y hy b hb hb' => sg_apart (hRa7_h.out.2 y hy) hslv_h.out (by decide) b hb hb')
          have hRe : RowsK (w9.setCell ⟨w2.heap.size, 2, none⟩ (.slice A9 (q2 + 1) c9)) (some ga) hs5 := hR9.keeps (set_g2 (b := .slice A9 (q2 + 1) c9) hbx9).2 (fun b hb e => by
           have h1 := hA5_h.out b hb (by omega)
           have := hbl_h.out
           have h4 : w2.heap.size < w3.heap.size := by
            have := box_lt kx_h.out
            have := b3_h.out.size
            omega
           omega) (fun y hy => sg_ne (hR9.2 y hy) hbx9 (by decide))
          have hA9' : ∀ b, b ∈ fpA A9 → b < w3.heap.size ∨ w4.heap.size ≤ b := fun b hb => by
           rcases hA9 b hb with h1 | h1
           · exact hA3_h.out b h1
           · exact .inr (Nat.le_trans hzz_h.out h1)
          have hze := Nat.le_trans (Nat.le_trans hzz_h.out hkA9.size) (set_g2 (b := .slice A9 (q2 + 1) c9) hbx9).2.size
          have hOMe : OMx w2 w2.heap.size (w9.setCell ⟨w2.heap.size, 2, none⟩ (.slice A9 (q2 + 1) c9)) A9 c9 (Lk ++ (L.take (j + 1)).map (padR V)) := by
           rw [hxs_h.out, ← List.append_assoc]
           exact hOM9
          refine ⟨fun _ => hbx9, ?_⟩
          simp only [Act.put, nS]
          obtain ⟨⟨u0, u1, u2⟩, u3, u4, u5⟩ := box3 hbx9
          clear hsA9 hA9 hkA9 hOM9 hR9; have hbx9_h := lH hbx9; have hOMe_h := lH hOMe; have hbxe_h := lH hbxe; have hRe_h := lH hRe; have hA9'_h := lH hA9'; have hze_h := lH hze; clear hbx9 hOMe hbxe hRe hA9' hze
          refine tkC 9 ?_ rfl hbx9_h.out (fun W' hW' => ?_) ?_; rotate_left; · (skip; clear hW'; go_simp; first | done | with_reducible rfl)
          simp only [Act.put, nS]
          refine oneZ 10 rfl (by kernel_rfl) (by rfl) (fun K hK => ?_)
          go_simp
          refine hK _ _ (fun h => by cases h) ?_
          clear hK K
          refine doneZ (by kernel_rfl) ?_
          go_wp2_with (fail)
          go_roundw
          case rel => exact ⟨j + 1, q2 + 1, A9, c9, by omega, by go_num, by have := hq2e_h.out; omega, hbxe_h.out, hOMe_h.out, hRe_h.out, hA9'_h.out, hze_h.out⟩
          case measure => simp [intOf]; omega
        · obtain rfl : nr = j := by omega
          have hall : L.take nr = L := List.take_of_length_le (by rw [hnr_h.out]; exact Nat.le_refl _)
          rw [hall, ← hLk1_h.out] at hOM5
          have hq3 : (endTo p V n ends V ++ (es.take (k + 1)).flatMap (edR p V n)).length = q2 := by rw [hLk1_h.out, List.length_append, hql'_h.out, List.length_map, ← hnr_h.out, hq2e]
          clear hall hRw hA3; have kx5_h := lH kx5; have hOM5_h := lH hOM5; have hq3_h := lH hq3; have hq2e_h := lH hq2e; clear kx5 hOM5 hq3 hq2e
          go_wp2_with (fail)
          go_roundw
          case rel => exact ⟨k + 1, q2, A3, c3, by omega, by go_num, by have := hq2e_h.out; omega, hq3_h.out, kx5_h.out, hOM5_h.out⟩
          case measure => simp [intOf]; omega
     · obtain rfl : m = k := by omega
       have hall : es.take m = es := List.take_of_length_le (by rw [hmes_h.out]; exact Nat.le_refl _)
       rw [hall] at hOM hql
       have k1d := box_below k1c_h.out hOM.below_
       obtain ⟨⟨x0, x1, x2⟩, x3, x4, x5⟩ := box3 kx
       obtain ⟨⟨y0, y1, y2⟩, y3, y4, y5⟩ := box3 k1d
       obtain ⟨s1', s2'⟩ := set3 (a := .int .i64 (V : Int)) (b := .int .i64 (n : Int)) (c := .slice A2 q c2) k1d
       have hz2 := B2_h.out.size
       have hk1l := box_lt k1c_h.out
       obtain ⟨fp, hO, hf⟩ := OwSys.of_ret (a := (V : Int)) (b := (n : Int)) hOM.om s2' (fun z hz => by omega) hql
       have hB3 := below_keeps hwr s2' hwr.size (fun z hz => by omega)
       have hf2 : FreshL w.heap.size fp := hf.mono hz2
       clear s2' hf hall k1d; have hql_h := lH hql; have kx_h := lH kx; have hOM_h := lH hOM; have hwr_h := lH hwr; have s1'_h := lH s1'; have hO_h := lH hO; have hB3_h := lH hB3; have hf2_h := lH hf2; clear hql kx hOM hwr s1' hO hB3 hf2
       go_wp2_with (fail)
       refine bodyPost_ret (results_cell_row rfl _ _ (w.heap.size + 1) _ _ (0, 0) _ rfl s1'_h.out Tryd.underlying29 rfl (by kernel_rfl)) rfl ?_
       exact ⟨_, fp, rfl, hO_h.out, hf2_h.out, hB3_h.out⟩
theorem IS.ne_outer {w : World} {A B : Option Addr} {c n cap : Nat} {l : List Int} {xs : List Value} (h : IS w A c l) (h' : Sl w 23 1 B n cap xs) : ∀ x, x ∈ fpA A → x ∉ fpA B := by
 intro x hx hx'
 rcases h.2.2.2 with ⟨rfl, _⟩ | ⟨g, off, cur, rfl, hg, _⟩
 · simp at hx
 rcases h'.2.2.2 with ⟨rfl, _⟩ | ⟨g', off', cur', rfl, hg', _⟩
 · simp at hx'
 simp at hx hx'
 subst hx
 subst hx'
 rw [hg] at hg'
 injection hg' with hg'
 injection hg' with _ h2 _
 exact absurd h2 (by decide)
theorem Keeps.after {S T : Nat → Prop} {a w w' : World} (h : Keeps T a w) (hk : Keeps S w w') (hS : ∀ k, k < a.heap.size → S k → T k) : Keeps T a w' :=
 ⟨hk.os.trans h.os, hk.tape.trans h.tape, hk.output.trans h.output, Nat.le_trans h.size hk.size, fun i hi ht => (hk.block i (Nat.lt_of_lt_of_le hi h.size) (fun hs => ht (hS i hi hs))).trans (h.block i hi ht)⟩
structure Aside (w : World) (A : Option Addr) (cap : Nat) (hs : List Hd) (B : Option Addr) : Prop where
 sl : Sl w 23 1 A hs.length cap (hs.map Hd.val)
 rows : ∀ x, x ∈ hs → IS w x.1 x.2.1 x.2.2
 off : ∀ b, b ∈ fpA A → ¬ b ∈ fpA B
theorem Aside.step {w w1 w2 : World} {A B B' : Option Addr} {cap n c : Nat} {hs : List Hd} {xs : List Value} (h : Aside w A cap hs B) (hB : Sl w 23 1 B n c xs) (hb : Below w.heap.size w w1) (hk : Keeps (· ∈ fpA B) w1 w2) (hB' : ∀ b, b ∈ fpA B' → b ∈ fpA B ∨ w1.heap.size ≤ b) : Aside w2 A cap hs B' :=
 ⟨(h.sl.below hb).keeps hk fun b hb1 hb2 => h.off b hb1 hb2, fun x hx => ((h.rows x hx).below hb).keeps hk fun b hb1 hb2 => IS.ne_outer (h.rows x hx) hB b hb1 hb2, fun b hb1 hb2 => by
   rcases hB' b hb2 with h1 | h1
   · exact h.off b hb1 h1
   · have := h.sl.lt b hb1; have := hb.size; omega⟩
def wcs : List Tr → List Value
 | [] => []
 | t :: r => wcs r ++ [.int .i64 (ty t).1, .int .i64 (ty t).2]
def TyA (l : List Nd) (w : World) (e : Ending) (w' : World) : Prop :=
 ∃ (i o : Int) (b : Bool), e = .returned (.tuple #[.agg #[.int .i64 i, .int .i64 o], .bool b]) ∧ b = (treeM l).isSome ∧ (∀ t, treeM l = some t → (i, o) = ty t) ∧ Below w.heap.size w w'
structure TyR (B : Nat) (w : World) (l : List Nd) (k : Nat) (st : List Tr) (A1 : Option Addr) (c1 : Nat) (wr : World) : Prop where
 par : parse [] (l.take k) = some st
 sl : Sl wr tWires 2 A1 st.length c1 (wcs st)
 fr : ∀ b, b ∈ fpA A1 → B + 1 ≤ b
 box : wr.heap[B]? = some (.cells #[.int .i64 0, .int .i64 0] tWires)
 bel : Below B w wr
theorem TyR.below {B : Nat} {w wr w1 : World} {l : List Nd} {k : Nat} {st : List Tr} {A1 : Option Addr} {c1 : Nat} (h : TyR B w l k st A1 c1 wr) (hb : Below wr.heap.size wr w1) : TyR B w l k st A1 c1 w1 :=
 ⟨h.par, h.sl.below hb, h.fr, t_box_below h.box hb, below_trans h.bel hb (Nat.le_of_lt (t_box_lt h.box))⟩
theorem TyR.push {B : Nat} {w X w2 : World} {l : List Nd} {k : Nat} {t : Tr} {r : List Tr} {A1 A2 : Option Addr} {c2 n2 : Nat} {i o : Int} (hbel : Below B w X) (hbox : X.heap[B]? = some (.cells #[.int .i64 0, .int .i64 0] tWires)) (hfr : ∀ b, b ∈ fpA A1 → B + 1 ≤ b)
  (hp : parse [] (l.take (k + 1)) = some (t :: r)) (hn : n2 = r.length) (hio : (i, o) = ty t) (hs : Sl w2 tWires 2 A2 (n2 + 1) c2 (wcs r ++ [.int .i64 i, .int .i64 o])) (hA : ∀ b, b ∈ fpA A2 → b ∈ fpA A1 ∨ X.heap.size ≤ b) (hk : Keeps (· ∈ fpA A1) X w2) : TyR B w l (k + 1) (t :: r) A2 c2 w2 := by
 have hB := t_box_lt hbox
 refine ⟨hp, ?_, fun b hb => ?_, t_box_keeps hbox hk (fun h => by have := hfr _ h; omega), below_keeps hbel hk (Nat.le_of_lt hB) (fun b hb => by have := hfr b hb; omega)⟩
 · simp only [wcs, List.length_cons, ← hio, ← hn]; exact hs
 · rcases hA b hb with h | h
   · exact hfr b h
   · omega
theorem Sl.take {w : World} {e : TypeId} {sz n cap : Nat} {A : Option Addr} {xs : List Value} (h : Sl w e sz A n cap xs) {k : Nat} (hk : k ≤ n) : Sl w e sz A k cap (xs.take (k * sz)) := by
 obtain ⟨h1, h2, h3, h4⟩ := h
 have hm := Nat.mul_le_mul_right sz hk
 refine ⟨by rw [List.length_take, h1]; omega, by omega, h3, ?_⟩
 rcases h4 with h4 | ⟨g, off, cur, ha, hg, hc, ht⟩
 · exact .inl h4
 · exact .inr ⟨g, off, cur, ha, hg, hc, by rw [← ht, List.take_take]; congr 1; omega⟩
theorem TyA.no {l : List Nd} {w w' : World} {i o : Int} (hN : treeM l = none) (hb : Below w.heap.size w w') : TyA l w (.returned (.tuple #[.agg #[.int .i64 i, .int .i64 o], .bool false])) w' :=
 ⟨i, o, false, rfl, by rw [hN]; rfl, fun t ht => (by rw [hN] at ht; cases ht), hb⟩
def frL (st : List Tr) : List Int := (infos st).map fun x => (x.1 : Int)
def inL (st : List Tr) : List Int := (infos st).map (·.2.1)
def ouL (st : List Tr) : List Int := (infos st).map (·.2.2)
abbrev RV := Int × Int × Option Addr × Nat × Nat
def rc (h : RV) : List Value := [.int .i64 h.1, .int .i64 h.2.1, .slice h.2.2.1 h.2.2.2.1 h.2.2.2.2]
def rcs : List RV → List Value
 | [] => []
 | n :: r => rc n ++ rcs r
@[simp] theorem rcs_length (l : List RV) : (rcs l).length = l.length * 3 := by
  induction l with
  | nil => rfl
  | cons n r ih => simp only [rcs, rc, List.length_append, List.length_cons, List.length_nil, ih]; omega
def dens (p : Int) (st : List Tr) : List Sys := (st.map (den p)).reverse
@[simp] theorem dens_length (p : Int) (st : List Tr) : (dens p st).length = st.length := by simp [dens]
@[simp] theorem rangeI_length' (k : Nat) : (rangeI k).length = k := by simp [rangeI]
def lfI (n k : Nat) : List Int := (rangeI k).take n
def lfO (n k : Nat) : List Int := (rangeI k).drop n
@[simp] theorem lfI_length (n k : Nat) : (lfI n k).length = min n k := by simp [lfI]
@[simp] theorem lfO_length (n k : Nat) : (lfO n k).length = k - n := by simp [lfO]
section
variable {p : Int} (hf : fieldB p = true)
include hf
end
structure EdOk (n : Nat) (e : Eg) : Prop where
 inl : e.2.2.1.length = (kindTy e.1).1.toNat
 outl : e.2.2.2.length = (kindTy e.1).2.toNat
 wi : ∀ a, a ∈ e.2.2.1 → 0 ≤ a ∧ a < (n : Int)
 wo : ∀ a, a ∈ e.2.2.2 → 0 ≤ a ∧ a < (n : Int)
def LbA (l : List Nd) (w : World) (e : Ending) (w' : World) : Prop :=
 ∃ (A0 A1 A2 : Option Addr) (c0 c1 c2 n0 n1 n2 : Nat) (b : Bool), e = .returned (.tuple #[.agg #[.slice A0 n0 c0, .slice A1 n1 c1, .slice A2 n2 c2], .bool b]) ∧ b = (treeM l).isSome ∧
   (∀ t, treeM l = some t → n0 = sz t ∧ n1 = sz t ∧ n2 = sz t ∧ RdC w' A0 (ints (frL [t])) ∧ RdC w' A1 (ints (inL [t])) ∧ RdC w' A2 (ints (ouL [t])) ∧ ∀ b, b ∈ fpA A0 ∨ b ∈ fpA A1 ∨ b ∈ fpA A2 → w.heap.size ≤ b) ∧ Below w.heap.size w w'
theorem LbA.no {l : List Nd} {w w' : World} {A0 A1 A2 : Option Addr} {c0 c1 c2 n0 n1 n2 : Nat} (hN : treeM l = none) (hb : Below w.heap.size w w') : LbA l w (.returned (.tuple #[.agg #[.slice A0 n0 c0, .slice A1 n1 c1, .slice A2 n2 c2], .bool false])) w' :=
 ⟨A0, A1, A2, c0, c1, c2, n0, n1, n2, false, rfl, by rw [hN]; rfl, fun t ht => (by rw [hN] at ht; cases ht), hb⟩
theorem RdC.keeps {w w' : World} {A : Option Addr} {xs : List Value} (h : RdC w A xs) {S : Nat → Prop} (hk : Keeps S w w') (hS : ∀ b, b ∈ fpA A → ¬ S b) : RdC w' A xs := fun j u hj => by
 obtain ⟨ad, hA, hc⟩ := h j u hj
 have hl := World.block_lt_of_cell? w _ hc
 rw [block_of_add] at hl
 exact ⟨ad, hA, (World.cell?_of_block (a := ad.add j) (by rw [block_of_add]; exact hk.block _ hl (hS _ (by simp [hA])))).trans hc⟩
theorem NS.set {w : World} {A : Option Addr} {cap : Nat} {l : List Nd} (h : NS w A cap l) {ad : Addr} (hA : A = some ad) {j : Nat} (k v : Int) (s : ByteArray) (hj : j < l.length) :
  NS (((w.setCell (ad.add (j * 3)) (.int .i64 k)).setCell ⟨(ad.add (j * 3)).block, (ad.add (j * 3)).off + 1, none⟩ (.int .i64 v)).setCell ⟨(ad.add (j * 3)).block, (ad.add (j * 3)).off + 2, none⟩ (.string s)) A cap (l.set j (k, v, s)) ∧
  Keeps (· ∈ fpA A) w (((w.setCell (ad.add (j * 3)) (.int .i64 k)).setCell ⟨(ad.add (j * 3)).block, (ad.add (j * 3)).off + 1, none⟩ (.int .i64 v)).setCell ⟨(ad.add (j * 3)).block, (ad.add (j * 3)).off + 2, none⟩ (.string s)) := by
 have hl : (ncs l).length = l.length * 3 := ncs_length l
 have s1 := Sl.set h hA (j * 3) (.int .i64 k) (by omega)
 have s2 := Sl.set s1 hA (j * 3 + 1) (.int .i64 v) (by rw [List.length_set]; omega)
 have s3 := Sl.set s2 hA (j * 3 + 2) (.string s) (by rw [List.length_set, List.length_set]; omega)
 have e := ncs_set (l := l) (j := j) (k, v, s) hj
 simp only at e
 rw [e, add_next ad (j * 3) 1 (by omega), add_next ad (j * 3) 2 (by omega)] at s3
 refine ⟨by unfold NS; rw [List.length_set]; exact s3, ?_⟩
 have hb : (ad.add (j * 3)).block ∈ fpA A := by rw [block_of_add, hA]; simp
 exact (((Keeps.refl _ w).setCell (p := ad.add (j * 3)) hb _).setCell (p := ⟨(ad.add (j * 3)).block, (ad.add (j * 3)).off + 1, none⟩) hb _).setCell (p := ⟨(ad.add (j * 3)).block, (ad.add (j * 3)).off + 2, none⟩) hb _
theorem NS.mid {w : World} {ad : Addr} {cap : Nat} {l : List Nd} (h : NS w (some ad) cap l) {j : Nat} (k v : Int) (hj : j < l.length) :
  (∃ x, (w.setCell (ad.add (j * 3)) (.int .i64 k)).cell? ⟨(ad.add (j * 3)).block, (ad.add (j * 3)).off + 1, none⟩ = some x) ∧ (w.setCell (ad.add (j * 3)) (.int .i64 k)).frozen? ⟨(ad.add (j * 3)).block, (ad.add (j * 3)).off + 1, none⟩ = false ∧
  (∃ x, ((w.setCell (ad.add (j * 3)) (.int .i64 k)).setCell ⟨(ad.add (j * 3)).block, (ad.add (j * 3)).off + 1, none⟩ (.int .i64 v)).cell? ⟨(ad.add (j * 3)).block, (ad.add (j * 3)).off + 2, none⟩ = some x) ∧
  ((w.setCell (ad.add (j * 3)) (.int .i64 k)).setCell ⟨(ad.add (j * 3)).block, (ad.add (j * 3)).off + 1, none⟩ (.int .i64 v)).frozen? ⟨(ad.add (j * 3)).block, (ad.add (j * 3)).off + 2, none⟩ = false := by
 have hl : (ncs l).length = l.length * 3 := ncs_length l
 have s1 := Sl.set h rfl (j * 3) (.int .i64 k) (by omega)
 have s2 := Sl.set s1 rfl (j * 3 + 1) (.int .i64 v) (by rw [List.length_set]; omega)
 rw [← add_next ad (j * 3) 1 (by omega), ← add_next ad (j * 3) 2 (by omega)]
 obtain ⟨a1, h1, _, c1, f1⟩ := Sl.cell s1 (j := j * 3 + 1) (u := _) (List.getElem?_eq_getElem (by rw [List.length_set]; omega))
 obtain ⟨a2, h2, _, c2, f2⟩ := Sl.cell s2 (j := j * 3 + 2) (u := _) (List.getElem?_eq_getElem (by rw [List.length_set, List.length_set]; omega))
 obtain rfl := Option.some.inj h1
 obtain rfl := Option.some.inj h2
 exact ⟨⟨_, c1⟩, f1 _, ⟨_, c2⟩, f2 _⟩
theorem NS.free {w : World} {A : Option Addr} {cap : Nat} {l : List Nd} (h : NS w A cap l) {j : Nat} (hj : j < l.length) : ∃ ad, A = some ad ∧ w.frozen? (ad.add (j * 3)) = false ∧ w.frozen? ⟨(ad.add (j * 3)).block, (ad.add (j * 3)).off + 1, none⟩ = false ∧ w.frozen? ⟨(ad.add (j * 3)).block, (ad.add (j * 3)).off + 2, none⟩ = false := by
 obtain ⟨ad, hA, _, hf⟩ := h.at_ hj
 refine ⟨ad, hA, hf _, ?_, ?_⟩
 · rw [← add_next ad (j * 3) 1 (by omega)]; exact hf _
 · rw [← add_next ad (j * 3) 2 (by omega)]; exact hf _
theorem bx1 {w : World} {B : Nat} {x : Value} {t : TypeId} (h : w.heap[B]? = some (.cells #[x] t)) : w.cell? ⟨B, 0, none⟩ = some x ∧ w.frozen? ⟨B, 0, none⟩ = false := by simp [World.cell?, World.frozen?, h]
structure BoxS where
 i : Nat
 d : Tmp
 obj : Obj
theorem isDelay_any (k : Int) (w : World) : Calls Tryd.prog 36 #[.int .i64 k] w fun e w' => e = .returned (.bool (!noDl k)) ∧ w' = w := by
 unfold noDl
 by_cases h8 : k = 8
 · subst h8
   go_enter Tryd.func36, Tryd.ntmps36
   go_wp2_with (fail)
   go_ret
   exact ⟨rfl, rfl⟩
 · have b8 : (k == 8) = false := by rw [beq_eq_false_iff_ne]; exact h8
   by_cases h14 : k = 14
   · subst h14
     go_enter Tryd.func36, Tryd.ntmps36
     go_wp2_with (fail)
     go_ret
     exact ⟨rfl, rfl⟩
   · have b14 : (k == 14) = false := by rw [beq_eq_false_iff_ne]; exact h14
     go_enter Tryd.func36, Tryd.ntmps36
     go_wp2_with (fail)
     go_ret
     exact ⟨by simp [h8, h14], rfl⟩
abbrev tBool : TypeId := 4
abbrev tBools : TypeId := 81
theorem info_bool : (Tryd.prog.info? tBool).map (fun i => (i.zero, i.size, i.bytes)) = some (some (.bool false), 1, 1) := by kernel_rfl
def bls (l : List Bool) : List Value := l.map Value.bool
theorem bls_get {l : List Bool} {j : Nat} {b : Bool} (h : l[j]? = some b) : (bls l)[j]? = some (.bool b) := by simp [bls, h]
theorem bls_set (l : List Bool) (j : Nat) (b : Bool) : (bls l).set j (.bool b) = bls (l.set j b) := by simp [bls, List.map_set]
theorem madeBls (m : Nat) : (madeCells (Value.bool false).cells (m * 1)).toList.take (m * 1) = bls (List.replicate m false) := by
 rw [Nat.mul_one]; simp [Value.cells, toList_madeCells_one, bls]
abbrev tWiresG : TypeId := 91
theorem run_eq_intG (d : Nat) (x y : Int) (W : World) : (Op.equalIn (d + 1) tInt (.int .i64 x) (.int .i64 y)).run Tryd.prog W = .ok (x == y) W := by
 unfold Op.equalIn
 simp [run_underlying Tryd.underlying3]
theorem part_g0 (a b : Int) (W : World) : (part tInt #[.int .i64 a, .int .i64 b] 0).run Tryd.prog W = .ok (.int .i64 a) W := by kernel_rfl
theorem part_g1 (a b : Int) (W : World) : (part tInt #[.int .i64 a, .int .i64 b] 1).run Tryd.prog W = .ok (.int .i64 b) W := by kernel_rfl
theorem wires_eq (a b c d : Int) (W : World) : (binOp .eql tWiresG (.agg #[.int .i64 a, .int .i64 b]) (.agg #[.int .i64 c, .int .i64 d])).run Tryd.prog W = .ok (.bool (decide (a = c ∧ b = d))) W := by
 have hk : ∀ m, (Op.equalIn (m + 1 + 1) tWiresG (.agg #[.int .i64 a, .int .i64 b]) (.agg #[.int .i64 c, .int .i64 d])).run Tryd.prog W = .ok (decide (a = c ∧ b = d)) W := by
  intro m
  conv => lhs; unfold Op.equalIn
  simp only [Sem.run_bind, run_underlying Tryd.underlying91, Result.andThen_ok]
  simp [part_g0, part_g1, run_eq_intG]
  by_cases h1 : a = c <;> by_cases h2 : b = d <;> simp [h1, h2]
 have e0 : Op.maxDepth = (Op.maxDepth - 2) + 1 + 1 := rfl
 simp only [binOp, Op.equal, Sem.run_bind]
 rw [e0, hk]
 simp
def egH (k v : Int) (p q : Nat) : Bool := t_inB k 3 14 && (gvB k v && decide (((p : Int), (q : Int)) = kindTy k))
set_option maxRecDepth 100000 in
set_option maxHeartbeats 4000000 in
theorem isEdge_any (k v : Int) (B C : Option Addr) (b c p q : Nat) (w : World) :
  Calls Tryd.prog 59 #[.agg #[.int .i64 k, .int .i64 v, .slice B p b, .slice C q c]] w fun e w' => e = .returned (.bool (egH k v p q)) ∧ Below w.heap.size w w' := by
 obtain ⟨D, hD⟩ : ∃ D, D = egH k v p q := ⟨_, rfl⟩
 have hDD := hD
 unfold egH at hDD
 rw [← hD]
 have hG := fun (W : World) => isGenerator_any k W
 have hV := fun (W : World) => isGeneratorValue_any k v W
 obtain ⟨W, hW, bW, k0⟩ := (⟨_, rfl, t_below_alloc _ _, heap_alloc_new _ _⟩ : ∃ W, W = w.alloc (.cells #[.int .i64 k, .int .i64 v, .slice B p b, .slice C q c] tEd) ∧ Below w.heap.size w W ∧ W.heap[w.heap.size]? = some (.cells #[.int .i64 k, .int .i64 v, .slice B p b, .slice C q c] tEd))
 obtain ⟨⟨c0, c1, c2, c3⟩, f0, f1, f2, f3⟩ := t_box4 k0
 by_cases h0 : t_inB k 3 14 = true
 case neg =>
  have h0' : t_inB k 3 14 = false := by simpa using h0
  obtain rfl : D = false := by rw [hDD, h0']; rfl
  simp only [h0'] at hG
  clear h0 h0' hDD; have hG_h := lH hG; have hV_h := lH hV; have k0_h := lH k0; have bW_h := lH bW; have hD_h := lH hD; clear hG hV k0 bW hD
  go_enter Tryd.func59, Tryd.ntmps59
  go_upto_region 1 with (fail)
  rw [← hW]
  clear hW
  go_wp2_with (fail)
  refine (hG_h.out _).mono ?_
  rintro e w1 ⟨rfl, rfl⟩
  go_wp2_with (fail)
  go_ret
  exact ⟨rfl, bW_h.out⟩
 have hkb : 3 ≤ k ∧ k ≤ 14 := of_decide_eq_true h0
 simp only [h0] at hG
 rw [h0, Bool.true_and] at hDD
 by_cases h1 : gvB k v = true
 case neg =>
  have h1' : gvB k v = false := by simpa using h1
  obtain rfl : D = false := by rw [hDD, h1']; rfl
  simp only [h1'] at hV
  clear h0 h1 h1' hDD; have hG_h := lH hG; have hV_h := lH hV; have k0_h := lH k0; have bW_h := lH bW; have hD_h := lH hD; clear hG hV k0 bW hD
  go_enter Tryd.func59, Tryd.ntmps59
  go_upto_region 1 with (fail)
  rw [← hW]
  clear hW
  go_wp2_with (fail)
  refine (hG_h.out _).mono ?_
  rintro e w1 ⟨rfl, rfl⟩
  go_wp2_with (fail)
  refine (hV_h.out _).mono ?_
  rintro e w1 ⟨rfl, rfl⟩
  go_wp2_with (fail)
  go_ret
  exact ⟨rfl, bW_h.out⟩
 simp only [h1] at hV
 rw [h1, Bool.true_and] at hDD
 have hgw := fun (W : World) => generatorWires_any k W hkb.1 hkb.2
 obtain ⟨i1, hi1⟩ : ∃ i, i = (kindTy k).1 := ⟨_, rfl⟩
 obtain ⟨i2, hi2⟩ : ∃ i, i = (kindTy k).2 := ⟨_, rfl⟩
 have hDw : D = decide (i1 = (p : Int) ∧ i2 = (q : Int)) := by
  rw [hDD, Bool.eq_iff_iff, decide_eq_true_eq, decide_eq_true_eq, hi1, hi2]
  exact ⟨fun h => ⟨(congrArg Prod.fst h).symm, (congrArg Prod.snd h).symm⟩, fun h => Prod.ext h.1.symm h.2.symm⟩
 simp only [← hi1, ← hi2] at hgw
 have hwe := fun (W : World) => wires_eq i1 i2 (p : Int) (q : Int) W
 simp only [← hDw] at hwe
 clear h0 h1 hDD hkb hi1 hi2; have hG_h := lH hG; have hV_h := lH hV; have hgw_h := lH hgw; have k0_h := lH k0; have bW_h := lH bW; have hD_h := lH hD; have hDw_h := lH hDw; clear hG hV hgw k0 bW hD hDw
 go_enter Tryd.func59, Tryd.ntmps59
 go_upto_region 1 with (fail)
 rw [← hW]
 clear hW
 go_wp2_with (fail)
 refine (hG_h.out _).mono ?_
 rintro e w1 ⟨rfl, rfl⟩
 go_wp2_with (fail)
 refine (hV_h.out _).mono ?_
 rintro e w1 ⟨rfl, rfl⟩
 go_wp2_with (fail)
 obtain ⟨W, rfl⟩ : ∃ x, x = w1 := ⟨_, rfl⟩
 clear c0 c1 c2 c3 f0 f1 f2 f3
 refine beginB (by kernel_rfl) (fun W1 hW1 => ?_)
 have hbw : Below W.heap.size W W1 := by rw [hW1]; exact below_drew (Below.refl _ _)
 clear hW1
 have k1 := t_box_below k0_h.out hbw
 have k1_h := lH k1; clear k1
 refine tkH 0 ?_ rfl (Below.refl _ _) (fun W' hW' => ?_) ?_; rotate_left; · (obtain ⟨⟨a0, a1, a2, a3⟩, b0, b1, b2, b3⟩ := t_box4 (t_box_below k1_h.out hW'); clear hW'; go_simp; first | done | with_reducible rfl)
 simp only [Act.put, nS]
 refine tkH 1 ?_ rfl (Below.refl _ _) (fun W' hW' => ?_) ?_; rotate_left; · (obtain ⟨⟨a0, a1, a2, a3⟩, b0, b1, b2, b3⟩ := t_box4 (t_box_below k1_h.out hW'); clear hW'; go_simp; first | done | with_reducible rfl)
 simp only [Act.put, nS]
 refine tkH 3 ?_ rfl (Below.refl _ _) (fun W' hW' => ?_) ?_; rotate_left; · (obtain ⟨⟨a0, a1, a2, a3⟩, b0, b1, b2, b3⟩ := t_box4 (t_box_below k1_h.out hW'); clear hW'; go_simp; first | done | with_reducible rfl)
 simp only [Act.put, nS]
 refine tkH 4 ?_ rfl (Below.refl _ _) (fun W' hW' => ?_) ?_; rotate_left; · (obtain ⟨⟨a0, a1, a2, a3⟩, b0, b1, b2, b3⟩ := t_box4 (t_box_below k1_h.out hW'); clear hW'; go_simp; first | done | with_reducible rfl)
 simp only [Act.put, nS]
 refine tkH 5 ?_ rfl (Below.refl _ _) (fun W' hW' => ?_) ?_; rotate_left; · (obtain ⟨⟨a0, a1, a2, a3⟩, b0, b1, b2, b3⟩ := t_box4 (t_box_below k1_h.out hW'); clear hW'; go_simp; first | done | with_reducible rfl)
 simp only [Act.put, nS]
 refine tkH 6 ?_ rfl (Below.refl _ _) (fun W' hW' => ?_) ?_; rotate_left; · (obtain ⟨⟨a0, a1, a2, a3⟩, b0, b1, b2, b3⟩ := t_box4 (t_box_below k1_h.out hW'); clear hW'; go_simp; first | done | with_reducible rfl)
 simp only [Act.put, nS]
 refine tkH 7 ?_ rfl (Below.refl _ _) (fun W' hW' => ?_) ?_; rotate_left; · (obtain ⟨⟨a0, a1, a2, a3⟩, b0, b1, b2, b3⟩ := t_box4 (t_box_below k1_h.out hW'); clear hW'; go_simp; first | done | with_reducible rfl)
 simp only [Act.put, nS]
 refine tkH 8 ?_ rfl (Below.refl _ _) (fun W' hW' => ?_) ?_; rotate_left; · (obtain ⟨⟨a0, a1, a2, a3⟩, b0, b1, b2, b3⟩ := t_box4 (t_box_below k1_h.out hW'); clear hW'; go_simp; first | done | with_reducible rfl)
 simp only [Act.put, nS]
 refine tkH 9 ?_ rfl (Below.refl _ _) (fun W' hW' => ?_) ?_; rotate_left; · (obtain ⟨⟨a0, a1, a2, a3⟩, b0, b1, b2, b3⟩ := t_box4 (t_box_below k1_h.out hW'); clear hW'; go_simp; first | done | with_reducible rfl)
 simp only [Act.put, nS]
 refine' callH 2 (f := _) (args := _) rfl (by kernel_rfl) (by rfl) ?_ ?_; rotate_left 2; · (go_simp; first | done | with_reducible rfl | (constructor <;> with_reducible rfl))
 refine (hgw_h.out _).mono ?_
 rintro e w2 ⟨rfl, hb2⟩
 refine ⟨_, rfl, hb2, ?_⟩
 simp only [Act.put, nS]
 refine tkH 10 ?_ rfl hb2 (fun W' hW' => ?_) ?_; rotate_left; · (have hwe' := hwe W'; clear hW'; go_simp; first | done | with_reducible rfl)
 simp only [Act.put, nS]
 refine tkH 11 ?_ rfl hb2 (fun W' hW' => ?_) ?_; rotate_left; · (have hwe' := hwe W'; clear hW'; go_simp; first | done | with_reducible rfl)
 simp only [Act.put, nS]
 refine doneH (by kernel_rfl) ?_
 have hB2 := below_trans (below_trans bW_h.out hbw bW_h.out.size) hb2 (Nat.le_trans bW_h.out.size hbw.size)
 have hB2_h := lH hB2; clear hB2
 go_wp2_with (fail)
 go_ret
 exact ⟨rfl, hB2_h.out⟩
set_option maxRecDepth 100000 in
set_option maxHeartbeats 4000000 in
theorem lists_any {v : Value} {g : Gr} (wE : World) (h : RdGr wE v g) (ok : OkG g) (F : FuncId) (cap : Array Value) (hE : ∀ (args : Array Value) (w : World), (callFunc F args).run Tryd.prog w = .ok (.enter F args) w)
  (I : List Int → World → Prop) (S : List Nat) (hS : ∀ b, b ∈ S → wE.heap.size ≤ b) (hal : ∀ l W W', I l W → Below W.heap.size W W' → I l W')
  (hF : ∀ l B c (m : List Int) W, I l W → (∀ W', Keeps (· ∈ S) W W' → RdI W' B m) → (∀ x, x ∈ m → x ∈ t_allW g) → m.length ≤ 1048576 → Calls Tryd.prog F (#[.slice B m.length c] ++ cap) W fun e w' => e = .returned (.tuple #[]) ∧ I (l ++ m) w' ∧ Keeps (· ∈ S) W w')
  (w : World) (hw : I [] w) (hbw : Below wE.heap.size wE w) (hSw : ∀ b, b ∈ S → b < w.heap.size) :
  Calls Tryd.prog 60 #[v, .func (.func F) #[] cap] w fun e w' => e = .returned (.tuple #[]) ∧ I (t_allW g) w' ∧ Keeps (· ∈ S) w w' := by
 obtain ⟨A, c, hs, ⟨B, b, s⟩, ⟨C, d, t⟩, rfl, e1, e2, e3, hEd, hRa, hRb⟩ := h
 obtain ⟨z, es, s0, t0⟩ := g
 have a1 : es = hs.map egOf := e1
 have a2 : s = s0 := e2
 have a3 : t = t0 := e3
 subst a2 a3
 have hlen1 : es.length ≤ 1048576 := ok.1.1
 have hlen2 : s.length ≤ 1048576 := ok.1.2.1
 have hlen3 : t.length ≤ 1048576 := ok.1.2.2
 have hlE : ∀ x, x ∈ es → x.2.2.1.length ≤ 1048576 ∧ x.2.2.2.length ≤ 1048576 := ok.2.1
 have hall : t_allW (z, es, s, t) = s ++ (t ++ edW es) := rfl
 rw [hall] at hF ⊢
 have hRa0 : RdI wE B s := hRa
 have hRb0 : RdI wE C t := hRb
 obtain ⟨m, hm⟩ : ∃ m, m = hs.length := ⟨_, rfl⟩
 obtain ⟨p, hp⟩ : ∃ p, p = s.length := ⟨_, rfl⟩
 obtain ⟨r, hr⟩ : ∃ r, r = t.length := ⟨_, rfl⟩
 have hmes : es.length = m := by rw [a1, List.length_map, hm]
 show Calls Tryd.prog _ #[.agg #[.int .i64 z, .slice A hs.length c, .slice B s.length b, .slice C t.length d], .func (.func F) #[] cap] w _
 rw [← hm, ← hp, ← hr]
 obtain ⟨W, hW, bW, k0⟩ := (⟨_, rfl, t_below_alloc _ _, heap_alloc_new _ _⟩ : ∃ W, W = w.alloc (.cells #[.int .i64 z, .slice A m c, .slice B p b, .slice C r d] tGr) ∧ Below w.heap.size w W ∧ W.heap[w.heap.size]? = some (.cells #[.int .i64 z, .slice A m c, .slice B p b, .slice C r d] tGr))
 have hbW := below_trans hbw bW hbw.size
 have hI0 := hal _ _ _ hw bW
 have hC1 := hF [] B b s W hI0 (fun W' hk => hRa0.below (below_keeps hbW hk hbW.size hS)) (fun x hx => by simp [hx]) hlen2
 rw [← hp, List.nil_append] at hC1
 obtain ⟨⟨c0, c1, c2, c3⟩, f0, f1, f2, f3⟩ := t_box4 k0
 have hmb : (m : Int) ≤ 1048576 := by omega
 have hE1 := hE (#[.slice B p b] ++ cap) W
 have hnS : ¬ w.heap.size ∈ S := fun hh => by have := hSw _ hh; omega
 clear hRa hRb ok e1 e2 e3 hlen1 hlen2 hall hw hI0; have hS_h := lH hS; have hal_h := lH hal; have hF_h := lH hF; have hSw_h := lH hSw; have hbw_h := lH hbw; have hbW_h := lH hbW; have bW_h := lH bW; have k0_h := lH k0; have hC1_h := lH hC1; have hEd_h := lH hEd; have hRa0_h := lH hRa0; have hRb0_h := lH hRb0; have a1_h := lH a1; have hlE_h := lH hlE; have hm_h := lH hm; have hp_h := lH hp; have hr_h := lH hr; have hmes_h := lH hmes; have hE_h := lH hE; have hnS_h := lH hnS; clear hS hal hF hSw hbw hbW bW k0 hC1 hEd hRa0 hRb0 a1 hlE hm hp hr hmes hE hnS
 go_enter Tryd.func60, Tryd.ntmps60
 go_upto_region 1 with (fail)
 rw [← hW]
 clear hW
 go_wp2_with (fail)
 refine (hC1_h.out).mono ?_
 rintro e w1 ⟨rfl, hI1, hk1⟩
 have k1 := t_box_keeps k0_h.out hk1 hnS_h.out
 have hb1 := below_keeps hbW_h.out hk1 hbW_h.out.size hS_h.out
 have hC2 := hF_h.out s C d t w1 hI1 (fun W' hk => hRb0_h.out.below (below_keeps hb1 hk hb1.size hS_h.out)) (fun x hx => by simp [hx]) hlen3
 rw [← hr_h.out] at hC2
 clear c0 c1 c2 c3 f0 f1 f2 f3 hI1 hE1
 obtain ⟨⟨c0, c1, c2, c3⟩, f0, f1, f2, f3⟩ := t_box4 k1
 have hE1 := hE_h.out (#[.slice C r d] ++ cap) w1
 have hk1_h := lH hk1; have k1_h := lH k1; have hb1_h := lH hb1; have hC2_h := lH hC2; clear hk1 k1 hb1 hC2
 go_wp2_with (fail)
 refine (hC2_h.out).mono ?_
 rintro e w2 ⟨rfl, hI2, hk2⟩
 have k2 := t_box_keeps k1_h.out hk2 hnS_h.out
 have hb2 := below_keeps hb1_h.out hk2 hb1_h.out.size hS_h.out
 have hk02 := hk1_h.out.trans hk2
 clear c0 c1 c2 c3 f0 f1 f2 f3 hE1 hk2
 obtain ⟨⟨c0, c1, c2, c3⟩, f0, f1, f2, f3⟩ := t_box4 k2
 have hI20 : I (s ++ (t ++ edW (es.take 0))) w2 := by simpa [edW] using hI2
 have hk02_h := lH hk02; have k2_h := lH k2; have hb2_h := lH hb2; have hI20_h := lH hI20; clear hk02 k2 hb2 hI20; clear hI2
 go_wp2_with (fail)
 clear c0 c1 c2 c3 f0 f1 f2 f3
 go_loopw [17] (fun i wr => ∃ k : Nat, k ≤ m ∧ i = .int .i64 k ∧ I (s ++ (t ++ edW (es.take k))) wr ∧ Keeps (· ∈ S) W wr) (fun i _ => m - (intOf i).toNat)
 case atStart => exact ⟨0, Nat.zero_le _, rfl, hI20_h.out, hk02_h.out⟩
 case round =>
  clear hI20_h hk02_h
  obtain ⟨k, hk, rfl, hI3, hk3⟩ := hrel
  have hb3 := below_keeps hbW_h.out hk3 hbW_h.out.size hS_h.out
  by_cases hlt : k < m
  · obtain ⟨ad, κ, vv, B1, b1, s1, C1, b2, t1, rfl, hn, ⟨d0, d1, d2, d3⟩, hr1, hr2⟩ := (hEd_h.out.below hb3).at_ (j := k) (by rw [← hm_h.out]; exact hlt)
    have hek : es[k]? = some (κ, vv, s1, t1) := by rw [a1_h.out, List.getElem?_map, hn]; rfl
    have hln := hlE_h.out _ (List.mem_of_getElem? hek)
    obtain ⟨hm1, hm2⟩ := mem_edW_of (List.mem_of_getElem? hek)
    obtain ⟨wo, rfl⟩ : ∃ x, x = wr := ⟨_, rfl⟩
    obtain ⟨p1, hp1⟩ : ∃ p1, p1 = s1.length := ⟨_, rfl⟩
    obtain ⟨r1, hr1'⟩ : ∃ r1, r1 = t1.length := ⟨_, rfl⟩
    rw [← hp1] at d2
    rw [← hr1'] at d3
    obtain ⟨W6, hW6, bW6, k6⟩ := (⟨_, rfl, t_below_alloc _ _, heap_alloc_new _ _⟩ : ∃ W, W = wo.alloc (.cells #[.int .i64 κ, .int .i64 vv, .slice B1 p1 b1, .slice C1 r1 b2] tEd) ∧ Below wo.heap.size wo W ∧ W.heap[wo.heap.size]? = some (.cells #[.int .i64 κ, .int .i64 vv, .slice B1 p1 b1, .slice C1 r1 b2] tEd))
    have hb6 := below_trans hb3 bW6 hb3.size
    have hI6 := hal_h.out _ _ _ hI3 bW6
    have hRB : RdI wE B1 s1 := (hEd_h.out.2 _ (List.mem_of_getElem? hn)).1
    have hC3 := hF_h.out _ B1 b1 s1 W6 hI6 (fun W' hk => hRB.below (below_keeps hb6 hk hb6.size hS_h.out)) (fun x hx => by simp [hm1 x hx]) hln.1
    rw [← hp1] at hC3
    have hk6 := hk3.trans (Keeps.of_below bW6 _)
    have hnS6 : ¬ wo.heap.size ∈ S := fun hh => by have := hSw_h.out _ hh; have := hk3.size; have := bW_h.out.size; omega
    have hRC : RdI wE C1 t1 := (hEd_h.out.2 _ (List.mem_of_getElem? hn)).2
    have hkI : (k : Int) < (m : Int) := by omega
    obtain ⟨⟨c0, c1, c2, c3⟩, f0, f1, f2, f3⟩ := t_box4 k6
    have hE1 := hE_h.out (#[.slice B1 p1 b1] ++ cap) W6
    have hr1_h := lH hr1'; clear hr1' hI6 hI3 hr1 hr2 hn hm1 hb3 hk3 hRB; have hek_h := lH hek; have hp1_h := lH hp1; have bW6_h := lH bW6; have k6_h := lH k6; have hC3_h := lH hC3; have hk6_h := lH hk6; have hnS6_h := lH hnS6; have hb6_h := lH hb6; have hRC_h := lH hRC; have hm2_h := lH hm2; have hln_h := lH hln; clear hek hp1 bW6 k6 hC3 hk6 hnS6 hb6 hRC hm2 hln
    go_upto_region 6 with (fail)
    rw [← hW6]
    clear hW6
    go_wp2_with (fail)
    refine (hC3_h.out).mono ?_
    rintro e w7 ⟨rfl, hI7, hk7⟩
    have k7 := t_box_keeps k6_h.out hk7 hnS6_h.out
    have hb7 := below_keeps hb6_h.out hk7 hb6_h.out.size hS_h.out
    have hC4 := hF_h.out _ C1 b2 t1 w7 hI7 (fun W' hk => hRC_h.out.below (below_keeps hb7 hk hb7.size hS_h.out)) (fun x hx => by simp [hm2_h.out x hx]) hln_h.out.2
    rw [← hr1_h.out] at hC4
    have hk8 := hk6_h.out.trans hk7
    clear c0 c1 c2 c3 f0 f1 f2 f3 hE1 hI7 hk7 d0 d1 d2 d3
    obtain ⟨⟨c0, c1, c2, c3⟩, f0, f1, f2, f3⟩ := t_box4 k7
    have hE1 := hE_h.out (#[.slice C1 r1 b2] ++ cap) w7
    have k7_h := lH k7; have hb7_h := lH hb7; have hC4_h := lH hC4; have hk8_h := lH hk8; clear k7 hb7 hC4 hk8
    go_wp2_with (fail)
    refine (hC4_h.out).mono ?_
    rintro e w8 ⟨rfl, hI8, hk9⟩
    have hk10 := hk8_h.out.trans hk9
    have hI9 : I (s ++ (t ++ edW (es.take (k + 1)))) w8 := by
     have e : s ++ (t ++ edW (es.take (k + 1))) = s ++ (t ++ edW (es.take k)) ++ s1 ++ t1 := by
      rw [List.take_add_one, hek_h.out, edW_append]; simp [edW]
     rw [e]; exact hI8
    clear c0 c1 c2 c3 f0 f1 f2 f3 hE1 hI8 hk9; have hk10_h := lH hk10; have hI9_h := lH hI9; clear hk10 hI9
    go_wp2_with (fail)
    go_roundw
    case rel => exact ⟨k + 1, by omega, by go_num, hI9_h.out, hk10_h.out⟩
    case measure => simp [intOf]; omega
  · obtain rfl : m = k := by omega
    rw [List.take_of_length_le (by rw [hmes_h.out]; exact Nat.le_refl _)] at hI3
    have hkf := (Keeps.of_below bW_h.out (· ∈ S)).trans hk3
    have hI3_h := lH hI3; have hkf_h := lH hkf; clear hI3 hkf; clear hk3
    go_wp2_with (fail)
    go_end0
    exact ⟨rfl, hI3_h.out, hkf_h.out⟩
theorem boxg1 {w : World} {B : Nat} {x : Value} {t : TypeId} (h : w.heap[B]? = some (.cells #[x] t)) : w.cell? ⟨B, 0, none⟩ = some x ∧ w.frozen? ⟨B, 0, none⟩ = false := by simp [World.cell?, World.frozen?, h]
theorem seenM_step {n : Nat} {l : List Int} {q : Nat} (hq : q < n) (hs : l.contains (q : Int) = true) : seenC n (l ++ [(q : Int)]) = seenC n l := by unfold seenC; rw [seenM_old hq hs]
theorem inW_snoc (n : Int) (l : List Int) (x : Int) : inW n (l ++ [x]) = (inW n l && t_inB x 0 (n - 1)) := by rw [inW_append]; simp [inW]
structure GI (n gB bG bS bC : Nat) (Gs : Addr) (V1 V2 V3 : Value) (l : List Int) (W : World) : Prop where
 hg : W.heap[gB]? = some (.cells #[.int .i64 (n : Int), V1, V2, V3] tGr)
 hgd : W.heap[bG]? = some (.cells #[.bool (inW n l)] tBool)
 hsl : W.heap[bS]? = some (.cells #[.slice (some Gs) n n] tBools)
 hct : W.heap[bC]? = some (.cells #[.int .i64 (seenC n l : Int)] tInt)
 hse : Sl W tBool 1 (some Gs) n n (bls (seenM n l))
theorem GI.below {n gB bG bS bC : Nat} {Gs : Addr} {V1 V2 V3 : Value} {l : List Int} {W W' : World} (h : GI n gB bG bS bC Gs V1 V2 V3 l W) (hb : Below W.heap.size W W') : GI n gB bG bS bC Gs V1 V2 V3 l W' :=
 ⟨t_box_below h.hg hb, t_box_below h.hgd hb, t_box_below h.hsl hb, t_box_below h.hct hb, h.hse.below hb⟩
set_option maxRecDepth 100000 in
set_option maxHeartbeats 4000000 in
theorem isGraphC_any (n gB bG bS bC : Nat) (Gs : Addr) (V1 V2 V3 : Value) (l : List Int) (B : Option Addr) (c : Nat) (m : List Int) (W : World) (hn : n ≤ 100) (hml : m.length ≤ 1048576)
  (h1 : bG ≠ bC) (h2 : bG ≠ Gs.block) (h3 : bC ≠ Gs.block) (h4 : gB ≠ bG ∧ gB ≠ bC ∧ gB ≠ Gs.block) (h5 : bS ≠ bG ∧ bS ≠ bC ∧ bS ≠ Gs.block)
  (hI : GI n gB bG bS bC Gs V1 V2 V3 l W) (hm : ∀ W', Keeps (· ∈ [bG, bC, Gs.block]) W W' → RdI W' B m) :
  Calls Tryd.prog 61 #[.slice B m.length c, .pointer (some ⟨gB, 0, none⟩), .pointer (some ⟨bG, 0, none⟩), .pointer (some ⟨bS, 0, none⟩), .pointer (some ⟨bC, 0, none⟩)] W fun e w' => e = .returned (.tuple #[]) ∧ GI n gB bG bS bC Gs V1 V2 V3 (l ++ m) w' ∧ Keeps (· ∈ [bG, bC, Gs.block]) W w' := by
 obtain ⟨p, hp⟩ : ∃ p, p = m.length := ⟨_, rfl⟩
 rw [← hp] at hml ⊢
 have hp_h := lH hp; have hm_h := lH hm; have hI_h := lH hI; clear hp hm hI
 go_enter Tryd.func61, Tryd.ntmps61
 go_wp2_with (fail)
 go_loopw [10] (fun i wr => ∃ k : Nat, k ≤ p ∧ i = .int .i64 k ∧ GI n gB bG bS bC Gs V1 V2 V3 (l ++ m.take k) wr ∧ Keeps (· ∈ [bG, bC, Gs.block]) W wr) (fun i _ => p - (intOf i).toNat)
 case atStart => exact ⟨0, Nat.zero_le _, rfl, by simpa using hI_h.out, Keeps.refl _ _⟩
 case round =>
  clear hI_h
  obtain ⟨k, hk, rfl, hI, hkp⟩ := hrel
  by_cases hlt : k < p
  · obtain ⟨xd, x, rfl, hx, hxc⟩ := (hm_h.out wr hkp).at_ (j := k) (by rw [← hp_h.out]; exact hlt)
    have hkI : (k : Int) < (p : Int) := by omega
    have htk : m.take (k + 1) = m.take k ++ [x] := by rw [List.take_add_one, hx]; rfl
    have hlx : l ++ m.take (k + 1) = (l ++ m.take k) ++ [x] := by rw [htk, List.append_assoc]
    obtain ⟨L, hL⟩ : ∃ L, L = l ++ m.take k := ⟨_, rfl⟩
    rw [← hL] at hI hlx
    have hC := fun (W : World) => t_within_any x 0 ((n : Int) - 1) W
    have wn : IntKind.i64.wrap ((n : Int) - 1) = (n : Int) - 1 := IntWalk.i64_in _ (by omega)
    obtain ⟨⟨c0, c1, c2, c3⟩, f0, f1, f2, f3⟩ := t_box4 hI.hg
    by_cases hin : t_inB x 0 ((n : Int) - 1) = true
    · have hb : 0 ≤ x ∧ x ≤ (n : Int) - 1 := of_decide_eq_true hin
      obtain ⟨q, rfl⟩ : ∃ q : Nat, x = (q : Int) := ⟨x.toNat, by omega⟩
      have hqn : q < n := by omega
      simp only [hin] at hC
      have hinL : inW n (L ++ [(q : Int)]) = inW n L := by rw [inW_snoc, hin, Bool.and_true]
      obtain ⟨gd, hgd, hgb, hgc, hgf⟩ := Sl.cell hI.hse (bls_get (seenM_get hqn))
      obtain rfl := Option.some.inj hgd
      obtain ⟨s0, s1⟩ := boxg1 hI.hsl
      have hqI : (q : Int) < (n : Int) := by omega
      have hq0 : (0 : Int) ≤ (q : Int) := by omega
      by_cases hc : L.contains (q : Int) = true
      · have hI2 : GI n gB bG bS bC Gs V1 V2 V3 (l ++ m.take (k + 1)) wr := by
         rw [hlx]
         exact ⟨hI.hg, by rw [hinL]; exact hI.hgd, hI.hsl, by rw [seenM_step hqn hc]; exact hI.hct, by rw [seenM_old hqn hc]; exact hI.hse⟩
        rw [hc] at hgc
        clear hI hin hb hx htk hlx hL hinL hgf hgd; have hC_h := lH hC; have hI2_h := lH hI2; have hkp_h := lH hkp; have hc_h := lH hc; clear hC hI2 hkp hc
        go_wp2_with (fail)
        refine (hC_h.out _).mono ?_
        rintro e w1 ⟨rfl, rfl⟩
        go_wp2_with (fail)
        go_roundw
        case rel => exact ⟨k + 1, by omega, by go_num, hI2_h.out, hkp_h.out⟩
        case measure => simp [intOf]; omega
      · have hc' : L.contains (q : Int) = false := by simpa using hc
        rw [hc'] at hgc
        have hfq := hgf q
        obtain ⟨W1, hW1⟩ : ∃ W1, W1 = wr.setCell (Gs.add q) (.bool true) := ⟨_, rfl⟩
        have hset := Sl.set hI.hse rfl q (.bool true) (by simp [bls]; omega)
        rw [bls_set, ← seenM_in hqn, ← hW1] at hset
        have hk1 : Keeps (· = Gs.block) wr W1 := by rw [hW1]; exact (Keeps.refl (fun b => b = Gs.block) wr).setCell (p := Gs.add q) (by rw [block_of_add]) _
        have g1 := t_box_keeps hI.hg hk1 h4.2.2
        have g2 := t_box_keeps hI.hgd hk1 h2
        have g3 := t_box_keeps hI.hsl hk1 h5.2.2
        have g4 := t_box_keeps hI.hct hk1 h3
        obtain ⟨t0, t1⟩ := boxg1 g4
        obtain ⟨W2, hW2⟩ : ∃ W2, W2 = W1.setCell ⟨bC, 0, none⟩ (.int .i64 ((seenC n L : Int) + 1)) := ⟨_, rfl⟩
        obtain ⟨n4, hk2⟩ := box_set g4 0 (.int .i64 ((seenC n L : Int) + 1))
        rw [← hW2] at n4 hk2
        have n4' : W2.heap[bC]? = some (.cells #[.int .i64 ((seenC n L : Int) + 1)] tInt) := n4
        have hcle := seenC_le n L
        have hI2 : GI n gB bG bS bC Gs V1 V2 V3 (l ++ m.take (k + 1)) W2 := by
         rw [hlx]
         refine ⟨t_box_keeps g1 hk2 h4.2.1, by rw [hinL]; exact t_box_keeps g2 hk2 h1, t_box_keeps g3 hk2 h5.2.1, ?_, hset.keeps hk2 (fun b hb e => by simp at hb; omega)⟩
         rw [seenC_new hqn hc', show ((seenC n L + 1 : Nat) : Int) = (seenC n L : Int) + 1 by omega]; exact n4'
        have hkf : Keeps (· ∈ [bG, bC, Gs.block]) W W2 := (hkp.trans (hk1.mono fun b _ hb => by simp [hb])).trans (hk2.mono fun b _ hb => by simp [hb])
        have hsz : (seenC n L : Int) ≤ 100 := by omega
        have hsz0 : (0 : Int) ≤ (seenC n L : Int) := by omega
        clear hI hin hb hx htk hlx hL hinL hgf hgd hset hk1 g1 g2 g3 g4 n4 hk2 n4' hkp hcle; have hC_h := lH hC; have hI2_h := lH hI2; have hc_h := lH hc; have hc'_h := lH hc'; have hkf_h := lH hkf; clear hC hI2 hc hc' hkf
        go_wp2_with (fail)
        refine (hC_h.out _).mono ?_
        rintro e w1 ⟨rfl, rfl⟩
        go_upto_region 7 with (fail)
        rw [← hW1]
        clear hW1
        go_upto_region 8 with (fail)
        rw [← hW2]
        clear hW2
        go_wp2_with (fail)
        go_roundw
        case rel => exact ⟨k + 1, by omega, by go_num, hI2_h.out, hkf_h.out⟩
        case measure => simp [intOf]; omega
    · have hin' : t_inB x 0 ((n : Int) - 1) = false := by simpa using hin
      simp only [hin'] at hC
      have hinL : inW n (L ++ [x]) = false := by rw [inW_snoc, hin', Bool.and_false]
      have hxo : ¬ (0 ≤ x ∧ x < (n : Int)) := fun hh => by
       rw [show t_inB x 0 ((n : Int) - 1) = true from decide_eq_true ⟨hh.1, by omega⟩] at hin'; cases hin'
      obtain ⟨s0, s1⟩ := boxg1 hI.hgd
      obtain ⟨W1, hW1⟩ : ∃ W1, W1 = wr.setCell ⟨bG, 0, none⟩ (.bool false) := ⟨_, rfl⟩
      obtain ⟨n2, hk1⟩ := box_set hI.hgd 0 (.bool false)
      rw [← hW1] at n2 hk1
      have n2' : W1.heap[bG]? = some (.cells #[.bool false] tBool) := n2
      have hI2 : GI n gB bG bS bC Gs V1 V2 V3 (l ++ m.take (k + 1)) W1 := by
       rw [hlx]
       refine ⟨t_box_keeps hI.hg hk1 h4.1, by rw [hinL]; exact n2', t_box_keeps hI.hsl hk1 h5.1, ?_, ?_⟩
       · have e : seenC n (L ++ [x]) = seenC n L := by unfold seenC; rw [seenM_out hxo]
         rw [e]; exact t_box_keeps hI.hct hk1 (fun e => h1 e.symm)
       · rw [seenM_out hxo]; exact hI.hse.keeps hk1 (fun b hb e => by simp at hb; omega)
      have hkf : Keeps (· ∈ [bG, bC, Gs.block]) W W1 := hkp.trans (hk1.mono fun b _ hb => by simp [hb])
      clear hI hin hin' hx htk hlx hL hinL n2 hk1 n2' hkp; have hC_h := lH hC; have hI2_h := lH hI2; have hkf_h := lH hkf; have hxo_h := lH hxo; clear hC hI2 hkf hxo
      go_wp2_with (fail)
      refine (hC_h.out _).mono ?_
      rintro e w1 ⟨rfl, rfl⟩
      go_upto_region 8 with (fail)
      rw [← hW1]
      clear hW1
      go_wp2_with (fail)
      go_roundw
      case rel => exact ⟨k + 1, by omega, by go_num, hI2_h.out, hkf_h.out⟩
      case measure => simp [intOf]; omega
  · obtain rfl : p = k := by omega
    rw [List.take_of_length_le (by rw [← hp_h.out]; exact Nat.le_refl _)] at hI
    have hI_h := lH hI; have hkp_h := lH hkp; clear hI hkp
    go_wp2_with (fail)
    go_end0
    exact ⟨rfl, hI_h.out, hkp_h.out⟩
theorem egH_eg (k v : Int) (l m : List Int) : egH k v l.length m.length = egB (k, v, l, m) := rfl
theorem madeSeen (n : Nat) : bls (List.replicate n false) = bls (seenM n []) := by rw [seenM_nil]
set_option maxRecDepth 100000 in
set_option maxHeartbeats 8000000 in
theorem isGraph_any {v : Value} {g : Gr} (w : World) (h : RdGr w v g) (ok : OkG g) :
  Calls Tryd.prog 50 #[v] w fun e w' => e = .returned (.bool (grB g)) ∧ Below w.heap.size w w' := by
 have hG0 := h
 obtain ⟨A, c, hs, ⟨B, b, s⟩, ⟨C, d, t⟩, rfl, e1, e2, e3, hE, hRa, hRb⟩ := h
 obtain ⟨z, es, s0, t0⟩ := g
 have a1 : es = hs.map egOf := e1
 have a2 : s = s0 := e2
 have a3 : t = t0 := e3
 subst a2 a3
 have hok := ok
 have hlen1 : es.length ≤ 1048576 := ok.1.1
 have hlen2 : s.length ≤ 1048576 := ok.1.2.1
 have hlen3 : t.length ≤ 1048576 := ok.1.2.2
 have hlE : ∀ x, x ∈ hs → x.2.2.1.2.2.length ≤ 1048576 ∧ x.2.2.2.2.2.length ≤ 1048576 := fun x hx => ok.2.1 _ (by show egOf x ∈ es; rw [a1]; exact List.mem_map_of_mem hx)
 obtain ⟨D, hD⟩ : ∃ D, D = grB (z, es, s, t) := ⟨_, rfl⟩
 have hDD := hD
 unfold grB at hDD
 simp only [Bool.and_assoc] at hDD
 rw [← hD]
 obtain ⟨m, hm⟩ : ∃ m, m = hs.length := ⟨_, rfl⟩
 obtain ⟨p, hp⟩ : ∃ p, p = s.length := ⟨_, rfl⟩
 obtain ⟨r, hr⟩ : ∃ r, r = t.length := ⟨_, rfl⟩
 have hmes : es.length = m := by rw [a1, List.length_map, hm]
 have hRa0 : RdI w B s := hRa
 have hRb0 : RdI w C t := hRb
 rw [hmes, ← hp, ← hr] at hDD
 change RdGr w (.agg #[.int .i64 z, .slice A hs.length c, .slice B s.length b, .slice C t.length d]) (z, es, s, t) at hG0
 rw [← hm, ← hp, ← hr] at hG0
 show Calls Tryd.prog _ #[.agg #[.int .i64 z, .slice A hs.length c, .slice B s.length b, .slice C t.length d]] w _
 rw [← hm, ← hp, ← hr]
 obtain ⟨W, hW, bW, k0⟩ := (⟨_, rfl, t_below_alloc _ _, heap_alloc_new _ _⟩ : ∃ W, W = w.alloc (.cells #[.int .i64 z, .slice A m c, .slice B p b, .slice C r d] tGr) ∧ Below w.heap.size w W ∧ W.heap[w.heap.size]? = some (.cells #[.int .i64 z, .slice A m c, .slice B p b, .slice C r d] tGr))
 obtain ⟨⟨c0, c1, c2, c3⟩, f0, f1, f2, f3⟩ := t_box4 k0
 have hI := fun (W : World) => t_within_any z 0 100 W
 clear hRa hRb ok e1 e2 e3 hRa0 hRb0
 by_cases h0 : t_inB z 0 100 = true
 case neg =>
  have h0' : t_inB z 0 100 = false := by simpa using h0
  obtain rfl : D = false := by rw [hDD, h0']; rfl
  simp only [h0'] at hI
  clear h0 h0'; have hI_h := lH hI; have k0_h := lH k0; have bW_h := lH bW; have hm_h := lH hm; have hp_h := lH hp; have hr_h := lH hr; have hD_h := lH hD; have hDD_h := lH hDD; have hmes_h := lH hmes; have hlE_h := lH hlE; have hok_h := lH hok; have a1_h := lH a1; have hE_h := lH hE; have hG0_h := lH hG0; clear hI k0 bW hm hp hr hD hDD hmes hlE hok a1 hE hG0
  go_enter Tryd.func50, Tryd.ntmps50
  go_upto_region 1 with (fail)
  rw [← hW]
  clear hW
  go_wp2_with (fail)
  refine (hI_h.out _).mono ?_
  rintro e w1 ⟨rfl, rfl⟩
  go_wp2_with (fail)
  go_ret
  exact ⟨rfl, bW_h.out⟩
 have hz : 0 ≤ z ∧ z ≤ 100 := of_decide_eq_true h0
 simp only [h0] at hI
 rw [h0, Bool.true_and] at hDD
 clear h0
 have wz : IntKind.i64.wrap (z - 1) = z - 1 := IntWalk.i64_in _ (by omega)
 by_cases h1 : m ≤ 60
 case neg =>
  obtain rfl : D = false := by rw [hDD, decide_eq_false h1]; rfl
  have h1' : ¬ ((m : Int) ≤ 60) := by omega
  have hI_h := lH hI; have k0_h := lH k0; have bW_h := lH bW; have hm_h := lH hm; have hp_h := lH hp; have hr_h := lH hr; have hD_h := lH hD; have hDD_h := lH hDD; have hmes_h := lH hmes; have hlE_h := lH hlE; have hok_h := lH hok; have a1_h := lH a1; have hE_h := lH hE; have hG0_h := lH hG0; clear hI k0 bW hm hp hr hD hDD hmes hlE hok a1 hE hG0
  go_enter Tryd.func50, Tryd.ntmps50
  go_upto_region 1 with (fail)
  rw [← hW]
  clear hW
  go_wp2_with (fail)
  refine (hI_h.out _).mono ?_
  rintro e w1 ⟨rfl, rfl⟩
  go_wp2_with (fail)
  go_ret
  exact ⟨rfl, bW_h.out⟩
 rw [decide_eq_true h1, Bool.true_and] at hDD
 have h1' : (m : Int) ≤ 60 := by omega
 by_cases h2 : p ≤ 12
 case neg =>
  obtain rfl : D = false := by rw [hDD, decide_eq_false h2]; rfl
  have h2' : ¬ ((p : Int) ≤ 12) := by omega
  have hI_h := lH hI; have k0_h := lH k0; have bW_h := lH bW; have hm_h := lH hm; have hp_h := lH hp; have hr_h := lH hr; have hD_h := lH hD; have hDD_h := lH hDD; have hmes_h := lH hmes; have hlE_h := lH hlE; have hok_h := lH hok; have a1_h := lH a1; have hE_h := lH hE; have hG0_h := lH hG0; clear hI k0 bW hm hp hr hD hDD hmes hlE hok a1 hE hG0
  go_enter Tryd.func50, Tryd.ntmps50
  go_upto_region 1 with (fail)
  rw [← hW]
  clear hW
  go_wp2_with (fail)
  refine (hI_h.out _).mono ?_
  rintro e w1 ⟨rfl, rfl⟩
  go_wp2_with (fail)
  go_ret
  exact ⟨rfl, bW_h.out⟩
 rw [decide_eq_true h2, Bool.true_and] at hDD
 have h2' : (p : Int) ≤ 12 := by omega
 by_cases h3 : r ≤ 12
 case neg =>
  obtain rfl : D = false := by rw [hDD, decide_eq_false h3]; rfl
  have h3' : ¬ ((r : Int) ≤ 12) := by omega
  have hI_h := lH hI; have k0_h := lH k0; have bW_h := lH bW; have hm_h := lH hm; have hp_h := lH hp; have hr_h := lH hr; have hD_h := lH hD; have hDD_h := lH hDD; have hmes_h := lH hmes; have hlE_h := lH hlE; have hok_h := lH hok; have a1_h := lH a1; have hE_h := lH hE; have hG0_h := lH hG0; clear hI k0 bW hm hp hr hD hDD hmes hlE hok a1 hE hG0
  go_enter Tryd.func50, Tryd.ntmps50
  go_upto_region 1 with (fail)
  rw [← hW]
  clear hW
  go_wp2_with (fail)
  refine (hI_h.out _).mono ?_
  rintro e w1 ⟨rfl, rfl⟩
  go_wp2_with (fail)
  go_ret
  exact ⟨rfl, bW_h.out⟩
 rw [decide_eq_true h3, Bool.true_and] at hDD
 have h3' : (r : Int) ≤ 12 := by omega
 have hI_h := lH hI; have k0_h := lH k0; have bW_h := lH bW; have hm_h := lH hm; have hp_h := lH hp; have hr_h := lH hr; have hD_h := lH hD; have hDD_h := lH hDD; have hmes_h := lH hmes; have hlE_h := lH hlE; have hok_h := lH hok; have a1_h := lH a1; have hE_h := lH hE; have hG0_h := lH hG0; clear hI k0 bW hm hp hr hD hDD hmes hlE hok a1 hE hG0
 go_enter Tryd.func50, Tryd.ntmps50
 go_upto_region 1 with (fail)
 rw [← hW]
 clear hW
 go_wp2_with (fail)
 refine (hI_h.out _).mono ?_
 rintro e w1 ⟨rfl, rfl⟩
 obtain ⟨W, rfl⟩ : ∃ x, x = w1 := ⟨_, rfl⟩
 go_wp2_with (fail)
 clear c0 c1 c2 c3 f0 f1 f2 f3
 go_loopw [33] (fun i wr => ∃ k : Nat, k ≤ m ∧ i = .int .i64 k ∧ (es.take k).all egB = true ∧ Below W.heap.size W wr) (fun i _ => m - (intOf i).toNat)
 case atStart => exact ⟨0, Nat.zero_le _, rfl, by simp, Below.refl _ _⟩
 case round =>
  obtain ⟨k, hk, rfl, hall, hB1⟩ := hrel
  have kr := t_box_below k0_h.out hB1
  have hBw := below_trans bW_h.out hB1 bW_h.out.size
  by_cases hlt : k < m
  · obtain ⟨ad, κ, vv, B1, b1, s1, C1, b2, t1, rfl, hn, ⟨d0, d1, d2, d3⟩, hr1, hr2⟩ := (hE_h.out.below hBw).at_ (j := k) (by rw [← hm_h.out]; exact hlt)
    have hek : es[k]? = some (κ, vv, s1, t1) := by rw [a1_h.out, List.getElem?_map, hn]; rfl
    have hln := hlE_h.out _ (List.mem_of_getElem? hn)
    obtain ⟨wo, rfl⟩ : ∃ x, x = wr := ⟨_, rfl⟩
    have hC := fun (W' : World) (_ : Below wo.heap.size wo W') => isEdge_any κ vv B1 C1 b1 b2 s1.length t1.length W'
    obtain ⟨p1, hp1⟩ : ∃ p1, p1 = s1.length := ⟨_, rfl⟩
    obtain ⟨r1, hr1'⟩ : ∃ r1, r1 = t1.length := ⟨_, rfl⟩
    simp only [egH_eg] at hC
    simp only [← hp1, ← hr1'] at hC
    rw [← hp1] at d2
    rw [← hr1'] at d3
    obtain ⟨W6, hW6, bW6, k6⟩ := (⟨_, rfl, t_below_alloc _ _, heap_alloc_new _ _⟩ : ∃ W, W = wo.alloc (.cells #[.int .i64 κ, .int .i64 vv, .slice B1 p1 b1, .slice C1 r1 b2] tEd) ∧ Below wo.heap.size wo W ∧ W.heap[wo.heap.size]? = some (.cells #[.int .i64 κ, .int .i64 vv, .slice B1 p1 b1, .slice C1 r1 b2] tEd))
    have hCW := hC W6 bW6
    have hkI : (k : Int) < (m : Int) := by omega
    have kr6 := t_box_below kr bW6
    have hBW6 := below_trans hB1 bW6 hB1.size
    obtain ⟨⟨c0, c1, c2, c3⟩, f0, f1, f2, f3⟩ := t_box4 k6
    obtain ⟨⟨y0, y1, y2, y3⟩, g0, g1, g2, g3⟩ := t_box4 kr6
    obtain ⟨H, hH⟩ : ∃ H, H = egB (κ, vv, s1, t1) := ⟨_, rfl⟩
    rw [← hH] at hCW
    have hr1_h := lH hr1'; clear hr1' hr1 hr2 hn hln hC kr hB1 kr6; have hCW_h := lH hCW; have hek_h := lH hek; have hall_h := lH hall; have hp1_h := lH hp1; have bW6_h := lH bW6; have k6_h := lH k6; have hBW6_h := lH hBW6; have hBw_h := lH hBw; have hH_h := lH hH; clear hCW hek hall hp1 bW6 k6 hBW6 hBw hH
    go_upto_region 6 with (fail)
    rw [← hW6]
    clear hW6
    go_wp2_with (fail)
    refine (hCW_h.out).mono ?_
    rintro e w7 ⟨rfl, hb7⟩
    have hB8 := below_trans hBW6_h.out hb7 hBW6_h.out.size
    clear hb7 c0 c1 c2 c3 f0 f1 f2 f3 y0 y1 y2 y3 g0 g1 g2 g3 d0 d1 d2 d3
    cases H
    · have hf : D = false := by
       rw [hDD_h.out, show es.all egB = false from ?_]; rfl
       rw [Bool.eq_false_iff]
       intro hh
       have := List.all_eq_true.1 hh _ (List.mem_of_getElem? hek_h.out)
       rw [← hH_h.out] at this; cases this
      subst hf
      have hBz := below_trans bW_h.out hB8 bW_h.out.size
      have hB8_h := lH hB8; have hBz_h := lH hBz; clear hB8 hBz
      go_wp2_with (fail)
      go_ret
      exact ⟨rfl, hBz_h.out⟩
    · have hall2 : (es.take (k + 1)).all egB = true := by rw [List.take_add_one, hek_h.out, List.all_append, hall_h.out]; simp [← hH_h.out]
      have hB8_h := lH hB8; have hall2_h := lH hall2; clear hB8 hall2
      go_wp2_with (fail)
      go_roundw
      case rel => exact ⟨k + 1, by omega, by go_num, hall2_h.out, hB8_h.out⟩
      case measure => simp [intOf]; omega
  · obtain rfl : m = k := by omega
    rw [List.take_of_length_le (by rw [hmes_h.out]; exact Nat.le_refl _)] at hall
    have hD3 := hDD_h.out
    rw [hall, Bool.true_and] at hD3
    obtain ⟨n, rfl⟩ : ∃ n : Nat, z = (n : Int) := ⟨z.toNat, by omega⟩
    obtain ⟨⟨y0, y1, y2, y3⟩, g0, g1, g2, g3⟩ := t_box4 kr
    have hn100 : n ≤ 100 := by omega
    clear hall hDD_h hB1; have hD3_h := lH hD3; have kr_h := lH kr; have hBw_h := lH hBw; clear hD3 kr hBw
    go_upto_region 10 with (at_make; refine wpList_make_Sl _ rfl _ _ _ rfl tBool Tryd.underlying81 info_bool n n rfl rfl rfl rfl (Nat.le_refl _) (by omega) (by unfold maxLen; omega) ?_; intro Gs w2 hs2 hG2 hb2)
    have hsn : Sl w2 tBool 1 (some Gs) n n (bls (seenM n [])) := by rw [← madeSeen, ← madeBls]; exact hs2
    have hB2 := below_trans hBw_h.out hb2 hBw_h.out.size
    have kr2 := t_box_below kr_h.out hb2
    have hGl : Gs.block < w2.heap.size := hsn.lt Gs.block (by simp)
    obtain ⟨W3, hW3, bW3, j0, j1, j2⟩ := allocs3 w2 (.cells #[.slice (some Gs) n n] tBools) (.cells #[.bool true] tBool) (.cells #[.int .i64 0] tInt)
    have hB3 := below_trans hB2 bW3 hB2.size
    have hws := hBw_h.out.size
    have hw1 := t_box_lt kr_h.out
    have hI0 : GI n w.heap.size (w2.heap.size + 1) w2.heap.size (w2.heap.size + 1 + 1) Gs (.slice A m c) (.slice B p b) (.slice C r d) [] W3 :=
     ⟨t_box_below kr2 bW3, j1, j0, by
      have e : seenC n [] = 0 := by unfold seenC; rw [seenM_nil]; simp [List.count_replicate]
      rw [e]; exact j2, hsn.below bW3⟩
    have hLI := lists_any w hG0_h.out hok_h.out 61 #[.pointer (some ⟨w.heap.size, 0, none⟩), .pointer (some ⟨w2.heap.size + 1, 0, none⟩), .pointer (some ⟨w2.heap.size, 0, none⟩), .pointer (some ⟨w2.heap.size + 1 + 1, 0, none⟩)] (fun _ _ => rfl)
     (fun l W => GI n w.heap.size (w2.heap.size + 1) w2.heap.size (w2.heap.size + 1 + 1) Gs (.slice A m c) (.slice B p b) (.slice C r d) l W) [w2.heap.size + 1, w2.heap.size + 1 + 1, Gs.block]
     (fun x hx => by simp at hx; omega) (fun l W W' h hb => h.below hb)
     (fun l B' c' m' W' hI hm' _ hml => isGraphC_any n w.heap.size (w2.heap.size + 1) w2.heap.size (w2.heap.size + 1 + 1) Gs (.slice A m c) (.slice B p b) (.slice C r d) l B' c' m' W' hn100 hml (by omega) (by omega) (by omega) ⟨by omega, by omega, by omega⟩ ⟨by omega, by omega, by omega⟩ hI hm')
     W3 hI0 hB3 (fun x hx => by have := t_box_lt j2; simp at hx; omega)
    have hmf : ∀ (fn : Fn) (first cap : Array Value) (w : World), (Instr.makeFunc fn first cap).run Tryd.prog w = .ok (.func fn first cap) w := fun _ _ _ _ => rfl
    have kr3 := t_box_below kr2 bW3
    obtain ⟨L, hL⟩ : ∃ L, L = t_allW ((n : Int), es, s, t) := ⟨_, rfl⟩
    have hsf := seenC_full n L
    have hD5 : D = (inW (n : Int) L && decide (seenC n L = n)) := by rw [hD3_h.out, hsf, hL]; rfl
    rw [← hL] at hLI
    have hSge : ∀ x, x ∈ [w2.heap.size + 1, w2.heap.size + 1 + 1, Gs.block] → w.heap.size ≤ x := fun x hx => by simp at hx; omega
    clear hs2 hsn hB2 kr2 hI0 hsf y0 y1 y2 y3 g0 g1 g2 g3 j0 j1 j2
    obtain ⟨⟨y0, y1, y2, y3⟩, g0, g1, g2, g3⟩ := t_box4 kr3
    have hB3_h := lH hB3; have kr3_h := lH kr3; have hLI_h := lH hLI; have hL_h := lH hL; have hD5_h := lH hD5; have bW3_h := lH bW3; have hSge_h := lH hSge; clear hB3 kr3 hLI hL hD5 bW3 hSge
    rw [← hW3]
    clear hW3
    go_wp2_with (fail)
    refine (hLI_h.out).mono ?_
    rintro e w9 ⟨rfl, hI9, hk9⟩
    have hB9 := below_keeps hB3_h.out hk9 hB3_h.out.size hSge_h.out
    clear y0 y1 y2 y3 g0 g1 g2 g3 hmf
    obtain ⟨⟨y0, y1, y2, y3⟩, g0, g1, g2, g3⟩ := t_box4 hI9.hg
    obtain ⟨z0, z1⟩ := boxg1 hI9.hgd
    obtain ⟨z2, z3⟩ := boxg1 hI9.hct
    have hD6 := hD5_h.out
    clear hI9 hk9
    cases hiw : inW (n : Int) L
    · rw [hiw] at hD6 z0
      obtain rfl : D = false := hD6
      have hB9_h := lH hB9; have hiw_h := lH hiw; clear hB9 hiw
      go_wp2_with (fail)
      go_ret
      exact ⟨rfl, hB9_h.out⟩
    · rw [hiw, Bool.true_and] at hD6
      rw [hiw] at z0
      obtain ⟨x, hx⟩ : ∃ x, x = seenC n L := ⟨_, rfl⟩
      rw [← hx] at z2 hD6
      by_cases hxn : x = n
      · subst hxn
        obtain rfl : D = true := by rw [hD6]; exact decide_eq_true rfl
        have hbe : ((x : Int) == (x : Int)) = true := by simp
        clear hD6; have hB9_h := lH hB9; have hiw_h := lH hiw; have hx_h := lH hx; clear hB9 hiw hx
        go_wp2_with (fail)
        go_ret
        exact ⟨rfl, hB9_h.out⟩
      · obtain rfl : D = false := by rw [hD6]; exact decide_eq_false hxn
        have hbe : ((x : Int) == (n : Int)) = false := by rw [beq_eq_false_iff_ne]; omega
        clear hD6; have hB9_h := lH hB9; have hiw_h := lH hiw; have hx_h := lH hx; clear hB9 hiw hx
        go_wp2_with (fail)
        go_ret
        exact ⟨rfl, hB9_h.out⟩
def ovB (p : Int) (e : Eg) : Bool := !(hvB e.1 && decide (p ≤ e.2.1))
theorem gOver_eq {p : Int} {g : Gr} : gOverB p g = (fieldB p && (grB g && g.2.1.all (ovB p))) := by
 unfold gOverB
 cases hf : fieldB p
 · rfl
 · have hpb := fieldB_bounds hf
   cases hg : grB g
   · rfl
   · simp only [Bool.true_and]
     have he : g.2.1.all egB = true := by
      unfold grB at hg
      simp only [Bool.and_eq_true] at hg
      exact hg.2.1
     have h : ∀ e, e ∈ g.2.1 → decide (e.2.1 < p) = ovB p e := fun e hm => by
      have h1 := List.all_eq_true.1 he e hm
      unfold egB gvB at h1
      simp only [Bool.and_eq_true] at h1
      have h2 := h1.2.1
      unfold ovB
      cases hv : hvB e.1
      · rw [hv] at h2
        simp at h2
        rw [h2]
        simp
        omega
      · simp only [Bool.true_and]
        by_cases hp : e.2.1 < p
        · rw [decide_eq_true hp, decide_eq_false (by omega)]; rfl
        · rw [decide_eq_false hp, decide_eq_true (by omega)]; rfl
     rw [Bool.eq_iff_iff, List.all_eq_true, List.all_eq_true]
     exact ⟨fun hh e hm => by rw [← h e hm]; exact hh e hm, fun hh e hm => by rw [h e hm]; exact hh e hm⟩
set_option maxRecDepth 100000 in
set_option maxHeartbeats 4000000 in
theorem isGraphOver_any (p : Int) {v : Value} {g : Gr} (w : World) (h : RdGr w v g) (ok : OkG g) (hT : Tab w) :
  Calls Tryd.prog 35 #[.int .i64 p, v] w fun e w' => e = .returned (.bool (gOverB p g)) ∧ Below w.heap.size w w' := by
 rw [gOver_eq]
 obtain ⟨A, c, hs, ⟨B, b, s⟩, ⟨C, d, t⟩, rfl, e1, e2, e3, hE, hRa, hRb⟩ := id h
 obtain ⟨z, es, s0, t0⟩ := g
 have a1 : es = hs.map egOf := e1
 have a2 : s = s0 := e2
 have a3 : t = t0 := e3
 subst a2 a3
 clear e1 e2 e3
 obtain ⟨m, hm⟩ : ∃ m, m = hs.length := ⟨_, rfl⟩
 have hmes : es.length = m := by rw [a1, List.length_map, hm]
 have hm20 : m ≤ 1048576 := by rw [← hmes]; exact ok.1.1
 change RdGr w (.agg #[.int .i64 z, .slice A hs.length c, .slice B s.length b, .slice C t.length d]) (z, es, s, t) at h
 show Calls Tryd.prog _ #[.int .i64 p, .agg #[.int .i64 z, .slice A hs.length c, .slice B s.length b, .slice C t.length d]] w _
 rw [← hm] at h ⊢
 obtain ⟨W, hW, bW, k0⟩ := (⟨_, rfl, below_alloc _ _, heap_alloc_new _ _⟩ : ∃ W, W = w.alloc (.cells #[.int .i64 z, .slice A m c, .slice B s.length b, .slice C t.length d] tGr) ∧ Below w.heap.size w W ∧ W.heap[w.heap.size]? = some (.cells #[.int .i64 z, .slice A m c, .slice B s.length b, .slice C t.length d] tGr))
 obtain ⟨⟨c0, c1, c2, c3⟩, f0, f1, f2, f3⟩ := box4 k0
 have hV := fun W' (hb : Below w.heap.size w W') => isGraph_any W' (h.below hb) ok
 have hG := isField_any p W (hT.below bW hT.lt)
 obtain ⟨D, hD⟩ : ∃ D, D = (fieldB p && (grB (z, es, s, t) && es.all (ovB p))) := ⟨_, rfl⟩
 show Calls Tryd.prog _ _ w fun e w' => e = .returned (.bool (fieldB p && (grB (z, es, s, t) && es.all (ovB p)))) ∧ _
 rw [← hD]
 clear h hT
 by_cases hf : fieldB p = true
 case neg =>
  have hf' : fieldB p = false := by simpa using hf
  simp only [hf'] at hG
  rw [hf', Bool.false_and] at hD
  subst hD
  clear hf hf' ok hV; have hG_h := lH hG; have k0_h := lH k0; have bW_h := lH bW; have hm_h := lH hm; have hmes_h := lH hmes; have a1_h := lH a1; have hE_h := lH hE; clear hG k0 bW hm hmes a1 hE
  go_enter Tryd.func35, Tryd.ntmps35
  go_upto_region 1 with (fail)
  rw [← hW]
  clear hW
  go_wp2_with (fail)
  refine (hG_h.out).mono ?_
  rintro e w' ⟨rfl, hw'⟩
  subst hw'
  go_wp2_with (fail)
  go_ret
  exact ⟨rfl, bW_h.out⟩
 simp only [hf] at hG
 rw [hf, Bool.true_and] at hD
 by_cases hg : grB (z, es, s, t) = true
 case neg =>
  have hg' : grB (z, es, s, t) = false := by simpa using hg
  simp only [hg'] at hV
  rw [hg', Bool.false_and] at hD
  subst hD
  clear hf hg hg' ok; have hV_h := lH hV; have hG_h := lH hG; have k0_h := lH k0; have bW_h := lH bW; have hm_h := lH hm; have hmes_h := lH hmes; have a1_h := lH a1; have hE_h := lH hE; clear hV hG k0 bW hm hmes a1 hE
  go_enter Tryd.func35, Tryd.ntmps35
  go_upto_region 1 with (fail)
  rw [← hW]
  clear hW
  go_wp2_with (fail)
  refine (hG_h.out).mono ?_
  rintro e w' ⟨rfl, hw'⟩
  subst hw'
  go_wp2_with (fail)
  refine (hV_h.out _ bW_h.out).mono ?_
  rintro e wq ⟨rfl, hb1⟩
  go_wp2_with (fail)
  go_ret
  exact ⟨rfl, below_trans bW_h.out hb1 bW_h.out.size⟩
 simp only [hg] at hV
 rw [hg, Bool.true_and] at hD
 have hDD : (es.all (ovB p) = true) → D = true := fun h => by rw [hD]; exact h
 have hDN : (es.all (ovB p) = false) → D = false := fun h => by rw [hD]; exact h
 clear hf hg hD ok; have hV_h := lH hV; have hG_h := lH hG; have hm_h := lH hm; have hmes_h := lH hmes; have a1_h := lH a1; have hE_h := lH hE; have k0_h := lH k0; have bW_h := lH bW; have hDD_h := lH hDD; have hDN_h := lH hDN; clear hV hG hm hmes a1 hE k0 bW hDD hDN
 go_enter Tryd.func35, Tryd.ntmps35
 go_upto_region 1 with (fail)
 rw [← hW]
 clear hW
 go_wp2_with (fail)
 refine (hG_h.out).mono ?_
 rintro e w' ⟨rfl, hw'⟩
 subst hw'
 go_wp2_with (fail)
 refine (hV_h.out _ bW_h.out).mono ?_
 rintro e wq ⟨rfl, hb1⟩
 clear c0 c1 c2 c3 f0 f1 f2 f3
 have hbq := below_trans bW_h.out hb1 bW_h.out.size
 have hE := hE_h.out.below hbq
 replace k0_h := lH (box_below k0_h.out hb1)
 clear hb1; have hbq_h := lH hbq; have hE_h := lH hE; clear hbq hE
 obtain ⟨⟨c0, c1, c2, c3⟩, f0, f1, f2, f3⟩ := box4 k0_h.out
 go_wp2_with (fail)
 clear c0 c1 c2 c3 f0 f1 f2 f3
 go_loopw [18] (fun i wr => ∃ k : Nat, k ≤ m ∧ i = .int .i64 k ∧ Below wq.heap.size wq wr ∧ ∀ (j : Nat) (e : Eg), es[j]? = some e → j < k → (ovB p) e = true) (fun i _ => m - (intOf i).toNat)
 case atStart => exact ⟨0, Nat.zero_le _, rfl, Below.refl _ _, fun j e _ h => absurd h (Nat.not_lt_zero j)⟩
 case round =>
  obtain ⟨k, hk, rfl, hbr, hall⟩ := hrel
  obtain ⟨wo, rfl⟩ : ∃ x, x = wr := ⟨_, rfl⟩
  by_cases hlt : k < m
  · obtain ⟨ad, κ, v, B', b', l, C', c', mm, rfl, hx, ⟨d0, d1, d2, d3⟩, _, _⟩ := (hE_h.out.below hbr).at_ (j := k) (by rw [← hm_h.out]; exact hlt)
    have hxe : es[k]? = some (κ, v, l, mm) := by rw [a1_h.out, List.getElem?_map, hx]; rfl
    have hkI : (k : Int) < (m : Int) := by omega
    have hbo := below_trans hbq_h.out hbr hbq_h.out.size
    obtain ⟨wN, hwN⟩ : ∃ wN, wN = wo.alloc (.cells #[.int .i64 κ, .int .i64 v, .slice B' l.length b', .slice C' mm.length c'] tEd) := ⟨_, rfl⟩
    have hbN : Below wo.heap.size wo wN := by rw [hwN]; exact below_alloc _ _
    have kN : wN.heap[wo.heap.size]? = some (.cells #[.int .i64 κ, .int .i64 v, .slice B' l.length b', .slice C' mm.length c'] tEd) := by rw [hwN]; exact heap_alloc_new _ _
    have hba := below_trans hbo hbN hbo.size
    have hbr2 := below_trans hbr hbN hbr.size
    have hnx : ∀ (e : Eg), (ovB p) (κ, v, l, mm) = true → es[k]? = some e → (ovB p) e = true := fun e he h2 => by rw [hxe] at h2; obtain rfl := Option.some.inj h2; exact he
    have hall2 : (ovB p) (κ, v, l, mm) = true → ∀ (j : Nat) (e : Eg), es[j]? = some e → j < k + 1 → (ovB p) e = true := fun he j e h2 h3 => by
     rcases Nat.lt_or_ge j k with h4 | h4
     · exact hall j e h2 h4
     · obtain rfl : j = k := by omega
       exact hnx e he h2
    obtain ⟨⟨e0, e1, e2, e3⟩, j0, j1, j2, j3⟩ := box4 kN
    have hCV := fun W' => hasValue_any κ W'
    clear hx hall hnx kN hbN
    cases hh : hvB κ
    · rw [hh] at hCV
      have hall3 := hall2 (by unfold ovB; simp [hh])
      clear hall2; have hall3_h := lH hall3; have hbr2_h := lH hbr2; have hbr_h := lH hbr; have hba_h := lH hba; have hbo_h := lH hbo; have hxe_h := lH hxe; have hCV_h := lH hCV; clear hall3 hbr2 hbr hba hbo hxe hCV
      go_upto_region 6 with (fail)
      rw [← hwN]
      clear hwN d0 d1 d2 d3
      go_wp2_with (fail)
      refine (hCV_h.out _).mono ?_
      rintro e w' ⟨rfl, hw'⟩
      subst hw'
      go_wp2_with (fail)
      go_roundw
      case rel => exact ⟨k + 1, by omega, by go_num, hbr2_h.out, hall3_h.out⟩
      case measure => simp [intOf]; omega
    · rw [hh] at hCV
      by_cases hv : p ≤ v
      · have hvn : v ≥ p := hv
        have hfin := hDN_h.out (allE_no hxe (by unfold ovB; simp [hh, hv]))
        clear hv
        subst hfin
        clear hall2; have hbr2_h := lH hbr2; have hbr_h := lH hbr; have hba_h := lH hba; have hbo_h := lH hbo; have hxe_h := lH hxe; have hCV_h := lH hCV; clear hbr2 hbr hba hbo hxe hCV
        go_upto_region 6 with (fail)
        rw [← hwN]
        clear hwN d0 d1 d2 d3
        go_wp2_with (fail)
        refine (hCV_h.out _).mono ?_
        rintro e w' ⟨rfl, hw'⟩
        subst hw'
        go_wp2_with (fail)
        go_ret
        exact ⟨rfl, hba_h.out⟩
      · have hvn : ¬ v ≥ p := hv
        have hall3 := hall2 (by unfold ovB; simp [hh, hv])
        clear hall2 hv; have hall3_h := lH hall3; have hbr2_h := lH hbr2; have hbr_h := lH hbr; have hba_h := lH hba; have hbo_h := lH hbo; have hxe_h := lH hxe; have hCV_h := lH hCV; clear hall3 hbr2 hbr hba hbo hxe hCV
        go_upto_region 6 with (fail)
        rw [← hwN]
        clear hwN d0 d1 d2 d3
        go_wp2_with (fail)
        refine (hCV_h.out _).mono ?_
        rintro e w' ⟨rfl, hw'⟩
        subst hw'
        go_wp2_with (fail)
        go_roundw
        case rel => exact ⟨k + 1, by omega, by go_num, hbr2_h.out, hall3_h.out⟩
        case measure => simp [intOf]; omega
  · obtain rfl : m = k := by omega
    have hyes := allE_yes (f := (ovB p)) (l := es) fun j e h1 h2 => hall j e h1 (by rw [← hmes_h.out]; exact h2)
    have hbo := below_trans hbq_h.out hbr hbq_h.out.size
    have hfin := hDD_h.out hyes
    subst hfin
    clear hall; have hbo_h := lH hbo; clear hbo
    go_wp2_with (fail)
    go_ret
    exact ⟨rfl, hbo_h.out⟩
set_option maxRecDepth 100000 in
set_option maxHeartbeats 4000000 in
theorem gStatic_any (p : Int) {v : Value} {g : Gr} (w : World) (h : RdGr w v g) (ok : OkG g) (hT : Tab w) :
  Calls Tryd.prog 19 #[v, .int .i64 p] w fun e w' => e = .returned (.bool (dnAskB p g)) ∧ Below w.heap.size w w' := by
 obtain ⟨A, c, hs, ⟨B, b, s⟩, ⟨C, d, t⟩, rfl, e1, e2, e3, hE, hRa, hRb⟩ := id h
 obtain ⟨z, es, s0, t0⟩ := g
 have a1 : es = hs.map egOf := e1
 have a2 : s = s0 := e2
 have a3 : t = t0 := e3
 subst a2 a3
 clear e1 e2 e3
 obtain ⟨m, hm⟩ : ∃ m, m = hs.length := ⟨_, rfl⟩
 have hmes : es.length = m := by rw [a1, List.length_map, hm]
 have hm20 : m ≤ 1048576 := by rw [← hmes]; exact ok.1.1
 change RdGr w (.agg #[.int .i64 z, .slice A hs.length c, .slice B s.length b, .slice C t.length d]) (z, es, s, t) at h
 show Calls Tryd.prog _ #[.agg #[.int .i64 z, .slice A hs.length c, .slice B s.length b, .slice C t.length d], .int .i64 p] w _
 rw [← hm] at h ⊢
 obtain ⟨W, hW, bW, k0⟩ := (⟨_, rfl, below_alloc _ _, heap_alloc_new _ _⟩ : ∃ W, W = w.alloc (.cells #[.int .i64 z, .slice A m c, .slice B s.length b, .slice C t.length d] tGr) ∧ Below w.heap.size w W ∧ W.heap[w.heap.size]? = some (.cells #[.int .i64 z, .slice A m c, .slice B s.length b, .slice C t.length d] tGr))
 obtain ⟨⟨c0, c1, c2, c3⟩, f0, f1, f2, f3⟩ := box4 k0
 have hV := isGraphOver_any p W (h.below bW) ok (hT.below bW hT.lt)
 obtain ⟨D, hD⟩ : ∃ D, D = dnAskB p (z, es, s, t) := ⟨_, rfl⟩
 rw [← hD]
 unfold dnAskB at hD
 clear h hT
 by_cases hg : gOverB p (z, es, s, t) = true
 case neg =>
  have hg' : gOverB p (z, es, s, t) = false := by simpa using hg
  simp only [hg'] at hV
  rw [hg', Bool.false_and] at hD
  subst hD
  clear hg hg' ok; have hV_h := lH hV; have k0_h := lH k0; have bW_h := lH bW; have hm_h := lH hm; have hmes_h := lH hmes; have a1_h := lH a1; have hE_h := lH hE; clear hV k0 bW hm hmes a1 hE
  go_enter Tryd.func19, Tryd.ntmps19
  go_upto_region 1 with (fail)
  rw [← hW]
  clear hW
  go_wp2_with (fail)
  refine (hV_h.out).mono ?_
  rintro e wq ⟨rfl, hb1⟩
  go_wp2_with (fail)
  go_ret
  exact ⟨rfl, below_trans bW_h.out hb1 bW_h.out.size⟩
 simp only [hg] at hV
 rw [hg, Bool.true_and] at hD
 have hDD : (es.all (fun e : Eg => noDl e.1) = true) → D = true := fun h => by rw [hD]; exact h
 have hDN : (es.all (fun e : Eg => noDl e.1) = false) → D = false := fun h => by rw [hD]; exact h
 clear hg hD ok; have hV_h := lH hV; have hm_h := lH hm; have hmes_h := lH hmes; have a1_h := lH a1; have hE_h := lH hE; have k0_h := lH k0; have bW_h := lH bW; have hDD_h := lH hDD; have hDN_h := lH hDN; clear hV hm hmes a1 hE k0 bW hDD hDN
 go_enter Tryd.func19, Tryd.ntmps19
 go_upto_region 1 with (fail)
 rw [← hW]
 clear hW
 go_wp2_with (fail)
 refine (hV_h.out).mono ?_
 rintro e wq ⟨rfl, hb1⟩
 clear c0 c1 c2 c3 f0 f1 f2 f3
 have hbq := below_trans bW_h.out hb1 bW_h.out.size
 have hE := hE_h.out.below hbq
 replace k0_h := lH (box_below k0_h.out hb1)
 clear hb1; have hbq_h := lH hbq; have hE_h := lH hE; clear hbq hE
 obtain ⟨⟨c0, c1, c2, c3⟩, f0, f1, f2, f3⟩ := box4 k0_h.out
 go_wp2_with (fail)
 clear c0 c1 c2 c3 f0 f1 f2 f3
 go_loopw [14] (fun i wr => ∃ k : Nat, k ≤ m ∧ i = .int .i64 k ∧ Below wq.heap.size wq wr ∧ ∀ (j : Nat) (e : Eg), es[j]? = some e → j < k → (fun e : Eg => noDl e.1) e = true) (fun i _ => m - (intOf i).toNat)
 case atStart => exact ⟨0, Nat.zero_le _, rfl, Below.refl _ _, fun j e _ h => absurd h (Nat.not_lt_zero j)⟩
 case round =>
  obtain ⟨k, hk, rfl, hbr, hall⟩ := hrel
  obtain ⟨wo, rfl⟩ : ∃ x, x = wr := ⟨_, rfl⟩
  by_cases hlt : k < m
  · obtain ⟨ad, κ, v, B', b', l, C', c', mm, rfl, hx, ⟨d0, d1, d2, d3⟩, _, _⟩ := (hE_h.out.below hbr).at_ (j := k) (by rw [← hm_h.out]; exact hlt)
    have hxe : es[k]? = some (κ, v, l, mm) := by rw [a1_h.out, List.getElem?_map, hx]; rfl
    have hkI : (k : Int) < (m : Int) := by omega
    have hbo := below_trans hbq_h.out hbr hbq_h.out.size
    obtain ⟨wN, hwN⟩ : ∃ wN, wN = wo.alloc (.cells #[.int .i64 κ, .int .i64 v, .slice B' l.length b', .slice C' mm.length c'] tEd) := ⟨_, rfl⟩
    have hbN : Below wo.heap.size wo wN := by rw [hwN]; exact below_alloc _ _
    have kN : wN.heap[wo.heap.size]? = some (.cells #[.int .i64 κ, .int .i64 v, .slice B' l.length b', .slice C' mm.length c'] tEd) := by rw [hwN]; exact heap_alloc_new _ _
    have hba := below_trans hbo hbN hbo.size
    have hbr2 := below_trans hbr hbN hbr.size
    have hnx : ∀ (e : Eg), (fun e : Eg => noDl e.1) (κ, v, l, mm) = true → es[k]? = some e → (fun e : Eg => noDl e.1) e = true := fun e he h2 => by rw [hxe] at h2; obtain rfl := Option.some.inj h2; exact he
    have hall2 : (fun e : Eg => noDl e.1) (κ, v, l, mm) = true → ∀ (j : Nat) (e : Eg), es[j]? = some e → j < k + 1 → (fun e : Eg => noDl e.1) e = true := fun he j e h2 h3 => by
     rcases Nat.lt_or_ge j k with h4 | h4
     · exact hall j e h2 h4
     · obtain rfl : j = k := by omega
       exact hnx e he h2
    obtain ⟨⟨e0, e1, e2, e3⟩, j0, j1, j2, j3⟩ := box4 kN
    have hCV := fun W' => isDelay_any κ W'
    clear hx hall hnx kN hbN
    cases hh : noDl κ
    · rw [hh] at hCV
      have hfin := hDN_h.out (allE_no hxe hh)
      subst hfin
      clear hall2; have hbr2_h := lH hbr2; have hbr_h := lH hbr; have hba_h := lH hba; have hbo_h := lH hbo; have hxe_h := lH hxe; have hCV_h := lH hCV; clear hbr2 hbr hba hbo hxe hCV
      go_upto_region 6 with (fail)
      rw [← hwN]
      clear hwN d0 d1 d2 d3
      go_wp2_with (fail)
      refine (hCV_h.out _).mono ?_
      rintro e w' ⟨rfl, hw'⟩
      subst hw'
      go_wp2_with (fail)
      go_ret
      exact ⟨rfl, hba_h.out⟩
    · rw [hh] at hCV
      have hall3 := hall2 hh
      clear hall2; have hall3_h := lH hall3; have hbr2_h := lH hbr2; have hbr_h := lH hbr; have hba_h := lH hba; have hbo_h := lH hbo; have hxe_h := lH hxe; have hCV_h := lH hCV; clear hall3 hbr2 hbr hba hbo hxe hCV
      go_upto_region 6 with (fail)
      rw [← hwN]
      clear hwN d0 d1 d2 d3
      go_wp2_with (fail)
      refine (hCV_h.out _).mono ?_
      rintro e w' ⟨rfl, hw'⟩
      subst hw'
      go_wp2_with (fail)
      go_roundw
      case rel => exact ⟨k + 1, by omega, by go_num, hbr2_h.out, hall3_h.out⟩
      case measure => simp [intOf]; omega
  · obtain rfl : m = k := by omega
    have hyes := allE_yes (f := (fun e : Eg => noDl e.1)) (l := es) fun j e h1 h2 => hall j e h1 (by rw [← hmes_h.out]; exact h2)
    have hbo := below_trans hbq_h.out hbr hbq_h.out.size
    have hfin := hDD_h.out hyes
    subst hfin
    clear hall; have hbo_h := lH hbo; clear hbo
    go_wp2_with (fail)
    go_ret
    exact ⟨rfl, hbo_h.out⟩
theorem flat_len {α : Type} {f : Eg → List α} (hf : ∀ e, (f e).length ≤ 2) : ∀ l : List Eg, (l.flatMap f).length ≤ 2 * l.length
 | [] => by simp
 | e :: r => by
   rw [List.flatMap_cons, List.length_append, List.length_cons]
   have := flat_len hf r
   have := hf e
   omega
theorem edR_len (p : Int) (V n : Nat) (e : Eg) : (edR p V n e).length ≤ 2 := by
 unfold edR
 rw [List.length_map]
 exact dnRowsM_len _ _ _
theorem sgM_ok (p : Int) (g : Gr) : OkR (sgM p g).1.2.2 := by
 by_cases hq : dnAskB p g = true
 · rw [sgM_yes hq]
   have hd := DnOk.of hq
   have hp := (fieldB_bounds hd.fld).1
   obtain ⟨V, hV⟩ : ∃ V, V = (g.2.2.1 ++ g.2.2.2).length := ⟨_, rfl⟩
   obtain ⟨n, hn⟩ : ∃ n, n = g.1.toNat := ⟨_, rfl⟩
   have hV24 : V ≤ 24 := by rw [hV, List.length_append]; have := hd.li; have := hd.lo'; omega
   have hn100 : n ≤ 100 := by have := hd.hi; omega
   have hlen : (sysV p g).2.2.length ≤ 144 := by
    show (sysRows p g.1.toNat (g.2.2.1 ++ g.2.2.2) g.2.1).length ≤ 144
    unfold sysRows
    rw [List.length_append, endTo_len, ← hV, ← hn]
    have := flat_len (edR_len p V n) g.2.1
    have := hd.len
    omega
   have hrow : ∀ x, x ∈ (sysV p g).2.2 → x.length ≤ 124 := by
    intro x hx
    have hx' : x ∈ sysRows p g.1.toNat (g.2.2.1 ++ g.2.2.2) g.2.1 := hx
    unfold sysRows at hx'
    rw [← hV, ← hn] at hx'
    rcases List.mem_append.1 hx' with h | h
    · unfold endTo at h
      obtain ⟨i, _, rfl⟩ := List.mem_map.1 h
      rw [endR_len]
      omega
    · obtain ⟨e, _, h⟩ := List.mem_flatMap.1 h
      unfold edR at h
      obtain ⟨r, hr, rfl⟩ := List.mem_map.1 h
      rw [padR_len, (dnRowsM_mat (by omega) n e r hr).1]
      omega
   have h1 : (sysV p g).2.2.length ≤ 1048576 := by omega
   exact ⟨h1, fun x hx => by have := hrow x hx; omega, Nat.le_trans (cntR_le hrow) (Nat.le_trans (Nat.mul_le_mul_right 124 hlen) (by decide))⟩
 · have hq' : dnAskB p g = false := by simpa using hq
   rw [sgM_no hq']
   exact okR_nil
set_option maxRecDepth 100000 in
set_option maxHeartbeats 4000000 in
theorem iSystemOfGraph_law (p : Int) {v : Value} {g : Gr} {w : World} (h : RdGr w v g) (ok : OkG g) (hT : Tab w) :
  Calls Tryd.prog 7 #[.int .i64 p, v] w fun e w' => ∃ v' fp, e = .returned (.tuple #[v', .bool (sgM p g).2]) ∧ OwSys w' v' (sgM p g).1 fp ∧ FreshL w.heap.size fp ∧ Below w.heap.size w w' := by
 obtain ⟨A, n1, c1, B, n2, c2, C, n3, c3, rfl⟩ := h.shape
 obtain ⟨z, hz⟩ : ∃ z, z = g.1 := ⟨_, rfl⟩
 rw [← hz] at h ⊢
 obtain ⟨W, hW, b0, k0, k1⟩ := alloc2 w (.cells #[.int .i64 z, .slice A n1 c1, .slice B n2 c2, .slice C n3 c3] tGr) (.cells #[.int .i64 0, .int .i64 0, .slice none 0 0] tSysG)
 have hC := gStatic_any p W (h.below b0) ok (hT.below b0 hT.lt)
 obtain ⟨⟨c0, x0, x1, x2⟩, f0, y0, y1, y2⟩ := box4 k0
 obtain ⟨D, hD⟩ : ∃ D, D = sgM p g := ⟨_, rfl⟩
 rw [← hD]
 unfold sgM at hD
 by_cases hq : dnAskB p g = true
 · rw [if_pos hq] at hD
   rw [hq] at hC
   have hE := fun W' (hb : Below W.heap.size W W') => systemOfGraph_any p W' ((h.below b0).below hb) ok (DnOk.of hq)
   obtain ⟨R, hR⟩ : ∃ R, R = sysV p g := ⟨_, rfl⟩
   rw [← hR] at hD
   simp only [← hR] at hE
   subst hD
   clear h hT hq ok hz hR; have b0_h := lH b0; have k0_h := lH k0; have k1_h := lH k1; have hC_h := lH hC; have hE_h := lH hE; clear b0 k0 k1 hC hE
   go_enter Tryd.func7, Tryd.ntmps7
   go_upto_region 1 with (fail)
   rw [← hW]
   clear hW
   go_wp2_with (fail)
   refine (hC_h.out).mono ?_
   rintro e w2 ⟨rfl, hb2⟩
   clear c0 x0 x1 x2 f0 y0 y1 y2
   replace k0_h := lH (box_below k0_h.out hb2)
   replace k1_h := lH (box_below k1_h.out hb2)
   have hB2 := below_trans b0_h.out hb2 b0_h.out.size
   obtain ⟨⟨c0, x0, x1, x2⟩, f0, y0, y1, y2⟩ := box4 k0_h.out
   have hb2_h := lH hb2; have hB2_h := lH hB2; clear hb2 hB2
   go_wp2_with (fail)
   refine (hE_h.out w2 hb2_h.out).mono ?_
   rintro e w3 ⟨v3, fp, rfl, hO, hf3, hb3⟩
   obtain ⟨A9, n9, c9, rfl⟩ := hO.shape
   have hw2 := box_lt k1_h.out
   replace k1_h := lH (box_below k1_h.out hb3)
   obtain ⟨⟨d0, d1, d2⟩, g0, g1, g2⟩ := box3 k1_h.out
   obtain ⟨s1, s2⟩ := set3 (a := .int .i64 R.1) (b := .int .i64 R.2.1) (c := .slice A9 n9 c9) k1_h.out
   have hB8 := below_trans hB2_h.out hb3 hB2_h.out.size
   have hB9 := below_keeps hB8 s2 hB8.size (fun k hk => by omega)
   have hO8 := hO.keeps s2 (fun k hk e => by have := hf3 k hk; omega)
   have hf8 := hf3.mono hB2_h.out.size
   clear hB8 hO hf3 hb3; have s1_h := lH s1; have s2_h := lH s2; have hB9_h := lH hB9; have hO8_h := lH hO8; have hf8_h := lH hf8; clear s1 s2 hB9 hO8 hf8
   go_wp2_with (fail)
   refine bodyPost_ret (results_cell_tmp rfl _ _ (w.heap.size + 1) _ _ (0, 0) _ rfl s1_h.out Tryd.underlying29 rfl (by kernel_rfl)) rfl ?_
   exact ⟨_, fp, rfl, hO8_h.out, hf8_h.out, hB9_h.out⟩
 · have hq' : dnAskB p g = false := by simpa using hq
   rw [if_neg hq] at hD
   rw [hq'] at hC
   subst hD
   clear h hT hq hq' ok hz; have b0_h := lH b0; have k0_h := lH k0; have k1_h := lH k1; have hC_h := lH hC; clear b0 k0 k1 hC
   go_enter Tryd.func7, Tryd.ntmps7
   go_upto_region 1 with (fail)
   rw [← hW]
   clear hW
   go_wp2_with (fail)
   refine (hC_h.out).mono ?_
   rintro e w2 ⟨rfl, hb2⟩
   clear c0 x0 x1 x2 f0 y0 y1 y2
   have hw2 := box_lt k1_h.out
   replace k1_h := lH (box_below k1_h.out hb2)
   obtain ⟨⟨d0, d1, d2⟩, g0, g1, g2⟩ := box3 k1_h.out
   obtain ⟨s1, s2⟩ := set3 (a := .int .i64 0) (b := .int .i64 0) (c := .slice none 0 0) k1_h.out
   have hB8 := below_trans b0_h.out hb2 b0_h.out.size
   have hB9 := below_keeps hB8 s2 hB8.size (fun k hk => by omega)
   clear hB8 hb2; have s1_h := lH s1; have s2_h := lH s2; have hB9_h := lH hB9; clear s1 s2 hB9
   go_wp2_with (fail)
   refine bodyPost_ret (results_cell_tmp rfl _ _ (w.heap.size + 1) _ _ (0, 0) _ rfl s1_h.out Tryd.underlying29 rfl (by kernel_rfl)) rfl ?_
   exact ⟨_, [], rfl, OwSys.zero _ 0 0, FreshL.nil _, hB9_h.out⟩
set_option maxRecDepth 100000 in
set_option maxHeartbeats 4000000 in
theorem sSystemOfGraph_law (p : Int) {v : Value} {g : Gr} {w : World} (h : RdGr w v g) (ok : OkG g) :
  Calls Tryd.prog 5 #[.int .i64 p, v] w fun e w' => ∃ v' fp, e = .returned (.tuple #[v', .bool (sgM p g).2]) ∧ OwSys w' v' (sgM p g).1 fp ∧ FreshL w.heap.size fp ∧ Below w.heap.size w w' := by
 obtain ⟨A, n1, c1, B, n2, c2, C, n3, c3, rfl⟩ := h.shape
 obtain ⟨z, hz⟩ : ∃ z, z = g.1 := ⟨_, rfl⟩
 rw [← hz] at h ⊢
 obtain ⟨W, hW, b0, k0, k1⟩ := alloc2 w (.cells #[.int .i64 z, .slice A n1 c1, .slice B n2 c2, .slice C n3 c3] tGr) (.cells #[.int .i64 0, .int .i64 0, .slice none 0 0] tSysG)
 have hC := dnAsked_any p W (h.below b0) ok
 obtain ⟨⟨c0, x0, x1, x2⟩, f0, y0, y1, y2⟩ := box4 k0
 obtain ⟨D, hD⟩ : ∃ D, D = sgM p g := ⟨_, rfl⟩
 rw [← hD]
 unfold sgM at hD
 by_cases hq : dnAskB p g = true
 · rw [if_pos hq] at hD
   rw [hq] at hC
   have hE := fun W' (hb : Below W.heap.size W W') => syOf_any p W' ((h.below b0).below hb) ok (DnOk.of hq)
   obtain ⟨R, hR⟩ : ∃ R, R = sysV p g := ⟨_, rfl⟩
   rw [← hR] at hD
   simp only [← hR] at hE
   subst hD
   clear h hq ok hz hR; have b0_h := lH b0; have k0_h := lH k0; have k1_h := lH k1; have hC_h := lH hC; have hE_h := lH hE; clear b0 k0 k1 hC hE
   go_enter Tryd.func5, Tryd.ntmps5
   go_upto_region 1 with (fail)
   rw [← hW]
   clear hW
   go_wp2_with (fail)
   refine (hC_h.out).mono ?_
   rintro e w2 ⟨rfl, hb2⟩
   clear c0 x0 x1 x2 f0 y0 y1 y2
   replace k0_h := lH (box_below k0_h.out hb2)
   replace k1_h := lH (box_below k1_h.out hb2)
   have hB2 := below_trans b0_h.out hb2 b0_h.out.size
   obtain ⟨⟨c0, x0, x1, x2⟩, f0, y0, y1, y2⟩ := box4 k0_h.out
   have hb2_h := lH hb2; have hB2_h := lH hB2; clear hb2 hB2
   go_wp2_with (fail)
   refine (hE_h.out w2 hb2_h.out).mono ?_
   rintro e w3 ⟨v3, fp, rfl, hO, hf3, hb3⟩
   obtain ⟨A9, n9, c9, rfl⟩ := hO.shape
   have hw2 := box_lt k1_h.out
   replace k1_h := lH (box_below k1_h.out hb3)
   obtain ⟨⟨d0, d1, d2⟩, g0, g1, g2⟩ := box3 k1_h.out
   obtain ⟨s1, s2⟩ := set3 (a := .int .i64 R.1) (b := .int .i64 R.2.1) (c := .slice A9 n9 c9) k1_h.out
   have hB8 := below_trans hB2_h.out hb3 hB2_h.out.size
   have hB9 := below_keeps hB8 s2 hB8.size (fun k hk => by omega)
   have hO8 := hO.keeps s2 (fun k hk e => by have := hf3 k hk; omega)
   have hf8 := hf3.mono hB2_h.out.size
   clear hB8 hO hf3 hb3; have s1_h := lH s1; have s2_h := lH s2; have hB9_h := lH hB9; have hO8_h := lH hO8; have hf8_h := lH hf8; clear s1 s2 hB9 hO8 hf8
   go_wp2_with (fail)
   refine bodyPost_ret (results_cell_tmp rfl _ _ (w.heap.size + 1) _ _ (0, 0) _ rfl s1_h.out Tryd.underlying29 rfl (by kernel_rfl)) rfl ?_
   exact ⟨_, fp, rfl, hO8_h.out, hf8_h.out, hB9_h.out⟩
 · have hq' : dnAskB p g = false := by simpa using hq
   rw [if_neg hq] at hD
   rw [hq'] at hC
   subst hD
   clear h hq hq' ok hz; have b0_h := lH b0; have k0_h := lH k0; have k1_h := lH k1; have hC_h := lH hC; clear b0 k0 k1 hC
   go_enter Tryd.func5, Tryd.ntmps5
   go_upto_region 1 with (fail)
   rw [← hW]
   clear hW
   go_wp2_with (fail)
   refine (hC_h.out).mono ?_
   rintro e w2 ⟨rfl, hb2⟩
   clear c0 x0 x1 x2 f0 y0 y1 y2
   have hw2 := box_lt k1_h.out
   replace k1_h := lH (box_below k1_h.out hb2)
   obtain ⟨⟨d0, d1, d2⟩, g0, g1, g2⟩ := box3 k1_h.out
   obtain ⟨s1, s2⟩ := set3 (a := .int .i64 0) (b := .int .i64 0) (c := .slice none 0 0) k1_h.out
   have hB8 := below_trans b0_h.out hb2 b0_h.out.size
   have hB9 := below_keeps hB8 s2 hB8.size (fun k hk => by omega)
   clear hB8 hb2; have s1_h := lH s1; have s2_h := lH s2; have hB9_h := lH hB9; clear s1 s2 hB9
   go_wp2_with (fail)
   refine bodyPost_ret (results_cell_tmp rfl _ _ (w.heap.size + 1) _ _ (0, 0) _ rfl s1_h.out Tryd.underlying29 rfl (by kernel_rfl)) rfl ?_
   exact ⟨_, [], rfl, OwSys.zero _ 0 0, FreshL.nil _, hB9_h.out⟩
end Go.Proofs.YtpkmjenoniedjaaDoor
namespace Go.Proofs.YtpkmjenoniedjaaDoor
open Go.ChangeShapes Go.WideShapes Go.ChangeAt Go.RowKit
theorem gTab : Tryd.prog.globalNamed "loop.example/g01073/impl.smallPrimes" = some 0 := by kernel_rfl
theorem gTabType : (Tryd.prog.globals[0]?).map (·.type) = some 80 := by kernel_rfl
theorem cellsTab : Tryd.prog.cellsOf 80 = 4 := by kernel_rfl
theorem tab_of_laid {W : World} (h : laidMetH Tryd.prog [("loop.example/g01073/impl.smallPrimes", Rows.laid_loop_example_g01073_impl_smallPrimes)] W) : Tab W := by
 have ht : Lib.TabIs Tryd.prog W "loop.example/g01073/impl.smallPrimes" .i64 [2, 3, 5, 7] :=
  Lib.tabIs_of_head (rest := []) gTab gTabType Tryd.underlying80 Tryd.underlying3 cellsInt cellsTab h
 exact ⟨ht.cell gTab 0 (by decide), ht.cell gTab 1 (by decide), ht.cell gTab 2 (by decide), ht.cell gTab 3 (by decide)⟩
theorem vars_ok : ∀ n ∈ ["loop.example/g01073/impl.smallPrimes"], ∀ g t, Tryd.prog.globalNamed n = some g → (Tryd.prog.globals[g]?).map (·.type) = some t → Tryd.prog.readableRec t = true ∧ t < Tryd.prog.types.size := by
 intro n hn g t h1 h2
 obtain rfl := List.mem_singleton.1 hn
 obtain rfl := Option.some.inj (gTab.symm.trans h1)
 obtain rfl := Option.some.inj (gTabType.symm.trans h2)
 exact ⟨by kernel_rfl, of_decide_eq_true (by kernel_rfl)⟩
noncomputable def laidWorld (os : Os) : World :=
 { World.holding Tryd.prog os ⟨#[], #[], []⟩ with heap := (World.holding Tryd.prog os ⟨#[], #[], []⟩).heap.modify 0 fun
   | .cells _ t frozen => .cells #[.int .i64 2, .int .i64 3, .int .i64 5, .int .i64 7] t frozen
   | o => o }
theorem laid_met (os : Os) (args : Array Value) : laidMet Tryd.prog [("loop.example/g01073/impl.smallPrimes", Rows.laid_loop_example_g01073_impl_smallPrimes)] ((laidWorld os).forCall (fun _ _ => 0) ⟨#[], args, []⟩).memory :=
 laidMet_of_run' 8 (by kernel_rfl) (by kernel_rfl)
end Go.Proofs.YtpkmjenoniedjaaDoor
