/-
  What the texts above it need, part 2.
-/
import Derived.Test.YtjompikdkhhlgaaGreatDoorKWireValues1
import Derived.StillTailTactics
import Derived.Deep.DeepCutAuto
import Derived.BigQuiet
import Derived.Deep.WholeRow
import Derived.Stop.BytesEq
import Derived.IntWalk
import Derived.Test.YtjompikdkhhlgaaGreatDoorRows
import Derived.Outline
import Derived.Deep.QuietTactic
namespace Go.Proofs.YtjompikdkhhlgaaGreatDoor
open Go.RowKit
theorem box1 {w : World} {B : Nat} {x : Value} {t : TypeId} (h : w.heap[B]? = some (.cells #[x] t)) : w.cell? ⟨B, 0, none⟩ = some x := by simp [World.cell?, h]
theorem pair_of {α β γ : Type} {x : α × β × γ} {a : α} {b : β} {c : γ} (h1 : x.1 = a) (h2 : x.2.1 = b) (h3 : x.2.2 = c) : x = (a, b, c) := by
 obtain ⟨x1, x2, x3⟩ := x; subst h1 h2 h3; rfl
set_option maxRecDepth 100000 in
set_option maxHeartbeats 4000000 in
theorem reduction_any (p : Int) (n m n2 : Nat) (A : Option Addr) (cap : Nat) (L : List (List Int)) (fp : List Nat) (A' : Option Addr) (cap' : Nat) (K : List (List Int)) (fp' : List Nat) (w : World) (hRL : RwF w A cap L fp) (hRK : RwF w A' cap' K fp') (hap : ∀ b, b ∈ fp → ¬ b ∈ fp')
  (hlf : LtL w.heap.size fp) (hlf' : LtL w.heap.size fp') (hp : fieldB p = true) (hmL : Mat p m n L) (hmK : Mat p m n2 K) (hm : m ≤ 1048576) (hn : n ≤ 1048576) (hn2 : n2 ≤ 1048576) :
  Calls Tryz.prog 90 #[.int .i64 p, .slice A m cap, .int .i64 n, .slice A' m cap'] w fun e w' => e = .returned (.int .i64 ((redTo p L K n).1 : Nat)) ∧ RwF w' A cap (redTo p L K n).2.1 fp ∧ RwF w' A' cap' (redTo p L K n).2.2 fp' ∧ Keeps (fun b => b ∈ fp ∨ b ∈ fp') w w' := by
 have hmf : ∀ (fn : Fn) (first cap : Array Value) (w : World), (Instr.makeFunc fn first cap).run Tryz.prog w = .ok (.func fn first cap) w := fun _ _ _ _ => rfl
 have hpb := fieldB_bounds hp
 have HP := lH hp; have HML := lH hmL; have HMK := lH hmK
 obtain ⟨W, hW⟩ : ∃ W, W = ((w.alloc (.cells #[.int .i64 p] 3)).alloc (.cells #[.slice A m cap] 52)).alloc (.cells #[.slice A' m cap'] 52) := ⟨_, rfl⟩
 have hBW : Below w.heap.size w W := by rw [hW]; exact (((Below.refl _ _).alloc (Nat.le_refl _) _).alloc (by simp) _).alloc (by simp; omega) _
 have hCap : Cap W p w.heap.size (w.heap.size + 1) (w.heap.size + 1 + 1) A cap L fp A' cap' K fp' m := by
  refine ⟨?_, ?_, ?_, hRL.below hBW, hRK.below hBW, hap, ⟨fun h => absurd (hlf _ h) (by omega), fun h => absurd (hlf' _ h) (by omega)⟩, ⟨fun h => absurd (hlf _ h) (by omega), fun h => absurd (hlf' _ h) (by omega)⟩, ⟨fun h => absurd (hlf _ h) (by omega), fun h => absurd (hlf' _ h) (by omega)⟩⟩
  · rw [hW, World.cell?_alloc_lt _ _ _ (by simp; omega), World.cell?_alloc_lt _ _ _ (by simp)]
    exact box1 (heap_alloc_new w _)
  · rw [hW, World.cell?_alloc_lt _ _ _ (by simp)]
    have := heap_alloc_new (w.alloc (.cells #[.int .i64 p] 3)) (.cells #[.slice A m cap] 52)
    rw [World.size_alloc] at this
    exact box1 this
  · rw [hW]
    have := heap_alloc_new ((w.alloc (.cells #[.int .i64 p] 3)).alloc (.cells #[.slice A m cap] 52)) (.cells #[.slice A' m cap'] 52)
    rw [World.size_alloc, World.size_alloc] at this
    exact box1 this
 have hnf : ∀ wr : World, Keeps (fun b => b ∈ fp ∨ b ∈ fp') W wr → ¬ wr.heap.size ∈ fp := fun wr hk hh => by
  have := hlf _ hh; have := hk.size; have := hBW.size; omega
 have HNF := lH hnf; have HBW := lH hBW; have HCap := lH hCap; clear hRL hRK hap hlf hlf' hp hmL hmK hBW hCap hnf
 go_enter Tryz.func90, Tryz.ntmps90
 go_wp2_with (fail)
 rw [← hW]
 clear hW
 go_loopw [11, 9] (fun ci ri wr => ∃ (col R : Nat) (M K1 : List (List Int)), col ≤ n ∧ ci = .int .i64 col ∧ ri = .int .i64 R ∧ redTo p L K col = (R, M, K1) ∧ Mat p m n2 K1 ∧ Cap wr p w.heap.size (w.heap.size + 1) (w.heap.size + 1 + 1) A cap M fp A' cap' K1 fp' m ∧ Keeps (fun b => b ∈ fp ∨ b ∈ fp') W wr) (fun ci _ _ => n - (intOf ci).toNat)
 case atStart => exact ⟨0, 0, L, K, Nat.zero_le _, rfl, rfl, rfl, HMK.out, HCap.out, Keeps.refl _ _⟩
 case round =>
  obtain ⟨col, R, M, K1, hcol, rfl, rfl, hrt, hmK1, hC, hkp⟩ := hrel
  obtain ⟨hMm, hRm⟩ := redTo_mat HP.out HML.out K hcol
  rw [hrt] at hMm hRm
  have hMm : Mat p m n M := hMm
  have hRm : R ≤ m := hRm
  have HRT := lH hrt; have HMm := lH hMm; have HMl := lH hMm.len; have HMK1 := lH hmK1
  have d5 := hC.c5
  have HC := lH hC; have HKP := lH hkp; clear hrt hMm hC hkp hmK1 HCap
  by_cases hgo : col < n ∧ R < m
  case neg =>
   have hend : redTo p L K n = (R, M, K1) := by
    by_cases hc : col < n
    · have hs := redTo_stable (p := p) (L := L) (A := K) (c := col) (by rw [HRT.out]; show M.length ≤ R; rw [HMl.out]; omega) (n - col)
      rw [show col + (n - col) = n by omega] at hs
      rw [hs, HRT.out]
    · obtain rfl : n = col := by omega
      exact HRT.out
   have HE := lH hend; clear hend
   by_cases hc : col < n
   · have hRk : ¬ ((R : Int) < (m : Int)) := by omega
     go_wp2_with (fail)
     go_ret
     rw [HE.out]
     exact ⟨rfl, HC.out.rows, HC.out.also, (Keeps.of_below HBW.out _).trans HKP.out⟩
   · have hcI : ¬ ((col : Int) < (n : Int)) := by omega
     go_wp2_with (fail)
     go_ret
     rw [HE.out]
     exact ⟨rfl, HC.out.rows, HC.out.also, (Keeps.of_below HBW.out _).trans HKP.out⟩
  case pos =>
   obtain ⟨hcn, hRk⟩ := hgo
   have hcI : (col : Int) < (n : Int) := by omega
   have hRI : (R : Int) < (m : Int) := by omega
   go_wp2_with (fail)
   go_loop [12] (fun v => ∃ q : Nat, R ≤ q ∧ q ≤ m ∧ v = .int .i64 q ∧ pvFrom M col (m - q) q = pvFrom M col (m - R) R) (fun v => m - (intOf v).toNat)
   case atStart => exact ⟨R, Nat.le_refl _, by omega, rfl, rfl⟩
   case round =>
    obtain ⟨q, hRq, hqk, rfl, hpv⟩ := hrel
    have HPV := lH hpv; clear hpv
    by_cases hlt : q < m
    · obtain ⟨ad, B, d, hA', hcq, hfq, hIq, _⟩ := HC.out.rows.get (i := q) (by rw [HMl.out]; exact hlt)
      have hrl := (HMm.out.get hlt).1
      obtain ⟨bd, x, hB, hx, _, hcx, _⟩ := hIq.at_ (j := col) (by rw [hrl]; exact hcn)
      have hxe : x = en M q col := by unfold en; simp [List.getD] at hx ⊢; rw [hx]; rfl
      have hxb := HMm.out.en (by omega) hlt col
      rw [← hxe] at hxb
      rw [hrl] at hcq
      have HXE := lH hxe
      have hqI : (q : Int) < (m : Int) := by omega
      subst hA'
      subst hB
      by_cases hx0 : x = 0
      · subst hx0
        have hpn := pvFrom_eq hlt HXE.out.symm
        have HPN := lH hpn; clear hpn hxe hIq hrl hx hfq
        go_wp2_with (fail)
        go_round
        case rel => exact ⟨q + 1, by omega, by omega, by go_num, by rw [← HPN.out]; exact HPV.out⟩
        case measure => simp [intOf]; omega
      · have hx1 : (x == 0) = false := by rw [beq_eq_false_iff_ne]; exact hx0
        have hpn : pvFrom M col (m - R) R = q := by rw [← HPV.out]; exact pvFrom_hit hlt (by rw [← HXE.out]; exact hx0)
        have HPN := lH hpn
        have hX := stepX_any p R q m w.heap.size (w.heap.size + 1) (w.heap.size + 1 + 1) (some ad) cap M fp A' cap' K1 fp' wr HC.out HMl.out HMK1.out.len hRk hlt hm (HNF.out wr HKP.out)
        have HX := lH hX; clear hX hpn HPV hxe hIq hrl hx hfq
        go_wp2_with (fail)
        refine HX.out.mono ?_
        clear HX
        rintro e w1 ⟨rfl, hC1, hk1⟩
        obtain ⟨S, hS⟩ : ∃ S, S = swapL M R q := ⟨_, rfl⟩
        obtain ⟨S1, hS1⟩ : ∃ S1, S1 = swapL K1 R q := ⟨_, rfl⟩
        rw [← hS, ← hS1] at hC1
        have hSm : Mat p m n S := by rw [hS]; exact HMm.out.swap hRk hlt
        have hS1m : Mat p m n2 S1 := by rw [hS1]; exact HMK1.out.swap hRk hlt
        have hSx : en S R col = x := by
         rw [HXE.out, hS]; unfold en
         rw [swapL_get (by rw [HMl.out]; omega) (by rw [HMl.out]; omega)]
         by_cases e : R = q
         · rw [if_pos e, e]
         · rw [if_neg e, if_pos rfl]
        have hk01 := HKP.out.trans hk1
        obtain ⟨ad3, B3, c3, hA3, hc3, hf3, hI3, _⟩ := hC1.rows.get (i := R) (by rw [hSm.len]; omega)
        obtain rfl := Option.some.inj hA3
        have hl3 := (hSm.get (show R < m by omega)).1
        obtain ⟨b3, y, hB3, hy, _, hcy, _⟩ := hI3.at_ (j := col) (by rw [hl3]; exact hcn)
        have hyx : y = x := by rw [← hSx]; unfold en; simp [List.getD] at hy ⊢; rw [hy]; rfl
        subst hyx
        subst hB3
        rw [hl3] at hc3
        have hy1 : 1 ≤ y := by omega
        have hy2 : y < p := hxb.2
        have hinv := invM_spec HP.out hy1 hy2
        have e5 := hC1.c5
        have hD := stepD_any p y R m n n2 w.heap.size (w.heap.size + 1) (w.heap.size + 1 + 1) (some ad) cap S fp A' cap' S1 fp' w1 hC1 hSm hS1m hRk hm hn hn2 (by omega) (by omega) (by omega) hy2 (by have := hinv.2.1; omega) hinv.2.2 (HNF.out w1 hk01)
        have HD := lH hD; have HS := lH hS; have HS1 := lH hS1; have HSm := lH hSm; have HS1m := lH hS1m; have HK01 := lH hk01; clear hD hS hS1 hSm hS1m hSx hk01 hI3 hl3 hy hC1 hk1 hinv hcq hcx hf3
        go_wp2_with (fail)
        refine HD.out.mono ?_
        clear HD hc3 hcy e5
        rintro e w2 ⟨rfl, hC2, hk2⟩
        obtain ⟨iv, hiv⟩ : ∃ iv, iv = invM p y := ⟨_, rfl⟩
        obtain ⟨M2, hM2⟩ : ∃ M2, M2 = scaleL p R iv S := ⟨_, rfl⟩
        obtain ⟨K2, hK2⟩ : ∃ K2, K2 = scaleL p R iv S1 := ⟨_, rfl⟩
        rw [← hiv, ← hM2, ← hK2] at hC2
        have hm2 : Mat p m n M2 := by rw [hM2]; exact HSm.out.scale (by omega) hRk iv
        have hkm2 : Mat p m n2 K2 := by rw [hK2]; exact HS1m.out.scale (by omega) hRk iv
        have hk02 := HK01.out.trans hk2
        have e5 := hC2.c5
        have HC2 := lH hC2; have Hm2 := lH hm2; have Hkm2 := lH hkm2; have HIV := lH hiv; have HM2 := lH hM2; have HK2 := lH hK2; have HK02 := lH hk02; clear hiv hM2 hK2 hm2 hkm2 hk02 hC2 hk2
        go_wp2_with (fail)
        clear e5
        go_loopw [65] (fun i wr5 => ∃ g : Nat, g ≤ m ∧ i = .int .i64 g ∧ Cap wr5 p w.heap.size (w.heap.size + 1) (w.heap.size + 1 + 1) (some ad) cap (elimTo p R (fun i => en M2 i col) M2 g) fp A' cap' (elimTo p R (fun i => en M2 i col) K2 g) fp' m ∧ Keeps (fun b => b ∈ fp ∨ b ∈ fp') W wr5) (fun i _ => m - (intOf i).toNat)
        case atStart => exact ⟨0, Nat.zero_le _, rfl, by rw [elimTo_zero, elimTo_zero]; exact HC2.out, HK02.out⟩
        case round =>
         obtain ⟨g, hg, rfl, hCg, hkg⟩ := hrel
         have hEm := Hm2.out.elim (r := R) (q := g) (f := fun i => en M2 i col) (by omega)
         have hEk := Hkm2.out.elim (r := R) (q := g) (f := fun i => en M2 i col) (by omega)
         have e5 := hCg.c5
         have hml2 := Hm2.out.len
         have hkl2 := Hkm2.out.len
         by_cases hgk : g < m
         · have hgI : (g : Int) < (m : Int) := by omega
           by_cases hgR : g = R
           · have hb : ((g : Int) != (R : Int)) = false := by simp; omega
             have hsk := elimTo_skip (p := p) (L := M2) (f := fun i => en M2 i col) (.inl hgR)
             have hsk2 := elimTo_skip (p := p) (L := K2) (f := fun i => en M2 i col) (.inl hgR)
             have HR := lH (show Cap wr p w.heap.size (w.heap.size + 1) (w.heap.size + 1 + 1) (some ad) cap (elimTo p R (fun i => en M2 i col) M2 (g + 1)) fp A' cap' (elimTo p R (fun i => en M2 i col) K2 (g + 1)) fp' m by rw [hsk, hsk2]; exact hCg)
             have HGR := lH hgR; have HKG := lH hkg; clear hsk hsk2 hgR hEm hEk hml2 hkl2 hCg hkg
             go_wp2_with (fail)
             go_roundw
             case rel => exact ⟨g + 1, by omega, by go_num, HR.out, HKG.out⟩
             case measure => simp [intOf]; omega
           · have hb : ((g : Int) != (R : Int)) = true := by simp; omega
             obtain ⟨ad4, B4, c4, hA4, hc4, hf4, hI4, _⟩ := hCg.rows.get (i := g) (by rw [elimTo_length, hml2]; exact hgk)
             obtain rfl := Option.some.inj hA4
             rw [elimTo_at (by rw [hml2]; exact hgk)] at hc4 hI4
             have hgl := (Hm2.out.get hgk).1
             rw [hgl] at hc4
             obtain ⟨b4, x2, hB4, hx2, _, hcx2, _⟩ := hI4.at_ (j := col) (by rw [hgl]; exact hcn)
             have hx2e : x2 = en M2 g col := by unfold en; simp [List.getD] at hx2 ⊢; rw [hx2]; rfl
             have hx2b := Hm2.out.en (by omega) hgk col
             rw [← hx2e] at hx2b
             subst hB4
             by_cases hx20 : x2 = 0
             · subst hx20
               have hsk := elimTo_skip (p := p) (r := R) (q := g) (L := M2) (f := fun i => en M2 i col) (.inr hx2e.symm)
               have hsk2 := elimTo_skip (p := p) (r := R) (q := g) (L := K2) (f := fun i => en M2 i col) (.inr hx2e.symm)
               have HR := lH (show Cap wr p w.heap.size (w.heap.size + 1) (w.heap.size + 1 + 1) (some ad) cap (elimTo p R (fun i => en M2 i col) M2 (g + 1)) fp A' cap' (elimTo p R (fun i => en M2 i col) K2 (g + 1)) fp' m by rw [hsk, hsk2]; exact hCg)
               have HKG := lH hkg; clear hsk hsk2 hEm hEk hml2 hkl2 hCg hkg hI4 hx2 hx2e hgl hf4
               go_wp2_with (fail)
               go_roundw
               case rel => exact ⟨g + 1, by omega, by go_num, HR.out, HKG.out⟩
               case measure => simp [intOf]; omega
             · have hx21 : (x2 != 0) = true := by simp; exact hx20
               have hst := elimTo_step (p := p) (r := R) (q := g) (L := M2) (f := fun i => en M2 i col) (by rw [hml2]; exact hgk) hgR (by rw [← hx2e]; exact hx20)
               have hst2 := elimTo_step (p := p) (r := R) (q := g) (L := K2) (f := fun i => en M2 i col) (by rw [hkl2]; exact hgk) hgR (by rw [← hx2e]; exact hx20)
               have hSt := stepS_any p x2 g R m n n2 w.heap.size (w.heap.size + 1) (w.heap.size + 1 + 1) (some ad) cap _ fp A' cap' _ fp' wr hCg hEm hEk hgk hRk hgR hm hn hn2 (by omega) (by omega) hx2b.1 hx2b.2 (HNF.out wr hkg)
               rw [elimTo_at (by rw [hml2]; exact hgk), elimTo_piv (by rw [hml2]; exact hRk), elimTo_at (by rw [hkl2]; exact hgk), elimTo_piv (by rw [hkl2]; exact hRk)] at hSt
               rw [show -x2 = -(fun i => en M2 i col) g by rw [hx2e]] at hSt
               rw [← hst, ← hst2] at hSt
               have HSt := lH hSt; have HKG := lH hkg; clear hst hst2 hSt hEm hEk hml2 hkl2 hCg hkg hI4 hx2 hx2e hgl hf4 hgR
               go_wp2_with (fail)
               refine HSt.out.mono ?_
               clear HSt e5 hc4 hcx2
               rintro e w4 ⟨rfl, hC4, hk4⟩
               have HR := lH hC4
               have HKG2 := lH (HKG.out.trans hk4)
               clear hC4 hk4
               go_wp2_with (fail)
               go_roundw
               case rel => exact ⟨g + 1, by omega, by go_num, HR.out, HKG2.out⟩
               case measure => simp [intOf]; omega
         · obtain rfl : m = g := by omega
           obtain ⟨e1, e2, e3⟩ := redTo_some (p := p) (L := L) (A := K) (c := col) (k := q) (by rw [HRT.out]; show pvFrom M col (M.length - R) R = q; rw [HMl.out]; exact HPN.out) (by rw [HRT.out]; show q < M.length; rw [HMl.out]; omega) (M := M2) (by rw [HRT.out, HM2.out, HS.out, HIV.out, HXE.out])
           rw [HRT.out] at e1 e2 e3
           have e1 : (redTo p L K (col + 1)).1 = R + 1 := e1
           have e2 : (redTo p L K (col + 1)).2.1 = elimTo p R (fun i => en M2 i col) M2 m := by rw [e2, hml2]
           have e3 : (redTo p L K (col + 1)).2.2 = elimTo p R (fun i => en M2 i col) K2 m := by
            rw [e3]
            show elimTo p R (fun i => en M2 i col) (scaleL p R (invM p (en M q col)) (swapL K1 R q)) K1.length = _
            rw [HMK1.out.len, HK2.out, HS1.out, HIV.out, HXE.out]
           have HE := lH (pair_of e1 e2 e3)
           have HCG := lH hCg; have HKG := lH hkg; have HEK := lH hEk; clear e1 e2 e3 hEm hEk hml2 hkl2 hCg hkg
           go_wp2_with (fail)
           go_roundw
           case rel => exact ⟨col + 1, R + 1, _, _, by omega, by go_num, by go_num, HE.out, HEK.out, HCG.out, HKG.out⟩
           case measure => simp [intOf]; omega
    · obtain rfl : m = q := by omega
      have hpn : ¬ pvFrom M col (M.length - R) R < M.length := by rw [HMl.out, ← HPV.out, pvFrom_end]; omega
      have hred := redTo_none (p := p) (L := L) (A := K) (c := col) (by rw [HRT.out]; exact hpn)
      have HRD := lH hred; clear hpn hred
      go_wp2_with (fail)
      go_roundw
      case rel => exact ⟨col + 1, R, M, K1, by omega, by go_num, rfl, by rw [HRD.out]; exact HRT.out, HMK1.out, HC.out, HKP.out⟩
      case measure => simp [intOf]; omega
set_option maxHeartbeats 1000000 in
theorem clones_any (A : Option Addr) (c : Nat) (hs : List Hd) (w : World) (h : RdR w A hs) (hl : hs.length ≤ 1048576) (hr : ∀ x, x ∈ hs → x.2.2.length ≤ 1048576) :
  Calls Tryz.prog 89 #[.slice A hs.length c] w (RetSS w (hs.map fun h : Hd => h.2.2)) := by
 obtain ⟨L, hLh⟩ : ∃ L, L = hs.map fun h : Hd => h.2.2 := ⟨_, rfl⟩
 rw [← hLh]
 obtain ⟨m, hmm⟩ : ∃ m, m = hs.length := ⟨_, rfl⟩
 rw [← hmm] at hl ⊢
 have HLh := lH hLh; have HM := lH hmm
 have hLen := lH (show L.length = m by rw [hLh, List.length_map, hmm])
 clear hLh hmm
 go_enter Tryz.func89, Tryz.ntmps89
 go_wp2_with (at_make; refine wpList_make_Sl _ rfl _ _ _ rfl 23 Tryz.underlying52 info_ints 0 m rfl rfl rfl rfl (Nat.zero_le _) (by omega) (by unfold maxLen; omega) ?_; intro G w1 hs1 hG hb1)
 have hOM0 : OM w w1 (some G) m [] := by
  refine ⟨[], rfl, ⟨by simpa using hs1, fun h hh => (by cases hh), .nil, fun h hh => (by cases hh)⟩, fun b hb => ?_, hb1⟩
  have : b = G.block := by simpa [fpR] using hb
  subst this; exact hG
 clear hs1
 go_loopw [11, 3] (fun i v wr => ∃ (k : Nat) (A' : Option Addr) (c' : Nat), k ≤ m ∧ i = .int .i64 k ∧ v = .slice A' k c' ∧ OM w wr A' c' (L.take k)) (fun i _ _ => m - (intOf i).toNat)
 case atStart => exact ⟨0, some G, m, Nat.zero_le _, rfl, rfl, hOM0⟩
 case round =>
  clear hOM0
  obtain ⟨k, A', c', hk, rfl, rfl, hOM⟩ := hrel
  by_cases hlt : k < m
  · obtain ⟨ad, B, d, l, rfl, hx, hc, hri⟩ := (h.below hOM.below_).at_ (k := k) (by rw [← HM.out]; exact hlt)
    have hlx : L[k]? = some l := by rw [HLh.out, List.getElem?_map, hx]; rfl
    have hll : l.length ≤ 1048576 := hr _ (List.mem_of_getElem? hx)
    obtain ⟨gs, hLg, hO, hf, h0⟩ := hOM
    have hgl : gs.length = k := by
     have := congrArg List.length hLg
     rw [List.length_take, hLen.out, List.length_map] at this
     omega
    have HX := lH hlx; have HG := lH hLg; have HGL := lH hgl
    have hkI : (k : Int) < (m : Int) := by omega
    have hC := clone_any B d l wr hri (by omega)
    have HC := lH hC; clear hx hlx hLg hgl hC h hr
    go_wp2_with (fail)
    refine HC.out.mono ?_
    rintro e w1 ⟨B1, c1, rfl, hi1, hf1, hb1⟩
    have hsl : Sl (w1.alloc (.cells #[.slice B1 l.length c1] 23)) 23 1 A' k c' (gs.map Hd.val) := by
     have := (hO.sl.below hb1).alloc (.cells #[.slice B1 l.length c1] 23)
     rwa [HGL.out] at this
    go_wp2_with (at_builtin; refine wpList_append_Sl _ rfl _ _ _ rfl 23 Tryz.underlying52 info_ints rfl (by omega) rfl hsl rfl (news := [.slice B1 l.length c1]) rfl (Sl.rdc (Sl.laid w1 23 1 1 #[.slice B1 l.length c1] (by unfold maxLen; omega) rfl)) (by intro u hu; simp at hu; subst hu; rfl) (by unfold maxLen; omega) (by omega) ?_; intro A2 c2 w2 hs2 hA2 hk2)
    have hal : Below w1.heap.size w1 (w1.alloc (.cells #[.slice B1 l.length c1] 23)) := (Below.refl _ _).alloc (Nat.le_refl _) _
    have hOM2 := OM.snoc (w1 := w1.alloc (.cells #[.slice B1 l.length c1] 23)) HG.out hO hf h0 (below_trans hb1 hal hb1.size) (hi1.below hal) hf1 (by rw [HGL.out]) hs2 hA2 hk2
    have HO := lH hOM2; clear hOM2 hs2 hsl hO hf
    go_roundw
    case rel => exact ⟨k + 1, A2, c2, by omega, by go_num, rfl, by rw [List.take_add_one, HX.out]; exact HO.out⟩
    case measure => simp [intOf]; omega
  · obtain rfl : m = k := by omega
    have hOM' : OM w wr A' c' L := by have := hOM; rwa [List.take_of_length_le (by rw [hLen.out]; omega)] at this
    clear hOM h hr
    go_wp2_with (fail)
    go_ret
    have := hOM'.ret
    rw [hLen.out] at this
    exact this
theorem nils_rw {w1 : World} {G : Addr} {m : Nat} (hs : Sl w1 23 1 (some G) m m ((List.replicate m nilHd).map Hd.val)) : RwF w1 (some G) m (List.replicate m []) [G.block] := by
 refine ⟨List.replicate m nilHd, by simp [nilHd], ⟨by simpa using hs, fun h hh => ?_, ?_, fun h hh b hb => ?_⟩, fun b hb => ?_⟩
 · obtain rfl := (List.mem_replicate.1 hh).2
   exact Sl.nil _ _ _
 · refine List.pairwise_iff_getElem.2 fun i j hi hj _ b hb => ?_
   simp [nilHd] at hb
 · obtain rfl := (List.mem_replicate.1 hh).2
   simp [nilHd] at hb
 · rcases List.mem_append.1 hb with hb | hb
   · simpa using hb
   · obtain ⟨x, hx, hb⟩ := mem_fpR.1 hb
     obtain rfl := (List.mem_replicate.1 hx).2
     simp [nilHd] at hb
set_option maxHeartbeats 1000000 in
theorem reduced_any (p : Int) (n : Nat) (A : Option Addr) (c : Nat) (hs : List Hd) (w : World) (h : RdR w A hs) (hp : fieldB p = true) (hm : Mat p hs.length n (hs.map fun h : Hd => h.2.2)) (hl : hs.length ≤ 1048576) (hn : n ≤ 1048576) :
  Calls Tryz.prog 69 #[.int .i64 p, .slice A hs.length c, .int .i64 n] w (RetSS w (redM p n (hs.map fun h : Hd => h.2.2))) := by
 have hC := clones_any A c hs w h hl (fun x hx => by have := (hm.row _ (List.mem_map_of_mem hx)).1; omega)
 obtain ⟨L, hLh⟩ : ∃ L, L = hs.map fun h : Hd => h.2.2 := ⟨_, rfl⟩
 rw [← hLh] at hm hC ⊢
 obtain ⟨m, hmm⟩ : ∃ m, m = hs.length := ⟨_, rfl⟩
 rw [← hmm] at hl hm hC ⊢
 have hpb := fieldB_bounds hp
 have HC := lH hC; have HMat := lH hm; have HL := lH hm.len; clear hC hLh hmm hm h
 go_enter Tryz.func69, Tryz.ntmps69
 go_wp2_with (fail)
 refine HC.out.mono ?_
 rintro e w1 hret
 obtain ⟨A1, c1, rfl, hO1⟩ := hret.om
 rw [HL.out]
 clear hret
 go_wp2_with (at_make; refine wpList_make_Sl _ rfl _ _ _ rfl 23 Tryz.underlying52 info_ints m m rfl rfl rfl rfl (Nat.le_refl _) (by omega) (by unfold maxLen; omega) ?_; intro G w2 hs2 hG hb2)
 have hs2' : Sl w2 23 1 (some G) m m ((List.replicate m nilHd).map Hd.val) := by rw [← madeNils]; simpa using hs2
 have hK := nils_rw hs2'
 have hGl : G.block < w2.heap.size := hs2'.lt G.block (by simp)
 obtain ⟨fp, hR1, hfr, hlt⟩ := hO1.rw_
 have hR2 := hR1.below hb2
 have hmK : Mat p m 0 (List.replicate m []) := ⟨by simp, fun v hv => by obtain rfl := (List.mem_replicate.1 hv).2; exact ⟨rfl, fun x hx => by cases hx⟩⟩
 have hRd := reduction_any p n m 0 A1 c1 L fp (some G) m (List.replicate m []) [G.block] w2 hR2 hK (fun b hb hb' => by
  have := hlt b hb
  have e : b = G.block := by simpa using hb'
  omega) (fun b hb => Nat.lt_of_lt_of_le (hlt b hb) hb2.size) (fun b hb => by have e : b = G.block := by simpa using hb
                                                                              omega) hp HMat.out hmK hl hn (by omega)
 obtain ⟨e1, e2⟩ := redTo_fst p L (List.replicate m []) [] n
 rw [e1, e2] at hRd
 have hB2 : Below w.heap.size w w2 := below_trans hO1.below_ hb2 hO1.below_.size
 have hres : redM p n L = (redTo p L [] n).2.1.take (redTo p L [] n).1 := rfl
 obtain ⟨hMt, hRm⟩ := redTo_mat hp HMat.out [] (Nat.le_refl n)
 obtain ⟨R, hR⟩ : ∃ R, R = (redTo p L [] n).1 := ⟨_, rfl⟩
 obtain ⟨M, hM⟩ : ∃ M, M = (redTo p L [] n).2.1 := ⟨_, rfl⟩
 rw [← hR, ← hM] at hRd hres
 rw [← hM] at hMt
 rw [← hR] at hRm
 have HRd := lH hRd; have HRES := lH hres; have HML := lH hMt.len; have HP := lH hp; have HFR := lH hfr
 have hGw : w.heap.size ≤ G.block := Nat.le_trans hO1.below_.size hG
 clear hRd hres hMt hs2 hs2' hK hR1 hR2 hmK e1 e2 hO1 hR hM hp hfr hlt
 go_wp2_with (fail)
 refine HRd.out.mono ?_
 rintro e w3 ⟨rfl, h1, _, hk3⟩
 have hB3 : Below w.heap.size w w3 := below_keeps hB2 hk3 hB2.size fun b hb => by
  rcases hb with hb | hb
  · exact HFR.out b hb
  · have e : b = G.block := by simpa using hb
    omega
 obtain ⟨gs, hLg, hO, hf, h0⟩ := h1.om (w0 := w) HFR.out hB3
 have hgl : gs.length = m := by
  have := congrArg List.length hLg
  rw [HML.out, List.length_map] at this; omega
 have HG := lH hLg; have HGL := lH hgl
 have hsl : Sl w3 23 1 A1 m c1 (gs.map Hd.val) := by have := hO.sl; rwa [hgl] at this
 clear hLg hgl h1
 go_wp2_with (refine wpList_slice_Sl rfl (.tmp 20) none (some (.tmp 21)) (some (.tmp 22)) 52 rfl 23 Tryz.underlying52 info_ints rfl hsl 0 R R (optNone rfl) (optSome (by omega)) (optSome (by omega)) (by omega) (by omega) (Nat.le_refl _) (by have := hsl.2.1; omega) ?_; intro A2 hcut hfp _)
 go_ret
 have hT := OM.take (k := R) (m := R) (A' := A2) HG.out hO hf h0 (by rw [HGL.out]; omega) (by rw [List.map_take]; simpa using hcut) hfp
 have hlen : (M.take R).length = R := by rw [List.length_take, HML.out]; omega
 have hr := hT.ret
 rw [hlen] at hr
 rw [HRES.out]
 exact hr
end Go.Proofs.YtjompikdkhhlgaaGreatDoor
namespace Go.Proofs.YtjompikdkhhlgaaGreatDoor
def unitV (n i : Nat) : List Int := (List.range n).map fun j => if j = i then 1 else 0
def idM (n : Nat) : List (List Int) := (List.range n).map (unitV n)
theorem idM_en {n i j : Nat} (hi : i < n) (hj : j < n) : en (idM n) i j = if j = i then 1 else 0 := by simp [en, idM, unitV, List.getD, hi, hj]
theorem idM_mat {p : Int} (hp : 1 < p) (n : Nat) : Mat p n n (idM n) := by
 refine ⟨by simp [idM], fun v hv => ?_⟩
 simp only [idM, List.mem_map] at hv
 obtain ⟨i, _, rfl⟩ := hv
 refine ⟨by simp [unitV], fun x hx => ?_⟩
 simp only [unitV, List.mem_map] at hx
 obtain ⟨j, _, rfl⟩ := hx
 split <;> omega
theorem redTo_also {p : Int} (hp : fieldB p = true) {m n : Nat} {L A : List (List Int)} {T : Nat → Nat → Int} (hm : Mat p m n L) (hA : Mat p m m A) (hK : Makes p m n (en L) (en A) T) (hS : ∀ y, InSp p m (en A) m y) :
  ∀ c, c ≤ n → Mat p m m (redTo p L A c).2.2 ∧ Makes p m n (en (redTo p L A c).2.1) (en (redTo p L A c).2.2) T ∧ ∀ y, InSp p m (en (redTo p L A c).2.2) m y
 | 0, _ => ⟨hA, hK, hS⟩
 | c + 1, hc => by
   have hpb := fieldB_bounds hp
   obtain ⟨ld, hR⟩ := redTo_inv hp hm A c (by omega)
   obtain ⟨h1, h2, h3⟩ := redTo_also hp hm hA hK hS c (by omega)
   rw [redTo]
   obtain ⟨s, hs⟩ : ∃ s, s = redTo p L A c := ⟨_, rfl⟩
   rw [← hs] at hR h1 h2 h3 ⊢
   rcases colStep_cases hp (show c < n by omega) hR.mat hR.inv.le with ⟨e, _⟩ | ⟨k, iv, k1, k2, k3, _, _, k6, k7, k8⟩
   · rw [e]; exact ⟨h1, h2, h3⟩
   · rw [k7]
     have hr : s.1 < m := by omega
     have hse := step_en (p := p) (by omega) h1 hr k2 iv (fun i => en (scaleL p s.1 iv (swapL s.2.1 s.1 k)) i c)
     rw [h1.len]
     refine ⟨hse.1, ?_, fun y => ?_⟩
     · refine (h2.step (iv := iv) (f := fun i => en (scaleL p s.1 iv (swapL s.2.1 s.1 k)) i c) hr k2).congr (fun i j hi hj => ?_) (fun i j hi hj => (hse.2 i j hi hj).symm)
       rw [k6 i j hi hj, stepE_eq]
       exact stepG_congr hr k2 k8 (fun _ _ _ _ => rfl) hi hj
     · exact ((h3 y).trans fun i hi => stepG_span hr k2 k3 hi).congr fun i j hi hj => (hse.2 i j hi hj).symm
def transM (L : List (List Int)) (n : Nat) : List (List Int) := (List.range n).map fun j => L.map fun v => v.getD j 0
theorem transM_en {L : List (List Int)} {n i j : Nat} (hi : i < n) (hj : j < L.length) : en (transM L n) i j = en L j i := by simp [en, transM, List.getD, hi, hj]
theorem transM_mat {p : Int} (hp : 0 < p) {m n : Nat} {L : List (List Int)} (h : Mat p m n L) : Mat p n m (transM L n) := by
 refine ⟨by simp [transM], fun v hv => ?_⟩
 simp only [transM, List.mem_map] at hv
 obtain ⟨j, _, rfl⟩ := hv
 refine ⟨by rw [List.length_map]; exact h.len, fun x hx => ?_⟩
 simp only [List.mem_map] at hx
 obtain ⟨w, hw, rfl⟩ := hx
 exact (h.row w hw).2.getD hp j
def kerM (p : Int) (n : Nat) (L : List (List Int)) : List (List Int) := redM p L.length ((redTo p L (idM L.length) n).2.2.drop (redTo p L (idM L.length) n).1)
def perpM (p : Int) (n : Nat) (L : List (List Int)) : List (List Int) := kerM p L.length (transM L n)
def GenL (p : Int) (n : Nat) (N : (Nat → Int) → Prop) (K : List (List Int)) : Prop := Mat p K.length n K ∧ Gen p n N (en K) K.length
theorem gen_unique {p : Int} (hp : fieldB p = true) {n : Nat} {N : (Nat → Int) → Prop} {K K' : List (List Int)} (h : GenL p n N K) (h' : GenL p n N K') : redM p n K = redM p n K' := by
 have hpb := fieldB_bounds hp
 have r1 := redM_spec hp h.1
 have r2 := redM_spec hp h'.1
 refine RedL.unique (by omega) r1.1 r2.1 fun x => ?_
 rw [r1.2.1 x, r2.2.1 x]
 exact ⟨h.2.nul h'.2 x, h'.2.nul h.2 x⟩
theorem perp_gen {p : Int} (hp : fieldB p = true) {n : Nat} {L : List (List Int)} (hm : Mat p L.length n L) :
  GenL p n (NulL p n L) ((redTo p (transM L n) (idM n) L.length).2.2.drop (redTo p (transM L n) (idM n) L.length).1) := by
 have hpb := fieldB_bounds hp
 have hT := transM_mat (by omega) hm
 obtain ⟨ld, hR⟩ := redTo_inv hp hT (idM n) L.length (Nat.le_refl _)
 obtain ⟨h1, h2, h3⟩ := redTo_also hp hT (idM_mat (by omega) n) (T := en (transM L n)) (fun i hi k hk => by
   rw [sm_congr (g := fun l => en (transM L n) l k * (if l = i then 1 else 0)) (fun l hl => by rw [idM_en hi hl, Int.mul_comm]), dot_delta hi (fun l => en (transM L n) l k), Int.sub_self]
   exact Int.dvd_zero p) (fun y => ⟨y, fun l hl => by
   rw [sm_congr (g := fun i => y i * (if i = l then 1 else 0)) (fun i hi => by rw [idM_en hi hl]; congr 1; by_cases e : l = i <;> simp [e, eq_comm]), dot_delta hl, Int.sub_self]
   exact Int.dvd_zero p⟩) L.length (Nat.le_refl _)
 have hg := makes_gen hR.inv h2 h3
 obtain ⟨s, hs⟩ : ∃ s, s = redTo p (transM L n) (idM n) L.length := ⟨_, rfl⟩
 rw [← hs] at hg h1 hR ⊢
 have hd : ∀ i j, en (s.2.2.drop s.1) i j = en s.2.2 (s.1 + i) j := by
  intro i j; simp [en, List.getD]
 refine ⟨⟨rfl, fun v hv => h1.row v (List.mem_of_mem_drop hv)⟩, ?_⟩
 have hN : ∀ y, (∀ q, q < L.length → p ∣ sm n fun l => y l * en (transM L n) l q) ↔ NulL p n L y := by
  intro y
  constructor
  · intro h i hi
    rw [sm_congr (g := fun l => y l * en (transM L n) l i) (fun l hl => by rw [transM_en hl hi, Int.mul_comm])]; exact h i hi
  · intro h q hq
    rw [sm_congr (g := fun l => en L q l * y l) (fun l hl => by rw [transM_en hl hq, Int.mul_comm])]; exact h q hq
 have hlen : (s.2.2.drop s.1).length = n - s.1 := by rw [List.length_drop, h1.len]
 rw [hlen]
 refine ⟨fun k hk => ?_, fun x hx y hy => hg.2 x (fun i hi => ?_) y ((hN y).2 hy)⟩
 · have := (hN _).1 (hg.1 k hk)
   have e : en (s.2.2.drop s.1) k = fun j => en s.2.2 (s.1 + k) j := by funext j; exact hd k j
   rw [e]; exact this
 · have := hx i hi
   rw [sm_congr (g := fun j => en s.2.2 (s.1 + i) j * x j) (fun j _ => by rw [hd])] at this
   exact this
theorem perpM_eq (p : Int) (n : Nat) (L : List (List Int)) : perpM p n L = redM p n ((redTo p (transM L n) (idM n) L.length).2.2.drop (redTo p (transM L n) (idM n) L.length).1) := by
 have : (transM L n).length = n := by simp [transM]
 unfold perpM kerM
 rw [this]
def leadV (v : List Int) : Nat := v.findIdx fun a => a != 0
def nvL (p : Int) (n : Nat) (R : List (List Int)) (j : Nat) : Nat → List Int
 | 0 => (List.replicate n 0).set j 1
 | i + 1 => (nvL p n R j i).set (leadV (R.getD i [])) (-(en R i j) % p)
def freeCols (n : Nat) (R : List (List Int)) : List Nat := (List.range n).filter fun j => R.all fun v => leadV v != j
def nvecs (p : Int) (n : Nat) (R : List (List Int)) : List (List Int) := (freeCols n R).map fun j => nvL p n R j R.length
def nullM (p : Int) (n : Nat) (L : List (List Int)) : List (List Int) := redM p n (nvecs p n (redM p n L))
end Go.Proofs.YtjompikdkhhlgaaGreatDoor
namespace Go.Proofs.YtjompikdkhhlgaaGreatDoor
theorem leadV_eq {v : List Int} {c : Nat} (hc : c < v.length) (h : v.getD c 0 ≠ 0) (hb : ∀ j, j < c → v.getD j 0 = 0) : leadV v = c := by
 unfold leadV
 rw [List.findIdx_eq hc]
 refine ⟨?_, fun j hj => ?_⟩
 · simp [List.getD, hc] at h; simp [h]
 · have := hb j hj
   have hjl : j < v.length := by omega
   simp [List.getD, hjl] at this; simp [this]
theorem nvL_length (p : Int) (n : Nat) (R : List (List Int)) (j : Nat) : ∀ i, (nvL p n R j i).length = n
 | 0 => by simp [nvL]
 | i + 1 => by rw [nvL, List.length_set]; exact nvL_length p n R j i
theorem nvL_res {p : Int} (hp : 1 < p) (n : Nat) (R : List (List Int)) (j : Nat) : ∀ i, Res p (nvL p n R j i)
 | 0 => by unfold nvL; exact (Res.replicate (by omega) n).set ⟨by omega, hp⟩ j
 | i + 1 => by rw [nvL]; exact (nvL_res hp n R j i).set ⟨Int.emod_nonneg _ (by omega), Int.emod_lt_of_pos _ (by omega)⟩ _
theorem red_lead {p : Int} {n : Nat} {R : List (List Int)} (h : Mat p R.length n R) {ld : Nat → Nat} (hr : Red p n (en R) R.length ld) {i : Nat} (hi : i < R.length) : leadV (R.getD i []) = ld i := by
 refine leadV_eq (by rw [(h.get hi).1]; exact hr.lt i hi) ?_ fun j hj => hr.before i j hi hj
 have := hr.one i hi
 unfold en at this
 rw [this]; decide
theorem nvL_en {p : Int} {n : Nat} {R : List (List Int)} (h : Mat p R.length n R) {ld : Nat → Nat} (hr : Red p n (en R) R.length ld) {j : Nat} (hj : j < n) (hf : ∀ i, i < R.length → ld i ≠ j) :
  ∀ i, i ≤ R.length → ∀ q, q < n → p ∣ (nvL p n R j i).getD q 0 - ((if q = j then 1 else 0) - sm i fun t => (if q = ld t then 1 else 0) * en R t j)
 | 0, _, q, hq => by
   rw [nvL, getD_set _ _ _ _ _ (by simpa using hj)]
   simp only [sm, Int.sub_zero]
   split
   · simp
   · simp [List.getD, hq]
 | i + 1, hi, q, hq => by
   have ih := nvL_en h hr hj hf i (by omega) q hq
   rw [nvL, red_lead h hr (by omega), getD_set _ _ _ _ _ (by rw [nvL_length]; exact hr.lt i (by omega)), sm]
   by_cases e : q = ld i
   · subst e
     rw [if_pos rfl, if_neg (hf i (by omega)), if_pos rfl, sm_congr (g := fun _ => 0) (fun t ht => by rw [if_neg (by have := hr.mono t i ht (by omega); omega), Int.zero_mul]), sm_zero]
     have := dvd_emod_sub p (-(en R i j))
     simpa using this
   · rw [if_neg e, if_neg e, Int.zero_mul, Int.add_zero]
     exact ih
theorem nvecs_gen {p : Int} (hp : 1 < p) {n : Nat} {R : List (List Int)} (h : RedL p n R) : GenL p n (NulL p n R) (nvecs p n R) := by
 obtain ⟨hm, ld, hr⟩ := h
 have hfree : ∀ j, j ∈ freeCols n R ↔ j < n ∧ ∀ i, i < R.length → ld i ≠ j := by
  intro j
  unfold freeCols
  rw [List.mem_filter, List.mem_range, List.all_eq_true]
  refine and_congr_right fun _ => ⟨fun hh i hi => ?_, fun hh v hv => ?_⟩
  · have hv : R.getD i [] ∈ R := by
     have : R.getD i [] = R[i] := by simp [List.getD, hi]
     rw [this]; exact List.getElem_mem hi
    have := hh _ hv
    rw [red_lead hm hr hi] at this
    simpa using this
  · obtain ⟨i, hi, rfl⟩ := List.getElem_of_mem hv
    have := hh i hi
    rw [← red_lead hm hr hi] at this
    have e : R.getD i [] = R[i] := by simp [List.getD, hi]
    rw [e] at this
    simpa using this
 have hlen : (nvecs p n R).length = (freeCols n R).length := by simp [nvecs]
 have hget : ∀ k, k < (freeCols n R).length → (nvecs p n R).getD k [] = nvL p n R ((freeCols n R).getD k 0) R.length := by
  intro k hk; simp [nvecs, List.getD, hk]
 have hmem : ∀ k, k < (freeCols n R).length → (freeCols n R).getD k 0 ∈ freeCols n R := by
  intro k hk
  have : (freeCols n R).getD k 0 = (freeCols n R)[k] := by simp [List.getD, hk]
  rw [this]; exact List.getElem_mem hk
 refine ⟨⟨rfl, fun v hv => ?_⟩, ?_⟩
 · simp only [nvecs, List.mem_map] at hv
   obtain ⟨j, _, rfl⟩ := hv
   exact ⟨nvL_length p n R j _, nvL_res hp n R j _⟩
 · rw [hlen]
   refine hr.gen (fun k => (freeCols n R).getD k 0) (fun k hk => ((hfree _).1 (hmem k hk)).1) (fun k hk j hj => ?_) fun j hj hl => ?_
   · have hf := (hfree _).1 (hmem k hk)
     have := nvL_en hm hr hf.1 hf.2 R.length (Nat.le_refl _) j hj
     unfold en
     rw [hget k hk]
     exact this
   · have : j ∈ freeCols n R := (hfree j).2 ⟨hj, hl⟩
     obtain ⟨k, hk, e⟩ := List.getElem_of_mem this
     exact ⟨k, hk, by simp [List.getD, hk, e]⟩
theorem GenL.congr {p : Int} {n : Nat} {N N' : (Nat → Int) → Prop} (hN : ∀ x, N x ↔ N' x) {K : List (List Int)} (h : GenL p n N K) : GenL p n N' K :=
 ⟨h.1, fun k hk => (hN _).1 (h.2.1 k hk), fun x hx y hy => h.2.2 x hx y ((hN y).2 hy)⟩
end Go.Proofs.YtjompikdkhhlgaaGreatDoor
namespace Go.Proofs.YtjompikdkhhlgaaGreatDoor
def leadTo (R : List (List Int)) (n : Nat) : Nat → List Int
 | 0 => List.replicate n (-1)
 | i + 1 => (leadTo R n i).set (leadV (R.getD i [])) (i : Nat)
@[simp] theorem leadTo_length (R : List (List Int)) (n : Nat) : ∀ i, (leadTo R n i).length = n
  | 0 => by simp [leadTo]
  | i + 1 => by simp [leadTo, leadTo_length R n i]
theorem leadTo_get (R : List (List Int)) {n : Nat} : ∀ (i j : Nat), j < n → (0 ≤ (leadTo R n i).getD j 0 ↔ ∃ k, k < i ∧ leadV (R.getD k []) = j)
 | 0, j, hj => by
   have : (leadTo R n 0).getD j 0 = -1 := by simp [leadTo, List.getD, hj]
   rw [this]
   exact ⟨fun h => by omega, fun ⟨k, h, _⟩ => by omega⟩
 | i + 1, j, hj => by
   have ih := leadTo_get R i j hj
   rw [leadTo]
   by_cases hl : leadV (R.getD i []) = j
   · have : ((leadTo R n i).set (leadV (R.getD i [])) (i : Nat)).getD j 0 = (i : Nat) := by rw [hl]; exact getD_set_self (by simpa using hj)
     rw [this]
     exact ⟨fun _ => ⟨i, by omega, hl⟩, fun _ => by omega⟩
   · rw [getD_set_ne' hl, ih]
     constructor
     · rintro ⟨k, h1, h2⟩; exact ⟨k, by omega, h2⟩
     · rintro ⟨k, h1, h2⟩
       by_cases hk : k = i
       · subst hk; exact absurd h2 hl
       · exact ⟨k, by omega, h2⟩
def freeB (R : List (List Int)) (j : Nat) : Bool := R.all fun v => leadV v != j
theorem freeB_lead {R : List (List Int)} {n j : Nat} (hj : j < n) : freeB R j = true ↔ ¬ 0 ≤ (leadTo R n R.length).getD j 0 := by
 rw [leadTo_get R R.length j hj]
 unfold freeB
 rw [List.all_eq_true]
 constructor
 · rintro h ⟨k, hk, he⟩
   have := h (R.getD k []) (by rw [getD_lt hk]; exact List.getElem_mem hk)
   rw [he] at this
   simp at this
 · intro h v hv
   obtain ⟨k, hk, rfl⟩ := List.getElem_of_mem hv
   simp only [bne_iff_ne, ne_eq]
   intro he
   exact h ⟨k, hk, by rw [getD_lt hk]; exact he⟩
def nvTo (p : Int) (n : Nat) (R : List (List Int)) (j : Nat) : List (List Int) := ((List.range j).filter (freeB R)).map fun j => nvL p n R j R.length
theorem nvTo_succ (p : Int) (n : Nat) (R : List (List Int)) (j : Nat) : nvTo p n R (j + 1) = nvTo p n R j ++ (if freeB R j then [nvL p n R j R.length] else []) := by
 unfold nvTo
 rw [List.range_succ, List.filter_append, List.map_append]
 congr 1
 by_cases h : freeB R j = true
 · simp [h]
 · simp [h]
theorem nvTo_end (p : Int) (n : Nat) (R : List (List Int)) : nvTo p n R n = nvecs p n R := rfl
theorem nvTo_length (p : Int) (n : Nat) (R : List (List Int)) (j : Nat) : (nvTo p n R j).length ≤ j := by
 unfold nvTo
 rw [List.length_map]
 have := List.length_filter_le (freeB R) (List.range j)
 simpa using this
theorem nvTo_mat {p : Int} (hp : 1 < p) (n : Nat) (R : List (List Int)) (j : Nat) : Mat p (nvTo p n R j).length n (nvTo p n R j) := by
 refine ⟨rfl, fun v hv => ?_⟩
 obtain ⟨k, _, rfl⟩ := List.mem_map.1 hv
 exact ⟨nvL_length p n R k _, nvL_res hp n R k _⟩
theorem lead_lt {p : Int} {n : Nat} {R : List (List Int)} (h : RedL p n R) {i : Nat} (hi : i < R.length) : leadV (R.getD i []) < n := by
 obtain ⟨hm, ld, hr⟩ := h
 rw [red_lead hm hr hi]
 exact hr.lt i hi
theorem leadV_step {l : List Int} {k : Nat} {x : Int} (h : l[k]? = some x) (hx : x = 0) : (l.take k).all (· == 0) = true → (l.take (k + 1)).all (· == 0) = true := by
 intro h'
 rw [List.take_add_one, h]
 simp [hx] at h' ⊢
 exact h'
theorem leadV_at {l : List Int} {k : Nat} (hk : k ≤ l.length) (hz : (l.take k).all (· == 0) = true) (hx : k < l.length → l.getD k 0 ≠ 0) : leadV l = k := by
 unfold leadV
 have hz' : ∀ j, j < k → l.getD j 0 = 0 := by
  intro j hj
  have := List.all_eq_true.1 hz (l.getD j 0) (by
   rw [getD_lt (show j < l.length by omega)]
   rw [show l[j] = (l.take k)[j]'(by simp; omega) by simp]
   exact List.getElem_mem _)
  simpa using this
 by_cases hlt : k < l.length
 · rw [List.findIdx_eq hlt]
   refine ⟨by have := hx hlt; rw [getD_lt hlt] at this; simpa using this, fun j hj => ?_⟩
   have := hz' j hj
   rw [getD_lt (by omega)] at this
   simpa using this
 · obtain rfl : k = l.length := by omega
   rw [List.findIdx_eq_length_of_false]
   intro x hxm
   have := List.all_eq_true.1 hz x (by rw [List.take_length]; exact hxm)
   simp at this ⊢
   exact this
open Go.RowKit
set_option maxHeartbeats 400000 in
theorem spLead_any (A : Option Addr) (c n : Nat) (l : List Int) (w : World) (h : RdI w A l) (hn : l.length = n) (hl : n ≤ 17592186044416) :
  Calls Tryz.prog 38 #[.slice A n c] w fun e w' => e = .returned (.int .i64 (leadV l : Nat)) ∧ w = w' := by
 have HN := lH hn; clear hn
 go_enter Tryz.func38, Tryz.ntmps38
 go_wp2_with (fail)
 go_loop [3] (fun v => ∃ k : Nat, k ≤ n ∧ v = .int .i64 k ∧ (l.take k).all (· == 0) = true) (fun v => n - (intOf v).toNat)
 case atStart => exact ⟨0, Nat.zero_le _, rfl, by simp⟩
 case round =>
  obtain ⟨k, hk, rfl, hz⟩ := hrel
  have HZ := lH hz; clear hz
  by_cases hlt : k < n
  · obtain ⟨ad, x, rfl, hx, hc⟩ := h.at_ (j := k) (by rw [HN.out]; exact hlt)
    have HX := lH hx
    have hkI : (k : Int) < (n : Int) := by omega
    clear hx h
    by_cases hx0 : x = 0
    · subst hx0
      have hs := leadV_step HX.out rfl HZ.out
      have HS := lH hs; clear hs
      go_wp2_with (fail)
      go_round
      case rel => exact ⟨k + 1, by omega, by go_num, HS.out⟩
      case measure => simp [intOf]; omega
    · have hx1 : (x == 0) = false := by rw [beq_eq_false_iff_ne]; exact hx0
      have he := leadV_at (l := l) (k := k) (by rw [HN.out]; omega) HZ.out (fun _ => by rw [getD_of_some HX.out]; exact hx0)
      have HE := lH he; clear he hx0
      go_wp2_with (fail)
      go_ret
      exact ⟨ret_int (by rw [HE.out]), rfl⟩
  · obtain rfl : n = k := by omega
    have he := leadV_at (l := l) (k := n) (by rw [HN.out]; omega) HZ.out (fun h => absurd h (by rw [HN.out]; omega))
    have HE := lH he; clear he h
    go_wp2_with (fail)
    go_ret
    exact ⟨ret_int (by rw [HE.out]), rfl⟩
set_option maxHeartbeats 400000 in
theorem fdNeg_any (p a : Int) (w : World) (h0 : 0 < p) (h97 : p ≤ 97) (ha : 0 ≤ a) (ha' : a < p) :
  Calls Tryz.prog 52 #[.int .i64 p, .int .i64 a] w fun e w' => e = .returned (.int .i64 (-a % p)) ∧ w = w' := by
 have hz : (p == 0) = false := by rw [beq_eq_false_iff_ne]; omega
 have he : (p - a) % p = -a % p := by rw [show p - a = -a + p by omega, Int.add_emod_right]
 have HE := lH he; clear he
 go_enter Tryz.func52, Tryz.ntmps52
 go_wp2_with (fail)
 go_ret
 exact ⟨ret_int HE.out, rfl⟩
theorem RetSS.mono {w0 w w' : World} {L : List (List Int)} {e : Ending} (h : RetSS w L e w') (hb : Below w0.heap.size w0 w) : RetSS w0 L e w' := by
 obtain ⟨A, cap, hs, rfl, hL, hO, hf, h0⟩ := h
 exact ⟨A, cap, hs, rfl, hL, hO, fun b hb' => Nat.le_trans hb.size (hf b hb'), below_trans hb h0 hb.size⟩
theorem made_is {w : World} {G : Addr} {n : Nat} (h : Sl w tInt 1 (some G) n n ((madeCells (Value.int .i64 0).cells (n * 1)).toList.take (n * 1))) : IS w (some G) n (List.replicate n 0) := by
 unfold IS; rw [← madeZeros]; simpa using h
theorem is_cell {w : World} {G : Addr} {c : Nat} {l : List Int} (h : IS w (some G) c l) {j : Nat} (hj : j < l.length) : ∃ y, w.cell? (G.add j) = some (.int .i64 y) ∧ w.frozen? (G.add j) = false := by
 obtain ⟨ad, y, hA, _, _, hc, hf⟩ := h.at_ hj
 obtain rfl := Option.some.inj hA
 exact ⟨y, hc, hf j⟩
set_option maxRecDepth 100000 in
set_option maxHeartbeats 4000000 in
theorem spNull_any (p : Int) (n : Nat) (A : Option Addr) (c : Nat) (hs : List Hd) (w : World) (h : RdR w A hs) (hp : fieldB p = true) (hm : Mat p hs.length n (hs.map fun h : Hd => h.2.2)) (hl : hs.length ≤ 1048576) (hn : n ≤ 1048576) :
  Calls Tryz.prog 34 #[.int .i64 p, .int .i64 n, .slice A hs.length c] w (RetSS w (nullM p n (hs.map fun h : Hd => h.2.2))) := by
 have hC := spReduce_any p n A c hs w h hp hm hl hn
 obtain ⟨hred, _, hRl⟩ := redM_spec hp (L := hs.map fun h : Hd => h.2.2) (by rw [List.length_map]; exact hm)
 rw [List.length_map] at hRl
 obtain ⟨R, hR⟩ : ∃ R, R = redM p n (hs.map fun h : Hd => h.2.2) := ⟨_, rfl⟩
 have hres : nullM p n (hs.map fun h : Hd => h.2.2) = redM p n (nvecs p n R) := by rw [hR]; rfl
 rw [← hR] at hC hred hRl
 rw [hres]
 have hpb := fieldB_bounds hp
 obtain ⟨r, hr⟩ : ∃ r, r = R.length := ⟨_, rfl⟩
 rw [← hr] at hRl
 have hRm : Mat p r n R := by rw [hr]; exact hred.1
 have HC := lH hC; have HRED := lH hred; have HR := lH hr; have HRM := lH hRm; have HP := lH hp; clear hC hred hR hres hr hRm hm h hp
 go_enter Tryz.func34, Tryz.ntmps34
 go_wp2_with (fail)
 refine HC.out.mono ?_
 rintro e w1 hret
 obtain ⟨A1, c1, rfl, hO1⟩ := hret.om
 rw [← HR.out]
 clear hret
 obtain ⟨gs, hLg, hRd⟩ := hO1.rdr
 have hgl : gs.length = r := by rw [HR.out, hLg, List.length_map]
 have hb01 := hO1.below_
 have HLG := lH hLg; have HGL := lH hgl; clear hLg hgl hO1
 go_wp2_with (at_make; refine wpList_make_Sl _ rfl _ _ _ rfl 3 Tryz.underlying23 info_int n n rfl rfl rfl rfl (Nat.le_refl _) (by omega) (by unfold maxLen; omega) ?_; intro G w2 hs2 hG hb2)
 have his0 : IS w2 (some G) n (List.replicate n 0) := by unfold IS; rw [← madeZeros]; simpa using hs2
 clear hs2
 go_loopw [25] (fun i wr => ∃ k : Nat, k ≤ n ∧ i = .int .i64 k ∧ IS wr (some G) n ((List.replicate n (-1 : Int)).take k ++ (List.replicate n (0 : Int)).drop k) ∧ Below w1.heap.size w1 wr) (fun i _ => n - (intOf i).toNat)
 case atStart => exact ⟨0, Nat.zero_le _, rfl, by simpa using his0, hb2⟩
 case round =>
  clear his0
  obtain ⟨k, hk, rfl, his, hb⟩ := hrel
  have hlen : ((List.replicate n (-1 : Int)).take k ++ (List.replicate n (0 : Int)).drop k).length = n := by simp; omega
  by_cases hlt : k < n
  · obtain ⟨ad', y, hA', hy, hlt', hc', hf'⟩ := his.at_ (j := k) (by rw [hlen]; exact hlt)
    obtain rfl := Option.some.inj hA'
    have hf := hf' k
    have his' := his.set (ad := G) rfl (j := k) (-1) (by rw [hlen]; exact hlt)
    rw [take_append_step (by simp) (show (List.replicate n (-1 : Int))[k]? = some (-1) by simp [hlt])] at his'
    have HI := lH his'
    have hb' := lH (hb.setCell (p := G.add k) (by rw [block_of_add]; exact hG) (.int .i64 (-1)))
    have hkI : (k : Int) < (n : Int) := by omega
    clear his' hf' hA' his hy hlen
    go_wp2_with (fail)
    go_roundw
    case rel => exact ⟨k + 1, by omega, by go_num, HI.out, hb'.out⟩
    case measure => simp [intOf]; omega
  · obtain rfl : n = k := by omega
    have his1 : IS wr (some G) n (leadTo R n 0) := by
     have := his
     rwa [List.take_of_length_le (by simp), List.drop_of_length_le (by simp), List.append_nil] at this
    clear his hlen
    go_wp2_with (fail)
    go_loopw [34] (fun i wr => ∃ k : Nat, k ≤ r ∧ i = .int .i64 k ∧ IS wr (some G) n (leadTo R n k) ∧ Below w1.heap.size w1 wr) (fun i _ => r - (intOf i).toNat)
    case atStart => exact ⟨0, Nat.zero_le _, rfl, his1, hb⟩
    case round =>
     clear his1 hb
     obtain ⟨k, hk, rfl, his, hb⟩ := hrel
     by_cases hlt : k < r
     · obtain ⟨ad, B, d, l, rfl, hx, hc, hri⟩ := (hRd.below hb).at_ (k := k) (by rw [HGL.out]; exact hlt)
       have hlR : R.getD k [] = l := by rw [HLG.out]; exact getD_map_hd hx
       have hll : l.length = n := by rw [← hlR]; exact (HRM.out.get hlt).1
       have hld : leadV l < n := by rw [← hlR]; exact lead_lt HRED.out (by rw [← HR.out]; exact hlt)
       rw [hll] at hc
       obtain ⟨ad', y, hA', hy, hlt', hc', hf'⟩ := his.at_ (j := leadV l) (by rw [leadTo_length]; exact hld)
       obtain rfl := Option.some.inj hA'
       have hf := hf' (leadV l)
       have his' := his.set (ad := G) rfl (j := leadV l) ((k : Nat) : Int) (by rw [leadTo_length]; exact hld)
       have hst : (leadTo R n k).set (leadV l) ((k : Nat) : Int) = leadTo R n (k + 1) := by rw [leadTo, hlR]
       rw [hst] at his'
       have hC := spLead_any B d n l wr hri hll (by omega)
       obtain ⟨ld, hldd⟩ : ∃ ld, ld = leadV l := ⟨_, rfl⟩
       rw [← hldd] at hld hc' hf his' hC
       have HCC := lH hC; have HI := lH his'
       have hb' := lH (hb.setCell (p := G.add ld) (by rw [block_of_add]; exact hG) (.int .i64 ((k : Nat) : Int)))
       have hkI : (k : Int) < (r : Int) := by omega
       have hldI : (ld : Int) < (n : Int) := by omega
       clear his' hst hf' hA' his hy hldd hC hx hlR hll hri hb
       go_wp2_with (fail)
       refine HCC.out.mono ?_
       rintro e w' ⟨rfl, rfl⟩
       go_wp2_with (fail)
       go_roundw
       case rel => exact ⟨k + 1, by omega, by go_num, HI.out, hb'.out⟩
       case measure => simp [intOf]; omega
     · obtain rfl : r = k := by omega
       have hRd3 := hRd.below hb
       have hbw3 := below_trans hb01 hb hb01.size
       obtain ⟨w3, hw3⟩ : ∃ w3, w3 = wr := ⟨_, rfl⟩
       rw [← hw3] at his hRd3 hbw3
       have hO3 : OM w3 wr none 0 [] := by rw [hw3]; exact OM.nil wr
       clear hRd hb hw3
       go_wp2_with (fail)
       go_loopw [13, 12] (fun jv ov wr => ∃ (j : Nat) (Ao : Option Addr) (co : Nat), j ≤ n ∧ jv = .int .i64 j ∧ ov = .slice Ao (nvTo p n R j).length co ∧ OM w3 wr Ao co (nvTo p n R j)) (fun jv _ _ => n - (intOf jv).toNat)
       case atStart => exact ⟨0, none, 0, Nat.zero_le _, rfl, rfl, hO3⟩
       case round =>
        clear hO3
        obtain ⟨j, Ao, co, hj, rfl, rfl, hO⟩ := hrel
        by_cases hjn : j < n
        case neg =>
         obtain rfl : n = j := by omega
         obtain ⟨os, hLo, hRo⟩ := hO.rdr
         have hmo := nvTo_mat (p := p) (by omega) n R n
         have hlo := nvTo_length p n R n
         have hol : os.length = (nvTo p n R n).length := by rw [hLo, List.length_map]
         rw [hLo] at hmo
         rw [List.length_map] at hmo
         have hS := spReduce_any p n Ao co os wr hRo HP.out hmo (by omega) (by omega)
         rw [← hLo, hol, nvTo_end] at hS
         have HS := lH hS
         have hbww := lH (below_trans hbw3 hO.below_ hbw3.size)
         rw [nvTo_end]
         clear hS hLo hol hmo hlo hRo hO hRd3 his
         go_wp2_with (fail)
         refine HS.out.mono ?_
         rintro e w' hret
         have HRT := lH (hret.mono hbww.out)
         obtain ⟨A9, c9, rfl, _⟩ := hret.om
         clear hret
         go_wp2_with (fail)
         go_ret
         exact HRT.out
        case pos =>
         have hisj := his.below hO.below_
         obtain ⟨ad', y, hA', hy, _, hc', _⟩ := hisj.at_ (j := j) (by rw [leadTo_length]; exact hjn)
         obtain rfl := Option.some.inj hA'
         have hyd : (leadTo R n r).getD j 0 = y := by simp [List.getD, hy]
         have hfree := freeB_lead (R := R) hjn
         rw [← HR.out, hyd] at hfree
         have hjI : (j : Int) < (n : Int) := by omega
         have hsucc := nvTo_succ p n R j
         by_cases hy0 : 0 ≤ y
         · have hfb : freeB R j = false := by
            rw [Bool.eq_false_iff]; intro hh; exact hfree.1 hh hy0
           rw [hfb] at hsucc
           have hs2 : nvTo p n R (j + 1) = nvTo p n R j := by rw [hsucc]; simp
           have HS2 := lH hs2; have HO := lH hO; clear hs2 hsucc hfb hfree hyd hy hisj hO hRd3 his hA'
           go_wp2_with (fail)
           go_roundw
           case rel => exact ⟨j + 1, Ao, co, by omega, by go_num, by rw [HS2.out], by rw [HS2.out]; exact HO.out⟩
           case measure => simp [intOf]; omega
         · have hfb : freeB R j = true := hfree.2 hy0
           rw [hfb] at hsucc
           have hs2 : nvTo p n R (j + 1) = nvTo p n R j ++ [nvL p n R j r] := by rw [hsucc, HR.out]; rfl
           have HS2 := lH hs2
           have hRdj := hRd3.below hO.below_
           have hlo := nvTo_length p n R j
           obtain ⟨m0, hm0⟩ : ∃ m0, m0 = (nvTo p n R j).length := ⟨_, rfl⟩
           rw [← hm0] at hlo
           rw [← hm0]
           obtain ⟨os, hLo, hOo, hfo, h0o⟩ := hO
           have hol : os.length = m0 := by rw [hm0, hLo, List.length_map]
           obtain ⟨wr0, hwr0⟩ : ∃ wr0, wr0 = wr := ⟨_, rfl⟩
           rw [← hwr0] at hOo h0o hRdj hc'
           have HLO := lH hLo; have HOL := lH hol; have HM0 := lH hm0; have HWR := lH hwr0
           rw [hwr0] at hc'
           clear hs2 hsucc hfb hfree hyd hy hisj his hA' hLo hol hm0 hRd3
           go_wp2_with (at_make; refine wpList_make_Sl _ rfl _ _ _ rfl 3 Tryz.underlying23 info_int n n rfl rfl rfl rfl (Nat.le_refl _) (by omega) (by unfold maxLen; omega) ?_; intro Gv w4 hs4 hGv hb4; have hisv := made_is hs4; obtain ⟨yv, hcv, hfv⟩ := is_cell hisv (j := j) (by rw [List.length_replicate]; exact hjn); have HISV := lH hisv; clear hs4 hisv)
           rw [← hwr0] at hGv hb4
           have hisv1 := HISV.out.set (ad := Gv) rfl (j := j) 1 (by simp; exact hjn)
           have hb5 := hb4.setCell (p := Gv.add j) (by rw [block_of_add]; exact hGv) (.int .i64 1)
           have HV1 := lH (show IS (w4.setCell (Gv.add j) (.int .i64 1)) (some Gv) n (nvL p n R j 0) from hisv1)
           have HB5 := lH hb5; clear hisv1 hb5 hwr0 hc' hcv hfv
           go_loopw [62] (fun iv wr5 => ∃ i : Nat, i ≤ r ∧ iv = .int .i64 i ∧ IS wr5 (some Gv) n (nvL p n R j i) ∧ Below wr0.heap.size wr0 wr5) (fun iv _ => r - (intOf iv).toNat)
           case atStart => exact ⟨0, Nat.zero_le _, rfl, HV1.out, HB5.out⟩
           case round =>
            obtain ⟨i, hi, rfl, hiv, hbi⟩ := hrel
            by_cases hir : i < r
            · obtain ⟨ad, B, d, l, rfl, hx, hc, hri⟩ := (hRdj.below hbi).at_ (k := i) (by rw [HGL.out]; exact hir)
              have hlR : R.getD i [] = l := by rw [HLG.out]; exact getD_map_hd hx
              have hll : l.length = n := by rw [← hlR]; exact (HRM.out.get hir).1
              have hld : leadV l < n := by rw [← hlR]; exact lead_lt HRED.out (by rw [← HR.out]; exact hir)
              rw [hll] at hc
              obtain ⟨bd, x, hB, hxx, hcx⟩ := hri.at_ (j := j) (by rw [hll]; exact hjn)
              have hxe : x = en R i j := by unfold en; rw [hlR]; simp [List.getD, hxx]
              have hxb := HRM.out.en (by omega) hir j
              rw [← hxe] at hxb
              obtain ⟨adv, yv, hAv, hyv, _, hcv, hfv'⟩ := hiv.at_ (j := leadV l) (by rw [nvL_length]; exact hld)
              obtain rfl := Option.some.inj hAv
              have hfv := hfv' (leadV l)
              have hisv' := hiv.set (ad := Gv) rfl (j := leadV l) (-x % p) (by rw [nvL_length]; exact hld)
              have hst : (nvL p n R j i).set (leadV l) (-x % p) = nvL p n R j (i + 1) := by rw [nvL, hlR, hxe]
              rw [hst] at hisv'
              have hC1 := spLead_any B d n l wr.drew hri hll (by omega)
              obtain ⟨ld, hldd⟩ : ∃ ld, ld = leadV l := ⟨_, rfl⟩
              rw [← hldd] at hld hcv hfv hisv' hC1
              have C1 := lH (stillC2 hC1)
              have C2 := lH (stillC2 (fdNeg_any p x wr.drew (by omega) (by omega) hxb.1 hxb.2))
              have HI := lH hisv'.drew
              have hb' := lH (below_drewN (hbi.setCell (p := Gv.add ld) (by rw [block_of_add]; exact hGv) (.int .i64 (-x % p))) 1)
              have hiI : (i : Int) < (r : Int) := by omega
              have hldI : (ld : Int) < (n : Int) := by omega
              subst hB
              clear hisv' hst hfv' hAv hiv hyv hldd hC1 hx hlR hll hri hxx hxe hbi
              go_wp2_with (fail)
              refine wp_region_still_tail 12 (by kernel_rfl) (by kernel_rfl) ?_
              simp only [List.take_succ_cons, List.take_zero, List.drop_succ_cons, List.drop_zero]
              change wpStill _ _ wr.drew (fun a' => wpList _ _ _ _ a' wr.drew) _ _
              repeat still_step
              still_call C1.out
              repeat still_step
              still_call C2.out
              repeat still_step
              refine wpStill_nil ?_
              go_wp2_with (fail)
              go_roundw
              case rel => exact ⟨i + 1, by omega, by go_num, HI.out, hb'.out⟩
              case measure => simp [intOf]; omega
            · obtain rfl : r = i := by omega
              have hsl : Sl (wr.alloc (.cells #[.slice (some Gv) n n] 23)) 23 1 Ao m0 co (os.map Hd.val) := by
               have := (hOo.sl.below hbi).alloc (.cells #[.slice (some Gv) n n] 23)
               rwa [HOL.out] at this
              go_wp2_with (at_builtin; refine wpList_append_Sl _ rfl _ _ _ rfl 23 Tryz.underlying52 info_ints rfl (by omega) rfl hsl rfl (news := [.slice (some Gv) n n]) rfl (Sl.rdc (Sl.laid wr 23 1 1 #[.slice (some Gv) n n] (by unfold maxLen; omega) rfl)) (by intro u hu; simp at hu; subst hu; rfl) (by unfold maxLen; omega) (by omega) ?_; intro A6 c6 w6 hs6 hA6 hk6)
              have hal : Below wr.heap.size wr (wr.alloc (.cells #[.slice (some Gv) n n] 23)) := (Below.refl _ _).alloc (Nat.le_refl _) _
              have hOM2 := OM.snoc (w1 := wr.alloc (.cells #[.slice (some Gv) n n] 23)) (l := nvL p n R j r) (B := some Gv) (c := n) HLO.out hOo hfo h0o (below_trans hbi hal hbi.size) (hiv.below hal) (fun b hb => by simp at hb; subst hb; exact hGv) (by rw [HOL.out]) (by rw [nvL_length]; exact hs6) hA6 hk6
              have HO := lH hOM2
              have hlen2 : (nvTo p n R (j + 1)).length = m0 + 1 := by rw [HS2.out, List.length_append, ← HM0.out]; rfl
              have HL2 := lH hlen2; clear hOM2 hs6 hsl hOo hfo hiv hlen2
              go_wp2_with (fail)
              go_roundw
              case rel => exact ⟨j + 1, A6, c6, by omega, by go_num, by rw [HL2.out], by rw [HS2.out]; exact HO.out⟩
              case measure => simp [intOf]; omega
def rangeI (n : Nat) : List Int := (List.range n).map fun i => ((i : Nat) : Int)
@[simp] theorem rangeI_length (n : Nat) : (rangeI n).length = n := by simp [rangeI]
structure OI (w0 w : World) (A : Option Addr) (cap : Nat) (l : List Int) : Prop where
 is : IS w A cap l
 new : Fresh w0.heap.size A
 below_ : Below w0.heap.size w0 w
theorem OI.snoc {w0 w w2 : World} {A : Option Addr} {cap : Nat} {l : List Int} (h : OI w0 w A cap l) {o : Obj} {x : Int} {A' : Option Addr} {cap' n : Nat} (hn : n = l.length + 1) (hs' : Sl w2 tInt 1 A' n cap' (ints l ++ [.int .i64 x])) (hA' : ∀ b, b ∈ fpA A' → b ∈ fpA A ∨ (w.alloc o).heap.size ≤ b) (hk : Keeps (· ∈ fpA A) (w.alloc o) w2) : OI w0 w2 A' cap' (l ++ [x]) := by
 subst hn
 have hb := below_trans h.below_ ((Below.refl w.heap.size w).alloc (Nat.le_refl _) o) h.below_.size
 refine ⟨?_, fun b hb' => ?_, below_keeps hb hk hb.size h.new⟩
 · unfold IS
   have : ints (l ++ [x]) = ints l ++ [.int .i64 x] := by simp [ints]
   rw [this, List.length_append]; exact hs'
 · rcases hA' b hb' with h1 | h1
   · exact h.new b h1
   · have := hb.size; omega
theorem oi_alloc {w0 w : World} {A : Option Addr} {cap k : Nat} {l : List Int} (h : OI w0 w A cap l) (hk : l.length = k) (o : Obj) : Sl (w.alloc o) tInt 1 A k cap (ints l) := by
 have := Sl.alloc h.is o; rwa [hk] at this
set_option maxHeartbeats 400000 in
theorem unit_any (n i : Nat) (w : World) (hn : n ≤ 1048576) (hi : i < n) :
  Calls Tryz.prog 68 #[.int .i64 n, .int .i64 i] w (RetI w (unitV n i)) := by
 have hC := zeros_any n w (by omega)
 have he : (List.replicate n (0 : Int)).set i 1 = unitV n i := by
  apply List.ext_getElem?
  intro k
  by_cases hk : k < n
  · unfold unitV
    rw [List.getElem?_set, List.getElem?_map, List.getElem?_range hk]
    by_cases h : i = k
    · subst h; simp [hk]
    · simp [h, hk]; intro e; exact absurd e.symm h
  · unfold unitV
    rw [List.getElem?_eq_none (by simpa using hk), List.getElem?_eq_none (by simpa using hk)]
 have HC := lH hC; have HE := lH he
 have hul := lH (show (unitV n i).length = n by simp [unitV])
 have hiI : (i : Int) < (n : Int) := by omega
 clear hC he
 go_enter Tryz.func68, Tryz.ntmps68
 go_wp2_with (fail)
 refine HC.out.mono ?_
 rintro e w1 ⟨A, c, rfl, his, hf, hb1⟩
 rw [List.length_replicate]
 obtain ⟨ad, y, hA, hy, _, hc', hf'⟩ := his.at_ (j := i) (by simpa using hi)
 subst hA
 have hfz := hf' i
 have his' := his.set (ad := ad) rfl (j := i) 1 (by simpa using hi)
 rw [HE.out] at his'
 have HI := lH his'
 have hb' := lH (hb1.setCell (p := ad.add i) (by rw [block_of_add]; exact hf _ (by simp)) (.int .i64 1))
 clear his' hf' his hy hb1
 go_wp2_with (fail)
 go_ret
 exact ⟨some ad, c, by rw [hul.out]; rfl, HI.out, hf, hb'.out⟩
set_option maxHeartbeats 1000000 in
theorem identityRows_any (n : Nat) (w : World) (hn : n ≤ 1048576) :
  Calls Tryz.prog 100 #[.int .i64 n] w (RetSS w (idM n)) := by
 have hOM0 : OM w (w.alloc (.cells #[] 23)) (some ⟨w.heap.size, 0, none⟩) 0 [] := by
  refine ⟨[], rfl, ⟨by simpa using Sl.laid w 23 1 0 #[] (Nat.zero_le _) rfl, fun h hh => (by cases hh), .nil, fun h hh => (by cases hh)⟩, fun b hb => ?_, (Below.refl _ _).alloc (Nat.le_refl _) _⟩
  have : b = w.heap.size := by simpa [fpR] using hb
  subst this; exact Nat.le_refl _
 have hil := lH (show (idM n).length = n by simp [idM])
 go_enter Tryz.func100, Tryz.ntmps100
 go_wp2_with (fail)
 go_loopw [7, 3] (fun i v wr => ∃ (k : Nat) (A' : Option Addr) (c' : Nat), k ≤ n ∧ i = .int .i64 k ∧ v = .slice A' k c' ∧ OM w wr A' c' ((idM n).take k)) (fun i _ _ => n - (intOf i).toNat)
 case atStart => exact ⟨0, _, 0, Nat.zero_le _, rfl, rfl, hOM0⟩
 case round =>
  clear hOM0
  obtain ⟨k, A', c', hk, rfl, rfl, hOM⟩ := hrel
  by_cases hlt : k < n
  · have hC := unit_any n k wr hn hlt
    obtain ⟨gs, hLg, hO, hf, h0⟩ := hOM
    have hgl : gs.length = k := by
     have := congrArg List.length hLg
     rw [List.length_take, hil.out, List.length_map] at this
     omega
    have hpl : (unitV n k).length = n := by simp [unitV]
    have hidk : (idM n)[k]? = some (unitV n k) := by simp [idM, hlt]
    have HX := lH hidk; have HG := lH hLg; have HGL := lH hgl; have HPL := lH hpl
    have hkI : (k : Int) < (n : Int) := by omega
    have HC := lH hC; clear hLg hgl hC hpl hidk
    go_wp2_with (fail)
    refine HC.out.mono ?_
    rintro e w1 ⟨B1, c1, rfl, hi1, hf1, hb1⟩
    rw [HPL.out]
    have hsl : Sl (w1.alloc (.cells #[.slice B1 n c1] 23)) 23 1 A' k c' (gs.map Hd.val) := by
     have := (hO.sl.below hb1).alloc (.cells #[.slice B1 n c1] 23)
     rwa [HGL.out] at this
    go_wp2_with (at_builtin; refine wpList_append_Sl _ rfl _ _ _ rfl 23 Tryz.underlying52 info_ints rfl (by omega) rfl hsl rfl (news := [.slice B1 n c1]) rfl (Sl.rdc (Sl.laid w1 23 1 1 #[.slice B1 n c1] (by unfold maxLen; omega) rfl)) (by intro u hu; simp at hu; subst hu; rfl) (by unfold maxLen; omega) (by omega) ?_; intro A2 c2 w2 hs2 hA2 hk2)
    have hal2 : Below w1.heap.size w1 (w1.alloc (.cells #[.slice B1 n c1] 23)) := (Below.refl _ _).alloc (Nat.le_refl _) _
    have hOM2 := OM.snoc (w1 := w1.alloc (.cells #[.slice B1 n c1] 23)) HG.out hO hf h0 (below_trans hb1 hal2 hb1.size) (hi1.below hal2) hf1 (by rw [HGL.out]) (by rw [HPL.out]; exact hs2) hA2 hk2
    have HO := lH hOM2; clear hOM2 hs2 hsl hO hf
    go_roundw
    case rel => exact ⟨k + 1, A2, c2, by omega, by go_num, rfl, by rw [List.take_add_one, HX.out]; exact HO.out⟩
    case measure => simp [intOf]; omega
  · obtain rfl : n = k := by omega
    have hOM' : OM w wr A' c' (idM n) := by have := hOM; rwa [List.take_of_length_le (by rw [hil.out]; omega)] at this
    clear hOM
    go_wp2_with (fail)
    go_ret
    have := hOM'.ret
    rw [hil.out] at this
    exact this
theorem OM.put {w0 w w1 : World} {A : Option Addr} {cap : Nat} {L : List (List Int)} (h : OM w0 w A cap L) {i : Nat} (hi : i < L.length) {ad : Addr} (hA : A = some ad) (hb : Below w.heap.size w w1) {B : Option Addr} {c : Nat} {l : List Int} (hx : IS w1 B c l) (hf1 : Fresh w.heap.size B) :
  OM w0 (w1.setCell (ad.add i) (.slice B l.length c)) A cap (L.set i l) := by
 subst hA
 obtain ⟨hs, rfl, hO, hf, h0⟩ := h
 have hi' : i < hs.length := by simpa using hi
 have hAl : ∀ b, b ∈ fpA (some ad) → b < w.heap.size := fun b hb' => hO.sl.lt b hb'
 have hRl : ∀ y, y ∈ hs → (∀ b, b ∈ fpA y.1 → b < w.heap.size) := fun y hy b hb' => (hO.rows y hy).lt b hb'
 have hk : Keeps (· ∈ fpA (some ad)) w1 (w1.setCell (ad.add i) (.slice B l.length c)) := (Keeps.refl _ w1).setCell (p := ad.add i) (by rw [block_of_add]; simp) _
 have hget : ∀ (k : Nat) (x : Hd), (hs.set i (B, c, l))[k]? = some x → (k = i ∧ x = (B, c, l)) ∨ (k ≠ i ∧ hs[k]? = some x) := by
  intro k x hx
  rw [List.getElem?_set] at hx
  split at hx
  · rename_i hk; subst hk
    simp at hx
    exact .inl ⟨rfl, hx.symm⟩
  · rename_i hk; exact .inr ⟨fun e => hk e.symm, hx⟩
 have hsz := h0.size
 have hbs := hb.size
 refine ⟨hs.set i (B, c, l), by rw [List.map_set], ⟨?_, fun x hx' => ?_, ?_, fun x hx' b hb1 hb2 => ?_⟩, fun b hb' => ?_, ?_⟩
 · have := (hO.sl.below hb).set (ad := ad) rfl i (Hd.val (B, c, l)) (by simpa using hi')
   rw [← List.map_set] at this
   rw [List.length_set]; exact this
 · rcases List.mem_or_eq_of_mem_set hx' with hx' | hx'
   · exact ((hO.rows x hx').below hb).keeps hk fun b hb' => hO.outer x hx' b hb'
   · subst hx'
     exact hx.keeps hk fun b hb' hb'' => by
      have := hf1 b hb'
      have := hAl b hb''
      omega
 · refine List.pairwise_iff_getElem.2 fun a b ha hb' hab c' h1 h2 => ?_
   rcases hget a _ (List.getElem?_eq_getElem ha) with ⟨ea, e1⟩ | ⟨ea, e1⟩ <;> rcases hget b _ (List.getElem?_eq_getElem hb') with ⟨eb, e2⟩ | ⟨eb, e2⟩
   · omega
   · rw [e1] at h1
     have := hf1 c' h1
     have := hRl _ (List.mem_of_getElem? e2) c' h2
     omega
   · rw [e2] at h2
     have := hf1 c' h2
     have := hRl _ (List.mem_of_getElem? e1) c' h1
     omega
   · exact hO.apart_get e1 e2 (by omega) c' h1 h2
 · rcases List.mem_or_eq_of_mem_set hx' with hx' | hx'
   · exact hO.outer x hx' b hb1 hb2
   · subst hx'
     have := hf1 b hb1
     have := hAl b hb2
     omega
 · rcases List.mem_append.1 hb' with hb' | hb'
   · exact hf b (List.mem_append_left _ hb')
   · obtain ⟨y, hy, hb'⟩ := mem_fpR.1 hb'
     rcases List.mem_or_eq_of_mem_set hy with hy | hy
     · exact hf b (List.mem_append_right _ (mem_fpR.2 ⟨_, hy, hb'⟩))
     · subst hy
       have := hf1 b hb'
       omega
 · exact below_keeps (below_trans h0 hb hsz) hk (by omega) fun b hb' => hf b (List.mem_append_left _ hb')
theorem nils_om {w w1 : World} {G : Addr} {m : Nat} (hs : Sl w1 23 1 (some G) m m ((List.replicate m nilHd).map Hd.val)) (hG : w.heap.size ≤ G.block) (hb : Below w.heap.size w w1) : OM w w1 (some G) m (List.replicate m []) := by
 obtain ⟨gs, hL, hO, hf⟩ := nils_rw hs
 exact ⟨gs, hL, hO, fun b hb' => by have := hf b hb'; simp at this; omega, hb⟩
set_option maxHeartbeats 2000000 in
set_option maxRecDepth 100000 in
theorem transposed_any (A : Option Addr) (c n : Nat) (hs : List Hd) (w : World) (h : RdR w A hs) (hrow : ∀ x, x ∈ hs → x.2.2.length = n) (hn : n ≤ 1048576) (hl : hs.length ≤ 1048576) :
  Calls Tryz.prog 88 #[.slice A hs.length c, .int .i64 n] w (RetSS w (transM (hs.map fun h : Hd => h.2.2) n)) := by
 obtain ⟨L, hLh⟩ : ∃ L, L = hs.map fun h : Hd => h.2.2 := ⟨_, rfl⟩
 rw [← hLh]
 obtain ⟨m, hmm⟩ : ∃ m, m = hs.length := ⟨_, rfl⟩
 rw [← hmm] at hl ⊢
 have hLen := lH (show L.length = m by rw [hLh, List.length_map, hmm])
 have HLh := lH hLh; have HM := lH hmm; have HROW := lH hrow
 have hTl := lH (show (transM L n).length = n by simp [transM])
 have hcol := lH (show ∀ j, j < n → (transM L n)[j]? = some (L.map fun v => v.getD j 0) from fun j hj => by simp [transM, hj])
 clear hLh hmm hrow
 go_enter Tryz.func88, Tryz.ntmps88
 go_wp2_with (at_make; refine wpList_make_Sl _ rfl _ _ _ rfl 23 Tryz.underlying52 info_ints n n rfl rfl rfl rfl (Nat.le_refl _) (by omega) (by unfold maxLen; omega) ?_; intro G w2 hs2 hG hb2)
 have hOM0 : OM w w2 (some G) n (List.replicate n []) := nils_om (by rw [← madeNils]; simpa using hs2) hG hb2
 clear hs2 hG hb2
 go_loopw [13] (fun i wr => ∃ (j : Nat), j ≤ n ∧ i = .int .i64 j ∧ OM w wr (some G) n ((transM L n).take j ++ (List.replicate n []).drop j)) (fun i _ => n - (intOf i).toNat)
 case atStart => exact ⟨0, Nat.zero_le _, rfl, by simpa using hOM0⟩
 case round =>
  clear hOM0
  obtain ⟨j, hj, rfl, hOM⟩ := hrel
  by_cases hlt : j < n
  · obtain ⟨bs, hbs⟩ : ∃ bs, bs = (transM L n).take j ++ (List.replicate n ([] : List Int)).drop j := ⟨_, rfl⟩
    rw [← hbs] at hOM
    have hbl : bs.length = n := by rw [hbs, List.length_append, List.length_take, List.length_drop, List.length_replicate, hTl.out]; omega
    have HBL := lH hbl
    have hz := zeros_any m wr (by omega)
    have HZ := lH hz
    obtain ⟨adG, Bg, cg, hAg, hcg, hfg, _⟩ := hOM.get (i := j) (by rw [hbl]; exact hlt)
    obtain rfl := Option.some.inj hAg
    have HBS := lH hbs; have HOM := lH hOM; have hbO := lH hOM.below_
    have hjI : (j : Int) < (n : Int) := by omega
    have hbk := World.block_lt_of_cell? wr _ hcg
    have HCG := lH hcg; have HFG := lH hfg; clear hz hbs hbl hOM hAg hcg hfg
    go_wp2_with (fail)
    refine HZ.out.mono ?_
    rintro e w3 ⟨Az, cz, rfl, hiz, hfz, hbz⟩
    rw [List.length_replicate]
    have hput := HOM.out.put (i := j) (by rw [HBL.out]; exact hlt) rfl hbz hiz hfz
    rw [List.length_replicate] at hput
    have HPUT := lH hput
    have hcg3 : w3.cell? (G.add j) = some (.slice Bg (bs.getD j []).length cg) := (hbz.cell hbk).trans HCG.out
    have hfg3 : w3.frozen? (G.add j) = false := (hbz.frozen hbk).trans HFG.out
    clear hput hiz
    go_wp2_with (fail)
    obtain ⟨cl, hcl⟩ : ∃ cl, cl = L.map fun v => v.getD j 0 := ⟨_, rfl⟩
    have hcll : cl.length = m := by rw [hcl, List.length_map, hLen.out]
    have HCL := lH hcl; have HCLL := lH hcll
    have hstart : OM w (w3.setCell (G.add j) (.slice Az m cz)) (some G) n (bs.set j (cl.take 0 ++ (List.replicate m (0 : Int)).drop 0)) := by simpa using HPUT.out
    have HSTART := lH hstart; clear hcl hcll hstart hcg3 hfg3 hfz hbz
    go_loopw [24] (fun i w' => ∃ (k : Nat), k ≤ m ∧ i = .int .i64 k ∧ OM w w' (some G) n (bs.set j (cl.take k ++ (List.replicate m (0 : Int)).drop k))) (fun i _ => m - (intOf i).toNat)
    case atStart => exact ⟨0, Nat.zero_le _, rfl, HSTART.out⟩
    case round =>
     clear HSTART HPUT HCG HFG HZ HOM
     obtain ⟨k, hk, rfl, hOM⟩ := hrel
     have hxl : (cl.take k ++ (List.replicate m (0 : Int)).drop k).length = m := by rw [List.length_append, List.length_take, List.length_drop, List.length_replicate, HCLL.out]; omega
     by_cases hlt2 : k < m
     · obtain ⟨bd, B, d, l, rfl, hx, hc, hri⟩ := (h.below hOM.below_).at_ (k := k) (by rw [← HM.out]; exact hlt2)
       have hlx : L[k]? = some l := by rw [HLh.out, List.getElem?_map, hx]; rfl
       have hll : l.length = n := HROW.out _ (List.mem_of_getElem? hx)
       rw [hll] at hc
       obtain ⟨ld, x, hLd, hxx, hcx⟩ := hri.at_ (j := j) (by rw [hll]; exact hlt)
       subst hLd
       obtain ⟨adG, Bg, cg, hAg, hcg, hfg, hIg⟩ := hOM.get (i := j) (by rw [List.length_set, HBL.out]; exact hlt)
       obtain rfl := Option.some.inj hAg
       have hgd : (bs.set j (cl.take k ++ (List.replicate m (0 : Int)).drop k)).getD j [] = cl.take k ++ (List.replicate m (0 : Int)).drop k := getD_set_self (by rw [HBL.out]; exact hlt)
       rw [hgd] at hcg hIg
       rw [hxl] at hcg
       obtain ⟨gd, y, hBg, _, _, hcy, hfy⟩ := hIg.at_ (j := k) (by rw [hxl]; exact hlt2)
       subst hBg
       have hfy' := hfy k
       have hset := hOM.set (i := j) (by rw [List.length_set, HBL.out]; exact hlt) rfl hcg (j := k) (by rw [hgd, hxl]; exact hlt2) x
       rw [hgd, List.set_set] at hset
       have hclx : cl[k]? = some x := by rw [HCL.out, List.getElem?_map, hlx]; simp [List.getD, hxx]
       rw [take_append_step (by rw [HCLL.out, List.length_replicate]) hclx] at hset
       have hset' := hset.drew
       have HSET := lH hset'
       have hkI : (k : Int) < (m : Int) := by omega
       have hjI' : (j : Int) < (n : Int) := by omega
       clear hset hset' hclx hgd hxl hfy hIg hAg hOM hri hxx hll hlx hx h
       go_wp2_with (fail)
       refine wp_region_still_tail 10 (by kernel_rfl) (by kernel_rfl) ?_
       simp only [List.take_succ_cons, List.take_zero, List.drop_succ_cons, List.drop_zero]
       change wpStill _ _ wr.drew (fun a' => wpList _ _ _ _ a' wr.drew) _ _
       have e1 : wr.drew.cell? (G.add j) = some (.slice (some gd) m cg) := hcg
       have e2 : wr.drew.cell? (ld.add j) = some (.int .i64 x) := hcx
       repeat still_step
       refine wpStill_nil ?_
       go_wp2_with (fail)
       go_roundw
       case rel => exact ⟨k + 1, by omega, by go_num, HSET.out⟩
       case measure => simp [intOf]; omega
     · obtain rfl : m = k := by omega
       have hfin : OM w wr (some G) n ((transM L n).take (j + 1) ++ (List.replicate n ([] : List Int)).drop (j + 1)) := by
        have h1 := hOM
        rw [List.take_of_length_le (by rw [HCLL.out]; omega), List.drop_of_length_le (by rw [List.length_replicate]; omega), List.append_nil, HBS.out, take_append_step (by rw [hTl.out, List.length_replicate]) (by rw [hcol.out j hlt, HCL.out])] at h1
        exact h1
       have HFIN := lH hfin; clear hOM hfin hxl h
       go_wp2_with (fail)
       go_roundw
       case rel => exact ⟨j + 1, by omega, by go_num, HFIN.out⟩
       case measure => simp [intOf]; omega
  · obtain rfl : n = j := by omega
    have hOM' : OM w wr (some G) n (transM L n) := by
     have := hOM
     rwa [List.take_of_length_le (by rw [hTl.out]; omega), List.drop_of_length_le (by simp), List.append_nil] at this
    clear hOM h
    go_wp2_with (fail)
    go_ret
    have := hOM'.ret
    rw [hTl.out] at this
    exact this
theorem redTo_mat3 {p : Int} (hp : fieldB p = true) {m n : Nat} {L A : List (List Int)} (hm : Mat p m n L) (hA : Mat p m m A) : ∀ c, c ≤ n → Mat p m m (redTo p L A c).2.2
 | 0, _ => hA
 | c + 1, hc => by
   have hpb := fieldB_bounds hp
   obtain ⟨ld, hR⟩ := redTo_inv hp hm A c (by omega)
   have h1 := redTo_mat3 hp hm hA c (by omega)
   rw [redTo]
   obtain ⟨s, hs⟩ : ∃ s, s = redTo p L A c := ⟨_, rfl⟩
   rw [← hs] at hR h1 ⊢
   rcases colStep_cases hp (show c < n by omega) hR.mat hR.inv.le with ⟨e, _⟩ | ⟨k, iv, k1, k2, k3, _, _, k6, k7, k8⟩
   · rw [e]; exact h1
   · rw [k7]
     have hr : s.1 < m := by omega
     have hse := step_en (p := p) (by omega) h1 hr k2 iv (fun i => en (scaleL p s.1 iv (swapL s.2.1 s.1 k)) i c)
     rw [h1.len]
     exact hse.1
theorem Mat.drop {p : Int} {m n r : Nat} {L : List (List Int)} (h : Mat p m n L) : Mat p (m - r) n (L.drop r) :=
 ⟨by rw [List.length_drop, h.len], fun v hv => h.row v (List.mem_of_mem_drop hv)⟩
theorem RdR.cut {w : World} {A A' : Option Addr} {n : Nat} {hs : List Hd} (h : RdR w A hs) {r c : Nat} (hsl : Sl w 23 1 A' n c ((hs.drop r).map Hd.val)) : RdR w A' (hs.drop r) := by
 refine ⟨fun i x hx => ?_, fun x hx => h.2 x (List.mem_of_mem_drop hx)⟩
 obtain ⟨ad, hA, _, hc, _⟩ := hsl.cell (j := i) (u := x.val) (by rw [List.getElem?_map, hx]; rfl)
 exact ⟨ad, hA, hc⟩
set_option maxRecDepth 100000 in
theorem kernel_any (p : Int) (n : Nat) (A : Option Addr) (c : Nat) (hs : List Hd) (w : World) (h : RdR w A hs) (hp : fieldB p = true) (hm : Mat p hs.length n (hs.map fun h : Hd => h.2.2)) (hl : hs.length ≤ 1048576) (hn : n ≤ 1048576) :
  Calls Tryz.prog 87 #[.int .i64 p, .slice A hs.length c, .int .i64 n] w (RetSS w (kerM p n (hs.map fun h : Hd => h.2.2))) := by
 have hC := clones_any A c hs w h hl (fun x hx => by have := (hm.row _ (List.mem_map_of_mem hx)).1; omega)
 obtain ⟨L, hLh⟩ : ∃ L, L = hs.map fun h : Hd => h.2.2 := ⟨_, rfl⟩
 rw [← hLh] at hm hC ⊢
 obtain ⟨m, hmm⟩ : ∃ m, m = hs.length := ⟨_, rfl⟩
 rw [← hmm] at hl hm hC ⊢
 have hpb := fieldB_bounds hp
 have HC := lH hC; have HMat := lH hm; have HL := lH hm.len; clear hC hLh hmm hm h
 go_enter Tryz.func87, Tryz.ntmps87
 go_wp2_with (fail)
 refine HC.out.mono ?_
 rintro e w1 hret
 obtain ⟨A1, c1, rfl, hO1⟩ := hret.om
 rw [HL.out]
 have hI := lH (identityRows_any m w1 hl)
 clear hret
 go_wp2_with (fail)
 refine hI.out.mono ?_
 rintro e w2 hret
 obtain ⟨A2, c2, rfl, hO2⟩ := hret.om
 rw [show (idM m).length = m by simp [idM]]
 clear hret
 obtain ⟨fp, hR1, hfr, hlt⟩ := hO1.rw_
 have hR2 := hR1.below hO2.below_
 obtain ⟨fp2, hK, hfr2, hlt2⟩ := hO2.rw_
 have hmI : Mat p m m (idM m) := idM_mat (by omega) m
 have hRd := reduction_any p n m m A1 c1 L fp A2 c2 (idM m) fp2 w2 hR2 hK (fun b hb hb' => by
  have := hlt b hb
  have := hfr2 b hb'
  omega) (fun b hb => Nat.lt_of_lt_of_le (hlt b hb) hO2.size) hlt2 hp HMat.out hmI hl hn hl
 have hB2 : Below w.heap.size w w2 := below_trans hO1.below_ hO2.below_ hO1.below_.size
 have hres : kerM p n L = redM p m ((redTo p L (idM m) n).2.2.drop (redTo p L (idM m) n).1) := by unfold kerM; rw [HL.out]
 have hM3 := redTo_mat3 hp HMat.out hmI n (Nat.le_refl n)
 have hRm := (redTo_mat hp HMat.out (idM m) (Nat.le_refl n)).2
 obtain ⟨R, hR⟩ : ∃ R, R = (redTo p L (idM m) n).1 := ⟨_, rfl⟩
 obtain ⟨M, hM⟩ : ∃ M, M = (redTo p L (idM m) n).2.2 := ⟨_, rfl⟩
 rw [← hR, ← hM] at hRd hres
 rw [← hM] at hM3
 rw [← hR] at hRm
 have HRd := lH hRd; have HRES := lH hres; have HM3 := lH hM3; have HP := lH hp; have HFR := lH hfr
 have HFR2 := lH (hfr2.mono hO1.size)
 clear hRd hres hK hR1 hR2 hmI hO1 hO2 hR hM hp hfr hfr2 hlt hlt2 hM3
 go_wp2_with (fail)
 refine HRd.out.mono ?_
 rintro e w3 ⟨rfl, _, h2, hk3⟩
 have hB3 : Below w.heap.size w w3 := below_keeps hB2 hk3 hB2.size fun b hb => by
  rcases hb with hb | hb
  · exact HFR.out b hb
  · exact HFR2.out b hb
 obtain ⟨gs, hLg, hO, hf, h0⟩ := h2.om (w0 := w) HFR2.out hB3
 have hgl : gs.length = m := by
  have := congrArg List.length hLg
  rw [HM3.out.len, List.length_map] at this; omega
 have hsl : Sl w3 23 1 A2 m c2 (gs.map Hd.val) := by have := hO.sl; rwa [hgl] at this
 have hRd3 := lH hO.rd; have HG := lH hLg; have HGL := lH hgl
 have hmc := hsl.2.1
 clear hLg hgl h2 hO hf
 go_wp2_with (refine wpList_slice_Sl rfl (.tmp 21) (some (.tmp 22)) none none 52 rfl 23 Tryz.underlying52 info_ints rfl hsl R m c2 (optSome (by omega)) (optNone ⟨rfl, rfl⟩) (optNone rfl) (by omega) (Nat.le_refl _) (by omega) (Nat.le_refl _) ?_; intro A3 hcut hfp _)
 have hcut' : Sl w3 23 1 A3 (m - R) (c2 - R) ((gs.drop R).map Hd.val) := by
  have := hcut
  simp only [Nat.mul_one] at this
  rw [List.take_of_length_le (by simp [HGL.out]), ← List.map_drop] at this
  exact this
 have hdl : (gs.drop R).length = m - R := by rw [List.length_drop, HGL.out]
 have hmd : Mat p (gs.drop R).length m ((gs.drop R).map fun h : Hd => h.2.2) := by
  rw [hdl, List.map_drop, ← HG.out]; exact HM3.out.drop
 have hC3 := reduced_any p m A3 (c2 - R) (gs.drop R) w3 (RdR.cut hRd3.out hcut') HP.out hmd (by omega) hl
 rw [hdl, List.map_drop, ← HG.out, ← HRES.out] at hC3
 have HC3 := lH hC3; clear hC3 hmd hdl hcut' hcut hsl
 go_wp2_with (fail)
 refine HC3.out.mono ?_
 rintro e w4 hret
 obtain ⟨A4, c4, rfl, hO4⟩ := hret.om
 go_wp2_with (fail)
 go_ret
 exact hret.mono hB3
set_option maxRecDepth 100000 in
theorem orthogonal_any (p : Int) (n : Nat) (A : Option Addr) (c : Nat) (hs : List Hd) (w : World) (h : RdR w A hs) (hp : fieldB p = true) (hm : Mat p hs.length n (hs.map fun h : Hd => h.2.2)) (hl : hs.length ≤ 1048576) (hn : n ≤ 1048576) :
  Calls Tryz.prog 64 #[.int .i64 p, .slice A hs.length c, .int .i64 n] w (RetSS w (perpM p n (hs.map fun h : Hd => h.2.2))) := by
 have hpb := fieldB_bounds hp
 have hC := transposed_any A c n hs w h (fun x hx => (hm.row _ (List.mem_map_of_mem hx)).1) hn hl
 have hT := transM_mat (p := p) (by omega) hm
 have hpe : perpM p n (hs.map fun h : Hd => h.2.2) = kerM p hs.length (transM (hs.map fun h : Hd => h.2.2) n) := by unfold perpM; rw [List.length_map]
 rw [hpe]
 obtain ⟨m, hmm⟩ : ∃ m, m = hs.length := ⟨_, rfl⟩
 rw [← hmm] at hl hC hT ⊢
 obtain ⟨T, hTT⟩ : ∃ T, T = transM (hs.map fun h : Hd => h.2.2) n := ⟨_, rfl⟩
 rw [← hTT] at hC hT ⊢
 have HC := lH hC; have HT := lH hT; have HP := lH hp; clear hC hT hp hpe hm hmm hTT h
 go_enter Tryz.func64, Tryz.ntmps64
 go_wp2_with (fail)
 refine HC.out.mono ?_
 rintro e w1 hret
 obtain ⟨A1, c1, rfl, hO1⟩ := hret.om
 rw [HT.out.len]
 obtain ⟨gs, hLg, hrd⟩ := hO1.rdr
 have hgl : gs.length = n := by
  have := congrArg List.length hLg
  rw [HT.out.len, List.length_map] at this; omega
 have hmg : Mat p gs.length m (gs.map fun h : Hd => h.2.2) := by rw [hgl, ← hLg]; exact HT.out
 have hC2 := kernel_any p m A1 c1 gs w1 hrd HP.out hmg (by omega) hl
 rw [hgl, ← hLg] at hC2
 have HC2 := lH hC2
 have hB1 := hO1.below_
 clear hC2 hmg hgl hLg hrd hret hO1
 go_wp2_with (fail)
 refine HC2.out.mono ?_
 rintro e w2 hret
 obtain ⟨A2, c2, rfl, hO2⟩ := hret.om
 go_wp2_with (fail)
 go_ret
 exact hret.mono hB1
abbrev Sys := Int × Int × List (List Int)
def RdSysV (w : World) (v : Value) (s : Sys) : Prop := ∃ A c hs, v = .agg #[.int .i64 s.1, .int .i64 s.2.1, .slice A hs.length c] ∧ s.2.2 = hs.map (fun h : Hd => h.2.2) ∧ RdR w A hs
def OwSys (w : World) (v : Value) (s : Sys) (fp : List Nat) : Prop := ∃ A c hs, v = .agg #[.int .i64 s.1, .int .i64 s.2.1, .slice A hs.length c] ∧ s.2.2 = hs.map (fun h : Hd => h.2.2) ∧ OwR w A c hs ∧ fp = fpA A ++ fpR hs
def HeSys (w : World) (v : Value) (s : Sys) (k : Nat) (fp : List Nat) : Prop := ∃ A c hs, v = .agg #[.int .i64 s.1, .int .i64 s.2.1, .slice A hs.length c] ∧ hs.map (fun h : Hd => h.2.2) = marksR k (s.2.2.map List.length) ∧ OwR w A c hs ∧ (∀ b, b ∈ fpA A ++ fpR hs → b ∈ fp)
theorem box3 {w : World} {B : Nat} {x y z : Value} {t : TypeId} (h : w.heap[B]? = some (.cells #[x, y, z] t)) :
  (w.cell? ⟨B, 0, none⟩ = some x ∧ w.cell? ⟨B, 1, none⟩ = some y ∧ w.cell? ⟨B, 2, none⟩ = some z) ∧ (w.frozen? ⟨B, 0, none⟩ = false ∧ w.frozen? ⟨B, 1, none⟩ = false ∧ w.frozen? ⟨B, 2, none⟩ = false) := by
 refine ⟨⟨?_, ?_, ?_⟩, ?_, ?_, ?_⟩ <;> simp [World.cell?, World.frozen?, h]
theorem box2 {w : World} {B : Nat} {x y : Value} {t : TypeId} (h : w.heap[B]? = some (.cells #[x, y] t)) :
  (w.cell? ⟨B, 0, none⟩ = some x ∧ w.cell? ⟨B, 1, none⟩ = some y) ∧ (w.frozen? ⟨B, 0, none⟩ = false ∧ w.frozen? ⟨B, 1, none⟩ = false) := by
 refine ⟨⟨?_, ?_⟩, ?_, ?_⟩ <;> simp [World.cell?, World.frozen?, h]
section
variable {w w' : World} {v : Value} {s : Sys} {k : Nat} {fp : List Nat}
theorem RdSysV.shape (h : RdSysV w v s) : ∃ A n c, v = .agg #[.int .i64 s.1, .int .i64 s.2.1, .slice A n c] := by
 obtain ⟨A, c, hs, rfl, _⟩ := h; exact ⟨_, _, _, rfl⟩
theorem OwSys.shape (h : OwSys w v s fp) : ∃ A n c, v = .agg #[.int .i64 s.1, .int .i64 s.2.1, .slice A n c] := by
 obtain ⟨A, c, hs, rfl, _⟩ := h; exact ⟨_, _, _, rfl⟩
theorem OwSys.rd (h : OwSys w v s fp) : RdSysV w v s := by
 obtain ⟨A, c, hs, rfl, hL, h, _⟩ := h; exact ⟨A, c, hs, rfl, hL, h.rd⟩
theorem RdSysV.below (h : RdSysV w v s) (hb : Below w.heap.size w w') : RdSysV w' v s := by
 obtain ⟨A, c, hs, rfl, hL, h⟩ := h; exact ⟨A, c, hs, rfl, hL, h.below hb⟩
theorem OwSys.below (h : OwSys w v s fp) (hb : Below w.heap.size w w') : OwSys w' v s fp := by
 obtain ⟨A, c, hs, rfl, hL, h, e⟩ := h; exact ⟨A, c, hs, rfl, hL, h.below hb, e⟩
theorem OwSys.keeps (h : OwSys w v s fp) {S : Nat → Prop} (hk : Keeps S w w') (hS : ∀ b, b ∈ fp → ¬ S b) : OwSys w' v s fp := by
 obtain ⟨A, c, hs, rfl, hL, h, rfl⟩ := h; exact ⟨A, c, hs, rfl, hL, h.keeps hk hS, rfl⟩
theorem OwSys.lt (h : OwSys w v s fp) : LtL w.heap.size fp := by
 obtain ⟨A, c, hs, rfl, hL, h, rfl⟩ := h; exact h.lt
theorem HeSys.below (h : HeSys w v s k fp) (hb : Below w.heap.size w w') : HeSys w' v s k fp := by
 obtain ⟨A, c, hs, rfl, hL, h, e⟩ := h; exact ⟨A, c, hs, rfl, hL, h.below hb, e⟩
theorem HeSys.keeps (h : HeSys w v s k fp) {S : Nat → Prop} (hk : Keeps S w w') (hS : ∀ b, b ∈ fp → ¬ S b) : HeSys w' v s k fp := by
 obtain ⟨A, c, hs, rfl, hL, h, e⟩ := h; exact ⟨A, c, hs, rfl, hL, h.keeps hk fun b hb => hS b (e b hb), e⟩
theorem OwSys.of_om {w0 : World} {A : Option Addr} {c : Nat} {L : List (List Int)} {a b : Int} (h : OM w0 w A c L) : ∃ fp, OwSys w (.agg #[.int .i64 a, .int .i64 b, .slice A L.length c]) (a, b, L) fp ∧ FreshL w0.heap.size fp := by
 obtain ⟨hs, rfl, hO, hf, _⟩ := h
 exact ⟨fpA A ++ fpR hs, ⟨A, c, hs, by rw [List.length_map], rfl, hO, rfl⟩, hf⟩
end
abbrev Mt := Int × List (List Int)
def RdMtV (w : World) (v : Value) (s : Mt) : Prop := ∃ A c hs, v = .agg #[.int .i64 s.1, .slice A hs.length c] ∧ s.2 = hs.map (fun h : Hd => h.2.2) ∧ RdR w A hs
def OwMt (w : World) (v : Value) (s : Mt) (fp : List Nat) : Prop := ∃ A c hs, v = .agg #[.int .i64 s.1, .slice A hs.length c] ∧ s.2 = hs.map (fun h : Hd => h.2.2) ∧ OwR w A c hs ∧ fp = fpA A ++ fpR hs
def HeMt (w : World) (v : Value) (s : Mt) (k : Nat) (fp : List Nat) : Prop := ∃ A c hs, v = .agg #[.int .i64 s.1, .slice A hs.length c] ∧ hs.map (fun h : Hd => h.2.2) = marksR k (s.2.map List.length) ∧ OwR w A c hs ∧ (∀ b, b ∈ fpA A ++ fpR hs → b ∈ fp)
section
variable {w w' : World} {v : Value} {s : Mt} {k : Nat} {fp : List Nat}
theorem RdMtV.shape (h : RdMtV w v s) : ∃ A n c, v = .agg #[.int .i64 s.1, .slice A n c] := by
 obtain ⟨A, c, hs, rfl, _⟩ := h; exact ⟨_, _, _, rfl⟩
theorem OwMt.shape (h : OwMt w v s fp) : ∃ A n c, v = .agg #[.int .i64 s.1, .slice A n c] := by
 obtain ⟨A, c, hs, rfl, _⟩ := h; exact ⟨_, _, _, rfl⟩
theorem OwMt.rd (h : OwMt w v s fp) : RdMtV w v s := by
 obtain ⟨A, c, hs, rfl, hL, h, _⟩ := h; exact ⟨A, c, hs, rfl, hL, h.rd⟩
theorem RdMtV.below (h : RdMtV w v s) (hb : Below w.heap.size w w') : RdMtV w' v s := by
 obtain ⟨A, c, hs, rfl, hL, h⟩ := h; exact ⟨A, c, hs, rfl, hL, h.below hb⟩
theorem OwMt.below (h : OwMt w v s fp) (hb : Below w.heap.size w w') : OwMt w' v s fp := by
 obtain ⟨A, c, hs, rfl, hL, h, e⟩ := h; exact ⟨A, c, hs, rfl, hL, h.below hb, e⟩
theorem OwMt.keeps (h : OwMt w v s fp) {S : Nat → Prop} (hk : Keeps S w w') (hS : ∀ b, b ∈ fp → ¬ S b) : OwMt w' v s fp := by
 obtain ⟨A, c, hs, rfl, hL, h, rfl⟩ := h; exact ⟨A, c, hs, rfl, hL, h.keeps hk hS, rfl⟩
theorem OwMt.lt (h : OwMt w v s fp) : LtL w.heap.size fp := by
 obtain ⟨A, c, hs, rfl, hL, h, rfl⟩ := h; exact h.lt
theorem HeMt.below (h : HeMt w v s k fp) (hb : Below w.heap.size w w') : HeMt w' v s k fp := by
 obtain ⟨A, c, hs, rfl, hL, h, e⟩ := h; exact ⟨A, c, hs, rfl, hL, h.below hb, e⟩
theorem HeMt.keeps (h : HeMt w v s k fp) {S : Nat → Prop} (hk : Keeps S w w') (hS : ∀ b, b ∈ fp → ¬ S b) : HeMt w' v s k fp := by
 obtain ⟨A, c, hs, rfl, hL, h, e⟩ := h; exact ⟨A, c, hs, rfl, hL, h.keeps hk fun b hb => hS b (e b hb), e⟩
theorem OwMt.of_om {w0 : World} {A : Option Addr} {c : Nat} {L : List (List Int)} {a : Int} (h : OM w0 w A c L) : ∃ fp, OwMt w (.agg #[.int .i64 a, .slice A L.length c]) (a, L) fp ∧ FreshL w0.heap.size fp := by
 obtain ⟨hs, rfl, hO, hf, _⟩ := h
 exact ⟨fpA A ++ fpR hs, ⟨A, c, hs, by rw [List.length_map], rfl, hO, rfl⟩, hf⟩
end
theorem box_below {w w' : World} {B : Nat} {o : Obj} (h : w.heap[B]? = some o) (hb : Below w.heap.size w w') : w'.heap[B]? = some o := (hb.block B (Array.getElem?_eq_some_iff.1 h).1).trans h
theorem box_keeps {w w' : World} {S : Nat → Prop} {B : Nat} {o : Obj} (h : w.heap[B]? = some o) (hk : Keeps S w w') (hS : ¬ S B) : w'.heap[B]? = some o := (hk.block B (Array.getElem?_eq_some_iff.1 h).1 hS).trans h
theorem box_lt {w : World} {B : Nat} {o : Obj} (h : w.heap[B]? = some o) : B < w.heap.size := (Array.getElem?_eq_some_iff.1 h).1
theorem below_alloc (w : World) (o : Obj) : Below w.heap.size w (w.alloc o) := (Below.refl _ _).alloc (Nat.le_refl _) _
def rowsB (p n : Int) (L : List (List Int)) : Bool := L.all fun l => decide ((l.length : Int) = n) && inB 0 (p - 1) l
def sysB (p : Int) (s : Sys) : Bool := fieldB p && ((decide (0 ≤ s.1) && decide (s.1 ≤ 24)) && ((decide (0 ≤ s.2.1) && decide (s.2.1 ≤ 100)) && (decide (s.2.2.length ≤ 160) && rowsB p (s.1 + s.2.1) s.2.2)))
structure OuR (w0 w : World) (A : Option Addr) (cap : Nat) (hs : List Hd) : Prop where
 sl : Sl w 23 1 A hs.length cap (hs.map Hd.val)
 rows : ∀ h, h ∈ hs → RdI w0 h.1 h.2.2
 new : ∀ b, b ∈ fpA A → w0.heap.size ≤ b
 below_ : Below w0.heap.size w0 w
section
variable {w0 w w' : World} {A : Option Addr} {cap : Nat} {hs : List Hd}
theorem OuR.nil (w : World) : OuR w w none 0 [] := ⟨Sl.nil _ _ _, fun h hh => (by cases hh), fun b hb => by simp at hb, Below.refl _ _⟩
theorem OuR.below (h : OuR w0 w A cap hs) (hb : Below w.heap.size w w') : OuR w0 w' A cap hs := ⟨h.sl.below hb, h.rows, h.new, below_trans h.below_ hb h.below_.size⟩
theorem OuR.rdr (h : OuR w0 w A cap hs) : RdR w A hs := by
 refine ⟨fun i x hx => ?_, fun x hx => (h.rows x hx).below h.below_⟩
 obtain ⟨ad, hA, _, hc, _⟩ := h.sl.cell (j := i) (u := x.val) (by simp [hx])
 exact ⟨ad, hA, hc⟩
theorem OuR.snoc {w1 w2 : World} (h : OuR w0 w A cap hs) (hb : Below w.heap.size w w1) {x : Hd} (hx : RdI w0 x.1 x.2.2) {A' : Option Addr} {cap' n : Nat} (hn : n = hs.length + 1) (hs' : Sl w2 23 1 A' n cap' (hs.map Hd.val ++ [x.val])) (hA' : ∀ b, b ∈ fpA A' → b ∈ fpA A ∨ w1.heap.size ≤ b) (hk : Keeps (· ∈ fpA A) w1 w2) : OuR w0 w2 A' cap' (hs ++ [x]) := by
 subst hn
 have hbw := below_trans h.below_ hb h.below_.size
 refine ⟨by simpa using hs', fun y hy => ?_, fun b hb' => ?_, below_keeps hbw hk hbw.size h.new⟩
 · rcases List.mem_append.1 hy with hy | hy
   · exact h.rows y hy
   · obtain rfl := List.mem_singleton.1 hy; exact hx
 · rcases hA' b hb' with h1 | h1
   · exact h.new b h1
   · have := hbw.size; omega
end
theorem rowsB_mat {p n : Int} {L : List (List Int)} {k : Nat} (h : rowsB p n L = true) (hk : n = (k : Int)) : Mat p L.length k L := by
 refine ⟨rfl, fun v hv => ?_⟩
 have := List.all_eq_true.1 h v hv
 simp only [Bool.and_eq_true, decide_eq_true_eq] at this
 refine ⟨by omega, fun x hx => ?_⟩
 have := inB_iff.1 this.2 x hx
 omega
structure SysOk (p : Int) (s : Sys) : Prop where
 fld : fieldB p = true
 vis : 0 ≤ s.1 ∧ s.1 ≤ 24
 hid : 0 ≤ s.2.1 ∧ s.2.1 ≤ 100
 len : s.2.2.length ≤ 160
 mat : Mat p s.2.2.length (s.1 + s.2.1).toNat s.2.2
theorem SysOk.of {p : Int} {s : Sys} (h : sysB p s = true) : SysOk p s := by
 unfold sysB at h
 simp only [Bool.and_eq_true, decide_eq_true_eq] at h
 obtain ⟨h1, h2, h3, h4, h5⟩ := h
 exact ⟨h1, h2, h3, h4, rowsB_mat h5 (by omega)⟩
theorem SysOk.ok {p : Int} {s : Sys} (h : SysOk p s) : s.2.2.length ≤ 1048576 ∧ ∀ x, x ∈ s.2.2 → x.length ≤ 1048576 :=
 ⟨by have := h.len; omega, fun x hx => by have := (h.mat.row x hx).1; have := h.vis; have := h.hid; omega⟩
theorem nullM_red {p : Int} (hp : fieldB p = true) (n : Nat) (L : List (List Int)) : RedL p n (nullM p n L) := by
 have hpb := fieldB_bounds hp
 unfold nullM
 refine (redM_spec hp ?_).1
 exact nvTo_mat (by omega) n _ n
theorem red_len {p : Int} {n : Nat} {R : List (List Int)} (hr : RedL p n R) : R.length ≤ n := by
 obtain ⟨_, ld, h⟩ := hr
 have key : ∀ i, i < R.length → i ≤ ld i := by
  intro i
  induction i with
  | zero => intro _; omega
  | succ i ih => intro hi; have := ih (by omega); have := h.mono i (i + 1) (by omega) hi; omega
 rcases Nat.eq_zero_or_pos R.length with h0 | h0
 · omega
 · have h1 := key (R.length - 1) (by omega)
   have h2 := h.lt (R.length - 1) (by omega)
   omega
end Go.Proofs.YtjompikdkhhlgaaGreatDoor
namespace Go.Proofs.YtjompikdkhhlgaaGreatDoor
def SolE (p : Int) (n : Nat) (E : List (List Int)) (x : Nat → Int) : Prop := ∀ i, i < E.length → p ∣ (sm n fun j => en E i j * x j) - en E i n
def HomE (p : Int) (n : Nat) (E : List (List Int)) (d : Nat → Int) : Prop := ∀ i, i < E.length → p ∣ sm n fun j => en E i j * d j
def backV (n : Nat) (v : List Int) : List Int := (v.take n).reverse ++ [v.getD n 0]
def fsTo (n : Nat) (R : List (List Int)) : Nat → List Int
 | 0 => List.replicate n 0
 | k + 1 => (fsTo n R k).set (n - 1 - leadV (R.getD k [])) ((R.getD k []).getD n 0)
def fsM (p : Int) (n : Nat) (E : List (List Int)) : List Int × Bool :=
 if (redM p (n + 1) (E.map (backV n))).any (fun v => leadV v == n) then ([], false) else (fsTo n (redM p (n + 1) (E.map (backV n))) (redM p (n + 1) (E.map (backV n))).length, true)
theorem sm_left (n : Nat) (f : Nat → Int) : sm (n + 1) f = f 0 + sm n fun j => f (j + 1) := by
 induction n with
 | zero => simp [sm]
 | succ n ih => rw [sm, ih, sm]; omega
theorem sm_rev (n : Nat) : ∀ f : Nat → Int, sm n f = sm n fun j => f (n - 1 - j) := by
 induction n with
 | zero => intro f; rfl
 | succ n ih =>
   intro f
   rw [sm_left n (fun j => f (n + 1 - 1 - j)), sm, ih f, Int.add_comm]
   congr 1
   refine sm_congr fun j hj => ?_
   rw [show n + 1 - 1 - (j + 1) = n - 1 - j by omega]
theorem backV_length {n : Nat} {v : List Int} (h : v.length = n + 1) : (backV n v).length = n + 1 := by simp [backV, h]
theorem backV_lt {n j : Nat} {v : List Int} (h : v.length = n + 1) (hj : j < n) : (backV n v).getD j 0 = v.getD (n - 1 - j) 0 := by
 have h1 : (v.take n).length = n := by simp [h]
 unfold backV
 simp only [List.getD_eq_getElem?_getD]
 rw [List.getElem?_append_left (by rw [List.length_reverse, h1]; exact hj), List.getElem?_reverse (by rw [h1]; exact hj), h1, List.getElem?_take_of_lt (by omega)]
theorem backV_at {n : Nat} {v : List Int} (h : v.length = n + 1) : (backV n v).getD n 0 = v.getD n 0 := by
 have h1 : (v.take n).reverse.length = n := by simp [h]
 unfold backV
 simp only [List.getD_eq_getElem?_getD]
 rw [List.getElem?_append_right (by omega), h1, Nat.sub_self]
 rfl
theorem back_en {p : Int} {n i : Nat} {E : List (List Int)} (hm : Mat p E.length (n + 1) E) (hi : i < E.length) : (∀ j, j < n → en (E.map (backV n)) i j = en E i (n - 1 - j)) ∧ en (E.map (backV n)) i n = en E i n := by
 have e : (E.map (backV n)).getD i [] = backV n (E.getD i []) := by simp [List.getD, hi]
 have hl := (hm.get hi).1
 unfold en
 rw [e]
 exact ⟨fun j hj => backV_lt hl hj, backV_at hl⟩
theorem back_mat {p : Int} (_hp : 0 < p) {n : Nat} {E : List (List Int)} (hm : Mat p E.length (n + 1) E) : Mat p (E.map (backV n)).length (n + 1) (E.map (backV n)) := by
 refine ⟨rfl, fun v hv => ?_⟩
 obtain ⟨u, hu, rfl⟩ := List.mem_map.1 hv
 obtain ⟨h1, h2⟩ := hm.row u hu
 refine ⟨backV_length h1, fun x hx => ?_⟩
 unfold backV at hx
 rcases List.mem_append.1 hx with h | h
 · exact h2 x (List.mem_of_mem_take (List.mem_reverse.1 h))
 · obtain rfl := List.mem_singleton.1 h
   exact h2.getD _hp n
def xr (n : Nat) (x : Nat → Int) (j : Nat) : Int := if j < n then x (n - 1 - j) else -1
theorem xr_lt {n : Nat} {x : Nat → Int} {j : Nat} (h : j < n) : xr n x j = x (n - 1 - j) := if_pos h
theorem xr_at (n : Nat) (x : Nat → Int) : xr n x n = -1 := if_neg (Nat.lt_irrefl n)
theorem sol_back {p : Int} {n : Nat} {E : List (List Int)} (hm : Mat p E.length (n + 1) E) (x : Nat → Int) : SolE p n E x ↔ NulL p (n + 1) (E.map (backV n)) (xr n x) := by
 have key : ∀ i, i < E.length → (sm (n + 1) fun j => en (E.map (backV n)) i j * xr n x j) = (sm n fun j => en E i j * x j) - en E i n := fun i hi => by
  obtain ⟨h1, h2⟩ := back_en hm hi
  have e1 : (sm n fun j => en (E.map (backV n)) i j * xr n x j) = sm n fun j => en E i j * x j := by
   rw [sm_rev n (fun j => en E i j * x j)]
   refine sm_congr fun j hj => ?_
   rw [h1 j hj, xr_lt hj]
  rw [sm, e1, h2, xr_at]
  omega
 unfold NulL Nul SolE
 rw [List.length_map]
 exact ⟨fun h i hi => by rw [key i hi]; exact h i hi, fun h i hi => by rw [← key i hi]; exact h i hi⟩
theorem one_ndvd {p : Int} (hp : 1 < p) : ¬ p ∣ 1 := fun h => by
 have := Int.le_of_dvd (by decide) h
 omega
theorem fs_none {p : Int} (hp : fieldB p = true) {n : Nat} {E : List (List Int)} (hm : Mat p E.length (n + 1) E) (h : (redM p (n + 1) (E.map (backV n))).any (fun v => leadV v == n) = true) (x : Nat → Int) : ¬ SolE p n E x := by
 have hpb := fieldB_bounds hp
 obtain ⟨⟨hR, ld, hr⟩, hN, _⟩ := redM_spec hp (back_mat (by omega) hm)
 obtain ⟨v, hv, hlv⟩ := List.any_eq_true.1 h
 obtain ⟨i, hi, e⟩ := List.getElem_of_mem hv
 have e2 : (redM p (n + 1) (E.map (backV n))).getD i [] = v := by rw [getD_lt hi, e]
 have hld : ld i = n := by
  have := red_lead hR hr hi
  rw [e2] at this
  rw [← this]
  simpa using hlv
 intro hs
 have := (hN _).2 ((sol_back hm x).1 hs) i hi
 rw [sm, sm_congr (n := n) (g := fun _ => 0) (fun j hj => by rw [hr.before i j hi (by rw [hld]; exact hj), Int.zero_mul]), sm_zero, xr_at] at this
 have h1 := hr.one i hi
 rw [hld] at h1
 rw [h1] at this
 exact one_ndvd (p := p) (by omega) (by simpa using this)
theorem fsTo_length (n : Nat) (R : List (List Int)) : ∀ k, (fsTo n R k).length = n
 | 0 => by simp [fsTo]
 | k + 1 => by rw [fsTo, List.length_set]; exact fsTo_length n R k
theorem fsTo_get {p : Int} {n : Nat} {R : List (List Int)} (hR : Mat p R.length (n + 1) R) {ld : Nat → Nat} (hr : Red p (n + 1) (en R) R.length ld) (hno : ∀ i, i < R.length → ld i < n) :
  ∀ k, k ≤ R.length → (∀ i, i < k → (fsTo n R k).getD (n - 1 - ld i) 0 = en R i n) ∧ ∀ j, j < n → (∀ i, i < k → n - 1 - ld i ≠ j) → (fsTo n R k).getD j 0 = 0
 | 0, _ => ⟨fun i hi => by omega, fun j hj _ => by simp [fsTo, List.getD, hj]⟩
 | k + 1, hk => by
   obtain ⟨h1, h2⟩ := fsTo_get hR hr hno k (by omega)
   have hl := hno k (by omega)
   have hld := red_lead hR hr (i := k) (by omega)
   refine ⟨fun i hi => ?_, fun j hj hne => ?_⟩
   · rw [fsTo, hld]
     by_cases e : i = k
     · subst e
       rw [getD_set_self (by rw [fsTo_length]; omega)]
       rfl
     · have hm := hr.mono i k (by omega) (by omega)
       rw [getD_set_ne' (by omega)]
       exact h1 i (by omega)
   · rw [fsTo, hld, getD_set_ne' (hne k (by omega))]
     exact h2 j hj fun i hi => hne i (by omega)
theorem fsTo_res {p : Int} (hp : 0 < p) {n : Nat} {R : List (List Int)} (hR : Mat p R.length (n + 1) R) : ∀ k, k ≤ R.length → Res p (fsTo n R k)
 | 0, _ => Res.replicate hp n
 | k + 1, hk => (fsTo_res hp hR k (by omega)).set ((hR.get (i := k) (by omega)).2.getD hp n) _
section
variable {p : Int} {n : Nat} {E : List (List Int)}
theorem fs_sol (hp : fieldB p = true) (hm : Mat p E.length (n + 1) E) (h : (redM p (n + 1) (E.map (backV n))).any (fun v => leadV v == n) = false) :
  SolE p n E (fun j => (fsTo n (redM p (n + 1) (E.map (backV n))) (redM p (n + 1) (E.map (backV n))).length).getD j 0) ∧
  ∃ ld, Red p (n + 1) (en (redM p (n + 1) (E.map (backV n)))) (redM p (n + 1) (E.map (backV n))).length ld ∧ (∀ i, i < (redM p (n + 1) (E.map (backV n))).length → ld i < n) ∧
    ∀ j, j < n → (∀ i, i < (redM p (n + 1) (E.map (backV n))).length → n - 1 - ld i ≠ j) → (fsTo n (redM p (n + 1) (E.map (backV n))) (redM p (n + 1) (E.map (backV n))).length).getD j 0 = 0 := by
 have hpb := fieldB_bounds hp
 obtain ⟨⟨hR, ld, hr⟩, hN, _⟩ := redM_spec hp (back_mat (by omega) hm)
 obtain ⟨R, hRe⟩ : ∃ R, R = redM p (n + 1) (E.map (backV n)) := ⟨_, rfl⟩
 rw [← hRe] at hR hr hN h ⊢
 have hno : ∀ i, i < R.length → ld i < n := fun i hi => by
  have h1 := hr.lt i hi
  have h2 : leadV (R.getD i []) ≠ n := fun e => by
   have := List.any_eq_false.1 h (R.getD i []) (by rw [getD_lt hi]; exact List.getElem_mem hi)
   rw [e] at this
   simp at this
  rw [red_lead hR hr hi] at h2
  omega
 obtain ⟨g1, g2⟩ := fsTo_get hR hr hno R.length (Nat.le_refl _)
 refine ⟨(sol_back hm _).2 ((hN _).1 fun i hi => ?_), ld, hr, hno, g2⟩
 have hl := hno i hi
 rw [sm, sm_one hl (fun j hj hne => ?_), hr.one i hi, Int.one_mul, xr_lt hl, xr_at, g1 i hi]
 · simp
   rw [Int.add_right_neg]
   exact Int.dvd_zero p
 · rw [xr_lt hj]
   by_cases hex : ∃ k, k < R.length ∧ ld k = j
   · obtain ⟨k, hk, rfl⟩ := hex
     rw [hr.zero k i hk hi (fun e => hne (by rw [e])), Int.zero_mul]
   · have : (fsTo n R R.length).getD (n - 1 - j) 0 = 0 := g2 _ (by omega) fun k hk e => hex ⟨k, hk, by have := hno k hk; omega⟩
     rw [this, Int.mul_zero]
theorem fs_first (hp : fieldB p = true) (hm : Mat p E.length (n + 1) E) {K : List (List Int)} (hK : RedL p n K) {y : List Int} (hyl : y.length = n) (hyr : Res p y)
  (hs : SolE p n E fun j => y.getD j 0) (hsp : ∀ d, HomE p n E d → ∀ x, NulL p n K x → p ∣ sm n fun j => x j * d j)
  (hz : ∀ i, i < K.length → y.getD (leadV (K.getD i [])) 0 = 0) : fsM p n E = (y, true) := by
 have hpb := fieldB_bounds hp
 cases hc : (redM p (n + 1) (E.map (backV n))).any (fun v => leadV v == n)
 case true => exact absurd hs (fs_none hp hm hc _)
 case false =>
  unfold fsM
  rw [if_neg (by rw [hc]; simp)]
  obtain ⟨hzs, ld, hr, hno, hzz⟩ := fs_sol hp hm hc
  have hRm := (redM_spec hp (back_mat (by omega) hm)).1.1
  have hNR := (redM_spec hp (back_mat (by omega) hm)).2.1
  obtain ⟨R, hRe⟩ : ∃ R, R = redM p (n + 1) (E.map (backV n)) := ⟨_, rfl⟩
  rw [← hRe] at hr hno hzz hzs hRm hNR ⊢
  have hzr := fsTo_res (by omega : 0 < p) hRm R.length (Nat.le_refl _)
  have hzl := fsTo_length n R R.length
  obtain ⟨z, hze⟩ : ∃ z, z = fsTo n R R.length := ⟨_, rfl⟩
  rw [← hze] at hzr hzl hzz hzs ⊢
  obtain ⟨hKm, lk, hk⟩ := hK
  have hd : HomE p n E (fun j => z.getD j 0 - y.getD j 0) := fun i hi => by
   have h1 := Int.dvd_sub (hzs i hi) (hs i hi)
   have e : (sm n fun j => en E i j * (z.getD j 0 - y.getD j 0)) = (sm n fun j => en E i j * z.getD j 0) - sm n fun j => en E i j * y.getD j 0 := by
    rw [← sm_sub]
    exact sm_congr fun j _ => Int.mul_sub _ _ _
   rw [e]
   have e2 : (sm n fun j => en E i j * z.getD j 0) - en E i n - ((sm n fun j => en E i j * y.getD j 0) - en E i n) = (sm n fun j => en E i j * z.getD j 0) - sm n fun j => en E i j * y.getD j 0 := by omega
   rwa [e2] at h1
  have hex := fun {j} hj => hk.expand (v := fun j => z.getD j 0 - y.getD j 0) (fun x hx => by
   have := hsp _ hd x hx
   rw [sm_congr (g := fun j => x j * (z.getD j 0 - y.getD j 0)) (fun j _ => Int.mul_comm _ _)]
   exact this) (j := j) hj
  by_cases hall : ∀ j, j < n → z.getD j 0 = y.getD j 0
  · refine Prod.ext ?_ rfl
    show z = y
    refine List.ext_getElem (by omega) fun j h1 h2 => ?_
    have := hall j (by omega)
    rwa [getD_lt h1, getD_lt h2] at this
  · exfalso
    obtain ⟨j, hj, hjn, hlt⟩ := least_of (n := n) (P := fun j => ¬ z.getD j 0 = y.getD j 0) (Classical.byContradiction fun hh => hall fun j hj => Classical.byContradiction fun h => hh ⟨j, hj, h⟩)
    have hjd : ¬ p ∣ z.getD j 0 - y.getD j 0 := fun hd' => hjn (res_eq (hzr.getD (by omega) j) (hyr.getD (by omega) j) hd')
    have hb : ∀ k, k < j → z.getD k 0 = y.getD k 0 := fun k hk => Classical.byContradiction fun h => hlt k hk h
    -- the lead of the difference is a lead of K
    have hmem : ∃ i, i < K.length ∧ lk i = j := by
     apply Classical.byContradiction
     intro hno'
     apply hjd
     have h0 := hex hj
     have hsum : p ∣ sm K.length fun i => (z.getD (lk i) 0 - y.getD (lk i) 0) * en K i j := sm_dvd fun i hi => by
      rcases Nat.lt_trichotomy (lk i) j with h | h | h
      · rw [hb _ h, Int.sub_self, Int.zero_mul]; exact Int.dvd_zero p
      · exact absurd ⟨i, hi, h⟩ hno'
      · rw [hk.before i j hi h, Int.mul_zero]; exact Int.dvd_zero p
     have := Int.dvd_add h0 hsum
     rwa [Int.sub_add_cancel] at this
    obtain ⟨i, hi, rfl⟩ := hmem
    have hyz := hz i hi
    rw [red_lead hKm hk hi] at hyz
    -- it is fixed by a row, so that it is no free one
    have hpv : ∃ q, q < R.length ∧ n - 1 - ld q = lk i := by
     apply Classical.byContradiction
     intro hno'
     apply hjn
     rw [hzz _ hj (fun q hq e => hno' ⟨q, hq, e⟩), hyz]
    obtain ⟨q, hq, hqe⟩ := hpv
    have hlq := hno q hq
    have hy1 := (hNR _).2 ((sol_back hm _).1 hs) q hq
    have hz1 := (hNR _).2 ((sol_back hm _).1 hzs) q hq
    have h2 := Int.dvd_sub hz1 hy1
    rw [← sm_sub, sm_one (k := ld q) (by omega) (fun t ht hne => ?_)] at h2
    · rw [hr.one q hq, Int.one_mul, Int.one_mul, xr_lt hlq, xr_lt hlq, hqe] at h2
      exact hjd h2
    · by_cases htn : t < n
      · rw [xr_lt htn, xr_lt htn]
        rcases Nat.lt_or_ge t (ld q) with h | h
        · rw [hr.before q t hq h]; simp
        · rw [hb (n - 1 - t) (by omega), Int.sub_self]
      · obtain rfl : t = n := by omega
        rw [xr_at, xr_at, Int.sub_self]
end
def slvTo (p : Int) (m : Nat) (s : Nat × List (List Int) × List (List Int)) (b : List Int) : Nat → List Int × List Int
 | 0 => (b, List.replicate m 0)
 | k + 1 => (addT p (slvTo p m s b k).1 (-((slvTo p m s b k).1.getD (leadV (s.2.1.getD k [])) 0)) (s.2.1.getD k []), addT p (slvTo p m s b k).2 ((slvTo p m s b k).1.getD (leadV (s.2.1.getD k [])) 0) (s.2.2.getD k []))
def slvM (p : Int) (m n : Nat) (M : List (List Int)) (b : List Int) : List Int × Bool :=
 ((slvTo p m (redTo p M (idM m) n) b (redTo p M (idM m) n).1).2, (slvTo p m (redTo p M (idM m) n) b (redTo p M (idM m) n).1).1.all fun a => a == 0)
theorem addT_en {p c : Int} {v w : List Int} {n j : Nat} (hv : v.length = n) (hw : w.length = n) (hj : j < n) : (addT p v c w).getD j 0 = (v.getD j 0 + c * w.getD j 0) % p := by
 rw [addT_getD, if_pos (by omega), if_pos (by omega)]
section
variable {p : Int} {m n : Nat} {M : List (List Int)}
theorem red_beside (hp : fieldB p = true) (hm : Mat p m n M) : ∃ ld, RInv p m n n M (redTo p M (idM m) n) ld ∧ Mat p m m (redTo p M (idM m) n).2.2 ∧ Makes p m n (en (redTo p M (idM m) n).2.1) (en (redTo p M (idM m) n).2.2) (en M) := by
 have hpb := fieldB_bounds hp
 obtain ⟨ld, hR⟩ := redTo_inv hp hm (idM m) n (Nat.le_refl _)
 obtain ⟨h1, h2, _⟩ := redTo_also hp hm (idM_mat (by omega) m) (T := en M) (fun i hi k _ => by
   rw [sm_congr (g := fun l => en M l k * (if l = i then 1 else 0)) (fun l hl => by rw [idM_en hi hl, Int.mul_comm]), dot_delta hi (fun l => en M l k), Int.sub_self]
   exact Int.dvd_zero p) (fun y => ⟨y, fun l hl => by
   rw [sm_congr (g := fun i => y i * (if i = l then 1 else 0)) (fun i hi => by rw [idM_en hi hl]; congr 1; by_cases e : l = i <;> simp [e, eq_comm]), dot_delta hl, Int.sub_self]
   exact Int.dvd_zero p⟩) n (Nat.le_refl _)
 exact ⟨ld, hR, h1, h2⟩
def slvK (p : Int) (m : Nat) (s : Nat × List (List Int) × List (List Int)) (b : List Int) (i : Nat) : Int := (slvTo p m s b i).1.getD (leadV (s.2.1.getD i [])) 0
theorem lin_sub {p r K a b S : Int} (h : p ∣ r - (b - S)) : p ∣ (r + -K * a) % p - (b - (S + K * a)) := by
 have e := Int.dvd_add (dvd_emod_sub p (r + -K * a)) h
 have e2 : (r + -K * a) % p - (b - (S + K * a)) = (r + -K * a) % p - (r + -K * a) + (r - (b - S)) := by rw [Int.neg_mul]; omega
 rw [e2]; exact e
theorem lin_add {p r K a S : Int} (h : p ∣ r - S) : p ∣ (r + K * a) % p - (S + K * a) := by
 have e := Int.dvd_add (dvd_emod_sub p (r + K * a)) h
 have e2 : (r + K * a) % p - (S + K * a) = (r + K * a) % p - (r + K * a) + (r - S) := by omega
 rw [e2]; exact e
theorem slv_inv (hp : 0 < p) {s : Nat × List (List Int) × List (List Int)} (ha : Mat p m n s.2.1) (ht : Mat p m m s.2.2) (hr : s.1 ≤ m) {b : List Int} (hbl : b.length = n) (hbr : Res p b) :
  ∀ k, k ≤ s.1 → (slvTo p m s b k).1.length = n ∧ Res p (slvTo p m s b k).1 ∧ (slvTo p m s b k).2.length = m ∧ Res p (slvTo p m s b k).2 ∧
    (∀ j, j < n → p ∣ (slvTo p m s b k).1.getD j 0 - (b.getD j 0 - sm k fun i => slvK p m s b i * en s.2.1 i j)) ∧
    ∀ l, l < m → p ∣ (slvTo p m s b k).2.getD l 0 - sm k fun i => slvK p m s b i * en s.2.2 i l
 | 0, _ => ⟨hbl, hbr, by simp [slvTo], Res.replicate hp m, fun j _ => by simp [slvTo, sm], fun l hl => by simp [slvTo, sm, List.getD, hl]⟩
 | k + 1, hk => by
   obtain ⟨h1, h2, h3, h4, h5, h6⟩ := slv_inv hp ha ht hr hbl hbr k (by omega)
   have hak := (ha.get (i := k) (by omega)).1
   have htk := (ht.get (i := k) (by omega)).1
   refine ⟨by rw [slvTo]; simpa using h1, by rw [slvTo]; exact h2.addT hp, by rw [slvTo]; simpa using h3, by rw [slvTo]; exact h4.addT hp, fun j hj => ?_, fun l hl => ?_⟩
   · rw [slvTo, sm]
     show p ∣ (addT p _ _ _).getD j 0 - _
     rw [addT_en h1 hak hj]
     exact lin_sub (h5 j hj)
   · rw [slvTo, sm]
     show p ∣ (addT p _ _ _).getD l 0 - _
     rw [addT_en h3 htk hl]
     exact lin_add (h6 l hl)
theorem slv_ok (hp : fieldB p = true) (hm : Mat p m n M) {b : List Int} (hbl : b.length = n) (hbr : Res p b) :
  (slvM p m n M b).1.length = m ∧ Res p (slvM p m n M b).1 ∧ ((slvM p m n M b).2 = true → ∀ j, j < n → p ∣ (sm m fun i => (slvM p m n M b).1.getD i 0 * en M i j) - b.getD j 0) := by
 have hpb := fieldB_bounds hp
 obtain ⟨ld, hR, ht, hmk⟩ := red_beside hp hm
 obtain ⟨s, hs⟩ : ∃ s, s = redTo p M (idM m) n := ⟨_, rfl⟩
 unfold slvM
 rw [← hs] at hR ht hmk ⊢
 have hrk : s.1 ≤ m := hR.inv.le
 obtain ⟨h1, h2, h3, h4, h5, h6⟩ := slv_inv (by omega) hR.mat ht hrk hbl hbr s.1 (Nat.le_refl _)
 refine ⟨h3, h4, fun hz j hj => ?_⟩
 have hz0 : (slvTo p m s b s.1).1.getD j 0 = 0 := by
  have := List.all_eq_true.1 hz ((slvTo p m s b s.1).1.getD j 0) (by rw [getD_lt (by omega)]; exact List.getElem_mem _)
  simpa using this
 have hb := h5 j hj
 rw [hz0] at hb
 -- the sums
 have e1 : p ∣ (sm m fun l => (slvTo p m s b s.1).2.getD l 0 * en M l j) - sm m fun l => (sm s.1 fun i => slvK p m s b i * en s.2.2 i l) * en M l j := sm_dvd_sub fun l hl => by
  rw [← Int.sub_mul]; exact dvd_l (h6 l hl) _
 have e2 : (sm m fun l => (sm s.1 fun i => slvK p m s b i * en s.2.2 i l) * en M l j) = sm s.1 fun i => slvK p m s b i * sm m fun l => en s.2.2 i l * en M l j := by
  rw [sm_congr (g := fun l => sm s.1 fun i => slvK p m s b i * (en s.2.2 i l * en M l j)) (fun l _ => by
   rw [Int.mul_comm, ← sm_mul]
   exact sm_congr fun i _ => by rw [Int.mul_comm (en M l j), Int.mul_assoc]), sm_swap]
  exact sm_congr fun i _ => sm_mul _ _ _
 have e3 : p ∣ (sm s.1 fun i => slvK p m s b i * en s.2.1 i j) - sm s.1 fun i => slvK p m s b i * sm m fun l => en s.2.2 i l * en M l j := sm_dvd_sub fun i hi => by
  rw [← Int.mul_sub]; exact dvd_r (hmk i (by omega) j hj) _
 rw [e2] at e1
 have e7 := Int.dvd_add (Int.dvd_sub e1 e3) hb
 have e8 : ∀ A B C D : Int, A - B - (C - B) + (0 - (D - C)) = A - D := by intros; omega
 rwa [e8] at e7
theorem slv_all (hp : fieldB p = true) (hm : Mat p m n M) {b : List Int} (hbl : b.length = n) (hbr : Res p b) (x : Nat → Int) (hx : ∀ j, j < n → p ∣ (sm m fun i => x i * en M i j) - b.getD j 0) : (slvM p m n M b).2 = true := by
 have hpb := fieldB_bounds hp
 obtain ⟨ld, hR, ht, hmk⟩ := red_beside hp hm
 obtain ⟨s, hs⟩ : ∃ s, s = redTo p M (idM m) n := ⟨_, rfl⟩
 unfold slvM
 rw [← hs] at hR ht hmk ⊢
 have hrk : s.1 ≤ m := hR.inv.le
 have hred := hR.inv.red
 have hla : ∀ i, i < s.1 → leadV (s.2.1.getD i []) = ld i := fun i hi => by
  refine leadV_eq (by rw [(hR.mat.get (i := i) (by omega)).1]; exact hred.lt i hi) ?_ fun j hj => hred.before i j hi hj
  have := hred.one i hi
  unfold en at this
  rw [this]; decide
 obtain ⟨h1, h2, h3, h4, h5, h6⟩ := slv_inv (by omega) hR.mat ht hrk hbl hbr s.1 (Nat.le_refl _)
 -- the factors are b's elements at the leads
 have hk : ∀ i, i < s.1 → p ∣ slvK p m s b i - b.getD (ld i) 0 := fun i hi => by
  have := (slv_inv (by omega) hR.mat ht hrk hbl hbr i (by omega)).2.2.2.2.1 (ld i) (hred.lt i hi)
  rw [sm_congr (g := fun _ => 0) (fun q hq => by rw [hred.zero i q hi (by omega) (by omega), Int.mul_zero]), sm_zero, Int.sub_zero] at this
  unfold slvK
  rw [hla i hi]
  exact this
 have hexp : ∀ j, j < n → p ∣ b.getD j 0 - sm s.1 fun i => b.getD (ld i) 0 * en s.2.1 i j := fun j hj => hred.expand (v := fun j => b.getD j 0) (fun y hy => by
  have hyM : Nul p n (en M) m y := (hR.nul y).1 ((hR.inv.nul y).2 hy)
  have a1 : p ∣ (sm n fun j => (sm m fun i => x i * en M i j) * y j) - sm n fun j => b.getD j 0 * y j := sm_dvd_sub fun j hj => by
   rw [← Int.sub_mul]; exact dvd_l (hx j hj) _
  have a2 : p ∣ sm n fun j => (sm m fun i => x i * en M i j) * y j := by
   rw [sm_congr (g := fun j => sm m fun i => x i * (en M i j * y j)) (fun j _ => by
    rw [Int.mul_comm, ← sm_mul]
    exact sm_congr fun i _ => by rw [Int.mul_comm (y j), Int.mul_assoc]), sm_swap]
   refine sm_dvd fun i hi => ?_
   rw [sm_mul]
   exact dvd_r (hyM i hi) _
  have := Int.dvd_sub a2 a1
  rwa [Int.sub_sub_self] at this) hj
 refine List.all_eq_true.2 fun a ha => ?_
 obtain ⟨j, hj, rfl⟩ := List.getElem_of_mem ha
 rw [h1] at hj
 have hj' := h5 j hj
 have a1 : p ∣ (sm s.1 fun i => slvK p m s b i * en s.2.1 i j) - sm s.1 fun i => b.getD (ld i) 0 * en s.2.1 i j := sm_dvd_sub fun i hi => by
  rw [← Int.sub_mul]; exact dvd_l (hk i hi) _
 have a2 := Int.dvd_add (Int.dvd_sub hj' a1) (hexp j hj)
 have e8 : ∀ A B C D : Int, A - (B - C) - (C - D) + (B - D) = A := by intros; omega
 rw [e8] at a2
 have a3 := h2.getD (by omega : 0 < p) j
 have : (slvTo p m s b s.1).1.getD j 0 = 0 := res_eq a3 ⟨Int.le_refl _, by omega⟩ (by rw [Int.sub_zero]; exact a2)
 rw [getD_lt (by omega)] at this
 simp [this]
end
def lsTo (p : Int) (K : List (List Int)) (y : List Int) : Nat → List Int
 | 0 => y
 | k + 1 => addT p (lsTo p K y k) (-((lsTo p K y k).getD (leadV (K.getD k [])) 0)) (K.getD k [])
theorem ls_inv {p : Int} (hp : 0 < p) {n : Nat} {K : List (List Int)} (hK : RedL p n K) {y : List Int} (hyl : y.length = n) (hyr : Res p y) :
  ∀ k, k ≤ K.length → (lsTo p K y k).length = n ∧ Res p (lsTo p K y k) ∧ (∃ f : Nat → Int, ∀ j, j < n → p ∣ (lsTo p K y k).getD j 0 - (y.getD j 0 - sm k fun i => f i * en K i j)) ∧
    ∀ i, i < k → (lsTo p K y k).getD (leadV (K.getD i [])) 0 = 0
 | 0, _ => ⟨hyl, hyr, ⟨fun _ => 0, fun j _ => by simp [lsTo, sm]⟩, fun i hi => by omega⟩
 | k + 1, hk => by
   obtain ⟨h1, h2, ⟨f, h3⟩, h4⟩ := ls_inv hp hK hyl hyr k (by omega)
   obtain ⟨hm, ld, hr⟩ := hK
   have hKk := (hm.get (i := k) (by omega)).1
   have hlk := red_lead hm hr (i := k) (by omega)
   refine ⟨by rw [lsTo]; simpa using h1, by rw [lsTo]; exact h2.addT hp, ⟨fun i => if i = k then (lsTo p K y k).getD (leadV (K.getD k [])) 0 else f i, fun j hj => ?_⟩, fun i hi => ?_⟩
   · rw [lsTo, sm, addT_en h1 hKk hj]
     show p ∣ _ - (_ - (_ + (if k = k then _ else f k) * en K k j))
     rw [if_pos rfl, sm_congr (g := fun i => f i * en K i j) (fun i hi => by show (if i = k then _ else f i) * _ = _; rw [if_neg (Nat.ne_of_lt hi)])]
     exact lin_sub (h3 j hj)
   · have hli := red_lead hm hr (i := i) (by omega)
     rw [lsTo, hli, addT_en h1 hKk (hr.lt i (by omega))]
     by_cases e : i = k
     · subst e
       have h1' : (K.getD i []).getD (ld i) 0 = 1 := hr.one i (by omega)
       rw [hlk, h1', Int.mul_one, Int.add_right_neg]
       exact Int.zero_emod p
     · have h0 : (K.getD k []).getD (ld i) 0 = 0 := hr.zero i k (by omega) (by omega) (fun h => e h.symm)
       have hz := h4 i (by omega)
       rw [hli] at hz
       rw [h0, hz, Int.mul_zero, Int.add_zero]
       exact Int.zero_emod p
theorem first_eq {p : Int} (hp : fieldB p = true) {n : Nat} {E : List (List Int)} (hm : Mat p E.length (n + 1) E) {K : List (List Int)} (hK : RedL p n K) (hKh : ∀ i, i < K.length → HomE p n E (en K i))
  (hsp : ∀ d, HomE p n E d → ∀ x, NulL p n K x → p ∣ sm n fun j => x j * d j) {y : List Int} (hyl : y.length = n) (hyr : Res p y) (hs : SolE p n E fun j => y.getD j 0) : fsM p n E = (lsTo p K y K.length, true) := by
 have hpb := fieldB_bounds hp
 obtain ⟨h1, h2, ⟨f, h3⟩, h4⟩ := ls_inv (by omega) hK hyl hyr K.length (Nat.le_refl _)
 refine fs_first hp hm hK h1 h2 (fun i hi => ?_) hsp h4
 have a1 : p ∣ (sm n fun j => en E i j * (lsTo p K y K.length).getD j 0) - sm n fun j => en E i j * (y.getD j 0 - sm K.length fun q => f q * en K q j) := sm_dvd_sub fun j hj => by
  rw [← Int.mul_sub]; exact dvd_r (h3 j hj) _
 have a2 : (sm n fun j => en E i j * (y.getD j 0 - sm K.length fun q => f q * en K q j)) = (sm n fun j => en E i j * y.getD j 0) - sm K.length fun q => f q * sm n fun j => en E i j * en K q j := by
  rw [sm_congr (g := fun j => en E i j * y.getD j 0 - sm K.length fun q => f q * (en E i j * en K q j)) (fun j _ => by
   rw [Int.mul_sub, ← sm_mul]
   congr 1
   exact sm_congr fun q _ => by rw [Int.mul_left_comm]), sm_sub, sm_swap]
  congr 1
  exact sm_congr fun q _ => sm_mul _ _ _
 have a3 : p ∣ sm K.length fun q => f q * sm n fun j => en E i j * en K q j := sm_dvd fun q hq => dvd_r (hKh q hq i hi) _
 rw [a2] at a1
 have a4 := Int.dvd_add (Int.dvd_sub a1 a3) (hs i hi)
 have e8 : ∀ A B C D : Int, A - (B - C) - C + (B - D) = A - D := by intros; omega
 rwa [e8] at a4
theorem fs_no {p : Int} (hp : fieldB p = true) {n : Nat} {E : List (List Int)} (hm : Mat p E.length (n + 1) E) (h : ∀ x, ¬ SolE p n E x) : fsM p n E = ([], false) := by
 unfold fsM
 cases hc : (redM p (n + 1) (E.map (backV n))).any (fun v => leadV v == n)
 · exact absurd (fs_sol hp hm hc).1 (h _)
 · rw [if_pos rfl]
theorem nullM_genL {p : Int} (hf : fieldB p = true) {N : Nat} {E : List (List Int)} (hE : Mat p E.length N E) : GenL p N (NulL p N E) (nullM p N E) := by
 have hpb := fieldB_bounds hf
 have hB := nullM_red hf N E
 have hr := redM_spec hf hE
 have hg := (nvecs_gen (by omega) hr.1).congr hr.2.1
 have hs := redM_spec hf hg.1
 refine ⟨hB.1, fun k hk => ?_, fun x hx => hg.2.2 x ((hs.2.1 x).1 hx)⟩
 intro i hi
 have hrow : NulL p N (nvecs p N (redM p N E)) fun j => en E i j := fun q hq => by
  have := hg.2.1 q hq i hi
  rw [sm_congr (g := fun j => en E i j * en (nvecs p N (redM p N E)) q j) (fun j _ => Int.mul_comm _ _)]
  exact this
 have := (hs.2.1 _).2 hrow k hk
 rw [sm_congr (g := fun j => en (nullM p N E) k j * en E i j) (fun j _ => Int.mul_comm _ _)]
 exact this
section
variable {p : Int} {n : Nat} {C : List (List Int)} {b : List Int}
def eqsM (C : List (List Int)) (b : List Int) : List (List Int) := List.zipWith (fun r a => r ++ [a]) C b
theorem eqsM_len (hb : b.length = C.length) : (eqsM C b).length = C.length := by simp [eqsM, hb]
theorem eqsM_get (hb : b.length = C.length) {i : Nat} (hi : i < C.length) : (eqsM C b).getD i [] = C.getD i [] ++ [b.getD i 0] := by
 simp [eqsM, List.getD, List.getElem?_zipWith, hi, (by omega : i < b.length)]
theorem eqsM_en (hC : Mat p C.length n C) (hb : b.length = C.length) {i : Nat} (hi : i < C.length) : (∀ j, j < n → en (eqsM C b) i j = en C i j) ∧ en (eqsM C b) i n = b.getD i 0 := by
 have hl := (hC.get hi).1
 unfold en
 rw [eqsM_get hb hi]
 constructor
 · intro j hj
   simp only [List.getD_eq_getElem?_getD]
   rw [List.getElem?_append_left (by simpa [List.getD] using (by omega : j < (C.getD i []).length))]
 · simp only [List.getD_eq_getElem?_getD]
   have hl' : (C[i]?.getD []).length = n := by simpa [List.getD] using hl
   rw [List.getElem?_append_right (by omega), hl', Nat.sub_self]
   rfl
theorem eqsM_mat (hC : Mat p C.length n C) (hb : b.length = C.length) (hbr : Res p b) (hp : 0 < p) : Mat p (eqsM C b).length (n + 1) (eqsM C b) := by
 refine Mat.of_get rfl fun i hi => ?_
 rw [eqsM_len hb] at hi
 rw [eqsM_get hb hi]
 obtain ⟨h1, h2⟩ := hC.get hi
 refine ⟨by rw [List.length_append, h1]; rfl, h2.append fun x hx => ?_⟩
 obtain rfl := List.mem_singleton.1 hx
 exact hbr.getD hp i
theorem hom_eqs (hC : Mat p C.length n C) (hb : b.length = C.length) (d : Nat → Int) : HomE p n (eqsM C b) d ↔ NulL p n C d := by
 unfold HomE NulL Nul
 rw [eqsM_len hb]
 refine forall_congr' fun i => imp_congr_right fun hi => ?_
 rw [sm_congr (g := fun j => en C i j * d j) (fun j hj => by rw [(eqsM_en hC hb hi).1 j hj])]
theorem sol_eqs (hC : Mat p C.length n C) (hb : b.length = C.length) (x : Nat → Int) : SolE p n (eqsM C b) x ↔ ∀ i, i < C.length → p ∣ (sm n fun j => en C i j * x j) - b.getD i 0 := by
 unfold SolE
 rw [eqsM_len hb]
 refine forall_congr' fun i => imp_congr_right fun hi => ?_
 rw [sm_congr (g := fun j => en C i j * x j) (fun j hj => by rw [(eqsM_en hC hb hi).1 j hj]), (eqsM_en hC hb hi).2]
end
open Go.RowKit
section
variable {P : Program} {l : List Oper} {Q : Exit → Act → World → Prop} {md : Region.Mode} {S : World → Prop}
theorem beginB {id : Nat} {a : Act} {w : World} (hm : P.follows .mixedOrders = true) (h : ∀ W1, W1 = w.drew → wpAnyH P .any l.toArray Q (fun w' => Below W1.heap.size W1 w') l.toArray.size (Array.replicate l.toArray.size false) a W1) : (Code.region id l.toArray true).wp P Q a w :=
 beginH _ hm (h _ rfl)
theorem runH (i : Nat) {o : Oper} {v : Value} {fuel : Nat} {listed : Array Bool} {a : Act} {w w1 : World} {l' : List Oper} (hd : l.drop i = o :: l') (hr : Region.ready md l.toArray listed = [i]) (hw : Region.wanted o (yielded l.toArray a.tmps) = true)
  (hrun : (execOp a.eval o).run P w = .ok (.value v) w1) (hS : S w1) (h : wpAnyH P md l.toArray Q S fuel (listed.setIfInBounds i true) (a.put o.dst v) w1) : wpAnyH P md l.toArray Q S (fuel + 1) listed a w :=
 oneH i hd hr hw fun K hK => by
  unfold Oper.wp
  rw [hrun]
  exact hK _ _ hS h
theorem appH (i : Nat) {o : Oper} {fuel : Nat} {listed : Array Bool} {a : Act} {w : World} {l' : List Oper} (hd : l.drop i = o :: l') (hr : Region.ready md l.toArray listed = [i]) (hw : Region.wanted o (yielded l.toArray a.tmps) = true)
  (s x : Operand) (t : TypeId) (ho : o.op = .call { callee := .builtin .append, args := #[s, x], argTypes := #[t, t] })
  (e : TypeId) {z : Value} {size bytes : Nat} (ht : P.underlying t = some (.slice e)) (hinfo : (P.info? e).map (fun i => (i.zero, i.size, i.bytes)) = some (some z, size, bytes)) (hzs : z.cells.size = size) (hsz : 0 < size)
  {A : Option Addr} {n cap : Nat} {xs : List Value} (he : a.eval s = .slice A n cap) (hs : Sl w e size A n cap xs)
  {B : Option Addr} {m c : Nat} {news : List Value} (hx : a.eval x = .slice B m c) (hl : news.length = m * size) (hrd : RdC w B news) (h1 : ∀ u ∈ news, u.oneCell' = true)
  (h63 : n + m ≤ maxLen) (hbytes : (n + m) * bytes ≤ 140737488355328)
  (h : ∀ A' cap' w', Sl w' e size A' (n + m) cap' (xs ++ news) → (∀ b, b ∈ fpA A' → b ∈ fpA A ∨ w.heap.size ≤ b) → Keeps (· ∈ fpA A) w w' → S w' ∧ wpAnyH P md l.toArray Q S fuel (listed.setIfInBounds i true) (a.put o.dst (.slice A' (n + m) cap')) w') : wpAnyH P md l.toArray Q S (fuel + 1) listed a w := by
 obtain ⟨i', hi, hz, hz1, hz2⟩ := info_parts hinfo
 obtain ⟨A', cap', w', hrun, h2, h3, h4⟩ := run_append_Sl (P := P) w t o.type e i' z size bytes ht hi hz hz1 hz2 hzs hsz A n cap xs hs B m c news hl hrd h1 h63 hbytes
 obtain ⟨hS, hh⟩ := h A' cap' w' h2 h3 h4
 refine runH i hd hr hw (w1 := w') (v := .slice A' (n + m) cap') ?_ hS hh
 unfold execOp
 simp only [ho, resolve, invoke, builtin, Sem.run_bind, Sem.run_pure, Result.andThen_ok, List.map_toArray, List.map_cons, List.map_nil, he, hx, hrun]
end
def redB (p n : Int) (L : List (List Int)) : Bool := decide ((L.length : Int) ≤ n) && (rowsB p n L && decide (redM p n.toNat L = L))
def relB (p : Int) (s : Sys) : Bool := (decide (0 ≤ s.1) && decide (s.1 ≤ 24)) && ((decide (0 ≤ s.2.1) && decide (s.2.1 ≤ 24 - s.1)) && (fieldB p && redB p (s.1 + s.2.1) s.2.2))
structure RelOk (p : Int) (s : Sys) : Prop where
 lo : 0 ≤ s.1
 hi : 0 ≤ s.2.1
 sum : s.1 + s.2.1 ≤ 24
 fld : fieldB p = true
 len : (s.2.2.length : Int) ≤ s.1 + s.2.1
 mat : Mat p s.2.2.length (s.1 + s.2.1).toNat s.2.2
 red : redM p (s.1 + s.2.1).toNat s.2.2 = s.2.2
theorem RelOk.of {p : Int} {s : Sys} (h : relB p s = true) : RelOk p s := by
 unfold relB redB at h
 simp only [Bool.and_eq_true, decide_eq_true_eq] at h
 obtain ⟨⟨h1, h2⟩, ⟨h3, h4⟩, h5, h6, h7, h8⟩ := h
 exact ⟨h1, h3, by omega, h5, h6, rowsB_mat h7 (by omega), h8⟩
theorem RelOk.row {p : Int} {s : Sys} (h : RelOk p s) {v : List Int} (hv : v ∈ s.2.2) : (v.length : Int) = s.1 + s.2.1 ∧ Res p v := by
 have := h.mat.row v hv
 have h1 := h.lo
 have h2 := h.hi
 exact ⟨by omega, this.2⟩
theorem Mat.map {p : Int} {m n k : Nat} {L : List (List Int)} {f : List Int → List Int} (h : Mat p m n L) (hf : ∀ v, v.length = n → Res p v → (f v).length = k ∧ Res p (f v)) : Mat p m k (L.map f) := by
 refine ⟨by rw [List.length_map]; exact h.len, fun v hv => ?_⟩
 obtain ⟨u, hu, rfl⟩ := List.mem_map.1 hv
 exact hf u (h.row u hu).1 (h.row u hu).2
def firstM (s : Sys) : List (List Int) := s.2.2.map fun v => v.take s.1.toNat
def secondM (s : Sys) : List (List Int) := s.2.2.map fun v => v.drop s.1.toNat
abbrev tRel : TypeId := 82
theorem alloc_box (w : World) (o : Obj) : ∃ W, W = w.alloc o ∧ Below w.heap.size w W ∧ W.heap[w.heap.size]? = some o := ⟨_, rfl, (Below.refl _ _).alloc (Nat.le_refl _) _, heap_alloc_new w o⟩
section
variable {w : World} {B : Nat} {t : TypeId} {x y z a b c : Value}
theorem set3 (h : w.heap[B]? = some (.cells #[x, y, z] t)) : (((w.setCell ⟨B, 0, none⟩ a).setCell ⟨B, 1, none⟩ b).setCell ⟨B, 2, none⟩ c).heap[B]? = some (.cells #[a, b, c] t) ∧ Keeps (· = B) w (((w.setCell ⟨B, 0, none⟩ a).setCell ⟨B, 1, none⟩ b).setCell ⟨B, 2, none⟩ c) := by
 refine ⟨by simp [World.setCell, Array.getElem?_modify, h], ?_⟩
 exact ((((Keeps.refl (fun x => x = B) w).setCell (p := ⟨B, 0, none⟩) rfl _).setCell (p := ⟨B, 1, none⟩) rfl _).setCell (p := ⟨B, 2, none⟩) rfl _)
theorem set2 (h : w.heap[B]? = some (.cells #[x, y] t)) : ((w.setCell ⟨B, 0, none⟩ a).setCell ⟨B, 1, none⟩ b).heap[B]? = some (.cells #[a, b] t) ∧ Keeps (· = B) w ((w.setCell ⟨B, 0, none⟩ a).setCell ⟨B, 1, none⟩ b) := by
 refine ⟨by simp [World.setCell, Array.getElem?_modify, h], ?_⟩
 exact (((Keeps.refl (fun x => x = B) w).setCell (p := ⟨B, 0, none⟩) rfl _).setCell (p := ⟨B, 1, none⟩) rfl _)
end
theorem OwSys.zero (w : World) (a b : Int) : OwSys w (.agg #[.int .i64 a, .int .i64 b, .slice none 0 0]) (a, b, []) [] := ⟨none, 0, [], rfl, rfl, OwR.nil w, by simp [fpR]⟩
theorem OwMt.zero (w : World) (a : Int) : OwMt w (.agg #[.int .i64 a, .slice none 0 0]) (a, []) [] := ⟨none, 0, [], rfl, rfl, OwR.nil w, by simp [fpR]⟩
theorem FreshL.nil (B : Nat) : FreshL B [] := fun b hb => (by cases hb)
theorem OwSys.of_ret {w0 w : World} {L : List (List Int)} {A : Option Addr} {c : Nat} {a b : Int} (h : OM w0 w A c L) {w' : World} {S : Nat → Prop} (hk : Keeps S w w') (hS : ∀ k, S k → k < w0.heap.size) {n : Nat} (hn : L.length = n) : ∃ fp, OwSys w' (.agg #[.int .i64 a, .int .i64 b, .slice A n c]) (a, b, L) fp ∧ FreshL w0.heap.size fp := by
 subst hn
 obtain ⟨fp, h1, h2⟩ := OwSys.of_om (a := a) (b := b) h
 exact ⟨fp, h1.keeps hk fun k hk' hs => by have := h2 k hk'; have := hS k hs; omega, h2⟩
def fromI (a : Int) (n : Nat) : List Int := (List.range n).map fun i => ((i : Nat) : Int) + a
@[simp] theorem fromI_length (a : Int) (n : Nat) : (fromI a n).length = n := by simp [fromI]
theorem OI.join {w0 w w2 : World} {A : Option Addr} {cap : Nat} {l v : List Int} (h : OI w0 w A cap l) {A' : Option Addr} {cap' n : Nat} (hn : n = l.length + v.length) (hs' : Sl w2 tInt 1 A' n cap' (ints l ++ ints v)) (hA' : ∀ b, b ∈ fpA A' → b ∈ fpA A ∨ w.heap.size ≤ b) (hk : Keeps (· ∈ fpA A) w w2) : OI w0 w2 A' cap' (l ++ v) := by
 subst hn
 refine ⟨?_, fun b hb' => ?_, below_keeps h.below_ hk h.below_.size h.new⟩
 · unfold IS
   have : ints (l ++ v) = ints l ++ ints v := by simp [ints]
   rw [this, List.length_append]; exact hs'
 · rcases hA' b hb' with h1 | h1
   · exact h.new b h1
   · have := h.below_.size; omega
theorem flat_take_le {L : List (List Int)} {k : Nat} {N : Nat} (h : L.flatten.length ≤ N) : (L.take k).flatten.length ≤ N := by
 have e : L.flatten.length = (L.take k).flatten.length + (L.drop k).flatten.length := by
  have := congrArg (fun x => x.flatten.length) (List.take_append_drop k L)
  simp only [List.flatten_append, List.length_append] at this; omega
 omega
set_option maxHeartbeats 1000000 in
theorem joined_any (A : Option Addr) (c : Nat) (hs : List Hd) (w : World) (h : RdR w A hs) (hl : hs.length ≤ 1048576) (hN : (hs.map fun h : Hd => h.2.2).flatten.length ≤ 1048576) :
  Calls Tryz.prog 63 #[.slice A hs.length c] w (RetI w (hs.map fun h : Hd => h.2.2).flatten) := by
 obtain ⟨L, hLh⟩ : ∃ L, L = hs.map fun h : Hd => h.2.2 := ⟨_, rfl⟩
 rw [← hLh] at hN ⊢
 obtain ⟨m, hmm⟩ : ∃ m, m = hs.length := ⟨_, rfl⟩
 rw [← hmm] at hl ⊢
 have HLh := lH hLh; have HM := lH hmm
 have hLen := lH (show L.length = m by rw [hLh, List.length_map, hmm])
 clear hLh hmm
 have hO0 : OI w (w.alloc (.cells #[] 3)) (some ⟨w.heap.size, 0, none⟩) 0 [] := by
  refine ⟨by unfold IS; simpa [ints] using Sl.laid w 3 1 0 #[] (Nat.zero_le _) rfl, fun b hb => ?_, (Below.refl _ _).alloc (Nat.le_refl _) _⟩
  have : b = w.heap.size := by simpa using hb
  subst this; exact Nat.le_refl _
 go_enter Tryz.func63, Tryz.ntmps63
 go_wp2_with (fail)
 go_loopw [9, 3] (fun i v wr => ∃ (k : Nat) (A' : Option Addr) (c' n : Nat), k ≤ m ∧ i = .int .i64 k ∧ v = .slice A' n c' ∧ n = ((L.take k).flatten).length ∧ OI w wr A' c' (L.take k).flatten) (fun i _ _ => m - (intOf i).toNat)
 case atStart => exact ⟨0, _, 0, 0, Nat.zero_le _, rfl, rfl, rfl, by simpa using hO0⟩
 case round =>
  clear hO0
  obtain ⟨k, A', c', n, hk, rfl, rfl, hn, hO⟩ := hrel
  by_cases hlt : k < m
  · obtain ⟨ad, C, d, l, rfl, hx, hc, hri⟩ := (h.below hO.below_).at_ (k := k) (by rw [← HM.out]; exact hlt)
    have hlx : L[k]? = some l := by rw [HLh.out, List.getElem?_map, hx]; rfl
    have hnx : (L.take (k + 1)).flatten = (L.take k).flatten ++ l := by rw [List.take_add_one, hlx]; simp
    have hb1 := flat_take_le (k := k + 1) hN
    rw [hnx, List.length_append] at hb1
    have hsl : Sl wr 3 1 A' n c' (ints (L.take k).flatten) := by rw [hn]; exact hO.is
    obtain ⟨q, hq⟩ : ∃ q, q = l.length := ⟨_, rfl⟩
    rw [← hq] at hc hb1
    rw [← hn] at hb1
    have hil : (ints l).length = q * 1 := by rw [ints_length, hq, Nat.mul_one]
    have HNX := lH hnx; have HQ := lH hq; have HN := lH hn; have HIL := lH hil
    have hkI : (k : Int) < (m : Int) := by omega
    clear hx hlx hnx hq hn hil h
    go_wp2_with (at_builtin; refine wpList_append_Sl _ rfl _ _ _ rfl 3 Tryz.underlying23 info_int rfl (by omega) rfl hsl rfl HIL.out hri.rdc (ints_one l) (by unfold maxLen; omega) (by omega) ?_; intro A3 c3 w3 hs3 hA3 hk3)
    have hO2 := lH (hO.join (v := l) (by rw [← HN.out, ← HQ.out]) hs3 hA3 hk3)
    clear hs3 hO hsl
    go_roundw
    case rel => exact ⟨k + 1, A3, c3, n + q, by omega, by go_num, rfl, by rw [HNX.out, List.length_append, HN.out, HQ.out], by rw [HNX.out]; exact hO2.out⟩
    case measure => simp [intOf]; omega
  · obtain rfl : m = k := by omega
    have hO2 : OI w wr A' c' L.flatten := by have := hO; rwa [List.take_of_length_le (by rw [hLen.out]; omega)] at this
    have hn2 : n = L.flatten.length := by rw [hn, List.take_of_length_le (by rw [hLen.out]; omega)]
    have HN2 := lH hn2; clear hO h hn hn2
    go_wp2_with (fail)
    go_ret
    exact ⟨A', c', by rw [← HN2.out]; rfl, hO2.is, hO2.new, hO2.below_⟩
def placeTo (n : Nat) (at_ : List Nat) (v : List Int) : Nat → List Int
 | 0 => List.replicate n 0
 | i + 1 => (placeTo n at_ v i).set (at_.getD i 0) (v.getD i 0)
@[simp] theorem placeTo_length (n : Nat) (at_ : List Nat) (v : List Int) : ∀ i, (placeTo n at_ v i).length = n
  | 0 => by simp [placeTo]
  | i + 1 => by rw [placeTo, List.length_set]; exact placeTo_length n at_ v i
set_option maxHeartbeats 400000 in
theorem lead_any (A : Option Addr) (c n : Nat) (l : List Int) (w : World) (h : RdI w A l) (hn : l.length = n) (hl : n ≤ 1048576) :
  Calls Tryz.prog 70 #[.slice A n c] w fun e w' => e = .returned (.int .i64 (leadV l : Nat)) ∧ w = w' := by
 have hn_h := lH hn; clear hn
 go_enter Tryz.func70, Tryz.ntmps70
 go_wp2_with (fail)
 go_loop [7, 3, 4] (fun v _s3 _s4 => ∃ k : Nat, k ≤ n ∧ v = .int .i64 k ∧ (l.take k).all (· == 0) = true) (fun v _ _ => n - (intOf v).toNat)
 case atStart => exact ⟨0, Nat.zero_le _, rfl, by simp⟩
 case round =>
  obtain ⟨k, hk, rfl, hz⟩ := hrel
  have hz_h := lH hz; clear hz
  by_cases hlt : k < n
  · obtain ⟨ad, x, rfl, hx, hc⟩ := h.at_ (j := k) (by rw [hn_h.out]; exact hlt)
    have hkI : (k : Int) < (n : Int) := by omega
    clear h; have hx_h := lH hx; clear hx
    by_cases hx0 : x = 0
    · subst hx0
      have hs := leadV_step hx_h.out rfl hz_h.out
      have hs_h := lH hs; clear hs
      go_wp2_with (fail)
      go_round
      case rel => exact ⟨k + 1, by omega, by go_num, hs_h.out⟩
      case measure => simp [intOf]; omega
    · have hx1 : (x != 0) = true := by simpa using hx0
      have he := leadV_at (l := l) (k := k) (by rw [hn_h.out]; omega) hz_h.out (fun _ => by rw [getD_of_some hx_h.out]; exact hx0)
      clear hx0; have he_h := lH he; clear he
      go_wp2_with (fail)
      go_ret
      exact ⟨ret_int (by rw [he_h.out]), rfl⟩
  · obtain rfl : n = k := by omega
    have he := leadV_at (l := l) (k := n) (by rw [hn_h.out]; omega) hz_h.out (fun h => absurd h (by rw [hn_h.out]; omega))
    clear h; have he_h := lH he; clear he
    go_wp2_with (fail)
    go_ret
    exact ⟨ret_int (by rw [he_h.out]), rfl⟩
theorem first_any (na : Nat) (b : Int) (x : Value) (_hx : x.oneCell' = true) (B : Option Addr) (cc n : Nat) (u : List Int) (w : World) (h : Sl w 3 1 B n cc (ints u)) (hna : na ≤ n) :
  Calls Tryz.prog 99 #[.agg #[.int .i64 na, .int .i64 b, x], .slice B n cc] w fun e w' => ∃ B', e = .returned (.slice B' na cc) ∧ Sl w' 3 1 B' na cc (ints (u.take na)) ∧ (∀ y, y ∈ fpA B' → y ∈ fpA B) ∧ Below w.heap.size w w' := by
 obtain ⟨W, hW, b0, k0⟩ := alloc_box w (.cells #[.int .i64 na, .int .i64 b, x] tRel)
 obtain ⟨⟨c0, c1, c2⟩, f0, f1, f2⟩ := box3 k0
 have hS := h.below b0
 have hcap := hS.2.1
 have hmx := hS.2.2.1
 have k0_h := lH k0; have b0_h := lH b0; clear k0 b0
 go_enter Tryz.func99, Tryz.ntmps99
 go_upto_region 1 with (fail)
 rw [← hW]
 clear hW
 go_wp2_with (refine wpList_slice_Sl rfl (.tmp 5) none (some (.tmp 7)) none 23 rfl 3 Tryz.underlying23 info_int rfl hS 0 na cc (optNone rfl) (optSome rfl) (optNone rfl) (Nat.zero_le _) hna (by omega) (Nat.le_refl _) ?_; intro B' hS' hf' _)
 go_ret
 refine ⟨B', rfl, ?_, hf', b0_h.out⟩
 have e : ((ints u).drop (0 * 1)).take ((na - 0) * 1) = ints (u.take na) := by simp [ints, List.map_take]
 rw [e] at hS'
 exact hS'
theorem second_any (na : Nat) (b : Int) (x : Value) (_hx : x.oneCell' = true) (B : Option Addr) (cc n r : Nat) (u : List Int) (w : World) (h : Sl w 3 1 B n cc (ints u)) (hna : n = na + r) :
  Calls Tryz.prog 98 #[.agg #[.int .i64 na, .int .i64 b, x], .slice B n cc] w fun e w' => ∃ B' c', e = .returned (.slice B' r c') ∧ Sl w' 3 1 B' r c' (ints (u.drop na)) ∧ (∀ y, y ∈ fpA B' → y ∈ fpA B) ∧ Below w.heap.size w w' := by
 obtain ⟨W, hW, b0, k0⟩ := alloc_box w (.cells #[.int .i64 na, .int .i64 b, x] tRel)
 obtain ⟨⟨c0, c1, c2⟩, f0, f1, f2⟩ := box3 k0
 have hS := h.below b0
 have hcap := hS.2.1
 have hmx := hS.2.2.1
 have hul : (ints u).length = n := by rw [hS.1]; omega
 have hle : na ≤ n := by omega
 have k0_h := lH k0; have b0_h := lH b0; have hul_h := lH hul; have hna_h := lH hna; clear k0 b0 hul hna
 go_enter Tryz.func98, Tryz.ntmps98
 go_upto_region 1 with (fail)
 rw [← hW]
 clear hW
 go_wp2_with (refine wpList_slice_Sl rfl (.tmp 5) (some (.tmp 7)) none none 23 rfl 3 Tryz.underlying23 info_int rfl hS na n cc (optSome rfl) (optNone ⟨rfl, rfl⟩) (optNone rfl) hle (Nat.le_refl _) hcap (Nat.le_refl _) ?_; intro B' hS' hf' _)
 have er : n - na = r := by have := hna_h.out; omega
 rw [er] at hS' ⊢
 go_wp2_with (fail)
 go_ret
 refine ⟨B', cc - na, rfl, ?_, hf', b0_h.out⟩
 have e : ((ints u).drop (na * 1)).take (r * 1) = ints (u.drop na) := by
  rw [List.take_of_length_le (by rw [List.length_drop, hul_h.out]; omega)]
  simp [ints, List.map_drop]
 rw [e] at hS'
 exact hS'
structure RdO (w0 w : World) (A : Option Addr) (cap : Nat) (hs : List Hd) : Prop where
 sl : Sl w 23 1 A hs.length cap (hs.map Hd.val)
 rows : ∀ h, h ∈ hs → IS w h.1 h.2.1 h.2.2
 outer : ∀ h, h ∈ hs → ∀ b, b ∈ fpA h.1 → ¬ b ∈ fpA A
 new : ∀ b, b ∈ fpA A → w0.heap.size ≤ b
 below_ : Below w0.heap.size w0 w
section
variable {w0 w w' : World} {A : Option Addr} {cap : Nat} {hs : List Hd}
theorem RdO.below (h : RdO w0 w A cap hs) (hb : Below w.heap.size w w') : RdO w0 w' A cap hs := ⟨h.sl.below hb, fun x hx => (h.rows x hx).below hb, h.outer, h.new, below_trans h.below_ hb h.below_.size⟩
theorem RdO.rdr (h : RdO w0 w A cap hs) : RdR w A hs := by
 refine ⟨fun i x hx => ?_, fun x hx => (h.rows x hx).rd⟩
 obtain ⟨ad, hA, _, hc, _⟩ := h.sl.cell (j := i) (u := x.val) (by simp [hx])
 exact ⟨ad, hA, hc⟩
theorem RdO.snoc {w1 w2 : World} (h : RdO w0 w A cap hs) (hb : Below w.heap.size w w1) {x : Hd} (hx : IS w1 x.1 x.2.1 x.2.2) (hxo : ∀ b, b ∈ fpA x.1 → ¬ b ∈ fpA A) {A' : Option Addr} {cap' n : Nat} (hn : n = hs.length + 1) (hs' : Sl w2 23 1 A' n cap' (hs.map Hd.val ++ [x.val])) (hA' : ∀ b, b ∈ fpA A' → b ∈ fpA A ∨ w1.heap.size ≤ b) (hk : Keeps (· ∈ fpA A) w1 w2) : RdO w0 w2 A' cap' (hs ++ [x]) := by
 subst hn
 have hbw := below_trans h.below_ hb h.below_.size
 refine ⟨by simpa using hs', fun y hy => ?_, fun y hy b hb1 hb2 => ?_, fun b hb' => ?_, below_keeps hbw hk hbw.size h.new⟩
 · rcases List.mem_append.1 hy with hy | hy
   · exact ((h.rows y hy).below hb).keeps hk (h.outer y hy)
   · obtain rfl := List.mem_singleton.1 hy; exact hx.keeps hk hxo
 · rcases List.mem_append.1 hy with hy | hy
   · rcases hA' b hb2 with h1 | h1
     · exact h.outer y hy b hb1 h1
     · have := (h.rows y hy).lt b hb1; have := hb.size; omega
   · obtain rfl := List.mem_singleton.1 hy
     rcases hA' b hb2 with h1 | h1
     · exact hxo b hb1 h1
     · have := hx.lt b hb1; omega
 · rcases hA' b hb' with h1 | h1
   · exact h.new b h1
   · have := hbw.size; omega
theorem RdO.start (w W : World) (hb : Below w.heap.size w W) : RdO w (W.alloc (.cells #[] 23)) (some ⟨W.heap.size, 0, none⟩) 0 [] := by
 refine ⟨by simpa using Sl.laid W 23 1 0 #[] (Nat.zero_le _) rfl, fun x hx => (by cases hx), fun x hx => (by cases hx), fun b hb' => ?_, below_trans hb (below_alloc _ _) hb.size⟩
 simp at hb'; subst hb'; exact hb.size
end
set_option maxRecDepth 8000 in
set_option maxHeartbeats 1000000 in
theorem each_any (F : FuncId) (first cap : Array Value) (g : List Int → List Int) (a b : Int) (A : Option Addr) (c : Nat) (hs : List Hd) (w : World) (hR : RdR w A hs) (hI : ∀ x, x ∈ hs → IS w x.1 x.2.1 x.2.2) (hl : hs.length ≤ 1048576) (hE : ∀ (args : Array Value) (w : World), (callFunc F args).run Tryz.prog w = .ok (.enter F args) w)
  (hF : ∀ x, x ∈ hs → ∀ W', Below w.heap.size w W' → Calls Tryz.prog F (first.push (.slice x.1 x.2.2.length x.2.1) ++ cap) W' fun e w'' => ∃ B c', e = .returned (.slice B (g x.2.2).length c') ∧ IS w'' B c' (g x.2.2) ∧ (∀ b, b ∈ fpA B → b ∈ fpA x.1 ∨ W'.heap.size ≤ b) ∧ Below W'.heap.size W' w'') :
  Calls Tryz.prog 96 #[.agg #[.int .i64 a, .int .i64 b, .slice A hs.length c], .func (.func F) first cap] w fun e w' => ∃ A' c' gs, e = .returned (.slice A' hs.length c') ∧ gs.map (fun h : Hd => h.2.2) = hs.map (fun h : Hd => g h.2.2) ∧ RdO w w' A' c' gs := by
 obtain ⟨m, hm⟩ : ∃ m, m = hs.length := ⟨_, rfl⟩
 rw [← hm] at hl ⊢
 obtain ⟨W, hW, b0, k0⟩ := alloc_box w (.cells #[.int .i64 a, .int .i64 b, .slice A m c] tRel)
 obtain ⟨⟨c0, c1, c2⟩, f0, f1, f2⟩ := box3 k0
 have hO0 := RdO.start w W b0
 have hz0 := (Array.getElem?_eq_some_iff.1 k0).1
 have hm_h := lH hm; have hF_h := lH hF; have hI_h := lH hI; have hR_h := lH hR; have k0_h := lH k0; have b0_h := lH b0; have hO0_h := lH hO0; have hE_h := lH hE; clear hm hF hI hR k0 b0 hO0 hE
 go_enter Tryz.func96, Tryz.ntmps96
 go_upto_region 1 with (fail)
 rw [← hW]
 clear hW
 go_wp2_with (fail)
 clear c0 c1 c2 f0 f1 f2
 go_loopw [12, 5] (fun i v wr => ∃ (k : Nat) (A' : Option Addr) (c' : Nat) (gs : List Hd), k ≤ m ∧ i = .int .i64 k ∧ v = .slice A' k c' ∧ gs.length = k ∧ gs.map (fun h : Hd => h.2.2) = (hs.take k).map (fun h : Hd => g h.2.2) ∧ RdO w wr A' c' gs) (fun i _ _ => m - (intOf i).toNat)
 case atStart => exact ⟨0, _, 0, [], Nat.zero_le _, rfl, rfl, rfl, rfl, hO0_h.out⟩
 case round =>
  obtain ⟨k, A', c', gs, hk, rfl, rfl, hgl, hgm, hO⟩ := hrel
  by_cases hlt : k < m
  · obtain ⟨x, hx⟩ : ∃ x, hs[k]? = some x := ⟨_, List.getElem?_eq_getElem (by rw [← hm_h.out]; exact hlt)⟩
    obtain ⟨ad, rfl, hc⟩ := (hR_h.out.below hO.below_).1 k x hx
    obtain ⟨B, d, l⟩ := x
    have hxm := List.mem_of_getElem? hx
    have hC := hF_h.out _ hxm wr hO.below_
    have hBlt := (hI_h.out _ hxm).lt
    have hc' : wr.cell? (ad.add k) = some (.slice B l.length d) := hc
    obtain ⟨q, hq⟩ : ∃ q, q = l.length := ⟨_, rfl⟩
    obtain ⟨r, hr⟩ : ∃ r, r = (g l).length := ⟨_, rfl⟩
    simp only [← hq, ← hr] at hC
    rw [← hq] at hc'
    have hkI : (k : Int) < (m : Int) := by omega
    clear hc hxm; have hgl_h := lH hgl; have hgm_h := lH hgm; have hO_h := lH hO; have hC_h := lH hC; have hq_h := lH hq; have hr_h := lH hr; have hx_h := lH hx; have hBlt_h := lH hBlt; clear hgl hgm hO hC hq hr hx hBlt
    have hE1 := hE_h.out (first.push (.slice B q d) ++ cap) wr
    go_wp2_with (fail)
    refine (hC_h.out).mono ?_
    rintro e w1 ⟨B1, d1, rfl, hI1, hfp1, hb1⟩
    have hsl : Sl (w1.alloc (.cells #[.slice B1 r d1] 23)) 23 1 A' k c' (gs.map Hd.val) := by
     have := (hO_h.out.sl.below hb1).alloc (.cells #[.slice B1 r d1] 23)
     rwa [hgl_h.out] at this
    clear hc' hE1; have hI1_h := lH hI1; have hfp1_h := lH hfp1; have hb1_h := lH hb1; have hsl_h := lH hsl; clear hI1 hfp1 hb1 hsl
    go_wp2_with (at_builtin; refine wpList_append_Sl _ rfl _ _ _ rfl 23 Tryz.underlying52 info_ints rfl (by omega) rfl (hsl_h.out) rfl (news := [.slice B1 r d1]) rfl (Sl.rdc (Sl.laid w1 23 1 1 #[.slice B1 r d1] (by unfold maxLen; omega) rfl)) (by intro u hu; simp at hu; subst hu; rfl) (by unfold maxLen; omega) (by omega) ?_; intro A3 c3 w3 hsA3 hA3 hkA3)
    have hal : Below w1.heap.size w1 (w1.alloc (.cells #[.slice B1 r d1] 23)) := below_alloc _ _
    have hO2 := hO_h.out.snoc (w1 := w1.alloc (.cells #[.slice B1 r d1] 23)) (below_trans hb1_h.out hal hb1_h.out.size) (x := (B1, d1, g l)) (hI1_h.out.below hal) (fun b hb hb' => by
     have h1 := hO_h.out.sl.lt b hb'
     have h2 := hO_h.out.new b hb'
     rcases hfp1_h.out b hb with h3 | h3
     · have := hBlt_h.out b h3; omega
     · omega) (by rw [hgl_h.out]) (by show Sl w3 _ 1 A3 (k + 1) c3 (gs.map Hd.val ++ [.slice B1 (g l).length d1]); rw [← hr_h.out]; exact hsA3) hA3 hkA3
    clear hsA3 hA3 hkA3; have hO2_h := lH hO2; clear hO2
    go_roundw
    case rel => exact ⟨k + 1, A3, c3, gs ++ [(B1, d1, g l)], by omega, by go_num, rfl, by rw [List.length_append, hgl_h.out]; rfl, by rw [List.map_append, hgm_h.out, List.take_add_one, hx_h.out]; simp, hO2_h.out⟩
    case measure => simp [intOf]; omega
  · obtain rfl : k = m := by omega
    have hgm2 : gs.map (fun h : Hd => h.2.2) = hs.map (fun h : Hd => g h.2.2) := by rw [hgm, List.take_of_length_le (by rw [← hm_h.out]; exact Nat.le_refl _)]
    clear hgm; have hgl_h := lH hgl; have hgm2_h := lH hgm2; have hO_h := lH hO; clear hgl hgm2 hO
    go_wp2_with (fail)
    go_ret
    exact ⟨A', c', gs, rfl, hgm2_h.out, hO_h.out⟩
set_option maxRecDepth 100000 in
set_option maxHeartbeats 1000000 in
theorem relation_any (p a b : Int) (n : Nat) (A : Option Addr) (c : Nat) (hs : List Hd) (w : World) (h : RdR w A hs) (hp : fieldB p = true) (hn : a + b = (n : Int)) (hm : Mat p hs.length n (hs.map fun h : Hd => h.2.2)) (hl : hs.length ≤ 1048576) (hn' : n ≤ 1048576) :
  Calls Tryz.prog 82 #[.int .i64 p, .int .i64 a, .int .i64 b, .slice A hs.length c] w fun e w' => ∃ v' fp, e = .returned v' ∧ OwSys w' v' (a, b, redM p n (hs.map fun h : Hd => h.2.2)) fp ∧ FreshL w.heap.size fp ∧ Below w.heap.size w w' := by
 obtain ⟨W, hW, hB0, k0⟩ := alloc_box w (.cells #[.int .i64 0, .int .i64 0, .slice none 0 0] tRel)
 have hC := reduced_any p n A c hs W (h.below hB0) hp hm hl hn'
 obtain ⟨R, hR⟩ : ∃ R, R = redM p n (hs.map fun h : Hd => h.2.2) := ⟨_, rfl⟩
 rw [← hR] at hC ⊢
 rw [← hn] at hC
 have hwr : IntKind.i64.wrap (a + b) = a + b := IntWalk.i64_in _ (by omega)
 clear h hm hp hn; have hC_h := lH hC; have hB0_h := lH hB0; have k0_h := lH k0; have hR_h := lH hR; clear hC hB0 k0 hR
 go_enter Tryz.func82, Tryz.ntmps82
 go_upto_region 1 with (fail)
 rw [← hW]
 clear hW
 go_wp2_with (fail)
 refine (hC_h.out).mono ?_
 rintro e w1 hret
 obtain ⟨A1, c1, rfl, hO1⟩ := hret.om
 have k1 := box_below k0_h.out hO1.below_
 have hB1 := below_trans hB0_h.out hO1.below_ hB0_h.out.size
 obtain ⟨⟨d0, d1, d2⟩, g0, g1, g2⟩ := box3 k1
 obtain ⟨s1, s2⟩ := set3 (a := .int .i64 a) (b := .int .i64 b) (c := .slice A1 R.length c1) k1
 have hw0 := (Array.getElem?_eq_some_iff.1 k0_h.out).1
 have hB3 := below_keeps hB1 s2 hB1.size (fun k hk => by omega)
 have hBs := hB0_h.out.size
 clear hret k1 hB1; have s1_h := lH s1; have s2_h := lH s2; have hO1_h := lH hO1; have hB3_h := lH hB3; clear s1 s2 hO1 hB3
 go_wp2_with (fail)
 refine bodyPost_ret (results_cell_row rfl _ _ w.heap.size _ _ (0, 0) _ rfl s1_h.out Tryz.underlying82 rfl (by kernel_rfl)) rfl ?_
 obtain ⟨fp, h1, h2⟩ := OwSys.of_ret (a := a) (b := b) hO1_h.out s2_h.out (fun k hk => by omega) rfl
 exact ⟨_, fp, rfl, h1, h2.mono hBs, hB3_h.out⟩
theorem OwMt.of_ret {w0 w : World} {L : List (List Int)} {A : Option Addr} {c : Nat} {a : Int} (h : OM w0 w A c L) {w' : World} {S : Nat → Prop} (hk : Keeps S w w') (hS : ∀ k, S k → k < w0.heap.size) {n : Nat} (hn : L.length = n) : ∃ fp, OwMt w' (.agg #[.int .i64 a, .slice A n c]) (a, L) fp ∧ FreshL w0.heap.size fp := by
 subst hn
 obtain ⟨fp, h1, h2⟩ := OwMt.of_om (a := a) h
 exact ⟨fp, h1.keeps hk fun k hk' hs => by have := h2 k hk'; have := hS k hs; omega, h2⟩
theorem alloc2 (w : World) (o o' : Obj) : ∃ W, W = (w.alloc o).alloc o' ∧ Below w.heap.size w W ∧ W.heap[w.heap.size]? = some o ∧ W.heap[w.heap.size + 1]? = some o' := by
 refine ⟨_, rfl, ((Below.refl _ _).alloc (Nat.le_refl _) _).alloc (by simp) _, box_below (heap_alloc_new w _) (below_alloc _ _), ?_⟩
 have := heap_alloc_new (w.alloc o) o'
 rwa [World.size_alloc] at this
theorem RdO.nil (w W : World) (hb : Below w.heap.size w W) : RdO w W none 0 [] := ⟨Sl.nil _ _ _, fun x hx => (by cases hx), fun x hx => (by cases hx), fun b hb' => (by simp at hb'), hb⟩
theorem laid_rdr {w : World} (hs : List Hd) (h : ∀ x, x ∈ hs → RdI w x.1 x.2.2) (hl : hs.length ≤ maxLen) : RdR (w.alloc (.cells (hs.map Hd.val).toArray 23)) (some ⟨w.heap.size, 0, none⟩) hs := by
 have hs1 := Sl.laid w 23 1 hs.length (hs.map Hd.val).toArray hl (by simp)
 refine ⟨fun i x hx => ?_, fun x hx => (h x hx).below (below_alloc _ _)⟩
 obtain ⟨ad, hA, _, hc, _⟩ := hs1.cell (j := i) (u := x.val) (by simp [hx])
 exact ⟨ad, hA, hc⟩
def swapV (a : Nat) (u : List Int) : List Int := u.drop a ++ u.take a
theorem swapV_len (a : Nat) (u : List Int) : (swapV a u).length = u.length := by unfold swapV; rw [List.length_append, List.length_drop, List.length_take]; omega
theorem swapV_res {p : Int} {a : Nat} {u : List Int} (h : Res p u) : Res p (swapV a u) := fun x hx => by
 rcases List.mem_append.1 hx with hx | hx
 · exact h x (List.mem_of_mem_drop hx)
 · exact h x (List.mem_of_mem_take hx)
def convM (p : Int) (s : Sys) : Sys := (s.2.1, s.1, redM p (s.1 + s.2.1).toNat (s.2.2.map (swapV s.1.toNat)))
set_option maxRecDepth 8000 in
set_option maxHeartbeats 2000000 in
theorem conv1_any (g na nb : Nat) (V : Value) (hV : V.oneCell' = true) (B : Option Addr) (d n : Nat) (u : List Int) (w : World) (h : Sl w 3 1 B n d (ints u)) (hn : n = na + nb) (hn2 : n ≤ 1000) (hg : w.heap[g]? = some (.cells #[.int .i64 na, .int .i64 nb, V] tRel)) :
  Calls Tryz.prog 97 #[.slice B n d, .pointer (some ⟨g, 0, none⟩)] w (RetI w (swapV na u)) := by
 have hul : u.length = n := by have := h.1; rw [ints_length] at this; omega
 have hl2 : (u.drop na).length = nb := by rw [List.length_drop]; omega
 have hl3 : (u.take na).length = na := by rw [List.length_take]; omega
 have hn_h := lH hn; have hg_h := lH hg; have h_h := lH h; have hul_h := lH hul; have hl2_h := lH hl2; have hl3_h := lH hl3; clear hn hg h hul hl2 hl3
 go_enter Tryz.func97, Tryz.ntmps97
 go_wp2_with (fail)
 have hbd : Below w.heap.size w w.drew := below_drewN (Below.refl _ _) 1
 refine beginH (fun w' => w'.heap[g]? = some (.cells #[.int .i64 na, .int .i64 nb, V] tRel)) (by kernel_rfl) ?_
 generalize w.drew = W1 at hbd ⊢
 replace hg_h := lH (box_below hg_h.out hbd)
 have h1 := h_h.out.below hbd
 have h1_h := lH h1; have hbd_h := lH hbd; clear h1 hbd
 refine tkH 0 ?_ rfl hg_h.out (fun W' hW' => ?_) ?_; rotate_left; · (obtain ⟨⟨y0, y1, y2⟩, y3, y4, y5⟩ := box3 hW'; clear hW'; go_simp; first | done | with_reducible rfl)
 simp only [Act.put, nS]
 refine tkH 1 ?_ rfl hg_h.out (fun W' hW' => ?_) ?_; rotate_left; · (obtain ⟨⟨y0, y1, y2⟩, y3, y4, y5⟩ := box3 hW'; clear hW'; go_simp; first | done | with_reducible rfl)
 simp only [Act.put, nS]
 refine tkH 3 ?_ rfl hg_h.out (fun W' hW' => ?_) ?_; rotate_left; · (obtain ⟨⟨y0, y1, y2⟩, y3, y4, y5⟩ := box3 hW'; clear hW'; go_simp; first | done | with_reducible rfl)
 simp only [Act.put, nS]
 refine tkH 4 ?_ rfl hg_h.out (fun W' hW' => ?_) ?_; rotate_left; · (obtain ⟨⟨y0, y1, y2⟩, y3, y4, y5⟩ := box3 hW'; clear hW'; go_simp; first | done | with_reducible rfl)
 simp only [Act.put, nS]
 refine' callH 2 (f := _) (args := _) rfl (by kernel_rfl) (by rfl) ?_ ?_; rotate_left 2; · (go_simp; first | done | with_reducible rfl | (constructor <;> with_reducible rfl))
 refine (second_any na (nb : Int) V hV B d n nb u W1 h1_h.out hn_h.out).mono ?_
 rintro e w2 ⟨B2, c2, rfl, hS2, hf2, hb2⟩
 replace hg_h := lH (box_below hg_h.out hb2)
 refine ⟨_, rfl, hg_h.out, ?_⟩
 simp only [Act.put, nS]
 have h2 := h1_h.out.below hb2
 have h2_h := lH h2; have hS2_h := lH hS2; have hf2_h := lH hf2; have hb2_h := lH hb2; clear h2 hS2 hf2 hb2
 refine' callH 5 (f := _) (args := _) rfl (by kernel_rfl) (by rfl) ?_ ?_; rotate_left 2; · (go_simp; first | done | with_reducible rfl | (constructor <;> with_reducible rfl))
 refine (first_any na (nb : Int) V hV B d n u w2 h2_h.out (by have := hn_h.out; omega)).mono ?_
 rintro e w3 ⟨B3, rfl, hS3, hf3, hb3⟩
 replace hg_h := lH (box_below hg_h.out hb3)
 refine ⟨_, rfl, hg_h.out, ?_⟩
 simp only [Act.put, nS]
 have hS2' := hS2_h.out.below hb3
 have hr2 : RdI w3 B2 (u.drop na) := fun j x hj => by
  obtain ⟨ad, hA, _, hc, _⟩ := hS2'.cell (ints_get hj)
  exact ⟨ad, hA, hc⟩
 have hr3 : RdI w3 B3 (u.take na) := fun j x hj => by
  obtain ⟨ad, hA, _, hc, _⟩ := hS3.cell (ints_get hj)
  exact ⟨ad, hA, hc⟩
 have hlr := laid_rdr (w := w3) [(B2, c2, u.drop na), (B3, d, u.take na)] (fun x hx => by
  rcases List.mem_cons.1 hx with rfl | hx
  · exact hr2
  · obtain rfl := List.mem_singleton.1 hx; exact hr3) (by unfold maxLen; simp)
 have e : (([(B2, c2, u.drop na), (B3, d, u.take na)] : List Hd).map Hd.val).toArray = #[.slice B2 nb c2, .slice B3 na d] := by
  simp [Hd.val, hl2_h.out, hl3_h.out]
 rw [e] at hlr
 have hgn := box_below hg_h.out (below_alloc w3 (.cells #[.slice B2 nb c2, .slice B3 na d] 23))
 have hJ := joined_any (some ⟨w3.heap.size, 0, none⟩) 2 [(B2, c2, u.drop na), (B3, d, u.take na)] _ hlr (by simp) (by simp; have := hul_h.out; omega)
 have e2 : (([(B2, c2, u.drop na), (B3, d, u.take na)] : List Hd).map fun h : Hd => h.2.2).flatten = swapV na u := by simp [swapV]
 rw [e2] at hJ
 have hB3 := below_trans (below_trans hbd_h.out hb2_h.out hbd_h.out.size) hb3 (Nat.le_trans hbd_h.out.size hb2_h.out.size)
 have hB4 := below_trans hB3 (below_alloc w3 (.cells #[.slice B2 nb c2, .slice B3 na d] 23)) hB3.size
 clear hlr e e2 hr2 hr3 hS2' hS3 hf3 hb3 hB3; have hgn_h := lH hgn; have hJ_h := lH hJ; have hB4_h := lH hB4; clear hgn hJ hB4
 refine oneH 6 rfl (by kernel_rfl) (by rfl) (fun K hK => ?_)
 go_simp
 refine hK _ _ hgn_h.out ?_
 clear hK K
 refine' callH 7 (f := _) (args := _) rfl (by kernel_rfl) (by rfl) ?_ ?_; rotate_left 2; · (go_simp; first | done | with_reducible rfl | (constructor <;> with_reducible rfl))
 refine (hJ_h.out).mono ?_
 rintro e w4 ⟨A4, c4, rfl, hi4, hf4, hb4⟩
 replace hgn_h := lH (box_below hgn_h.out hb4)
 refine ⟨_, rfl, hgn_h.out, ?_⟩
 simp only [Act.put, nS]
 have hres : RetI w (swapV na u) (.returned (.slice A4 (swapV na u).length c4)) w4 := ⟨A4, c4, rfl, hi4, hf4.mono hB4_h.out.size, below_trans hB4_h.out hb4 hB4_h.out.size⟩
 clear hi4 hf4 hb4; have hres_h := lH hres; clear hres
 refine tkH 8 ?_ rfl hgn_h.out (fun W' hW' => ?_) ?_; rotate_left; · (skip; clear hW'; go_simp; first | done | with_reducible rfl)
 simp only [Act.put, nS]
 refine doneH (by kernel_rfl) ?_
 go_wp2_with (fail)
 go_ret
 exact hres_h.out
set_option maxRecDepth 8000 in
set_option maxHeartbeats 2000000 in
theorem converse_any (p : Int) {v : Value} {s : Sys} {fp : List Nat} (w : World) (h : OwSys w v s fp) (hs : RelOk p s) :
  Calls Tryz.prog 85 #[.int .i64 p, v] w fun e w' => ∃ v' fp', e = .returned v' ∧ OwSys w' v' (convM p s) fp' ∧ FreshL w.heap.size fp' ∧ Below w.heap.size w w' := by
 have hmat0 := hs.mat.map (f := swapV s.1.toNat) fun v hv hr => ⟨(swapV_len _ v).trans hv, swapV_res hr⟩
 obtain ⟨A, c, gs, rfl, hL, hO, rfl⟩ := h
 obtain ⟨a, b, L⟩ := s
 have h0 : 0 ≤ a := hs.lo
 have h1 : 0 ≤ b := hs.hi
 have h2 : a + b ≤ 24 := hs.sum
 have hfld : fieldB p = true := hs.fld
 have hrow : ∀ u, u ∈ L → (u.length : Int) = a + b ∧ Res p u := fun u hu => hs.row hu
 have hlen : (L.length : Int) ≤ a + b := hs.len
 clear hs
 obtain ⟨na, rfl⟩ : ∃ na : Nat, a = (na : Int) := ⟨a.toNat, by omega⟩
 obtain ⟨nb, rfl⟩ : ∃ nb : Nat, b = (nb : Int) := ⟨b.toNat, by omega⟩
 have hL' : L = gs.map (fun h : Hd => h.2.2) := hL
 clear hL
 obtain ⟨m, hm⟩ : ∃ m, m = gs.length := ⟨_, rfl⟩
 have hLm : L.length = m := by rw [hL', List.length_map, hm]
 have hm24 : (m : Int) ≤ 24 := by have := hlen; rw [hLm] at this; omega
 have hgr : ∀ x, x ∈ gs → x.2.2.length = na + nb := fun x hx => by have := (hrow _ (by rw [hL']; exact List.mem_map_of_mem hx)).1; omega
 obtain ⟨n, hn⟩ : ∃ n, n = na + nb := ⟨_, rfl⟩
 obtain ⟨X, hX⟩ : ∃ X, X = L.map (swapV na) := ⟨_, rfl⟩
 have hmat : Mat p X.length n X := by rw [hX, hn, List.length_map]; exact hmat0
 obtain ⟨R, hR⟩ : ∃ R, R = redM p n X := ⟨_, rfl⟩
 have hgoal : convM p ((na : Int), (nb : Int), L) = ((nb : Int), (na : Int), R) := by
  rw [hR, hX, hn]; rfl
 rw [hgoal]
 show Calls Tryz.prog _ #[.int .i64 p, .agg #[.int .i64 (na : Int), .int .i64 (nb : Int), .slice A gs.length c]] w _
 rw [← hm]
 have hEa := fun (W' : World) (hb : Below w.heap.size w W') (hg : W'.heap[w.heap.size]? = some (.cells #[.int .i64 (na : Int), .int .i64 (nb : Int), .slice A m c] tRel)) => each_any 97 #[] #[.pointer (some ⟨w.heap.size, 0, none⟩)] (swapV na) (na : Int) (nb : Int) A c gs W' (hO.below hb).rd (hO.below hb).rows (by omega) (fun _ _ => rfl) (fun x hx W2 hb2 => by
  have hI : Sl W2 3 1 x.1 x.2.2.length x.2.1 (ints x.2.2) := ((hO.below hb).rows x hx).below hb2
  have hl := hgr x hx
  have := conv1_any w.heap.size na nb (.slice A m c) rfl x.1 x.2.1 x.2.2.length x.2.2 W2 hI (by omega) (by omega) (box_below hg hb2)
  refine this.mono ?_
  rintro e w4 ⟨A4, c4, rfl, hi4, hf4, hb4⟩
  exact ⟨A4, c4, rfl, hi4, fun b hb => .inr (hf4 b hb), hb4⟩)
 simp only [← hm] at hEa
 obtain ⟨W, hW, b0, k0, k1⟩ := alloc2 w (.cells #[.int .i64 (na : Int), .int .i64 (nb : Int), .slice A m c] tRel) (.cells #[.int .i64 0, .int .i64 0, .slice none 0 0] tRel)
 have hmf : ∀ (fn : Fn) (first cap : Array Value) (w : World), (Instr.makeFunc fn first cap).run Tryz.prog w = .ok (.func fn first cap) w := fun _ _ _ _ => rfl
 clear hO hmat0 hgoal hgr; have hL'_h := lH hL'; have hm_h := lH hm; have hLm_h := lH hLm; have k0_h := lH k0; have k1_h := lH k1; have b0_h := lH b0; have hrow_h := lH hrow; have hlen_h := lH hlen; have hfld_h := lH hfld; have hmat_h := lH hmat; have hX_h := lH hX; have hR_h := lH hR; have hEa_h := lH hEa; have hn_h := lH hn; clear hL' hm hLm k0 k1 b0 hrow hlen hfld hmat hX hR hEa hn
 go_enter Tryz.func85, Tryz.ntmps85
 go_wp2_with (fail)
 rw [← hW]
 clear hW
 have hbd : Below W.heap.size W W.drew := below_drewN (Below.refl _ _) 1
 refine beginH (fun w' => w'.heap[w.heap.size]? = some (.cells #[.int .i64 (na : Int), .int .i64 (nb : Int), .slice A m c] tRel)) (by kernel_rfl) ?_
 generalize W.drew = W1 at hbd ⊢
 replace k0_h := lH (box_below k0_h.out hbd)
 replace k1_h := lH (box_below k1_h.out hbd)
 have hB1 := below_trans b0_h.out hbd b0_h.out.size
 have hw1 : w.heap.size + 1 < W1.heap.size := (Array.getElem?_eq_some_iff.1 k1_h.out).1
 have hbd_h := lH hbd; have hB1_h := lH hB1; clear hbd hB1
 refine tkH 0 ?_ rfl k0_h.out (fun W' hW' => ?_) ?_; rotate_left; · (obtain ⟨⟨y0, y1, y2⟩, y3, y4, y5⟩ := box3 hW'; clear hW'; go_simp; first | done | with_reducible rfl)
 simp only [Act.put, nS]
 refine tkH 1 ?_ rfl k0_h.out (fun W' hW' => ?_) ?_; rotate_left; · (obtain ⟨⟨y0, y1, y2⟩, y3, y4, y5⟩ := box3 hW'; clear hW'; go_simp; first | done | with_reducible rfl)
 simp only [Act.put, nS]
 refine tkH 2 ?_ rfl k0_h.out (fun W' hW' => ?_) ?_; rotate_left; · (obtain ⟨⟨y0, y1, y2⟩, y3, y4, y5⟩ := box3 hW'; clear hW'; go_simp; first | done | with_reducible rfl)
 simp only [Act.put, nS]
 refine tkH 3 ?_ rfl k0_h.out (fun W' hW' => ?_) ?_; rotate_left; · (obtain ⟨⟨y0, y1, y2⟩, y3, y4, y5⟩ := box3 hW'; clear hW'; go_simp; first | done | with_reducible rfl)
 simp only [Act.put, nS]
 refine tkH 4 ?_ rfl k0_h.out (fun W' hW' => ?_) ?_; rotate_left; · (obtain ⟨⟨y0, y1, y2⟩, y3, y4, y5⟩ := box3 hW'; clear hW'; go_simp; first | done | with_reducible rfl)
 simp only [Act.put, nS]
 refine tkH 5 ?_ rfl k0_h.out (fun W' hW' => ?_) ?_; rotate_left; · (obtain ⟨⟨y0, y1, y2⟩, y3, y4, y5⟩ := box3 hW'; clear hW'; go_simp; first | done | with_reducible rfl)
 simp only [Act.put, nS]
 refine tkH 6 ?_ rfl k0_h.out (fun W' hW' => ?_) ?_; rotate_left; · (skip; clear hW'; go_simp; first | done | with_reducible rfl)
 simp only [Act.put, nS]
 refine' callH 7 (f := _) (args := _) rfl (by kernel_rfl) (by rfl) ?_ ?_; rotate_left 2; · (go_simp; first | done | with_reducible rfl | (constructor <;> with_reducible rfl))
 refine (hEa_h.out W1 hB1_h.out k0_h.out).mono ?_
 rintro e w2 ⟨A1, c1, g1, rfl, hg1, hO1⟩
 replace k0_h := lH (box_below k0_h.out hO1.below_)
 replace k1_h := lH (box_below k1_h.out hO1.below_)
 have hz2 := box_lt k1_h.out
 refine ⟨_, rfl, k0_h.out, ?_⟩
 simp only [Act.put, nS]
 have hg2 : g1.map (fun h : Hd => h.2.2) = X := by rw [hg1, hX_h.out, hL'_h.out, List.map_map]; rfl
 have hgl : g1.length = m := by have := congrArg List.length hg2; rwa [List.length_map, hX_h.out, List.length_map, hLm_h.out] at this
 have hXl : X.length = m := by rw [hX_h.out, List.length_map, hLm_h.out]
 have hC := relation_any p (nb : Int) (na : Int) n A1 c1 g1 w2 hO1.rdr hfld_h.out (by have := hn_h.out; omega) (by rw [hg2, hgl, ← hXl]; exact hmat_h.out) (by omega) (by have := hn_h.out; omega)
 rw [hg2, ← hR_h.out, hgl] at hC
 have hB2 := below_trans hB1_h.out hO1.below_ hB1_h.out.size
 clear hg1 hg2 hgl hXl hO1; have hC_h := lH hC; have hB2_h := lH hB2; clear hC hB2
 refine' callH 8 (f := _) (args := _) rfl (by kernel_rfl) (by rfl) ?_ ?_; rotate_left 2; · (go_simp; first | done | with_reducible rfl | (constructor <;> with_reducible rfl))
 refine (hC_h.out).mono ?_
 rintro e w3 ⟨v3, fp3, rfl, hO3, hf3, hb3⟩
 replace k0_h := lH (box_below k0_h.out hb3)
 replace k1_h := lH (box_below k1_h.out hb3)
 refine ⟨_, rfl, k0_h.out, ?_⟩
 simp only [Act.put, nS]
 obtain ⟨A3, n3, c3, rfl⟩ := hO3.shape
 have hB3 := below_trans hB2_h.out hb3 hB2_h.out.size
 have hBs := hB2_h.out.size
 have hz3 : w.heap.size + 1 < w3.heap.size := (Array.getElem?_eq_some_iff.1 k1_h.out).1
 obtain ⟨⟨d0, d1, d2⟩, g0, g1', g2'⟩ := box3 k1_h.out
 obtain ⟨s1, s2⟩ := set3 (a := .int .i64 (nb : Int)) (b := .int .i64 (na : Int)) (c := .slice A3 n3 c3) k1_h.out
 have k0' := box_keeps k0_h.out s2 (by omega)
 have hO4 := hO3.keeps s2 (fun k hk e => by have := hf3 k hk; omega)
 have hB4 := below_keeps hB3 s2 hB3.size (fun k hk => by omega)
 have hf4 := hf3.mono hBs
 clear hO3 hf3 hb3 hB3; have s1_h := lH s1; have s2_h := lH s2; have k0'_h := lH k0'; have hO4_h := lH hO4; have hB4_h := lH hB4; have hf4_h := lH hf4; clear s1 s2 k0' hO4 hB4 hf4
 refine oneH 9 rfl (by kernel_rfl) (by rfl) (fun K hK => ?_)
 go_simp
 refine hK _ _ k0'_h.out ?_
 clear hK K
 refine doneH (by kernel_rfl) ?_
 go_wp2_with (fail)
 refine bodyPost_ret (results_cell_row rfl _ _ (w.heap.size + 1) _ _ (0, 0) _ rfl s1_h.out Tryz.underlying82 rfl (by kernel_rfl)) rfl ?_
 exact ⟨_, rfl, fp3, hO4_h.out, hf4_h.out, hB4_h.out⟩
def negTo (p : Int) (a : Nat) (u : List Int) (k : Nat) : List Int := u.mapIdx fun j x => if a ≤ j ∧ j < k then -x % p else x
def negV (p : Int) (a : Nat) (u : List Int) : List Int := negTo p a u u.length
@[simp] theorem negTo_length (p : Int) (a : Nat) (u : List Int) (k : Nat) : (negTo p a u k).length = u.length := by simp [negTo]
@[simp] theorem negV_length (p : Int) (a : Nat) (u : List Int) : (negV p a u).length = u.length := negTo_length _ _ _ _
theorem alloc3 (w : World) (o o' o'' : Obj) : ∃ W, W = ((w.alloc o).alloc o').alloc o'' ∧ Below w.heap.size w W ∧ W.heap[w.heap.size]? = some o ∧ W.heap[w.heap.size + 1]? = some o' ∧ W.heap[w.heap.size + 1 + 1]? = some o'' := by
 obtain ⟨W, hW, b0, k0, k1⟩ := alloc2 w o o'
 refine ⟨_, rfl, ?_, ?_, ?_, ?_⟩
 · rw [← hW]; exact below_trans b0 (below_alloc _ _) b0.size
 · rw [← hW]; exact box_below k0 (below_alloc _ _)
 · rw [← hW]; exact box_below k1 (below_alloc _ _)
 · have := heap_alloc_new ((w.alloc o).alloc o') o''
   rwa [World.size_alloc, World.size_alloc] at this
theorem relSize_any (a b : Int) (V : Value) (_hV : V.oneCell' = true) (w : World) (ha : 0 ≤ a ∧ a ≤ 1000) (hb : 0 ≤ b ∧ b ≤ 1000) :
  Calls Tryz.prog 65 #[.agg #[.int .i64 a, .int .i64 b, V]] w fun e w' => e = .returned (.int .i64 (a + b)) ∧ Below w.heap.size w w' := by
 obtain ⟨W, hW, b0, k0⟩ := alloc_box w (.cells #[.int .i64 a, .int .i64 b, V] tRel)
 obtain ⟨⟨c0, c1, c2⟩, f0, f1, f2⟩ := box3 k0
 have hwr : IntKind.i64.wrap (a + b) = a + b := IntWalk.i64_in _ (by omega)
 have k0_h := lH k0; have b0_h := lH b0; clear k0 b0
 go_enter Tryz.func65, Tryz.ntmps65
 go_upto_region 1 with (fail)
 rw [← hW]
 clear hW
 go_wp2_with (fail)
 go_ret
 exact ⟨rfl, b0_h.out⟩
def layTo (n : Nat) (f : Nat → Nat) (v : List Int) : Nat → List Int
 | 0 => List.replicate n 0
 | k + 1 => (layTo n f v k).set (f k) (v.getD k 0)
@[simp] theorem layTo_length (n : Nat) (f : Nat → Nat) (v : List Int) : ∀ k, (layTo n f v k).length = n
  | 0 => by simp [layTo]
  | k + 1 => by rw [layTo, List.length_set]; exact layTo_length n f v k
def tA (a1 b1 j : Nat) : Nat := if j < a1 then j else b1 + j
def tB (a1 a2 b1 j : Nat) : Nat := if j < b1 then a1 + j else a1 + a2 + j
def pA (a1 a2 b1 b2 : Nat) (u : List Int) : List Int := layTo (a1 + a2 + b1 + b2) (tA a1 b1) u (a1 + a2)
def pB (a1 a2 b1 b2 : Nat) (u : List Int) : List Int := layTo (a1 + a2 + b1 + b2) (tB a1 a2 b1) u (b1 + b2)
def tenRows (s t : Sys) : List (List Int) := s.2.2.map (pA s.1.toNat s.2.1.toNat t.1.toNat t.2.1.toNat) ++ t.2.2.map (pB s.1.toNat s.2.1.toNat t.1.toNat t.2.1.toNat)
def tenV (p : Int) (s t : Sys) : Sys := (s.1 + t.1, s.2.1 + t.2.1, redM p (s.1.toNat + s.2.1.toNat + t.1.toNat + t.2.1.toNat) (tenRows s t))
end Go.Proofs.YtjompikdkhhlgaaGreatDoor
namespace Go.Proofs.YtjompikdkhhlgaaGreatDoor
def cmbTo (p : Int) (n : Nat) (x : List Int) (L : List (List Int)) : Nat → List Int
 | 0 => List.replicate n 0
 | k + 1 => addT p (cmbTo p n x L k) (x.getD k 0) (L.getD k [])
@[simp] theorem cmbTo_length (p : Int) (n : Nat) (x : List Int) (L : List (List Int)) : ∀ k, (cmbTo p n x L k).length = n
  | 0 => by simp [cmbTo]
  | k + 1 => by simp [cmbTo, cmbTo_length p n x L k]
theorem cmbTo_res {p : Int} (hp : 0 < p) (n : Nat) (x : List Int) (L : List (List Int)) : ∀ k, Res p (cmbTo p n x L k)
 | 0 => fun y hy => by
   obtain ⟨_, rfl⟩ := List.mem_replicate.1 hy
   omega
 | k + 1 => addT_bounds hp (cmbTo_res hp n x L k)
def ngV (p : Int) (v : List Int) : List Int := v.map fun a => (-a) % p
@[simp] theorem ngV_length (p : Int) (v : List Int) : (ngV p v).length = v.length := by simp [ngV]
def midR (p : Int) (s t : Sys) : List (List Int) := secondM s ++ (firstM t).map (ngV p)
def pairV (p : Int) (s t : Sys) (k : List Int) : List Int := cmbTo p s.1.toNat (k.take s.2.2.length) (firstM s) s.2.2.length ++ cmbTo p t.2.1.toNat (k.drop s.2.2.length) (secondM t) t.2.2.length
def pairsM (p : Int) (s t : Sys) : List (List Int) := (kerM p s.2.1.toNat (midR p s t)).map (pairV p s t)
def cmpV (p : Int) (s t : Sys) : Sys := (s.1, t.2.1, redM p (s.1 + t.2.1).toNat (pairsM p s t))
end Go.Proofs.YtjompikdkhhlgaaGreatDoor
namespace Go.Proofs.YtjompikdkhhlgaaGreatDoor
abbrev Nd := Int × Int × ByteArray
def noName : ByteArray := ⟨#[]⟩
inductive Tr where
 | leaf (n : Nd)
 | node (p : Bool) (a b : Tr)
def kd (p : Bool) : Int := if p then 16 else 15
def joinNd (p : Bool) : Nd := (kd p, 0, noName)
def flat : Tr → List Nd
 | .leaf n => [n]
 | .node p a b => flat a ++ (flat b ++ [joinNd p])
def sz (t : Tr) : Nat := (flat t).length
def kindTy (k : Int) : Int × Int :=
 if k = 2 then (2, 2) else if k = 3 ∨ k = 11 then (1, 2) else if k = 4 ∨ k = 12 then (1, 0) else if k = 5 ∨ k = 9 then (2, 1) else if k = 6 ∨ k = 10 then (0, 1) else (1, 1)
def leafTy (n : Nd) : Int × Int := if n.1 = 1 then (n.2.1, n.2.1) else kindTy n.1
def leafB (n : Nd) : Bool := decide (n.2.2 = noName ∧ ((n.1 = 1 ∧ 0 ≤ n.2.1 ∧ n.2.1 ≤ 12) ∨ ((n.1 = 7 ∨ n.1 = 13) ∧ 0 ≤ n.2.1 ∧ n.2.1 ≤ 96) ∨ (2 ≤ n.1 ∧ n.1 ≤ 14 ∧ n.1 ≠ 7 ∧ n.1 ≠ 13 ∧ n.2.1 = 0)))
def joinTy (p : Bool) (a b : Int × Int) : Int × Int := if p then (a.1 + b.1, a.2 + b.2) else (a.1, b.2)
def joinB (p : Bool) (a b : Int × Int) : Bool := if p then decide (a.1 + b.1 ≤ 12 ∧ a.2 + b.2 ≤ 12) else decide (a.2 = b.1)
def ty : Tr → Int × Int
 | .leaf n => leafTy n
 | .node p a b => joinTy p (ty a) (ty b)
theorem leaf_fit {n : Nd} (h : leafB n = true) : 0 ≤ (leafTy n).1 ∧ (leafTy n).1 ≤ 12 ∧ 0 ≤ (leafTy n).2 ∧ (leafTy n).2 ≤ 12 := by
 unfold leafB at h
 simp only [decide_eq_true_eq] at h
 unfold leafTy kindTy
 obtain ⟨_, h⟩ := h
 by_cases h1 : n.1 = 1
 · simp only [h1, if_true]; omega
 · simp only [h1, if_false]
   repeat' split
   all_goals simp
def isJoin (n : Nd) : Prop := n.1 = 15 ∨ n.1 = 16
instance (n : Nd) : Decidable (isJoin n) := by unfold isJoin; exact inferInstance
def stepT (st : List Tr) (n : Nd) : Option (List Tr) :=
 if isJoin n then
  match st with
  | b :: a :: r => if n.2.1 = 0 ∧ n.2.2 = noName ∧ joinB (decide (n.1 = 16)) (ty a) (ty b) = true then some (.node (decide (n.1 = 16)) a b :: r) else none
  | _ => none
 else if leafB n = true then some (.leaf n :: st) else none
def parse (st : List Tr) : List Nd → Option (List Tr)
 | [] => some st
 | n :: r => (stepT st n).bind fun st' => parse st' r
def flats : List Tr → List Nd
 | [] => []
 | t :: r => flats r ++ flat t
def treeM (l : List Nd) : Option Tr := if 1 ≤ l.length ∧ l.length ≤ 400 then (match parse [] l with | some [t] => some t | _ => none) else none
def info : Tr → Nat → List (Nat × (Int × Int))
 | .leaf n, o => [(o, leafTy n)]
 | .node p a b, o => info a o ++ (info b (o + sz a) ++ [(o, joinTy p (ty a) (ty b))])
def infos : List Tr → List (Nat × (Int × Int))
 | [] => []
 | t :: r => infos r ++ info t (flats r).length
open Go.RowKit
abbrev tNd : TypeId := 85
def nc (n : Nd) : List Value := [.int .i64 n.1, .int .i64 n.2.1, .string n.2.2]
def ncs : List Nd → List Value
 | [] => []
 | n :: r => nc n ++ ncs r
@[simp] theorem ncs_length (l : List Nd) : (ncs l).length = l.length * 3 := by
  induction l with
  | nil => rfl
  | cons n r ih => simp only [ncs, nc, List.length_append, List.length_cons, List.length_nil, ih]; omega
theorem ncs_get {l : List Nd} {j : Nat} {n : Nd} (h : l[j]? = some n) : (ncs l)[j * 3]? = some (.int .i64 n.1) ∧ (ncs l)[j * 3 + 1]? = some (.int .i64 n.2.1) ∧ (ncs l)[j * 3 + 2]? = some (.string n.2.2) := by
 induction l generalizing j with
 | nil => simp at h
 | cons a r ih =>
   cases j with
   | zero =>
     obtain rfl : a = n := by simpa using h
     simp [ncs, nc]
   | succ j =>
     have := ih (j := j) (by simpa using h)
     have hl : (nc a).length = 3 := rfl
     simp only [ncs]
     rw [List.getElem?_append_right (by omega), List.getElem?_append_right (by omega), List.getElem?_append_right (by omega), hl]
     rw [show (j + 1) * 3 - 3 = j * 3 by omega, show (j + 1) * 3 + 1 - 3 = j * 3 + 1 by omega, show (j + 1) * 3 + 2 - 3 = j * 3 + 2 by omega]
     exact this
theorem ncs_set {l : List Nd} {j : Nat} (n : Nd) (h : j < l.length) : (((ncs l).set (j * 3) (.int .i64 n.1)).set (j * 3 + 1) (.int .i64 n.2.1)).set (j * 3 + 2) (.string n.2.2) = ncs (l.set j n) := by
 induction l generalizing j with
 | nil => simp at h
 | cons a r ih =>
   cases j with
   | zero => simp [ncs, nc]
   | succ j =>
     have := ih (j := j) (by simpa using h)
     have hl : (nc a).length = 3 := rfl
     simp only [ncs, List.set_cons_succ]
     rw [List.set_append_right _ _ (by omega), List.set_append_right _ _ (by omega), List.set_append_right _ _ (by omega), hl]
     rw [show (j + 1) * 3 - 3 = j * 3 by omega, show (j + 1) * 3 + 1 - 3 = j * 3 + 1 by omega, show (j + 1) * 3 + 2 - 3 = j * 3 + 2 by omega]
     rw [this]
def RdN (w : World) (A : Option Addr) (l : List Nd) : Prop := RdC w A (ncs l)
def NS (w : World) (A : Option Addr) (cap : Nat) (l : List Nd) : Prop := Sl w tNd 3 A l.length cap (ncs l)
section
variable {w w' : World} {A : Option Addr} {cap : Nat} {l : List Nd}
theorem add_next (ad : Addr) (n i : Nat) (hi : 0 < i) : ad.add (n + i) = ⟨(ad.add n).block, (ad.add n).off + i, none⟩ := by
 unfold Addr.add
 have : ¬ n + i = 0 := by omega
 rw [if_neg this]
 by_cases h : n = 0 <;> simp [h, Nat.add_assoc]
theorem RdN.at_ (h : RdN w A l) {j : Nat} (hj : j < l.length) : ∃ ad k v s, A = some ad ∧ l[j]? = some (k, v, s) ∧ w.cell? (ad.add (j * 3)) = some (.int .i64 k) ∧ w.cell? ⟨(ad.add (j * 3)).block, (ad.add (j * 3)).off + 1, none⟩ = some (.int .i64 v) ∧ w.cell? ⟨(ad.add (j * 3)).block, (ad.add (j * 3)).off + 2, none⟩ = some (.string s) := by
 obtain ⟨n, hn⟩ : ∃ n, l[j]? = some n := ⟨_, List.getElem?_eq_getElem hj⟩
 obtain ⟨h0, h1, h2⟩ := ncs_get hn
 obtain ⟨ad, hA, c0⟩ := h _ _ h0
 obtain ⟨ad1, hA1, c1⟩ := h _ _ h1
 obtain ⟨ad2, hA2, c2⟩ := h _ _ h2
 rw [hA] at hA1 hA2
 obtain rfl := Option.some.inj hA1
 obtain rfl := Option.some.inj hA2
 obtain ⟨k, v, s⟩ := n
 rw [add_next _ _ 1 (by omega)] at c1
 rw [add_next _ _ 2 (by omega)] at c2
 exact ⟨ad, k, v, s, hA, hn, c0, c1, c2⟩
theorem RdN.below (h : RdN w A l) (hb : Below w.heap.size w w') : RdN w' A l := RdC.below h hb
theorem RdN.nil (w : World) (A : Option Addr) : RdN w A [] := RdC.nil w A
theorem NS.rd (h : NS w A cap l) : RdN w A l := Sl.rdc h
theorem NS.below (h : NS w A cap l) (hb : Below w.heap.size w w') : NS w' A cap l := Sl.below h hb
theorem NS.keeps (h : NS w A cap l) {S : Nat → Prop} (hk : Keeps S w w') (hS : ∀ b, b ∈ fpA A → ¬ S b) : NS w' A cap l := Sl.keeps h hk hS
theorem NS.lt (h : NS w A cap l) : ∀ b, b ∈ fpA A → b < w.heap.size := Sl.lt h
theorem NS.at_ (h : NS w A cap l) {j : Nat} (hj : j < l.length) : ∃ ad, A = some ad ∧ ad.block < w.heap.size ∧ ∀ k, w.frozen? (ad.add k) = false := by
 obtain ⟨n, hn⟩ : ∃ n, l[j]? = some n := ⟨_, List.getElem?_eq_getElem hj⟩
 obtain ⟨ad, hA, hb, _, hf⟩ := Sl.cell h (ncs_get hn).1
 exact ⟨ad, hA, hb, hf⟩
end
def RdTm (w : World) (v : Value) (l : List Nd) : Prop := ∃ A cap, v = .agg #[.slice A l.length cap] ∧ RdN w A l
def OwTm (w : World) (v : Value) (l : List Nd) (fp : List Nat) : Prop := ∃ A cap, v = .agg #[.slice A l.length cap] ∧ NS w A cap l ∧ fp = fpA A
section
variable {w w' : World} {v : Value} {l : List Nd} {fp : List Nat}
theorem RdTm.below (h : RdTm w v l) (hb : Below w.heap.size w w') : RdTm w' v l := by obtain ⟨A, c, rfl, h⟩ := h; exact ⟨A, c, rfl, h.below hb⟩
theorem OwTm.rd (h : OwTm w v l fp) : RdTm w v l := by obtain ⟨A, c, rfl, h, _⟩ := h; exact ⟨A, c, rfl, h.rd⟩
theorem OwTm.below (h : OwTm w v l fp) (hb : Below w.heap.size w w') : OwTm w' v l fp := by obtain ⟨A, c, rfl, h, e⟩ := h; exact ⟨A, c, rfl, h.below hb, e⟩
theorem OwTm.keeps (h : OwTm w v l fp) {S : Nat → Prop} (hk : Keeps S w w') (hS : ∀ b, b ∈ fp → ¬ S b) : OwTm w' v l fp := by
 obtain ⟨A, c, rfl, h, rfl⟩ := h; exact ⟨A, c, rfl, h.keeps hk hS, rfl⟩
theorem OwTm.lt (h : OwTm w v l fp) : LtL w.heap.size fp := by obtain ⟨A, c, rfl, h, rfl⟩ := h; exact h.lt
end
def t_inB (n lo hi : Int) : Bool := decide (lo ≤ n ∧ n ≤ hi)
def hvB (k : Int) : Bool := decide (k = 7 ∨ k = 13)
def gvB (k v : Int) : Bool := if hvB k then t_inB v 0 96 else decide (v = 0)
theorem t_within_any (n lo hi : Int) (w : World) :
  Calls Tryz.prog 77 #[.int .i64 n, .int .i64 lo, .int .i64 hi] w fun e w' => e = .returned (.bool (t_inB n lo hi)) ∧ w' = w := by
 go_enter Tryz.func77, Tryz.ntmps77
 go_wp2
 all_goals go_ret
 all_goals (refine ⟨ret_bool ?_, rfl⟩; unfold t_inB; simp; try omega)
theorem t_l1In_any (n lo hi : Int) (w : World) :
  Calls Tryz.prog 49 #[.int .i64 n, .int .i64 lo, .int .i64 hi] w fun e w' => e = .returned (.bool (t_inB n lo hi)) ∧ w' = w := by
 go_enter Tryz.func49, Tryz.ntmps49
 go_wp2
 all_goals go_ret
 all_goals (refine ⟨ret_bool ?_, rfl⟩; unfold t_inB; simp; try omega)
theorem hasValue_any (k : Int) (w : World) :
  Calls Tryz.prog 59 #[.int .i64 k] w fun e w' => e = .returned (.bool (hvB k)) ∧ w' = w := by
 go_enter Tryz.func59, Tryz.ntmps59
 go_wp2
 all_goals go_ret
 all_goals (refine ⟨ret_bool ?_, rfl⟩; unfold hvB; by_cases h7 : k = 7 <;> by_cases h13 : k = 13 <;> simp_all)
theorem isGenerator_any (k : Int) (w : World) :
  Calls Tryz.prog 94 #[.int .i64 k] w fun e w' => e = .returned (.bool (t_inB k 3 14)) ∧ w' = w := by
 go_enter Tryz.func94, Tryz.ntmps94
 go_wp2_with (fail)
 refine (t_within_any _ _ _ _).mono ?_
 rintro e w' ⟨rfl, rfl⟩
 go_wp2_with (fail)
 go_ret
 exact ⟨rfl, rfl⟩
theorem isGeneratorValue_any (k v : Int) (w : World) :
  Calls Tryz.prog 95 #[.int .i64 k, .int .i64 v] w fun e w' => e = .returned (.bool (gvB k v)) ∧ w' = w := by
 have hb := hasValue_any k w
 unfold gvB
 cases hk : hvB k
 · rw [hk] at hb
   have HB := lH hb; clear hb hk
   go_enter Tryz.func95, Tryz.ntmps95
   go_wp2_with (fail)
   refine HB.out.mono ?_
   rintro e w' ⟨rfl, rfl⟩
   go_wp2_with (fail)
   go_ret
   exact ⟨rfl, rfl⟩
 · rw [hk] at hb
   have HB := lH hb; clear hb hk
   go_enter Tryz.func95, Tryz.ntmps95
   go_wp2_with (fail)
   refine HB.out.mono ?_
   rintro e w' ⟨rfl, rfl⟩
   go_wp2_with (fail)
   refine (t_within_any _ _ _ _).mono ?_
   rintro e w' ⟨rfl, rfl⟩
   go_wp2_with (fail)
   go_ret
   exact ⟨rfl, rfl⟩
set_option maxHeartbeats 1600000 in
theorem generatorWires_any (k : Int) (w : World) (h1 : 3 ≤ k) (h2 : k ≤ 14) :
  Calls Tryz.prog 83 #[.int .i64 k] w fun e w' => e = .returned (.agg #[.int .i64 (kindTy k).1, .int .i64 (kindTy k).2]) ∧ Below w.heap.size w w' := by
 have hc : k = 3 ∨ k = 4 ∨ k = 5 ∨ k = 6 ∨ k = 7 ∨ k = 8 ∨ k = 9 ∨ k = 10 ∨ k = 11 ∨ k = 12 ∨ k = 13 ∨ k = 14 := by omega
 rcases hc with rfl | rfl | rfl | rfl | rfl | rfl | rfl | rfl | rfl | rfl | rfl | rfl
 all_goals
  clear h1 h2
  go_enter Tryz.func83, Tryz.ntmps83
  go_wp2_with (fail)
  refine bodyPost_ret (v := .agg #[.int .i64 (kindTy _).1, .int .i64 (kindTy _).2]) (by simp [results, Tryz.results83, go_sem]; exact ⟨rfl, rfl⟩) rfl ⟨rfl, ?_⟩
  first
  | exact ((Below.refl _ _).alloc (Nat.le_refl _) _).alloc (by simp) _
  | exact (((Below.refl _ _).alloc (Nat.le_refl _) _).alloc (by simp) _).alloc (by simp; omega) _
theorem name_yes {s : ByteArray} (h : (!s.toList.isEmpty) = false) : s = noName := by
 have h1 : s.toList = [] := by simpa using h
 have h2 : s.data.toList = [] := by rw [← h1]; exact (ByteArray.toList_eq s).symm ▸ rfl
 have h3 : s.data = #[] := by simpa using h2
 cases s; simp_all [noName]
theorem t_below_alloc (w : World) (o : Obj) : Below w.heap.size w (w.alloc o) := (Below.refl _ _).alloc (Nat.le_refl _) _
theorem below_drew {B : Nat} {a w : World} (h : Below B a w) : Below B a w.drew := below_drewN h 1
theorem t_box_below {w w' : World} {B : Nat} {o : Obj} (h : w.heap[B]? = some o) (hb : Below w.heap.size w w') : w'.heap[B]? = some o := (hb.block B (Array.getElem?_eq_some_iff.1 h).1).trans h
theorem t_box_keeps {w w' : World} {S : Nat → Prop} {B : Nat} {o : Obj} (h : w.heap[B]? = some o) (hk : Keeps S w w') (hS : ¬ S B) : w'.heap[B]? = some o := (hk.block B (Array.getElem?_eq_some_iff.1 h).1 hS).trans h
theorem t_box_lt {w : World} {B : Nat} {o : Obj} (h : w.heap[B]? = some o) : B < w.heap.size := (Array.getElem?_eq_some_iff.1 h).1
theorem two_boxes (w : World) (o o' : Obj) : Below w.heap.size w ((w.alloc o).alloc o') ∧ ((w.alloc o).alloc o').heap[w.heap.size]? = some o ∧ ((w.alloc o).alloc o').heap[w.heap.size + 1]? = some o' ∧ ((w.alloc o).alloc o').heap.size = w.heap.size + 2 := by
 refine ⟨((Below.refl _ _).alloc (Nat.le_refl _) _).alloc (by simp) _, t_box_below (heap_alloc_new w o) (t_below_alloc _ _), ?_, by simp⟩
 have := heap_alloc_new (w.alloc o) o'
 rwa [World.size_alloc] at this
abbrev tWires : TypeId := 105
abbrev tEd : TypeId := 50
abbrev tGr : TypeId := 31
abbrev Eg := Int × Int × List Int × List Int
abbrev EHd := Int × Int × Hd × Hd
abbrev Gr := Int × List Eg × List Int × List Int
instance decEg : DecidableEq Eg := inferInstance
instance decEgs : DecidableEq (List Eg) := inferInstance
instance decGr : DecidableEq Gr := inferInstance
def egOf (h : EHd) : Eg := (h.1, h.2.1, h.2.2.1.2.2, h.2.2.2.2.2)
def ec (h : EHd) : List Value := [.int .i64 h.1, .int .i64 h.2.1, Hd.val h.2.2.1, Hd.val h.2.2.2]
def ecs : List EHd → List Value
 | [] => []
 | h :: r => ec h ++ ecs r
theorem ecs_append (l m : List EHd) : ecs (l ++ m) = ecs l ++ ecs m := by
 induction l with
 | nil => rfl
 | cons n r ih => simp [ecs, ih]
@[simp] theorem ecs_length (l : List EHd) : (ecs l).length = l.length * 4 := by
  induction l with
  | nil => rfl
  | cons n r ih => simp only [ecs, ec, List.length_append, List.length_cons, List.length_nil, ih]; omega
theorem ecs_get {l : List EHd} {j : Nat} {n : EHd} (h : l[j]? = some n) : (ecs l)[j * 4]? = some (.int .i64 n.1) ∧ (ecs l)[j * 4 + 1]? = some (.int .i64 n.2.1) ∧ (ecs l)[j * 4 + 2]? = some (Hd.val n.2.2.1) ∧ (ecs l)[j * 4 + 3]? = some (Hd.val n.2.2.2) := by
 induction l generalizing j with
 | nil => simp at h
 | cons a r ih =>
   cases j with
   | zero =>
     obtain rfl : a = n := by simpa using h
     simp [ecs, ec]
   | succ j =>
     have := ih (j := j) (by simpa using h)
     have hl : (ec a).length = 4 := rfl
     simp only [ecs]
     rw [List.getElem?_append_right (by omega), List.getElem?_append_right (by omega), List.getElem?_append_right (by omega), List.getElem?_append_right (by omega), hl]
     rw [show (j + 1) * 4 - 4 = j * 4 by omega, show (j + 1) * 4 + 1 - 4 = j * 4 + 1 by omega, show (j + 1) * 4 + 2 - 4 = j * 4 + 2 by omega, show (j + 1) * 4 + 3 - 4 = j * 4 + 3 by omega]
     exact this
theorem ecs_set {l : List EHd} {j : Nat} (n : EHd) (h : j < l.length) : ((((ecs l).set (j * 4) (.int .i64 n.1)).set (j * 4 + 1) (.int .i64 n.2.1)).set (j * 4 + 2) (Hd.val n.2.2.1)).set (j * 4 + 3) (Hd.val n.2.2.2) = ecs (l.set j n) := by
 induction l generalizing j with
 | nil => simp at h
 | cons a r ih =>
   cases j with
   | zero => simp [ecs, ec]
   | succ j =>
     have := ih (j := j) (by simpa using h)
     have hl : (ec a).length = 4 := rfl
     simp only [ecs, List.set_cons_succ]
     rw [List.set_append_right _ _ (by omega), List.set_append_right _ _ (by omega), List.set_append_right _ _ (by omega), List.set_append_right _ _ (by omega), hl]
     rw [show (j + 1) * 4 - 4 = j * 4 by omega, show (j + 1) * 4 + 1 - 4 = j * 4 + 1 by omega, show (j + 1) * 4 + 2 - 4 = j * 4 + 2 by omega, show (j + 1) * 4 + 3 - 4 = j * 4 + 3 by omega]
     rw [this]
def eh : List EHd → List Hd
 | [] => []
 | h :: r => h.2.2.1 :: h.2.2.2 :: eh r
theorem eh_append (l m : List EHd) : eh (l ++ m) = eh l ++ eh m := by
 induction l with
 | nil => rfl
 | cons n r ih => simp [eh, ih]
theorem mem_eh {l : List EHd} {x : Hd} : x ∈ eh l ↔ ∃ h, h ∈ l ∧ (x = h.2.2.1 ∨ x = h.2.2.2) := by
 induction l with
 | nil => simp [eh]
 | cons n r ih =>
   simp only [eh, List.mem_cons, ih]
   constructor
   · rintro (h | h | ⟨y, hy, h⟩)
     · exact ⟨n, .inl rfl, .inl h⟩
     · exact ⟨n, .inl rfl, .inr h⟩
     · exact ⟨y, .inr hy, h⟩
   · rintro ⟨y, rfl | hy, h⟩
     · rcases h with h | h
       · exact .inl h
       · exact .inr (.inl h)
     · exact .inr (.inr ⟨y, hy, h⟩)
def RdE (w : World) (A : Option Addr) (hs : List EHd) : Prop := RdC w A (ecs hs) ∧ ∀ h, h ∈ hs → RdI w h.2.2.1.1 h.2.2.1.2.2 ∧ RdI w h.2.2.2.1 h.2.2.2.2.2
structure OwLs (w : World) (fp : List Nat) (ls : List Hd) : Prop where
 rows : ∀ h, h ∈ ls → IS w h.1 h.2.1 h.2.2
 apart : ls.Pairwise fun h h' => ∀ b, b ∈ fpA h.1 → ¬ b ∈ fpA h'.1
 outer : ∀ h, h ∈ ls → ∀ b, b ∈ fpA h.1 → ¬ b ∈ fp
section
variable {w w' : World} {A : Option Addr} {cap : Nat} {hs : List EHd} {fp : List Nat} {ls : List Hd}
theorem OwLs.below (h : OwLs w fp ls) (hb : Below w.heap.size w w') : OwLs w' fp ls := ⟨fun x hx => (h.rows x hx).below hb, h.apart, h.outer⟩
theorem OwLs.keeps (h : OwLs w fp ls) {S : Nat → Prop} (hk : Keeps S w w') (hS : ∀ b, b ∈ fpR ls → ¬ S b) : OwLs w' fp ls :=
 ⟨fun x hx => (h.rows x hx).keeps hk fun b hb => hS b (mem_fpR.2 ⟨x, hx, hb⟩), h.apart, h.outer⟩
theorem OwLs.lt (h : OwLs w fp ls) : ∀ b, b ∈ fpR ls → b < w.heap.size := fun b hb => by
 obtain ⟨x, hx, hb⟩ := mem_fpR.1 hb; exact (h.rows x hx).lt b hb
theorem OwLs.nil (w : World) (fp : List Nat) : OwLs w fp [] := ⟨fun h hh => (by cases hh), .nil, fun h hh => (by cases hh)⟩
theorem fpR_append (l m : List Hd) : fpR (l ++ m) = fpR l ++ fpR m := by simp [fpR]
theorem fpR_cons (x : Hd) (m : List Hd) : fpR (x :: m) = fpA x.1 ++ fpR m := by simp [fpR]
theorem OwLs.app (h : OwLs w fp ls) (hb : Below w.heap.size w w') {ms : List Hd} (hm : OwLs w' [] ms) (hf : FreshL w.heap.size (fpR ms)) (hlt : ∀ b, b ∈ fp → b < w.heap.size) : OwLs w' fp (ls ++ ms) := by
 refine ⟨fun y hy => ?_, ?_, fun y hy b hb1 hb2 => ?_⟩
 · rcases List.mem_append.1 hy with hy | hy
   · exact (h.rows y hy).below hb
   · exact hm.rows y hy
 · refine List.pairwise_append.2 ⟨h.apart, hm.apart, fun y hy z hz b hb1 hb2 => ?_⟩
   have := (h.rows y hy).lt b hb1
   have := hf b (mem_fpR.2 ⟨z, hz, hb2⟩)
   omega
 · rcases List.mem_append.1 hy with hy | hy
   · exact h.outer y hy b hb1 hb2
   · have := hf b (mem_fpR.2 ⟨y, hy, hb1⟩); have := hlt b hb2; omega
theorem OwLs.grow (h : OwLs w fp ls) {fp' : List Nat} (hf : ∀ b, b ∈ fp' → b ∈ fp ∨ w.heap.size ≤ b) (hk : Keeps (· ∈ fp) w w') : OwLs w' fp' ls := by
 refine ⟨fun x hx => (h.rows x hx).keeps hk fun b hb hb' => h.outer x hx b hb hb', h.apart, fun x hx b hb hb' => ?_⟩
 rcases hf b hb' with h1 | h1
 · exact h.outer x hx b hb h1
 · have := (h.rows x hx).lt b hb; omega
theorem OwLs.one {x : Hd} (hx : IS w x.1 x.2.1 x.2.2) : OwLs w [] [x] := ⟨fun y hy => by obtain rfl := List.mem_singleton.1 hy; exact hx, List.pairwise_singleton _ _, fun y _ b _ hb => by cases hb⟩
theorem OwLs.two {x y : Hd} (hx : IS w x.1 x.2.1 x.2.2) (hb : Below w.heap.size w w') (hy : IS w' y.1 y.2.1 y.2.2) (hf : Fresh w.heap.size y.1) : OwLs w' [] [x, y] :=
 (OwLs.one hx).app (ms := [y]) hb (OwLs.one hy) (fun b hb' => hf b (by simpa [fpR] using hb')) (fun b hb' => by cases hb')
theorem OwLs.cons (h : OwLs w fp ls) (hb : Below w.heap.size w w') {x : Hd} (hx : IS w' x.1 x.2.1 x.2.2) (hf : Fresh w.heap.size x.1) (hlt : ∀ b, b ∈ fp → b < w.heap.size) : OwLs w' fp (x :: ls) := by
 refine ⟨fun y hy => ?_, ?_, fun y hy b hb1 hb2 => ?_⟩
 · rcases List.mem_cons.1 hy with rfl | hy
   · exact hx
   · exact (h.rows y hy).below hb
 · refine List.pairwise_cons.2 ⟨fun y hy b hb1 hb2 => ?_, h.apart⟩
   have := (h.rows y hy).lt b hb2
   have := hf b hb1
   omega
 · rcases List.mem_cons.1 hy with rfl | hy
   · have := hf b hb1; have := hlt b hb2; omega
   · exact h.outer y hy b hb1 hb2
theorem OwLs.perm (h : OwLs w fp ls) {ms : List Hd} (hp : ms.Perm ls) : OwLs w fp ms :=
 ⟨fun x hx => h.rows x (hp.mem_iff.1 hx), (hp.pairwise_iff (fun hxy b hb1 hb2 => hxy b hb2 hb1)).2 h.apart, fun x hx => h.outer x (hp.mem_iff.1 hx)⟩
theorem RdE.below (h : RdE w A hs) (hb : Below w.heap.size w w') : RdE w' A hs := ⟨RdC.below h.1 hb, fun x hx => ⟨(h.2 x hx).1.below hb, (h.2 x hx).2.below hb⟩⟩
theorem RdE.nil (w : World) (A : Option Addr) : RdE w A [] := ⟨RdC.nil w A, fun x hx => by cases hx⟩
theorem RdE.at_ (h : RdE w A hs) {j : Nat} (hj : j < hs.length) : ∃ ad k v B b l C c m, A = some ad ∧ hs[j]? = some (k, v, (B, b, l), (C, c, m)) ∧
  (w.cell? (ad.add (j * 4)) = some (.int .i64 k) ∧ w.cell? ⟨(ad.add (j * 4)).block, (ad.add (j * 4)).off + 1, none⟩ = some (.int .i64 v) ∧ w.cell? ⟨(ad.add (j * 4)).block, (ad.add (j * 4)).off + 2, none⟩ = some (.slice B l.length b) ∧ w.cell? ⟨(ad.add (j * 4)).block, (ad.add (j * 4)).off + 3, none⟩ = some (.slice C m.length c)) ∧ RdI w B l ∧ RdI w C m := by
 obtain ⟨n, hn⟩ : ∃ n, hs[j]? = some n := ⟨_, List.getElem?_eq_getElem hj⟩
 obtain ⟨h0, h1, h2, h3⟩ := ecs_get hn
 obtain ⟨ad, hA, c0⟩ := h.1 _ _ h0
 obtain ⟨ad1, hA1, c1⟩ := h.1 _ _ h1
 obtain ⟨ad2, hA2, c2⟩ := h.1 _ _ h2
 obtain ⟨ad3, hA3, c3⟩ := h.1 _ _ h3
 rw [hA] at hA1 hA2 hA3
 obtain rfl := Option.some.inj hA1
 obtain rfl := Option.some.inj hA2
 obtain rfl := Option.some.inj hA3
 obtain ⟨k, v, ⟨B, b, l⟩, ⟨C, c, m⟩⟩ := n
 have hr := h.2 _ (List.mem_of_getElem? hn)
 rw [add_next _ _ 1 (by omega)] at c1
 rw [add_next _ _ 2 (by omega)] at c2
 rw [add_next _ _ 3 (by omega)] at c3
 exact ⟨ad, k, v, B, b, l, C, c, m, hA, hn, ⟨c0, c1, c2, c3⟩, hr.1, hr.2⟩
end
def RdGr (w : World) (v : Value) (g : Gr) : Prop := ∃ (A : Option Addr) (cap : Nat) (hs : List EHd) (a b : Hd), v = .agg #[.int .i64 g.1, .slice A hs.length cap, .slice a.1 a.2.2.length a.2.1, .slice b.1 b.2.2.length b.2.1] ∧ g.2.1 = hs.map egOf ∧ a.2.2 = g.2.2.1 ∧ b.2.2 = g.2.2.2 ∧ RdE w A hs ∧ RdI w a.1 a.2.2 ∧ RdI w b.1 b.2.2
def OwGr (w : World) (v : Value) (g : Gr) (fp : List Nat) : Prop := ∃ (A : Option Addr) (cap : Nat) (hs : List EHd) (a b : Hd), v = .agg #[.int .i64 g.1, .slice A hs.length cap, .slice a.1 a.2.2.length a.2.1, .slice b.1 b.2.2.length b.2.1] ∧ g.2.1 = hs.map egOf ∧ a.2.2 = g.2.2.1 ∧ b.2.2 = g.2.2.2 ∧ Sl w tEd 4 A hs.length cap (ecs hs) ∧ OwLs w (fpA A) (a :: b :: eh hs) ∧ fp = fpA A ++ fpR (a :: b :: eh hs)
section
variable {w w' : World} {v : Value} {g : Gr} {fp : List Nat}
theorem RdGr.below (h : RdGr w v g) (hb : Below w.heap.size w w') : RdGr w' v g := by
 obtain ⟨A, c, hs, a, b, rfl, e1, e2, e3, h1, h2, h3⟩ := h; exact ⟨A, c, hs, a, b, rfl, e1, e2, e3, h1.below hb, h2.below hb, h3.below hb⟩
theorem OwGr.rd (h : OwGr w v g fp) : RdGr w v g := by
 obtain ⟨A, c, hs, a, b, rfl, e1, e2, e3, h1, h2, _⟩ := h
 refine ⟨A, c, hs, a, b, rfl, e1, e2, e3, ⟨Sl.rdc h1, fun x hx => ⟨(h2.rows _ ?_).rd, (h2.rows _ ?_).rd⟩⟩, (h2.rows a (by simp)).rd, (h2.rows b (by simp)).rd⟩
 · exact List.mem_cons_of_mem _ (List.mem_cons_of_mem _ (mem_eh.2 ⟨x, hx, .inl rfl⟩))
 · exact List.mem_cons_of_mem _ (List.mem_cons_of_mem _ (mem_eh.2 ⟨x, hx, .inr rfl⟩))
theorem OwGr.below (h : OwGr w v g fp) (hb : Below w.heap.size w w') : OwGr w' v g fp := by
 obtain ⟨A, c, hs, a, b, rfl, e1, e2, e3, h1, h2, e⟩ := h; exact ⟨A, c, hs, a, b, rfl, e1, e2, e3, h1.below hb, h2.below hb, e⟩
theorem OwGr.keeps (h : OwGr w v g fp) {S : Nat → Prop} (hk : Keeps S w w') (hS : ∀ b, b ∈ fp → ¬ S b) : OwGr w' v g fp := by
 obtain ⟨A, c, hs, a, b, rfl, e1, e2, e3, h1, h2, rfl⟩ := h
 exact ⟨A, c, hs, a, b, rfl, e1, e2, e3, h1.keeps hk fun x hx => hS x (List.mem_append_left _ hx), h2.keeps hk fun x hx => hS x (List.mem_append_right _ hx), rfl⟩
theorem OwGr.lt (h : OwGr w v g fp) : LtL w.heap.size fp := by
 obtain ⟨A, c, hs, a, b, rfl, e1, e2, e3, h1, h2, rfl⟩ := h
 intro x hx
 rcases List.mem_append.1 hx with hx | hx
 · exact h1.lt x hx
 · exact h2.lt x hx
theorem RdGr.shape (h : RdGr w v g) : ∃ A n c B m d C k e, v = .agg #[.int .i64 g.1, .slice A n c, .slice B m d, .slice C k e] := by
 obtain ⟨A, c, hs, a, b, rfl, _⟩ := h; exact ⟨_, _, _, _, _, _, _, _, _, rfl⟩
theorem OwGr.shape (h : OwGr w v g fp) : ∃ A n c B m d C k e, v = .agg #[.int .i64 g.1, .slice A n c, .slice B m d, .slice C k e] := h.rd.shape
theorem OwGr.zero (w : World) : OwGr w (.agg #[.int .i64 0, .slice none 0 0, .slice none 0 0, .slice none 0 0]) (0, [], [], []) [] :=
 ⟨none, 0, [], (none, 0, []), (none, 0, []), rfl, rfl, rfl, rfl, Sl.nil _ _ _, ⟨fun x hx => by
  simp [eh] at hx; subst hx; exact Sl.nil _ _ _, by simp [eh], fun x hx b hb => by simp [eh] at hx; subst hx; simp at hb⟩, rfl⟩
theorem t_box4 {B : Nat} {x y z u : Value} {t : TypeId} (h : w.heap[B]? = some (.cells #[x, y, z, u] t)) :
  (w.cell? ⟨B, 0, none⟩ = some x ∧ w.cell? ⟨B, 1, none⟩ = some y ∧ w.cell? ⟨B, 2, none⟩ = some z ∧ w.cell? ⟨B, 3, none⟩ = some u) ∧ w.frozen? ⟨B, 0, none⟩ = false ∧ w.frozen? ⟨B, 1, none⟩ = false ∧ w.frozen? ⟨B, 2, none⟩ = false ∧ w.frozen? ⟨B, 3, none⟩ = false := by
 simp [World.cell?, World.frozen?, h]
end
def cntE : List Eg → Nat
 | [] => 0
 | e :: r => 2 + e.2.2.1.length + e.2.2.2.length + cntE r
def cntG (g : Gr) : Nat := cntE g.2.1 + g.2.2.1.length + g.2.2.2.length
def OkG (g : Gr) : Prop := (g.2.1.length ≤ 1048576 ∧ g.2.2.1.length ≤ 1048576 ∧ g.2.2.2.length ≤ 1048576) ∧ (∀ e, e ∈ g.2.1 → e.2.2.1.length ≤ 1048576 ∧ e.2.2.2.length ≤ 1048576) ∧ cntG g ≤ 8388608
def marksE : Nat → List Eg → List Eg
 | _, [] => []
 | k, e :: r => ((k : Int), ((k + 1 : Nat) : Int), marks (k + 2) e.2.2.1.length, marks (k + 2 + e.2.2.1.length) e.2.2.2.length) :: marksE (k + 2 + e.2.2.1.length + e.2.2.2.length) r
def marksG (k : Nat) (g : Gr) : Gr := (g.1, marksE k g.2.1, marks (k + cntE g.2.1) g.2.2.1.length, marks (k + cntE g.2.1 + g.2.2.1.length) g.2.2.2.length)
def HeGr (w : World) (v : Value) (g : Gr) (k : Nat) (fp : List Nat) : Prop := OwGr w v (marksG k g) fp
theorem HeGr.below {w w' : World} {v : Value} {g : Gr} {k : Nat} {fp : List Nat} (h : HeGr w v g k fp) (hb : Below w.heap.size w w') : HeGr w' v g k fp := OwGr.below h hb
theorem HeGr.keeps {w w' : World} {v : Value} {g : Gr} {k : Nat} {fp : List Nat} (h : HeGr w v g k fp) {S : Nat → Prop} (hk : Keeps S w w') (hS : ∀ b, b ∈ fp → ¬ S b) : HeGr w' v g k fp := OwGr.keeps h hk hS
theorem cntE_append (l m : List Eg) : cntE (l ++ m) = cntE l + cntE m := by
 induction l with
 | nil => simp [cntE]
 | cons e r ih => simp [cntE, ih]; omega
def egB (e : Eg) : Bool := t_inB e.1 3 14 && (gvB e.1 e.2.1 && decide (((e.2.2.1.length : Int), (e.2.2.2.length : Int)) = kindTy e.1))
def inW (n : Int) (l : List Int) : Bool := l.all fun x => t_inB x 0 (n - 1)
def edW : List Eg → List Int
 | [] => []
 | e :: r => e.2.2.1 ++ (e.2.2.2 ++ edW r)
def t_allW (g : Gr) : List Int := g.2.2.1 ++ (g.2.2.2 ++ edW g.2.1)
def fullW (n : Int) (l : List Int) : Bool := (List.range n.toNat).all fun w : Nat => l.contains (w : Int)
def grB (g : Gr) : Bool := (t_inB g.1 0 100 && (decide (g.2.1.length ≤ 60) && (decide (g.2.2.1.length ≤ 12) && decide (g.2.2.2.length ≤ 12)))) && (g.2.1.all egB && (inW g.1 (t_allW g) && fullW g.1 (t_allW g)))
theorem edW_append (l m : List Eg) : edW (l ++ m) = edW l ++ edW m := by
 induction l with
 | nil => rfl
 | cons e r ih => simp [edW, ih]
theorem inW_append (n : Int) (l m : List Int) : inW n (l ++ m) = (inW n l && inW n m) := by simp [inW]
theorem inW_iff {n : Int} {l : List Int} : inW n l = true ↔ ∀ x, x ∈ l → 0 ≤ x ∧ x < n := by
 unfold inW
 rw [List.all_eq_true]
 constructor
 · intro h x hx
   have := h x hx
   unfold t_inB at this
   have := of_decide_eq_true this
   omega
 · intro h x hx
   have := h x hx
   unfold t_inB
   exact decide_eq_true (by omega)
theorem inW_sub {n : Int} {l m : List Int} (h : inW n l = true) (hs : ∀ x, x ∈ m → x ∈ l) : inW n m = true := inW_iff.2 fun x hx => inW_iff.1 h x (hs x hx)
def seenM (n : Nat) (l : List Int) : List Bool := (List.range n).map fun w : Nat => l.contains (w : Int)
@[simp] theorem seenM_length (n : Nat) (l : List Int) : (seenM n l).length = n := by simp [seenM]
theorem seenM_get {n : Nat} {l : List Int} {w : Nat} (h : w < n) : (seenM n l)[w]? = some (l.contains (w : Int)) := by simp [seenM, h]
theorem seenM_nil (n : Nat) : seenM n [] = List.replicate n false := by
 apply List.ext_getElem?
 intro w
 by_cases h : w < n
 · rw [seenM_get h, List.getElem?_replicate, if_pos h]; rfl
 · rw [List.getElem?_eq_none (by simp; omega), List.getElem?_eq_none (by simp; omega)]
theorem contains_snoc (l : List Int) (x y : Int) : (l ++ [x]).contains y = (l.contains y || (x == y)) := by
 rw [Bool.eq_iff_iff, List.contains_iff_mem, Bool.or_eq_true, List.contains_iff_mem, List.mem_append, List.mem_singleton, beq_iff_eq]
 exact ⟨fun h => h.imp id Eq.symm, fun h => h.imp id Eq.symm⟩
theorem seenM_in {n w : Nat} {l : List Int} (h : w < n) : seenM n (l ++ [(w : Int)]) = (seenM n l).set w true := by
 apply List.ext_getElem?
 intro i
 rw [List.getElem?_set]
 by_cases hi : i < n
 · rw [seenM_get hi, contains_snoc]
   by_cases hw : w = i
   · subst hw; simp [hi]
   · rw [if_neg hw, seenM_get hi]
     have : ((w : Int) == (i : Int)) = false := by rw [beq_eq_false_iff_ne]; omega
     rw [this, Bool.or_false]
 · rw [List.getElem?_eq_none (by simp; omega)]
   split
   · rename_i h2; omega
   · rw [List.getElem?_eq_none (by simp; omega)]
theorem seenM_out {n : Nat} {l : List Int} {x : Int} (h : ¬ (0 ≤ x ∧ x < n)) : seenM n (l ++ [x]) = seenM n l := by
 unfold seenM
 apply List.map_congr_left
 intro w hw
 have hw' : w < n := List.mem_range.1 hw
 rw [contains_snoc]
 have : (x == (w : Int)) = false := by rw [beq_eq_false_iff_ne]; omega
 rw [this, Bool.or_false]
theorem seenM_old {n w : Nat} {l : List Int} (h : w < n) (hs : l.contains (w : Int) = true) : seenM n (l ++ [(w : Int)]) = seenM n l := by
 rw [seenM_in h]
 apply List.ext_getElem?
 intro i
 rw [List.getElem?_set]
 split
 · rename_i e; subst e; rw [seenM_get h, hs]; simp [h]
 · rfl
def seenC (n : Nat) (l : List Int) : Nat := (seenM n l).count true
theorem count_set_true : ∀ {s : List Bool} {w : Nat}, s[w]? = some false → (s.set w true).count true = s.count true + 1
 | b :: s, 0, h => by
   obtain rfl : b = false := by simpa using h
   simp
 | b :: s, w + 1, h => by
   have := count_set_true (s := s) (w := w) (by simpa using h)
   simp only [List.set_cons_succ, List.count_cons, this]
   omega
theorem seenC_le (n : Nat) (l : List Int) : seenC n l ≤ n := by
 have := List.count_le_length (a := true) (l := seenM n l)
 rw [seenM_length] at this; exact this
theorem seenC_new {n w : Nat} {l : List Int} (h : w < n) (hs : l.contains (w : Int) = false) : seenC n (l ++ [(w : Int)]) = seenC n l + 1 := by
 unfold seenC
 rw [seenM_in h]
 exact count_set_true (by rw [seenM_get h, hs])
theorem count_all : ∀ (s : List Bool), s.count true = s.length ↔ s.all id = true
 | [] => by simp
 | b :: s => by
   have ih := count_all s
   have hle := List.count_le_length (a := true) (l := s)
   cases b
   · simp; omega
   · simpa using ih
theorem seenC_full (n : Nat) (l : List Int) : (decide (seenC n l = n)) = (List.range n).all fun w : Nat => l.contains (w : Int) := by
 have h := count_all (seenM n l)
 rw [seenM_length] at h
 have e : (seenM n l).all id = (List.range n).all fun w : Nat => l.contains (w : Int) := by
  unfold seenM; rw [List.all_map]; rfl
 rw [Bool.eq_iff_iff, ← e, ← h]
 unfold seenC
 simp
def cntM (n : Nat) (l : List Int) : List Int := (List.range n).map fun w : Nat => (l.count (w : Int) : Int)
@[simp] theorem cntM_length (n : Nat) (l : List Int) : (cntM n l).length = n := by simp [cntM]
theorem cntM_get {n : Nat} {l : List Int} {w : Nat} (h : w < n) : (cntM n l)[w]? = some (l.count (w : Int) : Int) := by simp [cntM, h]
theorem cntM_nil (n : Nat) : cntM n [] = List.replicate n 0 := by
 apply List.ext_getElem?
 intro w
 by_cases h : w < n
 · rw [cntM_get h, List.getElem?_replicate, if_pos h]; rfl
 · rw [List.getElem?_eq_none (by simp; omega), List.getElem?_eq_none (by simp; omega)]
theorem cntM_step {n w : Nat} {l : List Int} (h : w < n) : cntM n (l ++ [(w : Int)]) = (cntM n l).set w ((l.count (w : Int) : Int) + 1) := by
 apply List.ext_getElem?
 intro i
 rw [List.getElem?_set]
 by_cases hi : i < n
 · rw [cntM_get hi, List.count_append]
   by_cases hw : w = i
   · subst hw; simp [hi]
   · rw [if_neg hw, cntM_get hi]
     have : List.count (i : Int) [(w : Int)] = 0 := List.count_eq_zero.2 fun hm => by
      have := List.mem_singleton.1 hm; omega
     rw [this, Nat.add_zero]
 · rw [List.getElem?_eq_none (by simp; omega)]
   split
   · rename_i h2; omega
   · rw [List.getElem?_eq_none (by simp; omega)]
theorem count_le (l : List Int) (x : Int) : l.count x ≤ l.length := List.count_le_length
def outW : List Eg → List Int
 | [] => []
 | e :: r => e.2.2.2 ++ outW r
def inpW : List Eg → List Int
 | [] => []
 | e :: r => e.2.2.1 ++ inpW r
def orgW (g : Gr) : List Int := g.2.2.1 ++ outW g.2.1
def dstW (g : Gr) : List Int := g.2.2.2 ++ inpW g.2.1
theorem mem_edW {l : List Eg} {x : Int} : x ∈ edW l ↔ x ∈ outW l ∨ x ∈ inpW l := by
 induction l with
 | nil => simp [edW, outW, inpW]
 | cons e r ih => simp only [edW, outW, inpW, List.mem_append, ih]; exact ⟨fun h => by rcases h with h | h | h | h <;> simp [h], fun h => by rcases h with (h | h) | (h | h) <;> simp [h]⟩
theorem mem_allW {g : Gr} {x : Int} : x ∈ t_allW g ↔ x ∈ orgW g ∨ x ∈ dstW g := by
 simp only [t_allW, orgW, dstW, List.mem_append, mem_edW]
 exact ⟨fun h => by rcases h with h | h | h | h <;> simp [h], fun h => by rcases h with (h | h) | (h | h) <;> simp [h]⟩
theorem outW_append (l m : List Eg) : outW (l ++ m) = outW l ++ outW m := by
 induction l with
 | nil => rfl
 | cons e r ih => simp [outW, ih]
theorem inpW_append (l m : List Eg) : inpW (l ++ m) = inpW l ++ inpW m := by
 induction l with
 | nil => rfl
 | cons e r ih => simp [inpW, ih]
def hgB (n : Int) (e : Eg) : Bool := egB e && (inW n e.2.2.1 && inW n e.2.2.2)
theorem hgB_all (n : Int) (l : List Eg) : l.all (hgB n) = (l.all egB && inW n (edW l)) := by
 induction l with
 | nil => rfl
 | cons e r ih =>
   rw [List.all_cons, List.all_cons, ih, edW, inW_append, inW_append, hgB]
   cases egB e <;> cases inW n e.2.2.1 <;> cases inW n e.2.2.2 <;> cases r.all egB <;> rfl
end Go.Proofs.YtjompikdkhhlgaaGreatDoor
namespace Go.Proofs.YtjompikdkhhlgaaGreatDoor
def cnt (a : Int) : List Int → Nat
 | [] => 0
 | b :: r => (if b < a then 1 else 0) + cnt a r
def inv : List Int → Nat
 | [] => 0
 | a :: r => cnt a r + inv r
open Go.RowKit
def mapL (tw : List Int) (l : List Int) : List Int := l.map fun w => tw.getD w.toNat 0
@[simp] theorem mapL_length (tw l : List Int) : (mapL tw l).length = l.length := by simp [mapL]
theorem mapL_take_step {tw l : List Int} {k : Nat} {x : Int} (h : l[k]? = some x) : mapL tw (l.take (k + 1)) = mapL tw (l.take k) ++ [tw.getD x.toNat 0] := by
 rw [List.take_add_one, h]; simp [mapL]
def lay {α : Type} (d : α) (p : List Int) (xs : List α) : Nat → List α
 | 0 => List.replicate xs.length d
 | k + 1 => (lay d p xs k).set (p.getD k 0).toNat (xs.getD k d)
section
variable {α β : Type} {d : α} {p : List Int} {xs : List α}
@[simp] theorem lay_length : ∀ k, (lay d p xs k).length = xs.length
  | 0 => by simp [lay]
  | k + 1 => by simp [lay, lay_length k]
end
end Go.Proofs.YtjompikdkhhlgaaGreatDoor
namespace Go.Proofs.YtjompikdkhhlgaaGreatDoor
theorem cmb_en {p : Int} {n : Nat} {x : List Int} {B : List (List Int)} (hB : ∀ v, v ∈ B → v.length = n) {j : Nat} (hj : j < n) : ∀ k, k ≤ B.length → p ∣ (cmbTo p n x B k).getD j 0 - sm k fun i => x.getD i 0 * en B i j
 | 0, _ => by simp [cmbTo, sm, List.getD, hj]
 | k + 1, hk => by
   have hl : (B.getD k []).length = n := by
    rw [List.getD_eq_getElem?_getD, List.getElem?_eq_getElem (by omega)]
    exact hB _ (List.getElem_mem (by omega))
   rw [cmbTo, sm, addT_en (cmbTo_length p n x B k) hl hj]
   exact lin_add (cmb_en hB hj k (by omega))
def atV (ends : List Nat) (v : List Int) : List Int := ends.map fun w => v.getD w 0
@[simp] theorem atV_length (ends : List Nat) (v : List Int) : (atV ends v).length = ends.length := by simp [atV]
def wvC (n : Nat) (Eq : List (List Int)) (ends : List Nat) : List (List Int) := Eq ++ ends.map (unitV n)
def wvK (p : Int) (n : Nat) (B : List (List Int)) (ends : List Nat) : List (List Int) :=
 redM p n ((nullM p B.length (transM (B.map (atV ends)) ends.length)).map fun k => cmbTo p n k B B.length)
def wvS (p : Int) (n : Nat) (B : List (List Int)) (ends : List Nat) (X : List Int) : List Int × Bool :=
 if (slvM p B.length ends.length (B.map (atV ends)) X).2 then (lsTo p (wvK p n B ends) (cmbTo p n (slvM p B.length ends.length (B.map (atV ends)) X).1 B B.length) (wvK p n B ends).length, true) else ([], false)
theorem unit_dot {n w : Nat} (hw : w < n) (f : Nat → Int) : (sm n fun j => (unitV n w).getD j 0 * f j) = f w := by
 rw [sm_one hw]
 · simp [unitV, List.getD, hw]
 · intro j hj hne
   simp [unitV, List.getD, hj, hne]
section
variable {p : Int} {n : Nat} {Eq B : List (List Int)} {ends : List Nat} {X : List Int}
theorem wvC_mat (hp : 1 < p) (hE : Mat p Eq.length n Eq) : Mat p (wvC n Eq ends).length n (wvC n Eq ends) := by
 refine ⟨rfl, fun v hv => ?_⟩
 rcases List.mem_append.1 hv with h | h
 · exact hE.row v h
 · obtain ⟨w, _, rfl⟩ := List.mem_map.1 h
   refine ⟨by simp [unitV], fun x hx => ?_⟩
   simp only [unitV, List.mem_map] at hx
   obtain ⟨i, _, rfl⟩ := hx
   split <;> omega
theorem wvC_nul (he : ∀ w, w ∈ ends → w < n) (d : Nat → Int) : NulL p n (wvC n Eq ends) d ↔ NulL p n Eq d ∧ ∀ w, w ∈ ends → p ∣ d w := by
 have key : ∀ L : List (List Int), NulL p n L d ↔ ∀ v, v ∈ L → p ∣ sm n fun j => v.getD j 0 * d j := fun L => by
  unfold NulL Nul en
  constructor
  · intro h v hv
    obtain ⟨i, hi, rfl⟩ := List.getElem_of_mem hv
    have := h i hi
    rwa [getD_lt hi] at this
  · intro h i hi
    rw [getD_lt hi]
    exact h _ (List.getElem_mem hi)
 rw [key, key]
 unfold wvC
 constructor
 · intro h
   refine ⟨fun v hv => h v (List.mem_append_left _ hv), fun w hw => ?_⟩
   have := h (unitV n w) (List.mem_append_right _ (List.mem_map.2 ⟨w, hw, rfl⟩))
   rwa [unit_dot (he w hw)] at this
 · rintro ⟨h1, h2⟩ v hv
   rcases List.mem_append.1 hv with h | h
   · exact h1 v h
   · obtain ⟨w, hw, rfl⟩ := List.mem_map.1 h
     rw [unit_dot (he w hw)]
     exact h2 w hw
theorem row_at {L : List (List Int)} {i : Nat} (hi : i < L.length) (j : Nat) : en (L.map (atV ends)) i j = (atV ends (L.getD i [])).getD j 0 := by
 unfold en
 congr 1
 simp [List.getD, hi]
theorem at_get {v : List Int} {q : Nat} (hq : q < ends.length) : (atV ends v).getD q 0 = v.getD (ends.getD q 0) 0 := by
 simp [atV, List.getD, hq]
theorem part_mat (hp : 0 < p) (hB : Mat p B.length n B) : Mat p B.length ends.length (B.map (atV ends)) := by
 refine ⟨by simp, fun v hv => ?_⟩
 obtain ⟨u, hu, rfl⟩ := List.mem_map.1 hv
 refine ⟨by simp, fun x hx => ?_⟩
 obtain ⟨w, _, rfl⟩ := List.mem_map.1 hx
 exact (hB.row u hu).2.getD hp w
theorem val_expand (hB : RedL p n B) (hG : GenL p n (NulL p n Eq) B) {d : Nat → Int} (hd : NulL p n Eq d) : ∃ κ : Nat → Int, ∀ j, j < n → p ∣ d j - sm B.length fun i => κ i * en B i j := by
 obtain ⟨hm, lb, hr⟩ := hB
 exact ⟨fun i => d (lb i), fun j hj => hr.expand (v := d) (fun x hx => by
  have := hG.2.2 x hx d hd
  rwa [sm_congr (g := fun j => d j * x j) (fun j _ => Int.mul_comm _ _)] at this) hj⟩
theorem end_lt (he : ∀ w, w ∈ ends → w < n) {q : Nat} (hq : q < ends.length) : ends.getD q 0 < n ∧ ends.getD q 0 ∈ ends := by
 have : ends.getD q 0 = ends[q] := by simp [List.getD, hq]
 rw [this]
 exact ⟨he _ (List.getElem_mem hq), List.getElem_mem hq⟩
theorem cmb_val (hG : GenL p n (NulL p n Eq) B) (k : List Int) : NulL p n Eq fun j => (cmbTo p n k B B.length).getD j 0 := by
 intro i hi
 have e1 : p ∣ (sm n fun j => en Eq i j * (cmbTo p n k B B.length).getD j 0) - sm n fun j => en Eq i j * sm B.length fun t => k.getD t 0 * en B t j := sm_dvd_sub fun j hj => by
  rw [← Int.mul_sub]
  exact dvd_r (cmb_en (fun v hv => (hG.1.row v hv).1) hj _ (Nat.le_refl _)) _
 have e2 : (sm n fun j => en Eq i j * sm B.length fun t => k.getD t 0 * en B t j) = sm B.length fun t => k.getD t 0 * sm n fun j => en Eq i j * en B t j := by
  rw [sm_congr (g := fun j => sm B.length fun t => k.getD t 0 * (en Eq i j * en B t j)) (fun j _ => by
   rw [← sm_mul]
   exact sm_congr fun t _ => by rw [Int.mul_left_comm]), sm_swap]
  exact sm_congr fun t _ => sm_mul _ _ _
 have e3 : p ∣ sm B.length fun t => k.getD t 0 * sm n fun j => en Eq i j * en B t j := sm_dvd fun t ht => dvd_r (hG.2.1 t ht i hi) _
 rw [e2] at e1
 have := Int.dvd_add e1 e3
 rwa [Int.sub_add_cancel] at this
theorem cmb_at (hB : Mat p B.length n B) (he : ∀ w, w ∈ ends → w < n) (k : List Int) {q : Nat} (hq : q < ends.length) : p ∣ (cmbTo p n k B B.length).getD (ends.getD q 0) 0 - sm B.length fun i => k.getD i 0 * en (B.map (atV ends)) i q := by
 have h := cmb_en (x := k) (fun v hv => (hB.row v hv).1) (end_lt he hq).1 B.length (Nat.le_refl _) (p := p)
 rwa [sm_congr (g := fun i => k.getD i 0 * en (B.map (atV ends)) i q) (fun i hi => by rw [row_at hi, at_get hq]; rfl)] at h
theorem free_mat (hp : 0 < p) (N : List (List Int)) : Mat p (N.map fun k => cmbTo p n k B B.length).length n (N.map fun k => cmbTo p n k B B.length) := by
 refine ⟨rfl, fun v hv => ?_⟩
 obtain ⟨k, _, rfl⟩ := List.mem_map.1 hv
 exact ⟨cmbTo_length _ _ _ _ _, cmbTo_res hp _ _ _ _⟩
theorem vec_nul {L : List (List Int)} {x : Nat → Int} : NulL p n L x ↔ ∀ v, v ∈ L → p ∣ sm n fun j => v.getD j 0 * x j := by
 unfold NulL Nul en
 constructor
 · intro h v hv
   obtain ⟨i, hi, rfl⟩ := List.getElem_of_mem hv
   have := h i hi
   rwa [getD_lt hi] at this
 · intro h i hi
   rw [getD_lt hi]
   exact h _ (List.getElem_mem hi)
theorem red_hom (hf : fieldB p = true) {F C : List (List Int)} (hF : Mat p F.length n F) (h : ∀ v, v ∈ F → NulL p n C fun j => v.getD j 0) : ∀ i, i < (redM p n F).length → NulL p n C (en (redM p n F) i) := by
 intro i hi c hc
 obtain ⟨_, h2, _⟩ := redM_spec hf hF
 have h3 : NulL p n F (en C c) := vec_nul.2 fun v hv => by
  have := h v hv c hc
  rwa [sm_congr (g := fun j => v.getD j 0 * en C c j) (fun j _ => Int.mul_comm _ _)] at this
 have := (h2 _).2 h3 i hi
 rwa [sm_congr (g := fun j => en C c j * en (redM p n F) i j) (fun j _ => Int.mul_comm _ _)] at this
theorem wire_first (hf : fieldB p = true) (hE : Mat p Eq.length n Eq) (hB : RedL p n B) (hG : GenL p n (NulL p n Eq) B) (he : ∀ w, w ∈ ends → w < n) (hX : X.length = ends.length) (hXr : Res p X) :
  fsM p n (eqsM (wvC n Eq ends) (List.replicate Eq.length 0 ++ X)) = wvS p n B ends X := by
 have hpb := fieldB_bounds hf
 have hC := wvC_mat (p := p) (ends := ends) (by omega) hE
 have hbl : (List.replicate Eq.length (0 : Int) ++ X).length = (wvC n Eq ends).length := by simp [wvC, hX]
 have hbr : Res p (List.replicate Eq.length (0 : Int) ++ X) := Res.append (Res.replicate (by omega) _) hXr
 have hE' := eqsM_mat hC hbl hbr (by omega)
 have hP := part_mat (ends := ends) (by omega : 0 < p) hB.1
 -- what a solution is
 have hsol : ∀ x : Nat → Int, SolE p n (eqsM (wvC n Eq ends) (List.replicate Eq.length 0 ++ X)) x ↔ NulL p n Eq x ∧ ∀ q, q < ends.length → p ∣ x (ends.getD q 0) - X.getD q 0 := fun x => by
  rw [sol_eqs hC hbl]
  constructor
  · intro h
    refine ⟨fun i hi => ?_, fun q hq => ?_⟩
    · have := h i (by simp [wvC]; omega)
      have e1 : ∀ j, en (wvC n Eq ends) i j = en Eq i j := fun j => by unfold en wvC; congr 1; simp only [List.getD_eq_getElem?_getD]; rw [List.getElem?_append_left hi]
      have e2 : (List.replicate Eq.length (0 : Int) ++ X).getD i 0 = 0 := by simp only [List.getD_eq_getElem?_getD]; rw [List.getElem?_append_left (by simpa using hi)]; simp [hi]
      rw [sm_congr (g := fun j => en Eq i j * x j) (fun j _ => by rw [e1]), e2, Int.sub_zero] at this
      exact this
    · have := h (Eq.length + q) (by simp [wvC]; omega)
      have e1 : ∀ j, en (wvC n Eq ends) (Eq.length + q) j = (unitV n (ends.getD q 0)).getD j 0 := fun j => by
       unfold en wvC; congr 1
       simp only [List.getD_eq_getElem?_getD]
       rw [List.getElem?_append_right (by omega), Nat.add_sub_cancel_left, List.getElem?_map, List.getElem?_eq_getElem hq]; rfl
      have e2 : (List.replicate Eq.length (0 : Int) ++ X).getD (Eq.length + q) 0 = X.getD q 0 := by
       simp only [List.getD_eq_getElem?_getD]
       rw [List.getElem?_append_right (by simp), List.length_replicate, Nat.add_sub_cancel_left]
      rw [sm_congr (g := fun j => (unitV n (ends.getD q 0)).getD j 0 * x j) (fun j _ => by rw [e1]), e2, unit_dot (end_lt he hq).1] at this
      exact this
  · rintro ⟨h1, h2⟩ i hi
    by_cases hie : i < Eq.length
    · have e1 : ∀ j, en (wvC n Eq ends) i j = en Eq i j := fun j => by unfold en wvC; congr 1; simp only [List.getD_eq_getElem?_getD]; rw [List.getElem?_append_left hie]
      have e2 : (List.replicate Eq.length (0 : Int) ++ X).getD i 0 = 0 := by simp only [List.getD_eq_getElem?_getD]; rw [List.getElem?_append_left (by simpa using hie)]; simp [hie]
      rw [sm_congr (g := fun j => en Eq i j * x j) (fun j _ => by rw [e1]), e2, Int.sub_zero]
      exact h1 i hie
    · obtain ⟨q, rfl⟩ : ∃ q, i = Eq.length + q := ⟨i - Eq.length, by omega⟩
      have hq : q < ends.length := by simp [wvC] at hi; omega
      have e1 : ∀ j, en (wvC n Eq ends) (Eq.length + q) j = (unitV n (ends.getD q 0)).getD j 0 := fun j => by
       unfold en wvC; congr 1
       simp only [List.getD_eq_getElem?_getD]
       rw [List.getElem?_append_right (by omega), Nat.add_sub_cancel_left, List.getElem?_map, List.getElem?_eq_getElem hq]; rfl
      have e2 : (List.replicate Eq.length (0 : Int) ++ X).getD (Eq.length + q) 0 = X.getD q 0 := by
       simp only [List.getD_eq_getElem?_getD]
       rw [List.getElem?_append_right (by simp), List.length_replicate, Nat.add_sub_cancel_left]
      rw [sm_congr (g := fun j => (unitV n (ends.getD q 0)).getD j 0 * x j) (fun j _ => by rw [e1]), e2, unit_dot (end_lt he hq).1]
      exact h2 q hq
 obtain ⟨g1, g2, g3⟩ := slv_ok hf hP hX hXr
 unfold wvS
 cases hc : (slvM p B.length ends.length (B.map (atV ends)) X).2
 · rw [if_neg (by simp)]
   refine fs_no hf hE' fun x hx => ?_
   obtain ⟨h1, h2⟩ := (hsol x).1 hx
   obtain ⟨κ, hκ⟩ := val_expand hB hG h1
   have := slv_all hf hP hX hXr κ fun q hq => by
    have h3 := hκ _ (end_lt he hq).1
    rw [sm_congr (g := fun i => κ i * en (B.map (atV ends)) i q) (fun i hi => by rw [row_at hi, at_get hq]; rfl)] at h3
    have h4 := Int.dvd_sub (h2 q hq) h3
    have e8 : ∀ a b c : Int, a - b - (a - c) = c - b := by intros; omega
    rwa [e8] at h4
   rw [hc] at this
   cases this
 · rw [if_pos rfl]
   obtain ⟨N, hN⟩ : ∃ N, N = nullM p B.length (transM (B.map (atV ends)) ends.length) := ⟨_, rfl⟩
   have hT := transM_mat (by omega : 0 < p) hP
   have hTl : (transM (B.map (atV ends)) ends.length).length = ends.length := hT.len
   have hNg : GenL p B.length (NulL p B.length (transM (B.map (atV ends)) ends.length)) N := by rw [hN]; exact nullM_genL hf (by rw [hTl]; exact hT)
   have hFm := free_mat (p := p) (n := n) (B := B) (by omega) N
   have hFs := redM_spec hf hFm
   have hhom : ∀ d : Nat → Int, HomE p n (eqsM (wvC n Eq ends) (List.replicate Eq.length 0 ++ X)) d ↔ NulL p n Eq d ∧ ∀ w, w ∈ ends → p ∣ d w := fun d => by rw [hom_eqs hC hbl, wvC_nul he]
   -- the free rows are valuations with zeros at the interface
   have hfree : ∀ v, v ∈ (N.map fun k => cmbTo p n k B B.length) → NulL p n (wvC n Eq ends) fun j => v.getD j 0 := fun v hv => by
    obtain ⟨k, hk, rfl⟩ := List.mem_map.1 hv
    refine (wvC_nul he _).2 ⟨cmb_val hG k, fun w hw => ?_⟩
    obtain ⟨q, hq, rfl⟩ := List.getElem_of_mem hw
    have h1 := cmb_at hB.1 he k hq
    have e0 : ends.getD q 0 = ends[q] := by simp [List.getD, hq]
    rw [e0] at h1
    have h2 : p ∣ sm B.length fun i => k.getD i 0 * en (B.map (atV ends)) i q := by
     obtain ⟨t, ht, rfl⟩ := List.getElem_of_mem hk
     have h3 := hNg.2.1 t ht q (by rw [hTl]; exact hq)
     rw [sm_congr (g := fun i => (N[t]).getD i 0 * en (B.map (atV ends)) i q) (fun i hi => by
      have e1 := transM_en (L := B.map (atV ends)) (n := ends.length) hq (show i < (B.map (atV ends)).length by simpa using hi)
      have e2 : en N t i = (N[t]).getD i 0 := by unfold en; rw [getD_lt ht]
      rw [e1, e2, Int.mul_comm])] at h3
     exact h3
    have := Int.dvd_add h1 h2
    rwa [Int.sub_add_cancel] at this
   have hy := (hsol fun j => (cmbTo p n (slvM p B.length ends.length (B.map (atV ends)) X).1 B B.length).getD j 0).2 ⟨cmb_val hG _, fun q hq => by
    have h1 := cmb_at hB.1 he (slvM p B.length ends.length (B.map (atV ends)) X).1 hq
    have h2 := g3 hc q hq
    have := Int.dvd_add h1 h2
    have e8 : ∀ a b c : Int, a - b + (b - c) = a - c := by intros; omega
    rwa [e8] at this⟩
   unfold wvK
   rw [← hN]
   refine first_eq hf hE' hFs.1 (fun i hi => (hhom _).2 ((wvC_nul he _).1 (red_hom hf hFm hfree i hi))) (fun d hd x hx => ?_) (cmbTo_length _ _ _ _ _) (cmbTo_res (by omega) _ _ _ _) hy
   obtain ⟨hd1, hd2⟩ := (hhom d).1 hd
   obtain ⟨κ, hκ⟩ := val_expand hB hG hd1
   have hxF := (hFs.2.1 x).1 hx
   -- κ has zeros at the interface
   have hκN : NulL p B.length (transM (B.map (atV ends)) ends.length) κ := fun q hq => by
    rw [hTl] at hq
    have h1 := hκ _ (end_lt he hq).1
    have h2 := Int.dvd_sub (hd2 _ (end_lt he hq).2) h1
    rw [Int.sub_sub_self, sm_congr (g := fun i => en (transM (B.map (atV ends)) ends.length) q i * κ i) (fun i hi => by
     have e1 := transM_en (L := B.map (atV ends)) (n := ends.length) hq (show i < (B.map (atV ends)).length by simpa using hi)
     rw [e1, row_at hi, at_get hq, Int.mul_comm]; rfl)] at h2
    exact h2
   have hz := hNg.2.2 (fun i => sm n fun j => x j * en B i j) (fun t ht => by
    have h1 := vec_nul.1 hxF (cmbTo p n (N[t]) B B.length) (List.mem_map.2 ⟨_, List.getElem_mem ht, rfl⟩)
    have e1 : p ∣ (sm n fun j => (cmbTo p n (N[t]) B B.length).getD j 0 * x j) - sm n fun j => (sm B.length fun i => (N[t]).getD i 0 * en B i j) * x j := sm_dvd_sub fun j hj => by
     rw [← Int.sub_mul]
     exact dvd_l (cmb_en (fun v hv => (hB.1.row v hv).1) hj _ (Nat.le_refl _)) _
    have e2 : (sm n fun j => (sm B.length fun i => (N[t]).getD i 0 * en B i j) * x j) = sm B.length fun i => en N t i * sm n fun j => x j * en B i j := by
     rw [sm_congr (g := fun j => sm B.length fun i => (N[t]).getD i 0 * (x j * en B i j)) (fun j _ => by
      rw [Int.mul_comm, ← sm_mul]
      exact sm_congr fun i _ => by rw [Int.mul_left_comm]), sm_swap]
     refine sm_congr fun i _ => ?_
     have e3 : en N t i = (N[t]).getD i 0 := by unfold en; rw [getD_lt ht]
     rw [e3, sm_mul]
    rw [e2] at e1
    have := Int.dvd_sub h1 e1
    rwa [Int.sub_sub_self] at this) κ hκN
   -- the product
   have e1 : p ∣ (sm n fun j => x j * d j) - sm n fun j => x j * sm B.length fun i => κ i * en B i j := sm_dvd_sub fun j hj => by
    rw [← Int.mul_sub]
    exact dvd_r (hκ j hj) _
   have e2 : (sm n fun j => x j * sm B.length fun i => κ i * en B i j) = sm B.length fun i => (sm n fun j => x j * en B i j) * κ i := by
    rw [sm_congr (g := fun j => sm B.length fun i => κ i * (x j * en B i j)) (fun j _ => by
     rw [← sm_mul]
     exact sm_congr fun i _ => by rw [Int.mul_left_comm]), sm_swap]
    exact sm_congr fun i _ => by rw [sm_mul, Int.mul_comm]
   rw [e2] at e1
   have := Int.dvd_add e1 hz
   rwa [Int.sub_add_cancel] at this
end
open Go.RowKit
theorem nul0 {p : Int} {n : Nat} {x : Nat → Int} : NulL p n [] x ↔ True := ⟨fun _ => trivial, fun _ i hi => by simp at hi⟩
theorem nul1 {p : Int} {n : Nat} {a : List Int} {x : Nat → Int} : NulL p n [a] x ↔ p ∣ sm n fun j => a.getD j 0 * x j :=
 ⟨fun h => h 0 (by simp), fun h i hi => by
  obtain rfl : i = 0 := by simpa using hi
  exact h⟩
theorem nul2 {p : Int} {n : Nat} {a b : List Int} {x : Nat → Int} : NulL p n [a, b] x ↔ (p ∣ sm n fun j => a.getD j 0 * x j) ∧ p ∣ sm n fun j => b.getD j 0 * x j :=
 ⟨fun h => ⟨h 0 (by simp), h 1 (by simp)⟩, fun h i hi => by
  rcases i with _ | _ | i
  · exact h.1
  · exact h.2
  · exact absurd hi (by simp)⟩
theorem genL_of {p : Int} {n : Nat} {E K : List (List Int)} (hm : ∀ v, v ∈ K → v.length = n ∧ Res p v) (h1 : ∀ v, v ∈ K → NulL p n E fun j => v.getD j 0) (h2 : ∀ x, NulL p n K x → ∀ y, NulL p n E y → p ∣ sm n fun j => x j * y j) : GenL p n (NulL p n E) K :=
 ⟨⟨rfl, hm⟩, fun k hk => by
   have : K.getD k [] = K[k] := by simp [List.getD, hk]
   have h := h1 _ (List.getElem_mem hk)
   rw [← this] at h; exact h, h2⟩
def leafEq (p k v : Int) : List (List Int) :=
 if k = 3 then [[p - 1, 1, 0], [p - 1, 0, 1]] else if k = 5 then [[p - 1, p - 1, 1]] else if k = 6 then [[1]] else if k = 7 then [[(-v) % p, 1]]
 else if k = 9 then [[1, 0, p - 1], [0, 1, p - 1]] else if k = 11 then [[1, p - 1, p - 1]] else if k = 12 then [[1]] else if k = 13 then [[1, (-v) % p]] else []
def leafRows (k v : Int) : List (List Int) :=
 if k = 3 ∨ k = 9 then [[1, 1, 1]] else if k = 4 ∨ k = 10 then [[1]] else if k = 5 then [[1, 0, 1], [0, 1, 1]] else if k = 7 then [[1, v]]
 else if k = 11 then [[1, 1, 0], [1, 0, 1]] else if k = 13 then [[v, 1]] else []
def kdN (k : Int) : Nat := (kindTy k).1.toNat + (kindTy k).2.toNat
def genB (k : Int) : Prop := k = 3 ∨ k = 4 ∨ k = 5 ∨ k = 6 ∨ k = 7 ∨ k = 9 ∨ k = 10 ∨ k = 11 ∨ k = 12 ∨ k = 13
theorem leaf_gen {p k v : Int} (hp : 2 ≤ p) (hk : genB k) (hv : 0 ≤ v ∧ v < p) : GenL p (kdN k) (NulL p (kdN k) (leafEq p k v)) (leafRows k v) := by
 obtain ⟨q, hq⟩ : ∃ q, (-v) % p = -v + p * q := ⟨-((-v) / p), by have := Int.emod_add_mul_ediv (-v) p; rw [Int.mul_neg]; omega⟩
 rcases hk with rfl | rfl | rfl | rfl | rfl | rfl | rfl | rfl | rfl | rfl
 · refine genL_of (K := [[1, 1, 1]]) (E := [[p - 1, 1, 0], [p - 1, 0, 1]]) (n := 3) (fun u hu => ?_) (fun u hu => ?_) fun x hx y hy => ?_
   · simp only [List.mem_cons, List.not_mem_nil, or_false] at hu
     subst hu
     exact ⟨rfl, fun a ha => by simp at ha; subst ha; omega⟩
   · simp only [List.mem_cons, List.not_mem_nil, or_false] at hu
     subst hu
     rw [nul2]; simp [sm]
   · rw [nul1] at hx
     rw [nul2] at hy
     simp [sm] at hx hy ⊢
     obtain ⟨a, ha⟩ := hx
     obtain ⟨⟨b, hb⟩, c, hc⟩ := hy
     exact ⟨a * y 0 + x 1 * (b - y 0) + x 2 * (c - y 0), by grind⟩
 · refine genL_of (K := [[1]]) (E := []) (n := 1) (fun u hu => ?_) (fun u hu => ?_) fun x hx y hy => ?_
   · simp only [List.mem_cons, List.not_mem_nil, or_false] at hu
     subst hu
     exact ⟨rfl, fun a ha => by simp at ha; subst ha; omega⟩
   · rw [nul0]; trivial
   · rw [nul1] at hx
     simp [sm] at hx ⊢
     obtain ⟨a, ha⟩ := hx
     exact ⟨a * y 0, by grind⟩
 · refine genL_of (K := [[1, 0, 1], [0, 1, 1]]) (E := [[p - 1, p - 1, 1]]) (n := 3) (fun u hu => ?_) (fun u hu => ?_) fun x hx y hy => ?_
   · simp only [List.mem_cons, List.not_mem_nil, or_false] at hu
     rcases hu with rfl | rfl <;> exact ⟨rfl, fun a ha => by simp at ha; omega⟩
   · simp only [List.mem_cons, List.not_mem_nil, or_false] at hu
     rw [nul1]; rcases hu with rfl | rfl <;> simp [sm]
   · rw [nul2] at hx
     rw [nul1] at hy
     simp [sm] at hx hy ⊢
     obtain ⟨c, hc⟩ := hy
     obtain ⟨⟨a, ha⟩, b, hb⟩ := hx
     exact ⟨a * y 0 + b * y 1 + x 2 * (c - y 0 - y 1), by grind⟩
 · refine genL_of (K := []) (E := [[1]]) (n := 1) (fun u hu => by cases hu) (fun u hu => by cases hu) fun x hx y hy => ?_
   rw [nul1] at hy
   simp [sm] at hy ⊢
   obtain ⟨c, hc⟩ := hy
   exact ⟨x 0 * c, by grind⟩
 · refine genL_of (K := [[1, v]]) (E := [[(-v) % p, 1]]) (n := 2) (fun u hu => ?_) (fun u hu => ?_) fun x hx y hy => ?_
   · simp only [List.mem_cons, List.not_mem_nil, or_false] at hu
     subst hu
     exact ⟨rfl, fun a ha => by simp at ha; omega⟩
   · simp only [List.mem_cons, List.not_mem_nil, or_false] at hu
     subst hu
     rw [nul1]; simp [sm]
     exact ⟨q, by omega⟩
   · rw [nul1] at hx hy
     simp [sm] at hx hy ⊢
     obtain ⟨c, hc⟩ := hy
     obtain ⟨a, ha⟩ := hx
     exact ⟨a * y 0 + x 1 * (c - q * y 0), by grind⟩
 · refine genL_of (K := [[1, 1, 1]]) (E := [[1, 0, p - 1], [0, 1, p - 1]]) (n := 3) (fun u hu => ?_) (fun u hu => ?_) fun x hx y hy => ?_
   · simp only [List.mem_cons, List.not_mem_nil, or_false] at hu
     subst hu
     exact ⟨rfl, fun a ha => by simp at ha; subst ha; omega⟩
   · simp only [List.mem_cons, List.not_mem_nil, or_false] at hu
     subst hu
     rw [nul2]
     refine ⟨⟨1, ?_⟩, ⟨1, ?_⟩⟩ <;> simp [sm] <;> omega
   · rw [nul1] at hx
     rw [nul2] at hy
     simp [sm] at hx hy ⊢
     obtain ⟨a, ha⟩ := hx
     obtain ⟨⟨b, hb⟩, c, hc⟩ := hy
     exact ⟨a * y 2 + x 0 * (b - y 2) + x 1 * (c - y 2), by grind⟩
 · refine genL_of (K := [[1]]) (E := []) (n := 1) (fun u hu => ?_) (fun u hu => ?_) fun x hx y hy => ?_
   · simp only [List.mem_cons, List.not_mem_nil, or_false] at hu
     subst hu
     exact ⟨rfl, fun a ha => by simp at ha; subst ha; omega⟩
   · rw [nul0]; trivial
   · rw [nul1] at hx
     simp [sm] at hx ⊢
     obtain ⟨a, ha⟩ := hx
     exact ⟨a * y 0, by grind⟩
 · refine genL_of (K := [[1, 1, 0], [1, 0, 1]]) (E := [[1, p - 1, p - 1]]) (n := 3) (fun u hu => ?_) (fun u hu => ?_) fun x hx y hy => ?_
   · simp only [List.mem_cons, List.not_mem_nil, or_false] at hu
     rcases hu with rfl | rfl <;> exact ⟨rfl, fun a ha => by simp at ha; omega⟩
   · simp only [List.mem_cons, List.not_mem_nil, or_false] at hu
     rw [nul1]; rcases hu with rfl | rfl <;> simp [sm]
     · exact ⟨1, by omega⟩
     · exact ⟨1, by omega⟩
   · rw [nul2] at hx
     rw [nul1] at hy
     simp [sm] at hx hy ⊢
     obtain ⟨c, hc⟩ := hy
     obtain ⟨⟨a, ha⟩, b, hb⟩ := hx
     exact ⟨a * y 1 + b * y 2 + x 0 * (c - y 1 - y 2), by grind⟩
 · refine genL_of (K := []) (E := [[1]]) (n := 1) (fun u hu => by cases hu) (fun u hu => by cases hu) fun x hx y hy => ?_
   rw [nul1] at hy
   simp [sm] at hy ⊢
   obtain ⟨c, hc⟩ := hy
   exact ⟨x 0 * c, by grind⟩
 · refine genL_of (K := [[v, 1]]) (E := [[1, (-v) % p]]) (n := 2) (fun u hu => ?_) (fun u hu => ?_) fun x hx y hy => ?_
   · simp only [List.mem_cons, List.not_mem_nil, or_false] at hu
     subst hu
     exact ⟨rfl, fun a ha => by simp at ha; omega⟩
   · simp only [List.mem_cons, List.not_mem_nil, or_false] at hu
     subst hu
     rw [nul1]; simp [sm]
     exact ⟨q, by omega⟩
   · rw [nul1] at hx hy
     simp [sm] at hx hy ⊢
     obtain ⟨c, hc⟩ := hy
     obtain ⟨a, ha⟩ := hx
     exact ⟨a * y 1 + x 0 * (c - q * y 1), by grind⟩
theorem leafEq_mat {p k v : Int} (hp : 2 ≤ p) (hk : genB k) : Mat p (leafEq p k v).length (kdN k) (leafEq p k v) := by
 have hq : 0 ≤ (-v) % p ∧ (-v) % p < p := ⟨Int.emod_nonneg _ (by omega), Int.emod_lt_of_pos _ (by omega)⟩
 refine ⟨rfl, fun u hu => ?_⟩
 rcases hk with rfl | rfl | rfl | rfl | rfl | rfl | rfl | rfl | rfl | rfl
 all_goals
  simp only [leafEq, if_pos, reduceIte, Int.reduceEq, List.mem_cons, List.not_mem_nil, or_false] at hu
 · rcases hu with rfl | rfl <;> exact ⟨rfl, fun a ha => by simp at ha; omega⟩
 · subst hu; exact ⟨rfl, fun a ha => by simp at ha; omega⟩
 · subst hu; exact ⟨rfl, fun a ha => by simp at ha; omega⟩
 · subst hu; exact ⟨rfl, fun a ha => by simp at ha; omega⟩
 · rcases hu with rfl | rfl <;> exact ⟨rfl, fun a ha => by simp at ha; omega⟩
 · subst hu; exact ⟨rfl, fun a ha => by simp at ha; omega⟩
 · subst hu; exact ⟨rfl, fun a ha => by simp at ha; omega⟩
 · subst hu; exact ⟨rfl, fun a ha => by simp at ha; omega⟩
theorem redM_self {p : Int} (hp : fieldB p = true) {n : Nat} {R : List (List Int)} (h : RedL p n R) : redM p n R = R := by
 have hpb := fieldB_bounds hp
 have h2 := redM_spec hp h.1
 exact RedL.unique (by omega) h2.1 h h2.2.1
theorem redM_idem {p : Int} (hp : fieldB p = true) {n : Nat} {L : List (List Int)} (hm : Mat p L.length n L) : redM p n (redM p n L) = redM p n L := redM_self hp (redM_spec hp hm).1
theorem null_of_gen {p : Int} (hp : fieldB p = true) {n : Nat} {E K : List (List Int)} (hE : Mat p E.length n E) (hK : GenL p n (NulL p n E) K) : redM p n K = nullM p n E := by
 have hpb := fieldB_bounds hp
 have hr := redM_spec hp hE
 unfold nullM
 exact gen_unique hp hK ((nvecs_gen (by omega) hr.1).congr hr.2.1)
theorem leaf_null {p k v : Int} (hp : fieldB p = true) (hk : genB k) (hv : 0 ≤ v ∧ v < p) : redM p (kdN k) (leafRows k v) = nullM p (kdN k) (leafEq p k v) := by
 have hpb := fieldB_bounds hp
 exact null_of_gen hp (leafEq_mat (by omega) hk) (leaf_gen (by omega) hk hv)
theorem leafRows_mat {p k v : Int} (hp : 2 ≤ p) (hk : genB k) (hv : 0 ≤ v ∧ v < p) : Mat p (leafRows k v).length (kdN k) (leafRows k v) := (leaf_gen hp hk hv).1
theorem RelOk.mk_red {p a b : Int} {n : Nat} {L : List (List Int)} (hf : fieldB p = true) (ha : 0 ≤ a) (hb : 0 ≤ b) (hn : a + b = (n : Int)) (h24 : n ≤ 24) (hm : Mat p L.length n L) : RelOk p (a, b, redM p n L) := by
 have h1 := redM_spec hf hm
 have h2 := red_len h1.1
 have e : (a + b).toNat = n := by omega
 exact ⟨ha, hb, by show a + b ≤ 24; omega, hf, by show ((redM p n L).length : Int) ≤ a + b; omega, by show Mat p _ (a + b).toNat _; rw [e]; exact h1.1.1, by show redM p (a + b).toNat (redM p n L) = redM p n L; rw [e]; exact redM_idem hf hm⟩
theorem kindTy_nn (k : Int) : 0 ≤ (kindTy k).1 ∧ 0 ≤ (kindTy k).2 ∧ (kindTy k).1 + (kindTy k).2 = (kdN k : Int) ∧ kdN k ≤ 4 := by
 unfold kdN kindTy
 repeat' split
 all_goals simp
def idRows (n : Nat) : List (List Int) := (List.range n).map fun i => unitV n i ++ unitV n i
def swapRows : List (List Int) := [[1, 0, 0, 1], [0, 1, 1, 0]]
def leafV (p : Int) (n : Nd) : Sys :=
 if n.1 = 1 then (n.2.1, n.2.1, idRows n.2.1.toNat) else if n.1 = 2 then (2, 2, redM p 4 swapRows)
 else ((kindTy n.1).1, (kindTy n.1).2, nullM p (kdN n.1) (leafEq p n.1 n.2.1))
def den (p : Int) : Tr → Sys
 | .leaf n => leafV p n
 | .node q a b => if q then tenV p (den p a) (den p b) else cmpV p (den p a) (den p b)
@[simp] theorem unitV_length (n i : Nat) : (unitV n i).length = n := by simp [unitV]
theorem idRows_len (n : Nat) : (idRows n).length = n := by simp [idRows]
theorem swapRows_mat {p : Int} (hp : 2 ≤ p) : Mat p 2 4 swapRows := ⟨rfl, fun u hu => by
 simp only [swapRows, List.mem_cons, List.not_mem_nil, or_false] at hu
 rcases hu with rfl | rfl <;> exact ⟨rfl, fun a ha => by simp at ha; omega⟩⟩
theorem gen_of_leaf {n : Nd} (hl : leafB n = true) (h1 : n.1 ≠ 1) (h2 : n.1 ≠ 2) (h8 : n.1 ≠ 8) (h14 : n.1 ≠ 14) : genB n.1 := by
 unfold leafB at hl
 simp only [decide_eq_true_eq] at hl
 unfold genB
 omega
def okLf (p : Int) (n : Nd) : Prop := leafB n = true ∧ n.1 ≠ 8 ∧ n.1 ≠ 14 ∧ ((n.1 = 7 ∨ n.1 = 13) → n.2.1 < p)
theorem okLf.val {p : Int} {n : Nd} (hp : 2 ≤ p) (h : okLf p n) (h1 : n.1 ≠ 1) : 0 ≤ n.2.1 ∧ n.2.1 < p := by
 obtain ⟨hl, _, _, h4⟩ := h
 unfold leafB at hl
 simp only [decide_eq_true_eq] at hl
 omega
theorem base_red {p k v : Int} (hp : 2 ≤ p) (hk : k = 3 ∨ k = 4 ∨ k = 5 ∨ k = 6 ∨ k = 7) (hv : 0 ≤ v ∧ v < p) : RedL p (kdN k) (leafRows k v) := by
 have hg : genB k := by unfold genB; omega
 refine ⟨leafRows_mat hp hg hv, id, ?_⟩
 rcases hk with rfl | rfl | rfl | rfl | rfl
 · have e : ∀ i, i < 1 → i = 0 := fun i h => by omega
   refine ⟨fun i hi => ?_, fun i hi => ?_, fun i k hi hk hne => ?_, fun i j hi hj => ?_, fun i k h hk => h, fun i j hi hj => ?_⟩
   · obtain rfl := e i hi; decide
   · obtain rfl := e i hi; rfl
   · have := e i hi; have := e k hk; omega
   · have := e i hi; have : j < i := hj; omega
   · obtain rfl := e i hi
     have : j = 0 ∨ j = 1 ∨ j = 2 := by have : j < 3 := hj; omega
     rcases this with rfl | rfl | rfl <;> exact ⟨by show (0 : Int) ≤ 1; omega, by show (1 : Int) < p; omega⟩
 · have e : ∀ i, i < 1 → i = 0 := fun i h => by omega
   refine ⟨fun i hi => ?_, fun i hi => ?_, fun i k hi hk hne => ?_, fun i j hi hj => ?_, fun i k h hk => h, fun i j hi hj => ?_⟩
   · obtain rfl := e i hi; decide
   · obtain rfl := e i hi; rfl
   · have := e i hi; have := e k hk; omega
   · have := e i hi; have : j < i := hj; omega
   · obtain rfl := e i hi
     obtain rfl : j = 0 := by have : j < 1 := hj; omega
     exact ⟨by show (0 : Int) ≤ 1; omega, by show (1 : Int) < p; omega⟩
 · have e : ∀ i, i < 2 → i = 0 ∨ i = 1 := fun i h => by omega
   refine ⟨fun i hi => ?_, fun i hi => ?_, fun i k hi hk hne => ?_, fun i j hi hj => ?_, fun i k h hk => h, fun i j hi hj => ?_⟩
   · rcases e i hi with rfl | rfl <;> decide
   · rcases e i hi with rfl | rfl <;> rfl
   · rcases e i hi with rfl | rfl <;> rcases e k hk with rfl | rfl <;> first | rfl | omega
   · have hj' : j < i := hj
     rcases e i hi with rfl | rfl
     · omega
     · obtain rfl : j = 0 := by omega
       rfl
   · have : j = 0 ∨ j = 1 ∨ j = 2 := by have : j < 3 := hj; omega
     rcases e i hi with rfl | rfl <;> rcases this with rfl | rfl | rfl <;> first | exact ⟨by show (0 : Int) ≤ 1; omega, by show (1 : Int) < p; omega⟩ | exact ⟨by show (0 : Int) ≤ 0; omega, by show (0 : Int) < p; omega⟩
 · refine ⟨fun i hi => ?_, fun i hi => ?_, fun i k hi hk hne => ?_, fun i j hi hj => ?_, fun i k h hk => h, fun i j hi hj => ?_⟩ <;> exact absurd hi (Nat.not_lt_zero i)
 · have e : ∀ i, i < 1 → i = 0 := fun i h => by omega
   refine ⟨fun i hi => ?_, fun i hi => ?_, fun i k hi hk hne => ?_, fun i j hi hj => ?_, fun i k h hk => h, fun i j hi hj => ?_⟩
   · obtain rfl := e i hi; decide
   · obtain rfl := e i hi; rfl
   · have := e i hi; have := e k hk; omega
   · have := e i hi; have : j < i := hj; omega
   · obtain rfl := e i hi
     have : j = 0 ∨ j = 1 := by have : j < 2 := hj; omega
     rcases this with rfl | rfl
     · exact ⟨by show (0 : Int) ≤ 1; omega, by show (1 : Int) < p; omega⟩
     · exact hv
theorem conv_leaf {p k v : Int} (hf : fieldB p = true) (hk : k = 9 ∨ k = 10 ∨ k = 11 ∨ k = 12 ∨ k = 13) (hv : 0 ≤ v ∧ v < p) :
  convM p ((kindTy (k - 6)).1, (kindTy (k - 6)).2, redM p (kdN (k - 6)) (leafRows (k - 6) v)) = ((kindTy k).1, (kindTy k).2, nullM p (kdN k) (leafEq p k v)) := by
 have hpb := fieldB_bounds hf
 have hg : genB k := by unfold genB; omega
 rw [redM_self hf (base_red (by omega) (by omega) hv), ← leaf_null hf hg hv]
 rcases hk with rfl | rfl | rfl | rfl | rfl <;> rfl
end Go.Proofs.YtjompikdkhhlgaaGreatDoor
