/-
  What the texts above it need, part 2.
-/
import Derived.Test.YtjompikdkhhlgaaDoorKHiddenValues1
import Derived.StillTailTactics
import Derived.Deep.DeepCutAuto
import Derived.BigQuiet
import Derived.Deep.WholeRow
import Derived.Stop.BytesEq
import Derived.IntWalk
import Derived.StillTail
namespace Go.Proofs.YtjompikdkhhlgaaDoor
open Go.RowKit
theorem box1 {w : World} {B : Nat} {x : Value} {t : TypeId} (h : w.heap[B]? = some (.cells #[x] t)) : w.cell? ⟨B, 0, none⟩ = some x := by simp [World.cell?, h]
theorem pair_of {α β γ : Type} {x : α × β × γ} {a : α} {b : β} {c : γ} (h1 : x.1 = a) (h2 : x.2.1 = b) (h3 : x.2.2 = c) : x = (a, b, c) := by
 obtain ⟨x1, x2, x3⟩ := x; subst h1 h2 h3; rfl
set_option maxRecDepth 100000 in
set_option maxHeartbeats 4000000 in
theorem reduction_any (p : Int) (n m n2 : Nat) (A : Option Addr) (cap : Nat) (L : List (List Int)) (fp : List Nat) (A' : Option Addr) (cap' : Nat) (K : List (List Int)) (fp' : List Nat) (w : World) (hRL : RwF w A cap L fp) (hRK : RwF w A' cap' K fp') (hap : ∀ b, b ∈ fp → ¬ b ∈ fp')
  (hlf : LtL w.heap.size fp) (hlf' : LtL w.heap.size fp') (hp : fieldB p = true) (hmL : Mat p m n L) (hmK : Mat p m n2 K) (hm : m ≤ 1048576) (hn : n ≤ 1048576) (hn2 : n2 ≤ 1048576) :
  Calls Tryd.prog 86 #[.int .i64 p, .slice A m cap, .int .i64 n, .slice A' m cap'] w fun e w' => e = .returned (.int .i64 ((redTo p L K n).1 : Nat)) ∧ RwF w' A cap (redTo p L K n).2.1 fp ∧ RwF w' A' cap' (redTo p L K n).2.2 fp' ∧ Keeps (fun b => b ∈ fp ∨ b ∈ fp') w w' := by
 have hmf : ∀ (fn : Fn) (first cap : Array Value) (w : World), (Instr.makeFunc fn first cap).run Tryd.prog w = .ok (.func fn first cap) w := fun _ _ _ _ => rfl
 have hpb := fieldB_bounds hp
 have HP := lH hp; have HML := lH hmL; have HMK := lH hmK
 obtain ⟨W, hW⟩ : ∃ W, W = ((w.alloc (.cells #[.int .i64 p] 3)).alloc (.cells #[.slice A m cap] 22)).alloc (.cells #[.slice A' m cap'] 22) := ⟨_, rfl⟩
 have hBW : Below w.heap.size w W := by rw [hW]; exact (((Below.refl _ _).alloc (Nat.le_refl _) _).alloc (by simp) _).alloc (by simp; omega) _
 have hCap : Cap W p w.heap.size (w.heap.size + 1) (w.heap.size + 1 + 1) A cap L fp A' cap' K fp' m := by
  refine ⟨?_, ?_, ?_, hRL.below hBW, hRK.below hBW, hap, ⟨fun h => absurd (hlf _ h) (by omega), fun h => absurd (hlf' _ h) (by omega)⟩, ⟨fun h => absurd (hlf _ h) (by omega), fun h => absurd (hlf' _ h) (by omega)⟩, ⟨fun h => absurd (hlf _ h) (by omega), fun h => absurd (hlf' _ h) (by omega)⟩⟩
  · rw [hW, World.cell?_alloc_lt _ _ _ (by simp; omega), World.cell?_alloc_lt _ _ _ (by simp)]
    exact box1 (heap_alloc_new w _)
  · rw [hW, World.cell?_alloc_lt _ _ _ (by simp)]
    have := heap_alloc_new (w.alloc (.cells #[.int .i64 p] 3)) (.cells #[.slice A m cap] 22)
    rw [World.size_alloc] at this
    exact box1 this
  · rw [hW]
    have := heap_alloc_new ((w.alloc (.cells #[.int .i64 p] 3)).alloc (.cells #[.slice A m cap] 22)) (.cells #[.slice A' m cap'] 22)
    rw [World.size_alloc, World.size_alloc] at this
    exact box1 this
 have hnf : ∀ wr : World, Keeps (fun b => b ∈ fp ∨ b ∈ fp') W wr → ¬ wr.heap.size ∈ fp := fun wr hk hh => by
  have := hlf _ hh; have := hk.size; have := hBW.size; omega
 have HNF := lH hnf; have HBW := lH hBW; have HCap := lH hCap; clear hRL hRK hap hlf hlf' hp hmL hmK hBW hCap hnf
 go_enter Tryd.func86, Tryd.ntmps86
 go_wp2_with (fail)
 rw [← hW]
 clear hW
 go_loopw [11, 9] (fun ci ri wr => ∃ (col R : Nat) (M K1 : List (List Int)), col ≤ n ∧ ci = .int .i64 col ∧ ri = .int .i64 R ∧ redTo p L K col = (R, M, K1) ∧ Mat p m n2 K1 ∧ Cap wr p w.heap.size (w.heap.size + 1) (w.heap.size + 1 + 1) A cap M fp A' cap' K1 fp' m ∧ Keeps (fun b => b ∈ fp ∨ b ∈ fp') W wr) (fun ci _ _ => n - (intOf ci).toNat)
 case atStart => exact ⟨0, 0, L, K, Nat.zero_le _, rfl, rfl, rfl, HMK.out, HCap.out, Keeps.refl _ _⟩
 case round =>
  obtain ⟨col, R, M, K1, hcol, rfl, rfl, hrt, hmK1, hC, hkp⟩ := hrel
  obtain ⟨hMm, hRm⟩ := redTo_mat HP.out HML.out K hcol
  rw [hrt] at hMm hRm
  have hMm : Mat p m n M := hMm
  have hRm : R ≤ m := hRm
  have HRT := lH hrt; have HMm := lH hMm; have HMl := lH hMm.len; have HMK1 := lH hmK1
  have d5 := hC.c5
  have HC := lH hC; have HKP := lH hkp; clear hrt hMm hC hkp hmK1 HCap
  by_cases hgo : col < n ∧ R < m
  case neg =>
   have hend : redTo p L K n = (R, M, K1) := by
    by_cases hc : col < n
    · have hs := redTo_stable (p := p) (L := L) (A := K) (c := col) (by rw [HRT.out]; show M.length ≤ R; rw [HMl.out]; omega) (n - col)
      rw [show col + (n - col) = n by omega] at hs
      rw [hs, HRT.out]
    · obtain rfl : n = col := by omega
      exact HRT.out
   have HE := lH hend; clear hend
   by_cases hc : col < n
   · have hRk : ¬ ((R : Int) < (m : Int)) := by omega
     go_wp2_with (fail)
     go_ret
     rw [HE.out]
     exact ⟨rfl, HC.out.rows, HC.out.also, (Keeps.of_below HBW.out _).trans HKP.out⟩
   · have hcI : ¬ ((col : Int) < (n : Int)) := by omega
     go_wp2_with (fail)
     go_ret
     rw [HE.out]
     exact ⟨rfl, HC.out.rows, HC.out.also, (Keeps.of_below HBW.out _).trans HKP.out⟩
  case pos =>
   obtain ⟨hcn, hRk⟩ := hgo
   have hcI : (col : Int) < (n : Int) := by omega
   have hRI : (R : Int) < (m : Int) := by omega
   go_wp2_with (fail)
   go_loop [12] (fun v => ∃ q : Nat, R ≤ q ∧ q ≤ m ∧ v = .int .i64 q ∧ pvFrom M col (m - q) q = pvFrom M col (m - R) R) (fun v => m - (intOf v).toNat)
   case atStart => exact ⟨R, Nat.le_refl _, by omega, rfl, rfl⟩
   case round =>
    obtain ⟨q, hRq, hqk, rfl, hpv⟩ := hrel
    have HPV := lH hpv; clear hpv
    by_cases hlt : q < m
    · obtain ⟨ad, B, d, hA', hcq, hfq, hIq, _⟩ := HC.out.rows.get (i := q) (by rw [HMl.out]; exact hlt)
      have hrl := (HMm.out.get hlt).1
      obtain ⟨bd, x, hB, hx, _, hcx, _⟩ := hIq.at_ (j := col) (by rw [hrl]; exact hcn)
      have hxe : x = en M q col := by unfold en; simp [List.getD] at hx ⊢; rw [hx]; rfl
      have hxb := HMm.out.en (by omega) hlt col
      rw [← hxe] at hxb
      rw [hrl] at hcq
      have HXE := lH hxe
      have hqI : (q : Int) < (m : Int) := by omega
      subst hA'
      subst hB
      by_cases hx0 : x = 0
      · subst hx0
        have hpn := pvFrom_eq hlt HXE.out.symm
        have HPN := lH hpn; clear hpn hxe hIq hrl hx hfq
        go_wp2_with (fail)
        go_round
        case rel => exact ⟨q + 1, by omega, by omega, by go_num, by rw [← HPN.out]; exact HPV.out⟩
        case measure => simp [intOf]; omega
      · have hx1 : (x == 0) = false := by rw [beq_eq_false_iff_ne]; exact hx0
        have hpn : pvFrom M col (m - R) R = q := by rw [← HPV.out]; exact pvFrom_hit hlt (by rw [← HXE.out]; exact hx0)
        have HPN := lH hpn
        have hX := stepX_any p R q m w.heap.size (w.heap.size + 1) (w.heap.size + 1 + 1) (some ad) cap M fp A' cap' K1 fp' wr HC.out HMl.out HMK1.out.len hRk hlt hm (HNF.out wr HKP.out)
        have HX := lH hX; clear hX hpn HPV hxe hIq hrl hx hfq
        go_wp2_with (fail)
        refine HX.out.mono ?_
        clear HX
        rintro e w1 ⟨rfl, hC1, hk1⟩
        obtain ⟨S, hS⟩ : ∃ S, S = swapL M R q := ⟨_, rfl⟩
        obtain ⟨S1, hS1⟩ : ∃ S1, S1 = swapL K1 R q := ⟨_, rfl⟩
        rw [← hS, ← hS1] at hC1
        have hSm : Mat p m n S := by rw [hS]; exact HMm.out.swap hRk hlt
        have hS1m : Mat p m n2 S1 := by rw [hS1]; exact HMK1.out.swap hRk hlt
        have hSx : en S R col = x := by
         rw [HXE.out, hS]; unfold en
         rw [swapL_get (by rw [HMl.out]; omega) (by rw [HMl.out]; omega)]
         by_cases e : R = q
         · rw [if_pos e, e]
         · rw [if_neg e, if_pos rfl]
        have hk01 := HKP.out.trans hk1
        obtain ⟨ad3, B3, c3, hA3, hc3, hf3, hI3, _⟩ := hC1.rows.get (i := R) (by rw [hSm.len]; omega)
        obtain rfl := Option.some.inj hA3
        have hl3 := (hSm.get (show R < m by omega)).1
        obtain ⟨b3, y, hB3, hy, _, hcy, _⟩ := hI3.at_ (j := col) (by rw [hl3]; exact hcn)
        have hyx : y = x := by rw [← hSx]; unfold en; simp [List.getD] at hy ⊢; rw [hy]; rfl
        subst hyx
        subst hB3
        rw [hl3] at hc3
        have hy1 : 1 ≤ y := by omega
        have hy2 : y < p := hxb.2
        have hinv := invM_spec HP.out hy1 hy2
        have e5 := hC1.c5
        have hD := stepD_any p y R m n n2 w.heap.size (w.heap.size + 1) (w.heap.size + 1 + 1) (some ad) cap S fp A' cap' S1 fp' w1 hC1 hSm hS1m hRk hm hn hn2 (by omega) (by omega) (by omega) hy2 (by have := hinv.2.1; omega) hinv.2.2 (HNF.out w1 hk01)
        have HD := lH hD; have HS := lH hS; have HS1 := lH hS1; have HSm := lH hSm; have HS1m := lH hS1m; have HK01 := lH hk01; clear hD hS hS1 hSm hS1m hSx hk01 hI3 hl3 hy hC1 hk1 hinv hcq hcx hf3
        go_wp2_with (fail)
        refine HD.out.mono ?_
        clear HD hc3 hcy e5
        rintro e w2 ⟨rfl, hC2, hk2⟩
        obtain ⟨iv, hiv⟩ : ∃ iv, iv = invM p y := ⟨_, rfl⟩
        obtain ⟨M2, hM2⟩ : ∃ M2, M2 = scaleL p R iv S := ⟨_, rfl⟩
        obtain ⟨K2, hK2⟩ : ∃ K2, K2 = scaleL p R iv S1 := ⟨_, rfl⟩
        rw [← hiv, ← hM2, ← hK2] at hC2
        have hm2 : Mat p m n M2 := by rw [hM2]; exact HSm.out.scale (by omega) hRk iv
        have hkm2 : Mat p m n2 K2 := by rw [hK2]; exact HS1m.out.scale (by omega) hRk iv
        have hk02 := HK01.out.trans hk2
        have e5 := hC2.c5
        have HC2 := lH hC2; have Hm2 := lH hm2; have Hkm2 := lH hkm2; have HIV := lH hiv; have HM2 := lH hM2; have HK2 := lH hK2; have HK02 := lH hk02; clear hiv hM2 hK2 hm2 hkm2 hk02 hC2 hk2
        go_wp2_with (fail)
        clear e5
        go_loopw [65] (fun i wr5 => ∃ g : Nat, g ≤ m ∧ i = .int .i64 g ∧ Cap wr5 p w.heap.size (w.heap.size + 1) (w.heap.size + 1 + 1) (some ad) cap (elimTo p R (fun i => en M2 i col) M2 g) fp A' cap' (elimTo p R (fun i => en M2 i col) K2 g) fp' m ∧ Keeps (fun b => b ∈ fp ∨ b ∈ fp') W wr5) (fun i _ => m - (intOf i).toNat)
        case atStart => exact ⟨0, Nat.zero_le _, rfl, by rw [elimTo_zero, elimTo_zero]; exact HC2.out, HK02.out⟩
        case round =>
         obtain ⟨g, hg, rfl, hCg, hkg⟩ := hrel
         have hEm := Hm2.out.elim (r := R) (q := g) (f := fun i => en M2 i col) (by omega)
         have hEk := Hkm2.out.elim (r := R) (q := g) (f := fun i => en M2 i col) (by omega)
         have e5 := hCg.c5
         have hml2 := Hm2.out.len
         have hkl2 := Hkm2.out.len
         by_cases hgk : g < m
         · have hgI : (g : Int) < (m : Int) := by omega
           by_cases hgR : g = R
           · have hb : ((g : Int) != (R : Int)) = false := by simp; omega
             have hsk := elimTo_skip (p := p) (L := M2) (f := fun i => en M2 i col) (.inl hgR)
             have hsk2 := elimTo_skip (p := p) (L := K2) (f := fun i => en M2 i col) (.inl hgR)
             have HR := lH (show Cap wr p w.heap.size (w.heap.size + 1) (w.heap.size + 1 + 1) (some ad) cap (elimTo p R (fun i => en M2 i col) M2 (g + 1)) fp A' cap' (elimTo p R (fun i => en M2 i col) K2 (g + 1)) fp' m by rw [hsk, hsk2]; exact hCg)
             have HGR := lH hgR; have HKG := lH hkg; clear hsk hsk2 hgR hEm hEk hml2 hkl2 hCg hkg
             go_wp2_with (fail)
             go_roundw
             case rel => exact ⟨g + 1, by omega, by go_num, HR.out, HKG.out⟩
             case measure => simp [intOf]; omega
           · have hb : ((g : Int) != (R : Int)) = true := by simp; omega
             obtain ⟨ad4, B4, c4, hA4, hc4, hf4, hI4, _⟩ := hCg.rows.get (i := g) (by rw [elimTo_length, hml2]; exact hgk)
             obtain rfl := Option.some.inj hA4
             rw [elimTo_at (by rw [hml2]; exact hgk)] at hc4 hI4
             have hgl := (Hm2.out.get hgk).1
             rw [hgl] at hc4
             obtain ⟨b4, x2, hB4, hx2, _, hcx2, _⟩ := hI4.at_ (j := col) (by rw [hgl]; exact hcn)
             have hx2e : x2 = en M2 g col := by unfold en; simp [List.getD] at hx2 ⊢; rw [hx2]; rfl
             have hx2b := Hm2.out.en (by omega) hgk col
             rw [← hx2e] at hx2b
             subst hB4
             by_cases hx20 : x2 = 0
             · subst hx20
               have hsk := elimTo_skip (p := p) (r := R) (q := g) (L := M2) (f := fun i => en M2 i col) (.inr hx2e.symm)
               have hsk2 := elimTo_skip (p := p) (r := R) (q := g) (L := K2) (f := fun i => en M2 i col) (.inr hx2e.symm)
               have HR := lH (show Cap wr p w.heap.size (w.heap.size + 1) (w.heap.size + 1 + 1) (some ad) cap (elimTo p R (fun i => en M2 i col) M2 (g + 1)) fp A' cap' (elimTo p R (fun i => en M2 i col) K2 (g + 1)) fp' m by rw [hsk, hsk2]; exact hCg)
               have HKG := lH hkg; clear hsk hsk2 hEm hEk hml2 hkl2 hCg hkg hI4 hx2 hx2e hgl hf4
               go_wp2_with (fail)
               go_roundw
               case rel => exact ⟨g + 1, by omega, by go_num, HR.out, HKG.out⟩
               case measure => simp [intOf]; omega
             · have hx21 : (x2 != 0) = true := by simp; exact hx20
               have hst := elimTo_step (p := p) (r := R) (q := g) (L := M2) (f := fun i => en M2 i col) (by rw [hml2]; exact hgk) hgR (by rw [← hx2e]; exact hx20)
               have hst2 := elimTo_step (p := p) (r := R) (q := g) (L := K2) (f := fun i => en M2 i col) (by rw [hkl2]; exact hgk) hgR (by rw [← hx2e]; exact hx20)
               have hSt := stepS_any p x2 g R m n n2 w.heap.size (w.heap.size + 1) (w.heap.size + 1 + 1) (some ad) cap _ fp A' cap' _ fp' wr hCg hEm hEk hgk hRk hgR hm hn hn2 (by omega) (by omega) hx2b.1 hx2b.2 (HNF.out wr hkg)
               rw [elimTo_at (by rw [hml2]; exact hgk), elimTo_piv (by rw [hml2]; exact hRk), elimTo_at (by rw [hkl2]; exact hgk), elimTo_piv (by rw [hkl2]; exact hRk)] at hSt
               rw [show -x2 = -(fun i => en M2 i col) g by rw [hx2e]] at hSt
               rw [← hst, ← hst2] at hSt
               have HSt := lH hSt; have HKG := lH hkg; clear hst hst2 hSt hEm hEk hml2 hkl2 hCg hkg hI4 hx2 hx2e hgl hf4 hgR
               go_wp2_with (fail)
               refine HSt.out.mono ?_
               clear HSt e5 hc4 hcx2
               rintro e w4 ⟨rfl, hC4, hk4⟩
               have HR := lH hC4
               have HKG2 := lH (HKG.out.trans hk4)
               clear hC4 hk4
               go_wp2_with (fail)
               go_roundw
               case rel => exact ⟨g + 1, by omega, by go_num, HR.out, HKG2.out⟩
               case measure => simp [intOf]; omega
         · obtain rfl : m = g := by omega
           obtain ⟨e1, e2, e3⟩ := redTo_some (p := p) (L := L) (A := K) (c := col) (k := q) (by rw [HRT.out]; show pvFrom M col (M.length - R) R = q; rw [HMl.out]; exact HPN.out) (by rw [HRT.out]; show q < M.length; rw [HMl.out]; omega) (M := M2) (by rw [HRT.out, HM2.out, HS.out, HIV.out, HXE.out])
           rw [HRT.out] at e1 e2 e3
           have e1 : (redTo p L K (col + 1)).1 = R + 1 := e1
           have e2 : (redTo p L K (col + 1)).2.1 = elimTo p R (fun i => en M2 i col) M2 m := by rw [e2, hml2]
           have e3 : (redTo p L K (col + 1)).2.2 = elimTo p R (fun i => en M2 i col) K2 m := by
            rw [e3]
            show elimTo p R (fun i => en M2 i col) (scaleL p R (invM p (en M q col)) (swapL K1 R q)) K1.length = _
            rw [HMK1.out.len, HK2.out, HS1.out, HIV.out, HXE.out]
           have HE := lH (pair_of e1 e2 e3)
           have HCG := lH hCg; have HKG := lH hkg; have HEK := lH hEk; clear e1 e2 e3 hEm hEk hml2 hkl2 hCg hkg
           go_wp2_with (fail)
           go_roundw
           case rel => exact ⟨col + 1, R + 1, _, _, by omega, by go_num, by go_num, HE.out, HEK.out, HCG.out, HKG.out⟩
           case measure => simp [intOf]; omega
    · obtain rfl : m = q := by omega
      have hpn : ¬ pvFrom M col (M.length - R) R < M.length := by rw [HMl.out, ← HPV.out, pvFrom_end]; omega
      have hred := redTo_none (p := p) (L := L) (A := K) (c := col) (by rw [HRT.out]; exact hpn)
      have HRD := lH hred; clear hpn hred
      go_wp2_with (fail)
      go_roundw
      case rel => exact ⟨col + 1, R, M, K1, by omega, by go_num, rfl, by rw [HRD.out]; exact HRT.out, HMK1.out, HC.out, HKP.out⟩
      case measure => simp [intOf]; omega
set_option maxHeartbeats 1000000 in
theorem clones_any (A : Option Addr) (c : Nat) (hs : List Hd) (w : World) (h : RdR w A hs) (hl : hs.length ≤ 1048576) (hr : ∀ x, x ∈ hs → x.2.2.length ≤ 1048576) :
  Calls Tryd.prog 85 #[.slice A hs.length c] w (RetSS w (hs.map fun h : Hd => h.2.2)) := by
 obtain ⟨L, hLh⟩ : ∃ L, L = hs.map fun h : Hd => h.2.2 := ⟨_, rfl⟩
 rw [← hLh]
 obtain ⟨m, hmm⟩ : ∃ m, m = hs.length := ⟨_, rfl⟩
 rw [← hmm] at hl ⊢
 have HLh := lH hLh; have HM := lH hmm
 have hLen := lH (show L.length = m by rw [hLh, List.length_map, hmm])
 clear hLh hmm
 go_enter Tryd.func85, Tryd.ntmps85
 go_wp2_with (at_make; refine wpList_make_Sl _ rfl _ _ _ rfl 25 Tryd.underlying22 info_ints 0 m rfl rfl rfl rfl (Nat.zero_le _) (by omega) (by unfold maxLen; omega) ?_; intro G w1 hs1 hG hb1)
 have hOM0 : OM w w1 (some G) m [] := by
  refine ⟨[], rfl, ⟨by simpa using hs1, fun h hh => (by cases hh), .nil, fun h hh => (by cases hh)⟩, fun b hb => ?_, hb1⟩
  have : b = G.block := by simpa [fpR] using hb
  subst this; exact hG
 clear hs1
 go_loopw [11, 3] (fun i v wr => ∃ (k : Nat) (A' : Option Addr) (c' : Nat), k ≤ m ∧ i = .int .i64 k ∧ v = .slice A' k c' ∧ OM w wr A' c' (L.take k)) (fun i _ _ => m - (intOf i).toNat)
 case atStart => exact ⟨0, some G, m, Nat.zero_le _, rfl, rfl, hOM0⟩
 case round =>
  clear hOM0
  obtain ⟨k, A', c', hk, rfl, rfl, hOM⟩ := hrel
  by_cases hlt : k < m
  · obtain ⟨ad, B, d, l, rfl, hx, hc, hri⟩ := (h.below hOM.below_).at_ (k := k) (by rw [← HM.out]; exact hlt)
    have hlx : L[k]? = some l := by rw [HLh.out, List.getElem?_map, hx]; rfl
    have hll : l.length ≤ 1048576 := hr _ (List.mem_of_getElem? hx)
    obtain ⟨gs, hLg, hO, hf, h0⟩ := hOM
    have hgl : gs.length = k := by
     have := congrArg List.length hLg
     rw [List.length_take, hLen.out, List.length_map] at this
     omega
    have HX := lH hlx; have HG := lH hLg; have HGL := lH hgl
    have hkI : (k : Int) < (m : Int) := by omega
    have hC := clone_any B d l wr hri (by omega)
    have HC := lH hC; clear hx hlx hLg hgl hC h hr
    go_wp2_with (fail)
    refine HC.out.mono ?_
    rintro e w1 ⟨B1, c1, rfl, hi1, hf1, hb1⟩
    have hsl : Sl (w1.alloc (.cells #[.slice B1 l.length c1] 25)) 25 1 A' k c' (gs.map Hd.val) := by
     have := (hO.sl.below hb1).alloc (.cells #[.slice B1 l.length c1] 25)
     rwa [HGL.out] at this
    go_wp2_with (at_builtin; refine wpList_append_Sl _ rfl _ _ _ rfl 25 Tryd.underlying22 info_ints rfl (by omega) rfl hsl rfl (news := [.slice B1 l.length c1]) rfl (Sl.rdc (Sl.laid w1 25 1 1 #[.slice B1 l.length c1] (by unfold maxLen; omega) rfl)) (by intro u hu; simp at hu; subst hu; rfl) (by unfold maxLen; omega) (by omega) ?_; intro A2 c2 w2 hs2 hA2 hk2)
    have hal : Below w1.heap.size w1 (w1.alloc (.cells #[.slice B1 l.length c1] 25)) := (Below.refl _ _).alloc (Nat.le_refl _) _
    have hOM2 := OM.snoc (w1 := w1.alloc (.cells #[.slice B1 l.length c1] 25)) HG.out hO hf h0 (below_trans hb1 hal hb1.size) (hi1.below hal) hf1 (by rw [HGL.out]) hs2 hA2 hk2
    have HO := lH hOM2; clear hOM2 hs2 hsl hO hf
    go_roundw
    case rel => exact ⟨k + 1, A2, c2, by omega, by go_num, rfl, by rw [List.take_add_one, HX.out]; exact HO.out⟩
    case measure => simp [intOf]; omega
  · obtain rfl : m = k := by omega
    have hOM' : OM w wr A' c' L := by have := hOM; rwa [List.take_of_length_le (by rw [hLen.out]; omega)] at this
    clear hOM h hr
    go_wp2_with (fail)
    go_ret
    have := hOM'.ret
    rw [hLen.out] at this
    exact this
theorem nils_rw {w1 : World} {G : Addr} {m : Nat} (hs : Sl w1 25 1 (some G) m m ((List.replicate m nilHd).map Hd.val)) : RwF w1 (some G) m (List.replicate m []) [G.block] := by
 refine ⟨List.replicate m nilHd, by simp [nilHd], ⟨by simpa using hs, fun h hh => ?_, ?_, fun h hh b hb => ?_⟩, fun b hb => ?_⟩
 · obtain rfl := (List.mem_replicate.1 hh).2
   exact Sl.nil _ _ _
 · refine List.pairwise_iff_getElem.2 fun i j hi hj _ b hb => ?_
   simp [nilHd] at hb
 · obtain rfl := (List.mem_replicate.1 hh).2
   simp [nilHd] at hb
 · rcases List.mem_append.1 hb with hb | hb
   · simpa using hb
   · obtain ⟨x, hx, hb⟩ := mem_fpR.1 hb
     obtain rfl := (List.mem_replicate.1 hx).2
     simp [nilHd] at hb
set_option maxHeartbeats 1000000 in
theorem reduced_any (p : Int) (n : Nat) (A : Option Addr) (c : Nat) (hs : List Hd) (w : World) (h : RdR w A hs) (hp : fieldB p = true) (hm : Mat p hs.length n (hs.map fun h : Hd => h.2.2)) (hl : hs.length ≤ 1048576) (hn : n ≤ 1048576) :
  Calls Tryd.prog 67 #[.int .i64 p, .slice A hs.length c, .int .i64 n] w (RetSS w (redM p n (hs.map fun h : Hd => h.2.2))) := by
 have hC := clones_any A c hs w h hl (fun x hx => by have := (hm.row _ (List.mem_map_of_mem hx)).1; omega)
 obtain ⟨L, hLh⟩ : ∃ L, L = hs.map fun h : Hd => h.2.2 := ⟨_, rfl⟩
 rw [← hLh] at hm hC ⊢
 obtain ⟨m, hmm⟩ : ∃ m, m = hs.length := ⟨_, rfl⟩
 rw [← hmm] at hl hm hC ⊢
 have hpb := fieldB_bounds hp
 have HC := lH hC; have HMat := lH hm; have HL := lH hm.len; clear hC hLh hmm hm h
 go_enter Tryd.func67, Tryd.ntmps67
 go_wp2_with (fail)
 refine HC.out.mono ?_
 rintro e w1 hret
 obtain ⟨A1, c1, rfl, hO1⟩ := hret.om
 rw [HL.out]
 clear hret
 go_wp2_with (at_make; refine wpList_make_Sl _ rfl _ _ _ rfl 25 Tryd.underlying22 info_ints m m rfl rfl rfl rfl (Nat.le_refl _) (by omega) (by unfold maxLen; omega) ?_; intro G w2 hs2 hG hb2)
 have hs2' : Sl w2 25 1 (some G) m m ((List.replicate m nilHd).map Hd.val) := by rw [← madeNils]; simpa using hs2
 have hK := nils_rw hs2'
 have hGl : G.block < w2.heap.size := hs2'.lt G.block (by simp)
 obtain ⟨fp, hR1, hfr, hlt⟩ := hO1.rw_
 have hR2 := hR1.below hb2
 have hmK : Mat p m 0 (List.replicate m []) := ⟨by simp, fun v hv => by obtain rfl := (List.mem_replicate.1 hv).2; exact ⟨rfl, fun x hx => by cases hx⟩⟩
 have hRd := reduction_any p n m 0 A1 c1 L fp (some G) m (List.replicate m []) [G.block] w2 hR2 hK (fun b hb hb' => by
  have := hlt b hb
  have e : b = G.block := by simpa using hb'
  omega) (fun b hb => Nat.lt_of_lt_of_le (hlt b hb) hb2.size) (fun b hb => by have e : b = G.block := by simpa using hb
                                                                              omega) hp HMat.out hmK hl hn (by omega)
 obtain ⟨e1, e2⟩ := redTo_fst p L (List.replicate m []) [] n
 rw [e1, e2] at hRd
 have hB2 : Below w.heap.size w w2 := below_trans hO1.below_ hb2 hO1.below_.size
 have hres : redM p n L = (redTo p L [] n).2.1.take (redTo p L [] n).1 := rfl
 obtain ⟨hMt, hRm⟩ := redTo_mat hp HMat.out [] (Nat.le_refl n)
 obtain ⟨R, hR⟩ : ∃ R, R = (redTo p L [] n).1 := ⟨_, rfl⟩
 obtain ⟨M, hM⟩ : ∃ M, M = (redTo p L [] n).2.1 := ⟨_, rfl⟩
 rw [← hR, ← hM] at hRd hres
 rw [← hM] at hMt
 rw [← hR] at hRm
 have HRd := lH hRd; have HRES := lH hres; have HML := lH hMt.len; have HP := lH hp; have HFR := lH hfr
 have hGw : w.heap.size ≤ G.block := Nat.le_trans hO1.below_.size hG
 clear hRd hres hMt hs2 hs2' hK hR1 hR2 hmK e1 e2 hO1 hR hM hp hfr hlt
 go_wp2_with (fail)
 refine HRd.out.mono ?_
 rintro e w3 ⟨rfl, h1, _, hk3⟩
 have hB3 : Below w.heap.size w w3 := below_keeps hB2 hk3 hB2.size fun b hb => by
  rcases hb with hb | hb
  · exact HFR.out b hb
  · have e : b = G.block := by simpa using hb
    omega
 obtain ⟨gs, hLg, hO, hf, h0⟩ := h1.om (w0 := w) HFR.out hB3
 have hgl : gs.length = m := by
  have := congrArg List.length hLg
  rw [HML.out, List.length_map] at this; omega
 have HG := lH hLg; have HGL := lH hgl
 have hsl : Sl w3 25 1 A1 m c1 (gs.map Hd.val) := by have := hO.sl; rwa [hgl] at this
 clear hLg hgl h1
 go_wp2_with (refine wpList_slice_Sl rfl (.tmp 20) none (some (.tmp 21)) (some (.tmp 22)) 22 rfl 25 Tryd.underlying22 info_ints rfl hsl 0 R R (optNone rfl) (optSome (by omega)) (optSome (by omega)) (by omega) (by omega) (Nat.le_refl _) (by have := hsl.2.1; omega) ?_; intro A2 hcut hfp _)
 go_ret
 have hT := OM.take (k := R) (m := R) (A' := A2) HG.out hO hf h0 (by rw [HGL.out]; omega) (by rw [List.map_take]; simpa using hcut) hfp
 have hlen : (M.take R).length = R := by rw [List.length_take, HML.out]; omega
 have hr := hT.ret
 rw [hlen] at hr
 rw [HRES.out]
 exact hr
end Go.Proofs.YtjompikdkhhlgaaDoor
namespace Go.Proofs.YtjompikdkhhlgaaDoor
def unitV (n i : Nat) : List Int := (List.range n).map fun j => if j = i then 1 else 0
def idM (n : Nat) : List (List Int) := (List.range n).map (unitV n)
theorem idM_en {n i j : Nat} (hi : i < n) (hj : j < n) : en (idM n) i j = if j = i then 1 else 0 := by simp [en, idM, unitV, List.getD, hi, hj]
theorem idM_mat {p : Int} (hp : 1 < p) (n : Nat) : Mat p n n (idM n) := by
 refine ⟨by simp [idM], fun v hv => ?_⟩
 simp only [idM, List.mem_map] at hv
 obtain ⟨i, _, rfl⟩ := hv
 refine ⟨by simp [unitV], fun x hx => ?_⟩
 simp only [unitV, List.mem_map] at hx
 obtain ⟨j, _, rfl⟩ := hx
 split <;> omega
theorem redTo_also {p : Int} (hp : fieldB p = true) {m n : Nat} {L A : List (List Int)} {T : Nat → Nat → Int} (hm : Mat p m n L) (hA : Mat p m m A) (hK : Makes p m n (en L) (en A) T) (hS : ∀ y, InSp p m (en A) m y) :
  ∀ c, c ≤ n → Mat p m m (redTo p L A c).2.2 ∧ Makes p m n (en (redTo p L A c).2.1) (en (redTo p L A c).2.2) T ∧ ∀ y, InSp p m (en (redTo p L A c).2.2) m y
 | 0, _ => ⟨hA, hK, hS⟩
 | c + 1, hc => by
   have hpb := fieldB_bounds hp
   obtain ⟨ld, hR⟩ := redTo_inv hp hm A c (by omega)
   obtain ⟨h1, h2, h3⟩ := redTo_also hp hm hA hK hS c (by omega)
   rw [redTo]
   obtain ⟨s, hs⟩ : ∃ s, s = redTo p L A c := ⟨_, rfl⟩
   rw [← hs] at hR h1 h2 h3 ⊢
   rcases colStep_cases hp (show c < n by omega) hR.mat hR.inv.le with ⟨e, _⟩ | ⟨k, iv, k1, k2, k3, _, _, k6, k7, k8⟩
   · rw [e]; exact ⟨h1, h2, h3⟩
   · rw [k7]
     have hr : s.1 < m := by omega
     have hse := step_en (p := p) (by omega) h1 hr k2 iv (fun i => en (scaleL p s.1 iv (swapL s.2.1 s.1 k)) i c)
     rw [h1.len]
     refine ⟨hse.1, ?_, fun y => ?_⟩
     · refine (h2.step (iv := iv) (f := fun i => en (scaleL p s.1 iv (swapL s.2.1 s.1 k)) i c) hr k2).congr (fun i j hi hj => ?_) (fun i j hi hj => (hse.2 i j hi hj).symm)
       rw [k6 i j hi hj, stepE_eq]
       exact stepG_congr hr k2 k8 (fun _ _ _ _ => rfl) hi hj
     · exact ((h3 y).trans fun i hi => stepG_span hr k2 k3 hi).congr fun i j hi hj => (hse.2 i j hi hj).symm
def transM (L : List (List Int)) (n : Nat) : List (List Int) := (List.range n).map fun j => L.map fun v => v.getD j 0
theorem transM_en {L : List (List Int)} {n i j : Nat} (hi : i < n) (hj : j < L.length) : en (transM L n) i j = en L j i := by simp [en, transM, List.getD, hi, hj]
theorem transM_mat {p : Int} (hp : 0 < p) {m n : Nat} {L : List (List Int)} (h : Mat p m n L) : Mat p n m (transM L n) := by
 refine ⟨by simp [transM], fun v hv => ?_⟩
 simp only [transM, List.mem_map] at hv
 obtain ⟨j, _, rfl⟩ := hv
 refine ⟨by rw [List.length_map]; exact h.len, fun x hx => ?_⟩
 simp only [List.mem_map] at hx
 obtain ⟨w, hw, rfl⟩ := hx
 exact (h.row w hw).2.getD hp j
def GenL (p : Int) (n : Nat) (N : (Nat → Int) → Prop) (K : List (List Int)) : Prop := Mat p K.length n K ∧ Gen p n N (en K) K.length
def leadV (v : List Int) : Nat := v.findIdx fun a => a != 0
def nvL (p : Int) (n : Nat) (R : List (List Int)) (j : Nat) : Nat → List Int
 | 0 => (List.replicate n 0).set j 1
 | i + 1 => (nvL p n R j i).set (leadV (R.getD i [])) (-(en R i j) % p)
def freeCols (n : Nat) (R : List (List Int)) : List Nat := (List.range n).filter fun j => R.all fun v => leadV v != j
def nvecs (p : Int) (n : Nat) (R : List (List Int)) : List (List Int) := (freeCols n R).map fun j => nvL p n R j R.length
def nullM (p : Int) (n : Nat) (L : List (List Int)) : List (List Int) := redM p n (nvecs p n (redM p n L))
end Go.Proofs.YtjompikdkhhlgaaDoor
namespace Go.Proofs.YtjompikdkhhlgaaDoor
theorem leadV_eq {v : List Int} {c : Nat} (hc : c < v.length) (h : v.getD c 0 ≠ 0) (hb : ∀ j, j < c → v.getD j 0 = 0) : leadV v = c := by
 unfold leadV
 rw [List.findIdx_eq hc]
 refine ⟨?_, fun j hj => ?_⟩
 · simp [List.getD, hc] at h; simp [h]
 · have := hb j hj
   have hjl : j < v.length := by omega
   simp [List.getD, hjl] at this; simp [this]
theorem nvL_length (p : Int) (n : Nat) (R : List (List Int)) (j : Nat) : ∀ i, (nvL p n R j i).length = n
 | 0 => by simp [nvL]
 | i + 1 => by rw [nvL, List.length_set]; exact nvL_length p n R j i
theorem nvL_res {p : Int} (hp : 1 < p) (n : Nat) (R : List (List Int)) (j : Nat) : ∀ i, Res p (nvL p n R j i)
 | 0 => by unfold nvL; exact (Res.replicate (by omega) n).set ⟨by omega, hp⟩ j
 | i + 1 => by rw [nvL]; exact (nvL_res hp n R j i).set ⟨Int.emod_nonneg _ (by omega), Int.emod_lt_of_pos _ (by omega)⟩ _
theorem red_lead {p : Int} {n : Nat} {R : List (List Int)} (h : Mat p R.length n R) {ld : Nat → Nat} (hr : Red p n (en R) R.length ld) {i : Nat} (hi : i < R.length) : leadV (R.getD i []) = ld i := by
 refine leadV_eq (by rw [(h.get hi).1]; exact hr.lt i hi) ?_ fun j hj => hr.before i j hi hj
 have := hr.one i hi
 unfold en at this
 rw [this]; decide
theorem nvL_en {p : Int} {n : Nat} {R : List (List Int)} (h : Mat p R.length n R) {ld : Nat → Nat} (hr : Red p n (en R) R.length ld) {j : Nat} (hj : j < n) (hf : ∀ i, i < R.length → ld i ≠ j) :
  ∀ i, i ≤ R.length → ∀ q, q < n → p ∣ (nvL p n R j i).getD q 0 - ((if q = j then 1 else 0) - sm i fun t => (if q = ld t then 1 else 0) * en R t j)
 | 0, _, q, hq => by
   rw [nvL, getD_set _ _ _ _ _ (by simpa using hj)]
   simp only [sm, Int.sub_zero]
   split
   · simp
   · simp [List.getD, hq]
 | i + 1, hi, q, hq => by
   have ih := nvL_en h hr hj hf i (by omega) q hq
   rw [nvL, red_lead h hr (by omega), getD_set _ _ _ _ _ (by rw [nvL_length]; exact hr.lt i (by omega)), sm]
   by_cases e : q = ld i
   · subst e
     rw [if_pos rfl, if_neg (hf i (by omega)), if_pos rfl, sm_congr (g := fun _ => 0) (fun t ht => by rw [if_neg (by have := hr.mono t i ht (by omega); omega), Int.zero_mul]), sm_zero]
     have := dvd_emod_sub p (-(en R i j))
     simpa using this
   · rw [if_neg e, if_neg e, Int.zero_mul, Int.add_zero]
     exact ih
theorem nvecs_gen {p : Int} (hp : 1 < p) {n : Nat} {R : List (List Int)} (h : RedL p n R) : GenL p n (NulL p n R) (nvecs p n R) := by
 obtain ⟨hm, ld, hr⟩ := h
 have hfree : ∀ j, j ∈ freeCols n R ↔ j < n ∧ ∀ i, i < R.length → ld i ≠ j := by
  intro j
  unfold freeCols
  rw [List.mem_filter, List.mem_range, List.all_eq_true]
  refine and_congr_right fun _ => ⟨fun hh i hi => ?_, fun hh v hv => ?_⟩
  · have hv : R.getD i [] ∈ R := by
     have : R.getD i [] = R[i] := by simp [List.getD, hi]
     rw [this]; exact List.getElem_mem hi
    have := hh _ hv
    rw [red_lead hm hr hi] at this
    simpa using this
  · obtain ⟨i, hi, rfl⟩ := List.getElem_of_mem hv
    have := hh i hi
    rw [← red_lead hm hr hi] at this
    have e : R.getD i [] = R[i] := by simp [List.getD, hi]
    rw [e] at this
    simpa using this
 have hlen : (nvecs p n R).length = (freeCols n R).length := by simp [nvecs]
 have hget : ∀ k, k < (freeCols n R).length → (nvecs p n R).getD k [] = nvL p n R ((freeCols n R).getD k 0) R.length := by
  intro k hk; simp [nvecs, List.getD, hk]
 have hmem : ∀ k, k < (freeCols n R).length → (freeCols n R).getD k 0 ∈ freeCols n R := by
  intro k hk
  have : (freeCols n R).getD k 0 = (freeCols n R)[k] := by simp [List.getD, hk]
  rw [this]; exact List.getElem_mem hk
 refine ⟨⟨rfl, fun v hv => ?_⟩, ?_⟩
 · simp only [nvecs, List.mem_map] at hv
   obtain ⟨j, _, rfl⟩ := hv
   exact ⟨nvL_length p n R j _, nvL_res hp n R j _⟩
 · rw [hlen]
   refine hr.gen (fun k => (freeCols n R).getD k 0) (fun k hk => ((hfree _).1 (hmem k hk)).1) (fun k hk j hj => ?_) fun j hj hl => ?_
   · have hf := (hfree _).1 (hmem k hk)
     have := nvL_en hm hr hf.1 hf.2 R.length (Nat.le_refl _) j hj
     unfold en
     rw [hget k hk]
     exact this
   · have : j ∈ freeCols n R := (hfree j).2 ⟨hj, hl⟩
     obtain ⟨k, hk, e⟩ := List.getElem_of_mem this
     exact ⟨k, hk, by simp [List.getD, hk, e]⟩
theorem GenL.congr {p : Int} {n : Nat} {N N' : (Nat → Int) → Prop} (hN : ∀ x, N x ↔ N' x) {K : List (List Int)} (h : GenL p n N K) : GenL p n N' K :=
 ⟨h.1, fun k hk => (hN _).1 (h.2.1 k hk), fun x hx y hy => h.2.2 x hx y ((hN y).2 hy)⟩
end Go.Proofs.YtjompikdkhhlgaaDoor
namespace Go.Proofs.YtjompikdkhhlgaaDoor
def leadTo (R : List (List Int)) (n : Nat) : Nat → List Int
 | 0 => List.replicate n (-1)
 | i + 1 => (leadTo R n i).set (leadV (R.getD i [])) (i : Nat)
@[simp] theorem leadTo_length (R : List (List Int)) (n : Nat) : ∀ i, (leadTo R n i).length = n
  | 0 => by simp [leadTo]
  | i + 1 => by simp [leadTo, leadTo_length R n i]
theorem leadTo_get (R : List (List Int)) {n : Nat} : ∀ (i j : Nat), j < n → (0 ≤ (leadTo R n i).getD j 0 ↔ ∃ k, k < i ∧ leadV (R.getD k []) = j)
 | 0, j, hj => by
   have : (leadTo R n 0).getD j 0 = -1 := by simp [leadTo, List.getD, hj]
   rw [this]
   exact ⟨fun h => by omega, fun ⟨k, h, _⟩ => by omega⟩
 | i + 1, j, hj => by
   have ih := leadTo_get R i j hj
   rw [leadTo]
   by_cases hl : leadV (R.getD i []) = j
   · have : ((leadTo R n i).set (leadV (R.getD i [])) (i : Nat)).getD j 0 = (i : Nat) := by rw [hl]; exact getD_set_self (by simpa using hj)
     rw [this]
     exact ⟨fun _ => ⟨i, by omega, hl⟩, fun _ => by omega⟩
   · rw [getD_set_ne' hl, ih]
     constructor
     · rintro ⟨k, h1, h2⟩; exact ⟨k, by omega, h2⟩
     · rintro ⟨k, h1, h2⟩
       by_cases hk : k = i
       · subst hk; exact absurd h2 hl
       · exact ⟨k, by omega, h2⟩
def freeB (R : List (List Int)) (j : Nat) : Bool := R.all fun v => leadV v != j
theorem freeB_lead {R : List (List Int)} {n j : Nat} (hj : j < n) : freeB R j = true ↔ ¬ 0 ≤ (leadTo R n R.length).getD j 0 := by
 rw [leadTo_get R R.length j hj]
 unfold freeB
 rw [List.all_eq_true]
 constructor
 · rintro h ⟨k, hk, he⟩
   have := h (R.getD k []) (by rw [getD_lt hk]; exact List.getElem_mem hk)
   rw [he] at this
   simp at this
 · intro h v hv
   obtain ⟨k, hk, rfl⟩ := List.getElem_of_mem hv
   simp only [bne_iff_ne, ne_eq]
   intro he
   exact h ⟨k, hk, by rw [getD_lt hk]; exact he⟩
def nvTo (p : Int) (n : Nat) (R : List (List Int)) (j : Nat) : List (List Int) := ((List.range j).filter (freeB R)).map fun j => nvL p n R j R.length
theorem nvTo_succ (p : Int) (n : Nat) (R : List (List Int)) (j : Nat) : nvTo p n R (j + 1) = nvTo p n R j ++ (if freeB R j then [nvL p n R j R.length] else []) := by
 unfold nvTo
 rw [List.range_succ, List.filter_append, List.map_append]
 congr 1
 by_cases h : freeB R j = true
 · simp [h]
 · simp [h]
theorem nvTo_end (p : Int) (n : Nat) (R : List (List Int)) : nvTo p n R n = nvecs p n R := rfl
theorem nvTo_length (p : Int) (n : Nat) (R : List (List Int)) (j : Nat) : (nvTo p n R j).length ≤ j := by
 unfold nvTo
 rw [List.length_map]
 have := List.length_filter_le (freeB R) (List.range j)
 simpa using this
theorem nvTo_mat {p : Int} (hp : 1 < p) (n : Nat) (R : List (List Int)) (j : Nat) : Mat p (nvTo p n R j).length n (nvTo p n R j) := by
 refine ⟨rfl, fun v hv => ?_⟩
 obtain ⟨k, _, rfl⟩ := List.mem_map.1 hv
 exact ⟨nvL_length p n R k _, nvL_res hp n R k _⟩
theorem lead_lt {p : Int} {n : Nat} {R : List (List Int)} (h : RedL p n R) {i : Nat} (hi : i < R.length) : leadV (R.getD i []) < n := by
 obtain ⟨hm, ld, hr⟩ := h
 rw [red_lead hm hr hi]
 exact hr.lt i hi
theorem leadV_step {l : List Int} {k : Nat} {x : Int} (h : l[k]? = some x) (hx : x = 0) : (l.take k).all (· == 0) = true → (l.take (k + 1)).all (· == 0) = true := by
 intro h'
 rw [List.take_add_one, h]
 simp [hx] at h' ⊢
 exact h'
theorem leadV_at {l : List Int} {k : Nat} (hk : k ≤ l.length) (hz : (l.take k).all (· == 0) = true) (hx : k < l.length → l.getD k 0 ≠ 0) : leadV l = k := by
 unfold leadV
 have hz' : ∀ j, j < k → l.getD j 0 = 0 := by
  intro j hj
  have := List.all_eq_true.1 hz (l.getD j 0) (by
   rw [getD_lt (show j < l.length by omega)]
   rw [show l[j] = (l.take k)[j]'(by simp; omega) by simp]
   exact List.getElem_mem _)
  simpa using this
 by_cases hlt : k < l.length
 · rw [List.findIdx_eq hlt]
   refine ⟨by have := hx hlt; rw [getD_lt hlt] at this; simpa using this, fun j hj => ?_⟩
   have := hz' j hj
   rw [getD_lt (by omega)] at this
   simpa using this
 · obtain rfl : k = l.length := by omega
   rw [List.findIdx_eq_length_of_false]
   intro x hxm
   have := List.all_eq_true.1 hz x (by rw [List.take_length]; exact hxm)
   simp at this ⊢
   exact this
open Go.RowKit
set_option maxHeartbeats 400000 in
theorem spLead_any (A : Option Addr) (c n : Nat) (l : List Int) (w : World) (h : RdI w A l) (hn : l.length = n) (hl : n ≤ 17592186044416) :
  Calls Tryd.prog 31 #[.slice A n c] w fun e w' => e = .returned (.int .i64 (leadV l : Nat)) ∧ w = w' := by
 have HN := lH hn; clear hn
 go_enter Tryd.func31, Tryd.ntmps31
 go_wp2_with (fail)
 go_loop [3] (fun v => ∃ k : Nat, k ≤ n ∧ v = .int .i64 k ∧ (l.take k).all (· == 0) = true) (fun v => n - (intOf v).toNat)
 case atStart => exact ⟨0, Nat.zero_le _, rfl, by simp⟩
 case round =>
  obtain ⟨k, hk, rfl, hz⟩ := hrel
  have HZ := lH hz; clear hz
  by_cases hlt : k < n
  · obtain ⟨ad, x, rfl, hx, hc⟩ := h.at_ (j := k) (by rw [HN.out]; exact hlt)
    have HX := lH hx
    have hkI : (k : Int) < (n : Int) := by omega
    clear hx h
    by_cases hx0 : x = 0
    · subst hx0
      have hs := leadV_step HX.out rfl HZ.out
      have HS := lH hs; clear hs
      go_wp2_with (fail)
      go_round
      case rel => exact ⟨k + 1, by omega, by go_num, HS.out⟩
      case measure => simp [intOf]; omega
    · have hx1 : (x == 0) = false := by rw [beq_eq_false_iff_ne]; exact hx0
      have he := leadV_at (l := l) (k := k) (by rw [HN.out]; omega) HZ.out (fun _ => by rw [getD_of_some HX.out]; exact hx0)
      have HE := lH he; clear he hx0
      go_wp2_with (fail)
      go_ret
      exact ⟨ret_int (by rw [HE.out]), rfl⟩
  · obtain rfl : n = k := by omega
    have he := leadV_at (l := l) (k := n) (by rw [HN.out]; omega) HZ.out (fun h => absurd h (by rw [HN.out]; omega))
    have HE := lH he; clear he h
    go_wp2_with (fail)
    go_ret
    exact ⟨ret_int (by rw [HE.out]), rfl⟩
set_option maxHeartbeats 400000 in
theorem fdNeg_any (p a : Int) (w : World) (h0 : 0 < p) (h97 : p ≤ 97) (ha : 0 ≤ a) (ha' : a < p) :
  Calls Tryd.prog 25 #[.int .i64 p, .int .i64 a] w fun e w' => e = .returned (.int .i64 (-a % p)) ∧ w = w' := by
 have hz : (p == 0) = false := by rw [beq_eq_false_iff_ne]; omega
 have he : (p - a) % p = -a % p := by rw [show p - a = -a + p by omega, Int.add_emod_right]
 have HE := lH he; clear he
 go_enter Tryd.func25, Tryd.ntmps25
 go_wp2_with (fail)
 go_ret
 exact ⟨ret_int HE.out, rfl⟩
theorem RetSS.mono {w0 w w' : World} {L : List (List Int)} {e : Ending} (h : RetSS w L e w') (hb : Below w0.heap.size w0 w) : RetSS w0 L e w' := by
 obtain ⟨A, cap, hs, rfl, hL, hO, hf, h0⟩ := h
 exact ⟨A, cap, hs, rfl, hL, hO, fun b hb' => Nat.le_trans hb.size (hf b hb'), below_trans hb h0 hb.size⟩
theorem made_is {w : World} {G : Addr} {n : Nat} (h : Sl w tInt 1 (some G) n n ((madeCells (Value.int .i64 0).cells (n * 1)).toList.take (n * 1))) : IS w (some G) n (List.replicate n 0) := by
 unfold IS; rw [← madeZeros]; simpa using h
theorem is_cell {w : World} {G : Addr} {c : Nat} {l : List Int} (h : IS w (some G) c l) {j : Nat} (hj : j < l.length) : ∃ y, w.cell? (G.add j) = some (.int .i64 y) ∧ w.frozen? (G.add j) = false := by
 obtain ⟨ad, y, hA, _, _, hc, hf⟩ := h.at_ hj
 obtain rfl := Option.some.inj hA
 exact ⟨y, hc, hf j⟩
set_option maxRecDepth 100000 in
set_option maxHeartbeats 4000000 in
theorem spNull_any (p : Int) (n : Nat) (A : Option Addr) (c : Nat) (hs : List Hd) (w : World) (h : RdR w A hs) (hp : fieldB p = true) (hm : Mat p hs.length n (hs.map fun h : Hd => h.2.2)) (hl : hs.length ≤ 1048576) (hn : n ≤ 1048576) :
  Calls Tryd.prog 28 #[.int .i64 p, .int .i64 n, .slice A hs.length c] w (RetSS w (nullM p n (hs.map fun h : Hd => h.2.2))) := by
 have hC := spReduce_any p n A c hs w h hp hm hl hn
 obtain ⟨hred, _, hRl⟩ := redM_spec hp (L := hs.map fun h : Hd => h.2.2) (by rw [List.length_map]; exact hm)
 rw [List.length_map] at hRl
 obtain ⟨R, hR⟩ : ∃ R, R = redM p n (hs.map fun h : Hd => h.2.2) := ⟨_, rfl⟩
 have hres : nullM p n (hs.map fun h : Hd => h.2.2) = redM p n (nvecs p n R) := by rw [hR]; rfl
 rw [← hR] at hC hred hRl
 rw [hres]
 have hpb := fieldB_bounds hp
 obtain ⟨r, hr⟩ : ∃ r, r = R.length := ⟨_, rfl⟩
 rw [← hr] at hRl
 have hRm : Mat p r n R := by rw [hr]; exact hred.1
 have HC := lH hC; have HRED := lH hred; have HR := lH hr; have HRM := lH hRm; have HP := lH hp; clear hC hred hR hres hr hRm hm h hp
 go_enter Tryd.func28, Tryd.ntmps28
 go_wp2_with (fail)
 refine HC.out.mono ?_
 rintro e w1 hret
 obtain ⟨A1, c1, rfl, hO1⟩ := hret.om
 rw [← HR.out]
 clear hret
 obtain ⟨gs, hLg, hRd⟩ := hO1.rdr
 have hgl : gs.length = r := by rw [HR.out, hLg, List.length_map]
 have hb01 := hO1.below_
 have HLG := lH hLg; have HGL := lH hgl; clear hLg hgl hO1
 go_wp2_with (at_make; refine wpList_make_Sl _ rfl _ _ _ rfl 3 Tryd.underlying25 info_int n n rfl rfl rfl rfl (Nat.le_refl _) (by omega) (by unfold maxLen; omega) ?_; intro G w2 hs2 hG hb2)
 have his0 : IS w2 (some G) n (List.replicate n 0) := by unfold IS; rw [← madeZeros]; simpa using hs2
 clear hs2
 go_loopw [25] (fun i wr => ∃ k : Nat, k ≤ n ∧ i = .int .i64 k ∧ IS wr (some G) n ((List.replicate n (-1 : Int)).take k ++ (List.replicate n (0 : Int)).drop k) ∧ Below w1.heap.size w1 wr) (fun i _ => n - (intOf i).toNat)
 case atStart => exact ⟨0, Nat.zero_le _, rfl, by simpa using his0, hb2⟩
 case round =>
  clear his0
  obtain ⟨k, hk, rfl, his, hb⟩ := hrel
  have hlen : ((List.replicate n (-1 : Int)).take k ++ (List.replicate n (0 : Int)).drop k).length = n := by simp; omega
  by_cases hlt : k < n
  · obtain ⟨ad', y, hA', hy, hlt', hc', hf'⟩ := his.at_ (j := k) (by rw [hlen]; exact hlt)
    obtain rfl := Option.some.inj hA'
    have hf := hf' k
    have his' := his.set (ad := G) rfl (j := k) (-1) (by rw [hlen]; exact hlt)
    rw [take_append_step (by simp) (show (List.replicate n (-1 : Int))[k]? = some (-1) by simp [hlt])] at his'
    have HI := lH his'
    have hb' := lH (hb.setCell (p := G.add k) (by rw [block_of_add]; exact hG) (.int .i64 (-1)))
    have hkI : (k : Int) < (n : Int) := by omega
    clear his' hf' hA' his hy hlen
    go_wp2_with (fail)
    go_roundw
    case rel => exact ⟨k + 1, by omega, by go_num, HI.out, hb'.out⟩
    case measure => simp [intOf]; omega
  · obtain rfl : n = k := by omega
    have his1 : IS wr (some G) n (leadTo R n 0) := by
     have := his
     rwa [List.take_of_length_le (by simp), List.drop_of_length_le (by simp), List.append_nil] at this
    clear his hlen
    go_wp2_with (fail)
    go_loopw [34] (fun i wr => ∃ k : Nat, k ≤ r ∧ i = .int .i64 k ∧ IS wr (some G) n (leadTo R n k) ∧ Below w1.heap.size w1 wr) (fun i _ => r - (intOf i).toNat)
    case atStart => exact ⟨0, Nat.zero_le _, rfl, his1, hb⟩
    case round =>
     clear his1 hb
     obtain ⟨k, hk, rfl, his, hb⟩ := hrel
     by_cases hlt : k < r
     · obtain ⟨ad, B, d, l, rfl, hx, hc, hri⟩ := (hRd.below hb).at_ (k := k) (by rw [HGL.out]; exact hlt)
       have hlR : R.getD k [] = l := by rw [HLG.out]; exact getD_map_hd hx
       have hll : l.length = n := by rw [← hlR]; exact (HRM.out.get hlt).1
       have hld : leadV l < n := by rw [← hlR]; exact lead_lt HRED.out (by rw [← HR.out]; exact hlt)
       rw [hll] at hc
       obtain ⟨ad', y, hA', hy, hlt', hc', hf'⟩ := his.at_ (j := leadV l) (by rw [leadTo_length]; exact hld)
       obtain rfl := Option.some.inj hA'
       have hf := hf' (leadV l)
       have his' := his.set (ad := G) rfl (j := leadV l) ((k : Nat) : Int) (by rw [leadTo_length]; exact hld)
       have hst : (leadTo R n k).set (leadV l) ((k : Nat) : Int) = leadTo R n (k + 1) := by rw [leadTo, hlR]
       rw [hst] at his'
       have hC := spLead_any B d n l wr hri hll (by omega)
       obtain ⟨ld, hldd⟩ : ∃ ld, ld = leadV l := ⟨_, rfl⟩
       rw [← hldd] at hld hc' hf his' hC
       have HCC := lH hC; have HI := lH his'
       have hb' := lH (hb.setCell (p := G.add ld) (by rw [block_of_add]; exact hG) (.int .i64 ((k : Nat) : Int)))
       have hkI : (k : Int) < (r : Int) := by omega
       have hldI : (ld : Int) < (n : Int) := by omega
       clear his' hst hf' hA' his hy hldd hC hx hlR hll hri hb
       go_wp2_with (fail)
       refine HCC.out.mono ?_
       rintro e w' ⟨rfl, rfl⟩
       go_wp2_with (fail)
       go_roundw
       case rel => exact ⟨k + 1, by omega, by go_num, HI.out, hb'.out⟩
       case measure => simp [intOf]; omega
     · obtain rfl : r = k := by omega
       have hRd3 := hRd.below hb
       have hbw3 := below_trans hb01 hb hb01.size
       obtain ⟨w3, hw3⟩ : ∃ w3, w3 = wr := ⟨_, rfl⟩
       rw [← hw3] at his hRd3 hbw3
       have hO3 : OM w3 wr none 0 [] := by rw [hw3]; exact OM.nil wr
       clear hRd hb hw3
       go_wp2_with (fail)
       go_loopw [13, 12] (fun jv ov wr => ∃ (j : Nat) (Ao : Option Addr) (co : Nat), j ≤ n ∧ jv = .int .i64 j ∧ ov = .slice Ao (nvTo p n R j).length co ∧ OM w3 wr Ao co (nvTo p n R j)) (fun jv _ _ => n - (intOf jv).toNat)
       case atStart => exact ⟨0, none, 0, Nat.zero_le _, rfl, rfl, hO3⟩
       case round =>
        clear hO3
        obtain ⟨j, Ao, co, hj, rfl, rfl, hO⟩ := hrel
        by_cases hjn : j < n
        case neg =>
         obtain rfl : n = j := by omega
         obtain ⟨os, hLo, hRo⟩ := hO.rdr
         have hmo := nvTo_mat (p := p) (by omega) n R n
         have hlo := nvTo_length p n R n
         have hol : os.length = (nvTo p n R n).length := by rw [hLo, List.length_map]
         rw [hLo] at hmo
         rw [List.length_map] at hmo
         have hS := spReduce_any p n Ao co os wr hRo HP.out hmo (by omega) (by omega)
         rw [← hLo, hol, nvTo_end] at hS
         have HS := lH hS
         have hbww := lH (below_trans hbw3 hO.below_ hbw3.size)
         rw [nvTo_end]
         clear hS hLo hol hmo hlo hRo hO hRd3 his
         go_wp2_with (fail)
         refine HS.out.mono ?_
         rintro e w' hret
         have HRT := lH (hret.mono hbww.out)
         obtain ⟨A9, c9, rfl, _⟩ := hret.om
         clear hret
         go_wp2_with (fail)
         go_ret
         exact HRT.out
        case pos =>
         have hisj := his.below hO.below_
         obtain ⟨ad', y, hA', hy, _, hc', _⟩ := hisj.at_ (j := j) (by rw [leadTo_length]; exact hjn)
         obtain rfl := Option.some.inj hA'
         have hyd : (leadTo R n r).getD j 0 = y := by simp [List.getD, hy]
         have hfree := freeB_lead (R := R) hjn
         rw [← HR.out, hyd] at hfree
         have hjI : (j : Int) < (n : Int) := by omega
         have hsucc := nvTo_succ p n R j
         by_cases hy0 : 0 ≤ y
         · have hfb : freeB R j = false := by
            rw [Bool.eq_false_iff]; intro hh; exact hfree.1 hh hy0
           rw [hfb] at hsucc
           have hs2 : nvTo p n R (j + 1) = nvTo p n R j := by rw [hsucc]; simp
           have HS2 := lH hs2; have HO := lH hO; clear hs2 hsucc hfb hfree hyd hy hisj hO hRd3 his hA'
           go_wp2_with (fail)
           go_roundw
           case rel => exact ⟨j + 1, Ao, co, by omega, by go_num, by rw [HS2.out], by rw [HS2.out]; exact HO.out⟩
           case measure => simp [intOf]; omega
         · have hfb : freeB R j = true := hfree.2 hy0
           rw [hfb] at hsucc
           have hs2 : nvTo p n R (j + 1) = nvTo p n R j ++ [nvL p n R j r] := by rw [hsucc, HR.out]; rfl
           have HS2 := lH hs2
           have hRdj := hRd3.below hO.below_
           have hlo := nvTo_length p n R j
           obtain ⟨m0, hm0⟩ : ∃ m0, m0 = (nvTo p n R j).length := ⟨_, rfl⟩
           rw [← hm0] at hlo
           rw [← hm0]
           obtain ⟨os, hLo, hOo, hfo, h0o⟩ := hO
           have hol : os.length = m0 := by rw [hm0, hLo, List.length_map]
           obtain ⟨wr0, hwr0⟩ : ∃ wr0, wr0 = wr := ⟨_, rfl⟩
           rw [← hwr0] at hOo h0o hRdj hc'
           have HLO := lH hLo; have HOL := lH hol; have HM0 := lH hm0; have HWR := lH hwr0
           rw [hwr0] at hc'
           clear hs2 hsucc hfb hfree hyd hy hisj his hA' hLo hol hm0 hRd3
           go_wp2_with (at_make; refine wpList_make_Sl _ rfl _ _ _ rfl 3 Tryd.underlying25 info_int n n rfl rfl rfl rfl (Nat.le_refl _) (by omega) (by unfold maxLen; omega) ?_; intro Gv w4 hs4 hGv hb4; have hisv := made_is hs4; obtain ⟨yv, hcv, hfv⟩ := is_cell hisv (j := j) (by rw [List.length_replicate]; exact hjn); have HISV := lH hisv; clear hs4 hisv)
           rw [← hwr0] at hGv hb4
           have hisv1 := HISV.out.set (ad := Gv) rfl (j := j) 1 (by simp; exact hjn)
           have hb5 := hb4.setCell (p := Gv.add j) (by rw [block_of_add]; exact hGv) (.int .i64 1)
           have HV1 := lH (show IS (w4.setCell (Gv.add j) (.int .i64 1)) (some Gv) n (nvL p n R j 0) from hisv1)
           have HB5 := lH hb5; clear hisv1 hb5 hwr0 hc' hcv hfv
           go_loopw [62] (fun iv wr5 => ∃ i : Nat, i ≤ r ∧ iv = .int .i64 i ∧ IS wr5 (some Gv) n (nvL p n R j i) ∧ Below wr0.heap.size wr0 wr5) (fun iv _ => r - (intOf iv).toNat)
           case atStart => exact ⟨0, Nat.zero_le _, rfl, HV1.out, HB5.out⟩
           case round =>
            obtain ⟨i, hi, rfl, hiv, hbi⟩ := hrel
            by_cases hir : i < r
            · obtain ⟨ad, B, d, l, rfl, hx, hc, hri⟩ := (hRdj.below hbi).at_ (k := i) (by rw [HGL.out]; exact hir)
              have hlR : R.getD i [] = l := by rw [HLG.out]; exact getD_map_hd hx
              have hll : l.length = n := by rw [← hlR]; exact (HRM.out.get hir).1
              have hld : leadV l < n := by rw [← hlR]; exact lead_lt HRED.out (by rw [← HR.out]; exact hir)
              rw [hll] at hc
              obtain ⟨bd, x, hB, hxx, hcx⟩ := hri.at_ (j := j) (by rw [hll]; exact hjn)
              have hxe : x = en R i j := by unfold en; rw [hlR]; simp [List.getD, hxx]
              have hxb := HRM.out.en (by omega) hir j
              rw [← hxe] at hxb
              obtain ⟨adv, yv, hAv, hyv, _, hcv, hfv'⟩ := hiv.at_ (j := leadV l) (by rw [nvL_length]; exact hld)
              obtain rfl := Option.some.inj hAv
              have hfv := hfv' (leadV l)
              have hisv' := hiv.set (ad := Gv) rfl (j := leadV l) (-x % p) (by rw [nvL_length]; exact hld)
              have hst : (nvL p n R j i).set (leadV l) (-x % p) = nvL p n R j (i + 1) := by rw [nvL, hlR, hxe]
              rw [hst] at hisv'
              have hC1 := spLead_any B d n l wr.drew hri hll (by omega)
              obtain ⟨ld, hldd⟩ : ∃ ld, ld = leadV l := ⟨_, rfl⟩
              rw [← hldd] at hld hcv hfv hisv' hC1
              have C1 := lH (stillC2 hC1)
              have C2 := lH (stillC2 (fdNeg_any p x wr.drew (by omega) (by omega) hxb.1 hxb.2))
              have HI := lH hisv'.drew
              have hb' := lH (below_drewN (hbi.setCell (p := Gv.add ld) (by rw [block_of_add]; exact hGv) (.int .i64 (-x % p))) 1)
              have hiI : (i : Int) < (r : Int) := by omega
              have hldI : (ld : Int) < (n : Int) := by omega
              subst hB
              clear hisv' hst hfv' hAv hiv hyv hldd hC1 hx hlR hll hri hxx hxe hbi
              go_wp2_with (fail)
              refine wp_region_still_tail 12 (by kernel_rfl) (by kernel_rfl) ?_
              simp only [List.take_succ_cons, List.take_zero, List.drop_succ_cons, List.drop_zero]
              change wpStill _ _ wr.drew (fun a' => wpList _ _ _ _ a' wr.drew) _ _
              repeat still_step
              still_call C1.out
              repeat still_step
              still_call C2.out
              repeat still_step
              refine wpStill_nil ?_
              go_wp2_with (fail)
              go_roundw
              case rel => exact ⟨i + 1, by omega, by go_num, HI.out, hb'.out⟩
              case measure => simp [intOf]; omega
            · obtain rfl : r = i := by omega
              have hsl : Sl (wr.alloc (.cells #[.slice (some Gv) n n] 25)) 25 1 Ao m0 co (os.map Hd.val) := by
               have := (hOo.sl.below hbi).alloc (.cells #[.slice (some Gv) n n] 25)
               rwa [HOL.out] at this
              go_wp2_with (at_builtin; refine wpList_append_Sl _ rfl _ _ _ rfl 25 Tryd.underlying22 info_ints rfl (by omega) rfl hsl rfl (news := [.slice (some Gv) n n]) rfl (Sl.rdc (Sl.laid wr 25 1 1 #[.slice (some Gv) n n] (by unfold maxLen; omega) rfl)) (by intro u hu; simp at hu; subst hu; rfl) (by unfold maxLen; omega) (by omega) ?_; intro A6 c6 w6 hs6 hA6 hk6)
              have hal : Below wr.heap.size wr (wr.alloc (.cells #[.slice (some Gv) n n] 25)) := (Below.refl _ _).alloc (Nat.le_refl _) _
              have hOM2 := OM.snoc (w1 := wr.alloc (.cells #[.slice (some Gv) n n] 25)) (l := nvL p n R j r) (B := some Gv) (c := n) HLO.out hOo hfo h0o (below_trans hbi hal hbi.size) (hiv.below hal) (fun b hb => by simp at hb; subst hb; exact hGv) (by rw [HOL.out]) (by rw [nvL_length]; exact hs6) hA6 hk6
              have HO := lH hOM2
              have hlen2 : (nvTo p n R (j + 1)).length = m0 + 1 := by rw [HS2.out, List.length_append, ← HM0.out]; rfl
              have HL2 := lH hlen2; clear hOM2 hs6 hsl hOo hfo hiv hlen2
              go_wp2_with (fail)
              go_roundw
              case rel => exact ⟨j + 1, A6, c6, by omega, by go_num, by rw [HL2.out], by rw [HS2.out]; exact HO.out⟩
              case measure => simp [intOf]; omega
def rangeI (n : Nat) : List Int := (List.range n).map fun i => ((i : Nat) : Int)
@[simp] theorem rangeI_length (n : Nat) : (rangeI n).length = n := by simp [rangeI]
structure OI (w0 w : World) (A : Option Addr) (cap : Nat) (l : List Int) : Prop where
 is : IS w A cap l
 new : Fresh w0.heap.size A
 below_ : Below w0.heap.size w0 w
theorem OI.snoc {w0 w w2 : World} {A : Option Addr} {cap : Nat} {l : List Int} (h : OI w0 w A cap l) {o : Obj} {x : Int} {A' : Option Addr} {cap' n : Nat} (hn : n = l.length + 1) (hs' : Sl w2 tInt 1 A' n cap' (ints l ++ [.int .i64 x])) (hA' : ∀ b, b ∈ fpA A' → b ∈ fpA A ∨ (w.alloc o).heap.size ≤ b) (hk : Keeps (· ∈ fpA A) (w.alloc o) w2) : OI w0 w2 A' cap' (l ++ [x]) := by
 subst hn
 have hb := below_trans h.below_ ((Below.refl w.heap.size w).alloc (Nat.le_refl _) o) h.below_.size
 refine ⟨?_, fun b hb' => ?_, below_keeps hb hk hb.size h.new⟩
 · unfold IS
   have : ints (l ++ [x]) = ints l ++ [.int .i64 x] := by simp [ints]
   rw [this, List.length_append]; exact hs'
 · rcases hA' b hb' with h1 | h1
   · exact h.new b h1
   · have := hb.size; omega
theorem oi_alloc {w0 w : World} {A : Option Addr} {cap k : Nat} {l : List Int} (h : OI w0 w A cap l) (hk : l.length = k) (o : Obj) : Sl (w.alloc o) tInt 1 A k cap (ints l) := by
 have := Sl.alloc h.is o; rwa [hk] at this
theorem OM.put {w0 w w1 : World} {A : Option Addr} {cap : Nat} {L : List (List Int)} (h : OM w0 w A cap L) {i : Nat} (hi : i < L.length) {ad : Addr} (hA : A = some ad) (hb : Below w.heap.size w w1) {B : Option Addr} {c : Nat} {l : List Int} (hx : IS w1 B c l) (hf1 : Fresh w.heap.size B) :
  OM w0 (w1.setCell (ad.add i) (.slice B l.length c)) A cap (L.set i l) := by
 subst hA
 obtain ⟨hs, rfl, hO, hf, h0⟩ := h
 have hi' : i < hs.length := by simpa using hi
 have hAl : ∀ b, b ∈ fpA (some ad) → b < w.heap.size := fun b hb' => hO.sl.lt b hb'
 have hRl : ∀ y, y ∈ hs → (∀ b, b ∈ fpA y.1 → b < w.heap.size) := fun y hy b hb' => (hO.rows y hy).lt b hb'
 have hk : Keeps (· ∈ fpA (some ad)) w1 (w1.setCell (ad.add i) (.slice B l.length c)) := (Keeps.refl _ w1).setCell (p := ad.add i) (by rw [block_of_add]; simp) _
 have hget : ∀ (k : Nat) (x : Hd), (hs.set i (B, c, l))[k]? = some x → (k = i ∧ x = (B, c, l)) ∨ (k ≠ i ∧ hs[k]? = some x) := by
  intro k x hx
  rw [List.getElem?_set] at hx
  split at hx
  · rename_i hk; subst hk
    simp at hx
    exact .inl ⟨rfl, hx.symm⟩
  · rename_i hk; exact .inr ⟨fun e => hk e.symm, hx⟩
 have hsz := h0.size
 have hbs := hb.size
 refine ⟨hs.set i (B, c, l), by rw [List.map_set], ⟨?_, fun x hx' => ?_, ?_, fun x hx' b hb1 hb2 => ?_⟩, fun b hb' => ?_, ?_⟩
 · have := (hO.sl.below hb).set (ad := ad) rfl i (Hd.val (B, c, l)) (by simpa using hi')
   rw [← List.map_set] at this
   rw [List.length_set]; exact this
 · rcases List.mem_or_eq_of_mem_set hx' with hx' | hx'
   · exact ((hO.rows x hx').below hb).keeps hk fun b hb' => hO.outer x hx' b hb'
   · subst hx'
     exact hx.keeps hk fun b hb' hb'' => by
      have := hf1 b hb'
      have := hAl b hb''
      omega
 · refine List.pairwise_iff_getElem.2 fun a b ha hb' hab c' h1 h2 => ?_
   rcases hget a _ (List.getElem?_eq_getElem ha) with ⟨ea, e1⟩ | ⟨ea, e1⟩ <;> rcases hget b _ (List.getElem?_eq_getElem hb') with ⟨eb, e2⟩ | ⟨eb, e2⟩
   · omega
   · rw [e1] at h1
     have := hf1 c' h1
     have := hRl _ (List.mem_of_getElem? e2) c' h2
     omega
   · rw [e2] at h2
     have := hf1 c' h2
     have := hRl _ (List.mem_of_getElem? e1) c' h1
     omega
   · exact hO.apart_get e1 e2 (by omega) c' h1 h2
 · rcases List.mem_or_eq_of_mem_set hx' with hx' | hx'
   · exact hO.outer x hx' b hb1 hb2
   · subst hx'
     have := hf1 b hb1
     have := hAl b hb2
     omega
 · rcases List.mem_append.1 hb' with hb' | hb'
   · exact hf b (List.mem_append_left _ hb')
   · obtain ⟨y, hy, hb'⟩ := mem_fpR.1 hb'
     rcases List.mem_or_eq_of_mem_set hy with hy | hy
     · exact hf b (List.mem_append_right _ (mem_fpR.2 ⟨_, hy, hb'⟩))
     · subst hy
       have := hf1 b hb'
       omega
 · exact below_keeps (below_trans h0 hb hsz) hk (by omega) fun b hb' => hf b (List.mem_append_left _ hb')
theorem redTo_mat3 {p : Int} (hp : fieldB p = true) {m n : Nat} {L A : List (List Int)} (hm : Mat p m n L) (hA : Mat p m m A) : ∀ c, c ≤ n → Mat p m m (redTo p L A c).2.2
 | 0, _ => hA
 | c + 1, hc => by
   have hpb := fieldB_bounds hp
   obtain ⟨ld, hR⟩ := redTo_inv hp hm A c (by omega)
   have h1 := redTo_mat3 hp hm hA c (by omega)
   rw [redTo]
   obtain ⟨s, hs⟩ : ∃ s, s = redTo p L A c := ⟨_, rfl⟩
   rw [← hs] at hR h1 ⊢
   rcases colStep_cases hp (show c < n by omega) hR.mat hR.inv.le with ⟨e, _⟩ | ⟨k, iv, k1, k2, k3, _, _, k6, k7, k8⟩
   · rw [e]; exact h1
   · rw [k7]
     have hr : s.1 < m := by omega
     have hse := step_en (p := p) (by omega) h1 hr k2 iv (fun i => en (scaleL p s.1 iv (swapL s.2.1 s.1 k)) i c)
     rw [h1.len]
     exact hse.1
theorem Mat.drop {p : Int} {m n r : Nat} {L : List (List Int)} (h : Mat p m n L) : Mat p (m - r) n (L.drop r) :=
 ⟨by rw [List.length_drop, h.len], fun v hv => h.row v (List.mem_of_mem_drop hv)⟩
theorem RdR.cut {w : World} {A A' : Option Addr} {n : Nat} {hs : List Hd} (h : RdR w A hs) {r c : Nat} (hsl : Sl w 25 1 A' n c ((hs.drop r).map Hd.val)) : RdR w A' (hs.drop r) := by
 refine ⟨fun i x hx => ?_, fun x hx => h.2 x (List.mem_of_mem_drop hx)⟩
 obtain ⟨ad, hA, _, hc, _⟩ := hsl.cell (j := i) (u := x.val) (by rw [List.getElem?_map, hx]; rfl)
 exact ⟨ad, hA, hc⟩
section
variable {w w' : World} {A : Option Addr} {cap : Nat} {hs : List Hd} {L : List (List Int)} {fp : List Nat}
theorem OwR.wr2 (h : OwR w A cap hs) {i : Nat} {B : Option Addr} {c : Nat} {l l' : List Int} (hi : hs[i]? = some (B, c, l)) (hk : Keeps (· ∈ fpA B) w w') (hI : IS w' B c l') (hl : l'.length = l.length) : OwR w' A cap (hs.set i (B, c, l')) := by
 have hil := (List.getElem?_eq_some_iff.1 hi).1
 have hm := List.mem_of_getElem? hi
 have hsetm : (hs.set i (B, c, l')).map Hd.val = hs.map Hd.val := by
  rw [List.map_set]
  have : Hd.val (B, c, l') = Hd.val (B, c, l) := by simp [Hd.val, hl]
  rw [this]
  apply List.ext_getElem?
  intro k
  rw [List.getElem?_set]
  split
  · rename_i hk; subst hk
    rw [List.getElem?_map, hi]
    simp [hil]
  · rfl
 have hget : ∀ (k : Nat) (x : Hd), (hs.set i (B, c, l'))[k]? = some x → ∃ y : Hd, hs[k]? = some y ∧ y.1 = x.1 := by
  intro k x hx
  rw [List.getElem?_set] at hx
  split at hx
  · rename_i hk; subst hk
    simp at hx
    exact ⟨_, hi, by rw [← hx]⟩
  · exact ⟨x, hx, rfl⟩
 refine ⟨?_, fun x hx => ?_, ?_, fun x hx => ?_⟩
 · rw [List.length_set, hsetm]
   exact h.sl.keeps hk fun b hb hb' => h.outer _ hm b hb' hb
 · obtain ⟨k, hkk⟩ := List.mem_iff_getElem?.1 hx
   rw [List.getElem?_set] at hkk
   split at hkk
   · simp at hkk
     rw [← hkk]
     exact hI
   · rename_i hik
     exact (h.rows x (List.mem_of_getElem? hkk)).keeps hk fun b hb hb' => h.apart_get hi hkk hik b hb' hb
 · refine List.pairwise_iff_getElem.2 fun a b ha hb hab => ?_
   obtain ⟨x, hx, ex⟩ := hget a _ (List.getElem?_eq_getElem ha)
   obtain ⟨y, hy, ey⟩ := hget b _ (List.getElem?_eq_getElem hb)
   rw [← ex, ← ey]
   exact h.apart_get hx hy (by omega)
 · obtain ⟨k, hkk⟩ := List.mem_iff_getElem?.1 hx
   obtain ⟨y, hy, e⟩ := hget k x hkk
   rw [← e]; exact h.outer y (List.mem_of_getElem? hy)
theorem RwF.wr2 (h : RwF w A cap L fp) {i : Nat} (hi : i < L.length) {ad : Addr} (hA : A = some ad) {B : Option Addr} {n c : Nat} (hc : w.cell? (ad.add i) = some (.slice B n c)) {l' : List Int} (hl : l'.length = (L.getD i []).length) (hk : Keeps (· ∈ fpA B) w w') (hI : IS w' B c l') : RwF w' A cap (L.set i l') fp ∧ Keeps (· ∈ fp) w w' := by
 obtain ⟨hs, rfl, hO, hf⟩ := h
 obtain ⟨ad', B', c', l, hA', hx, hc', hz, hi'⟩ := hO.get (i := i) (by simpa using hi)
 rw [hA] at hA'
 obtain rfl := Option.some.inj hA'
 rw [hc] at hc'
 injection hc' with hc'
 injection hc' with e1 e2 e3
 subst e1 e3
 rw [getD_map_hd hx] at hl
 have hm := List.mem_of_getElem? hx
 refine ⟨⟨hs.set i (B, c, l'), by rw [List.map_set], hO.wr2 hx hk hI hl, fun b hb => ?_⟩, hk.mono fun b _ hb => hf b (List.mem_append_right _ (mem_fpR.2 ⟨_, hm, hb⟩))⟩
 rcases List.mem_append.1 hb with hb | hb
 · exact hf b (List.mem_append_left _ hb)
 · exact hf b (List.mem_append_right _ (fpR_set hx b hb))
end
theorem cntR_append (L M : List (List Int)) : cntR (L ++ M) = cntR L + cntR M := by
 induction L with
 | nil => simp [cntR]
 | cons l L ih => simp [cntR, ih]; omega
theorem cntR_take_succ {L : List (List Int)} {i : Nat} (h : i < L.length) : cntR (L.take (i + 1)) = cntR (L.take i) + (L.getD i []).length := by
 rw [List.take_add_one, getElem?_getD (d := []) h, cntR_append]; simp [cntR]
theorem cntR_take_le (L : List (List Int)) (i : Nat) : cntR (L.take i) ≤ cntR L := by
 conv => rhs; rw [← List.take_append_drop i L, cntR_append]
 omega
theorem marksR_length (k : Nat) (ns : List Nat) : (marksR k ns).length = ns.length := by
 induction ns generalizing k with
 | nil => rfl
 | cons n ns ih => simp [marksR, ih]
theorem marksR_get : ∀ (L : List (List Int)) (k i : Nat), i < L.length → (marksR k (L.map List.length))[i]? = some (marks (k + cntR (L.take i)) (L.getD i []).length)
 | l :: L, k, 0, _ => by simp [marksR, cntR]
 | l :: L, k, i + 1, h => by
   have := marksR_get L (k + l.length) i (by simpa using h)
   simp only [List.map_cons, marksR, List.getElem?_cons_succ, this, List.take_succ_cons, cntR]
   simp [Nat.add_assoc]
set_option maxHeartbeats 1000000 in
theorem markIntSS_any (A : Option Addr) (c m : Nat) (L : List (List Int)) (fp : List Nat) (k : Nat) (w : World) (h : RwF w A c L fp) (hm : L.length = m) (hml : m ≤ 1048576) (hl : k + cntR L ≤ 17592186044416) :
  Calls Tryd.prog 40 #[.slice A m c, .int .i64 k] w fun e w' => e = .returned (.int .i64 ((k + cntR L : Nat) : Int)) ∧ RwF w' A c (marksR k (L.map List.length)) fp ∧ Keeps (· ∈ fp) w w' := by
 have HM := lH hm; clear hm
 go_enter Tryd.func40, Tryd.ntmps40
 go_wp2_with (fail)
 go_loopw [1, 5] (fun q i wr => ∃ j : Nat, j ≤ m ∧ i = .int .i64 j ∧ q = .int .i64 ((k + cntR (L.take j) : Nat) : Int) ∧ RwF wr A c ((marksR k (L.map List.length)).take j ++ L.drop j) fp ∧ Keeps (· ∈ fp) w wr) (fun _ i _ => m - (intOf i).toNat)
 case atStart => exact ⟨0, Nat.zero_le _, rfl, by simp [cntR], by simpa using h, Keeps.refl _ _⟩
 case round =>
  obtain ⟨j, hj, rfl, rfl, hR, hkp⟩ := hrel
  have hln : ((marksR k (L.map List.length)).take j ++ L.drop j).length = L.length := by rw [List.length_append, List.length_take, marksR_length, List.length_map, List.length_drop, HM.out]; omega
  by_cases hlt : j < m
  · obtain ⟨ad, B, d, hA, hc, _, hI, _⟩ := hR.get (i := j) (by rw [hln, HM.out]; exact hlt)
    have hrow : ((marksR k (L.map List.length)).take j ++ L.drop j).getD j [] = L.getD j [] := by
     have e := get_take_drop (l := marksR k (L.map List.length)) (m := L) (k := j) (by rw [marksR_length, List.length_map]) (by rw [HM.out]; exact hlt)
     simp only [List.getD, e]
    rw [hrow] at hc hI
    have hsz := cntR_take_succ (L := L) (i := j) (by rw [HM.out]; exact hlt)
    have hle := cntR_take_le L (j + 1)
    have hC := markIntS_any B d (L.getD j []) (k + cntR (L.take j)) wr hI (by omega)
    have HC := lH hC
    have HW := lH (fun (w' : World) (hk' : Keeps (· ∈ fpA B) wr w') (hI' : IS w' B d (marks (k + cntR (L.take j)) (L.getD j []).length)) =>
     hR.wr2 (i := j) (by rw [hln, HM.out]; exact hlt) hA hc (l' := marks (k + cntR (L.take j)) (L.getD j []).length) (by rw [marks_length, hrow]) hk' hI')
    have hst := take_append_step (l := marksR k (L.map List.length)) (m := L) (k := j) (by rw [marksR_length, List.length_map]) (marksR_get L k j (by rw [HM.out]; exact hlt))
    have HST := lH hst; have HSZ := lH hsz
    obtain ⟨nj, hnj⟩ : ∃ nj, nj = (L.getD j []).length := ⟨_, rfl⟩
    obtain ⟨cj, hcj⟩ : ∃ cj, cj = cntR (L.take j) := ⟨_, rfl⟩
    have HNJ := lH hnj; have HCJ := lH hcj
    have hC2 := HC.out
    rw [← hnj, ← hcj] at hC2
    rw [← hnj] at hc
    rw [← hcj]
    subst hA
    have hjI : (j : Int) < (m : Int) := by omega
    have HC2 := lH hC2; have HKP := lH hkp; clear hC hC2 HC hst hsz hR hI hrow hln hnj hcj hle hkp h
    go_wp2_with (fail)
    refine HC2.out.mono ?_
    rintro e w1 ⟨rfl, hI1, hk1⟩
    rw [HNJ.out, HCJ.out] at hI1
    obtain ⟨hR1, hk2⟩ := HW.out w1 hk1 hI1
    rw [HST.out] at hR1
    have HR1 := lH hR1
    have HK2 := lH (HKP.out.trans hk2)
    clear hR1 hk2 hI1 hk1
    go_wp2_with (fail)
    go_roundw
    case rel => exact ⟨j + 1, by omega, by go_num, by rw [HSZ.out, ← HNJ.out, ← HCJ.out]; congr 2; omega, HR1.out, HK2.out⟩
    case measure => simp [intOf]; omega
  · obtain rfl : m = j := by omega
    have hR2 : RwF wr A c (marksR k (L.map List.length)) fp := by
     have := hR
     rwa [List.take_of_length_le (by rw [marksR_length, List.length_map, HM.out]; omega), List.drop_of_length_le (by rw [HM.out]; omega), List.append_nil] at this
    have hcn : cntR (L.take m) = cntR L := by rw [List.take_of_length_le (by rw [HM.out]; omega)]
    have HCN := lH hcn; clear hR hln hcn
    go_wp2_with (fail)
    go_ret
    exact ⟨ret_int (by rw [HCN.out]), hR2, hkp⟩
def szV (left : Int) (n : Nat) : Int := if left - n < 0 then -1 else left - n
def szSS : List (List Int) → Int → Int
 | [], left => left
 | l :: L, left => if szV left l.length < 0 then -1 else szSS L (szV left l.length)
def szR (L : List (List Int)) (left : Int) : Int := if szV left L.length < 0 then -1 else szSS L (szV left L.length)
theorem szSS_spec : ∀ (L : List (List Int)) (left : Int), 0 ≤ szSS L left → (∀ l, l ∈ L → (l.length : Int) ≤ left) ∧ (cntR L : Int) ≤ left ∧ szSS L left ≤ left
 | [], left, h => ⟨fun l hl => (by cases hl), h, Int.le_refl _⟩
 | l :: L, left, h => by
   rw [szSS] at h ⊢
   split at h
   · omega
   · rename_i h0
     rw [if_neg h0]
     have e : szV left l.length = left - l.length := by unfold szV at h0 ⊢; split <;> simp_all
     rw [e] at h ⊢
     obtain ⟨h1, h2, h3⟩ := szSS_spec L _ h
     refine ⟨fun m hm => ?_, ?_, by omega⟩
     · rcases List.mem_cons.1 hm with rfl | hm
       · have : 0 ≤ left - (m.length : Int) := by omega
         omega
       · have := h1 m hm; omega
     · show ((l.length + cntR L : Nat) : Int) ≤ left
       omega
theorem szR_spec {L : List (List Int)} {left : Int} (h : 0 ≤ szR L left) : (L.length : Int) ≤ left ∧ (∀ l, l ∈ L → (l.length : Int) ≤ left) ∧ (cntR L : Int) + L.length ≤ left ∧ szR L left ≤ left := by
 unfold szR at h ⊢
 split at h
 · omega
 · rename_i h0
   rw [if_neg h0]
   have e : szV left L.length = left - L.length := by unfold szV at h0 ⊢; split <;> simp_all
   rw [e] at h ⊢
   obtain ⟨h1, h2, h3⟩ := szSS_spec L _ h
   refine ⟨by omega, fun l hl => ?_, by omega, by omega⟩
   have := h1 l hl; omega
set_option maxHeartbeats 400000 in
theorem szIntS_any (A : Option Addr) (c n : Nat) (left : Int) (w : World) (h0 : 0 ≤ left) (h1 : left ≤ 1048576) (hn : n ≤ 9223372036854775807) :
  Calls Tryd.prog 42 #[.slice A n c, .int .i64 left] w fun e w' => e = .returned (.int .i64 (szV left n)) ∧ w = w' := by
 have hw : (-9223372036854775808 : Int) ≤ left - (n : Int) ∧ left - (n : Int) ≤ 9223372036854775807 := by omega
 have ww : IntKind.i64.wrap (left - (n : Int)) = left - (n : Int) := IntWalk.i64_in _ (by omega)
 by_cases hlt : left - (n : Int) < 0
 · have e : szV left n = -1 := if_pos hlt
   rw [e]
   clear e
   go_enter Tryd.func42, Tryd.ntmps42
   go_wp2_with (fail)
   go_ret
   exact ⟨rfl, rfl⟩
 · have e : szV left n = left - (n : Int) := if_neg hlt
   rw [e]
   clear e
   go_enter Tryd.func42, Tryd.ntmps42
   go_wp2_with (fail)
   go_ret
   exact ⟨rfl, rfl⟩
set_option maxHeartbeats 1000000 in
theorem szIntSS_any (A : Option Addr) (c : Nat) (hs : List Hd) (left : Int) (w : World) (h : RdR w A hs) (h0 : 0 ≤ left) (h1 : left ≤ 1048576) (hn : hs.length ≤ 9223372036854775807) (hr : ∀ x, x ∈ hs → x.2.2.length ≤ 9223372036854775807) :
  Calls Tryd.prog 22 #[.slice A hs.length c, .int .i64 left] w fun e w' => e = .returned (.int .i64 (szR (hs.map fun h : Hd => h.2.2) left)) ∧ w = w' := by
 have ww : IntKind.i64.wrap (left - (hs.length : Int)) = left - (hs.length : Int) := IntWalk.i64_in _ (by omega)
 by_cases hlt : left - (hs.length : Int) < 0
 · have e : szR (hs.map fun h : Hd => h.2.2) left = -1 := by unfold szR szV; rw [List.length_map, if_pos hlt]; rfl
   rw [e]
   clear e h hr
   go_enter Tryd.func22, Tryd.ntmps22
   go_wp2_with (fail)
   go_ret
   exact ⟨rfl, rfl⟩
 · obtain ⟨S, hS⟩ : ∃ S, S = szR (hs.map fun h : Hd => h.2.2) left := ⟨_, rfl⟩
   have e : szSS ((hs.drop 0).map fun h : Hd => h.2.2) (left - (hs.length : Int)) = S := by
    rw [hS]; unfold szR szV; rw [List.length_map, if_neg hlt, if_neg hlt]; rfl
   rw [← hS]
   have HE := lH e; clear e hS
   have hle : hs.length ≤ 1048576 := by omega
   go_enter Tryd.func22, Tryd.ntmps22
   go_wp2_with (fail)
   go_loop [1, 5] (fun v i => ∃ (k : Nat) (z : Int), k ≤ hs.length ∧ i = .int .i64 k ∧ v = .int .i64 z ∧ 0 ≤ z ∧ z ≤ 1048576 ∧ szSS ((hs.drop k).map fun h : Hd => h.2.2) z = S) (fun _ i => hs.length - (intOf i).toNat)
   case atStart => exact ⟨0, _, Nat.zero_le _, rfl, rfl, by omega, by omega, HE.out⟩
   case round =>
    obtain ⟨k, z, hk, rfl, rfl, hz0, hz1, he⟩ := hrel
    by_cases hltk : k < hs.length
    · obtain ⟨ad, B, d, l, rfl, hx, hc, hri⟩ := h.at_ hltk
      have hll : l.length ≤ 9223372036854775807 := hr _ (List.mem_of_getElem? hx)
      have hd : (hs.drop k).map (fun h : Hd => h.2.2) = l :: (hs.drop (k + 1)).map fun h : Hd => h.2.2 := by
       rw [List.drop_eq_getElem_cons hltk, List.map_cons]
       congr 1
       rw [List.getElem?_eq_getElem hltk] at hx
       rw [Option.some.inj hx]
      rw [hd, szSS] at he
      have hsz := szIntS_any B d l.length z w hz0 hz1 hll
      have hkI : (k : Int) < (hs.length : Int) := by omega
      clear hx hd h hr
      by_cases hneg : z - (l.length : Int) < 0
      · have e1 : szV z l.length = -1 := if_pos hneg
        rw [e1] at hsz he
        rw [if_pos (by decide)] at he
        subst he
        have HSZ := lH hsz; clear hsz e1 HE
        go_wp2_with (go_at_call 42; refine HSZ.out.mono ?_; rintro e w' ⟨rfl, rfl⟩)
        go_ret
        exact ⟨rfl, rfl⟩
      · have e1 : szV z l.length = z - (l.length : Int) := if_neg hneg
        rw [e1] at hsz he
        rw [if_neg hneg] at he
        have HSZ := lH hsz; have HEE := lH he; clear hsz e1 he
        go_wp2_with (go_at_call 42; refine HSZ.out.mono ?_; rintro e w' ⟨rfl, rfl⟩)
        go_round
        case rel => exact ⟨k + 1, _, by omega, by go_num, rfl, by omega, by omega, HEE.out⟩
        case measure => simp [intOf]; omega
    · obtain rfl : k = hs.length := by omega
      rw [List.drop_length] at he
      have he' : z = S := he
      subst he'
      clear he h hr HE
      go_wp2_with (fail)
      go_ret
      exact ⟨rfl, rfl⟩
def OkR (L : List (List Int)) : Prop := L.length ≤ 1048576 ∧ (∀ x, x ∈ L → x.length ≤ 1048576) ∧ cntR L ≤ 1048576
theorem szR_ok {L : List (List Int)} {left : Int} (h : 0 ≤ szR L left) (hl : left ≤ 1048576) : OkR L ∧ szR L left ≤ left := by
 obtain ⟨h1, h2, h3, h4⟩ := szR_spec h
 exact ⟨⟨by omega, fun x hx => by have := h2 x hx; omega, by omega⟩, h4⟩
theorem szSS_neg : ∀ (L : List (List Int)) (x : Int), 0 ≤ x → szSS L x = -1 ∨ 0 ≤ szSS L x
 | [], x, hx => .inr hx
 | l :: L, x, hx => by
   rw [szSS]; split
   · exact .inl rfl
   · exact szSS_neg L _ (by omega)
theorem szR_neg {L : List (List Int)} {left : Int} (h : szR L left < 0) : szR L left = -1 := by
 unfold szR at h ⊢
 split at h
 · rename_i h0; rw [if_pos h0]
 · rename_i h0
   rw [if_neg h0]
   rcases szSS_neg L (szV left L.length) (by omega) with e | e <;> omega
abbrev Sys := Int × Int × List (List Int)
def RdSysV (w : World) (v : Value) (s : Sys) : Prop := ∃ A c hs, v = .agg #[.int .i64 s.1, .int .i64 s.2.1, .slice A hs.length c] ∧ s.2.2 = hs.map (fun h : Hd => h.2.2) ∧ RdR w A hs
def OwSys (w : World) (v : Value) (s : Sys) (fp : List Nat) : Prop := ∃ A c hs, v = .agg #[.int .i64 s.1, .int .i64 s.2.1, .slice A hs.length c] ∧ s.2.2 = hs.map (fun h : Hd => h.2.2) ∧ OwR w A c hs ∧ fp = fpA A ++ fpR hs
def HeSys (w : World) (v : Value) (s : Sys) (k : Nat) (fp : List Nat) : Prop := ∃ A c hs, v = .agg #[.int .i64 s.1, .int .i64 s.2.1, .slice A hs.length c] ∧ hs.map (fun h : Hd => h.2.2) = marksR k (s.2.2.map List.length) ∧ OwR w A c hs ∧ (∀ b, b ∈ fpA A ++ fpR hs → b ∈ fp)
theorem box3 {w : World} {B : Nat} {x y z : Value} {t : TypeId} (h : w.heap[B]? = some (.cells #[x, y, z] t)) :
  (w.cell? ⟨B, 0, none⟩ = some x ∧ w.cell? ⟨B, 1, none⟩ = some y ∧ w.cell? ⟨B, 2, none⟩ = some z) ∧ (w.frozen? ⟨B, 0, none⟩ = false ∧ w.frozen? ⟨B, 1, none⟩ = false ∧ w.frozen? ⟨B, 2, none⟩ = false) := by
 refine ⟨⟨?_, ?_, ?_⟩, ?_, ?_, ?_⟩ <;> simp [World.cell?, World.frozen?, h]
theorem box2 {w : World} {B : Nat} {x y : Value} {t : TypeId} (h : w.heap[B]? = some (.cells #[x, y] t)) :
  (w.cell? ⟨B, 0, none⟩ = some x ∧ w.cell? ⟨B, 1, none⟩ = some y) ∧ (w.frozen? ⟨B, 0, none⟩ = false ∧ w.frozen? ⟨B, 1, none⟩ = false) := by
 refine ⟨⟨?_, ?_⟩, ?_, ?_⟩ <;> simp [World.cell?, World.frozen?, h]
section
variable {w w' : World} {v : Value} {s : Sys} {k : Nat} {fp : List Nat}
theorem RdSysV.shape (h : RdSysV w v s) : ∃ A n c, v = .agg #[.int .i64 s.1, .int .i64 s.2.1, .slice A n c] := by
 obtain ⟨A, c, hs, rfl, _⟩ := h; exact ⟨_, _, _, rfl⟩
theorem OwSys.shape (h : OwSys w v s fp) : ∃ A n c, v = .agg #[.int .i64 s.1, .int .i64 s.2.1, .slice A n c] := by
 obtain ⟨A, c, hs, rfl, _⟩ := h; exact ⟨_, _, _, rfl⟩
theorem OwSys.rd (h : OwSys w v s fp) : RdSysV w v s := by
 obtain ⟨A, c, hs, rfl, hL, h, _⟩ := h; exact ⟨A, c, hs, rfl, hL, h.rd⟩
theorem RdSysV.below (h : RdSysV w v s) (hb : Below w.heap.size w w') : RdSysV w' v s := by
 obtain ⟨A, c, hs, rfl, hL, h⟩ := h; exact ⟨A, c, hs, rfl, hL, h.below hb⟩
theorem OwSys.below (h : OwSys w v s fp) (hb : Below w.heap.size w w') : OwSys w' v s fp := by
 obtain ⟨A, c, hs, rfl, hL, h, e⟩ := h; exact ⟨A, c, hs, rfl, hL, h.below hb, e⟩
theorem OwSys.keeps (h : OwSys w v s fp) {S : Nat → Prop} (hk : Keeps S w w') (hS : ∀ b, b ∈ fp → ¬ S b) : OwSys w' v s fp := by
 obtain ⟨A, c, hs, rfl, hL, h, rfl⟩ := h; exact ⟨A, c, hs, rfl, hL, h.keeps hk hS, rfl⟩
theorem OwSys.lt (h : OwSys w v s fp) : LtL w.heap.size fp := by
 obtain ⟨A, c, hs, rfl, hL, h, rfl⟩ := h; exact h.lt
theorem HeSys.below (h : HeSys w v s k fp) (hb : Below w.heap.size w w') : HeSys w' v s k fp := by
 obtain ⟨A, c, hs, rfl, hL, h, e⟩ := h; exact ⟨A, c, hs, rfl, hL, h.below hb, e⟩
theorem HeSys.keeps (h : HeSys w v s k fp) {S : Nat → Prop} (hk : Keeps S w w') (hS : ∀ b, b ∈ fp → ¬ S b) : HeSys w' v s k fp := by
 obtain ⟨A, c, hs, rfl, hL, h, e⟩ := h; exact ⟨A, c, hs, rfl, hL, h.keeps hk fun b hb => hS b (e b hb), e⟩
end
abbrev Mt := Int × List (List Int)
def RdMtV (w : World) (v : Value) (s : Mt) : Prop := ∃ A c hs, v = .agg #[.int .i64 s.1, .slice A hs.length c] ∧ s.2 = hs.map (fun h : Hd => h.2.2) ∧ RdR w A hs
def OwMt (w : World) (v : Value) (s : Mt) (fp : List Nat) : Prop := ∃ A c hs, v = .agg #[.int .i64 s.1, .slice A hs.length c] ∧ s.2 = hs.map (fun h : Hd => h.2.2) ∧ OwR w A c hs ∧ fp = fpA A ++ fpR hs
def HeMt (w : World) (v : Value) (s : Mt) (k : Nat) (fp : List Nat) : Prop := ∃ A c hs, v = .agg #[.int .i64 s.1, .slice A hs.length c] ∧ hs.map (fun h : Hd => h.2.2) = marksR k (s.2.map List.length) ∧ OwR w A c hs ∧ (∀ b, b ∈ fpA A ++ fpR hs → b ∈ fp)
section
variable {w w' : World} {v : Value} {s : Mt} {k : Nat} {fp : List Nat}
theorem RdMtV.shape (h : RdMtV w v s) : ∃ A n c, v = .agg #[.int .i64 s.1, .slice A n c] := by
 obtain ⟨A, c, hs, rfl, _⟩ := h; exact ⟨_, _, _, rfl⟩
theorem OwMt.shape (h : OwMt w v s fp) : ∃ A n c, v = .agg #[.int .i64 s.1, .slice A n c] := by
 obtain ⟨A, c, hs, rfl, _⟩ := h; exact ⟨_, _, _, rfl⟩
theorem OwMt.rd (h : OwMt w v s fp) : RdMtV w v s := by
 obtain ⟨A, c, hs, rfl, hL, h, _⟩ := h; exact ⟨A, c, hs, rfl, hL, h.rd⟩
theorem RdMtV.below (h : RdMtV w v s) (hb : Below w.heap.size w w') : RdMtV w' v s := by
 obtain ⟨A, c, hs, rfl, hL, h⟩ := h; exact ⟨A, c, hs, rfl, hL, h.below hb⟩
theorem OwMt.below (h : OwMt w v s fp) (hb : Below w.heap.size w w') : OwMt w' v s fp := by
 obtain ⟨A, c, hs, rfl, hL, h, e⟩ := h; exact ⟨A, c, hs, rfl, hL, h.below hb, e⟩
theorem OwMt.keeps (h : OwMt w v s fp) {S : Nat → Prop} (hk : Keeps S w w') (hS : ∀ b, b ∈ fp → ¬ S b) : OwMt w' v s fp := by
 obtain ⟨A, c, hs, rfl, hL, h, rfl⟩ := h; exact ⟨A, c, hs, rfl, hL, h.keeps hk hS, rfl⟩
theorem OwMt.lt (h : OwMt w v s fp) : LtL w.heap.size fp := by
 obtain ⟨A, c, hs, rfl, hL, h, rfl⟩ := h; exact h.lt
theorem HeMt.below (h : HeMt w v s k fp) (hb : Below w.heap.size w w') : HeMt w' v s k fp := by
 obtain ⟨A, c, hs, rfl, hL, h, e⟩ := h; exact ⟨A, c, hs, rfl, hL, h.below hb, e⟩
theorem HeMt.keeps (h : HeMt w v s k fp) {S : Nat → Prop} (hk : Keeps S w w') (hS : ∀ b, b ∈ fp → ¬ S b) : HeMt w' v s k fp := by
 obtain ⟨A, c, hs, rfl, hL, h, e⟩ := h; exact ⟨A, c, hs, rfl, hL, h.keeps hk fun b hb => hS b (e b hb), e⟩
end
theorem box_below {w w' : World} {B : Nat} {o : Obj} (h : w.heap[B]? = some o) (hb : Below w.heap.size w w') : w'.heap[B]? = some o := (hb.block B (Array.getElem?_eq_some_iff.1 h).1).trans h
theorem box_keeps {w w' : World} {S : Nat → Prop} {B : Nat} {o : Obj} (h : w.heap[B]? = some o) (hk : Keeps S w w') (hS : ¬ S B) : w'.heap[B]? = some o := (hk.block B (Array.getElem?_eq_some_iff.1 h).1 hS).trans h
theorem box_lt {w : World} {B : Nat} {o : Obj} (h : w.heap[B]? = some o) : B < w.heap.size := (Array.getElem?_eq_some_iff.1 h).1
theorem below_alloc (w : World) (o : Obj) : Below w.heap.size w (w.alloc o) := (Below.refl _ _).alloc (Nat.le_refl _) _
def rowsB (p n : Int) (L : List (List Int)) : Bool := L.all fun l => decide ((l.length : Int) = n) && inB 0 (p - 1) l
theorem rowsB_take_succ {p n : Int} {hs : List Hd} {k : Nat} {B : Option Addr} {c : Nat} {l : List Int} (h : hs[k]? = some (B, c, l)) :
  rowsB p n ((hs.take (k + 1)).map fun h : Hd => h.2.2) = (rowsB p n ((hs.take k).map fun h : Hd => h.2.2) && (decide ((l.length : Int) = n) && inB 0 (p - 1) l)) := by
 rw [List.take_add_one, h]
 simp [rowsB]
theorem rowsB_false {p n : Int} {hs : List Hd} {k : Nat} {B : Option Addr} {c : Nat} {l : List Int} (h : hs[k]? = some (B, c, l)) (hl : (decide ((l.length : Int) = n) && inB 0 (p - 1) l) = false) : rowsB p n (hs.map fun h : Hd => h.2.2) = false := by
 rw [Bool.eq_false_iff]
 intro hh
 have := List.all_eq_true.1 hh l (List.mem_map.2 ⟨_, List.mem_of_getElem? h, rfl⟩)
 rw [hl] at this; cases this
set_option maxHeartbeats 400000 in
theorem spRows_any (p n : Int) (A : Option Addr) (c : Nat) (hs : List Hd) (w : World) (h : RdR w A hs) (hl : hs.length ≤ 17592186044416) (hr : ∀ x, x ∈ hs → x.2.2.length ≤ 17592186044416) (hp : 0 ≤ p) (hp' : p ≤ 97) :
  Calls Tryd.prog 53 #[.int .i64 p, .int .i64 n, .slice A hs.length c] w fun e w' => e = .returned (.bool (rowsB p n (hs.map fun h : Hd => h.2.2))) ∧ w = w' := by
 go_enter Tryd.func53, Tryd.ntmps53
 go_wp2_with (fail)
 go_loop [11] (fun i => ∃ k : Nat, k ≤ hs.length ∧ i = .int .i64 k ∧ rowsB p n ((hs.take k).map fun h : Hd => h.2.2) = true) (fun i => hs.length - (intOf i).toNat)
 case atStart => exact ⟨0, Nat.zero_le _, rfl, rfl⟩
 case round =>
  obtain ⟨k, hk, rfl, ht⟩ := hrel
  have HT := lH ht; clear ht
  by_cases hlt : k < hs.length
  · obtain ⟨ad, B, d, l, rfl, hx, hc, hri⟩ := h.at_ hlt
    have hll : l.length ≤ 17592186044416 := hr _ (List.mem_of_getElem? hx)
    have HX := lH hx
    have hkI : (k : Int) < (hs.length : Int) := by omega
    clear hx h hr
    by_cases hn : (l.length : Int) = n
    · have h1 : ((l.length : Int) != n) = false := by simp [hn]
      have HN := lH hn
      have hF := fdIn_any p B d l w hri hll hp hp'
      clear hn
      by_cases hb : inB 0 (p - 1) l = true
      · rw [hb] at hF
        have HF := lH hF; have HB := lH hb; clear hF hb
        go_wp2_with (go_at_call 24; refine HF.out.mono ?_; rintro e w' ⟨rfl, rfl⟩)
        go_round
        case rel => exact ⟨k + 1, by omega, by go_num, by rw [rowsB_take_succ HX.out, HT.out, HB.out]; simp [HN.out]⟩
        case measure => simp [intOf]; omega
      · have hb' : inB 0 (p - 1) l = false := by simpa using hb
        rw [hb'] at hF
        have HF := lH hF; have HB := lH hb'; clear hF hb hb'
        go_wp2_with (go_at_call 24; refine HF.out.mono ?_; rintro e w' ⟨rfl, rfl⟩)
        go_ret
        exact ⟨ret_bool (rowsB_false HX.out (by rw [HB.out]; simp)).symm, rfl⟩
    · have h1 : ((l.length : Int) != n) = true := by simp [hn]
      have HN := lH hn; clear hn
      go_wp2_with (fail)
      go_ret
      exact ⟨ret_bool (rowsB_false HX.out (by simp [HN.out])).symm, rfl⟩
  · obtain rfl : k = hs.length := by omega
    clear h hr
    go_wp2_with (fail)
    go_ret
    exact ⟨ret_bool (by have := HT.out; rw [List.take_length] at this; exact this.symm), rfl⟩
set_option maxHeartbeats 400000 in
theorem areVectors_any (p n : Int) (A : Option Addr) (c : Nat) (hs : List Hd) (w : World) (h : RdR w A hs) (hl : hs.length ≤ 17592186044416) (hr : ∀ x, x ∈ hs → x.2.2.length ≤ 17592186044416) :
  Calls Tryd.prog 63 #[.int .i64 p, .slice A hs.length c, .int .i64 n] w fun e w' => e = .returned (.bool (rowsB p n (hs.map fun h : Hd => h.2.2))) ∧ w = w' := by
 go_enter Tryd.func63, Tryd.ntmps63
 go_wp2_with (fail)
 go_loop [11] (fun i => ∃ k : Nat, k ≤ hs.length ∧ i = .int .i64 k ∧ rowsB p n ((hs.take k).map fun h : Hd => h.2.2) = true) (fun i => hs.length - (intOf i).toNat)
 case atStart => exact ⟨0, Nat.zero_le _, rfl, rfl⟩
 case round =>
  obtain ⟨k, hk, rfl, ht⟩ := hrel
  have HT := lH ht; clear ht
  by_cases hlt : k < hs.length
  · obtain ⟨ad, B, d, l, rfl, hx, hc, hri⟩ := h.at_ hlt
    have hll : l.length ≤ 17592186044416 := hr _ (List.mem_of_getElem? hx)
    have HX := lH hx
    have hkI : (k : Int) < (hs.length : Int) := by omega
    have hF := isVector_any p B d l n w hri hll
    clear hx h hr
    by_cases hb : (decide ((l.length : Int) = n) && inB 0 (p - 1) l) = true
    · rw [hb] at hF
      have HF := lH hF; have HB := lH hb; clear hF hb
      go_wp2_with (go_at_call 34; refine HF.out.mono ?_; rintro e w' ⟨rfl, rfl⟩)
      go_round
      case rel => exact ⟨k + 1, by omega, by go_num, by rw [rowsB_take_succ HX.out, HT.out, HB.out]; rfl⟩
      case measure => simp [intOf]; omega
    · have hb' : (decide ((l.length : Int) = n) && inB 0 (p - 1) l) = false := by simpa using hb
      rw [hb'] at hF
      have HF := lH hF; have HB := lH hb'; clear hF hb hb'
      go_wp2_with (go_at_call 34; refine HF.out.mono ?_; rintro e w' ⟨rfl, rfl⟩)
      go_ret
      exact ⟨ret_bool (rowsB_false HX.out HB.out).symm, rfl⟩
  · obtain rfl : k = hs.length := by omega
    clear h hr
    go_wp2_with (fail)
    go_ret
    exact ⟨ret_bool (by have := HT.out; rw [List.take_length] at this; exact this.symm), rfl⟩
def sysB (p : Int) (s : Sys) : Bool := fieldB p && ((decide (0 ≤ s.1) && decide (s.1 ≤ 24)) && ((decide (0 ≤ s.2.1) && decide (s.2.1 ≤ 100)) && (decide (s.2.2.length ≤ 160) && rowsB p (s.1 + s.2.1) s.2.2)))
set_option maxHeartbeats 1000000 in
theorem syGood_any (p : Int) {v : Value} {s : Sys} (w : World) (h : RdSysV w v s) (hn : s.2.2.length ≤ 1048576) (hr : ∀ x, x ∈ s.2.2 → x.length ≤ 1048576) :
  Calls Tryd.prog 23 #[.int .i64 p, v] w fun e w' => e = .returned (.bool (sysB p s)) ∧ Below w.heap.size w w' := by
 obtain ⟨A, c, hs, rfl, hL, hR⟩ := h
 obtain ⟨a, b, L⟩ := s
 have hL' : L = hs.map (fun h : Hd => h.2.2) := hL
 subst hL'
 have hb : Below w.heap.size w (w.alloc (.cells #[.int .i64 a, .int .i64 b, .slice A hs.length c] 29)) := (Below.refl w.heap.size w).alloc (Nat.le_refl _) _
 have hl : hs.length ≤ 1048576 := by have : (hs.map fun h : Hd => h.2.2).length ≤ 1048576 := hn; simpa using this
 have hrr : ∀ x, x ∈ hs → x.2.2.length ≤ 17592186044416 := fun x hx => by have := hr _ (List.mem_map_of_mem hx); omega
 have hR' := hR.below hb
 clear hL hR hn hr
 by_cases h1 : fieldB p = true
 case neg =>
  have h1' : fieldB p = false := by simpa using h1
  have e : sysB p (a, b, hs.map fun h : Hd => h.2.2) = false := by unfold sysB; rw [h1']; rfl
  rw [e]
  clear e h1 hR' hrr
  go_enter Tryd.func23, Tryd.ntmps23
  go_wp2_with (go_at_call 51; refine (fdGood_any _ _).mono ?_; rintro e w' ⟨rfl, rfl⟩)
  go_ret
  exact ⟨rfl, hb⟩
 have hpb := fieldB_bounds h1
 by_cases h2 : (decide (0 ≤ a) && decide (a ≤ 24)) = true
 case neg =>
  have h2' : (decide (0 ≤ a) && decide (a ≤ 24)) = false := by simpa using h2
  have e : sysB p (a, b, hs.map fun h : Hd => h.2.2) = false := by unfold sysB; rw [h2', h1]; rfl
  have hc := fun W => l1In_any a 0 24 W
  rw [h2'] at hc
  rw [e]
  have HC := lH hc; clear e h2 h2' hc hR' hrr
  go_enter Tryd.func23, Tryd.ntmps23
  go_wp2_with (first | (go_at_call 51; refine (fdGood_any _ _).mono ?_; rintro e w' ⟨rfl, rfl⟩) | (go_at_call 52; refine (HC.out _).mono ?_; rintro e w' ⟨rfl, rfl⟩))
  go_ret
  exact ⟨rfl, hb⟩
 have hc2 := fun W => l1In_any a 0 24 W
 rw [h2] at hc2
 have HC2 := lH hc2
 have ha : 0 ≤ a ∧ a ≤ 24 := by simpa using h2
 by_cases h3 : (decide (0 ≤ b) && decide (b ≤ 100)) = true
 case neg =>
  have h3' : (decide (0 ≤ b) && decide (b ≤ 100)) = false := by simpa using h3
  have e : sysB p (a, b, hs.map fun h : Hd => h.2.2) = false := by unfold sysB; rw [h2, h1]; simp only [h3']; rfl
  have hc := fun W => l1In_any b 0 100 W
  rw [h3'] at hc
  rw [e]
  have HC := lH hc; clear e h2 hc2 h3 h3' hc hR' hrr
  go_enter Tryd.func23, Tryd.ntmps23
  go_wp2_with (fail)
  refine (fdGood_any _ _).mono ?_; rintro e w' ⟨rfl, rfl⟩
  go_wp2_with (fail)
  refine (HC2.out _).mono ?_; rintro e w' ⟨rfl, rfl⟩
  go_wp2_with (fail)
  refine (HC.out _).mono ?_; rintro e w' ⟨rfl, rfl⟩
  go_wp2_with (fail)
  go_ret
  exact ⟨rfl, hb⟩
 have hc3 := fun W => l1In_any b 0 100 W
 rw [h3] at hc3
 have HC3 := lH hc3
 have hbb : 0 ≤ b ∧ b ≤ 100 := by simpa using h3
 have hab : 0 ≤ a + b ∧ a + b ≤ 124 := by omega
 have e0 : sysB p (a, b, hs.map fun h : Hd => h.2.2) = (decide (hs.length ≤ 160) && rowsB p (a + b) (hs.map fun h : Hd => h.2.2)) := by unfold sysB; rw [h2, h1, List.length_map]; simp only [h3]; rfl
 rw [e0]
 clear e0 h2 h3 hc2 hc3
 by_cases h4 : hs.length ≤ 160
 case neg =>
  have h4' : decide ((hs.length : Int) ≤ 160) = false := decide_eq_false (by omega)
  have e : (decide (hs.length ≤ 160) && rowsB p (a + b) (hs.map fun h : Hd => h.2.2)) = false := by rw [decide_eq_false h4]; rfl
  rw [e]
  clear e hR' hrr
  go_enter Tryd.func23, Tryd.ntmps23
  go_wp2_with (fail)
  refine (fdGood_any _ _).mono ?_; rintro e w' ⟨rfl, rfl⟩
  go_wp2_with (fail)
  refine (HC2.out _).mono ?_; rintro e w' ⟨rfl, rfl⟩
  go_wp2_with (fail)
  refine (HC3.out _).mono ?_; rintro e w' ⟨rfl, rfl⟩
  go_wp2_with (fail)
  go_ret
  exact ⟨rfl, hb⟩
 have h4' : decide ((hs.length : Int) ≤ 160) = true := decide_eq_true (by omega)
 have e : (decide (hs.length ≤ 160) && rowsB p (a + b) (hs.map fun h : Hd => h.2.2)) = rowsB p (a + b) (hs.map fun h : Hd => h.2.2) := by rw [decide_eq_true h4]; rfl
 rw [e]
 have hc := spRows_any p (a + b) A c hs _ hR' (by omega) hrr (by omega) (by omega)
 obtain ⟨B, hB⟩ : ∃ B, B = rowsB p (a + b) (hs.map fun h : Hd => h.2.2) := ⟨_, rfl⟩
 rw [← hB] at hc ⊢
 have HC := lH hc; clear e hR' hrr hc hB
 go_enter Tryd.func23, Tryd.ntmps23
 go_wp2_with (fail)
 refine (fdGood_any _ _).mono ?_; rintro e w' ⟨rfl, rfl⟩
 go_wp2_with (fail)
 refine (HC2.out _).mono ?_; rintro e w' ⟨rfl, rfl⟩
 go_wp2_with (fail)
 refine (HC3.out _).mono ?_; rintro e w' ⟨rfl, rfl⟩
 go_wp2_with (fail)
 refine HC.out.mono ?_; rintro e w' ⟨rfl, rfl⟩
 go_wp2_with (fail)
 go_ret
 exact ⟨rfl, hb⟩
set_option maxHeartbeats 1000000 in
theorem eqSystem_law {v v' : Value} {s t : Sys} {w : World} (h : RdSysV w v s) (h' : RdSysV w v' t) (ok : OkR s.2.2) :
  Calls Tryd.prog 11 #[v, v'] w fun e w' => e = .returned (.bool (decide (s = t))) ∧ Below w.heap.size w w' := by
 obtain ⟨hn, hr, _⟩ := ok
 obtain ⟨A, c, hs, rfl, hL, hR⟩ := h
 obtain ⟨B, d, gs, rfl, hM, hS⟩ := h'
 obtain ⟨a1, b1, L⟩ := s
 obtain ⟨a2, b2, M⟩ := t
 have hL' : L = hs.map (fun h : Hd => h.2.2) := hL
 have hM' : M = gs.map (fun h : Hd => h.2.2) := hM
 subst hL' hM'
 have hb : Below w.heap.size w ((w.alloc (.cells #[.int .i64 a1, .int .i64 b1, .slice A hs.length c] 29)).alloc (.cells #[.int .i64 a2, .int .i64 b2, .slice B gs.length d] 29)) :=
  ((Below.refl _ _).alloc (Nat.le_refl _) _).alloc (by simp) _
 have hC := eqIntSS_any A B c d hs gs _ (hR.below hb) (hS.below hb) (by have : (hs.map fun h : Hd => h.2.2).length ≤ 1048576 := hn; simp at this; omega) (fun x hx => by have := hr _ (List.mem_map_of_mem hx); omega)
 have HC := lH hC; clear hC hL hM hR hS hr
 by_cases e0 : a1 = a2
 · have h0 : (a1 != a2) = false := by simp [e0]
   have E0 := lH e0; clear e0
   by_cases e1 : b1 = b2
   · have h1 : (b1 != b2) = false := by simp [e1]
     have E1 := lH e1; clear e1
     go_enter Tryd.func11, Tryd.ntmps11
     go_wp2_with (fail)
     have hC2 := HC.out
     by_cases e9 : (hs.map fun h : Hd => h.2.2) = gs.map fun h : Hd => h.2.2
     · rw [decide_eq_true e9] at hC2
       have E9 := lH e9; clear e9
       refine hC2.mono ?_
       clear hC2
       rintro e w1 ⟨rfl, n, rfl⟩
       go_wp2_with (fail)
       go_ret
       exact ⟨ret_bool (decide_eq_true (by rw [E0.out, E1.out, E9.out])).symm, below_drewN hb n⟩
     · rw [decide_eq_false e9] at hC2
       have E9 := lH e9; clear e9
       refine hC2.mono ?_
       clear hC2
       rintro e w1 ⟨rfl, n, rfl⟩
       go_wp2_with (fail)
       go_ret
       exact ⟨ret_bool (decide_eq_false (fun e => E9.out (congrArg (·.2.2) e))).symm, below_drewN hb n⟩
   · have h1 : (b1 != b2) = true := by simp [e1]
     have E1 := lH e1; clear e1
     go_enter Tryd.func11, Tryd.ntmps11
     go_wp2_with (fail)
     go_ret
     exact ⟨ret_bool (by have := E1.out; simp [this]), hb⟩
 · have h0 : (a1 != a2) = true := by simp [e0]
   have E0 := lH e0; clear e0
   go_enter Tryd.func11, Tryd.ntmps11
   go_wp2_with (fail)
   go_ret
   exact ⟨ret_bool (by have := E0.out; simp [this]), hb⟩
set_option maxHeartbeats 1000000 in
theorem markSystem_law {v : Value} {s : Sys} {fp : List Nat} {K : Int} {w : World} (k : Nat) (h : OwSys w v s fp) (hK : K = (k : Int)) (ok : OkR s.2.2) (hl : k + cntR s.2.2 ≤ 17592186044416) :
  Calls Tryd.prog 12 #[v, .int .i64 K] w fun e w' => e = .returned (.int .i64 (K + (cntR s.2.2 : Int))) ∧ HeSys w' v s k fp ∧ Keeps (· ∈ fp) w w' := by
 obtain ⟨A, c, hs, rfl, hL, hO, rfl⟩ := h
 subst hK
 have hb : Below w.heap.size w (w.alloc (.cells #[.int .i64 s.1, .int .i64 s.2.1, .slice A hs.length c] 29)) := below_alloc _ _
 have hlen : s.2.2.length = hs.length := by rw [hL, List.length_map]
 have hC := markIntSS_any A c hs.length s.2.2 (fpA A ++ fpR hs) k _ ⟨hs, hL, hO.below hb, fun b hb => hb⟩ hlen (by have := ok.1; omega) hl
 have HC := lH hC; have HL := lH hlen; clear hC hlen hL ok
 go_enter Tryd.func12, Tryd.ntmps12
 go_wp2_with (fail)
 refine HC.out.mono ?_
 rintro e w1 ⟨rfl, hR, hk⟩
 go_wp2_with (fail)
 go_ret
 obtain ⟨gs, hg, hO', hf⟩ := hR
 have hgl : gs.length = hs.length := by
  have := congrArg List.length hg
  rw [marksR_length, List.length_map, List.length_map, HL.out] at this; exact this.symm
 refine ⟨ret_int (by omega), ⟨A, c, gs, by rw [hgl], hg.symm, hO', hf⟩, (Keeps.of_below hb _).trans hk⟩
structure OuR (w0 w : World) (A : Option Addr) (cap : Nat) (hs : List Hd) : Prop where
 sl : Sl w 25 1 A hs.length cap (hs.map Hd.val)
 rows : ∀ h, h ∈ hs → RdI w0 h.1 h.2.2
 new : ∀ b, b ∈ fpA A → w0.heap.size ≤ b
 below_ : Below w0.heap.size w0 w
section
variable {w0 w w' : World} {A : Option Addr} {cap : Nat} {hs : List Hd}
theorem OuR.nil (w : World) : OuR w w none 0 [] := ⟨Sl.nil _ _ _, fun h hh => (by cases hh), fun b hb => by simp at hb, Below.refl _ _⟩
theorem OuR.below (h : OuR w0 w A cap hs) (hb : Below w.heap.size w w') : OuR w0 w' A cap hs := ⟨h.sl.below hb, h.rows, h.new, below_trans h.below_ hb h.below_.size⟩
theorem OuR.rdr (h : OuR w0 w A cap hs) : RdR w A hs := by
 refine ⟨fun i x hx => ?_, fun x hx => (h.rows x hx).below h.below_⟩
 obtain ⟨ad, hA, _, hc, _⟩ := h.sl.cell (j := i) (u := x.val) (by simp [hx])
 exact ⟨ad, hA, hc⟩
theorem OuR.snoc {w1 w2 : World} (h : OuR w0 w A cap hs) (hb : Below w.heap.size w w1) {x : Hd} (hx : RdI w0 x.1 x.2.2) {A' : Option Addr} {cap' n : Nat} (hn : n = hs.length + 1) (hs' : Sl w2 25 1 A' n cap' (hs.map Hd.val ++ [x.val])) (hA' : ∀ b, b ∈ fpA A' → b ∈ fpA A ∨ w1.heap.size ≤ b) (hk : Keeps (· ∈ fpA A) w1 w2) : OuR w0 w2 A' cap' (hs ++ [x]) := by
 subst hn
 have hbw := below_trans h.below_ hb h.below_.size
 refine ⟨by simpa using hs', fun y hy => ?_, fun b hb' => ?_, below_keeps hbw hk hbw.size h.new⟩
 · rcases List.mem_append.1 hy with hy | hy
   · exact h.rows y hy
   · obtain rfl := List.mem_singleton.1 hy; exact hx
 · rcases hA' b hb' with h1 | h1
   · exact h.new b h1
   · have := hbw.size; omega
end
theorem rowsB_mat {p n : Int} {L : List (List Int)} {k : Nat} (h : rowsB p n L = true) (hk : n = (k : Int)) : Mat p L.length k L := by
 refine ⟨rfl, fun v hv => ?_⟩
 have := List.all_eq_true.1 h v hv
 simp only [Bool.and_eq_true, decide_eq_true_eq] at this
 refine ⟨by omega, fun x hx => ?_⟩
 have := inB_iff.1 this.2 x hx
 omega
structure SysOk (p : Int) (s : Sys) : Prop where
 fld : fieldB p = true
 vis : 0 ≤ s.1 ∧ s.1 ≤ 24
 hid : 0 ≤ s.2.1 ∧ s.2.1 ≤ 100
 len : s.2.2.length ≤ 160
 mat : Mat p s.2.2.length (s.1 + s.2.1).toNat s.2.2
theorem SysOk.of {p : Int} {s : Sys} (h : sysB p s = true) : SysOk p s := by
 unfold sysB at h
 simp only [Bool.and_eq_true, decide_eq_true_eq] at h
 obtain ⟨h1, h2, h3, h4, h5⟩ := h
 exact ⟨h1, h2, h3, h4, rowsB_mat h5 (by omega)⟩
theorem SysOk.ok {p : Int} {s : Sys} (h : SysOk p s) : s.2.2.length ≤ 1048576 ∧ ∀ x, x ∈ s.2.2 → x.length ≤ 1048576 :=
 ⟨by have := h.len; omega, fun x hx => by have := (h.mat.row x hx).1; have := h.vis; have := h.hid; omega⟩
theorem nullM_red {p : Int} (hp : fieldB p = true) (n : Nat) (L : List (List Int)) : RedL p n (nullM p n L) := by
 have hpb := fieldB_bounds hp
 unfold nullM
 refine (redM_spec hp ?_).1
 exact nvTo_mat (by omega) n _ n
theorem red_len {p : Int} {n : Nat} {R : List (List Int)} (hr : RedL p n R) : R.length ≤ n := by
 obtain ⟨_, ld, h⟩ := hr
 have key : ∀ i, i < R.length → i ≤ ld i := by
  intro i
  induction i with
  | zero => intro _; omega
  | succ i ih => intro hi; have := ih (by omega); have := h.mono i (i + 1) (by omega) hi; omega
 rcases Nat.eq_zero_or_pos R.length with h0 | h0
 · omega
 · have h1 := key (R.length - 1) (by omega)
   have h2 := h.lt (R.length - 1) (by omega)
   omega
end Go.Proofs.YtjompikdkhhlgaaDoor
namespace Go.Proofs.YtjompikdkhhlgaaDoor
def SolE (p : Int) (n : Nat) (E : List (List Int)) (x : Nat → Int) : Prop := ∀ i, i < E.length → p ∣ (sm n fun j => en E i j * x j) - en E i n
def HomE (p : Int) (n : Nat) (E : List (List Int)) (d : Nat → Int) : Prop := ∀ i, i < E.length → p ∣ sm n fun j => en E i j * d j
def backV (n : Nat) (v : List Int) : List Int := (v.take n).reverse ++ [v.getD n 0]
def fsTo (n : Nat) (R : List (List Int)) : Nat → List Int
 | 0 => List.replicate n 0
 | k + 1 => (fsTo n R k).set (n - 1 - leadV (R.getD k [])) ((R.getD k []).getD n 0)
def fsM (p : Int) (n : Nat) (E : List (List Int)) : List Int × Bool :=
 if (redM p (n + 1) (E.map (backV n))).any (fun v => leadV v == n) then ([], false) else (fsTo n (redM p (n + 1) (E.map (backV n))) (redM p (n + 1) (E.map (backV n))).length, true)
theorem sm_left (n : Nat) (f : Nat → Int) : sm (n + 1) f = f 0 + sm n fun j => f (j + 1) := by
 induction n with
 | zero => simp [sm]
 | succ n ih => rw [sm, ih, sm]; omega
theorem sm_rev (n : Nat) : ∀ f : Nat → Int, sm n f = sm n fun j => f (n - 1 - j) := by
 induction n with
 | zero => intro f; rfl
 | succ n ih =>
   intro f
   rw [sm_left n (fun j => f (n + 1 - 1 - j)), sm, ih f, Int.add_comm]
   congr 1
   refine sm_congr fun j hj => ?_
   rw [show n + 1 - 1 - (j + 1) = n - 1 - j by omega]
theorem backV_length {n : Nat} {v : List Int} (h : v.length = n + 1) : (backV n v).length = n + 1 := by simp [backV, h]
theorem backV_lt {n j : Nat} {v : List Int} (h : v.length = n + 1) (hj : j < n) : (backV n v).getD j 0 = v.getD (n - 1 - j) 0 := by
 have h1 : (v.take n).length = n := by simp [h]
 unfold backV
 simp only [List.getD_eq_getElem?_getD]
 rw [List.getElem?_append_left (by rw [List.length_reverse, h1]; exact hj), List.getElem?_reverse (by rw [h1]; exact hj), h1, List.getElem?_take_of_lt (by omega)]
theorem backV_at {n : Nat} {v : List Int} (h : v.length = n + 1) : (backV n v).getD n 0 = v.getD n 0 := by
 have h1 : (v.take n).reverse.length = n := by simp [h]
 unfold backV
 simp only [List.getD_eq_getElem?_getD]
 rw [List.getElem?_append_right (by omega), h1, Nat.sub_self]
 rfl
theorem back_en {p : Int} {n i : Nat} {E : List (List Int)} (hm : Mat p E.length (n + 1) E) (hi : i < E.length) : (∀ j, j < n → en (E.map (backV n)) i j = en E i (n - 1 - j)) ∧ en (E.map (backV n)) i n = en E i n := by
 have e : (E.map (backV n)).getD i [] = backV n (E.getD i []) := by simp [List.getD, hi]
 have hl := (hm.get hi).1
 unfold en
 rw [e]
 exact ⟨fun j hj => backV_lt hl hj, backV_at hl⟩
theorem back_mat {p : Int} (_hp : 0 < p) {n : Nat} {E : List (List Int)} (hm : Mat p E.length (n + 1) E) : Mat p (E.map (backV n)).length (n + 1) (E.map (backV n)) := by
 refine ⟨rfl, fun v hv => ?_⟩
 obtain ⟨u, hu, rfl⟩ := List.mem_map.1 hv
 obtain ⟨h1, h2⟩ := hm.row u hu
 refine ⟨backV_length h1, fun x hx => ?_⟩
 unfold backV at hx
 rcases List.mem_append.1 hx with h | h
 · exact h2 x (List.mem_of_mem_take (List.mem_reverse.1 h))
 · obtain rfl := List.mem_singleton.1 h
   exact h2.getD _hp n
def xr (n : Nat) (x : Nat → Int) (j : Nat) : Int := if j < n then x (n - 1 - j) else -1
theorem xr_lt {n : Nat} {x : Nat → Int} {j : Nat} (h : j < n) : xr n x j = x (n - 1 - j) := if_pos h
theorem xr_at (n : Nat) (x : Nat → Int) : xr n x n = -1 := if_neg (Nat.lt_irrefl n)
theorem sol_back {p : Int} {n : Nat} {E : List (List Int)} (hm : Mat p E.length (n + 1) E) (x : Nat → Int) : SolE p n E x ↔ NulL p (n + 1) (E.map (backV n)) (xr n x) := by
 have key : ∀ i, i < E.length → (sm (n + 1) fun j => en (E.map (backV n)) i j * xr n x j) = (sm n fun j => en E i j * x j) - en E i n := fun i hi => by
  obtain ⟨h1, h2⟩ := back_en hm hi
  have e1 : (sm n fun j => en (E.map (backV n)) i j * xr n x j) = sm n fun j => en E i j * x j := by
   rw [sm_rev n (fun j => en E i j * x j)]
   refine sm_congr fun j hj => ?_
   rw [h1 j hj, xr_lt hj]
  rw [sm, e1, h2, xr_at]
  omega
 unfold NulL Nul SolE
 rw [List.length_map]
 exact ⟨fun h i hi => by rw [key i hi]; exact h i hi, fun h i hi => by rw [← key i hi]; exact h i hi⟩
theorem one_ndvd {p : Int} (hp : 1 < p) : ¬ p ∣ 1 := fun h => by
 have := Int.le_of_dvd (by decide) h
 omega
theorem fs_none {p : Int} (hp : fieldB p = true) {n : Nat} {E : List (List Int)} (hm : Mat p E.length (n + 1) E) (h : (redM p (n + 1) (E.map (backV n))).any (fun v => leadV v == n) = true) (x : Nat → Int) : ¬ SolE p n E x := by
 have hpb := fieldB_bounds hp
 obtain ⟨⟨hR, ld, hr⟩, hN, _⟩ := redM_spec hp (back_mat (by omega) hm)
 obtain ⟨v, hv, hlv⟩ := List.any_eq_true.1 h
 obtain ⟨i, hi, e⟩ := List.getElem_of_mem hv
 have e2 : (redM p (n + 1) (E.map (backV n))).getD i [] = v := by rw [getD_lt hi, e]
 have hld : ld i = n := by
  have := red_lead hR hr hi
  rw [e2] at this
  rw [← this]
  simpa using hlv
 intro hs
 have := (hN _).2 ((sol_back hm x).1 hs) i hi
 rw [sm, sm_congr (n := n) (g := fun _ => 0) (fun j hj => by rw [hr.before i j hi (by rw [hld]; exact hj), Int.zero_mul]), sm_zero, xr_at] at this
 have h1 := hr.one i hi
 rw [hld] at h1
 rw [h1] at this
 exact one_ndvd (p := p) (by omega) (by simpa using this)
theorem fsTo_length (n : Nat) (R : List (List Int)) : ∀ k, (fsTo n R k).length = n
 | 0 => by simp [fsTo]
 | k + 1 => by rw [fsTo, List.length_set]; exact fsTo_length n R k
theorem fsTo_get {p : Int} {n : Nat} {R : List (List Int)} (hR : Mat p R.length (n + 1) R) {ld : Nat → Nat} (hr : Red p (n + 1) (en R) R.length ld) (hno : ∀ i, i < R.length → ld i < n) :
  ∀ k, k ≤ R.length → (∀ i, i < k → (fsTo n R k).getD (n - 1 - ld i) 0 = en R i n) ∧ ∀ j, j < n → (∀ i, i < k → n - 1 - ld i ≠ j) → (fsTo n R k).getD j 0 = 0
 | 0, _ => ⟨fun i hi => by omega, fun j hj _ => by simp [fsTo, List.getD, hj]⟩
 | k + 1, hk => by
   obtain ⟨h1, h2⟩ := fsTo_get hR hr hno k (by omega)
   have hl := hno k (by omega)
   have hld := red_lead hR hr (i := k) (by omega)
   refine ⟨fun i hi => ?_, fun j hj hne => ?_⟩
   · rw [fsTo, hld]
     by_cases e : i = k
     · subst e
       rw [getD_set_self (by rw [fsTo_length]; omega)]
       rfl
     · have hm := hr.mono i k (by omega) (by omega)
       rw [getD_set_ne' (by omega)]
       exact h1 i (by omega)
   · rw [fsTo, hld, getD_set_ne' (hne k (by omega))]
     exact h2 j hj fun i hi => hne i (by omega)
theorem fsTo_res {p : Int} (hp : 0 < p) {n : Nat} {R : List (List Int)} (hR : Mat p R.length (n + 1) R) : ∀ k, k ≤ R.length → Res p (fsTo n R k)
 | 0, _ => Res.replicate hp n
 | k + 1, hk => (fsTo_res hp hR k (by omega)).set ((hR.get (i := k) (by omega)).2.getD hp n) _
section
variable {p : Int} {n : Nat} {E : List (List Int)}
theorem fs_sol (hp : fieldB p = true) (hm : Mat p E.length (n + 1) E) (h : (redM p (n + 1) (E.map (backV n))).any (fun v => leadV v == n) = false) :
  SolE p n E (fun j => (fsTo n (redM p (n + 1) (E.map (backV n))) (redM p (n + 1) (E.map (backV n))).length).getD j 0) ∧
  ∃ ld, Red p (n + 1) (en (redM p (n + 1) (E.map (backV n)))) (redM p (n + 1) (E.map (backV n))).length ld ∧ (∀ i, i < (redM p (n + 1) (E.map (backV n))).length → ld i < n) ∧
    ∀ j, j < n → (∀ i, i < (redM p (n + 1) (E.map (backV n))).length → n - 1 - ld i ≠ j) → (fsTo n (redM p (n + 1) (E.map (backV n))) (redM p (n + 1) (E.map (backV n))).length).getD j 0 = 0 := by
 have hpb := fieldB_bounds hp
 obtain ⟨⟨hR, ld, hr⟩, hN, _⟩ := redM_spec hp (back_mat (by omega) hm)
 obtain ⟨R, hRe⟩ : ∃ R, R = redM p (n + 1) (E.map (backV n)) := ⟨_, rfl⟩
 rw [← hRe] at hR hr hN h ⊢
 have hno : ∀ i, i < R.length → ld i < n := fun i hi => by
  have h1 := hr.lt i hi
  have h2 : leadV (R.getD i []) ≠ n := fun e => by
   have := List.any_eq_false.1 h (R.getD i []) (by rw [getD_lt hi]; exact List.getElem_mem hi)
   rw [e] at this
   simp at this
  rw [red_lead hR hr hi] at h2
  omega
 obtain ⟨g1, g2⟩ := fsTo_get hR hr hno R.length (Nat.le_refl _)
 refine ⟨(sol_back hm _).2 ((hN _).1 fun i hi => ?_), ld, hr, hno, g2⟩
 have hl := hno i hi
 rw [sm, sm_one hl (fun j hj hne => ?_), hr.one i hi, Int.one_mul, xr_lt hl, xr_at, g1 i hi]
 · simp
   rw [Int.add_right_neg]
   exact Int.dvd_zero p
 · rw [xr_lt hj]
   by_cases hex : ∃ k, k < R.length ∧ ld k = j
   · obtain ⟨k, hk, rfl⟩ := hex
     rw [hr.zero k i hk hi (fun e => hne (by rw [e])), Int.zero_mul]
   · have : (fsTo n R R.length).getD (n - 1 - j) 0 = 0 := g2 _ (by omega) fun k hk e => hex ⟨k, hk, by have := hno k hk; omega⟩
     rw [this, Int.mul_zero]
theorem fs_first (hp : fieldB p = true) (hm : Mat p E.length (n + 1) E) {K : List (List Int)} (hK : RedL p n K) {y : List Int} (hyl : y.length = n) (hyr : Res p y)
  (hs : SolE p n E fun j => y.getD j 0) (hsp : ∀ d, HomE p n E d → ∀ x, NulL p n K x → p ∣ sm n fun j => x j * d j)
  (hz : ∀ i, i < K.length → y.getD (leadV (K.getD i [])) 0 = 0) : fsM p n E = (y, true) := by
 have hpb := fieldB_bounds hp
 cases hc : (redM p (n + 1) (E.map (backV n))).any (fun v => leadV v == n)
 case true => exact absurd hs (fs_none hp hm hc _)
 case false =>
  unfold fsM
  rw [if_neg (by rw [hc]; simp)]
  obtain ⟨hzs, ld, hr, hno, hzz⟩ := fs_sol hp hm hc
  have hRm := (redM_spec hp (back_mat (by omega) hm)).1.1
  have hNR := (redM_spec hp (back_mat (by omega) hm)).2.1
  obtain ⟨R, hRe⟩ : ∃ R, R = redM p (n + 1) (E.map (backV n)) := ⟨_, rfl⟩
  rw [← hRe] at hr hno hzz hzs hRm hNR ⊢
  have hzr := fsTo_res (by omega : 0 < p) hRm R.length (Nat.le_refl _)
  have hzl := fsTo_length n R R.length
  obtain ⟨z, hze⟩ : ∃ z, z = fsTo n R R.length := ⟨_, rfl⟩
  rw [← hze] at hzr hzl hzz hzs ⊢
  obtain ⟨hKm, lk, hk⟩ := hK
  have hd : HomE p n E (fun j => z.getD j 0 - y.getD j 0) := fun i hi => by
   have h1 := Int.dvd_sub (hzs i hi) (hs i hi)
   have e : (sm n fun j => en E i j * (z.getD j 0 - y.getD j 0)) = (sm n fun j => en E i j * z.getD j 0) - sm n fun j => en E i j * y.getD j 0 := by
    rw [← sm_sub]
    exact sm_congr fun j _ => Int.mul_sub _ _ _
   rw [e]
   have e2 : (sm n fun j => en E i j * z.getD j 0) - en E i n - ((sm n fun j => en E i j * y.getD j 0) - en E i n) = (sm n fun j => en E i j * z.getD j 0) - sm n fun j => en E i j * y.getD j 0 := by omega
   rwa [e2] at h1
  have hex := fun {j} hj => hk.expand (v := fun j => z.getD j 0 - y.getD j 0) (fun x hx => by
   have := hsp _ hd x hx
   rw [sm_congr (g := fun j => x j * (z.getD j 0 - y.getD j 0)) (fun j _ => Int.mul_comm _ _)]
   exact this) (j := j) hj
  by_cases hall : ∀ j, j < n → z.getD j 0 = y.getD j 0
  · refine Prod.ext ?_ rfl
    show z = y
    refine List.ext_getElem (by omega) fun j h1 h2 => ?_
    have := hall j (by omega)
    rwa [getD_lt h1, getD_lt h2] at this
  · exfalso
    obtain ⟨j, hj, hjn, hlt⟩ := least_of (n := n) (P := fun j => ¬ z.getD j 0 = y.getD j 0) (Classical.byContradiction fun hh => hall fun j hj => Classical.byContradiction fun h => hh ⟨j, hj, h⟩)
    have hjd : ¬ p ∣ z.getD j 0 - y.getD j 0 := fun hd' => hjn (res_eq (hzr.getD (by omega) j) (hyr.getD (by omega) j) hd')
    have hb : ∀ k, k < j → z.getD k 0 = y.getD k 0 := fun k hk => Classical.byContradiction fun h => hlt k hk h
    -- the lead of the difference is a lead of K
    have hmem : ∃ i, i < K.length ∧ lk i = j := by
     apply Classical.byContradiction
     intro hno'
     apply hjd
     have h0 := hex hj
     have hsum : p ∣ sm K.length fun i => (z.getD (lk i) 0 - y.getD (lk i) 0) * en K i j := sm_dvd fun i hi => by
      rcases Nat.lt_trichotomy (lk i) j with h | h | h
      · rw [hb _ h, Int.sub_self, Int.zero_mul]; exact Int.dvd_zero p
      · exact absurd ⟨i, hi, h⟩ hno'
      · rw [hk.before i j hi h, Int.mul_zero]; exact Int.dvd_zero p
     have := Int.dvd_add h0 hsum
     rwa [Int.sub_add_cancel] at this
    obtain ⟨i, hi, rfl⟩ := hmem
    have hyz := hz i hi
    rw [red_lead hKm hk hi] at hyz
    -- it is fixed by a row, so that it is no free one
    have hpv : ∃ q, q < R.length ∧ n - 1 - ld q = lk i := by
     apply Classical.byContradiction
     intro hno'
     apply hjn
     rw [hzz _ hj (fun q hq e => hno' ⟨q, hq, e⟩), hyz]
    obtain ⟨q, hq, hqe⟩ := hpv
    have hlq := hno q hq
    have hy1 := (hNR _).2 ((sol_back hm _).1 hs) q hq
    have hz1 := (hNR _).2 ((sol_back hm _).1 hzs) q hq
    have h2 := Int.dvd_sub hz1 hy1
    rw [← sm_sub, sm_one (k := ld q) (by omega) (fun t ht hne => ?_)] at h2
    · rw [hr.one q hq, Int.one_mul, Int.one_mul, xr_lt hlq, xr_lt hlq, hqe] at h2
      exact hjd h2
    · by_cases htn : t < n
      · rw [xr_lt htn, xr_lt htn]
        rcases Nat.lt_or_ge t (ld q) with h | h
        · rw [hr.before q t hq h]; simp
        · rw [hb (n - 1 - t) (by omega), Int.sub_self]
      · obtain rfl : t = n := by omega
        rw [xr_at, xr_at, Int.sub_self]
end
def slvTo (p : Int) (m : Nat) (s : Nat × List (List Int) × List (List Int)) (b : List Int) : Nat → List Int × List Int
 | 0 => (b, List.replicate m 0)
 | k + 1 => (addT p (slvTo p m s b k).1 (-((slvTo p m s b k).1.getD (leadV (s.2.1.getD k [])) 0)) (s.2.1.getD k []), addT p (slvTo p m s b k).2 ((slvTo p m s b k).1.getD (leadV (s.2.1.getD k [])) 0) (s.2.2.getD k []))
def slvM (p : Int) (m n : Nat) (M : List (List Int)) (b : List Int) : List Int × Bool :=
 ((slvTo p m (redTo p M (idM m) n) b (redTo p M (idM m) n).1).2, (slvTo p m (redTo p M (idM m) n) b (redTo p M (idM m) n).1).1.all fun a => a == 0)
theorem addT_en {p c : Int} {v w : List Int} {n j : Nat} (hv : v.length = n) (hw : w.length = n) (hj : j < n) : (addT p v c w).getD j 0 = (v.getD j 0 + c * w.getD j 0) % p := by
 rw [addT_getD, if_pos (by omega), if_pos (by omega)]
section
variable {p : Int} {m n : Nat} {M : List (List Int)}
theorem red_beside (hp : fieldB p = true) (hm : Mat p m n M) : ∃ ld, RInv p m n n M (redTo p M (idM m) n) ld ∧ Mat p m m (redTo p M (idM m) n).2.2 ∧ Makes p m n (en (redTo p M (idM m) n).2.1) (en (redTo p M (idM m) n).2.2) (en M) := by
 have hpb := fieldB_bounds hp
 obtain ⟨ld, hR⟩ := redTo_inv hp hm (idM m) n (Nat.le_refl _)
 obtain ⟨h1, h2, _⟩ := redTo_also hp hm (idM_mat (by omega) m) (T := en M) (fun i hi k _ => by
   rw [sm_congr (g := fun l => en M l k * (if l = i then 1 else 0)) (fun l hl => by rw [idM_en hi hl, Int.mul_comm]), dot_delta hi (fun l => en M l k), Int.sub_self]
   exact Int.dvd_zero p) (fun y => ⟨y, fun l hl => by
   rw [sm_congr (g := fun i => y i * (if i = l then 1 else 0)) (fun i hi => by rw [idM_en hi hl]; congr 1; by_cases e : l = i <;> simp [e, eq_comm]), dot_delta hl, Int.sub_self]
   exact Int.dvd_zero p⟩) n (Nat.le_refl _)
 exact ⟨ld, hR, h1, h2⟩
def slvK (p : Int) (m : Nat) (s : Nat × List (List Int) × List (List Int)) (b : List Int) (i : Nat) : Int := (slvTo p m s b i).1.getD (leadV (s.2.1.getD i [])) 0
theorem lin_sub {p r K a b S : Int} (h : p ∣ r - (b - S)) : p ∣ (r + -K * a) % p - (b - (S + K * a)) := by
 have e := Int.dvd_add (dvd_emod_sub p (r + -K * a)) h
 have e2 : (r + -K * a) % p - (b - (S + K * a)) = (r + -K * a) % p - (r + -K * a) + (r - (b - S)) := by rw [Int.neg_mul]; omega
 rw [e2]; exact e
theorem lin_add {p r K a S : Int} (h : p ∣ r - S) : p ∣ (r + K * a) % p - (S + K * a) := by
 have e := Int.dvd_add (dvd_emod_sub p (r + K * a)) h
 have e2 : (r + K * a) % p - (S + K * a) = (r + K * a) % p - (r + K * a) + (r - S) := by omega
 rw [e2]; exact e
theorem slv_inv (hp : 0 < p) {s : Nat × List (List Int) × List (List Int)} (ha : Mat p m n s.2.1) (ht : Mat p m m s.2.2) (hr : s.1 ≤ m) {b : List Int} (hbl : b.length = n) (hbr : Res p b) :
  ∀ k, k ≤ s.1 → (slvTo p m s b k).1.length = n ∧ Res p (slvTo p m s b k).1 ∧ (slvTo p m s b k).2.length = m ∧ Res p (slvTo p m s b k).2 ∧
    (∀ j, j < n → p ∣ (slvTo p m s b k).1.getD j 0 - (b.getD j 0 - sm k fun i => slvK p m s b i * en s.2.1 i j)) ∧
    ∀ l, l < m → p ∣ (slvTo p m s b k).2.getD l 0 - sm k fun i => slvK p m s b i * en s.2.2 i l
 | 0, _ => ⟨hbl, hbr, by simp [slvTo], Res.replicate hp m, fun j _ => by simp [slvTo, sm], fun l hl => by simp [slvTo, sm, List.getD, hl]⟩
 | k + 1, hk => by
   obtain ⟨h1, h2, h3, h4, h5, h6⟩ := slv_inv hp ha ht hr hbl hbr k (by omega)
   have hak := (ha.get (i := k) (by omega)).1
   have htk := (ht.get (i := k) (by omega)).1
   refine ⟨by rw [slvTo]; simpa using h1, by rw [slvTo]; exact h2.addT hp, by rw [slvTo]; simpa using h3, by rw [slvTo]; exact h4.addT hp, fun j hj => ?_, fun l hl => ?_⟩
   · rw [slvTo, sm]
     show p ∣ (addT p _ _ _).getD j 0 - _
     rw [addT_en h1 hak hj]
     exact lin_sub (h5 j hj)
   · rw [slvTo, sm]
     show p ∣ (addT p _ _ _).getD l 0 - _
     rw [addT_en h3 htk hl]
     exact lin_add (h6 l hl)
theorem slv_ok (hp : fieldB p = true) (hm : Mat p m n M) {b : List Int} (hbl : b.length = n) (hbr : Res p b) :
  (slvM p m n M b).1.length = m ∧ Res p (slvM p m n M b).1 ∧ ((slvM p m n M b).2 = true → ∀ j, j < n → p ∣ (sm m fun i => (slvM p m n M b).1.getD i 0 * en M i j) - b.getD j 0) := by
 have hpb := fieldB_bounds hp
 obtain ⟨ld, hR, ht, hmk⟩ := red_beside hp hm
 obtain ⟨s, hs⟩ : ∃ s, s = redTo p M (idM m) n := ⟨_, rfl⟩
 unfold slvM
 rw [← hs] at hR ht hmk ⊢
 have hrk : s.1 ≤ m := hR.inv.le
 obtain ⟨h1, h2, h3, h4, h5, h6⟩ := slv_inv (by omega) hR.mat ht hrk hbl hbr s.1 (Nat.le_refl _)
 refine ⟨h3, h4, fun hz j hj => ?_⟩
 have hz0 : (slvTo p m s b s.1).1.getD j 0 = 0 := by
  have := List.all_eq_true.1 hz ((slvTo p m s b s.1).1.getD j 0) (by rw [getD_lt (by omega)]; exact List.getElem_mem _)
  simpa using this
 have hb := h5 j hj
 rw [hz0] at hb
 -- the sums
 have e1 : p ∣ (sm m fun l => (slvTo p m s b s.1).2.getD l 0 * en M l j) - sm m fun l => (sm s.1 fun i => slvK p m s b i * en s.2.2 i l) * en M l j := sm_dvd_sub fun l hl => by
  rw [← Int.sub_mul]; exact dvd_l (h6 l hl) _
 have e2 : (sm m fun l => (sm s.1 fun i => slvK p m s b i * en s.2.2 i l) * en M l j) = sm s.1 fun i => slvK p m s b i * sm m fun l => en s.2.2 i l * en M l j := by
  rw [sm_congr (g := fun l => sm s.1 fun i => slvK p m s b i * (en s.2.2 i l * en M l j)) (fun l _ => by
   rw [Int.mul_comm, ← sm_mul]
   exact sm_congr fun i _ => by rw [Int.mul_comm (en M l j), Int.mul_assoc]), sm_swap]
  exact sm_congr fun i _ => sm_mul _ _ _
 have e3 : p ∣ (sm s.1 fun i => slvK p m s b i * en s.2.1 i j) - sm s.1 fun i => slvK p m s b i * sm m fun l => en s.2.2 i l * en M l j := sm_dvd_sub fun i hi => by
  rw [← Int.mul_sub]; exact dvd_r (hmk i (by omega) j hj) _
 rw [e2] at e1
 have e7 := Int.dvd_add (Int.dvd_sub e1 e3) hb
 have e8 : ∀ A B C D : Int, A - B - (C - B) + (0 - (D - C)) = A - D := by intros; omega
 rwa [e8] at e7
theorem slv_all (hp : fieldB p = true) (hm : Mat p m n M) {b : List Int} (hbl : b.length = n) (hbr : Res p b) (x : Nat → Int) (hx : ∀ j, j < n → p ∣ (sm m fun i => x i * en M i j) - b.getD j 0) : (slvM p m n M b).2 = true := by
 have hpb := fieldB_bounds hp
 obtain ⟨ld, hR, ht, hmk⟩ := red_beside hp hm
 obtain ⟨s, hs⟩ : ∃ s, s = redTo p M (idM m) n := ⟨_, rfl⟩
 unfold slvM
 rw [← hs] at hR ht hmk ⊢
 have hrk : s.1 ≤ m := hR.inv.le
 have hred := hR.inv.red
 have hla : ∀ i, i < s.1 → leadV (s.2.1.getD i []) = ld i := fun i hi => by
  refine leadV_eq (by rw [(hR.mat.get (i := i) (by omega)).1]; exact hred.lt i hi) ?_ fun j hj => hred.before i j hi hj
  have := hred.one i hi
  unfold en at this
  rw [this]; decide
 obtain ⟨h1, h2, h3, h4, h5, h6⟩ := slv_inv (by omega) hR.mat ht hrk hbl hbr s.1 (Nat.le_refl _)
 -- the factors are b's elements at the leads
 have hk : ∀ i, i < s.1 → p ∣ slvK p m s b i - b.getD (ld i) 0 := fun i hi => by
  have := (slv_inv (by omega) hR.mat ht hrk hbl hbr i (by omega)).2.2.2.2.1 (ld i) (hred.lt i hi)
  rw [sm_congr (g := fun _ => 0) (fun q hq => by rw [hred.zero i q hi (by omega) (by omega), Int.mul_zero]), sm_zero, Int.sub_zero] at this
  unfold slvK
  rw [hla i hi]
  exact this
 have hexp : ∀ j, j < n → p ∣ b.getD j 0 - sm s.1 fun i => b.getD (ld i) 0 * en s.2.1 i j := fun j hj => hred.expand (v := fun j => b.getD j 0) (fun y hy => by
  have hyM : Nul p n (en M) m y := (hR.nul y).1 ((hR.inv.nul y).2 hy)
  have a1 : p ∣ (sm n fun j => (sm m fun i => x i * en M i j) * y j) - sm n fun j => b.getD j 0 * y j := sm_dvd_sub fun j hj => by
   rw [← Int.sub_mul]; exact dvd_l (hx j hj) _
  have a2 : p ∣ sm n fun j => (sm m fun i => x i * en M i j) * y j := by
   rw [sm_congr (g := fun j => sm m fun i => x i * (en M i j * y j)) (fun j _ => by
    rw [Int.mul_comm, ← sm_mul]
    exact sm_congr fun i _ => by rw [Int.mul_comm (y j), Int.mul_assoc]), sm_swap]
   refine sm_dvd fun i hi => ?_
   rw [sm_mul]
   exact dvd_r (hyM i hi) _
  have := Int.dvd_sub a2 a1
  rwa [Int.sub_sub_self] at this) hj
 refine List.all_eq_true.2 fun a ha => ?_
 obtain ⟨j, hj, rfl⟩ := List.getElem_of_mem ha
 rw [h1] at hj
 have hj' := h5 j hj
 have a1 : p ∣ (sm s.1 fun i => slvK p m s b i * en s.2.1 i j) - sm s.1 fun i => b.getD (ld i) 0 * en s.2.1 i j := sm_dvd_sub fun i hi => by
  rw [← Int.sub_mul]; exact dvd_l (hk i hi) _
 have a2 := Int.dvd_add (Int.dvd_sub hj' a1) (hexp j hj)
 have e8 : ∀ A B C D : Int, A - (B - C) - (C - D) + (B - D) = A := by intros; omega
 rw [e8] at a2
 have a3 := h2.getD (by omega : 0 < p) j
 have : (slvTo p m s b s.1).1.getD j 0 = 0 := res_eq a3 ⟨Int.le_refl _, by omega⟩ (by rw [Int.sub_zero]; exact a2)
 rw [getD_lt (by omega)] at this
 simp [this]
end
def lsTo (p : Int) (K : List (List Int)) (y : List Int) : Nat → List Int
 | 0 => y
 | k + 1 => addT p (lsTo p K y k) (-((lsTo p K y k).getD (leadV (K.getD k [])) 0)) (K.getD k [])
theorem ls_inv {p : Int} (hp : 0 < p) {n : Nat} {K : List (List Int)} (hK : RedL p n K) {y : List Int} (hyl : y.length = n) (hyr : Res p y) :
  ∀ k, k ≤ K.length → (lsTo p K y k).length = n ∧ Res p (lsTo p K y k) ∧ (∃ f : Nat → Int, ∀ j, j < n → p ∣ (lsTo p K y k).getD j 0 - (y.getD j 0 - sm k fun i => f i * en K i j)) ∧
    ∀ i, i < k → (lsTo p K y k).getD (leadV (K.getD i [])) 0 = 0
 | 0, _ => ⟨hyl, hyr, ⟨fun _ => 0, fun j _ => by simp [lsTo, sm]⟩, fun i hi => by omega⟩
 | k + 1, hk => by
   obtain ⟨h1, h2, ⟨f, h3⟩, h4⟩ := ls_inv hp hK hyl hyr k (by omega)
   obtain ⟨hm, ld, hr⟩ := hK
   have hKk := (hm.get (i := k) (by omega)).1
   have hlk := red_lead hm hr (i := k) (by omega)
   refine ⟨by rw [lsTo]; simpa using h1, by rw [lsTo]; exact h2.addT hp, ⟨fun i => if i = k then (lsTo p K y k).getD (leadV (K.getD k [])) 0 else f i, fun j hj => ?_⟩, fun i hi => ?_⟩
   · rw [lsTo, sm, addT_en h1 hKk hj]
     show p ∣ _ - (_ - (_ + (if k = k then _ else f k) * en K k j))
     rw [if_pos rfl, sm_congr (g := fun i => f i * en K i j) (fun i hi => by show (if i = k then _ else f i) * _ = _; rw [if_neg (Nat.ne_of_lt hi)])]
     exact lin_sub (h3 j hj)
   · have hli := red_lead hm hr (i := i) (by omega)
     rw [lsTo, hli, addT_en h1 hKk (hr.lt i (by omega))]
     by_cases e : i = k
     · subst e
       have h1' : (K.getD i []).getD (ld i) 0 = 1 := hr.one i (by omega)
       rw [hlk, h1', Int.mul_one, Int.add_right_neg]
       exact Int.zero_emod p
     · have h0 : (K.getD k []).getD (ld i) 0 = 0 := hr.zero i k (by omega) (by omega) (fun h => e h.symm)
       have hz := h4 i (by omega)
       rw [hli] at hz
       rw [h0, hz, Int.mul_zero, Int.add_zero]
       exact Int.zero_emod p
theorem first_eq {p : Int} (hp : fieldB p = true) {n : Nat} {E : List (List Int)} (hm : Mat p E.length (n + 1) E) {K : List (List Int)} (hK : RedL p n K) (hKh : ∀ i, i < K.length → HomE p n E (en K i))
  (hsp : ∀ d, HomE p n E d → ∀ x, NulL p n K x → p ∣ sm n fun j => x j * d j) {y : List Int} (hyl : y.length = n) (hyr : Res p y) (hs : SolE p n E fun j => y.getD j 0) : fsM p n E = (lsTo p K y K.length, true) := by
 have hpb := fieldB_bounds hp
 obtain ⟨h1, h2, ⟨f, h3⟩, h4⟩ := ls_inv (by omega) hK hyl hyr K.length (Nat.le_refl _)
 refine fs_first hp hm hK h1 h2 (fun i hi => ?_) hsp h4
 have a1 : p ∣ (sm n fun j => en E i j * (lsTo p K y K.length).getD j 0) - sm n fun j => en E i j * (y.getD j 0 - sm K.length fun q => f q * en K q j) := sm_dvd_sub fun j hj => by
  rw [← Int.mul_sub]; exact dvd_r (h3 j hj) _
 have a2 : (sm n fun j => en E i j * (y.getD j 0 - sm K.length fun q => f q * en K q j)) = (sm n fun j => en E i j * y.getD j 0) - sm K.length fun q => f q * sm n fun j => en E i j * en K q j := by
  rw [sm_congr (g := fun j => en E i j * y.getD j 0 - sm K.length fun q => f q * (en E i j * en K q j)) (fun j _ => by
   rw [Int.mul_sub, ← sm_mul]
   congr 1
   exact sm_congr fun q _ => by rw [Int.mul_left_comm]), sm_sub, sm_swap]
  congr 1
  exact sm_congr fun q _ => sm_mul _ _ _
 have a3 : p ∣ sm K.length fun q => f q * sm n fun j => en E i j * en K q j := sm_dvd fun q hq => dvd_r (hKh q hq i hi) _
 rw [a2] at a1
 have a4 := Int.dvd_add (Int.dvd_sub a1 a3) (hs i hi)
 have e8 : ∀ A B C D : Int, A - (B - C) - C + (B - D) = A - D := by intros; omega
 rwa [e8] at a4
theorem fs_no {p : Int} (hp : fieldB p = true) {n : Nat} {E : List (List Int)} (hm : Mat p E.length (n + 1) E) (h : ∀ x, ¬ SolE p n E x) : fsM p n E = ([], false) := by
 unfold fsM
 cases hc : (redM p (n + 1) (E.map (backV n))).any (fun v => leadV v == n)
 · exact absurd (fs_sol hp hm hc).1 (h _)
 · rw [if_pos rfl]
theorem nullM_genL {p : Int} (hf : fieldB p = true) {N : Nat} {E : List (List Int)} (hE : Mat p E.length N E) : GenL p N (NulL p N E) (nullM p N E) := by
 have hpb := fieldB_bounds hf
 have hB := nullM_red hf N E
 have hr := redM_spec hf hE
 have hg := (nvecs_gen (by omega) hr.1).congr hr.2.1
 have hs := redM_spec hf hg.1
 refine ⟨hB.1, fun k hk => ?_, fun x hx => hg.2.2 x ((hs.2.1 x).1 hx)⟩
 intro i hi
 have hrow : NulL p N (nvecs p N (redM p N E)) fun j => en E i j := fun q hq => by
  have := hg.2.1 q hq i hi
  rw [sm_congr (g := fun j => en E i j * en (nvecs p N (redM p N E)) q j) (fun j _ => Int.mul_comm _ _)]
  exact this
 have := (hs.2.1 _).2 hrow k hk
 rw [sm_congr (g := fun j => en (nullM p N E) k j * en E i j) (fun j _ => Int.mul_comm _ _)]
 exact this
section
variable {p : Int} {n : Nat} {C : List (List Int)} {b : List Int}
def eqsM (C : List (List Int)) (b : List Int) : List (List Int) := List.zipWith (fun r a => r ++ [a]) C b
theorem eqsM_len (hb : b.length = C.length) : (eqsM C b).length = C.length := by simp [eqsM, hb]
theorem eqsM_get (hb : b.length = C.length) {i : Nat} (hi : i < C.length) : (eqsM C b).getD i [] = C.getD i [] ++ [b.getD i 0] := by
 simp [eqsM, List.getD, List.getElem?_zipWith, hi, (by omega : i < b.length)]
theorem eqsM_en (hC : Mat p C.length n C) (hb : b.length = C.length) {i : Nat} (hi : i < C.length) : (∀ j, j < n → en (eqsM C b) i j = en C i j) ∧ en (eqsM C b) i n = b.getD i 0 := by
 have hl := (hC.get hi).1
 unfold en
 rw [eqsM_get hb hi]
 constructor
 · intro j hj
   simp only [List.getD_eq_getElem?_getD]
   rw [List.getElem?_append_left (by simpa [List.getD] using (by omega : j < (C.getD i []).length))]
 · simp only [List.getD_eq_getElem?_getD]
   have hl' : (C[i]?.getD []).length = n := by simpa [List.getD] using hl
   rw [List.getElem?_append_right (by omega), hl', Nat.sub_self]
   rfl
theorem eqsM_mat (hC : Mat p C.length n C) (hb : b.length = C.length) (hbr : Res p b) (hp : 0 < p) : Mat p (eqsM C b).length (n + 1) (eqsM C b) := by
 refine Mat.of_get rfl fun i hi => ?_
 rw [eqsM_len hb] at hi
 rw [eqsM_get hb hi]
 obtain ⟨h1, h2⟩ := hC.get hi
 refine ⟨by rw [List.length_append, h1]; rfl, h2.append fun x hx => ?_⟩
 obtain rfl := List.mem_singleton.1 hx
 exact hbr.getD hp i
theorem hom_eqs (hC : Mat p C.length n C) (hb : b.length = C.length) (d : Nat → Int) : HomE p n (eqsM C b) d ↔ NulL p n C d := by
 unfold HomE NulL Nul
 rw [eqsM_len hb]
 refine forall_congr' fun i => imp_congr_right fun hi => ?_
 rw [sm_congr (g := fun j => en C i j * d j) (fun j hj => by rw [(eqsM_en hC hb hi).1 j hj])]
theorem sol_eqs (hC : Mat p C.length n C) (hb : b.length = C.length) (x : Nat → Int) : SolE p n (eqsM C b) x ↔ ∀ i, i < C.length → p ∣ (sm n fun j => en C i j * x j) - b.getD i 0 := by
 unfold SolE
 rw [eqsM_len hb]
 refine forall_congr' fun i => imp_congr_right fun hi => ?_
 rw [sm_congr (g := fun j => en C i j * x j) (fun j hj => by rw [(eqsM_en hC hb hi).1 j hj]), (eqsM_en hC hb hi).2]
def hidS (p : Int) (n : Nat) (C : List (List Int)) (b : List Int) : List Int × Bool :=
 if (slvM p n C.length (transM C n) b).2 then (lsTo p (nullM p n C) (slvM p n C.length (transM C n) b).1 (nullM p n C).length, true) else ([], false)
theorem hid_eq (hf : fieldB p = true) (hC : Mat p C.length n C) (hb : b.length = C.length) (hbr : Res p b) : fsM p n (eqsM C b) = hidS p n C b := by
 have hpb := fieldB_bounds hf
 have hM := transM_mat (by omega) hC
 have hE := eqsM_mat hC hb hbr (by omega)
 have hen : ∀ x : Nat → Int, (∀ i, i < C.length → p ∣ (sm n fun j => en C i j * x j) - b.getD i 0) ↔ ∀ i, i < C.length → p ∣ (sm n fun j => x j * en (transM C n) j i) - b.getD i 0 := fun x => by
  refine forall_congr' fun i => imp_congr_right fun hi => ?_
  rw [sm_congr (g := fun j => x j * en (transM C n) j i) (fun j hj => by rw [transM_en hj hi, Int.mul_comm])]
 obtain ⟨h1, h2, h3⟩ := slv_ok hf hM (b := b) hb hbr
 unfold hidS
 cases hc : (slvM p n C.length (transM C n) b).2
 · rw [if_neg (by simp)]
   refine fs_no hf hE fun x hx => ?_
   have := slv_all hf hM hb hbr x ((hen x).1 ((sol_eqs hC hb x).1 hx))
   rw [hc] at this
   cases this
 · rw [if_pos rfl]
   have hg := nullM_genL hf hC
   exact first_eq hf hE (nullM_red hf n C) (fun i hi => (hom_eqs hC hb _).2 (hg.2.1 i hi)) (fun d hd x hx => hg.2.2 x hx d ((hom_eqs hC hb d).1 hd)) h1 h2 ((sol_eqs hC hb _).2 ((hen _).2 (h3 hc)))
end
open Go.RowKit
section
variable {P : Program} {l : List Oper} {Q : Exit → Act → World → Prop} {md : Region.Mode} {S : World → Prop}
theorem beginB {id : Nat} {a : Act} {w : World} (hm : P.follows .mixedOrders = true) (h : ∀ W1, W1 = w.drew → wpAnyH P .any l.toArray Q (fun w' => Below W1.heap.size W1 w') l.toArray.size (Array.replicate l.toArray.size false) a W1) : (Code.region id l.toArray true).wp P Q a w :=
 beginH _ hm (h _ rfl)
theorem runH (i : Nat) {o : Oper} {v : Value} {fuel : Nat} {listed : Array Bool} {a : Act} {w w1 : World} {l' : List Oper} (hd : l.drop i = o :: l') (hr : Region.ready md l.toArray listed = [i]) (hw : Region.wanted o (yielded l.toArray a.tmps) = true)
  (hrun : (execOp a.eval o).run P w = .ok (.value v) w1) (hS : S w1) (h : wpAnyH P md l.toArray Q S fuel (listed.setIfInBounds i true) (a.put o.dst v) w1) : wpAnyH P md l.toArray Q S (fuel + 1) listed a w :=
 oneH i hd hr hw fun K hK => by
  unfold Oper.wp
  rw [hrun]
  exact hK _ _ hS h
end
def redB (p n : Int) (L : List (List Int)) : Bool := decide ((L.length : Int) ≤ n) && (rowsB p n L && decide (redM p n.toNat L = L))
def relB (p : Int) (s : Sys) : Bool := (decide (0 ≤ s.1) && decide (s.1 ≤ 24)) && ((decide (0 ≤ s.2.1) && decide (s.2.1 ≤ 24 - s.1)) && (fieldB p && redB p (s.1 + s.2.1) s.2.2))
structure RelOk (p : Int) (s : Sys) : Prop where
 lo : 0 ≤ s.1
 hi : 0 ≤ s.2.1
 sum : s.1 + s.2.1 ≤ 24
 fld : fieldB p = true
 len : (s.2.2.length : Int) ≤ s.1 + s.2.1
 mat : Mat p s.2.2.length (s.1 + s.2.1).toNat s.2.2
 red : redM p (s.1 + s.2.1).toNat s.2.2 = s.2.2
theorem RelOk.of {p : Int} {s : Sys} (h : relB p s = true) : RelOk p s := by
 unfold relB redB at h
 simp only [Bool.and_eq_true, decide_eq_true_eq] at h
 obtain ⟨⟨h1, h2⟩, ⟨h3, h4⟩, h5, h6, h7, h8⟩ := h
 exact ⟨h1, h3, by omega, h5, h6, rowsB_mat h7 (by omega), h8⟩
theorem RelOk.row {p : Int} {s : Sys} (h : RelOk p s) {v : List Int} (hv : v ∈ s.2.2) : (v.length : Int) = s.1 + s.2.1 ∧ Res p v := by
 have := h.mat.row v hv
 have h1 := h.lo
 have h2 := h.hi
 exact ⟨by omega, this.2⟩
theorem Mat.map {p : Int} {m n k : Nat} {L : List (List Int)} {f : List Int → List Int} (h : Mat p m n L) (hf : ∀ v, v.length = n → Res p v → (f v).length = k ∧ Res p (f v)) : Mat p m k (L.map f) := by
 refine ⟨by rw [List.length_map]; exact h.len, fun v hv => ?_⟩
 obtain ⟨u, hu, rfl⟩ := List.mem_map.1 hv
 exact hf u (h.row u hu).1 (h.row u hu).2
set_option maxHeartbeats 400000 in
theorem within_any (n lo hi : Int) (w : World) :
  Calls Tryd.prog 62 #[.int .i64 n, .int .i64 lo, .int .i64 hi] w fun e w' => e = .returned (.bool (decide (lo ≤ n) && decide (n ≤ hi))) ∧ w = w' := by
 by_cases h : lo ≤ n
 · have h1 : decide (lo ≤ n) = true := decide_eq_true h
   rw [h1]
   clear h1
   go_enter Tryd.func62, Tryd.ntmps62
   go_wp2_with (fail)
   go_ret
   exact ⟨rfl, rfl⟩
 · have h1 : decide (lo ≤ n) = false := decide_eq_false h
   rw [h1]
   clear h1
   go_enter Tryd.func62, Tryd.ntmps62
   go_wp2_with (fail)
   go_ret
   exact ⟨rfl, rfl⟩
set_option maxHeartbeats 400000 in
theorem size_any (a b : Int) (r : Value) (w : World) (ha : 0 ≤ a ∧ a ≤ 24) (hb : 0 ≤ b ∧ b ≤ 100) :
  Calls Tryd.prog 64 #[.agg #[.int .i64 a, .int .i64 b, r]] w fun e w' => e = .returned (.int .i64 (a + b)) ∧ w' = w.alloc (.cells #[.int .i64 a, .int .i64 b, r] 29) := by
 have ww : IntKind.i64.wrap (a + b) = a + b := IntWalk.i64_in _ (by omega)
 go_enter Tryd.func64, Tryd.ntmps64
 go_wp2_with (fail)
 go_ret
 exact ⟨rfl, rfl⟩
set_option maxRecDepth 8000 in
set_option maxHeartbeats 2000000 in
theorem isSystem_field (p a b : Int) (A : Option Addr) (c : Nat) (hs : List Hd) (w : World) (hR : RdR w A hs) (hT : Tab w) (h1 : fieldB p = false) :
  Calls Tryd.prog 33 #[.int .i64 p, .agg #[.int .i64 a, .int .i64 b, .slice A hs.length c]] w fun e w' => e = .returned (.bool (false)) ∧ Below w.heap.size w w' := by
 have hbw : Below w.heap.size w (w.alloc (.cells #[.int .i64 a, .int .i64 b, .slice A hs.length c] 29)) := (Below.refl w.heap.size w).alloc (Nat.le_refl _) _
 obtain ⟨W, hW⟩ : ∃ W, W = w.alloc (.cells #[.int .i64 a, .int .i64 b, .slice A hs.length c] 29) := ⟨_, rfl⟩
 have hk : W.heap[w.heap.size]? = some (.cells #[.int .i64 a, .int .i64 b, .slice A hs.length c] 29) := by rw [hW]; exact heap_alloc_new w _
 obtain ⟨⟨c0, c1, c2⟩, f0, f1, f2⟩ := box3 hk
 have hTW : Tab W := by rw [hW]; exact hT.below hbw hT.lt
 have hRW : RdR W A hs := by rw [hW]; exact hR.below hbw
 have hwW : w.heap.size ≤ W.heap.size := by rw [hW]; exact hbw.size
 have hbW : Below w.heap.size w W := by rw [hW]; exact hbw
 have HF : ∀ w', Below W.heap.size W w' → Calls Tryd.prog 61 #[.int .i64 p] w' fun e w'' => e = .returned (.bool false) ∧ w' = w'' := fun w' h => by
  have := isField_any p w' (hTW.below h hTW.lt); rwa [h1] at this
 have HFh := lH HF; clear hk hT hR hbw HF hTW hRW
 go_enter Tryd.func33, Tryd.ntmps33
 go_wp2_with (fail)
 rw [← hW]
 clear hW
 refine wp_region_heldS 27 (fun w' => w'.cell? ⟨w.heap.size, 0, none⟩ = some (.int .i64 a) ∧ w'.cell? ⟨w.heap.size, 1, none⟩ = some (.int .i64 b) ∧ w'.cell? ⟨w.heap.size, 2, none⟩ = some (.slice A hs.length c) ∧ Below W.heap.size W w') (by kernel_rfl) (by kernel_rfl) ⟨c0, c1, c2, below_drewN (Below.refl _ _) 1⟩ ?_
 simp only [List.take_succ_cons, List.take_zero, List.drop_succ_cons, List.drop_zero]
 refine held_val (v := ?_) (by rfl) (fun W' hW' => ?_) ?_; rotate_left; · (obtain ⟨c0, c1, c2, hb⟩ := hW'; go_simp; first | done | with_reducible rfl)
 simp only [Act.put, nS]
 refine' held_call (v := .bool false) (f := _) (args := _) (by rfl) (fun W' => ?_) (fun W' hW' => ?_) ?_; rotate_left 2; · (go_simp; first | done | with_reducible rfl | (constructor <;> with_reducible rfl))
 · (obtain ⟨c0, c1, c2, hb⟩ := hW'; refine (HFh.out _ hb).mono ?_; rintro e w' ⟨rfl, rfl⟩; exact ⟨rfl, c0, c1, c2, hb⟩)
 simp only [Act.put, nS]
 refine held_val (v := ?_) (by rfl) (fun W' hW' => ?_) ?_; rotate_left; · (obtain ⟨c0, c1, c2, hb⟩ := hW'; go_simp; first | done | with_reducible rfl)
 simp only [Act.put, nS]
 refine held_off (by rfl) ?_
 simp only [Act.put, nS]
 refine held_off (by rfl) ?_
 simp only [Act.put, nS]
 refine held_off (by rfl) ?_
 simp only [Act.put, nS]
 refine held_val (v := ?_) (by rfl) (fun W' hW' => ?_) ?_; rotate_left; · (obtain ⟨c0, c1, c2, hb⟩ := hW'; go_simp; first | done | with_reducible rfl)
 simp only [Act.put, nS]
 refine held_val (v := ?_) (by rfl) (fun W' hW' => ?_) ?_; rotate_left; · (obtain ⟨c0, c1, c2, hb⟩ := hW'; go_simp; first | done | with_reducible rfl)
 simp only [Act.put, nS]
 refine held_off (by rfl) ?_
 simp only [Act.put, nS]
 refine held_off (by rfl) ?_
 simp only [Act.put, nS]
 refine held_off (by rfl) ?_
 simp only [Act.put, nS]
 refine held_val (v := ?_) (by rfl) (fun W' hW' => ?_) ?_; rotate_left; · (obtain ⟨c0, c1, c2, hb⟩ := hW'; go_simp; first | done | with_reducible rfl)
 simp only [Act.put, nS]
 refine held_val (v := ?_) (by rfl) (fun W' hW' => ?_) ?_; rotate_left; · (obtain ⟨c0, c1, c2, hb⟩ := hW'; go_simp; first | done | with_reducible rfl)
 simp only [Act.put, nS]
 refine held_off (by rfl) ?_
 simp only [Act.put, nS]
 refine held_off (by rfl) ?_
 simp only [Act.put, nS]
 refine held_off (by rfl) ?_
 simp only [Act.put, nS]
 refine held_off (by rfl) ?_
 simp only [Act.put, nS]
 refine held_val (v := ?_) (by rfl) (fun W' hW' => ?_) ?_; rotate_left; · (obtain ⟨c0, c1, c2, hb⟩ := hW'; go_simp; first | done | with_reducible rfl)
 simp only [Act.put, nS]
 refine held_val (v := ?_) (by rfl) (fun W' hW' => ?_) ?_; rotate_left; · (obtain ⟨c0, c1, c2, hb⟩ := hW'; go_simp; first | done | with_reducible rfl)
 simp only [Act.put, nS]
 refine held_off (by rfl) ?_
 simp only [Act.put, nS]
 refine held_off (by rfl) ?_
 simp only [Act.put, nS]
 refine held_off (by rfl) ?_
 simp only [Act.put, nS]
 refine held_off (by rfl) ?_
 simp only [Act.put, nS]
 refine held_off (by rfl) ?_
 simp only [Act.put, nS]
 refine held_off (by rfl) ?_
 simp only [Act.put, nS]
 refine held_val (v := ?_) (by rfl) (fun W' hW' => ?_) ?_; rotate_left; · (obtain ⟨c0, c1, c2, hb⟩ := hW'; go_simp; first | done | with_reducible rfl)
 simp only [Act.put, nS]
 refine held_val (v := ?_) (by rfl) (fun W' hW' => ?_) ?_; rotate_left; · (obtain ⟨c0, c1, c2, hb⟩ := hW'; go_simp; first | done | with_reducible rfl)
 simp only [Act.put, nS]
 refine held_nil (fun W' hW' => ?_)
 obtain ⟨_, _, _, hb⟩ := hW'
 clear c0 c1 c2 f0 f1 f2
 go_wp2_with (fail)
 go_ret
 exact ⟨rfl, below_trans hbW hb hwW⟩
set_option maxRecDepth 8000 in
set_option maxHeartbeats 2000000 in
theorem isSystem_vis (p a b : Int) (A : Option Addr) (c : Nat) (hs : List Hd) (w : World) (hR : RdR w A hs) (hT : Tab w) (h1 : fieldB p = true) (ha : ¬ (0 ≤ a ∧ a ≤ 24)) :
  Calls Tryd.prog 33 #[.int .i64 p, .agg #[.int .i64 a, .int .i64 b, .slice A hs.length c]] w fun e w' => e = .returned (.bool (false)) ∧ Below w.heap.size w w' := by
 have hbw : Below w.heap.size w (w.alloc (.cells #[.int .i64 a, .int .i64 b, .slice A hs.length c] 29)) := (Below.refl w.heap.size w).alloc (Nat.le_refl _) _
 obtain ⟨W, hW⟩ : ∃ W, W = w.alloc (.cells #[.int .i64 a, .int .i64 b, .slice A hs.length c] 29) := ⟨_, rfl⟩
 have hk : W.heap[w.heap.size]? = some (.cells #[.int .i64 a, .int .i64 b, .slice A hs.length c] 29) := by rw [hW]; exact heap_alloc_new w _
 obtain ⟨⟨c0, c1, c2⟩, f0, f1, f2⟩ := box3 hk
 have hTW : Tab W := by rw [hW]; exact hT.below hbw hT.lt
 have hRW : RdR W A hs := by rw [hW]; exact hR.below hbw
 have hwW : w.heap.size ≤ W.heap.size := by rw [hW]; exact hbw.size
 have hbW : Below w.heap.size w W := by rw [hW]; exact hbw
 have HF : ∀ w', Below W.heap.size W w' → Calls Tryd.prog 61 #[.int .i64 p] w' fun e w'' => e = .returned (.bool true) ∧ w' = w'' := fun w' h => by
  have := isField_any p w' (hTW.below h hTW.lt); rwa [h1] at this
 have HA : ∀ w', Calls Tryd.prog 62 #[.int .i64 a, .int .i64 0, .int .i64 24] w' fun e w'' => e = .returned (.bool false) ∧ w' = w'' := fun w' => by
  have := within_any a 0 24 w'; rwa [show (decide (0 ≤ a) && decide (a ≤ 24)) = false by simp; omega] at this
 have HFh := lH HF; have HAh := lH HA; clear hk hT hR hbw HF hTW hRW HA ha
 go_enter Tryd.func33, Tryd.ntmps33
 go_wp2_with (fail)
 rw [← hW]
 clear hW
 refine wp_region_heldS 27 (fun w' => w'.cell? ⟨w.heap.size, 0, none⟩ = some (.int .i64 a) ∧ w'.cell? ⟨w.heap.size, 1, none⟩ = some (.int .i64 b) ∧ w'.cell? ⟨w.heap.size, 2, none⟩ = some (.slice A hs.length c) ∧ Below W.heap.size W w') (by kernel_rfl) (by kernel_rfl) ⟨c0, c1, c2, below_drewN (Below.refl _ _) 1⟩ ?_
 simp only [List.take_succ_cons, List.take_zero, List.drop_succ_cons, List.drop_zero]
 refine held_val (v := ?_) (by rfl) (fun W' hW' => ?_) ?_; rotate_left; · (obtain ⟨c0, c1, c2, hb⟩ := hW'; go_simp; first | done | with_reducible rfl)
 simp only [Act.put, nS]
 refine' held_call (v := .bool true) (f := _) (args := _) (by rfl) (fun W' => ?_) (fun W' hW' => ?_) ?_; rotate_left 2; · (go_simp; first | done | with_reducible rfl | (constructor <;> with_reducible rfl))
 · (obtain ⟨c0, c1, c2, hb⟩ := hW'; refine (HFh.out _ hb).mono ?_; rintro e w' ⟨rfl, rfl⟩; exact ⟨rfl, c0, c1, c2, hb⟩)
 simp only [Act.put, nS]
 refine held_val (v := ?_) (by rfl) (fun W' hW' => ?_) ?_; rotate_left; · (obtain ⟨c0, c1, c2, hb⟩ := hW'; go_simp; first | done | with_reducible rfl)
 simp only [Act.put, nS]
 refine held_val (v := ?_) (by rfl) (fun W' hW' => ?_) ?_; rotate_left; · (obtain ⟨c0, c1, c2, hb⟩ := hW'; go_simp; first | done | with_reducible rfl)
 simp only [Act.put, nS]
 refine held_val (v := ?_) (by rfl) (fun W' hW' => ?_) ?_; rotate_left; · (obtain ⟨c0, c1, c2, hb⟩ := hW'; go_simp; first | done | with_reducible rfl)
 simp only [Act.put, nS]
 refine' held_call (v := .bool false) (f := _) (args := _) (by rfl) (fun W' => ?_) (fun W' hW' => ?_) ?_; rotate_left 2; · (go_simp; first | done | with_reducible rfl | (constructor <;> with_reducible rfl))
 · (obtain ⟨c0, c1, c2, hb⟩ := hW'; refine (HAh.out _).mono ?_; rintro e w' ⟨rfl, rfl⟩; exact ⟨rfl, c0, c1, c2, hb⟩)
 simp only [Act.put, nS]
 refine held_val (v := ?_) (by rfl) (fun W' hW' => ?_) ?_; rotate_left; · (obtain ⟨c0, c1, c2, hb⟩ := hW'; go_simp; first | done | with_reducible rfl)
 simp only [Act.put, nS]
 refine held_val (v := ?_) (by rfl) (fun W' hW' => ?_) ?_; rotate_left; · (obtain ⟨c0, c1, c2, hb⟩ := hW'; go_simp; first | done | with_reducible rfl)
 simp only [Act.put, nS]
 refine held_off (by rfl) ?_
 simp only [Act.put, nS]
 refine held_off (by rfl) ?_
 simp only [Act.put, nS]
 refine held_off (by rfl) ?_
 simp only [Act.put, nS]
 refine held_val (v := ?_) (by rfl) (fun W' hW' => ?_) ?_; rotate_left; · (obtain ⟨c0, c1, c2, hb⟩ := hW'; go_simp; first | done | with_reducible rfl)
 simp only [Act.put, nS]
 refine held_val (v := ?_) (by rfl) (fun W' hW' => ?_) ?_; rotate_left; · (obtain ⟨c0, c1, c2, hb⟩ := hW'; go_simp; first | done | with_reducible rfl)
 simp only [Act.put, nS]
 refine held_off (by rfl) ?_
 simp only [Act.put, nS]
 refine held_off (by rfl) ?_
 simp only [Act.put, nS]
 refine held_off (by rfl) ?_
 simp only [Act.put, nS]
 refine held_off (by rfl) ?_
 simp only [Act.put, nS]
 refine held_val (v := ?_) (by rfl) (fun W' hW' => ?_) ?_; rotate_left; · (obtain ⟨c0, c1, c2, hb⟩ := hW'; go_simp; first | done | with_reducible rfl)
 simp only [Act.put, nS]
 refine held_val (v := ?_) (by rfl) (fun W' hW' => ?_) ?_; rotate_left; · (obtain ⟨c0, c1, c2, hb⟩ := hW'; go_simp; first | done | with_reducible rfl)
 simp only [Act.put, nS]
 refine held_off (by rfl) ?_
 simp only [Act.put, nS]
 refine held_off (by rfl) ?_
 simp only [Act.put, nS]
 refine held_off (by rfl) ?_
 simp only [Act.put, nS]
 refine held_off (by rfl) ?_
 simp only [Act.put, nS]
 refine held_off (by rfl) ?_
 simp only [Act.put, nS]
 refine held_off (by rfl) ?_
 simp only [Act.put, nS]
 refine held_val (v := ?_) (by rfl) (fun W' hW' => ?_) ?_; rotate_left; · (obtain ⟨c0, c1, c2, hb⟩ := hW'; go_simp; first | done | with_reducible rfl)
 simp only [Act.put, nS]
 refine held_val (v := ?_) (by rfl) (fun W' hW' => ?_) ?_; rotate_left; · (obtain ⟨c0, c1, c2, hb⟩ := hW'; go_simp; first | done | with_reducible rfl)
 simp only [Act.put, nS]
 refine held_nil (fun W' hW' => ?_)
 obtain ⟨_, _, _, hb⟩ := hW'
 clear c0 c1 c2 f0 f1 f2
 go_wp2_with (fail)
 go_ret
 exact ⟨rfl, below_trans hbW hb hwW⟩
set_option maxRecDepth 8000 in
set_option maxHeartbeats 2000000 in
theorem isSystem_hid (p a b : Int) (A : Option Addr) (c : Nat) (hs : List Hd) (w : World) (hR : RdR w A hs) (hT : Tab w) (h1 : fieldB p = true) (ha : 0 ≤ a ∧ a ≤ 24) (hb : ¬ (0 ≤ b ∧ b ≤ 100)) :
  Calls Tryd.prog 33 #[.int .i64 p, .agg #[.int .i64 a, .int .i64 b, .slice A hs.length c]] w fun e w' => e = .returned (.bool (false)) ∧ Below w.heap.size w w' := by
 have hbw : Below w.heap.size w (w.alloc (.cells #[.int .i64 a, .int .i64 b, .slice A hs.length c] 29)) := (Below.refl w.heap.size w).alloc (Nat.le_refl _) _
 obtain ⟨W, hW⟩ : ∃ W, W = w.alloc (.cells #[.int .i64 a, .int .i64 b, .slice A hs.length c] 29) := ⟨_, rfl⟩
 have hk : W.heap[w.heap.size]? = some (.cells #[.int .i64 a, .int .i64 b, .slice A hs.length c] 29) := by rw [hW]; exact heap_alloc_new w _
 obtain ⟨⟨c0, c1, c2⟩, f0, f1, f2⟩ := box3 hk
 have hTW : Tab W := by rw [hW]; exact hT.below hbw hT.lt
 have hRW : RdR W A hs := by rw [hW]; exact hR.below hbw
 have hwW : w.heap.size ≤ W.heap.size := by rw [hW]; exact hbw.size
 have hbW : Below w.heap.size w W := by rw [hW]; exact hbw
 have HF : ∀ w', Below W.heap.size W w' → Calls Tryd.prog 61 #[.int .i64 p] w' fun e w'' => e = .returned (.bool true) ∧ w' = w'' := fun w' h => by
  have := isField_any p w' (hTW.below h hTW.lt); rwa [h1] at this
 have HA : ∀ w', Calls Tryd.prog 62 #[.int .i64 a, .int .i64 0, .int .i64 24] w' fun e w'' => e = .returned (.bool true) ∧ w' = w'' := fun w' => by
  have := within_any a 0 24 w'; rwa [decide_eq_true ha.1, decide_eq_true ha.2, Bool.and_true] at this
 have HB : ∀ w', Calls Tryd.prog 62 #[.int .i64 b, .int .i64 0, .int .i64 100] w' fun e w'' => e = .returned (.bool false) ∧ w' = w'' := fun w' => by
  have := within_any b 0 100 w'; rwa [show (decide (0 ≤ b) && decide (b ≤ 100)) = false by simp; omega] at this
 have HFh := lH HF; have HAh := lH HA; have HBh := lH HB; clear hk hT hR hbw HF hTW hRW HA HB hb
 go_enter Tryd.func33, Tryd.ntmps33
 go_wp2_with (fail)
 rw [← hW]
 clear hW
 refine wp_region_heldS 27 (fun w' => w'.cell? ⟨w.heap.size, 0, none⟩ = some (.int .i64 a) ∧ w'.cell? ⟨w.heap.size, 1, none⟩ = some (.int .i64 b) ∧ w'.cell? ⟨w.heap.size, 2, none⟩ = some (.slice A hs.length c) ∧ Below W.heap.size W w') (by kernel_rfl) (by kernel_rfl) ⟨c0, c1, c2, below_drewN (Below.refl _ _) 1⟩ ?_
 simp only [List.take_succ_cons, List.take_zero, List.drop_succ_cons, List.drop_zero]
 refine held_val (v := ?_) (by rfl) (fun W' hW' => ?_) ?_; rotate_left; · (obtain ⟨c0, c1, c2, hb⟩ := hW'; go_simp; first | done | with_reducible rfl)
 simp only [Act.put, nS]
 refine' held_call (v := .bool true) (f := _) (args := _) (by rfl) (fun W' => ?_) (fun W' hW' => ?_) ?_; rotate_left 2; · (go_simp; first | done | with_reducible rfl | (constructor <;> with_reducible rfl))
 · (obtain ⟨c0, c1, c2, hb⟩ := hW'; refine (HFh.out _ hb).mono ?_; rintro e w' ⟨rfl, rfl⟩; exact ⟨rfl, c0, c1, c2, hb⟩)
 simp only [Act.put, nS]
 refine held_val (v := ?_) (by rfl) (fun W' hW' => ?_) ?_; rotate_left; · (obtain ⟨c0, c1, c2, hb⟩ := hW'; go_simp; first | done | with_reducible rfl)
 simp only [Act.put, nS]
 refine held_val (v := ?_) (by rfl) (fun W' hW' => ?_) ?_; rotate_left; · (obtain ⟨c0, c1, c2, hb⟩ := hW'; go_simp; first | done | with_reducible rfl)
 simp only [Act.put, nS]
 refine held_val (v := ?_) (by rfl) (fun W' hW' => ?_) ?_; rotate_left; · (obtain ⟨c0, c1, c2, hb⟩ := hW'; go_simp; first | done | with_reducible rfl)
 simp only [Act.put, nS]
 refine' held_call (v := .bool true) (f := _) (args := _) (by rfl) (fun W' => ?_) (fun W' hW' => ?_) ?_; rotate_left 2; · (go_simp; first | done | with_reducible rfl | (constructor <;> with_reducible rfl))
 · (obtain ⟨c0, c1, c2, hb⟩ := hW'; refine (HAh.out _).mono ?_; rintro e w' ⟨rfl, rfl⟩; exact ⟨rfl, c0, c1, c2, hb⟩)
 simp only [Act.put, nS]
 refine held_val (v := ?_) (by rfl) (fun W' hW' => ?_) ?_; rotate_left; · (obtain ⟨c0, c1, c2, hb⟩ := hW'; go_simp; first | done | with_reducible rfl)
 simp only [Act.put, nS]
 refine held_val (v := ?_) (by rfl) (fun W' hW' => ?_) ?_; rotate_left; · (obtain ⟨c0, c1, c2, hb⟩ := hW'; go_simp; first | done | with_reducible rfl)
 simp only [Act.put, nS]
 refine held_val (v := ?_) (by rfl) (fun W' hW' => ?_) ?_; rotate_left; · (obtain ⟨c0, c1, c2, hb⟩ := hW'; go_simp; first | done | with_reducible rfl)
 simp only [Act.put, nS]
 refine held_val (v := ?_) (by rfl) (fun W' hW' => ?_) ?_; rotate_left; · (obtain ⟨c0, c1, c2, hb⟩ := hW'; go_simp; first | done | with_reducible rfl)
 simp only [Act.put, nS]
 refine' held_call (v := .bool false) (f := _) (args := _) (by rfl) (fun W' => ?_) (fun W' hW' => ?_) ?_; rotate_left 2; · (go_simp; first | done | with_reducible rfl | (constructor <;> with_reducible rfl))
 · (obtain ⟨c0, c1, c2, hb⟩ := hW'; refine (HBh.out _).mono ?_; rintro e w' ⟨rfl, rfl⟩; exact ⟨rfl, c0, c1, c2, hb⟩)
 simp only [Act.put, nS]
 refine held_val (v := ?_) (by rfl) (fun W' hW' => ?_) ?_; rotate_left; · (obtain ⟨c0, c1, c2, hb⟩ := hW'; go_simp; first | done | with_reducible rfl)
 simp only [Act.put, nS]
 refine held_val (v := ?_) (by rfl) (fun W' hW' => ?_) ?_; rotate_left; · (obtain ⟨c0, c1, c2, hb⟩ := hW'; go_simp; first | done | with_reducible rfl)
 simp only [Act.put, nS]
 refine held_off (by rfl) ?_
 simp only [Act.put, nS]
 refine held_off (by rfl) ?_
 simp only [Act.put, nS]
 refine held_off (by rfl) ?_
 simp only [Act.put, nS]
 refine held_off (by rfl) ?_
 simp only [Act.put, nS]
 refine held_val (v := ?_) (by rfl) (fun W' hW' => ?_) ?_; rotate_left; · (obtain ⟨c0, c1, c2, hb⟩ := hW'; go_simp; first | done | with_reducible rfl)
 simp only [Act.put, nS]
 refine held_val (v := ?_) (by rfl) (fun W' hW' => ?_) ?_; rotate_left; · (obtain ⟨c0, c1, c2, hb⟩ := hW'; go_simp; first | done | with_reducible rfl)
 simp only [Act.put, nS]
 refine held_off (by rfl) ?_
 simp only [Act.put, nS]
 refine held_off (by rfl) ?_
 simp only [Act.put, nS]
 refine held_off (by rfl) ?_
 simp only [Act.put, nS]
 refine held_off (by rfl) ?_
 simp only [Act.put, nS]
 refine held_off (by rfl) ?_
 simp only [Act.put, nS]
 refine held_off (by rfl) ?_
 simp only [Act.put, nS]
 refine held_val (v := ?_) (by rfl) (fun W' hW' => ?_) ?_; rotate_left; · (obtain ⟨c0, c1, c2, hb⟩ := hW'; go_simp; first | done | with_reducible rfl)
 simp only [Act.put, nS]
 refine held_val (v := ?_) (by rfl) (fun W' hW' => ?_) ?_; rotate_left; · (obtain ⟨c0, c1, c2, hb⟩ := hW'; go_simp; first | done | with_reducible rfl)
 simp only [Act.put, nS]
 refine held_nil (fun W' hW' => ?_)
 obtain ⟨_, _, _, hb⟩ := hW'
 clear c0 c1 c2 f0 f1 f2
 go_wp2_with (fail)
 go_ret
 exact ⟨rfl, below_trans hbW hb hwW⟩
set_option maxRecDepth 8000 in
set_option maxHeartbeats 2000000 in
theorem isSystem_rows (p a b : Int) (A : Option Addr) (c : Nat) (hs : List Hd) (w : World) (hR : RdR w A hs) (hT : Tab w) (h1 : fieldB p = true) (ha : 0 ≤ a ∧ a ≤ 24) (hb : 0 ≤ b ∧ b ≤ 100) (hl : ¬ hs.length ≤ 160) :
  Calls Tryd.prog 33 #[.int .i64 p, .agg #[.int .i64 a, .int .i64 b, .slice A hs.length c]] w fun e w' => e = .returned (.bool (false)) ∧ Below w.heap.size w w' := by
 have hbw : Below w.heap.size w (w.alloc (.cells #[.int .i64 a, .int .i64 b, .slice A hs.length c] 29)) := (Below.refl w.heap.size w).alloc (Nat.le_refl _) _
 obtain ⟨W, hW⟩ : ∃ W, W = w.alloc (.cells #[.int .i64 a, .int .i64 b, .slice A hs.length c] 29) := ⟨_, rfl⟩
 have hk : W.heap[w.heap.size]? = some (.cells #[.int .i64 a, .int .i64 b, .slice A hs.length c] 29) := by rw [hW]; exact heap_alloc_new w _
 obtain ⟨⟨c0, c1, c2⟩, f0, f1, f2⟩ := box3 hk
 have hTW : Tab W := by rw [hW]; exact hT.below hbw hT.lt
 have hRW : RdR W A hs := by rw [hW]; exact hR.below hbw
 have hwW : w.heap.size ≤ W.heap.size := by rw [hW]; exact hbw.size
 have hbW : Below w.heap.size w W := by rw [hW]; exact hbw
 have HF : ∀ w', Below W.heap.size W w' → Calls Tryd.prog 61 #[.int .i64 p] w' fun e w'' => e = .returned (.bool true) ∧ w' = w'' := fun w' h => by
  have := isField_any p w' (hTW.below h hTW.lt); rwa [h1] at this
 have HA : ∀ w', Calls Tryd.prog 62 #[.int .i64 a, .int .i64 0, .int .i64 24] w' fun e w'' => e = .returned (.bool true) ∧ w' = w'' := fun w' => by
  have := within_any a 0 24 w'; rwa [decide_eq_true ha.1, decide_eq_true ha.2, Bool.and_true] at this
 have HB : ∀ w', Calls Tryd.prog 62 #[.int .i64 b, .int .i64 0, .int .i64 100] w' fun e w'' => e = .returned (.bool true) ∧ w' = w'' := fun w' => by
  have := within_any b 0 100 w'; rwa [decide_eq_true hb.1, decide_eq_true hb.2, Bool.and_true] at this
 have d4 : decide ((hs.length : Int) ≤ 160) = false := decide_eq_false (by omega)
 have HFh := lH HF; have HAh := lH HA; have HBh := lH HB; clear hk hT hR hbw HF hTW hRW HA HB hl
 go_enter Tryd.func33, Tryd.ntmps33
 go_wp2_with (fail)
 rw [← hW]
 clear hW
 refine wp_region_heldS 27 (fun w' => w'.cell? ⟨w.heap.size, 0, none⟩ = some (.int .i64 a) ∧ w'.cell? ⟨w.heap.size, 1, none⟩ = some (.int .i64 b) ∧ w'.cell? ⟨w.heap.size, 2, none⟩ = some (.slice A hs.length c) ∧ Below W.heap.size W w') (by kernel_rfl) (by kernel_rfl) ⟨c0, c1, c2, below_drewN (Below.refl _ _) 1⟩ ?_
 simp only [List.take_succ_cons, List.take_zero, List.drop_succ_cons, List.drop_zero]
 refine held_val (v := ?_) (by rfl) (fun W' hW' => ?_) ?_; rotate_left; · (obtain ⟨c0, c1, c2, hb⟩ := hW'; go_simp; first | done | with_reducible rfl)
 simp only [Act.put, nS]
 refine' held_call (v := .bool true) (f := _) (args := _) (by rfl) (fun W' => ?_) (fun W' hW' => ?_) ?_; rotate_left 2; · (go_simp; first | done | with_reducible rfl | (constructor <;> with_reducible rfl))
 · (obtain ⟨c0, c1, c2, hb⟩ := hW'; refine (HFh.out _ hb).mono ?_; rintro e w' ⟨rfl, rfl⟩; exact ⟨rfl, c0, c1, c2, hb⟩)
 simp only [Act.put, nS]
 refine held_val (v := ?_) (by rfl) (fun W' hW' => ?_) ?_; rotate_left; · (obtain ⟨c0, c1, c2, hb⟩ := hW'; go_simp; first | done | with_reducible rfl)
 simp only [Act.put, nS]
 refine held_val (v := ?_) (by rfl) (fun W' hW' => ?_) ?_; rotate_left; · (obtain ⟨c0, c1, c2, hb⟩ := hW'; go_simp; first | done | with_reducible rfl)
 simp only [Act.put, nS]
 refine held_val (v := ?_) (by rfl) (fun W' hW' => ?_) ?_; rotate_left; · (obtain ⟨c0, c1, c2, hb⟩ := hW'; go_simp; first | done | with_reducible rfl)
 simp only [Act.put, nS]
 refine' held_call (v := .bool true) (f := _) (args := _) (by rfl) (fun W' => ?_) (fun W' hW' => ?_) ?_; rotate_left 2; · (go_simp; first | done | with_reducible rfl | (constructor <;> with_reducible rfl))
 · (obtain ⟨c0, c1, c2, hb⟩ := hW'; refine (HAh.out _).mono ?_; rintro e w' ⟨rfl, rfl⟩; exact ⟨rfl, c0, c1, c2, hb⟩)
 simp only [Act.put, nS]
 refine held_val (v := ?_) (by rfl) (fun W' hW' => ?_) ?_; rotate_left; · (obtain ⟨c0, c1, c2, hb⟩ := hW'; go_simp; first | done | with_reducible rfl)
 simp only [Act.put, nS]
 refine held_val (v := ?_) (by rfl) (fun W' hW' => ?_) ?_; rotate_left; · (obtain ⟨c0, c1, c2, hb⟩ := hW'; go_simp; first | done | with_reducible rfl)
 simp only [Act.put, nS]
 refine held_val (v := ?_) (by rfl) (fun W' hW' => ?_) ?_; rotate_left; · (obtain ⟨c0, c1, c2, hb⟩ := hW'; go_simp; first | done | with_reducible rfl)
 simp only [Act.put, nS]
 refine held_val (v := ?_) (by rfl) (fun W' hW' => ?_) ?_; rotate_left; · (obtain ⟨c0, c1, c2, hb⟩ := hW'; go_simp; first | done | with_reducible rfl)
 simp only [Act.put, nS]
 refine' held_call (v := .bool true) (f := _) (args := _) (by rfl) (fun W' => ?_) (fun W' hW' => ?_) ?_; rotate_left 2; · (go_simp; first | done | with_reducible rfl | (constructor <;> with_reducible rfl))
 · (obtain ⟨c0, c1, c2, hb⟩ := hW'; refine (HBh.out _).mono ?_; rintro e w' ⟨rfl, rfl⟩; exact ⟨rfl, c0, c1, c2, hb⟩)
 simp only [Act.put, nS]
 refine held_val (v := ?_) (by rfl) (fun W' hW' => ?_) ?_; rotate_left; · (obtain ⟨c0, c1, c2, hb⟩ := hW'; go_simp; first | done | with_reducible rfl)
 simp only [Act.put, nS]
 refine held_val (v := ?_) (by rfl) (fun W' hW' => ?_) ?_; rotate_left; · (obtain ⟨c0, c1, c2, hb⟩ := hW'; go_simp; first | done | with_reducible rfl)
 simp only [Act.put, nS]
 refine held_val (v := ?_) (by rfl) (fun W' hW' => ?_) ?_; rotate_left; · (obtain ⟨c0, c1, c2, hb⟩ := hW'; go_simp; first | done | with_reducible rfl)
 simp only [Act.put, nS]
 refine held_val (v := ?_) (by rfl) (fun W' hW' => ?_) ?_; rotate_left; · (obtain ⟨c0, c1, c2, hb⟩ := hW'; go_simp; first | done | with_reducible rfl)
 simp only [Act.put, nS]
 refine held_val (v := ?_) (by rfl) (fun W' hW' => ?_) ?_; rotate_left; · (obtain ⟨c0, c1, c2, hb⟩ := hW'; go_simp; first | done | with_reducible rfl)
 simp only [Act.put, nS]
 refine held_val (v := ?_) (by rfl) (fun W' hW' => ?_) ?_; rotate_left; · (obtain ⟨c0, c1, c2, hb⟩ := hW'; go_simp; first | done | with_reducible rfl)
 simp only [Act.put, nS]
 refine held_val (v := ?_) (by rfl) (fun W' hW' => ?_) ?_; rotate_left; · (obtain ⟨c0, c1, c2, hb⟩ := hW'; go_simp; first | done | with_reducible rfl)
 simp only [Act.put, nS]
 refine held_val (v := ?_) (by rfl) (fun W' hW' => ?_) ?_; rotate_left; · (obtain ⟨c0, c1, c2, hb⟩ := hW'; go_simp; first | done | with_reducible rfl)
 simp only [Act.put, nS]
 refine held_off (by rfl) ?_
 simp only [Act.put, nS]
 refine held_off (by rfl) ?_
 simp only [Act.put, nS]
 refine held_off (by rfl) ?_
 simp only [Act.put, nS]
 refine held_off (by rfl) ?_
 simp only [Act.put, nS]
 refine held_off (by rfl) ?_
 simp only [Act.put, nS]
 refine held_off (by rfl) ?_
 simp only [Act.put, nS]
 refine held_val (v := ?_) (by rfl) (fun W' hW' => ?_) ?_; rotate_left; · (obtain ⟨c0, c1, c2, hb⟩ := hW'; go_simp; first | done | with_reducible rfl)
 simp only [Act.put, nS]
 refine held_val (v := ?_) (by rfl) (fun W' hW' => ?_) ?_; rotate_left; · (obtain ⟨c0, c1, c2, hb⟩ := hW'; go_simp; first | done | with_reducible rfl)
 simp only [Act.put, nS]
 refine held_nil (fun W' hW' => ?_)
 obtain ⟨_, _, _, hb⟩ := hW'
 clear c0 c1 c2 f0 f1 f2
 go_wp2_with (fail)
 go_ret
 exact ⟨rfl, below_trans hbW hb hwW⟩
set_option maxRecDepth 8000 in
set_option maxHeartbeats 2000000 in
theorem isSystem_true (p a b : Int) (A : Option Addr) (c : Nat) (hs : List Hd) (w : World) (hR : RdR w A hs) (hT : Tab w) (h1 : fieldB p = true) (ha : 0 ≤ a ∧ a ≤ 24) (hb : 0 ≤ b ∧ b ≤ 100) (hl : hs.length ≤ 160) (hrr : ∀ x, x ∈ hs → x.2.2.length ≤ 17592186044416) :
  Calls Tryd.prog 33 #[.int .i64 p, .agg #[.int .i64 a, .int .i64 b, .slice A hs.length c]] w fun e w' => e = .returned (.bool (rowsB p (a + b) (hs.map fun h : Hd => h.2.2))) ∧ Below w.heap.size w w' := by
 obtain ⟨X, hX⟩ : ∃ X, X = rowsB p (a + b) (hs.map fun h : Hd => h.2.2) := ⟨_, rfl⟩
 rw [← hX]
 have HX := lH hX; clear hX
 have hpb := fieldB_bounds h1
 have hbw : Below w.heap.size w (w.alloc (.cells #[.int .i64 a, .int .i64 b, .slice A hs.length c] 29)) := (Below.refl w.heap.size w).alloc (Nat.le_refl _) _
 obtain ⟨W, hW⟩ : ∃ W, W = w.alloc (.cells #[.int .i64 a, .int .i64 b, .slice A hs.length c] 29) := ⟨_, rfl⟩
 have hk : W.heap[w.heap.size]? = some (.cells #[.int .i64 a, .int .i64 b, .slice A hs.length c] 29) := by rw [hW]; exact heap_alloc_new w _
 obtain ⟨⟨c0, c1, c2⟩, f0, f1, f2⟩ := box3 hk
 have hTW : Tab W := by rw [hW]; exact hT.below hbw hT.lt
 have hRW : RdR W A hs := by rw [hW]; exact hR.below hbw
 have hwW : w.heap.size ≤ W.heap.size := by rw [hW]; exact hbw.size
 have hbW : Below w.heap.size w W := by rw [hW]; exact hbw
 have HF : ∀ w', Below W.heap.size W w' → Calls Tryd.prog 61 #[.int .i64 p] w' fun e w'' => e = .returned (.bool true) ∧ w' = w'' := fun w' h => by
  have := isField_any p w' (hTW.below h hTW.lt); rwa [h1] at this
 have HA : ∀ w', Calls Tryd.prog 62 #[.int .i64 a, .int .i64 0, .int .i64 24] w' fun e w'' => e = .returned (.bool true) ∧ w' = w'' := fun w' => by
  have := within_any a 0 24 w'; rwa [decide_eq_true ha.1, decide_eq_true ha.2, Bool.and_true] at this
 have HB : ∀ w', Calls Tryd.prog 62 #[.int .i64 b, .int .i64 0, .int .i64 100] w' fun e w'' => e = .returned (.bool true) ∧ w' = w'' := fun w' => by
  have := within_any b 0 100 w'; rwa [decide_eq_true hb.1, decide_eq_true hb.2, Bool.and_true] at this
 have HV : ∀ w', Below W.heap.size W w' → Calls Tryd.prog 63 #[.int .i64 p, .slice A hs.length c, .int .i64 (a + b)] w' fun e w'' => e = .returned (.bool X) ∧ w' = w'' := fun w' h => by
  have := areVectors_any p (a + b) A c hs w' (hRW.below h) (by omega) hrr; rwa [← HX.out] at this
 have HVh := lH HV
 have HSz := lH (fun w' => size_any a b (.slice A hs.length c) w' ha hb)
 have d4 : decide ((hs.length : Int) ≤ 160) = true := decide_eq_true (by omega)
 have HFh := lH HF; have HAh := lH HA; have HBh := lH HB; clear hk hT hR hbw HF hTW hRW HA HB HV hrr
 go_enter Tryd.func33, Tryd.ntmps33
 go_wp2_with (fail)
 rw [← hW]
 clear hW
 refine wp_region_heldS 27 (fun w' => w'.cell? ⟨w.heap.size, 0, none⟩ = some (.int .i64 a) ∧ w'.cell? ⟨w.heap.size, 1, none⟩ = some (.int .i64 b) ∧ w'.cell? ⟨w.heap.size, 2, none⟩ = some (.slice A hs.length c) ∧ Below W.heap.size W w') (by kernel_rfl) (by kernel_rfl) ⟨c0, c1, c2, below_drewN (Below.refl _ _) 1⟩ ?_
 simp only [List.take_succ_cons, List.take_zero, List.drop_succ_cons, List.drop_zero]
 refine held_val (v := ?_) (by rfl) (fun W' hW' => ?_) ?_; rotate_left; · (obtain ⟨c0, c1, c2, hb⟩ := hW'; go_simp; first | done | with_reducible rfl)
 simp only [Act.put, nS]
 refine' held_call (v := .bool true) (f := _) (args := _) (by rfl) (fun W' => ?_) (fun W' hW' => ?_) ?_; rotate_left 2; · (go_simp; first | done | with_reducible rfl | (constructor <;> with_reducible rfl))
 · (obtain ⟨c0, c1, c2, hb⟩ := hW'; refine (HFh.out _ hb).mono ?_; rintro e w' ⟨rfl, rfl⟩; exact ⟨rfl, c0, c1, c2, hb⟩)
 simp only [Act.put, nS]
 refine held_val (v := ?_) (by rfl) (fun W' hW' => ?_) ?_; rotate_left; · (obtain ⟨c0, c1, c2, hb⟩ := hW'; go_simp; first | done | with_reducible rfl)
 simp only [Act.put, nS]
 refine held_val (v := ?_) (by rfl) (fun W' hW' => ?_) ?_; rotate_left; · (obtain ⟨c0, c1, c2, hb⟩ := hW'; go_simp; first | done | with_reducible rfl)
 simp only [Act.put, nS]
 refine held_val (v := ?_) (by rfl) (fun W' hW' => ?_) ?_; rotate_left; · (obtain ⟨c0, c1, c2, hb⟩ := hW'; go_simp; first | done | with_reducible rfl)
 simp only [Act.put, nS]
 refine' held_call (v := .bool true) (f := _) (args := _) (by rfl) (fun W' => ?_) (fun W' hW' => ?_) ?_; rotate_left 2; · (go_simp; first | done | with_reducible rfl | (constructor <;> with_reducible rfl))
 · (obtain ⟨c0, c1, c2, hb⟩ := hW'; refine (HAh.out _).mono ?_; rintro e w' ⟨rfl, rfl⟩; exact ⟨rfl, c0, c1, c2, hb⟩)
 simp only [Act.put, nS]
 refine held_val (v := ?_) (by rfl) (fun W' hW' => ?_) ?_; rotate_left; · (obtain ⟨c0, c1, c2, hb⟩ := hW'; go_simp; first | done | with_reducible rfl)
 simp only [Act.put, nS]
 refine held_val (v := ?_) (by rfl) (fun W' hW' => ?_) ?_; rotate_left; · (obtain ⟨c0, c1, c2, hb⟩ := hW'; go_simp; first | done | with_reducible rfl)
 simp only [Act.put, nS]
 refine held_val (v := ?_) (by rfl) (fun W' hW' => ?_) ?_; rotate_left; · (obtain ⟨c0, c1, c2, hb⟩ := hW'; go_simp; first | done | with_reducible rfl)
 simp only [Act.put, nS]
 refine held_val (v := ?_) (by rfl) (fun W' hW' => ?_) ?_; rotate_left; · (obtain ⟨c0, c1, c2, hb⟩ := hW'; go_simp; first | done | with_reducible rfl)
 simp only [Act.put, nS]
 refine' held_call (v := .bool true) (f := _) (args := _) (by rfl) (fun W' => ?_) (fun W' hW' => ?_) ?_; rotate_left 2; · (go_simp; first | done | with_reducible rfl | (constructor <;> with_reducible rfl))
 · (obtain ⟨c0, c1, c2, hb⟩ := hW'; refine (HBh.out _).mono ?_; rintro e w' ⟨rfl, rfl⟩; exact ⟨rfl, c0, c1, c2, hb⟩)
 simp only [Act.put, nS]
 refine held_val (v := ?_) (by rfl) (fun W' hW' => ?_) ?_; rotate_left; · (obtain ⟨c0, c1, c2, hb⟩ := hW'; go_simp; first | done | with_reducible rfl)
 simp only [Act.put, nS]
 refine held_val (v := ?_) (by rfl) (fun W' hW' => ?_) ?_; rotate_left; · (obtain ⟨c0, c1, c2, hb⟩ := hW'; go_simp; first | done | with_reducible rfl)
 simp only [Act.put, nS]
 refine held_val (v := ?_) (by rfl) (fun W' hW' => ?_) ?_; rotate_left; · (obtain ⟨c0, c1, c2, hb⟩ := hW'; go_simp; first | done | with_reducible rfl)
 simp only [Act.put, nS]
 refine held_val (v := ?_) (by rfl) (fun W' hW' => ?_) ?_; rotate_left; · (obtain ⟨c0, c1, c2, hb⟩ := hW'; go_simp; first | done | with_reducible rfl)
 simp only [Act.put, nS]
 refine held_val (v := ?_) (by rfl) (fun W' hW' => ?_) ?_; rotate_left; · (obtain ⟨c0, c1, c2, hb⟩ := hW'; go_simp; first | done | with_reducible rfl)
 simp only [Act.put, nS]
 refine held_val (v := ?_) (by rfl) (fun W' hW' => ?_) ?_; rotate_left; · (obtain ⟨c0, c1, c2, hb⟩ := hW'; go_simp; first | done | with_reducible rfl)
 simp only [Act.put, nS]
 refine held_val (v := ?_) (by rfl) (fun W' hW' => ?_) ?_; rotate_left; · (obtain ⟨c0, c1, c2, hb⟩ := hW'; go_simp; first | done | with_reducible rfl)
 simp only [Act.put, nS]
 refine held_val (v := ?_) (by rfl) (fun W' hW' => ?_) ?_; rotate_left; · (obtain ⟨c0, c1, c2, hb⟩ := hW'; go_simp; first | done | with_reducible rfl)
 simp only [Act.put, nS]
 refine held_val (v := ?_) (by rfl) (fun W' hW' => ?_) ?_; rotate_left; · (obtain ⟨c0, c1, c2, hb⟩ := hW'; go_simp; first | done | with_reducible rfl)
 simp only [Act.put, nS]
 refine held_val (v := ?_) (by rfl) (fun W' hW' => ?_) ?_; rotate_left; · (obtain ⟨c0, c1, c2, hb⟩ := hW'; go_simp; first | done | with_reducible rfl)
 simp only [Act.put, nS]
 refine held_val (v := ?_) (by rfl) (fun W' hW' => ?_) ?_; rotate_left; · (obtain ⟨c0, c1, c2, hb⟩ := hW'; go_simp; first | done | with_reducible rfl)
 simp only [Act.put, nS]
 refine held_val (v := ?_) (by rfl) (fun W' hW' => ?_) ?_; rotate_left; · (obtain ⟨c0, c1, c2, hb⟩ := hW'; go_simp; first | done | with_reducible rfl)
 simp only [Act.put, nS]
 refine' held_call (v := .int .i64 (a + b)) (f := _) (args := _) (by rfl) (fun W' => ?_) (fun W' hW' => ?_) ?_; rotate_left 2; · (go_simp; first | done | with_reducible rfl | (constructor <;> with_reducible rfl))
 · (obtain ⟨c0, c1, c2, hb⟩ := hW'; refine (HSz.out W').mono ?_; rintro e w' ⟨rfl, rfl⟩; (have hb1 : Below W'.heap.size W' (W'.alloc (.cells #[.int .i64 a, .int .i64 b, .slice A hs.length c] 29)) := (Below.refl _ _).alloc (Nat.le_refl _) _); exact ⟨rfl, (hb1.cell (World.block_lt_of_cell? _ _ c0)).trans c0, (hb1.cell (World.block_lt_of_cell? _ _ c1)).trans c1, (hb1.cell (World.block_lt_of_cell? _ _ c2)).trans c2, below_trans hb hb1 hb.size⟩)
 simp only [Act.put, nS]
 refine' held_call (v := .bool X) (f := _) (args := _) (by rfl) (fun W' => ?_) (fun W' hW' => ?_) ?_; rotate_left 2; · (go_simp; first | done | with_reducible rfl | (constructor <;> with_reducible rfl))
 · (obtain ⟨c0, c1, c2, hb⟩ := hW'; refine (HVh.out _ hb).mono ?_; rintro e w' ⟨rfl, rfl⟩; exact ⟨rfl, c0, c1, c2, hb⟩)
 simp only [Act.put, nS]
 refine held_val (v := ?_) (by rfl) (fun W' hW' => ?_) ?_; rotate_left; · (obtain ⟨c0, c1, c2, hb⟩ := hW'; go_simp; first | done | with_reducible rfl)
 simp only [Act.put, nS]
 refine held_val (v := ?_) (by rfl) (fun W' hW' => ?_) ?_; rotate_left; · (obtain ⟨c0, c1, c2, hb⟩ := hW'; go_simp; first | done | with_reducible rfl)
 simp only [Act.put, nS]
 refine held_nil (fun W' hW' => ?_)
 obtain ⟨_, _, _, hb⟩ := hW'
 clear c0 c1 c2 f0 f1 f2
 go_wp2_with (fail)
 go_ret
 exact ⟨rfl, below_trans hbW hb hwW⟩
theorem isSystem_any (p : Int) {v : Value} {s : Sys} (w : World) (h : RdSysV w v s) (hT : Tab w) (hn : s.2.2.length ≤ 1048576) (hr : ∀ x, x ∈ s.2.2 → x.length ≤ 1048576) :
  Calls Tryd.prog 33 #[.int .i64 p, v] w fun e w' => e = .returned (.bool (sysB p s)) ∧ Below w.heap.size w w' := by
 obtain ⟨A, c, hs, rfl, hL, hR⟩ := h
 obtain ⟨a, b, L⟩ := s
 have hL' : L = hs.map (fun h : Hd => h.2.2) := hL
 subst hL'
 have hrr : ∀ x, x ∈ hs → x.2.2.length ≤ 17592186044416 := fun x hx => by have := hr _ (List.mem_map_of_mem hx); omega
 have key : ∀ B : Bool, sysB p (a, b, hs.map fun h : Hd => h.2.2) = B → Calls Tryd.prog 33 #[.int .i64 p, .agg #[.int .i64 a, .int .i64 b, .slice A hs.length c]] w (fun e w' => e = .returned (.bool B) ∧ Below w.heap.size w w') →
   Calls Tryd.prog 33 #[.int .i64 p, .agg #[.int .i64 a, .int .i64 b, .slice A hs.length c]] w (fun e w' => e = .returned (.bool (sysB p (a, b, hs.map fun h : Hd => h.2.2))) ∧ Below w.heap.size w w') := fun B e hc => by rw [e]; exact hc
 by_cases h1 : fieldB p = true
 case neg => exact key false (by simp [sysB, h1]) (isSystem_field p a b A c hs w hR hT (by simpa using h1))
 by_cases h2 : 0 ≤ a ∧ a ≤ 24
 case neg => exact key false (by have : (decide (0 ≤ a) && decide (a ≤ 24)) = false := by simp; omega
                                 unfold sysB; rw [this]; simp) (isSystem_vis p a b A c hs w hR hT h1 h2)
 by_cases h3 : 0 ≤ b ∧ b ≤ 100
 case neg => exact key false (by have : (decide (0 ≤ b) && decide (b ≤ 100)) = false := by simp; omega
                                 unfold sysB; simp only [this]; simp) (isSystem_hid p a b A c hs w hR hT h1 h2 h3)
 by_cases h4 : hs.length ≤ 160
 case neg => exact key false (by unfold sysB; simp [h4]) (isSystem_rows p a b A c hs w hR hT h1 h2 h3 h4)
 exact key _ (by unfold sysB; simp [h1, h2.1, h2.2, h3.1, h3.2, h4]) (isSystem_true p a b A c hs w hR hT h1 h2 h3 h4 hrr)
section
variable {w : World} {B : Nat} {t : TypeId} {x y z a b c : Value}
theorem set2 (h : w.heap[B]? = some (.cells #[x, y] t)) : ((w.setCell ⟨B, 0, none⟩ a).setCell ⟨B, 1, none⟩ b).heap[B]? = some (.cells #[a, b] t) ∧ Keeps (· = B) w ((w.setCell ⟨B, 0, none⟩ a).setCell ⟨B, 1, none⟩ b) := by
 refine ⟨by simp [World.setCell, Array.getElem?_modify, h], ?_⟩
 exact (((Keeps.refl (fun x => x = B) w).setCell (p := ⟨B, 0, none⟩) rfl _).setCell (p := ⟨B, 1, none⟩) rfl _)
end
theorem OwSys.zero (w : World) (a b : Int) : OwSys w (.agg #[.int .i64 a, .int .i64 b, .slice none 0 0]) (a, b, []) [] := ⟨none, 0, [], rfl, rfl, OwR.nil w, by simp [fpR]⟩
theorem OwMt.zero (w : World) (a : Int) : OwMt w (.agg #[.int .i64 a, .slice none 0 0]) (a, []) [] := ⟨none, 0, [], rfl, rfl, OwR.nil w, by simp [fpR]⟩
theorem FreshL.nil (B : Nat) : FreshL B [] := fun b hb => (by cases hb)
def fromI (a : Int) (n : Nat) : List Int := (List.range n).map fun i => ((i : Nat) : Int) + a
@[simp] theorem fromI_length (a : Int) (n : Nat) : (fromI a n).length = n := by simp [fromI]
def placeTo (n : Nat) (at_ : List Nat) (v : List Int) : Nat → List Int
 | 0 => List.replicate n 0
 | i + 1 => (placeTo n at_ v i).set (at_.getD i 0) (v.getD i 0)
@[simp] theorem placeTo_length (n : Nat) (at_ : List Nat) (v : List Int) : ∀ i, (placeTo n at_ v i).length = n
  | 0 => by simp [placeTo]
  | i + 1 => by rw [placeTo, List.length_set]; exact placeTo_length n at_ v i
set_option maxHeartbeats 400000 in
theorem lead_any (A : Option Addr) (c n : Nat) (l : List Int) (w : World) (h : RdI w A l) (hn : l.length = n) (hl : n ≤ 1048576) :
  Calls Tryd.prog 68 #[.slice A n c] w fun e w' => e = .returned (.int .i64 (leadV l : Nat)) ∧ w = w' := by
 have hn_h := lH hn; clear hn
 go_enter Tryd.func68, Tryd.ntmps68
 go_wp2_with (fail)
 go_loop [7, 3, 4] (fun v _s3 _s4 => ∃ k : Nat, k ≤ n ∧ v = .int .i64 k ∧ (l.take k).all (· == 0) = true) (fun v _ _ => n - (intOf v).toNat)
 case atStart => exact ⟨0, Nat.zero_le _, rfl, by simp⟩
 case round =>
  obtain ⟨k, hk, rfl, hz⟩ := hrel
  have hz_h := lH hz; clear hz
  by_cases hlt : k < n
  · obtain ⟨ad, x, rfl, hx, hc⟩ := h.at_ (j := k) (by rw [hn_h.out]; exact hlt)
    have hkI : (k : Int) < (n : Int) := by omega
    clear h; have hx_h := lH hx; clear hx
    by_cases hx0 : x = 0
    · subst hx0
      have hs := leadV_step hx_h.out rfl hz_h.out
      have hs_h := lH hs; clear hs
      go_wp2_with (fail)
      go_round
      case rel => exact ⟨k + 1, by omega, by go_num, hs_h.out⟩
      case measure => simp [intOf]; omega
    · have hx1 : (x != 0) = true := by simpa using hx0
      have he := leadV_at (l := l) (k := k) (by rw [hn_h.out]; omega) hz_h.out (fun _ => by rw [getD_of_some hx_h.out]; exact hx0)
      clear hx0; have he_h := lH he; clear he
      go_wp2_with (fail)
      go_ret
      exact ⟨ret_int (by rw [he_h.out]), rfl⟩
  · obtain rfl : n = k := by omega
    have he := leadV_at (l := l) (k := n) (by rw [hn_h.out]; omega) hz_h.out (fun h => absurd h (by rw [hn_h.out]; omega))
    clear h; have he_h := lH he; clear he
    go_wp2_with (fail)
    go_ret
    exact ⟨ret_int (by rw [he_h.out]), rfl⟩
structure RdO (w0 w : World) (A : Option Addr) (cap : Nat) (hs : List Hd) : Prop where
 sl : Sl w 25 1 A hs.length cap (hs.map Hd.val)
 rows : ∀ h, h ∈ hs → IS w h.1 h.2.1 h.2.2
 outer : ∀ h, h ∈ hs → ∀ b, b ∈ fpA h.1 → ¬ b ∈ fpA A
 new : ∀ b, b ∈ fpA A → w0.heap.size ≤ b
 below_ : Below w0.heap.size w0 w
section
variable {w0 w w' : World} {A : Option Addr} {cap : Nat} {hs : List Hd}
theorem RdO.below (h : RdO w0 w A cap hs) (hb : Below w.heap.size w w') : RdO w0 w' A cap hs := ⟨h.sl.below hb, fun x hx => (h.rows x hx).below hb, h.outer, h.new, below_trans h.below_ hb h.below_.size⟩
theorem RdO.rdr (h : RdO w0 w A cap hs) : RdR w A hs := by
 refine ⟨fun i x hx => ?_, fun x hx => (h.rows x hx).rd⟩
 obtain ⟨ad, hA, _, hc, _⟩ := h.sl.cell (j := i) (u := x.val) (by simp [hx])
 exact ⟨ad, hA, hc⟩
theorem RdO.snoc {w1 w2 : World} (h : RdO w0 w A cap hs) (hb : Below w.heap.size w w1) {x : Hd} (hx : IS w1 x.1 x.2.1 x.2.2) (hxo : ∀ b, b ∈ fpA x.1 → ¬ b ∈ fpA A) {A' : Option Addr} {cap' n : Nat} (hn : n = hs.length + 1) (hs' : Sl w2 25 1 A' n cap' (hs.map Hd.val ++ [x.val])) (hA' : ∀ b, b ∈ fpA A' → b ∈ fpA A ∨ w1.heap.size ≤ b) (hk : Keeps (· ∈ fpA A) w1 w2) : RdO w0 w2 A' cap' (hs ++ [x]) := by
 subst hn
 have hbw := below_trans h.below_ hb h.below_.size
 refine ⟨by simpa using hs', fun y hy => ?_, fun y hy b hb1 hb2 => ?_, fun b hb' => ?_, below_keeps hbw hk hbw.size h.new⟩
 · rcases List.mem_append.1 hy with hy | hy
   · exact ((h.rows y hy).below hb).keeps hk (h.outer y hy)
   · obtain rfl := List.mem_singleton.1 hy; exact hx.keeps hk hxo
 · rcases List.mem_append.1 hy with hy | hy
   · rcases hA' b hb2 with h1 | h1
     · exact h.outer y hy b hb1 h1
     · have := (h.rows y hy).lt b hb1; have := hb.size; omega
   · obtain rfl := List.mem_singleton.1 hy
     rcases hA' b hb2 with h1 | h1
     · exact hxo b hb1 h1
     · have := hx.lt b hb1; omega
 · rcases hA' b hb' with h1 | h1
   · exact h.new b h1
   · have := hbw.size; omega
theorem RdO.start (w W : World) (hb : Below w.heap.size w W) : RdO w (W.alloc (.cells #[] 25)) (some ⟨W.heap.size, 0, none⟩) 0 [] := by
 refine ⟨by simpa using Sl.laid W 25 1 0 #[] (Nat.zero_le _) rfl, fun x hx => (by cases hx), fun x hx => (by cases hx), fun b hb' => ?_, below_trans hb (below_alloc _ _) hb.size⟩
 simp at hb'; subst hb'; exact hb.size
end
theorem alloc2 (w : World) (o o' : Obj) : ∃ W, W = (w.alloc o).alloc o' ∧ Below w.heap.size w W ∧ W.heap[w.heap.size]? = some o ∧ W.heap[w.heap.size + 1]? = some o' := by
 refine ⟨_, rfl, ((Below.refl _ _).alloc (Nat.le_refl _) _).alloc (by simp) _, box_below (heap_alloc_new w _) (below_alloc _ _), ?_⟩
 have := heap_alloc_new (w.alloc o) o'
 rwa [World.size_alloc] at this
theorem RdO.nil (w W : World) (hb : Below w.heap.size w W) : RdO w W none 0 [] := ⟨Sl.nil _ _ _, fun x hx => (by cases hx), fun x hx => (by cases hx), fun b hb' => (by simp at hb'), hb⟩
theorem rev_step {l : List Int} {n j : Nat} {x : Int} (hl : l.length = n + 1) (hj : j < n) (hx : l[n - 1 - j]? = some x) : (l.take n).reverse.take (j + 1) = (l.take n).reverse.take j ++ [x] := by
 have h1 : (l.take n).length = n := by simp [hl]
 rw [List.take_add_one, List.getElem?_reverse (by rw [h1]; exact hj), h1, List.getElem?_take_of_lt (by omega), hx]
 rfl
theorem rev_done {l : List Int} {n : Nat} (hl : l.length = n + 1) : (l.take n).reverse.take n = (l.take n).reverse := List.take_of_length_le (by simp [hl])
theorem back_of {l : List Int} {n : Nat} {x : Int} (hx : l[n]? = some x) : (l.take n).reverse ++ [x] = backV n l := by
 unfold backV
 simp [List.getD, hx]
theorem any_no {R : List (List Int)} {n k : Nat} (h : ∀ j, j < k → leadV (R.getD j []) ≠ n) (hk : k = R.length) : (R.any fun v => leadV v == n) = false := by
 rw [List.any_eq_false]
 intro v hv
 obtain ⟨j, hj⟩ := List.mem_iff_getElem?.1 hv
 have hjl := (List.getElem?_eq_some_iff.1 hj).1
 have := h j (by omega)
 simp only [List.getD, hj, Option.getD_some] at this
 simpa using this
theorem any_yes {R : List (List Int)} {n k : Nat} (hk : k < R.length) (h : leadV (R.getD k []) = n) : (R.any fun v => leadV v == n) = true := by
 rw [List.any_eq_true]
 refine ⟨R.getD k [], ?_, by simpa using h⟩
 simp only [List.getD, List.getElem?_eq_getElem hk, Option.getD_some]
 exact List.getElem_mem hk
set_option maxRecDepth 100000 in
set_option maxHeartbeats 8000000 in
theorem firstSolution_any (p : Int) (n : Nat) (A : Option Addr) (c : Nat) (hs : List Hd) (w : World) (h : RdR w A hs) (hp : fieldB p = true) (hm : Mat p hs.length (n + 1) (hs.map fun h : Hd => h.2.2)) (hl : hs.length ≤ 1048576) (hn : n ≤ 1000) :
  Calls Tryd.prog 38 #[.int .i64 p, .slice A hs.length c, .int .i64 (n : Int)] w fun e w' => ∃ A' c', e = .returned (.tuple #[.slice A' (fsM p n (hs.map fun h : Hd => h.2.2)).1.length c', .bool (fsM p n (hs.map fun h : Hd => h.2.2)).2]) ∧
   IS w' A' c' (fsM p n (hs.map fun h : Hd => h.2.2)).1 ∧ Fresh w.heap.size A' ∧ Below w.heap.size w w' := by
 have hpb := fieldB_bounds hp
 obtain ⟨L, hLh⟩ : ∃ L, L = hs.map fun h : Hd => h.2.2 := ⟨_, rfl⟩
 rw [← hLh] at hm ⊢
 obtain ⟨m, hmm⟩ : ∃ m, m = hs.length := ⟨_, rfl⟩
 rw [← hmm] at hl hm ⊢
 have hLen : L.length = m := hm.len
 have hrow : ∀ x, x ∈ L → x.length = n + 1 := fun x hx => (hm.row x hx).1
 have hbm : Mat p (L.map (backV n)).length (n + 1) (L.map (backV n)) := back_mat (by omega) (by rw [hLen]; exact hm)
 have hbl : (L.map (backV n)).length = m := by rw [List.length_map, hLen]
 have hRs := redM_spec hp hbm
 have hRL := red_len hRs.1
 have hlt0 := fun i (hi : i < (redM p (n + 1) (L.map (backV n))).length) => lead_lt hRs.1 hi
 have hRm := hRs.1.1
 have hRe : ∀ (W' : World) (A3 : Option Addr) (c3 : Nat), OM w W' A3 c3 (L.map (backV n)) → Calls Tryd.prog 67 #[.int .i64 p, .slice A3 m c3, .int .i64 ((n : Int) + 1)] W' (RetSS W' (redM p (n + 1) (L.map (backV n)))) := fun W' A3 c3 hO => by
  obtain ⟨gs, hg, hOw, _, _⟩ := hO
  have hgl : gs.length = m := by rw [← hbl, hg, List.length_map]
  have := reduced_any p (n + 1) A3 c3 gs W' hOw.rd hp (by rw [← hg, hgl, ← hbl]; exact hbm) (by omega) (by omega)
  rw [← hg, hgl] at this
  exact this
 obtain ⟨F, hF⟩ : ∃ F, F = fsM p n L := ⟨_, rfl⟩
 rw [← hF]
 unfold fsM at hF
 obtain ⟨R, hR⟩ : ∃ R, R = redM p (n + 1) (L.map (backV n)) := ⟨_, rfl⟩
 rw [← hR] at hF hRL hlt0 hRm
 simp only [← hR] at hRe
 obtain ⟨q, hq⟩ : ∃ q, q = R.length := ⟨_, rfl⟩
 have hZ := fun (W' : World) => zeros_any n W' (by omega)
 have hOM0 : OM w (w.alloc (.cells #[] 25)) (some ⟨w.heap.size, 0, none⟩) 0 [] := by
  refine ⟨[], rfl, ⟨by simpa using Sl.laid w 25 1 0 #[] (Nat.zero_le _) rfl, fun h hh => (by cases hh), .nil, fun h hh => (by cases hh)⟩, fun b hb => ?_, (Below.refl _ _).alloc (Nat.le_refl _) _⟩
  have : b = w.heap.size := by simpa [fpR] using hb
  subst this; exact Nat.le_refl _
 clear hRs hbm hm hR; have hLh_h := lH hLh; have hmm_h := lH hmm; have hLen_h := lH hLen; have hrow_h := lH hrow; have hRe_h := lH hRe; have hF_h := lH hF; have hlt0_h := lH hlt0; have hRm_h := lH hRm; have hZ_h := lH hZ; have hbl_h := lH hbl; have hq_h := lH hq; have hRL_h := lH hRL; have h_h := lH h; clear hLh hmm hLen hrow hRe hF hlt0 hRm hZ hbl hq hRL h
 go_enter Tryd.func38, Tryd.ntmps38
 go_wp2_with (fail)
 go_loopw [20, 8] (fun i v wr => ∃ (k : Nat) (A' : Option Addr) (c' : Nat), k ≤ m ∧ i = .int .i64 k ∧ v = .slice A' k c' ∧ OM w wr A' c' ((L.take k).map (backV n))) (fun i _ _ => m - (intOf i).toNat)
 case atStart => exact ⟨0, _, 0, Nat.zero_le _, rfl, rfl, hOM0⟩
 case round =>
  clear hOM0
  obtain ⟨k, A', c', hk, rfl, rfl, hOM⟩ := hrel
  obtain ⟨w1, rfl⟩ : ∃ x, x = wr := ⟨_, rfl⟩
  by_cases hlt : k < m
  · obtain ⟨ad, C, d, l, rfl, hx, hc, hri⟩ := (h_h.out.below hOM.below_).at_ (k := k) (by rw [← hmm_h.out]; exact hlt)
    have hlx : L[k]? = some l := by rw [hLh_h.out, List.getElem?_map, hx]; rfl
    have hll : l.length = n + 1 := hrow_h.out _ (List.mem_of_getElem? hlx)
    rw [hll] at hc
    have hO0 : OI w1 (w1.alloc (.cells #[] 3)) (some ⟨w1.heap.size, 0, none⟩) 0 [] := by
     refine ⟨by unfold IS; simpa [ints] using Sl.laid w1 3 1 0 #[] (Nat.zero_le _) rfl, fun b hb => ?_, (Below.refl _ _).alloc (Nat.le_refl _) _⟩
     have : b = w1.heap.size := by simpa using hb
     subst this; exact Nat.le_refl _
    have hkI : (k : Int) < (m : Int) := by omega
    have hOM_h := lH hOM; have hx_h := lH hx; have hlx_h := lH hlx; have hll_h := lH hll; have hri_h := lH hri; have hO0_h := lH hO0; clear hOM hx hlx hll hri hO0
    go_wp2_with (fail)
    go_loopw [12, 11] (fun i v wr => ∃ (j : Nat) (A5 : Option Addr) (c5 : Nat), j ≤ n ∧ i = .int .i64 ((n : Int) - 1 - (j : Int)) ∧ v = .slice A5 j c5 ∧ OI w1 wr A5 c5 ((l.take n).reverse.take j)) (fun i _ _ => (intOf i + 1).toNat)
    case atStart => exact ⟨0, _, 0, Nat.zero_le _, by go_num, rfl, hO0_h.out⟩
    case round =>
     clear hO0_h
     obtain ⟨j, A5, c5, hj, rfl, rfl, hO⟩ := hrel
     by_cases hjn : j < n
     · obtain ⟨bd, x, hBd, hxj, hcb⟩ := (hri_h.out.below hO.below_).at_ (j := n - 1 - j) (by rw [hll_h.out]; omega)
       subst hBd
       have hpl : ((l.take n).reverse.take j).length = j := by simp [hll_h.out]; omega
       have hpk := rev_step hll_h.out hjn hxj
       have hge : (n : Int) - 1 - (j : Int) ≥ 0 := by omega
       have hlt2 : (n : Int) - 1 - (j : Int) < (n : Int) + 1 := by omega
       have hto : ((n : Int) - 1 - (j : Int)).toNat = n - 1 - j := by omega
       have HSL := lH (fun (o : Obj) => oi_alloc hO hpl o)
       have hpl_h := lH hpl; have hpk_h := lH hpk; have hO_h := lH hO; clear hpl hpk hO
       go_wp2_with (at_builtin; refine wpList_append_Sl _ rfl _ _ _ rfl 3 Tryd.underlying25 info_int rfl (by omega) rfl (HSL.out (.cells #[.int .i64 x] 3)) rfl (news := [.int .i64 x]) rfl (Sl.rdc (Sl.laid wr 3 1 1 #[.int .i64 x] (by unfold maxLen; omega) rfl)) (by intro u hu; simp at hu; subst hu; rfl) (by unfold maxLen; omega) (by omega) ?_; intro A3 c3 w3 hs3 hA3 hk3)
       have hO2 := hO_h.out.snoc (x := x) (by rw [hpl_h.out]) hs3 hA3 hk3
       have hO2_h := lH hO2; clear hO2; clear hs3 hO_h
       go_roundw
       case rel => exact ⟨j + 1, A3, c3, by omega, by go_num, rfl, by rw [hpk_h.out]; exact hO2_h.out⟩
       case measure => simp [intOf]; omega
     · obtain rfl : n = j := by omega
       rw [rev_done hll_h.out] at hO
       have hge : ¬ (n : Int) - 1 - (n : Int) ≥ 0 := by omega
       obtain ⟨bd, x, hBd, hxj, hcb⟩ := (hri_h.out.below hO.below_).at_ (j := n) (by rw [hll_h.out]; omega)
       subst hBd
       have hpl : ((l.take n).reverse).length = n := by simp [hll_h.out]
       have hpk := back_of hxj
       have HSL := lH (fun (o : Obj) => oi_alloc hO hpl o)
       have hbk : (backV n l).length = n + 1 := backV_length hll_h.out
       obtain ⟨gs, hLg, hOr, hf, h0⟩ := hOM_h.out
       have hgl : gs.length = k := by
        have := congrArg List.length hLg
        rw [List.length_map, List.length_take, hLen_h.out, List.length_map] at this
        omega
       have hpl_h := lH hpl; have hpk_h := lH hpk; have hO_h := lH hO; have hbk_h := lH hbk; have hLg_h := lH hLg; have hOr_h := lH hOr; have hf_h := lH hf; have h0_h := lH h0; have hgl_h := lH hgl; clear hpl hpk hO hbk hLg hOr hf h0 hgl
       go_wp2_with (at_builtin; first | (refine wpList_append_Sl _ rfl _ _ _ rfl 3 Tryd.underlying25 info_int rfl (by omega) rfl (HSL.out (.cells #[.int .i64 x] 3)) rfl (news := [.int .i64 x]) rfl (Sl.rdc (Sl.laid wr 3 1 1 #[.int .i64 x] (by unfold maxLen; omega) rfl)) (by intro u hu; simp at hu; subst hu; rfl) (by unfold maxLen; omega) (by omega) ?_; intro A3 c3 w3 hs3 hA3 hk3; have hO2 := hO_h.out.snoc (x := x) (by rw [hpl_h.out]) hs3 hA3 hk3; rw [hpk_h.out] at hO2; have hsl := (hOr_h.out.sl.below hO2.below_).alloc (.cells #[.slice A3 (n + 1) c3] 25); rw [hgl_h.out] at hsl; have hO2_h := lH hO2; have hsl_h := lH hsl; clear hO2 hsl hs3 hA3 hk3 hO_h) | (refine wpList_append_Sl _ rfl _ _ _ rfl 25 Tryd.underlying22 info_ints rfl (by omega) rfl hsl_h.out rfl (news := [.slice A3 (n + 1) c3]) rfl (Sl.rdc (Sl.laid w3 25 1 1 #[.slice A3 (n + 1) c3] (by unfold maxLen; omega) rfl)) (by intro u hu; simp at hu; subst hu; rfl) (by unfold maxLen; omega) (by omega) ?_; intro A2 c2 w2 hs2 hA2 hk2))
       have hal2 : Below w3.heap.size w3 (w3.alloc (.cells #[.slice A3 (n + 1) c3] 25)) := (Below.refl _ _).alloc (Nat.le_refl _) _
       have hOM2 := OM.snoc (w1 := w3.alloc (.cells #[.slice A3 (n + 1) c3] 25)) hLg_h.out hOr_h.out hf_h.out h0_h.out (below_trans hO2_h.out.below_ hal2 hO2_h.out.below_.size) (hO2_h.out.is.below hal2) hO2_h.out.new (by rw [hgl_h.out]) (by rw [hbk_h.out]; exact hs2) hA2 hk2
       have hOM2_h := lH hOM2; clear hOM2; clear hs2 hA2 hk2 hal2 hsl_h hOr_h
       go_roundw
       case rel => exact ⟨k + 1, A2, c2, by omega, by go_num, rfl, by rw [List.take_add_one, hlx_h.out, List.map_append]; exact hOM2_h.out⟩
       case measure => simp [intOf]; omega
  · obtain rfl : m = k := by omega
    have hOM' : OM w w1 A' c' (L.map (backV n)) := by have := hOM; rwa [List.take_of_length_le (by rw [hLen_h.out]; omega)] at this
    clear hOM
    have hb1 := hOM'.below_
    have hOM'_h := lH hOM'; have hb1_h := lH hb1; clear hOM' hb1
    go_wp2_with (fail)
    refine (hZ_h.out _).mono ?_
    rintro e w2 ⟨A6, c6, rfl, hi6, hf6, hb6⟩
    rw [List.length_replicate]
    have hb2 := below_trans hb1_h.out hb6 hb1_h.out.size
    have hC := hRe_h.out w2 A' c' (hOM'_h.out.below hb6)
    have hf0 := Nat.le_trans hb1_h.out.size (Nat.le_refl _)
    have hi6_h := lH hi6; have hf6_h := lH hf6; have hb2_h := lH hb2; have hC_h := lH hC; clear hi6 hf6 hb2 hC
    go_wp2_with (fail)
    refine (hC_h.out).mono ?_
    rintro e w3 hret
    unfold RetSS at hret
    rw [← hq_h.out] at hret
    obtain ⟨A7, c7, hs7, rfl, hR7, hO7, hf7, hb7⟩ := hret
    have hi7 := hi6_h.out.below hb7
    have hb3 := below_trans hb2_h.out hb7 hb2_h.out.size
    have hap : ∀ b, b ∈ fpA A7 ++ fpR hs7 → ¬ b ∈ fpA A6 := fun b hb h6 => by
     have h1 := hf7 b hb
     have h2 := hi6_h.out.lt b h6
     omega
    have hf6w : ∀ b, b ∈ fpA A6 → w.heap.size ≤ b := fun b hb => Nat.le_trans hf0 (hf6_h.out b hb)
    have hl7 : hs7.length = q := by rw [hq_h.out, hR7, List.length_map]
    clear hf7 hb7 hC_h hf6_h hi6_h; have hR7_h := lH hR7; have hO7_h := lH hO7; have hi7_h := lH hi7; have hb3_h := lH hb3; have hap_h := lH hap; have hf6w_h := lH hf6w; have hl7_h := lH hl7; clear hR7 hO7 hi7 hb3 hap hf6w hl7
    go_wp2_with (fail)
    have hq1 : q ≤ 1001 := by have h1 := hRL_h.out; have h2 := hq_h.out; omega
    go_loopw [57] (fun i wr => ∃ (k : Nat), k ≤ q ∧ i = .int .i64 k ∧ (∀ j, j < k → leadV (R.getD j []) ≠ n) ∧ IS wr A6 c6 (fsTo n R k) ∧ OwR wr A7 c7 hs7 ∧ Below w.heap.size w wr) (fun i _ => q - (intOf i).toNat)
    case atStart => exact ⟨0, Nat.zero_le _, rfl, fun j hj => absurd hj (Nat.not_lt_zero j), hi7_h.out, hO7_h.out, hb3_h.out⟩
    case round =>
     clear hi7_h hO7_h hb3_h
     obtain ⟨k, hk, rfl, hno, hIS, hOw, hB⟩ := hrel
     by_cases hlt' : k < q
     · obtain ⟨ad, C, d, l, rfl, hx, hc, hri⟩ := hOw.rd.at_ (k := k) (by rw [hl7_h.out]; exact hlt')
       have hlx : R[k]? = some l := by rw [hR7_h.out, List.getElem?_map, hx]; rfl
       have hlg : R.getD k [] = l := by simp [List.getD, hlx]
       have hll : l.length = n + 1 := (hRm_h.out.row _ (List.mem_of_getElem? hlx)).1
       have hle := hlt0_h.out k (by rw [← hq_h.out]; exact hlt')
       rw [hlg] at hle
       rw [hll] at hc
       have hkI : (k : Int) < (q : Int) := by omega
       have hCl := lead_any C d (n + 1) l wr hri hll (by omega)
       obtain ⟨t, ht⟩ : ∃ t, t = leadV l := ⟨_, rfl⟩
       rw [← ht] at hCl hle
       by_cases htn : t = n
       · subst htn
         have hany := any_yes (n := t) (by rw [← hq_h.out]; exact hlt') (by rw [hlg, ← ht])
         have hFF := hF_h.out
         rw [hany, if_pos rfl] at hFF
         subst hFF
         clear hIS hOw hx hlx hlg hll hri hno hle hany; have hCl_h := lH hCl; have hB_h := lH hB; have ht_h := lH ht; clear hCl hB ht
         go_wp2_with (fail)
         refine (hCl_h.out).mono ?_
         rintro e w' ⟨rfl, hw'⟩
         subst hw'
         go_wp2_with (fail)
         go_ret2
         exact ⟨none, 0, rfl, (show IS _ none 0 [] from Sl.nil _ _ _), fun b hb => (by simp at hb), hB_h.out⟩
       · have htl : t < n := by omega
         obtain ⟨bd, x, hBd, hxj, hcb⟩ := hri.at_ (j := n) (by rw [hll]; omega)
         subst hBd
         have hfl : (fsTo n R k).length = n := fsTo_length n R k
         obtain ⟨od, y, hOd, hy, _, hco, hfo⟩ := hIS.at_ (j := n - 1 - t) (by rw [hfl]; omega)
         subst hOd
         have hfz := hfo (n - 1 - t)
         have his' := hIS.set (ad := od) rfl (j := n - 1 - t) x (by rw [hfl]; omega)
         have hst : (fsTo n R k).set (n - 1 - t) x = fsTo n R (k + 1) := by
          show _ = (fsTo n R k).set (n - 1 - leadV (R.getD k [])) ((R.getD k []).getD n 0)
          rw [hlg, ← ht]
          simp [List.getD, hxj]
         rw [hst] at his'
         have hne : ((t : Int) == (n : Int)) = false := by simp; omega
         have hto : ((n : Int) - 1 - (t : Int)).toNat = n - 1 - t := by omega
         have h1 : (0 : Int) ≤ (n : Int) - 1 - (t : Int) := by omega
         have h2 : (n : Int) - 1 - (t : Int) < (n : Int) := by omega
         have hkp := (Keeps.refl (· ∈ fpA (some od)) wr).setCell (p := od.add (n - 1 - t)) (by rw [block_of_add]; simp) (.int .i64 x)
         have hOw' := hOw.keeps hkp hap_h.out
         have hB' := below_keeps hB hkp hB.size hf6w_h.out
         have hno' : ∀ j, j < k + 1 → leadV (R.getD j []) ≠ n := fun j hj => by
          rcases Nat.lt_or_ge j k with h3 | h3
          · exact hno j h3
          · obtain rfl : j = k := by omega
            rw [hlg, ← ht]; exact htn
         clear hIS hOw hx hlx hlg hll hri hno hst hkp hy hfo hB hfl; have hCl_h := lH hCl; have hOw'_h := lH hOw'; have hB'_h := lH hB'; have his'_h := lH his'; have hno'_h := lH hno'; have hxj_h := lH hxj; have ht_h := lH ht; clear hCl hOw' hB' his' hno' hxj ht
         go_wp2_with (fail)
         refine (hCl_h.out).mono ?_
         rintro e w' ⟨rfl, hw'⟩
         subst hw'
         go_wp2_with (fail)
         go_roundw
         case rel => exact ⟨k + 1, by omega, by go_num, hno'_h.out, his'_h.out, hOw'_h.out, hB'_h.out⟩
         case measure => simp [intOf]; omega
     · obtain rfl : q = k := by omega
       have hFF := hF_h.out
       rw [any_no hno hq_h.out, if_neg (by simp), ← hq_h.out] at hFF
       subst hFF
       have hfl : (fsTo n R q).length = n := fsTo_length n R q
       clear hOw hno; have hIS_h := lH hIS; have hB_h := lH hB; have hfl_h := lH hfl; clear hIS hB hfl
       go_wp2_with (fail)
       go_ret2
       exact ⟨A6, c6, by rw [hfl_h.out]; rfl, hIS_h.out, hf6w_h.out, hB_h.out⟩
def smD (n : Nat) (a b : List Int) : Int := sm n fun i => a.getD i 0 * b.getD i 0
def dotM (p : Int) (n : Nat) (a b : List Int) : Int := smD n a b % p
theorem smD_bound {p : Int} {a b : List Int} (h0 : 0 < p) (h97 : p ≤ 97) (ha : Res p a) (hb : Res p b) : ∀ n : Nat, 0 ≤ smD n a b ∧ smD n a b ≤ 9409 * n
 | 0 => by simp [smD, sm]
 | n + 1 => by
   obtain ⟨h1, h2⟩ := smD_bound h0 h97 ha hb n
   have h3 := ha.getD h0 n
   have h4 := hb.getD h0 n
   have h5 := mul_bound (a := a.getD n 0) (b := b.getD n 0) h3.1 (by omega) h4.1 (by omega)
   have h6 : a.getD n 0 * b.getD n 0 ≤ 97 * 97 := Int.mul_le_mul (by omega) (by omega) h4.1 (by omega)
   unfold smD at h1 h2 ⊢
   rw [sm]
   omega
theorem dotM_step {p : Int} (n : Nat) (a b : List Int) : (dotM p n a b + a.getD n 0 * b.getD n 0) % p = dotM p (n + 1) a b := by
 unfold dotM smD
 rw [sm, Int.emod_add_emod]
set_option maxRecDepth 100000 in
set_option maxHeartbeats 1000000 in
theorem spDot_any (p : Int) (n : Nat) (A B : Option Addr) (ca cb : Nat) (a b : List Int) (w : World) (hA : RdI w A a) (hB : RdI w B b) (hal : a.length = n) (hbl : b.length = n) (ha : Res p a) (hb : Res p b) (h0 : 0 < p) (h97 : p ≤ 97) (hn : n ≤ 1000) :
  Calls Tryd.prog 26 #[.int .i64 p, .slice A n ca, .slice B n cb] w fun e w' => e = .returned (.int .i64 (dotM p n a b)) ∧ Below w.heap.size w w' := by
 have hz0 : dotM p 0 a b = 0 := by simp [dotM, smD, sm]
 have hA_h := lH hA; have hB_h := lH hB; have hal_h := lH hal; have hbl_h := lH hbl; have ha_h := lH ha; have hb_h := lH hb; have hz0_h := lH hz0; clear hA hB hal hbl ha hb hz0
 go_enter Tryd.func26, Tryd.ntmps26
 go_wp2_with (fail)
 go_loopw [11, 7] (fun i o wr => ∃ (k : Nat) (z : Int), k ≤ n ∧ i = .int .i64 k ∧ o = .int .i64 z ∧ z = dotM p k a b ∧ Below w.heap.size w wr) (fun i _ _ => n - (intOf i).toNat)
 case atStart => exact ⟨0, 0, Nat.zero_le _, rfl, rfl, hz0_h.out.symm, Below.refl _ _⟩
 case round =>
  obtain ⟨k, z, hk, rfl, rfl, hz, hbr⟩ := hrel
  by_cases hlt : k < n
  · obtain ⟨ad, x, rfl, hx, hcx⟩ := (hA_h.out.below hbr).at_ (j := k) (by rw [hal_h.out]; exact hlt)
    obtain ⟨bd, y, rfl, hy, hcy⟩ := (hB_h.out.below hbr).at_ (j := k) (by rw [hbl_h.out]; exact hlt)
    have hxb := ha_h.out x (List.mem_of_getElem? hx)
    have hyb := hb_h.out y (List.mem_of_getElem? hy)
    have hzb : 0 ≤ z ∧ z < p := by rw [hz]; exact ⟨Int.emod_nonneg _ (by omega), Int.emod_lt_of_pos _ h0⟩
    have hmb := mul_bound (a := x) (b := y) hxb.1 (by omega) hyb.1 (by omega)
    have hst : (z + x * y) % p = dotM p (k + 1) a b := by
     have e1 : a.getD k 0 = x := by rw [List.getD_eq_getElem?_getD, hx]; rfl
     have e2 : b.getD k 0 = y := by rw [List.getD_eq_getElem?_getD, hy]; rfl
     rw [← dotM_step, e1, e2, hz]
    have hw1 : IntKind.i64.wrap (x * y) = x * y := IntWalk.i64_in _ (by omega)
    have hw2 : IntKind.i64.wrap (z + x * y) = z + x * y := IntWalk.i64_in _ (by omega)
    have hte : (z + x * y).tmod p = (z + x * y) % p := Int.tmod_eq_emod_of_nonneg (by omega)
    have hq1 := Int.emod_nonneg (z + x * y) (show p ≠ 0 by omega)
    have hq2 := Int.emod_lt_of_pos (z + x * y) h0
    have hw3 : IntKind.i64.wrap ((z + x * y) % p) = (z + x * y) % p := IntWalk.i64_in _ (by omega)
    have hpz : (p == 0) = false := by rw [beq_eq_false_iff_ne]; omega
    have hpz' : ¬ p = 0 := by omega
    have hkI : (k : Int) < (n : Int) := by omega
    clear hz hx hy hxb hyb hzb hmb hq1 hq2; have hst_h := lH hst; have hbr_h := lH hbr; clear hst hbr
    go_wp2_with (fail)
    refine wp_region_still_tail 13 (by kernel_rfl) (by kernel_rfl) ?_
    simp only [List.take_succ_cons, List.take_zero, List.drop_succ_cons, List.drop_zero]
    change wpStill _ _ wr.drew (fun a' => wpList _ _ _ _ a' wr.drew) _ _
    have d1 : wr.drew.cell? (ad.add k) = some (.int .i64 x) := hcx
    have d2 : wr.drew.cell? (bd.add k) = some (.int .i64 y) := hcy
    clear hcx hcy
    repeat still_step
    refine wpStill_nil ?_
    go_wp2_with (fail)
    go_roundw
    case rel => exact ⟨k + 1, _, by omega, by go_num, rfl, hst_h.out, below_trans hbr_h.out (below_drewN (Below.refl _ _) 1) hbr_h.out.size⟩
    case measure => simp [intOf]; omega
  · obtain rfl : k = n := by omega
    subst hz
    have hbr_h := lH hbr; clear hbr
    go_wp2_with (fail)
    go_ret
    exact ⟨rfl, hbr_h.out⟩
set_option maxRecDepth 100000 in
set_option maxHeartbeats 1000000 in
theorem dot_any (p : Int) (n : Nat) (A B : Option Addr) (ca cb : Nat) (a b : List Int) (w : World) (hA : RdI w A a) (hB : RdI w B b) (hal : a.length = n) (hbl : b.length = n) (ha : Res p a) (hb : Res p b) (h0 : 0 < p) (h97 : p ≤ 97) (hn : n ≤ 1000) :
  Calls Tryd.prog 36 #[.int .i64 p, .slice A n ca, .slice B n cb] w fun e w' => e = .returned (.int .i64 (dotM p n a b)) ∧ w' = w := by
 have hz0 : smD 0 a b = 0 := by simp [smD, sm]
 have hA_h := lH hA; have hB_h := lH hB; have hal_h := lH hal; have hbl_h := lH hbl; have ha_h := lH ha; have hb_h := lH hb; have hz0_h := lH hz0; clear hA hB hal hbl ha hb hz0
 go_enter Tryd.func36, Tryd.ntmps36
 go_wp2_with (fail)
 go_loopw [12, 7] (fun i o wr => ∃ (k : Nat) (z : Int), k ≤ n ∧ i = .int .i64 k ∧ o = .int .i64 z ∧ z = smD k a b ∧ wr = w) (fun i _ _ => n - (intOf i).toNat)
 case atStart => exact ⟨0, 0, Nat.zero_le _, rfl, rfl, hz0_h.out.symm, rfl⟩
 case round =>
  obtain ⟨k, z, hk, rfl, rfl, hz, rfl⟩ := hrel
  have hzb := smD_bound h0 h97 ha_h.out hb_h.out k
  rw [← hz] at hzb
  by_cases hlt : k < n
  · obtain ⟨ad, x, rfl, hx, hcx⟩ := hA_h.out.at_ (j := k) (by rw [hal_h.out]; exact hlt)
    obtain ⟨bd, y, rfl, hy, hcy⟩ := hB_h.out.at_ (j := k) (by rw [hbl_h.out]; exact hlt)
    have hxb := ha_h.out x (List.mem_of_getElem? hx)
    have hyb := hb_h.out y (List.mem_of_getElem? hy)
    have hmb := mul_bound (a := x) (b := y) hxb.1 (by omega) hyb.1 (by omega)
    have hst : z + x * y = smD (k + 1) a b := by
     have e1 : a.getD k 0 = x := by rw [List.getD_eq_getElem?_getD, hx]; rfl
     have e2 : b.getD k 0 = y := by rw [List.getD_eq_getElem?_getD, hy]; rfl
     rw [hz]; unfold smD; rw [sm, e1, e2]
    have hw1 : IntKind.i64.wrap (x * y) = x * y := IntWalk.i64_in _ (by omega)
    have hw2 : IntKind.i64.wrap (z + x * y) = z + x * y := IntWalk.i64_in _ (by omega)
    have hkI : (k : Int) < (n : Int) := by omega
    clear hz hx hy hxb hyb hzb hmb; have hst_h := lH hst; clear hst
    go_wp2_with (fail)
    go_roundw
    case rel => exact ⟨k + 1, _, by omega, by go_num, rfl, hst_h.out, trivial⟩
    case measure => simp [intOf]; omega
  · obtain rfl : k = n := by omega
    have hM := mod_any p z wr h0 h97 (by omega) (by omega)
    have hzz : z % p = dotM p k a b := by rw [hz]; rfl
    rw [hzz] at hM
    clear hz hzz hzb; have hM_h := lH hM; clear hM
    go_wp2_with (fail)
    refine (hM_h.out).mono ?_
    rintro e w2 ⟨rfl, hw2⟩
    subst hw2
    go_wp2_with (fail)
    go_ret
    exact ⟨rfl, rfl⟩
def negTo (p : Int) (a : Nat) (u : List Int) (k : Nat) : List Int := u.mapIdx fun j x => if a ≤ j ∧ j < k then -x % p else x
def negV (p : Int) (a : Nat) (u : List Int) : List Int := negTo p a u u.length
@[simp] theorem negTo_length (p : Int) (a : Nat) (u : List Int) (k : Nat) : (negTo p a u k).length = u.length := by simp [negTo]
@[simp] theorem negV_length (p : Int) (a : Nat) (u : List Int) : (negV p a u).length = u.length := negTo_length _ _ _ _
def layTo (n : Nat) (f : Nat → Nat) (v : List Int) : Nat → List Int
 | 0 => List.replicate n 0
 | k + 1 => (layTo n f v k).set (f k) (v.getD k 0)
@[simp] theorem layTo_length (n : Nat) (f : Nat → Nat) (v : List Int) : ∀ k, (layTo n f v k).length = n
  | 0 => by simp [layTo]
  | k + 1 => by rw [layTo, List.length_set]; exact layTo_length n f v k
def tB (a1 a2 b1 j : Nat) : Nat := if j < b1 then a1 + j else a1 + a2 + j
end Go.Proofs.YtjompikdkhhlgaaDoor
namespace Go.Proofs.YtjompikdkhhlgaaDoor
def cmbTo (p : Int) (n : Nat) (x : List Int) (L : List (List Int)) : Nat → List Int
 | 0 => List.replicate n 0
 | k + 1 => addT p (cmbTo p n x L k) (x.getD k 0) (L.getD k [])
@[simp] theorem cmbTo_length (p : Int) (n : Nat) (x : List Int) (L : List (List Int)) : ∀ k, (cmbTo p n x L k).length = n
  | 0 => by simp [cmbTo]
  | k + 1 => by simp [cmbTo, cmbTo_length p n x L k]
def ngV (p : Int) (v : List Int) : List Int := v.map fun a => (-a) % p
@[simp] theorem ngV_length (p : Int) (v : List Int) : (ngV p v).length = v.length := by simp [ngV]
open Go.RowKit
set_option maxRecDepth 100000 in
set_option maxHeartbeats 1000000 in
theorem mxLess_any (p q : Int) (A B : Option Addr) (ca cb n : Nat) (v f : List Int) (w : World) (hA : IS w A ca v) (hB : RdI w B f) (hd : ∀ b, b ∈ fpA B → b ∉ fpA A) (hvn : v.length = n) (hfn : f.length = n) (hn : n ≤ 1048576)
  (h0 : 0 < p) (h97 : p ≤ 97) (hv : ∀ x, x ∈ v → 0 ≤ x ∧ x < p) (hf : ∀ x, x ∈ f → 0 ≤ x ∧ x < p) (hq : 0 ≤ q ∧ q < p) :
  Calls Tryd.prog 30 #[.int .i64 p, .slice A n ca, .slice B n cb, .int .i64 q] w fun e w' => e = .returned (.tuple #[]) ∧ Wr w w' A (ints (addT p v (-q) f)) := by
 have hal : (addT p v (-q) f).length = n := by rw [addT_length, hvn]
 have hst : Wr w w A (ints ((addT p v (-q) f).take 0 ++ v.drop 0)) := by simpa using Wr.start hA
 have HAL := lH hal; have HVN := lH hvn; have HFN := lH hfn; have HST := lH hst; have HV := lH hv; have HF := lH hf; have HD := lH hd; clear hal hvn hfn hst hv hf hd
 go_enter Tryd.func30, Tryd.ntmps30
 go_wp2_with (fail)
 go_loopw [11] (fun i wr => ∃ k : Nat, k ≤ n ∧ i = .int .i64 k ∧ Wr w wr A (ints ((addT p v (-q) f).take k ++ v.drop k))) (fun i _ => n - (intOf i).toNat)
 case atStart => exact ⟨0, Nat.zero_le _, rfl, HST.out⟩
 case round =>
  clear HST
  obtain ⟨k, hk, rfl, hw⟩ := hrel
  have hll : ((addT p v (-q) f).take k ++ v.drop k).length = n := by rw [List.length_append, List.length_take, List.length_drop, HAL.out, HVN.out]; omega
  by_cases hlt : k < n
  · obtain ⟨bd, y, hB', hy, hcb⟩ := (hB.keeps hw.1 HD.out).at_ (j := k) (by rw [HFN.out]; exact hlt)
    have his : IS wr A ca ((addT p v (-q) f).take k ++ v.drop k) := by
     have := hw.sl hA (by rw [ints_length, hll, HVN.out, Nat.mul_one])
     unfold IS; rw [hll]; rwa [HVN.out] at this
    obtain ⟨ad, x, hA', hx, hbl, hca, hf'⟩ := his.at_ (j := k) (by rw [hll]; exact hlt)
    rw [get_take_drop (by simp) (by rw [HVN.out]; omega)] at hx
    have hfz := hf' k
    have hxb := HV.out x (List.mem_of_getElem? hx)
    have hyb := HF.out y (List.mem_of_getElem? hy)
    have hw2 := hw.set hA' (j := k) (by rw [ints_length, hll]; exact hlt) (.int .i64 ((x - q * y % p) % p))
    have e1 : (x - q * y % p) % p = (x + -q * y) % p := sub_mod_mul p x q y
    rw [show ints (((addT p v (-q) f).take k ++ v.drop k)) = ints (((addT p v (-q) f).take k ++ v.drop k)) from rfl, ints_set, e1, take_append_step (by simp) (addT_get hx hy), ← e1] at hw2
    have hw3 : Wr w (wr.drew.setCell (ad.add k) (.int .i64 ((x - q * y % p) % p))) A (ints ((addT p v (-q) f).take (k + 1) ++ v.drop (k + 1))) := hw2.drew
    have HW := lH hw3
    have hz0 : 0 ≤ q * y % p := Int.emod_nonneg _ (by omega)
    have hz1 : q * y % p < p := Int.emod_lt_of_pos _ h0
    obtain ⟨z, hz⟩ : ∃ z, z = q * y % p := ⟨_, rfl⟩
    have C1 := lH (stillC2 (fdMul_any p q y wr.drew h0 hq.1 (by omega) hyb.1 (by omega)))
    have C2 := fdSub_any p x z wr.drew h0 h97 hxb.1 (by omega) (by omega) (by omega)
    rw [← hz] at C1 HW
    have C2' := lH (stillC2 C2)
    have hkn : (k : Int) < (n : Int) := by omega
    subst hA'
    subst hB'
    clear hw2 hw3 hx hy hw his hA hB hll hf' hz hz0 hz1 e1 C2
    go_wp2_with (fail)
    refine wp_region_still_tail 16 (by kernel_rfl) (by kernel_rfl) ?_
    simp only [List.take_succ_cons, List.take_zero, List.drop_succ_cons, List.drop_zero]
    change wpStill _ _ wr.drew (fun a' => wpList _ _ _ _ a' wr.drew) _ _
    have d1 : wr.drew.cell? (bd.add k) = some (.int .i64 y) := hcb
    have d2 : wr.drew.cell? (ad.add k) = some (.int .i64 x) := hca
    repeat still_step
    still_call C1.out
    repeat still_step
    still_call C2'.out
    repeat still_step
    refine wpStill_nil ?_
    go_wp2_with (fail)
    go_roundw
    case rel => exact ⟨k + 1, by omega, by go_num, HW.out⟩
    case measure => simp [intOf]; omega
  · obtain rfl : n = k := by omega
    have hw2 : Wr w wr A (ints (addT p v (-q) f)) := by
     have := hw
     rwa [List.take_of_length_le (by rw [HAL.out]; omega), List.drop_of_length_le (by rw [HVN.out]; omega), List.append_nil] at this
    have HW := lH hw2; clear hw hll hA hB hw2
    go_wp2_with (fail)
    go_end0
    exact ⟨rfl, HW.out⟩
section
variable {P : Program} {ops : Array Oper} {Q : Exit → Act → World → Prop} {md : Region.Mode} {z : Nat} {F : World → Prop}
def wpAnyZ (P : Program) (md : Region.Mode) (ops : Array Oper) (Q : Exit → Act → World → Prop) (z : Nat) (F : World → Prop) : Nat → Array Bool → Act → World → Prop
 | 0, listed, a, w => Region.ready md ops listed = [] ∧ Q .normal a w
 | fuel + 1, listed, a, w =>
   (Region.ready md ops listed = [] → Q .normal a w) ∧
   ∀ i ∈ Region.ready md ops listed, wpOp P ops Q i (fun a' w' => ((listed.setIfInBounds i true).getD z true = false → F w') ∧ wpAnyZ P md ops Q z F fuel (listed.setIfInBounds i true) a' w') a w
theorem wpAny_of_z : ∀ (fuel : Nat) (listed : Array Bool) (a : Act) (w : World), wpAnyZ P md ops Q z F fuel listed a w → wpAny P md ops Q fuel listed a w
 | 0, _, _, _, h => h
 | fuel + 1, _, _, _, h => ⟨h.1, fun i hi => wpOp_mono (fun a' w' h' => wpAny_of_z fuel _ a' w' h'.2) (h.2 i hi)⟩
end
section
variable {P : Program} {l : List Oper} {Q : Exit → Act → World → Prop} {md : Region.Mode} {z : Nat} {F : World → Prop}
theorem beginZ (z : Nat) (F : World → Prop) {id : Nat} {a : Act} {w : World} (hm : P.follows .mixedOrders = true) (h : wpAnyZ P .any l.toArray Q z F l.toArray.size (Array.replicate l.toArray.size false) a w.drew) : (Code.region id l.toArray true).wp P Q a w :=
 wp_region_any hm (wpAny_of_z _ _ _ _ h)
theorem beginZw (z : Nat) (F : World → Prop) {id : Nat} {a : Act} {w : World} (hm : P.follows .mixedOrders = true) (h : ∀ W1, W1 = w.drew → wpAnyZ P .any l.toArray Q z F l.toArray.size (Array.replicate l.toArray.size false) a W1) : (Code.region id l.toArray true).wp P Q a w :=
 beginZ z F hm (h _ rfl)
theorem oneZ (i : Nat) {o : Oper} {fuel : Nat} {listed : Array Bool} {a : Act} {w : World} {l' : List Oper} (hd : l.drop i = o :: l') (hr : Region.ready md l.toArray listed = [i]) (hw : Region.wanted o (yielded l.toArray a.tmps) = true)
  (h : ∀ K : Act → World → Prop, (∀ a' w', ((listed.setIfInBounds i true).getD z true = false → F w') → wpAnyZ P md l.toArray Q z F fuel (listed.setIfInBounds i true) a' w' → K a' w') → o.wp P a w K Q) : wpAnyZ P md l.toArray Q z F (fuel + 1) listed a w := by
 refine ⟨fun h0 => (by rw [hr] at h0; cases h0), fun j hj => ?_⟩
 rw [hr] at hj
 obtain rfl := List.mem_singleton.1 hj
 unfold wpOp
 simp only [at_drop hd, hw, if_true]
 exact .inl (h _ fun a' w' h1 h2 => ⟨h1, h2⟩)
theorem runZ (i : Nat) {o : Oper} {v : Value} {fuel : Nat} {listed : Array Bool} {a : Act} {w w1 : World} {l' : List Oper} (hd : l.drop i = o :: l') (hr : Region.ready md l.toArray listed = [i]) (hw : Region.wanted o (yielded l.toArray a.tmps) = true)
  (hrun : (execOp a.eval o).run P w = .ok (.value v) w1) (hS : (listed.setIfInBounds i true).getD z true = false → F w1) (h : wpAnyZ P md l.toArray Q z F fuel (listed.setIfInBounds i true) (a.put o.dst v) w1) : wpAnyZ P md l.toArray Q z F (fuel + 1) listed a w :=
 oneZ i hd hr hw fun K hK => by
  unfold Oper.wp
  rw [hrun]
  exact hK _ _ hS h
theorem callZ (i : Nat) {o : Oper} {f : FuncId} {args : Array Value} {fuel : Nat} {listed : Array Bool} {a : Act} {w : World} {l' : List Oper} (hd : l.drop i = o :: l') (hr : Region.ready md l.toArray listed = [i]) (hw : Region.wanted o (yielded l.toArray a.tmps) = true)
  (hrun : (execOp a.eval o).run P w = .ok (.enter f args) w)
  (h : Calls P f args w fun e w' => ∃ v, e = .returned v ∧ ((listed.setIfInBounds i true).getD z true = false → F w') ∧ wpAnyZ P md l.toArray Q z F fuel (listed.setIfInBounds i true) (a.put o.dst v) w') : wpAnyZ P md l.toArray Q z F (fuel + 1) listed a w := by
 refine oneZ i hd hr hw fun K hK => ?_
 unfold Oper.wp
 rw [hrun]
 exact h.mono fun e w' ⟨v, he, h1, h2⟩ => by subst he; exact hK _ _ h1 h2
theorem appZ (i : Nat) {o : Oper} {fuel : Nat} {listed : Array Bool} {a : Act} {w : World} {l' : List Oper} (hd : l.drop i = o :: l') (hr : Region.ready md l.toArray listed = [i]) (hw : Region.wanted o (yielded l.toArray a.tmps) = true)
  (s x : Operand) (t : TypeId) (ho : o.op = .call { callee := .builtin .append, args := #[s, x], argTypes := #[t, t] })
  (e : TypeId) {z0 : Value} {size bytes : Nat} (ht : P.underlying t = some (.slice e)) (hinfo : (P.info? e).map (fun i => (i.zero, i.size, i.bytes)) = some (some z0, size, bytes)) (hzs : z0.cells.size = size) (hsz : 0 < size)
  {A : Option Addr} {n cap : Nat} {xs : List Value} (he : a.eval s = .slice A n cap) (hs : Sl w e size A n cap xs)
  {B : Option Addr} {m c : Nat} {news : List Value} (hx : a.eval x = .slice B m c) (hl : news.length = m * size) (hrd : RdC w B news) (h1 : ∀ u ∈ news, u.oneCell' = true)
  (h63 : n + m ≤ maxLen) (hbytes : (n + m) * bytes ≤ 140737488355328)
  (h : ∀ A' cap' w', Sl w' e size A' (n + m) cap' (xs ++ news) → (∀ b, b ∈ fpA A' → b ∈ fpA A ∨ w.heap.size ≤ b) → Keeps (· ∈ fpA A) w w' → RdC w' A xs → ((listed.setIfInBounds i true).getD z true = false → F w') ∧ wpAnyZ P md l.toArray Q z F fuel (listed.setIfInBounds i true) (a.put o.dst (.slice A' (n + m) cap')) w') : wpAnyZ P md l.toArray Q z F (fuel + 1) listed a w := by
 obtain ⟨i', hi, hz, hz1, hz2⟩ := info_parts hinfo
 obtain ⟨A', cap', w', hrun, h2, h3, h4, h5⟩ := run_append_Sl_rd (P := P) w t o.type e i' z0 size bytes ht hi hz hz1 hz2 hzs hsz A n cap xs hs B m c news hl hrd h1 h63 hbytes
 obtain ⟨hS, hh⟩ := h A' cap' w' h2 h3 h4 h5
 refine runZ i hd hr hw (w1 := w') (v := .slice A' (n + m) cap') ?_ hS hh
 unfold execOp
 simp only [ho, resolve, invoke, builtin, Sem.run_bind, Sem.run_pure, Result.andThen_ok, List.map_toArray, List.map_cons, List.map_nil, he, hx, hrun]
theorem doneZ {fuel : Nat} {listed : Array Bool} {a : Act} {w : World} (hr : Region.ready md l.toArray listed = []) (h : Q .normal a w) : wpAnyZ P md l.toArray Q z F fuel listed a w := by
 cases fuel with
 | zero => exact ⟨hr, h⟩
 | succ f => exact ⟨fun _ => h, fun i hi => (by rw [hr] at hi; cases hi)⟩
end
section
variable {P : Program} {ops : Array Oper} {Q : Exit → Act → World → Prop} {md : Region.Mode} {z : Nat} {F : World → Prop}
theorem wpAnyZ_firstC {i : Nat} {oi : Oper} {v : Value} {C : List Nat} (hi : ops[i]? = some oi) (hsel : ∀ (j : Nat) (o : Oper) cs b, ops[j]? = some o → o.op ≠ .select cs b)
  (hQ : ∀ c a w, Q (.panic c) (a.put oi.dst v) w → Q (.panic c) a w) (hzC : z ∈ C) (hiC : ¬ i ∈ C) (hC : ∀ c ∈ C, ∃ oc, ops[c]? = some oc ∧ ∃ e ∈ oc.after, Region.binds md e = true ∧ (e.on = i ∨ e.on ∈ C)) :
  ∀ (fuel : Nat) (listed : Array Bool) (a : Act) (w : World), (∀ c ∈ C, listed.getD c true = false) →
    (∀ j oj, ops[j]? = some oj → j ≠ i → listed.getD j true = false → (∀ e ∈ oj.after, Region.binds md e = true → e.on ≠ i) → oi.apart ops oj = true) →
    i ∈ Region.ready md ops listed → YieldsIf P ops F oi v a → F w →
    wpAnyZ P md ops Q z F fuel (listed.setIfInBounds i true) (a.put oi.dst v) w → wpAnyZ P md ops Q z F (fuel + 1) listed a w := by
 intro fuel
 have hiz : i ≠ z := fun e => hiC (e ▸ hzC)
 induction fuel with
 | zero =>
   intro listed a w _ _ hr hy hS H
   refine ⟨fun h => (by rw [h] at hr; cases hr), fun j hj => ?_⟩
   by_cases hji : j = i
   · subst hji; exact hy.wpOp hi hS ⟨fun _ => hS, H⟩
   · have := ready_mono hj hji
     rw [H.1] at this
     cases this
 | succ fuel ih =>
   intro listed a w hlz hfree hr hy hS H
   refine ⟨fun h => (by rw [h] at hr; cases hr), fun j hj => ?_⟩
   by_cases hji : j = i
   · subst hji; exact hy.wpOp hi hS ⟨fun _ => hS, H⟩
   · have h1 := H.2 j (ready_mono hj hji)
     obtain ⟨hjun, oj, hoj, hall⟩ := mem_ready.1 hj
     have hblock : ∀ k, listed.getD k true = false → ∀ e ∈ oj.after, Region.binds md e = true → e.on ≠ k := fun k h0 e he hb heq => by
      have h1 := hall e he hb
      rw [heq] at h1
      rcases Nat.lt_or_ge k listed.size with h' | h'
      · simp [h'] at h0 h1; rw [h0] at h1; cases h1
      · simp [Array.getElem?_eq_none h'] at h1
     have hnot : ∀ e ∈ oj.after, Region.binds md e = true → e.on ≠ i := hblock i (mem_ready.1 hr).1
     have hjC : ¬ j ∈ C := fun hm => by
      obtain ⟨oc, hoc, e, he, hb, hon⟩ := hC j hm
      rw [hoj] at hoc
      obtain rfl := Option.some.inj hoc
      rcases hon with h | h
      · exact hnot e he hb h
      · exact hblock _ (hlz _ h) e he hb rfl
     have hjz : j ≠ z := fun e => hjC (e ▸ hzC)
     have h2 := wpOp_putIf hoj (hfree j oj hoj hji hjun hnot) (fun cs b => hsel i oi cs b hi) (fun cs b => hsel j oj cs b hoj) hQ hy h1
     have hfree' : ∀ k ok, ops[k]? = some ok → k ≠ i → (listed.setIfInBounds j true).getD k true = false →
       (∀ e ∈ ok.after, Region.binds md e = true → e.on ≠ i) → oi.apart ops ok = true := fun k ok hk hki hun hno => by
      refine hfree k ok hk hki ?_ hno
      by_cases hjk : j = k
      · subst hjk; exact hjun
      · rw [getD_set_ne true hjk] at hun; exact hun
     have hlz' : ∀ c ∈ C, (listed.setIfInBounds j true).getD c true = false := fun c hc => by
      have hjc : j ≠ c := fun e => hjC (by rw [e]; exact hc)
      rw [getD_set_ne true hjc]; exact hlz c hc
     have hlz2 : ((listed.setIfInBounds i true).setIfInBounds j true).getD z true = false := by rw [getD_set_ne true hjz, getD_set_ne true hiz]; exact hlz z hzC
     refine wpOp_mono (fun a' w' h3 => ⟨fun _ => h3.2.1 hlz2, ih (listed.setIfInBounds j true) a' w' hlz' hfree' (ready_mono hr (Ne.symm hji)) h3.1 (h3.2.1 hlz2) ?_⟩) h2
     rw [Array.setIfInBounds_comm _ _ hji]
     exact h3.2.2
def descC (md : Region.Mode) (ops : Array Oper) (i : Nat) : List Nat :=
 (List.range ops.size).foldl (fun acc k => if (i :: acc).any fun d => Region.waitsFor md ops k d then k :: acc else acc) []
def chainC (md : Region.Mode) (ops : Array Oper) (listed : Array Bool) (C : List Nat) (z i : Nat) : Bool :=
 C.contains z && !C.contains i && C.all fun c => !listed.getD c true && (i :: C).any fun d => Region.waitsFor md ops c d
end
section
variable {P : Program} {l : List Oper} {Q : Exit → Act → World → Prop} {md : Region.Mode} {z : Nat} {F : World → Prop}
theorem takeC (i : Nat) {oi : Oper} {v : Value} {fuel : Nat} {listed : Array Bool} {a : Act} {w : World} {l' : List Oper} (hd : l.drop i = oi :: l')
  (hs : Region.noSelect l.toArray = true) (hf : Region.free md l.toArray listed i = true) (hr : (Region.ready md l.toArray listed).contains i = true) (hz : chainC md l.toArray listed (descC md l.toArray i) z i = true)
  (hQ : ∀ c a w, Q (.panic c) (a.put oi.dst v) w → Q (.panic c) a w) (hS : F w) (hw : Region.wanted oi (yielded l.toArray a.tmps) = true) (hy : ∀ w, F w → (execOp a.eval oi).run P w = .ok (.value v) w)
  (h : wpAnyZ P md l.toArray Q z F fuel (listed.setIfInBounds i true) (a.put oi.dst v) w) : wpAnyZ P md l.toArray Q z F (fuel + 1) listed a w := by
 simp only [chainC, Bool.and_eq_true, Bool.not_eq_true', List.all_eq_true, List.any_eq_true] at hz
 obtain ⟨⟨h1, h2⟩, h3⟩ := hz
 refine wpAnyZ_firstC (C := descC md l.toArray i) (at_drop hd) (Region.noSelect_spec hs) hQ (by simpa using h1) (by simpa using h2) (fun c hc => ?_) fuel listed a w (fun c hc => (h3 c hc).1) (Region.free_spec (at_drop hd) hf) (by simpa using hr) (.inl ⟨hw, hy⟩) hS h
 obtain ⟨-, d, hd', hwt⟩ := h3 c hc
 obtain ⟨oz, hoz, e, he, hb, heq⟩ := Region.waitsFor_spec hwt
 refine ⟨oz, hoz, e, he, hb, ?_⟩
 rw [heq]
 rcases List.mem_cons.1 hd' with h | h
 · exact .inl h
 · exact .inr h
theorem tkC (i : Nat) {oi : Oper} (v : Value) {fuel : Nat} {listed : Array Bool} {a : Act} {w : World} {l' : List Oper} (hd : l.drop i = oi :: l') (hS : F w) (hy : ∀ w, F w → (execOp a.eval oi).run P w = .ok (.value v) w)
 (h : wpAnyZ P md l.toArray Q z F fuel (listed.setIfInBounds i true) (a.put oi.dst v) w) (hs : Region.noSelect l.toArray = true := by kernel_rfl) (hf : Region.free md l.toArray listed i = true := by kernel_rfl) (hr : (Region.ready md l.toArray listed).contains i = true := by kernel_rfl) (hz : chainC md l.toArray listed (descC md l.toArray i) z i = true := by kernel_rfl)
 (hQ : ∀ c a w, Q (.panic c) (a.put oi.dst v) w → Q (.panic c) a w := by exact fun _ _ _ h => h) (hw : Region.wanted oi (yielded l.toArray a.tmps) = true := by rfl) : wpAnyZ P md l.toArray Q z F (fuel + 1) listed a w := takeC i hd hs hf hr hz hQ hS hw hy h
end
def rowE (p : Int) (n : Nat) (x l : List Int) : List Int := l.drop n ++ [(-(dotM p n x (l.take n))) % p]
def hvM (p : Int) (s : Sys) (x : List Int) : List Int × Bool := if sysB p s && (decide ((x.length : Int) = s.1) && inB 0 (p - 1) x) then fsM p s.2.1.toNat (s.2.2.map (rowE p s.1.toNat x)) else ([], false)
theorem rowE_mat {p : Int} (hp : 0 < p) {n h : Nat} {x l : List Int} (hl : l.length = n + h) (hr : Res p l) : (rowE p n x l).length = h + 1 ∧ Res p (rowE p n x l) := by
 refine ⟨by simp [rowE, hl], fun y hy => ?_⟩
 unfold rowE at hy
 rcases List.mem_append.1 hy with hy | hy
 · exact hr y (List.mem_of_mem_drop hy)
 · obtain rfl := List.mem_singleton.1 hy
   exact ⟨Int.emod_nonneg _ (by omega), Int.emod_lt_of_pos _ hp⟩
set_option maxRecDepth 100000 in
set_option maxHeartbeats 4000000 in
theorem iHiddenValues_law (p : Int) {v vx : Value} {s : Sys} {x : List Int} {fp : List Nat} {w : World} (h : OwSys w v s fp) (hx : RdIV w vx x) (ok : OkR s.2.2) (okx : x.length ≤ 1048576) (hT : Tab w) :
  Calls Tryd.prog 9 #[.int .i64 p, v, vx] w fun e w' => ∃ v' fp', e = .returned (.tuple #[v', .bool (hvM p s x).2]) ∧ OwI w' v' (hvM p s x).1 fp' ∧ FreshL w.heap.size fp' ∧ Below w.heap.size w w' := by
 obtain ⟨X, cx, rfl, hX⟩ := hx
 obtain ⟨A, c, hs, rfl, hL, hO, hfp⟩ := id h
 obtain ⟨sv, sh, L⟩ := s
 have hL' : L = hs.map (fun h : Hd => h.2.2) := hL
 clear hL
 obtain ⟨m, hm⟩ : ∃ m, m = hs.length := ⟨_, rfl⟩
 change OwSys w (.agg #[.int .i64 sv, .int .i64 sh, .slice A hs.length c]) (sv, sh, L) fp at h
 show Calls Tryd.prog _ #[.int .i64 p, .agg #[.int .i64 sv, .int .i64 sh, .slice A hs.length c], _] w _
 rw [← hm] at h ⊢
 obtain ⟨W, hW, b0, k0⟩ := (⟨_, rfl, below_alloc _ _, heap_alloc_new _ _⟩ : ∃ W, W = w.alloc (.cells #[.int .i64 sv, .int .i64 sh, .slice A m c] 29) ∧ Below w.heap.size w W ∧ W.heap[w.heap.size]? = some (.cells #[.int .i64 sv, .int .i64 sh, .slice A m c] 29))
 have hG := isSystem_any p W (h.rd.below b0) (hT.below b0 hT.lt) ok.1 ok.2.1
 obtain ⟨D, hD⟩ : ∃ D, D = hvM p (sv, sh, L) x := ⟨_, rfl⟩
 rw [← hD]
 unfold hvM at hD
 by_cases hb : sysB p (sv, sh, L) = true
 case neg =>
  have hb' : sysB p (sv, sh, L) = false := by simpa using hb
  rw [hb', Bool.false_and, if_neg (by simp)] at hD
  rw [hb'] at hG
  subst hD
  clear hb hb' ok okx h hX hm hT hO hL'; have hG_h := lH hG; have k0_h := lH k0; have b0_h := lH b0; clear hG k0 b0
  go_enter Tryd.func9, Tryd.ntmps9
  go_upto_region 1 with (fail)
  rw [← hW]
  clear hW
  obtain ⟨⟨c0, c1, c2⟩, f0, f1, f2⟩ := box3 k0_h.out
  go_wp2_with (fail)
  refine (hG_h.out).mono ?_
  rintro e w1 ⟨rfl, hb1⟩
  have hB1 := below_trans b0_h.out hb1 b0_h.out.size
  clear c0 c1 c2 f0 f1 f2 hb1; have hB1_h := lH hB1; clear hB1
  go_wp2_with (fail)
  go_ret2
  exact ⟨_, [], rfl, ⟨none, 0, rfl, (show IS _ none 0 [] from Sl.nil _ _ _), by simp⟩, FreshL.nil _, hB1_h.out⟩
 have hok := SysOk.of hb
 have hpb := fieldB_bounds hok.fld
 rw [hb, Bool.true_and] at hD
 rw [hb] at hG
 have hV := fun W' (hb : Below w.heap.size w W') => isVector_any p X cx x sv W' (hX.below hb) (by omega)
 obtain ⟨q, hq⟩ : ∃ q, q = x.length := ⟨_, rfl⟩
 simp only [← hq] at hV hD
 rw [← hq]
 by_cases hv : (decide ((q : Int) = sv) && inB 0 (p - 1) x) = true
 case neg =>
  have hv' : (decide ((q : Int) = sv) && inB 0 (p - 1) x) = false := by simpa using hv
  rw [show (decide ((q : Int) = ((sv, sh, L) : Sys).1) && inB 0 (p - 1) x) = false from hv', if_neg (by simp)] at hD
  simp only [hv'] at hV
  subst hD
  clear hb hv hv' ok okx h hX hm hT hO hL' hok hq; have hG_h := lH hG; have k0_h := lH k0; have b0_h := lH b0; have hV_h := lH hV; clear hG k0 b0 hV
  go_enter Tryd.func9, Tryd.ntmps9
  go_upto_region 1 with (fail)
  rw [← hW]
  clear hW
  obtain ⟨⟨c0, c1, c2⟩, f0, f1, f2⟩ := box3 k0_h.out
  go_wp2_with (fail)
  refine (hG_h.out).mono ?_
  rintro e w1 ⟨rfl, hb1⟩
  clear c0 c1 c2 f0 f1 f2
  replace k0_h := lH (box_below k0_h.out hb1)
  have hB1 := below_trans b0_h.out hb1 b0_h.out.size
  clear hb1; have hB1_h := lH hB1; clear hB1
  obtain ⟨⟨c0, c1, c2⟩, f0, f1, f2⟩ := box3 k0_h.out
  go_wp2_with (fail)
  refine (hV_h.out _ hB1_h.out).mono ?_
  rintro e w2 ⟨rfl, hw2⟩
  subst hw2
  go_wp2_with (fail)
  go_ret2
  exact ⟨_, [], rfl, ⟨none, 0, rfl, (show IS _ none 0 [] from Sl.nil _ _ _), by simp⟩, FreshL.nil _, hB1_h.out⟩
 rw [show (decide ((q : Int) = ((sv, sh, L) : Sys).1) && inB 0 (p - 1) x) = true from hv, if_pos rfl] at hD
 simp only [hv] at hV
 simp only [Bool.and_eq_true, decide_eq_true_eq] at hv
 obtain ⟨hqs, hin⟩ := hv
 have hxr : Res p x := fun a ha => by have := inB_iff.1 hin a ha; omega
 subst hqs
 have hq24 : q ≤ 24 := by have : (q : Int) ≤ 24 := hok.vis.2; omega
 obtain ⟨n, rfl⟩ : ∃ n : Nat, sh = (n : Int) := ⟨sh.toNat, by have : 0 ≤ sh := hok.hid.1; omega⟩
 have hn100 : n ≤ 100 := by have : (n : Int) ≤ 100 := hok.hid.2; omega
 have hLm : Mat p L.length (q + n) L := hok.mat
 have hml : L.length = m := by rw [hL', List.length_map, hm]
 have hm160 : m ≤ 160 := by have : L.length ≤ 160 := hok.len; omega
 obtain ⟨E, hE⟩ : ∃ E, E = L.map (rowE p q x) := ⟨_, rfl⟩
 have hEl : E.length = m := by rw [hE, List.length_map, hml]
 have hEm : Mat p E.length (n + 1) E := ⟨rfl, fun u hu => by
  rw [hE] at hu
  obtain ⟨l, hl, rfl⟩ := List.mem_map.1 hu
  have := hLm.row l hl
  exact rowE_mat (by omega) this.1 this.2⟩
 change D = fsM p n (L.map (rowE p q x)) at hD
 rw [← hE] at hD
 have kW := k0
 have hFs : ∀ (W' : World) (A3 : Option Addr) (c3 : Nat), OM W W' A3 c3 E → Calls Tryd.prog 38 #[.int .i64 p, .slice A3 m c3, .int .i64 (n : Int)] W' fun e w' => ∃ A' c', e = .returned (.tuple #[.slice A' D.1.length c', .bool D.2]) ∧ IS w' A' c' D.1 ∧ Fresh W'.heap.size A' ∧ Below W'.heap.size W' w' := fun W' A3 c3 hO => by
  obtain ⟨gs, hg, hOw, _, _⟩ := hO
  have hgl : gs.length = m := by rw [← hEl, hg, List.length_map]
  have := firstSolution_any p n A3 c3 gs W' hOw.rd hok.fld (by rw [← hg, hgl, ← hEl]; exact hEm) (by omega) (by omega)
  rw [← hg, hgl, ← hD] at this
  exact this
 have hrow : ∀ k, k < m → ∃ ad C d l, A = some ad ∧ L[k]? = some l ∧ l.length = q + n ∧ Res p l ∧ w.cell? (ad.add k) = some (.slice C (q + n) d) ∧ IS w C d l := fun k hk => by
  obtain ⟨ad, C, d, l, hA, hx, hc, _, hI⟩ := hO.get (i := k) (by omega)
  have hlx : L[k]? = some l := by rw [hL', List.getElem?_map, hx]; rfl
  have := hLm.row l (List.mem_of_getElem? hlx)
  rw [this.1] at hc
  exact ⟨ad, C, d, l, hA, hlx, this.1, this.2, hc, hI⟩
 have hDo := fun (W' : World) (B : Option Addr) (cb : Nat) (l : List Int) (hb : Below w.heap.size w W') (hl : l.length = q) (hr : Res p l) (hI : RdI W' B l) => dot_any p q X B cx cb x l W' (hX.below hb) hI hq.symm hl hxr hr (by omega) hpb.2 (by omega)
 have hbd : ∀ l : List Int, 0 ≤ dotM p q x l ∧ dotM p q x l < p := fun l => ⟨Int.emod_nonneg _ (by omega), Int.emod_lt_of_pos _ (by omega)⟩
 clear hb hin hok hLm hEm h hT ok okx hL' hO hfp hD hX hxr; have hG_h := lH hG; have k0_h := lH k0; have kW_h := lH kW; have b0_h := lH b0; have hV_h := lH hV; have hFs_h := lH hFs; have hrow_h := lH hrow; have hDo_h := lH hDo; have hbd_h := lH hbd; have hE_h := lH hE; have hEl_h := lH hEl; have hml_h := lH hml; have hq_h := lH hq; have hm_h := lH hm; clear hG k0 kW b0 hV hFs hrow hDo hbd hE hEl hml hq hm
 go_enter Tryd.func9, Tryd.ntmps9
 go_upto_region 1 with (fail)
 rw [← hW]
 clear hW
 obtain ⟨⟨c0, c1, c2⟩, f0, f1, f2⟩ := box3 k0_h.out
 go_wp2_with (fail)
 refine (hG_h.out).mono ?_
 rintro e w1 ⟨rfl, hb1⟩
 clear c0 c1 c2 f0 f1 f2
 replace k0_h := lH (box_below k0_h.out hb1)
 have hB1 := below_trans b0_h.out hb1 b0_h.out.size
 have hOM0 : OM W (w1.alloc (.cells #[] 25)) (some ⟨w1.heap.size, 0, none⟩) 0 [] := by
  refine ⟨[], rfl, ⟨by simpa using Sl.laid w1 25 1 0 #[] (Nat.zero_le _) rfl, fun h hh => (by cases hh), .nil, fun h hh => (by cases hh)⟩, fun b hb => ?_, below_trans hb1 (below_alloc _ _) hb1.size⟩
  have : b = w1.heap.size := by simpa [fpR] using hb
  subst this; exact hb1.size
 have k0a := box_below k0_h.out (below_alloc w1 (.cells #[] 25))
 clear hb1; have hB1_h := lH hB1; have hOM0_h := lH hOM0; have k0a_h := lH k0a; clear hB1 hOM0 k0a
 obtain ⟨⟨c0, c1, c2⟩, f0, f1, f2⟩ := box3 k0_h.out
 go_wp2_with (fail)
 refine (hV_h.out _ hB1_h.out).mono ?_
 rintro e w2 ⟨rfl, hw2⟩
 subst hw2
 go_upto_region 4 with (fail)
 clear c0 c1 c2 f0 f1 f2
 obtain ⟨⟨c0, c1, c2⟩, f0, f1, f2⟩ := box3 k0a_h.out
 go_wp2_with (fail)
 go_loopw [28, 8] (fun i v wr => ∃ (k : Nat) (A' : Option Addr) (c' : Nat), k ≤ m ∧ i = .int .i64 k ∧ v = .slice A' k c' ∧ OM W wr A' c' (E.take k)) (fun i _ _ => m - (intOf i).toNat)
 case atStart => exact ⟨0, _, 0, Nat.zero_le _, rfl, rfl, hOM0_h.out⟩
 case round =>
  clear hOM0_h k0a_h c0 c1 c2 f0 f1 f2
  obtain ⟨k, A', c', hk, rfl, rfl, hOM⟩ := hrel
  obtain ⟨wo, rfl⟩ : ∃ x, x = wr := ⟨_, rfl⟩
  have hWo := hOM.below_
  have hBo := below_trans b0_h.out hWo b0_h.out.size
  have kx := box_below kW_h.out hWo
  obtain ⟨⟨c0, c1, c2⟩, f0, f1, f2⟩ := box3 kx
  by_cases hlt : k < m
  · obtain ⟨ad, C, d, l, rfl, hlx, hll, hlr, hc0, hI0⟩ := hrow_h.out k hlt
    have hc := (hBo.cell (World.block_lt_of_cell? w _ hc0)).trans hc0
    have hI := hI0.below hBo
    have hS : Sl wo 3 1 C (q + n) d (ints l) := by have := hI; unfold IS at this; rwa [hll] at this
    have hSd : q + n ≤ d := hS.2.1
    have hkI : (k : Int) < (m : Int) := by omega
    have hEk : E[k]? = some (rowE p q x l) := by rw [hE_h.out, List.getElem?_map, hlx]; rfl
    have hrl : (rowE p q x l).length = n + 1 := (rowE_mat (by omega) hll hlr).1
    obtain ⟨y, hy⟩ : ∃ y, y = dotM p q x (l.take q) := ⟨_, rfl⟩
    have hyb := hbd_h.out (l.take q)
    rw [← hy] at hyb
    have hre : rowE p q x l = l.drop q ++ [(-y) % p] := by rw [hy]; rfl
    have hDl := fun (B : Option Addr) (cb : Nat) (hr : RdI wo B (l.take q)) => hDo_h.out wo B cb (l.take q) hBo (by rw [List.length_take, hll]; omega) (fun z hz => hlr z (List.mem_of_mem_take hz)) hr
    simp only [← hy] at hDl
    have hMo := mod_any p (-y) wo (by omega) hpb.2 (by omega) (by omega)
    have hdl : (l.drop q).length = n := by rw [List.length_drop, hll]; omega
    have hy0 := hyb.1
    have hy1 := hyb.2
    clear hlx hI hI0 hc0 hlr kx hWo hyb; have hOM_h := lH hOM; have hll_h := lH hll; have hS_h := lH hS; have hEk_h := lH hEk; have hrl_h := lH hrl; have hy_h := lH hy; have hre_h := lH hre; have hDl_h := lH hDl; have hMo_h := lH hMo; have hdl_h := lH hdl; have hBo_h := lH hBo; clear hOM hll hS hEk hrl hy hre hDl hMo hdl hBo
    go_wp2_with (refine wpList_slice_Sl rfl (.tmp 35) none (some (.tmp 37)) none 25 rfl 3 Tryd.underlying25 info_int rfl hS_h.out 0 q d (optNone rfl) (optSome rfl) (optNone rfl) (by omega) (by omega) (by omega) (Nat.le_refl _) ?_; intro A3 hcut hfp3 _; simp only [Nat.sub_zero, List.drop_zero, Nat.mul_one] at hcut ⊢; have hcut_h := lH hcut; clear hcut hfp3)
    have hr3 : RdI wo A3 (l.take q) := IS.rd (show IS wo A3 d (l.take q) by
     unfold IS
     rw [show (l.take q).length = q by rw [List.length_take, hll_h.out]; omega]
     have := hcut_h.out
     unfold ints at this ⊢
     rwa [← List.map_take] at this)
    refine (hDl_h.out A3 d hr3).mono ?_
    rintro e w' ⟨rfl, hw'⟩
    subst w'
    clear hr3 hcut_h
    go_wp2_with (fail)
    refine (hMo_h.out).mono ?_
    rintro e w' ⟨rfl, hw'⟩
    subst w'
    go_wp2_with (refine wpList_slice_Sl rfl (.tmp 43) (some (.tmp 45)) none none 25 rfl 3 Tryd.underlying25 info_int rfl hS_h.out q (q + n) d (optSome rfl) (optNone ⟨rfl, rfl⟩) (optNone rfl) (by omega) (Nat.le_refl _) (by omega) (Nat.le_refl _) ?_; intro A4 hcut hfp3 _; simp only [Nat.add_sub_cancel_left, Nat.mul_one] at hcut ⊢; have hcut_h := lH hcut; clear hcut hfp3)
    have hr4 : RdI wo A4 (l.drop q) := IS.rd (show IS wo A4 (d - q) (l.drop q) by
     unfold IS
     rw [hdl_h.out]
     have := hcut_h.out
     rw [List.take_of_length_le (by simp [ints, hll_h.out])] at this
     unfold ints at this ⊢
     rwa [← List.map_drop] at this)
    have hCl := clone_any A4 (d - q) (l.drop q) wo hr4 (by rw [hdl_h.out]; omega)
    rw [hdl_h.out] at hCl
    refine (hCl).mono ?_
    rintro e w3 ⟨A5, c5, rfl, hi5, hf5, hb5⟩
    rw [hdl_h.out]
    clear hr4 hcut_h hCl
    have hO5 : OI wo w3 A5 c5 (l.drop q) := ⟨hi5, hf5, hb5⟩
    have HSL := lH (fun (o : Obj) => oi_alloc hO5 hdl_h.out o)
    obtain ⟨gs, hLg, hOr, hf, h0⟩ := hOM_h.out
    have hgl : gs.length = k := by
     have := congrArg List.length hLg
     rw [List.length_take, hEl_h.out, List.length_map] at this
     omega
    clear hi5 hf5 hb5; have hO5_h := lH hO5; have hLg_h := lH hLg; have hOr_h := lH hOr; have hf_h := lH hf; have h0_h := lH h0; have hgl_h := lH hgl; clear hO5 hLg hOr hf h0 hgl
    go_wp2_with (at_builtin; first | (refine wpList_append_Sl _ rfl _ _ _ rfl 3 Tryd.underlying25 info_int rfl (by omega) rfl (HSL.out (.cells #[.int .i64 ((-y) % p)] 3)) rfl (news := [.int .i64 ((-y) % p)]) rfl (Sl.rdc (Sl.laid w3 3 1 1 #[.int .i64 ((-y) % p)] (by unfold maxLen; omega) rfl)) (by intro u hu; simp at hu; subst hu; rfl) (by unfold maxLen; omega) (by omega) ?_; intro A6 c6 w6 hs6 hA6 hk6; have hO2 := hO5_h.out.snoc (x := (-y) % p) (by rw [hdl_h.out]) hs6 hA6 hk6; rw [← hre_h.out] at hO2; have hsl := (hOr_h.out.sl.below hO2.below_).alloc (.cells #[.slice A6 (n + 1) c6] 25); rw [hgl_h.out] at hsl; have hO2_h := lH hO2; have hsl_h := lH hsl; clear hO2 hsl hs6 hA6 hk6 hO5_h) | (refine wpList_append_Sl _ rfl _ _ _ rfl 25 Tryd.underlying22 info_ints rfl (by omega) rfl hsl_h.out rfl (news := [.slice A6 (n + 1) c6]) rfl (Sl.rdc (Sl.laid w6 25 1 1 #[.slice A6 (n + 1) c6] (by unfold maxLen; omega) rfl)) (by intro u hu; simp at hu; subst hu; rfl) (by unfold maxLen; omega) (by omega) ?_; intro A2 c2' w2 hs2 hA2 hk2))
    have hal2 : Below w6.heap.size w6 (w6.alloc (.cells #[.slice A6 (n + 1) c6] 25)) := (Below.refl _ _).alloc (Nat.le_refl _) _
    have hOM2 := OM.snoc (w1 := w6.alloc (.cells #[.slice A6 (n + 1) c6] 25)) hLg_h.out hOr_h.out hf_h.out h0_h.out (below_trans hO2_h.out.below_ hal2 hO2_h.out.below_.size) (hO2_h.out.is.below hal2) hO2_h.out.new (by rw [hgl_h.out]) (by rw [hrl_h.out]; exact hs2) hA2 hk2
    have hOM2_h := lH hOM2; clear hOM2; clear hs2 hA2 hk2 hal2 hsl_h hOr_h
    go_roundw
    case rel => exact ⟨k + 1, A2, c2', by omega, by go_num, rfl, by rw [List.take_add_one, hEk_h.out]; exact hOM2_h.out⟩
    case measure => simp [intOf]; omega
  · obtain rfl : m = k := by omega
    rw [List.take_of_length_le (by rw [hEl_h.out]; omega)] at hOM
    have hC := hFs_h.out wo A' c' hOM
    have hlo := hWo.size
    clear hOM hWo kx; have hC_h := lH hC; have hBo_h := lH hBo; clear hC hBo
    go_wp2_with (fail)
    refine (hC_h.out).mono ?_
    rintro e w2 ⟨A9, c9, rfl, hi9, hf9, hb9⟩
    have hB9 := below_trans hBo_h.out hb9 hBo_h.out.size
    have hf9' : FreshL w.heap.size (fpA A9) := fun b hb => Nat.le_trans hBo_h.out.size (hf9 b hb)
    clear hb9 hf9; have hB9_h := lH hB9; have hi9_h := lH hi9; have hf9'_h := lH hf9'; clear hB9 hi9 hf9'
    go_wp2_with (fail)
    go_ret2
    exact ⟨_, _, rfl, ⟨A9, c9, rfl, hi9_h.out, rfl⟩, hf9'_h.out, hB9_h.out⟩
abbrev tMat : TypeId := 54
def OMx (w0 : World) (bx : Nat) (w : World) (A : Option Addr) (cap : Nat) (L : List (List Int)) : Prop :=
 ∃ hs : List Hd, L = hs.map (fun h : Hd => h.2.2) ∧ OwR w A cap hs ∧ (∀ b, b ∈ fpA A ++ fpR hs → w0.heap.size ≤ b ∧ b ≠ bx) ∧ Below w0.heap.size w0 w ∧ w0.heap.size ≤ bx ∧ bx < w.heap.size
section
variable {w0 w w' : World} {bx : Nat} {A : Option Addr} {cap : Nat} {L : List (List Int)}
theorem OMx.om (h : OMx w0 bx w A cap L) : OM w0 w A cap L := by
 obtain ⟨hs, hL, hO, hf, h0, _⟩ := h
 exact ⟨hs, hL, hO, fun b hb => (hf b hb).1, h0⟩
theorem OMx.below_ (h : OMx w0 bx w A cap L) : Below w0.heap.size w0 w := h.om.below_
theorem OMx.nil (h0 : Below w0.heap.size w0 w) (h1 : w0.heap.size ≤ bx) (h2 : bx < w.heap.size) : OMx w0 bx w none 0 [] :=
 ⟨[], rfl, OwR.nil w, fun b hb => by simp [fpR] at hb, h0, h1, h2⟩
theorem OMx.below (h : OMx w0 bx w A cap L) (hb : Below w.heap.size w w') : OMx w0 bx w' A cap L := by
 obtain ⟨hs, hL, hO, hf, h0, h1, h2⟩ := h
 exact ⟨hs, hL, hO.below hb, hf, below_trans h0 hb h0.size, h1, Nat.lt_of_lt_of_le h2 hb.size⟩
theorem OMx.store (h : OMx w0 bx w A cap L) (hk : Keeps (· = bx) w w') : OMx w0 bx w' A cap L := by
 obtain ⟨hs, hL, hO, hf, h0, h1, h2⟩ := h
 exact ⟨hs, hL, hO.keeps hk fun b hb e => (hf b hb).2 e, hf, below_keeps h0 hk h0.size fun k e => by subst e; exact h1, h1, Nat.lt_of_lt_of_le h2 hk.size⟩
theorem OMx.snoc {w1 w2 : World} {hs : List Hd} (hL : L = hs.map (fun h : Hd => h.2.2)) (hO : OwR w A cap hs) (hf : ∀ b, b ∈ fpA A ++ fpR hs → w0.heap.size ≤ b ∧ b ≠ bx) (h0 : Below w0.heap.size w0 w) (h1 : w0.heap.size ≤ bx) (h2 : bx < w.heap.size) {l : List Int} {B : Option Addr} {c : Nat} (hb : Below w.heap.size w w1) (hx : IS w1 B c l) (hf1 : Fresh w.heap.size B)
  {A' : Option Addr} {cap' n : Nat} (hn : n = hs.length + 1) (hs' : Sl w2 25 1 A' n cap' (hs.map Hd.val ++ [.slice B l.length c])) (hA' : ∀ b, b ∈ fpA A' → b ∈ fpA A ∨ w1.heap.size ≤ b) (hk : Keeps (· ∈ fpA A) w1 w2) : OMx w0 bx w2 A' cap' (L ++ [l]) := by
 subst hL hn
 have hbw := below_trans h0 hb h0.size
 have hz := hb.size
 have hz2 := hk.size
 refine ⟨hs ++ [(B, c, l)], by simp, hO.snoc hb (x := (B, c, l)) hx hf1 (by simpa [Hd.val] using hs') hA' hk, fun b hb' => ?_, below_keeps hbw hk hbw.size fun b hb' => (hf b (List.mem_append_left _ hb')).1, h1, by omega⟩
 rcases List.mem_append.1 hb' with hb' | hb'
 · rcases hA' b hb' with h3 | h3
   · exact hf b (List.mem_append_left _ h3)
   · have := hbw.size; omega
 · rcases fpR_snoc hs (B, c, l) b hb' with h3 | h3
   · exact hf b (List.mem_append_right _ h3)
   · have := hf1 b h3; have := h0.size; omega
end
end Go.Proofs.YtjompikdkhhlgaaDoor
