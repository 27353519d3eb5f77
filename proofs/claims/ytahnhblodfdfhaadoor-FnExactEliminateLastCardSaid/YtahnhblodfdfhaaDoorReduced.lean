/-
  THE WALKS: impl.clones, impl.reduced.

  THE WALK: the reduction on the program's side (impl.reduction).
-/
import Derived.Test.YtahnhblodfdfhaaDoorStep
import Derived.Test.YtahnhblodfdfhaaDoorSpRed
namespace Go.Proofs.YtahnhblodfdfhaaDoor
open Go.RowKit

theorem box1 {w : World} {B : Nat} {x : Value} {t : TypeId} (h : w.heap[B]? = some (.cells #[x] t)) : w.cell? ⟨B, 0, none⟩ = some x := by simp [World.cell?, h]
theorem pair_of {α β γ : Type} {x : α × β × γ} {a : α} {b : β} {c : γ} (h1 : x.1 = a) (h2 : x.2.1 = b) (h3 : x.2.2 = c) : x = (a, b, c) := by
  obtain ⟨x1, x2, x3⟩ := x; subst h1 h2 h3; rfl

set_option maxRecDepth 100000 in
set_option maxHeartbeats 4000000 in
theorem reduction_any (p : Int) (n m n2 : Nat) (A : Option Addr) (cap : Nat) (L : List (List Int)) (fp : List Nat) (A' : Option Addr) (cap' : Nat) (K : List (List Int)) (fp' : List Nat) (w : World) (hRL : RwF w A cap L fp) (hRK : RwF w A' cap' K fp') (hap : ∀ b, b ∈ fp → ¬ b ∈ fp')
    (hlf : LtL w.heap.size fp) (hlf' : LtL w.heap.size fp') (hp : fieldB p = true) (hmL : Mat p m n L) (hmK : Mat p m n2 K) (hm : m ≤ 1048576) (hn : n ≤ 1048576) (hn2 : n2 ≤ 1048576) :
    Calls Tryd.prog 158 #[.int .i64 p, .slice A m cap, .int .i64 n, .slice A' m cap'] w fun e w' => e = .returned (.int .i64 ((redTo p L K n).1 : Nat)) ∧ RwF w' A cap (redTo p L K n).2.1 fp ∧ RwF w' A' cap' (redTo p L K n).2.2 fp' ∧ Keeps (fun b => b ∈ fp ∨ b ∈ fp') w w' := by
  have hmf : ∀ (fn : Fn) (first cap : Array Value) (w : World), (Instr.makeFunc fn first cap).run Tryd.prog w = .ok (.func fn first cap) w := fun _ _ _ _ => rfl
  have hpb := fieldB_bounds hp
  have HP := Lib.hid hp
  have HML := Lib.hid hmL
  have HMK := Lib.hid hmK
  obtain ⟨W, hW⟩ : ∃ W, W = ((w.alloc (.cells #[.int .i64 p] 3)).alloc (.cells #[.slice A m cap] 22)).alloc (.cells #[.slice A' m cap'] 22) := ⟨_, rfl⟩
  have hBW : Below w.heap.size w W := by rw [hW]; exact (((Below.refl _ _).alloc (Nat.le_refl _) _).alloc (by simp) _).alloc (by simp; omega) _
  have hCap : Cap W p w.heap.size (w.heap.size + 1) (w.heap.size + 1 + 1) A cap L fp A' cap' K fp' m := by
    refine ⟨?_, ?_, ?_, hRL.below hBW, hRK.below hBW, hap, ⟨fun h => absurd (hlf _ h) (by omega), fun h => absurd (hlf' _ h) (by omega)⟩, ⟨fun h => absurd (hlf _ h) (by omega), fun h => absurd (hlf' _ h) (by omega)⟩, ⟨fun h => absurd (hlf _ h) (by omega), fun h => absurd (hlf' _ h) (by omega)⟩⟩
    · rw [hW, World.cell?_alloc_lt _ _ _ (by simp; omega), World.cell?_alloc_lt _ _ _ (by simp)]
      exact box1 (heap_alloc_new w _)
    · rw [hW, World.cell?_alloc_lt _ _ _ (by simp)]
      have := heap_alloc_new (w.alloc (.cells #[.int .i64 p] 3)) (.cells #[.slice A m cap] 22)
      rw [World.size_alloc] at this
      exact box1 this
    · rw [hW]
      have := heap_alloc_new ((w.alloc (.cells #[.int .i64 p] 3)).alloc (.cells #[.slice A m cap] 22)) (.cells #[.slice A' m cap'] 22)
      rw [World.size_alloc, World.size_alloc] at this
      exact box1 this
  have hnf : ∀ wr : World, Keeps (fun b => b ∈ fp ∨ b ∈ fp') W wr → ¬ wr.heap.size ∈ fp := fun wr hk hh => by
    have := hlf _ hh; have := hk.size; have := hBW.size; omega
  have HNF := Lib.hid hnf
  have HBW := Lib.hid hBW
  have HCap := Lib.hid hCap
  clear hRL hRK hap hlf hlf' hp hmL hmK hBW hCap hnf
  go_enter Tryd.func158, Tryd.ntmps158
  go_wp2_with (fail)
  rw [← hW]
  clear hW
  go_loopw [11, 9] (fun ci ri wr => ∃ (col R : Nat) (M K1 : List (List Int)), col ≤ n ∧ ci = .int .i64 col ∧ ri = .int .i64 R ∧ redTo p L K col = (R, M, K1) ∧ Mat p m n2 K1 ∧ Cap wr p w.heap.size (w.heap.size + 1) (w.heap.size + 1 + 1) A cap M fp A' cap' K1 fp' m ∧ Keeps (fun b => b ∈ fp ∨ b ∈ fp') W wr) (fun ci _ _ => n - (intOf ci).toNat)
  case atStart => exact ⟨0, 0, L, K, Nat.zero_le _, rfl, rfl, rfl, HMK.out, HCap.out, Keeps.refl _ _⟩
  case round =>
    obtain ⟨col, R, M, K1, hcol, rfl, rfl, hrt, hmK1, hC, hkp⟩ := hrel
    obtain ⟨hMm, hRm⟩ := redTo_mat HP.out HML.out K hcol
    rw [hrt] at hMm hRm
    have hMm : Mat p m n M := hMm
    have hRm : R ≤ m := hRm
    have HRT := Lib.hid hrt
    have HMm := Lib.hid hMm
    have HMl := Lib.hid hMm.len
    have HMK1 := Lib.hid hmK1
    have d5 := hC.c5
    have HC := Lib.hid hC
    have HKP := Lib.hid hkp
    clear hrt hMm hC hkp hmK1 HCap
    by_cases hgo : col < n ∧ R < m
    case neg =>
      have hend : redTo p L K n = (R, M, K1) := by
        by_cases hc : col < n
        · have hs := redTo_stable (p := p) (L := L) (A := K) (c := col) (by rw [HRT.out]; show M.length ≤ R; rw [HMl.out]; omega) (n - col)
          rw [show col + (n - col) = n by omega] at hs
          rw [hs, HRT.out]
        · obtain rfl : n = col := by omega
          exact HRT.out
      have HE := Lib.hid hend
      clear hend
      by_cases hc : col < n
      · have hRk : ¬ ((R : Int) < (m : Int)) := by omega
        go_wp2_with (fail)
        go_ret
        rw [HE.out]
        exact ⟨rfl, HC.out.rows, HC.out.also, (Keeps.of_below HBW.out _).trans HKP.out⟩
      · have hcI : ¬ ((col : Int) < (n : Int)) := by omega
        go_wp2_with (fail)
        go_ret
        rw [HE.out]
        exact ⟨rfl, HC.out.rows, HC.out.also, (Keeps.of_below HBW.out _).trans HKP.out⟩
    case pos =>
      obtain ⟨hcn, hRk⟩ := hgo
      have hcI : (col : Int) < (n : Int) := by omega
      have hRI : (R : Int) < (m : Int) := by omega
      go_wp2_with (fail)
      go_loop [12] (fun v => ∃ q : Nat, R ≤ q ∧ q ≤ m ∧ v = .int .i64 q ∧ pvFrom M col (m - q) q = pvFrom M col (m - R) R) (fun v => m - (intOf v).toNat)
      case atStart => exact ⟨R, Nat.le_refl _, by omega, rfl, rfl⟩
      case round =>
        obtain ⟨q, hRq, hqk, rfl, hpv⟩ := hrel
        have HPV := Lib.hid hpv
        clear hpv
        by_cases hlt : q < m
        · obtain ⟨ad, B, d, hA', hcq, hfq, hIq, _⟩ := HC.out.rows.get (i := q) (by rw [HMl.out]; exact hlt)
          have hrl := (HMm.out.get hlt).1
          obtain ⟨bd, x, hB, hx, _, hcx, _⟩ := hIq.at_ (j := col) (by rw [hrl]; exact hcn)
          have hxe : x = en M q col := by unfold en; simp [List.getD] at hx ⊢; rw [hx]; rfl
          have hxb := HMm.out.en (by omega) hlt col
          rw [← hxe] at hxb
          rw [hrl] at hcq
          have HXE := Lib.hid hxe
          have hqI : (q : Int) < (m : Int) := by omega
          subst hA'
          subst hB
          by_cases hx0 : x = 0
          · subst hx0
            have hpn := pvFrom_eq hlt HXE.out.symm
            have HPN := Lib.hid hpn
            clear hpn hxe hIq hrl hx hfq
            go_wp2_with (fail)
            go_round
            case rel => exact ⟨q + 1, by omega, by omega, by go_num, by rw [← HPN.out]; exact HPV.out⟩
            case measure => simp [intOf]; omega
          · have hx1 : (x == 0) = false := by rw [beq_eq_false_iff_ne]; exact hx0
            have hpn : pvFrom M col (m - R) R = q := by rw [← HPV.out]; exact pvFrom_hit hlt (by rw [← HXE.out]; exact hx0)
            have HPN := Lib.hid hpn
            have hX := stepX_any p R q m w.heap.size (w.heap.size + 1) (w.heap.size + 1 + 1) (some ad) cap M fp A' cap' K1 fp' wr HC.out HMl.out HMK1.out.len hRk hlt hm (HNF.out wr HKP.out)
            have HX := Lib.hid hX
            clear hX hpn HPV hxe hIq hrl hx hfq
            go_wp2_with (fail)
            refine HX.out.mono ?_
            clear HX
            rintro e w1 ⟨rfl, hC1, hk1⟩
            obtain ⟨S, hS⟩ : ∃ S, S = swapL M R q := ⟨_, rfl⟩
            obtain ⟨S1, hS1⟩ : ∃ S1, S1 = swapL K1 R q := ⟨_, rfl⟩
            rw [← hS, ← hS1] at hC1
            have hSm : Mat p m n S := by rw [hS]; exact HMm.out.swap hRk hlt
            have hS1m : Mat p m n2 S1 := by rw [hS1]; exact HMK1.out.swap hRk hlt
            have hSx : en S R col = x := by
              rw [HXE.out, hS]; unfold en
              rw [swapL_get (by rw [HMl.out]; omega) (by rw [HMl.out]; omega)]
              by_cases e : R = q
              · rw [if_pos e, e]
              · rw [if_neg e, if_pos rfl]
            have hk01 := HKP.out.trans hk1
            obtain ⟨ad3, B3, c3, hA3, hc3, hf3, hI3, _⟩ := hC1.rows.get (i := R) (by rw [hSm.len]; omega)
            obtain rfl := Option.some.inj hA3
            have hl3 := (hSm.get (show R < m by omega)).1
            obtain ⟨b3, y, hB3, hy, _, hcy, _⟩ := hI3.at_ (j := col) (by rw [hl3]; exact hcn)
            have hyx : y = x := by rw [← hSx]; unfold en; simp [List.getD] at hy ⊢; rw [hy]; rfl
            subst hyx
            subst hB3
            rw [hl3] at hc3
            have hy1 : 1 ≤ y := by omega
            have hy2 : y < p := hxb.2
            have hinv := invM_spec HP.out hy1 hy2
            have e5 := hC1.c5
            have hD := stepD_any p y R m n n2 w.heap.size (w.heap.size + 1) (w.heap.size + 1 + 1) (some ad) cap S fp A' cap' S1 fp' w1 hC1 hSm hS1m hRk hm hn hn2 (by omega) (by omega) (by omega) hy2 (by have := hinv.2.1; omega) hinv.2.2 (HNF.out w1 hk01)
            have HD := Lib.hid hD
            have HS := Lib.hid hS
            have HS1 := Lib.hid hS1
            have HSm := Lib.hid hSm
            have HS1m := Lib.hid hS1m
            have HK01 := Lib.hid hk01
            clear hD hS hS1 hSm hS1m hSx hk01 hI3 hl3 hy hC1 hk1 hinv hcq hcx hf3
            go_wp2_with (fail)
            refine HD.out.mono ?_
            clear HD hc3 hcy e5
            rintro e w2 ⟨rfl, hC2, hk2⟩
            obtain ⟨iv, hiv⟩ : ∃ iv, iv = invM p y := ⟨_, rfl⟩
            obtain ⟨M2, hM2⟩ : ∃ M2, M2 = scaleL p R iv S := ⟨_, rfl⟩
            obtain ⟨K2, hK2⟩ : ∃ K2, K2 = scaleL p R iv S1 := ⟨_, rfl⟩
            rw [← hiv, ← hM2, ← hK2] at hC2
            have hm2 : Mat p m n M2 := by rw [hM2]; exact HSm.out.scale (by omega) hRk iv
            have hkm2 : Mat p m n2 K2 := by rw [hK2]; exact HS1m.out.scale (by omega) hRk iv
            have hk02 := HK01.out.trans hk2
            have e5 := hC2.c5
            have HC2 := Lib.hid hC2
            have Hm2 := Lib.hid hm2
            have Hkm2 := Lib.hid hkm2
            have HIV := Lib.hid hiv
            have HM2 := Lib.hid hM2
            have HK2 := Lib.hid hK2
            have HK02 := Lib.hid hk02
            clear hiv hM2 hK2 hm2 hkm2 hk02 hC2 hk2
            go_wp2_with (fail)
            clear e5
            go_loopw [65] (fun i wr5 => ∃ g : Nat, g ≤ m ∧ i = .int .i64 g ∧ Cap wr5 p w.heap.size (w.heap.size + 1) (w.heap.size + 1 + 1) (some ad) cap (elimTo p R (fun i => en M2 i col) M2 g) fp A' cap' (elimTo p R (fun i => en M2 i col) K2 g) fp' m ∧ Keeps (fun b => b ∈ fp ∨ b ∈ fp') W wr5) (fun i _ => m - (intOf i).toNat)
            case atStart => exact ⟨0, Nat.zero_le _, rfl, by rw [elimTo_zero, elimTo_zero]; exact HC2.out, HK02.out⟩
            case round =>
              obtain ⟨g, hg, rfl, hCg, hkg⟩ := hrel
              have hEm := Hm2.out.elim (r := R) (q := g) (f := fun i => en M2 i col) (by omega)
              have hEk := Hkm2.out.elim (r := R) (q := g) (f := fun i => en M2 i col) (by omega)
              have e5 := hCg.c5
              have hml2 := Hm2.out.len
              have hkl2 := Hkm2.out.len
              by_cases hgk : g < m
              · have hgI : (g : Int) < (m : Int) := by omega
                by_cases hgR : g = R
                · have hb : ((g : Int) != (R : Int)) = false := by simp; omega
                  have hsk := elimTo_skip (p := p) (L := M2) (f := fun i => en M2 i col) (.inl hgR)
                  have hsk2 := elimTo_skip (p := p) (L := K2) (f := fun i => en M2 i col) (.inl hgR)
                  have HR := Lib.hid (show Cap wr p w.heap.size (w.heap.size + 1) (w.heap.size + 1 + 1) (some ad) cap (elimTo p R (fun i => en M2 i col) M2 (g + 1)) fp A' cap' (elimTo p R (fun i => en M2 i col) K2 (g + 1)) fp' m by rw [hsk, hsk2]; exact hCg)
                  have HGR := Lib.hid hgR
                  have HKG := Lib.hid hkg
                  clear hsk hsk2 hgR hEm hEk hml2 hkl2 hCg hkg
                  go_wp2_with (fail)
                  go_roundw
                  case rel => exact ⟨g + 1, by omega, by go_num, HR.out, HKG.out⟩
                  case measure => simp [intOf]; omega
                · have hb : ((g : Int) != (R : Int)) = true := by simp; omega
                  obtain ⟨ad4, B4, c4, hA4, hc4, hf4, hI4, _⟩ := hCg.rows.get (i := g) (by rw [elimTo_length, hml2]; exact hgk)
                  obtain rfl := Option.some.inj hA4
                  rw [elimTo_at (by rw [hml2]; exact hgk)] at hc4 hI4
                  have hgl := (Hm2.out.get hgk).1
                  rw [hgl] at hc4
                  obtain ⟨b4, x2, hB4, hx2, _, hcx2, _⟩ := hI4.at_ (j := col) (by rw [hgl]; exact hcn)
                  have hx2e : x2 = en M2 g col := by unfold en; simp [List.getD] at hx2 ⊢; rw [hx2]; rfl
                  have hx2b := Hm2.out.en (by omega) hgk col
                  rw [← hx2e] at hx2b
                  subst hB4
                  by_cases hx20 : x2 = 0
                  · subst hx20
                    have hsk := elimTo_skip (p := p) (r := R) (q := g) (L := M2) (f := fun i => en M2 i col) (.inr hx2e.symm)
                    have hsk2 := elimTo_skip (p := p) (r := R) (q := g) (L := K2) (f := fun i => en M2 i col) (.inr hx2e.symm)
                    have HR := Lib.hid (show Cap wr p w.heap.size (w.heap.size + 1) (w.heap.size + 1 + 1) (some ad) cap (elimTo p R (fun i => en M2 i col) M2 (g + 1)) fp A' cap' (elimTo p R (fun i => en M2 i col) K2 (g + 1)) fp' m by rw [hsk, hsk2]; exact hCg)
                    have HKG := Lib.hid hkg
                    clear hsk hsk2 hEm hEk hml2 hkl2 hCg hkg hI4 hx2 hx2e hgl hf4
                    go_wp2_with (fail)
                    go_roundw
                    case rel => exact ⟨g + 1, by omega, by go_num, HR.out, HKG.out⟩
                    case measure => simp [intOf]; omega
                  · have hx21 : (x2 != 0) = true := by simp; exact hx20
                    have hst := elimTo_step (p := p) (r := R) (q := g) (L := M2) (f := fun i => en M2 i col) (by rw [hml2]; exact hgk) hgR (by rw [← hx2e]; exact hx20)
                    have hst2 := elimTo_step (p := p) (r := R) (q := g) (L := K2) (f := fun i => en M2 i col) (by rw [hkl2]; exact hgk) hgR (by rw [← hx2e]; exact hx20)
                    have hSt := stepS_any p x2 g R m n n2 w.heap.size (w.heap.size + 1) (w.heap.size + 1 + 1) (some ad) cap _ fp A' cap' _ fp' wr hCg hEm hEk hgk hRk hgR hm hn hn2 (by omega) (by omega) hx2b.1 hx2b.2 (HNF.out wr hkg)
                    rw [elimTo_at (by rw [hml2]; exact hgk), elimTo_piv (by rw [hml2]; exact hRk), elimTo_at (by rw [hkl2]; exact hgk), elimTo_piv (by rw [hkl2]; exact hRk)] at hSt
                    rw [show -x2 = -(fun i => en M2 i col) g by rw [hx2e]] at hSt
                    rw [← hst, ← hst2] at hSt
                    have HSt := Lib.hid hSt
                    have HKG := Lib.hid hkg
                    clear hst hst2 hSt hEm hEk hml2 hkl2 hCg hkg hI4 hx2 hx2e hgl hf4 hgR
                    go_wp2_with (fail)
                    refine HSt.out.mono ?_
                    clear HSt e5 hc4 hcx2
                    rintro e w4 ⟨rfl, hC4, hk4⟩
                    have HR := Lib.hid hC4
                    have HKG2 := Lib.hid (HKG.out.trans hk4)
                    clear hC4 hk4
                    go_wp2_with (fail)
                    go_roundw
                    case rel => exact ⟨g + 1, by omega, by go_num, HR.out, HKG2.out⟩
                    case measure => simp [intOf]; omega
              · obtain rfl : m = g := by omega
                obtain ⟨e1, e2, e3⟩ := redTo_some (p := p) (L := L) (A := K) (c := col) (k := q) (by rw [HRT.out]; show pvFrom M col (M.length - R) R = q; rw [HMl.out]; exact HPN.out) (by rw [HRT.out]; show q < M.length; rw [HMl.out]; omega) (M := M2) (by rw [HRT.out, HM2.out, HS.out, HIV.out, HXE.out])
                rw [HRT.out] at e1 e2 e3
                have e1 : (redTo p L K (col + 1)).1 = R + 1 := e1
                have e2 : (redTo p L K (col + 1)).2.1 = elimTo p R (fun i => en M2 i col) M2 m := by rw [e2, hml2]
                have e3 : (redTo p L K (col + 1)).2.2 = elimTo p R (fun i => en M2 i col) K2 m := by
                  rw [e3]
                  show elimTo p R (fun i => en M2 i col) (scaleL p R (invM p (en M q col)) (swapL K1 R q)) K1.length = _
                  rw [HMK1.out.len, HK2.out, HS1.out, HIV.out, HXE.out]
                have HE := Lib.hid (pair_of e1 e2 e3)
                have HCG := Lib.hid hCg
                have HKG := Lib.hid hkg
                have HEK := Lib.hid hEk
                clear e1 e2 e3 hEm hEk hml2 hkl2 hCg hkg
                go_wp2_with (fail)
                go_roundw
                case rel => exact ⟨col + 1, R + 1, _, _, by omega, by go_num, by go_num, HE.out, HEK.out, HCG.out, HKG.out⟩
                case measure => simp [intOf]; omega
        · obtain rfl : m = q := by omega
          have hpn : ¬ pvFrom M col (M.length - R) R < M.length := by rw [HMl.out, ← HPV.out, pvFrom_end]; omega
          have hred := redTo_none (p := p) (L := L) (A := K) (c := col) (by rw [HRT.out]; exact hpn)
          have HRD := Lib.hid hred
          clear hpn hred
          go_wp2_with (fail)
          go_roundw
          case rel => exact ⟨col + 1, R, M, K1, by omega, by go_num, rfl, by rw [HRD.out]; exact HRT.out, HMK1.out, HC.out, HKP.out⟩
          case measure => simp [intOf]; omega
end Go.Proofs.YtahnhblodfdfhaaDoor
namespace Go.Proofs.YtahnhblodfdfhaaDoor
open Go.RowKit

set_option maxHeartbeats 1000000 in
theorem clones_any (A : Option Addr) (c : Nat) (hs : List Hd) (w : World) (h : RdR w A hs) (hl : hs.length ≤ 1048576) (hr : ∀ x, x ∈ hs → x.2.2.length ≤ 1048576) :
    Calls Tryd.prog 105 #[.slice A hs.length c] w (RetSS w (hs.map fun h : Hd => h.2.2)) := by
  obtain ⟨L, hLh⟩ : ∃ L, L = hs.map fun h : Hd => h.2.2 := ⟨_, rfl⟩
  rw [← hLh]
  obtain ⟨m, hmm⟩ : ∃ m, m = hs.length := ⟨_, rfl⟩
  rw [← hmm] at hl ⊢
  have HLh := Lib.hid hLh
  have HM := Lib.hid hmm
  have hLen := Lib.hid (show L.length = m by rw [hLh, List.length_map, hmm])
  clear hLh hmm
  go_enter Tryd.func105, Tryd.ntmps105
  go_wp2_with (at_make; refine wpList_make_Sl _ rfl _ _ _ rfl 33 Tryd.underlying22 info_ints 0 m rfl rfl rfl rfl (Nat.zero_le _) (by omega) (by unfold maxLen; omega) ?_; intro G w1 hs1 hG hb1)
  have hOM0 : OM w w1 (some G) m [] := by
    refine ⟨[], rfl, ⟨by simpa using hs1, fun h hh => (by cases hh), .nil, fun h hh => (by cases hh)⟩, fun b hb => ?_, hb1⟩
    have : b = G.block := by simpa [fpR] using hb
    subst this; exact hG
  clear hs1
  go_loopw [11, 3] (fun i v wr => ∃ (k : Nat) (A' : Option Addr) (c' : Nat), k ≤ m ∧ i = .int .i64 k ∧ v = .slice A' k c' ∧ OM w wr A' c' (L.take k)) (fun i _ _ => m - (intOf i).toNat)
  case atStart => exact ⟨0, some G, m, Nat.zero_le _, rfl, rfl, hOM0⟩
  case round =>
    clear hOM0
    obtain ⟨k, A', c', hk, rfl, rfl, hOM⟩ := hrel
    by_cases hlt : k < m
    · obtain ⟨ad, B, d, l, rfl, hx, hc, hri⟩ := (h.below hOM.below_).at_ (k := k) (by rw [← HM.out]; exact hlt)
      have hlx : L[k]? = some l := by rw [HLh.out, List.getElem?_map, hx]; rfl
      have hll : l.length ≤ 1048576 := hr _ (List.mem_of_getElem? hx)
      obtain ⟨gs, hLg, hO, hf, h0⟩ := hOM
      have hgl : gs.length = k := by
        have := congrArg List.length hLg
        rw [List.length_take, hLen.out, List.length_map] at this
        omega
      have HX := Lib.hid hlx
      have HG := Lib.hid hLg
      have HGL := Lib.hid hgl
      have hkI : (k : Int) < (m : Int) := by omega
      have hC := clone_any B d l wr hri (by omega)
      have HC := Lib.hid hC
      clear hx hlx hLg hgl hC h hr
      go_wp2_with (fail)
      refine HC.out.mono ?_
      rintro e w1 ⟨B1, c1, rfl, hi1, hf1, hb1⟩
      have hsl : Sl (w1.alloc (.cells #[.slice B1 l.length c1] 33)) 33 1 A' k c' (gs.map Hd.val) := by
        have := (hO.sl.below hb1).alloc (.cells #[.slice B1 l.length c1] 33)
        rwa [HGL.out] at this
      go_wp2_with (at_builtin; refine wpList_append_Sl _ rfl _ _ _ rfl 33 Tryd.underlying22 info_ints rfl (by omega) rfl hsl rfl (news := [.slice B1 l.length c1]) rfl (Sl.rdc (Sl.laid w1 33 1 1 #[.slice B1 l.length c1] (by unfold maxLen; omega) rfl)) (by intro u hu; simp at hu; subst hu; rfl) (by unfold maxLen; omega) (by omega) ?_; intro A2 c2 w2 hs2 hA2 hk2)
      have hal : Below w1.heap.size w1 (w1.alloc (.cells #[.slice B1 l.length c1] 33)) := (Below.refl _ _).alloc (Nat.le_refl _) _
      have hOM2 := OM.snoc (w1 := w1.alloc (.cells #[.slice B1 l.length c1] 33)) HG.out hO hf h0 (below_trans hb1 hal hb1.size) (hi1.below hal) hf1 (by rw [HGL.out]) hs2 hA2 hk2
      have HO := Lib.hid hOM2
      clear hOM2 hs2 hsl hO hf
      go_roundw
      case rel => exact ⟨k + 1, A2, c2, by omega, by go_num, rfl, by rw [List.take_add_one, HX.out]; exact HO.out⟩
      case measure => simp [intOf]; omega
    · obtain rfl : m = k := by omega
      have hOM' : OM w wr A' c' L := by have := hOM; rwa [List.take_of_length_le (by rw [hLen.out]; omega)] at this
      clear hOM h hr
      go_wp2_with (fail)
      go_ret
      have := hOM'.ret
      rw [hLen.out] at this
      exact this

theorem nils_rw {w1 : World} {G : Addr} {m : Nat} (hs : Sl w1 33 1 (some G) m m ((List.replicate m nilHd).map Hd.val)) : RwF w1 (some G) m (List.replicate m []) [G.block] := by
  refine ⟨List.replicate m nilHd, by simp [nilHd], ⟨by simpa using hs, fun h hh => ?_, ?_, fun h hh b hb => ?_⟩, fun b hb => ?_⟩
  · obtain rfl := (List.mem_replicate.1 hh).2
    exact Sl.nil _ _ _
  · refine List.pairwise_iff_getElem.2 fun i j hi hj _ b hb => ?_
    simp [nilHd] at hb
  · obtain rfl := (List.mem_replicate.1 hh).2
    simp [nilHd] at hb
  · rcases List.mem_append.1 hb with hb | hb
    · simpa using hb
    · obtain ⟨x, hx, hb⟩ := mem_fpR.1 hb
      obtain rfl := (List.mem_replicate.1 hx).2
      simp [nilHd] at hb

set_option maxHeartbeats 1000000 in
theorem reduced_any (p : Int) (n : Nat) (A : Option Addr) (c : Nat) (hs : List Hd) (w : World) (h : RdR w A hs) (hp : fieldB p = true) (hm : Mat p hs.length n (hs.map fun h : Hd => h.2.2)) (hl : hs.length ≤ 1048576) (hn : n ≤ 1048576) :
    Calls Tryd.prog 118 #[.int .i64 p, .slice A hs.length c, .int .i64 n] w (RetSS w (redM p n (hs.map fun h : Hd => h.2.2))) := by
  have hC := clones_any A c hs w h hl (fun x hx => by have := (hm.row _ (List.mem_map_of_mem hx)).1; omega)
  obtain ⟨L, hLh⟩ : ∃ L, L = hs.map fun h : Hd => h.2.2 := ⟨_, rfl⟩
  rw [← hLh] at hm hC ⊢
  obtain ⟨m, hmm⟩ : ∃ m, m = hs.length := ⟨_, rfl⟩
  rw [← hmm] at hl hm hC ⊢
  have hpb := fieldB_bounds hp
  have HC := Lib.hid hC
  have HMat := Lib.hid hm
  have HL := Lib.hid hm.len
  clear hC hLh hmm hm h
  go_enter Tryd.func118, Tryd.ntmps118
  go_wp2_with (fail)
  refine HC.out.mono ?_
  rintro e w1 hret
  obtain ⟨A1, c1, rfl, hO1⟩ := hret.om
  rw [HL.out]
  clear hret
  go_wp2_with (at_make; refine wpList_make_Sl _ rfl _ _ _ rfl 33 Tryd.underlying22 info_ints m m rfl rfl rfl rfl (Nat.le_refl _) (by omega) (by unfold maxLen; omega) ?_; intro G w2 hs2 hG hb2)
  have hs2' : Sl w2 33 1 (some G) m m ((List.replicate m nilHd).map Hd.val) := by rw [← madeNils]; simpa using hs2
  have hK := nils_rw hs2'
  have hGl : G.block < w2.heap.size := hs2'.lt G.block (by simp)
  obtain ⟨fp, hR1, hfr, hlt⟩ := hO1.rw_
  have hR2 := hR1.below hb2
  have hmK : Mat p m 0 (List.replicate m []) := ⟨by simp, fun v hv => by obtain rfl := (List.mem_replicate.1 hv).2; exact ⟨rfl, fun x hx => by cases hx⟩⟩
  have hRd := reduction_any p n m 0 A1 c1 L fp (some G) m (List.replicate m []) [G.block] w2 hR2 hK (fun b hb hb' => by
    have := hlt b hb
    have e : b = G.block := by simpa using hb'
    omega) (fun b hb => Nat.lt_of_lt_of_le (hlt b hb) hb2.size) (fun b hb => by have e : b = G.block := by simpa using hb
                                                                                omega) hp HMat.out hmK hl hn (by omega)
  obtain ⟨e1, e2⟩ := redTo_fst p L (List.replicate m []) [] n
  rw [e1, e2] at hRd
  have hB2 : Below w.heap.size w w2 := below_trans hO1.below_ hb2 hO1.below_.size
  have hres : redM p n L = (redTo p L [] n).2.1.take (redTo p L [] n).1 := rfl
  obtain ⟨hMt, hRm⟩ := redTo_mat hp HMat.out [] (Nat.le_refl n)
  obtain ⟨R, hR⟩ : ∃ R, R = (redTo p L [] n).1 := ⟨_, rfl⟩
  obtain ⟨M, hM⟩ : ∃ M, M = (redTo p L [] n).2.1 := ⟨_, rfl⟩
  rw [← hR, ← hM] at hRd hres
  rw [← hM] at hMt
  rw [← hR] at hRm
  have HRd := Lib.hid hRd
  have HRES := Lib.hid hres
  have HML := Lib.hid hMt.len
  have HP := Lib.hid hp
  have HFR := Lib.hid hfr
  have hGw : w.heap.size ≤ G.block := Nat.le_trans hO1.below_.size hG
  clear hRd hres hMt hs2 hs2' hK hR1 hR2 hmK e1 e2 hO1 hR hM hp hfr hlt
  go_wp2_with (fail)
  refine HRd.out.mono ?_
  rintro e w3 ⟨rfl, h1, _, hk3⟩
  have hB3 : Below w.heap.size w w3 := below_keeps hB2 hk3 hB2.size fun b hb => by
    rcases hb with hb | hb
    · exact HFR.out b hb
    · have e : b = G.block := by simpa using hb
      omega
  obtain ⟨gs, hLg, hO, hf, h0⟩ := h1.om (w0 := w) HFR.out hB3
  have hgl : gs.length = m := by
    have := congrArg List.length hLg
    rw [HML.out, List.length_map] at this; omega
  have HG := Lib.hid hLg
  have HGL := Lib.hid hgl
  have hsl : Sl w3 33 1 A1 m c1 (gs.map Hd.val) := by have := hO.sl; rwa [hgl] at this
  clear hLg hgl h1
  go_wp2_with (refine wpList_slice_Sl rfl (.tmp 20) none (some (.tmp 21)) (some (.tmp 22)) 22 rfl 33 Tryd.underlying22 info_ints rfl hsl 0 R R (optNone rfl) (optSome (by omega)) (optSome (by omega)) (by omega) (by omega) (Nat.le_refl _) (by have := hsl.2.1; omega) ?_; intro A2 hcut hfp _)
  go_ret
  have hT := OM.take (k := R) (m := R) (A' := A2) HG.out hO hf h0 (by rw [HGL.out]; omega) (by rw [List.map_take]; simpa using hcut) hfp
  have hlen : (M.take R).length = R := by rw [List.length_take, HML.out]; omega
  have hr := hT.ret
  rw [hlen] at hr
  rw [HRES.out]
  exact hr
end Go.Proofs.YtahnhblodfdfhaaDoor
