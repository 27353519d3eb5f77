/-
  THE WALKS: a multiple, the monic multiple.
-/
import Derived.Test.YtbgofkalanigfaaDoorPolyI
namespace Go.Proofs.YtbgofkalanigfaaDoor
open Go.RowKit

/-- k times f, trimmed. -/
def mapM (p k : Int) (f : List Int) : List Int := f.map fun x => k * x % p
def timesM (p k : Int) (f : List Int) : List Int := trimZ (mapM p k f)
@[simp] theorem mapM_length (p k : Int) (f : List Int) : (mapM p k f).length = f.length := by simp [mapM]
theorem mapM_get {p k : Int} {f : List Int} {j : Nat} {x : Int} (h : f[j]? = some x) : (mapM p k f)[j]? = some (k * x % p) := by simp [mapM, h]
theorem sumM_nil (p k : Int) (f : List Int) : sumM p [] k f = timesM p k f := by
  unfold sumM timesM
  congr 1
  apply List.ext_getElem?
  intro i
  by_cases h : i < f.length
  · obtain ⟨x, hx⟩ : ∃ x, f[i]? = some x := ⟨_, List.getElem?_eq_getElem h⟩
    rw [mapM_get hx, addT_get (x := 0) (by simp [padZ, h]) hx, Int.zero_add]
  · rw [List.getElem?_eq_none (by simp [padZ]; omega), List.getElem?_eq_none (by simp; omega)]
theorem timesM_length (p k : Int) (f : List Int) : (timesM p k f).length ≤ f.length := Nat.le_trans (trimZ_length _) (by simp)
/-- The monic multiple. -/
def monicM (p : Int) (f : List Int) : List Int := timesM p (invM p (f.getD (f.length - 1) 0)) f

set_option maxHeartbeats 1000000 in
theorem poTimes_any (p k : Int) (A : Option Addr) (ca : Nat) (f : List Int) (w : World) (hA : RdI w A f) (hfl : f.length ≤ 1048576)
    (h0 : 0 < p) (h97 : p ≤ 97) (hf : Res p f) (hk0 : 0 ≤ k) (hk1 : k ≤ 97) :
    Calls Tryd.prog 70 #[.int .i64 p, .int .i64 k, .slice A f.length ca] w (RetI w (timesM p k f)) := by
  obtain ⟨n, hn⟩ : ∃ n, n = f.length := ⟨_, rfl⟩
  have HN := Lib.hid hn
  clear hn
  go_enter Tryd.func70, Tryd.ntmps70
  go_wp2_with (at_make; refine wpList_make_Sl _ rfl _ _ _ rfl 3 Tryd.underlying22 info_int n n rfl rfl (by rw [HN.out]) (by rw [HN.out]) (Nat.le_refl _) (by rw [HN.out]; omega) (by rw [HN.out]; unfold maxLen; omega) ?_; intro G w1 hs hG hb1)
  have his0 : IS w1 (some G) n (List.replicate n 0) := by unfold IS; rw [← madeZeros]; simpa using hs
  clear hs
  have hA1 := hA.below hb1
  have hGA : ∀ b, b ∈ fpA A → 0 < f.length → b ≠ G.block := by
    intro b hb hp e
    obtain ⟨ad, x, rfl, hx, hc⟩ := hA.at_ hp
    have := (hA.block_lt hx) b hb
    omega
  go_loopw [15] (fun i wr => ∃ j : Nat, j ≤ f.length ∧ i = .int .i64 j ∧ Wr w1 wr (some G) (ints ((mapM p k f).take j ++ (List.replicate n 0).drop j))) (fun i _ => f.length - (intOf i).toNat)
  case atStart => exact ⟨0, Nat.zero_le _, rfl, by simpa using Wr.start his0⟩
  case round =>
    obtain ⟨j, hj, rfl, hw⟩ := hrel
    have hll : ((mapM p k f).take j ++ (List.replicate n (0 : Int)).drop j).length = n := by rw [len_take_drop (by simp [HN.out]) (by simp [HN.out]; omega)]; simp
    have his : IS wr (some G) n ((mapM p k f).take j ++ (List.replicate n 0).drop j) := by
      have := hw.sl his0 (by simpa using hll)
      unfold IS; rw [hll]; simpa using this
    by_cases hlt : j < f.length
    · obtain ⟨ad, x, hA', hx, hca⟩ := (hA1.keeps hw.1 (fun b hb => by simp; exact hGA b hb (by omega))).at_ hlt
      obtain ⟨ad', y, hG', _, _, hcg, hf'⟩ := his.at_ (j := j) (by rw [hll, HN.out]; omega)
      obtain rfl := Option.some.inj hG'
      have hfz := hf' j
      have hxb := hf x (List.mem_of_getElem? hx)
      have hw2 := hw.set rfl (j := j) (by rw [ints_length, hll, HN.out]; omega) (.int .i64 (k * x % p))
      rw [ints_set, take_append_step (by simp [HN.out]) (mapM_get hx)] at hw2
      have HW := Lib.hid hw2
      have hkv : (j : Int) < (n : Int) := by have := HN.out; omega
      subst hA'
      clear hw2 hw his hll hf' hA hA1 hGA hf his0 hG' hx
      go_wp2_with (go_at_call 51; refine (fdMul_any _ _ _ _ h0 (by omega) (by omega) (by omega) (by omega)).mono ?_; rintro e w' ⟨rfl, rfl⟩)
      go_roundw
      case rel => exact ⟨j + 1, by omega, by go_num, HW.out⟩
      case measure => simp [intOf]; omega
    · obtain rfl : j = f.length := by omega
      have he : (mapM p k f).take f.length ++ (List.replicate n (0 : Int)).drop f.length = mapM p k f := by
        rw [List.take_of_length_le (by simp), List.drop_of_length_le (by simp [HN.out]), List.append_nil]
      rw [he] at hw his
      clear hll he
      have H := poTrim_any (some G) n (mapM p k f) wr his (by simp; omega)
      rw [mapM_length, ← HN.out] at H
      go_wp2_with (fail)
      refine H.mono ?_
      rintro e w3 ⟨A3, c3, rfl, h3, hf3, hb3⟩
      go_wp2_with (fail)
      go_ret
      have hbw : Below w.heap.size w wr := below_keeps hb1 hw.1 hb1.size (fun k hk => by simp at hk; omega)
      exact ⟨A3, c3, rfl, h3, hf3.mono hbw.size, below_trans hbw hb3 hbw.size⟩

set_option maxHeartbeats 400000 in
theorem scaled_any (p k : Int) (A : Option Addr) (ca : Nat) (f : List Int) (w : World) (hA : RdI w A f) (hfl : f.length ≤ 1048576)
    (h0 : 0 < p) (h97 : p ≤ 97) (hf : Res p f) (hk0 : 0 ≤ k) (hk1 : k ≤ 97) :
    Calls Tryd.prog 71 #[.int .i64 p, .slice A f.length ca, .int .i64 k] w (RetI w (timesM p k f)) := by
  rw [← sumM_nil]
  go_enter Tryd.func71, Tryd.ntmps71
  go_wp2_with (fail)
  refine (polyAdd_any p k none A 0 ca [] f w (IS.rd (show IS w none 0 [] from Sl.nil _ _ _)) hA (by simp) hfl h0 h97 (by simp) hf (by omega) (by omega)).mono ?_
  rintro e w3 ⟨A3, c3, rfl, h3, hf3, hb3⟩
  go_wp2_with (fail)
  go_ret
  exact ⟨A3, c3, rfl, h3, hf3, hb3⟩

set_option maxHeartbeats 400000 in
theorem poMonic_any (p : Int) (A : Option Addr) (ca : Nat) (f : List Int) (w : World) (hA : RdI w A f) (hfl : f.length ≤ 1048576)
    (hp : fieldB p = true) (hf : Res p f) (hfl0 : f.getLast? ≠ some 0) (hfp : 0 < f.length) :
    Calls Tryd.prog 63 #[.int .i64 p, .slice A f.length ca] w (RetI w (monicM p f)) := by
  have hpb := fieldB_bounds hp
  have hlc := last_res hp hf hfl0 hfp
  have hinv := invM_spec hp hlc.1 hlc.2
  obtain ⟨ad, hAe, hcl⟩ := hA.lastD hfp
  unfold monicM
  obtain ⟨lc, hlcE⟩ : ∃ lc, lc = f.getD (f.length - 1) 0 := ⟨_, rfl⟩
  rw [← hlcE] at hlc hinv hcl ⊢
  obtain ⟨iv, hivE⟩ : ∃ iv, iv = invM p lc := ⟨_, rfl⟩
  have hI := fun W => fdInv_any p lc W hp hlc.1 hlc.2
  rw [← hivE] at hI hinv ⊢
  have HI := Lib.hid hI
  have HE := Lib.hid hlcE
  have HIE := Lib.hid hivE
  have HFL := Lib.hid hfl0
  have HIN := Lib.hid hinv
  subst hAe
  clear hlcE hivE hI hfl0 hinv
  have hb1 : (0 : Int) ≤ (f.length : Int) - 1 := by omega
  have hb2 : (f.length : Int) - 1 < (f.length : Int) := by omega
  have hb3 : ((f.length : Int) - 1).toNat = f.length - 1 := by omega
  go_enter Tryd.func63, Tryd.ntmps63
  go_wp2_with (fail)
  refine (HI.out _).mono ?_
  rintro e w' ⟨rfl, rfl⟩
  go_wp2_with (fail)
  refine (poTimes_any p iv (some ad) ca f w hA hfl (by omega) (by omega) hf (by have := HIN.out; omega) (by have := HIN.out; omega)).mono ?_
  rintro e w3 ⟨A3, c3, rfl, h3, hf3, hb3⟩
  go_wp2_with (fail)
  go_ret
  exact ⟨A3, c3, rfl, h3, hf3, hb3⟩

set_option maxHeartbeats 400000 in
theorem monic_any (p : Int) (A : Option Addr) (ca : Nat) (f : List Int) (w : World) (hA : RdI w A f) (hfl : f.length ≤ 1048576)
    (hp : fieldB p = true) (hf : Res p f) (hfl0 : f.getLast? ≠ some 0) (hfp : 0 < f.length) :
    Calls Tryd.prog 64 #[.int .i64 p, .slice A f.length ca] w (RetI w (monicM p f)) := by
  have hpb := fieldB_bounds hp
  have hlc := last_res hp hf hfl0 hfp
  have hinv := invM_spec hp hlc.1 hlc.2
  obtain ⟨ad, hAe, hcl⟩ := hA.lastD hfp
  unfold monicM
  obtain ⟨lc, hlcE⟩ : ∃ lc, lc = f.getD (f.length - 1) 0 := ⟨_, rfl⟩
  rw [← hlcE] at hlc hinv hcl ⊢
  obtain ⟨iv, hivE⟩ : ∃ iv, iv = invM p lc := ⟨_, rfl⟩
  have hI := fun W => inverse_any p lc W (by omega) (by omega) (by omega) hlc.2
  rw [← hivE] at hI hinv ⊢
  have HI := Lib.hid hI
  have HE := Lib.hid hlcE
  have HIE := Lib.hid hivE
  have HFL := Lib.hid hfl0
  have HIN := Lib.hid hinv
  subst hAe
  clear hlcE hivE hI hfl0 hinv
  have hb1 : (0 : Int) ≤ (f.length : Int) - 1 := by omega
  have hb2 : (f.length : Int) - 1 < (f.length : Int) := by omega
  have hb3 : ((f.length : Int) - 1).toNat = f.length - 1 := by omega
  go_enter Tryd.func64, Tryd.ntmps64
  go_wp2_with (fail)
  refine (HI.out _).mono ?_
  rintro e w' ⟨rfl, rfl⟩
  go_wp2_with (fail)
  refine (scaled_any p iv (some ad) ca f w hA hfl (by omega) (by omega) hf (by have := HIN.out; omega) (by have := HIN.out; omega)).mono ?_
  rintro e w3 ⟨A3, c3, rfl, h3, hf3, hb3⟩
  go_wp2_with (fail)
  go_ret
  exact ⟨A3, c3, rfl, h3, hf3, hb3⟩
end Go.Proofs.YtbgofkalanigfaaDoor
