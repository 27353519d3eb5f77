/-
  THE WALK: the closure of impl.Graph.glue.
-/
import Derived.Test.YtanhmljgeiajoaaGrCa
import Derived.Test.YtanhmljgeiajoaaGrGd
namespace Go.Proofs.Ytanhmljgeiajoaa
open Go.RowKit

abbrev tCl : TypeId := 109
def rootL (C : List Int) (l : List Int) : List Int := l.map fun x => C.getD x.toNat 0
structure GU (n uB cB : Nat) (Us Gs : Addr) (P C : List Int) (l : List Int) (W : World) : Prop where
  hu : W.heap[uB]? = some (.cells #[.slice (some Us) n n] tBools)
  hc : W.heap[cB]? = some (.cells #[.slice (some Gs) n n] tCl)
  hse : Sl W tBool 1 (some Us) n n (bls (seenM n (rootL C l)))
  his : IS W (some Gs) n P
theorem GU.below {n uB cB : Nat} {Us Gs : Addr} {P C l : List Int} {W W' : World} (h : GU n uB cB Us Gs P C l W) (hb : Below W.heap.size W W') : GU n uB cB Us Gs P C l W' :=
  ⟨box_below h.hu hb, box_below h.hc hb, h.hse.below hb, h.his.below hb⟩
set_option maxRecDepth 100000 in
set_option maxHeartbeats 4000000 in
theorem glueC_any (n uB cB : Nat) (Us Gs : Addr) (P C : List Int) (l : List Int) (B : Option Addr) (c : Nat) (m : List Int) (W : World) (hP : Par n P C) (hC : Cls n C) (hml : m.length ≤ 1048576) (hin : ∀ x, x ∈ m → 0 ≤ x ∧ x < (n : Int))
    (h1 : uB ≠ Us.block) (h2 : cB ≠ Us.block) (h3 : Gs.block ≠ Us.block)
    (hI : GU n uB cB Us Gs P C l W) (hm : ∀ W', Keeps (· ∈ [Us.block]) W W' → RdI W' B m) :
    Calls Try.prog 107 #[.slice B m.length c, .pointer (some ⟨uB, 0, none⟩), .pointer (some ⟨cB, 0, none⟩)] W fun e w' => e = .returned (.tuple #[]) ∧ GU n uB cB Us Gs P C (l ++ m) w' ∧ Keeps (· ∈ [Us.block]) W w' := by
  obtain ⟨p, hp⟩ : ∃ p, p = m.length := ⟨_, rfl⟩
  rw [← hp] at hml ⊢
  have hp_h := Lib.hid hp
  have hm_h := Lib.hid hm
  have hI_h := Lib.hid hI
  have hP_h := Lib.hid hP
  have hC_h := Lib.hid hC
  have hin_h := Lib.hid hin
  clear hp hm hI hP hC hin
  go_enter Try.func107, Try.ntmps107
  go_wp2_with (fail)
  go_loopw [8] (fun i wr => ∃ k : Nat, k ≤ p ∧ i = .int .i64 k ∧ GU n uB cB Us Gs P C (l ++ m.take k) wr ∧ Keeps (· ∈ [Us.block]) W wr) (fun i _ => p - (intOf i).toNat)
  case atStart => exact ⟨0, Nat.zero_le _, rfl, by simpa using hI_h.out, Keeps.refl _ _⟩
  case round =>
    clear hI_h
    obtain ⟨k, hk, rfl, hI, hkp⟩ := hrel
    by_cases hlt : k < p
    · obtain ⟨xd, x, rfl, hx, hxc⟩ := (hm_h.out wr hkp).at_ (j := k) (by rw [← hp_h.out]; exact hlt)
      have hkI : (k : Int) < (p : Int) := by omega
      have hxr := hin_h.out x (List.mem_of_getElem? hx)
      obtain ⟨q, rfl⟩ : ∃ q : Nat, x = (q : Int) := ⟨x.toNat, by omega⟩
      have hqn : q < n := by omega
      have hlx : rootL C (l ++ m.take (k + 1)) = rootL C (l ++ m.take k) ++ [C.getD q 0] := by
        rw [List.take_add_one, hx]; unfold rootL; simp
      obtain ⟨hr0, hrk⟩ := hC_h.out.le q hqn
      obtain ⟨u, hu⟩ : ∃ u : Nat, C.getD q 0 = (u : Int) := ⟨(C.getD q 0).toNat, by omega⟩
      rw [hu] at hr0 hrk hlx
      have hun : u < n := by omega
      have huI : (u : Int) < (n : Int) := by omega
      clear hxr
      have hx_h := Lib.hid hx
      have hI_h := Lib.hid hI
      have hkp_h := Lib.hid hkp
      have hlx_h := Lib.hid hlx
      have hu_h := Lib.hid hu
      clear hx hI hkp hlx hu
      go_wp2_with (fail)
      refine beginH (fun w' => w'.heap[uB]? = some (.cells #[.slice (some Us) n n] tBools) ∧ w'.heap[cB]? = some (.cells #[.slice (some Gs) n n] tCl)) (by kernel_rfl) ?_
      have hbd : Below wr.heap.size wr wr.drew := below_drew (Below.refl _ _)
      have hkd : Keeps (· ∈ [Us.block]) wr wr.drew := (Keeps.refl _ _).drew
      generalize wr.drew = W1 at hbd hkd ⊢
      have hI1 := hI_h.out.below hbd
      have hk1 := hkp_h.out.trans hkd
      have hroot := root_any Gs n q P C W1 hI1.his.rd hP_h.out hqn
      rw [hu_h.out] at hroot
      obtain ⟨b, hb⟩ : ∃ b, (seenM n (rootL C (l ++ m.take k)))[u]? = some b := ⟨_, List.getElem?_eq_getElem (by rw [seenM_length]; exact hun)⟩
      obtain ⟨ud, e2, -, u0, u1⟩ := Sl.cell hI1.hse (bls_get hb)
      obtain rfl := Option.some.inj e2
      have u1u := u1 u
      have hset := Sl.set hI1.hse rfl u (.bool true) (by simp [bls]; omega)
      rw [bls_set, ← seenM_in hun, ← hlx_h.out] at hset
      have hks : Keeps (· = Us.block) W1 (W1.setCell (Us.add u) (.bool true)) := (Keeps.refl (fun b => b = Us.block) W1).setCell (p := Us.add u) (by rw [block_of_add]) _
      have g1 := box_keeps hI1.hu hks h1
      have g2 := box_keeps hI1.hc hks h2
      have g3 := hI1.his.keeps hks (fun b hb e => by simp at hb; omega)
      have hI2 : GU n uB cB Us Gs P C (l ++ m.take (k + 1)) (W1.setCell (Us.add u) (.bool true)) := ⟨g1, g2, hset, g3⟩
      have hkf : Keeps (· ∈ [Us.block]) W (W1.setCell (Us.add u) (.bool true)) := hk1.trans (hks.mono fun b _ hb => by simp [hb])
      have hS := And.intro hI1.hu hI1.hc
      have hS2 := And.intro g1 g2
      clear hI1 hk1 hbd hkd hset hks g1 g2 g3 e2 hb hxc
      have hroot_h := Lib.hid hroot
      have hI2_h := Lib.hid hI2
      have hkf_h := Lib.hid hkf
      have hS_h := Lib.hid hS
      have hS2_h := Lib.hid hS2
      clear hroot hI2 hkf hS hS2
      refine takeH 0 (v := ?_) rfl (by kernel_rfl) (by kernel_rfl) (by kernel_rfl) (fun _ _ _ h => h) hS_h.out (by rfl) (fun W' hW' => ?_) ?_; rotate_left; · (obtain ⟨y0, y1⟩ := box1 hW'.1; obtain ⟨z0, z1⟩ := box1 hW'.2; clear hW'; go_simp; first | done | with_reducible rfl)
      simp only [Act.put, List.setIfInBounds_toArray, List.set_cons_zero, List.set_cons_succ]
      refine takeH 1 (v := ?_) rfl (by kernel_rfl) (by kernel_rfl) (by kernel_rfl) (fun _ _ _ h => h) hS_h.out (by rfl) (fun W' hW' => ?_) ?_; rotate_left; · (obtain ⟨y0, y1⟩ := box1 hW'.1; obtain ⟨z0, z1⟩ := box1 hW'.2; clear hW'; go_simp; first | done | with_reducible rfl)
      simp only [Act.put, List.setIfInBounds_toArray, List.set_cons_zero, List.set_cons_succ]
      refine takeH 2 (v := ?_) rfl (by kernel_rfl) (by kernel_rfl) (by kernel_rfl) (fun _ _ _ h => h) hS_h.out (by rfl) (fun W' hW' => ?_) ?_; rotate_left; · (obtain ⟨y0, y1⟩ := box1 hW'.1; obtain ⟨z0, z1⟩ := box1 hW'.2; clear hW'; go_simp; first | done | with_reducible rfl)
      simp only [Act.put, List.setIfInBounds_toArray, List.set_cons_zero, List.set_cons_succ]
      refine' callH 3 (f := _) (args := _) rfl (by kernel_rfl) (by rfl) ?_ ?_; rotate_left 2; · (go_simp; first | done | with_reducible rfl | (constructor <;> with_reducible rfl))
      refine (hroot_h.out).mono ?_
      rintro e w2 ⟨rfl, rfl⟩
      refine ⟨_, rfl, hS_h.out, ?_⟩
      simp only [Act.put, List.setIfInBounds_toArray, List.set_cons_zero, List.set_cons_succ]
      refine takeH 4 (v := ?_) rfl (by kernel_rfl) (by kernel_rfl) (by kernel_rfl) (fun _ _ _ h => h) hS_h.out (by rfl) (fun W' hW' => ?_) ?_; rotate_left; · (skip; clear hW'; go_simp; first | done | with_reducible rfl)
      simp only [Act.put, List.setIfInBounds_toArray, List.set_cons_zero, List.set_cons_succ]
      refine oneH 5 rfl (by kernel_rfl) (by rfl) (fun K hK => ?_)
      go_simp
      refine hK _ _ hS2_h.out ?_
      clear hK K
      refine doneH (by kernel_rfl) ?_
      go_wp2_with (fail)
      go_roundw
      case rel => exact ⟨k + 1, by omega, by go_num, hI2_h.out, hkf_h.out⟩
      case measure => simp [intOf]; omega
    · obtain rfl : p = k := by omega
      rw [List.take_of_length_le (by rw [← hp_h.out]; exact Nat.le_refl _)] at hI
      have hI_h := Lib.hid hI
      have hkp_h := Lib.hid hkp
      clear hI hkp
      go_wp2_with (fail)
      go_end0
      exact ⟨rfl, hI_h.out, hkp_h.out⟩
end Go.Proofs.Ytanhmljgeiajoaa
