/-
  THE WALKS: spec.sySolved, spec.syCanon, spec.CanonicalSystem.

  AN OUTER ROW OF A CALL's OWN, whose rows are read: OuR w0 w A cap hs: the rows lie in w0 as they are; the outer row is new.
-/
import Derived.Test.YtomekicglojhhaaDoorOM
import Derived.Test.YtomekicglojhhaaDoorNull
import Derived.Test.YtomekicglojhhaaDoorSysB
import Derived.Test.YtomekicglojhhaaDoorRegH
import Derived.Test.YtomekicglojhhaaDoorKSystem
namespace Go.Proofs.YtomekicglojhhaaDoor
open Go.RowKit

structure OuR (w0 w : World) (A : Option Addr) (cap : Nat) (hs : List Hd) : Prop where
  sl : Sl w 47 1 A hs.length cap (hs.map Hd.val)
  rows : ∀ h, h ∈ hs → RdI w0 h.1 h.2.2
  new : ∀ b, b ∈ fpA A → w0.heap.size ≤ b
  below_ : Below w0.heap.size w0 w
section
variable {w0 w w' : World} {A : Option Addr} {cap : Nat} {hs : List Hd}
theorem OuR.nil (w : World) : OuR w w none 0 [] := ⟨Sl.nil _ _ _, fun h hh => (by cases hh), fun b hb => by simp at hb, Below.refl _ _⟩
theorem OuR.below (h : OuR w0 w A cap hs) (hb : Below w.heap.size w w') : OuR w0 w' A cap hs := ⟨h.sl.below hb, h.rows, h.new, below_trans h.below_ hb h.below_.size⟩
theorem OuR.rdr (h : OuR w0 w A cap hs) : RdR w A hs := by
  refine ⟨fun i x hx => ?_, fun x hx => (h.rows x hx).below h.below_⟩
  obtain ⟨ad, hA, _, hc, _⟩ := h.sl.cell (j := i) (u := x.val) (by simp [hx])
  exact ⟨ad, hA, hc⟩
theorem OuR.snoc {w1 w2 : World} (h : OuR w0 w A cap hs) (hb : Below w.heap.size w w1) {x : Hd} (hx : RdI w0 x.1 x.2.2) {A' : Option Addr} {cap' n : Nat} (hn : n = hs.length + 1) (hs' : Sl w2 47 1 A' n cap' (hs.map Hd.val ++ [x.val])) (hA' : ∀ b, b ∈ fpA A' → b ∈ fpA A ∨ w1.heap.size ≤ b) (hk : Keeps (· ∈ fpA A) w1 w2) : OuR w0 w2 A' cap' (hs ++ [x]) := by
  subst hn
  have hbw := below_trans h.below_ hb h.below_.size
  refine ⟨by simpa using hs', fun y hy => ?_, fun b hb' => ?_, below_keeps hbw hk hbw.size h.new⟩
  · rcases List.mem_append.1 hy with hy | hy
    · exact h.rows y hy
    · obtain rfl := List.mem_singleton.1 hy; exact hx
  · rcases hA' b hb' with h1 | h1
    · exact h.new b h1
    · have := hbw.size; omega
/-- A part of a row that lay in w0, as a slice expression leaves it. -/
theorem RdI.back {B A' : Option Addr} {l : List Int} {c : Nat} (hI : IS w0 B c l) (hb : Below w0.heap.size w0 w) {k m : Nat} {m' : List Int} (hcut : Sl w 3 1 A' k m (ints m')) (hfp : ∀ b, b ∈ fpA A' → b ∈ fpA B) : RdI w0 A' m' := by
  have hr : RdI w A' m' := fun j x hj => by
    obtain ⟨ad, hA, _, hc, _⟩ := hcut.cell (ints_get hj)
    exact ⟨ad, hA, hc⟩
  exact hr.frame fun b hb' => (hb.block b (hI.lt b (hfp b hb'))).symm
end
theorem ints_take (l : List Int) (k : Nat) : (ints l).take k = ints (l.take k) := by simp [ints, List.map_take]
theorem ints_drop (l : List Int) (k : Nat) : (ints l).drop k = ints (l.drop k) := by simp [ints, List.map_drop]
/-- What a function leaves that returns rows to be read. -/
def RetRd (w : World) (L : List (List Int)) (e : Ending) (w' : World) : Prop := ∃ A cap hs, e = .returned (.slice A L.length cap) ∧ L = hs.map (fun h : Hd => h.2.2) ∧ RdR w' A hs ∧ Below w.heap.size w w'
theorem RetSS.rd_ {w w' : World} {L : List (List Int)} {e : Ending} (h : RetSS w L e w') : RetRd w L e w' := by
  obtain ⟨A, cap, hs, rfl, hL, hO, _, h0⟩ := h; exact ⟨A, cap, hs, rfl, hL, hO.rd, h0⟩
end Go.Proofs.YtomekicglojhhaaDoor
namespace Go.Proofs.YtomekicglojhhaaDoor
open Go.RowKit

theorem rowsB_mat {p n : Int} {L : List (List Int)} {k : Nat} (h : rowsB p n L = true) (hk : n = (k : Int)) : Mat p L.length k L := by
  refine ⟨rfl, fun v hv => ?_⟩
  have := List.all_eq_true.1 h v hv
  simp only [Bool.and_eq_true, decide_eq_true_eq] at this
  refine ⟨by omega, fun x hx => ?_⟩
  have := inB_iff.1 this.2 x hx
  omega
/-- What is known of a system that is one. -/
structure SysOk (p : Int) (s : Sys) : Prop where
  fld : fieldB p = true
  vis : 0 ≤ s.1 ∧ s.1 ≤ 24
  hid : 0 ≤ s.2.1 ∧ s.2.1 ≤ 100
  len : s.2.2.length ≤ 160
  mat : Mat p s.2.2.length (s.1 + s.2.1).toNat s.2.2
theorem SysOk.of {p : Int} {s : Sys} (h : sysB p s = true) : SysOk p s := by
  unfold sysB at h
  simp only [Bool.and_eq_true, decide_eq_true_eq] at h
  obtain ⟨h1, h2, h3, h4, h5⟩ := h
  exact ⟨h1, h2, h3, h4, rowsB_mat h5 (by omega)⟩
theorem SysOk.ok {p : Int} {s : Sys} (h : SysOk p s) : s.2.2.length ≤ 1048576 ∧ ∀ x, x ∈ s.2.2 → x.length ≤ 1048576 :=
  ⟨by have := h.len; omega, fun x hx => by have := (h.mat.row x hx).1; have := h.vis; have := h.hid; omega⟩

theorem ou_alloc {w0 w : World} {A : Option Addr} {cap k : Nat} {ys : List Hd} (h : OuR w0 w A cap ys) (hk : ys.length = k) (o : Obj) : Sl (w.alloc o) 47 1 A k cap (ys.map Hd.val) := by
  have := h.sl.alloc o; rwa [hk] at this
/-- The parts of the solutions that are visible. -/
def solvM (p : Int) (s : Sys) : List (List Int) := (nullM p (s.1 + s.2.1).toNat s.2.2).map fun v => v.take s.1.toNat
theorem nullM_red {p : Int} (hp : fieldB p = true) (n : Nat) (L : List (List Int)) : RedL p n (nullM p n L) := by
  have hpb := fieldB_bounds hp
  unfold nullM
  refine (redM_spec hp ?_).1
  exact nvTo_mat (by omega) n _ n
theorem red_len {p : Int} {n : Nat} {R : List (List Int)} (hr : RedL p n R) : R.length ≤ n := by
  obtain ⟨_, ld, h⟩ := hr
  have key : ∀ i, i < R.length → i ≤ ld i := by
    intro i
    induction i with
    | zero => intro _; omega
    | succ i ih => intro hi; have := ih (by omega); have := h.mono i (i + 1) (by omega) hi; omega
  rcases Nat.eq_zero_or_pos R.length with h0 | h0
  · omega
  · have h1 := key (R.length - 1) (by omega)
    have h2 := h.lt (R.length - 1) (by omega)
    omega
theorem solvM_mat {p : Int} {s : Sys} (h : SysOk p s) : Mat p (solvM p s).length s.1.toNat (solvM p s) ∧ (solvM p s).length ≤ 124 := by
  have hr := nullM_red h.fld (s.1 + s.2.1).toNat s.2.2
  have hv := h.vis
  have hh := h.hid
  refine ⟨⟨rfl, fun v hv' => ?_⟩, ?_⟩
  · obtain ⟨u, hu, rfl⟩ := List.mem_map.1 hv'
    obtain ⟨h1, h2⟩ := hr.1.row u hu
    exact ⟨by rw [List.length_take, h1]; omega, h2.take _⟩
  · have := red_len hr
    unfold solvM
    rw [List.length_map]; omega

set_option maxRecDepth 8000 in
set_option maxHeartbeats 2000000 in
theorem sySolved_any (p : Int) {v : Value} {s : Sys} (w : World) (h : RdSysV w v s) (hs : SysOk p s) :
    Calls Tryd.prog 121 #[.int .i64 p, v] w (RetRd w (solvM p s)) := by
  obtain ⟨A, c, gs, rfl, hL, hR⟩ := h
  obtain ⟨a, b, L⟩ := s
  have hL' : L = gs.map (fun h : Hd => h.2.2) := hL
  subst hL'
  have hva : 0 ≤ a ∧ a ≤ 24 := hs.vis
  have hvb : 0 ≤ b ∧ b ≤ 100 := hs.hid
  obtain ⟨na, rfl⟩ := Int.eq_ofNat_of_zero_le hva.1
  obtain ⟨nb, rfl⟩ := Int.eq_ofNat_of_zero_le hvb.1
  have hgl : gs.length ≤ 160 := by have := hs.len; simpa using this
  have hmat : Mat p gs.length (na + nb) (gs.map fun h : Hd => h.2.2) := by have := hs.mat; rw [List.length_map] at this; exact this
  have hb0 := below_alloc w (.cells #[.int .i64 (na : Int), .int .i64 (nb : Int), .slice A gs.length c] 27)
  have hC := spNull_any p (na + nb) A c gs _ (hR.below hb0) hs.fld hmat (by omega) (by omega)
  have hsolv : solvM p ((na : Int), (nb : Int), gs.map fun h : Hd => h.2.2) = (nullM p (na + nb) (gs.map fun h : Hd => h.2.2)).map fun v => v.take na := rfl
  have hred := nullM_red hs.fld (na + nb) (gs.map fun h : Hd => h.2.2)
  rw [hsolv]
  obtain ⟨X, hX⟩ : ∃ X, X = nullM p (na + nb) (gs.map fun h : Hd => h.2.2) := ⟨_, rfl⟩
  rw [← hX] at hC hred ⊢
  have hC' : Calls Tryd.prog 86 #[.int .i64 p, .int .i64 ((na : Int) + (nb : Int)), .slice A gs.length c] (w.alloc (.cells #[.int .i64 (na : Int), .int .i64 (nb : Int), .slice A gs.length c] 27)) (RetSS (w.alloc (.cells #[.int .i64 (na : Int), .int .i64 (nb : Int), .slice A gs.length c] 27)) X) := by
    rw [show ((na : Int) + (nb : Int)) = ((na + nb : Nat) : Int) by omega]; exact hC
  have HC := Lib.hid hC'
  have HRED := Lib.hid hred
  have hrl := red_len hred
  obtain ⟨m, hm⟩ : ∃ m, m = X.length := ⟨_, rfl⟩
  rw [← hm] at hrl
  have HM := Lib.hid hm
  have hk := heap_alloc_new w (.cells #[.int .i64 (na : Int), .int .i64 (nb : Int), .slice A gs.length c] 27)
  have HK := Lib.hid hk
  have HB0 := Lib.hid hb0
  clear hC hC' hsolv hred hX hm hL hR hs hmat hk hb0
  go_enter Tryd.func121, Tryd.ntmps121
  go_wp2_with (fail)
  refine HC.out.mono ?_
  rintro e w1 hret
  obtain ⟨A1, c1, rfl, hO1⟩ := hret.om
  rw [← HM.out]
  clear hret
  obtain ⟨xs, hLx, hOx, _, hbx⟩ := hO1
  have hxl : xs.length = m := by rw [HM.out, hLx, List.length_map]
  have hB1 := below_trans HB0.out hbx HB0.out.size
  have k1 := box_below HK.out hbx
  have K1 := Lib.hid k1
  have HLX := Lib.hid hLx
  have HXL := Lib.hid hxl
  clear hLx hxl k1
  have hrd1 := hOx.rd
  go_wp2_with (fail)
  go_loopw [18, 5] (fun i v wr => ∃ (k : Nat) (A' : Option Addr) (c' : Nat) (ys : List Hd), k ≤ m ∧ i = .int .i64 k ∧ v = .slice A' k c' ∧ ys.length = k ∧ ys.map (fun h : Hd => h.2.2) = (X.take k).map (fun v => v.take na) ∧ OuR w1 wr A' c' ys) (fun i _ _ => m - (intOf i).toNat)
  case atStart => exact ⟨0, none, 0, [], Nat.zero_le _, rfl, rfl, rfl, rfl, OuR.nil w1⟩
  case round =>
    obtain ⟨k, A', c', ys, hk, rfl, rfl, hyl, hym, hO⟩ := hrel
    have HYL := Lib.hid hyl
    have HYM := Lib.hid hym
    clear hyl hym
    by_cases hlt : k < m
    · obtain ⟨ad, B, d, l, rfl, hx, hc, _⟩ := (hrd1.below hO.below_).at_ (k := k) (by rw [HXL.out]; exact hlt)
      have hXk : X[k]? = some l := by rw [HLX.out, List.getElem?_map, hx]; rfl
      have hll : l.length = na + nb := (HRED.out.1.row l (List.mem_of_getElem? hXk)).1
      have hIS0 : IS w1 B d l := hOx.rows _ (List.mem_of_getElem? hx)
      have hIS : IS wr B d l := hIS0.below hO.below_
      obtain ⟨⟨b0, b1, b2⟩, f0, f1, f2⟩ := box3 (box_below K1.out hO.below_)
      have hdl : na + nb ≤ d := by have := hIS.2.1; omega
      have hsl0 : Sl wr 3 1 B (na + nb) d (ints l) := by have := hIS; unfold IS at this; rwa [hll] at this
      rw [hll] at hc
      have HXK := Lib.hid hXk
      have HLL := Lib.hid hll
      have hkI : (k : Int) < (m : Int) := by omega
      clear hXk hll hx hIS
      have HSL := Lib.hid (fun (o : Obj) => ou_alloc hO HYL.out o)
      go_wp2_with (first
        | (refine wpList_slice_Sl rfl (.tmp 23) none (some (.tmp 25)) none 47 rfl 3 Tryd.underlying47 info_int rfl hsl0 0 na d (optNone rfl) (optSome rfl) (optNone rfl) (by omega) (by omega) (by omega) (Nat.le_refl _) ?_; intro A2 hcut hfp _)
        | (at_builtin; refine wpList_append_Sl _ rfl _ _ _ rfl 47 Tryd.underlying22 info_ints rfl (by omega) rfl (HSL.out (.cells #[.slice A2 na d] 47)) rfl (news := [.slice A2 na d]) rfl (Sl.rdc (Sl.laid wr 47 1 1 #[.slice A2 na d] (by unfold maxLen; omega) rfl)) (by intro u hu; simp at hu; subst hu; rfl) (by unfold maxLen; omega) (by omega) ?_; intro A3 c3 w3 hs3 hA3 hk3))
      have hcut' : Sl wr 3 1 A2 na d (ints (l.take na)) := by rw [← ints_take]; simpa using hcut
      have hx0 : RdI w1 A2 (l.take na) := RdI.back hIS0 hO.below_ hcut' hfp
      clear b0 b1 b2 f0 f1 f2 hcut
      have hlt' : (l.take na).length = na := by rw [List.length_take, HLL.out]; omega
      have hO2 := hO.snoc (below_alloc wr _) (x := (A2, d, l.take na)) hx0 (by rw [HYL.out]) (by show Sl w3 _ 1 A3 (k + 1) c3 (ys.map Hd.val ++ [.slice A2 (l.take na).length d]); rw [hlt']; exact hs3) hA3 hk3
      have HO2 := Lib.hid hO2
      clear hO2 hs3 hO hsl0 hcut' hlt'
      go_roundw
      case rel => exact ⟨k + 1, A3, c3, ys ++ [(A2, d, l.take na)], by omega, by go_num, rfl, by rw [List.length_append, HYL.out]; rfl, by rw [List.map_append, HYM.out, List.take_add_one, HXK.out]; simp, HO2.out⟩
      case measure => simp [intOf]; omega
    · obtain rfl : m = k := by omega
      have hym2 : X.map (fun v => v.take na) = ys.map (fun h : Hd => h.2.2) := by rw [HYM.out, List.take_of_length_le (by rw [← HM.out]; omega)]
      have HY2 := Lib.hid hym2
      clear hym2
      go_wp2_with (fail)
      go_ret
      refine ⟨A', c', ys, by rw [List.length_map, ← HM.out]; rfl, HY2.out, hO.rdr, below_trans hB1 hO.below_ hB1.size⟩
end Go.Proofs.YtomekicglojhhaaDoor
