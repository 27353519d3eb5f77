/-
  THE LAW's HELPERS OVER [][]int: toIntSS, eqIntSS.
-/
import Derived.Test.YtahnhblodfdfhaaDoorIntss
namespace Go.Proofs.YtahnhblodfdfhaaDoor
open Go.RowKit

theorem info_ints : (Tryd.prog.info? 33).map (fun i => (i.zero, i.size, i.bytes)) = some (some (.slice none 0 0), 1, 24) := by kernel_rfl
/-- An empty row. -/
def nilHd : Hd := (none, 0, [])
theorem madeNils (n : Nat) : (madeCells (Value.slice none 0 0).cells (n * 1)).toList.take (n * 1) = (List.replicate n nilHd).map Hd.val := by
  show (madeCells #[Value.slice none 0 0] (n * 1)).toList.take (n * 1) = _
  rw [toList_madeCells_one]; simp [nilHd, Hd.val]
theorem set_replicate_step {α : Type} (hs : List α) (x d : α) {n : Nat} (h : hs.length < n) : (hs ++ List.replicate (n - hs.length) d).set hs.length x = (hs ++ [x]) ++ List.replicate (n - (hs.length + 1)) d := by
  rw [List.set_append_right _ _ (Nat.le_refl _), Nat.sub_self, show n - hs.length = (n - (hs.length + 1)) + 1 by omega, List.replicate_succ, List.set_cons_zero, List.append_assoc]
  rfl

/-- New rows, all apart, all from block B on. -/
structure NewR (w : World) (B : Nat) (hs : List Hd) : Prop where
  rows : ∀ h, h ∈ hs → IS w h.1 h.2.1 h.2.2
  apart : hs.Pairwise fun h h' => ∀ b, b ∈ fpA h.1 → ¬ b ∈ fpA h'.1
  new : ∀ h, h ∈ hs → ∀ b, b ∈ fpA h.1 → B ≤ b
theorem NewR.nil (w : World) (B : Nat) : NewR w B [] := ⟨fun h hh => (by cases hh), .nil, fun h hh => (by cases hh)⟩
theorem NewR.below {w w' : World} {B : Nat} {hs : List Hd} (h : NewR w B hs) (hb : Below w.heap.size w w') : NewR w' B hs := ⟨fun x hx => (h.rows x hx).below hb, h.apart, h.new⟩
theorem NewR.keeps {w w' : World} {B : Nat} {hs : List Hd} (h : NewR w B hs) {S : Nat → Prop} (hk : Keeps S w w') (hS : ∀ b, B ≤ b → ¬ S b) : NewR w' B hs := ⟨fun x hx => (h.rows x hx).keeps hk fun b hb => hS b (h.new x hx b hb), h.apart, h.new⟩
theorem NewR.snoc {w w' : World} {B : Nat} {hs : List Hd} (h : NewR w B hs) (hb : Below w.heap.size w w') (hB : B ≤ w.heap.size) {x : Hd} (hx : IS w' x.1 x.2.1 x.2.2) (hf : Fresh w.heap.size x.1) : NewR w' B (hs ++ [x]) := by
  refine ⟨fun y hy => ?_, ?_, fun y hy b hb' => ?_⟩
  · rcases List.mem_append.1 hy with hy | hy
    · exact (h.rows y hy).below hb
    · obtain rfl := List.mem_singleton.1 hy; exact hx
  · refine List.pairwise_append.2 ⟨h.apart, List.pairwise_singleton _ _, fun y hy z hz b hb1 hb2 => ?_⟩
    obtain rfl := List.mem_singleton.1 hz
    have := (h.rows y hy).lt b hb1
    have := hf b hb2
    omega
  · rcases List.mem_append.1 hy with hy | hy
    · exact h.new y hy b hb'
    · obtain rfl := List.mem_singleton.1 hy; exact Nat.le_trans hB (hf b hb')

/-- What a function leaves that returns new rows. -/
def RetSS (w : World) (L : List (List Int)) (e : Ending) (w' : World) : Prop :=
  ∃ A cap hs, e = .returned (.slice A L.length cap) ∧ L = hs.map (fun h : Hd => h.2.2) ∧ OwR w' A cap hs ∧ (∀ b, b ∈ fpA A ++ fpR hs → w.heap.size ≤ b) ∧ Below w.heap.size w w'

set_option maxHeartbeats 1000000 in
theorem toIntSS_any (A : Option Addr) (cap : Nat) (hs : List Hd) (w : World) (h : RdR w A hs) (hl : hs.length ≤ 1048576) (hr : ∀ x, x ∈ hs → x.2.2.length ≤ 1048576) :
    Calls Tryd.prog 50 #[.slice A hs.length cap] w (RetSS w (hs.map fun h : Hd => h.2.2)) := by
  obtain ⟨n, hn⟩ : ∃ n, n = hs.length := ⟨_, rfl⟩
  rw [← hn] at hl ⊢
  have HN := Lib.hid hn
  clear hn
  go_enter Tryd.func50, Tryd.ntmps50
  go_wp2_with (at_make; refine wpList_make_Sl _ rfl _ _ _ rfl 33 Tryd.underlying22 info_ints n n rfl rfl rfl rfl (Nat.le_refl _) (by omega) (by unfold maxLen; omega) ?_; intro G w1 hs1 hG hb1)
  have his0 : Sl w1 33 1 (some G) n n ((List.replicate n nilHd).map Hd.val) := by rw [← madeNils]; simpa using hs1
  have hGl : G.block < w1.heap.size := his0.lt G.block (by simp)
  clear hs1
  go_loopw [4] (fun i wr => ∃ (k : Nat) (ys : List Hd), k = ys.length ∧ k ≤ n ∧ i = .int .i64 k ∧ ys.map (fun h : Hd => h.2.2) = (hs.take k).map (fun h : Hd => h.2.2) ∧ Sl wr 33 1 (some G) n n ((ys ++ List.replicate (n - k) nilHd).map Hd.val) ∧ NewR wr w1.heap.size ys ∧ Below w.heap.size w wr ∧ w1.heap.size ≤ wr.heap.size)
    (fun i _ => n - (intOf i).toNat)
  case atStart => exact ⟨0, [], rfl, Nat.zero_le _, rfl, rfl, by simpa using his0, NewR.nil _ _, hb1, Nat.le_refl _⟩
  case round =>
    obtain ⟨k, ys, hk, hkn, rfl, hm, his, hnew, hb, hsz⟩ := hrel
    by_cases hlt : k < n
    · obtain ⟨x, hx⟩ : ∃ x, hs[k]? = some x := ⟨_, List.getElem?_eq_getElem (by rw [← HN.out]; exact hlt)⟩
      have hxm := List.mem_of_getElem? hx
      obtain ⟨ad, rfl, hc⟩ := (h.below hb).1 k x hx
      have hxr := (h.below hb).2 x hxm
      have hxl := hr x hxm
      obtain ⟨B, c, l⟩ := x
      have hT := toIntS_any B c l wr hxr (by show l.length ≤ _; have : l.length ≤ 1048576 := hxl; omega)
      have HT := Lib.hid hT
      have HX := Lib.hid hx
      have HK := Lib.hid hk
      have HM := Lib.hid hm
      have hnk : (k : Int) < (n : Int) := by omega
      have hc' : wr.cell? (ad.add k) = some (.slice B l.length c) := hc
      clear hc hT hx hk hm h hr hxm hxr his0
      go_wp2_with (fail)
      refine HT.out.mono ?_
      rintro e w3 ⟨A1, c1, rfl, h1, hf1, hb3⟩
      have his3 := his.below hb3
      have hset := his3.set (ad := G) rfl k (Hd.val (A1, c1, l)) (by rw [List.length_map, List.length_append, List.length_replicate, ← HK.out]; omega)
      obtain ⟨G', hGe, _, hcg, hfz'⟩ := his3.cell (j := k) (u := nilHd.val) (by have := HK.out; rw [List.getElem?_map, List.getElem?_append_right (by omega), List.getElem?_replicate, if_pos (by omega)]; rfl)
      obtain rfl := Option.some.inj hGe
      have hfz := hfz' k
      rw [← List.map_set] at hset
      have hst : (ys ++ List.replicate (n - k) nilHd).set k (A1, c1, l) = (ys ++ [(A1, c1, l)]) ++ List.replicate (n - (k + 1)) nilHd := by
        have := set_replicate_step ys (A1, c1, l) nilHd (n := n) (by rw [← HK.out]; exact hlt)
        rw [← HK.out] at this; exact this
      rw [hst] at hset
      have hnw := (hnew.snoc (x := (A1, c1, l)) hb3 hsz h1 hf1).keeps (w' := w3.setCell (G.add k) (.slice A1 l.length c1)) (S := fun b => b = G.block) ((Keeps.refl _ w3).setCell (by rw [block_of_add]) _) (fun b hb e => by omega)
      have hb5 : Below w.heap.size w (w3.setCell (G.add k) (.slice A1 l.length c1)) := (below_trans hb hb3 hb.size).setCell (p := G.add k) (by rw [block_of_add]; exact hG) _
      have hm5 : (ys ++ [(A1, c1, l)]).map (fun h : Hd => h.2.2) = (hs.take (k + 1)).map (fun h : Hd => h.2.2) := by
        rw [List.map_append, HM.out, List.take_add_one, HX.out]; simp
      have HS := Lib.hid hset
      have HM5 := Lib.hid hm5
      have hs5 : w1.heap.size ≤ (w3.setCell (G.add k) (.slice A1 l.length c1)).heap.size := by have := hb3.size; simp [World.setCell]; omega
      clear hset hst hm5 his3 his hfz' hGe
      go_wp2_with (fail)
      go_roundw
      case rel => exact ⟨k + 1, ys ++ [(A1, c1, l)], by rw [List.length_append, HK.out]; rfl, by omega, by go_num, HM5.out, HS.out, hnw, hb5, hs5⟩
      case measure => simp [intOf]; omega
    · obtain rfl : k = n := by omega
      have hmm : (hs.map fun h : Hd => h.2.2) = ys.map fun h : Hd => h.2.2 := by rw [hm, HN.out, List.take_length]
      rw [Nat.sub_self, List.replicate_zero, List.append_nil] at his
      have hlenk : k = ys.length := hk
      have HKK := Lib.hid hlenk
      have HMM := Lib.hid hmm
      clear hk hm hmm hlenk
      go_wp2_with (fail)
      go_ret
      refine ⟨some G, k, ys, by rw [List.length_map, ← HN.out]; rfl, HMM.out, ⟨by rw [← HKK.out]; exact his, hnew.rows, hnew.apart, fun x hx b hb1 hb2 => ?_⟩, fun b hb' => ?_, hb⟩
      · have := hnew.new x hx b hb1
        simp at hb2
        omega
      · rcases List.mem_append.1 hb' with hb' | hb'
        · simp at hb'; omega
        · obtain ⟨x, hx, hb'⟩ := mem_fpR.1 hb'
          have := hnew.new x hx b hb'
          have := hb1.size
          omega

theorem RdR.at_ {w : World} {A : Option Addr} {hs : List Hd} (h : RdR w A hs) {k : Nat} (hk : k < hs.length) : ∃ ad B c l, A = some ad ∧ hs[k]? = some (B, c, l) ∧ w.cell? (ad.add k) = some (.slice B l.length c) ∧ RdI w B l := by
  obtain ⟨x, hx⟩ : ∃ x, hs[k]? = some x := ⟨_, List.getElem?_eq_getElem hk⟩
  obtain ⟨ad, hA, hc⟩ := h.1 k x hx
  obtain ⟨B, c, l⟩ := x
  exact ⟨ad, B, c, l, hA, hx, hc, h.2 _ (List.mem_of_getElem? hx)⟩

set_option maxHeartbeats 1000000 in
theorem eqIntSS_any (A B : Option Addr) (c d : Nat) (hs gs : List Hd) (w : World) (ha : RdR w A hs) (hb : RdR w B gs) (hl : hs.length ≤ 17592186044416) (hr : ∀ x, x ∈ hs → x.2.2.length ≤ 17592186044416) :
    Calls Tryd.prog 53 #[.slice A hs.length c, .slice B gs.length d] w fun e w' => e = .returned (.bool (decide (hs.map (fun h : Hd => h.2.2) = gs.map (fun h : Hd => h.2.2)))) ∧ Qt w w' := by
  by_cases hlen : hs.length = gs.length
  · have h0 : ((hs.length : Int) != (gs.length : Int)) = false := by rw [hlen]; simp
    go_enter Tryd.func53, Tryd.ntmps53
    go_wp2
    go_loopw [5] (fun i wr => ∃ k n : Nat, k ≤ hs.length ∧ i = .int .i64 k ∧ (hs.take k).map (fun h : Hd => h.2.2) = (gs.take k).map (fun h : Hd => h.2.2) ∧ wr = w.drewN n)
      (fun i _ => hs.length - (intOf i).toNat)
    case atStart => exact ⟨0, 0, Nat.zero_le _, rfl, by simp, rfl⟩
    case round =>
      obtain ⟨k, n, hk, rfl, htk, hwr⟩ := hrel
      have ha : RdR wr A hs := by rw [hwr]; exact ha
      have hb : RdR wr B gs := by rw [hwr]; exact hb
      have HW := Lib.hid hwr
      clear hwr
      by_cases hlt : k < hs.length
      · obtain ⟨ad, B1, c1, l, rfl, hx, hc1, hr1⟩ := ha.at_ hlt
        obtain ⟨bd, B2, c2, m, rfl, hy, hc2, hr2⟩ := hb.at_ (k := k) (by omega)
        have hll : l.length ≤ 17592186044416 := hr _ (List.mem_of_getElem? hx)
        have hlt2 : (k : Int) < (gs.length : Int) := by omega
        have HT := Lib.hid htk
        have HL := Lib.hid hlen
        have HX := Lib.hid hx
        have HY := Lib.hid hy
        clear htk hlen hx hy ha hb h0 hr
        by_cases hlm : l = m
        · have hd : decide (l = m) = true := decide_eq_true hlm
          have hQ := fun q => eqIntS_any B1 B2 c1 c2 l m (wr.drewN q) hr1 hr2 hll
          rw [hd] at hQ
          have HQ := Lib.hid hQ
          have HLM := Lib.hid hlm
          clear hQ hd hlm
          go_wp2
          go_quiet (first | (go_at_call 20; refine Calls.quiet_of (HQ.out _)))
          go_wp2
          go_roundw
          case rel => exact ⟨k + 1, _, by omega, by go_num, by rw [List.take_add_one, List.take_add_one, List.map_append, List.map_append, HT.out, HX.out, HY.out, HLM.out]; rfl, by rw [HW.out]; exact World.drewN_drewN _ _ _⟩
          case measure => simp [intOf]; omega
        · have hd : decide (l = m) = false := decide_eq_false hlm
          have hQ := fun q => eqIntS_any B1 B2 c1 c2 l m (wr.drewN q) hr1 hr2 hll
          rw [hd] at hQ
          have HQ := Lib.hid hQ
          have HLM := Lib.hid hlm
          clear hQ hd hlm
          go_wp2
          go_quiet (first | (go_at_call 20; refine Calls.quiet_of (HQ.out _)))
          go_wp2
          go_ret
          refine ⟨ret_bool ?_, _, by rw [HW.out]; exact World.drewN_drewN _ _ _⟩
          symm
          apply decide_eq_false
          intro e
          have h1 := congrArg (·[k]?) e
          simp only [List.getElem?_map, HX.out, HY.out, Option.map_some, Option.some.injEq] at h1
          exact HLM.out h1
      · obtain rfl : k = hs.length := by omega
        have HT := Lib.hid htk
        clear htk
        go_wp2
        go_ret
        refine ⟨ret_bool ?_, _, HW.out⟩
        have := HT.out
        rw [List.take_of_length_le (Nat.le_refl _), List.take_of_length_le (by omega)] at this
        exact (decide_eq_true this).symm
  · have h0 : ((hs.length : Int) != (gs.length : Int)) = true := by simp; omega
    go_enter Tryd.func53, Tryd.ntmps53
    go_wp2
    go_ret
    refine ⟨ret_bool ?_, 0, rfl⟩
    symm
    apply decide_eq_false
    intro e
    have := congrArg List.length e
    simp at this
    exact hlen this
end Go.Proofs.YtahnhblodfdfhaaDoor
