/-
  What the texts above it need, part 2.
-/
import Derived.Test.YtahnhblodfdfhaaDoorKComposeRelations1
import Derived.StillTail
import Derived.KernelRfl
import Derived.OrdersHeld
import Derived.StillTailTactics
import Derived.Deep.DeepCutAuto
import Derived.BigQuiet
import Derived.Deep.WholeRow
import Derived.Deep.RegionHeld
import Derived.IntWalk
import Derived.Stop.BytesEq
namespace Go.Proofs.YtahnhblodfdfhaaDoor
open Go.RowKit
/-- The bounds under which the law's helpers are called. -/
def OkR (L : List (List Int)) : Prop := L.length ≤ 1048576 ∧ (∀ x, x ∈ L → x.length ≤ 1048576) ∧ cntR L ≤ 1048576
theorem szR_ok {L : List (List Int)} {left : Int} (h : 0 ≤ szR L left) (hl : left ≤ 1048576) : OkR L ∧ szR L left ≤ left := by
  obtain ⟨h1, h2, h3, h4⟩ := szR_spec h
  exact ⟨⟨by omega, fun x hx => by have := h2 x hx; omega, by omega⟩, h4⟩
theorem szSS_neg : ∀ (L : List (List Int)) (x : Int), 0 ≤ x → szSS L x = -1 ∨ 0 ≤ szSS L x
  | [], x, hx => .inr hx
  | l :: L, x, hx => by
    rw [szSS]; split
    · exact .inl rfl
    · exact szSS_neg L _ (by omega)
theorem szR_neg {L : List (List Int)} {left : Int} (h : szR L left < 0) : szR L left = -1 := by
  unfold szR at h ⊢
  split at h
  · rename_i h0; rw [if_pos h0]
  · rename_i h0
    rw [if_neg h0]
    rcases szSS_neg L (szV left L.length) (by omega) with e | e <;> omega
/-- Two ints and rows. -/
abbrev Sys := Int × Int × List (List Int)
def RdSysV (w : World) (v : Value) (s : Sys) : Prop := ∃ A c hs, v = .agg #[.int .i64 s.1, .int .i64 s.2.1, .slice A hs.length c] ∧ s.2.2 = hs.map (fun h : Hd => h.2.2) ∧ RdR w A hs
def OwSys (w : World) (v : Value) (s : Sys) (fp : List Nat) : Prop := ∃ A c hs, v = .agg #[.int .i64 s.1, .int .i64 s.2.1, .slice A hs.length c] ∧ s.2.2 = hs.map (fun h : Hd => h.2.2) ∧ OwR w A c hs ∧ fp = fpA A ++ fpR hs
def HeSys (w : World) (v : Value) (s : Sys) (k : Nat) (fp : List Nat) : Prop := ∃ A c hs, v = .agg #[.int .i64 s.1, .int .i64 s.2.1, .slice A hs.length c] ∧ hs.map (fun h : Hd => h.2.2) = marksR k (s.2.2.map List.length) ∧ OwR w A c hs ∧ (∀ b, b ∈ fpA A ++ fpR hs → b ∈ fp)
/-- The cells of a box of three. -/
theorem box3 {w : World} {B : Nat} {x y z : Value} {t : TypeId} (h : w.heap[B]? = some (.cells #[x, y, z] t)) :
    (w.cell? ⟨B, 0, none⟩ = some x ∧ w.cell? ⟨B, 1, none⟩ = some y ∧ w.cell? ⟨B, 2, none⟩ = some z) ∧ (w.frozen? ⟨B, 0, none⟩ = false ∧ w.frozen? ⟨B, 1, none⟩ = false ∧ w.frozen? ⟨B, 2, none⟩ = false) := by
  refine ⟨⟨?_, ?_, ?_⟩, ?_, ?_, ?_⟩ <;> simp [World.cell?, World.frozen?, h]
/-- The cells of a box of two. -/
theorem box2 {w : World} {B : Nat} {x y : Value} {t : TypeId} (h : w.heap[B]? = some (.cells #[x, y] t)) :
    (w.cell? ⟨B, 0, none⟩ = some x ∧ w.cell? ⟨B, 1, none⟩ = some y) ∧ (w.frozen? ⟨B, 0, none⟩ = false ∧ w.frozen? ⟨B, 1, none⟩ = false) := by
  refine ⟨⟨?_, ?_⟩, ?_, ?_⟩ <;> simp [World.cell?, World.frozen?, h]
section
variable {w w' : World} {v : Value} {s : Sys} {k : Nat} {fp : List Nat}
theorem RdSysV.shape (h : RdSysV w v s) : ∃ A n c, v = .agg #[.int .i64 s.1, .int .i64 s.2.1, .slice A n c] := by
  obtain ⟨A, c, hs, rfl, _⟩ := h; exact ⟨_, _, _, rfl⟩
theorem OwSys.shape (h : OwSys w v s fp) : ∃ A n c, v = .agg #[.int .i64 s.1, .int .i64 s.2.1, .slice A n c] := by
  obtain ⟨A, c, hs, rfl, _⟩ := h; exact ⟨_, _, _, rfl⟩
theorem OwSys.rd (h : OwSys w v s fp) : RdSysV w v s := by
  obtain ⟨A, c, hs, rfl, hL, h, _⟩ := h; exact ⟨A, c, hs, rfl, hL, h.rd⟩
theorem RdSysV.below (h : RdSysV w v s) (hb : Below w.heap.size w w') : RdSysV w' v s := by
  obtain ⟨A, c, hs, rfl, hL, h⟩ := h; exact ⟨A, c, hs, rfl, hL, h.below hb⟩
theorem OwSys.below (h : OwSys w v s fp) (hb : Below w.heap.size w w') : OwSys w' v s fp := by
  obtain ⟨A, c, hs, rfl, hL, h, e⟩ := h; exact ⟨A, c, hs, rfl, hL, h.below hb, e⟩
theorem OwSys.keeps (h : OwSys w v s fp) {S : Nat → Prop} (hk : Keeps S w w') (hS : ∀ b, b ∈ fp → ¬ S b) : OwSys w' v s fp := by
  obtain ⟨A, c, hs, rfl, hL, h, rfl⟩ := h; exact ⟨A, c, hs, rfl, hL, h.keeps hk hS, rfl⟩
theorem OwSys.lt (h : OwSys w v s fp) : LtL w.heap.size fp := by
  obtain ⟨A, c, hs, rfl, hL, h, rfl⟩ := h; exact h.lt
theorem HeSys.below (h : HeSys w v s k fp) (hb : Below w.heap.size w w') : HeSys w' v s k fp := by
  obtain ⟨A, c, hs, rfl, hL, h, e⟩ := h; exact ⟨A, c, hs, rfl, hL, h.below hb, e⟩
theorem HeSys.keeps (h : HeSys w v s k fp) {S : Nat → Prop} (hk : Keeps S w w') (hS : ∀ b, b ∈ fp → ¬ S b) : HeSys w' v s k fp := by
  obtain ⟨A, c, hs, rfl, hL, h, e⟩ := h; exact ⟨A, c, hs, rfl, hL, h.keeps hk fun b hb => hS b (e b hb), e⟩
theorem OwSys.of_om {w0 : World} {A : Option Addr} {c : Nat} {L : List (List Int)} {a b : Int} (h : OM w0 w A c L) : ∃ fp, OwSys w (.agg #[.int .i64 a, .int .i64 b, .slice A L.length c]) (a, b, L) fp ∧ FreshL w0.heap.size fp := by
  obtain ⟨hs, rfl, hO, hf, _⟩ := h
  exact ⟨fpA A ++ fpR hs, ⟨A, c, hs, by rw [List.length_map], rfl, hO, rfl⟩, hf⟩
end
/-- One int and rows. -/
abbrev Mt := Int × List (List Int)
def RdMtV (w : World) (v : Value) (s : Mt) : Prop := ∃ A c hs, v = .agg #[.int .i64 s.1, .slice A hs.length c] ∧ s.2 = hs.map (fun h : Hd => h.2.2) ∧ RdR w A hs
def OwMt (w : World) (v : Value) (s : Mt) (fp : List Nat) : Prop := ∃ A c hs, v = .agg #[.int .i64 s.1, .slice A hs.length c] ∧ s.2 = hs.map (fun h : Hd => h.2.2) ∧ OwR w A c hs ∧ fp = fpA A ++ fpR hs
def HeMt (w : World) (v : Value) (s : Mt) (k : Nat) (fp : List Nat) : Prop := ∃ A c hs, v = .agg #[.int .i64 s.1, .slice A hs.length c] ∧ hs.map (fun h : Hd => h.2.2) = marksR k (s.2.map List.length) ∧ OwR w A c hs ∧ (∀ b, b ∈ fpA A ++ fpR hs → b ∈ fp)
section
variable {w w' : World} {v : Value} {s : Mt} {k : Nat} {fp : List Nat}
theorem RdMtV.shape (h : RdMtV w v s) : ∃ A n c, v = .agg #[.int .i64 s.1, .slice A n c] := by
  obtain ⟨A, c, hs, rfl, _⟩ := h; exact ⟨_, _, _, rfl⟩
theorem OwMt.shape (h : OwMt w v s fp) : ∃ A n c, v = .agg #[.int .i64 s.1, .slice A n c] := by
  obtain ⟨A, c, hs, rfl, _⟩ := h; exact ⟨_, _, _, rfl⟩
theorem OwMt.rd (h : OwMt w v s fp) : RdMtV w v s := by
  obtain ⟨A, c, hs, rfl, hL, h, _⟩ := h; exact ⟨A, c, hs, rfl, hL, h.rd⟩
theorem RdMtV.below (h : RdMtV w v s) (hb : Below w.heap.size w w') : RdMtV w' v s := by
  obtain ⟨A, c, hs, rfl, hL, h⟩ := h; exact ⟨A, c, hs, rfl, hL, h.below hb⟩
theorem OwMt.below (h : OwMt w v s fp) (hb : Below w.heap.size w w') : OwMt w' v s fp := by
  obtain ⟨A, c, hs, rfl, hL, h, e⟩ := h; exact ⟨A, c, hs, rfl, hL, h.below hb, e⟩
theorem OwMt.keeps (h : OwMt w v s fp) {S : Nat → Prop} (hk : Keeps S w w') (hS : ∀ b, b ∈ fp → ¬ S b) : OwMt w' v s fp := by
  obtain ⟨A, c, hs, rfl, hL, h, rfl⟩ := h; exact ⟨A, c, hs, rfl, hL, h.keeps hk hS, rfl⟩
theorem OwMt.lt (h : OwMt w v s fp) : LtL w.heap.size fp := by
  obtain ⟨A, c, hs, rfl, hL, h, rfl⟩ := h; exact h.lt
theorem HeMt.below (h : HeMt w v s k fp) (hb : Below w.heap.size w w') : HeMt w' v s k fp := by
  obtain ⟨A, c, hs, rfl, hL, h, e⟩ := h; exact ⟨A, c, hs, rfl, hL, h.below hb, e⟩
theorem HeMt.keeps (h : HeMt w v s k fp) {S : Nat → Prop} (hk : Keeps S w w') (hS : ∀ b, b ∈ fp → ¬ S b) : HeMt w' v s k fp := by
  obtain ⟨A, c, hs, rfl, hL, h, e⟩ := h; exact ⟨A, c, hs, rfl, hL, h.keeps hk fun b hb => hS b (e b hb), e⟩
theorem OwMt.of_om {w0 : World} {A : Option Addr} {c : Nat} {L : List (List Int)} {a : Int} (h : OM w0 w A c L) : ∃ fp, OwMt w (.agg #[.int .i64 a, .slice A L.length c]) (a, L) fp ∧ FreshL w0.heap.size fp := by
  obtain ⟨hs, rfl, hO, hf, _⟩ := h
  exact ⟨fpA A ++ fpR hs, ⟨A, c, hs, by rw [List.length_map], rfl, hO, rfl⟩, hf⟩
end
/-- A box behind a call. -/
theorem box_below {w w' : World} {B : Nat} {o : Obj} (h : w.heap[B]? = some o) (hb : Below w.heap.size w w') : w'.heap[B]? = some o := (hb.block B (Array.getElem?_eq_some_iff.1 h).1).trans h
theorem box_keeps {w w' : World} {S : Nat → Prop} {B : Nat} {o : Obj} (h : w.heap[B]? = some o) (hk : Keeps S w w') (hS : ¬ S B) : w'.heap[B]? = some o := (hk.block B (Array.getElem?_eq_some_iff.1 h).1 hS).trans h
theorem box_lt {w : World} {B : Nat} {o : Obj} (h : w.heap[B]? = some o) : B < w.heap.size := (Array.getElem?_eq_some_iff.1 h).1
theorem below_alloc (w : World) (o : Obj) : Below w.heap.size w (w.alloc o) := (Below.refl _ _).alloc (Nat.le_refl _) _
end Go.Proofs.YtahnhblodfdfhaaDoor

namespace Go.Proofs.YtahnhblodfdfhaaDoor
open Go.RowKit
end Go.Proofs.YtahnhblodfdfhaaDoor
namespace Go.Proofs.YtahnhblodfdfhaaDoor
open Go.RowKit
/-- Each row has n elements of the field. -/
def rowsB (p n : Int) (L : List (List Int)) : Bool := L.all fun l => decide ((l.length : Int) = n) && inB 0 (p - 1) l
theorem rowsB_take_succ {p n : Int} {hs : List Hd} {k : Nat} {B : Option Addr} {c : Nat} {l : List Int} (h : hs[k]? = some (B, c, l)) :
    rowsB p n ((hs.take (k + 1)).map fun h : Hd => h.2.2) = (rowsB p n ((hs.take k).map fun h : Hd => h.2.2) && (decide ((l.length : Int) = n) && inB 0 (p - 1) l)) := by
  rw [List.take_add_one, h]
  simp [rowsB]
theorem rowsB_false {p n : Int} {hs : List Hd} {k : Nat} {B : Option Addr} {c : Nat} {l : List Int} (h : hs[k]? = some (B, c, l)) (hl : (decide ((l.length : Int) = n) && inB 0 (p - 1) l) = false) : rowsB p n (hs.map fun h : Hd => h.2.2) = false := by
  rw [Bool.eq_false_iff]
  intro hh
  have := List.all_eq_true.1 hh l (List.mem_map.2 ⟨_, List.mem_of_getElem? h, rfl⟩)
  rw [hl] at this; cases this
set_option maxHeartbeats 400000 in
theorem spRows_any (p n : Int) (A : Option Addr) (c : Nat) (hs : List Hd) (w : World) (h : RdR w A hs) (hl : hs.length ≤ 17592186044416) (hr : ∀ x, x ∈ hs → x.2.2.length ≤ 17592186044416) (hp : 0 ≤ p) (hp' : p ≤ 97) :
    Calls Tryd.prog 97 #[.int .i64 p, .int .i64 n, .slice A hs.length c] w fun e w' => e = .returned (.bool (rowsB p n (hs.map fun h : Hd => h.2.2))) ∧ w = w' := by
  go_enter Tryd.func97, Tryd.ntmps97
  go_wp2_with (fail)
  go_loop [11] (fun i => ∃ k : Nat, k ≤ hs.length ∧ i = .int .i64 k ∧ rowsB p n ((hs.take k).map fun h : Hd => h.2.2) = true) (fun i => hs.length - (intOf i).toNat)
  case atStart => exact ⟨0, Nat.zero_le _, rfl, rfl⟩
  case round =>
    obtain ⟨k, hk, rfl, ht⟩ := hrel
    have HT := Lib.hid ht
    clear ht
    by_cases hlt : k < hs.length
    · obtain ⟨ad, B, d, l, rfl, hx, hc, hri⟩ := h.at_ hlt
      have hll : l.length ≤ 17592186044416 := hr _ (List.mem_of_getElem? hx)
      have HX := Lib.hid hx
      have hkI : (k : Int) < (hs.length : Int) := by omega
      clear hx h hr
      by_cases hn : (l.length : Int) = n
      · have h1 : ((l.length : Int) != n) = false := by simp [hn]
        have HN := Lib.hid hn
        have hF := fdIn_any p B d l w hri hll hp hp'
        clear hn
        by_cases hb : inB 0 (p - 1) l = true
        · rw [hb] at hF
          have HF := Lib.hid hF
          have HB := Lib.hid hb
          clear hF hb
          go_wp2_with (go_at_call 56; refine HF.out.mono ?_; rintro e w' ⟨rfl, rfl⟩)
          go_round
          case rel => exact ⟨k + 1, by omega, by go_num, by rw [rowsB_take_succ HX.out, HT.out, HB.out]; simp [HN.out]⟩
          case measure => simp [intOf]; omega
        · have hb' : inB 0 (p - 1) l = false := by simpa using hb
          rw [hb'] at hF
          have HF := Lib.hid hF
          have HB := Lib.hid hb'
          clear hF hb hb'
          go_wp2_with (go_at_call 56; refine HF.out.mono ?_; rintro e w' ⟨rfl, rfl⟩)
          go_ret
          exact ⟨ret_bool (rowsB_false HX.out (by rw [HB.out]; simp)).symm, rfl⟩
      · have h1 : ((l.length : Int) != n) = true := by simp [hn]
        have HN := Lib.hid hn
        clear hn
        go_wp2_with (fail)
        go_ret
        exact ⟨ret_bool (rowsB_false HX.out (by simp [HN.out])).symm, rfl⟩
    · obtain rfl : k = hs.length := by omega
      clear h hr
      go_wp2_with (fail)
      go_ret
      exact ⟨ret_bool (by have := HT.out; rw [List.take_length] at this; exact this.symm), rfl⟩
set_option maxHeartbeats 400000 in
theorem areVectors_any (p n : Int) (A : Option Addr) (c : Nat) (hs : List Hd) (w : World) (h : RdR w A hs) (hl : hs.length ≤ 17592186044416) (hr : ∀ x, x ∈ hs → x.2.2.length ≤ 17592186044416) :
    Calls Tryd.prog 103 #[.int .i64 p, .slice A hs.length c, .int .i64 n] w fun e w' => e = .returned (.bool (rowsB p n (hs.map fun h : Hd => h.2.2))) ∧ w = w' := by
  go_enter Tryd.func103, Tryd.ntmps103
  go_wp2_with (fail)
  go_loop [11] (fun i => ∃ k : Nat, k ≤ hs.length ∧ i = .int .i64 k ∧ rowsB p n ((hs.take k).map fun h : Hd => h.2.2) = true) (fun i => hs.length - (intOf i).toNat)
  case atStart => exact ⟨0, Nat.zero_le _, rfl, rfl⟩
  case round =>
    obtain ⟨k, hk, rfl, ht⟩ := hrel
    have HT := Lib.hid ht
    clear ht
    by_cases hlt : k < hs.length
    · obtain ⟨ad, B, d, l, rfl, hx, hc, hri⟩ := h.at_ hlt
      have hll : l.length ≤ 17592186044416 := hr _ (List.mem_of_getElem? hx)
      have HX := Lib.hid hx
      have hkI : (k : Int) < (hs.length : Int) := by omega
      have hF := isVector_any p B d l n w hri hll
      clear hx h hr
      by_cases hb : (decide ((l.length : Int) = n) && inB 0 (p - 1) l) = true
      · rw [hb] at hF
        have HF := Lib.hid hF
        have HB := Lib.hid hb
        clear hF hb
        go_wp2_with (go_at_call 64; refine HF.out.mono ?_; rintro e w' ⟨rfl, rfl⟩)
        go_round
        case rel => exact ⟨k + 1, by omega, by go_num, by rw [rowsB_take_succ HX.out, HT.out, HB.out]; rfl⟩
        case measure => simp [intOf]; omega
      · have hb' : (decide ((l.length : Int) = n) && inB 0 (p - 1) l) = false := by simpa using hb
        rw [hb'] at hF
        have HF := Lib.hid hF
        have HB := Lib.hid hb'
        clear hF hb hb'
        go_wp2_with (go_at_call 64; refine HF.out.mono ?_; rintro e w' ⟨rfl, rfl⟩)
        go_ret
        exact ⟨ret_bool (rowsB_false HX.out HB.out).symm, rfl⟩
    · obtain rfl : k = hs.length := by omega
      clear h hr
      go_wp2_with (fail)
      go_ret
      exact ⟨ret_bool (by have := HT.out; rw [List.take_length] at this; exact this.symm), rfl⟩
end Go.Proofs.YtahnhblodfdfhaaDoor

namespace Go.Proofs.YtahnhblodfdfhaaDoor
open Go.RowKit
/-- It is a system over the field. -/
def sysB (p : Int) (s : Sys) : Bool := fieldB p && ((decide (0 ≤ s.1) && decide (s.1 ≤ 24)) && ((decide (0 ≤ s.2.1) && decide (s.2.1 ≤ 100)) && (decide (s.2.2.length ≤ 160) && rowsB p (s.1 + s.2.1) s.2.2)))
end Go.Proofs.YtahnhblodfdfhaaDoor

namespace Go.Proofs.YtahnhblodfdfhaaDoor
section
variable {P : Program} {ops : Array Oper} {md : Region.Mode} {S : World → Prop}
/-- In every world that meets S the operation yields v and leaves a world that meets S. -/
def YieldsS (P : Program) (ops : Array Oper) (S : World → Prop) (o : Oper) (v : Value) (a : Act) : Prop :=
  (Region.wanted o (yielded ops a.tmps) = true ∧ ∀ w, S w →
    (∃ w', (execOp a.eval o).run P w = .ok (.value v) w' ∧ S w') ∨ (∃ w', (execOp a.eval o).run P w = .ok .skip w' ∧ v = undef ∧ S w') ∨
    ∃ f args w', (execOp a.eval o).run P w = .ok (.enter f args) w' ∧ Calls P f args w' (fun e w'' => e = .returned v ∧ S w'')) ∨
  (Region.wanted o (yielded ops a.tmps) = false ∧ v = undef)
theorem YieldsS.of_same {o : Oper} {v : Value} {a a' : Act} (hy : YieldsS P ops S o v a) (he : execOp a'.eval o = execOp a.eval o)
    (hw : Region.wanted o (yielded ops a'.tmps) = Region.wanted o (yielded ops a.tmps)) : YieldsS P ops S o v a' := by
  unfold YieldsS at *
  rw [he, hw]
  exact hy
theorem YieldsS.put {oi oj : Oper} {v u : Value} {a : Act} (hy : YieldsS P ops S oi v a) (hap : oj.apart ops oi = true) (hsi : ∀ cs b, oi.op ≠ .select cs b) : YieldsS P ops S oi v (a.put oj.dst u) := by
  obtain ⟨h1, _, _⟩ := Oper.apart_spec hap
  exact hy.of_same (execOp_put oi hsi a oj.dst u h1) (wanted_put oi a oj.dst u h1)
theorem YieldsS.wpOp {i : Nat} {o : Oper} {v : Value} {a : Act} {Q : Exit → Act → World → Prop} (hi : ops[i]? = some o) (hy : YieldsS P ops S o v a) {K : Act → World → Prop} {w : World} (hS : S w) (h : ∀ w', S w' → K (a.put o.dst v) w') : wpOp P ops Q i K a w := by
  unfold Go.wpOp
  simp only [hi]
  rcases hy with ⟨hw, hv⟩ | ⟨hw, rfl⟩
  · simp only [hw, if_true]
    refine .inl ?_
    unfold Oper.wp
    rcases hv w hS with ⟨w', hr, hs⟩ | ⟨w', hr, rfl, hs⟩ | ⟨f, args, w', hr, hc⟩
    · rw [hr]; exact h _ hs
    · rw [hr]; exact h _ hs
    · rw [hr]
      exact hc.mono fun e w'' ⟨he, hs⟩ => by subst he; exact h _ hs
  · simp only [hw, Bool.false_eq_true, if_false]; exact h _ hS
/-! The steps. -/
end
end Go.Proofs.YtahnhblodfdfhaaDoor
namespace Go.Proofs.YtahnhblodfdfhaaDoor
section
variable {P : Program} {l : List Oper} {Q : Exit → Act → World → Prop} {md : Region.Mode} {S : World → Prop}
theorem at_drop {l l' : List Oper} {i : Nat} {o : Oper} (h : l.drop i = o :: l') : l.toArray[i]? = some o := by
  have := congrArg (·[0]?) h
  simpa [List.getElem?_drop] using this
theorem takeH (i : Nat) {oi : Oper} {v : Value} {fuel : Nat} {listed : Array Bool} {a : Act} {w : World} {l' : List Oper} (hd : l.drop i = oi :: l')
    (hs : Region.noSelect l.toArray = true) (hf : Region.free md l.toArray listed i = true) (hr : (Region.ready md l.toArray listed).contains i = true)
    (hQ : ∀ c a w, Q (.panic c) (a.put oi.dst v) w → Q (.panic c) a w) (hS : S w) (hw : Region.wanted oi (yielded l.toArray a.tmps) = true) (hy : ∀ w, S w → (execOp a.eval oi).run P w = .ok (.value v) w)
    (h : wpAnyH P md l.toArray Q S fuel (listed.setIfInBounds i true) (a.put oi.dst v) w) : wpAnyH P md l.toArray Q S (fuel + 1) listed a w :=
  wpAnyH_take (at_drop hd) hs hf hr hQ (.inl ⟨hw, hy⟩) hS h
theorem offH (i : Nat) {oi : Oper} {fuel : Nat} {listed : Array Bool} {a : Act} {w : World} {l' : List Oper} (hd : l.drop i = oi :: l')
    (hs : Region.noSelect l.toArray = true) (hf : Region.free md l.toArray listed i = true) (hr : (Region.ready md l.toArray listed).contains i = true)
    (hQ : ∀ c a w, Q (.panic c) (a.put oi.dst undef) w → Q (.panic c) a w) (hS : S w) (hw : Region.wanted oi (yielded l.toArray a.tmps) = false)
    (h : wpAnyH P md l.toArray Q S fuel (listed.setIfInBounds i true) (a.put oi.dst undef) w) : wpAnyH P md l.toArray Q S (fuel + 1) listed a w :=
  wpAnyH_take (at_drop hd) hs hf hr hQ (.inr ⟨hw, rfl⟩) hS h
/-- The one operation that may come up. -/
theorem oneH (i : Nat) {o : Oper} {fuel : Nat} {listed : Array Bool} {a : Act} {w : World} {l' : List Oper} (hd : l.drop i = o :: l') (hr : Region.ready md l.toArray listed = [i]) (hw : Region.wanted o (yielded l.toArray a.tmps) = true)
    (h : ∀ K : Act → World → Prop, (∀ a' w', S w' → wpAnyH P md l.toArray Q S fuel (listed.setIfInBounds i true) a' w' → K a' w') → o.wp P a w K Q) : wpAnyH P md l.toArray Q S (fuel + 1) listed a w := by
  refine wpAnyH_all hr (by simp) fun j hj => ?_
  obtain rfl := List.mem_singleton.1 hj
  unfold wpOp
  simp only [at_drop hd, hw, if_true]
  exact .inl (h _ fun a' w' h1 h2 => ⟨h1, h2⟩)
theorem callH (i : Nat) {o : Oper} {f : FuncId} {args : Array Value} {fuel : Nat} {listed : Array Bool} {a : Act} {w : World} {l' : List Oper} (hd : l.drop i = o :: l') (hr : Region.ready md l.toArray listed = [i]) (hw : Region.wanted o (yielded l.toArray a.tmps) = true)
    (hrun : (execOp a.eval o).run P w = .ok (.enter f args) w)
    (h : Calls P f args w fun e w' => ∃ v, e = .returned v ∧ S w' ∧ wpAnyH P md l.toArray Q S fuel (listed.setIfInBounds i true) (a.put o.dst v) w') : wpAnyH P md l.toArray Q S (fuel + 1) listed a w := by
  refine oneH i hd hr hw fun K hK => ?_
  unfold Oper.wp
  rw [hrun]
  exact h.mono fun e w' ⟨v, he, h1, h2⟩ => by subst he; exact hK _ _ h1 h2
theorem offOneH (i : Nat) {o : Oper} {fuel : Nat} {listed : Array Bool} {a : Act} {w : World} {l' : List Oper} (hd : l.drop i = o :: l') (hr : Region.ready md l.toArray listed = [i]) (hw : Region.wanted o (yielded l.toArray a.tmps) = false) (hS : S w)
    (h : wpAnyH P md l.toArray Q S fuel (listed.setIfInBounds i true) (a.put o.dst undef) w) : wpAnyH P md l.toArray Q S (fuel + 1) listed a w := by
  refine wpAnyH_all hr (by simp) fun j hj => ?_
  obtain rfl := List.mem_singleton.1 hj
  unfold wpOp
  simp only [at_drop hd, hw]
  exact ⟨hS, h⟩
/-- Two that only read may come up: both orders are one. -/
theorem twoValH (i j : Nat) {oi oj : Oper} {vi vj : Value} {fuel : Nat} {listed : Array Bool} {a : Act} {w : World} {li lj : List Oper} (hdi : l.drop i = oi :: li) (hdj : l.drop j = oj :: lj) (hij : i ≠ j)
    (hr : Region.ready md l.toArray listed = [i, j]) (hri : Region.ready md l.toArray (listed.setIfInBounds i true) = [j]) (hrj : Region.ready md l.toArray (listed.setIfInBounds j true) = [i])
    (hsel : Region.noSelect l.toArray = true) (hap : oi.apart l.toArray oj = true) (hwi : Region.wanted oi (yielded l.toArray a.tmps) = true) (hwj : Region.wanted oj (yielded l.toArray a.tmps) = true)
    (hvi : (execOp a.eval oi).run P w = .ok (.value vi) w) (hvj : (execOp a.eval oj).run P w = .ok (.value vj) w) (hS : S w)
    (h : wpAnyH P md l.toArray Q S fuel ((listed.setIfInBounds i true).setIfInBounds j true) ((a.put oi.dst vi).put oj.dst vj) w) : wpAnyH P md l.toArray Q S (fuel + 2) listed a w := by
  obtain ⟨h1, h2, h3⟩ := Oper.apart_spec hap
  have si : ∀ cs b, oi.op ≠ .select cs b := fun cs b => Region.noSelect_spec hsel i oi cs b (at_drop hdi)
  have sj : ∀ cs b, oj.op ≠ .select cs b := fun cs b => Region.noSelect_spec hsel j oj cs b (at_drop hdj)
  refine wpAnyH_all hr (by simp) fun k hk => ?_
  have hk' : k = i ∨ k = j := by simpa using hk
  rcases hk' with rfl | rfl
  · unfold wpOp
    simp only [at_drop hdi, hwi, if_true]
    refine .inl ?_
    unfold Oper.wp
    rw [hvi]
    refine ⟨hS, wpAnyH_all hri (by simp) fun k' hk' => ?_⟩
    obtain rfl := List.mem_singleton.1 hk'
    unfold wpOp
    have hw' : Region.wanted oj (yielded l.toArray (a.put oi.dst vi).tmps) = true := by rw [wanted_put oj a oi.dst vi h1]; exact hwj
    simp only [at_drop hdj, hw', if_true]
    refine .inl ?_
    unfold Oper.wp
    rw [execOp_put oj sj a oi.dst vi h1, hvj]
    exact ⟨hS, h⟩
  · unfold wpOp
    simp only [at_drop hdj, hwj, if_true]
    refine .inl ?_
    unfold Oper.wp
    rw [hvj]
    refine ⟨hS, wpAnyH_all hrj (by simp) fun k' hk' => ?_⟩
    obtain rfl := List.mem_singleton.1 hk'
    unfold wpOp
    have hw' : Region.wanted oi (yielded l.toArray (a.put oj.dst vj).tmps) = true := by rw [wanted_put oi a oj.dst vj h3]; exact hwi
    simp only [at_drop hdi, hw', if_true]
    refine .inl ?_
    unfold Oper.wp
    rw [execOp_put oi si a oj.dst vj h3, hvi]
    refine ⟨hS, ?_⟩
    rw [Array.setIfInBounds_comm _ _ (Ne.symm hij), ← Act.put_comm a vi vj h2]
    exact h
theorem doneH {fuel : Nat} {listed : Array Bool} {a : Act} {w : World} (hr : Region.ready md l.toArray listed = []) (h : Q .normal a w) : wpAnyH P md l.toArray Q S fuel listed a w := wpAnyH_done hr h fuel
theorem beginH {id : Nat} {a : Act} {w : World} (S : World → Prop) (hm : P.follows .mixedOrders = true) (h : wpAnyH P .any l.toArray Q S l.toArray.size (Array.replicate l.toArray.size false) a w.drew) : (Code.region id l.toArray true).wp P Q a w := wp_region_held hm h
end
end Go.Proofs.YtahnhblodfdfhaaDoor

namespace Go.Proofs.YtahnhblodfdfhaaDoor
open Go.RowKit
structure OuR (w0 w : World) (A : Option Addr) (cap : Nat) (hs : List Hd) : Prop where
  sl : Sl w 33 1 A hs.length cap (hs.map Hd.val)
  rows : ∀ h, h ∈ hs → RdI w0 h.1 h.2.2
  new : ∀ b, b ∈ fpA A → w0.heap.size ≤ b
  below_ : Below w0.heap.size w0 w
section
variable {w0 w w' : World} {A : Option Addr} {cap : Nat} {hs : List Hd}
theorem OuR.nil (w : World) : OuR w w none 0 [] := ⟨Sl.nil _ _ _, fun h hh => (by cases hh), fun b hb => by simp at hb, Below.refl _ _⟩
theorem OuR.below (h : OuR w0 w A cap hs) (hb : Below w.heap.size w w') : OuR w0 w' A cap hs := ⟨h.sl.below hb, h.rows, h.new, below_trans h.below_ hb h.below_.size⟩
theorem OuR.rdr (h : OuR w0 w A cap hs) : RdR w A hs := by
  refine ⟨fun i x hx => ?_, fun x hx => (h.rows x hx).below h.below_⟩
  obtain ⟨ad, hA, _, hc, _⟩ := h.sl.cell (j := i) (u := x.val) (by simp [hx])
  exact ⟨ad, hA, hc⟩
theorem OuR.snoc {w1 w2 : World} (h : OuR w0 w A cap hs) (hb : Below w.heap.size w w1) {x : Hd} (hx : RdI w0 x.1 x.2.2) {A' : Option Addr} {cap' n : Nat} (hn : n = hs.length + 1) (hs' : Sl w2 33 1 A' n cap' (hs.map Hd.val ++ [x.val])) (hA' : ∀ b, b ∈ fpA A' → b ∈ fpA A ∨ w1.heap.size ≤ b) (hk : Keeps (· ∈ fpA A) w1 w2) : OuR w0 w2 A' cap' (hs ++ [x]) := by
  subst hn
  have hbw := below_trans h.below_ hb h.below_.size
  refine ⟨by simpa using hs', fun y hy => ?_, fun b hb' => ?_, below_keeps hbw hk hbw.size h.new⟩
  · rcases List.mem_append.1 hy with hy | hy
    · exact h.rows y hy
    · obtain rfl := List.mem_singleton.1 hy; exact hx
  · rcases hA' b hb' with h1 | h1
    · exact h.new b h1
    · have := hbw.size; omega
end
end Go.Proofs.YtahnhblodfdfhaaDoor
namespace Go.Proofs.YtahnhblodfdfhaaDoor
open Go.RowKit
theorem rowsB_mat {p n : Int} {L : List (List Int)} {k : Nat} (h : rowsB p n L = true) (hk : n = (k : Int)) : Mat p L.length k L := by
  refine ⟨rfl, fun v hv => ?_⟩
  have := List.all_eq_true.1 h v hv
  simp only [Bool.and_eq_true, decide_eq_true_eq] at this
  refine ⟨by omega, fun x hx => ?_⟩
  have := inB_iff.1 this.2 x hx
  omega
/-- What is known of a system that is one. -/
structure SysOk (p : Int) (s : Sys) : Prop where
  fld : fieldB p = true
  vis : 0 ≤ s.1 ∧ s.1 ≤ 24
  hid : 0 ≤ s.2.1 ∧ s.2.1 ≤ 100
  len : s.2.2.length ≤ 160
  mat : Mat p s.2.2.length (s.1 + s.2.1).toNat s.2.2
theorem SysOk.of {p : Int} {s : Sys} (h : sysB p s = true) : SysOk p s := by
  unfold sysB at h
  simp only [Bool.and_eq_true, decide_eq_true_eq] at h
  obtain ⟨h1, h2, h3, h4, h5⟩ := h
  exact ⟨h1, h2, h3, h4, rowsB_mat h5 (by omega)⟩
theorem SysOk.ok {p : Int} {s : Sys} (h : SysOk p s) : s.2.2.length ≤ 1048576 ∧ ∀ x, x ∈ s.2.2 → x.length ≤ 1048576 :=
  ⟨by have := h.len; omega, fun x hx => by have := (h.mat.row x hx).1; have := h.vis; have := h.hid; omega⟩
end Go.Proofs.YtahnhblodfdfhaaDoor

namespace Go.Proofs.YtahnhblodfdfhaaDoor
open Go.RowKit
section
variable {P : Program} {l : List Oper} {Q : Exit → Act → World → Prop} {md : Region.Mode} {S : World → Prop}
/-- The one operation that may come up, its run known. -/
theorem runH (i : Nat) {o : Oper} {v : Value} {fuel : Nat} {listed : Array Bool} {a : Act} {w w1 : World} {l' : List Oper} (hd : l.drop i = o :: l') (hr : Region.ready md l.toArray listed = [i]) (hw : Region.wanted o (yielded l.toArray a.tmps) = true)
    (hrun : (execOp a.eval o).run P w = .ok (.value v) w1) (hS : S w1) (h : wpAnyH P md l.toArray Q S fuel (listed.setIfInBounds i true) (a.put o.dst v) w1) : wpAnyH P md l.toArray Q S (fuel + 1) listed a w :=
  oneH i hd hr hw fun K hK => by
    unfold Oper.wp
    rw [hrun]
    exact hK _ _ hS h
/-- A call, or the laying of a box, whichever comes up first. -/
theorem callOrH (i j : Nat) {oi oj : Oper} {f : FuncId} {args : Array Value} {vj : Value} {wj : World} {fuel : Nat} {listed : Array Bool} {a : Act} {w : World} {li lj : List Oper} (hdi : l.drop i = oi :: li) (hdj : l.drop j = oj :: lj)
    (hr : Region.ready md l.toArray listed = [i, j]) (hwi : Region.wanted oi (yielded l.toArray a.tmps) = true) (hwj : Region.wanted oj (yielded l.toArray a.tmps) = true)
    (hrun : (execOp a.eval oi).run P w = .ok (.enter f args) w) (hrunj : (execOp a.eval oj).run P w = .ok (.value vj) wj)
    (h1 : Calls P f args w fun e w' => ∃ v, e = .returned v ∧ S w' ∧ wpAnyH P md l.toArray Q S fuel (listed.setIfInBounds i true) (a.put oi.dst v) w')
    (hSj : S wj) (h2 : wpAnyH P md l.toArray Q S fuel (listed.setIfInBounds j true) (a.put oj.dst vj) wj) : wpAnyH P md l.toArray Q S (fuel + 1) listed a w := by
  refine wpAnyH_all hr (by simp) fun k hk => ?_
  have hk' : k = i ∨ k = j := by simpa using hk
  rcases hk' with rfl | rfl
  · unfold wpOp
    simp only [at_drop hdi, hwi, if_true]
    refine .inl ?_
    unfold Oper.wp
    rw [hrun]
    exact h1.mono fun e w' ⟨v, he, a1, a2⟩ => by subst he; exact ⟨a1, a2⟩
  · unfold wpOp
    simp only [at_drop hdj, hwj, if_true]
    refine .inl ?_
    unfold Oper.wp
    rw [hrunj]
    exact ⟨hSj, h2⟩
/-- append, when it alone may come up. -/
theorem appH (i : Nat) {o : Oper} {fuel : Nat} {listed : Array Bool} {a : Act} {w : World} {l' : List Oper} (hd : l.drop i = o :: l') (hr : Region.ready md l.toArray listed = [i]) (hw : Region.wanted o (yielded l.toArray a.tmps) = true)
    (s x : Operand) (t : TypeId) (ho : o.op = .call { callee := .builtin .append, args := #[s, x], argTypes := #[t, t] })
    (e : TypeId) {z : Value} {size bytes : Nat} (ht : P.underlying t = some (.slice e)) (hinfo : (P.info? e).map (fun i => (i.zero, i.size, i.bytes)) = some (some z, size, bytes)) (hzs : z.cells.size = size) (hsz : 0 < size)
    {A : Option Addr} {n cap : Nat} {xs : List Value} (he : a.eval s = .slice A n cap) (hs : Sl w e size A n cap xs)
    {B : Option Addr} {m c : Nat} {news : List Value} (hx : a.eval x = .slice B m c) (hl : news.length = m * size) (hrd : RdC w B news) (h1 : ∀ u ∈ news, u.oneCell' = true)
    (h63 : n + m ≤ maxLen) (hbytes : (n + m) * bytes ≤ 140737488355328)
    (h : ∀ A' cap' w', Sl w' e size A' (n + m) cap' (xs ++ news) → (∀ b, b ∈ fpA A' → b ∈ fpA A ∨ w.heap.size ≤ b) → Keeps (· ∈ fpA A) w w' → S w' ∧ wpAnyH P md l.toArray Q S fuel (listed.setIfInBounds i true) (a.put o.dst (.slice A' (n + m) cap')) w') : wpAnyH P md l.toArray Q S (fuel + 1) listed a w := by
  obtain ⟨i', hi, hz, hz1, hz2⟩ := info_parts hinfo
  obtain ⟨A', cap', w', hrun, h2, h3, h4⟩ := run_append_Sl (P := P) w t o.type e i' z size bytes ht hi hz hz1 hz2 hzs hsz A n cap xs hs B m c news hl hrd h1 h63 hbytes
  obtain ⟨hS, hh⟩ := h A' cap' w' h2 h3 h4
  refine runH i hd hr hw (w1 := w') (v := .slice A' (n + m) cap') ?_ hS hh
  unfold execOp
  simp only [ho, resolve, invoke, builtin, Sem.run_bind, Sem.run_pure, Result.andThen_ok, List.map_toArray, List.map_cons, List.map_nil, he, hx, hrun]
end
section
variable {P : Program} {ops : Array Oper} {rest : List Oper} {o : Oper} {a : Act} {Q : Exit → Act → World → Prop} {w : World}
end
end Go.Proofs.YtahnhblodfdfhaaDoor

namespace Go.Proofs.YtahnhblodfdfhaaDoor
open Go.RowKit
/-- A reduced list of rows of n elements. -/
def redB (p n : Int) (L : List (List Int)) : Bool := decide ((L.length : Int) ≤ n) && (rowsB p n L && decide (redM p n.toNat L = L))
/-- A relation. -/
def relB (p : Int) (s : Sys) : Bool := (decide (0 ≤ s.1) && decide (s.1 ≤ 24)) && ((decide (0 ≤ s.2.1) && decide (s.2.1 ≤ 24 - s.1)) && (fieldB p && redB p (s.1 + s.2.1) s.2.2))
structure RelOk (p : Int) (s : Sys) : Prop where
  lo : 0 ≤ s.1
  hi : 0 ≤ s.2.1
  sum : s.1 + s.2.1 ≤ 24
  fld : fieldB p = true
  len : (s.2.2.length : Int) ≤ s.1 + s.2.1
  mat : Mat p s.2.2.length (s.1 + s.2.1).toNat s.2.2
  red : redM p (s.1 + s.2.1).toNat s.2.2 = s.2.2
theorem RelOk.of {p : Int} {s : Sys} (h : relB p s = true) : RelOk p s := by
  unfold relB redB at h
  simp only [Bool.and_eq_true, decide_eq_true_eq] at h
  obtain ⟨⟨h1, h2⟩, ⟨h3, h4⟩, h5, h6, h7, h8⟩ := h
  exact ⟨h1, h3, by omega, h5, h6, rowsB_mat h7 (by omega), h8⟩
theorem RelOk.row {p : Int} {s : Sys} (h : RelOk p s) {v : List Int} (hv : v ∈ s.2.2) : (v.length : Int) = s.1 + s.2.1 ∧ Res p v := by
  have := h.mat.row v hv
  have h1 := h.lo
  have h2 := h.hi
  exact ⟨by omega, this.2⟩
theorem Mat.map {p : Int} {m n k : Nat} {L : List (List Int)} {f : List Int → List Int} (h : Mat p m n L) (hf : ∀ v, v.length = n → Res p v → (f v).length = k ∧ Res p (f v)) : Mat p m k (L.map f) := by
  refine ⟨by rw [List.length_map]; exact h.len, fun v hv => ?_⟩
  obtain ⟨u, hu, rfl⟩ := List.mem_map.1 hv
  exact hf u (h.row u hu).1 (h.row u hu).2
/-- The first columns of the rows; the last ones. -/
def firstM (s : Sys) : List (List Int) := s.2.2.map fun v => v.take s.1.toNat
def secondM (s : Sys) : List (List Int) := s.2.2.map fun v => v.drop s.1.toNat
theorem firstM_mat {p : Int} {s : Sys} (h : RelOk p s) : Mat p s.2.2.length s.1.toNat (firstM s) := by
  have h1 := h.lo
  have h2 := h.hi
  exact h.mat.map fun v hv hr => ⟨by rw [List.length_take]; omega, fun x hx => hr x (List.mem_of_mem_take hx)⟩
theorem secondM_mat {p : Int} {s : Sys} (h : RelOk p s) : Mat p s.2.2.length s.2.1.toNat (secondM s) := by
  have h1 := h.lo
  have h2 := h.hi
  exact h.mat.map fun v hv hr => ⟨by rw [List.length_drop]; omega, fun x hx => hr x (List.mem_of_mem_drop hx)⟩
end Go.Proofs.YtahnhblodfdfhaaDoor
namespace Go.Proofs.YtahnhblodfdfhaaDoor
open Go.RowKit
section
variable {P : Program} {ops : Array Oper} {rest : List Oper} {o : Oper} {a : Act} {Q : Exit → Act → World → Prop} {w : World}
/-- copy(dst, src) -/
theorem wpList_copy_Slt (hgd : o.guard = none) (d s : Operand) (dT sT : TypeId) (ho : o.op = .call { callee := .builtin .copy, args := #[d, s], argTypes := #[dT, sT] })
    (e eb : TypeId) {z : Option Value} {sz bytes : Nat} (ht : P.underlying dT = some (.slice e)) (hinfo : (P.info? e).map (fun i => (i.zero, i.size, i.bytes)) = some (z, sz, bytes)) (hsz : 0 < sz)
    {A : Option Addr} {n cap : Nat} {xs : List Value} (hd : a.eval d = .slice A n cap) (hsl : Sl w eb sz A n cap xs)
    {B : Option Addr} {m c : Nat} {ys : List Value} (hs : a.eval s = .slice B m c) (hy : ys.length = m * sz) (hr : RdC w B ys) (h1 : ∀ u ∈ ys, u.oneCell' = true)
    (h : ∀ w', Wr w w' A (ys.take (min m n * sz) ++ xs.drop (min m n * sz)) → wpList P ops Q rest (a.put o.dst (goInt ((min m n : Nat) : Int))) w') : wpList P ops Q (o :: rest) a w := by
  obtain ⟨i, hi, hzz⟩ := Option.map_eq_some_iff.1 hinfo
  simp only [Prod.mk.injEq] at hzz
  refine wpList_plain hgd fun K hK => ?_
  have hmn : min m n * sz ≤ n * sz := Nat.mul_le_mul_right sz (Nat.min_le_right _ _)
  have hmm : min m n * sz ≤ m * sz := Nat.mul_le_mul_right sz (Nat.min_le_left _ _)
  have hcap := Nat.mul_le_mul_right sz hsl.2.1
  have hxl := hsl.1
  suffices hrun : ∃ w', (Builtin.copy_ #[dT, sT] o.type #[.slice A n cap, .slice B m c]).run P w = .ok (goInt ((min m n : Nat) : Int)) w' ∧ Wr w w' A (ys.take (min m n * sz) ++ xs.drop (min m n * sz)) by
    obtain ⟨w', hrun, hw⟩ := hrun
    unfold Oper.wp
    simp [execOp, ho, resolve, invoke, builtin, hd, hs, hrun, Result.andThen]
    exact hK _ _ (h w' hw)
  have hmin : Nat.min m n = min m n := rfl
  by_cases h0 : min m n = 0
  · refine ⟨w, ?_, by rw [h0]; simpa using Wr.start hsl⟩
    have hf : (Builtin.firstCells sz 0 (.slice B m c)).run P w = .ok #[] w := by
      cases B <;> simp [Builtin.firstCells, loadCells, loadCellsFrom]
    cases A <;> simp [Builtin.copy_, run_underlying ht, Builtin.lenOf, sizeOf, typeInfo, hi, hzz.2.1, hmin, h0, hf, storeCells]
  · have hb : ∃ ad, B = some ad ∧ ∀ j u, ys[j]? = some u → w.cell? (ad.add j) = some u := by
      have hp := Nat.mul_pos (show 0 < m by omega) hsz
      obtain ⟨ad, hB, _⟩ := hr 0 ys[0] (List.getElem?_eq_getElem (by omega))
      refine ⟨ad, hB, fun j u hj => ?_⟩
      obtain ⟨ad', hB', hc⟩ := hr j u hj
      rw [hB] at hB'; obtain rfl := Option.some.inj hB'; exact hc
    obtain ⟨ad, rfl, hnews⟩ := hb
    rcases hsl.2.2.2 with ⟨_, hcap0⟩ | ⟨g, off, cur, rfl, hg, hc, htake⟩
    · have := hsl.2.1; omega
    · have hyl : (ys.take (min m n * sz)).length = min m n * sz := by simp; omega
      have hf := run_firstCells_some (P := P) w sz (min m n) ad m c (ys.take (min m n * sz)) hyl (fun j u hj => hnews j u (by rw [List.getElem?_take] at hj; split at hj; exact hj; cases hj))
      have hst := run_storeCells_at P g off eb (ys.take (min m n * sz)) 0 cur w hg (by rw [hyl]; omega) (fun u hu => h1 u (List.mem_of_mem_take hu))
      simp only [Nat.add_zero, hyl] at hst
      refine ⟨w.setRow g (cur.toList.take off ++ ys.take (min m n * sz) ++ cur.toList.drop (off + min m n * sz)).toArray, ?_, ?_, ?_⟩
      · simp [Builtin.copy_, run_underlying ht, Builtin.lenOf, sizeOf, typeInfo, hi, hzz.2.1, hmin, hf, hst]
      · exact ⟨rfl, rfl, rfl, by simp, fun k _ hk => setRow_other w g k _ (fun e => hk (by simp [e]))⟩
      · intro g' off' cur' e' hA hg' hc'
        injection hA with hA; injection hA with e1 e2; subst e1; subst e2
        rw [hg] at hg'; injection hg' with hg'; injection hg' with e1 e2; subst e1; subst e2
        refine ⟨_, setRow_heap w g cur _ eb _ hg, ?_⟩
        have hcur : cur.toList.drop off = xs ++ cur.toList.drop (off + xs.length) := by
          rw [hxl]; conv => rhs; rw [← htake]
          rw [← List.drop_drop, List.take_append_drop]
        have hlen : (ys.take (min m n * sz) ++ xs.drop (min m n * sz)).length = xs.length := by simp; omega
        rw [hlen]
        have : cur.toList.drop (off + min m n * sz) = xs.drop (min m n * sz) ++ cur.toList.drop (off + xs.length) := by
          rw [← List.drop_drop, hcur, List.drop_append_of_le_length (by omega)]
        simp [this, List.append_assoc]
end
end Go.Proofs.YtahnhblodfdfhaaDoor
namespace Go.Proofs.YtahnhblodfdfhaaDoor
open Go.RowKit
section
variable {P : Program} {ops : Array Oper} {rest : List Oper} {o : Oper} {a : Act} {Q : Exit → Act → World → Prop} {w w' : World}
theorem wpList_val {v : Value} (hg : o.guard = none) (hr : (execOp a.eval o).run P w = .ok (.value v) w') (h : wpList P ops Q rest (a.put o.dst v) w') : wpList P ops Q (o :: rest) a w := by
  refine wpList_plain hg fun K hK => ?_
  unfold Oper.wp
  simp only [hr]
  exact hK _ _ h
theorem wpList_skip (hg : o.guard = none) (hr : (execOp a.eval o).run P w = .ok .skip w') (h : wpList P ops Q rest (a.put o.dst undef) w') : wpList P ops Q (o :: rest) a w := by
  refine wpList_plain hg fun K hK => ?_
  unfold Oper.wp
  simp only [hr]
  exact hK _ _ h
theorem xop_alloc {ρ : Operand → Value} {t : TypeId} {Z : Array Value} (ho : o.op = .alloc t) (hz : ∀ w, (zeroValue t).run P w = .ok (.agg Z) w) :
    (execOp ρ o).run P w = .ok (.value (.pointer (some ⟨w.heap.size, 0, none⟩))) (w.alloc (.cells Z t)) := by
  simp [execOp, ho, Instr.alloc, hz, newVar, newRow, Value.cells, Result.andThen]
theorem xop_store {ρ : Operand → Value} {t : TypeId} {p x : Operand} (ho : o.op = .store t p x) (hr : (Instr.storeAt t (ρ p) (ρ x)).run P w = .ok () w') : (execOp ρ o).run P w = .ok .skip w' := by
  simp [execOp, ho, hr, Result.andThen]
theorem xop_load {ρ : Operand → Value} {t : TypeId} {p : Operand} {v : Value} (ho : o.op = .load t p) (hr : (Instr.loadAt t (ρ p)).run P w = .ok v w') : (execOp ρ o).run P w = .ok (.value v) w' := by
  simp [execOp, ho, hr, Result.andThen]
theorem xop_slice {ρ : Operand → Value} {t : TypeId} {p : Operand} {v : Value} (ho : o.op = .slice t p none none none) (hr : (Instr.sliceAt t (ρ p) none none none).run P w = .ok v w') : (execOp ρ o).run P w = .ok (.value v) w' := by
  simp [execOp, ho, hr, Result.andThen]
theorem run_sliceAt_all {t e : TypeId} {n : Nat} {ad : Addr} (ht : P.underlying t = some (.array n e)) (hi : (P.info? e).map (·.size) = some 1) :
    (Instr.sliceAt t (.pointer (some ad)) none none none).run P w = .ok (.slice (some ad) n n) w := by
  obtain ⟨i, hi, h1⟩ := Option.map_eq_some_iff.1 hi
  have : ad.add 0 = ad := by cases ad; unfold Addr.add; split <;> simp_all
  simp [Instr.sliceAt, run_underlying ht, Instr.sureAddr, Instr.sliceBounds, sizeOf, typeInfo, hi, Result.andThen, this]
end
set_option maxRecDepth 100000 in
theorem zero48 : ∃ Z : Array Value, Z = (List.replicate 48 (Value.int .i64 0)).toArray ∧ (Tryd.prog.info? 173).map (fun i => (i.zero, i.size)) = some (some (.agg Z), 48) := ⟨_, rfl, by kernel_rfl⟩
theorem build48 {Z : Array Value} (hZ : Z = (List.replicate 48 (Value.int .i64 0)).toArray) : Tryd.prog.built 173 [] = some Z := by rw [hZ]; kernel_rfl
theorem under48 : Tryd.prog.underlying 173 = some (.array 48 3) := by kernel_rfl
theorem pad_list {l : List Int} {N : Nat} (hl : l.length ≤ N) (z : Value) : (List.replicate N z).take 0 ++ ((ints l).take l.length ++ (List.replicate N z).drop l.length ++ (List.replicate N z).drop (0 + ((ints l).take l.length ++ (List.replicate N z).drop l.length).length)) = ints l ++ List.replicate (N - l.length) z := by
  have e1 : (ints l).take l.length = ints l := List.take_of_length_le (by rw [ints_length]; exact Nat.le_refl _)
  have e2 : (List.replicate N z).drop (0 + (ints l ++ List.replicate (N - l.length) z).length) = [] := List.drop_eq_nil_of_le (by simp; omega)
  rw [e1, List.drop_replicate, e2, List.take_zero, List.nil_append, List.append_nil]
/-- The array of a row. -/
def padV (l : List Int) : Array Value := (ints l ++ List.replicate (48 - l.length) (Value.int .i64 0)).toArray
set_option maxRecDepth 100000 in
set_option maxHeartbeats 2000000 in
theorem pad_any (A : Option Addr) (c : Nat) (l : List Int) (w : World) (h : RdI w A l) (hl : l.length ≤ 48) :
    Calls Tryd.prog 160 #[.slice A l.length c] w fun e w' => e = .returned (.agg (padV l)) ∧ Below w.heap.size w w' := by
  obtain ⟨Z, hZ, hi⟩ := zero48
  obtain ⟨hz, hs⟩ := zero_of_info hi
  have hb := build48 hZ
  have hZs : Z.size = 48 := by rw [hZ]; simp
  have hZ1 : Z.all (·.oneCell') = true := by rw [hZ]; simp [Value.oneCell']
  have hsz : (Tryd.prog.info? 173).map (·.size) = some Z.size := by rw [hs, hZs]
  have hsl : Sl ((w.alloc (.cells Z 173)).alloc (.cells Z 173)) 173 1 (some ⟨w.heap.size + 1, 0, none⟩) 48 48 Z.toList := by
    have := Sl.laid (w.alloc (.cells Z 173)) 173 1 48 Z (by unfold maxLen; omega) (by omega)
    rwa [World.size_alloc] at this
  go_enter Tryd.func160, Tryd.ntmps160
  refine wp_seq (wp_region_lit (wpList_val rfl (xop_alloc rfl hz) (wpList_nil ?_)))
  refine wp_seq (wp_region_lit (wpList_val rfl (v := .agg Z) (w' := w.alloc (.cells Z 173)) ?h1 (wpList_val rfl (xop_alloc rfl hz) (wpList_skip rfl (w' := (w.alloc (.cells Z 173)).alloc (.cells Z 173)) ?h2 (wpList_nil ?_)))))
  case h1 => simp [execOp, run_build _ _ _ _ hb, Result.andThen]
  case h2 => exact xop_store rfl (run_storeAt_new (P := Tryd.prog) (w.alloc (.cells Z 173)) 173 Z Z hsz rfl hZ1)
  simp only [World.size_alloc, Act.put, List.setIfInBounds_toArray, List.set_cons_zero, List.set_cons_succ]
  refine wp_seq (wp_region_lit (wpList_val rfl (v := .slice (some ⟨w.heap.size + 1, 0, none⟩) 48 48) (w' := (w.alloc (.cells Z 173)).alloc (.cells Z 173)) ?h3 (wpList_val rfl (v := .slice A l.length c) (w' := (w.alloc (.cells Z 173)).alloc (.cells Z 173)) rfl ?_)))
  case h3 => exact xop_slice rfl (run_sliceAt_all under48 (by kernel_rfl))
  refine wpList_copy_Slt rfl _ _ _ _ rfl 3 173 Tryd.underlying33 info_int (by omega) rfl hsl rfl (by simp) ((h.rdc.alloc _).alloc _) (ints_one l) ?_
  intro w3 hW
  obtain ⟨W2, hW2⟩ : ∃ W2, W2 = (w.alloc (.cells Z 173)).alloc (.cells Z 173) := ⟨_, rfl⟩
  rw [← hW2] at hW
  have g0 : W2.heap[w.heap.size]? = some (.cells Z 173) := by rw [hW2]; exact box_below (heap_alloc_new w _) (below_alloc _ _)
  have g1 : W2.heap[w.heap.size + 1]? = some (.cells Z 173) := by
    rw [hW2]
    have := heap_alloc_new (w.alloc (.cells Z 173)) (.cells Z 173)
    rwa [World.size_alloc] at this
  have hb2 : Below w.heap.size w W2 := by rw [hW2]; exact below_trans (below_alloc _ _) (below_alloc _ _) (by simp)
  have hmin : min l.length 48 * 1 = l.length := by omega
  rw [hmin] at hW
  obtain ⟨C, g1', hC⟩ := hW.2 _ 0 Z _ rfl g1 (by simp; omega)
  have hCv : C = padV l := by
    apply Array.ext'
    have e : Z.toList = List.replicate 48 (Value.int .i64 0) := by rw [hZ]
    rw [hC, e]
    exact pad_list hl _
  have hCs : C.size = 48 := by rw [hCv, padV]; simp; omega
  have g0' := box_keeps g0 hW.1 (by simp)
  have hb3 := below_keeps hb2 hW.1 hb2.size (fun b hb => by simp at hb; omega)
  have hC1 : C.all (·.oneCell') = true := by
    rw [hCv, padV]; simp only [Array.all_eq_true_iff_forall_mem, List.mem_toArray, List.mem_append]
    intro x hx
    rcases hx with hx | hx
    · exact ints_one l x hx
    · rw [(List.mem_replicate.1 hx).2]; rfl
  have hcz : (Tryd.prog.info? 173).map (·.size) = some C.size := by rw [hs, hCs]
  refine wpList_nil ?_
  refine wp_seq (wp_region_lit (wpList_val rfl (xop_load rfl (v := .agg C) (w' := w3) ?h4) (wpList_skip rfl (w' := w3.setRow w.heap.size C) (xop_store rfl ?h5) (wpList_nil ?_))))
  case h4 =>
    have := run_loadVar_row (P := Tryd.prog) w3 (w.heap.size + 1) _ _ C (0, 0) _ g1' under48 rfl hcz
    simp only [Instr.loadAt, Act.eval, Instr.sureAddr, Sem.run_bind, Result.andThen]
    exact this
  case h5 =>
    have := run_storeVar_row (P := Tryd.prog) w3 w.heap.size _ _ Z C g0' hcz (by rw [hZs, hCs]) hC1
    simp only [Instr.storeAt, Instr.sureAddr, Sem.run_bind, Result.andThen]
    exact this
  refine wp_ret ?_
  have g5 := setRow_heap w3 w.heap.size Z C _ _ g0'
  refine bodyPost_ret (results_cell_row rfl _ _ w.heap.size _ C (0, 0) _ rfl g5 under48 rfl hcz) rfl ?_
  exact ⟨by rw [hCv], below_keeps (S := fun b => b = w.heap.size) hb3 ⟨rfl, rfl, rfl, by simp, fun k _ hk => setRow_other w3 _ k _ (fun e => hk e)⟩ hb3.size (fun b hb => by omega)⟩
end Go.Proofs.YtahnhblodfdfhaaDoor

namespace Go.Proofs.YtahnhblodfdfhaaDoor
open Go.RowKit
theorem box4 {w : World} {B : Nat} {x y z u : Value} {t : TypeId} (h : w.heap[B]? = some (.cells #[x, y, z, u] t)) :
    (w.cell? ⟨B, 0, none⟩ = some x ∧ w.cell? ⟨B, 1, none⟩ = some y ∧ w.cell? ⟨B, 2, none⟩ = some z ∧ w.cell? ⟨B, 3, none⟩ = some u) ∧ (w.frozen? ⟨B, 0, none⟩ = false ∧ w.frozen? ⟨B, 1, none⟩ = false ∧ w.frozen? ⟨B, 2, none⟩ = false ∧ w.frozen? ⟨B, 3, none⟩ = false) := by
  refine ⟨⟨?_, ?_, ?_, ?_⟩, ?_, ?_, ?_, ?_⟩ <;> simp [World.cell?, World.frozen?, h]
abbrev tOp : TypeId := 194
set_option maxRecDepth 8000 in
set_option maxHeartbeats 2000000 in
theorem applyX_any (p : Int) (r q m : Nat) (A : Option Addr) (cap : Nat) (L : List (List Int)) (fp : List Nat) (w : World) (h : RwF w A cap L fp) (hm : L.length = m) (hr : r < m) (hq : q < m) (_hml : m ≤ 1048576) :
    Calls Tryd.prog 182 #[.agg #[.int .i64 0, .int .i64 r, .int .i64 q, .int .i64 0], .int .i64 p, .slice A m cap] w fun e w' => e = .returned (.tuple #[]) ∧ RwF w' A cap (swapL L r q) fp ∧ Keeps (· ∈ fp) w w' := by
  have hbw : Below w.heap.size w (w.alloc (.cells #[.int .i64 0, .int .i64 r, .int .i64 q, .int .i64 0] tOp)) := (Below.refl _ _).alloc (Nat.le_refl _) _
  obtain ⟨W, hW⟩ : ∃ W, W = w.alloc (.cells #[.int .i64 0, .int .i64 r, .int .i64 q, .int .i64 0] tOp) := ⟨_, rfl⟩
  have hk : W.heap[w.heap.size]? = some (.cells #[.int .i64 0, .int .i64 r, .int .i64 q, .int .i64 0] tOp) := by rw [hW]; exact heap_alloc_new w _
  obtain ⟨⟨c0, c1, c2, c3⟩, f0, f1, f2, f3⟩ := box4 hk
  rw [← hW] at hbw
  have hR := h.below hbw
  obtain ⟨ad0, _, _, hA0, hc0, _⟩ := h.get (i := r) (by omega)
  have hlt := World.block_lt_of_cell? w _ hc0
  rw [block_of_add] at hlt
  obtain ⟨ad, B, c, hA, hcr, hfr, _⟩ := hR.get (i := r) (by omega)
  rw [hA] at hA0
  obtain rfl := Option.some.inj hA0
  subst hA
  obtain ⟨ad', C, d, hA', hcq, hfq, _⟩ := hR.get (i := q) (by omega)
  obtain rfl := Option.some.inj hA'
  obtain ⟨nr, hnr⟩ : ∃ nr, nr = (L.getD r []).length := ⟨_, rfl⟩
  obtain ⟨nq, hnq⟩ : ∃ nq, nq = (L.getD q []).length := ⟨_, rfl⟩
  rw [← hnr] at hcr
  rw [← hnq] at hcq
  have hsw := hR.drew.swap (r := r) (k := q) (by omega) (by omega) rfl (V := .slice C nq d) (U := .slice B nr c) hcq hcr
  have HSW := Lib.hid hsw
  have HB := Lib.hid hbw
  have hrI : (r : Int) < (m : Int) := by omega
  have hqI : (q : Int) < (m : Int) := by omega
  have hdc1 : W.drew.cell? (ad.add r) = some (.slice B nr c) := hcr
  have hdc2 : W.drew.cell? (ad.add q) = some (.slice C nq d) := hcq
  have hdf1 : W.drew.frozen? (ad.add r) = false := hfr
  have hdf2 : W.drew.frozen? (ad.add q) = false := hfq
  have e1 : W.drew.cell? ⟨w.heap.size, 1, none⟩ = some (.int .i64 r) := c1
  have e2 : W.drew.cell? ⟨w.heap.size, 2, none⟩ = some (.int .i64 q) := c2
  have hst1 : (W.drew.setCell (ad.add r) (.slice C nq d)).cell? ⟨w.heap.size, 1, none⟩ = some (.int .i64 r) := (World.cell?_setCell_far _ _ _ _ (by rw [block_of_add]; show ad.block ≠ w.heap.size; omega)).trans c1
  have hst2 : (W.drew.setCell (ad.add r) (.slice C nq d)).cell? ⟨w.heap.size, 2, none⟩ = some (.int .i64 q) := (World.cell?_setCell_far _ _ _ _ (by rw [block_of_add]; show ad.block ≠ w.heap.size; omega)).trans c2
  have hst3 : ((W.drew.setCell (ad.add r) (.slice C nq d)).setCell (ad.add q) (.slice B nr c)).cell? ⟨w.heap.size, 1, none⟩ = some (.int .i64 r) := (World.cell?_setCell_far _ _ _ _ (by rw [block_of_add]; show ad.block ≠ w.heap.size; omega)).trans hst1
  have hst4 : ((W.drew.setCell (ad.add r) (.slice C nq d)).setCell (ad.add q) (.slice B nr c)).cell? ⟨w.heap.size, 2, none⟩ = some (.int .i64 q) := (World.cell?_setCell_far _ _ _ _ (by rw [block_of_add]; show ad.block ≠ w.heap.size; omega)).trans hst2
  have hcq2 : ((W.setCell (ad.add r) (.slice C nq d)).cell? (ad.add q)).isSome = true := by
    by_cases e : ad.add r = ad.add q
    · rw [e, World.cell?_setCell_same' _ _ _ (by rw [hcq]; rfl)]; rfl
    · rw [World.cell?_setCell_other _ _ _ _ e, hcq]; rfl
  obtain ⟨V2, hcq2⟩ := Option.isSome_iff_exists.1 hcq2
  clear hk hR h hsw hnr hnq hc0 hbw
  go_enter Tryd.func182, Tryd.ntmps182
  go_wp2_with (fail)
  rw [← hW]
  clear hW
  refine beginH (fun w' => w'.cell? ⟨w.heap.size, 1, none⟩ = some (.int .i64 r) ∧ w'.cell? ⟨w.heap.size, 2, none⟩ = some (.int .i64 q)) (by kernel_rfl) ?_
  refine takeH 0 (v := ?_) rfl (by kernel_rfl) (by kernel_rfl) (by kernel_rfl) (fun _ _ _ h => h) ⟨c1, c2⟩ (by rfl) (fun W' hW' => ?_) ?_; rotate_left; · (obtain ⟨c1, c2⟩ := hW'; go_simp; first | done | with_reducible rfl)
  simp only [Act.put, List.setIfInBounds_toArray, List.set_cons_zero, List.set_cons_succ]
  refine takeH 1 (v := ?_) rfl (by kernel_rfl) (by kernel_rfl) (by kernel_rfl) (fun _ _ _ h => h) ⟨c1, c2⟩ (by rfl) (fun W' hW' => ?_) ?_; rotate_left; · (obtain ⟨c1, c2⟩ := hW'; go_simp; first | done | with_reducible rfl)
  simp only [Act.put, List.setIfInBounds_toArray, List.set_cons_zero, List.set_cons_succ]
  refine takeH 2 (v := ?_) rfl (by kernel_rfl) (by kernel_rfl) (by kernel_rfl) (fun _ _ _ h => h) ⟨c1, c2⟩ (by rfl) (fun W' hW' => ?_) ?_; rotate_left; · (obtain ⟨c1, c2⟩ := hW'; go_simp; first | done | with_reducible rfl)
  simp only [Act.put, List.setIfInBounds_toArray, List.set_cons_zero, List.set_cons_succ]
  refine takeH 3 (v := ?_) rfl (by kernel_rfl) (by kernel_rfl) (by kernel_rfl) (fun _ _ _ h => h) ⟨c1, c2⟩ (by rfl) (fun W' hW' => ?_) ?_; rotate_left; · (obtain ⟨c1, c2⟩ := hW'; go_simp; first | done | with_reducible rfl)
  simp only [Act.put, List.setIfInBounds_toArray, List.set_cons_zero, List.set_cons_succ]
  refine takeH 4 (v := ?_) rfl (by kernel_rfl) (by kernel_rfl) (by kernel_rfl) (fun _ _ _ h => h) ⟨c1, c2⟩ (by rfl) (fun W' hW' => ?_) ?_; rotate_left; · (obtain ⟨c1, c2⟩ := hW'; go_simp; first | done | with_reducible rfl)
  simp only [Act.put, List.setIfInBounds_toArray, List.set_cons_zero, List.set_cons_succ]
  refine takeH 5 (v := ?_) rfl (by kernel_rfl) (by kernel_rfl) (by kernel_rfl) (fun _ _ _ h => h) ⟨c1, c2⟩ (by rfl) (fun W' hW' => ?_) ?_; rotate_left; · (obtain ⟨c1, c2⟩ := hW'; go_simp; first | done | with_reducible rfl)
  simp only [Act.put, List.setIfInBounds_toArray, List.set_cons_zero, List.set_cons_succ]
  refine takeH 6 (v := ?_) rfl (by kernel_rfl) (by kernel_rfl) (by kernel_rfl) (fun _ _ _ h => h) ⟨c1, c2⟩ (by rfl) (fun W' hW' => ?_) ?_; rotate_left; · (obtain ⟨c1, c2⟩ := hW'; go_simp; first | done | with_reducible rfl)
  simp only [Act.put, List.setIfInBounds_toArray, List.set_cons_zero, List.set_cons_succ]
  refine takeH 7 (v := ?_) rfl (by kernel_rfl) (by kernel_rfl) (by kernel_rfl) (fun _ _ _ h => h) ⟨c1, c2⟩ (by rfl) (fun W' hW' => ?_) ?_; rotate_left; · (obtain ⟨c1, c2⟩ := hW'; go_simp; first | done | with_reducible rfl)
  simp only [Act.put, List.setIfInBounds_toArray, List.set_cons_zero, List.set_cons_succ]
  refine takeH 8 (v := ?_) rfl (by kernel_rfl) (by kernel_rfl) (by kernel_rfl) (fun _ _ _ h => h) ⟨c1, c2⟩ (by rfl) (fun W' hW' => ?_) ?_; rotate_left; · (obtain ⟨c1, c2⟩ := hW'; go_simp; first | done | with_reducible rfl)
  simp only [Act.put, List.setIfInBounds_toArray, List.set_cons_zero, List.set_cons_succ]
  refine takeH 9 (v := ?_) rfl (by kernel_rfl) (by kernel_rfl) (by kernel_rfl) (fun _ _ _ h => h) ⟨c1, c2⟩ (by rfl) (fun W' hW' => ?_) ?_; rotate_left; · (obtain ⟨c1, c2⟩ := hW'; go_simp; first | done | with_reducible rfl)
  simp only [Act.put, List.setIfInBounds_toArray, List.set_cons_zero, List.set_cons_succ]
  refine takeH 11 (v := ?_) rfl (by kernel_rfl) (by kernel_rfl) (by kernel_rfl) (fun _ _ _ h => h) ⟨c1, c2⟩ (by rfl) (fun W' hW' => ?_) ?_; rotate_left; · (obtain ⟨c1, c2⟩ := hW'; go_simp; first | done | with_reducible rfl)
  simp only [Act.put, List.setIfInBounds_toArray, List.set_cons_zero, List.set_cons_succ]
  refine takeH 12 (v := ?_) rfl (by kernel_rfl) (by kernel_rfl) (by kernel_rfl) (fun _ _ _ h => h) ⟨c1, c2⟩ (by rfl) (fun W' hW' => ?_) ?_; rotate_left; · (obtain ⟨c1, c2⟩ := hW'; go_simp; first | done | with_reducible rfl)
  simp only [Act.put, List.setIfInBounds_toArray, List.set_cons_zero, List.set_cons_succ]
  refine takeH 13 (v := ?_) rfl (by kernel_rfl) (by kernel_rfl) (by kernel_rfl) (fun _ _ _ h => h) ⟨c1, c2⟩ (by rfl) (fun W' hW' => ?_) ?_; rotate_left; · (obtain ⟨c1, c2⟩ := hW'; go_simp; first | done | with_reducible rfl)
  simp only [Act.put, List.setIfInBounds_toArray, List.set_cons_zero, List.set_cons_succ]
  refine takeH 14 (v := ?_) rfl (by kernel_rfl) (by kernel_rfl) (by kernel_rfl) (fun _ _ _ h => h) ⟨c1, c2⟩ (by rfl) (fun W' hW' => ?_) ?_; rotate_left; · (obtain ⟨c1, c2⟩ := hW'; go_simp; first | done | with_reducible rfl)
  simp only [Act.put, List.setIfInBounds_toArray, List.set_cons_zero, List.set_cons_succ]
  refine twoValH 10 15 (vi := .slice C nq d) (vj := .slice B nr c) rfl rfl (by decide) (by kernel_rfl) (by kernel_rfl) (by kernel_rfl) (by kernel_rfl) (by kernel_rfl) (by rfl) (by rfl) (by go_simp; first | done | with_reducible rfl) (by go_simp; first | done | with_reducible rfl) ⟨e1, e2⟩ ?_
  simp only [Act.put, List.setIfInBounds_toArray, List.set_cons_zero, List.set_cons_succ]
  refine oneH 16 rfl (by kernel_rfl) (by rfl) (fun K hK => ?_)
  go_simp
  refine hK _ _ ⟨e1, e2⟩ ?_
  clear hK K
  refine oneH 17 rfl (by kernel_rfl) (by rfl) (fun K hK => ?_)
  go_simp
  refine hK _ _ ⟨hst1, hst2⟩ ?_
  clear hK K
  refine oneH 18 rfl (by kernel_rfl) (by rfl) (fun K hK => ?_)
  go_simp
  refine hK _ _ ⟨hst1, hst2⟩ ?_
  clear hK K
  refine oneH 19 rfl (by kernel_rfl) (by rfl) (fun K hK => ?_)
  go_simp
  refine hK _ _ ⟨hst3, hst4⟩ ?_
  clear hK K
  refine doneH (by kernel_rfl) ?_
  go_wp2_with (fail)
  go_end0
  exact ⟨rfl, HSW.out.1, (Keeps.of_below HB.out _).trans ((Keeps.refl _ _).drew.trans HSW.out.2)⟩
set_option maxRecDepth 8000 in
set_option maxHeartbeats 2000000 in
theorem applyD_any (p by_ : Int) (r m nn : Nat) (A : Option Addr) (cap : Nat) (L : List (List Int)) (fp : List Nat) (w : World) (h : RwF w A cap L fp) (hm : Mat p m nn L) (hr : r < m) (_hml : m ≤ 1048576) (hnl : nn ≤ 1048576) (h2 : 2 ≤ p) (h97 : p ≤ 97) (hb0 : 0 ≤ by_) (hb1 : by_ < p) (hi0 : 0 ≤ invM p by_) (hi1 : invM p by_ < p) :
    Calls Tryd.prog 182 #[.agg #[.int .i64 1, .int .i64 r, .int .i64 0, .int .i64 by_], .int .i64 p, .slice A m cap] w fun e w' => e = .returned (.tuple #[]) ∧ RwF w' A cap (scaleL p r (invM p by_) L) fp ∧ Keeps (· ∈ fp) w w' := by
  obtain ⟨fq, h, hlt, hsub⟩ := h.lt
  have hml' := hm.len
  have hbw : Below w.heap.size w (w.alloc (.cells #[.int .i64 1, .int .i64 r, .int .i64 0, .int .i64 by_] tOp)) := (Below.refl _ _).alloc (Nat.le_refl _) _
  obtain ⟨W, hW⟩ : ∃ W, W = w.alloc (.cells #[.int .i64 1, .int .i64 r, .int .i64 0, .int .i64 by_] tOp) := ⟨_, rfl⟩
  have hk : W.heap[w.heap.size]? = some (.cells #[.int .i64 1, .int .i64 r, .int .i64 0, .int .i64 by_] tOp) := by rw [hW]; exact heap_alloc_new w _
  obtain ⟨⟨c0, c1, c2, c3⟩, f0, f1, f2, f3⟩ := box4 hk
  rw [← hW] at hbw
  have hR := h.below hbw
  obtain ⟨ad, B, c, hA, hcr, hfr, _, _⟩ := hR.get (i := r) (by omega)
  obtain ⟨V, hV⟩ : ∃ V, V = L.getD r [] := ⟨_, rfl⟩
  have hVl : V.length = nn := by rw [hV]; exact (hm.get hr).1
  have hVr : Res p V := by rw [hV]; exact (hm.get hr).2
  rw [← hV, hVl] at hcr
  subst hA
  have hout := hR.outer (i := r) (by omega) rfl hcr
  obtain ⟨iv, hiv⟩ : ∃ iv, iv = invM p by_ := ⟨_, rfl⟩
  have hI := fun w => inverse_any p by_ w h2 h97 hb0 hb1
  rw [← hiv] at hI hi0 hi1
  have HI := Lib.hid hI
  have HV := Lib.hid hV
  have HVl := Lib.hid hVl
  have HIV := Lib.hid hiv
  have HM := Lib.hid hml'
  have HB := Lib.hid hbw
  have HLT := Lib.hid hlt
  have HSUB := Lib.hid hsub
  have HOUT := Lib.hid hout
  have hrI : (r : Int) < (m : Int) := by omega
  clear hk h hV hVl hiv hI hml' hbw hlt hsub hout
  go_enter Tryd.func182, Tryd.ntmps182
  go_wp2_with (fail)
  rw [← hW]
  clear hW
  refine (HI.out _).mono ?_
  rintro e w' ⟨rfl, rfl⟩
  go_wp2_with (fail)
  go_loopw [43] (fun i wr => ∃ j : Nat, j ≤ nn ∧ i = .int .i64 j ∧ RwF wr (some ad) cap (L.set r ((scaleV p iv V).take j ++ V.drop j)) fq ∧ Keeps (· ∈ fq) W wr ∧ wr.cell? (ad.add r) = some (.slice B nn c)) (fun i _ => nn - (intOf i).toNat)
  case atStart => exact ⟨0, Nat.zero_le _, rfl, by rw [List.take_zero, List.nil_append, List.drop_zero, HV.out, set_getD]; exact hR, Keeps.refl _ _, hcr⟩
  case round =>
    obtain ⟨j, hj, rfl, hOj, hkp, hcj⟩ := hrel
    clear hR hcr hfr
    have hlc : ((scaleV p iv V).take j ++ V.drop j).length = nn := by rw [len_take_drop (by rw [scaleV_length]) (by rw [HVl.out]; exact hj)]; exact HVl.out
    have hm' := HM.out
    by_cases hjn : j < nn
    · obtain ⟨ad4, B4, c4, hA4, hc4, hf4, hI4, _⟩ := hOj.get (i := r) (by rw [List.length_set]; omega)
      obtain rfl := Option.some.inj hA4
      rw [getD_set_self (by omega)] at hc4 hI4
      rw [hlc, hcj] at hc4
      injection hc4 with hc4
      injection hc4 with e1 e2 e3
      subst e1 e3
      obtain ⟨bd, z, hB, hz, hbl, hcz, hfz'⟩ := hI4.at_ (j := j) (by rw [hlc]; exact hjn)
      rw [get_take_drop (by rw [scaleV_length]) (by rw [HVl.out]; exact hjn)] at hz
      have hfz := hfz' j
      have hzb := hVr z (List.mem_of_getElem? hz)
      subst hB
      have hd1 : wr.cell? ⟨w.heap.size, 1, none⟩ = some (.int .i64 r) := keeps_cell hkp c1 (fun hh => by have := HLT.out _ hh; exact absurd this (Nat.lt_irrefl _))
      obtain ⟨hset, hks⟩ := hOj.set (i := r) (by rw [List.length_set]; omega) rfl hcj (j := j) (by rw [getD_set_self (by omega), hlc]; exact hjn) (z * iv % p)
      have hsz : (scaleV p iv V)[j]? = some (z * iv % p) := by simp [scaleV, hz]
      rw [getD_set_self (by omega), List.set_set, take_append_step (by rw [scaleV_length]) hsz] at hset
      have hcn : (wr.setCell (bd.add j) (.int .i64 (z * iv % p))).cell? (ad.add r) = some (.slice (some bd) nn c) := (World.cell?_setCell_far _ _ _ _ (by rw [block_of_add, block_of_add]; exact HOUT.out _ (by simp))).trans hcj
      have HST := Lib.hid (And.intro hset.drew (And.intro (hkp.trans hks).drew hcn))
      have hjI : (j : Int) < (nn : Int) := by omega
      obtain ⟨x1, x2⟩ := mul_bound (a := z) (b := iv) hzb.1 (by omega) hi0 (by omega)
      have hp0 : (p == 0) = false := by rw [beq_eq_false_iff_ne]; omega
      clear hset hsz hz hI4 hfz' hlc hOj hm' hkp hks hcn
      go_wp2_with (fail)
      refine wp_region_still_tail 11 (by kernel_rfl) (by kernel_rfl) ?_
      simp only [List.take_succ_cons, List.take_zero, List.drop_succ_cons, List.drop_zero]
      change wpStill _ _ wr.drew (fun a' => wpList _ _ _ _ a' wr.drew) _ _
      have q1 := Int.emod_nonneg (z * iv) (show p ≠ 0 by omega)
      have q2 := Int.emod_lt_of_pos (z * iv) (show 0 < p by omega)
      have ws : IntKind.i64.wrap (z * iv) = z * iv := IntWalk.i64_in _ (by omega)
      have ws2 : IntKind.i64.wrap (z * iv % p) = z * iv % p := IntWalk.i64_in _ (by omega)
      have tm : (z * iv).tmod p = z * iv % p := Int.tmod_eq_emod_of_nonneg x1
      have hpz : ¬ p = 0 := by omega
      repeat still_step
      refine wpStill_nil ?_
      clear ws ws2 tm hpz
      go_wp2_with (fail)
      go_roundw
      case rel => exact ⟨j + 1, by omega, by go_num, HST.out.1, HST.out.2.1, HST.out.2.2⟩
      case measure => simp [intOf]; omega
    · obtain rfl : nn = j := by omega
      have hO2 : RwF wr (some ad) cap (scaleL p r (invM p by_) L) fp := by
        have := hOj
        rw [List.take_of_length_le (by rw [scaleV_length, HVl.out]; omega), List.drop_of_length_le (by rw [HVl.out]; omega), List.append_nil, HV.out, HIV.out] at this
        obtain ⟨hs, e1, e2, e3⟩ := this
        exact ⟨hs, e1, e2, fun b hb => HSUB.out b (e3 b hb)⟩
      have hkk : Keeps (· ∈ fp) w wr := (Keeps.of_below HB.out _).trans (hkp.mono fun b _ hb => HSUB.out b hb)
      clear hOj hlc hm'
      go_wp2_with (fail)
      go_end0
      exact ⟨rfl, hO2, hkk⟩
set_option maxRecDepth 8000 in
set_option maxHeartbeats 2000000 in
theorem applyS_any (p by_ : Int) (i r m nn : Nat) (A : Option Addr) (cap : Nat) (L : List (List Int)) (fp : List Nat) (w : World) (h : RwF w A cap L fp) (hm : Mat p m nn L) (hi : i < m) (hr : r < m) (hne : i ≠ r) (_hml : m ≤ 1048576) (hnl : nn ≤ 1048576) (h2 : 2 ≤ p) (h97 : p ≤ 97) (hb0 : 0 ≤ by_) (hb1 : by_ < p) :
    Calls Tryd.prog 182 #[.agg #[.int .i64 2, .int .i64 i, .int .i64 r, .int .i64 by_], .int .i64 p, .slice A m cap] w fun e w' => e = .returned (.tuple #[]) ∧ RwF w' A cap (L.set i (addT p (L.getD i []) (-by_) (L.getD r []))) fp ∧ Keeps (· ∈ fp) w w' := by
  have hml' := hm.len
  have hbw : Below w.heap.size w (w.alloc (.cells #[.int .i64 2, .int .i64 i, .int .i64 r, .int .i64 by_] tOp)) := (Below.refl _ _).alloc (Nat.le_refl _) _
  obtain ⟨W, hW⟩ : ∃ W, W = w.alloc (.cells #[.int .i64 2, .int .i64 i, .int .i64 r, .int .i64 by_] tOp) := ⟨_, rfl⟩
  have hk : W.heap[w.heap.size]? = some (.cells #[.int .i64 2, .int .i64 i, .int .i64 r, .int .i64 by_] tOp) := by rw [hW]; exact heap_alloc_new w _
  obtain ⟨⟨c0, c1, c2, c3⟩, f0, f1, f2, f3⟩ := box4 hk
  rw [← hW] at hbw
  have hR := h.below hbw
  obtain ⟨ad, B, c, hA, hci, hfi, hIi, _⟩ := hR.get (i := i) (by omega)
  subst hA
  obtain ⟨ad', C, d, hA', hcr, hfr, hIr, _⟩ := hR.get (i := r) (by omega)
  obtain rfl := Option.some.inj hA'
  have hap := hR.apart (i := r) (k := i) (by omega) (by omega) (Ne.symm hne) rfl hcr hci
  have hli := (hm.get hi).1
  have hlr := (hm.get hr).1
  have hC := addTimes_any p (-by_) B C c d (L.getD i []) (L.getD r []) W.drew hIi hIr.rd (fun _ b hb => hap b hb) (by omega) (by omega) (by omega) h97 (hm.get hi).2 (hm.get hr).2 (by omega) (by omega)
  rw [hli, hlr] at hC
  rw [hli] at hci
  rw [hlr] at hcr
  have HW := Lib.hid (fun (w' : World) (hw : Wr W.drew w' B (ints (addT p (L.getD i []) (-by_) (L.getD r [])))) => hR.drew.wr (i := i) (by omega) rfl hci (l' := addT p (L.getD i []) (-by_) (L.getD r [])) (by rw [addT_length]) hw)
  have HC := Lib.hid hC
  have HB := Lib.hid hbw
  have hrI : (r : Int) < (m : Int) := by omega
  have hiI : (i : Int) < (m : Int) := by omega
  clear hk h hC hml' hbw hR hIi hIr hap hli hlr hfi hfr
  go_enter Tryd.func182, Tryd.ntmps182
  go_wp2_with (fail)
  rw [← hW]
  clear hW
  refine wp_region_still_tail 14 (by kernel_rfl) (by kernel_rfl) ?_
  simp only [List.take_succ_cons, List.take_zero, List.drop_succ_cons, List.drop_zero]
  change wpStill _ _ W.drew (fun a' => wpList _ _ _ _ a' W.drew) _ _
  repeat still_step
  refine wpStill_nil ?_
  go_wp2_with (fail)
  refine HC.out.mono ?_
  rintro e w' ⟨rfl, hw⟩
  obtain ⟨h1, h2⟩ := HW.out w' hw
  go_wp2_with (fail)
  go_end0
  exact ⟨rfl, h1, (Keeps.of_below HB.out _).trans ((Keeps.refl _ _).drew.trans h2)⟩
end Go.Proofs.YtahnhblodfdfhaaDoor
namespace Go.Proofs.YtahnhblodfdfhaaDoor
open Go.RowKit
/-- What the closure has captured, and the two lists of rows. -/
structure Cap (w : World) (p : Int) (P4 P5 P7 : Nat) (A : Option Addr) (cap : Nat) (L : List (List Int)) (fp : List Nat) (A' : Option Addr) (cap' : Nat) (K : List (List Int)) (fp' : List Nat) (m : Nat) : Prop where
  c4 : w.cell? ⟨P4, 0, none⟩ = some (.int .i64 p)
  c5 : w.cell? ⟨P5, 0, none⟩ = some (.slice A m cap)
  c7 : w.cell? ⟨P7, 0, none⟩ = some (.slice A' m cap')
  rows : RwF w A cap L fp
  also : RwF w A' cap' K fp'
  ap : ∀ b, b ∈ fp → ¬ b ∈ fp'
  n4 : ¬ P4 ∈ fp ∧ ¬ P4 ∈ fp'
  n5 : ¬ P5 ∈ fp ∧ ¬ P5 ∈ fp'
  n7 : ¬ P7 ∈ fp ∧ ¬ P7 ∈ fp'
section
variable {w w' : World} {p : Int} {P4 P5 P7 : Nat} {A : Option Addr} {cap : Nat} {L L' : List (List Int)} {fp : List Nat} {A' : Option Addr} {cap' : Nat} {K K' : List (List Int)} {fp' : List Nat} {m : Nat}
theorem Cap.below (h : Cap w p P4 P5 P7 A cap L fp A' cap' K fp' m) (hb : Below w.heap.size w w') : Cap w' p P4 P5 P7 A cap L fp A' cap' K fp' m :=
  ⟨(hb.cell (World.block_lt_of_cell? _ _ h.c4)).trans h.c4, (hb.cell (World.block_lt_of_cell? _ _ h.c5)).trans h.c5, (hb.cell (World.block_lt_of_cell? _ _ h.c7)).trans h.c7, h.rows.below hb, h.also.below hb, h.ap, h.n4, h.n5, h.n7⟩
theorem Cap.first (h : Cap w p P4 P5 P7 A cap L fp A' cap' K fp' m) (hR : RwF w' A cap L' fp) (hk : Keeps (· ∈ fp) w w') : Cap w' p P4 P5 P7 A cap L' fp A' cap' K fp' m :=
  ⟨keeps_cell hk h.c4 h.n4.1, keeps_cell hk h.c5 h.n5.1, keeps_cell hk h.c7 h.n7.1, hR, h.also.keeps hk fun b hb hb' => h.ap b hb' hb, h.ap, h.n4, h.n5, h.n7⟩
theorem Cap.second (h : Cap w p P4 P5 P7 A cap L fp A' cap' K fp' m) (hR : RwF w' A' cap' K' fp') (hk : Keeps (· ∈ fp') w w') : Cap w' p P4 P5 P7 A cap L fp A' cap' K' fp' m :=
  ⟨keeps_cell hk h.c4 h.n4.2, keeps_cell hk h.c5 h.n5.2, keeps_cell hk h.c7 h.n7.2, h.rows.keeps hk fun b hb hb' => h.ap b hb hb', hR, h.ap, h.n4, h.n5, h.n7⟩
end
theorem swapL_self (L : List (List Int)) (r : Nat) : swapL L r r = L := by
  unfold swapL; rw [set_getD, set_getD]
set_option maxRecDepth 8000 in
set_option maxHeartbeats 2000000 in
theorem stepX_any (p : Int) (r q m : Nat) (P4 P5 P7 : Nat) (A : Option Addr) (cap : Nat) (L : List (List Int)) (fp : List Nat) (A' : Option Addr) (cap' : Nat) (K : List (List Int)) (fp' : List Nat) (w : World)
    (h : Cap w p P4 P5 P7 A cap L fp A' cap' K fp' m) (hL : L.length = m) (hK : K.length = m) (hr : r < m) (hq : q < m) (hm : m ≤ 1048576) (hnf : ¬ w.heap.size ∈ fp) :
    Calls Tryd.prog 181 #[.agg #[.int .i64 0, .int .i64 r, .int .i64 q, .int .i64 0], .pointer (some ⟨P4, 0, none⟩), .pointer (some ⟨P5, 0, none⟩), .pointer (some ⟨P7, 0, none⟩)] w
      fun e w' => e = .returned (.tuple #[]) ∧ Cap w' p P4 P5 P7 A cap (swapL L r q) fp A' cap' (swapL K r q) fp' m ∧ Keeps (fun b => b ∈ fp ∨ b ∈ fp') w w' := by
  have hbw : Below w.heap.size w (w.alloc (.cells #[.int .i64 0, .int .i64 r, .int .i64 q, .int .i64 0] tOp)) := (Below.refl _ _).alloc (Nat.le_refl _) _
  by_cases hrq : r = q
  · subst hrq
    go_enter Tryd.func181, Tryd.ntmps181
    go_wp2_with (fail)
    refine bodyPost_ret (results_none rfl _ _ _) rfl ?_
    refine ⟨rfl, ?_, Keeps.of_below hbw _⟩
    rw [swapL_self, swapL_self]
    exact h.below hbw
  · have hne : ((q : Int) == (r : Int)) = false := by rw [beq_eq_false_iff_ne]; omega
    have hne2 : ((r : Int) == (q : Int)) = false := by rw [beq_eq_false_iff_ne]; omega
    clear hbw
    have hbw : Below w.heap.size w (w.alloc (.cells #[.int .i64 0, .int .i64 r, .int .i64 q, .int .i64 0] tOp)) := (Below.refl _ _).alloc (Nat.le_refl _) _
    have hW := h.below hbw
    have HB := Lib.hid hbw
    have HC := Lib.hid hW
    have d4 := hW.c4
    have d5 := hW.c5
    have d7 := hW.c7
    clear hbw hW h
    go_enter Tryd.func181, Tryd.ntmps181
    go_wp2_with (fail)
    refine (applyX_any p r q m A cap L fp _ HC.out.rows hL hr hq hm).mono ?_
    rintro e w1 ⟨rfl, h1, k1⟩
    have hF := HC.out.first h1 k1
    have HF := Lib.hid hF
    have e4 := hF.c4
    have e5 := hF.c5
    have e7 := hF.c7
    obtain ⟨g0, g1, g2, g3⟩ : w1.cell? ⟨w.heap.size, 0, none⟩ = some (.int .i64 0) ∧ w1.cell? ⟨w.heap.size, 1, none⟩ = some (.int .i64 r) ∧ w1.cell? ⟨w.heap.size, 2, none⟩ = some (.int .i64 q) ∧ w1.cell? ⟨w.heap.size, 3, none⟩ = some (.int .i64 0) := by
      obtain ⟨⟨a0, a1, a2, a3⟩, _⟩ := box4 (heap_alloc_new w (.cells #[.int .i64 0, .int .i64 r, .int .i64 q, .int .i64 0] tOp))
      exact ⟨keeps_cell k1 a0 hnf, keeps_cell k1 a1 hnf, keeps_cell k1 a2 hnf, keeps_cell k1 a3 hnf⟩
    clear d4 d5 d7 hF h1
    go_wp2_with (fail)
    refine (applyX_any p r q m A' cap' K fp' _ HF.out.also hK hr hq hm).mono ?_
    rintro e w2 ⟨rfl, h2, k2⟩
    go_wp2_with (fail)
    go_end0
    exact ⟨rfl, HF.out.second h2 k2, (Keeps.of_below HB.out _).trans ((k1.mono fun b _ hb => .inl hb).trans (k2.mono fun b _ hb => .inr hb))⟩
set_option maxRecDepth 8000 in
set_option maxHeartbeats 2000000 in
theorem stepD_any (p by_ : Int) (r : Nat) (m nn n2 : Nat) (P4 P5 P7 : Nat) (A : Option Addr) (cap : Nat) (L : List (List Int)) (fp : List Nat) (A' : Option Addr) (cap' : Nat) (K : List (List Int)) (fp' : List Nat) (w : World)
    (h : Cap w p P4 P5 P7 A cap L fp A' cap' K fp' m) (hL : Mat p m nn L) (hK : Mat p m n2 K) (hr : r < m) (hm : m ≤ 1048576) (hnl : nn ≤ 1048576) (hn2 : n2 ≤ 1048576) (h2 : 2 ≤ p) (h97 : p ≤ 97) (hb0 : 0 ≤ by_) (hb1 : by_ < p) (hi0 : 0 ≤ invM p by_) (hi1 : invM p by_ < p) (hnf : ¬ w.heap.size ∈ fp) :
    Calls Tryd.prog 181 #[.agg #[.int .i64 1, .int .i64 r, .int .i64 0, .int .i64 by_], .pointer (some ⟨P4, 0, none⟩), .pointer (some ⟨P5, 0, none⟩), .pointer (some ⟨P7, 0, none⟩)] w
      fun e w' => e = .returned (.tuple #[]) ∧ Cap w' p P4 P5 P7 A cap (scaleL p r (invM p by_) L) fp A' cap' (scaleL p r (invM p by_) K) fp' m ∧ Keeps (fun b => b ∈ fp ∨ b ∈ fp') w w' := by
  have hbw : Below w.heap.size w (w.alloc (.cells #[.int .i64 1, .int .i64 r, .int .i64 0, .int .i64 by_] tOp)) := (Below.refl _ _).alloc (Nat.le_refl _) _
  have hW := h.below hbw
  have HB := Lib.hid hbw
  have HC := Lib.hid hW
  have d4 := hW.c4
  have d5 := hW.c5
  have d7 := hW.c7
  clear hbw hW h
  go_enter Tryd.func181, Tryd.ntmps181
  go_wp2_with (fail)
  refine (applyD_any p by_ r m nn A cap L fp _ HC.out.rows hL hr hm hnl h2 h97 hb0 hb1 hi0 hi1).mono ?_
  rintro e w1 ⟨rfl, h1, k1⟩
  have hF := HC.out.first h1 k1
  have HF := Lib.hid hF
  have e4 := hF.c4
  have e5 := hF.c5
  have e7 := hF.c7
  obtain ⟨g0, g1, g2, g3⟩ : w1.cell? ⟨w.heap.size, 0, none⟩ = some (.int .i64 1) ∧ w1.cell? ⟨w.heap.size, 1, none⟩ = some (.int .i64 r) ∧ w1.cell? ⟨w.heap.size, 2, none⟩ = some (.int .i64 0) ∧ w1.cell? ⟨w.heap.size, 3, none⟩ = some (.int .i64 by_) := by
    obtain ⟨⟨a0, a1, a2, a3⟩, _⟩ := box4 (heap_alloc_new w (.cells #[.int .i64 1, .int .i64 r, .int .i64 0, .int .i64 by_] tOp))
    exact ⟨keeps_cell k1 a0 hnf, keeps_cell k1 a1 hnf, keeps_cell k1 a2 hnf, keeps_cell k1 a3 hnf⟩
  clear d4 d5 d7 hF h1
  go_wp2_with (fail)
  refine (applyD_any p by_ r m n2 A' cap' K fp' _ HF.out.also hK hr hm hn2 h2 h97 hb0 hb1 hi0 hi1).mono ?_
  rintro e w2 ⟨rfl, h2, k2⟩
  go_wp2_with (fail)
  go_end0
  exact ⟨rfl, HF.out.second h2 k2, (Keeps.of_below HB.out _).trans ((k1.mono fun b _ hb => .inl hb).trans (k2.mono fun b _ hb => .inr hb))⟩
set_option maxRecDepth 8000 in
set_option maxHeartbeats 2000000 in
theorem stepS_any (p by_ : Int) (i r : Nat) (m nn n2 : Nat) (P4 P5 P7 : Nat) (A : Option Addr) (cap : Nat) (L : List (List Int)) (fp : List Nat) (A' : Option Addr) (cap' : Nat) (K : List (List Int)) (fp' : List Nat) (w : World)
    (h : Cap w p P4 P5 P7 A cap L fp A' cap' K fp' m) (hL : Mat p m nn L) (hK : Mat p m n2 K) (hi : i < m) (hr : r < m) (hne : i ≠ r) (hm : m ≤ 1048576) (hnl : nn ≤ 1048576) (hn2 : n2 ≤ 1048576) (h2 : 2 ≤ p) (h97 : p ≤ 97) (hb0 : 0 ≤ by_) (hb1 : by_ < p) (hnf : ¬ w.heap.size ∈ fp) :
    Calls Tryd.prog 181 #[.agg #[.int .i64 2, .int .i64 i, .int .i64 r, .int .i64 by_], .pointer (some ⟨P4, 0, none⟩), .pointer (some ⟨P5, 0, none⟩), .pointer (some ⟨P7, 0, none⟩)] w
      fun e w' => e = .returned (.tuple #[]) ∧ Cap w' p P4 P5 P7 A cap (L.set i (addT p (L.getD i []) (-by_) (L.getD r []))) fp A' cap' (K.set i (addT p (K.getD i []) (-by_) (K.getD r []))) fp' m ∧ Keeps (fun b => b ∈ fp ∨ b ∈ fp') w w' := by
  have hbw : Below w.heap.size w (w.alloc (.cells #[.int .i64 2, .int .i64 i, .int .i64 r, .int .i64 by_] tOp)) := (Below.refl _ _).alloc (Nat.le_refl _) _
  have hW := h.below hbw
  have HB := Lib.hid hbw
  have HC := Lib.hid hW
  have d4 := hW.c4
  have d5 := hW.c5
  have d7 := hW.c7
  clear hbw hW h
  go_enter Tryd.func181, Tryd.ntmps181
  go_wp2_with (fail)
  refine (applyS_any p by_ i r m nn A cap L fp _ HC.out.rows hL hi hr hne hm hnl h2 h97 hb0 hb1).mono ?_
  rintro e w1 ⟨rfl, h1, k1⟩
  have hF := HC.out.first h1 k1
  have HF := Lib.hid hF
  have e4 := hF.c4
  have e5 := hF.c5
  have e7 := hF.c7
  obtain ⟨g0, g1, g2, g3⟩ : w1.cell? ⟨w.heap.size, 0, none⟩ = some (.int .i64 2) ∧ w1.cell? ⟨w.heap.size, 1, none⟩ = some (.int .i64 i) ∧ w1.cell? ⟨w.heap.size, 2, none⟩ = some (.int .i64 r) ∧ w1.cell? ⟨w.heap.size, 3, none⟩ = some (.int .i64 by_) := by
    obtain ⟨⟨a0, a1, a2, a3⟩, _⟩ := box4 (heap_alloc_new w (.cells #[.int .i64 2, .int .i64 i, .int .i64 r, .int .i64 by_] tOp))
    exact ⟨keeps_cell k1 a0 hnf, keeps_cell k1 a1 hnf, keeps_cell k1 a2 hnf, keeps_cell k1 a3 hnf⟩
  clear d4 d5 d7 hF h1
  go_wp2_with (fail)
  refine (applyS_any p by_ i r m n2 A' cap' K fp' _ HF.out.also hK hi hr hne hm hn2 h2 h97 hb0 hb1).mono ?_
  rintro e w2 ⟨rfl, h2, k2⟩
  go_wp2_with (fail)
  go_end0
  exact ⟨rfl, HF.out.second h2 k2, (Keeps.of_below HB.out _).trans ((k1.mono fun b _ hb => .inl hb).trans (k2.mono fun b _ hb => .inr hb))⟩
end Go.Proofs.YtahnhblodfdfhaaDoor

namespace Go.Proofs.YtahnhblodfdfhaaDoor
open Go.RowKit
theorem box1 {w : World} {B : Nat} {x : Value} {t : TypeId} (h : w.heap[B]? = some (.cells #[x] t)) : w.cell? ⟨B, 0, none⟩ = some x := by simp [World.cell?, h]
theorem pair_of {α β γ : Type} {x : α × β × γ} {a : α} {b : β} {c : γ} (h1 : x.1 = a) (h2 : x.2.1 = b) (h3 : x.2.2 = c) : x = (a, b, c) := by
  obtain ⟨x1, x2, x3⟩ := x; subst h1 h2 h3; rfl
set_option maxRecDepth 100000 in
set_option maxHeartbeats 4000000 in
theorem reduction_any (p : Int) (n m n2 : Nat) (A : Option Addr) (cap : Nat) (L : List (List Int)) (fp : List Nat) (A' : Option Addr) (cap' : Nat) (K : List (List Int)) (fp' : List Nat) (w : World) (hRL : RwF w A cap L fp) (hRK : RwF w A' cap' K fp') (hap : ∀ b, b ∈ fp → ¬ b ∈ fp')
    (hlf : LtL w.heap.size fp) (hlf' : LtL w.heap.size fp') (hp : fieldB p = true) (hmL : Mat p m n L) (hmK : Mat p m n2 K) (hm : m ≤ 1048576) (hn : n ≤ 1048576) (hn2 : n2 ≤ 1048576) :
    Calls Tryd.prog 158 #[.int .i64 p, .slice A m cap, .int .i64 n, .slice A' m cap'] w fun e w' => e = .returned (.int .i64 ((redTo p L K n).1 : Nat)) ∧ RwF w' A cap (redTo p L K n).2.1 fp ∧ RwF w' A' cap' (redTo p L K n).2.2 fp' ∧ Keeps (fun b => b ∈ fp ∨ b ∈ fp') w w' := by
  have hmf : ∀ (fn : Fn) (first cap : Array Value) (w : World), (Instr.makeFunc fn first cap).run Tryd.prog w = .ok (.func fn first cap) w := fun _ _ _ _ => rfl
  have hpb := fieldB_bounds hp
  have HP := Lib.hid hp
  have HML := Lib.hid hmL
  have HMK := Lib.hid hmK
  obtain ⟨W, hW⟩ : ∃ W, W = ((w.alloc (.cells #[.int .i64 p] 3)).alloc (.cells #[.slice A m cap] 22)).alloc (.cells #[.slice A' m cap'] 22) := ⟨_, rfl⟩
  have hBW : Below w.heap.size w W := by rw [hW]; exact (((Below.refl _ _).alloc (Nat.le_refl _) _).alloc (by simp) _).alloc (by simp; omega) _
  have hCap : Cap W p w.heap.size (w.heap.size + 1) (w.heap.size + 1 + 1) A cap L fp A' cap' K fp' m := by
    refine ⟨?_, ?_, ?_, hRL.below hBW, hRK.below hBW, hap, ⟨fun h => absurd (hlf _ h) (by omega), fun h => absurd (hlf' _ h) (by omega)⟩, ⟨fun h => absurd (hlf _ h) (by omega), fun h => absurd (hlf' _ h) (by omega)⟩, ⟨fun h => absurd (hlf _ h) (by omega), fun h => absurd (hlf' _ h) (by omega)⟩⟩
    · rw [hW, World.cell?_alloc_lt _ _ _ (by simp; omega), World.cell?_alloc_lt _ _ _ (by simp)]
      exact box1 (heap_alloc_new w _)
    · rw [hW, World.cell?_alloc_lt _ _ _ (by simp)]
      have := heap_alloc_new (w.alloc (.cells #[.int .i64 p] 3)) (.cells #[.slice A m cap] 22)
      rw [World.size_alloc] at this
      exact box1 this
    · rw [hW]
      have := heap_alloc_new ((w.alloc (.cells #[.int .i64 p] 3)).alloc (.cells #[.slice A m cap] 22)) (.cells #[.slice A' m cap'] 22)
      rw [World.size_alloc, World.size_alloc] at this
      exact box1 this
  have hnf : ∀ wr : World, Keeps (fun b => b ∈ fp ∨ b ∈ fp') W wr → ¬ wr.heap.size ∈ fp := fun wr hk hh => by
    have := hlf _ hh; have := hk.size; have := hBW.size; omega
  have HNF := Lib.hid hnf
  have HBW := Lib.hid hBW
  have HCap := Lib.hid hCap
  clear hRL hRK hap hlf hlf' hp hmL hmK hBW hCap hnf
  go_enter Tryd.func158, Tryd.ntmps158
  go_wp2_with (fail)
  rw [← hW]
  clear hW
  go_loopw [11, 9] (fun ci ri wr => ∃ (col R : Nat) (M K1 : List (List Int)), col ≤ n ∧ ci = .int .i64 col ∧ ri = .int .i64 R ∧ redTo p L K col = (R, M, K1) ∧ Mat p m n2 K1 ∧ Cap wr p w.heap.size (w.heap.size + 1) (w.heap.size + 1 + 1) A cap M fp A' cap' K1 fp' m ∧ Keeps (fun b => b ∈ fp ∨ b ∈ fp') W wr) (fun ci _ _ => n - (intOf ci).toNat)
  case atStart => exact ⟨0, 0, L, K, Nat.zero_le _, rfl, rfl, rfl, HMK.out, HCap.out, Keeps.refl _ _⟩
  case round =>
    obtain ⟨col, R, M, K1, hcol, rfl, rfl, hrt, hmK1, hC, hkp⟩ := hrel
    obtain ⟨hMm, hRm⟩ := redTo_mat HP.out HML.out K hcol
    rw [hrt] at hMm hRm
    have hMm : Mat p m n M := hMm
    have hRm : R ≤ m := hRm
    have HRT := Lib.hid hrt
    have HMm := Lib.hid hMm
    have HMl := Lib.hid hMm.len
    have HMK1 := Lib.hid hmK1
    have d5 := hC.c5
    have HC := Lib.hid hC
    have HKP := Lib.hid hkp
    clear hrt hMm hC hkp hmK1 HCap
    by_cases hgo : col < n ∧ R < m
    case neg =>
      have hend : redTo p L K n = (R, M, K1) := by
        by_cases hc : col < n
        · have hs := redTo_stable (p := p) (L := L) (A := K) (c := col) (by rw [HRT.out]; show M.length ≤ R; rw [HMl.out]; omega) (n - col)
          rw [show col + (n - col) = n by omega] at hs
          rw [hs, HRT.out]
        · obtain rfl : n = col := by omega
          exact HRT.out
      have HE := Lib.hid hend
      clear hend
      by_cases hc : col < n
      · have hRk : ¬ ((R : Int) < (m : Int)) := by omega
        go_wp2_with (fail)
        go_ret
        rw [HE.out]
        exact ⟨rfl, HC.out.rows, HC.out.also, (Keeps.of_below HBW.out _).trans HKP.out⟩
      · have hcI : ¬ ((col : Int) < (n : Int)) := by omega
        go_wp2_with (fail)
        go_ret
        rw [HE.out]
        exact ⟨rfl, HC.out.rows, HC.out.also, (Keeps.of_below HBW.out _).trans HKP.out⟩
    case pos =>
      obtain ⟨hcn, hRk⟩ := hgo
      have hcI : (col : Int) < (n : Int) := by omega
      have hRI : (R : Int) < (m : Int) := by omega
      go_wp2_with (fail)
      go_loop [12] (fun v => ∃ q : Nat, R ≤ q ∧ q ≤ m ∧ v = .int .i64 q ∧ pvFrom M col (m - q) q = pvFrom M col (m - R) R) (fun v => m - (intOf v).toNat)
      case atStart => exact ⟨R, Nat.le_refl _, by omega, rfl, rfl⟩
      case round =>
        obtain ⟨q, hRq, hqk, rfl, hpv⟩ := hrel
        have HPV := Lib.hid hpv
        clear hpv
        by_cases hlt : q < m
        · obtain ⟨ad, B, d, hA', hcq, hfq, hIq, _⟩ := HC.out.rows.get (i := q) (by rw [HMl.out]; exact hlt)
          have hrl := (HMm.out.get hlt).1
          obtain ⟨bd, x, hB, hx, _, hcx, _⟩ := hIq.at_ (j := col) (by rw [hrl]; exact hcn)
          have hxe : x = en M q col := by unfold en; simp [List.getD] at hx ⊢; rw [hx]; rfl
          have hxb := HMm.out.en (by omega) hlt col
          rw [← hxe] at hxb
          rw [hrl] at hcq
          have HXE := Lib.hid hxe
          have hqI : (q : Int) < (m : Int) := by omega
          subst hA'
          subst hB
          by_cases hx0 : x = 0
          · subst hx0
            have hpn := pvFrom_eq hlt HXE.out.symm
            have HPN := Lib.hid hpn
            clear hpn hxe hIq hrl hx hfq
            go_wp2_with (fail)
            go_round
            case rel => exact ⟨q + 1, by omega, by omega, by go_num, by rw [← HPN.out]; exact HPV.out⟩
            case measure => simp [intOf]; omega
          · have hx1 : (x == 0) = false := by rw [beq_eq_false_iff_ne]; exact hx0
            have hpn : pvFrom M col (m - R) R = q := by rw [← HPV.out]; exact pvFrom_hit hlt (by rw [← HXE.out]; exact hx0)
            have HPN := Lib.hid hpn
            have hX := stepX_any p R q m w.heap.size (w.heap.size + 1) (w.heap.size + 1 + 1) (some ad) cap M fp A' cap' K1 fp' wr HC.out HMl.out HMK1.out.len hRk hlt hm (HNF.out wr HKP.out)
            have HX := Lib.hid hX
            clear hX hpn HPV hxe hIq hrl hx hfq
            go_wp2_with (fail)
            refine HX.out.mono ?_
            clear HX
            rintro e w1 ⟨rfl, hC1, hk1⟩
            obtain ⟨S, hS⟩ : ∃ S, S = swapL M R q := ⟨_, rfl⟩
            obtain ⟨S1, hS1⟩ : ∃ S1, S1 = swapL K1 R q := ⟨_, rfl⟩
            rw [← hS, ← hS1] at hC1
            have hSm : Mat p m n S := by rw [hS]; exact HMm.out.swap hRk hlt
            have hS1m : Mat p m n2 S1 := by rw [hS1]; exact HMK1.out.swap hRk hlt
            have hSx : en S R col = x := by
              rw [HXE.out, hS]; unfold en
              rw [swapL_get (by rw [HMl.out]; omega) (by rw [HMl.out]; omega)]
              by_cases e : R = q
              · rw [if_pos e, e]
              · rw [if_neg e, if_pos rfl]
            have hk01 := HKP.out.trans hk1
            obtain ⟨ad3, B3, c3, hA3, hc3, hf3, hI3, _⟩ := hC1.rows.get (i := R) (by rw [hSm.len]; omega)
            obtain rfl := Option.some.inj hA3
            have hl3 := (hSm.get (show R < m by omega)).1
            obtain ⟨b3, y, hB3, hy, _, hcy, _⟩ := hI3.at_ (j := col) (by rw [hl3]; exact hcn)
            have hyx : y = x := by rw [← hSx]; unfold en; simp [List.getD] at hy ⊢; rw [hy]; rfl
            subst hyx
            subst hB3
            rw [hl3] at hc3
            have hy1 : 1 ≤ y := by omega
            have hy2 : y < p := hxb.2
            have hinv := invM_spec HP.out hy1 hy2
            have e5 := hC1.c5
            have hD := stepD_any p y R m n n2 w.heap.size (w.heap.size + 1) (w.heap.size + 1 + 1) (some ad) cap S fp A' cap' S1 fp' w1 hC1 hSm hS1m hRk hm hn hn2 (by omega) (by omega) (by omega) hy2 (by have := hinv.2.1; omega) hinv.2.2 (HNF.out w1 hk01)
            have HD := Lib.hid hD
            have HS := Lib.hid hS
            have HS1 := Lib.hid hS1
            have HSm := Lib.hid hSm
            have HS1m := Lib.hid hS1m
            have HK01 := Lib.hid hk01
            clear hD hS hS1 hSm hS1m hSx hk01 hI3 hl3 hy hC1 hk1 hinv hcq hcx hf3
            go_wp2_with (fail)
            refine HD.out.mono ?_
            clear HD hc3 hcy e5
            rintro e w2 ⟨rfl, hC2, hk2⟩
            obtain ⟨iv, hiv⟩ : ∃ iv, iv = invM p y := ⟨_, rfl⟩
            obtain ⟨M2, hM2⟩ : ∃ M2, M2 = scaleL p R iv S := ⟨_, rfl⟩
            obtain ⟨K2, hK2⟩ : ∃ K2, K2 = scaleL p R iv S1 := ⟨_, rfl⟩
            rw [← hiv, ← hM2, ← hK2] at hC2
            have hm2 : Mat p m n M2 := by rw [hM2]; exact HSm.out.scale (by omega) hRk iv
            have hkm2 : Mat p m n2 K2 := by rw [hK2]; exact HS1m.out.scale (by omega) hRk iv
            have hk02 := HK01.out.trans hk2
            have e5 := hC2.c5
            have HC2 := Lib.hid hC2
            have Hm2 := Lib.hid hm2
            have Hkm2 := Lib.hid hkm2
            have HIV := Lib.hid hiv
            have HM2 := Lib.hid hM2
            have HK2 := Lib.hid hK2
            have HK02 := Lib.hid hk02
            clear hiv hM2 hK2 hm2 hkm2 hk02 hC2 hk2
            go_wp2_with (fail)
            clear e5
            go_loopw [65] (fun i wr5 => ∃ g : Nat, g ≤ m ∧ i = .int .i64 g ∧ Cap wr5 p w.heap.size (w.heap.size + 1) (w.heap.size + 1 + 1) (some ad) cap (elimTo p R (fun i => en M2 i col) M2 g) fp A' cap' (elimTo p R (fun i => en M2 i col) K2 g) fp' m ∧ Keeps (fun b => b ∈ fp ∨ b ∈ fp') W wr5) (fun i _ => m - (intOf i).toNat)
            case atStart => exact ⟨0, Nat.zero_le _, rfl, by rw [elimTo_zero, elimTo_zero]; exact HC2.out, HK02.out⟩
            case round =>
              obtain ⟨g, hg, rfl, hCg, hkg⟩ := hrel
              have hEm := Hm2.out.elim (r := R) (q := g) (f := fun i => en M2 i col) (by omega)
              have hEk := Hkm2.out.elim (r := R) (q := g) (f := fun i => en M2 i col) (by omega)
              have e5 := hCg.c5
              have hml2 := Hm2.out.len
              have hkl2 := Hkm2.out.len
              by_cases hgk : g < m
              · have hgI : (g : Int) < (m : Int) := by omega
                by_cases hgR : g = R
                · have hb : ((g : Int) != (R : Int)) = false := by simp; omega
                  have hsk := elimTo_skip (p := p) (L := M2) (f := fun i => en M2 i col) (.inl hgR)
                  have hsk2 := elimTo_skip (p := p) (L := K2) (f := fun i => en M2 i col) (.inl hgR)
                  have HR := Lib.hid (show Cap wr p w.heap.size (w.heap.size + 1) (w.heap.size + 1 + 1) (some ad) cap (elimTo p R (fun i => en M2 i col) M2 (g + 1)) fp A' cap' (elimTo p R (fun i => en M2 i col) K2 (g + 1)) fp' m by rw [hsk, hsk2]; exact hCg)
                  have HGR := Lib.hid hgR
                  have HKG := Lib.hid hkg
                  clear hsk hsk2 hgR hEm hEk hml2 hkl2 hCg hkg
                  go_wp2_with (fail)
                  go_roundw
                  case rel => exact ⟨g + 1, by omega, by go_num, HR.out, HKG.out⟩
                  case measure => simp [intOf]; omega
                · have hb : ((g : Int) != (R : Int)) = true := by simp; omega
                  obtain ⟨ad4, B4, c4, hA4, hc4, hf4, hI4, _⟩ := hCg.rows.get (i := g) (by rw [elimTo_length, hml2]; exact hgk)
                  obtain rfl := Option.some.inj hA4
                  rw [elimTo_at (by rw [hml2]; exact hgk)] at hc4 hI4
                  have hgl := (Hm2.out.get hgk).1
                  rw [hgl] at hc4
                  obtain ⟨b4, x2, hB4, hx2, _, hcx2, _⟩ := hI4.at_ (j := col) (by rw [hgl]; exact hcn)
                  have hx2e : x2 = en M2 g col := by unfold en; simp [List.getD] at hx2 ⊢; rw [hx2]; rfl
                  have hx2b := Hm2.out.en (by omega) hgk col
                  rw [← hx2e] at hx2b
                  subst hB4
                  by_cases hx20 : x2 = 0
                  · subst hx20
                    have hsk := elimTo_skip (p := p) (r := R) (q := g) (L := M2) (f := fun i => en M2 i col) (.inr hx2e.symm)
                    have hsk2 := elimTo_skip (p := p) (r := R) (q := g) (L := K2) (f := fun i => en M2 i col) (.inr hx2e.symm)
                    have HR := Lib.hid (show Cap wr p w.heap.size (w.heap.size + 1) (w.heap.size + 1 + 1) (some ad) cap (elimTo p R (fun i => en M2 i col) M2 (g + 1)) fp A' cap' (elimTo p R (fun i => en M2 i col) K2 (g + 1)) fp' m by rw [hsk, hsk2]; exact hCg)
                    have HKG := Lib.hid hkg
                    clear hsk hsk2 hEm hEk hml2 hkl2 hCg hkg hI4 hx2 hx2e hgl hf4
                    go_wp2_with (fail)
                    go_roundw
                    case rel => exact ⟨g + 1, by omega, by go_num, HR.out, HKG.out⟩
                    case measure => simp [intOf]; omega
                  · have hx21 : (x2 != 0) = true := by simp; exact hx20
                    have hst := elimTo_step (p := p) (r := R) (q := g) (L := M2) (f := fun i => en M2 i col) (by rw [hml2]; exact hgk) hgR (by rw [← hx2e]; exact hx20)
                    have hst2 := elimTo_step (p := p) (r := R) (q := g) (L := K2) (f := fun i => en M2 i col) (by rw [hkl2]; exact hgk) hgR (by rw [← hx2e]; exact hx20)
                    have hSt := stepS_any p x2 g R m n n2 w.heap.size (w.heap.size + 1) (w.heap.size + 1 + 1) (some ad) cap _ fp A' cap' _ fp' wr hCg hEm hEk hgk hRk hgR hm hn hn2 (by omega) (by omega) hx2b.1 hx2b.2 (HNF.out wr hkg)
                    rw [elimTo_at (by rw [hml2]; exact hgk), elimTo_piv (by rw [hml2]; exact hRk), elimTo_at (by rw [hkl2]; exact hgk), elimTo_piv (by rw [hkl2]; exact hRk)] at hSt
                    rw [show -x2 = -(fun i => en M2 i col) g by rw [hx2e]] at hSt
                    rw [← hst, ← hst2] at hSt
                    have HSt := Lib.hid hSt
                    have HKG := Lib.hid hkg
                    clear hst hst2 hSt hEm hEk hml2 hkl2 hCg hkg hI4 hx2 hx2e hgl hf4 hgR
                    go_wp2_with (fail)
                    refine HSt.out.mono ?_
                    clear HSt e5 hc4 hcx2
                    rintro e w4 ⟨rfl, hC4, hk4⟩
                    have HR := Lib.hid hC4
                    have HKG2 := Lib.hid (HKG.out.trans hk4)
                    clear hC4 hk4
                    go_wp2_with (fail)
                    go_roundw
                    case rel => exact ⟨g + 1, by omega, by go_num, HR.out, HKG2.out⟩
                    case measure => simp [intOf]; omega
              · obtain rfl : m = g := by omega
                obtain ⟨e1, e2, e3⟩ := redTo_some (p := p) (L := L) (A := K) (c := col) (k := q) (by rw [HRT.out]; show pvFrom M col (M.length - R) R = q; rw [HMl.out]; exact HPN.out) (by rw [HRT.out]; show q < M.length; rw [HMl.out]; omega) (M := M2) (by rw [HRT.out, HM2.out, HS.out, HIV.out, HXE.out])
                rw [HRT.out] at e1 e2 e3
                have e1 : (redTo p L K (col + 1)).1 = R + 1 := e1
                have e2 : (redTo p L K (col + 1)).2.1 = elimTo p R (fun i => en M2 i col) M2 m := by rw [e2, hml2]
                have e3 : (redTo p L K (col + 1)).2.2 = elimTo p R (fun i => en M2 i col) K2 m := by
                  rw [e3]
                  show elimTo p R (fun i => en M2 i col) (scaleL p R (invM p (en M q col)) (swapL K1 R q)) K1.length = _
                  rw [HMK1.out.len, HK2.out, HS1.out, HIV.out, HXE.out]
                have HE := Lib.hid (pair_of e1 e2 e3)
                have HCG := Lib.hid hCg
                have HKG := Lib.hid hkg
                have HEK := Lib.hid hEk
                clear e1 e2 e3 hEm hEk hml2 hkl2 hCg hkg
                go_wp2_with (fail)
                go_roundw
                case rel => exact ⟨col + 1, R + 1, _, _, by omega, by go_num, by go_num, HE.out, HEK.out, HCG.out, HKG.out⟩
                case measure => simp [intOf]; omega
        · obtain rfl : m = q := by omega
          have hpn : ¬ pvFrom M col (M.length - R) R < M.length := by rw [HMl.out, ← HPV.out, pvFrom_end]; omega
          have hred := redTo_none (p := p) (L := L) (A := K) (c := col) (by rw [HRT.out]; exact hpn)
          have HRD := Lib.hid hred
          clear hpn hred
          go_wp2_with (fail)
          go_roundw
          case rel => exact ⟨col + 1, R, M, K1, by omega, by go_num, rfl, by rw [HRD.out]; exact HRT.out, HMK1.out, HC.out, HKP.out⟩
          case measure => simp [intOf]; omega
end Go.Proofs.YtahnhblodfdfhaaDoor
namespace Go.Proofs.YtahnhblodfdfhaaDoor
open Go.RowKit
set_option maxHeartbeats 1000000 in
theorem clones_any (A : Option Addr) (c : Nat) (hs : List Hd) (w : World) (h : RdR w A hs) (hl : hs.length ≤ 1048576) (hr : ∀ x, x ∈ hs → x.2.2.length ≤ 1048576) :
    Calls Tryd.prog 105 #[.slice A hs.length c] w (RetSS w (hs.map fun h : Hd => h.2.2)) := by
  obtain ⟨L, hLh⟩ : ∃ L, L = hs.map fun h : Hd => h.2.2 := ⟨_, rfl⟩
  rw [← hLh]
  obtain ⟨m, hmm⟩ : ∃ m, m = hs.length := ⟨_, rfl⟩
  rw [← hmm] at hl ⊢
  have HLh := Lib.hid hLh
  have HM := Lib.hid hmm
  have hLen := Lib.hid (show L.length = m by rw [hLh, List.length_map, hmm])
  clear hLh hmm
  go_enter Tryd.func105, Tryd.ntmps105
  go_wp2_with (at_make; refine wpList_make_Sl _ rfl _ _ _ rfl 33 Tryd.underlying22 info_ints 0 m rfl rfl rfl rfl (Nat.zero_le _) (by omega) (by unfold maxLen; omega) ?_; intro G w1 hs1 hG hb1)
  have hOM0 : OM w w1 (some G) m [] := by
    refine ⟨[], rfl, ⟨by simpa using hs1, fun h hh => (by cases hh), .nil, fun h hh => (by cases hh)⟩, fun b hb => ?_, hb1⟩
    have : b = G.block := by simpa [fpR] using hb
    subst this; exact hG
  clear hs1
  go_loopw [11, 3] (fun i v wr => ∃ (k : Nat) (A' : Option Addr) (c' : Nat), k ≤ m ∧ i = .int .i64 k ∧ v = .slice A' k c' ∧ OM w wr A' c' (L.take k)) (fun i _ _ => m - (intOf i).toNat)
  case atStart => exact ⟨0, some G, m, Nat.zero_le _, rfl, rfl, hOM0⟩
  case round =>
    clear hOM0
    obtain ⟨k, A', c', hk, rfl, rfl, hOM⟩ := hrel
    by_cases hlt : k < m
    · obtain ⟨ad, B, d, l, rfl, hx, hc, hri⟩ := (h.below hOM.below_).at_ (k := k) (by rw [← HM.out]; exact hlt)
      have hlx : L[k]? = some l := by rw [HLh.out, List.getElem?_map, hx]; rfl
      have hll : l.length ≤ 1048576 := hr _ (List.mem_of_getElem? hx)
      obtain ⟨gs, hLg, hO, hf, h0⟩ := hOM
      have hgl : gs.length = k := by
        have := congrArg List.length hLg
        rw [List.length_take, hLen.out, List.length_map] at this
        omega
      have HX := Lib.hid hlx
      have HG := Lib.hid hLg
      have HGL := Lib.hid hgl
      have hkI : (k : Int) < (m : Int) := by omega
      have hC := clone_any B d l wr hri (by omega)
      have HC := Lib.hid hC
      clear hx hlx hLg hgl hC h hr
      go_wp2_with (fail)
      refine HC.out.mono ?_
      rintro e w1 ⟨B1, c1, rfl, hi1, hf1, hb1⟩
      have hsl : Sl (w1.alloc (.cells #[.slice B1 l.length c1] 33)) 33 1 A' k c' (gs.map Hd.val) := by
        have := (hO.sl.below hb1).alloc (.cells #[.slice B1 l.length c1] 33)
        rwa [HGL.out] at this
      go_wp2_with (at_builtin; refine wpList_append_Sl _ rfl _ _ _ rfl 33 Tryd.underlying22 info_ints rfl (by omega) rfl hsl rfl (news := [.slice B1 l.length c1]) rfl (Sl.rdc (Sl.laid w1 33 1 1 #[.slice B1 l.length c1] (by unfold maxLen; omega) rfl)) (by intro u hu; simp at hu; subst hu; rfl) (by unfold maxLen; omega) (by omega) ?_; intro A2 c2 w2 hs2 hA2 hk2)
      have hal : Below w1.heap.size w1 (w1.alloc (.cells #[.slice B1 l.length c1] 33)) := (Below.refl _ _).alloc (Nat.le_refl _) _
      have hOM2 := OM.snoc (w1 := w1.alloc (.cells #[.slice B1 l.length c1] 33)) HG.out hO hf h0 (below_trans hb1 hal hb1.size) (hi1.below hal) hf1 (by rw [HGL.out]) hs2 hA2 hk2
      have HO := Lib.hid hOM2
      clear hOM2 hs2 hsl hO hf
      go_roundw
      case rel => exact ⟨k + 1, A2, c2, by omega, by go_num, rfl, by rw [List.take_add_one, HX.out]; exact HO.out⟩
      case measure => simp [intOf]; omega
    · obtain rfl : m = k := by omega
      have hOM' : OM w wr A' c' L := by have := hOM; rwa [List.take_of_length_le (by rw [hLen.out]; omega)] at this
      clear hOM h hr
      go_wp2_with (fail)
      go_ret
      have := hOM'.ret
      rw [hLen.out] at this
      exact this
theorem nils_rw {w1 : World} {G : Addr} {m : Nat} (hs : Sl w1 33 1 (some G) m m ((List.replicate m nilHd).map Hd.val)) : RwF w1 (some G) m (List.replicate m []) [G.block] := by
  refine ⟨List.replicate m nilHd, by simp [nilHd], ⟨by simpa using hs, fun h hh => ?_, ?_, fun h hh b hb => ?_⟩, fun b hb => ?_⟩
  · obtain rfl := (List.mem_replicate.1 hh).2
    exact Sl.nil _ _ _
  · refine List.pairwise_iff_getElem.2 fun i j hi hj _ b hb => ?_
    simp [nilHd] at hb
  · obtain rfl := (List.mem_replicate.1 hh).2
    simp [nilHd] at hb
  · rcases List.mem_append.1 hb with hb | hb
    · simpa using hb
    · obtain ⟨x, hx, hb⟩ := mem_fpR.1 hb
      obtain rfl := (List.mem_replicate.1 hx).2
      simp [nilHd] at hb
set_option maxHeartbeats 1000000 in
theorem reduced_any (p : Int) (n : Nat) (A : Option Addr) (c : Nat) (hs : List Hd) (w : World) (h : RdR w A hs) (hp : fieldB p = true) (hm : Mat p hs.length n (hs.map fun h : Hd => h.2.2)) (hl : hs.length ≤ 1048576) (hn : n ≤ 1048576) :
    Calls Tryd.prog 118 #[.int .i64 p, .slice A hs.length c, .int .i64 n] w (RetSS w (redM p n (hs.map fun h : Hd => h.2.2))) := by
  have hC := clones_any A c hs w h hl (fun x hx => by have := (hm.row _ (List.mem_map_of_mem hx)).1; omega)
  obtain ⟨L, hLh⟩ : ∃ L, L = hs.map fun h : Hd => h.2.2 := ⟨_, rfl⟩
  rw [← hLh] at hm hC ⊢
  obtain ⟨m, hmm⟩ : ∃ m, m = hs.length := ⟨_, rfl⟩
  rw [← hmm] at hl hm hC ⊢
  have hpb := fieldB_bounds hp
  have HC := Lib.hid hC
  have HMat := Lib.hid hm
  have HL := Lib.hid hm.len
  clear hC hLh hmm hm h
  go_enter Tryd.func118, Tryd.ntmps118
  go_wp2_with (fail)
  refine HC.out.mono ?_
  rintro e w1 hret
  obtain ⟨A1, c1, rfl, hO1⟩ := hret.om
  rw [HL.out]
  clear hret
  go_wp2_with (at_make; refine wpList_make_Sl _ rfl _ _ _ rfl 33 Tryd.underlying22 info_ints m m rfl rfl rfl rfl (Nat.le_refl _) (by omega) (by unfold maxLen; omega) ?_; intro G w2 hs2 hG hb2)
  have hs2' : Sl w2 33 1 (some G) m m ((List.replicate m nilHd).map Hd.val) := by rw [← madeNils]; simpa using hs2
  have hK := nils_rw hs2'
  have hGl : G.block < w2.heap.size := hs2'.lt G.block (by simp)
  obtain ⟨fp, hR1, hfr, hlt⟩ := hO1.rw_
  have hR2 := hR1.below hb2
  have hmK : Mat p m 0 (List.replicate m []) := ⟨by simp, fun v hv => by obtain rfl := (List.mem_replicate.1 hv).2; exact ⟨rfl, fun x hx => by cases hx⟩⟩
  have hRd := reduction_any p n m 0 A1 c1 L fp (some G) m (List.replicate m []) [G.block] w2 hR2 hK (fun b hb hb' => by
    have := hlt b hb
    have e : b = G.block := by simpa using hb'
    omega) (fun b hb => Nat.lt_of_lt_of_le (hlt b hb) hb2.size) (fun b hb => by have e : b = G.block := by simpa using hb
                                                                                omega) hp HMat.out hmK hl hn (by omega)
  obtain ⟨e1, e2⟩ := redTo_fst p L (List.replicate m []) [] n
  rw [e1, e2] at hRd
  have hB2 : Below w.heap.size w w2 := below_trans hO1.below_ hb2 hO1.below_.size
  have hres : redM p n L = (redTo p L [] n).2.1.take (redTo p L [] n).1 := rfl
  obtain ⟨hMt, hRm⟩ := redTo_mat hp HMat.out [] (Nat.le_refl n)
  obtain ⟨R, hR⟩ : ∃ R, R = (redTo p L [] n).1 := ⟨_, rfl⟩
  obtain ⟨M, hM⟩ : ∃ M, M = (redTo p L [] n).2.1 := ⟨_, rfl⟩
  rw [← hR, ← hM] at hRd hres
  rw [← hM] at hMt
  rw [← hR] at hRm
  have HRd := Lib.hid hRd
  have HRES := Lib.hid hres
  have HML := Lib.hid hMt.len
  have HP := Lib.hid hp
  have HFR := Lib.hid hfr
  have hGw : w.heap.size ≤ G.block := Nat.le_trans hO1.below_.size hG
  clear hRd hres hMt hs2 hs2' hK hR1 hR2 hmK e1 e2 hO1 hR hM hp hfr hlt
  go_wp2_with (fail)
  refine HRd.out.mono ?_
  rintro e w3 ⟨rfl, h1, _, hk3⟩
  have hB3 : Below w.heap.size w w3 := below_keeps hB2 hk3 hB2.size fun b hb => by
    rcases hb with hb | hb
    · exact HFR.out b hb
    · have e : b = G.block := by simpa using hb
      omega
  obtain ⟨gs, hLg, hO, hf, h0⟩ := h1.om (w0 := w) HFR.out hB3
  have hgl : gs.length = m := by
    have := congrArg List.length hLg
    rw [HML.out, List.length_map] at this; omega
  have HG := Lib.hid hLg
  have HGL := Lib.hid hgl
  have hsl : Sl w3 33 1 A1 m c1 (gs.map Hd.val) := by have := hO.sl; rwa [hgl] at this
  clear hLg hgl h1
  go_wp2_with (refine wpList_slice_Sl rfl (.tmp 20) none (some (.tmp 21)) (some (.tmp 22)) 22 rfl 33 Tryd.underlying22 info_ints rfl hsl 0 R R (optNone rfl) (optSome (by omega)) (optSome (by omega)) (by omega) (by omega) (Nat.le_refl _) (by have := hsl.2.1; omega) ?_; intro A2 hcut hfp _)
  go_ret
  have hT := OM.take (k := R) (m := R) (A' := A2) HG.out hO hf h0 (by rw [HGL.out]; omega) (by rw [List.map_take]; simpa using hcut) hfp
  have hlen : (M.take R).length = R := by rw [List.length_take, HML.out]; omega
  have hr := hT.ret
  rw [hlen] at hr
  rw [HRES.out]
  exact hr
end Go.Proofs.YtahnhblodfdfhaaDoor

namespace Go.Proofs.YtahnhblodfdfhaaDoor
open Go.RowKit
theorem all_range_int : ∀ (xs ys : List Int), xs.length = ys.length → ((List.range xs.length).all fun i => xs.getD i 0 == ys.getD i 0) = (xs == ys)
  | [], [], _ => rfl
  | x :: xs, y :: ys, h => by
    have ih := all_range_int xs ys (by simpa using h)
    rw [List.length_cons, List.range_succ_eq_map, List.all_cons, List.all_map]
    simp only [List.getD_cons_zero, Function.comp_def, List.getD_cons_succ, ih]
    simp [List.cons_beq_cons]
  | [], _ :: _, h => by simp at h
  | _ :: _, [], h => by simp at h
section
variable {P : Program} (w : World)
theorem run_equalIn_ints (d : Nat) (t e : TypeId) (n : Nat) (ht : P.underlying t = some (.array n e)) (he : P.underlying e = some (.int .i64)) (hsz : ∀ w, (sizeOf e).run P w = .ok 1 w)
    (xs ys : List Int) (hx : xs.length = n) (hy : ys.length = n) :
    (Op.equalIn (d + 2) t (.agg (ints xs).toArray) (.agg (ints ys).toArray)).run P w = .ok (xs == ys) w := by
  rw [← all_range_int xs ys (hx.trans hy.symm), hx, List.range_eq_range', Op.equalIn]
  simp only [Sem.run_bind, run_underlying ht, Result.andThen_ok, hsz, Std.Legacy.Range.forIn_eq_forIn_range', Std.Legacy.Range.size, Nat.sub_zero, Nat.add_sub_cancel, Nat.div_one]
  have hl : ∀ i ∈ List.range' 0 n 1, i < n := fun i hi => by simpa using (List.mem_range'_1.1 hi).2
  generalize List.range' 0 n 1 = l at hl ⊢
  induction l with
  | nil => simp
  | cons i l ih =>
    have hi : i < n := hl i (by simp)
    have px : (part e (ints xs).toArray (i * 1)).run P w = .ok (.int .i64 (xs.getD i 0)) w := by
      simp [part, isAgg, run_underlying he, ints, List.getD, List.getElem?_eq_getElem (show i < xs.length by omega)]
    have py : (part e (ints ys).toArray (i * 1)).run P w = .ok (.int .i64 (ys.getD i 0)) w := by
      simp [part, isAgg, run_underlying he, ints, List.getD, List.getElem?_eq_getElem (show i < ys.length by omega)]
    have pe : (Op.equalIn (d + 1) e (.int .i64 (xs.getD i 0)) (.int .i64 (ys.getD i 0))).run P w = .ok (xs.getD i 0 == ys.getD i 0) w := by
      rw [run_equalIn_int w d e .i64 .i64 _ _ he]
    simp only [List.forIn_cons, Sem.run_bind, px, py, pe, Result.andThen_ok, List.all_cons]
    cases hb : (xs.getD i 0 == ys.getD i 0)
    · simp
    · simp only [Bool.not_true, Bool.false_eq_true, if_false, Sem.run_pure, Result.andThen_ok, Bool.true_and]
      exact ih fun j hj => hl j (by simp [hj])
end
theorem padV_ints {l : List Int} : padV l = (ints (l ++ List.replicate (48 - l.length) 0)).toArray := by
  unfold padV ints; simp
theorem pad_ne {u v : List Int} (h : u.length = v.length) (hl : u.length ≤ 48) (W : World) : (binOp .neq 173 (.agg (padV u)) (.agg (padV v))).run Tryd.prog W = .ok (.bool (decide (¬ u = v))) W := by
  have hk := run_equalIn_ints (P := Tryd.prog) W 9998 173 3 48 under48 Tryd.underlying3 (fun w => by kernel_rfl) (u ++ List.replicate (48 - u.length) 0) (v ++ List.replicate (48 - v.length) 0) (by simp; omega) (by simp; omega)
  have e0 : Op.maxDepth = 9998 + 2 := rfl
  have hb : (u ++ List.replicate (48 - u.length) 0 == v ++ List.replicate (48 - v.length) 0) = decide (u = v) := by
    rw [h]
    by_cases e : u = v
    · simp [e]
    · simp [e]
  rw [hb] at hk
  simp only [binOp, Op.equal, Sem.run_bind]
  rw [e0, padV_ints, padV_ints, hk]
  by_cases e : u = v <;> simp [e]
set_option maxRecDepth 100000 in
set_option maxHeartbeats 2000000 in
theorem isReduced_any (p : Int) (n : Nat) (A : Option Addr) (c : Nat) (hs : List Hd) (w : World) (h : RdR w A hs) (hp : fieldB p = true) (hn : n ≤ 48) (hl : hs.length ≤ 1048576) (hr : ∀ x, x ∈ hs → x.2.2.length ≤ 1048576) :
    Calls Tryd.prog 123 #[.int .i64 p, .slice A hs.length c, .int .i64 n] w fun e w' => e = .returned (.bool (redB p n (hs.map fun h : Hd => h.2.2))) ∧ Below w.heap.size w w' := by
  have hV := areVectors_any p n A c hs w h (by omega) (fun x hx => by have := hr x hx; omega)
  obtain ⟨L, hL⟩ : ∃ L, L = hs.map fun h : Hd => h.2.2 := ⟨_, rfl⟩
  obtain ⟨m, hm⟩ : ∃ m, m = hs.length := ⟨_, rfl⟩
  obtain ⟨V, hVe⟩ : ∃ V, V = rowsB p n L := ⟨_, rfl⟩
  obtain ⟨B, hB⟩ : ∃ B, B = redB p n L := ⟨_, rfl⟩
  have hLm : L.length = m := by rw [hL, hm, List.length_map]
  rw [← hL, ← hVe, ← hm] at hV
  rw [← hL, ← hB, ← hm]
  unfold redB at hB
  rw [hLm, ← hVe, Int.toNat_natCast] at hB
  have hpb := fieldB_bounds hp
  by_cases hmn : m ≤ n
  case neg =>
    have hmnI : (n : Int) < (m : Int) := by omega
    have hB0 : B = false := by rw [hB, decide_eq_false (by omega)]; rfl
    clear hVe hB hmn
    have hL_h := Lib.hid hL
    have hm_h := Lib.hid hm
    have hV_h := Lib.hid hV
    have hB0_h := Lib.hid hB0
    have hLm_h := Lib.hid hLm
    clear hL hm hV hB0 hLm
    go_enter Tryd.func123, Tryd.ntmps123
    go_wp2_with (fail)
    go_ret
    exact ⟨ret_bool hB0_h.out.symm, Below.refl _ _⟩
  case pos =>
  have hmnI : ¬ (n : Int) < (m : Int) := by omega
  cases V
  case false =>
    have hB0 : B = false := by rw [hB, Bool.false_and, Bool.and_false]
    clear hVe hB
    have hL_h := Lib.hid hL
    have hm_h := Lib.hid hm
    have hV_h := Lib.hid hV
    have hB0_h := Lib.hid hB0
    have hLm_h := Lib.hid hLm
    clear hL hm hV hB0 hLm
    go_enter Tryd.func123, Tryd.ntmps123
    go_wp2_with (fail)
    refine (hV_h.out).mono ?_
    rintro e w1 ⟨rfl, rfl⟩
    go_wp2_with (fail)
    go_ret
    exact ⟨ret_bool hB0_h.out.symm, Below.refl _ _⟩
  case true =>
  have hM : Mat p hs.length n (hs.map fun h : Hd => h.2.2) := by
    have := rowsB_mat (p := p) (n := (n : Int)) (L := L) (k := n) hVe.symm rfl
    rw [hLm, hm, hL] at this; exact this
  have hRd := fun W (hb : Below w.heap.size w W) => reduced_any p n A c hs W (h.below hb) hp hM hl (by omega)
  obtain ⟨R, hR⟩ : ∃ R, R = redM p n L := ⟨_, rfl⟩
  rw [← hL, ← hm, ← hR] at hRd
  rw [← hR, decide_eq_true (by omega : (m : Int) ≤ (n : Int)), Bool.true_and, Bool.true_and] at hB
  have hspec := redM_spec hp (n := n) (L := L) (by rw [hLm, hm, hL]; exact hM)
  rw [← hR, hLm] at hspec
  have hRl := hspec.2.2
  have hRm : ∀ x, x ∈ R → x.length = n := fun x hx => (hspec.1.1.row x hx).1
  have hLrow : ∀ x, x ∈ L → x.length = n := fun x hx => by rw [hL] at hx; exact (hM.row x hx).1
  clear hspec hVe
  have hL_h := Lib.hid hL
  have hm_h := Lib.hid hm
  have hV_h := Lib.hid hV
  have hB_h := Lib.hid hB
  have hLm_h := Lib.hid hLm
  have hM_h := Lib.hid hM
  have hRd_h := Lib.hid hRd
  have hR_h := Lib.hid hR
  have hRl_h := Lib.hid hRl
  have hRm_h := Lib.hid hRm
  have hLrow_h := Lib.hid hLrow
  have hp_h := Lib.hid hp
  have hr_h := Lib.hid hr
  have hpb_h := Lib.hid hpb
  clear hL hm hV hB hLm hM hRd hR hRl hRm hLrow hp hr hpb
  go_enter Tryd.func123, Tryd.ntmps123
  go_wp2_with (fail)
  refine (hV_h.out).mono ?_
  rintro e w1 ⟨rfl, rfl⟩
  go_wp2_with (fail)
  refine ((hRd_h.out _ (Below.refl _ _))).mono ?_
  rintro e w2 hret
  obtain ⟨A2, c2, rfl, hO2⟩ := hret.om
  have hb2 := hO2.below_
  obtain ⟨gs, hg, hrd2⟩ := hO2.rdr
  obtain ⟨q, hq⟩ : ∃ q, q = R.length := ⟨_, rfl⟩
  rw [← hq]
  have hqg : gs.length = q := by rw [hq, hg, List.length_map]
  have hqm : q ≤ m := by rw [hq]; exact hRl_h.out
  clear hret hO2
  have hrdA := h.below hb2
  have hb2_h := Lib.hid hb2
  have hg_h := Lib.hid hg
  have hrd2_h := Lib.hid hrd2
  have hq_h := Lib.hid hq
  have hqg_h := Lib.hid hqg
  have hrdA_h := Lib.hid hrdA
  clear hb2 hg hrd2 hq hqg hrdA
  go_wp2_with (fail)
  go_loopw [25, 7, 8] (fun i _s7 _s8 wr => ∃ k : Nat, k ≤ q ∧ i = .int .i64 k ∧ R.take k = L.take k ∧ Below w2.heap.size w2 wr) (fun i _ _ _ => q - (intOf i).toNat)
  case atStart => exact ⟨0, Nat.zero_le _, rfl, by simp, Below.refl _ _⟩
  case round =>
    obtain ⟨k, hk, rfl, htk, hbr⟩ := hrel
    have hrdR := hrd2_h.out.below hbr
    have hrdL := hrdA_h.out.below hbr
    by_cases hlt : k < q
    · have hkI : (k : Int) < (q : Int) := by omega
      have hkm : (k : Int) < (m : Int) := by omega
      obtain ⟨ad, B1, c1, u, rfl, hx, hc1, hr1⟩ := hrdR.at_ (k := k) (by rw [hqg_h.out]; exact hlt)
      obtain ⟨bd, B2, c2', v, rfl, hy, hc2, hr2⟩ := hrdL.at_ (k := k) (by rw [← hm_h.out]; omega)
      have hxR : R[k]? = some u := by rw [hg_h.out, List.getElem?_map, hx]; rfl
      have hyL : L[k]? = some v := by rw [hL_h.out, List.getElem?_map, hy]; rfl
      have hul : u.length = n := hRm_h.out _ (List.mem_of_getElem? hxR)
      have hvl : v.length = n := hLrow_h.out _ (List.mem_of_getElem? hyL)
      have hne := fun W => pad_ne (u := u) (v := v) (by rw [hul, hvl]) (by omega) W
      obtain ⟨Pu, hPu⟩ : ∃ X, X = padV u := ⟨_, rfl⟩
      obtain ⟨Pv, hPv⟩ : ∃ X, X = padV v := ⟨_, rfl⟩
      have hP1 := fun W (hb : Below wr.heap.size wr W) => pad_any B1 c1 u W (hr1.below hb) (by omega)
      have hP2 := fun W (hb : Below wr.heap.size wr W) => pad_any B2 c2' v W (hr2.below hb) (by omega)
      rw [← hPu] at hP1
      rw [← hPv] at hP2
      rw [← hPu, ← hPv] at hne
      clear hrdR hrdL hx hy hr1 hr2
      have hgt : Tryd.prog.eqGuardType Tryd.prog.depth 173 = false := by kernel_rfl
      have hbd : Below wr.heap.size wr wr.drew := below_drewN (Below.refl _ _) 1
      have hc3 : wr.drew.cell? (bd.add k) = some (.slice B2 v.length c2') := hc2
      have hstep : u = v → R.take (k + 1) = L.take (k + 1) := fun e => by rw [List.take_add_one, List.take_add_one, htk, hxR, hyL, e]
      have hno : ¬ u = v → ¬ R = L := fun e h => by rw [h, hyL] at hxR; exact e (Option.some.inj hxR).symm
      have hbw := below_trans hb2_h.out hbr hb2_h.out.size
      clear htk
      have hbr_h := Lib.hid hbr
      have hxR_h := Lib.hid hxR
      have hyL_h := Lib.hid hyL
      have hul_h := Lib.hid hul
      have hvl_h := Lib.hid hvl
      have hPu_h := Lib.hid hPu
      have hPv_h := Lib.hid hPv
      have hP1_h := Lib.hid hP1
      have hP2_h := Lib.hid hP2
      have hbd_h := Lib.hid hbd
      have hc3_h := Lib.hid hc3
      have hstep_h := Lib.hid hstep
      have hno_h := Lib.hid hno
      have hbw_h := Lib.hid hbw
      clear hbr hxR hyL hul hvl hPu hPv hP1 hP2 hbd hc3 hstep hno hbw
      by_cases huv : u = v
      · rw [decide_eq_false (fun h => h huv)] at hne
        have huv_h := Lib.hid huv
        clear huv
        go_wp2_with (fail)
        clear hc1 hc2
        refine beginH (fun w' => w'.cell? (bd.add k) = some (.slice B2 v.length c2')) (by kernel_rfl) ?_
        generalize wr.drew = W1 at hbd_h hc3_h ⊢
        refine takeH 0 (v := ?_) rfl (by kernel_rfl) (by kernel_rfl) (by kernel_rfl) (fun _ _ _ h => h) hc3_h.out (by rfl) (fun W' hW' => ?_) ?_; rotate_left; · (have z := hW'; clear hW'; go_simp; first | done | with_reducible rfl)
        simp only [Act.put, List.setIfInBounds_toArray, List.set_cons_zero, List.set_cons_succ]
        refine takeH 2 (v := ?_) rfl (by kernel_rfl) (by kernel_rfl) (by kernel_rfl) (fun _ _ _ h => h) hc3_h.out (by rfl) (fun W' hW' => ?_) ?_; rotate_left; · (have z := hW'; clear hW'; go_simp; first | done | with_reducible rfl)
        simp only [Act.put, List.setIfInBounds_toArray, List.set_cons_zero, List.set_cons_succ]
        refine takeH 3 (v := ?_) rfl (by kernel_rfl) (by kernel_rfl) (by kernel_rfl) (fun _ _ _ h => h) hc3_h.out (by rfl) (fun W' hW' => ?_) ?_; rotate_left; · (have z := hW'; clear hW'; go_simp; first | done | with_reducible rfl)
        simp only [Act.put, List.setIfInBounds_toArray, List.set_cons_zero, List.set_cons_succ]
        refine takeH 4 (v := ?_) rfl (by kernel_rfl) (by kernel_rfl) (by kernel_rfl) (fun _ _ _ h => h) hc3_h.out (by rfl) (fun W' hW' => ?_) ?_; rotate_left; · (have z := hW'; clear hW'; go_simp; first | done | with_reducible rfl)
        simp only [Act.put, List.setIfInBounds_toArray, List.set_cons_zero, List.set_cons_succ]
        refine takeH 5 (v := ?_) rfl (by kernel_rfl) (by kernel_rfl) (by kernel_rfl) (fun _ _ _ h => h) hc3_h.out (by rfl) (fun W' hW' => ?_) ?_; rotate_left; · (have z := hW'; clear hW'; go_simp; first | done | with_reducible rfl)
        simp only [Act.put, List.setIfInBounds_toArray, List.set_cons_zero, List.set_cons_succ]
        refine' callH 1 (f := _) (args := _) rfl (by kernel_rfl) (by rfl) ?_ ?_; rotate_left 2; · (go_simp; first | done | with_reducible rfl | (constructor <;> with_reducible rfl))
        refine (hP1_h.out _ hbd_h.out).mono ?_
        rintro e w4 ⟨rfl, hb4⟩
        have hc4 := (hb4.cell (World.block_lt_of_cell? _ _ hc3_h.out)).trans hc3_h.out
        have hbd4 := below_trans hbd_h.out hb4 hbd_h.out.size
        refine ⟨_, rfl, hc4, ?_⟩
        have hb4_h := Lib.hid hb4
        have hc4_h := Lib.hid hc4
        have hbd4_h := Lib.hid hbd4
        clear hb4 hc4 hbd4
        simp only [Act.put, List.setIfInBounds_toArray, List.set_cons_zero, List.set_cons_succ]
        refine' callH 6 (f := _) (args := _) rfl (by kernel_rfl) (by rfl) ?_ ?_; rotate_left 2; · (go_simp; first | done | with_reducible rfl | (constructor <;> with_reducible rfl))
        refine (hP2_h.out _ hbd4_h.out).mono ?_
        rintro e w5 ⟨rfl, hb5⟩
        have hc5 := (hb5.cell (World.block_lt_of_cell? _ _ hc4_h.out)).trans hc4_h.out
        have hbd5 := below_trans hbd4_h.out hb5 hbd4_h.out.size
        refine ⟨_, rfl, hc5, ?_⟩
        have hb5_h := Lib.hid hb5
        have hc5_h := Lib.hid hc5
        have hbd5_h := Lib.hid hbd5
        clear hb5 hc5 hbd5
        simp only [Act.put, List.setIfInBounds_toArray, List.set_cons_zero, List.set_cons_succ]
        refine takeH 7 (v := ?_) rfl (by kernel_rfl) (by kernel_rfl) (by kernel_rfl) (fun _ _ _ h => h) hc5_h.out (by rfl) (fun W' hW' => ?_) ?_; rotate_left; · (skip; clear hW'; go_simp; first | done | with_reducible rfl)
        simp only [Act.put, List.setIfInBounds_toArray, List.set_cons_zero, List.set_cons_succ]
        refine doneH (by kernel_rfl) ?_
        go_wp2_with (fail)
        go_roundw
        case rel => exact ⟨k + 1, by omega, by go_num, hstep_h.out huv_h.out, below_trans hbr_h.out hbd5_h.out hbr_h.out.size⟩
        case measure => simp [intOf]; omega
      · rw [decide_eq_true (show ¬ u = v from huv)] at hne
        have hB0 : B = false := by rw [hB_h.out]; exact decide_eq_false (hno_h.out huv)
        have hB0_h := Lib.hid hB0
        clear hB0
        clear huv
        go_wp2_with (fail)
        clear hc1 hc2
        refine beginH (fun w' => w'.cell? (bd.add k) = some (.slice B2 v.length c2')) (by kernel_rfl) ?_
        generalize wr.drew = W1 at hbd_h hc3_h ⊢
        refine takeH 0 (v := ?_) rfl (by kernel_rfl) (by kernel_rfl) (by kernel_rfl) (fun _ _ _ h => h) hc3_h.out (by rfl) (fun W' hW' => ?_) ?_; rotate_left; · (have z := hW'; clear hW'; go_simp; first | done | with_reducible rfl)
        simp only [Act.put, List.setIfInBounds_toArray, List.set_cons_zero, List.set_cons_succ]
        refine takeH 2 (v := ?_) rfl (by kernel_rfl) (by kernel_rfl) (by kernel_rfl) (fun _ _ _ h => h) hc3_h.out (by rfl) (fun W' hW' => ?_) ?_; rotate_left; · (have z := hW'; clear hW'; go_simp; first | done | with_reducible rfl)
        simp only [Act.put, List.setIfInBounds_toArray, List.set_cons_zero, List.set_cons_succ]
        refine takeH 3 (v := ?_) rfl (by kernel_rfl) (by kernel_rfl) (by kernel_rfl) (fun _ _ _ h => h) hc3_h.out (by rfl) (fun W' hW' => ?_) ?_; rotate_left; · (have z := hW'; clear hW'; go_simp; first | done | with_reducible rfl)
        simp only [Act.put, List.setIfInBounds_toArray, List.set_cons_zero, List.set_cons_succ]
        refine takeH 4 (v := ?_) rfl (by kernel_rfl) (by kernel_rfl) (by kernel_rfl) (fun _ _ _ h => h) hc3_h.out (by rfl) (fun W' hW' => ?_) ?_; rotate_left; · (have z := hW'; clear hW'; go_simp; first | done | with_reducible rfl)
        simp only [Act.put, List.setIfInBounds_toArray, List.set_cons_zero, List.set_cons_succ]
        refine takeH 5 (v := ?_) rfl (by kernel_rfl) (by kernel_rfl) (by kernel_rfl) (fun _ _ _ h => h) hc3_h.out (by rfl) (fun W' hW' => ?_) ?_; rotate_left; · (have z := hW'; clear hW'; go_simp; first | done | with_reducible rfl)
        simp only [Act.put, List.setIfInBounds_toArray, List.set_cons_zero, List.set_cons_succ]
        refine' callH 1 (f := _) (args := _) rfl (by kernel_rfl) (by rfl) ?_ ?_; rotate_left 2; · (go_simp; first | done | with_reducible rfl | (constructor <;> with_reducible rfl))
        refine (hP1_h.out _ hbd_h.out).mono ?_
        rintro e w4 ⟨rfl, hb4⟩
        have hc4 := (hb4.cell (World.block_lt_of_cell? _ _ hc3_h.out)).trans hc3_h.out
        have hbd4 := below_trans hbd_h.out hb4 hbd_h.out.size
        refine ⟨_, rfl, hc4, ?_⟩
        have hb4_h := Lib.hid hb4
        have hc4_h := Lib.hid hc4
        have hbd4_h := Lib.hid hbd4
        clear hb4 hc4 hbd4
        simp only [Act.put, List.setIfInBounds_toArray, List.set_cons_zero, List.set_cons_succ]
        refine' callH 6 (f := _) (args := _) rfl (by kernel_rfl) (by rfl) ?_ ?_; rotate_left 2; · (go_simp; first | done | with_reducible rfl | (constructor <;> with_reducible rfl))
        refine (hP2_h.out _ hbd4_h.out).mono ?_
        rintro e w5 ⟨rfl, hb5⟩
        have hc5 := (hb5.cell (World.block_lt_of_cell? _ _ hc4_h.out)).trans hc4_h.out
        have hbd5 := below_trans hbd4_h.out hb5 hbd4_h.out.size
        refine ⟨_, rfl, hc5, ?_⟩
        have hb5_h := Lib.hid hb5
        have hc5_h := Lib.hid hc5
        have hbd5_h := Lib.hid hbd5
        clear hb5 hc5 hbd5
        simp only [Act.put, List.setIfInBounds_toArray, List.set_cons_zero, List.set_cons_succ]
        refine takeH 7 (v := ?_) rfl (by kernel_rfl) (by kernel_rfl) (by kernel_rfl) (fun _ _ _ h => h) hc5_h.out (by rfl) (fun W' hW' => ?_) ?_; rotate_left; · (skip; clear hW'; go_simp; first | done | with_reducible rfl)
        simp only [Act.put, List.setIfInBounds_toArray, List.set_cons_zero, List.set_cons_succ]
        refine doneH (by kernel_rfl) ?_
        go_wp2_with (fail)
        go_ret
        exact ⟨ret_bool hB0_h.out.symm, below_trans hbw_h.out hbd5_h.out hbw_h.out.size⟩
    · obtain rfl : k = q := by omega
      have hbw := below_trans hb2_h.out hbr hb2_h.out.size
      have hRd2 := hRd_h.out wr hbw
      clear hrdR hrdL
      have htk_h := Lib.hid htk
      have hbr_h := Lib.hid hbr
      have hbw_h := Lib.hid hbw
      have hRd2_h := Lib.hid hRd2
      clear htk hbr hbw hRd2
      go_wp2_with (fail)
      refine (hRd2_h.out).mono ?_
      rintro e w6 hret
      obtain ⟨A6, c6, rfl, hO6⟩ := hret.om
      have hb6 := hO6.below_
      rw [← hq_h.out]
      have hfin : ((k : Int) == (m : Int)) = B := by
        rw [hB_h.out]
        have ht := htk_h.out
        rw [List.take_of_length_le (by rw [hq_h.out]; exact Nat.le_refl _)] at ht
        by_cases e : k = m
        · rw [List.take_of_length_le (by rw [hLm_h.out, e]; exact Nat.le_refl _)] at ht
          rw [decide_eq_true ht, e]; simp
        · rw [decide_eq_false (fun h => e (by rw [hq_h.out, h, hLm_h.out]))]
          simp; omega
      have hbe := below_trans hbw_h.out hb6 hbw_h.out.size
      clear hret hO6
      have hb6_h := Lib.hid hb6
      have hbe_h := Lib.hid hbe
      have hfin_h := Lib.hid hfin
      clear hb6 hbe hfin
      go_wp2_with (fail)
      go_ret
      exact ⟨ret_bool hfin_h.out, hbe_h.out⟩
end Go.Proofs.YtahnhblodfdfhaaDoor

namespace Go.Proofs.YtahnhblodfdfhaaDoor
open Go.RowKit
set_option maxHeartbeats 400000 in
theorem l1Same_any (A B : Option Addr) (c d : Nat) (l m : List Int) (w : World) (ha : RdI w A l) (hb : RdI w B m) (hl : l.length ≤ 17592186044416) :
    Calls Tryd.prog 183 #[.slice A l.length c, .slice B m.length d] w fun e w' => e = .returned (.bool (decide (l = m))) ∧ Qt w w' := by
  by_cases hlen : l.length = m.length
  · have h0 : ((l.length : Int) != (m.length : Int)) = false := by rw [hlen]; simp
    go_enter Tryd.func183, Tryd.ntmps183
    go_wp2
    go_loopw [13] (fun i wr => ∃ k n : Nat, k ≤ l.length ∧ i = .int .i64 k ∧ l.take k = m.take k ∧ wr = w.drewN n)
      (fun i _ => l.length - (intOf i).toNat)
    case atStart => exact ⟨0, 0, Nat.zero_le _, rfl, by simp, rfl⟩
    case round =>
      obtain ⟨k, n, hk, rfl, htk, rfl⟩ := hrel
      by_cases hlt : k < l.length
      · obtain ⟨ad, x, rfl, hx, hc⟩ := ha.at_ hlt
        obtain ⟨ad', y, rfl, hy, hc'⟩ := hb.at_ (j := k) (by omega)
        have hlt2 : (k : Int) < (m.length : Int) := by omega
        have HT := Lib.hid htk
        have HL := Lib.hid hlen
        have HX := Lib.hid hx
        have HY := Lib.hid hy
        clear htk hlen hx hy ha hb h0
        go_wp2
        go_quiet (fail)
        go_wp2
        · have hne : (x != y) = true := by assumption
          go_ret
          refine ⟨ret_bool ?_, _, World.drewN_drewN _ _ _⟩
          have : ¬ l = m := by
            intro e
            have h1 := HX.out; have h2 := HY.out
            rw [e, h2] at h1
            simp at hne; exact hne (Option.some.inj h1).symm
          simp [this]
        · have heq : (x != y) = false := by assumption
          go_roundw
          case rel =>
            refine ⟨k + 1, _, by omega, by go_num, ?_, rfl⟩
            have e : x = y := by simpa using heq
            rw [List.take_add_one, List.take_add_one, HT.out, HX.out, HY.out, e]
          case measure => simp [intOf]; omega
      · obtain rfl : k = l.length := by omega
        have HT := Lib.hid htk
        clear htk
        go_wp2
        go_ret
        refine ⟨ret_bool ?_, _, rfl⟩
        have := HT.out
        rw [List.take_of_length_le (Nat.le_refl _), List.take_of_length_le (by omega)] at this
        simp [this]
  · have h0 : ((l.length : Int) != (m.length : Int)) = true := by simp; omega
    go_enter Tryd.func183, Tryd.ntmps183
    go_wp2
    go_ret
    refine ⟨ret_bool ?_, 0, rfl⟩
    have : ¬ l = m := fun e => hlen (by rw [e])
    simp [this]
set_option maxHeartbeats 1000000 in
theorem spSame_any (A B : Option Addr) (c d : Nat) (hs gs : List Hd) (w : World) (ha : RdR w A hs) (hb : RdR w B gs) (hl : hs.length ≤ 17592186044416) (hr : ∀ x, x ∈ hs → x.2.2.length ≤ 17592186044416) :
    Calls Tryd.prog 159 #[.slice A hs.length c, .slice B gs.length d] w fun e w' => e = .returned (.bool (decide (hs.map (fun h : Hd => h.2.2) = gs.map (fun h : Hd => h.2.2)))) ∧ Qt w w' := by
  by_cases hlen : hs.length = gs.length
  · have h0 : ((hs.length : Int) != (gs.length : Int)) = false := by rw [hlen]; simp
    go_enter Tryd.func159, Tryd.ntmps159
    go_wp2
    go_loopw [13] (fun i wr => ∃ k n : Nat, k ≤ hs.length ∧ i = .int .i64 k ∧ (hs.take k).map (fun h : Hd => h.2.2) = (gs.take k).map (fun h : Hd => h.2.2) ∧ wr = w.drewN n)
      (fun i _ => hs.length - (intOf i).toNat)
    case atStart => exact ⟨0, 0, Nat.zero_le _, rfl, by simp, rfl⟩
    case round =>
      obtain ⟨k, n, hk, rfl, htk, hwr⟩ := hrel
      have ha : RdR wr A hs := by rw [hwr]; exact ha
      have hb : RdR wr B gs := by rw [hwr]; exact hb
      have HW := Lib.hid hwr
      clear hwr
      by_cases hlt : k < hs.length
      · obtain ⟨ad, B1, c1, l, rfl, hx, hc1, hr1⟩ := ha.at_ hlt
        obtain ⟨bd, B2, c2, m, rfl, hy, hc2, hr2⟩ := hb.at_ (k := k) (by omega)
        have hll : l.length ≤ 17592186044416 := hr _ (List.mem_of_getElem? hx)
        have hlt2 : (k : Int) < (gs.length : Int) := by omega
        have HT := Lib.hid htk
        have HL := Lib.hid hlen
        have HX := Lib.hid hx
        have HY := Lib.hid hy
        clear htk hlen hx hy ha hb h0 hr
        by_cases hlm : l = m
        · have hd : decide (l = m) = true := decide_eq_true hlm
          have hQ := fun q => l1Same_any B1 B2 c1 c2 l m (wr.drewN q) hr1 hr2 hll
          rw [hd] at hQ
          have HQ := Lib.hid hQ
          have HLM := Lib.hid hlm
          clear hQ hd hlm
          go_wp2
          go_quiet (first | (go_at_call 183; refine Calls.quiet_of (HQ.out _)))
          go_wp2
          go_roundw
          case rel => exact ⟨k + 1, _, by omega, by go_num, by rw [List.take_add_one, List.take_add_one, List.map_append, List.map_append, HT.out, HX.out, HY.out, HLM.out]; rfl, by rw [HW.out]; exact World.drewN_drewN _ _ _⟩
          case measure => simp [intOf]; omega
        · have hd : decide (l = m) = false := decide_eq_false hlm
          have hQ := fun q => l1Same_any B1 B2 c1 c2 l m (wr.drewN q) hr1 hr2 hll
          rw [hd] at hQ
          have HQ := Lib.hid hQ
          have HLM := Lib.hid hlm
          clear hQ hd hlm
          go_wp2
          go_quiet (first | (go_at_call 183; refine Calls.quiet_of (HQ.out _)))
          go_wp2
          go_ret
          refine ⟨ret_bool ?_, _, by rw [HW.out]; exact World.drewN_drewN _ _ _⟩
          symm
          apply decide_eq_false
          intro e
          have h1 := congrArg (·[k]?) e
          simp only [List.getElem?_map, HX.out, HY.out, Option.map_some, Option.some.injEq] at h1
          exact HLM.out h1
      · obtain rfl : k = hs.length := by omega
        have HT := Lib.hid htk
        clear htk
        go_wp2
        go_ret
        refine ⟨ret_bool ?_, _, HW.out⟩
        have := HT.out
        rw [List.take_of_length_le (Nat.le_refl _), List.take_of_length_le (by omega)] at this
        exact (decide_eq_true this).symm
  · have h0 : ((hs.length : Int) != (gs.length : Int)) = true := by simp; omega
    go_enter Tryd.func159, Tryd.ntmps159
    go_wp2
    go_ret
    refine ⟨ret_bool ?_, 0, rfl⟩
    symm
    apply decide_eq_false
    intro e
    have := congrArg List.length e
    simp at this
    exact hlen this
end Go.Proofs.YtahnhblodfdfhaaDoor

namespace Go.Proofs.YtahnhblodfdfhaaDoor
open Go.RowKit
theorem within_r (n lo hi : Int) (w : World) :
    Calls Tryd.prog 102 #[.int .i64 n, .int .i64 lo, .int .i64 hi] w fun e w' => e = .returned (.bool (decide (lo ≤ n) && decide (n ≤ hi))) ∧ w = w' := by
  by_cases h : lo ≤ n
  · have h1 : decide (lo ≤ n) = true := decide_eq_true h
    rw [h1]
    clear h1
    go_enter Tryd.func102, Tryd.ntmps102
    go_wp2_with (fail)
    go_ret
    exact ⟨rfl, rfl⟩
  · have h1 : decide (lo ≤ n) = false := decide_eq_false h
    rw [h1]
    clear h1
    go_enter Tryd.func102, Tryd.ntmps102
    go_wp2_with (fail)
    go_ret
    exact ⟨rfl, rfl⟩
/-- The numbers of a relation. -/
def fitB (a b : Int) : Bool := (decide (0 ≤ a) && decide (a ≤ 24)) && ((decide (0 ≤ b) && decide (b ≤ 24)) && decide (a + b ≤ 24))
theorem fits_any (a b : Int) (w : World) :
    Calls Tryd.prog 72 #[.int .i64 a, .int .i64 b] w fun e w' => e = .returned (.bool (fitB a b)) ∧ w = w' := by
  have hA := within_r a 0 24
  have hB := within_r b 0 24
  obtain ⟨F, hF⟩ : ∃ F, F = fitB a b := ⟨_, rfl⟩
  rw [← hF]
  unfold fitB at hF
  by_cases h1 : 0 ≤ a ∧ a ≤ 24
  · have e1 : (decide (0 ≤ a) && decide (a ≤ 24)) = true := by simp [h1.1, h1.2]
    rw [e1] at hF
    simp only [e1] at hA
    by_cases h2 : 0 ≤ b ∧ b ≤ 24
    · have e2 : (decide (0 ≤ b) && decide (b ≤ 24)) = true := by simp [h2.1, h2.2]
      rw [e2, Bool.true_and, Bool.true_and] at hF
      simp only [e2] at hB
      have hw : IntKind.i64.wrap (a + b) = a + b := IntWalk.i64_in _ (by omega)
      clear e1 e2
      have hF_h := Lib.hid hF
      have hA_h := Lib.hid hA
      have hB_h := Lib.hid hB
      clear hF hA hB
      go_enter Tryd.func72, Tryd.ntmps72
      go_wp2_with (fail)
      refine (hA_h.out w).mono ?_
      rintro e w1 ⟨rfl, rfl⟩
      go_wp2_with (fail)
      refine (hB_h.out w).mono ?_
      rintro e w2 ⟨rfl, rfl⟩
      go_wp2_with (fail)
      go_ret
      exact ⟨ret_bool hF_h.out.symm, rfl⟩
    · have e2 : (decide (0 ≤ b) && decide (b ≤ 24)) = false := by simp; omega
      rw [e2, Bool.false_and, Bool.and_false] at hF
      simp only [e2] at hB
      clear e1 e2 h2
      have hF_h := Lib.hid hF
      have hA_h := Lib.hid hA
      have hB_h := Lib.hid hB
      clear hF hA hB
      go_enter Tryd.func72, Tryd.ntmps72
      go_wp2_with (fail)
      refine (hA_h.out w).mono ?_
      rintro e w1 ⟨rfl, rfl⟩
      go_wp2_with (fail)
      refine (hB_h.out w).mono ?_
      rintro e w2 ⟨rfl, rfl⟩
      go_wp2_with (fail)
      go_ret
      exact ⟨ret_bool hF_h.out.symm, rfl⟩
  · have e1 : (decide (0 ≤ a) && decide (a ≤ 24)) = false := by simp; omega
    rw [e1, Bool.false_and] at hF
    simp only [e1] at hA
    clear e1 h1
    have hF_h := Lib.hid hF
    have hA_h := Lib.hid hA
    have hB_h := Lib.hid hB
    clear hF hA hB
    go_enter Tryd.func72, Tryd.ntmps72
    go_wp2_with (fail)
    refine (hA_h.out w).mono ?_
    rintro e w1 ⟨rfl, rfl⟩
    go_wp2_with (fail)
    go_ret
    exact ⟨ret_bool hF_h.out.symm, rfl⟩
theorem relB_fit (p : Int) (s : Sys) : relB p s = (fieldB p && (fitB s.1 s.2.1 && redB p (s.1 + s.2.1) s.2.2)) := by
  unfold relB fitB
  rw [Bool.eq_iff_iff]
  simp only [Bool.and_eq_true, decide_eq_true_eq]
  constructor
  · rintro ⟨⟨h1, h2⟩, ⟨h3, h4⟩, h5, h6⟩; exact ⟨h5, ⟨⟨h1, h2⟩, ⟨h3, by omega⟩, by omega⟩, h6⟩
  · rintro ⟨h5, ⟨⟨h1, h2⟩, ⟨h3, h4⟩, h7⟩, h6⟩; exact ⟨⟨h1, h2⟩, ⟨h3, by omega⟩, h5, h6⟩
abbrev tRel : TypeId := 43
abbrev tSpc : TypeId := 139
theorem alloc_box (w : World) (o : Obj) : ∃ W, W = w.alloc o ∧ Below w.heap.size w W ∧ W.heap[w.heap.size]? = some o := ⟨_, rfl, (Below.refl _ _).alloc (Nat.le_refl _) _, heap_alloc_new w o⟩
set_option maxRecDepth 8000 in
set_option maxHeartbeats 1000000 in
theorem isRelation_any (p : Int) {v : Value} {s : Sys} (w : World) (h : RdSysV w v s) (hT : Tab w) (hn : s.2.2.length ≤ 1048576) (hr : ∀ x, x ∈ s.2.2 → x.length ≤ 1048576) :
    Calls Tryd.prog 71 #[.int .i64 p, v] w fun e w' => e = .returned (.bool (relB p s)) ∧ Below w.heap.size w w' := by
  obtain ⟨A, c, hs, rfl, hL, hR⟩ := h
  obtain ⟨a, b, L⟩ := s
  have hL' : L = hs.map (fun h : Hd => h.2.2) := hL
  subst hL'
  clear hL
  have hrr : ∀ x, x ∈ hs → x.2.2.length ≤ 1048576 := fun x hx => hr _ (List.mem_map_of_mem hx)
  have hnn : hs.length ≤ 1048576 := by simpa using hn
  obtain ⟨F, hF⟩ : ∃ F, F = relB p (a, b, hs.map fun h : Hd => h.2.2) := ⟨_, rfl⟩
  rw [← hF]
  rw [relB_fit] at hF
  obtain ⟨W, hW, b0, k0⟩ := alloc_box w (.cells #[.int .i64 a, .int .i64 b, .slice A hs.length c] tRel)
  have hG := isField_any p W (hT.below b0 hT.lt)
  have hH := fits_any a b W
  obtain ⟨m, hm⟩ : ∃ m, m = hs.length := ⟨_, rfl⟩
  by_cases h1 : fieldB p = true
  · rw [h1, Bool.true_and] at hF
    rw [h1] at hG
    by_cases h2 : fitB a b = true
    · have hF2 : F = redB p (a + b) (hs.map fun h : Hd => h.2.2) := by rw [hF]; show (fitB a b && _) = _; rw [h2, Bool.true_and]
      rw [h2] at hH
      have hab : 0 ≤ a ∧ 0 ≤ b ∧ a + b ≤ 24 := by unfold fitB at h2; simp only [Bool.and_eq_true, decide_eq_true_eq] at h2; omega
      obtain ⟨n, hn⟩ : ∃ n : Nat, a + b = (n : Int) := ⟨(a + b).toNat, by omega⟩
      have hw : IntKind.i64.wrap (a + b) = (n : Int) := by rw [hn]; exact IntWalk.i64_in _ (by omega)
      have hD := isReduced_any p n A c hs W (hR.below b0) h1 (by omega) hnn hrr
      rw [hn, ← hn] at hF2
      rw [← hn, ← hF2, hn] at hD
      rw [← hm] at hD hW k0 ⊢
      clear hF
      have b0_h := Lib.hid b0
      have k0_h := Lib.hid k0
      have hG_h := Lib.hid hG
      have hH_h := Lib.hid hH
      have hD_h := Lib.hid hD
      have hm_h := Lib.hid hm
      have hF2_h := Lib.hid hF2
      have hab_h := Lib.hid hab
      have hn_h := Lib.hid hn
      have h1_h := Lib.hid h1
      have h2_h := Lib.hid h2
      have hT_h := Lib.hid hT
      have hR_h := Lib.hid hR
      have hrr_h := Lib.hid hrr
      have hr_h := Lib.hid hr
      clear b0 k0 hG hH hD hm hF2 hab hn h1 h2 hT hR hrr hr
      obtain ⟨⟨c0, c1, c2⟩, f0, f1, f2⟩ := box3 k0_h.out
      go_enter Tryd.func71, Tryd.ntmps71
      go_upto_region 1 with (fail)
      rw [← hW]
      clear hW
      go_wp2_with (fail)
      refine (hG_h.out).mono ?_
      rintro e w1 ⟨rfl, rfl⟩
      go_wp2_with (fail)
      refine (hH_h.out).mono ?_
      rintro e w2 ⟨rfl, rfl⟩
      go_wp2_with (fail)
      refine (hD_h.out).mono ?_
      rintro e w3 ⟨rfl, hb3⟩
      go_wp2_with (fail)
      go_ret
      exact ⟨rfl, below_trans b0_h.out hb3 b0_h.out.size⟩
    · have h2' : fitB a b = false := by simpa using h2
      have hF2 : F = false := by rw [hF]; show (fitB a b && _) = _; rw [h2', Bool.false_and]
      rw [h2'] at hH
      rw [← hm] at hW k0 ⊢
      clear hF h2
      have b0_h := Lib.hid b0
      have k0_h := Lib.hid k0
      have hG_h := Lib.hid hG
      have hH_h := Lib.hid hH
      have hm_h := Lib.hid hm
      have hF2_h := Lib.hid hF2
      have h1_h := Lib.hid h1
      have h2'_h := Lib.hid h2'
      have hT_h := Lib.hid hT
      have hR_h := Lib.hid hR
      have hrr_h := Lib.hid hrr
      have hr_h := Lib.hid hr
      clear b0 k0 hG hH hm hF2 h1 h2' hT hR hrr hr
      obtain ⟨⟨c0, c1, c2⟩, f0, f1, f2⟩ := box3 k0_h.out
      go_enter Tryd.func71, Tryd.ntmps71
      go_upto_region 1 with (fail)
      rw [← hW]
      clear hW
      go_wp2_with (fail)
      refine (hG_h.out).mono ?_
      rintro e w1 ⟨rfl, rfl⟩
      go_wp2_with (fail)
      refine (hH_h.out).mono ?_
      rintro e w2 ⟨rfl, rfl⟩
      go_wp2_with (fail)
      go_ret
      exact ⟨ret_bool hF2_h.out.symm, b0_h.out⟩
  · have h1' : fieldB p = false := by simpa using h1
    have hF2 : F = false := by rw [hF, h1', Bool.false_and]
    rw [h1'] at hG
    rw [← hm] at hW k0 ⊢
    clear hF h1
    have b0_h := Lib.hid b0
    have k0_h := Lib.hid k0
    have hG_h := Lib.hid hG
    have hH_h := Lib.hid hH
    have hm_h := Lib.hid hm
    have hF2_h := Lib.hid hF2
    have h1'_h := Lib.hid h1'
    have hT_h := Lib.hid hT
    have hR_h := Lib.hid hR
    have hrr_h := Lib.hid hrr
    have hr_h := Lib.hid hr
    clear b0 k0 hG hH hm hF2 h1' hT hR hrr hr
    obtain ⟨⟨c0, c1, c2⟩, f0, f1, f2⟩ := box3 k0_h.out
    go_enter Tryd.func71, Tryd.ntmps71
    go_upto_region 1 with (fail)
    rw [← hW]
    clear hW
    go_wp2_with (fail)
    refine (hG_h.out).mono ?_
    rintro e w1 ⟨rfl, rfl⟩
    go_wp2_with (fail)
    go_ret
    exact ⟨ret_bool hF2_h.out.symm, b0_h.out⟩
set_option maxRecDepth 8000 in
set_option maxHeartbeats 2000000 in
theorem spGood_any (p : Int) (n : Nat) (A : Option Addr) (c : Nat) (hs : List Hd) (w : World) (h : RdR w A hs) (hn : n ≤ 24) (hl : hs.length ≤ 1048576) (hr : ∀ x, x ∈ hs → x.2.2.length ≤ 1048576) :
    Calls Tryd.prog 120 #[.int .i64 p, .agg #[.int .i64 n, .slice A hs.length c]] w fun e w' => e = .returned (.bool (fieldB p && redB p n (hs.map fun h : Hd => h.2.2))) ∧ Below w.heap.size w w' := by
  obtain ⟨L, hL⟩ : ∃ L, L = hs.map fun h : Hd => h.2.2 := ⟨_, rfl⟩
  obtain ⟨m, hm⟩ : ∃ m, m = hs.length := ⟨_, rfl⟩
  obtain ⟨F, hF⟩ : ∃ F, F = (fieldB p && redB p n L) := ⟨_, rfl⟩
  have hLm : L.length = m := by rw [hL, hm, List.length_map]
  obtain ⟨W, hW, b0, k0⟩ := alloc_box w (.cells #[.int .i64 (n : Int), .slice A m c] tSpc)
  have hG := fun W => fdGood_any p W
  have hI : ∀ W, Calls Tryd.prog 96 #[.int .i64 (n : Int), .int .i64 0, .int .i64 24] W fun e w' => e = .returned (.bool true) ∧ W = w' := fun W => by
    have := l1In_any (n : Int) 0 24 W
    rwa [show (decide ((0 : Int) ≤ (n : Int)) && decide ((n : Int) ≤ 24)) = true by simp; omega] at this
  have hR := h.below b0
  rw [← hL, ← hm, ← hF]
  unfold redB at hF
  rw [hLm, Int.toNat_natCast] at hF
  clear h
  by_cases h1 : fieldB p = true
  case neg =>
    have h1' : fieldB p = false := by simpa using h1
    rw [h1', Bool.false_and] at hF
    simp only [h1'] at hG
    clear h1 h1'
    have hL_h := Lib.hid hL
    have hm_h := Lib.hid hm
    have hF_h := Lib.hid hF
    have hLm_h := Lib.hid hLm
    have b0_h := Lib.hid b0
    have k0_h := Lib.hid k0
    have hG_h := Lib.hid hG
    have hI_h := Lib.hid hI
    have hR_h := Lib.hid hR
    have hr_h := Lib.hid hr
    clear hL hm hF hLm b0 k0 hG hI hR hr
    go_enter Tryd.func120, Tryd.ntmps120
    go_upto_region 1 with (fail)
    rw [← hW]
    clear hW
    go_wp2_with (fail)
    refine beginH (fun w' => w'.heap[w.heap.size]? = some (.cells #[.int .i64 (n : Int), .slice A m c] tSpc)) (by kernel_rfl) ?_
    have hbd : Below W.heap.size W W.drew := below_drewN (Below.refl _ _) 1
    generalize W.drew = W1 at hbd ⊢
    have hB := below_trans b0_h.out hbd b0_h.out.size
    replace k0_h := Lib.hid (box_below k0_h.out hbd)
    have hbd_h := Lib.hid hbd
    have hB_h := Lib.hid hB
    clear hbd hB
    refine takeH 0 (v := ?_) rfl (by kernel_rfl) (by kernel_rfl) (by kernel_rfl) (fun _ _ _ h => h) k0_h.out (by rfl) (fun W' hW' => ?_) ?_; rotate_left; · (obtain ⟨⟨y0, y1⟩, y2, y3⟩ := box2 hW'; clear hW'; go_simp; first | done | with_reducible rfl)
    simp only [Act.put, List.setIfInBounds_toArray, List.set_cons_zero, List.set_cons_succ]
    refine' callH 1 (f := _) (args := _) rfl (by kernel_rfl) (by rfl) ?_ ?_; rotate_left 2; · (go_simp; first | done | with_reducible rfl | (constructor <;> with_reducible rfl))
    refine (hG_h.out W1).mono ?_
    rintro e w1 ⟨rfl, rfl⟩
    refine ⟨_, rfl, k0_h.out, ?_⟩
    simp only [Act.put, List.setIfInBounds_toArray, List.set_cons_zero, List.set_cons_succ]
    refine takeH 2 (v := ?_) rfl (by kernel_rfl) (by kernel_rfl) (by kernel_rfl) (fun _ _ _ h => h) k0_h.out (by rfl) (fun W' hW' => ?_) ?_; rotate_left; · (obtain ⟨⟨y0, y1⟩, y2, y3⟩ := box2 hW'; clear hW'; go_simp; first | done | with_reducible rfl)
    simp only [Act.put, List.setIfInBounds_toArray, List.set_cons_zero, List.set_cons_succ]
    refine offH 3 rfl (by kernel_rfl) (by kernel_rfl) (by kernel_rfl) (fun _ _ _ h => h) k0_h.out (by rfl) ?_
    simp only [Act.put, List.setIfInBounds_toArray, List.set_cons_zero, List.set_cons_succ]
    refine offH 4 rfl (by kernel_rfl) (by kernel_rfl) (by kernel_rfl) (fun _ _ _ h => h) k0_h.out (by rfl) ?_
    simp only [Act.put, List.setIfInBounds_toArray, List.set_cons_zero, List.set_cons_succ]
    refine offOneH 5 rfl (by kernel_rfl) (by rfl) k0_h.out ?_
    simp only [Act.put, List.setIfInBounds_toArray, List.set_cons_zero, List.set_cons_succ]
    refine takeH 6 (v := ?_) rfl (by kernel_rfl) (by kernel_rfl) (by kernel_rfl) (fun _ _ _ h => h) k0_h.out (by rfl) (fun W' hW' => ?_) ?_; rotate_left; · (obtain ⟨⟨y0, y1⟩, y2, y3⟩ := box2 hW'; clear hW'; go_simp; first | done | with_reducible rfl)
    simp only [Act.put, List.setIfInBounds_toArray, List.set_cons_zero, List.set_cons_succ]
    refine takeH 7 (v := ?_) rfl (by kernel_rfl) (by kernel_rfl) (by kernel_rfl) (fun _ _ _ h => h) k0_h.out (by rfl) (fun W' hW' => ?_) ?_; rotate_left; · (obtain ⟨⟨y0, y1⟩, y2, y3⟩ := box2 hW'; clear hW'; go_simp; first | done | with_reducible rfl)
    simp only [Act.put, List.setIfInBounds_toArray, List.set_cons_zero, List.set_cons_succ]
    refine offH 8 rfl (by kernel_rfl) (by kernel_rfl) (by kernel_rfl) (fun _ _ _ h => h) k0_h.out (by rfl) ?_
    simp only [Act.put, List.setIfInBounds_toArray, List.set_cons_zero, List.set_cons_succ]
    refine offH 9 rfl (by kernel_rfl) (by kernel_rfl) (by kernel_rfl) (fun _ _ _ h => h) k0_h.out (by rfl) ?_
    simp only [Act.put, List.setIfInBounds_toArray, List.set_cons_zero, List.set_cons_succ]
    refine offH 10 rfl (by kernel_rfl) (by kernel_rfl) (by kernel_rfl) (fun _ _ _ h => h) k0_h.out (by rfl) ?_
    simp only [Act.put, List.setIfInBounds_toArray, List.set_cons_zero, List.set_cons_succ]
    refine offH 11 rfl (by kernel_rfl) (by kernel_rfl) (by kernel_rfl) (fun _ _ _ h => h) k0_h.out (by rfl) ?_
    simp only [Act.put, List.setIfInBounds_toArray, List.set_cons_zero, List.set_cons_succ]
    refine offH 12 rfl (by kernel_rfl) (by kernel_rfl) (by kernel_rfl) (fun _ _ _ h => h) k0_h.out (by rfl) ?_
    simp only [Act.put, List.setIfInBounds_toArray, List.set_cons_zero, List.set_cons_succ]
    refine offH 13 rfl (by kernel_rfl) (by kernel_rfl) (by kernel_rfl) (fun _ _ _ h => h) k0_h.out (by rfl) ?_
    simp only [Act.put, List.setIfInBounds_toArray, List.set_cons_zero, List.set_cons_succ]
    refine takeH 14 (v := ?_) rfl (by kernel_rfl) (by kernel_rfl) (by kernel_rfl) (fun _ _ _ h => h) k0_h.out (by rfl) (fun W' hW' => ?_) ?_; rotate_left; · (obtain ⟨⟨y0, y1⟩, y2, y3⟩ := box2 hW'; clear hW'; go_simp; first | done | with_reducible rfl)
    simp only [Act.put, List.setIfInBounds_toArray, List.set_cons_zero, List.set_cons_succ]
    refine takeH 15 (v := ?_) rfl (by kernel_rfl) (by kernel_rfl) (by kernel_rfl) (fun _ _ _ h => h) k0_h.out (by rfl) (fun W' hW' => ?_) ?_; rotate_left; · (obtain ⟨⟨y0, y1⟩, y2, y3⟩ := box2 hW'; clear hW'; go_simp; first | done | with_reducible rfl)
    simp only [Act.put, List.setIfInBounds_toArray, List.set_cons_zero, List.set_cons_succ]
    refine offH 16 rfl (by kernel_rfl) (by kernel_rfl) (by kernel_rfl) (fun _ _ _ h => h) k0_h.out (by rfl) ?_
    simp only [Act.put, List.setIfInBounds_toArray, List.set_cons_zero, List.set_cons_succ]
    refine offH 17 rfl (by kernel_rfl) (by kernel_rfl) (by kernel_rfl) (fun _ _ _ h => h) k0_h.out (by rfl) ?_
    simp only [Act.put, List.setIfInBounds_toArray, List.set_cons_zero, List.set_cons_succ]
    refine offH 18 rfl (by kernel_rfl) (by kernel_rfl) (by kernel_rfl) (fun _ _ _ h => h) k0_h.out (by rfl) ?_
    simp only [Act.put, List.setIfInBounds_toArray, List.set_cons_zero, List.set_cons_succ]
    refine offH 19 rfl (by kernel_rfl) (by kernel_rfl) (by kernel_rfl) (fun _ _ _ h => h) k0_h.out (by rfl) ?_
    simp only [Act.put, List.setIfInBounds_toArray, List.set_cons_zero, List.set_cons_succ]
    refine offH 20 rfl (by kernel_rfl) (by kernel_rfl) (by kernel_rfl) (fun _ _ _ h => h) k0_h.out (by rfl) ?_
    simp only [Act.put, List.setIfInBounds_toArray, List.set_cons_zero, List.set_cons_succ]
    refine offOneH 21 rfl (by kernel_rfl) (by rfl) k0_h.out ?_
    simp only [Act.put, List.setIfInBounds_toArray, List.set_cons_zero, List.set_cons_succ]
    refine takeH 22 (v := ?_) rfl (by kernel_rfl) (by kernel_rfl) (by kernel_rfl) (fun _ _ _ h => h) k0_h.out (by rfl) (fun W' hW' => ?_) ?_; rotate_left; · (obtain ⟨⟨y0, y1⟩, y2, y3⟩ := box2 hW'; clear hW'; go_simp; first | done | with_reducible rfl)
    simp only [Act.put, List.setIfInBounds_toArray, List.set_cons_zero, List.set_cons_succ]
    refine takeH 23 (v := ?_) rfl (by kernel_rfl) (by kernel_rfl) (by kernel_rfl) (fun _ _ _ h => h) k0_h.out (by rfl) (fun W' hW' => ?_) ?_; rotate_left; · (obtain ⟨⟨y0, y1⟩, y2, y3⟩ := box2 hW'; clear hW'; go_simp; first | done | with_reducible rfl)
    simp only [Act.put, List.setIfInBounds_toArray, List.set_cons_zero, List.set_cons_succ]
    refine offH 24 rfl (by kernel_rfl) (by kernel_rfl) (by kernel_rfl) (fun _ _ _ h => h) k0_h.out (by rfl) ?_
    simp only [Act.put, List.setIfInBounds_toArray, List.set_cons_zero, List.set_cons_succ]
    refine offH 25 rfl (by kernel_rfl) (by kernel_rfl) (by kernel_rfl) (fun _ _ _ h => h) k0_h.out (by rfl) ?_
    simp only [Act.put, List.setIfInBounds_toArray, List.set_cons_zero, List.set_cons_succ]
    refine offH 26 rfl (by kernel_rfl) (by kernel_rfl) (by kernel_rfl) (fun _ _ _ h => h) k0_h.out (by rfl) ?_
    simp only [Act.put, List.setIfInBounds_toArray, List.set_cons_zero, List.set_cons_succ]
    refine offH 27 rfl (by kernel_rfl) (by kernel_rfl) (by kernel_rfl) (fun _ _ _ h => h) k0_h.out (by rfl) ?_
    simp only [Act.put, List.setIfInBounds_toArray, List.set_cons_zero, List.set_cons_succ]
    refine offH 28 rfl (by kernel_rfl) (by kernel_rfl) (by kernel_rfl) (fun _ _ _ h => h) k0_h.out (by rfl) ?_
    simp only [Act.put, List.setIfInBounds_toArray, List.set_cons_zero, List.set_cons_succ]
    refine offH 30 rfl (by kernel_rfl) (by kernel_rfl) (by kernel_rfl) (fun _ _ _ h => h) k0_h.out (by rfl) ?_
    simp only [Act.put, List.setIfInBounds_toArray, List.set_cons_zero, List.set_cons_succ]
    refine offH 31 rfl (by kernel_rfl) (by kernel_rfl) (by kernel_rfl) (fun _ _ _ h => h) k0_h.out (by rfl) ?_
    simp only [Act.put, List.setIfInBounds_toArray, List.set_cons_zero, List.set_cons_succ]
    refine offOneH 29 rfl (by kernel_rfl) (by rfl) k0_h.out ?_
    simp only [Act.put, List.setIfInBounds_toArray, List.set_cons_zero, List.set_cons_succ]
    refine offOneH 32 rfl (by kernel_rfl) (by rfl) k0_h.out ?_
    simp only [Act.put, List.setIfInBounds_toArray, List.set_cons_zero, List.set_cons_succ]
    refine takeH 33 (v := ?_) rfl (by kernel_rfl) (by kernel_rfl) (by kernel_rfl) (fun _ _ _ h => h) k0_h.out (by rfl) (fun W' hW' => ?_) ?_; rotate_left; · (obtain ⟨⟨y0, y1⟩, y2, y3⟩ := box2 hW'; clear hW'; go_simp; first | done | with_reducible rfl)
    simp only [Act.put, List.setIfInBounds_toArray, List.set_cons_zero, List.set_cons_succ]
    refine takeH 34 (v := ?_) rfl (by kernel_rfl) (by kernel_rfl) (by kernel_rfl) (fun _ _ _ h => h) k0_h.out (by rfl) (fun W' hW' => ?_) ?_; rotate_left; · (obtain ⟨⟨y0, y1⟩, y2, y3⟩ := box2 hW'; clear hW'; go_simp; first | done | with_reducible rfl)
    simp only [Act.put, List.setIfInBounds_toArray, List.set_cons_zero, List.set_cons_succ]
    refine doneH (by kernel_rfl) ?_
    go_wp2_with (fail)
    go_ret
    exact ⟨ret_bool hF_h.out.symm, hB_h.out⟩
  case pos =>
  have hpb := fieldB_bounds h1
  rw [h1, Bool.true_and] at hF
  simp only [h1] at hG
  by_cases h2 : m ≤ n
  case neg =>
    have d2 : decide ((m : Int) ≤ (n : Int)) = false := decide_eq_false (by omega)
    rw [d2, Bool.false_and] at hF
    have d3 : decide (m ≤ n) = false := decide_eq_false h2
    clear h2
    have hL_h := Lib.hid hL
    have hm_h := Lib.hid hm
    have hF_h := Lib.hid hF
    have hLm_h := Lib.hid hLm
    have b0_h := Lib.hid b0
    have k0_h := Lib.hid k0
    have hG_h := Lib.hid hG
    have hI_h := Lib.hid hI
    have hR_h := Lib.hid hR
    have hr_h := Lib.hid hr
    have h1_h := Lib.hid h1
    have hpb_h := Lib.hid hpb
    clear hL hm hF hLm b0 k0 hG hI hR hr h1 hpb
    go_enter Tryd.func120, Tryd.ntmps120
    go_upto_region 1 with (fail)
    rw [← hW]
    clear hW
    go_wp2_with (fail)
    refine beginH (fun w' => w'.heap[w.heap.size]? = some (.cells #[.int .i64 (n : Int), .slice A m c] tSpc)) (by kernel_rfl) ?_
    have hbd : Below W.heap.size W W.drew := below_drewN (Below.refl _ _) 1
    generalize W.drew = W1 at hbd ⊢
    have hB := below_trans b0_h.out hbd b0_h.out.size
    replace k0_h := Lib.hid (box_below k0_h.out hbd)
    have hbd_h := Lib.hid hbd
    have hB_h := Lib.hid hB
    clear hbd hB
    refine takeH 0 (v := ?_) rfl (by kernel_rfl) (by kernel_rfl) (by kernel_rfl) (fun _ _ _ h => h) k0_h.out (by rfl) (fun W' hW' => ?_) ?_; rotate_left; · (obtain ⟨⟨y0, y1⟩, y2, y3⟩ := box2 hW'; clear hW'; go_simp; first | done | with_reducible rfl)
    simp only [Act.put, List.setIfInBounds_toArray, List.set_cons_zero, List.set_cons_succ]
    refine' callH 1 (f := _) (args := _) rfl (by kernel_rfl) (by rfl) ?_ ?_; rotate_left 2; · (go_simp; first | done | with_reducible rfl | (constructor <;> with_reducible rfl))
    refine (hG_h.out W1).mono ?_
    rintro e w1 ⟨rfl, rfl⟩
    refine ⟨_, rfl, k0_h.out, ?_⟩
    simp only [Act.put, List.setIfInBounds_toArray, List.set_cons_zero, List.set_cons_succ]
    refine takeH 2 (v := ?_) rfl (by kernel_rfl) (by kernel_rfl) (by kernel_rfl) (fun _ _ _ h => h) k0_h.out (by rfl) (fun W' hW' => ?_) ?_; rotate_left; · (obtain ⟨⟨y0, y1⟩, y2, y3⟩ := box2 hW'; clear hW'; go_simp; first | done | with_reducible rfl)
    simp only [Act.put, List.setIfInBounds_toArray, List.set_cons_zero, List.set_cons_succ]
    refine takeH 3 (v := ?_) rfl (by kernel_rfl) (by kernel_rfl) (by kernel_rfl) (fun _ _ _ h => h) k0_h.out (by rfl) (fun W' hW' => ?_) ?_; rotate_left; · (obtain ⟨⟨y0, y1⟩, y2, y3⟩ := box2 hW'; clear hW'; go_simp; first | done | with_reducible rfl)
    simp only [Act.put, List.setIfInBounds_toArray, List.set_cons_zero, List.set_cons_succ]
    refine takeH 4 (v := ?_) rfl (by kernel_rfl) (by kernel_rfl) (by kernel_rfl) (fun _ _ _ h => h) k0_h.out (by rfl) (fun W' hW' => ?_) ?_; rotate_left; · (obtain ⟨⟨y0, y1⟩, y2, y3⟩ := box2 hW'; clear hW'; go_simp; first | done | with_reducible rfl)
    simp only [Act.put, List.setIfInBounds_toArray, List.set_cons_zero, List.set_cons_succ]
    refine' callH 5 (f := _) (args := _) rfl (by kernel_rfl) (by rfl) ?_ ?_; rotate_left 2; · (go_simp; first | done | with_reducible rfl | (constructor <;> with_reducible rfl))
    refine (hI_h.out W1).mono ?_
    rintro e w1 ⟨rfl, rfl⟩
    refine ⟨_, rfl, k0_h.out, ?_⟩
    simp only [Act.put, List.setIfInBounds_toArray, List.set_cons_zero, List.set_cons_succ]
    refine takeH 6 (v := ?_) rfl (by kernel_rfl) (by kernel_rfl) (by kernel_rfl) (fun _ _ _ h => h) k0_h.out (by rfl) (fun W' hW' => ?_) ?_; rotate_left; · (obtain ⟨⟨y0, y1⟩, y2, y3⟩ := box2 hW'; clear hW'; go_simp; first | done | with_reducible rfl)
    simp only [Act.put, List.setIfInBounds_toArray, List.set_cons_zero, List.set_cons_succ]
    refine takeH 7 (v := ?_) rfl (by kernel_rfl) (by kernel_rfl) (by kernel_rfl) (fun _ _ _ h => h) k0_h.out (by rfl) (fun W' hW' => ?_) ?_; rotate_left; · (obtain ⟨⟨y0, y1⟩, y2, y3⟩ := box2 hW'; clear hW'; go_simp; first | done | with_reducible rfl)
    simp only [Act.put, List.setIfInBounds_toArray, List.set_cons_zero, List.set_cons_succ]
    refine takeH 8 (v := ?_) rfl (by kernel_rfl) (by kernel_rfl) (by kernel_rfl) (fun _ _ _ h => h) k0_h.out (by rfl) (fun W' hW' => ?_) ?_; rotate_left; · (obtain ⟨⟨y0, y1⟩, y2, y3⟩ := box2 hW'; clear hW'; go_simp; first | done | with_reducible rfl)
    simp only [Act.put, List.setIfInBounds_toArray, List.set_cons_zero, List.set_cons_succ]
    refine takeH 9 (v := ?_) rfl (by kernel_rfl) (by kernel_rfl) (by kernel_rfl) (fun _ _ _ h => h) k0_h.out (by rfl) (fun W' hW' => ?_) ?_; rotate_left; · (obtain ⟨⟨y0, y1⟩, y2, y3⟩ := box2 hW'; clear hW'; go_simp; first | done | with_reducible rfl)
    simp only [Act.put, List.setIfInBounds_toArray, List.set_cons_zero, List.set_cons_succ]
    refine takeH 10 (v := ?_) rfl (by kernel_rfl) (by kernel_rfl) (by kernel_rfl) (fun _ _ _ h => h) k0_h.out (by rfl) (fun W' hW' => ?_) ?_; rotate_left; · (obtain ⟨⟨y0, y1⟩, y2, y3⟩ := box2 hW'; clear hW'; go_simp; first | done | with_reducible rfl)
    simp only [Act.put, List.setIfInBounds_toArray, List.set_cons_zero, List.set_cons_succ]
    refine takeH 11 (v := ?_) rfl (by kernel_rfl) (by kernel_rfl) (by kernel_rfl) (fun _ _ _ h => h) k0_h.out (by rfl) (fun W' hW' => ?_) ?_; rotate_left; · (obtain ⟨⟨y0, y1⟩, y2, y3⟩ := box2 hW'; clear hW'; go_simp; first | done | with_reducible rfl)
    simp only [Act.put, List.setIfInBounds_toArray, List.set_cons_zero, List.set_cons_succ]
    refine takeH 12 (v := ?_) rfl (by kernel_rfl) (by kernel_rfl) (by kernel_rfl) (fun _ _ _ h => h) k0_h.out (by rfl) (fun W' hW' => ?_) ?_; rotate_left; · (obtain ⟨⟨y0, y1⟩, y2, y3⟩ := box2 hW'; clear hW'; go_simp; first | done | with_reducible rfl)
    simp only [Act.put, List.setIfInBounds_toArray, List.set_cons_zero, List.set_cons_succ]
    refine takeH 13 (v := ?_) rfl (by kernel_rfl) (by kernel_rfl) (by kernel_rfl) (fun _ _ _ h => h) k0_h.out (by rfl) (fun W' hW' => ?_) ?_; rotate_left; · (obtain ⟨⟨y0, y1⟩, y2, y3⟩ := box2 hW'; clear hW'; go_simp; first | done | with_reducible rfl)
    simp only [Act.put, List.setIfInBounds_toArray, List.set_cons_zero, List.set_cons_succ]
    refine takeH 14 (v := ?_) rfl (by kernel_rfl) (by kernel_rfl) (by kernel_rfl) (fun _ _ _ h => h) k0_h.out (by rfl) (fun W' hW' => ?_) ?_; rotate_left; · (obtain ⟨⟨y0, y1⟩, y2, y3⟩ := box2 hW'; clear hW'; go_simp; first | done | with_reducible rfl)
    simp only [Act.put, List.setIfInBounds_toArray, List.set_cons_zero, List.set_cons_succ]
    refine takeH 15 (v := ?_) rfl (by kernel_rfl) (by kernel_rfl) (by kernel_rfl) (fun _ _ _ h => h) k0_h.out (by rfl) (fun W' hW' => ?_) ?_; rotate_left; · (obtain ⟨⟨y0, y1⟩, y2, y3⟩ := box2 hW'; clear hW'; go_simp; first | done | with_reducible rfl)
    simp only [Act.put, List.setIfInBounds_toArray, List.set_cons_zero, List.set_cons_succ]
    refine offH 16 rfl (by kernel_rfl) (by kernel_rfl) (by kernel_rfl) (fun _ _ _ h => h) k0_h.out (by rfl) ?_
    simp only [Act.put, List.setIfInBounds_toArray, List.set_cons_zero, List.set_cons_succ]
    refine offH 17 rfl (by kernel_rfl) (by kernel_rfl) (by kernel_rfl) (fun _ _ _ h => h) k0_h.out (by rfl) ?_
    simp only [Act.put, List.setIfInBounds_toArray, List.set_cons_zero, List.set_cons_succ]
    refine offH 18 rfl (by kernel_rfl) (by kernel_rfl) (by kernel_rfl) (fun _ _ _ h => h) k0_h.out (by rfl) ?_
    simp only [Act.put, List.setIfInBounds_toArray, List.set_cons_zero, List.set_cons_succ]
    refine offH 19 rfl (by kernel_rfl) (by kernel_rfl) (by kernel_rfl) (fun _ _ _ h => h) k0_h.out (by rfl) ?_
    simp only [Act.put, List.setIfInBounds_toArray, List.set_cons_zero, List.set_cons_succ]
    refine offH 20 rfl (by kernel_rfl) (by kernel_rfl) (by kernel_rfl) (fun _ _ _ h => h) k0_h.out (by rfl) ?_
    simp only [Act.put, List.setIfInBounds_toArray, List.set_cons_zero, List.set_cons_succ]
    refine offOneH 21 rfl (by kernel_rfl) (by rfl) k0_h.out ?_
    simp only [Act.put, List.setIfInBounds_toArray, List.set_cons_zero, List.set_cons_succ]
    refine takeH 22 (v := ?_) rfl (by kernel_rfl) (by kernel_rfl) (by kernel_rfl) (fun _ _ _ h => h) k0_h.out (by rfl) (fun W' hW' => ?_) ?_; rotate_left; · (obtain ⟨⟨y0, y1⟩, y2, y3⟩ := box2 hW'; clear hW'; go_simp; first | done | with_reducible rfl)
    simp only [Act.put, List.setIfInBounds_toArray, List.set_cons_zero, List.set_cons_succ]
    refine takeH 23 (v := ?_) rfl (by kernel_rfl) (by kernel_rfl) (by kernel_rfl) (fun _ _ _ h => h) k0_h.out (by rfl) (fun W' hW' => ?_) ?_; rotate_left; · (obtain ⟨⟨y0, y1⟩, y2, y3⟩ := box2 hW'; clear hW'; go_simp; first | done | with_reducible rfl)
    simp only [Act.put, List.setIfInBounds_toArray, List.set_cons_zero, List.set_cons_succ]
    refine offH 24 rfl (by kernel_rfl) (by kernel_rfl) (by kernel_rfl) (fun _ _ _ h => h) k0_h.out (by rfl) ?_
    simp only [Act.put, List.setIfInBounds_toArray, List.set_cons_zero, List.set_cons_succ]
    refine offH 25 rfl (by kernel_rfl) (by kernel_rfl) (by kernel_rfl) (fun _ _ _ h => h) k0_h.out (by rfl) ?_
    simp only [Act.put, List.setIfInBounds_toArray, List.set_cons_zero, List.set_cons_succ]
    refine offH 26 rfl (by kernel_rfl) (by kernel_rfl) (by kernel_rfl) (fun _ _ _ h => h) k0_h.out (by rfl) ?_
    simp only [Act.put, List.setIfInBounds_toArray, List.set_cons_zero, List.set_cons_succ]
    refine offH 27 rfl (by kernel_rfl) (by kernel_rfl) (by kernel_rfl) (fun _ _ _ h => h) k0_h.out (by rfl) ?_
    simp only [Act.put, List.setIfInBounds_toArray, List.set_cons_zero, List.set_cons_succ]
    refine offH 28 rfl (by kernel_rfl) (by kernel_rfl) (by kernel_rfl) (fun _ _ _ h => h) k0_h.out (by rfl) ?_
    simp only [Act.put, List.setIfInBounds_toArray, List.set_cons_zero, List.set_cons_succ]
    refine offH 30 rfl (by kernel_rfl) (by kernel_rfl) (by kernel_rfl) (fun _ _ _ h => h) k0_h.out (by rfl) ?_
    simp only [Act.put, List.setIfInBounds_toArray, List.set_cons_zero, List.set_cons_succ]
    refine offH 31 rfl (by kernel_rfl) (by kernel_rfl) (by kernel_rfl) (fun _ _ _ h => h) k0_h.out (by rfl) ?_
    simp only [Act.put, List.setIfInBounds_toArray, List.set_cons_zero, List.set_cons_succ]
    refine offOneH 29 rfl (by kernel_rfl) (by rfl) k0_h.out ?_
    simp only [Act.put, List.setIfInBounds_toArray, List.set_cons_zero, List.set_cons_succ]
    refine offOneH 32 rfl (by kernel_rfl) (by rfl) k0_h.out ?_
    simp only [Act.put, List.setIfInBounds_toArray, List.set_cons_zero, List.set_cons_succ]
    refine takeH 33 (v := ?_) rfl (by kernel_rfl) (by kernel_rfl) (by kernel_rfl) (fun _ _ _ h => h) k0_h.out (by rfl) (fun W' hW' => ?_) ?_; rotate_left; · (obtain ⟨⟨y0, y1⟩, y2, y3⟩ := box2 hW'; clear hW'; go_simp; first | done | with_reducible rfl)
    simp only [Act.put, List.setIfInBounds_toArray, List.set_cons_zero, List.set_cons_succ]
    refine takeH 34 (v := ?_) rfl (by kernel_rfl) (by kernel_rfl) (by kernel_rfl) (fun _ _ _ h => h) k0_h.out (by rfl) (fun W' hW' => ?_) ?_; rotate_left; · (obtain ⟨⟨y0, y1⟩, y2, y3⟩ := box2 hW'; clear hW'; go_simp; first | done | with_reducible rfl)
    simp only [Act.put, List.setIfInBounds_toArray, List.set_cons_zero, List.set_cons_succ]
    refine doneH (by kernel_rfl) ?_
    go_wp2_with (fail)
    go_ret
    exact ⟨ret_bool hF_h.out.symm, hB_h.out⟩
  case pos =>
  have d2 : decide ((m : Int) ≤ (n : Int)) = true := decide_eq_true (by omega)
  rw [d2, Bool.true_and] at hF
  have d3 : decide (m ≤ n) = true := decide_eq_true h2
  have hV : ∀ W', Below W.heap.size W W' → Calls Tryd.prog 97 #[.int .i64 p, .int .i64 n, .slice A m c] W' fun e w' => e = .returned (.bool (rowsB p n L)) ∧ W' = w' := fun W' hb => by
    have := spRows_any p n A c hs W' (hR.below hb) (by omega) (fun x hx => by have := hr x hx; omega) (by omega) (by omega)
    rwa [← hL, ← hm] at this
  by_cases h3 : rowsB p n L = true
  case neg =>
    have h3' : rowsB p n L = false := by simpa using h3
    rw [h3', Bool.false_and] at hF
    simp only [h3'] at hV
    clear h2 h3 h3'
    have hL_h := Lib.hid hL
    have hm_h := Lib.hid hm
    have hF_h := Lib.hid hF
    have hLm_h := Lib.hid hLm
    have b0_h := Lib.hid b0
    have k0_h := Lib.hid k0
    have hG_h := Lib.hid hG
    have hI_h := Lib.hid hI
    have hR_h := Lib.hid hR
    have hr_h := Lib.hid hr
    have h1_h := Lib.hid h1
    have hV_h := Lib.hid hV
    have hpb_h := Lib.hid hpb
    clear hL hm hF hLm b0 k0 hG hI hR hr h1 hV hpb
    go_enter Tryd.func120, Tryd.ntmps120
    go_upto_region 1 with (fail)
    rw [← hW]
    clear hW
    go_wp2_with (fail)
    refine beginH (fun w' => w'.heap[w.heap.size]? = some (.cells #[.int .i64 (n : Int), .slice A m c] tSpc)) (by kernel_rfl) ?_
    have hbd : Below W.heap.size W W.drew := below_drewN (Below.refl _ _) 1
    generalize W.drew = W1 at hbd ⊢
    have hB := below_trans b0_h.out hbd b0_h.out.size
    replace k0_h := Lib.hid (box_below k0_h.out hbd)
    have hbd_h := Lib.hid hbd
    have hB_h := Lib.hid hB
    clear hbd hB
    refine takeH 0 (v := ?_) rfl (by kernel_rfl) (by kernel_rfl) (by kernel_rfl) (fun _ _ _ h => h) k0_h.out (by rfl) (fun W' hW' => ?_) ?_; rotate_left; · (obtain ⟨⟨y0, y1⟩, y2, y3⟩ := box2 hW'; clear hW'; go_simp; first | done | with_reducible rfl)
    simp only [Act.put, List.setIfInBounds_toArray, List.set_cons_zero, List.set_cons_succ]
    refine' callH 1 (f := _) (args := _) rfl (by kernel_rfl) (by rfl) ?_ ?_; rotate_left 2; · (go_simp; first | done | with_reducible rfl | (constructor <;> with_reducible rfl))
    refine (hG_h.out W1).mono ?_
    rintro e w1 ⟨rfl, rfl⟩
    refine ⟨_, rfl, k0_h.out, ?_⟩
    simp only [Act.put, List.setIfInBounds_toArray, List.set_cons_zero, List.set_cons_succ]
    refine takeH 2 (v := ?_) rfl (by kernel_rfl) (by kernel_rfl) (by kernel_rfl) (fun _ _ _ h => h) k0_h.out (by rfl) (fun W' hW' => ?_) ?_; rotate_left; · (obtain ⟨⟨y0, y1⟩, y2, y3⟩ := box2 hW'; clear hW'; go_simp; first | done | with_reducible rfl)
    simp only [Act.put, List.setIfInBounds_toArray, List.set_cons_zero, List.set_cons_succ]
    refine takeH 3 (v := ?_) rfl (by kernel_rfl) (by kernel_rfl) (by kernel_rfl) (fun _ _ _ h => h) k0_h.out (by rfl) (fun W' hW' => ?_) ?_; rotate_left; · (obtain ⟨⟨y0, y1⟩, y2, y3⟩ := box2 hW'; clear hW'; go_simp; first | done | with_reducible rfl)
    simp only [Act.put, List.setIfInBounds_toArray, List.set_cons_zero, List.set_cons_succ]
    refine takeH 4 (v := ?_) rfl (by kernel_rfl) (by kernel_rfl) (by kernel_rfl) (fun _ _ _ h => h) k0_h.out (by rfl) (fun W' hW' => ?_) ?_; rotate_left; · (obtain ⟨⟨y0, y1⟩, y2, y3⟩ := box2 hW'; clear hW'; go_simp; first | done | with_reducible rfl)
    simp only [Act.put, List.setIfInBounds_toArray, List.set_cons_zero, List.set_cons_succ]
    refine' callH 5 (f := _) (args := _) rfl (by kernel_rfl) (by rfl) ?_ ?_; rotate_left 2; · (go_simp; first | done | with_reducible rfl | (constructor <;> with_reducible rfl))
    refine (hI_h.out W1).mono ?_
    rintro e w1 ⟨rfl, rfl⟩
    refine ⟨_, rfl, k0_h.out, ?_⟩
    simp only [Act.put, List.setIfInBounds_toArray, List.set_cons_zero, List.set_cons_succ]
    refine takeH 6 (v := ?_) rfl (by kernel_rfl) (by kernel_rfl) (by kernel_rfl) (fun _ _ _ h => h) k0_h.out (by rfl) (fun W' hW' => ?_) ?_; rotate_left; · (obtain ⟨⟨y0, y1⟩, y2, y3⟩ := box2 hW'; clear hW'; go_simp; first | done | with_reducible rfl)
    simp only [Act.put, List.setIfInBounds_toArray, List.set_cons_zero, List.set_cons_succ]
    refine takeH 7 (v := ?_) rfl (by kernel_rfl) (by kernel_rfl) (by kernel_rfl) (fun _ _ _ h => h) k0_h.out (by rfl) (fun W' hW' => ?_) ?_; rotate_left; · (obtain ⟨⟨y0, y1⟩, y2, y3⟩ := box2 hW'; clear hW'; go_simp; first | done | with_reducible rfl)
    simp only [Act.put, List.setIfInBounds_toArray, List.set_cons_zero, List.set_cons_succ]
    refine takeH 8 (v := ?_) rfl (by kernel_rfl) (by kernel_rfl) (by kernel_rfl) (fun _ _ _ h => h) k0_h.out (by rfl) (fun W' hW' => ?_) ?_; rotate_left; · (obtain ⟨⟨y0, y1⟩, y2, y3⟩ := box2 hW'; clear hW'; go_simp; first | done | with_reducible rfl)
    simp only [Act.put, List.setIfInBounds_toArray, List.set_cons_zero, List.set_cons_succ]
    refine takeH 9 (v := ?_) rfl (by kernel_rfl) (by kernel_rfl) (by kernel_rfl) (fun _ _ _ h => h) k0_h.out (by rfl) (fun W' hW' => ?_) ?_; rotate_left; · (obtain ⟨⟨y0, y1⟩, y2, y3⟩ := box2 hW'; clear hW'; go_simp; first | done | with_reducible rfl)
    simp only [Act.put, List.setIfInBounds_toArray, List.set_cons_zero, List.set_cons_succ]
    refine takeH 10 (v := ?_) rfl (by kernel_rfl) (by kernel_rfl) (by kernel_rfl) (fun _ _ _ h => h) k0_h.out (by rfl) (fun W' hW' => ?_) ?_; rotate_left; · (obtain ⟨⟨y0, y1⟩, y2, y3⟩ := box2 hW'; clear hW'; go_simp; first | done | with_reducible rfl)
    simp only [Act.put, List.setIfInBounds_toArray, List.set_cons_zero, List.set_cons_succ]
    refine takeH 11 (v := ?_) rfl (by kernel_rfl) (by kernel_rfl) (by kernel_rfl) (fun _ _ _ h => h) k0_h.out (by rfl) (fun W' hW' => ?_) ?_; rotate_left; · (obtain ⟨⟨y0, y1⟩, y2, y3⟩ := box2 hW'; clear hW'; go_simp; first | done | with_reducible rfl)
    simp only [Act.put, List.setIfInBounds_toArray, List.set_cons_zero, List.set_cons_succ]
    refine takeH 12 (v := ?_) rfl (by kernel_rfl) (by kernel_rfl) (by kernel_rfl) (fun _ _ _ h => h) k0_h.out (by rfl) (fun W' hW' => ?_) ?_; rotate_left; · (obtain ⟨⟨y0, y1⟩, y2, y3⟩ := box2 hW'; clear hW'; go_simp; first | done | with_reducible rfl)
    simp only [Act.put, List.setIfInBounds_toArray, List.set_cons_zero, List.set_cons_succ]
    refine takeH 13 (v := ?_) rfl (by kernel_rfl) (by kernel_rfl) (by kernel_rfl) (fun _ _ _ h => h) k0_h.out (by rfl) (fun W' hW' => ?_) ?_; rotate_left; · (obtain ⟨⟨y0, y1⟩, y2, y3⟩ := box2 hW'; clear hW'; go_simp; first | done | with_reducible rfl)
    simp only [Act.put, List.setIfInBounds_toArray, List.set_cons_zero, List.set_cons_succ]
    refine takeH 14 (v := ?_) rfl (by kernel_rfl) (by kernel_rfl) (by kernel_rfl) (fun _ _ _ h => h) k0_h.out (by rfl) (fun W' hW' => ?_) ?_; rotate_left; · (obtain ⟨⟨y0, y1⟩, y2, y3⟩ := box2 hW'; clear hW'; go_simp; first | done | with_reducible rfl)
    simp only [Act.put, List.setIfInBounds_toArray, List.set_cons_zero, List.set_cons_succ]
    refine takeH 15 (v := ?_) rfl (by kernel_rfl) (by kernel_rfl) (by kernel_rfl) (fun _ _ _ h => h) k0_h.out (by rfl) (fun W' hW' => ?_) ?_; rotate_left; · (obtain ⟨⟨y0, y1⟩, y2, y3⟩ := box2 hW'; clear hW'; go_simp; first | done | with_reducible rfl)
    simp only [Act.put, List.setIfInBounds_toArray, List.set_cons_zero, List.set_cons_succ]
    refine takeH 16 (v := ?_) rfl (by kernel_rfl) (by kernel_rfl) (by kernel_rfl) (fun _ _ _ h => h) k0_h.out (by rfl) (fun W' hW' => ?_) ?_; rotate_left; · (obtain ⟨⟨y0, y1⟩, y2, y3⟩ := box2 hW'; clear hW'; go_simp; first | done | with_reducible rfl)
    simp only [Act.put, List.setIfInBounds_toArray, List.set_cons_zero, List.set_cons_succ]
    refine takeH 17 (v := ?_) rfl (by kernel_rfl) (by kernel_rfl) (by kernel_rfl) (fun _ _ _ h => h) k0_h.out (by rfl) (fun W' hW' => ?_) ?_; rotate_left; · (obtain ⟨⟨y0, y1⟩, y2, y3⟩ := box2 hW'; clear hW'; go_simp; first | done | with_reducible rfl)
    simp only [Act.put, List.setIfInBounds_toArray, List.set_cons_zero, List.set_cons_succ]
    refine takeH 18 (v := ?_) rfl (by kernel_rfl) (by kernel_rfl) (by kernel_rfl) (fun _ _ _ h => h) k0_h.out (by rfl) (fun W' hW' => ?_) ?_; rotate_left; · (obtain ⟨⟨y0, y1⟩, y2, y3⟩ := box2 hW'; clear hW'; go_simp; first | done | with_reducible rfl)
    simp only [Act.put, List.setIfInBounds_toArray, List.set_cons_zero, List.set_cons_succ]
    refine takeH 19 (v := ?_) rfl (by kernel_rfl) (by kernel_rfl) (by kernel_rfl) (fun _ _ _ h => h) k0_h.out (by rfl) (fun W' hW' => ?_) ?_; rotate_left; · (obtain ⟨⟨y0, y1⟩, y2, y3⟩ := box2 hW'; clear hW'; go_simp; first | done | with_reducible rfl)
    simp only [Act.put, List.setIfInBounds_toArray, List.set_cons_zero, List.set_cons_succ]
    refine takeH 20 (v := ?_) rfl (by kernel_rfl) (by kernel_rfl) (by kernel_rfl) (fun _ _ _ h => h) k0_h.out (by rfl) (fun W' hW' => ?_) ?_; rotate_left; · (obtain ⟨⟨y0, y1⟩, y2, y3⟩ := box2 hW'; clear hW'; go_simp; first | done | with_reducible rfl)
    simp only [Act.put, List.setIfInBounds_toArray, List.set_cons_zero, List.set_cons_succ]
    refine' callH 21 (f := _) (args := _) rfl (by kernel_rfl) (by rfl) ?_ ?_; rotate_left 2; · (go_simp; first | done | with_reducible rfl | (constructor <;> with_reducible rfl))
    refine (hV_h.out W1 hbd_h.out).mono ?_
    rintro e w1 ⟨rfl, rfl⟩
    refine ⟨_, rfl, k0_h.out, ?_⟩
    simp only [Act.put, List.setIfInBounds_toArray, List.set_cons_zero, List.set_cons_succ]
    refine takeH 22 (v := ?_) rfl (by kernel_rfl) (by kernel_rfl) (by kernel_rfl) (fun _ _ _ h => h) k0_h.out (by rfl) (fun W' hW' => ?_) ?_; rotate_left; · (obtain ⟨⟨y0, y1⟩, y2, y3⟩ := box2 hW'; clear hW'; go_simp; first | done | with_reducible rfl)
    simp only [Act.put, List.setIfInBounds_toArray, List.set_cons_zero, List.set_cons_succ]
    refine takeH 23 (v := ?_) rfl (by kernel_rfl) (by kernel_rfl) (by kernel_rfl) (fun _ _ _ h => h) k0_h.out (by rfl) (fun W' hW' => ?_) ?_; rotate_left; · (obtain ⟨⟨y0, y1⟩, y2, y3⟩ := box2 hW'; clear hW'; go_simp; first | done | with_reducible rfl)
    simp only [Act.put, List.setIfInBounds_toArray, List.set_cons_zero, List.set_cons_succ]
    refine offH 24 rfl (by kernel_rfl) (by kernel_rfl) (by kernel_rfl) (fun _ _ _ h => h) k0_h.out (by rfl) ?_
    simp only [Act.put, List.setIfInBounds_toArray, List.set_cons_zero, List.set_cons_succ]
    refine offH 25 rfl (by kernel_rfl) (by kernel_rfl) (by kernel_rfl) (fun _ _ _ h => h) k0_h.out (by rfl) ?_
    simp only [Act.put, List.setIfInBounds_toArray, List.set_cons_zero, List.set_cons_succ]
    refine offH 26 rfl (by kernel_rfl) (by kernel_rfl) (by kernel_rfl) (fun _ _ _ h => h) k0_h.out (by rfl) ?_
    simp only [Act.put, List.setIfInBounds_toArray, List.set_cons_zero, List.set_cons_succ]
    refine offH 27 rfl (by kernel_rfl) (by kernel_rfl) (by kernel_rfl) (fun _ _ _ h => h) k0_h.out (by rfl) ?_
    simp only [Act.put, List.setIfInBounds_toArray, List.set_cons_zero, List.set_cons_succ]
    refine offH 28 rfl (by kernel_rfl) (by kernel_rfl) (by kernel_rfl) (fun _ _ _ h => h) k0_h.out (by rfl) ?_
    simp only [Act.put, List.setIfInBounds_toArray, List.set_cons_zero, List.set_cons_succ]
    refine offH 30 rfl (by kernel_rfl) (by kernel_rfl) (by kernel_rfl) (fun _ _ _ h => h) k0_h.out (by rfl) ?_
    simp only [Act.put, List.setIfInBounds_toArray, List.set_cons_zero, List.set_cons_succ]
    refine offH 31 rfl (by kernel_rfl) (by kernel_rfl) (by kernel_rfl) (fun _ _ _ h => h) k0_h.out (by rfl) ?_
    simp only [Act.put, List.setIfInBounds_toArray, List.set_cons_zero, List.set_cons_succ]
    refine offOneH 29 rfl (by kernel_rfl) (by rfl) k0_h.out ?_
    simp only [Act.put, List.setIfInBounds_toArray, List.set_cons_zero, List.set_cons_succ]
    refine offOneH 32 rfl (by kernel_rfl) (by rfl) k0_h.out ?_
    simp only [Act.put, List.setIfInBounds_toArray, List.set_cons_zero, List.set_cons_succ]
    refine takeH 33 (v := ?_) rfl (by kernel_rfl) (by kernel_rfl) (by kernel_rfl) (fun _ _ _ h => h) k0_h.out (by rfl) (fun W' hW' => ?_) ?_; rotate_left; · (obtain ⟨⟨y0, y1⟩, y2, y3⟩ := box2 hW'; clear hW'; go_simp; first | done | with_reducible rfl)
    simp only [Act.put, List.setIfInBounds_toArray, List.set_cons_zero, List.set_cons_succ]
    refine takeH 34 (v := ?_) rfl (by kernel_rfl) (by kernel_rfl) (by kernel_rfl) (fun _ _ _ h => h) k0_h.out (by rfl) (fun W' hW' => ?_) ?_; rotate_left; · (obtain ⟨⟨y0, y1⟩, y2, y3⟩ := box2 hW'; clear hW'; go_simp; first | done | with_reducible rfl)
    simp only [Act.put, List.setIfInBounds_toArray, List.set_cons_zero, List.set_cons_succ]
    refine doneH (by kernel_rfl) ?_
    go_wp2_with (fail)
    go_ret
    exact ⟨ret_bool hF_h.out.symm, hB_h.out⟩
  case pos =>
  rw [h3, Bool.true_and] at hF
  simp only [h3] at hV
  have hM : Mat p hs.length n (hs.map fun h : Hd => h.2.2) := by
    have := rowsB_mat (p := p) (n := (n : Int)) (L := L) (k := n) h3 rfl
    rw [hLm, hm, hL] at this; exact this
  have hRd := fun W' (hb : Below W.heap.size W W') => spReduce_any p n A c hs W' (hR.below hb) h1 hM hl (by omega)
  obtain ⟨R, hRR⟩ : ∃ R, R = redM p n L := ⟨_, rfl⟩
  rw [← hL, ← hm, ← hRR] at hRd
  have hspec := redM_spec h1 (n := n) (L := L) (by rw [hLm, hm, hL]; exact hM)
  rw [← hRR, hLm] at hspec
  rw [← hRR] at hF
  have hRl := hspec.2.2
  have hRm : ∀ x, x ∈ R → x.length = n := fun x hx => (hspec.1.1.row x hx).1
  clear hspec
  have hL_h := Lib.hid hL
  have hm_h := Lib.hid hm
  have hF_h := Lib.hid hF
  have hLm_h := Lib.hid hLm
  have b0_h := Lib.hid b0
  have k0_h := Lib.hid k0
  have hG_h := Lib.hid hG
  have hI_h := Lib.hid hI
  have hR_h := Lib.hid hR
  have hr_h := Lib.hid hr
  have h1_h := Lib.hid h1
  have h3_h := Lib.hid h3
  have hV_h := Lib.hid hV
  have hpb_h := Lib.hid hpb
  have hM_h := Lib.hid hM
  have hRd_h := Lib.hid hRd
  have hRR_h := Lib.hid hRR
  have hRl_h := Lib.hid hRl
  have hRm_h := Lib.hid hRm
  clear hL hm hF hLm b0 k0 hG hI hR hr h1 h3 hV hpb hM hRd hRR hRl hRm
  go_enter Tryd.func120, Tryd.ntmps120
  go_upto_region 1 with (fail)
  rw [← hW]
  clear hW
  go_wp2_with (fail)
  refine beginH (fun w' => w'.heap[w.heap.size]? = some (.cells #[.int .i64 (n : Int), .slice A m c] tSpc)) (by kernel_rfl) ?_
  have hbd : Below W.heap.size W W.drew := below_drewN (Below.refl _ _) 1
  generalize W.drew = W1 at hbd ⊢
  have hB := below_trans b0_h.out hbd b0_h.out.size
  replace k0_h := Lib.hid (box_below k0_h.out hbd)
  have hbd_h := Lib.hid hbd
  have hB_h := Lib.hid hB
  clear hbd hB
  refine takeH 0 (v := ?_) rfl (by kernel_rfl) (by kernel_rfl) (by kernel_rfl) (fun _ _ _ h => h) k0_h.out (by rfl) (fun W' hW' => ?_) ?_; rotate_left; · (obtain ⟨⟨y0, y1⟩, y2, y3⟩ := box2 hW'; clear hW'; go_simp; first | done | with_reducible rfl)
  simp only [Act.put, List.setIfInBounds_toArray, List.set_cons_zero, List.set_cons_succ]
  refine' callH 1 (f := _) (args := _) rfl (by kernel_rfl) (by rfl) ?_ ?_; rotate_left 2; · (go_simp; first | done | with_reducible rfl | (constructor <;> with_reducible rfl))
  refine (hG_h.out W1).mono ?_
  rintro e w1 ⟨rfl, rfl⟩
  refine ⟨_, rfl, k0_h.out, ?_⟩
  simp only [Act.put, List.setIfInBounds_toArray, List.set_cons_zero, List.set_cons_succ]
  refine takeH 2 (v := ?_) rfl (by kernel_rfl) (by kernel_rfl) (by kernel_rfl) (fun _ _ _ h => h) k0_h.out (by rfl) (fun W' hW' => ?_) ?_; rotate_left; · (obtain ⟨⟨y0, y1⟩, y2, y3⟩ := box2 hW'; clear hW'; go_simp; first | done | with_reducible rfl)
  simp only [Act.put, List.setIfInBounds_toArray, List.set_cons_zero, List.set_cons_succ]
  refine takeH 3 (v := ?_) rfl (by kernel_rfl) (by kernel_rfl) (by kernel_rfl) (fun _ _ _ h => h) k0_h.out (by rfl) (fun W' hW' => ?_) ?_; rotate_left; · (obtain ⟨⟨y0, y1⟩, y2, y3⟩ := box2 hW'; clear hW'; go_simp; first | done | with_reducible rfl)
  simp only [Act.put, List.setIfInBounds_toArray, List.set_cons_zero, List.set_cons_succ]
  refine takeH 4 (v := ?_) rfl (by kernel_rfl) (by kernel_rfl) (by kernel_rfl) (fun _ _ _ h => h) k0_h.out (by rfl) (fun W' hW' => ?_) ?_; rotate_left; · (obtain ⟨⟨y0, y1⟩, y2, y3⟩ := box2 hW'; clear hW'; go_simp; first | done | with_reducible rfl)
  simp only [Act.put, List.setIfInBounds_toArray, List.set_cons_zero, List.set_cons_succ]
  refine' callH 5 (f := _) (args := _) rfl (by kernel_rfl) (by rfl) ?_ ?_; rotate_left 2; · (go_simp; first | done | with_reducible rfl | (constructor <;> with_reducible rfl))
  refine (hI_h.out W1).mono ?_
  rintro e w1 ⟨rfl, rfl⟩
  refine ⟨_, rfl, k0_h.out, ?_⟩
  simp only [Act.put, List.setIfInBounds_toArray, List.set_cons_zero, List.set_cons_succ]
  refine takeH 6 (v := ?_) rfl (by kernel_rfl) (by kernel_rfl) (by kernel_rfl) (fun _ _ _ h => h) k0_h.out (by rfl) (fun W' hW' => ?_) ?_; rotate_left; · (obtain ⟨⟨y0, y1⟩, y2, y3⟩ := box2 hW'; clear hW'; go_simp; first | done | with_reducible rfl)
  simp only [Act.put, List.setIfInBounds_toArray, List.set_cons_zero, List.set_cons_succ]
  refine takeH 7 (v := ?_) rfl (by kernel_rfl) (by kernel_rfl) (by kernel_rfl) (fun _ _ _ h => h) k0_h.out (by rfl) (fun W' hW' => ?_) ?_; rotate_left; · (obtain ⟨⟨y0, y1⟩, y2, y3⟩ := box2 hW'; clear hW'; go_simp; first | done | with_reducible rfl)
  simp only [Act.put, List.setIfInBounds_toArray, List.set_cons_zero, List.set_cons_succ]
  refine takeH 8 (v := ?_) rfl (by kernel_rfl) (by kernel_rfl) (by kernel_rfl) (fun _ _ _ h => h) k0_h.out (by rfl) (fun W' hW' => ?_) ?_; rotate_left; · (obtain ⟨⟨y0, y1⟩, y2, y3⟩ := box2 hW'; clear hW'; go_simp; first | done | with_reducible rfl)
  simp only [Act.put, List.setIfInBounds_toArray, List.set_cons_zero, List.set_cons_succ]
  refine takeH 9 (v := ?_) rfl (by kernel_rfl) (by kernel_rfl) (by kernel_rfl) (fun _ _ _ h => h) k0_h.out (by rfl) (fun W' hW' => ?_) ?_; rotate_left; · (obtain ⟨⟨y0, y1⟩, y2, y3⟩ := box2 hW'; clear hW'; go_simp; first | done | with_reducible rfl)
  simp only [Act.put, List.setIfInBounds_toArray, List.set_cons_zero, List.set_cons_succ]
  refine takeH 10 (v := ?_) rfl (by kernel_rfl) (by kernel_rfl) (by kernel_rfl) (fun _ _ _ h => h) k0_h.out (by rfl) (fun W' hW' => ?_) ?_; rotate_left; · (obtain ⟨⟨y0, y1⟩, y2, y3⟩ := box2 hW'; clear hW'; go_simp; first | done | with_reducible rfl)
  simp only [Act.put, List.setIfInBounds_toArray, List.set_cons_zero, List.set_cons_succ]
  refine takeH 11 (v := ?_) rfl (by kernel_rfl) (by kernel_rfl) (by kernel_rfl) (fun _ _ _ h => h) k0_h.out (by rfl) (fun W' hW' => ?_) ?_; rotate_left; · (obtain ⟨⟨y0, y1⟩, y2, y3⟩ := box2 hW'; clear hW'; go_simp; first | done | with_reducible rfl)
  simp only [Act.put, List.setIfInBounds_toArray, List.set_cons_zero, List.set_cons_succ]
  refine takeH 12 (v := ?_) rfl (by kernel_rfl) (by kernel_rfl) (by kernel_rfl) (fun _ _ _ h => h) k0_h.out (by rfl) (fun W' hW' => ?_) ?_; rotate_left; · (obtain ⟨⟨y0, y1⟩, y2, y3⟩ := box2 hW'; clear hW'; go_simp; first | done | with_reducible rfl)
  simp only [Act.put, List.setIfInBounds_toArray, List.set_cons_zero, List.set_cons_succ]
  refine takeH 13 (v := ?_) rfl (by kernel_rfl) (by kernel_rfl) (by kernel_rfl) (fun _ _ _ h => h) k0_h.out (by rfl) (fun W' hW' => ?_) ?_; rotate_left; · (obtain ⟨⟨y0, y1⟩, y2, y3⟩ := box2 hW'; clear hW'; go_simp; first | done | with_reducible rfl)
  simp only [Act.put, List.setIfInBounds_toArray, List.set_cons_zero, List.set_cons_succ]
  refine takeH 14 (v := ?_) rfl (by kernel_rfl) (by kernel_rfl) (by kernel_rfl) (fun _ _ _ h => h) k0_h.out (by rfl) (fun W' hW' => ?_) ?_; rotate_left; · (obtain ⟨⟨y0, y1⟩, y2, y3⟩ := box2 hW'; clear hW'; go_simp; first | done | with_reducible rfl)
  simp only [Act.put, List.setIfInBounds_toArray, List.set_cons_zero, List.set_cons_succ]
  refine takeH 15 (v := ?_) rfl (by kernel_rfl) (by kernel_rfl) (by kernel_rfl) (fun _ _ _ h => h) k0_h.out (by rfl) (fun W' hW' => ?_) ?_; rotate_left; · (obtain ⟨⟨y0, y1⟩, y2, y3⟩ := box2 hW'; clear hW'; go_simp; first | done | with_reducible rfl)
  simp only [Act.put, List.setIfInBounds_toArray, List.set_cons_zero, List.set_cons_succ]
  refine takeH 16 (v := ?_) rfl (by kernel_rfl) (by kernel_rfl) (by kernel_rfl) (fun _ _ _ h => h) k0_h.out (by rfl) (fun W' hW' => ?_) ?_; rotate_left; · (obtain ⟨⟨y0, y1⟩, y2, y3⟩ := box2 hW'; clear hW'; go_simp; first | done | with_reducible rfl)
  simp only [Act.put, List.setIfInBounds_toArray, List.set_cons_zero, List.set_cons_succ]
  refine takeH 17 (v := ?_) rfl (by kernel_rfl) (by kernel_rfl) (by kernel_rfl) (fun _ _ _ h => h) k0_h.out (by rfl) (fun W' hW' => ?_) ?_; rotate_left; · (obtain ⟨⟨y0, y1⟩, y2, y3⟩ := box2 hW'; clear hW'; go_simp; first | done | with_reducible rfl)
  simp only [Act.put, List.setIfInBounds_toArray, List.set_cons_zero, List.set_cons_succ]
  refine takeH 18 (v := ?_) rfl (by kernel_rfl) (by kernel_rfl) (by kernel_rfl) (fun _ _ _ h => h) k0_h.out (by rfl) (fun W' hW' => ?_) ?_; rotate_left; · (obtain ⟨⟨y0, y1⟩, y2, y3⟩ := box2 hW'; clear hW'; go_simp; first | done | with_reducible rfl)
  simp only [Act.put, List.setIfInBounds_toArray, List.set_cons_zero, List.set_cons_succ]
  refine takeH 19 (v := ?_) rfl (by kernel_rfl) (by kernel_rfl) (by kernel_rfl) (fun _ _ _ h => h) k0_h.out (by rfl) (fun W' hW' => ?_) ?_; rotate_left; · (obtain ⟨⟨y0, y1⟩, y2, y3⟩ := box2 hW'; clear hW'; go_simp; first | done | with_reducible rfl)
  simp only [Act.put, List.setIfInBounds_toArray, List.set_cons_zero, List.set_cons_succ]
  refine takeH 20 (v := ?_) rfl (by kernel_rfl) (by kernel_rfl) (by kernel_rfl) (fun _ _ _ h => h) k0_h.out (by rfl) (fun W' hW' => ?_) ?_; rotate_left; · (obtain ⟨⟨y0, y1⟩, y2, y3⟩ := box2 hW'; clear hW'; go_simp; first | done | with_reducible rfl)
  simp only [Act.put, List.setIfInBounds_toArray, List.set_cons_zero, List.set_cons_succ]
  refine' callH 21 (f := _) (args := _) rfl (by kernel_rfl) (by rfl) ?_ ?_; rotate_left 2; · (go_simp; first | done | with_reducible rfl | (constructor <;> with_reducible rfl))
  refine (hV_h.out W1 hbd_h.out).mono ?_
  rintro e w1 ⟨rfl, rfl⟩
  refine ⟨_, rfl, k0_h.out, ?_⟩
  simp only [Act.put, List.setIfInBounds_toArray, List.set_cons_zero, List.set_cons_succ]
  refine takeH 22 (v := ?_) rfl (by kernel_rfl) (by kernel_rfl) (by kernel_rfl) (fun _ _ _ h => h) k0_h.out (by rfl) (fun W' hW' => ?_) ?_; rotate_left; · (obtain ⟨⟨y0, y1⟩, y2, y3⟩ := box2 hW'; clear hW'; go_simp; first | done | with_reducible rfl)
  simp only [Act.put, List.setIfInBounds_toArray, List.set_cons_zero, List.set_cons_succ]
  refine takeH 23 (v := ?_) rfl (by kernel_rfl) (by kernel_rfl) (by kernel_rfl) (fun _ _ _ h => h) k0_h.out (by rfl) (fun W' hW' => ?_) ?_; rotate_left; · (obtain ⟨⟨y0, y1⟩, y2, y3⟩ := box2 hW'; clear hW'; go_simp; first | done | with_reducible rfl)
  simp only [Act.put, List.setIfInBounds_toArray, List.set_cons_zero, List.set_cons_succ]
  refine takeH 24 (v := ?_) rfl (by kernel_rfl) (by kernel_rfl) (by kernel_rfl) (fun _ _ _ h => h) k0_h.out (by rfl) (fun W' hW' => ?_) ?_; rotate_left; · (obtain ⟨⟨y0, y1⟩, y2, y3⟩ := box2 hW'; clear hW'; go_simp; first | done | with_reducible rfl)
  simp only [Act.put, List.setIfInBounds_toArray, List.set_cons_zero, List.set_cons_succ]
  refine takeH 25 (v := ?_) rfl (by kernel_rfl) (by kernel_rfl) (by kernel_rfl) (fun _ _ _ h => h) k0_h.out (by rfl) (fun W' hW' => ?_) ?_; rotate_left; · (obtain ⟨⟨y0, y1⟩, y2, y3⟩ := box2 hW'; clear hW'; go_simp; first | done | with_reducible rfl)
  simp only [Act.put, List.setIfInBounds_toArray, List.set_cons_zero, List.set_cons_succ]
  refine takeH 26 (v := ?_) rfl (by kernel_rfl) (by kernel_rfl) (by kernel_rfl) (fun _ _ _ h => h) k0_h.out (by rfl) (fun W' hW' => ?_) ?_; rotate_left; · (obtain ⟨⟨y0, y1⟩, y2, y3⟩ := box2 hW'; clear hW'; go_simp; first | done | with_reducible rfl)
  simp only [Act.put, List.setIfInBounds_toArray, List.set_cons_zero, List.set_cons_succ]
  refine takeH 27 (v := ?_) rfl (by kernel_rfl) (by kernel_rfl) (by kernel_rfl) (fun _ _ _ h => h) k0_h.out (by rfl) (fun W' hW' => ?_) ?_; rotate_left; · (obtain ⟨⟨y0, y1⟩, y2, y3⟩ := box2 hW'; clear hW'; go_simp; first | done | with_reducible rfl)
  simp only [Act.put, List.setIfInBounds_toArray, List.set_cons_zero, List.set_cons_succ]
  refine takeH 28 (v := ?_) rfl (by kernel_rfl) (by kernel_rfl) (by kernel_rfl) (fun _ _ _ h => h) k0_h.out (by rfl) (fun W' hW' => ?_) ?_; rotate_left; · (obtain ⟨⟨y0, y1⟩, y2, y3⟩ := box2 hW'; clear hW'; go_simp; first | done | with_reducible rfl)
  simp only [Act.put, List.setIfInBounds_toArray, List.set_cons_zero, List.set_cons_succ]
  refine takeH 30 (v := ?_) rfl (by kernel_rfl) (by kernel_rfl) (by kernel_rfl) (fun _ _ _ h => h) k0_h.out (by rfl) (fun W' hW' => ?_) ?_; rotate_left; · (obtain ⟨⟨y0, y1⟩, y2, y3⟩ := box2 hW'; clear hW'; go_simp; first | done | with_reducible rfl)
  simp only [Act.put, List.setIfInBounds_toArray, List.set_cons_zero, List.set_cons_succ]
  refine takeH 31 (v := ?_) rfl (by kernel_rfl) (by kernel_rfl) (by kernel_rfl) (fun _ _ _ h => h) k0_h.out (by rfl) (fun W' hW' => ?_) ?_; rotate_left; · (obtain ⟨⟨y0, y1⟩, y2, y3⟩ := box2 hW'; clear hW'; go_simp; first | done | with_reducible rfl)
  simp only [Act.put, List.setIfInBounds_toArray, List.set_cons_zero, List.set_cons_succ]
  refine' callH 29 (f := _) (args := _) rfl (by kernel_rfl) (by rfl) ?_ ?_; rotate_left 2; · (go_simp; first | done | with_reducible rfl | (constructor <;> with_reducible rfl))
  refine ((hRd_h.out W1 hbd_h.out)).mono ?_
  rintro e w4 hret
  obtain ⟨A2, c2, rfl, hO2⟩ := hret.om
  have hb2 := hO2.below_
  obtain ⟨gs, hg, hrd2⟩ := hO2.rdr
  obtain ⟨q, hq⟩ : ∃ q, q = R.length := ⟨_, rfl⟩
  rw [← hq]
  have hqg : gs.length = q := by rw [hq, hg, List.length_map]
  clear hret hO2
  replace k0_h := Lib.hid (box_below k0_h.out hb2)
  have hS := spSame_any A2 A c2 c gs hs w4 hrd2 ((hR_h.out.below hbd_h.out).below hb2) (by have := hRl_h.out; omega) (fun x hx => by have := hRm_h.out _ (by rw [hg]; exact List.mem_map_of_mem hx); omega)
  rw [hqg, ← hm_h.out, ← hg, ← hL_h.out, ← hF_h.out] at hS
  have hB4 := below_trans hB_h.out hb2 hB_h.out.size
  refine ⟨_, rfl, k0_h.out, ?_⟩
  have hb2_h := Lib.hid hb2
  have hg_h := Lib.hid hg
  have hrd2_h := Lib.hid hrd2
  have hq_h := Lib.hid hq
  have hqg_h := Lib.hid hqg
  have hS_h := Lib.hid hS
  have hB4_h := Lib.hid hB4
  clear hb2 hg hrd2 hq hqg hS hB4
  simp only [Act.put, List.setIfInBounds_toArray, List.set_cons_zero, List.set_cons_succ]
  refine' callH 32 (f := _) (args := _) rfl (by kernel_rfl) (by rfl) ?_ ?_; rotate_left 2; · (go_simp; first | done | with_reducible rfl | (constructor <;> with_reducible rfl))
  refine (hS_h.out).mono ?_
  rintro e w5 ⟨rfl, nq, rfl⟩
  have hb5 : Below w4.heap.size w4 (w4.drewN nq) := below_drewN (Below.refl _ _) _
  replace k0_h := Lib.hid (box_below k0_h.out hb5)
  have hB5 := below_trans hB4_h.out hb5 hB4_h.out.size
  refine ⟨_, rfl, k0_h.out, ?_⟩
  have hb5_h := Lib.hid hb5
  have hB5_h := Lib.hid hB5
  clear hb5 hB5
  simp only [Act.put, List.setIfInBounds_toArray, List.set_cons_zero, List.set_cons_succ]
  refine takeH 33 (v := ?_) rfl (by kernel_rfl) (by kernel_rfl) (by kernel_rfl) (fun _ _ _ h => h) k0_h.out (by rfl) (fun W' hW' => ?_) ?_; rotate_left; · (obtain ⟨⟨y0, y1⟩, y2, y3⟩ := box2 hW'; clear hW'; go_simp; first | done | with_reducible rfl)
  simp only [Act.put, List.setIfInBounds_toArray, List.set_cons_zero, List.set_cons_succ]
  refine takeH 34 (v := ?_) rfl (by kernel_rfl) (by kernel_rfl) (by kernel_rfl) (fun _ _ _ h => h) k0_h.out (by rfl) (fun W' hW' => ?_) ?_; rotate_left; · (obtain ⟨⟨y0, y1⟩, y2, y3⟩ := box2 hW'; clear hW'; go_simp; first | done | with_reducible rfl)
  simp only [Act.put, List.setIfInBounds_toArray, List.set_cons_zero, List.set_cons_succ]
  refine doneH (by kernel_rfl) ?_
  go_wp2_with (fail)
  go_ret
  exact ⟨rfl, hB5_h.out⟩
set_option maxRecDepth 8000 in
set_option maxHeartbeats 1000000 in
theorem rlGood_any (p : Int) {v : Value} {s : Sys} (w : World) (h : RdSysV w v s) (hn : s.2.2.length ≤ 1048576) (hr : ∀ x, x ∈ s.2.2 → x.length ≤ 1048576) :
    Calls Tryd.prog 69 #[.int .i64 p, v] w fun e w' => e = .returned (.bool (relB p s)) ∧ Below w.heap.size w w' := by
  obtain ⟨A, c, hs, rfl, hL, hR⟩ := h
  obtain ⟨a, b, L⟩ := s
  have hL' : L = hs.map (fun h : Hd => h.2.2) := hL
  subst hL'
  clear hL
  have hrr : ∀ x, x ∈ hs → x.2.2.length ≤ 1048576 := fun x hx => hr _ (List.mem_map_of_mem hx)
  have hnn : hs.length ≤ 1048576 := by simpa using hn
  obtain ⟨F, hF⟩ : ∃ F, F = relB p (a, b, hs.map fun h : Hd => h.2.2) := ⟨_, rfl⟩
  rw [← hF]
  unfold relB at hF
  simp only at hF
  obtain ⟨W, hW, b0, k0⟩ := alloc_box w (.cells #[.int .i64 a, .int .i64 b, .slice A hs.length c] tRel)
  have hG := l1In_any a 0 24 W
  have hH := l1In_any b 0 (24 - a) W
  obtain ⟨m, hm⟩ : ∃ m, m = hs.length := ⟨_, rfl⟩
  by_cases h1 : 0 ≤ a ∧ a ≤ 24
  · have e1 : (decide (0 ≤ a) && decide (a ≤ 24)) = true := by simp [h1.1, h1.2]
    rw [e1, Bool.true_and] at hF
    rw [e1] at hG
    have hw0 : IntKind.i64.wrap (24 - a) = 24 - a := IntWalk.i64_in _ (by omega)
    by_cases h2 : 0 ≤ b ∧ b ≤ 24 - a
    · have e2 : (decide (0 ≤ b) && decide (b ≤ 24 - a)) = true := by simp [h2.1, h2.2]
      rw [e2, Bool.true_and] at hF
      rw [e2] at hH
      obtain ⟨n, hn⟩ : ∃ n : Nat, a + b = (n : Int) := ⟨(a + b).toNat, by omega⟩
      have hw : IntKind.i64.wrap (a + b) = (n : Int) := by rw [hn]; exact IntWalk.i64_in _ (by omega)
      have hD := spGood_any p n A c hs W (hR.below b0) (by omega) hnn hrr
      rw [← hn, ← hF, hn] at hD
      rw [← hm] at hD hW k0 ⊢
      clear e1 e2
      have b0_h := Lib.hid b0
      have k0_h := Lib.hid k0
      have hG_h := Lib.hid hG
      have hH_h := Lib.hid hH
      have hD_h := Lib.hid hD
      have hm_h := Lib.hid hm
      have hF_h := Lib.hid hF
      have hn_h := Lib.hid hn
      have h1_h := Lib.hid h1
      have h2_h := Lib.hid h2
      have hR_h := Lib.hid hR
      have hrr_h := Lib.hid hrr
      have hr_h := Lib.hid hr
      clear b0 k0 hG hH hD hm hF hn h1 h2 hR hrr hr
      obtain ⟨⟨c0, c1, c2⟩, f0, f1, f2⟩ := box3 k0_h.out
      go_enter Tryd.func69, Tryd.ntmps69
      go_upto_region 1 with (fail)
      rw [← hW]
      clear hW
      go_wp2_with (fail)
      refine (hG_h.out).mono ?_
      rintro e w1 ⟨rfl, rfl⟩
      go_wp2_with (fail)
      refine (hH_h.out).mono ?_
      rintro e w2 ⟨rfl, rfl⟩
      go_wp2_with (fail)
      refine (hD_h.out).mono ?_
      rintro e w3 ⟨rfl, hb3⟩
      go_wp2_with (fail)
      go_ret
      exact ⟨rfl, below_trans b0_h.out hb3 b0_h.out.size⟩
    · have e2 : (decide (0 ≤ b) && decide (b ≤ 24 - a)) = false := by simp; omega
      rw [e2, Bool.false_and] at hF
      rw [e2] at hH
      rw [← hm] at hW k0 ⊢
      clear e1 e2 h2
      have b0_h := Lib.hid b0
      have k0_h := Lib.hid k0
      have hG_h := Lib.hid hG
      have hH_h := Lib.hid hH
      have hm_h := Lib.hid hm
      have hF_h := Lib.hid hF
      have h1_h := Lib.hid h1
      have hR_h := Lib.hid hR
      have hrr_h := Lib.hid hrr
      have hr_h := Lib.hid hr
      clear b0 k0 hG hH hm hF h1 hR hrr hr
      obtain ⟨⟨c0, c1, c2⟩, f0, f1, f2⟩ := box3 k0_h.out
      go_enter Tryd.func69, Tryd.ntmps69
      go_upto_region 1 with (fail)
      rw [← hW]
      clear hW
      go_wp2_with (fail)
      refine (hG_h.out).mono ?_
      rintro e w1 ⟨rfl, rfl⟩
      go_wp2_with (fail)
      refine (hH_h.out).mono ?_
      rintro e w2 ⟨rfl, rfl⟩
      go_wp2_with (fail)
      go_ret
      exact ⟨ret_bool hF_h.out.symm, b0_h.out⟩
  · have e1 : (decide (0 ≤ a) && decide (a ≤ 24)) = false := by simp; omega
    rw [e1, Bool.false_and] at hF
    rw [e1] at hG
    rw [← hm] at hW k0 ⊢
    clear e1 h1
    have b0_h := Lib.hid b0
    have k0_h := Lib.hid k0
    have hG_h := Lib.hid hG
    have hH_h := Lib.hid hH
    have hm_h := Lib.hid hm
    have hF_h := Lib.hid hF
    have hR_h := Lib.hid hR
    have hrr_h := Lib.hid hrr
    have hr_h := Lib.hid hr
    clear b0 k0 hG hH hm hF hR hrr hr
    obtain ⟨⟨c0, c1, c2⟩, f0, f1, f2⟩ := box3 k0_h.out
    go_enter Tryd.func69, Tryd.ntmps69
    go_upto_region 1 with (fail)
    rw [← hW]
    clear hW
    go_wp2_with (fail)
    refine (hG_h.out).mono ?_
    rintro e w1 ⟨rfl, rfl⟩
    go_wp2_with (fail)
    go_ret
    exact ⟨ret_bool hF_h.out.symm, b0_h.out⟩
end Go.Proofs.YtahnhblodfdfhaaDoor

namespace Go.Proofs.YtahnhblodfdfhaaDoor
open Go.RowKit
/-- 0, 1, .. -/
def rangeI (n : Nat) : List Int := (List.range n).map fun i => ((i : Nat) : Int)
@[simp] theorem rangeI_length (n : Nat) : (rangeI n).length = n := by simp [rangeI]
/-- A slice of ints of a call's own. -/
structure OI (w0 w : World) (A : Option Addr) (cap : Nat) (l : List Int) : Prop where
  is : IS w A cap l
  new : Fresh w0.heap.size A
  below_ : Below w0.heap.size w0 w
theorem OI.snoc {w0 w w2 : World} {A : Option Addr} {cap : Nat} {l : List Int} (h : OI w0 w A cap l) {o : Obj} {x : Int} {A' : Option Addr} {cap' n : Nat} (hn : n = l.length + 1) (hs' : Sl w2 tInt 1 A' n cap' (ints l ++ [.int .i64 x])) (hA' : ∀ b, b ∈ fpA A' → b ∈ fpA A ∨ (w.alloc o).heap.size ≤ b) (hk : Keeps (· ∈ fpA A) (w.alloc o) w2) : OI w0 w2 A' cap' (l ++ [x]) := by
  subst hn
  have hb := below_trans h.below_ ((Below.refl w.heap.size w).alloc (Nat.le_refl _) o) h.below_.size
  refine ⟨?_, fun b hb' => ?_, below_keeps hb hk hb.size h.new⟩
  · unfold IS
    have : ints (l ++ [x]) = ints l ++ [.int .i64 x] := by simp [ints]
    rw [this, List.length_append]; exact hs'
  · rcases hA' b hb' with h1 | h1
    · exact h.new b h1
    · have := hb.size; omega
set_option maxHeartbeats 400000 in
theorem unit_any (n i : Nat) (w : World) (hn : n ≤ 1048576) (hi : i < n) :
    Calls Tryd.prog 138 #[.int .i64 n, .int .i64 i] w (RetI w (unitV n i)) := by
  have hC := zeros_any n w (by omega)
  have he : (List.replicate n (0 : Int)).set i 1 = unitV n i := by
    apply List.ext_getElem?
    intro k
    by_cases hk : k < n
    · unfold unitV
      rw [List.getElem?_set, List.getElem?_map, List.getElem?_range hk]
      by_cases h : i = k
      · subst h; simp [hk]
      · simp [h, hk]; intro e; exact absurd e.symm h
    · unfold unitV
      rw [List.getElem?_eq_none (by simpa using hk), List.getElem?_eq_none (by simpa using hk)]
  have HC := Lib.hid hC
  have HE := Lib.hid he
  have hul := Lib.hid (show (unitV n i).length = n by simp [unitV])
  have hiI : (i : Int) < (n : Int) := by omega
  clear hC he
  go_enter Tryd.func138, Tryd.ntmps138
  go_wp2_with (fail)
  refine HC.out.mono ?_
  rintro e w1 ⟨A, c, rfl, his, hf, hb1⟩
  rw [List.length_replicate]
  obtain ⟨ad, y, hA, hy, _, hc', hf'⟩ := his.at_ (j := i) (by simpa using hi)
  subst hA
  have hfz := hf' i
  have his' := his.set (ad := ad) rfl (j := i) 1 (by simpa using hi)
  rw [HE.out] at his'
  have HI := Lib.hid his'
  have hb' := Lib.hid (hb1.setCell (p := ad.add i) (by rw [block_of_add]; exact hf _ (by simp)) (.int .i64 1))
  clear his' hf' his hy hb1
  go_wp2_with (fail)
  go_ret
  exact ⟨some ad, c, by rw [hul.out]; rfl, HI.out, hf, hb'.out⟩
set_option maxHeartbeats 1000000 in
theorem identityRows_any (n : Nat) (w : World) (hn : n ≤ 1048576) :
    Calls Tryd.prog 161 #[.int .i64 n] w (RetSS w (idM n)) := by
  have hOM0 : OM w (w.alloc (.cells #[] 33)) (some ⟨w.heap.size, 0, none⟩) 0 [] := by
    refine ⟨[], rfl, ⟨by simpa using Sl.laid w 33 1 0 #[] (Nat.zero_le _) rfl, fun h hh => (by cases hh), .nil, fun h hh => (by cases hh)⟩, fun b hb => ?_, (Below.refl _ _).alloc (Nat.le_refl _) _⟩
    have : b = w.heap.size := by simpa [fpR] using hb
    subst this; exact Nat.le_refl _
  have hil := Lib.hid (show (idM n).length = n by simp [idM])
  go_enter Tryd.func161, Tryd.ntmps161
  go_wp2_with (fail)
  go_loopw [7, 3] (fun i v wr => ∃ (k : Nat) (A' : Option Addr) (c' : Nat), k ≤ n ∧ i = .int .i64 k ∧ v = .slice A' k c' ∧ OM w wr A' c' ((idM n).take k)) (fun i _ _ => n - (intOf i).toNat)
  case atStart => exact ⟨0, _, 0, Nat.zero_le _, rfl, rfl, hOM0⟩
  case round =>
    clear hOM0
    obtain ⟨k, A', c', hk, rfl, rfl, hOM⟩ := hrel
    by_cases hlt : k < n
    · have hC := unit_any n k wr hn hlt
      obtain ⟨gs, hLg, hO, hf, h0⟩ := hOM
      have hgl : gs.length = k := by
        have := congrArg List.length hLg
        rw [List.length_take, hil.out, List.length_map] at this
        omega
      have hpl : (unitV n k).length = n := by simp [unitV]
      have hidk : (idM n)[k]? = some (unitV n k) := by simp [idM, hlt]
      have HX := Lib.hid hidk
      have HG := Lib.hid hLg
      have HGL := Lib.hid hgl
      have HPL := Lib.hid hpl
      have hkI : (k : Int) < (n : Int) := by omega
      have HC := Lib.hid hC
      clear hLg hgl hC hpl hidk
      go_wp2_with (fail)
      refine HC.out.mono ?_
      rintro e w1 ⟨B1, c1, rfl, hi1, hf1, hb1⟩
      rw [HPL.out]
      have hsl : Sl (w1.alloc (.cells #[.slice B1 n c1] 33)) 33 1 A' k c' (gs.map Hd.val) := by
        have := (hO.sl.below hb1).alloc (.cells #[.slice B1 n c1] 33)
        rwa [HGL.out] at this
      go_wp2_with (at_builtin; refine wpList_append_Sl _ rfl _ _ _ rfl 33 Tryd.underlying22 info_ints rfl (by omega) rfl hsl rfl (news := [.slice B1 n c1]) rfl (Sl.rdc (Sl.laid w1 33 1 1 #[.slice B1 n c1] (by unfold maxLen; omega) rfl)) (by intro u hu; simp at hu; subst hu; rfl) (by unfold maxLen; omega) (by omega) ?_; intro A2 c2 w2 hs2 hA2 hk2)
      have hal2 : Below w1.heap.size w1 (w1.alloc (.cells #[.slice B1 n c1] 33)) := (Below.refl _ _).alloc (Nat.le_refl _) _
      have hOM2 := OM.snoc (w1 := w1.alloc (.cells #[.slice B1 n c1] 33)) HG.out hO hf h0 (below_trans hb1 hal2 hb1.size) (hi1.below hal2) hf1 (by rw [HGL.out]) (by rw [HPL.out]; exact hs2) hA2 hk2
      have HO := Lib.hid hOM2
      clear hOM2 hs2 hsl hO hf
      go_roundw
      case rel => exact ⟨k + 1, A2, c2, by omega, by go_num, rfl, by rw [List.take_add_one, HX.out]; exact HO.out⟩
      case measure => simp [intOf]; omega
    · obtain rfl : n = k := by omega
      have hOM' : OM w wr A' c' (idM n) := by have := hOM; rwa [List.take_of_length_le (by rw [hil.out]; omega)] at this
      clear hOM
      go_wp2_with (fail)
      go_ret
      have := hOM'.ret
      rw [hil.out] at this
      exact this
end Go.Proofs.YtahnhblodfdfhaaDoor

namespace Go.Proofs.YtahnhblodfdfhaaDoor
open Go.RowKit
/-- A new row is laid at i. -/
theorem OM.put {w0 w w1 : World} {A : Option Addr} {cap : Nat} {L : List (List Int)} (h : OM w0 w A cap L) {i : Nat} (hi : i < L.length) {ad : Addr} (hA : A = some ad) (hb : Below w.heap.size w w1) {B : Option Addr} {c : Nat} {l : List Int} (hx : IS w1 B c l) (hf1 : Fresh w.heap.size B) :
    OM w0 (w1.setCell (ad.add i) (.slice B l.length c)) A cap (L.set i l) := by
  subst hA
  obtain ⟨hs, rfl, hO, hf, h0⟩ := h
  have hi' : i < hs.length := by simpa using hi
  have hAl : ∀ b, b ∈ fpA (some ad) → b < w.heap.size := fun b hb' => hO.sl.lt b hb'
  have hRl : ∀ y, y ∈ hs → (∀ b, b ∈ fpA y.1 → b < w.heap.size) := fun y hy b hb' => (hO.rows y hy).lt b hb'
  have hk : Keeps (· ∈ fpA (some ad)) w1 (w1.setCell (ad.add i) (.slice B l.length c)) := (Keeps.refl _ w1).setCell (p := ad.add i) (by rw [block_of_add]; simp) _
  have hget : ∀ (k : Nat) (x : Hd), (hs.set i (B, c, l))[k]? = some x → (k = i ∧ x = (B, c, l)) ∨ (k ≠ i ∧ hs[k]? = some x) := by
    intro k x hx
    rw [List.getElem?_set] at hx
    split at hx
    · rename_i hk; subst hk
      simp at hx
      exact .inl ⟨rfl, hx.symm⟩
    · rename_i hk; exact .inr ⟨fun e => hk e.symm, hx⟩
  have hsz := h0.size
  have hbs := hb.size
  refine ⟨hs.set i (B, c, l), by rw [List.map_set], ⟨?_, fun x hx' => ?_, ?_, fun x hx' b hb1 hb2 => ?_⟩, fun b hb' => ?_, ?_⟩
  · have := (hO.sl.below hb).set (ad := ad) rfl i (Hd.val (B, c, l)) (by simpa using hi')
    rw [← List.map_set] at this
    rw [List.length_set]; exact this
  · rcases List.mem_or_eq_of_mem_set hx' with hx' | hx'
    · exact ((hO.rows x hx').below hb).keeps hk fun b hb' => hO.outer x hx' b hb'
    · subst hx'
      exact hx.keeps hk fun b hb' hb'' => by
        have := hf1 b hb'
        have := hAl b hb''
        omega
  · refine List.pairwise_iff_getElem.2 fun a b ha hb' hab c' h1 h2 => ?_
    rcases hget a _ (List.getElem?_eq_getElem ha) with ⟨ea, e1⟩ | ⟨ea, e1⟩ <;> rcases hget b _ (List.getElem?_eq_getElem hb') with ⟨eb, e2⟩ | ⟨eb, e2⟩
    · omega
    · rw [e1] at h1
      have := hf1 c' h1
      have := hRl _ (List.mem_of_getElem? e2) c' h2
      omega
    · rw [e2] at h2
      have := hf1 c' h2
      have := hRl _ (List.mem_of_getElem? e1) c' h1
      omega
    · exact hO.apart_get e1 e2 (by omega) c' h1 h2
  · rcases List.mem_or_eq_of_mem_set hx' with hx' | hx'
    · exact hO.outer x hx' b hb1 hb2
    · subst hx'
      have := hf1 b hb1
      have := hAl b hb2
      omega
  · rcases List.mem_append.1 hb' with hb' | hb'
    · exact hf b (List.mem_append_left _ hb')
    · obtain ⟨y, hy, hb'⟩ := mem_fpR.1 hb'
      rcases List.mem_or_eq_of_mem_set hy with hy | hy
      · exact hf b (List.mem_append_right _ (mem_fpR.2 ⟨_, hy, hb'⟩))
      · subst hy
        have := hf1 b hb'
        omega
  · exact below_keeps (below_trans h0 hb hsz) hk (by omega) fun b hb' => hf b (List.mem_append_left _ hb')
theorem nils_om {w w1 : World} {G : Addr} {m : Nat} (hs : Sl w1 33 1 (some G) m m ((List.replicate m nilHd).map Hd.val)) (hG : w.heap.size ≤ G.block) (hb : Below w.heap.size w w1) : OM w w1 (some G) m (List.replicate m []) := by
  obtain ⟨gs, hL, hO, hf⟩ := nils_rw hs
  exact ⟨gs, hL, hO, fun b hb' => by have := hf b hb'; simp at this; omega, hb⟩
end Go.Proofs.YtahnhblodfdfhaaDoor
namespace Go.Proofs.YtahnhblodfdfhaaDoor
open Go.RowKit
theorem redTo_mat3 {p : Int} (hp : fieldB p = true) {m n : Nat} {L A : List (List Int)} (hm : Mat p m n L) (hA : Mat p m m A) : ∀ c, c ≤ n → Mat p m m (redTo p L A c).2.2
  | 0, _ => hA
  | c + 1, hc => by
    have hpb := fieldB_bounds hp
    obtain ⟨ld, hR⟩ := redTo_inv hp hm A c (by omega)
    have h1 := redTo_mat3 hp hm hA c (by omega)
    rw [redTo]
    obtain ⟨s, hs⟩ : ∃ s, s = redTo p L A c := ⟨_, rfl⟩
    rw [← hs] at hR h1 ⊢
    rcases colStep_cases hp (show c < n by omega) hR.mat hR.inv.le with ⟨e, _⟩ | ⟨k, iv, k1, k2, k3, _, _, k6, k7, k8⟩
    · rw [e]; exact h1
    · rw [k7]
      have hr : s.1 < m := by omega
      have hse := step_en (p := p) (by omega) h1 hr k2 iv (fun i => en (scaleL p s.1 iv (swapL s.2.1 s.1 k)) i c)
      rw [h1.len]
      exact hse.1
theorem Mat.drop {p : Int} {m n r : Nat} {L : List (List Int)} (h : Mat p m n L) : Mat p (m - r) n (L.drop r) :=
  ⟨by rw [List.length_drop, h.len], fun v hv => h.row v (List.mem_of_mem_drop hv)⟩
theorem RdR.cut {w : World} {A A' : Option Addr} {n : Nat} {hs : List Hd} (h : RdR w A hs) {r c : Nat} (hsl : Sl w 33 1 A' n c ((hs.drop r).map Hd.val)) : RdR w A' (hs.drop r) := by
  refine ⟨fun i x hx => ?_, fun x hx => h.2 x (List.mem_of_mem_drop hx)⟩
  obtain ⟨ad, hA, _, hc, _⟩ := hsl.cell (j := i) (u := x.val) (by rw [List.getElem?_map, hx]; rfl)
  exact ⟨ad, hA, hc⟩
set_option maxRecDepth 100000 in
theorem kernel_any (p : Int) (n : Nat) (A : Option Addr) (c : Nat) (hs : List Hd) (w : World) (h : RdR w A hs) (hp : fieldB p = true) (hm : Mat p hs.length n (hs.map fun h : Hd => h.2.2)) (hl : hs.length ≤ 1048576) (hn : n ≤ 1048576) :
    Calls Tryd.prog 127 #[.int .i64 p, .slice A hs.length c, .int .i64 n] w (RetSS w (kerM p n (hs.map fun h : Hd => h.2.2))) := by
  have hC := clones_any A c hs w h hl (fun x hx => by have := (hm.row _ (List.mem_map_of_mem hx)).1; omega)
  obtain ⟨L, hLh⟩ : ∃ L, L = hs.map fun h : Hd => h.2.2 := ⟨_, rfl⟩
  rw [← hLh] at hm hC ⊢
  obtain ⟨m, hmm⟩ : ∃ m, m = hs.length := ⟨_, rfl⟩
  rw [← hmm] at hl hm hC ⊢
  have hpb := fieldB_bounds hp
  have HC := Lib.hid hC
  have HMat := Lib.hid hm
  have HL := Lib.hid hm.len
  clear hC hLh hmm hm h
  go_enter Tryd.func127, Tryd.ntmps127
  go_wp2_with (fail)
  refine HC.out.mono ?_
  rintro e w1 hret
  obtain ⟨A1, c1, rfl, hO1⟩ := hret.om
  rw [HL.out]
  have hI := Lib.hid (identityRows_any m w1 hl)
  clear hret
  go_wp2_with (fail)
  refine hI.out.mono ?_
  rintro e w2 hret
  obtain ⟨A2, c2, rfl, hO2⟩ := hret.om
  rw [show (idM m).length = m by simp [idM]]
  clear hret
  obtain ⟨fp, hR1, hfr, hlt⟩ := hO1.rw_
  have hR2 := hR1.below hO2.below_
  obtain ⟨fp2, hK, hfr2, hlt2⟩ := hO2.rw_
  have hmI : Mat p m m (idM m) := idM_mat (by omega) m
  have hRd := reduction_any p n m m A1 c1 L fp A2 c2 (idM m) fp2 w2 hR2 hK (fun b hb hb' => by
    have := hlt b hb
    have := hfr2 b hb'
    omega) (fun b hb => Nat.lt_of_lt_of_le (hlt b hb) hO2.size) hlt2 hp HMat.out hmI hl hn hl
  have hB2 : Below w.heap.size w w2 := below_trans hO1.below_ hO2.below_ hO1.below_.size
  have hres : kerM p n L = redM p m ((redTo p L (idM m) n).2.2.drop (redTo p L (idM m) n).1) := by unfold kerM; rw [HL.out]
  have hM3 := redTo_mat3 hp HMat.out hmI n (Nat.le_refl n)
  have hRm := (redTo_mat hp HMat.out (idM m) (Nat.le_refl n)).2
  obtain ⟨R, hR⟩ : ∃ R, R = (redTo p L (idM m) n).1 := ⟨_, rfl⟩
  obtain ⟨M, hM⟩ : ∃ M, M = (redTo p L (idM m) n).2.2 := ⟨_, rfl⟩
  rw [← hR, ← hM] at hRd hres
  rw [← hM] at hM3
  rw [← hR] at hRm
  have HRd := Lib.hid hRd
  have HRES := Lib.hid hres
  have HM3 := Lib.hid hM3
  have HP := Lib.hid hp
  have HFR := Lib.hid hfr
  have HFR2 := Lib.hid (hfr2.mono hO1.size)
  clear hRd hres hK hR1 hR2 hmI hO1 hO2 hR hM hp hfr hfr2 hlt hlt2 hM3
  go_wp2_with (fail)
  refine HRd.out.mono ?_
  rintro e w3 ⟨rfl, _, h2, hk3⟩
  have hB3 : Below w.heap.size w w3 := below_keeps hB2 hk3 hB2.size fun b hb => by
    rcases hb with hb | hb
    · exact HFR.out b hb
    · exact HFR2.out b hb
  obtain ⟨gs, hLg, hO, hf, h0⟩ := h2.om (w0 := w) HFR2.out hB3
  have hgl : gs.length = m := by
    have := congrArg List.length hLg
    rw [HM3.out.len, List.length_map] at this; omega
  have hsl : Sl w3 33 1 A2 m c2 (gs.map Hd.val) := by have := hO.sl; rwa [hgl] at this
  have hRd3 := Lib.hid hO.rd
  have HG := Lib.hid hLg
  have HGL := Lib.hid hgl
  have hmc := hsl.2.1
  clear hLg hgl h2 hO hf
  go_wp2_with (refine wpList_slice_Sl rfl (.tmp 21) (some (.tmp 22)) none none 22 rfl 33 Tryd.underlying22 info_ints rfl hsl R m c2 (optSome (by omega)) (optNone ⟨rfl, rfl⟩) (optNone rfl) (by omega) (Nat.le_refl _) (by omega) (Nat.le_refl _) ?_; intro A3 hcut hfp _)
  have hcut' : Sl w3 33 1 A3 (m - R) (c2 - R) ((gs.drop R).map Hd.val) := by
    have := hcut
    simp only [Nat.mul_one] at this
    rw [List.take_of_length_le (by simp [HGL.out]), ← List.map_drop] at this
    exact this
  have hdl : (gs.drop R).length = m - R := by rw [List.length_drop, HGL.out]
  have hmd : Mat p (gs.drop R).length m ((gs.drop R).map fun h : Hd => h.2.2) := by
    rw [hdl, List.map_drop, ← HG.out]; exact HM3.out.drop
  have hC3 := reduced_any p m A3 (c2 - R) (gs.drop R) w3 (RdR.cut hRd3.out hcut') HP.out hmd (by omega) hl
  rw [hdl, List.map_drop, ← HG.out, ← HRES.out] at hC3
  have HC3 := Lib.hid hC3
  clear hC3 hmd hdl hcut' hcut hsl
  go_wp2_with (fail)
  refine HC3.out.mono ?_
  rintro e w4 hret
  obtain ⟨A4, c4, rfl, hO4⟩ := hret.om
  go_wp2_with (fail)
  go_ret
  exact hret.mono hB3
end Go.Proofs.YtahnhblodfdfhaaDoor

namespace Go.Proofs.YtahnhblodfdfhaaDoor
open Go.RowKit
theorem results_cell_tmp {P : Program} {fn : Func} {p u : Tmp} {ty : TypeId} (h : fn.results = #[.cell p ty, .tmp u]) (tmps : Array Value) (w : World) (g : Nat) (t : TypeId) (cs : Array Value) (fr : Nat × Nat) (d : TypeDesc)
    (hp : tmps.getD p undef = .pointer (some ⟨g, 0, none⟩)) (hg : w.heap[g]? = some (.cells cs t fr))
    (hu : P.underlying ty = some d) (hd : (match d with | .struct _ | .array _ _ => true | _ => false) = true) (hi : (P.info? ty).map (·.size) = some cs.size) :
    (results fn tmps).run P w = .ok (.tuple #[.agg cs, tmps.getD u undef]) w := by
  have hp' : tmps[p]?.getD undef = .pointer (some ⟨g, 0, none⟩) := by simpa using hp
  simp [results, h, hp', asAddr, run_loadVar_row w g t ty cs fr d hg hu hd hi]
section
variable {w : World} {B : Nat} {t : TypeId} {x y z a b c : Value}
theorem set3 (h : w.heap[B]? = some (.cells #[x, y, z] t)) : (((w.setCell ⟨B, 0, none⟩ a).setCell ⟨B, 1, none⟩ b).setCell ⟨B, 2, none⟩ c).heap[B]? = some (.cells #[a, b, c] t) ∧ Keeps (· = B) w (((w.setCell ⟨B, 0, none⟩ a).setCell ⟨B, 1, none⟩ b).setCell ⟨B, 2, none⟩ c) := by
  refine ⟨by simp [World.setCell, Array.getElem?_modify, h], ?_⟩
  exact ((((Keeps.refl (fun x => x = B) w).setCell (p := ⟨B, 0, none⟩) rfl _).setCell (p := ⟨B, 1, none⟩) rfl _).setCell (p := ⟨B, 2, none⟩) rfl _)
end
/-- An owned struct of the empty kind. -/
theorem OwSys.zero (w : World) (a b : Int) : OwSys w (.agg #[.int .i64 a, .int .i64 b, .slice none 0 0]) (a, b, []) [] := ⟨none, 0, [], rfl, rfl, OwR.nil w, by simp [fpR]⟩
theorem OwMt.zero (w : World) (a : Int) : OwMt w (.agg #[.int .i64 a, .slice none 0 0]) (a, []) [] := ⟨none, 0, [], rfl, rfl, OwR.nil w, by simp [fpR]⟩
theorem FreshL.nil (B : Nat) : FreshL B [] := fun b hb => (by cases hb)
theorem okR_nil : OkR [] := ⟨by simp, fun x hx => (by cases hx), by simp [cntR]⟩
theorem OwSys.of_ret {w0 w : World} {L : List (List Int)} {A : Option Addr} {c : Nat} {a b : Int} (h : OM w0 w A c L) {w' : World} {S : Nat → Prop} (hk : Keeps S w w') (hS : ∀ k, S k → k < w0.heap.size) {n : Nat} (hn : L.length = n) : ∃ fp, OwSys w' (.agg #[.int .i64 a, .int .i64 b, .slice A n c]) (a, b, L) fp ∧ FreshL w0.heap.size fp := by
  subst hn
  obtain ⟨fp, h1, h2⟩ := OwSys.of_om (a := a) (b := b) h
  exact ⟨fp, h1.keeps hk fun k hk' hs => by have := h2 k hk'; have := hS k hs; omega, h2⟩
end Go.Proofs.YtahnhblodfdfhaaDoor
namespace Go.Proofs.YtahnhblodfdfhaaDoor
open Go.RowKit
end Go.Proofs.YtahnhblodfdfhaaDoor
namespace Go.Proofs.YtahnhblodfdfhaaDoor
open Go.RowKit
end Go.Proofs.YtahnhblodfdfhaaDoor
namespace Go.Proofs.YtahnhblodfdfhaaDoor
open Go.RowKit
theorem cntR_le {L : List (List Int)} {k : Nat} (h : ∀ x, x ∈ L → x.length ≤ k) : cntR L ≤ L.length * k := by
  induction L with
  | nil => simp [cntR]
  | cons a L ih =>
    have h1 := ih fun x hx => h x (List.mem_cons_of_mem _ hx)
    have h2 := h a (List.mem_cons_self ..)
    rw [cntR, List.length_cons, Nat.succ_mul]; omega
theorem okR_mat {p : Int} {m n : Nat} {L : List (List Int)} (h : Mat p m n L) (hm : m ≤ 1000) (hn : n ≤ 1000) : OkR L := by
  have h1 := cntR_le (L := L) (k := n) fun x hx => Nat.le_of_eq (h.row x hx).1
  rw [h.len] at h1
  refine ⟨by rw [h.len]; omega, fun x hx => by rw [(h.row x hx).1]; omega, Nat.le_trans h1 ?_⟩
  have : m * n ≤ 1000 * 1000 := Nat.mul_le_mul hm hn
  omega
end Go.Proofs.YtahnhblodfdfhaaDoor

namespace Go.Proofs.YtahnhblodfdfhaaDoor
open Go.RowKit
set_option maxRecDepth 100000 in
set_option maxHeartbeats 1000000 in
theorem rlOf_any (p a b : Int) (n : Nat) (A : Option Addr) (c : Nat) (hs : List Hd) (w : World) (h : RdR w A hs) (hp : fieldB p = true) (hn : a + b = (n : Int)) (hm : Mat p hs.length n (hs.map fun h : Hd => h.2.2)) (hl : hs.length ≤ 1048576) (hn' : n ≤ 1048576) :
    Calls Tryd.prog 122 #[.int .i64 p, .int .i64 a, .int .i64 b, .slice A hs.length c] w fun e w' => ∃ v' fp, e = .returned v' ∧ OwSys w' v' (a, b, redM p n (hs.map fun h : Hd => h.2.2)) fp ∧ FreshL w.heap.size fp ∧ Below w.heap.size w w' := by
  obtain ⟨W, hW⟩ : ∃ W, W = w.alloc (.cells #[.int .i64 0, .int .i64 0, .slice none 0 0] 43) := ⟨_, rfl⟩
  have hB0 : Below w.heap.size w W := by rw [hW]; exact (Below.refl _ _).alloc (Nat.le_refl _) _
  have k0 : W.heap[w.heap.size]? = some (.cells #[.int .i64 0, .int .i64 0, .slice none 0 0] 43) := by rw [hW]; exact heap_alloc_new w _
  have hC := spReduce_any p n A c hs W (h.below hB0) hp hm hl hn'
  obtain ⟨R, hR⟩ : ∃ R, R = redM p n (hs.map fun h : Hd => h.2.2) := ⟨_, rfl⟩
  rw [← hR] at hC ⊢
  have hC' : Calls Tryd.prog 113 #[.int .i64 p, .int .i64 (a + b), .slice A hs.length c] W (RetSS W R) := by rw [hn]; exact hC
  have hwr : IntKind.i64.wrap (a + b) = a + b := IntWalk.i64_in _ (by omega)
  have HC := Lib.hid hC'
  have HB := Lib.hid hB0
  have K0 := Lib.hid k0
  clear hC hC' hR hB0 k0 h hm hp hn
  go_enter Tryd.func122, Tryd.ntmps122
  go_wp2_with (fail)
  rw [← hW]
  clear hW
  go_wp2_with (fail)
  refine HC.out.mono ?_
  rintro e w1 hret
  obtain ⟨A1, c1, rfl, hO1⟩ := hret.om
  have k1 := box_below K0.out hO1.below_
  have hB1 := below_trans HB.out hO1.below_ HB.out.size
  obtain ⟨⟨d0, d1, d2⟩, g0, g1, g2⟩ := box3 k1
  obtain ⟨s1, s2⟩ := set3 (a := .int .i64 a) (b := .int .i64 b) (c := .slice A1 R.length c1) k1
  have S1 := Lib.hid s1
  have HO1 := Lib.hid hO1
  have S2 := Lib.hid s2
  have hw0 := (Array.getElem?_eq_some_iff.1 K0.out).1
  have hB3 := Lib.hid (below_keeps hB1 s2 hB1.size (fun k hk => by omega))
  have hBs := HB.out.size
  clear HC hret K0 k1 hO1 s1 s2 hB1
  go_wp2_with (fail)
  refine bodyPost_ret (results_cell_row rfl _ _ w.heap.size _ _ (0, 0) _ rfl S1.out Tryd.underlying43 rfl (by kernel_rfl)) rfl ?_
  obtain ⟨fp, h1, h2⟩ := OwSys.of_ret (a := a) (b := b) HO1.out S2.out (fun k hk => by omega) rfl
  exact ⟨_, fp, rfl, h1, h2.mono hBs, hB3.out⟩
end Go.Proofs.YtahnhblodfdfhaaDoor

namespace Go.Proofs.YtahnhblodfdfhaaDoor
open Go.RowKit
/-- a, a + 1, .. -/
def fromI (a : Int) (n : Nat) : List Int := (List.range n).map fun i => ((i : Nat) : Int) + a
@[simp] theorem fromI_length (a : Int) (n : Nat) : (fromI a n).length = n := by simp [fromI]
theorem OI.join {w0 w w2 : World} {A : Option Addr} {cap : Nat} {l v : List Int} (h : OI w0 w A cap l) {A' : Option Addr} {cap' n : Nat} (hn : n = l.length + v.length) (hs' : Sl w2 tInt 1 A' n cap' (ints l ++ ints v)) (hA' : ∀ b, b ∈ fpA A' → b ∈ fpA A ∨ w.heap.size ≤ b) (hk : Keeps (· ∈ fpA A) w w2) : OI w0 w2 A' cap' (l ++ v) := by
  subst hn
  refine ⟨?_, fun b hb' => ?_, below_keeps h.below_ hk h.below_.size h.new⟩
  · unfold IS
    have : ints (l ++ v) = ints l ++ ints v := by simp [ints]
    rw [this, List.length_append]; exact hs'
  · rcases hA' b hb' with h1 | h1
    · exact h.new b h1
    · have := h.below_.size; omega
theorem flat_take_le {L : List (List Int)} {k : Nat} {N : Nat} (h : L.flatten.length ≤ N) : (L.take k).flatten.length ≤ N := by
  have e : L.flatten.length = (L.take k).flatten.length + (L.drop k).flatten.length := by
    have := congrArg (fun x => x.flatten.length) (List.take_append_drop k L)
    simp only [List.flatten_append, List.length_append] at this; omega
  omega
set_option maxHeartbeats 1000000 in
theorem joined_any (A : Option Addr) (c : Nat) (hs : List Hd) (w : World) (h : RdR w A hs) (hl : hs.length ≤ 1048576) (hN : (hs.map fun h : Hd => h.2.2).flatten.length ≤ 1048576) :
    Calls Tryd.prog 129 #[.slice A hs.length c] w (RetI w (hs.map fun h : Hd => h.2.2).flatten) := by
  obtain ⟨L, hLh⟩ : ∃ L, L = hs.map fun h : Hd => h.2.2 := ⟨_, rfl⟩
  rw [← hLh] at hN ⊢
  obtain ⟨m, hmm⟩ : ∃ m, m = hs.length := ⟨_, rfl⟩
  rw [← hmm] at hl ⊢
  have HLh := Lib.hid hLh
  have HM := Lib.hid hmm
  have hLen := Lib.hid (show L.length = m by rw [hLh, List.length_map, hmm])
  clear hLh hmm
  have hO0 : OI w (w.alloc (.cells #[] 3)) (some ⟨w.heap.size, 0, none⟩) 0 [] := by
    refine ⟨by unfold IS; simpa [ints] using Sl.laid w 3 1 0 #[] (Nat.zero_le _) rfl, fun b hb => ?_, (Below.refl _ _).alloc (Nat.le_refl _) _⟩
    have : b = w.heap.size := by simpa using hb
    subst this; exact Nat.le_refl _
  go_enter Tryd.func129, Tryd.ntmps129
  go_wp2_with (fail)
  go_loopw [9, 3] (fun i v wr => ∃ (k : Nat) (A' : Option Addr) (c' n : Nat), k ≤ m ∧ i = .int .i64 k ∧ v = .slice A' n c' ∧ n = ((L.take k).flatten).length ∧ OI w wr A' c' (L.take k).flatten) (fun i _ _ => m - (intOf i).toNat)
  case atStart => exact ⟨0, _, 0, 0, Nat.zero_le _, rfl, rfl, rfl, by simpa using hO0⟩
  case round =>
    clear hO0
    obtain ⟨k, A', c', n, hk, rfl, rfl, hn, hO⟩ := hrel
    by_cases hlt : k < m
    · obtain ⟨ad, C, d, l, rfl, hx, hc, hri⟩ := (h.below hO.below_).at_ (k := k) (by rw [← HM.out]; exact hlt)
      have hlx : L[k]? = some l := by rw [HLh.out, List.getElem?_map, hx]; rfl
      have hnx : (L.take (k + 1)).flatten = (L.take k).flatten ++ l := by rw [List.take_add_one, hlx]; simp
      have hb1 := flat_take_le (k := k + 1) hN
      rw [hnx, List.length_append] at hb1
      have hsl : Sl wr 3 1 A' n c' (ints (L.take k).flatten) := by rw [hn]; exact hO.is
      obtain ⟨q, hq⟩ : ∃ q, q = l.length := ⟨_, rfl⟩
      rw [← hq] at hc hb1
      rw [← hn] at hb1
      have hil : (ints l).length = q * 1 := by rw [ints_length, hq, Nat.mul_one]
      have HNX := Lib.hid hnx
      have HQ := Lib.hid hq
      have HN := Lib.hid hn
      have HIL := Lib.hid hil
      have hkI : (k : Int) < (m : Int) := by omega
      clear hx hlx hnx hq hn hil h
      go_wp2_with (at_builtin; refine wpList_append_Sl _ rfl _ _ _ rfl 3 Tryd.underlying33 info_int rfl (by omega) rfl hsl rfl HIL.out hri.rdc (ints_one l) (by unfold maxLen; omega) (by omega) ?_; intro A3 c3 w3 hs3 hA3 hk3)
      have hO2 := Lib.hid (hO.join (v := l) (by rw [← HN.out, ← HQ.out]) hs3 hA3 hk3)
      clear hs3 hO hsl
      go_roundw
      case rel => exact ⟨k + 1, A3, c3, n + q, by omega, by go_num, rfl, by rw [HNX.out, List.length_append, HN.out, HQ.out], by rw [HNX.out]; exact hO2.out⟩
      case measure => simp [intOf]; omega
    · obtain rfl : m = k := by omega
      have hO2 : OI w wr A' c' L.flatten := by have := hO; rwa [List.take_of_length_le (by rw [hLen.out]; omega)] at this
      have hn2 : n = L.flatten.length := by rw [hn, List.take_of_length_le (by rw [hLen.out]; omega)]
      have HN2 := Lib.hid hn2
      clear hO h hn hn2
      go_wp2_with (fail)
      go_ret
      exact ⟨A', c', by rw [← HN2.out]; rfl, hO2.is, hO2.new, hO2.below_⟩
/-- The elements laid at places. -/
def placeTo (n : Nat) (at_ : List Nat) (v : List Int) : Nat → List Int
  | 0 => List.replicate n 0
  | i + 1 => (placeTo n at_ v i).set (at_.getD i 0) (v.getD i 0)
@[simp] theorem placeTo_length (n : Nat) (at_ : List Nat) (v : List Int) : ∀ i, (placeTo n at_ v i).length = n
  | 0 => by simp [placeTo]
  | i + 1 => by rw [placeTo, List.length_set]; exact placeTo_length n at_ v i
end Go.Proofs.YtahnhblodfdfhaaDoor

namespace Go.Proofs.YtahnhblodfdfhaaDoor
open Go.RowKit
theorem first_any (na : Nat) (b : Int) (x : Value) (_hx : x.oneCell' = true) (B : Option Addr) (cc n : Nat) (u : List Int) (w : World) (h : Sl w 3 1 B n cc (ints u)) (hna : na ≤ n) :
    Calls Tryd.prog 126 #[.agg #[.int .i64 na, .int .i64 b, x], .slice B n cc] w fun e w' => ∃ B', e = .returned (.slice B' na cc) ∧ Sl w' 3 1 B' na cc (ints (u.take na)) ∧ (∀ y, y ∈ fpA B' → y ∈ fpA B) ∧ Below w.heap.size w w' := by
  obtain ⟨W, hW, b0, k0⟩ := alloc_box w (.cells #[.int .i64 na, .int .i64 b, x] tRel)
  obtain ⟨⟨c0, c1, c2⟩, f0, f1, f2⟩ := box3 k0
  have hS := h.below b0
  have hcap := hS.2.1
  have hmx := hS.2.2.1
  have k0_h := Lib.hid k0
  have b0_h := Lib.hid b0
  clear k0 b0
  go_enter Tryd.func126, Tryd.ntmps126
  go_upto_region 1 with (fail)
  rw [← hW]
  clear hW
  go_wp2_with (refine wpList_slice_Sl rfl (.tmp 5) none (some (.tmp 7)) none 33 rfl 3 Tryd.underlying33 info_int rfl hS 0 na cc (optNone rfl) (optSome rfl) (optNone rfl) (Nat.zero_le _) hna (by omega) (Nat.le_refl _) ?_; intro B' hS' hf' _)
  go_ret
  refine ⟨B', rfl, ?_, hf', b0_h.out⟩
  have e : ((ints u).drop (0 * 1)).take ((na - 0) * 1) = ints (u.take na) := by simp [ints, List.map_take]
  rw [e] at hS'
  exact hS'
theorem second_any (na : Nat) (b : Int) (x : Value) (_hx : x.oneCell' = true) (B : Option Addr) (cc n r : Nat) (u : List Int) (w : World) (h : Sl w 3 1 B n cc (ints u)) (hna : n = na + r) :
    Calls Tryd.prog 125 #[.agg #[.int .i64 na, .int .i64 b, x], .slice B n cc] w fun e w' => ∃ B' c', e = .returned (.slice B' r c') ∧ Sl w' 3 1 B' r c' (ints (u.drop na)) ∧ (∀ y, y ∈ fpA B' → y ∈ fpA B) ∧ Below w.heap.size w w' := by
  obtain ⟨W, hW, b0, k0⟩ := alloc_box w (.cells #[.int .i64 na, .int .i64 b, x] tRel)
  obtain ⟨⟨c0, c1, c2⟩, f0, f1, f2⟩ := box3 k0
  have hS := h.below b0
  have hcap := hS.2.1
  have hmx := hS.2.2.1
  have hul : (ints u).length = n := by rw [hS.1]; omega
  have hle : na ≤ n := by omega
  have k0_h := Lib.hid k0
  have b0_h := Lib.hid b0
  have hul_h := Lib.hid hul
  have hna_h := Lib.hid hna
  clear k0 b0 hul hna
  go_enter Tryd.func125, Tryd.ntmps125
  go_upto_region 1 with (fail)
  rw [← hW]
  clear hW
  go_wp2_with (refine wpList_slice_Sl rfl (.tmp 5) (some (.tmp 7)) none none 33 rfl 3 Tryd.underlying33 info_int rfl hS na n cc (optSome rfl) (optNone ⟨rfl, rfl⟩) (optNone rfl) hle (Nat.le_refl _) hcap (Nat.le_refl _) ?_; intro B' hS' hf' _)
  have er : n - na = r := by have := hna_h.out; omega
  rw [er] at hS' ⊢
  go_wp2_with (fail)
  go_ret
  refine ⟨B', cc - na, rfl, ?_, hf', b0_h.out⟩
  have e : ((ints u).drop (na * 1)).take (r * 1) = ints (u.drop na) := by
    rw [List.take_of_length_le (by rw [List.length_drop, hul_h.out]; omega)]
    simp [ints, List.map_drop]
  rw [e] at hS'
  exact hS'
end Go.Proofs.YtahnhblodfdfhaaDoor
namespace Go.Proofs.YtahnhblodfdfhaaDoor
open Go.RowKit
end Go.Proofs.YtahnhblodfdfhaaDoor
namespace Go.Proofs.YtahnhblodfdfhaaDoor
open Go.RowKit
/-- An outer row of a call's own, whose rows are read: they may lie in old or new memory. -/
structure RdO (w0 w : World) (A : Option Addr) (cap : Nat) (hs : List Hd) : Prop where
  sl : Sl w 33 1 A hs.length cap (hs.map Hd.val)
  rows : ∀ h, h ∈ hs → IS w h.1 h.2.1 h.2.2
  outer : ∀ h, h ∈ hs → ∀ b, b ∈ fpA h.1 → ¬ b ∈ fpA A
  new : ∀ b, b ∈ fpA A → w0.heap.size ≤ b
  below_ : Below w0.heap.size w0 w
section
variable {w0 w w' : World} {A : Option Addr} {cap : Nat} {hs : List Hd}
theorem RdO.below (h : RdO w0 w A cap hs) (hb : Below w.heap.size w w') : RdO w0 w' A cap hs := ⟨h.sl.below hb, fun x hx => (h.rows x hx).below hb, h.outer, h.new, below_trans h.below_ hb h.below_.size⟩
theorem RdO.rdr (h : RdO w0 w A cap hs) : RdR w A hs := by
  refine ⟨fun i x hx => ?_, fun x hx => (h.rows x hx).rd⟩
  obtain ⟨ad, hA, _, hc, _⟩ := h.sl.cell (j := i) (u := x.val) (by simp [hx])
  exact ⟨ad, hA, hc⟩
theorem RdO.snoc {w1 w2 : World} (h : RdO w0 w A cap hs) (hb : Below w.heap.size w w1) {x : Hd} (hx : IS w1 x.1 x.2.1 x.2.2) (hxo : ∀ b, b ∈ fpA x.1 → ¬ b ∈ fpA A) {A' : Option Addr} {cap' n : Nat} (hn : n = hs.length + 1) (hs' : Sl w2 33 1 A' n cap' (hs.map Hd.val ++ [x.val])) (hA' : ∀ b, b ∈ fpA A' → b ∈ fpA A ∨ w1.heap.size ≤ b) (hk : Keeps (· ∈ fpA A) w1 w2) : RdO w0 w2 A' cap' (hs ++ [x]) := by
  subst hn
  have hbw := below_trans h.below_ hb h.below_.size
  refine ⟨by simpa using hs', fun y hy => ?_, fun y hy b hb1 hb2 => ?_, fun b hb' => ?_, below_keeps hbw hk hbw.size h.new⟩
  · rcases List.mem_append.1 hy with hy | hy
    · exact ((h.rows y hy).below hb).keeps hk (h.outer y hy)
    · obtain rfl := List.mem_singleton.1 hy; exact hx.keeps hk hxo
  · rcases List.mem_append.1 hy with hy | hy
    · rcases hA' b hb2 with h1 | h1
      · exact h.outer y hy b hb1 h1
      · have := (h.rows y hy).lt b hb1; have := hb.size; omega
    · obtain rfl := List.mem_singleton.1 hy
      rcases hA' b hb2 with h1 | h1
      · exact hxo b hb1 h1
      · have := hx.lt b hb1; omega
  · rcases hA' b hb' with h1 | h1
    · exact h.new b h1
    · have := hbw.size; omega
theorem RdO.start (w W : World) (hb : Below w.heap.size w W) : RdO w (W.alloc (.cells #[] 33)) (some ⟨W.heap.size, 0, none⟩) 0 [] := by
  refine ⟨by simpa using Sl.laid W 33 1 0 #[] (Nat.zero_le _) rfl, fun x hx => (by cases hx), fun x hx => (by cases hx), fun b hb' => ?_, below_trans hb (below_alloc _ _) hb.size⟩
  simp at hb'; subst hb'; exact hb.size
end
set_option maxRecDepth 8000 in
set_option maxHeartbeats 1000000 in
theorem each_any (F : FuncId) (first cap : Array Value) (g : List Int → List Int) (a b : Int) (A : Option Addr) (c : Nat) (hs : List Hd) (w : World) (hR : RdR w A hs) (hI : ∀ x, x ∈ hs → IS w x.1 x.2.1 x.2.2) (hl : hs.length ≤ 1048576) (hE : ∀ (args : Array Value) (w : World), (callFunc F args).run Tryd.prog w = .ok (.enter F args) w)
    (hF : ∀ x, x ∈ hs → ∀ W', Below w.heap.size w W' → Calls Tryd.prog F (first.push (.slice x.1 x.2.2.length x.2.1) ++ cap) W' fun e w'' => ∃ B c', e = .returned (.slice B (g x.2.2).length c') ∧ IS w'' B c' (g x.2.2) ∧ (∀ b, b ∈ fpA B → b ∈ fpA x.1 ∨ W'.heap.size ≤ b) ∧ Below W'.heap.size W' w'') :
    Calls Tryd.prog 124 #[.agg #[.int .i64 a, .int .i64 b, .slice A hs.length c], .func (.func F) first cap] w fun e w' => ∃ A' c' gs, e = .returned (.slice A' hs.length c') ∧ gs.map (fun h : Hd => h.2.2) = hs.map (fun h : Hd => g h.2.2) ∧ RdO w w' A' c' gs := by
  obtain ⟨m, hm⟩ : ∃ m, m = hs.length := ⟨_, rfl⟩
  rw [← hm] at hl ⊢
  obtain ⟨W, hW, b0, k0⟩ := alloc_box w (.cells #[.int .i64 a, .int .i64 b, .slice A m c] tRel)
  obtain ⟨⟨c0, c1, c2⟩, f0, f1, f2⟩ := box3 k0
  have hO0 := RdO.start w W b0
  have hz0 := (Array.getElem?_eq_some_iff.1 k0).1
  have hm_h := Lib.hid hm
  have hF_h := Lib.hid hF
  have hI_h := Lib.hid hI
  have hR_h := Lib.hid hR
  have k0_h := Lib.hid k0
  have b0_h := Lib.hid b0
  have hO0_h := Lib.hid hO0
  have hE_h := Lib.hid hE
  clear hm hF hI hR k0 b0 hO0 hE
  go_enter Tryd.func124, Tryd.ntmps124
  go_upto_region 1 with (fail)
  rw [← hW]
  clear hW
  go_wp2_with (fail)
  clear c0 c1 c2 f0 f1 f2
  go_loopw [12, 5] (fun i v wr => ∃ (k : Nat) (A' : Option Addr) (c' : Nat) (gs : List Hd), k ≤ m ∧ i = .int .i64 k ∧ v = .slice A' k c' ∧ gs.length = k ∧ gs.map (fun h : Hd => h.2.2) = (hs.take k).map (fun h : Hd => g h.2.2) ∧ RdO w wr A' c' gs) (fun i _ _ => m - (intOf i).toNat)
  case atStart => exact ⟨0, _, 0, [], Nat.zero_le _, rfl, rfl, rfl, rfl, hO0_h.out⟩
  case round =>
    obtain ⟨k, A', c', gs, hk, rfl, rfl, hgl, hgm, hO⟩ := hrel
    by_cases hlt : k < m
    · obtain ⟨x, hx⟩ : ∃ x, hs[k]? = some x := ⟨_, List.getElem?_eq_getElem (by rw [← hm_h.out]; exact hlt)⟩
      obtain ⟨ad, rfl, hc⟩ := (hR_h.out.below hO.below_).1 k x hx
      obtain ⟨B, d, l⟩ := x
      have hxm := List.mem_of_getElem? hx
      have hC := hF_h.out _ hxm wr hO.below_
      have hBlt := (hI_h.out _ hxm).lt
      have hc' : wr.cell? (ad.add k) = some (.slice B l.length d) := hc
      obtain ⟨q, hq⟩ : ∃ q, q = l.length := ⟨_, rfl⟩
      obtain ⟨r, hr⟩ : ∃ r, r = (g l).length := ⟨_, rfl⟩
      simp only [← hq, ← hr] at hC
      rw [← hq] at hc'
      have hkI : (k : Int) < (m : Int) := by omega
      clear hc hxm
      have hgl_h := Lib.hid hgl
      have hgm_h := Lib.hid hgm
      have hO_h := Lib.hid hO
      have hC_h := Lib.hid hC
      have hq_h := Lib.hid hq
      have hr_h := Lib.hid hr
      have hx_h := Lib.hid hx
      have hBlt_h := Lib.hid hBlt
      clear hgl hgm hO hC hq hr hx hBlt
      have hE1 := hE_h.out (first.push (.slice B q d) ++ cap) wr
      go_wp2_with (fail)
      refine (hC_h.out).mono ?_
      rintro e w1 ⟨B1, d1, rfl, hI1, hfp1, hb1⟩
      have hsl : Sl (w1.alloc (.cells #[.slice B1 r d1] 33)) 33 1 A' k c' (gs.map Hd.val) := by
        have := (hO_h.out.sl.below hb1).alloc (.cells #[.slice B1 r d1] 33)
        rwa [hgl_h.out] at this
      clear hc' hE1
      have hI1_h := Lib.hid hI1
      have hfp1_h := Lib.hid hfp1
      have hb1_h := Lib.hid hb1
      have hsl_h := Lib.hid hsl
      clear hI1 hfp1 hb1 hsl
      go_wp2_with (at_builtin; refine wpList_append_Sl _ rfl _ _ _ rfl 33 Tryd.underlying22 info_ints rfl (by omega) rfl (hsl_h.out) rfl (news := [.slice B1 r d1]) rfl (Sl.rdc (Sl.laid w1 33 1 1 #[.slice B1 r d1] (by unfold maxLen; omega) rfl)) (by intro u hu; simp at hu; subst hu; rfl) (by unfold maxLen; omega) (by omega) ?_; intro A3 c3 w3 hsA3 hA3 hkA3)
      have hal : Below w1.heap.size w1 (w1.alloc (.cells #[.slice B1 r d1] 33)) := below_alloc _ _
      have hO2 := hO_h.out.snoc (w1 := w1.alloc (.cells #[.slice B1 r d1] 33)) (below_trans hb1_h.out hal hb1_h.out.size) (x := (B1, d1, g l)) (hI1_h.out.below hal) (fun b hb hb' => by
        have h1 := hO_h.out.sl.lt b hb'
        have h2 := hO_h.out.new b hb'
        rcases hfp1_h.out b hb with h3 | h3
        · have := hBlt_h.out b h3; omega
        · omega) (by rw [hgl_h.out]) (by show Sl w3 _ 1 A3 (k + 1) c3 (gs.map Hd.val ++ [.slice B1 (g l).length d1]); rw [← hr_h.out]; exact hsA3) hA3 hkA3
      clear hsA3 hA3 hkA3
      have hO2_h := Lib.hid hO2
      clear hO2
      go_roundw
      case rel => exact ⟨k + 1, A3, c3, gs ++ [(B1, d1, g l)], by omega, by go_num, rfl, by rw [List.length_append, hgl_h.out]; rfl, by rw [List.map_append, hgm_h.out, List.take_add_one, hx_h.out]; simp, hO2_h.out⟩
      case measure => simp [intOf]; omega
    · obtain rfl : k = m := by omega
      have hgm2 : gs.map (fun h : Hd => h.2.2) = hs.map (fun h : Hd => g h.2.2) := by rw [hgm, List.take_of_length_le (by rw [← hm_h.out]; exact Nat.le_refl _)]
      clear hgm
      have hgl_h := Lib.hid hgl
      have hgm2_h := Lib.hid hgm2
      have hO_h := Lib.hid hO
      clear hgl hgm2 hO
      go_wp2_with (fail)
      go_ret
      exact ⟨A', c', gs, rfl, hgm2_h.out, hO_h.out⟩
set_option maxRecDepth 100000 in
set_option maxHeartbeats 1000000 in
theorem relation_any (p a b : Int) (n : Nat) (A : Option Addr) (c : Nat) (hs : List Hd) (w : World) (h : RdR w A hs) (hp : fieldB p = true) (hn : a + b = (n : Int)) (hm : Mat p hs.length n (hs.map fun h : Hd => h.2.2)) (hl : hs.length ≤ 1048576) (hn' : n ≤ 1048576) :
    Calls Tryd.prog 130 #[.int .i64 p, .int .i64 a, .int .i64 b, .slice A hs.length c] w fun e w' => ∃ v' fp, e = .returned v' ∧ OwSys w' v' (a, b, redM p n (hs.map fun h : Hd => h.2.2)) fp ∧ FreshL w.heap.size fp ∧ Below w.heap.size w w' := by
  obtain ⟨W, hW, hB0, k0⟩ := alloc_box w (.cells #[.int .i64 0, .int .i64 0, .slice none 0 0] tRel)
  have hC := reduced_any p n A c hs W (h.below hB0) hp hm hl hn'
  obtain ⟨R, hR⟩ : ∃ R, R = redM p n (hs.map fun h : Hd => h.2.2) := ⟨_, rfl⟩
  rw [← hR] at hC ⊢
  rw [← hn] at hC
  have hwr : IntKind.i64.wrap (a + b) = a + b := IntWalk.i64_in _ (by omega)
  clear h hm hp hn
  have hC_h := Lib.hid hC
  have hB0_h := Lib.hid hB0
  have k0_h := Lib.hid k0
  have hR_h := Lib.hid hR
  clear hC hB0 k0 hR
  go_enter Tryd.func130, Tryd.ntmps130
  go_upto_region 1 with (fail)
  rw [← hW]
  clear hW
  go_wp2_with (fail)
  refine (hC_h.out).mono ?_
  rintro e w1 hret
  obtain ⟨A1, c1, rfl, hO1⟩ := hret.om
  have k1 := box_below k0_h.out hO1.below_
  have hB1 := below_trans hB0_h.out hO1.below_ hB0_h.out.size
  obtain ⟨⟨d0, d1, d2⟩, g0, g1, g2⟩ := box3 k1
  obtain ⟨s1, s2⟩ := set3 (a := .int .i64 a) (b := .int .i64 b) (c := .slice A1 R.length c1) k1
  have hw0 := (Array.getElem?_eq_some_iff.1 k0_h.out).1
  have hB3 := below_keeps hB1 s2 hB1.size (fun k hk => by omega)
  have hBs := hB0_h.out.size
  clear hret k1 hB1
  have s1_h := Lib.hid s1
  have s2_h := Lib.hid s2
  have hO1_h := Lib.hid hO1
  have hB3_h := Lib.hid hB3
  clear s1 s2 hO1 hB3
  go_wp2_with (fail)
  refine bodyPost_ret (results_cell_row rfl _ _ w.heap.size _ _ (0, 0) _ rfl s1_h.out Tryd.underlying43 rfl (by kernel_rfl)) rfl ?_
  obtain ⟨fp, h1, h2⟩ := OwSys.of_ret (a := a) (b := b) hO1_h.out s2_h.out (fun k hk => by omega) rfl
  exact ⟨_, fp, rfl, h1, h2.mono hBs, hB3_h.out⟩
theorem OwMt.of_ret {w0 w : World} {L : List (List Int)} {A : Option Addr} {c : Nat} {a : Int} (h : OM w0 w A c L) {w' : World} {S : Nat → Prop} (hk : Keeps S w w') (hS : ∀ k, S k → k < w0.heap.size) {n : Nat} (hn : L.length = n) : ∃ fp, OwMt w' (.agg #[.int .i64 a, .slice A n c]) (a, L) fp ∧ FreshL w0.heap.size fp := by
  subst hn
  obtain ⟨fp, h1, h2⟩ := OwMt.of_om (a := a) h
  exact ⟨fp, h1.keeps hk fun k hk' hs => by have := h2 k hk'; have := hS k hs; omega, h2⟩
end Go.Proofs.YtahnhblodfdfhaaDoor
namespace Go.Proofs.YtahnhblodfdfhaaDoor
open Go.RowKit
theorem alloc2 (w : World) (o o' : Obj) : ∃ W, W = (w.alloc o).alloc o' ∧ Below w.heap.size w W ∧ W.heap[w.heap.size]? = some o ∧ W.heap[w.heap.size + 1]? = some o' := by
  refine ⟨_, rfl, ((Below.refl _ _).alloc (Nat.le_refl _) _).alloc (by simp) _, box_below (heap_alloc_new w _) (below_alloc _ _), ?_⟩
  have := heap_alloc_new (w.alloc o) o'
  rwa [World.size_alloc] at this
theorem RdO.nil (w W : World) (hb : Below w.heap.size w W) : RdO w W none 0 [] := ⟨Sl.nil _ _ _, fun x hx => (by cases hx), fun x hx => (by cases hx), fun b hb' => (by simp at hb'), hb⟩
def partV (f r : Nat) (u : List Int) : List Int := (u.drop f).take r
theorem part_first {p : Int} {s : Sys} (_h : RelOk p s) : s.2.2.map (partV 0 s.1.toNat) = firstM s := by
  unfold firstM partV; simp
theorem part_second {p : Int} {s : Sys} (h : RelOk p s) : s.2.2.map (partV s.1.toNat s.2.1.toNat) = secondM s := by
  unfold secondM
  refine List.map_congr_left fun v hv => ?_
  have := (h.row hv).1
  have h1 := h.lo
  have h2 := h.hi
  unfold partV
  rw [List.take_of_length_le (by rw [List.length_drop]; omega)]
theorem first_each {na n : Nat} {b : Int} {V : Value} (hV : V.oneCell' = true) {w : World} {x : Hd} (hx : IS w x.1 x.2.1 x.2.2) (hl : x.2.2.length = n) (hn : na ≤ n) : ∀ W', Below w.heap.size w W' → Calls Tryd.prog 126 (#[Value.agg #[.int .i64 na, .int .i64 b, V]].push (.slice x.1 x.2.2.length x.2.1) ++ #[]) W' fun e w'' => ∃ B c', e = .returned (.slice B (partV 0 na x.2.2).length c') ∧ IS w'' B c' (partV 0 na x.2.2) ∧ (∀ b, b ∈ fpA B → b ∈ fpA x.1 ∨ W'.heap.size ≤ b) ∧ Below W'.heap.size W' w'' := by
  intro W' hb
  have h0 : Sl W' 3 1 x.1 x.2.2.length x.2.1 (ints x.2.2) := hx.below hb
  have hp : partV 0 na x.2.2 = x.2.2.take na := by simp [partV]
  have hp2 : (x.2.2.take na).length = na := by rw [List.length_take]; omega
  have := first_any na b V hV x.1 x.2.1 x.2.2.length x.2.2 W' h0 (by omega)
  refine Calls.mono ?_ (fun e w'' h => h)
  simp only [List.push_toArray, List.cons_append, List.nil_append, Array.append_empty]
  refine this.mono ?_
  rintro e w2 ⟨B', rfl, hS, hf, hb2⟩
  exact ⟨B', x.2.1, by rw [hp, hp2], by unfold IS; rw [hp, hp2]; exact hS, fun b hb => .inl (hf b hb), hb2⟩
theorem second_each {na r n : Nat} {b : Int} {V : Value} (hV : V.oneCell' = true) {w : World} {x : Hd} (hx : IS w x.1 x.2.1 x.2.2) (hl : x.2.2.length = n) (hn : n = na + r) : ∀ W', Below w.heap.size w W' → Calls Tryd.prog 125 (#[Value.agg #[.int .i64 na, .int .i64 b, V]].push (.slice x.1 x.2.2.length x.2.1) ++ #[]) W' fun e w'' => ∃ B c', e = .returned (.slice B (partV na r x.2.2).length c') ∧ IS w'' B c' (partV na r x.2.2) ∧ (∀ b, b ∈ fpA B → b ∈ fpA x.1 ∨ W'.heap.size ≤ b) ∧ Below W'.heap.size W' w'' := by
  intro W' hb
  have h0 : Sl W' 3 1 x.1 x.2.2.length x.2.1 (ints x.2.2) := hx.below hb
  have hp : partV na r x.2.2 = x.2.2.drop na := by unfold partV; rw [List.take_of_length_le (by rw [List.length_drop]; omega)]
  have hp2 : (x.2.2.drop na).length = r := by rw [List.length_drop]; omega
  have := second_any na b V hV x.1 x.2.1 x.2.2.length r x.2.2 W' h0 (by omega)
  refine Calls.mono ?_ (fun e w'' h => h)
  simp only [List.push_toArray, List.cons_append, List.nil_append, Array.append_empty]
  refine this.mono ?_
  rintro e w2 ⟨B', c', rfl, hS, hf, hb2⟩
  exact ⟨B', c', by rw [hp, hp2], by unfold IS; rw [hp, hp2]; exact hS, fun b hb => .inl (hf b hb), hb2⟩
end Go.Proofs.YtahnhblodfdfhaaDoor
namespace Go.Proofs.YtahnhblodfdfhaaDoor
open Go.RowKit
end Go.Proofs.YtahnhblodfdfhaaDoor
namespace Go.Proofs.YtahnhblodfdfhaaDoor
open Go.RowKit
set_option maxRecDepth 8000 in
theorem eachFirst_any (p : Int) {v : Value} {s : Sys} {fp : List Nat} (w : World) (h : OwSys w v s fp) (hs : RelOk p s) :
    Calls Tryd.prog 124 #[v, .func (.func 126) #[v] #[]] w fun e w' => ∃ A' c' gs n, e = .returned (.slice A' n c') ∧ gs.length = n ∧ n ≤ 24 ∧ gs.map (fun h : Hd => h.2.2) = firstM s ∧ RdO w w' A' c' gs := by
  have hpf := part_first hs
  obtain ⟨A, c, gs, rfl, hL, hO, rfl⟩ := h
  obtain ⟨a, b, L⟩ := s
  have h0 : 0 ≤ a := hs.lo
  have h1 : 0 ≤ b := hs.hi
  have h2 : a + b ≤ 24 := hs.sum
  have hfld : fieldB p = true := hs.fld
  have hrow : ∀ u, u ∈ L → (u.length : Int) = a + b ∧ Res p u := fun u hu => hs.row hu
  have hlen : (L.length : Int) ≤ a + b := hs.len
  clear hs
  obtain ⟨na, rfl⟩ : ∃ na : Nat, a = (na : Int) := ⟨a.toNat, by omega⟩
  obtain ⟨nb, rfl⟩ : ∃ nb : Nat, b = (nb : Int) := ⟨b.toNat, by omega⟩
  have hL' : L = gs.map (fun h : Hd => h.2.2) := hL
  clear hL
  obtain ⟨m, hm⟩ : ∃ m, m = gs.length := ⟨_, rfl⟩
  have hLm : L.length = m := by rw [hL', List.length_map, hm]
  have hm24 : (m : Int) ≤ 24 := by have := hlen; rw [hLm] at this; omega
  have hgr : ∀ x, x ∈ gs → x.2.2.length = na + nb := fun x hx => by have := (hrow _ (by rw [hL']; exact List.mem_map_of_mem hx)).1; omega
  have hE := each_any 126 #[.agg #[.int .i64 (na : Int), .int .i64 (nb : Int), .slice A gs.length c]] #[] (partV 0 na) (na : Int) (nb : Int) A c gs w hO.rd hO.rows (by omega) (fun _ _ => rfl) (fun x hx => first_each rfl (hO.rows x hx) (hgr x hx) (by omega))
  refine hE.mono ?_
  rintro e w' ⟨A', c', g1, rfl, hg1, hO1⟩
  have hgl : g1.length = gs.length := by have := congrArg List.length hg1; rwa [List.length_map, List.length_map] at this
  refine ⟨A', c', g1, gs.length, rfl, hgl, by omega, ?_, hO1⟩
  rw [hg1, ← hpf]
  show _ = L.map _
  rw [hL', List.map_map]; rfl
set_option maxRecDepth 8000 in
theorem eachSecond_any (p : Int) {v : Value} {s : Sys} {fp : List Nat} (w : World) (h : OwSys w v s fp) (hs : RelOk p s) :
    Calls Tryd.prog 124 #[v, .func (.func 125) #[v] #[]] w fun e w' => ∃ A' c' gs n, e = .returned (.slice A' n c') ∧ gs.length = n ∧ n ≤ 24 ∧ gs.map (fun h : Hd => h.2.2) = secondM s ∧ RdO w w' A' c' gs := by
  have hpf := part_second hs
  obtain ⟨A, c, gs, rfl, hL, hO, rfl⟩ := h
  obtain ⟨a, b, L⟩ := s
  have h0 : 0 ≤ a := hs.lo
  have h1 : 0 ≤ b := hs.hi
  have h2 : a + b ≤ 24 := hs.sum
  have hfld : fieldB p = true := hs.fld
  have hrow : ∀ u, u ∈ L → (u.length : Int) = a + b ∧ Res p u := fun u hu => hs.row hu
  have hlen : (L.length : Int) ≤ a + b := hs.len
  clear hs
  obtain ⟨na, rfl⟩ : ∃ na : Nat, a = (na : Int) := ⟨a.toNat, by omega⟩
  obtain ⟨nb, rfl⟩ : ∃ nb : Nat, b = (nb : Int) := ⟨b.toNat, by omega⟩
  have hL' : L = gs.map (fun h : Hd => h.2.2) := hL
  clear hL
  obtain ⟨m, hm⟩ : ∃ m, m = gs.length := ⟨_, rfl⟩
  have hLm : L.length = m := by rw [hL', List.length_map, hm]
  have hm24 : (m : Int) ≤ 24 := by have := hlen; rw [hLm] at this; omega
  have hgr : ∀ x, x ∈ gs → x.2.2.length = na + nb := fun x hx => by have := (hrow _ (by rw [hL']; exact List.mem_map_of_mem hx)).1; omega
  have hE := each_any 125 #[.agg #[.int .i64 (na : Int), .int .i64 (nb : Int), .slice A gs.length c]] #[] (partV na nb) (na : Int) (nb : Int) A c gs w hO.rd hO.rows (by omega) (fun _ _ => rfl) (fun x hx => second_each rfl (hO.rows x hx) (hgr x hx) (by omega))
  refine hE.mono ?_
  rintro e w' ⟨A', c', g1, rfl, hg1, hO1⟩
  have hgl : g1.length = gs.length := by have := congrArg List.length hg1; rwa [List.length_map, List.length_map] at this
  refine ⟨A', c', g1, gs.length, rfl, hgl, by omega, ?_, hO1⟩
  rw [hg1, ← hpf]
  show _ = L.map _
  rw [hL', List.map_map]; rfl
end Go.Proofs.YtahnhblodfdfhaaDoor
namespace Go.Proofs.YtahnhblodfdfhaaDoor
open Go.RowKit
section
variable {P : Program} {w : World} {e : TypeId} {sz n cap : Nat} {A : Option Addr} {xs : List Value}
/-- A slice expression: what it yields in every world, and what its value reads as. -/
theorem Sl.sliced (hs : Sl w e sz A n cap xs) (t : TypeId) {z : Option Value} {bytes : Nat} (ht : P.underlying t = some (.slice e)) (hinfo : (P.info? e).map (fun i => (i.zero, i.size, i.bytes)) = some (z, sz, bytes))
    (lo hi mx : Option Value) (l hgh m : Nat) (hlo : OptIs lo l (l = 0)) (hhi : OptIs hi hgh (hgh = n ∧ mx = none)) (hmx : OptIs mx m (m = cap)) (h1 : l ≤ hgh) (h2 : hgh ≤ n) (h3 : hgh ≤ m) (h4 : m ≤ cap) :
    ∃ A', (∀ w', (Instr.sliceAt t (.slice A n cap) lo hi mx).run P w' = .ok (.slice A' (hgh - l) (m - l)) w') ∧ Sl w e sz A' (hgh - l) (m - l) ((xs.drop (l * sz)).take ((hgh - l) * sz)) ∧ (∀ b, b ∈ fpA A' → b ∈ fpA A) := by
  obtain ⟨hcut, hfp, hsub⟩ := hs.cut h1 h2 h3 h4
  refine ⟨_, fun w => ?_, hcut, hfp⟩
  unfold OptIs at hlo hhi hmx
  obtain ⟨i, hi', hzz⟩ := Option.map_eq_some_iff.1 hinfo
  simp only [Prod.mk.injEq] at hzz
  have hb : ∀ (k : IntKind) (i : Int) (j y : Nat) (code : BoundsCode), i = (j : Int) → j ≤ y → (Instr.sliceBound (.int k i) y code).run P w = .ok j w := by
    intro k i j y code e hj
    subst e
    rw [run_sliceBound w k _ y code (by omega) (by omega)]; simp
  have hsb : (Instr.sliceBounds true n cap lo hi mx).run P w = .ok (l, hgh, m) w := by
    unfold Instr.sliceBounds
    cases mx with
    | none =>
      subst hmx
      cases hi with
      | none =>
        obtain ⟨rfl, _⟩ := hhi
        cases lo with
        | none => subst hlo; simp
        | some v => obtain ⟨k, L, rfl, hL⟩ := hlo; simp [hb k L l _ _ hL h1]
      | some v =>
        obtain ⟨k, L, rfl, hL⟩ := hhi
        have hb1 := hb k L hgh m .sliceAcap hL h3
        cases lo with
        | none => subst hlo; simp [hb1]
        | some v => obtain ⟨k', L', rfl, hL'⟩ := hlo; simp [hb1, hb k' L' l _ _ hL' h1]
    | some vm =>
      obtain ⟨km, M, rfl, hM⟩ := hmx
      have hb0 := hb km M m cap .slice3Acap hM h4
      cases hi with
      | none => obtain ⟨_, h0⟩ := hhi; cases h0
      | some v =>
        obtain ⟨k, L, rfl, hL⟩ := hhi
        have hb1 := hb k L hgh m .slice3B hL h3
        cases lo with
        | none => subst hlo; simp [hb0, hb1]
        | some v => obtain ⟨k', L', rfl, hL'⟩ := hlo; simp [hb0, hb1, hb k' L' l _ _ hL' h1]
  have hrun : (Instr.slice t (.slice A n cap) lo hi mx).run P w = .ok (.slice (if m = l then A else A.map (·.add (l * sz))) (hgh - l) (m - l)) w := by
    simp only [Instr.slice, Sem.run_bind, run_underlying ht, Result.andThen_ok, hsb]
    simp [sizeOf, typeInfo, hi', hzz.2.1]
  simp [Instr.sliceAt, run_underlying ht, hrun]
theorem xop_sliceW {ρ : Operand → Value} {o : Oper} {w w' : World} {t : TypeId} {x : Operand} {lo hi mx : Option Operand} {v : Value} (ho : o.op = .slice t x lo hi mx) (hr : (Instr.sliceAt t (ρ x) (lo.map ρ) (hi.map ρ) (mx.map ρ)).run P w = .ok v w') : (execOp ρ o).run P w = .ok (.value v) w' := by
  simp [execOp, ho, hr, Result.andThen]
end
/-- Rows just laid. -/
theorem laid_rdr {w : World} (hs : List Hd) (h : ∀ x, x ∈ hs → RdI w x.1 x.2.2) (hl : hs.length ≤ maxLen) : RdR (w.alloc (.cells (hs.map Hd.val).toArray 33)) (some ⟨w.heap.size, 0, none⟩) hs := by
  have hs1 := Sl.laid w 33 1 hs.length (hs.map Hd.val).toArray hl (by simp)
  refine ⟨fun i x hx => ?_, fun x hx => (h x hx).below (below_alloc _ _)⟩
  obtain ⟨ad, hA, _, hc, _⟩ := hs1.cell (j := i) (u := x.val) (by simp [hx])
  exact ⟨ad, hA, hc⟩
end Go.Proofs.YtahnhblodfdfhaaDoor

namespace Go.Proofs.YtahnhblodfdfhaaDoor
open Go.RowKit
/-- A row whose elements from a to k are negated. -/
def negTo (p : Int) (a : Nat) (u : List Int) (k : Nat) : List Int := u.mapIdx fun j x => if a ≤ j ∧ j < k then -x % p else x
def negV (p : Int) (a : Nat) (u : List Int) : List Int := negTo p a u u.length
@[simp] theorem negTo_length (p : Int) (a : Nat) (u : List Int) (k : Nat) : (negTo p a u k).length = u.length := by simp [negTo]
@[simp] theorem negV_length (p : Int) (a : Nat) (u : List Int) : (negV p a u).length = u.length := negTo_length _ _ _ _
theorem alloc3 (w : World) (o o' o'' : Obj) : ∃ W, W = ((w.alloc o).alloc o').alloc o'' ∧ Below w.heap.size w W ∧ W.heap[w.heap.size]? = some o ∧ W.heap[w.heap.size + 1]? = some o' ∧ W.heap[w.heap.size + 1 + 1]? = some o'' := by
  obtain ⟨W, hW, b0, k0, k1⟩ := alloc2 w o o'
  refine ⟨_, rfl, ?_, ?_, ?_, ?_⟩
  · rw [← hW]; exact below_trans b0 (below_alloc _ _) b0.size
  · rw [← hW]; exact box_below k0 (below_alloc _ _)
  · rw [← hW]; exact box_below k1 (below_alloc _ _)
  · have := heap_alloc_new ((w.alloc o).alloc o') o''
    rwa [World.size_alloc, World.size_alloc] at this
end Go.Proofs.YtahnhblodfdfhaaDoor

namespace Go.Proofs.YtahnhblodfdfhaaDoor
open Go.RowKit
/-- The elements of v laid at places among n zeros. -/
def layTo (n : Nat) (f : Nat → Nat) (v : List Int) : Nat → List Int
  | 0 => List.replicate n 0
  | k + 1 => (layTo n f v k).set (f k) (v.getD k 0)
@[simp] theorem layTo_length (n : Nat) (f : Nat → Nat) (v : List Int) : ∀ k, (layTo n f v k).length = n
  | 0 => by simp [layTo]
  | k + 1 => by rw [layTo, List.length_set]; exact layTo_length n f v k
def tB (a1 a2 b1 j : Nat) : Nat := if j < b1 then a1 + j else a1 + a2 + j
end Go.Proofs.YtahnhblodfdfhaaDoor

namespace Go.Proofs.YtahnhblodfdfhaaDoor
/-- The linear combination of the first k rows. -/
def cmbTo (p : Int) (n : Nat) (x : List Int) (L : List (List Int)) : Nat → List Int
  | 0 => List.replicate n 0
  | k + 1 => addT p (cmbTo p n x L k) (x.getD k 0) (L.getD k [])
@[simp] theorem cmbTo_length (p : Int) (n : Nat) (x : List Int) (L : List (List Int)) : ∀ k, (cmbTo p n x L k).length = n
  | 0 => by simp [cmbTo]
  | k + 1 => by simp [cmbTo, cmbTo_length p n x L k]
theorem cmbTo_res {p : Int} (hp : 0 < p) (n : Nat) (x : List Int) (L : List (List Int)) : ∀ k, Res p (cmbTo p n x L k)
  | 0 => fun y hy => by
    obtain ⟨_, rfl⟩ := List.mem_replicate.1 hy
    omega
  | k + 1 => addT_bounds hp (cmbTo_res hp n x L k)
theorem extG {l m : List Int} (h : l.length = m.length) (hg : ∀ k, k < l.length → l.getD k 0 = m.getD k 0) : l = m := by
  refine List.ext_getElem h fun i h1 h2 => ?_
  have := hg i h1
  rwa [List.getD_eq_getElem?_getD, List.getD_eq_getElem?_getD, List.getElem?_eq_getElem h1, List.getElem?_eq_getElem h2] at this
theorem getD_takeG (l : List Int) {a k : Nat} (h : k < a) : (l.take a).getD k 0 = l.getD k 0 := by
  rw [List.getD_eq_getElem?_getD, List.getD_eq_getElem?_getD, List.getElem?_take, if_pos h]
theorem getD_dropG (l : List Int) (a k : Nat) : (l.drop a).getD k 0 = l.getD (a + k) 0 := by
  rw [List.getD_eq_getElem?_getD, List.getD_eq_getElem?_getD, List.getElem?_drop]
theorem addT_take {p c : Int} {v w : List Int} {a : Nat} (h : v.length = w.length) (ha : a ≤ v.length) : (addT p v c w).take a = addT p (v.take a) c (w.take a) := by
  refine extG (by simp) fun k hk => ?_
  have hk' : k < a := by rw [List.length_take] at hk; omega
  rw [getD_takeG _ hk', addT_getD, addT_getD, getD_takeG _ hk', getD_takeG _ hk', List.length_take, List.length_take, if_pos (by omega), if_pos (by omega), if_pos (by omega), if_pos (by omega)]
theorem addT_drop' {p c : Int} {v w : List Int} {a : Nat} (h : v.length = w.length) : (addT p v c w).drop a = addT p (v.drop a) c (w.drop a) := by
  refine extG (by simp) fun k hk => ?_
  have hk' : a + k < v.length := by rw [List.length_drop, addT_length] at hk; omega
  rw [getD_dropG, addT_getD, addT_getD, getD_dropG, getD_dropG, List.length_drop, List.length_drop, if_pos hk', if_pos (by omega), if_pos (by omega), if_pos (by omega)]
theorem cmbTo_take {p : Int} {m a : Nat} {x : List Int} {L : List (List Int)} (hm : ∀ v, v ∈ L → v.length = m) (ha : a ≤ m) : ∀ k, k ≤ L.length → (cmbTo p m x L k).take a = cmbTo p a x (L.map fun v => v.take a) k
  | 0, _ => by simp only [cmbTo, List.take_replicate]; congr 1; omega
  | k + 1, hk => by
    have hl : (L.getD k []).length = m := by
      rw [List.getD_eq_getElem?_getD, List.getElem?_eq_getElem (by omega)]
      exact hm _ (List.getElem_mem (by omega))
    rw [cmbTo, cmbTo, addT_take (by rw [cmbTo_length, hl]) (by rw [cmbTo_length]; exact ha), cmbTo_take hm ha k (by omega)]
    congr 1
    rw [List.getD_eq_getElem?_getD, List.getD_eq_getElem?_getD, List.getElem?_map, List.getElem?_eq_getElem (by omega)]
    rfl
theorem cmbTo_drop {p : Int} {m a : Nat} {x : List Int} {L : List (List Int)} (hm : ∀ v, v ∈ L → v.length = m) : ∀ k, k ≤ L.length → (cmbTo p m x L k).drop a = cmbTo p (m - a) x (L.map fun v => v.drop a) k
  | 0, _ => by simp only [cmbTo, List.drop_replicate]
  | k + 1, hk => by
    have hl : (L.getD k []).length = m := by
      rw [List.getD_eq_getElem?_getD, List.getElem?_eq_getElem (by omega)]
      exact hm _ (List.getElem_mem (by omega))
    rw [cmbTo, cmbTo, addT_drop' (by rw [cmbTo_length, hl]), cmbTo_drop hm k (by omega)]
    congr 1
    rw [List.getD_eq_getElem?_getD, List.getD_eq_getElem?_getD, List.getElem?_map, List.getElem?_eq_getElem (by omega)]
    rfl
/-- The negative of a row. -/
def ngV (p : Int) (v : List Int) : List Int := v.map fun a => (-a) % p
@[simp] theorem ngV_length (p : Int) (v : List Int) : (ngV p v).length = v.length := by simp [ngV]
theorem ngV_res {p : Int} (hp : 0 < p) (v : List Int) : Res p (ngV p v) := fun x hx => by
  obtain ⟨a, _, rfl⟩ := List.mem_map.1 hx
  exact ⟨Int.emod_nonneg _ (by omega), Int.emod_lt_of_pos _ hp⟩
theorem ngV_add {p : Int} (y : List Int) : addT p (List.replicate y.length 0) (-1) y = ngV p y := by
  refine extG (by simp) fun k hk => ?_
  rw [addT_length, List.length_replicate] at hk
  rw [addT_getD, List.length_replicate, if_pos hk, if_pos hk]
  have e1 : (List.replicate y.length (0 : Int)).getD k 0 = 0 := by rw [List.getD_eq_getElem?_getD, List.getElem?_replicate, if_pos hk]; rfl
  have e2 : (ngV p y).getD k 0 = (-(y.getD k 0)) % p := by
    unfold ngV
    rw [List.getD_eq_getElem?_getD, List.getElem?_map, List.getD_eq_getElem?_getD, List.getElem?_eq_getElem hk]; rfl
  rw [e1, e2, Int.zero_add, Int.neg_one_mul]
theorem ngV_getD {p : Int} {y : List Int} {k : Nat} (hk : k < y.length) : (ngV p y).getD k 0 = (-(y.getD k 0)) % p := by
  unfold ngV
  rw [List.getD_eq_getElem?_getD, List.getElem?_map, List.getD_eq_getElem?_getD, List.getElem?_eq_getElem hk]; rfl
/-- What has to be zero in the middle. -/
def midR (p : Int) (s t : Sys) : List (List Int) := secondM s ++ (firstM t).map (ngV p)
/-- A pair of the composition. -/
def pairV (p : Int) (s t : Sys) (k : List Int) : List Int := cmbTo p s.1.toNat (k.take s.2.2.length) (firstM s) s.2.2.length ++ cmbTo p t.2.1.toNat (k.drop s.2.2.length) (secondM t) t.2.2.length
def pairsM (p : Int) (s t : Sys) : List (List Int) := (kerM p s.2.1.toNat (midR p s t)).map (pairV p s t)
/-- The composition. -/
def cmpV (p : Int) (s t : Sys) : Sys := (s.1, t.2.1, redM p (s.1 + t.2.1).toNat (pairsM p s t))
/-- The composition, or none. -/
def cmpM (p : Int) (s t : Sys) : Sys × Bool := if relB p s && (relB p t && (decide (s.2.1 = t.1) && decide (s.1 + t.2.1 ≤ 24))) then (cmpV p s t, true) else ((0, 0, []), false)
section
variable {p : Int} {s t : Sys}
theorem pairV_length (k : List Int) : (pairV p s t k).length = s.1.toNat + t.2.1.toNat := by simp [pairV]
theorem pairV_res (hp : 0 < p) (k : List Int) : Res p (pairV p s t k) := fun x hx => by
  rcases List.mem_append.1 hx with h | h
  · exact cmbTo_res hp _ _ _ _ x h
  · exact cmbTo_res hp _ _ _ _ x h
theorem pairs_mat (hs : RelOk p s) (ht : RelOk p t) : Mat p (pairsM p s t).length (s.1 + t.2.1).toNat (pairsM p s t) := by
  have hp := (fieldB_bounds hs.fld).1
  have h1 := hs.lo
  have h2 := ht.hi
  refine ⟨rfl, fun v hv => ?_⟩
  obtain ⟨k, _, rfl⟩ := List.mem_map.1 hv
  exact ⟨by rw [pairV_length]; omega, pairV_res (by omega) k⟩
theorem mid_mat (hs : RelOk p s) (ht : RelOk p t) (hm : s.2.1 = t.1) : Mat p (s.2.2.length + t.2.2.length) s.2.1.toNat (midR p s t) := by
  have hp := (fieldB_bounds hs.fld).1
  have h1 := secondM_mat hs
  have h2 := firstM_mat ht
  refine ⟨by unfold midR; rw [List.length_append, List.length_map, h1.len, h2.len], fun v hv => ?_⟩
  rcases List.mem_append.1 hv with h | h
  · exact h1.row v h
  · obtain ⟨y, hy, rfl⟩ := List.mem_map.1 h
    have := h2.row y hy
    exact ⟨by rw [ngV_length, this.1, hm], ngV_res (by omega) y⟩
theorem transM_transM {m n : Nat} {L : List (List Int)} (h : Mat p m n L) : transM (transM L n) m = L := by
  refine List.ext_getElem (by simp [transM, h.len]) fun i h1 h2 => ?_
  have hi : i < m := by rw [← h.len]; exact h2
  have hl := (h.row _ (List.getElem_mem h2)).1
  simp only [transM, List.getElem_map, List.getElem_range]
  refine extG (by simp [hl]) fun k hk => ?_
  have hk' : k < n := by simpa using hk
  rw [List.getD_eq_getElem?_getD, List.getElem?_map, List.getElem?_map, List.getElem?_range hk']
  simp only [Option.map_some, Option.getD_some]
  rw [List.getD_eq_getElem?_getD, List.getElem?_map, List.getElem?_eq_getElem h2]
  rfl
/-- the kernel as the reference finds it -/
theorem mid_null (hs : RelOk p s) (ht : RelOk p t) (hm : s.2.1 = t.1) : nullM p (s.2.2.length + t.2.2.length) (transM (midR p s t) s.2.1.toNat) = kerM p s.2.1.toNat (midR p s t) := by
  have hp := (fieldB_bounds hs.fld).1
  have hM := mid_mat hs ht hm
  have hT := transM_mat (by omega) hM
  have hl : (transM (midR p s t) s.2.1.toNat).length = s.2.1.toNat := hT.len
  rw [null_eq_perp hs.fld (by rw [hl]; exact hT)]
  unfold perpM
  rw [transM_transM hM, hl]
/-- a row as the reference lays it -/
def midC (p : Int) (s t : Sys) (j : Nat) : List Int := s.2.2.map (fun r => r.getD (s.1.toNat + j) 0) ++ t.2.2.map fun r => (-(r.getD j 0)) % p
theorem mid_trans (ht : RelOk p t) (hm : s.2.1 = t.1) : transM (midR p s t) s.2.1.toNat = (List.range s.2.1.toNat).map (midC p s t) := by
  unfold transM
  refine List.map_congr_left fun j hj => ?_
  have hj' := List.mem_range.1 hj
  unfold midR midC secondM firstM
  rw [List.map_append, List.map_map, List.map_map, List.map_map]
  congr 1
  · refine List.map_congr_left fun r _ => ?_
    exact getD_dropG r _ _
  · refine List.map_congr_left fun r hr => ?_
    have h1 := (ht.row hr).1
    have h2 := ht.hi
    have h3 := ht.lo
    show (ngV p (r.take t.1.toNat)).getD j 0 = _
    rw [ngV_getD (by rw [List.length_take]; omega), getD_takeG _ (by omega)]
/-- a pair as the reference makes it -/
theorem pair_ref (hs : RelOk p s) (ht : RelOk p t) (hm : s.2.1 = t.1) (k : List Int) :
    (cmbTo p (s.1.toNat + s.2.1.toNat) (k.take s.2.2.length) s.2.2 s.2.2.length).take s.1.toNat ++ (cmbTo p (s.2.1.toNat + t.2.1.toNat) (k.drop s.2.2.length) t.2.2 t.2.2.length).drop s.2.1.toNat = pairV p s t k := by
  have h1 := hs.lo
  have h2 := hs.hi
  have h3 := ht.lo
  have h4 := ht.hi
  unfold pairV firstM secondM
  rw [cmbTo_take (fun v hv => by have := (hs.row hv).1; omega) (by omega) _ (Nat.le_refl _), cmbTo_drop (fun v hv => by have := (ht.row hv).1; omega) _ (Nat.le_refl _)]
  rw [show s.2.1.toNat + t.2.1.toNat - s.2.1.toNat = t.2.1.toNat by omega, show s.2.1.toNat = t.1.toNat by rw [hm]]
theorem kerM_len {n : Nat} {L : List (List Int)} (hp : fieldB p = true) (hm : Mat p L.length n L) : (kerM p n L).length ≤ L.length ∧ Mat p (kerM p n L).length L.length (kerM p n L) := by
  have hpb := fieldB_bounds hp
  have h3 := (redTo_mat3 hp hm (idM_mat (by omega) L.length) n (Nat.le_refl _)).drop (r := (redTo p L (idM L.length) n).1)
  have h4 := redM_spec hp (n := L.length) (L := (redTo p L (idM L.length) n).2.2.drop (redTo p L (idM L.length) n).1) (by rw [h3.len]; exact h3)
  have h5 := h3.len
  have h6 := h4.2.2
  exact ⟨by unfold kerM; omega, h4.1.1⟩
theorem cmpM_ok : OkR (cmpM p s t).1.2.2 := by
  unfold cmpM
  split
  · rename_i h
    simp only [Bool.and_eq_true, decide_eq_true_eq] at h
    have hs := RelOk.of h.1
    have ht := RelOk.of h.2.1
    have hr := redM_spec hs.fld (pairs_mat hs ht)
    have hM := mid_mat hs ht h.2.2.1
    have hk := (kerM_len (L := midR p s t) (n := s.2.1.toNat) hs.fld (by rw [hM.len]; exact hM)).1
    have hl : (pairsM p s t).length = (kerM p s.2.1.toNat (midR p s t)).length := by unfold pairsM; rw [List.length_map]
    rw [hM.len] at hk
    have := hs.lo; have := ht.hi; have h4 := h.2.2.2; have := hs.len; have := ht.len; have := hs.sum; have := ht.sum
    exact okR_mat hr.1.1 (by have := hr.2.2; omega) (by omega)
  · exact okR_nil
end
end Go.Proofs.YtahnhblodfdfhaaDoor

namespace Go.Proofs.YtahnhblodfdfhaaDoor
open Go.RowKit
theorem RdI.lt0 {w : World} {A : Option Addr} {l : List Int} (h : RdI w A l) (h0 : 0 < l.length) : ∀ b, b ∈ fpA A → b < w.heap.size := by
  obtain ⟨ad, x, rfl, _, hc⟩ := h.at_ h0
  intro b hb
  have h2 := World.block_lt_of_cell? w _ hc
  rw [block_of_add] at h2
  obtain rfl : b = ad.block := by simpa using hb
  exact h2
set_option maxRecDepth 100000 in
set_option maxHeartbeats 2000000 in
theorem combine_any (p : Int) (n m : Nat) (A B : Option Addr) (c cb : Nat) (hs : List Hd) (x : List Int) (L : List (List Int)) (w : World) (h : RdR w A hs) (hL : hs.map (fun h : Hd => h.2.2) = L) (hLm : L.length = m) (hx : RdI w B x) (hxl : x.length = m) (hxr : Res p x) (hmat : Mat p L.length n L) (h0 : 0 < p) (h97 : p ≤ 97) (hml : m ≤ 1048576) (hn : n ≤ 1048576) :
    Calls Tryd.prog 128 #[.int .i64 p, .slice B m cb, .slice A m c, .int .i64 n] w (RetI w (cmbTo p n x L m)) := by
  have hZ := zeros_any n w (by omega)
  have hcl := cmbTo_length p n x L
  have hcr := cmbTo_res h0 n x L
  have hhl : hs.length = m := by rw [← hLm, ← hL, List.length_map]
  have h_h := Lib.hid h
  have hL_h := Lib.hid hL
  have hLm_h := Lib.hid hLm
  have hx_h := Lib.hid hx
  have hxl_h := Lib.hid hxl
  have hxr_h := Lib.hid hxr
  have hmat_h := Lib.hid hmat
  have hcl_h := Lib.hid hcl
  have hcr_h := Lib.hid hcr
  have hhl_h := Lib.hid hhl
  clear h hL hLm hx hxl hxr hmat hcl hcr hhl
  go_enter Tryd.func128, Tryd.ntmps128
  go_wp2_with (fail)
  refine (hZ).mono ?_
  rintro e w1 ⟨Z, cz, rfl, hi1, hf1, hb1⟩
  rw [List.length_replicate]
  have hst : IS w1 Z cz (cmbTo p n x L 0) := hi1
  have hi1_h := Lib.hid hi1
  have hst_h := Lib.hid hst
  have hf1_h := Lib.hid hf1
  have hb1_h := Lib.hid hb1
  clear hi1 hst hf1 hb1
  go_wp2_with (fail)
  go_loopw [16] (fun i wr => ∃ k : Nat, k ≤ m ∧ i = .int .i64 k ∧ IS wr Z cz (cmbTo p n x L k) ∧ Below w.heap.size w wr) (fun i _ => m - (intOf i).toNat)
  case atStart => exact ⟨0, Nat.zero_le _, rfl, hst_h.out, hb1_h.out⟩
  case round =>
    clear hst_h hi1_h hb1_h
    obtain ⟨k, hk, rfl, his, hbr⟩ := hrel
    by_cases hlt : k < m
    · obtain ⟨ad, C, d, u, rfl, hu, hcu, hrd⟩ := (h_h.out.below hbr).at_ (k := k) (by rw [hhl_h.out]; exact hlt)
      have hLu : L[k]? = some u := by rw [← hL_h.out, List.getElem?_map, hu]; rfl
      have hgu : L.getD k [] = u := by rw [List.getD_eq_getElem?_getD, hLu]; rfl
      have hur := hmat_h.out.row u (List.mem_of_getElem? hLu)
      obtain ⟨bd, y, rfl, hy, hcy⟩ := (hx_h.out.below hbr).at_ (j := k) (by rw [hxl_h.out]; exact hlt)
      have hgy : x.getD k 0 = y := by rw [List.getD_eq_getElem?_getD, hy]; rfl
      have hyb := hxr_h.out y (List.mem_of_getElem? hy)
      have hAT := addTimes_any p y Z C cz d (cmbTo p n x L k) u wr his hrd (fun hu0 b hb hb' => by
        have h1 := hf1_h.out b hb'
        have h2 := (h_h.out.2 _ (List.mem_of_getElem? hu)).lt0 hu0 b hb
        omega) (by rw [hcl_h.out, hur.1]; exact Nat.le_refl _) (by rw [hcl_h.out]; omega) h0 h97 (hcr_h.out k) hur.2 (by omega) (by omega)
      have hstep : addT p (cmbTo p n x L k) y u = cmbTo p n x L (k + 1) := by rw [cmbTo, hgy, hgu]
      rw [hstep, hcl_h.out, hur.1] at hAT
      rw [hur.1] at hcu
      have hnext : ∀ w', Wr wr w' Z (ints (cmbTo p n x L (k + 1))) → IS w' Z cz (cmbTo p n x L (k + 1)) ∧ Below w.heap.size w w' := fun w' hw => by
        refine ⟨?_, below_keeps hbr hw.1 hbr.size fun b hb => hf1_h.out b hb⟩
        have := hw.sl his (by rw [ints_length, hcl_h.out, hcl_h.out, Nat.mul_one])
        unfold IS
        rw [hcl_h.out]
        rwa [hcl_h.out] at this
      have hkI : (k : Int) < (m : Int) := by omega
      have hAT_h := Lib.hid hAT
      have hnext_h := Lib.hid hnext
      have hyb_h := Lib.hid hyb
      clear hAT hnext hyb
      clear his hbr hu hrd hLu hgu hur hy hgy hstep
      go_wp2_with (fail)
      refine (hAT_h.out).mono ?_
      rintro e w2 ⟨rfl, hw2⟩
      have hN := hnext_h.out w2 hw2
      have hN_h := Lib.hid hN
      clear hN
      clear hw2 hcu hcy
      go_wp2_with (fail)
      go_roundw
      case rel => exact ⟨k + 1, by omega, by go_num, hN_h.out⟩
      case measure => simp [intOf]; omega
    · obtain rfl : m = k := by omega
      have his_h := Lib.hid his
      have hbr_h := Lib.hid hbr
      clear his hbr
      go_wp2_with (fail)
      go_ret
      exact ⟨Z, cz, by rw [hcl_h.out]; rfl, his_h.out, hf1_h.out, hbr_h.out⟩
set_option maxRecDepth 100000 in
set_option maxHeartbeats 2000000 in
theorem spSum_any (p : Int) (n m : Nat) (A B : Option Addr) (c cb : Nat) (hs : List Hd) (x : List Int) (L : List (List Int)) (w : World) (h : RdR w A hs) (hL : hs.map (fun h : Hd => h.2.2) = L) (hLm : L.length = m) (hx : RdI w B x) (hxl : x.length = m) (hxr : Res p x) (hmat : Mat p L.length n L) (h0 : 0 < p) (h97 : p ≤ 97) (hml : m ≤ 1048576) (hn : n ≤ 1048576) :
    Calls Tryd.prog 121 #[.int .i64 p, .int .i64 n, .slice A m c, .slice B m cb] w (RetI w (cmbTo p n x L m)) := by
  have hcl := cmbTo_length p n x L
  have hcr := cmbTo_res h0 n x L
  have hhl : hs.length = m := by rw [← hLm, ← hL, List.length_map]
  have h_h := Lib.hid h
  have hL_h := Lib.hid hL
  have hLm_h := Lib.hid hLm
  have hx_h := Lib.hid hx
  have hxl_h := Lib.hid hxl
  have hxr_h := Lib.hid hxr
  have hmat_h := Lib.hid hmat
  have hcl_h := Lib.hid hcl
  have hcr_h := Lib.hid hcr
  have hhl_h := Lib.hid hhl
  clear h hL hLm hx hxl hxr hmat hcl hcr hhl
  go_enter Tryd.func121, Tryd.ntmps121
  go_wp2_with (at_make; refine wpList_make_Sl _ rfl _ _ _ rfl 3 Tryd.underlying33 info_int n n rfl rfl rfl rfl (Nat.le_refl _) (by omega) (by unfold maxLen; omega) ?_; intro G w1 hs1 hG hb1)
  have hst : IS w1 (some G) n (cmbTo p n x L 0) := by unfold IS; rw [hcl_h.out]; show Sl _ _ _ _ _ _ (ints (List.replicate n 0)); rw [← madeZeros]; simpa using hs1
  clear hs1
  have hfG : Fresh w.heap.size (some G) := fun b hb => by
    obtain rfl : b = G.block := by simpa using hb
    exact hG
  have hst_h := Lib.hid hst
  have hG_h := Lib.hid hG
  have hb1_h := Lib.hid hb1
  have hfG_h := Lib.hid hfG
  clear hst hG hb1 hfG
  go_loopw [18] (fun i wr => ∃ k : Nat, k ≤ m ∧ i = .int .i64 k ∧ IS wr (some G) n (cmbTo p n x L k) ∧ Below w.heap.size w wr) (fun i _ => m - (intOf i).toNat)
  case atStart => exact ⟨0, Nat.zero_le _, rfl, hst_h.out, hb1_h.out⟩
  case round =>
    clear hst_h hb1_h
    obtain ⟨k, hk, rfl, his, hbr⟩ := hrel
    by_cases hlt : k < m
    · obtain ⟨ad, C, d, u, rfl, hu, hcu, hrd⟩ := (h_h.out.below hbr).at_ (k := k) (by rw [hhl_h.out]; exact hlt)
      have hLu : L[k]? = some u := by rw [← hL_h.out, List.getElem?_map, hu]; rfl
      have hgu : L.getD k [] = u := by rw [List.getD_eq_getElem?_getD, hLu]; rfl
      have hur := hmat_h.out.row u (List.mem_of_getElem? hLu)
      have hrd0 := h_h.out.2 _ (List.mem_of_getElem? hu)
      have hrd0 : RdI w C u := hrd0
      have hgy : x[k]? = some (x.getD k 0) := by rw [List.getD_eq_getElem?_getD, List.getElem?_eq_getElem (by rw [hxl_h.out]; exact hlt)]; rfl
      obtain ⟨y, hy⟩ : ∃ y, y = x.getD k 0 := ⟨_, rfl⟩
      rw [← hy] at hgy
      have hyb := hxr_h.out y (List.mem_of_getElem? hgy)
      have hstep : addT p (cmbTo p n x L k) y u = cmbTo p n x L (k + 1) := by rw [cmbTo, hy, hgu]
      have hul := hur.1
      have hur := hur.2
      rw [hul] at hcu
      have hkI : (k : Int) < (m : Int) := by omega
      obtain ⟨V, hV⟩ : ∃ V, V = cmbTo p n x L k := ⟨_, rfl⟩
      have hVl : V.length = n := by rw [hV]; exact hcl_h.out k
      have hVr : Res p V := by rw [hV]; exact hcr_h.out k
      rw [← hV] at his hstep
      obtain ⟨wo, rfl⟩ : ∃ z, z = wr := ⟨_, rfl⟩
      have hst2 : IS wo (some G) n ((addT p V y u).take 0 ++ V.drop 0) := by simpa using his
      have hal : (addT p V y u).length = n := by rw [addT_length, hVl]
      have hyb_h := Lib.hid hyb
      have hur_h := Lib.hid hur
      have hul_h := Lib.hid hul
      have hrd0_h := Lib.hid hrd0
      have hstep_h := Lib.hid hstep
      have hV_h := Lib.hid hV
      have hVl_h := Lib.hid hVl
      have hVr_h := Lib.hid hVr
      have hst2_h := Lib.hid hst2
      have hbr_h := Lib.hid hbr
      have hal_h := Lib.hid hal
      have hgy_h := Lib.hid hgy
      have hgu_h := Lib.hid hgu
      have hLu_h := Lib.hid hLu
      have hu_h := Lib.hid hu
      clear hyb hur hul hrd0 hstep hV hVl hVr hst2 hbr hal hgy hgu hLu hu
      clear his hrd hy
      go_wp2_with (fail)
      go_loopw [25] (fun i wr => ∃ j : Nat, j ≤ n ∧ i = .int .i64 j ∧ IS wr (some G) n ((addT p V y u).take j ++ V.drop j) ∧ Below w.heap.size w wr) (fun i _ => n - (intOf i).toNat)
      case atStart => exact ⟨0, Nat.zero_le _, rfl, hst2_h.out, hbr_h.out⟩
      case round =>
        clear hst2_h hbr_h
        obtain ⟨j, hj, rfl, his, hbr⟩ := hrel
        have hll : ((addT p V y u).take j ++ V.drop j).length = n := by rw [List.length_append, List.length_take, List.length_drop, hal_h.out, hVl_h.out]; omega
        by_cases hlt2 : j < n
        · obtain ⟨cd, z, rfl, hz, hcz⟩ := (hrd0_h.out.below hbr).at_ (j := j) (by rw [hul_h.out]; exact hlt2)
          obtain ⟨gd, v, hA, hv, hblt, hcv, hf⟩ := his.at_ (j := j) (by rw [hll]; exact hlt2)
          obtain rfl := Option.some.inj hA
          rw [get_take_drop (by simp) (by rw [hVl_h.out]; omega)] at hv
          obtain ⟨bd, y', rfl, hy', hcy⟩ := (hx_h.out.below hbr).at_ (j := k) (by rw [hxl_h.out]; exact hlt)
          obtain rfl : y' = y := by have := hgy_h.out; rw [hy'] at this; exact Option.some.inj this
          have hfz := hf j
          have hvb := hVr_h.out v (List.mem_of_getElem? hv)
          have hzb := hur_h.out z (List.mem_of_getElem? hz)
          have hyb := hyb_h.out
          have hbd := below_trans hbr (below_drewN (Below.refl wr.heap.size wr) 1) hbr.size
          have hset := (his.below (below_drewN (Below.refl wr.heap.size wr) 1)).set rfl ((v + y' * z) % p) (j := j) (by rw [hll]; exact hlt2)
          rw [take_append_step (by simp) (addT_get hv hz)] at hset
          have hset : IS (wr.drew.setCell (G.add j) (.int .i64 ((v + y' * z) % p))) (some G) n ((addT p V y' u).take (j + 1) ++ V.drop (j + 1)) := hset
          have hbs : Below w.heap.size w (wr.drew.setCell (G.add j) (.int .i64 ((v + y' * z) % p))) := hbd.setCell (p := G.add j) (by rw [block_of_add]; exact hG_h.out) (.int .i64 ((v + y' * z) % p))
          have d1 : wr.drew.cell? (cd.add j) = some (.int .i64 z) := hcz
          have d2 : wr.drew.cell? (G.add j) = some (.int .i64 v) := hcv
          have d3 : wr.drew.cell? (bd.add k) = some (.int .i64 y') := hcy
          have d4 : wr.drew.frozen? (G.add j) = false := hf j
          have hjI : (j : Int) < (n : Int) := by omega
          have hzy := Int.mul_le_mul (show y' ≤ 96 by omega) (show z ≤ 96 by omega) (by omega) (by omega)
          have hzy0 := Int.mul_nonneg hyb.1 hzb.1
          have e1 : IntKind.i64.wrap (y' * z) = y' * z := IntWalk.i64_in _ (by omega)
          have e2 : IntKind.i64.wrap (v + y' * z) = v + y' * z := IntWalk.i64_in _ (by omega)
          have e3 : (p == 0) = false := by rw [beq_eq_false_iff_ne]; omega
          have e4 : 0 ≤ v + y' * z := by omega
          have e5 : (v + y' * z).tmod p = (v + y' * z) % p := Int.tmod_eq_emod_of_nonneg e4
          have e6 : ¬ p = 0 := by omega
          have hset_h := Lib.hid hset
          have hbs_h := Lib.hid hbs
          clear hset hbs
          clear his hv hf hz hy' hbr hll hzy hzy0 hyb hblt hbd
          go_wp2_with (fail)
          refine wp_region_still_tail 16 (by kernel_rfl) (by kernel_rfl) ?_
          simp only [List.take_succ_cons, List.take_zero, List.drop_succ_cons, List.drop_zero]
          change wpStill _ _ wr.drew (fun a' => wpList _ _ _ _ a' wr.drew) _ _
          clear hcz hcv hcy hfz
          repeat still_step
          refine wpStill_nil ?_
          go_wp2_with (fail)
          go_roundw
          case rel => exact ⟨j + 1, by omega, by go_num, hset_h.out, hbs_h.out⟩
          case measure => simp [intOf]; omega
        · obtain rfl : n = j := by omega
          have hfin : IS wr (some G) n (cmbTo p n x L (k + 1)) := by
            rw [← hstep_h.out]
            have := his
            rwa [List.take_of_length_le (by rw [hal_h.out]; exact Nat.le_refl _), List.drop_of_length_le (by rw [hVl_h.out]; exact Nat.le_refl _), List.append_nil] at this
          have hfin_h := Lib.hid hfin
          have hbr_h := Lib.hid hbr
          clear hfin hbr
          clear his hll
          go_wp2_with (fail)
          go_roundw
          case rel => exact ⟨k + 1, by omega, by go_num, hfin_h.out, hbr_h.out⟩
          case measure => simp [intOf]; omega
    · obtain rfl : m = k := by omega
      have his_h := Lib.hid his
      have hbr_h := Lib.hid hbr
      clear his hbr
      go_wp2_with (fail)
      go_ret
      exact ⟨some G, n, by rw [hcl_h.out]; rfl, his_h.out, hfG_h.out, hbr_h.out⟩
end Go.Proofs.YtahnhblodfdfhaaDoor
