/-
  What the texts above it need, part 2.
-/
import Derived.Test.YtahnhblodfdfhaaGreatDoorKMatrixOfTerm1
import Derived.StillTail
import Derived.KernelRfl
import Derived.OrdersHeld
import Derived.StillTailTactics
import Derived.Deep.DeepCutAuto
import Derived.BigQuiet
import Derived.Deep.WholeRow
import Derived.Deep.RegionHeld
import Derived.IntWalk
namespace Go.Proofs.YtahnhblodfdfhaaGreatDoor
open Go.RowKit
def OkR (L : List (List Int)) : Prop := L.length ≤ 1048576 ∧ (∀ x, x ∈ L → x.length ≤ 1048576) ∧ cntR L ≤ 1048576
abbrev Sys := Int × Int × List (List Int)
def RdSysV (w : World) (v : Value) (s : Sys) : Prop := ∃ A c hs, v = .agg #[.int .i64 s.1, .int .i64 s.2.1, .slice A hs.length c] ∧ s.2.2 = hs.map (fun h : Hd => h.2.2) ∧ RdR w A hs
def OwSys (w : World) (v : Value) (s : Sys) (fp : List Nat) : Prop := ∃ A c hs, v = .agg #[.int .i64 s.1, .int .i64 s.2.1, .slice A hs.length c] ∧ s.2.2 = hs.map (fun h : Hd => h.2.2) ∧ OwR w A c hs ∧ fp = fpA A ++ fpR hs
def HeSys (w : World) (v : Value) (s : Sys) (k : Nat) (fp : List Nat) : Prop := ∃ A c hs, v = .agg #[.int .i64 s.1, .int .i64 s.2.1, .slice A hs.length c] ∧ hs.map (fun h : Hd => h.2.2) = marksR k (s.2.2.map List.length) ∧ OwR w A c hs ∧ (∀ b, b ∈ fpA A ++ fpR hs → b ∈ fp)
theorem box3 {w : World} {B : Nat} {x y z : Value} {t : TypeId} (h : w.heap[B]? = some (.cells #[x, y, z] t)) :
  (w.cell? ⟨B, 0, none⟩ = some x ∧ w.cell? ⟨B, 1, none⟩ = some y ∧ w.cell? ⟨B, 2, none⟩ = some z) ∧ (w.frozen? ⟨B, 0, none⟩ = false ∧ w.frozen? ⟨B, 1, none⟩ = false ∧ w.frozen? ⟨B, 2, none⟩ = false) := by
 refine ⟨⟨?_, ?_, ?_⟩, ?_, ?_, ?_⟩ <;> simp [World.cell?, World.frozen?, h]
theorem box2 {w : World} {B : Nat} {x y : Value} {t : TypeId} (h : w.heap[B]? = some (.cells #[x, y] t)) :
  (w.cell? ⟨B, 0, none⟩ = some x ∧ w.cell? ⟨B, 1, none⟩ = some y) ∧ (w.frozen? ⟨B, 0, none⟩ = false ∧ w.frozen? ⟨B, 1, none⟩ = false) := by
 refine ⟨⟨?_, ?_⟩, ?_, ?_⟩ <;> simp [World.cell?, World.frozen?, h]
section
variable {w w' : World} {v : Value} {s : Sys} {k : Nat} {fp : List Nat}
theorem RdSysV.shape (h : RdSysV w v s) : ∃ A n c, v = .agg #[.int .i64 s.1, .int .i64 s.2.1, .slice A n c] := by
 obtain ⟨A, c, hs, rfl, _⟩ := h; exact ⟨_, _, _, rfl⟩
theorem OwSys.shape (h : OwSys w v s fp) : ∃ A n c, v = .agg #[.int .i64 s.1, .int .i64 s.2.1, .slice A n c] := by
 obtain ⟨A, c, hs, rfl, _⟩ := h; exact ⟨_, _, _, rfl⟩
theorem OwSys.rd (h : OwSys w v s fp) : RdSysV w v s := by
 obtain ⟨A, c, hs, rfl, hL, h, _⟩ := h; exact ⟨A, c, hs, rfl, hL, h.rd⟩
theorem RdSysV.below (h : RdSysV w v s) (hb : Below w.heap.size w w') : RdSysV w' v s := by
 obtain ⟨A, c, hs, rfl, hL, h⟩ := h; exact ⟨A, c, hs, rfl, hL, h.below hb⟩
theorem OwSys.below (h : OwSys w v s fp) (hb : Below w.heap.size w w') : OwSys w' v s fp := by
 obtain ⟨A, c, hs, rfl, hL, h, e⟩ := h; exact ⟨A, c, hs, rfl, hL, h.below hb, e⟩
theorem OwSys.keeps (h : OwSys w v s fp) {S : Nat → Prop} (hk : Keeps S w w') (hS : ∀ b, b ∈ fp → ¬ S b) : OwSys w' v s fp := by
 obtain ⟨A, c, hs, rfl, hL, h, rfl⟩ := h; exact ⟨A, c, hs, rfl, hL, h.keeps hk hS, rfl⟩
theorem OwSys.lt (h : OwSys w v s fp) : LtL w.heap.size fp := by
 obtain ⟨A, c, hs, rfl, hL, h, rfl⟩ := h; exact h.lt
theorem HeSys.below (h : HeSys w v s k fp) (hb : Below w.heap.size w w') : HeSys w' v s k fp := by
 obtain ⟨A, c, hs, rfl, hL, h, e⟩ := h; exact ⟨A, c, hs, rfl, hL, h.below hb, e⟩
theorem HeSys.keeps (h : HeSys w v s k fp) {S : Nat → Prop} (hk : Keeps S w w') (hS : ∀ b, b ∈ fp → ¬ S b) : HeSys w' v s k fp := by
 obtain ⟨A, c, hs, rfl, hL, h, e⟩ := h; exact ⟨A, c, hs, rfl, hL, h.keeps hk fun b hb => hS b (e b hb), e⟩
theorem OwSys.of_om {w0 : World} {A : Option Addr} {c : Nat} {L : List (List Int)} {a b : Int} (h : OM w0 w A c L) : ∃ fp, OwSys w (.agg #[.int .i64 a, .int .i64 b, .slice A L.length c]) (a, b, L) fp ∧ FreshL w0.heap.size fp := by
 obtain ⟨hs, rfl, hO, hf, _⟩ := h
 exact ⟨fpA A ++ fpR hs, ⟨A, c, hs, by rw [List.length_map], rfl, hO, rfl⟩, hf⟩
end
abbrev Mt := Int × List (List Int)
def RdMtV (w : World) (v : Value) (s : Mt) : Prop := ∃ A c hs, v = .agg #[.int .i64 s.1, .slice A hs.length c] ∧ s.2 = hs.map (fun h : Hd => h.2.2) ∧ RdR w A hs
def OwMt (w : World) (v : Value) (s : Mt) (fp : List Nat) : Prop := ∃ A c hs, v = .agg #[.int .i64 s.1, .slice A hs.length c] ∧ s.2 = hs.map (fun h : Hd => h.2.2) ∧ OwR w A c hs ∧ fp = fpA A ++ fpR hs
def HeMt (w : World) (v : Value) (s : Mt) (k : Nat) (fp : List Nat) : Prop := ∃ A c hs, v = .agg #[.int .i64 s.1, .slice A hs.length c] ∧ hs.map (fun h : Hd => h.2.2) = marksR k (s.2.map List.length) ∧ OwR w A c hs ∧ (∀ b, b ∈ fpA A ++ fpR hs → b ∈ fp)
section
variable {w w' : World} {v : Value} {s : Mt} {k : Nat} {fp : List Nat}
theorem RdMtV.shape (h : RdMtV w v s) : ∃ A n c, v = .agg #[.int .i64 s.1, .slice A n c] := by
 obtain ⟨A, c, hs, rfl, _⟩ := h; exact ⟨_, _, _, rfl⟩
theorem OwMt.shape (h : OwMt w v s fp) : ∃ A n c, v = .agg #[.int .i64 s.1, .slice A n c] := by
 obtain ⟨A, c, hs, rfl, _⟩ := h; exact ⟨_, _, _, rfl⟩
theorem OwMt.rd (h : OwMt w v s fp) : RdMtV w v s := by
 obtain ⟨A, c, hs, rfl, hL, h, _⟩ := h; exact ⟨A, c, hs, rfl, hL, h.rd⟩
theorem RdMtV.below (h : RdMtV w v s) (hb : Below w.heap.size w w') : RdMtV w' v s := by
 obtain ⟨A, c, hs, rfl, hL, h⟩ := h; exact ⟨A, c, hs, rfl, hL, h.below hb⟩
theorem OwMt.below (h : OwMt w v s fp) (hb : Below w.heap.size w w') : OwMt w' v s fp := by
 obtain ⟨A, c, hs, rfl, hL, h, e⟩ := h; exact ⟨A, c, hs, rfl, hL, h.below hb, e⟩
theorem OwMt.keeps (h : OwMt w v s fp) {S : Nat → Prop} (hk : Keeps S w w') (hS : ∀ b, b ∈ fp → ¬ S b) : OwMt w' v s fp := by
 obtain ⟨A, c, hs, rfl, hL, h, rfl⟩ := h; exact ⟨A, c, hs, rfl, hL, h.keeps hk hS, rfl⟩
theorem OwMt.lt (h : OwMt w v s fp) : LtL w.heap.size fp := by
 obtain ⟨A, c, hs, rfl, hL, h, rfl⟩ := h; exact h.lt
theorem HeMt.below (h : HeMt w v s k fp) (hb : Below w.heap.size w w') : HeMt w' v s k fp := by
 obtain ⟨A, c, hs, rfl, hL, h, e⟩ := h; exact ⟨A, c, hs, rfl, hL, h.below hb, e⟩
theorem HeMt.keeps (h : HeMt w v s k fp) {S : Nat → Prop} (hk : Keeps S w w') (hS : ∀ b, b ∈ fp → ¬ S b) : HeMt w' v s k fp := by
 obtain ⟨A, c, hs, rfl, hL, h, e⟩ := h; exact ⟨A, c, hs, rfl, hL, h.keeps hk fun b hb => hS b (e b hb), e⟩
theorem OwMt.of_om {w0 : World} {A : Option Addr} {c : Nat} {L : List (List Int)} {a : Int} (h : OM w0 w A c L) : ∃ fp, OwMt w (.agg #[.int .i64 a, .slice A L.length c]) (a, L) fp ∧ FreshL w0.heap.size fp := by
 obtain ⟨hs, rfl, hO, hf, _⟩ := h
 exact ⟨fpA A ++ fpR hs, ⟨A, c, hs, by rw [List.length_map], rfl, hO, rfl⟩, hf⟩
end
theorem box_below {w w' : World} {B : Nat} {o : Obj} (h : w.heap[B]? = some o) (hb : Below w.heap.size w w') : w'.heap[B]? = some o := (hb.block B (Array.getElem?_eq_some_iff.1 h).1).trans h
theorem box_keeps {w w' : World} {S : Nat → Prop} {B : Nat} {o : Obj} (h : w.heap[B]? = some o) (hk : Keeps S w w') (hS : ¬ S B) : w'.heap[B]? = some o := (hk.block B (Array.getElem?_eq_some_iff.1 h).1 hS).trans h
theorem box_lt {w : World} {B : Nat} {o : Obj} (h : w.heap[B]? = some o) : B < w.heap.size := (Array.getElem?_eq_some_iff.1 h).1
theorem below_alloc (w : World) (o : Obj) : Below w.heap.size w (w.alloc o) := (Below.refl _ _).alloc (Nat.le_refl _) _
def rowsB (p n : Int) (L : List (List Int)) : Bool := L.all fun l => decide ((l.length : Int) = n) && inB 0 (p - 1) l
theorem rowsB_take_succ {p n : Int} {hs : List Hd} {k : Nat} {B : Option Addr} {c : Nat} {l : List Int} (h : hs[k]? = some (B, c, l)) :
  rowsB p n ((hs.take (k + 1)).map fun h : Hd => h.2.2) = (rowsB p n ((hs.take k).map fun h : Hd => h.2.2) && (decide ((l.length : Int) = n) && inB 0 (p - 1) l)) := by
 rw [List.take_add_one, h]
 simp [rowsB]
theorem rowsB_false {p n : Int} {hs : List Hd} {k : Nat} {B : Option Addr} {c : Nat} {l : List Int} (h : hs[k]? = some (B, c, l)) (hl : (decide ((l.length : Int) = n) && inB 0 (p - 1) l) = false) : rowsB p n (hs.map fun h : Hd => h.2.2) = false := by
 rw [Bool.eq_false_iff]
 intro hh
 have := List.all_eq_true.1 hh l (List.mem_map.2 ⟨_, List.mem_of_getElem? h, rfl⟩)
 rw [hl] at this; cases this
set_option maxHeartbeats 400000 in
theorem spRows_any (p n : Int) (A : Option Addr) (c : Nat) (hs : List Hd) (w : World) (h : RdR w A hs) (hl : hs.length ≤ 17592186044416) (hr : ∀ x, x ∈ hs → x.2.2.length ≤ 17592186044416) (hp : 0 ≤ p) (hp' : p ≤ 97) :
  Calls Tryz.prog 165 #[.int .i64 p, .int .i64 n, .slice A hs.length c] w fun e w' => e = .returned (.bool (rowsB p n (hs.map fun h : Hd => h.2.2))) ∧ w = w' := by
 go_enter Tryz.func165, Tryz.ntmps165
 go_wp2_with (fail)
 go_loop [11] (fun i => ∃ k : Nat, k ≤ hs.length ∧ i = .int .i64 k ∧ rowsB p n ((hs.take k).map fun h : Hd => h.2.2) = true) (fun i => hs.length - (intOf i).toNat)
 case atStart => exact ⟨0, Nat.zero_le _, rfl, rfl⟩
 case round =>
  obtain ⟨k, hk, rfl, ht⟩ := hrel
  have HT := lH ht; clear ht
  by_cases hlt : k < hs.length
  · obtain ⟨ad, B, d, l, rfl, hx, hc, hri⟩ := h.at_ hlt
    have hll : l.length ≤ 17592186044416 := hr _ (List.mem_of_getElem? hx)
    have HX := lH hx
    have hkI : (k : Int) < (hs.length : Int) := by omega
    clear hx h hr
    by_cases hn : (l.length : Int) = n
    · have h1 : ((l.length : Int) != n) = false := by simp [hn]
      have HN := lH hn
      have hF := fdIn_any p B d l w hri hll hp hp'
      clear hn
      by_cases hb : inB 0 (p - 1) l = true
      · rw [hb] at hF
        have HF := lH hF; have HB := lH hb; clear hF hb
        go_wp2_with (go_at_call 45; refine HF.out.mono ?_; rintro e w' ⟨rfl, rfl⟩)
        go_round
        case rel => exact ⟨k + 1, by omega, by go_num, by rw [rowsB_take_succ HX.out, HT.out, HB.out]; simp [HN.out]⟩
        case measure => simp [intOf]; omega
      · have hb' : inB 0 (p - 1) l = false := by simpa using hb
        rw [hb'] at hF
        have HF := lH hF; have HB := lH hb'; clear hF hb hb'
        go_wp2_with (go_at_call 45; refine HF.out.mono ?_; rintro e w' ⟨rfl, rfl⟩)
        go_ret
        exact ⟨ret_bool (rowsB_false HX.out (by rw [HB.out]; simp)).symm, rfl⟩
    · have h1 : ((l.length : Int) != n) = true := by simp [hn]
      have HN := lH hn; clear hn
      go_wp2_with (fail)
      go_ret
      exact ⟨ret_bool (rowsB_false HX.out (by simp [HN.out])).symm, rfl⟩
  · obtain rfl : k = hs.length := by omega
    clear h hr
    go_wp2_with (fail)
    go_ret
    exact ⟨ret_bool (by have := HT.out; rw [List.take_length] at this; exact this.symm), rfl⟩
def sysB (p : Int) (s : Sys) : Bool := fieldB p && ((decide (0 ≤ s.1) && decide (s.1 ≤ 24)) && ((decide (0 ≤ s.2.1) && decide (s.2.1 ≤ 100)) && (decide (s.2.2.length ≤ 160) && rowsB p (s.1 + s.2.1) s.2.2)))
end Go.Proofs.YtahnhblodfdfhaaGreatDoor
namespace Go.Proofs.YtahnhblodfdfhaaGreatDoor
section
variable {P : Program} {ops : Array Oper} {md : Region.Mode} {S : World → Prop}
def YieldsS (P : Program) (ops : Array Oper) (S : World → Prop) (o : Oper) (v : Value) (a : Act) : Prop :=
 (Region.wanted o (yielded ops a.tmps) = true ∧ ∀ w, S w →
  (∃ w', (execOp a.eval o).run P w = .ok (.value v) w' ∧ S w') ∨ (∃ w', (execOp a.eval o).run P w = .ok .skip w' ∧ v = undef ∧ S w') ∨
  ∃ f args w', (execOp a.eval o).run P w = .ok (.enter f args) w' ∧ Calls P f args w' (fun e w'' => e = .returned v ∧ S w'')) ∨
 (Region.wanted o (yielded ops a.tmps) = false ∧ v = undef)
theorem YieldsS.of_same {o : Oper} {v : Value} {a a' : Act} (hy : YieldsS P ops S o v a) (he : execOp a'.eval o = execOp a.eval o)
  (hw : Region.wanted o (yielded ops a'.tmps) = Region.wanted o (yielded ops a.tmps)) : YieldsS P ops S o v a' := by
 unfold YieldsS at *
 rw [he, hw]
 exact hy
theorem YieldsS.put {oi oj : Oper} {v u : Value} {a : Act} (hy : YieldsS P ops S oi v a) (hap : oj.apart ops oi = true) (hsi : ∀ cs b, oi.op ≠ .select cs b) : YieldsS P ops S oi v (a.put oj.dst u) := by
 obtain ⟨h1, _, _⟩ := Oper.apart_spec hap
 exact hy.of_same (execOp_put oi hsi a oj.dst u h1) (wanted_put oi a oj.dst u h1)
theorem YieldsS.wpOp {i : Nat} {o : Oper} {v : Value} {a : Act} {Q : Exit → Act → World → Prop} (hi : ops[i]? = some o) (hy : YieldsS P ops S o v a) {K : Act → World → Prop} {w : World} (hS : S w) (h : ∀ w', S w' → K (a.put o.dst v) w') : wpOp P ops Q i K a w := by
 unfold Go.wpOp
 simp only [hi]
 rcases hy with ⟨hw, hv⟩ | ⟨hw, rfl⟩
 · simp only [hw, if_true]
   refine .inl ?_
   unfold Oper.wp
   rcases hv w hS with ⟨w', hr, hs⟩ | ⟨w', hr, rfl, hs⟩ | ⟨f, args, w', hr, hc⟩
   · rw [hr]; exact h _ hs
   · rw [hr]; exact h _ hs
   · rw [hr]
     exact hc.mono fun e w'' ⟨he, hs⟩ => by subst he; exact h _ hs
 · simp only [hw, Bool.false_eq_true, if_false]; exact h _ hS
end
end Go.Proofs.YtahnhblodfdfhaaGreatDoor
namespace Go.Proofs.YtahnhblodfdfhaaGreatDoor
section
variable {P : Program} {l : List Oper} {Q : Exit → Act → World → Prop} {md : Region.Mode} {S : World → Prop}
theorem at_drop {l l' : List Oper} {i : Nat} {o : Oper} (h : l.drop i = o :: l') : l.toArray[i]? = some o := by
 have := congrArg (·[0]?) h
 simpa [List.getElem?_drop] using this
theorem takeH (i : Nat) {oi : Oper} {v : Value} {fuel : Nat} {listed : Array Bool} {a : Act} {w : World} {l' : List Oper} (hd : l.drop i = oi :: l')
  (hs : Region.noSelect l.toArray = true) (hf : Region.free md l.toArray listed i = true) (hr : (Region.ready md l.toArray listed).contains i = true)
  (hQ : ∀ c a w, Q (.panic c) (a.put oi.dst v) w → Q (.panic c) a w) (hS : S w) (hw : Region.wanted oi (yielded l.toArray a.tmps) = true) (hy : ∀ w, S w → (execOp a.eval oi).run P w = .ok (.value v) w)
  (h : wpAnyH P md l.toArray Q S fuel (listed.setIfInBounds i true) (a.put oi.dst v) w) : wpAnyH P md l.toArray Q S (fuel + 1) listed a w :=
 wpAnyH_take (at_drop hd) hs hf hr hQ (.inl ⟨hw, hy⟩) hS h
theorem tkH (i : Nat) {oi : Oper} (v : Value) {fuel : Nat} {listed : Array Bool} {a : Act} {w : World} {l' : List Oper} (hd : l.drop i = oi :: l') (hS : S w) (hy : ∀ w, S w → (execOp a.eval oi).run P w = .ok (.value v) w)
 (h : wpAnyH P md l.toArray Q S fuel (listed.setIfInBounds i true) (a.put oi.dst v) w) (hs : Region.noSelect l.toArray = true := by kernel_rfl) (hf : Region.free md l.toArray listed i = true := by kernel_rfl) (hr : (Region.ready md l.toArray listed).contains i = true := by kernel_rfl)
 (hQ : ∀ c a w, Q (.panic c) (a.put oi.dst v) w → Q (.panic c) a w := by exact fun _ _ _ h => h) (hw : Region.wanted oi (yielded l.toArray a.tmps) = true := by rfl) : wpAnyH P md l.toArray Q S (fuel + 1) listed a w := takeH i hd hs hf hr hQ hS hw hy h
theorem offH (i : Nat) {oi : Oper} {fuel : Nat} {listed : Array Bool} {a : Act} {w : World} {l' : List Oper} (hd : l.drop i = oi :: l')
  (hs : Region.noSelect l.toArray = true) (hf : Region.free md l.toArray listed i = true) (hr : (Region.ready md l.toArray listed).contains i = true)
  (hQ : ∀ c a w, Q (.panic c) (a.put oi.dst undef) w → Q (.panic c) a w) (hS : S w) (hw : Region.wanted oi (yielded l.toArray a.tmps) = false)
  (h : wpAnyH P md l.toArray Q S fuel (listed.setIfInBounds i true) (a.put oi.dst undef) w) : wpAnyH P md l.toArray Q S (fuel + 1) listed a w :=
 wpAnyH_take (at_drop hd) hs hf hr hQ (.inr ⟨hw, rfl⟩) hS h
theorem oneH (i : Nat) {o : Oper} {fuel : Nat} {listed : Array Bool} {a : Act} {w : World} {l' : List Oper} (hd : l.drop i = o :: l') (hr : Region.ready md l.toArray listed = [i]) (hw : Region.wanted o (yielded l.toArray a.tmps) = true)
  (h : ∀ K : Act → World → Prop, (∀ a' w', S w' → wpAnyH P md l.toArray Q S fuel (listed.setIfInBounds i true) a' w' → K a' w') → o.wp P a w K Q) : wpAnyH P md l.toArray Q S (fuel + 1) listed a w := by
 refine wpAnyH_all hr (by simp) fun j hj => ?_
 obtain rfl := List.mem_singleton.1 hj
 unfold wpOp
 simp only [at_drop hd, hw, if_true]
 exact .inl (h _ fun a' w' h1 h2 => ⟨h1, h2⟩)
theorem callH (i : Nat) {o : Oper} {f : FuncId} {args : Array Value} {fuel : Nat} {listed : Array Bool} {a : Act} {w : World} {l' : List Oper} (hd : l.drop i = o :: l') (hr : Region.ready md l.toArray listed = [i]) (hw : Region.wanted o (yielded l.toArray a.tmps) = true)
  (hrun : (execOp a.eval o).run P w = .ok (.enter f args) w)
  (h : Calls P f args w fun e w' => ∃ v, e = .returned v ∧ S w' ∧ wpAnyH P md l.toArray Q S fuel (listed.setIfInBounds i true) (a.put o.dst v) w') : wpAnyH P md l.toArray Q S (fuel + 1) listed a w := by
 refine oneH i hd hr hw fun K hK => ?_
 unfold Oper.wp
 rw [hrun]
 exact h.mono fun e w' ⟨v, he, h1, h2⟩ => by subst he; exact hK _ _ h1 h2
theorem offOneH (i : Nat) {o : Oper} {fuel : Nat} {listed : Array Bool} {a : Act} {w : World} {l' : List Oper} (hd : l.drop i = o :: l') (hr : Region.ready md l.toArray listed = [i]) (hw : Region.wanted o (yielded l.toArray a.tmps) = false) (hS : S w)
  (h : wpAnyH P md l.toArray Q S fuel (listed.setIfInBounds i true) (a.put o.dst undef) w) : wpAnyH P md l.toArray Q S (fuel + 1) listed a w := by
 refine wpAnyH_all hr (by simp) fun j hj => ?_
 obtain rfl := List.mem_singleton.1 hj
 unfold wpOp
 simp only [at_drop hd, hw]
 exact ⟨hS, h⟩
theorem twoValH (i j : Nat) {oi oj : Oper} {vi vj : Value} {fuel : Nat} {listed : Array Bool} {a : Act} {w : World} {li lj : List Oper} (hdi : l.drop i = oi :: li) (hdj : l.drop j = oj :: lj) (hij : i ≠ j)
  (hr : Region.ready md l.toArray listed = [i, j]) (hri : Region.ready md l.toArray (listed.setIfInBounds i true) = [j]) (hrj : Region.ready md l.toArray (listed.setIfInBounds j true) = [i])
  (hsel : Region.noSelect l.toArray = true) (hap : oi.apart l.toArray oj = true) (hwi : Region.wanted oi (yielded l.toArray a.tmps) = true) (hwj : Region.wanted oj (yielded l.toArray a.tmps) = true)
  (hvi : (execOp a.eval oi).run P w = .ok (.value vi) w) (hvj : (execOp a.eval oj).run P w = .ok (.value vj) w) (hS : S w)
  (h : wpAnyH P md l.toArray Q S fuel ((listed.setIfInBounds i true).setIfInBounds j true) ((a.put oi.dst vi).put oj.dst vj) w) : wpAnyH P md l.toArray Q S (fuel + 2) listed a w := by
 obtain ⟨h1, h2, h3⟩ := Oper.apart_spec hap
 have si : ∀ cs b, oi.op ≠ .select cs b := fun cs b => Region.noSelect_spec hsel i oi cs b (at_drop hdi)
 have sj : ∀ cs b, oj.op ≠ .select cs b := fun cs b => Region.noSelect_spec hsel j oj cs b (at_drop hdj)
 refine wpAnyH_all hr (by simp) fun k hk => ?_
 have hk' : k = i ∨ k = j := by simpa using hk
 rcases hk' with rfl | rfl
 · unfold wpOp
   simp only [at_drop hdi, hwi, if_true]
   refine .inl ?_
   unfold Oper.wp
   rw [hvi]
   refine ⟨hS, wpAnyH_all hri (by simp) fun k' hk' => ?_⟩
   obtain rfl := List.mem_singleton.1 hk'
   unfold wpOp
   have hw' : Region.wanted oj (yielded l.toArray (a.put oi.dst vi).tmps) = true := by rw [wanted_put oj a oi.dst vi h1]; exact hwj
   simp only [at_drop hdj, hw', if_true]
   refine .inl ?_
   unfold Oper.wp
   rw [execOp_put oj sj a oi.dst vi h1, hvj]
   exact ⟨hS, h⟩
 · unfold wpOp
   simp only [at_drop hdj, hwj, if_true]
   refine .inl ?_
   unfold Oper.wp
   rw [hvj]
   refine ⟨hS, wpAnyH_all hrj (by simp) fun k' hk' => ?_⟩
   obtain rfl := List.mem_singleton.1 hk'
   unfold wpOp
   have hw' : Region.wanted oi (yielded l.toArray (a.put oj.dst vj).tmps) = true := by rw [wanted_put oi a oj.dst vj h3]; exact hwi
   simp only [at_drop hdi, hw', if_true]
   refine .inl ?_
   unfold Oper.wp
   rw [execOp_put oi si a oj.dst vj h3, hvi]
   refine ⟨hS, ?_⟩
   rw [Array.setIfInBounds_comm _ _ (Ne.symm hij), ← Act.put_comm a vi vj h2]
   exact h
theorem doneH {fuel : Nat} {listed : Array Bool} {a : Act} {w : World} (hr : Region.ready md l.toArray listed = []) (h : Q .normal a w) : wpAnyH P md l.toArray Q S fuel listed a w := wpAnyH_done hr h fuel
theorem beginH {id : Nat} {a : Act} {w : World} (S : World → Prop) (hm : P.follows .mixedOrders = true) (h : wpAnyH P .any l.toArray Q S l.toArray.size (Array.replicate l.toArray.size false) a w.drew) : (Code.region id l.toArray true).wp P Q a w := wp_region_held hm h
end
open Go.RowKit
structure OuR (w0 w : World) (A : Option Addr) (cap : Nat) (hs : List Hd) : Prop where
 sl : Sl w 23 1 A hs.length cap (hs.map Hd.val)
 rows : ∀ h, h ∈ hs → RdI w0 h.1 h.2.2
 new : ∀ b, b ∈ fpA A → w0.heap.size ≤ b
 below_ : Below w0.heap.size w0 w
section
variable {w0 w w' : World} {A : Option Addr} {cap : Nat} {hs : List Hd}
theorem OuR.nil (w : World) : OuR w w none 0 [] := ⟨Sl.nil _ _ _, fun h hh => (by cases hh), fun b hb => by simp at hb, Below.refl _ _⟩
theorem OuR.below (h : OuR w0 w A cap hs) (hb : Below w.heap.size w w') : OuR w0 w' A cap hs := ⟨h.sl.below hb, h.rows, h.new, below_trans h.below_ hb h.below_.size⟩
theorem OuR.rdr (h : OuR w0 w A cap hs) : RdR w A hs := by
 refine ⟨fun i x hx => ?_, fun x hx => (h.rows x hx).below h.below_⟩
 obtain ⟨ad, hA, _, hc, _⟩ := h.sl.cell (j := i) (u := x.val) (by simp [hx])
 exact ⟨ad, hA, hc⟩
theorem OuR.snoc {w1 w2 : World} (h : OuR w0 w A cap hs) (hb : Below w.heap.size w w1) {x : Hd} (hx : RdI w0 x.1 x.2.2) {A' : Option Addr} {cap' n : Nat} (hn : n = hs.length + 1) (hs' : Sl w2 23 1 A' n cap' (hs.map Hd.val ++ [x.val])) (hA' : ∀ b, b ∈ fpA A' → b ∈ fpA A ∨ w1.heap.size ≤ b) (hk : Keeps (· ∈ fpA A) w1 w2) : OuR w0 w2 A' cap' (hs ++ [x]) := by
 subst hn
 have hbw := below_trans h.below_ hb h.below_.size
 refine ⟨by simpa using hs', fun y hy => ?_, fun b hb' => ?_, below_keeps hbw hk hbw.size h.new⟩
 · rcases List.mem_append.1 hy with hy | hy
   · exact h.rows y hy
   · obtain rfl := List.mem_singleton.1 hy; exact hx
 · rcases hA' b hb' with h1 | h1
   · exact h.new b h1
   · have := hbw.size; omega
end
theorem rowsB_mat {p n : Int} {L : List (List Int)} {k : Nat} (h : rowsB p n L = true) (hk : n = (k : Int)) : Mat p L.length k L := by
 refine ⟨rfl, fun v hv => ?_⟩
 have := List.all_eq_true.1 h v hv
 simp only [Bool.and_eq_true, decide_eq_true_eq] at this
 refine ⟨by omega, fun x hx => ?_⟩
 have := inB_iff.1 this.2 x hx
 omega
structure SysOk (p : Int) (s : Sys) : Prop where
 fld : fieldB p = true
 vis : 0 ≤ s.1 ∧ s.1 ≤ 24
 hid : 0 ≤ s.2.1 ∧ s.2.1 ≤ 100
 len : s.2.2.length ≤ 160
 mat : Mat p s.2.2.length (s.1 + s.2.1).toNat s.2.2
theorem SysOk.of {p : Int} {s : Sys} (h : sysB p s = true) : SysOk p s := by
 unfold sysB at h
 simp only [Bool.and_eq_true, decide_eq_true_eq] at h
 obtain ⟨h1, h2, h3, h4, h5⟩ := h
 exact ⟨h1, h2, h3, h4, rowsB_mat h5 (by omega)⟩
theorem SysOk.ok {p : Int} {s : Sys} (h : SysOk p s) : s.2.2.length ≤ 1048576 ∧ ∀ x, x ∈ s.2.2 → x.length ≤ 1048576 :=
 ⟨by have := h.len; omega, fun x hx => by have := (h.mat.row x hx).1; have := h.vis; have := h.hid; omega⟩
theorem nullM_red {p : Int} (hp : fieldB p = true) (n : Nat) (L : List (List Int)) : RedL p n (nullM p n L) := by
 have hpb := fieldB_bounds hp
 unfold nullM
 refine (redM_spec hp ?_).1
 exact nvTo_mat (by omega) n _ n
theorem red_len {p : Int} {n : Nat} {R : List (List Int)} (hr : RedL p n R) : R.length ≤ n := by
 obtain ⟨_, ld, h⟩ := hr
 have key : ∀ i, i < R.length → i ≤ ld i := by
  intro i
  induction i with
  | zero => intro _; omega
  | succ i ih => intro hi; have := ih (by omega); have := h.mono i (i + 1) (by omega) hi; omega
 rcases Nat.eq_zero_or_pos R.length with h0 | h0
 · omega
 · have h1 := key (R.length - 1) (by omega)
   have h2 := h.lt (R.length - 1) (by omega)
   omega
section
variable {P : Program} {l : List Oper} {Q : Exit → Act → World → Prop} {md : Region.Mode} {S : World → Prop}
theorem tailD {id : Nat} {a : Act} {w : World} (n : Nat) (hm : P.follows .mixedOrders = true) (hB : Region.lexTailB .any l.toArray n = true)
  (h : wpStill P l.toArray w.drew (fun a' => wpList P l.toArray Q (l.drop n) a' w.drew) (l.take n) a) : (Code.region id l.toArray true).wp P Q a w :=
 wp_region_still_tail n hm hB h
theorem beginB {id : Nat} {a : Act} {w : World} (hm : P.follows .mixedOrders = true) (h : ∀ W1, W1 = w.drew → wpAnyH P .any l.toArray Q (fun w' => Below W1.heap.size W1 w') l.toArray.size (Array.replicate l.toArray.size false) a W1) : (Code.region id l.toArray true).wp P Q a w :=
 beginH _ hm (h _ rfl)
theorem runH (i : Nat) {o : Oper} {v : Value} {fuel : Nat} {listed : Array Bool} {a : Act} {w w1 : World} {l' : List Oper} (hd : l.drop i = o :: l') (hr : Region.ready md l.toArray listed = [i]) (hw : Region.wanted o (yielded l.toArray a.tmps) = true)
  (hrun : (execOp a.eval o).run P w = .ok (.value v) w1) (hS : S w1) (h : wpAnyH P md l.toArray Q S fuel (listed.setIfInBounds i true) (a.put o.dst v) w1) : wpAnyH P md l.toArray Q S (fuel + 1) listed a w :=
 oneH i hd hr hw fun K hK => by
  unfold Oper.wp
  rw [hrun]
  exact hK _ _ hS h
theorem callOrH (i j : Nat) {oi oj : Oper} {f : FuncId} {args : Array Value} {vj : Value} {wj : World} {fuel : Nat} {listed : Array Bool} {a : Act} {w : World} {li lj : List Oper} (hdi : l.drop i = oi :: li) (hdj : l.drop j = oj :: lj)
  (hr : Region.ready md l.toArray listed = [i, j]) (hwi : Region.wanted oi (yielded l.toArray a.tmps) = true) (hwj : Region.wanted oj (yielded l.toArray a.tmps) = true)
  (hrun : (execOp a.eval oi).run P w = .ok (.enter f args) w) (hrunj : (execOp a.eval oj).run P w = .ok (.value vj) wj)
  (h1 : Calls P f args w fun e w' => ∃ v, e = .returned v ∧ S w' ∧ wpAnyH P md l.toArray Q S fuel (listed.setIfInBounds i true) (a.put oi.dst v) w')
  (hSj : S wj) (h2 : wpAnyH P md l.toArray Q S fuel (listed.setIfInBounds j true) (a.put oj.dst vj) wj) : wpAnyH P md l.toArray Q S (fuel + 1) listed a w := by
 refine wpAnyH_all hr (by simp) fun k hk => ?_
 have hk' : k = i ∨ k = j := by simpa using hk
 rcases hk' with rfl | rfl
 · unfold wpOp
   simp only [at_drop hdi, hwi, if_true]
   refine .inl ?_
   unfold Oper.wp
   rw [hrun]
   exact h1.mono fun e w' ⟨v, he, a1, a2⟩ => by subst he; exact ⟨a1, a2⟩
 · unfold wpOp
   simp only [at_drop hdj, hwj, if_true]
   refine .inl ?_
   unfold Oper.wp
   rw [hrunj]
   exact ⟨hSj, h2⟩
theorem appH (i : Nat) {o : Oper} {fuel : Nat} {listed : Array Bool} {a : Act} {w : World} {l' : List Oper} (hd : l.drop i = o :: l') (hr : Region.ready md l.toArray listed = [i]) (hw : Region.wanted o (yielded l.toArray a.tmps) = true)
  (s x : Operand) (t : TypeId) (ho : o.op = .call { callee := .builtin .append, args := #[s, x], argTypes := #[t, t] })
  (e : TypeId) {z : Value} {size bytes : Nat} (ht : P.underlying t = some (.slice e)) (hinfo : (P.info? e).map (fun i => (i.zero, i.size, i.bytes)) = some (some z, size, bytes)) (hzs : z.cells.size = size) (hsz : 0 < size)
  {A : Option Addr} {n cap : Nat} {xs : List Value} (he : a.eval s = .slice A n cap) (hs : Sl w e size A n cap xs)
  {B : Option Addr} {m c : Nat} {news : List Value} (hx : a.eval x = .slice B m c) (hl : news.length = m * size) (hrd : RdC w B news) (h1 : ∀ u ∈ news, u.oneCell' = true)
  (h63 : n + m ≤ maxLen) (hbytes : (n + m) * bytes ≤ 140737488355328)
  (h : ∀ A' cap' w', Sl w' e size A' (n + m) cap' (xs ++ news) → (∀ b, b ∈ fpA A' → b ∈ fpA A ∨ w.heap.size ≤ b) → Keeps (· ∈ fpA A) w w' → S w' ∧ wpAnyH P md l.toArray Q S fuel (listed.setIfInBounds i true) (a.put o.dst (.slice A' (n + m) cap')) w') : wpAnyH P md l.toArray Q S (fuel + 1) listed a w := by
 obtain ⟨i', hi, hz, hz1, hz2⟩ := info_parts hinfo
 obtain ⟨A', cap', w', hrun, h2, h3, h4⟩ := run_append_Sl (P := P) w t o.type e i' z size bytes ht hi hz hz1 hz2 hzs hsz A n cap xs hs B m c news hl hrd h1 h63 hbytes
 obtain ⟨hS, hh⟩ := h A' cap' w' h2 h3 h4
 refine runH i hd hr hw (w1 := w') (v := .slice A' (n + m) cap') ?_ hS hh
 unfold execOp
 simp only [ho, resolve, invoke, builtin, Sem.run_bind, Sem.run_pure, Result.andThen_ok, List.map_toArray, List.map_cons, List.map_nil, he, hx, hrun]
end
section
variable {P : Program} {ops : Array Oper} {rest : List Oper} {o : Oper} {a : Act} {Q : Exit → Act → World → Prop} {w : World}
theorem wpList_append1 (hgd : o.guard = none) (s x : Operand) (t : TypeId)
  (ho : o.op = .call { callee := .builtin .append, args := #[s, x], argTypes := #[t, t] })
  (e : TypeId) {z : Value} {size bytes : Nat} (ht : P.underlying t = some (.slice e)) (hinfo : (P.info? e).map (fun i => (i.zero, i.size, i.bytes)) = some (some z, size, bytes)) (hzs : z.cells.size = size) (hsz : 0 < size)
  {A : Option Addr} {n cap : Nat} {xs : List Value} (he : a.eval s = .slice A n cap) (hs : Sl w e size A n cap xs)
  {cs : Array Value} {G : Nat} (hx : a.eval x = .slice (some ⟨G, 0, none⟩) 1 1) (hG : G = w.heap.size) (hcs : cs.size = size) (h1 : ∀ u ∈ cs.toList, u.oneCell' = true)
  (hn : n ≤ 1000000000) (hb : bytes ≤ 1000)
  (h : ∀ A' cap' w', Sl w' e size A' (n + 1) cap' (xs ++ cs.toList) → (∀ b, b ∈ fpA A' → b ∈ fpA A ∨ w.heap.size ≤ b) → Keeps (· ∈ fpA A) w w' → wpList P ops Q rest (a.put o.dst (.slice A' (n + 1) cap')) w') : wpList P ops Q (o :: rest) a (w.alloc (.cells cs e)) := by
 subst hG
 refine wpList_append_Sl _ hgd s x t ho e ht hinfo hzs hsz he (hs.alloc _) hx (by simpa using hcs) (Sl.rdc (Sl.laid w e size 1 cs (by unfold maxLen; omega) (by omega))) h1 (by unfold maxLen; omega) ?_ (fun A' cap' w' a1 a2 a3 => h A' cap' w' a1 (fun b hb => ?_) ?_)
 · have := Nat.mul_le_mul (show n + 1 ≤ 1000000001 by omega) hb
   omega
 · rcases a2 b hb with h | h
   · exact .inl h
   · right; simp at h; omega
 · exact ((Keeps.refl _ _).alloc _).trans a3
end
def redB (p n : Int) (L : List (List Int)) : Bool := decide ((L.length : Int) ≤ n) && (rowsB p n L && decide (redM p n.toNat L = L))
def relB (p : Int) (s : Sys) : Bool := (decide (0 ≤ s.1) && decide (s.1 ≤ 24)) && ((decide (0 ≤ s.2.1) && decide (s.2.1 ≤ 24 - s.1)) && (fieldB p && redB p (s.1 + s.2.1) s.2.2))
structure RelOk (p : Int) (s : Sys) : Prop where
 lo : 0 ≤ s.1
 hi : 0 ≤ s.2.1
 sum : s.1 + s.2.1 ≤ 24
 fld : fieldB p = true
 len : (s.2.2.length : Int) ≤ s.1 + s.2.1
 mat : Mat p s.2.2.length (s.1 + s.2.1).toNat s.2.2
 red : redM p (s.1 + s.2.1).toNat s.2.2 = s.2.2
theorem RelOk.of {p : Int} {s : Sys} (h : relB p s = true) : RelOk p s := by
 unfold relB redB at h
 simp only [Bool.and_eq_true, decide_eq_true_eq] at h
 obtain ⟨⟨h1, h2⟩, ⟨h3, h4⟩, h5, h6, h7, h8⟩ := h
 exact ⟨h1, h3, by omega, h5, h6, rowsB_mat h7 (by omega), h8⟩
theorem RelOk.row {p : Int} {s : Sys} (h : RelOk p s) {v : List Int} (hv : v ∈ s.2.2) : (v.length : Int) = s.1 + s.2.1 ∧ Res p v := by
 have := h.mat.row v hv
 have h1 := h.lo
 have h2 := h.hi
 exact ⟨by omega, this.2⟩
theorem Mat.map {p : Int} {m n k : Nat} {L : List (List Int)} {f : List Int → List Int} (h : Mat p m n L) (hf : ∀ v, v.length = n → Res p v → (f v).length = k ∧ Res p (f v)) : Mat p m k (L.map f) := by
 refine ⟨by rw [List.length_map]; exact h.len, fun v hv => ?_⟩
 obtain ⟨u, hu, rfl⟩ := List.mem_map.1 hv
 exact hf u (h.row u hu).1 (h.row u hu).2
theorem leadV_take {v : List Int} {a : Nat} (ha : a ≤ v.length) : leadV (v.take a) = a ↔ a ≤ leadV v := by
 unfold leadV
 induction v generalizing a with
 | nil => have : a = 0 := by simpa using ha
          subst this; simp
 | cons x r ih =>
   cases a with
   | zero => simp
   | succ a =>
     have := ih (a := a) (by simpa using ha)
     simp only [List.take_succ_cons, List.findIdx_cons]
     cases h : (x != 0)
     · simp only [cond_false]; omega
     · simp
def firstM (s : Sys) : List (List Int) := s.2.2.map fun v => v.take s.1.toNat
def secondM (s : Sys) : List (List Int) := s.2.2.map fun v => v.drop s.1.toNat
theorem firstM_mat {p : Int} {s : Sys} (h : RelOk p s) : Mat p s.2.2.length s.1.toNat (firstM s) := by
 have h1 := h.lo
 have h2 := h.hi
 exact h.mat.map fun v hv hr => ⟨by rw [List.length_take]; omega, fun x hx => hr x (List.mem_of_mem_take hx)⟩
theorem secondM_mat {p : Int} {s : Sys} (h : RelOk p s) : Mat p s.2.2.length s.2.1.toNat (secondM s) := by
 have h1 := h.lo
 have h2 := h.hi
 exact h.mat.map fun v hv hr => ⟨by rw [List.length_drop]; omega, fun x hx => hr x (List.mem_of_mem_drop hx)⟩
def singB (s : Sys) : Bool := s.2.2.all fun v => decide ((leadV v : Int) < s.1)
def totB (p : Int) (s : Sys) : Bool := decide (((redM p s.1.toNat (firstM s)).length : Int) = s.1)
def funM (p : Int) (s : Sys) : (Int × List (List Int)) × Bool := if relB p s && (totB p s && singB s) then ((s.2.1, secondM s), true) else ((0, []), false)
theorem box4 {w : World} {B : Nat} {x y z u : Value} {t : TypeId} (h : w.heap[B]? = some (.cells #[x, y, z, u] t)) :
  (w.cell? ⟨B, 0, none⟩ = some x ∧ w.cell? ⟨B, 1, none⟩ = some y ∧ w.cell? ⟨B, 2, none⟩ = some z ∧ w.cell? ⟨B, 3, none⟩ = some u) ∧ (w.frozen? ⟨B, 0, none⟩ = false ∧ w.frozen? ⟨B, 1, none⟩ = false ∧ w.frozen? ⟨B, 2, none⟩ = false ∧ w.frozen? ⟨B, 3, none⟩ = false) := by
 refine ⟨⟨?_, ?_, ?_, ?_⟩, ?_, ?_, ?_, ?_⟩ <;> simp [World.cell?, World.frozen?, h]
abbrev tOp : TypeId := 179
set_option maxRecDepth 8000 in
set_option maxHeartbeats 2000000 in
theorem applyX_any (p : Int) (r q m : Nat) (A : Option Addr) (cap : Nat) (L : List (List Int)) (fp : List Nat) (w : World) (h : RwF w A cap L fp) (hm : L.length = m) (hr : r < m) (hq : q < m) (_hml : m ≤ 1048576) :
  Calls Tryz.prog 172 #[.agg #[.int .i64 0, .int .i64 r, .int .i64 q, .int .i64 0], .int .i64 p, .slice A m cap] w fun e w' => e = .returned (.tuple #[]) ∧ RwF w' A cap (swapL L r q) fp ∧ Keeps (· ∈ fp) w w' := by
 have hbw : Below w.heap.size w (w.alloc (.cells #[.int .i64 0, .int .i64 r, .int .i64 q, .int .i64 0] tOp)) := (Below.refl _ _).alloc (Nat.le_refl _) _
 obtain ⟨W, hW⟩ : ∃ W, W = w.alloc (.cells #[.int .i64 0, .int .i64 r, .int .i64 q, .int .i64 0] tOp) := ⟨_, rfl⟩
 have hk : W.heap[w.heap.size]? = some (.cells #[.int .i64 0, .int .i64 r, .int .i64 q, .int .i64 0] tOp) := by rw [hW]; exact heap_alloc_new w _
 obtain ⟨⟨c0, c1, c2, c3⟩, f0, f1, f2, f3⟩ := box4 hk
 rw [← hW] at hbw
 have hR := h.below hbw
 obtain ⟨ad0, _, _, hA0, hc0, _⟩ := h.get (i := r) (by omega)
 have hlt := World.block_lt_of_cell? w _ hc0
 rw [block_of_add] at hlt
 obtain ⟨ad, B, c, hA, hcr, hfr, _⟩ := hR.get (i := r) (by omega)
 rw [hA] at hA0
 obtain rfl := Option.some.inj hA0
 subst hA
 obtain ⟨ad', C, d, hA', hcq, hfq, _⟩ := hR.get (i := q) (by omega)
 obtain rfl := Option.some.inj hA'
 obtain ⟨nr, hnr⟩ : ∃ nr, nr = (L.getD r []).length := ⟨_, rfl⟩
 obtain ⟨nq, hnq⟩ : ∃ nq, nq = (L.getD q []).length := ⟨_, rfl⟩
 rw [← hnr] at hcr
 rw [← hnq] at hcq
 have hsw := hR.drew.swap (r := r) (k := q) (by omega) (by omega) rfl (V := .slice C nq d) (U := .slice B nr c) hcq hcr
 have HSW := lH hsw; have HB := lH hbw
 have hrI : (r : Int) < (m : Int) := by omega
 have hqI : (q : Int) < (m : Int) := by omega
 have hdc1 : W.drew.cell? (ad.add r) = some (.slice B nr c) := hcr
 have hdc2 : W.drew.cell? (ad.add q) = some (.slice C nq d) := hcq
 have hdf1 : W.drew.frozen? (ad.add r) = false := hfr
 have hdf2 : W.drew.frozen? (ad.add q) = false := hfq
 have e1 : W.drew.cell? ⟨w.heap.size, 1, none⟩ = some (.int .i64 r) := c1
 have e2 : W.drew.cell? ⟨w.heap.size, 2, none⟩ = some (.int .i64 q) := c2
 have hst1 : (W.drew.setCell (ad.add r) (.slice C nq d)).cell? ⟨w.heap.size, 1, none⟩ = some (.int .i64 r) := (World.cell?_setCell_far _ _ _ _ (by rw [block_of_add]; show ad.block ≠ w.heap.size; omega)).trans c1
 have hst2 : (W.drew.setCell (ad.add r) (.slice C nq d)).cell? ⟨w.heap.size, 2, none⟩ = some (.int .i64 q) := (World.cell?_setCell_far _ _ _ _ (by rw [block_of_add]; show ad.block ≠ w.heap.size; omega)).trans c2
 have hst3 : ((W.drew.setCell (ad.add r) (.slice C nq d)).setCell (ad.add q) (.slice B nr c)).cell? ⟨w.heap.size, 1, none⟩ = some (.int .i64 r) := (World.cell?_setCell_far _ _ _ _ (by rw [block_of_add]; show ad.block ≠ w.heap.size; omega)).trans hst1
 have hst4 : ((W.drew.setCell (ad.add r) (.slice C nq d)).setCell (ad.add q) (.slice B nr c)).cell? ⟨w.heap.size, 2, none⟩ = some (.int .i64 q) := (World.cell?_setCell_far _ _ _ _ (by rw [block_of_add]; show ad.block ≠ w.heap.size; omega)).trans hst2
 have hcq2 : ((W.setCell (ad.add r) (.slice C nq d)).cell? (ad.add q)).isSome = true := by
  by_cases e : ad.add r = ad.add q
  · rw [e, World.cell?_setCell_same' _ _ _ (by rw [hcq]; rfl)]; rfl
  · rw [World.cell?_setCell_other _ _ _ _ e, hcq]; rfl
 obtain ⟨V2, hcq2⟩ := Option.isSome_iff_exists.1 hcq2
 clear hk hR h hsw hnr hnq hc0 hbw
 go_enter Tryz.func172, Tryz.ntmps172
 go_wp2_with (fail)
 rw [← hW]
 clear hW
 refine beginH (fun w' => w'.cell? ⟨w.heap.size, 1, none⟩ = some (.int .i64 r) ∧ w'.cell? ⟨w.heap.size, 2, none⟩ = some (.int .i64 q)) (by kernel_rfl) ?_
 refine tkH 0 ?_ rfl ⟨c1, c2⟩ (fun W' hW' => ?_) ?_; rotate_left; · (obtain ⟨c1, c2⟩ := hW'; go_simp; first | done | with_reducible rfl)
 simp only [Act.put, nS]
 refine tkH 1 ?_ rfl ⟨c1, c2⟩ (fun W' hW' => ?_) ?_; rotate_left; · (obtain ⟨c1, c2⟩ := hW'; go_simp; first | done | with_reducible rfl)
 simp only [Act.put, nS]
 refine tkH 2 ?_ rfl ⟨c1, c2⟩ (fun W' hW' => ?_) ?_; rotate_left; · (obtain ⟨c1, c2⟩ := hW'; go_simp; first | done | with_reducible rfl)
 simp only [Act.put, nS]
 refine tkH 3 ?_ rfl ⟨c1, c2⟩ (fun W' hW' => ?_) ?_; rotate_left; · (obtain ⟨c1, c2⟩ := hW'; go_simp; first | done | with_reducible rfl)
 simp only [Act.put, nS]
 refine tkH 4 ?_ rfl ⟨c1, c2⟩ (fun W' hW' => ?_) ?_; rotate_left; · (obtain ⟨c1, c2⟩ := hW'; go_simp; first | done | with_reducible rfl)
 simp only [Act.put, nS]
 refine tkH 5 ?_ rfl ⟨c1, c2⟩ (fun W' hW' => ?_) ?_; rotate_left; · (obtain ⟨c1, c2⟩ := hW'; go_simp; first | done | with_reducible rfl)
 simp only [Act.put, nS]
 refine tkH 6 ?_ rfl ⟨c1, c2⟩ (fun W' hW' => ?_) ?_; rotate_left; · (obtain ⟨c1, c2⟩ := hW'; go_simp; first | done | with_reducible rfl)
 simp only [Act.put, nS]
 refine tkH 7 ?_ rfl ⟨c1, c2⟩ (fun W' hW' => ?_) ?_; rotate_left; · (obtain ⟨c1, c2⟩ := hW'; go_simp; first | done | with_reducible rfl)
 simp only [Act.put, nS]
 refine tkH 8 ?_ rfl ⟨c1, c2⟩ (fun W' hW' => ?_) ?_; rotate_left; · (obtain ⟨c1, c2⟩ := hW'; go_simp; first | done | with_reducible rfl)
 simp only [Act.put, nS]
 refine tkH 9 ?_ rfl ⟨c1, c2⟩ (fun W' hW' => ?_) ?_; rotate_left; · (obtain ⟨c1, c2⟩ := hW'; go_simp; first | done | with_reducible rfl)
 simp only [Act.put, nS]
 refine tkH 11 ?_ rfl ⟨c1, c2⟩ (fun W' hW' => ?_) ?_; rotate_left; · (obtain ⟨c1, c2⟩ := hW'; go_simp; first | done | with_reducible rfl)
 simp only [Act.put, nS]
 refine tkH 12 ?_ rfl ⟨c1, c2⟩ (fun W' hW' => ?_) ?_; rotate_left; · (obtain ⟨c1, c2⟩ := hW'; go_simp; first | done | with_reducible rfl)
 simp only [Act.put, nS]
 refine tkH 13 ?_ rfl ⟨c1, c2⟩ (fun W' hW' => ?_) ?_; rotate_left; · (obtain ⟨c1, c2⟩ := hW'; go_simp; first | done | with_reducible rfl)
 simp only [Act.put, nS]
 refine tkH 14 ?_ rfl ⟨c1, c2⟩ (fun W' hW' => ?_) ?_; rotate_left; · (obtain ⟨c1, c2⟩ := hW'; go_simp; first | done | with_reducible rfl)
 simp only [Act.put, nS]
 refine twoValH 10 15 (vi := .slice C nq d) (vj := .slice B nr c) rfl rfl (by decide) (by kernel_rfl) (by kernel_rfl) (by kernel_rfl) (by kernel_rfl) (by kernel_rfl) (by rfl) (by rfl) (by go_simp; first | done | with_reducible rfl) (by go_simp; first | done | with_reducible rfl) ⟨e1, e2⟩ ?_
 simp only [Act.put, nS]
 refine oneH 16 rfl (by kernel_rfl) (by rfl) (fun K hK => ?_)
 go_simp
 refine hK _ _ ⟨e1, e2⟩ ?_
 clear hK K
 refine oneH 17 rfl (by kernel_rfl) (by rfl) (fun K hK => ?_)
 go_simp
 refine hK _ _ ⟨hst1, hst2⟩ ?_
 clear hK K
 refine oneH 18 rfl (by kernel_rfl) (by rfl) (fun K hK => ?_)
 go_simp
 refine hK _ _ ⟨hst1, hst2⟩ ?_
 clear hK K
 refine oneH 19 rfl (by kernel_rfl) (by rfl) (fun K hK => ?_)
 go_simp
 refine hK _ _ ⟨hst3, hst4⟩ ?_
 clear hK K
 refine doneH (by kernel_rfl) ?_
 go_wp2_with (fail)
 go_end0
 exact ⟨rfl, HSW.out.1, (Keeps.of_below HB.out _).trans ((Keeps.refl _ _).drew.trans HSW.out.2)⟩
set_option maxRecDepth 8000 in
set_option maxHeartbeats 2000000 in
theorem applyD_any (p by_ : Int) (r m nn : Nat) (A : Option Addr) (cap : Nat) (L : List (List Int)) (fp : List Nat) (w : World) (h : RwF w A cap L fp) (hm : Mat p m nn L) (hr : r < m) (_hml : m ≤ 1048576) (hnl : nn ≤ 1048576) (h2 : 2 ≤ p) (h97 : p ≤ 97) (hb0 : 0 ≤ by_) (hb1 : by_ < p) (hi0 : 0 ≤ invM p by_) (hi1 : invM p by_ < p) :
  Calls Tryz.prog 172 #[.agg #[.int .i64 1, .int .i64 r, .int .i64 0, .int .i64 by_], .int .i64 p, .slice A m cap] w fun e w' => e = .returned (.tuple #[]) ∧ RwF w' A cap (scaleL p r (invM p by_) L) fp ∧ Keeps (· ∈ fp) w w' := by
 obtain ⟨fq, h, hlt, hsub⟩ := h.lt
 have hml' := hm.len
 have hbw : Below w.heap.size w (w.alloc (.cells #[.int .i64 1, .int .i64 r, .int .i64 0, .int .i64 by_] tOp)) := (Below.refl _ _).alloc (Nat.le_refl _) _
 obtain ⟨W, hW⟩ : ∃ W, W = w.alloc (.cells #[.int .i64 1, .int .i64 r, .int .i64 0, .int .i64 by_] tOp) := ⟨_, rfl⟩
 have hk : W.heap[w.heap.size]? = some (.cells #[.int .i64 1, .int .i64 r, .int .i64 0, .int .i64 by_] tOp) := by rw [hW]; exact heap_alloc_new w _
 obtain ⟨⟨c0, c1, c2, c3⟩, f0, f1, f2, f3⟩ := box4 hk
 rw [← hW] at hbw
 have hR := h.below hbw
 obtain ⟨ad, B, c, hA, hcr, hfr, _, _⟩ := hR.get (i := r) (by omega)
 obtain ⟨V, hV⟩ : ∃ V, V = L.getD r [] := ⟨_, rfl⟩
 have hVl : V.length = nn := by rw [hV]; exact (hm.get hr).1
 have hVr : Res p V := by rw [hV]; exact (hm.get hr).2
 rw [← hV, hVl] at hcr
 subst hA
 have hout := hR.outer (i := r) (by omega) rfl hcr
 obtain ⟨iv, hiv⟩ : ∃ iv, iv = invM p by_ := ⟨_, rfl⟩
 have hI := fun w => inverse_any p by_ w h2 h97 hb0 hb1
 rw [← hiv] at hI hi0 hi1
 have HI := lH hI; have HV := lH hV; have HVl := lH hVl; have HIV := lH hiv; have HM := lH hml'; have HB := lH hbw; have HLT := lH hlt; have HSUB := lH hsub; have HOUT := lH hout
 have hrI : (r : Int) < (m : Int) := by omega
 clear hk h hV hVl hiv hI hml' hbw hlt hsub hout
 go_enter Tryz.func172, Tryz.ntmps172
 go_wp2_with (fail)
 rw [← hW]
 clear hW
 refine (HI.out _).mono ?_
 rintro e w' ⟨rfl, rfl⟩
 go_wp2_with (fail)
 go_loopw [43] (fun i wr => ∃ j : Nat, j ≤ nn ∧ i = .int .i64 j ∧ RwF wr (some ad) cap (L.set r ((scaleV p iv V).take j ++ V.drop j)) fq ∧ Keeps (· ∈ fq) W wr ∧ wr.cell? (ad.add r) = some (.slice B nn c)) (fun i _ => nn - (intOf i).toNat)
 case atStart => exact ⟨0, Nat.zero_le _, rfl, by rw [List.take_zero, List.nil_append, List.drop_zero, HV.out, set_getD]; exact hR, Keeps.refl _ _, hcr⟩
 case round =>
  obtain ⟨j, hj, rfl, hOj, hkp, hcj⟩ := hrel
  clear hR hcr hfr
  have hlc : ((scaleV p iv V).take j ++ V.drop j).length = nn := by rw [len_take_drop (by rw [scaleV_length]) (by rw [HVl.out]; exact hj)]; exact HVl.out
  have hm' := HM.out
  by_cases hjn : j < nn
  · obtain ⟨ad4, B4, c4, hA4, hc4, hf4, hI4, _⟩ := hOj.get (i := r) (by rw [List.length_set]; omega)
    obtain rfl := Option.some.inj hA4
    rw [getD_set_self (by omega)] at hc4 hI4
    rw [hlc, hcj] at hc4
    injection hc4 with hc4
    injection hc4 with e1 e2 e3
    subst e1 e3
    obtain ⟨bd, z, hB, hz, hbl, hcz, hfz'⟩ := hI4.at_ (j := j) (by rw [hlc]; exact hjn)
    rw [get_take_drop (by rw [scaleV_length]) (by rw [HVl.out]; exact hjn)] at hz
    have hfz := hfz' j
    have hzb := hVr z (List.mem_of_getElem? hz)
    subst hB
    have hd1 : wr.cell? ⟨w.heap.size, 1, none⟩ = some (.int .i64 r) := keeps_cell hkp c1 (fun hh => by have := HLT.out _ hh; exact absurd this (Nat.lt_irrefl _))
    obtain ⟨hset, hks⟩ := hOj.set (i := r) (by rw [List.length_set]; omega) rfl hcj (j := j) (by rw [getD_set_self (by omega), hlc]; exact hjn) (z * iv % p)
    have hsz : (scaleV p iv V)[j]? = some (z * iv % p) := by simp [scaleV, hz]
    rw [getD_set_self (by omega), List.set_set, take_append_step (by rw [scaleV_length]) hsz] at hset
    have hcn : (wr.setCell (bd.add j) (.int .i64 (z * iv % p))).cell? (ad.add r) = some (.slice (some bd) nn c) := (World.cell?_setCell_far _ _ _ _ (by rw [block_of_add, block_of_add]; exact HOUT.out _ (by simp))).trans hcj
    have HST := lH (And.intro hset.drew (And.intro (hkp.trans hks).drew hcn))
    have hjI : (j : Int) < (nn : Int) := by omega
    obtain ⟨x1, x2⟩ := mul_bound (a := z) (b := iv) hzb.1 (by omega) hi0 (by omega)
    have hp0 : (p == 0) = false := by rw [beq_eq_false_iff_ne]; omega
    clear hset hsz hz hI4 hfz' hlc hOj hm' hkp hks hcn
    go_wp2_with (fail)
    refine wp_region_still_tail 11 (by kernel_rfl) (by kernel_rfl) ?_
    simp only [List.take_succ_cons, List.take_zero, List.drop_succ_cons, List.drop_zero]
    change wpStill _ _ wr.drew (fun a' => wpList _ _ _ _ a' wr.drew) _ _
    have q1 := Int.emod_nonneg (z * iv) (show p ≠ 0 by omega)
    have q2 := Int.emod_lt_of_pos (z * iv) (show 0 < p by omega)
    have ws : IntKind.i64.wrap (z * iv) = z * iv := IntWalk.i64_in _ (by omega)
    have ws2 : IntKind.i64.wrap (z * iv % p) = z * iv % p := IntWalk.i64_in _ (by omega)
    have tm : (z * iv).tmod p = z * iv % p := Int.tmod_eq_emod_of_nonneg x1
    have hpz : ¬ p = 0 := by omega
    repeat still_step
    refine wpStill_nil ?_
    clear ws ws2 tm hpz
    go_wp2_with (fail)
    go_roundw
    case rel => exact ⟨j + 1, by omega, by go_num, HST.out.1, HST.out.2.1, HST.out.2.2⟩
    case measure => simp [intOf]; omega
  · obtain rfl : nn = j := by omega
    have hO2 : RwF wr (some ad) cap (scaleL p r (invM p by_) L) fp := by
     have := hOj
     rw [List.take_of_length_le (by rw [scaleV_length, HVl.out]; omega), List.drop_of_length_le (by rw [HVl.out]; omega), List.append_nil, HV.out, HIV.out] at this
     obtain ⟨hs, e1, e2, e3⟩ := this
     exact ⟨hs, e1, e2, fun b hb => HSUB.out b (e3 b hb)⟩
    have hkk : Keeps (· ∈ fp) w wr := (Keeps.of_below HB.out _).trans (hkp.mono fun b _ hb => HSUB.out b hb)
    clear hOj hlc hm'
    go_wp2_with (fail)
    go_end0
    exact ⟨rfl, hO2, hkk⟩
set_option maxRecDepth 8000 in
set_option maxHeartbeats 2000000 in
theorem applyS_any (p by_ : Int) (i r m nn : Nat) (A : Option Addr) (cap : Nat) (L : List (List Int)) (fp : List Nat) (w : World) (h : RwF w A cap L fp) (hm : Mat p m nn L) (hi : i < m) (hr : r < m) (hne : i ≠ r) (_hml : m ≤ 1048576) (hnl : nn ≤ 1048576) (h2 : 2 ≤ p) (h97 : p ≤ 97) (hb0 : 0 ≤ by_) (hb1 : by_ < p) :
  Calls Tryz.prog 172 #[.agg #[.int .i64 2, .int .i64 i, .int .i64 r, .int .i64 by_], .int .i64 p, .slice A m cap] w fun e w' => e = .returned (.tuple #[]) ∧ RwF w' A cap (L.set i (addT p (L.getD i []) (-by_) (L.getD r []))) fp ∧ Keeps (· ∈ fp) w w' := by
 have hml' := hm.len
 have hbw : Below w.heap.size w (w.alloc (.cells #[.int .i64 2, .int .i64 i, .int .i64 r, .int .i64 by_] tOp)) := (Below.refl _ _).alloc (Nat.le_refl _) _
 obtain ⟨W, hW⟩ : ∃ W, W = w.alloc (.cells #[.int .i64 2, .int .i64 i, .int .i64 r, .int .i64 by_] tOp) := ⟨_, rfl⟩
 have hk : W.heap[w.heap.size]? = some (.cells #[.int .i64 2, .int .i64 i, .int .i64 r, .int .i64 by_] tOp) := by rw [hW]; exact heap_alloc_new w _
 obtain ⟨⟨c0, c1, c2, c3⟩, f0, f1, f2, f3⟩ := box4 hk
 rw [← hW] at hbw
 have hR := h.below hbw
 obtain ⟨ad, B, c, hA, hci, hfi, hIi, _⟩ := hR.get (i := i) (by omega)
 subst hA
 obtain ⟨ad', C, d, hA', hcr, hfr, hIr, _⟩ := hR.get (i := r) (by omega)
 obtain rfl := Option.some.inj hA'
 have hap := hR.apart (i := r) (k := i) (by omega) (by omega) (Ne.symm hne) rfl hcr hci
 have hli := (hm.get hi).1
 have hlr := (hm.get hr).1
 have hC := addTimes_any p (-by_) B C c d (L.getD i []) (L.getD r []) W.drew hIi hIr.rd (fun _ b hb => hap b hb) (by omega) (by omega) (by omega) h97 (hm.get hi).2 (hm.get hr).2 (by omega) (by omega)
 rw [hli, hlr] at hC
 rw [hli] at hci
 rw [hlr] at hcr
 have HW := lH (fun (w' : World) (hw : Wr W.drew w' B (ints (addT p (L.getD i []) (-by_) (L.getD r [])))) => hR.drew.wr (i := i) (by omega) rfl hci (l' := addT p (L.getD i []) (-by_) (L.getD r [])) (by rw [addT_length]) hw)
 have HC := lH hC; have HB := lH hbw
 have hrI : (r : Int) < (m : Int) := by omega
 have hiI : (i : Int) < (m : Int) := by omega
 clear hk h hC hml' hbw hR hIi hIr hap hli hlr hfi hfr
 go_enter Tryz.func172, Tryz.ntmps172
 go_wp2_with (fail)
 rw [← hW]
 clear hW
 refine wp_region_still_tail 14 (by kernel_rfl) (by kernel_rfl) ?_
 simp only [List.take_succ_cons, List.take_zero, List.drop_succ_cons, List.drop_zero]
 change wpStill _ _ W.drew (fun a' => wpList _ _ _ _ a' W.drew) _ _
 repeat still_step
 refine wpStill_nil ?_
 go_wp2_with (fail)
 refine HC.out.mono ?_
 rintro e w' ⟨rfl, hw⟩
 obtain ⟨h1, h2⟩ := HW.out w' hw
 go_wp2_with (fail)
 go_end0
 exact ⟨rfl, h1, (Keeps.of_below HB.out _).trans ((Keeps.refl _ _).drew.trans h2)⟩
structure Cap (w : World) (p : Int) (P4 P5 P7 : Nat) (A : Option Addr) (cap : Nat) (L : List (List Int)) (fp : List Nat) (A' : Option Addr) (cap' : Nat) (K : List (List Int)) (fp' : List Nat) (m : Nat) : Prop where
 c4 : w.cell? ⟨P4, 0, none⟩ = some (.int .i64 p)
 c5 : w.cell? ⟨P5, 0, none⟩ = some (.slice A m cap)
 c7 : w.cell? ⟨P7, 0, none⟩ = some (.slice A' m cap')
 rows : RwF w A cap L fp
 also : RwF w A' cap' K fp'
 ap : ∀ b, b ∈ fp → ¬ b ∈ fp'
 n4 : ¬ P4 ∈ fp ∧ ¬ P4 ∈ fp'
 n5 : ¬ P5 ∈ fp ∧ ¬ P5 ∈ fp'
 n7 : ¬ P7 ∈ fp ∧ ¬ P7 ∈ fp'
section
variable {w w' : World} {p : Int} {P4 P5 P7 : Nat} {A : Option Addr} {cap : Nat} {L L' : List (List Int)} {fp : List Nat} {A' : Option Addr} {cap' : Nat} {K K' : List (List Int)} {fp' : List Nat} {m : Nat}
theorem Cap.below (h : Cap w p P4 P5 P7 A cap L fp A' cap' K fp' m) (hb : Below w.heap.size w w') : Cap w' p P4 P5 P7 A cap L fp A' cap' K fp' m :=
 ⟨(hb.cell (World.block_lt_of_cell? _ _ h.c4)).trans h.c4, (hb.cell (World.block_lt_of_cell? _ _ h.c5)).trans h.c5, (hb.cell (World.block_lt_of_cell? _ _ h.c7)).trans h.c7, h.rows.below hb, h.also.below hb, h.ap, h.n4, h.n5, h.n7⟩
theorem Cap.first (h : Cap w p P4 P5 P7 A cap L fp A' cap' K fp' m) (hR : RwF w' A cap L' fp) (hk : Keeps (· ∈ fp) w w') : Cap w' p P4 P5 P7 A cap L' fp A' cap' K fp' m :=
 ⟨keeps_cell hk h.c4 h.n4.1, keeps_cell hk h.c5 h.n5.1, keeps_cell hk h.c7 h.n7.1, hR, h.also.keeps hk fun b hb hb' => h.ap b hb' hb, h.ap, h.n4, h.n5, h.n7⟩
theorem Cap.second (h : Cap w p P4 P5 P7 A cap L fp A' cap' K fp' m) (hR : RwF w' A' cap' K' fp') (hk : Keeps (· ∈ fp') w w') : Cap w' p P4 P5 P7 A cap L fp A' cap' K' fp' m :=
 ⟨keeps_cell hk h.c4 h.n4.2, keeps_cell hk h.c5 h.n5.2, keeps_cell hk h.c7 h.n7.2, h.rows.keeps hk fun b hb hb' => h.ap b hb hb', hR, h.ap, h.n4, h.n5, h.n7⟩
end
theorem swapL_self (L : List (List Int)) (r : Nat) : swapL L r r = L := by
 unfold swapL; rw [set_getD, set_getD]
set_option maxRecDepth 8000 in
set_option maxHeartbeats 2000000 in
theorem stepX_any (p : Int) (r q m : Nat) (P4 P5 P7 : Nat) (A : Option Addr) (cap : Nat) (L : List (List Int)) (fp : List Nat) (A' : Option Addr) (cap' : Nat) (K : List (List Int)) (fp' : List Nat) (w : World)
  (h : Cap w p P4 P5 P7 A cap L fp A' cap' K fp' m) (hL : L.length = m) (hK : K.length = m) (hr : r < m) (hq : q < m) (hm : m ≤ 1048576) (hnf : ¬ w.heap.size ∈ fp) :
  Calls Tryz.prog 171 #[.agg #[.int .i64 0, .int .i64 r, .int .i64 q, .int .i64 0], .pointer (some ⟨P4, 0, none⟩), .pointer (some ⟨P5, 0, none⟩), .pointer (some ⟨P7, 0, none⟩)] w
   fun e w' => e = .returned (.tuple #[]) ∧ Cap w' p P4 P5 P7 A cap (swapL L r q) fp A' cap' (swapL K r q) fp' m ∧ Keeps (fun b => b ∈ fp ∨ b ∈ fp') w w' := by
 have hbw : Below w.heap.size w (w.alloc (.cells #[.int .i64 0, .int .i64 r, .int .i64 q, .int .i64 0] tOp)) := (Below.refl _ _).alloc (Nat.le_refl _) _
 by_cases hrq : r = q
 · subst hrq
   go_enter Tryz.func171, Tryz.ntmps171
   go_wp2_with (fail)
   refine bodyPost_ret (results_none rfl _ _ _) rfl ?_
   refine ⟨rfl, ?_, Keeps.of_below hbw _⟩
   rw [swapL_self, swapL_self]
   exact h.below hbw
 · have hne : ((q : Int) == (r : Int)) = false := by rw [beq_eq_false_iff_ne]; omega
   have hne2 : ((r : Int) == (q : Int)) = false := by rw [beq_eq_false_iff_ne]; omega
   clear hbw
   have hbw : Below w.heap.size w (w.alloc (.cells #[.int .i64 0, .int .i64 r, .int .i64 q, .int .i64 0] tOp)) := (Below.refl _ _).alloc (Nat.le_refl _) _
   have hW := h.below hbw
   have HB := lH hbw; have HC := lH hW
   have d4 := hW.c4
   have d5 := hW.c5
   have d7 := hW.c7
   clear hbw hW h
   go_enter Tryz.func171, Tryz.ntmps171
   go_wp2_with (fail)
   refine (applyX_any p r q m A cap L fp _ HC.out.rows hL hr hq hm).mono ?_
   rintro e w1 ⟨rfl, h1, k1⟩
   have hF := HC.out.first h1 k1
   have HF := lH hF
   have e4 := hF.c4
   have e5 := hF.c5
   have e7 := hF.c7
   obtain ⟨g0, g1, g2, g3⟩ : w1.cell? ⟨w.heap.size, 0, none⟩ = some (.int .i64 0) ∧ w1.cell? ⟨w.heap.size, 1, none⟩ = some (.int .i64 r) ∧ w1.cell? ⟨w.heap.size, 2, none⟩ = some (.int .i64 q) ∧ w1.cell? ⟨w.heap.size, 3, none⟩ = some (.int .i64 0) := by
    obtain ⟨⟨a0, a1, a2, a3⟩, _⟩ := box4 (heap_alloc_new w (.cells #[.int .i64 0, .int .i64 r, .int .i64 q, .int .i64 0] tOp))
    exact ⟨keeps_cell k1 a0 hnf, keeps_cell k1 a1 hnf, keeps_cell k1 a2 hnf, keeps_cell k1 a3 hnf⟩
   clear d4 d5 d7 hF h1
   go_wp2_with (fail)
   refine (applyX_any p r q m A' cap' K fp' _ HF.out.also hK hr hq hm).mono ?_
   rintro e w2 ⟨rfl, h2, k2⟩
   go_wp2_with (fail)
   go_end0
   exact ⟨rfl, HF.out.second h2 k2, (Keeps.of_below HB.out _).trans ((k1.mono fun b _ hb => .inl hb).trans (k2.mono fun b _ hb => .inr hb))⟩
set_option maxRecDepth 8000 in
set_option maxHeartbeats 2000000 in
theorem stepD_any (p by_ : Int) (r : Nat) (m nn n2 : Nat) (P4 P5 P7 : Nat) (A : Option Addr) (cap : Nat) (L : List (List Int)) (fp : List Nat) (A' : Option Addr) (cap' : Nat) (K : List (List Int)) (fp' : List Nat) (w : World)
  (h : Cap w p P4 P5 P7 A cap L fp A' cap' K fp' m) (hL : Mat p m nn L) (hK : Mat p m n2 K) (hr : r < m) (hm : m ≤ 1048576) (hnl : nn ≤ 1048576) (hn2 : n2 ≤ 1048576) (h2 : 2 ≤ p) (h97 : p ≤ 97) (hb0 : 0 ≤ by_) (hb1 : by_ < p) (hi0 : 0 ≤ invM p by_) (hi1 : invM p by_ < p) (hnf : ¬ w.heap.size ∈ fp) :
  Calls Tryz.prog 171 #[.agg #[.int .i64 1, .int .i64 r, .int .i64 0, .int .i64 by_], .pointer (some ⟨P4, 0, none⟩), .pointer (some ⟨P5, 0, none⟩), .pointer (some ⟨P7, 0, none⟩)] w
   fun e w' => e = .returned (.tuple #[]) ∧ Cap w' p P4 P5 P7 A cap (scaleL p r (invM p by_) L) fp A' cap' (scaleL p r (invM p by_) K) fp' m ∧ Keeps (fun b => b ∈ fp ∨ b ∈ fp') w w' := by
 have hbw : Below w.heap.size w (w.alloc (.cells #[.int .i64 1, .int .i64 r, .int .i64 0, .int .i64 by_] tOp)) := (Below.refl _ _).alloc (Nat.le_refl _) _
 have hW := h.below hbw
 have HB := lH hbw; have HC := lH hW
 have d4 := hW.c4
 have d5 := hW.c5
 have d7 := hW.c7
 clear hbw hW h
 go_enter Tryz.func171, Tryz.ntmps171
 go_wp2_with (fail)
 refine (applyD_any p by_ r m nn A cap L fp _ HC.out.rows hL hr hm hnl h2 h97 hb0 hb1 hi0 hi1).mono ?_
 rintro e w1 ⟨rfl, h1, k1⟩
 have hF := HC.out.first h1 k1
 have HF := lH hF
 have e4 := hF.c4
 have e5 := hF.c5
 have e7 := hF.c7
 obtain ⟨g0, g1, g2, g3⟩ : w1.cell? ⟨w.heap.size, 0, none⟩ = some (.int .i64 1) ∧ w1.cell? ⟨w.heap.size, 1, none⟩ = some (.int .i64 r) ∧ w1.cell? ⟨w.heap.size, 2, none⟩ = some (.int .i64 0) ∧ w1.cell? ⟨w.heap.size, 3, none⟩ = some (.int .i64 by_) := by
  obtain ⟨⟨a0, a1, a2, a3⟩, _⟩ := box4 (heap_alloc_new w (.cells #[.int .i64 1, .int .i64 r, .int .i64 0, .int .i64 by_] tOp))
  exact ⟨keeps_cell k1 a0 hnf, keeps_cell k1 a1 hnf, keeps_cell k1 a2 hnf, keeps_cell k1 a3 hnf⟩
 clear d4 d5 d7 hF h1
 go_wp2_with (fail)
 refine (applyD_any p by_ r m n2 A' cap' K fp' _ HF.out.also hK hr hm hn2 h2 h97 hb0 hb1 hi0 hi1).mono ?_
 rintro e w2 ⟨rfl, h2, k2⟩
 go_wp2_with (fail)
 go_end0
 exact ⟨rfl, HF.out.second h2 k2, (Keeps.of_below HB.out _).trans ((k1.mono fun b _ hb => .inl hb).trans (k2.mono fun b _ hb => .inr hb))⟩
set_option maxRecDepth 8000 in
set_option maxHeartbeats 2000000 in
theorem stepS_any (p by_ : Int) (i r : Nat) (m nn n2 : Nat) (P4 P5 P7 : Nat) (A : Option Addr) (cap : Nat) (L : List (List Int)) (fp : List Nat) (A' : Option Addr) (cap' : Nat) (K : List (List Int)) (fp' : List Nat) (w : World)
  (h : Cap w p P4 P5 P7 A cap L fp A' cap' K fp' m) (hL : Mat p m nn L) (hK : Mat p m n2 K) (hi : i < m) (hr : r < m) (hne : i ≠ r) (hm : m ≤ 1048576) (hnl : nn ≤ 1048576) (hn2 : n2 ≤ 1048576) (h2 : 2 ≤ p) (h97 : p ≤ 97) (hb0 : 0 ≤ by_) (hb1 : by_ < p) (hnf : ¬ w.heap.size ∈ fp) :
  Calls Tryz.prog 171 #[.agg #[.int .i64 2, .int .i64 i, .int .i64 r, .int .i64 by_], .pointer (some ⟨P4, 0, none⟩), .pointer (some ⟨P5, 0, none⟩), .pointer (some ⟨P7, 0, none⟩)] w
   fun e w' => e = .returned (.tuple #[]) ∧ Cap w' p P4 P5 P7 A cap (L.set i (addT p (L.getD i []) (-by_) (L.getD r []))) fp A' cap' (K.set i (addT p (K.getD i []) (-by_) (K.getD r []))) fp' m ∧ Keeps (fun b => b ∈ fp ∨ b ∈ fp') w w' := by
 have hbw : Below w.heap.size w (w.alloc (.cells #[.int .i64 2, .int .i64 i, .int .i64 r, .int .i64 by_] tOp)) := (Below.refl _ _).alloc (Nat.le_refl _) _
 have hW := h.below hbw
 have HB := lH hbw; have HC := lH hW
 have d4 := hW.c4
 have d5 := hW.c5
 have d7 := hW.c7
 clear hbw hW h
 go_enter Tryz.func171, Tryz.ntmps171
 go_wp2_with (fail)
 refine (applyS_any p by_ i r m nn A cap L fp _ HC.out.rows hL hi hr hne hm hnl h2 h97 hb0 hb1).mono ?_
 rintro e w1 ⟨rfl, h1, k1⟩
 have hF := HC.out.first h1 k1
 have HF := lH hF
 have e4 := hF.c4
 have e5 := hF.c5
 have e7 := hF.c7
 obtain ⟨g0, g1, g2, g3⟩ : w1.cell? ⟨w.heap.size, 0, none⟩ = some (.int .i64 2) ∧ w1.cell? ⟨w.heap.size, 1, none⟩ = some (.int .i64 i) ∧ w1.cell? ⟨w.heap.size, 2, none⟩ = some (.int .i64 r) ∧ w1.cell? ⟨w.heap.size, 3, none⟩ = some (.int .i64 by_) := by
  obtain ⟨⟨a0, a1, a2, a3⟩, _⟩ := box4 (heap_alloc_new w (.cells #[.int .i64 2, .int .i64 i, .int .i64 r, .int .i64 by_] tOp))
  exact ⟨keeps_cell k1 a0 hnf, keeps_cell k1 a1 hnf, keeps_cell k1 a2 hnf, keeps_cell k1 a3 hnf⟩
 clear d4 d5 d7 hF h1
 go_wp2_with (fail)
 refine (applyS_any p by_ i r m n2 A' cap' K fp' _ HF.out.also hK hi hr hne hm hn2 h2 h97 hb0 hb1).mono ?_
 rintro e w2 ⟨rfl, h2, k2⟩
 go_wp2_with (fail)
 go_end0
 exact ⟨rfl, HF.out.second h2 k2, (Keeps.of_below HB.out _).trans ((k1.mono fun b _ hb => .inl hb).trans (k2.mono fun b _ hb => .inr hb))⟩
theorem box1 {w : World} {B : Nat} {x : Value} {t : TypeId} (h : w.heap[B]? = some (.cells #[x] t)) : w.cell? ⟨B, 0, none⟩ = some x := by simp [World.cell?, h]
theorem pair_of {α β γ : Type} {x : α × β × γ} {a : α} {b : β} {c : γ} (h1 : x.1 = a) (h2 : x.2.1 = b) (h3 : x.2.2 = c) : x = (a, b, c) := by
 obtain ⟨x1, x2, x3⟩ := x; subst h1 h2 h3; rfl
set_option maxRecDepth 100000 in
set_option maxHeartbeats 4000000 in
theorem reduction_any (p : Int) (n m n2 : Nat) (A : Option Addr) (cap : Nat) (L : List (List Int)) (fp : List Nat) (A' : Option Addr) (cap' : Nat) (K : List (List Int)) (fp' : List Nat) (w : World) (hRL : RwF w A cap L fp) (hRK : RwF w A' cap' K fp') (hap : ∀ b, b ∈ fp → ¬ b ∈ fp')
  (hlf : LtL w.heap.size fp) (hlf' : LtL w.heap.size fp') (hp : fieldB p = true) (hmL : Mat p m n L) (hmK : Mat p m n2 K) (hm : m ≤ 1048576) (hn : n ≤ 1048576) (hn2 : n2 ≤ 1048576) :
  Calls Tryz.prog 154 #[.int .i64 p, .slice A m cap, .int .i64 n, .slice A' m cap'] w fun e w' => e = .returned (.int .i64 ((redTo p L K n).1 : Nat)) ∧ RwF w' A cap (redTo p L K n).2.1 fp ∧ RwF w' A' cap' (redTo p L K n).2.2 fp' ∧ Keeps (fun b => b ∈ fp ∨ b ∈ fp') w w' := by
 have hmf : ∀ (fn : Fn) (first cap : Array Value) (w : World), (Instr.makeFunc fn first cap).run Tryz.prog w = .ok (.func fn first cap) w := fun _ _ _ _ => rfl
 have hpb := fieldB_bounds hp
 have HP := lH hp; have HML := lH hmL; have HMK := lH hmK
 obtain ⟨W, hW⟩ : ∃ W, W = ((w.alloc (.cells #[.int .i64 p] 3)).alloc (.cells #[.slice A m cap] 27)).alloc (.cells #[.slice A' m cap'] 27) := ⟨_, rfl⟩
 have hBW : Below w.heap.size w W := by rw [hW]; exact (((Below.refl _ _).alloc (Nat.le_refl _) _).alloc (by simp) _).alloc (by simp; omega) _
 have hCap : Cap W p w.heap.size (w.heap.size + 1) (w.heap.size + 1 + 1) A cap L fp A' cap' K fp' m := by
  refine ⟨?_, ?_, ?_, hRL.below hBW, hRK.below hBW, hap, ⟨fun h => absurd (hlf _ h) (by omega), fun h => absurd (hlf' _ h) (by omega)⟩, ⟨fun h => absurd (hlf _ h) (by omega), fun h => absurd (hlf' _ h) (by omega)⟩, ⟨fun h => absurd (hlf _ h) (by omega), fun h => absurd (hlf' _ h) (by omega)⟩⟩
  · rw [hW, World.cell?_alloc_lt _ _ _ (by simp; omega), World.cell?_alloc_lt _ _ _ (by simp)]
    exact box1 (heap_alloc_new w _)
  · rw [hW, World.cell?_alloc_lt _ _ _ (by simp)]
    have := heap_alloc_new (w.alloc (.cells #[.int .i64 p] 3)) (.cells #[.slice A m cap] 27)
    rw [World.size_alloc] at this
    exact box1 this
  · rw [hW]
    have := heap_alloc_new ((w.alloc (.cells #[.int .i64 p] 3)).alloc (.cells #[.slice A m cap] 27)) (.cells #[.slice A' m cap'] 27)
    rw [World.size_alloc, World.size_alloc] at this
    exact box1 this
 have hnf : ∀ wr : World, Keeps (fun b => b ∈ fp ∨ b ∈ fp') W wr → ¬ wr.heap.size ∈ fp := fun wr hk hh => by
  have := hlf _ hh; have := hk.size; have := hBW.size; omega
 have HNF := lH hnf; have HBW := lH hBW; have HCap := lH hCap; clear hRL hRK hap hlf hlf' hp hmL hmK hBW hCap hnf
 go_enter Tryz.func154, Tryz.ntmps154
 go_wp2_with (fail)
 rw [← hW]
 clear hW
 go_loopw [11, 9] (fun ci ri wr => ∃ (col R : Nat) (M K1 : List (List Int)), col ≤ n ∧ ci = .int .i64 col ∧ ri = .int .i64 R ∧ redTo p L K col = (R, M, K1) ∧ Mat p m n2 K1 ∧ Cap wr p w.heap.size (w.heap.size + 1) (w.heap.size + 1 + 1) A cap M fp A' cap' K1 fp' m ∧ Keeps (fun b => b ∈ fp ∨ b ∈ fp') W wr) (fun ci _ _ => n - (intOf ci).toNat)
 case atStart => exact ⟨0, 0, L, K, Nat.zero_le _, rfl, rfl, rfl, HMK.out, HCap.out, Keeps.refl _ _⟩
 case round =>
  obtain ⟨col, R, M, K1, hcol, rfl, rfl, hrt, hmK1, hC, hkp⟩ := hrel
  obtain ⟨hMm, hRm⟩ := redTo_mat HP.out HML.out K hcol
  rw [hrt] at hMm hRm
  have hMm : Mat p m n M := hMm
  have hRm : R ≤ m := hRm
  have HRT := lH hrt; have HMm := lH hMm; have HMl := lH hMm.len; have HMK1 := lH hmK1
  have d5 := hC.c5
  have HC := lH hC; have HKP := lH hkp; clear hrt hMm hC hkp hmK1 HCap
  by_cases hgo : col < n ∧ R < m
  case neg =>
   have hend : redTo p L K n = (R, M, K1) := by
    by_cases hc : col < n
    · have hs := redTo_stable (p := p) (L := L) (A := K) (c := col) (by rw [HRT.out]; show M.length ≤ R; rw [HMl.out]; omega) (n - col)
      rw [show col + (n - col) = n by omega] at hs
      rw [hs, HRT.out]
    · obtain rfl : n = col := by omega
      exact HRT.out
   have HE := lH hend; clear hend
   by_cases hc : col < n
   · have hRk : ¬ ((R : Int) < (m : Int)) := by omega
     go_wp2_with (fail)
     go_ret
     rw [HE.out]
     exact ⟨rfl, HC.out.rows, HC.out.also, (Keeps.of_below HBW.out _).trans HKP.out⟩
   · have hcI : ¬ ((col : Int) < (n : Int)) := by omega
     go_wp2_with (fail)
     go_ret
     rw [HE.out]
     exact ⟨rfl, HC.out.rows, HC.out.also, (Keeps.of_below HBW.out _).trans HKP.out⟩
  case pos =>
   obtain ⟨hcn, hRk⟩ := hgo
   have hcI : (col : Int) < (n : Int) := by omega
   have hRI : (R : Int) < (m : Int) := by omega
   go_wp2_with (fail)
   go_loop [12] (fun v => ∃ q : Nat, R ≤ q ∧ q ≤ m ∧ v = .int .i64 q ∧ pvFrom M col (m - q) q = pvFrom M col (m - R) R) (fun v => m - (intOf v).toNat)
   case atStart => exact ⟨R, Nat.le_refl _, by omega, rfl, rfl⟩
   case round =>
    obtain ⟨q, hRq, hqk, rfl, hpv⟩ := hrel
    have HPV := lH hpv; clear hpv
    by_cases hlt : q < m
    · obtain ⟨ad, B, d, hA', hcq, hfq, hIq, _⟩ := HC.out.rows.get (i := q) (by rw [HMl.out]; exact hlt)
      have hrl := (HMm.out.get hlt).1
      obtain ⟨bd, x, hB, hx, _, hcx, _⟩ := hIq.at_ (j := col) (by rw [hrl]; exact hcn)
      have hxe : x = en M q col := by unfold en; simp [List.getD] at hx ⊢; rw [hx]; rfl
      have hxb := HMm.out.en (by omega) hlt col
      rw [← hxe] at hxb
      rw [hrl] at hcq
      have HXE := lH hxe
      have hqI : (q : Int) < (m : Int) := by omega
      subst hA'
      subst hB
      by_cases hx0 : x = 0
      · subst hx0
        have hpn := pvFrom_eq hlt HXE.out.symm
        have HPN := lH hpn; clear hpn hxe hIq hrl hx hfq
        go_wp2_with (fail)
        go_round
        case rel => exact ⟨q + 1, by omega, by omega, by go_num, by rw [← HPN.out]; exact HPV.out⟩
        case measure => simp [intOf]; omega
      · have hx1 : (x == 0) = false := by rw [beq_eq_false_iff_ne]; exact hx0
        have hpn : pvFrom M col (m - R) R = q := by rw [← HPV.out]; exact pvFrom_hit hlt (by rw [← HXE.out]; exact hx0)
        have HPN := lH hpn
        have hX := stepX_any p R q m w.heap.size (w.heap.size + 1) (w.heap.size + 1 + 1) (some ad) cap M fp A' cap' K1 fp' wr HC.out HMl.out HMK1.out.len hRk hlt hm (HNF.out wr HKP.out)
        have HX := lH hX; clear hX hpn HPV hxe hIq hrl hx hfq
        go_wp2_with (fail)
        refine HX.out.mono ?_
        clear HX
        rintro e w1 ⟨rfl, hC1, hk1⟩
        obtain ⟨S, hS⟩ : ∃ S, S = swapL M R q := ⟨_, rfl⟩
        obtain ⟨S1, hS1⟩ : ∃ S1, S1 = swapL K1 R q := ⟨_, rfl⟩
        rw [← hS, ← hS1] at hC1
        have hSm : Mat p m n S := by rw [hS]; exact HMm.out.swap hRk hlt
        have hS1m : Mat p m n2 S1 := by rw [hS1]; exact HMK1.out.swap hRk hlt
        have hSx : en S R col = x := by
         rw [HXE.out, hS]; unfold en
         rw [swapL_get (by rw [HMl.out]; omega) (by rw [HMl.out]; omega)]
         by_cases e : R = q
         · rw [if_pos e, e]
         · rw [if_neg e, if_pos rfl]
        have hk01 := HKP.out.trans hk1
        obtain ⟨ad3, B3, c3, hA3, hc3, hf3, hI3, _⟩ := hC1.rows.get (i := R) (by rw [hSm.len]; omega)
        obtain rfl := Option.some.inj hA3
        have hl3 := (hSm.get (show R < m by omega)).1
        obtain ⟨b3, y, hB3, hy, _, hcy, _⟩ := hI3.at_ (j := col) (by rw [hl3]; exact hcn)
        have hyx : y = x := by rw [← hSx]; unfold en; simp [List.getD] at hy ⊢; rw [hy]; rfl
        subst hyx
        subst hB3
        rw [hl3] at hc3
        have hy1 : 1 ≤ y := by omega
        have hy2 : y < p := hxb.2
        have hinv := invM_spec HP.out hy1 hy2
        have e5 := hC1.c5
        have hD := stepD_any p y R m n n2 w.heap.size (w.heap.size + 1) (w.heap.size + 1 + 1) (some ad) cap S fp A' cap' S1 fp' w1 hC1 hSm hS1m hRk hm hn hn2 (by omega) (by omega) (by omega) hy2 (by have := hinv.2.1; omega) hinv.2.2 (HNF.out w1 hk01)
        have HD := lH hD; have HS := lH hS; have HS1 := lH hS1; have HSm := lH hSm; have HS1m := lH hS1m; have HK01 := lH hk01; clear hD hS hS1 hSm hS1m hSx hk01 hI3 hl3 hy hC1 hk1 hinv hcq hcx hf3
        go_wp2_with (fail)
        refine HD.out.mono ?_
        clear HD hc3 hcy e5
        rintro e w2 ⟨rfl, hC2, hk2⟩
        obtain ⟨iv, hiv⟩ : ∃ iv, iv = invM p y := ⟨_, rfl⟩
        obtain ⟨M2, hM2⟩ : ∃ M2, M2 = scaleL p R iv S := ⟨_, rfl⟩
        obtain ⟨K2, hK2⟩ : ∃ K2, K2 = scaleL p R iv S1 := ⟨_, rfl⟩
        rw [← hiv, ← hM2, ← hK2] at hC2
        have hm2 : Mat p m n M2 := by rw [hM2]; exact HSm.out.scale (by omega) hRk iv
        have hkm2 : Mat p m n2 K2 := by rw [hK2]; exact HS1m.out.scale (by omega) hRk iv
        have hk02 := HK01.out.trans hk2
        have e5 := hC2.c5
        have HC2 := lH hC2; have Hm2 := lH hm2; have Hkm2 := lH hkm2; have HIV := lH hiv; have HM2 := lH hM2; have HK2 := lH hK2; have HK02 := lH hk02; clear hiv hM2 hK2 hm2 hkm2 hk02 hC2 hk2
        go_wp2_with (fail)
        clear e5
        go_loopw [65] (fun i wr5 => ∃ g : Nat, g ≤ m ∧ i = .int .i64 g ∧ Cap wr5 p w.heap.size (w.heap.size + 1) (w.heap.size + 1 + 1) (some ad) cap (elimTo p R (fun i => en M2 i col) M2 g) fp A' cap' (elimTo p R (fun i => en M2 i col) K2 g) fp' m ∧ Keeps (fun b => b ∈ fp ∨ b ∈ fp') W wr5) (fun i _ => m - (intOf i).toNat)
        case atStart => exact ⟨0, Nat.zero_le _, rfl, by rw [elimTo_zero, elimTo_zero]; exact HC2.out, HK02.out⟩
        case round =>
         obtain ⟨g, hg, rfl, hCg, hkg⟩ := hrel
         have hEm := Hm2.out.elim (r := R) (q := g) (f := fun i => en M2 i col) (by omega)
         have hEk := Hkm2.out.elim (r := R) (q := g) (f := fun i => en M2 i col) (by omega)
         have e5 := hCg.c5
         have hml2 := Hm2.out.len
         have hkl2 := Hkm2.out.len
         by_cases hgk : g < m
         · have hgI : (g : Int) < (m : Int) := by omega
           by_cases hgR : g = R
           · have hb : ((g : Int) != (R : Int)) = false := by simp; omega
             have hsk := elimTo_skip (p := p) (L := M2) (f := fun i => en M2 i col) (.inl hgR)
             have hsk2 := elimTo_skip (p := p) (L := K2) (f := fun i => en M2 i col) (.inl hgR)
             have HR := lH (show Cap wr p w.heap.size (w.heap.size + 1) (w.heap.size + 1 + 1) (some ad) cap (elimTo p R (fun i => en M2 i col) M2 (g + 1)) fp A' cap' (elimTo p R (fun i => en M2 i col) K2 (g + 1)) fp' m by rw [hsk, hsk2]; exact hCg)
             have HGR := lH hgR; have HKG := lH hkg; clear hsk hsk2 hgR hEm hEk hml2 hkl2 hCg hkg
             go_wp2_with (fail)
             go_roundw
             case rel => exact ⟨g + 1, by omega, by go_num, HR.out, HKG.out⟩
             case measure => simp [intOf]; omega
           · have hb : ((g : Int) != (R : Int)) = true := by simp; omega
             obtain ⟨ad4, B4, c4, hA4, hc4, hf4, hI4, _⟩ := hCg.rows.get (i := g) (by rw [elimTo_length, hml2]; exact hgk)
             obtain rfl := Option.some.inj hA4
             rw [elimTo_at (by rw [hml2]; exact hgk)] at hc4 hI4
             have hgl := (Hm2.out.get hgk).1
             rw [hgl] at hc4
             obtain ⟨b4, x2, hB4, hx2, _, hcx2, _⟩ := hI4.at_ (j := col) (by rw [hgl]; exact hcn)
             have hx2e : x2 = en M2 g col := by unfold en; simp [List.getD] at hx2 ⊢; rw [hx2]; rfl
             have hx2b := Hm2.out.en (by omega) hgk col
             rw [← hx2e] at hx2b
             subst hB4
             by_cases hx20 : x2 = 0
             · subst hx20
               have hsk := elimTo_skip (p := p) (r := R) (q := g) (L := M2) (f := fun i => en M2 i col) (.inr hx2e.symm)
               have hsk2 := elimTo_skip (p := p) (r := R) (q := g) (L := K2) (f := fun i => en M2 i col) (.inr hx2e.symm)
               have HR := lH (show Cap wr p w.heap.size (w.heap.size + 1) (w.heap.size + 1 + 1) (some ad) cap (elimTo p R (fun i => en M2 i col) M2 (g + 1)) fp A' cap' (elimTo p R (fun i => en M2 i col) K2 (g + 1)) fp' m by rw [hsk, hsk2]; exact hCg)
               have HKG := lH hkg; clear hsk hsk2 hEm hEk hml2 hkl2 hCg hkg hI4 hx2 hx2e hgl hf4
               go_wp2_with (fail)
               go_roundw
               case rel => exact ⟨g + 1, by omega, by go_num, HR.out, HKG.out⟩
               case measure => simp [intOf]; omega
             · have hx21 : (x2 != 0) = true := by simp; exact hx20
               have hst := elimTo_step (p := p) (r := R) (q := g) (L := M2) (f := fun i => en M2 i col) (by rw [hml2]; exact hgk) hgR (by rw [← hx2e]; exact hx20)
               have hst2 := elimTo_step (p := p) (r := R) (q := g) (L := K2) (f := fun i => en M2 i col) (by rw [hkl2]; exact hgk) hgR (by rw [← hx2e]; exact hx20)
               have hSt := stepS_any p x2 g R m n n2 w.heap.size (w.heap.size + 1) (w.heap.size + 1 + 1) (some ad) cap _ fp A' cap' _ fp' wr hCg hEm hEk hgk hRk hgR hm hn hn2 (by omega) (by omega) hx2b.1 hx2b.2 (HNF.out wr hkg)
               rw [elimTo_at (by rw [hml2]; exact hgk), elimTo_piv (by rw [hml2]; exact hRk), elimTo_at (by rw [hkl2]; exact hgk), elimTo_piv (by rw [hkl2]; exact hRk)] at hSt
               rw [show -x2 = -(fun i => en M2 i col) g by rw [hx2e]] at hSt
               rw [← hst, ← hst2] at hSt
               have HSt := lH hSt; have HKG := lH hkg; clear hst hst2 hSt hEm hEk hml2 hkl2 hCg hkg hI4 hx2 hx2e hgl hf4 hgR
               go_wp2_with (fail)
               refine HSt.out.mono ?_
               clear HSt e5 hc4 hcx2
               rintro e w4 ⟨rfl, hC4, hk4⟩
               have HR := lH hC4
               have HKG2 := lH (HKG.out.trans hk4)
               clear hC4 hk4
               go_wp2_with (fail)
               go_roundw
               case rel => exact ⟨g + 1, by omega, by go_num, HR.out, HKG2.out⟩
               case measure => simp [intOf]; omega
         · obtain rfl : m = g := by omega
           obtain ⟨e1, e2, e3⟩ := redTo_some (p := p) (L := L) (A := K) (c := col) (k := q) (by rw [HRT.out]; show pvFrom M col (M.length - R) R = q; rw [HMl.out]; exact HPN.out) (by rw [HRT.out]; show q < M.length; rw [HMl.out]; omega) (M := M2) (by rw [HRT.out, HM2.out, HS.out, HIV.out, HXE.out])
           rw [HRT.out] at e1 e2 e3
           have e1 : (redTo p L K (col + 1)).1 = R + 1 := e1
           have e2 : (redTo p L K (col + 1)).2.1 = elimTo p R (fun i => en M2 i col) M2 m := by rw [e2, hml2]
           have e3 : (redTo p L K (col + 1)).2.2 = elimTo p R (fun i => en M2 i col) K2 m := by
            rw [e3]
            show elimTo p R (fun i => en M2 i col) (scaleL p R (invM p (en M q col)) (swapL K1 R q)) K1.length = _
            rw [HMK1.out.len, HK2.out, HS1.out, HIV.out, HXE.out]
           have HE := lH (pair_of e1 e2 e3)
           have HCG := lH hCg; have HKG := lH hkg; have HEK := lH hEk; clear e1 e2 e3 hEm hEk hml2 hkl2 hCg hkg
           go_wp2_with (fail)
           go_roundw
           case rel => exact ⟨col + 1, R + 1, _, _, by omega, by go_num, by go_num, HE.out, HEK.out, HCG.out, HKG.out⟩
           case measure => simp [intOf]; omega
    · obtain rfl : m = q := by omega
      have hpn : ¬ pvFrom M col (M.length - R) R < M.length := by rw [HMl.out, ← HPV.out, pvFrom_end]; omega
      have hred := redTo_none (p := p) (L := L) (A := K) (c := col) (by rw [HRT.out]; exact hpn)
      have HRD := lH hred; clear hpn hred
      go_wp2_with (fail)
      go_roundw
      case rel => exact ⟨col + 1, R, M, K1, by omega, by go_num, rfl, by rw [HRD.out]; exact HRT.out, HMK1.out, HC.out, HKP.out⟩
      case measure => simp [intOf]; omega
set_option maxHeartbeats 1000000 in
theorem clones_any (A : Option Addr) (c : Nat) (hs : List Hd) (w : World) (h : RdR w A hs) (hl : hs.length ≤ 1048576) (hr : ∀ x, x ∈ hs → x.2.2.length ≤ 1048576) :
  Calls Tryz.prog 103 #[.slice A hs.length c] w (RetSS w (hs.map fun h : Hd => h.2.2)) := by
 obtain ⟨L, hLh⟩ : ∃ L, L = hs.map fun h : Hd => h.2.2 := ⟨_, rfl⟩
 rw [← hLh]
 obtain ⟨m, hmm⟩ : ∃ m, m = hs.length := ⟨_, rfl⟩
 rw [← hmm] at hl ⊢
 have HLh := lH hLh; have HM := lH hmm
 have hLen := lH (show L.length = m by rw [hLh, List.length_map, hmm])
 clear hLh hmm
 go_enter Tryz.func103, Tryz.ntmps103
 go_wp2_with (at_make; refine wpList_make_Sl _ rfl _ _ _ rfl 23 Tryz.underlying27 info_ints 0 m rfl rfl rfl rfl (Nat.zero_le _) (by omega) (by unfold maxLen; omega) ?_; intro G w1 hs1 hG hb1)
 have hOM0 : OM w w1 (some G) m [] := by
  refine ⟨[], rfl, ⟨by simpa using hs1, fun h hh => (by cases hh), .nil, fun h hh => (by cases hh)⟩, fun b hb => ?_, hb1⟩
  have : b = G.block := by simpa [fpR] using hb
  subst this; exact hG
 clear hs1
 go_loopw [11, 3] (fun i v wr => ∃ (k : Nat) (A' : Option Addr) (c' : Nat), k ≤ m ∧ i = .int .i64 k ∧ v = .slice A' k c' ∧ OM w wr A' c' (L.take k)) (fun i _ _ => m - (intOf i).toNat)
 case atStart => exact ⟨0, some G, m, Nat.zero_le _, rfl, rfl, hOM0⟩
 case round =>
  clear hOM0
  obtain ⟨k, A', c', hk, rfl, rfl, hOM⟩ := hrel
  by_cases hlt : k < m
  · obtain ⟨ad, B, d, l, rfl, hx, hc, hri⟩ := (h.below hOM.below_).at_ (k := k) (by rw [← HM.out]; exact hlt)
    have hlx : L[k]? = some l := by rw [HLh.out, List.getElem?_map, hx]; rfl
    have hll : l.length ≤ 1048576 := hr _ (List.mem_of_getElem? hx)
    obtain ⟨gs, hLg, hO, hf, h0⟩ := hOM
    have hgl : gs.length = k := by
     have := congrArg List.length hLg
     rw [List.length_take, hLen.out, List.length_map] at this
     omega
    have HX := lH hlx; have HG := lH hLg; have HGL := lH hgl
    have hkI : (k : Int) < (m : Int) := by omega
    have hC := clone_any B d l wr hri (by omega)
    have HC := lH hC; clear hx hlx hLg hgl hC h hr
    go_wp2_with (fail)
    refine HC.out.mono ?_
    rintro e w1 ⟨B1, c1, rfl, hi1, hf1, hb1⟩
    have hsl : Sl (w1.alloc (.cells #[.slice B1 l.length c1] 23)) 23 1 A' k c' (gs.map Hd.val) := by
     have := (hO.sl.below hb1).alloc (.cells #[.slice B1 l.length c1] 23)
     rwa [HGL.out] at this
    go_wp2_with (at_builtin; refine wpList_append_Sl _ rfl _ _ _ rfl 23 Tryz.underlying27 info_ints rfl (by omega) rfl hsl rfl (news := [.slice B1 l.length c1]) rfl (Sl.rdc (Sl.laid w1 23 1 1 #[.slice B1 l.length c1] (by unfold maxLen; omega) rfl)) (by intro u hu; simp at hu; subst hu; rfl) (by unfold maxLen; omega) (by omega) ?_; intro A2 c2 w2 hs2 hA2 hk2)
    have hal : Below w1.heap.size w1 (w1.alloc (.cells #[.slice B1 l.length c1] 23)) := (Below.refl _ _).alloc (Nat.le_refl _) _
    have hOM2 := OM.snoc (w1 := w1.alloc (.cells #[.slice B1 l.length c1] 23)) HG.out hO hf h0 (below_trans hb1 hal hb1.size) (hi1.below hal) hf1 (by rw [HGL.out]) hs2 hA2 hk2
    have HO := lH hOM2; clear hOM2 hs2 hsl hO hf
    go_roundw
    case rel => exact ⟨k + 1, A2, c2, by omega, by go_num, rfl, by rw [List.take_add_one, HX.out]; exact HO.out⟩
    case measure => simp [intOf]; omega
  · obtain rfl : m = k := by omega
    have hOM' : OM w wr A' c' L := by have := hOM; rwa [List.take_of_length_le (by rw [hLen.out]; omega)] at this
    clear hOM h hr
    go_wp2_with (fail)
    go_ret
    have := hOM'.ret
    rw [hLen.out] at this
    exact this
theorem nils_rw {w1 : World} {G : Addr} {m : Nat} (hs : Sl w1 23 1 (some G) m m ((List.replicate m nilHd).map Hd.val)) : RwF w1 (some G) m (List.replicate m []) [G.block] := by
 refine ⟨List.replicate m nilHd, by simp [nilHd], ⟨by simpa using hs, fun h hh => ?_, ?_, fun h hh b hb => ?_⟩, fun b hb => ?_⟩
 · obtain rfl := (List.mem_replicate.1 hh).2
   exact Sl.nil _ _ _
 · refine List.pairwise_iff_getElem.2 fun i j hi hj _ b hb => ?_
   simp [nilHd] at hb
 · obtain rfl := (List.mem_replicate.1 hh).2
   simp [nilHd] at hb
 · rcases List.mem_append.1 hb with hb | hb
   · simpa using hb
   · obtain ⟨x, hx, hb⟩ := mem_fpR.1 hb
     obtain rfl := (List.mem_replicate.1 hx).2
     simp [nilHd] at hb
set_option maxHeartbeats 1000000 in
theorem reduced_any (p : Int) (n : Nat) (A : Option Addr) (c : Nat) (hs : List Hd) (w : World) (h : RdR w A hs) (hp : fieldB p = true) (hm : Mat p hs.length n (hs.map fun h : Hd => h.2.2)) (hl : hs.length ≤ 1048576) (hn : n ≤ 1048576) :
  Calls Tryz.prog 112 #[.int .i64 p, .slice A hs.length c, .int .i64 n] w (RetSS w (redM p n (hs.map fun h : Hd => h.2.2))) := by
 have hC := clones_any A c hs w h hl (fun x hx => by have := (hm.row _ (List.mem_map_of_mem hx)).1; omega)
 obtain ⟨L, hLh⟩ : ∃ L, L = hs.map fun h : Hd => h.2.2 := ⟨_, rfl⟩
 rw [← hLh] at hm hC ⊢
 obtain ⟨m, hmm⟩ : ∃ m, m = hs.length := ⟨_, rfl⟩
 rw [← hmm] at hl hm hC ⊢
 have hpb := fieldB_bounds hp
 have HC := lH hC; have HMat := lH hm; have HL := lH hm.len; clear hC hLh hmm hm h
 go_enter Tryz.func112, Tryz.ntmps112
 go_wp2_with (fail)
 refine HC.out.mono ?_
 rintro e w1 hret
 obtain ⟨A1, c1, rfl, hO1⟩ := hret.om
 rw [HL.out]
 clear hret
 go_wp2_with (at_make; refine wpList_make_Sl _ rfl _ _ _ rfl 23 Tryz.underlying27 info_ints m m rfl rfl rfl rfl (Nat.le_refl _) (by omega) (by unfold maxLen; omega) ?_; intro G w2 hs2 hG hb2)
 have hs2' : Sl w2 23 1 (some G) m m ((List.replicate m nilHd).map Hd.val) := by rw [← madeNils]; simpa using hs2
 have hK := nils_rw hs2'
 have hGl : G.block < w2.heap.size := hs2'.lt G.block (by simp)
 obtain ⟨fp, hR1, hfr, hlt⟩ := hO1.rw_
 have hR2 := hR1.below hb2
 have hmK : Mat p m 0 (List.replicate m []) := ⟨by simp, fun v hv => by obtain rfl := (List.mem_replicate.1 hv).2; exact ⟨rfl, fun x hx => by cases hx⟩⟩
 have hRd := reduction_any p n m 0 A1 c1 L fp (some G) m (List.replicate m []) [G.block] w2 hR2 hK (fun b hb hb' => by
  have := hlt b hb
  have e : b = G.block := by simpa using hb'
  omega) (fun b hb => Nat.lt_of_lt_of_le (hlt b hb) hb2.size) (fun b hb => by have e : b = G.block := by simpa using hb
                                                                              omega) hp HMat.out hmK hl hn (by omega)
 obtain ⟨e1, e2⟩ := redTo_fst p L (List.replicate m []) [] n
 rw [e1, e2] at hRd
 have hB2 : Below w.heap.size w w2 := below_trans hO1.below_ hb2 hO1.below_.size
 have hres : redM p n L = (redTo p L [] n).2.1.take (redTo p L [] n).1 := rfl
 obtain ⟨hMt, hRm⟩ := redTo_mat hp HMat.out [] (Nat.le_refl n)
 obtain ⟨R, hR⟩ : ∃ R, R = (redTo p L [] n).1 := ⟨_, rfl⟩
 obtain ⟨M, hM⟩ : ∃ M, M = (redTo p L [] n).2.1 := ⟨_, rfl⟩
 rw [← hR, ← hM] at hRd hres
 rw [← hM] at hMt
 rw [← hR] at hRm
 have HRd := lH hRd; have HRES := lH hres; have HML := lH hMt.len; have HP := lH hp; have HFR := lH hfr
 have hGw : w.heap.size ≤ G.block := Nat.le_trans hO1.below_.size hG
 clear hRd hres hMt hs2 hs2' hK hR1 hR2 hmK e1 e2 hO1 hR hM hp hfr hlt
 go_wp2_with (fail)
 refine HRd.out.mono ?_
 rintro e w3 ⟨rfl, h1, _, hk3⟩
 have hB3 : Below w.heap.size w w3 := below_keeps hB2 hk3 hB2.size fun b hb => by
  rcases hb with hb | hb
  · exact HFR.out b hb
  · have e : b = G.block := by simpa using hb
    omega
 obtain ⟨gs, hLg, hO, hf, h0⟩ := h1.om (w0 := w) HFR.out hB3
 have hgl : gs.length = m := by
  have := congrArg List.length hLg
  rw [HML.out, List.length_map] at this; omega
 have HG := lH hLg; have HGL := lH hgl
 have hsl : Sl w3 23 1 A1 m c1 (gs.map Hd.val) := by have := hO.sl; rwa [hgl] at this
 clear hLg hgl h1
 go_wp2_with (refine wpList_slice_Sl rfl (.tmp 20) none (some (.tmp 21)) (some (.tmp 22)) 27 rfl 23 Tryz.underlying27 info_ints rfl hsl 0 R R (optNone rfl) (optSome (by omega)) (optSome (by omega)) (by omega) (by omega) (Nat.le_refl _) (by have := hsl.2.1; omega) ?_; intro A2 hcut hfp _)
 go_ret
 have hT := OM.take (k := R) (m := R) (A' := A2) HG.out hO hf h0 (by rw [HGL.out]; omega) (by rw [List.map_take]; simpa using hcut) hfp
 have hlen : (M.take R).length = R := by rw [List.length_take, HML.out]; omega
 have hr := hT.ret
 rw [hlen] at hr
 rw [HRES.out]
 exact hr
set_option maxHeartbeats 400000 in
theorem l1Same_any (A B : Option Addr) (c d : Nat) (l m : List Int) (w : World) (ha : RdI w A l) (hb : RdI w B m) (hl : l.length ≤ 17592186044416) :
  Calls Tryz.prog 178 #[.slice A l.length c, .slice B m.length d] w fun e w' => e = .returned (.bool (decide (l = m))) ∧ Qt w w' := by
 by_cases hlen : l.length = m.length
 · have h0 : ((l.length : Int) != (m.length : Int)) = false := by rw [hlen]; simp
   go_enter Tryz.func178, Tryz.ntmps178
   go_wp2
   go_loopw [13] (fun i wr => ∃ k n : Nat, k ≤ l.length ∧ i = .int .i64 k ∧ l.take k = m.take k ∧ wr = w.drewN n)
    (fun i _ => l.length - (intOf i).toNat)
   case atStart => exact ⟨0, 0, Nat.zero_le _, rfl, by simp, rfl⟩
   case round =>
    obtain ⟨k, n, hk, rfl, htk, rfl⟩ := hrel
    by_cases hlt : k < l.length
    · obtain ⟨ad, x, rfl, hx, hc⟩ := ha.at_ hlt
      obtain ⟨ad', y, rfl, hy, hc'⟩ := hb.at_ (j := k) (by omega)
      have hlt2 : (k : Int) < (m.length : Int) := by omega
      have HT := lH htk; have HL := lH hlen; have HX := lH hx; have HY := lH hy; clear htk hlen hx hy ha hb h0
      go_wp2
      go_quiet (fail)
      go_wp2
      · have hne : (x != y) = true := by assumption
        go_ret
        refine ⟨ret_bool ?_, _, World.drewN_drewN _ _ _⟩
        have : ¬ l = m := by
         intro e
         have h1 := HX.out; have h2 := HY.out
         rw [e, h2] at h1
         simp at hne; exact hne (Option.some.inj h1).symm
        simp [this]
      · have heq : (x != y) = false := by assumption
        go_roundw
        case rel =>
         refine ⟨k + 1, _, by omega, by go_num, ?_, rfl⟩
         have e : x = y := by simpa using heq
         rw [List.take_add_one, List.take_add_one, HT.out, HX.out, HY.out, e]
        case measure => simp [intOf]; omega
    · obtain rfl : k = l.length := by omega
      have HT := lH htk; clear htk
      go_wp2
      go_ret
      refine ⟨ret_bool ?_, _, rfl⟩
      have := HT.out
      rw [List.take_of_length_le (Nat.le_refl _), List.take_of_length_le (by omega)] at this
      simp [this]
 · have h0 : ((l.length : Int) != (m.length : Int)) = true := by simp; omega
   go_enter Tryz.func178, Tryz.ntmps178
   go_wp2
   go_ret
   refine ⟨ret_bool ?_, 0, rfl⟩
   have : ¬ l = m := fun e => hlen (by rw [e])
   simp [this]
set_option maxHeartbeats 1000000 in
theorem spSame_any (A B : Option Addr) (c d : Nat) (hs gs : List Hd) (w : World) (ha : RdR w A hs) (hb : RdR w B gs) (hl : hs.length ≤ 17592186044416) (hr : ∀ x, x ∈ hs → x.2.2.length ≤ 17592186044416) :
  Calls Tryz.prog 166 #[.slice A hs.length c, .slice B gs.length d] w fun e w' => e = .returned (.bool (decide (hs.map (fun h : Hd => h.2.2) = gs.map (fun h : Hd => h.2.2)))) ∧ Qt w w' := by
 by_cases hlen : hs.length = gs.length
 · have h0 : ((hs.length : Int) != (gs.length : Int)) = false := by rw [hlen]; simp
   go_enter Tryz.func166, Tryz.ntmps166
   go_wp2
   go_loopw [13] (fun i wr => ∃ k n : Nat, k ≤ hs.length ∧ i = .int .i64 k ∧ (hs.take k).map (fun h : Hd => h.2.2) = (gs.take k).map (fun h : Hd => h.2.2) ∧ wr = w.drewN n)
    (fun i _ => hs.length - (intOf i).toNat)
   case atStart => exact ⟨0, 0, Nat.zero_le _, rfl, by simp, rfl⟩
   case round =>
    obtain ⟨k, n, hk, rfl, htk, hwr⟩ := hrel
    have ha : RdR wr A hs := by rw [hwr]; exact ha
    have hb : RdR wr B gs := by rw [hwr]; exact hb
    have HW := lH hwr; clear hwr
    by_cases hlt : k < hs.length
    · obtain ⟨ad, B1, c1, l, rfl, hx, hc1, hr1⟩ := ha.at_ hlt
      obtain ⟨bd, B2, c2, m, rfl, hy, hc2, hr2⟩ := hb.at_ (k := k) (by omega)
      have hll : l.length ≤ 17592186044416 := hr _ (List.mem_of_getElem? hx)
      have hlt2 : (k : Int) < (gs.length : Int) := by omega
      have HT := lH htk; have HL := lH hlen; have HX := lH hx; have HY := lH hy; clear htk hlen hx hy ha hb h0 hr
      by_cases hlm : l = m
      · have hd : decide (l = m) = true := decide_eq_true hlm
        have hQ := fun q => l1Same_any B1 B2 c1 c2 l m (wr.drewN q) hr1 hr2 hll
        rw [hd] at hQ
        have HQ := lH hQ; have HLM := lH hlm; clear hQ hd hlm
        go_wp2
        go_quiet (first | (go_at_call 178; refine Calls.quiet_of (HQ.out _)))
        go_wp2
        go_roundw
        case rel => exact ⟨k + 1, _, by omega, by go_num, by rw [List.take_add_one, List.take_add_one, List.map_append, List.map_append, HT.out, HX.out, HY.out, HLM.out]; rfl, by rw [HW.out]; exact World.drewN_drewN _ _ _⟩
        case measure => simp [intOf]; omega
      · have hd : decide (l = m) = false := decide_eq_false hlm
        have hQ := fun q => l1Same_any B1 B2 c1 c2 l m (wr.drewN q) hr1 hr2 hll
        rw [hd] at hQ
        have HQ := lH hQ; have HLM := lH hlm; clear hQ hd hlm
        go_wp2
        go_quiet (first | (go_at_call 178; refine Calls.quiet_of (HQ.out _)))
        go_wp2
        go_ret
        refine ⟨ret_bool ?_, _, by rw [HW.out]; exact World.drewN_drewN _ _ _⟩
        symm
        apply decide_eq_false
        intro e
        have h1 := congrArg (·[k]?) e
        simp only [List.getElem?_map, HX.out, HY.out, Option.map_some, Option.some.injEq] at h1
        exact HLM.out h1
    · obtain rfl : k = hs.length := by omega
      have HT := lH htk; clear htk
      go_wp2
      go_ret
      refine ⟨ret_bool ?_, _, HW.out⟩
      have := HT.out
      rw [List.take_of_length_le (Nat.le_refl _), List.take_of_length_le (by omega)] at this
      exact (decide_eq_true this).symm
 · have h0 : ((hs.length : Int) != (gs.length : Int)) = true := by simp; omega
   go_enter Tryz.func166, Tryz.ntmps166
   go_wp2
   go_ret
   refine ⟨ret_bool ?_, 0, rfl⟩
   symm
   apply decide_eq_false
   intro e
   have := congrArg List.length e
   simp at this
   exact hlen this
abbrev tRel : TypeId := 29
abbrev tSpc : TypeId := 155
theorem alloc_box (w : World) (o : Obj) : ∃ W, W = w.alloc o ∧ Below w.heap.size w W ∧ W.heap[w.heap.size]? = some o := ⟨_, rfl, (Below.refl _ _).alloc (Nat.le_refl _) _, heap_alloc_new w o⟩
set_option maxRecDepth 8000 in
set_option maxHeartbeats 2000000 in
theorem spGood_any (p : Int) (n : Nat) (A : Option Addr) (c : Nat) (hs : List Hd) (w : World) (h : RdR w A hs) (hn : n ≤ 24) (hl : hs.length ≤ 1048576) (hr : ∀ x, x ∈ hs → x.2.2.length ≤ 1048576) :
  Calls Tryz.prog 143 #[.int .i64 p, .agg #[.int .i64 n, .slice A hs.length c]] w fun e w' => e = .returned (.bool (fieldB p && redB p n (hs.map fun h : Hd => h.2.2))) ∧ Below w.heap.size w w' := by
 obtain ⟨L, hL⟩ : ∃ L, L = hs.map fun h : Hd => h.2.2 := ⟨_, rfl⟩
 obtain ⟨m, hm⟩ : ∃ m, m = hs.length := ⟨_, rfl⟩
 obtain ⟨F, hF⟩ : ∃ F, F = (fieldB p && redB p n L) := ⟨_, rfl⟩
 have hLm : L.length = m := by rw [hL, hm, List.length_map]
 obtain ⟨W, hW, b0, k0⟩ := alloc_box w (.cells #[.int .i64 (n : Int), .slice A m c] tSpc)
 have hG := fun W => fdGood_any p W
 have hI : ∀ W, Calls Tryz.prog 116 #[.int .i64 (n : Int), .int .i64 0, .int .i64 24] W fun e w' => e = .returned (.bool true) ∧ W = w' := fun W => by
  have := l1In_any (n : Int) 0 24 W
  rwa [show (decide ((0 : Int) ≤ (n : Int)) && decide ((n : Int) ≤ 24)) = true by simp; omega] at this
 have hR := h.below b0
 rw [← hL, ← hm, ← hF]
 unfold redB at hF
 rw [hLm, Int.toNat_natCast] at hF
 clear h
 by_cases h1 : fieldB p = true
 case neg =>
  have h1' : fieldB p = false := by simpa using h1
  rw [h1', Bool.false_and] at hF
  simp only [h1'] at hG
  clear h1 h1'; have hL_h := lH hL; have hm_h := lH hm; have hF_h := lH hF; have hLm_h := lH hLm; have b0_h := lH b0; have k0_h := lH k0; have hG_h := lH hG; have hI_h := lH hI; have hR_h := lH hR; have hr_h := lH hr; clear hL hm hF hLm b0 k0 hG hI hR hr
  go_enter Tryz.func143, Tryz.ntmps143
  go_upto_region 1 with (fail)
  rw [← hW]
  clear hW
  go_wp2_with (fail)
  refine beginH (fun w' => w'.heap[w.heap.size]? = some (.cells #[.int .i64 (n : Int), .slice A m c] tSpc)) (by kernel_rfl) ?_
  have hbd : Below W.heap.size W W.drew := below_drewN (Below.refl _ _) 1
  generalize W.drew = W1 at hbd ⊢
  have hB := below_trans b0_h.out hbd b0_h.out.size
  replace k0_h := lH (box_below k0_h.out hbd)
  have hbd_h := lH hbd; have hB_h := lH hB; clear hbd hB
  refine tkH 0 ?_ rfl k0_h.out (fun W' hW' => ?_) ?_; rotate_left; · (obtain ⟨⟨y0, y1⟩, y2, y3⟩ := box2 hW'; clear hW'; go_simp; first | done | with_reducible rfl)
  simp only [Act.put, nS]
  refine' callH 1 (f := _) (args := _) rfl (by kernel_rfl) (by rfl) ?_ ?_; rotate_left 2; · (go_simp; first | done | with_reducible rfl | (constructor <;> with_reducible rfl))
  refine (hG_h.out W1).mono ?_
  rintro e w1 ⟨rfl, rfl⟩
  refine ⟨_, rfl, k0_h.out, ?_⟩
  simp only [Act.put, nS]
  refine tkH 2 ?_ rfl k0_h.out (fun W' hW' => ?_) ?_; rotate_left; · (obtain ⟨⟨y0, y1⟩, y2, y3⟩ := box2 hW'; clear hW'; go_simp; first | done | with_reducible rfl)
  simp only [Act.put, nS]
  refine offH 3 rfl (by kernel_rfl) (by kernel_rfl) (by kernel_rfl) (fun _ _ _ h => h) k0_h.out (by rfl) ?_
  simp only [Act.put, nS]
  refine offH 4 rfl (by kernel_rfl) (by kernel_rfl) (by kernel_rfl) (fun _ _ _ h => h) k0_h.out (by rfl) ?_
  simp only [Act.put, nS]
  refine offOneH 5 rfl (by kernel_rfl) (by rfl) k0_h.out ?_
  simp only [Act.put, nS]
  refine tkH 6 ?_ rfl k0_h.out (fun W' hW' => ?_) ?_; rotate_left; · (obtain ⟨⟨y0, y1⟩, y2, y3⟩ := box2 hW'; clear hW'; go_simp; first | done | with_reducible rfl)
  simp only [Act.put, nS]
  refine tkH 7 ?_ rfl k0_h.out (fun W' hW' => ?_) ?_; rotate_left; · (obtain ⟨⟨y0, y1⟩, y2, y3⟩ := box2 hW'; clear hW'; go_simp; first | done | with_reducible rfl)
  simp only [Act.put, nS]
  refine offH 8 rfl (by kernel_rfl) (by kernel_rfl) (by kernel_rfl) (fun _ _ _ h => h) k0_h.out (by rfl) ?_
  simp only [Act.put, nS]
  refine offH 9 rfl (by kernel_rfl) (by kernel_rfl) (by kernel_rfl) (fun _ _ _ h => h) k0_h.out (by rfl) ?_
  simp only [Act.put, nS]
  refine offH 10 rfl (by kernel_rfl) (by kernel_rfl) (by kernel_rfl) (fun _ _ _ h => h) k0_h.out (by rfl) ?_
  simp only [Act.put, nS]
  refine offH 11 rfl (by kernel_rfl) (by kernel_rfl) (by kernel_rfl) (fun _ _ _ h => h) k0_h.out (by rfl) ?_
  simp only [Act.put, nS]
  refine offH 12 rfl (by kernel_rfl) (by kernel_rfl) (by kernel_rfl) (fun _ _ _ h => h) k0_h.out (by rfl) ?_
  simp only [Act.put, nS]
  refine offH 13 rfl (by kernel_rfl) (by kernel_rfl) (by kernel_rfl) (fun _ _ _ h => h) k0_h.out (by rfl) ?_
  simp only [Act.put, nS]
  refine tkH 14 ?_ rfl k0_h.out (fun W' hW' => ?_) ?_; rotate_left; · (obtain ⟨⟨y0, y1⟩, y2, y3⟩ := box2 hW'; clear hW'; go_simp; first | done | with_reducible rfl)
  simp only [Act.put, nS]
  refine tkH 15 ?_ rfl k0_h.out (fun W' hW' => ?_) ?_; rotate_left; · (obtain ⟨⟨y0, y1⟩, y2, y3⟩ := box2 hW'; clear hW'; go_simp; first | done | with_reducible rfl)
  simp only [Act.put, nS]
  refine offH 16 rfl (by kernel_rfl) (by kernel_rfl) (by kernel_rfl) (fun _ _ _ h => h) k0_h.out (by rfl) ?_
  simp only [Act.put, nS]
  refine offH 17 rfl (by kernel_rfl) (by kernel_rfl) (by kernel_rfl) (fun _ _ _ h => h) k0_h.out (by rfl) ?_
  simp only [Act.put, nS]
  refine offH 18 rfl (by kernel_rfl) (by kernel_rfl) (by kernel_rfl) (fun _ _ _ h => h) k0_h.out (by rfl) ?_
  simp only [Act.put, nS]
  refine offH 19 rfl (by kernel_rfl) (by kernel_rfl) (by kernel_rfl) (fun _ _ _ h => h) k0_h.out (by rfl) ?_
  simp only [Act.put, nS]
  refine offH 20 rfl (by kernel_rfl) (by kernel_rfl) (by kernel_rfl) (fun _ _ _ h => h) k0_h.out (by rfl) ?_
  simp only [Act.put, nS]
  refine offOneH 21 rfl (by kernel_rfl) (by rfl) k0_h.out ?_
  simp only [Act.put, nS]
  refine tkH 22 ?_ rfl k0_h.out (fun W' hW' => ?_) ?_; rotate_left; · (obtain ⟨⟨y0, y1⟩, y2, y3⟩ := box2 hW'; clear hW'; go_simp; first | done | with_reducible rfl)
  simp only [Act.put, nS]
  refine tkH 23 ?_ rfl k0_h.out (fun W' hW' => ?_) ?_; rotate_left; · (obtain ⟨⟨y0, y1⟩, y2, y3⟩ := box2 hW'; clear hW'; go_simp; first | done | with_reducible rfl)
  simp only [Act.put, nS]
  refine offH 24 rfl (by kernel_rfl) (by kernel_rfl) (by kernel_rfl) (fun _ _ _ h => h) k0_h.out (by rfl) ?_
  simp only [Act.put, nS]
  refine offH 25 rfl (by kernel_rfl) (by kernel_rfl) (by kernel_rfl) (fun _ _ _ h => h) k0_h.out (by rfl) ?_
  simp only [Act.put, nS]
  refine offH 26 rfl (by kernel_rfl) (by kernel_rfl) (by kernel_rfl) (fun _ _ _ h => h) k0_h.out (by rfl) ?_
  simp only [Act.put, nS]
  refine offH 27 rfl (by kernel_rfl) (by kernel_rfl) (by kernel_rfl) (fun _ _ _ h => h) k0_h.out (by rfl) ?_
  simp only [Act.put, nS]
  refine offH 28 rfl (by kernel_rfl) (by kernel_rfl) (by kernel_rfl) (fun _ _ _ h => h) k0_h.out (by rfl) ?_
  simp only [Act.put, nS]
  refine offH 30 rfl (by kernel_rfl) (by kernel_rfl) (by kernel_rfl) (fun _ _ _ h => h) k0_h.out (by rfl) ?_
  simp only [Act.put, nS]
  refine offH 31 rfl (by kernel_rfl) (by kernel_rfl) (by kernel_rfl) (fun _ _ _ h => h) k0_h.out (by rfl) ?_
  simp only [Act.put, nS]
  refine offOneH 29 rfl (by kernel_rfl) (by rfl) k0_h.out ?_
  simp only [Act.put, nS]
  refine offOneH 32 rfl (by kernel_rfl) (by rfl) k0_h.out ?_
  simp only [Act.put, nS]
  refine tkH 33 ?_ rfl k0_h.out (fun W' hW' => ?_) ?_; rotate_left; · (obtain ⟨⟨y0, y1⟩, y2, y3⟩ := box2 hW'; clear hW'; go_simp; first | done | with_reducible rfl)
  simp only [Act.put, nS]
  refine tkH 34 ?_ rfl k0_h.out (fun W' hW' => ?_) ?_; rotate_left; · (obtain ⟨⟨y0, y1⟩, y2, y3⟩ := box2 hW'; clear hW'; go_simp; first | done | with_reducible rfl)
  simp only [Act.put, nS]
  refine doneH (by kernel_rfl) ?_
  go_wp2_with (fail)
  go_ret
  exact ⟨ret_bool hF_h.out.symm, hB_h.out⟩
 case pos =>
 have hpb := fieldB_bounds h1
 rw [h1, Bool.true_and] at hF
 simp only [h1] at hG
 by_cases h2 : m ≤ n
 case neg =>
  have d2 : decide ((m : Int) ≤ (n : Int)) = false := decide_eq_false (by omega)
  rw [d2, Bool.false_and] at hF
  have d3 : decide (m ≤ n) = false := decide_eq_false h2
  clear h2; have hL_h := lH hL; have hm_h := lH hm; have hF_h := lH hF; have hLm_h := lH hLm; have b0_h := lH b0; have k0_h := lH k0; have hG_h := lH hG; have hI_h := lH hI; have hR_h := lH hR; have hr_h := lH hr; have h1_h := lH h1; have hpb_h := lH hpb; clear hL hm hF hLm b0 k0 hG hI hR hr h1 hpb
  go_enter Tryz.func143, Tryz.ntmps143
  go_upto_region 1 with (fail)
  rw [← hW]
  clear hW
  go_wp2_with (fail)
  refine beginH (fun w' => w'.heap[w.heap.size]? = some (.cells #[.int .i64 (n : Int), .slice A m c] tSpc)) (by kernel_rfl) ?_
  have hbd : Below W.heap.size W W.drew := below_drewN (Below.refl _ _) 1
  generalize W.drew = W1 at hbd ⊢
  have hB := below_trans b0_h.out hbd b0_h.out.size
  replace k0_h := lH (box_below k0_h.out hbd)
  have hbd_h := lH hbd; have hB_h := lH hB; clear hbd hB
  refine tkH 0 ?_ rfl k0_h.out (fun W' hW' => ?_) ?_; rotate_left; · (obtain ⟨⟨y0, y1⟩, y2, y3⟩ := box2 hW'; clear hW'; go_simp; first | done | with_reducible rfl)
  simp only [Act.put, nS]
  refine' callH 1 (f := _) (args := _) rfl (by kernel_rfl) (by rfl) ?_ ?_; rotate_left 2; · (go_simp; first | done | with_reducible rfl | (constructor <;> with_reducible rfl))
  refine (hG_h.out W1).mono ?_
  rintro e w1 ⟨rfl, rfl⟩
  refine ⟨_, rfl, k0_h.out, ?_⟩
  simp only [Act.put, nS]
  refine tkH 2 ?_ rfl k0_h.out (fun W' hW' => ?_) ?_; rotate_left; · (obtain ⟨⟨y0, y1⟩, y2, y3⟩ := box2 hW'; clear hW'; go_simp; first | done | with_reducible rfl)
  simp only [Act.put, nS]
  refine tkH 3 ?_ rfl k0_h.out (fun W' hW' => ?_) ?_; rotate_left; · (obtain ⟨⟨y0, y1⟩, y2, y3⟩ := box2 hW'; clear hW'; go_simp; first | done | with_reducible rfl)
  simp only [Act.put, nS]
  refine tkH 4 ?_ rfl k0_h.out (fun W' hW' => ?_) ?_; rotate_left; · (obtain ⟨⟨y0, y1⟩, y2, y3⟩ := box2 hW'; clear hW'; go_simp; first | done | with_reducible rfl)
  simp only [Act.put, nS]
  refine' callH 5 (f := _) (args := _) rfl (by kernel_rfl) (by rfl) ?_ ?_; rotate_left 2; · (go_simp; first | done | with_reducible rfl | (constructor <;> with_reducible rfl))
  refine (hI_h.out W1).mono ?_
  rintro e w1 ⟨rfl, rfl⟩
  refine ⟨_, rfl, k0_h.out, ?_⟩
  simp only [Act.put, nS]
  refine tkH 6 ?_ rfl k0_h.out (fun W' hW' => ?_) ?_; rotate_left; · (obtain ⟨⟨y0, y1⟩, y2, y3⟩ := box2 hW'; clear hW'; go_simp; first | done | with_reducible rfl)
  simp only [Act.put, nS]
  refine tkH 7 ?_ rfl k0_h.out (fun W' hW' => ?_) ?_; rotate_left; · (obtain ⟨⟨y0, y1⟩, y2, y3⟩ := box2 hW'; clear hW'; go_simp; first | done | with_reducible rfl)
  simp only [Act.put, nS]
  refine tkH 8 ?_ rfl k0_h.out (fun W' hW' => ?_) ?_; rotate_left; · (obtain ⟨⟨y0, y1⟩, y2, y3⟩ := box2 hW'; clear hW'; go_simp; first | done | with_reducible rfl)
  simp only [Act.put, nS]
  refine tkH 9 ?_ rfl k0_h.out (fun W' hW' => ?_) ?_; rotate_left; · (obtain ⟨⟨y0, y1⟩, y2, y3⟩ := box2 hW'; clear hW'; go_simp; first | done | with_reducible rfl)
  simp only [Act.put, nS]
  refine tkH 10 ?_ rfl k0_h.out (fun W' hW' => ?_) ?_; rotate_left; · (obtain ⟨⟨y0, y1⟩, y2, y3⟩ := box2 hW'; clear hW'; go_simp; first | done | with_reducible rfl)
  simp only [Act.put, nS]
  refine tkH 11 ?_ rfl k0_h.out (fun W' hW' => ?_) ?_; rotate_left; · (obtain ⟨⟨y0, y1⟩, y2, y3⟩ := box2 hW'; clear hW'; go_simp; first | done | with_reducible rfl)
  simp only [Act.put, nS]
  refine tkH 12 ?_ rfl k0_h.out (fun W' hW' => ?_) ?_; rotate_left; · (obtain ⟨⟨y0, y1⟩, y2, y3⟩ := box2 hW'; clear hW'; go_simp; first | done | with_reducible rfl)
  simp only [Act.put, nS]
  refine tkH 13 ?_ rfl k0_h.out (fun W' hW' => ?_) ?_; rotate_left; · (obtain ⟨⟨y0, y1⟩, y2, y3⟩ := box2 hW'; clear hW'; go_simp; first | done | with_reducible rfl)
  simp only [Act.put, nS]
  refine tkH 14 ?_ rfl k0_h.out (fun W' hW' => ?_) ?_; rotate_left; · (obtain ⟨⟨y0, y1⟩, y2, y3⟩ := box2 hW'; clear hW'; go_simp; first | done | with_reducible rfl)
  simp only [Act.put, nS]
  refine tkH 15 ?_ rfl k0_h.out (fun W' hW' => ?_) ?_; rotate_left; · (obtain ⟨⟨y0, y1⟩, y2, y3⟩ := box2 hW'; clear hW'; go_simp; first | done | with_reducible rfl)
  simp only [Act.put, nS]
  refine offH 16 rfl (by kernel_rfl) (by kernel_rfl) (by kernel_rfl) (fun _ _ _ h => h) k0_h.out (by rfl) ?_
  simp only [Act.put, nS]
  refine offH 17 rfl (by kernel_rfl) (by kernel_rfl) (by kernel_rfl) (fun _ _ _ h => h) k0_h.out (by rfl) ?_
  simp only [Act.put, nS]
  refine offH 18 rfl (by kernel_rfl) (by kernel_rfl) (by kernel_rfl) (fun _ _ _ h => h) k0_h.out (by rfl) ?_
  simp only [Act.put, nS]
  refine offH 19 rfl (by kernel_rfl) (by kernel_rfl) (by kernel_rfl) (fun _ _ _ h => h) k0_h.out (by rfl) ?_
  simp only [Act.put, nS]
  refine offH 20 rfl (by kernel_rfl) (by kernel_rfl) (by kernel_rfl) (fun _ _ _ h => h) k0_h.out (by rfl) ?_
  simp only [Act.put, nS]
  refine offOneH 21 rfl (by kernel_rfl) (by rfl) k0_h.out ?_
  simp only [Act.put, nS]
  refine tkH 22 ?_ rfl k0_h.out (fun W' hW' => ?_) ?_; rotate_left; · (obtain ⟨⟨y0, y1⟩, y2, y3⟩ := box2 hW'; clear hW'; go_simp; first | done | with_reducible rfl)
  simp only [Act.put, nS]
  refine tkH 23 ?_ rfl k0_h.out (fun W' hW' => ?_) ?_; rotate_left; · (obtain ⟨⟨y0, y1⟩, y2, y3⟩ := box2 hW'; clear hW'; go_simp; first | done | with_reducible rfl)
  simp only [Act.put, nS]
  refine offH 24 rfl (by kernel_rfl) (by kernel_rfl) (by kernel_rfl) (fun _ _ _ h => h) k0_h.out (by rfl) ?_
  simp only [Act.put, nS]
  refine offH 25 rfl (by kernel_rfl) (by kernel_rfl) (by kernel_rfl) (fun _ _ _ h => h) k0_h.out (by rfl) ?_
  simp only [Act.put, nS]
  refine offH 26 rfl (by kernel_rfl) (by kernel_rfl) (by kernel_rfl) (fun _ _ _ h => h) k0_h.out (by rfl) ?_
  simp only [Act.put, nS]
  refine offH 27 rfl (by kernel_rfl) (by kernel_rfl) (by kernel_rfl) (fun _ _ _ h => h) k0_h.out (by rfl) ?_
  simp only [Act.put, nS]
  refine offH 28 rfl (by kernel_rfl) (by kernel_rfl) (by kernel_rfl) (fun _ _ _ h => h) k0_h.out (by rfl) ?_
  simp only [Act.put, nS]
  refine offH 30 rfl (by kernel_rfl) (by kernel_rfl) (by kernel_rfl) (fun _ _ _ h => h) k0_h.out (by rfl) ?_
  simp only [Act.put, nS]
  refine offH 31 rfl (by kernel_rfl) (by kernel_rfl) (by kernel_rfl) (fun _ _ _ h => h) k0_h.out (by rfl) ?_
  simp only [Act.put, nS]
  refine offOneH 29 rfl (by kernel_rfl) (by rfl) k0_h.out ?_
  simp only [Act.put, nS]
  refine offOneH 32 rfl (by kernel_rfl) (by rfl) k0_h.out ?_
  simp only [Act.put, nS]
  refine tkH 33 ?_ rfl k0_h.out (fun W' hW' => ?_) ?_; rotate_left; · (obtain ⟨⟨y0, y1⟩, y2, y3⟩ := box2 hW'; clear hW'; go_simp; first | done | with_reducible rfl)
  simp only [Act.put, nS]
  refine tkH 34 ?_ rfl k0_h.out (fun W' hW' => ?_) ?_; rotate_left; · (obtain ⟨⟨y0, y1⟩, y2, y3⟩ := box2 hW'; clear hW'; go_simp; first | done | with_reducible rfl)
  simp only [Act.put, nS]
  refine doneH (by kernel_rfl) ?_
  go_wp2_with (fail)
  go_ret
  exact ⟨ret_bool hF_h.out.symm, hB_h.out⟩
 case pos =>
 have d2 : decide ((m : Int) ≤ (n : Int)) = true := decide_eq_true (by omega)
 rw [d2, Bool.true_and] at hF
 have d3 : decide (m ≤ n) = true := decide_eq_true h2
 have hV : ∀ W', Below W.heap.size W W' → Calls Tryz.prog 165 #[.int .i64 p, .int .i64 n, .slice A m c] W' fun e w' => e = .returned (.bool (rowsB p n L)) ∧ W' = w' := fun W' hb => by
  have := spRows_any p n A c hs W' (hR.below hb) (by omega) (fun x hx => by have := hr x hx; omega) (by omega) (by omega)
  rwa [← hL, ← hm] at this
 by_cases h3 : rowsB p n L = true
 case neg =>
  have h3' : rowsB p n L = false := by simpa using h3
  rw [h3', Bool.false_and] at hF
  simp only [h3'] at hV
  clear h2 h3 h3'; have hL_h := lH hL; have hm_h := lH hm; have hF_h := lH hF; have hLm_h := lH hLm; have b0_h := lH b0; have k0_h := lH k0; have hG_h := lH hG; have hI_h := lH hI; have hR_h := lH hR; have hr_h := lH hr; have h1_h := lH h1; have hV_h := lH hV; have hpb_h := lH hpb; clear hL hm hF hLm b0 k0 hG hI hR hr h1 hV hpb
  go_enter Tryz.func143, Tryz.ntmps143
  go_upto_region 1 with (fail)
  rw [← hW]
  clear hW
  go_wp2_with (fail)
  refine beginH (fun w' => w'.heap[w.heap.size]? = some (.cells #[.int .i64 (n : Int), .slice A m c] tSpc)) (by kernel_rfl) ?_
  have hbd : Below W.heap.size W W.drew := below_drewN (Below.refl _ _) 1
  generalize W.drew = W1 at hbd ⊢
  have hB := below_trans b0_h.out hbd b0_h.out.size
  replace k0_h := lH (box_below k0_h.out hbd)
  have hbd_h := lH hbd; have hB_h := lH hB; clear hbd hB
  refine tkH 0 ?_ rfl k0_h.out (fun W' hW' => ?_) ?_; rotate_left; · (obtain ⟨⟨y0, y1⟩, y2, y3⟩ := box2 hW'; clear hW'; go_simp; first | done | with_reducible rfl)
  simp only [Act.put, nS]
  refine' callH 1 (f := _) (args := _) rfl (by kernel_rfl) (by rfl) ?_ ?_; rotate_left 2; · (go_simp; first | done | with_reducible rfl | (constructor <;> with_reducible rfl))
  refine (hG_h.out W1).mono ?_
  rintro e w1 ⟨rfl, rfl⟩
  refine ⟨_, rfl, k0_h.out, ?_⟩
  simp only [Act.put, nS]
  refine tkH 2 ?_ rfl k0_h.out (fun W' hW' => ?_) ?_; rotate_left; · (obtain ⟨⟨y0, y1⟩, y2, y3⟩ := box2 hW'; clear hW'; go_simp; first | done | with_reducible rfl)
  simp only [Act.put, nS]
  refine tkH 3 ?_ rfl k0_h.out (fun W' hW' => ?_) ?_; rotate_left; · (obtain ⟨⟨y0, y1⟩, y2, y3⟩ := box2 hW'; clear hW'; go_simp; first | done | with_reducible rfl)
  simp only [Act.put, nS]
  refine tkH 4 ?_ rfl k0_h.out (fun W' hW' => ?_) ?_; rotate_left; · (obtain ⟨⟨y0, y1⟩, y2, y3⟩ := box2 hW'; clear hW'; go_simp; first | done | with_reducible rfl)
  simp only [Act.put, nS]
  refine' callH 5 (f := _) (args := _) rfl (by kernel_rfl) (by rfl) ?_ ?_; rotate_left 2; · (go_simp; first | done | with_reducible rfl | (constructor <;> with_reducible rfl))
  refine (hI_h.out W1).mono ?_
  rintro e w1 ⟨rfl, rfl⟩
  refine ⟨_, rfl, k0_h.out, ?_⟩
  simp only [Act.put, nS]
  refine tkH 6 ?_ rfl k0_h.out (fun W' hW' => ?_) ?_; rotate_left; · (obtain ⟨⟨y0, y1⟩, y2, y3⟩ := box2 hW'; clear hW'; go_simp; first | done | with_reducible rfl)
  simp only [Act.put, nS]
  refine tkH 7 ?_ rfl k0_h.out (fun W' hW' => ?_) ?_; rotate_left; · (obtain ⟨⟨y0, y1⟩, y2, y3⟩ := box2 hW'; clear hW'; go_simp; first | done | with_reducible rfl)
  simp only [Act.put, nS]
  refine tkH 8 ?_ rfl k0_h.out (fun W' hW' => ?_) ?_; rotate_left; · (obtain ⟨⟨y0, y1⟩, y2, y3⟩ := box2 hW'; clear hW'; go_simp; first | done | with_reducible rfl)
  simp only [Act.put, nS]
  refine tkH 9 ?_ rfl k0_h.out (fun W' hW' => ?_) ?_; rotate_left; · (obtain ⟨⟨y0, y1⟩, y2, y3⟩ := box2 hW'; clear hW'; go_simp; first | done | with_reducible rfl)
  simp only [Act.put, nS]
  refine tkH 10 ?_ rfl k0_h.out (fun W' hW' => ?_) ?_; rotate_left; · (obtain ⟨⟨y0, y1⟩, y2, y3⟩ := box2 hW'; clear hW'; go_simp; first | done | with_reducible rfl)
  simp only [Act.put, nS]
  refine tkH 11 ?_ rfl k0_h.out (fun W' hW' => ?_) ?_; rotate_left; · (obtain ⟨⟨y0, y1⟩, y2, y3⟩ := box2 hW'; clear hW'; go_simp; first | done | with_reducible rfl)
  simp only [Act.put, nS]
  refine tkH 12 ?_ rfl k0_h.out (fun W' hW' => ?_) ?_; rotate_left; · (obtain ⟨⟨y0, y1⟩, y2, y3⟩ := box2 hW'; clear hW'; go_simp; first | done | with_reducible rfl)
  simp only [Act.put, nS]
  refine tkH 13 ?_ rfl k0_h.out (fun W' hW' => ?_) ?_; rotate_left; · (obtain ⟨⟨y0, y1⟩, y2, y3⟩ := box2 hW'; clear hW'; go_simp; first | done | with_reducible rfl)
  simp only [Act.put, nS]
  refine tkH 14 ?_ rfl k0_h.out (fun W' hW' => ?_) ?_; rotate_left; · (obtain ⟨⟨y0, y1⟩, y2, y3⟩ := box2 hW'; clear hW'; go_simp; first | done | with_reducible rfl)
  simp only [Act.put, nS]
  refine tkH 15 ?_ rfl k0_h.out (fun W' hW' => ?_) ?_; rotate_left; · (obtain ⟨⟨y0, y1⟩, y2, y3⟩ := box2 hW'; clear hW'; go_simp; first | done | with_reducible rfl)
  simp only [Act.put, nS]
  refine tkH 16 ?_ rfl k0_h.out (fun W' hW' => ?_) ?_; rotate_left; · (obtain ⟨⟨y0, y1⟩, y2, y3⟩ := box2 hW'; clear hW'; go_simp; first | done | with_reducible rfl)
  simp only [Act.put, nS]
  refine tkH 17 ?_ rfl k0_h.out (fun W' hW' => ?_) ?_; rotate_left; · (obtain ⟨⟨y0, y1⟩, y2, y3⟩ := box2 hW'; clear hW'; go_simp; first | done | with_reducible rfl)
  simp only [Act.put, nS]
  refine tkH 18 ?_ rfl k0_h.out (fun W' hW' => ?_) ?_; rotate_left; · (obtain ⟨⟨y0, y1⟩, y2, y3⟩ := box2 hW'; clear hW'; go_simp; first | done | with_reducible rfl)
  simp only [Act.put, nS]
  refine tkH 19 ?_ rfl k0_h.out (fun W' hW' => ?_) ?_; rotate_left; · (obtain ⟨⟨y0, y1⟩, y2, y3⟩ := box2 hW'; clear hW'; go_simp; first | done | with_reducible rfl)
  simp only [Act.put, nS]
  refine tkH 20 ?_ rfl k0_h.out (fun W' hW' => ?_) ?_; rotate_left; · (obtain ⟨⟨y0, y1⟩, y2, y3⟩ := box2 hW'; clear hW'; go_simp; first | done | with_reducible rfl)
  simp only [Act.put, nS]
  refine' callH 21 (f := _) (args := _) rfl (by kernel_rfl) (by rfl) ?_ ?_; rotate_left 2; · (go_simp; first | done | with_reducible rfl | (constructor <;> with_reducible rfl))
  refine (hV_h.out W1 hbd_h.out).mono ?_
  rintro e w1 ⟨rfl, rfl⟩
  refine ⟨_, rfl, k0_h.out, ?_⟩
  simp only [Act.put, nS]
  refine tkH 22 ?_ rfl k0_h.out (fun W' hW' => ?_) ?_; rotate_left; · (obtain ⟨⟨y0, y1⟩, y2, y3⟩ := box2 hW'; clear hW'; go_simp; first | done | with_reducible rfl)
  simp only [Act.put, nS]
  refine tkH 23 ?_ rfl k0_h.out (fun W' hW' => ?_) ?_; rotate_left; · (obtain ⟨⟨y0, y1⟩, y2, y3⟩ := box2 hW'; clear hW'; go_simp; first | done | with_reducible rfl)
  simp only [Act.put, nS]
  refine offH 24 rfl (by kernel_rfl) (by kernel_rfl) (by kernel_rfl) (fun _ _ _ h => h) k0_h.out (by rfl) ?_
  simp only [Act.put, nS]
  refine offH 25 rfl (by kernel_rfl) (by kernel_rfl) (by kernel_rfl) (fun _ _ _ h => h) k0_h.out (by rfl) ?_
  simp only [Act.put, nS]
  refine offH 26 rfl (by kernel_rfl) (by kernel_rfl) (by kernel_rfl) (fun _ _ _ h => h) k0_h.out (by rfl) ?_
  simp only [Act.put, nS]
  refine offH 27 rfl (by kernel_rfl) (by kernel_rfl) (by kernel_rfl) (fun _ _ _ h => h) k0_h.out (by rfl) ?_
  simp only [Act.put, nS]
  refine offH 28 rfl (by kernel_rfl) (by kernel_rfl) (by kernel_rfl) (fun _ _ _ h => h) k0_h.out (by rfl) ?_
  simp only [Act.put, nS]
  refine offH 30 rfl (by kernel_rfl) (by kernel_rfl) (by kernel_rfl) (fun _ _ _ h => h) k0_h.out (by rfl) ?_
  simp only [Act.put, nS]
  refine offH 31 rfl (by kernel_rfl) (by kernel_rfl) (by kernel_rfl) (fun _ _ _ h => h) k0_h.out (by rfl) ?_
  simp only [Act.put, nS]
  refine offOneH 29 rfl (by kernel_rfl) (by rfl) k0_h.out ?_
  simp only [Act.put, nS]
  refine offOneH 32 rfl (by kernel_rfl) (by rfl) k0_h.out ?_
  simp only [Act.put, nS]
  refine tkH 33 ?_ rfl k0_h.out (fun W' hW' => ?_) ?_; rotate_left; · (obtain ⟨⟨y0, y1⟩, y2, y3⟩ := box2 hW'; clear hW'; go_simp; first | done | with_reducible rfl)
  simp only [Act.put, nS]
  refine tkH 34 ?_ rfl k0_h.out (fun W' hW' => ?_) ?_; rotate_left; · (obtain ⟨⟨y0, y1⟩, y2, y3⟩ := box2 hW'; clear hW'; go_simp; first | done | with_reducible rfl)
  simp only [Act.put, nS]
  refine doneH (by kernel_rfl) ?_
  go_wp2_with (fail)
  go_ret
  exact ⟨ret_bool hF_h.out.symm, hB_h.out⟩
 case pos =>
 rw [h3, Bool.true_and] at hF
 simp only [h3] at hV
 have hM : Mat p hs.length n (hs.map fun h : Hd => h.2.2) := by
  have := rowsB_mat (p := p) (n := (n : Int)) (L := L) (k := n) h3 rfl
  rw [hLm, hm, hL] at this; exact this
 have hRd := fun W' (hb : Below W.heap.size W W') => spReduce_any p n A c hs W' (hR.below hb) h1 hM hl (by omega)
 obtain ⟨R, hRR⟩ : ∃ R, R = redM p n L := ⟨_, rfl⟩
 rw [← hL, ← hm, ← hRR] at hRd
 have hspec := redM_spec h1 (n := n) (L := L) (by rw [hLm, hm, hL]; exact hM)
 rw [← hRR, hLm] at hspec
 rw [← hRR] at hF
 have hRl := hspec.2.2
 have hRm : ∀ x, x ∈ R → x.length = n := fun x hx => (hspec.1.1.row x hx).1
 clear hspec; have hL_h := lH hL; have hm_h := lH hm; have hF_h := lH hF; have hLm_h := lH hLm; have b0_h := lH b0; have k0_h := lH k0; have hG_h := lH hG; have hI_h := lH hI; have hR_h := lH hR; have hr_h := lH hr; have h1_h := lH h1; have h3_h := lH h3; have hV_h := lH hV; have hpb_h := lH hpb; have hM_h := lH hM; have hRd_h := lH hRd; have hRR_h := lH hRR; have hRl_h := lH hRl; have hRm_h := lH hRm; clear hL hm hF hLm b0 k0 hG hI hR hr h1 h3 hV hpb hM hRd hRR hRl hRm
 go_enter Tryz.func143, Tryz.ntmps143
 go_upto_region 1 with (fail)
 rw [← hW]
 clear hW
 go_wp2_with (fail)
 refine beginH (fun w' => w'.heap[w.heap.size]? = some (.cells #[.int .i64 (n : Int), .slice A m c] tSpc)) (by kernel_rfl) ?_
 have hbd : Below W.heap.size W W.drew := below_drewN (Below.refl _ _) 1
 generalize W.drew = W1 at hbd ⊢
 have hB := below_trans b0_h.out hbd b0_h.out.size
 replace k0_h := lH (box_below k0_h.out hbd)
 have hbd_h := lH hbd; have hB_h := lH hB; clear hbd hB
 refine tkH 0 ?_ rfl k0_h.out (fun W' hW' => ?_) ?_; rotate_left; · (obtain ⟨⟨y0, y1⟩, y2, y3⟩ := box2 hW'; clear hW'; go_simp; first | done | with_reducible rfl)
 simp only [Act.put, nS]
 refine' callH 1 (f := _) (args := _) rfl (by kernel_rfl) (by rfl) ?_ ?_; rotate_left 2; · (go_simp; first | done | with_reducible rfl | (constructor <;> with_reducible rfl))
 refine (hG_h.out W1).mono ?_
 rintro e w1 ⟨rfl, rfl⟩
 refine ⟨_, rfl, k0_h.out, ?_⟩
 simp only [Act.put, nS]
 refine tkH 2 ?_ rfl k0_h.out (fun W' hW' => ?_) ?_; rotate_left; · (obtain ⟨⟨y0, y1⟩, y2, y3⟩ := box2 hW'; clear hW'; go_simp; first | done | with_reducible rfl)
 simp only [Act.put, nS]
 refine tkH 3 ?_ rfl k0_h.out (fun W' hW' => ?_) ?_; rotate_left; · (obtain ⟨⟨y0, y1⟩, y2, y3⟩ := box2 hW'; clear hW'; go_simp; first | done | with_reducible rfl)
 simp only [Act.put, nS]
 refine tkH 4 ?_ rfl k0_h.out (fun W' hW' => ?_) ?_; rotate_left; · (obtain ⟨⟨y0, y1⟩, y2, y3⟩ := box2 hW'; clear hW'; go_simp; first | done | with_reducible rfl)
 simp only [Act.put, nS]
 refine' callH 5 (f := _) (args := _) rfl (by kernel_rfl) (by rfl) ?_ ?_; rotate_left 2; · (go_simp; first | done | with_reducible rfl | (constructor <;> with_reducible rfl))
 refine (hI_h.out W1).mono ?_
 rintro e w1 ⟨rfl, rfl⟩
 refine ⟨_, rfl, k0_h.out, ?_⟩
 simp only [Act.put, nS]
 refine tkH 6 ?_ rfl k0_h.out (fun W' hW' => ?_) ?_; rotate_left; · (obtain ⟨⟨y0, y1⟩, y2, y3⟩ := box2 hW'; clear hW'; go_simp; first | done | with_reducible rfl)
 simp only [Act.put, nS]
 refine tkH 7 ?_ rfl k0_h.out (fun W' hW' => ?_) ?_; rotate_left; · (obtain ⟨⟨y0, y1⟩, y2, y3⟩ := box2 hW'; clear hW'; go_simp; first | done | with_reducible rfl)
 simp only [Act.put, nS]
 refine tkH 8 ?_ rfl k0_h.out (fun W' hW' => ?_) ?_; rotate_left; · (obtain ⟨⟨y0, y1⟩, y2, y3⟩ := box2 hW'; clear hW'; go_simp; first | done | with_reducible rfl)
 simp only [Act.put, nS]
 refine tkH 9 ?_ rfl k0_h.out (fun W' hW' => ?_) ?_; rotate_left; · (obtain ⟨⟨y0, y1⟩, y2, y3⟩ := box2 hW'; clear hW'; go_simp; first | done | with_reducible rfl)
 simp only [Act.put, nS]
 refine tkH 10 ?_ rfl k0_h.out (fun W' hW' => ?_) ?_; rotate_left; · (obtain ⟨⟨y0, y1⟩, y2, y3⟩ := box2 hW'; clear hW'; go_simp; first | done | with_reducible rfl)
 simp only [Act.put, nS]
 refine tkH 11 ?_ rfl k0_h.out (fun W' hW' => ?_) ?_; rotate_left; · (obtain ⟨⟨y0, y1⟩, y2, y3⟩ := box2 hW'; clear hW'; go_simp; first | done | with_reducible rfl)
 simp only [Act.put, nS]
 refine tkH 12 ?_ rfl k0_h.out (fun W' hW' => ?_) ?_; rotate_left; · (obtain ⟨⟨y0, y1⟩, y2, y3⟩ := box2 hW'; clear hW'; go_simp; first | done | with_reducible rfl)
 simp only [Act.put, nS]
 refine tkH 13 ?_ rfl k0_h.out (fun W' hW' => ?_) ?_; rotate_left; · (obtain ⟨⟨y0, y1⟩, y2, y3⟩ := box2 hW'; clear hW'; go_simp; first | done | with_reducible rfl)
 simp only [Act.put, nS]
 refine tkH 14 ?_ rfl k0_h.out (fun W' hW' => ?_) ?_; rotate_left; · (obtain ⟨⟨y0, y1⟩, y2, y3⟩ := box2 hW'; clear hW'; go_simp; first | done | with_reducible rfl)
 simp only [Act.put, nS]
 refine tkH 15 ?_ rfl k0_h.out (fun W' hW' => ?_) ?_; rotate_left; · (obtain ⟨⟨y0, y1⟩, y2, y3⟩ := box2 hW'; clear hW'; go_simp; first | done | with_reducible rfl)
 simp only [Act.put, nS]
 refine tkH 16 ?_ rfl k0_h.out (fun W' hW' => ?_) ?_; rotate_left; · (obtain ⟨⟨y0, y1⟩, y2, y3⟩ := box2 hW'; clear hW'; go_simp; first | done | with_reducible rfl)
 simp only [Act.put, nS]
 refine tkH 17 ?_ rfl k0_h.out (fun W' hW' => ?_) ?_; rotate_left; · (obtain ⟨⟨y0, y1⟩, y2, y3⟩ := box2 hW'; clear hW'; go_simp; first | done | with_reducible rfl)
 simp only [Act.put, nS]
 refine tkH 18 ?_ rfl k0_h.out (fun W' hW' => ?_) ?_; rotate_left; · (obtain ⟨⟨y0, y1⟩, y2, y3⟩ := box2 hW'; clear hW'; go_simp; first | done | with_reducible rfl)
 simp only [Act.put, nS]
 refine tkH 19 ?_ rfl k0_h.out (fun W' hW' => ?_) ?_; rotate_left; · (obtain ⟨⟨y0, y1⟩, y2, y3⟩ := box2 hW'; clear hW'; go_simp; first | done | with_reducible rfl)
 simp only [Act.put, nS]
 refine tkH 20 ?_ rfl k0_h.out (fun W' hW' => ?_) ?_; rotate_left; · (obtain ⟨⟨y0, y1⟩, y2, y3⟩ := box2 hW'; clear hW'; go_simp; first | done | with_reducible rfl)
 simp only [Act.put, nS]
 refine' callH 21 (f := _) (args := _) rfl (by kernel_rfl) (by rfl) ?_ ?_; rotate_left 2; · (go_simp; first | done | with_reducible rfl | (constructor <;> with_reducible rfl))
 refine (hV_h.out W1 hbd_h.out).mono ?_
 rintro e w1 ⟨rfl, rfl⟩
 refine ⟨_, rfl, k0_h.out, ?_⟩
 simp only [Act.put, nS]
 refine tkH 22 ?_ rfl k0_h.out (fun W' hW' => ?_) ?_; rotate_left; · (obtain ⟨⟨y0, y1⟩, y2, y3⟩ := box2 hW'; clear hW'; go_simp; first | done | with_reducible rfl)
 simp only [Act.put, nS]
 refine tkH 23 ?_ rfl k0_h.out (fun W' hW' => ?_) ?_; rotate_left; · (obtain ⟨⟨y0, y1⟩, y2, y3⟩ := box2 hW'; clear hW'; go_simp; first | done | with_reducible rfl)
 simp only [Act.put, nS]
 refine tkH 24 ?_ rfl k0_h.out (fun W' hW' => ?_) ?_; rotate_left; · (obtain ⟨⟨y0, y1⟩, y2, y3⟩ := box2 hW'; clear hW'; go_simp; first | done | with_reducible rfl)
 simp only [Act.put, nS]
 refine tkH 25 ?_ rfl k0_h.out (fun W' hW' => ?_) ?_; rotate_left; · (obtain ⟨⟨y0, y1⟩, y2, y3⟩ := box2 hW'; clear hW'; go_simp; first | done | with_reducible rfl)
 simp only [Act.put, nS]
 refine tkH 26 ?_ rfl k0_h.out (fun W' hW' => ?_) ?_; rotate_left; · (obtain ⟨⟨y0, y1⟩, y2, y3⟩ := box2 hW'; clear hW'; go_simp; first | done | with_reducible rfl)
 simp only [Act.put, nS]
 refine tkH 27 ?_ rfl k0_h.out (fun W' hW' => ?_) ?_; rotate_left; · (obtain ⟨⟨y0, y1⟩, y2, y3⟩ := box2 hW'; clear hW'; go_simp; first | done | with_reducible rfl)
 simp only [Act.put, nS]
 refine tkH 28 ?_ rfl k0_h.out (fun W' hW' => ?_) ?_; rotate_left; · (obtain ⟨⟨y0, y1⟩, y2, y3⟩ := box2 hW'; clear hW'; go_simp; first | done | with_reducible rfl)
 simp only [Act.put, nS]
 refine tkH 30 ?_ rfl k0_h.out (fun W' hW' => ?_) ?_; rotate_left; · (obtain ⟨⟨y0, y1⟩, y2, y3⟩ := box2 hW'; clear hW'; go_simp; first | done | with_reducible rfl)
 simp only [Act.put, nS]
 refine tkH 31 ?_ rfl k0_h.out (fun W' hW' => ?_) ?_; rotate_left; · (obtain ⟨⟨y0, y1⟩, y2, y3⟩ := box2 hW'; clear hW'; go_simp; first | done | with_reducible rfl)
 simp only [Act.put, nS]
 refine' callH 29 (f := _) (args := _) rfl (by kernel_rfl) (by rfl) ?_ ?_; rotate_left 2; · (go_simp; first | done | with_reducible rfl | (constructor <;> with_reducible rfl))
 refine ((hRd_h.out W1 hbd_h.out)).mono ?_
 rintro e w4 hret
 obtain ⟨A2, c2, rfl, hO2⟩ := hret.om
 have hb2 := hO2.below_
 obtain ⟨gs, hg, hrd2⟩ := hO2.rdr
 obtain ⟨q, hq⟩ : ∃ q, q = R.length := ⟨_, rfl⟩
 rw [← hq]
 have hqg : gs.length = q := by rw [hq, hg, List.length_map]
 clear hret hO2
 replace k0_h := lH (box_below k0_h.out hb2)
 have hS := spSame_any A2 A c2 c gs hs w4 hrd2 ((hR_h.out.below hbd_h.out).below hb2) (by have := hRl_h.out; omega) (fun x hx => by have := hRm_h.out _ (by rw [hg]; exact List.mem_map_of_mem hx); omega)
 rw [hqg, ← hm_h.out, ← hg, ← hL_h.out, ← hF_h.out] at hS
 have hB4 := below_trans hB_h.out hb2 hB_h.out.size
 refine ⟨_, rfl, k0_h.out, ?_⟩
 have hb2_h := lH hb2; have hg_h := lH hg; have hrd2_h := lH hrd2; have hq_h := lH hq; have hqg_h := lH hqg; have hS_h := lH hS; have hB4_h := lH hB4; clear hb2 hg hrd2 hq hqg hS hB4
 simp only [Act.put, nS]
 refine' callH 32 (f := _) (args := _) rfl (by kernel_rfl) (by rfl) ?_ ?_; rotate_left 2; · (go_simp; first | done | with_reducible rfl | (constructor <;> with_reducible rfl))
 refine (hS_h.out).mono ?_
 rintro e w5 ⟨rfl, nq, rfl⟩
 have hb5 : Below w4.heap.size w4 (w4.drewN nq) := below_drewN (Below.refl _ _) _
 replace k0_h := lH (box_below k0_h.out hb5)
 have hB5 := below_trans hB4_h.out hb5 hB4_h.out.size
 refine ⟨_, rfl, k0_h.out, ?_⟩
 have hb5_h := lH hb5; have hB5_h := lH hB5; clear hb5 hB5
 simp only [Act.put, nS]
 refine tkH 33 ?_ rfl k0_h.out (fun W' hW' => ?_) ?_; rotate_left; · (obtain ⟨⟨y0, y1⟩, y2, y3⟩ := box2 hW'; clear hW'; go_simp; first | done | with_reducible rfl)
 simp only [Act.put, nS]
 refine tkH 34 ?_ rfl k0_h.out (fun W' hW' => ?_) ?_; rotate_left; · (obtain ⟨⟨y0, y1⟩, y2, y3⟩ := box2 hW'; clear hW'; go_simp; first | done | with_reducible rfl)
 simp only [Act.put, nS]
 refine doneH (by kernel_rfl) ?_
 go_wp2_with (fail)
 go_ret
 exact ⟨rfl, hB5_h.out⟩
set_option maxRecDepth 8000 in
set_option maxHeartbeats 1000000 in
theorem rlGood_any (p : Int) {v : Value} {s : Sys} (w : World) (h : RdSysV w v s) (hn : s.2.2.length ≤ 1048576) (hr : ∀ x, x ∈ s.2.2 → x.length ≤ 1048576) :
  Calls Tryz.prog 98 #[.int .i64 p, v] w fun e w' => e = .returned (.bool (relB p s)) ∧ Below w.heap.size w w' := by
 obtain ⟨A, c, hs, rfl, hL, hR⟩ := h
 obtain ⟨a, b, L⟩ := s
 have hL' : L = hs.map (fun h : Hd => h.2.2) := hL
 subst hL'
 clear hL
 have hrr : ∀ x, x ∈ hs → x.2.2.length ≤ 1048576 := fun x hx => hr _ (List.mem_map_of_mem hx)
 have hnn : hs.length ≤ 1048576 := by simpa using hn
 obtain ⟨F, hF⟩ : ∃ F, F = relB p (a, b, hs.map fun h : Hd => h.2.2) := ⟨_, rfl⟩
 rw [← hF]
 unfold relB at hF
 simp only at hF
 obtain ⟨W, hW, b0, k0⟩ := alloc_box w (.cells #[.int .i64 a, .int .i64 b, .slice A hs.length c] tRel)
 have hG := l1In_any a 0 24 W
 have hH := l1In_any b 0 (24 - a) W
 obtain ⟨m, hm⟩ : ∃ m, m = hs.length := ⟨_, rfl⟩
 by_cases h1 : 0 ≤ a ∧ a ≤ 24
 · have e1 : (decide (0 ≤ a) && decide (a ≤ 24)) = true := by simp [h1.1, h1.2]
   rw [e1, Bool.true_and] at hF
   rw [e1] at hG
   have hw0 : IntKind.i64.wrap (24 - a) = 24 - a := IntWalk.i64_in _ (by omega)
   by_cases h2 : 0 ≤ b ∧ b ≤ 24 - a
   · have e2 : (decide (0 ≤ b) && decide (b ≤ 24 - a)) = true := by simp [h2.1, h2.2]
     rw [e2, Bool.true_and] at hF
     rw [e2] at hH
     obtain ⟨n, hn⟩ : ∃ n : Nat, a + b = (n : Int) := ⟨(a + b).toNat, by omega⟩
     have hw : IntKind.i64.wrap (a + b) = (n : Int) := by rw [hn]; exact IntWalk.i64_in _ (by omega)
     have hD := spGood_any p n A c hs W (hR.below b0) (by omega) hnn hrr
     rw [← hn, ← hF, hn] at hD
     rw [← hm] at hD hW k0 ⊢
     clear e1 e2; have b0_h := lH b0; have k0_h := lH k0; have hG_h := lH hG; have hH_h := lH hH; have hD_h := lH hD; have hm_h := lH hm; have hF_h := lH hF; have hn_h := lH hn; have h1_h := lH h1; have h2_h := lH h2; have hR_h := lH hR; have hrr_h := lH hrr; have hr_h := lH hr; clear b0 k0 hG hH hD hm hF hn h1 h2 hR hrr hr
     obtain ⟨⟨c0, c1, c2⟩, f0, f1, f2⟩ := box3 k0_h.out
     go_enter Tryz.func98, Tryz.ntmps98
     go_upto_region 1 with (fail)
     rw [← hW]
     clear hW
     go_wp2_with (fail)
     refine (hG_h.out).mono ?_
     rintro e w1 ⟨rfl, rfl⟩
     go_wp2_with (fail)
     refine (hH_h.out).mono ?_
     rintro e w2 ⟨rfl, rfl⟩
     go_wp2_with (fail)
     refine (hD_h.out).mono ?_
     rintro e w3 ⟨rfl, hb3⟩
     go_wp2_with (fail)
     go_ret
     exact ⟨rfl, below_trans b0_h.out hb3 b0_h.out.size⟩
   · have e2 : (decide (0 ≤ b) && decide (b ≤ 24 - a)) = false := by simp; omega
     rw [e2, Bool.false_and] at hF
     rw [e2] at hH
     rw [← hm] at hW k0 ⊢
     clear e1 e2 h2; have b0_h := lH b0; have k0_h := lH k0; have hG_h := lH hG; have hH_h := lH hH; have hm_h := lH hm; have hF_h := lH hF; have h1_h := lH h1; have hR_h := lH hR; have hrr_h := lH hrr; have hr_h := lH hr; clear b0 k0 hG hH hm hF h1 hR hrr hr
     obtain ⟨⟨c0, c1, c2⟩, f0, f1, f2⟩ := box3 k0_h.out
     go_enter Tryz.func98, Tryz.ntmps98
     go_upto_region 1 with (fail)
     rw [← hW]
     clear hW
     go_wp2_with (fail)
     refine (hG_h.out).mono ?_
     rintro e w1 ⟨rfl, rfl⟩
     go_wp2_with (fail)
     refine (hH_h.out).mono ?_
     rintro e w2 ⟨rfl, rfl⟩
     go_wp2_with (fail)
     go_ret
     exact ⟨ret_bool hF_h.out.symm, b0_h.out⟩
 · have e1 : (decide (0 ≤ a) && decide (a ≤ 24)) = false := by simp; omega
   rw [e1, Bool.false_and] at hF
   rw [e1] at hG
   rw [← hm] at hW k0 ⊢
   clear e1 h1; have b0_h := lH b0; have k0_h := lH k0; have hG_h := lH hG; have hH_h := lH hH; have hm_h := lH hm; have hF_h := lH hF; have hR_h := lH hR; have hrr_h := lH hrr; have hr_h := lH hr; clear b0 k0 hG hH hm hF hR hrr hr
   obtain ⟨⟨c0, c1, c2⟩, f0, f1, f2⟩ := box3 k0_h.out
   go_enter Tryz.func98, Tryz.ntmps98
   go_upto_region 1 with (fail)
   rw [← hW]
   clear hW
   go_wp2_with (fail)
   refine (hG_h.out).mono ?_
   rintro e w1 ⟨rfl, rfl⟩
   go_wp2_with (fail)
   go_ret
   exact ⟨ret_bool hF_h.out.symm, b0_h.out⟩
def rangeI (n : Nat) : List Int := (List.range n).map fun i => ((i : Nat) : Int)
@[simp] theorem rangeI_length (n : Nat) : (rangeI n).length = n := by simp [rangeI]
structure OI (w0 w : World) (A : Option Addr) (cap : Nat) (l : List Int) : Prop where
 is : IS w A cap l
 new : Fresh w0.heap.size A
 below_ : Below w0.heap.size w0 w
theorem OI.snoc {w0 w w2 : World} {A : Option Addr} {cap : Nat} {l : List Int} (h : OI w0 w A cap l) {o : Obj} {x : Int} {A' : Option Addr} {cap' n : Nat} (hn : n = l.length + 1) (hs' : Sl w2 tInt 1 A' n cap' (ints l ++ [.int .i64 x])) (hA' : ∀ b, b ∈ fpA A' → b ∈ fpA A ∨ (w.alloc o).heap.size ≤ b) (hk : Keeps (· ∈ fpA A) (w.alloc o) w2) : OI w0 w2 A' cap' (l ++ [x]) := by
 subst hn
 have hb := below_trans h.below_ ((Below.refl w.heap.size w).alloc (Nat.le_refl _) o) h.below_.size
 refine ⟨?_, fun b hb' => ?_, below_keeps hb hk hb.size h.new⟩
 · unfold IS
   have : ints (l ++ [x]) = ints l ++ [.int .i64 x] := by simp [ints]
   rw [this, List.length_append]; exact hs'
 · rcases hA' b hb' with h1 | h1
   · exact h.new b h1
   · have := hb.size; omega
set_option maxHeartbeats 400000 in
theorem unit_any (n i : Nat) (w : World) (hn : n ≤ 1048576) (hi : i < n) :
  Calls Tryz.prog 128 #[.int .i64 n, .int .i64 i] w (RetI w (unitV n i)) := by
 have hC := zeros_any n w (by omega)
 have he : (List.replicate n (0 : Int)).set i 1 = unitV n i := by
  apply List.ext_getElem?
  intro k
  by_cases hk : k < n
  · unfold unitV
    rw [List.getElem?_set, List.getElem?_map, List.getElem?_range hk]
    by_cases h : i = k
    · subst h; simp [hk]
    · simp [h, hk]; intro e; exact absurd e.symm h
  · unfold unitV
    rw [List.getElem?_eq_none (by simpa using hk), List.getElem?_eq_none (by simpa using hk)]
 have HC := lH hC; have HE := lH he
 have hul := lH (show (unitV n i).length = n by simp [unitV])
 have hiI : (i : Int) < (n : Int) := by omega
 clear hC he
 go_enter Tryz.func128, Tryz.ntmps128
 go_wp2_with (fail)
 refine HC.out.mono ?_
 rintro e w1 ⟨A, c, rfl, his, hf, hb1⟩
 rw [List.length_replicate]
 obtain ⟨ad, y, hA, hy, _, hc', hf'⟩ := his.at_ (j := i) (by simpa using hi)
 subst hA
 have hfz := hf' i
 have his' := his.set (ad := ad) rfl (j := i) 1 (by simpa using hi)
 rw [HE.out] at his'
 have HI := lH his'
 have hb' := lH (hb1.setCell (p := ad.add i) (by rw [block_of_add]; exact hf _ (by simp)) (.int .i64 1))
 clear his' hf' his hy hb1
 go_wp2_with (fail)
 go_ret
 exact ⟨some ad, c, by rw [hul.out]; rfl, HI.out, hf, hb'.out⟩
set_option maxHeartbeats 1000000 in
theorem identityRows_any (n : Nat) (w : World) (hn : n ≤ 1048576) :
  Calls Tryz.prog 153 #[.int .i64 n] w (RetSS w (idM n)) := by
 have hOM0 : OM w (w.alloc (.cells #[] 23)) (some ⟨w.heap.size, 0, none⟩) 0 [] := by
  refine ⟨[], rfl, ⟨by simpa using Sl.laid w 23 1 0 #[] (Nat.zero_le _) rfl, fun h hh => (by cases hh), .nil, fun h hh => (by cases hh)⟩, fun b hb => ?_, (Below.refl _ _).alloc (Nat.le_refl _) _⟩
  have : b = w.heap.size := by simpa [fpR] using hb
  subst this; exact Nat.le_refl _
 have hil := lH (show (idM n).length = n by simp [idM])
 go_enter Tryz.func153, Tryz.ntmps153
 go_wp2_with (fail)
 go_loopw [7, 3] (fun i v wr => ∃ (k : Nat) (A' : Option Addr) (c' : Nat), k ≤ n ∧ i = .int .i64 k ∧ v = .slice A' k c' ∧ OM w wr A' c' ((idM n).take k)) (fun i _ _ => n - (intOf i).toNat)
 case atStart => exact ⟨0, _, 0, Nat.zero_le _, rfl, rfl, hOM0⟩
 case round =>
  clear hOM0
  obtain ⟨k, A', c', hk, rfl, rfl, hOM⟩ := hrel
  by_cases hlt : k < n
  · have hC := unit_any n k wr hn hlt
    obtain ⟨gs, hLg, hO, hf, h0⟩ := hOM
    have hgl : gs.length = k := by
     have := congrArg List.length hLg
     rw [List.length_take, hil.out, List.length_map] at this
     omega
    have hpl : (unitV n k).length = n := by simp [unitV]
    have hidk : (idM n)[k]? = some (unitV n k) := by simp [idM, hlt]
    have HX := lH hidk; have HG := lH hLg; have HGL := lH hgl; have HPL := lH hpl
    have hkI : (k : Int) < (n : Int) := by omega
    have HC := lH hC; clear hLg hgl hC hpl hidk
    go_wp2_with (fail)
    refine HC.out.mono ?_
    rintro e w1 ⟨B1, c1, rfl, hi1, hf1, hb1⟩
    rw [HPL.out]
    have hsl : Sl (w1.alloc (.cells #[.slice B1 n c1] 23)) 23 1 A' k c' (gs.map Hd.val) := by
     have := (hO.sl.below hb1).alloc (.cells #[.slice B1 n c1] 23)
     rwa [HGL.out] at this
    go_wp2_with (at_builtin; refine wpList_append_Sl _ rfl _ _ _ rfl 23 Tryz.underlying27 info_ints rfl (by omega) rfl hsl rfl (news := [.slice B1 n c1]) rfl (Sl.rdc (Sl.laid w1 23 1 1 #[.slice B1 n c1] (by unfold maxLen; omega) rfl)) (by intro u hu; simp at hu; subst hu; rfl) (by unfold maxLen; omega) (by omega) ?_; intro A2 c2 w2 hs2 hA2 hk2)
    have hal2 : Below w1.heap.size w1 (w1.alloc (.cells #[.slice B1 n c1] 23)) := (Below.refl _ _).alloc (Nat.le_refl _) _
    have hOM2 := OM.snoc (w1 := w1.alloc (.cells #[.slice B1 n c1] 23)) HG.out hO hf h0 (below_trans hb1 hal2 hb1.size) (hi1.below hal2) hf1 (by rw [HGL.out]) (by rw [HPL.out]; exact hs2) hA2 hk2
    have HO := lH hOM2; clear hOM2 hs2 hsl hO hf
    go_roundw
    case rel => exact ⟨k + 1, A2, c2, by omega, by go_num, rfl, by rw [List.take_add_one, HX.out]; exact HO.out⟩
    case measure => simp [intOf]; omega
  · obtain rfl : n = k := by omega
    have hOM' : OM w wr A' c' (idM n) := by have := hOM; rwa [List.take_of_length_le (by rw [hil.out]; omega)] at this
    clear hOM
    go_wp2_with (fail)
    go_ret
    have := hOM'.ret
    rw [hil.out] at this
    exact this
theorem OM.put {w0 w w1 : World} {A : Option Addr} {cap : Nat} {L : List (List Int)} (h : OM w0 w A cap L) {i : Nat} (hi : i < L.length) {ad : Addr} (hA : A = some ad) (hb : Below w.heap.size w w1) {B : Option Addr} {c : Nat} {l : List Int} (hx : IS w1 B c l) (hf1 : Fresh w.heap.size B) :
  OM w0 (w1.setCell (ad.add i) (.slice B l.length c)) A cap (L.set i l) := by
 subst hA
 obtain ⟨hs, rfl, hO, hf, h0⟩ := h
 have hi' : i < hs.length := by simpa using hi
 have hAl : ∀ b, b ∈ fpA (some ad) → b < w.heap.size := fun b hb' => hO.sl.lt b hb'
 have hRl : ∀ y, y ∈ hs → (∀ b, b ∈ fpA y.1 → b < w.heap.size) := fun y hy b hb' => (hO.rows y hy).lt b hb'
 have hk : Keeps (· ∈ fpA (some ad)) w1 (w1.setCell (ad.add i) (.slice B l.length c)) := (Keeps.refl _ w1).setCell (p := ad.add i) (by rw [block_of_add]; simp) _
 have hget : ∀ (k : Nat) (x : Hd), (hs.set i (B, c, l))[k]? = some x → (k = i ∧ x = (B, c, l)) ∨ (k ≠ i ∧ hs[k]? = some x) := by
  intro k x hx
  rw [List.getElem?_set] at hx
  split at hx
  · rename_i hk; subst hk
    simp at hx
    exact .inl ⟨rfl, hx.symm⟩
  · rename_i hk; exact .inr ⟨fun e => hk e.symm, hx⟩
 have hsz := h0.size
 have hbs := hb.size
 refine ⟨hs.set i (B, c, l), by rw [List.map_set], ⟨?_, fun x hx' => ?_, ?_, fun x hx' b hb1 hb2 => ?_⟩, fun b hb' => ?_, ?_⟩
 · have := (hO.sl.below hb).set (ad := ad) rfl i (Hd.val (B, c, l)) (by simpa using hi')
   rw [← List.map_set] at this
   rw [List.length_set]; exact this
 · rcases List.mem_or_eq_of_mem_set hx' with hx' | hx'
   · exact ((hO.rows x hx').below hb).keeps hk fun b hb' => hO.outer x hx' b hb'
   · subst hx'
     exact hx.keeps hk fun b hb' hb'' => by
      have := hf1 b hb'
      have := hAl b hb''
      omega
 · refine List.pairwise_iff_getElem.2 fun a b ha hb' hab c' h1 h2 => ?_
   rcases hget a _ (List.getElem?_eq_getElem ha) with ⟨ea, e1⟩ | ⟨ea, e1⟩ <;> rcases hget b _ (List.getElem?_eq_getElem hb') with ⟨eb, e2⟩ | ⟨eb, e2⟩
   · omega
   · rw [e1] at h1
     have := hf1 c' h1
     have := hRl _ (List.mem_of_getElem? e2) c' h2
     omega
   · rw [e2] at h2
     have := hf1 c' h2
     have := hRl _ (List.mem_of_getElem? e1) c' h1
     omega
   · exact hO.apart_get e1 e2 (by omega) c' h1 h2
 · rcases List.mem_or_eq_of_mem_set hx' with hx' | hx'
   · exact hO.outer x hx' b hb1 hb2
   · subst hx'
     have := hf1 b hb1
     have := hAl b hb2
     omega
 · rcases List.mem_append.1 hb' with hb' | hb'
   · exact hf b (List.mem_append_left _ hb')
   · obtain ⟨y, hy, hb'⟩ := mem_fpR.1 hb'
     rcases List.mem_or_eq_of_mem_set hy with hy | hy
     · exact hf b (List.mem_append_right _ (mem_fpR.2 ⟨_, hy, hb'⟩))
     · subst hy
       have := hf1 b hb'
       omega
 · exact below_keeps (below_trans h0 hb hsz) hk (by omega) fun b hb' => hf b (List.mem_append_left _ hb')
theorem nils_om {w w1 : World} {G : Addr} {m : Nat} (hs : Sl w1 23 1 (some G) m m ((List.replicate m nilHd).map Hd.val)) (hG : w.heap.size ≤ G.block) (hb : Below w.heap.size w w1) : OM w w1 (some G) m (List.replicate m []) := by
 obtain ⟨gs, hL, hO, hf⟩ := nils_rw hs
 exact ⟨gs, hL, hO, fun b hb' => by have := hf b hb'; simp at this; omega, hb⟩
theorem redTo_mat3 {p : Int} (hp : fieldB p = true) {m n : Nat} {L A : List (List Int)} (hm : Mat p m n L) (hA : Mat p m m A) : ∀ c, c ≤ n → Mat p m m (redTo p L A c).2.2
 | 0, _ => hA
 | c + 1, hc => by
   have hpb := fieldB_bounds hp
   obtain ⟨ld, hR⟩ := redTo_inv hp hm A c (by omega)
   have h1 := redTo_mat3 hp hm hA c (by omega)
   rw [redTo]
   obtain ⟨s, hs⟩ : ∃ s, s = redTo p L A c := ⟨_, rfl⟩
   rw [← hs] at hR h1 ⊢
   rcases colStep_cases hp (show c < n by omega) hR.mat hR.inv.le with ⟨e, _⟩ | ⟨k, iv, k1, k2, k3, _, _, k6, k7, k8⟩
   · rw [e]; exact h1
   · rw [k7]
     have hr : s.1 < m := by omega
     have hse := step_en (p := p) (by omega) h1 hr k2 iv (fun i => en (scaleL p s.1 iv (swapL s.2.1 s.1 k)) i c)
     rw [h1.len]
     exact hse.1
theorem Mat.drop {p : Int} {m n r : Nat} {L : List (List Int)} (h : Mat p m n L) : Mat p (m - r) n (L.drop r) :=
 ⟨by rw [List.length_drop, h.len], fun v hv => h.row v (List.mem_of_mem_drop hv)⟩
theorem RdR.cut {w : World} {A A' : Option Addr} {n : Nat} {hs : List Hd} (h : RdR w A hs) {r c : Nat} (hsl : Sl w 23 1 A' n c ((hs.drop r).map Hd.val)) : RdR w A' (hs.drop r) := by
 refine ⟨fun i x hx => ?_, fun x hx => h.2 x (List.mem_of_mem_drop hx)⟩
 obtain ⟨ad, hA, _, hc, _⟩ := hsl.cell (j := i) (u := x.val) (by rw [List.getElem?_map, hx]; rfl)
 exact ⟨ad, hA, hc⟩
set_option maxRecDepth 100000 in
theorem kernel_any (p : Int) (n : Nat) (A : Option Addr) (c : Nat) (hs : List Hd) (w : World) (h : RdR w A hs) (hp : fieldB p = true) (hm : Mat p hs.length n (hs.map fun h : Hd => h.2.2)) (hl : hs.length ≤ 1048576) (hn : n ≤ 1048576) :
  Calls Tryz.prog 110 #[.int .i64 p, .slice A hs.length c, .int .i64 n] w (RetSS w (kerM p n (hs.map fun h : Hd => h.2.2))) := by
 have hC := clones_any A c hs w h hl (fun x hx => by have := (hm.row _ (List.mem_map_of_mem hx)).1; omega)
 obtain ⟨L, hLh⟩ : ∃ L, L = hs.map fun h : Hd => h.2.2 := ⟨_, rfl⟩
 rw [← hLh] at hm hC ⊢
 obtain ⟨m, hmm⟩ : ∃ m, m = hs.length := ⟨_, rfl⟩
 rw [← hmm] at hl hm hC ⊢
 have hpb := fieldB_bounds hp
 have HC := lH hC; have HMat := lH hm; have HL := lH hm.len; clear hC hLh hmm hm h
 go_enter Tryz.func110, Tryz.ntmps110
 go_wp2_with (fail)
 refine HC.out.mono ?_
 rintro e w1 hret
 obtain ⟨A1, c1, rfl, hO1⟩ := hret.om
 rw [HL.out]
 have hI := lH (identityRows_any m w1 hl)
 clear hret
 go_wp2_with (fail)
 refine hI.out.mono ?_
 rintro e w2 hret
 obtain ⟨A2, c2, rfl, hO2⟩ := hret.om
 rw [show (idM m).length = m by simp [idM]]
 clear hret
 obtain ⟨fp, hR1, hfr, hlt⟩ := hO1.rw_
 have hR2 := hR1.below hO2.below_
 obtain ⟨fp2, hK, hfr2, hlt2⟩ := hO2.rw_
 have hmI : Mat p m m (idM m) := idM_mat (by omega) m
 have hRd := reduction_any p n m m A1 c1 L fp A2 c2 (idM m) fp2 w2 hR2 hK (fun b hb hb' => by
  have := hlt b hb
  have := hfr2 b hb'
  omega) (fun b hb => Nat.lt_of_lt_of_le (hlt b hb) hO2.size) hlt2 hp HMat.out hmI hl hn hl
 have hB2 : Below w.heap.size w w2 := below_trans hO1.below_ hO2.below_ hO1.below_.size
 have hres : kerM p n L = redM p m ((redTo p L (idM m) n).2.2.drop (redTo p L (idM m) n).1) := by unfold kerM; rw [HL.out]
 have hM3 := redTo_mat3 hp HMat.out hmI n (Nat.le_refl n)
 have hRm := (redTo_mat hp HMat.out (idM m) (Nat.le_refl n)).2
 obtain ⟨R, hR⟩ : ∃ R, R = (redTo p L (idM m) n).1 := ⟨_, rfl⟩
 obtain ⟨M, hM⟩ : ∃ M, M = (redTo p L (idM m) n).2.2 := ⟨_, rfl⟩
 rw [← hR, ← hM] at hRd hres
 rw [← hM] at hM3
 rw [← hR] at hRm
 have HRd := lH hRd; have HRES := lH hres; have HM3 := lH hM3; have HP := lH hp; have HFR := lH hfr
 have HFR2 := lH (hfr2.mono hO1.size)
 clear hRd hres hK hR1 hR2 hmI hO1 hO2 hR hM hp hfr hfr2 hlt hlt2 hM3
 go_wp2_with (fail)
 refine HRd.out.mono ?_
 rintro e w3 ⟨rfl, _, h2, hk3⟩
 have hB3 : Below w.heap.size w w3 := below_keeps hB2 hk3 hB2.size fun b hb => by
  rcases hb with hb | hb
  · exact HFR.out b hb
  · exact HFR2.out b hb
 obtain ⟨gs, hLg, hO, hf, h0⟩ := h2.om (w0 := w) HFR2.out hB3
 have hgl : gs.length = m := by
  have := congrArg List.length hLg
  rw [HM3.out.len, List.length_map] at this; omega
 have hsl : Sl w3 23 1 A2 m c2 (gs.map Hd.val) := by have := hO.sl; rwa [hgl] at this
 have hRd3 := lH hO.rd; have HG := lH hLg; have HGL := lH hgl
 have hmc := hsl.2.1
 clear hLg hgl h2 hO hf
 go_wp2_with (refine wpList_slice_Sl rfl (.tmp 21) (some (.tmp 22)) none none 27 rfl 23 Tryz.underlying27 info_ints rfl hsl R m c2 (optSome (by omega)) (optNone ⟨rfl, rfl⟩) (optNone rfl) (by omega) (Nat.le_refl _) (by omega) (Nat.le_refl _) ?_; intro A3 hcut hfp _)
 have hcut' : Sl w3 23 1 A3 (m - R) (c2 - R) ((gs.drop R).map Hd.val) := by
  have := hcut
  simp only [Nat.mul_one] at this
  rw [List.take_of_length_le (by simp [HGL.out]), ← List.map_drop] at this
  exact this
 have hdl : (gs.drop R).length = m - R := by rw [List.length_drop, HGL.out]
 have hmd : Mat p (gs.drop R).length m ((gs.drop R).map fun h : Hd => h.2.2) := by
  rw [hdl, List.map_drop, ← HG.out]; exact HM3.out.drop
 have hC3 := reduced_any p m A3 (c2 - R) (gs.drop R) w3 (RdR.cut hRd3.out hcut') HP.out hmd (by omega) hl
 rw [hdl, List.map_drop, ← HG.out, ← HRES.out] at hC3
 have HC3 := lH hC3; clear hC3 hmd hdl hcut' hcut hsl
 go_wp2_with (fail)
 refine HC3.out.mono ?_
 rintro e w4 hret
 obtain ⟨A4, c4, rfl, hO4⟩ := hret.om
 go_wp2_with (fail)
 go_ret
 exact hret.mono hB3
theorem results_cell_tmp {P : Program} {fn : Func} {p u : Tmp} {ty : TypeId} (h : fn.results = #[.cell p ty, .tmp u]) (tmps : Array Value) (w : World) (g : Nat) (t : TypeId) (cs : Array Value) (fr : Nat × Nat) (d : TypeDesc)
  (hp : tmps.getD p undef = .pointer (some ⟨g, 0, none⟩)) (hg : w.heap[g]? = some (.cells cs t fr))
  (hu : P.underlying ty = some d) (hd : (match d with | .struct _ | .array _ _ => true | _ => false) = true) (hi : (P.info? ty).map (·.size) = some cs.size) :
  (results fn tmps).run P w = .ok (.tuple #[.agg cs, tmps.getD u undef]) w := by
 have hp' : tmps[p]?.getD undef = .pointer (some ⟨g, 0, none⟩) := by simpa using hp
 simp [results, h, hp', asAddr, run_loadVar_row w g t ty cs fr d hg hu hd hi]
section
variable {w : World} {B : Nat} {t : TypeId} {x y z a b c : Value}
theorem set3 (h : w.heap[B]? = some (.cells #[x, y, z] t)) : (((w.setCell ⟨B, 0, none⟩ a).setCell ⟨B, 1, none⟩ b).setCell ⟨B, 2, none⟩ c).heap[B]? = some (.cells #[a, b, c] t) ∧ Keeps (· = B) w (((w.setCell ⟨B, 0, none⟩ a).setCell ⟨B, 1, none⟩ b).setCell ⟨B, 2, none⟩ c) := by
 refine ⟨by simp [World.setCell, Array.getElem?_modify, h], ?_⟩
 exact ((((Keeps.refl (fun x => x = B) w).setCell (p := ⟨B, 0, none⟩) rfl _).setCell (p := ⟨B, 1, none⟩) rfl _).setCell (p := ⟨B, 2, none⟩) rfl _)
theorem set2 (h : w.heap[B]? = some (.cells #[x, y] t)) : ((w.setCell ⟨B, 0, none⟩ a).setCell ⟨B, 1, none⟩ b).heap[B]? = some (.cells #[a, b] t) ∧ Keeps (· = B) w ((w.setCell ⟨B, 0, none⟩ a).setCell ⟨B, 1, none⟩ b) := by
 refine ⟨by simp [World.setCell, Array.getElem?_modify, h], ?_⟩
 exact (((Keeps.refl (fun x => x = B) w).setCell (p := ⟨B, 0, none⟩) rfl _).setCell (p := ⟨B, 1, none⟩) rfl _)
end
theorem OwSys.zero (w : World) (a b : Int) : OwSys w (.agg #[.int .i64 a, .int .i64 b, .slice none 0 0]) (a, b, []) [] := ⟨none, 0, [], rfl, rfl, OwR.nil w, by simp [fpR]⟩
theorem OwMt.zero (w : World) (a : Int) : OwMt w (.agg #[.int .i64 a, .slice none 0 0]) (a, []) [] := ⟨none, 0, [], rfl, rfl, OwR.nil w, by simp [fpR]⟩
theorem FreshL.nil (B : Nat) : FreshL B [] := fun b hb => (by cases hb)
theorem okR_nil : OkR [] := ⟨by simp, fun x hx => (by cases hx), by simp [cntR]⟩
theorem OwSys.of_ret {w0 w : World} {L : List (List Int)} {A : Option Addr} {c : Nat} {a b : Int} (h : OM w0 w A c L) {w' : World} {S : Nat → Prop} (hk : Keeps S w w') (hS : ∀ k, S k → k < w0.heap.size) {n : Nat} (hn : L.length = n) : ∃ fp, OwSys w' (.agg #[.int .i64 a, .int .i64 b, .slice A n c]) (a, b, L) fp ∧ FreshL w0.heap.size fp := by
 subst hn
 obtain ⟨fp, h1, h2⟩ := OwSys.of_om (a := a) (b := b) h
 exact ⟨fp, h1.keeps hk fun k hk' hs => by have := h2 k hk'; have := hS k hs; omega, h2⟩
theorem cntR_le {L : List (List Int)} {k : Nat} (h : ∀ x, x ∈ L → x.length ≤ k) : cntR L ≤ L.length * k := by
 induction L with
 | nil => simp [cntR]
 | cons a L ih =>
   have h1 := ih fun x hx => h x (List.mem_cons_of_mem _ hx)
   have h2 := h a (List.mem_cons_self ..)
   rw [cntR, List.length_cons, Nat.succ_mul]; omega
theorem okR_mat {p : Int} {m n : Nat} {L : List (List Int)} (h : Mat p m n L) (hm : m ≤ 1000) (hn : n ≤ 1000) : OkR L := by
 have h1 := cntR_le (L := L) (k := n) fun x hx => Nat.le_of_eq (h.row x hx).1
 rw [h.len] at h1
 refine ⟨by rw [h.len]; omega, fun x hx => by rw [(h.row x hx).1]; omega, Nat.le_trans h1 ?_⟩
 have : m * n ≤ 1000 * 1000 := Nat.mul_le_mul hm hn
 omega
set_option maxRecDepth 100000 in
set_option maxHeartbeats 1000000 in
theorem rlOf_any (p a b : Int) (n : Nat) (A : Option Addr) (c : Nat) (hs : List Hd) (w : World) (h : RdR w A hs) (hp : fieldB p = true) (hn : a + b = (n : Int)) (hm : Mat p hs.length n (hs.map fun h : Hd => h.2.2)) (hl : hs.length ≤ 1048576) (hn' : n ≤ 1048576) :
  Calls Tryz.prog 62 #[.int .i64 p, .int .i64 a, .int .i64 b, .slice A hs.length c] w fun e w' => ∃ v' fp, e = .returned v' ∧ OwSys w' v' (a, b, redM p n (hs.map fun h : Hd => h.2.2)) fp ∧ FreshL w.heap.size fp ∧ Below w.heap.size w w' := by
 obtain ⟨W, hW⟩ : ∃ W, W = w.alloc (.cells #[.int .i64 0, .int .i64 0, .slice none 0 0] 29) := ⟨_, rfl⟩
 have hB0 : Below w.heap.size w W := by rw [hW]; exact (Below.refl _ _).alloc (Nat.le_refl _) _
 have k0 : W.heap[w.heap.size]? = some (.cells #[.int .i64 0, .int .i64 0, .slice none 0 0] 29) := by rw [hW]; exact heap_alloc_new w _
 have hC := spReduce_any p n A c hs W (h.below hB0) hp hm hl hn'
 obtain ⟨R, hR⟩ : ∃ R, R = redM p n (hs.map fun h : Hd => h.2.2) := ⟨_, rfl⟩
 rw [← hR] at hC ⊢
 have hC' : Calls Tryz.prog 79 #[.int .i64 p, .int .i64 (a + b), .slice A hs.length c] W (RetSS W R) := by rw [hn]; exact hC
 have hwr : IntKind.i64.wrap (a + b) = a + b := IntWalk.i64_in _ (by omega)
 have HC := lH hC'; have HB := lH hB0; have K0 := lH k0; clear hC hC' hR hB0 k0 h hm hp hn
 go_enter Tryz.func62, Tryz.ntmps62
 go_wp2_with (fail)
 rw [← hW]
 clear hW
 go_wp2_with (fail)
 refine HC.out.mono ?_
 rintro e w1 hret
 obtain ⟨A1, c1, rfl, hO1⟩ := hret.om
 have k1 := box_below K0.out hO1.below_
 have hB1 := below_trans HB.out hO1.below_ HB.out.size
 obtain ⟨⟨d0, d1, d2⟩, g0, g1, g2⟩ := box3 k1
 obtain ⟨s1, s2⟩ := set3 (a := .int .i64 a) (b := .int .i64 b) (c := .slice A1 R.length c1) k1
 have S1 := lH s1; have HO1 := lH hO1; have S2 := lH s2
 have hw0 := (Array.getElem?_eq_some_iff.1 K0.out).1
 have hB3 := lH (below_keeps hB1 s2 hB1.size (fun k hk => by omega))
 have hBs := HB.out.size
 clear HC hret K0 k1 hO1 s1 s2 hB1
 go_wp2_with (fail)
 refine bodyPost_ret (results_cell_row rfl _ _ w.heap.size _ _ (0, 0) _ rfl S1.out Tryz.underlying29 rfl (by kernel_rfl)) rfl ?_
 obtain ⟨fp, h1, h2⟩ := OwSys.of_ret (a := a) (b := b) HO1.out S2.out (fun k hk => by omega) rfl
 exact ⟨_, fp, rfl, h1, h2.mono hBs, hB3.out⟩
def fromI (a : Int) (n : Nat) : List Int := (List.range n).map fun i => ((i : Nat) : Int) + a
@[simp] theorem fromI_length (a : Int) (n : Nat) : (fromI a n).length = n := by simp [fromI]
theorem OI.join {w0 w w2 : World} {A : Option Addr} {cap : Nat} {l v : List Int} (h : OI w0 w A cap l) {A' : Option Addr} {cap' n : Nat} (hn : n = l.length + v.length) (hs' : Sl w2 tInt 1 A' n cap' (ints l ++ ints v)) (hA' : ∀ b, b ∈ fpA A' → b ∈ fpA A ∨ w.heap.size ≤ b) (hk : Keeps (· ∈ fpA A) w w2) : OI w0 w2 A' cap' (l ++ v) := by
 subst hn
 refine ⟨?_, fun b hb' => ?_, below_keeps h.below_ hk h.below_.size h.new⟩
 · unfold IS
   have : ints (l ++ v) = ints l ++ ints v := by simp [ints]
   rw [this, List.length_append]; exact hs'
 · rcases hA' b hb' with h1 | h1
   · exact h.new b h1
   · have := h.below_.size; omega
theorem flat_take_le {L : List (List Int)} {k : Nat} {N : Nat} (h : L.flatten.length ≤ N) : (L.take k).flatten.length ≤ N := by
 have e : L.flatten.length = (L.take k).flatten.length + (L.drop k).flatten.length := by
  have := congrArg (fun x => x.flatten.length) (List.take_append_drop k L)
  simp only [List.flatten_append, List.length_append] at this; omega
 omega
set_option maxHeartbeats 1000000 in
theorem joined_any (A : Option Addr) (c : Nat) (hs : List Hd) (w : World) (h : RdR w A hs) (hl : hs.length ≤ 1048576) (hN : (hs.map fun h : Hd => h.2.2).flatten.length ≤ 1048576) :
  Calls Tryz.prog 70 #[.slice A hs.length c] w (RetI w (hs.map fun h : Hd => h.2.2).flatten) := by
 obtain ⟨L, hLh⟩ : ∃ L, L = hs.map fun h : Hd => h.2.2 := ⟨_, rfl⟩
 rw [← hLh] at hN ⊢
 obtain ⟨m, hmm⟩ : ∃ m, m = hs.length := ⟨_, rfl⟩
 rw [← hmm] at hl ⊢
 have HLh := lH hLh; have HM := lH hmm
 have hLen := lH (show L.length = m by rw [hLh, List.length_map, hmm])
 clear hLh hmm
 have hO0 : OI w (w.alloc (.cells #[] 3)) (some ⟨w.heap.size, 0, none⟩) 0 [] := by
  refine ⟨by unfold IS; simpa [ints] using Sl.laid w 3 1 0 #[] (Nat.zero_le _) rfl, fun b hb => ?_, (Below.refl _ _).alloc (Nat.le_refl _) _⟩
  have : b = w.heap.size := by simpa using hb
  subst this; exact Nat.le_refl _
 go_enter Tryz.func70, Tryz.ntmps70
 go_wp2_with (fail)
 go_loopw [9, 3] (fun i v wr => ∃ (k : Nat) (A' : Option Addr) (c' n : Nat), k ≤ m ∧ i = .int .i64 k ∧ v = .slice A' n c' ∧ n = ((L.take k).flatten).length ∧ OI w wr A' c' (L.take k).flatten) (fun i _ _ => m - (intOf i).toNat)
 case atStart => exact ⟨0, _, 0, 0, Nat.zero_le _, rfl, rfl, rfl, by simpa using hO0⟩
 case round =>
  clear hO0
  obtain ⟨k, A', c', n, hk, rfl, rfl, hn, hO⟩ := hrel
  by_cases hlt : k < m
  · obtain ⟨ad, C, d, l, rfl, hx, hc, hri⟩ := (h.below hO.below_).at_ (k := k) (by rw [← HM.out]; exact hlt)
    have hlx : L[k]? = some l := by rw [HLh.out, List.getElem?_map, hx]; rfl
    have hnx : (L.take (k + 1)).flatten = (L.take k).flatten ++ l := by rw [List.take_add_one, hlx]; simp
    have hb1 := flat_take_le (k := k + 1) hN
    rw [hnx, List.length_append] at hb1
    have hsl : Sl wr 3 1 A' n c' (ints (L.take k).flatten) := by rw [hn]; exact hO.is
    obtain ⟨q, hq⟩ : ∃ q, q = l.length := ⟨_, rfl⟩
    rw [← hq] at hc hb1
    rw [← hn] at hb1
    have hil : (ints l).length = q * 1 := by rw [ints_length, hq, Nat.mul_one]
    have HNX := lH hnx; have HQ := lH hq; have HN := lH hn; have HIL := lH hil
    have hkI : (k : Int) < (m : Int) := by omega
    clear hx hlx hnx hq hn hil h
    go_wp2_with (at_builtin; refine wpList_append_Sl _ rfl _ _ _ rfl 3 Tryz.underlying23 info_int rfl (by omega) rfl hsl rfl HIL.out hri.rdc (ints_one l) (by unfold maxLen; omega) (by omega) ?_; intro A3 c3 w3 hs3 hA3 hk3)
    have hO2 := lH (hO.join (v := l) (by rw [← HN.out, ← HQ.out]) hs3 hA3 hk3)
    clear hs3 hO hsl
    go_roundw
    case rel => exact ⟨k + 1, A3, c3, n + q, by omega, by go_num, rfl, by rw [HNX.out, List.length_append, HN.out, HQ.out], by rw [HNX.out]; exact hO2.out⟩
    case measure => simp [intOf]; omega
  · obtain rfl : m = k := by omega
    have hO2 : OI w wr A' c' L.flatten := by have := hO; rwa [List.take_of_length_le (by rw [hLen.out]; omega)] at this
    have hn2 : n = L.flatten.length := by rw [hn, List.take_of_length_le (by rw [hLen.out]; omega)]
    have HN2 := lH hn2; clear hO h hn hn2
    go_wp2_with (fail)
    go_ret
    exact ⟨A', c', by rw [← HN2.out]; rfl, hO2.is, hO2.new, hO2.below_⟩
def placeTo (n : Nat) (at_ : List Nat) (v : List Int) : Nat → List Int
 | 0 => List.replicate n 0
 | i + 1 => (placeTo n at_ v i).set (at_.getD i 0) (v.getD i 0)
@[simp] theorem placeTo_length (n : Nat) (at_ : List Nat) (v : List Int) : ∀ i, (placeTo n at_ v i).length = n
  | 0 => by simp [placeTo]
  | i + 1 => by rw [placeTo, List.length_set]; exact placeTo_length n at_ v i
set_option maxHeartbeats 400000 in
theorem lead_any (A : Option Addr) (c n : Nat) (l : List Int) (w : World) (h : RdI w A l) (hn : l.length = n) (hl : n ≤ 1048576) :
  Calls Tryz.prog 129 #[.slice A n c] w fun e w' => e = .returned (.int .i64 (leadV l : Nat)) ∧ w = w' := by
 have hn_h := lH hn; clear hn
 go_enter Tryz.func129, Tryz.ntmps129
 go_wp2_with (fail)
 go_loop [7, 3, 4] (fun v _s3 _s4 => ∃ k : Nat, k ≤ n ∧ v = .int .i64 k ∧ (l.take k).all (· == 0) = true) (fun v _ _ => n - (intOf v).toNat)
 case atStart => exact ⟨0, Nat.zero_le _, rfl, by simp⟩
 case round =>
  obtain ⟨k, hk, rfl, hz⟩ := hrel
  have hz_h := lH hz; clear hz
  by_cases hlt : k < n
  · obtain ⟨ad, x, rfl, hx, hc⟩ := h.at_ (j := k) (by rw [hn_h.out]; exact hlt)
    have hkI : (k : Int) < (n : Int) := by omega
    clear h; have hx_h := lH hx; clear hx
    by_cases hx0 : x = 0
    · subst hx0
      have hs := leadV_step hx_h.out rfl hz_h.out
      have hs_h := lH hs; clear hs
      go_wp2_with (fail)
      go_round
      case rel => exact ⟨k + 1, by omega, by go_num, hs_h.out⟩
      case measure => simp [intOf]; omega
    · have hx1 : (x != 0) = true := by simpa using hx0
      have he := leadV_at (l := l) (k := k) (by rw [hn_h.out]; omega) hz_h.out (fun _ => by rw [getD_of_some hx_h.out]; exact hx0)
      clear hx0; have he_h := lH he; clear he
      go_wp2_with (fail)
      go_ret
      exact ⟨ret_int (by rw [he_h.out]), rfl⟩
  · obtain rfl : n = k := by omega
    have he := leadV_at (l := l) (k := n) (by rw [hn_h.out]; omega) hz_h.out (fun h => absurd h (by rw [hn_h.out]; omega))
    clear h; have he_h := lH he; clear he
    go_wp2_with (fail)
    go_ret
    exact ⟨ret_int (by rw [he_h.out]), rfl⟩
theorem isZero_any (A : Option Addr) (c n : Nat) (l : List Int) (w : World) (h : RdI w A l) (hn : l.length = n) (hl : n ≤ 1048576) :
  Calls Tryz.prog 146 #[.slice A n c] w fun e w' => e = .returned (.bool (((leadV l : Nat) : Int) == (n : Int))) ∧ w = w' := by
 have hL := lead_any A c n l w h hn hl
 obtain ⟨k, hk⟩ : ∃ k, k = leadV l := ⟨_, rfl⟩
 rw [← hk] at hL ⊢
 have hL_h := lH hL; have hk_h := lH hk; have hn_h := lH hn; clear hL hk hn
 go_enter Tryz.func146, Tryz.ntmps146
 go_wp2_with (fail)
 refine (hL_h.out).mono ?_
 rintro e w1 ⟨rfl, rfl⟩
 go_wp2_with (fail)
 go_ret
 exact ⟨rfl, rfl⟩
theorem first_any (na : Nat) (b : Int) (x : Value) (_hx : x.oneCell' = true) (B : Option Addr) (cc n : Nat) (u : List Int) (w : World) (h : Sl w 3 1 B n cc (ints u)) (hna : na ≤ n) :
  Calls Tryz.prog 133 #[.agg #[.int .i64 na, .int .i64 b, x], .slice B n cc] w fun e w' => ∃ B', e = .returned (.slice B' na cc) ∧ Sl w' 3 1 B' na cc (ints (u.take na)) ∧ (∀ y, y ∈ fpA B' → y ∈ fpA B) ∧ Below w.heap.size w w' := by
 obtain ⟨W, hW, b0, k0⟩ := alloc_box w (.cells #[.int .i64 na, .int .i64 b, x] tRel)
 obtain ⟨⟨c0, c1, c2⟩, f0, f1, f2⟩ := box3 k0
 have hS := h.below b0
 have hcap := hS.2.1
 have hmx := hS.2.2.1
 have k0_h := lH k0; have b0_h := lH b0; clear k0 b0
 go_enter Tryz.func133, Tryz.ntmps133
 go_upto_region 1 with (fail)
 rw [← hW]
 clear hW
 go_wp2_with (refine wpList_slice_Sl rfl (.tmp 5) none (some (.tmp 7)) none 23 rfl 3 Tryz.underlying23 info_int rfl hS 0 na cc (optNone rfl) (optSome rfl) (optNone rfl) (Nat.zero_le _) hna (by omega) (Nat.le_refl _) ?_; intro B' hS' hf' _)
 go_ret
 refine ⟨B', rfl, ?_, hf', b0_h.out⟩
 have e : ((ints u).drop (0 * 1)).take ((na - 0) * 1) = ints (u.take na) := by simp [ints, List.map_take]
 rw [e] at hS'
 exact hS'
theorem second_any (na : Nat) (b : Int) (x : Value) (_hx : x.oneCell' = true) (B : Option Addr) (cc n r : Nat) (u : List Int) (w : World) (h : Sl w 3 1 B n cc (ints u)) (hna : n = na + r) :
  Calls Tryz.prog 105 #[.agg #[.int .i64 na, .int .i64 b, x], .slice B n cc] w fun e w' => ∃ B' c', e = .returned (.slice B' r c') ∧ Sl w' 3 1 B' r c' (ints (u.drop na)) ∧ (∀ y, y ∈ fpA B' → y ∈ fpA B) ∧ Below w.heap.size w w' := by
 obtain ⟨W, hW, b0, k0⟩ := alloc_box w (.cells #[.int .i64 na, .int .i64 b, x] tRel)
 obtain ⟨⟨c0, c1, c2⟩, f0, f1, f2⟩ := box3 k0
 have hS := h.below b0
 have hcap := hS.2.1
 have hmx := hS.2.2.1
 have hul : (ints u).length = n := by rw [hS.1]; omega
 have hle : na ≤ n := by omega
 have k0_h := lH k0; have b0_h := lH b0; have hul_h := lH hul; have hna_h := lH hna; clear k0 b0 hul hna
 go_enter Tryz.func105, Tryz.ntmps105
 go_upto_region 1 with (fail)
 rw [← hW]
 clear hW
 go_wp2_with (refine wpList_slice_Sl rfl (.tmp 5) (some (.tmp 7)) none none 23 rfl 3 Tryz.underlying23 info_int rfl hS na n cc (optSome rfl) (optNone ⟨rfl, rfl⟩) (optNone rfl) hle (Nat.le_refl _) hcap (Nat.le_refl _) ?_; intro B' hS' hf' _)
 have er : n - na = r := by have := hna_h.out; omega
 rw [er] at hS' ⊢
 go_wp2_with (fail)
 go_ret
 refine ⟨B', cc - na, rfl, ?_, hf', b0_h.out⟩
 have e : ((ints u).drop (na * 1)).take (r * 1) = ints (u.drop na) := by
  rw [List.take_of_length_le (by rw [List.length_drop, hul_h.out]; omega)]
  simp [ints, List.map_drop]
 rw [e] at hS'
 exact hS'
theorem singB_false {s : Sys} {v : List Int} {k : Nat} (h : s.2.2[k]? = some v) (hv : ¬ (leadV v : Int) < s.1) : singB s = false := by
 rw [Bool.eq_false_iff]
 intro hh
 have := List.all_eq_true.1 hh v (List.mem_of_getElem? h)
 exact hv (by simpa using this)
theorem sing_step {L : List (List Int)} {a : Int} {v : List Int} {k : Nat} (h : L[k]? = some v) (hv : (leadV v : Int) < a) (ht : (L.take k).all (fun v => decide ((leadV v : Int) < a)) = true) : (L.take (k + 1)).all (fun v => decide ((leadV v : Int) < a)) = true := by
 rw [List.take_add_one, h, List.all_append, ht]
 simpa using hv
set_option maxRecDepth 8000 in
set_option maxHeartbeats 1000000 in
theorem rlSingle_any (p : Int) {v : Value} {s : Sys} {fp : List Nat} (w : World) (h : OwSys w v s fp) (hs : RelOk p s) :
  Calls Tryz.prog 100 #[v] w fun e w' => e = .returned (.bool (singB s)) ∧ Below w.heap.size w w' := by
 obtain ⟨A, c, gs, rfl, hL, hO, rfl⟩ := h
 obtain ⟨a, b, L⟩ := s
 have h0 : 0 ≤ a := hs.lo
 have h1 : 0 ≤ b := hs.hi
 have h2 : a + b ≤ 24 := hs.sum
 have hrow : ∀ u, u ∈ L → (u.length : Int) = a + b := fun u hu => (hs.row hu).1
 have hlen : (L.length : Int) ≤ a + b := hs.len
 clear hs
 obtain ⟨na, rfl⟩ : ∃ na : Nat, a = (na : Int) := ⟨a.toNat, by omega⟩
 obtain ⟨nb, rfl⟩ : ∃ nb : Nat, b = (nb : Int) := ⟨b.toNat, by omega⟩
 have hL' : L = gs.map (fun h : Hd => h.2.2) := hL
 clear hL
 obtain ⟨F, hF⟩ : ∃ F, F = singB ((na : Int), (nb : Int), L) := ⟨_, rfl⟩
 obtain ⟨m, hm⟩ : ∃ m, m = gs.length := ⟨_, rfl⟩
 have hLm : L.length = m := by rw [hL', List.length_map, hm]
 show Calls Tryz.prog _ #[.agg #[.int .i64 (na : Int), .int .i64 (nb : Int), .slice A gs.length c]] w _
 rw [← hF, ← hm]
 obtain ⟨W, hW, b0, k0⟩ := alloc_box w (.cells #[.int .i64 (na : Int), .int .i64 (nb : Int), .slice A m c] tRel)
 have hO0 := hO.below b0
 obtain ⟨⟨c0, c1, c2⟩, f0, f1, f2⟩ := box3 k0
 clear hO
 have hm24 : (m : Int) ≤ 24 := by have := hlen; rw [hLm] at this; omega
 have hL'_h := lH hL'; have hF_h := lH hF; have hm_h := lH hm; have hLm_h := lH hLm; have b0_h := lH b0; have k0_h := lH k0; have hO0_h := lH hO0; have hrow_h := lH hrow; have hlen_h := lH hlen; clear hL' hF hm hLm b0 k0 hO0 hrow hlen
 go_enter Tryz.func100, Tryz.ntmps100
 go_upto_region 1 with (fail)
 rw [← hW]
 clear hW
 go_wp2_with (fail)
 clear c0 c1 c2 f0 f1 f2
 go_loopw [8, 4] (fun i _s4 wr => ∃ k : Nat, k ≤ m ∧ i = .int .i64 k ∧ (L.take k).all (fun v => decide ((leadV v : Int) < (na : Int))) = true ∧ Below W.heap.size W wr) (fun i _ _ => m - (intOf i).toNat)
 case atStart => exact ⟨0, Nat.zero_le _, rfl, by simp, Below.refl _ _⟩
 case round =>
  obtain ⟨k, hk, rfl, ht, hbr⟩ := hrel
  have hB := below_trans b0_h.out hbr b0_h.out.size
  by_cases hlt : k < m
  · have hkI : (k : Int) < (m : Int) := by omega
    have hOr := hO0_h.out.below hbr
    have k0r := box_below k0_h.out hbr
    obtain ⟨ad, B1, c1, u, rfl, hx, hc1, hr1⟩ := hOr.rd.at_ (k := k) (by rw [← hm_h.out]; exact hlt)
    have hyL : L[k]? = some u := by rw [hL'_h.out, List.getElem?_map, hx]; rfl
    have hul : u.length = na + nb := by have := hrow_h.out _ (List.mem_of_getElem? hyL); omega
    have hI : Sl wr 3 1 B1 u.length c1 (ints u) := hOr.rows _ (List.mem_of_getElem? hx)
    obtain ⟨n, hn⟩ : ∃ n, n = u.length := ⟨_, rfl⟩
    rw [← hn] at hI hc1
    clear hOr hx
    have hFn : (na : Int) ≤ (leadV u : Int) → F = false := fun h => by rw [hF_h.out]; exact singB_false hyL (by show ¬ (leadV u : Int) < (na : Int); omega)
    have hst : ¬ (na : Int) ≤ (leadV u : Int) → (L.take (k + 1)).all (fun v => decide ((leadV v : Int) < (na : Int))) = true := fun h => sing_step hyL (by omega) ht
    have hS := fun W' (hb : Below wr.heap.size wr W') => spLead_any B1 c1 n u W' (hr1.below hb) hn.symm (by omega)
    obtain ⟨q, hq⟩ : ∃ q, q = leadV u := ⟨_, rfl⟩
    rw [← hq] at hFn hst
    simp only [← hq] at hS
    clear ht hr1; have hbr_h := lH hbr; have hB_h := lH hB; have hyL_h := lH hyL; have hul_h := lH hul; have hI_h := lH hI; have hn_h := lH hn; have hFn_h := lH hFn; have hst_h := lH hst; have hS_h := lH hS; have hq_h := lH hq; have k0r_h := lH k0r; clear hbr hB hyL hul hI hn hFn hst hS hq k0r
    have hbd : Below wr.heap.size wr wr.drew := below_drewN (Below.refl _ _) 1
    go_wp2_with (fail)
    clear hc1
    refine beginH (fun w' => w'.heap[w.heap.size]? = some (.cells #[.int .i64 (na : Int), .int .i64 (nb : Int), .slice (some ad) m c] tRel)) (by kernel_rfl) ?_
    generalize wr.drew = W1 at hbd ⊢
    replace k0r_h := lH (box_below k0r_h.out hbd)
    have hbd_h := lH hbd; clear hbd
    refine tkH 0 ?_ rfl k0r_h.out (fun W' hW' => ?_) ?_; rotate_left; · (skip; clear hW'; go_simp; first | done | with_reducible rfl)
    simp only [Act.put, nS]
    refine tkH 2 ?_ rfl k0r_h.out (fun W' hW' => ?_) ?_; rotate_left; · (obtain ⟨⟨y0, y1, y2⟩, y3, y4, y5⟩ := box3 hW'; clear hW'; go_simp; first | done | with_reducible rfl)
    simp only [Act.put, nS]
    refine tkH 3 ?_ rfl k0r_h.out (fun W' hW' => ?_) ?_; rotate_left; · (obtain ⟨⟨y0, y1, y2⟩, y3, y4, y5⟩ := box3 hW'; clear hW'; go_simp; first | done | with_reducible rfl)
    simp only [Act.put, nS]
    refine' callH 1 (f := _) (args := _) rfl (by kernel_rfl) (by rfl) ?_ ?_; rotate_left 2; · (go_simp; first | done | with_reducible rfl | (constructor <;> with_reducible rfl))
    refine (hS_h.out W1 hbd_h.out).mono ?_
    rintro e w3 ⟨rfl, rfl⟩
    refine ⟨_, rfl, k0r_h.out, ?_⟩
    simp only [Act.put, nS]
    by_cases hle : (na : Int) ≤ (q : Int)
    · have hd : decide (na ≤ q) = true := decide_eq_true (by omega)
      have hle_h := lH hle; clear hle
      refine tkH 4 ?_ rfl k0r_h.out (fun W' hW' => ?_) ?_; rotate_left; · (skip; clear hW'; go_simp; first | done | with_reducible rfl)
      simp only [Act.put, nS]
      refine doneH (by kernel_rfl) ?_
      go_wp2_with (fail)
      go_ret
      exact ⟨ret_bool (hFn_h.out hle_h.out).symm, below_trans hB_h.out hbd_h.out hB_h.out.size⟩
    · have hd : decide (na ≤ q) = false := decide_eq_false (by omega)
      have hle_h := lH hle; clear hle
      refine tkH 4 ?_ rfl k0r_h.out (fun W' hW' => ?_) ?_; rotate_left; · (skip; clear hW'; go_simp; first | done | with_reducible rfl)
      simp only [Act.put, nS]
      refine doneH (by kernel_rfl) ?_
      go_wp2_with (fail)
      go_roundw
      case rel => exact ⟨k + 1, by omega, by go_num, hst_h.out (by have := hle_h.out; omega), below_trans hbr_h.out hbd_h.out hbr_h.out.size⟩
      case measure => simp [intOf]; omega
  · obtain rfl : k = m := by omega
    have hfin : F = true := by
     rw [hF_h.out]; show L.all _ = true
     rw [List.take_of_length_le (by rw [hLm_h.out]; exact Nat.le_refl _)] at ht
     exact ht
    clear ht; have hbr_h := lH hbr; have hB_h := lH hB; have hfin_h := lH hfin; clear hbr hB hfin
    go_wp2_with (fail)
    go_ret
    exact ⟨ret_bool hfin_h.out.symm, hB_h.out⟩
set_option maxRecDepth 8000 in
set_option maxHeartbeats 1000000 in
theorem isSingleValued_any (p : Int) {v : Value} {s : Sys} {fp : List Nat} (w : World) (h : OwSys w v s fp) (hs : RelOk p s) :
  Calls Tryz.prog 102 #[v] w fun e w' => e = .returned (.bool (singB s)) ∧ Below w.heap.size w w' := by
 obtain ⟨A, c, gs, rfl, hL, hO, rfl⟩ := h
 obtain ⟨a, b, L⟩ := s
 have h0 : 0 ≤ a := hs.lo
 have h1 : 0 ≤ b := hs.hi
 have h2 : a + b ≤ 24 := hs.sum
 have hrow : ∀ u, u ∈ L → (u.length : Int) = a + b := fun u hu => (hs.row hu).1
 have hlen : (L.length : Int) ≤ a + b := hs.len
 clear hs
 obtain ⟨na, rfl⟩ : ∃ na : Nat, a = (na : Int) := ⟨a.toNat, by omega⟩
 obtain ⟨nb, rfl⟩ : ∃ nb : Nat, b = (nb : Int) := ⟨b.toNat, by omega⟩
 have hL' : L = gs.map (fun h : Hd => h.2.2) := hL
 clear hL
 obtain ⟨F, hF⟩ : ∃ F, F = singB ((na : Int), (nb : Int), L) := ⟨_, rfl⟩
 obtain ⟨m, hm⟩ : ∃ m, m = gs.length := ⟨_, rfl⟩
 have hLm : L.length = m := by rw [hL', List.length_map, hm]
 show Calls Tryz.prog _ #[.agg #[.int .i64 (na : Int), .int .i64 (nb : Int), .slice A gs.length c]] w _
 rw [← hF, ← hm]
 obtain ⟨W, hW, b0, k0⟩ := alloc_box w (.cells #[.int .i64 (na : Int), .int .i64 (nb : Int), .slice A m c] tRel)
 have hO0 := hO.below b0
 obtain ⟨⟨c0, c1, c2⟩, f0, f1, f2⟩ := box3 k0
 clear hO
 have hm24 : (m : Int) ≤ 24 := by have := hlen; rw [hLm] at this; omega
 have hL'_h := lH hL'; have hF_h := lH hF; have hm_h := lH hm; have hLm_h := lH hLm; have b0_h := lH b0; have k0_h := lH k0; have hO0_h := lH hO0; have hrow_h := lH hrow; have hlen_h := lH hlen; clear hL' hF hm hLm b0 k0 hO0 hrow hlen
 go_enter Tryz.func102, Tryz.ntmps102
 go_upto_region 1 with (fail)
 rw [← hW]
 clear hW
 go_wp2_with (fail)
 clear c0 c1 c2 f0 f1 f2
 go_loopw [8, 4] (fun i _s4 wr => ∃ k : Nat, k ≤ m ∧ i = .int .i64 k ∧ (L.take k).all (fun v => decide ((leadV v : Int) < (na : Int))) = true ∧ Below W.heap.size W wr) (fun i _ _ => m - (intOf i).toNat)
 case atStart => exact ⟨0, Nat.zero_le _, rfl, by simp, Below.refl _ _⟩
 case round =>
  obtain ⟨k, hk, rfl, ht, hbr⟩ := hrel
  have hB := below_trans b0_h.out hbr b0_h.out.size
  by_cases hlt : k < m
  · have hkI : (k : Int) < (m : Int) := by omega
    have hOr := hO0_h.out.below hbr
    have k0r := box_below k0_h.out hbr
    obtain ⟨ad, B1, c1, u, rfl, hx, hc1, hr1⟩ := hOr.rd.at_ (k := k) (by rw [← hm_h.out]; exact hlt)
    have hyL : L[k]? = some u := by rw [hL'_h.out, List.getElem?_map, hx]; rfl
    have hul : u.length = na + nb := by have := hrow_h.out _ (List.mem_of_getElem? hyL); omega
    have hI : Sl wr 3 1 B1 u.length c1 (ints u) := hOr.rows _ (List.mem_of_getElem? hx)
    obtain ⟨n, hn⟩ : ∃ n, n = u.length := ⟨_, rfl⟩
    rw [← hn] at hI hc1
    clear hOr hx
    have hFn : (na : Int) ≤ (leadV u : Int) → F = false := fun h => by rw [hF_h.out]; exact singB_false hyL (by show ¬ (leadV u : Int) < (na : Int); omega)
    have hst : ¬ (na : Int) ≤ (leadV u : Int) → (L.take (k + 1)).all (fun v => decide ((leadV v : Int) < (na : Int))) = true := fun h => sing_step hyL (by omega) ht
    have hS := first_any na (nb : Int) (.slice (some ad) m c) rfl B1 c1 n u wr hI (by omega)
    have hlz := leadV_take (v := u) (a := na) (by omega)
    have htl : (u.take na).length = na := by rw [List.length_take]; omega
    clear ht hr1; have hbr_h := lH hbr; have hB_h := lH hB; have hyL_h := lH hyL; have hul_h := lH hul; have hI_h := lH hI; have hn_h := lH hn; have hFn_h := lH hFn; have hst_h := lH hst; have hS_h := lH hS; have hlz_h := lH hlz; have htl_h := lH htl; clear hbr hB hyL hul hI hn hFn hst hS hlz htl
    obtain ⟨⟨y0, y1, y2⟩, y3, y4, y5⟩ := box3 k0r
    clear k0r
    go_wp2_with (fail)
    refine (hS_h.out).mono ?_
    rintro e w3 ⟨B3, rfl, hI3, -, hb3⟩
    have hr3 : RdI w3 B3 (u.take na) := IS.rd (cap := c1) (by unfold IS; rw [htl_h.out]; exact hI3)
    have hZ := isZero_any B3 c1 na (u.take na) w3 hr3 htl_h.out (by omega)
    obtain ⟨q, hq⟩ : ∃ q, q = leadV (u.take na) := ⟨_, rfl⟩
    rw [← hq] at hZ
    have hB3 := below_trans hB_h.out hb3 hB_h.out.size
    clear y0 y1 y2 y3 y4 y5 hc1 hI3 hr3
    by_cases hle : (na : Int) ≤ (leadV u : Int)
    · have e : ((q : Int) == (na : Int)) = true := by have := hlz_h.out.2 (by omega); rw [hq, this]; simp
      rw [e] at hZ
      clear e; have hb3_h := lH hb3; have hZ_h := lH hZ; have hq_h := lH hq; have hB3_h := lH hB3; have hle_h := lH hle; clear hb3 hZ hq hB3 hle
      go_wp2_with (fail)
      refine (hZ_h.out).mono ?_
      rintro e w4 ⟨rfl, rfl⟩
      go_wp2_with (fail)
      go_ret
      exact ⟨ret_bool (hFn_h.out hle_h.out).symm, hB3_h.out⟩
    · have e : ((q : Int) == (na : Int)) = false := by
       have h9 : ¬ q = na := fun h => hle (by have := hlz_h.out.1 (by rw [← hq]; exact h); omega)
       simp only [beq_eq_false_iff_ne, ne_eq]; omega
      rw [e] at hZ
      clear e; have hb3_h := lH hb3; have hZ_h := lH hZ; have hq_h := lH hq; have hB3_h := lH hB3; have hle_h := lH hle; clear hb3 hZ hq hB3 hle
      go_wp2_with (fail)
      refine (hZ_h.out).mono ?_
      rintro e w4 ⟨rfl, rfl⟩
      go_wp2_with (fail)
      go_roundw
      case rel => exact ⟨k + 1, by omega, by go_num, hst_h.out (by have := hle_h.out; omega), below_trans hbr_h.out hb3_h.out hbr_h.out.size⟩
      case measure => simp [intOf]; omega
  · obtain rfl : k = m := by omega
    have hfin : F = true := by
     rw [hF_h.out]; show L.all _ = true
     rw [List.take_of_length_le (by rw [hLm_h.out]; exact Nat.le_refl _)] at ht
     exact ht
    clear ht; have hbr_h := lH hbr; have hB_h := lH hB; have hfin_h := lH hfin; clear hbr hB hfin
    go_wp2_with (fail)
    go_ret
    exact ⟨ret_bool hfin_h.out.symm, hB_h.out⟩
structure RdO (w0 w : World) (A : Option Addr) (cap : Nat) (hs : List Hd) : Prop where
 sl : Sl w 23 1 A hs.length cap (hs.map Hd.val)
 rows : ∀ h, h ∈ hs → IS w h.1 h.2.1 h.2.2
 outer : ∀ h, h ∈ hs → ∀ b, b ∈ fpA h.1 → ¬ b ∈ fpA A
 new : ∀ b, b ∈ fpA A → w0.heap.size ≤ b
 below_ : Below w0.heap.size w0 w
section
variable {w0 w w' : World} {A : Option Addr} {cap : Nat} {hs : List Hd}
theorem RdO.below (h : RdO w0 w A cap hs) (hb : Below w.heap.size w w') : RdO w0 w' A cap hs := ⟨h.sl.below hb, fun x hx => (h.rows x hx).below hb, h.outer, h.new, below_trans h.below_ hb h.below_.size⟩
theorem RdO.rdr (h : RdO w0 w A cap hs) : RdR w A hs := by
 refine ⟨fun i x hx => ?_, fun x hx => (h.rows x hx).rd⟩
 obtain ⟨ad, hA, _, hc, _⟩ := h.sl.cell (j := i) (u := x.val) (by simp [hx])
 exact ⟨ad, hA, hc⟩
theorem RdO.snoc {w1 w2 : World} (h : RdO w0 w A cap hs) (hb : Below w.heap.size w w1) {x : Hd} (hx : IS w1 x.1 x.2.1 x.2.2) (hxo : ∀ b, b ∈ fpA x.1 → ¬ b ∈ fpA A) {A' : Option Addr} {cap' n : Nat} (hn : n = hs.length + 1) (hs' : Sl w2 23 1 A' n cap' (hs.map Hd.val ++ [x.val])) (hA' : ∀ b, b ∈ fpA A' → b ∈ fpA A ∨ w1.heap.size ≤ b) (hk : Keeps (· ∈ fpA A) w1 w2) : RdO w0 w2 A' cap' (hs ++ [x]) := by
 subst hn
 have hbw := below_trans h.below_ hb h.below_.size
 refine ⟨by simpa using hs', fun y hy => ?_, fun y hy b hb1 hb2 => ?_, fun b hb' => ?_, below_keeps hbw hk hbw.size h.new⟩
 · rcases List.mem_append.1 hy with hy | hy
   · exact ((h.rows y hy).below hb).keeps hk (h.outer y hy)
   · obtain rfl := List.mem_singleton.1 hy; exact hx.keeps hk hxo
 · rcases List.mem_append.1 hy with hy | hy
   · rcases hA' b hb2 with h1 | h1
     · exact h.outer y hy b hb1 h1
     · have := (h.rows y hy).lt b hb1; have := hb.size; omega
   · obtain rfl := List.mem_singleton.1 hy
     rcases hA' b hb2 with h1 | h1
     · exact hxo b hb1 h1
     · have := hx.lt b hb1; omega
 · rcases hA' b hb' with h1 | h1
   · exact h.new b h1
   · have := hbw.size; omega
theorem RdO.start (w W : World) (hb : Below w.heap.size w W) : RdO w (W.alloc (.cells #[] 23)) (some ⟨W.heap.size, 0, none⟩) 0 [] := by
 refine ⟨by simpa using Sl.laid W 23 1 0 #[] (Nat.zero_le _) rfl, fun x hx => (by cases hx), fun x hx => (by cases hx), fun b hb' => ?_, below_trans hb (below_alloc _ _) hb.size⟩
 simp at hb'; subst hb'; exact hb.size
end
set_option maxRecDepth 8000 in
set_option maxHeartbeats 1000000 in
theorem each_any (F : FuncId) (first cap : Array Value) (g : List Int → List Int) (a b : Int) (A : Option Addr) (c : Nat) (hs : List Hd) (w : World) (hR : RdR w A hs) (hI : ∀ x, x ∈ hs → IS w x.1 x.2.1 x.2.2) (hl : hs.length ≤ 1048576) (hE : ∀ (args : Array Value) (w : World), (callFunc F args).run Tryz.prog w = .ok (.enter F args) w)
  (hF : ∀ x, x ∈ hs → ∀ W', Below w.heap.size w W' → Calls Tryz.prog F (first.push (.slice x.1 x.2.2.length x.2.1) ++ cap) W' fun e w'' => ∃ B c', e = .returned (.slice B (g x.2.2).length c') ∧ IS w'' B c' (g x.2.2) ∧ (∀ b, b ∈ fpA B → b ∈ fpA x.1 ∨ W'.heap.size ≤ b) ∧ Below W'.heap.size W' w'') :
  Calls Tryz.prog 104 #[.agg #[.int .i64 a, .int .i64 b, .slice A hs.length c], .func (.func F) first cap] w fun e w' => ∃ A' c' gs, e = .returned (.slice A' hs.length c') ∧ gs.map (fun h : Hd => h.2.2) = hs.map (fun h : Hd => g h.2.2) ∧ RdO w w' A' c' gs := by
 obtain ⟨m, hm⟩ : ∃ m, m = hs.length := ⟨_, rfl⟩
 rw [← hm] at hl ⊢
 obtain ⟨W, hW, b0, k0⟩ := alloc_box w (.cells #[.int .i64 a, .int .i64 b, .slice A m c] tRel)
 obtain ⟨⟨c0, c1, c2⟩, f0, f1, f2⟩ := box3 k0
 have hO0 := RdO.start w W b0
 have hz0 := (Array.getElem?_eq_some_iff.1 k0).1
 have hm_h := lH hm; have hF_h := lH hF; have hI_h := lH hI; have hR_h := lH hR; have k0_h := lH k0; have b0_h := lH b0; have hO0_h := lH hO0; have hE_h := lH hE; clear hm hF hI hR k0 b0 hO0 hE
 go_enter Tryz.func104, Tryz.ntmps104
 go_upto_region 1 with (fail)
 rw [← hW]
 clear hW
 go_wp2_with (fail)
 clear c0 c1 c2 f0 f1 f2
 go_loopw [12, 5] (fun i v wr => ∃ (k : Nat) (A' : Option Addr) (c' : Nat) (gs : List Hd), k ≤ m ∧ i = .int .i64 k ∧ v = .slice A' k c' ∧ gs.length = k ∧ gs.map (fun h : Hd => h.2.2) = (hs.take k).map (fun h : Hd => g h.2.2) ∧ RdO w wr A' c' gs) (fun i _ _ => m - (intOf i).toNat)
 case atStart => exact ⟨0, _, 0, [], Nat.zero_le _, rfl, rfl, rfl, rfl, hO0_h.out⟩
 case round =>
  obtain ⟨k, A', c', gs, hk, rfl, rfl, hgl, hgm, hO⟩ := hrel
  by_cases hlt : k < m
  · obtain ⟨x, hx⟩ : ∃ x, hs[k]? = some x := ⟨_, List.getElem?_eq_getElem (by rw [← hm_h.out]; exact hlt)⟩
    obtain ⟨ad, rfl, hc⟩ := (hR_h.out.below hO.below_).1 k x hx
    obtain ⟨B, d, l⟩ := x
    have hxm := List.mem_of_getElem? hx
    have hC := hF_h.out _ hxm wr hO.below_
    have hBlt := (hI_h.out _ hxm).lt
    have hc' : wr.cell? (ad.add k) = some (.slice B l.length d) := hc
    obtain ⟨q, hq⟩ : ∃ q, q = l.length := ⟨_, rfl⟩
    obtain ⟨r, hr⟩ : ∃ r, r = (g l).length := ⟨_, rfl⟩
    simp only [← hq, ← hr] at hC
    rw [← hq] at hc'
    have hkI : (k : Int) < (m : Int) := by omega
    clear hc hxm; have hgl_h := lH hgl; have hgm_h := lH hgm; have hO_h := lH hO; have hC_h := lH hC; have hq_h := lH hq; have hr_h := lH hr; have hx_h := lH hx; have hBlt_h := lH hBlt; clear hgl hgm hO hC hq hr hx hBlt
    have hE1 := hE_h.out (first.push (.slice B q d) ++ cap) wr
    go_wp2_with (fail)
    refine (hC_h.out).mono ?_
    rintro e w1 ⟨B1, d1, rfl, hI1, hfp1, hb1⟩
    have hsl : Sl (w1.alloc (.cells #[.slice B1 r d1] 23)) 23 1 A' k c' (gs.map Hd.val) := by
     have := (hO_h.out.sl.below hb1).alloc (.cells #[.slice B1 r d1] 23)
     rwa [hgl_h.out] at this
    clear hc' hE1; have hI1_h := lH hI1; have hfp1_h := lH hfp1; have hb1_h := lH hb1; have hsl_h := lH hsl; clear hI1 hfp1 hb1 hsl
    go_wp2_with (at_builtin; refine wpList_append_Sl _ rfl _ _ _ rfl 23 Tryz.underlying27 info_ints rfl (by omega) rfl (hsl_h.out) rfl (news := [.slice B1 r d1]) rfl (Sl.rdc (Sl.laid w1 23 1 1 #[.slice B1 r d1] (by unfold maxLen; omega) rfl)) (by intro u hu; simp at hu; subst hu; rfl) (by unfold maxLen; omega) (by omega) ?_; intro A3 c3 w3 hsA3 hA3 hkA3)
    have hal : Below w1.heap.size w1 (w1.alloc (.cells #[.slice B1 r d1] 23)) := below_alloc _ _
    have hO2 := hO_h.out.snoc (w1 := w1.alloc (.cells #[.slice B1 r d1] 23)) (below_trans hb1_h.out hal hb1_h.out.size) (x := (B1, d1, g l)) (hI1_h.out.below hal) (fun b hb hb' => by
     have h1 := hO_h.out.sl.lt b hb'
     have h2 := hO_h.out.new b hb'
     rcases hfp1_h.out b hb with h3 | h3
     · have := hBlt_h.out b h3; omega
     · omega) (by rw [hgl_h.out]) (by show Sl w3 _ 1 A3 (k + 1) c3 (gs.map Hd.val ++ [.slice B1 (g l).length d1]); rw [← hr_h.out]; exact hsA3) hA3 hkA3
    clear hsA3 hA3 hkA3; have hO2_h := lH hO2; clear hO2
    go_roundw
    case rel => exact ⟨k + 1, A3, c3, gs ++ [(B1, d1, g l)], by omega, by go_num, rfl, by rw [List.length_append, hgl_h.out]; rfl, by rw [List.map_append, hgm_h.out, List.take_add_one, hx_h.out]; simp, hO2_h.out⟩
    case measure => simp [intOf]; omega
  · obtain rfl : k = m := by omega
    have hgm2 : gs.map (fun h : Hd => h.2.2) = hs.map (fun h : Hd => g h.2.2) := by rw [hgm, List.take_of_length_le (by rw [← hm_h.out]; exact Nat.le_refl _)]
    clear hgm; have hgl_h := lH hgl; have hgm2_h := lH hgm2; have hO_h := lH hO; clear hgl hgm2 hO
    go_wp2_with (fail)
    go_ret
    exact ⟨A', c', gs, rfl, hgm2_h.out, hO_h.out⟩
set_option maxRecDepth 100000 in
set_option maxHeartbeats 1000000 in
theorem relation_any (p a b : Int) (n : Nat) (A : Option Addr) (c : Nat) (hs : List Hd) (w : World) (h : RdR w A hs) (hp : fieldB p = true) (hn : a + b = (n : Int)) (hm : Mat p hs.length n (hs.map fun h : Hd => h.2.2)) (hl : hs.length ≤ 1048576) (hn' : n ≤ 1048576) :
  Calls Tryz.prog 68 #[.int .i64 p, .int .i64 a, .int .i64 b, .slice A hs.length c] w fun e w' => ∃ v' fp, e = .returned v' ∧ OwSys w' v' (a, b, redM p n (hs.map fun h : Hd => h.2.2)) fp ∧ FreshL w.heap.size fp ∧ Below w.heap.size w w' := by
 obtain ⟨W, hW, hB0, k0⟩ := alloc_box w (.cells #[.int .i64 0, .int .i64 0, .slice none 0 0] tRel)
 have hC := reduced_any p n A c hs W (h.below hB0) hp hm hl hn'
 obtain ⟨R, hR⟩ : ∃ R, R = redM p n (hs.map fun h : Hd => h.2.2) := ⟨_, rfl⟩
 rw [← hR] at hC ⊢
 rw [← hn] at hC
 have hwr : IntKind.i64.wrap (a + b) = a + b := IntWalk.i64_in _ (by omega)
 clear h hm hp hn; have hC_h := lH hC; have hB0_h := lH hB0; have k0_h := lH k0; have hR_h := lH hR; clear hC hB0 k0 hR
 go_enter Tryz.func68, Tryz.ntmps68
 go_upto_region 1 with (fail)
 rw [← hW]
 clear hW
 go_wp2_with (fail)
 refine (hC_h.out).mono ?_
 rintro e w1 hret
 obtain ⟨A1, c1, rfl, hO1⟩ := hret.om
 have k1 := box_below k0_h.out hO1.below_
 have hB1 := below_trans hB0_h.out hO1.below_ hB0_h.out.size
 obtain ⟨⟨d0, d1, d2⟩, g0, g1, g2⟩ := box3 k1
 obtain ⟨s1, s2⟩ := set3 (a := .int .i64 a) (b := .int .i64 b) (c := .slice A1 R.length c1) k1
 have hw0 := (Array.getElem?_eq_some_iff.1 k0_h.out).1
 have hB3 := below_keeps hB1 s2 hB1.size (fun k hk => by omega)
 have hBs := hB0_h.out.size
 clear hret k1 hB1; have s1_h := lH s1; have s2_h := lH s2; have hO1_h := lH hO1; have hB3_h := lH hB3; clear s1 s2 hO1 hB3
 go_wp2_with (fail)
 refine bodyPost_ret (results_cell_row rfl _ _ w.heap.size _ _ (0, 0) _ rfl s1_h.out Tryz.underlying29 rfl (by kernel_rfl)) rfl ?_
 obtain ⟨fp, h1, h2⟩ := OwSys.of_ret (a := a) (b := b) hO1_h.out s2_h.out (fun k hk => by omega) rfl
 exact ⟨_, fp, rfl, h1, h2.mono hBs, hB3_h.out⟩
theorem OwMt.of_ret {w0 w : World} {L : List (List Int)} {A : Option Addr} {c : Nat} {a : Int} (h : OM w0 w A c L) {w' : World} {S : Nat → Prop} (hk : Keeps S w w') (hS : ∀ k, S k → k < w0.heap.size) {n : Nat} (hn : L.length = n) : ∃ fp, OwMt w' (.agg #[.int .i64 a, .slice A n c]) (a, L) fp ∧ FreshL w0.heap.size fp := by
 subst hn
 obtain ⟨fp, h1, h2⟩ := OwMt.of_om (a := a) h
 exact ⟨fp, h1.keeps hk fun k hk' hs => by have := h2 k hk'; have := hS k hs; omega, h2⟩
set_option maxRecDepth 100000 in
set_option maxHeartbeats 1000000 in
theorem span_any (p : Int) (n : Nat) (A : Option Addr) (c : Nat) (hs : List Hd) (w : World) (h : RdR w A hs) (hp : fieldB p = true) (hm : Mat p hs.length n (hs.map fun h : Hd => h.2.2)) (hl : hs.length ≤ 1048576) (hn' : n ≤ 1048576) :
  Calls Tryz.prog 167 #[.int .i64 p, .int .i64 n, .slice A hs.length c] w fun e w' => ∃ v' fp, e = .returned v' ∧ OwMt w' v' ((n : Int), redM p n (hs.map fun h : Hd => h.2.2)) fp ∧ FreshL w.heap.size fp ∧ Below w.heap.size w w' := by
 obtain ⟨W, hW, hB0, k0⟩ := alloc_box w (.cells #[.int .i64 0, .slice none 0 0] tSpc)
 have hC := reduced_any p n A c hs W (h.below hB0) hp hm hl hn'
 obtain ⟨R, hR⟩ : ∃ R, R = redM p n (hs.map fun h : Hd => h.2.2) := ⟨_, rfl⟩
 rw [← hR] at hC ⊢
 clear h hm hp; have hC_h := lH hC; have hB0_h := lH hB0; have k0_h := lH k0; have hR_h := lH hR; clear hC hB0 k0 hR
 go_enter Tryz.func167, Tryz.ntmps167
 go_upto_region 1 with (fail)
 rw [← hW]
 clear hW
 go_wp2_with (fail)
 refine (hC_h.out).mono ?_
 rintro e w1 hret
 obtain ⟨A1, c1, rfl, hO1⟩ := hret.om
 have k1 := box_below k0_h.out hO1.below_
 have hB1 := below_trans hB0_h.out hO1.below_ hB0_h.out.size
 obtain ⟨⟨d0, d1⟩, g0, g1⟩ := box2 k1
 obtain ⟨s1, s2⟩ := set2 (a := .int .i64 (n : Int)) (b := .slice A1 R.length c1) k1
 have hw0 := (Array.getElem?_eq_some_iff.1 k0_h.out).1
 have hB3 := below_keeps hB1 s2 hB1.size (fun k hk => by omega)
 have hBs := hB0_h.out.size
 clear hret k1 hB1; have s1_h := lH s1; have s2_h := lH s2; have hO1_h := lH hO1; have hB3_h := lH hB3; clear s1 s2 hO1 hB3
 go_wp2_with (fail)
 refine bodyPost_ret (results_cell_row rfl _ _ w.heap.size _ _ (0, 0) _ rfl s1_h.out Tryz.underlying155 rfl (by kernel_rfl)) rfl ?_
 obtain ⟨fp, h1, h2⟩ := OwMt.of_ret (a := (n : Int)) hO1_h.out s2_h.out (fun k hk => by omega) rfl
 exact ⟨_, fp, rfl, h1, h2.mono hBs, hB3_h.out⟩
theorem alloc2 (w : World) (o o' : Obj) : ∃ W, W = (w.alloc o).alloc o' ∧ Below w.heap.size w W ∧ W.heap[w.heap.size]? = some o ∧ W.heap[w.heap.size + 1]? = some o' := by
 refine ⟨_, rfl, ((Below.refl _ _).alloc (Nat.le_refl _) _).alloc (by simp) _, box_below (heap_alloc_new w _) (below_alloc _ _), ?_⟩
 have := heap_alloc_new (w.alloc o) o'
 rwa [World.size_alloc] at this
theorem RdO.nil (w W : World) (hb : Below w.heap.size w W) : RdO w W none 0 [] := ⟨Sl.nil _ _ _, fun x hx => (by cases hx), fun x hx => (by cases hx), fun b hb' => (by simp at hb'), hb⟩
def partV (f r : Nat) (u : List Int) : List Int := (u.drop f).take r
theorem partV_len {f r n : Nat} {u : List Int} (h : u.length = n) (hr : f + r ≤ n) : (partV f r u).length = r := by unfold partV; rw [List.length_take, List.length_drop]; omega
theorem partV_mat {p : Int} {m n f r : Nat} {L : List (List Int)} (h : Mat p m n L) (hr : f + r ≤ n) : Mat p m r (L.map (partV f r)) :=
 h.map fun _ hv hx => ⟨partV_len hv hr, fun x hx' => hx x (List.mem_of_mem_drop (List.mem_of_mem_take hx'))⟩
theorem part_first {p : Int} {s : Sys} (_h : RelOk p s) : s.2.2.map (partV 0 s.1.toNat) = firstM s := by
 unfold firstM partV; simp
theorem part_second {p : Int} {s : Sys} (h : RelOk p s) : s.2.2.map (partV s.1.toNat s.2.1.toNat) = secondM s := by
 unfold secondM
 refine List.map_congr_left fun v hv => ?_
 have := (h.row hv).1
 have h1 := h.lo
 have h2 := h.hi
 unfold partV
 rw [List.take_of_length_le (by rw [List.length_drop]; omega)]
set_option maxRecDepth 8000 in
set_option maxHeartbeats 2000000 in
theorem rlPart_any (p : Int) {v : Value} {s : Sys} {fp : List Nat} (f t r : Nat) (w : World) (h : OwSys w v s fp) (hs : RelOk p s) (hft : t = f + r) (ht : (t : Int) ≤ s.1 + s.2.1) :
  Calls Tryz.prog 144 #[.int .i64 p, v, .int .i64 f, .int .i64 t] w fun e w' => ∃ v' fp', e = .returned v' ∧ OwMt w' v' ((r : Int), redM p r (s.2.2.map (partV f r))) fp' ∧ FreshL w.heap.size fp' ∧ Below w.heap.size w w' := by
 obtain ⟨A, c, gs, rfl, hL, hO, rfl⟩ := h
 have hmat := partV_mat (f := f) (r := r) hs.mat (by have := hs.lo; have := hs.hi; omega)
 obtain ⟨a, b, L⟩ := s
 have h0 : 0 ≤ a := hs.lo
 have h1 : 0 ≤ b := hs.hi
 have h2 : a + b ≤ 24 := hs.sum
 have hfld : fieldB p = true := hs.fld
 have hrow : ∀ u, u ∈ L → (u.length : Int) = a + b ∧ Res p u := fun u hu => hs.row hu
 have hlen : (L.length : Int) ≤ a + b := hs.len
 clear hs
 obtain ⟨na, rfl⟩ : ∃ na : Nat, a = (na : Int) := ⟨a.toNat, by omega⟩
 obtain ⟨nb, rfl⟩ : ∃ nb : Nat, b = (nb : Int) := ⟨b.toNat, by omega⟩
 have hL' : L = gs.map (fun h : Hd => h.2.2) := hL
 clear hL
 obtain ⟨m, hm⟩ : ∃ m, m = gs.length := ⟨_, rfl⟩
 have hLm : L.length = m := by rw [hL', List.length_map, hm]
 have hm24 : (m : Int) ≤ 24 := by have := hlen; rw [hLm] at this; omega
 have hfr : f + r ≤ na + nb := by have : (t : Int) ≤ na + nb := ht; omega
 have hft' : f ≤ t := by omega
 have hrt0 : t - f = r := by omega
 have ht' : t ≤ na + nb := by have : (t : Int) ≤ na + nb := ht; omega
 clear ht
 obtain ⟨X, hX⟩ : ∃ X, X = L.map (partV f r) := ⟨_, rfl⟩
 have hmat' : Mat p X.length r X := by rw [hX, List.length_map]; exact hmat
 obtain ⟨R, hR⟩ : ∃ R, R = redM p r X := ⟨_, rfl⟩
 have hgoal : redM p r (L.map (partV f r)) = R := by rw [hR, hX]
 show Calls Tryz.prog _ #[.int .i64 p, .agg #[.int .i64 (na : Int), .int .i64 (nb : Int), .slice A gs.length c], .int .i64 f, .int .i64 t] w fun e w' => ∃ v' fp', e = .returned v' ∧ OwMt w' v' ((r : Int), redM p r (L.map (partV f r))) fp' ∧ FreshL w.heap.size fp' ∧ Below w.heap.size w w'
 rw [hgoal, ← hm]
 obtain ⟨W, hW, b0, k0, k1⟩ := alloc2 w (.cells #[.int .i64 (na : Int), .int .i64 (nb : Int), .slice A m c] tRel) (.cells #[.int .i64 0, .slice none 0 0] tSpc)
 have hO0 := hO.below b0
 have hz0 := box_lt k0
 have hz1 := box_lt k1
 have hN0 := RdO.nil W W (Below.refl _ _)
 obtain ⟨⟨c0, c1, c2⟩, f0, f1, f2⟩ := box3 k0
 have hte : (t : Int) - (f : Int) = (r : Int) := by omega
 have htw : IntKind.i64.wrap ((t : Int) - (f : Int)) = (t : Int) - (f : Int) := IntWalk.i64_in _ (by omega)
 clear hO hmat hgoal; have hL'_h := lH hL'; have hm_h := lH hm; have hLm_h := lH hLm; have b0_h := lH b0; have k0_h := lH k0; have k1_h := lH k1; have hO0_h := lH hO0; have hrow_h := lH hrow; have hlen_h := lH hlen; have hfld_h := lH hfld; have hmat'_h := lH hmat'; have hX_h := lH hX; have hR_h := lH hR; have hN0_h := lH hN0; have hte_h := lH hte; have hft_h := lH hft; have hrt0_h := lH hrt0; clear hL' hm hLm b0 k0 k1 hO0 hrow hlen hfld hmat' hX hR hN0 hte hft hrt0
 go_enter Tryz.func144, Tryz.ntmps144
 go_upto_region 1 with (fail)
 rw [← hW]
 clear hW
 go_wp2_with (fail)
 clear c0 c1 c2 f0 f1 f2
 go_loopw [15, 9] (fun i v wr => ∃ (k : Nat) (A' : Option Addr) (c' : Nat) (ys : List Hd), k ≤ m ∧ i = .int .i64 k ∧ v = .slice A' k c' ∧ ys.length = k ∧ ys.map (fun h : Hd => h.2.2) = (L.take k).map (partV f r) ∧ RdO W wr A' c' ys) (fun i _ _ => m - (intOf i).toNat)
 case atStart => exact ⟨0, none, 0, [], Nat.zero_le _, rfl, rfl, rfl, rfl, hN0_h.out⟩
 case round =>
  obtain ⟨k, A', c', ys, hk, rfl, rfl, hyl, hym, hO⟩ := hrel
  by_cases hlt : k < m
  · have hOr := hO0_h.out.below hO.below_
    obtain ⟨ad, B, d, u, rfl, hx, hc, _⟩ := hOr.rd.at_ (k := k) (by rw [← hm_h.out]; exact hlt)
    have hyL : L[k]? = some u := by rw [hL'_h.out, List.getElem?_map, hx]; rfl
    have hul : u.length = na + nb := by have := (hrow_h.out _ (List.mem_of_getElem? hyL)).1; omega
    have hI : Sl wr 3 1 B (na + nb) d (ints u) := by have := hOr.rows _ (List.mem_of_getElem? hx); unfold IS at this; rwa [hul] at this
    have hBlt : ∀ b, b ∈ fpA B → b < W.heap.size := fun b hb => (hO0_h.out.rows _ (List.mem_of_getElem? hx)).lt b hb
    have hcap := hI.2.1
    rw [hul] at hc
    have hpl : (partV f r u).length = r := partV_len hul hfr
    have hkI : (k : Int) < (m : Int) := by omega
    have hrt := hrt0_h.out
    have hSL : ∀ o, Sl (wr.alloc o) 23 1 A' k c' (ys.map Hd.val) := fun o => by
     have := hO.sl.alloc o
     rwa [hyl] at this
    clear hOr hx; have hyL_h := lH hyL; have hul_h := lH hul; have hyl_h := lH hyl; have hym_h := lH hym; have hO_h := lH hO; have hBlt_h := lH hBlt; have hpl_h := lH hpl; have hSL_h := lH hSL; have hrt_h := lH hrt; clear hyL hul hyl hym hO hBlt hpl hSL hrt
    go_wp2_with (first
     | (refine wpList_slice_Sl rfl (.tmp 20) (some (.tmp 21)) (some (.tmp 22)) none 23 rfl 3 Tryz.underlying23 info_int rfl hI f t d (optSome rfl) (optSome rfl) (optNone rfl) hft' ht' (by omega) (Nat.le_refl _) ?_; intro A2 hcut hfp _)
     | (at_builtin; refine wpList_append_Sl _ rfl _ _ _ rfl 23 Tryz.underlying27 info_ints rfl (by omega) rfl (hSL_h.out (.cells #[.slice A2 (t - f) (d - f)] 23)) rfl (news := [.slice A2 (t - f) (d - f)]) rfl (Sl.rdc (Sl.laid wr 23 1 1 #[.slice A2 (t - f) (d - f)] (by unfold maxLen; omega) rfl)) (by intro u hu; simp at hu; subst hu; rfl) (by unfold maxLen; omega) (by omega) ?_; intro A3 c3 w3 hsA3 hA3 hkA3))
    have hcut' : IS wr A2 (d - f) (partV f r u) := by
     unfold IS
     rw [hpl_h.out]
     have e : ((ints u).drop (f * 1)).take (r * 1) = ints (partV f r u) := by simp [ints, partV, List.map_take, List.map_drop]
     rw [← e, ← hrt_h.out]; exact hcut
    clear hcut
    rw [hrt_h.out] at hsA3
    have hcut'_h := lH hcut'; have hfp_h := lH hfp; clear hcut' hfp
    have hO2 := hO_h.out.snoc (below_alloc wr _) (x := (A2, d - f, partV f r u)) (hcut'_h.out.below (below_alloc wr _)) (fun b hb hb' => by
     have h1 := hO_h.out.new b hb'
     have := hBlt_h.out b (hfp_h.out b hb)
     omega) (by rw [hyl_h.out]) (by show Sl w3 _ 1 A3 (k + 1) c3 (ys.map Hd.val ++ [.slice A2 (partV f r u).length (d - f)]); rw [hpl_h.out]; exact hsA3) hA3 hkA3
    clear hsA3 hA3 hkA3; have hO2_h := lH hO2; clear hO2
    go_roundw
    case rel => exact ⟨k + 1, A3, c3, ys ++ [(A2, d - f, partV f r u)], by omega, by go_num, rfl, by rw [List.length_append, hyl_h.out]; rfl, by rw [List.map_append, hym_h.out, List.take_add_one, hyL_h.out]; simp, hO2_h.out⟩
    case measure => simp [intOf]; omega
  · obtain rfl : k = m := by omega
    have hym2 : ys.map (fun h : Hd => h.2.2) = X := by rw [hym, List.take_of_length_le (by rw [hLm_h.out]; exact Nat.le_refl _), hX_h.out]
    have hC := spReduce_any p r A' c' ys wr hO.rdr hfld_h.out (by rw [hym2]; have := hmat'_h.out; rwa [show X.length = ys.length by rw [← hym2, List.length_map]] at this) (by omega) (by omega)
    rw [hym2, ← hR_h.out, hyl, ← hte_h.out] at hC
    have k1r := box_below k1_h.out hO.below_
    have hBr := below_trans b0_h.out hO.below_ b0_h.out.size
    have hzr := hO.below_.size
    clear hym hym2 hyl hO; have hC_h := lH hC; have k1r_h := lH k1r; have hBr_h := lH hBr; clear hC k1r hBr
    go_wp2_with (fail)
    refine (hC_h.out).mono ?_
    rintro e w1 hret
    obtain ⟨A1, c1, rfl, hO1⟩ := hret.om
    have k1' := box_below k1r_h.out hO1.below_
    have hB1 := below_trans hBr_h.out hO1.below_ hBr_h.out.size
    obtain ⟨⟨d0, d1⟩, g0, g1⟩ := box2 k1'
    obtain ⟨s1, s2⟩ := set2 (a := .int .i64 ((t : Int) - (f : Int))) (b := .slice A1 R.length c1) k1'
    have hB3 := below_keeps hB1 s2 hB1.size (fun k hk => by omega)
    have hBs := hBr_h.out.size
    clear hret k1' hB1; have s1_h := lH s1; have s2_h := lH s2; have hO1_h := lH hO1; have hB3_h := lH hB3; clear s1 s2 hO1 hB3
    go_wp2_with (fail)
    refine bodyPost_ret (results_cell_row rfl _ _ (w.heap.size + 1) _ _ (0, 0) _ rfl s1_h.out Tryz.underlying155 rfl (by kernel_rfl)) rfl ?_
    obtain ⟨fp, h1, h2⟩ := OwMt.of_ret (a := (t : Int) - (f : Int)) hO1_h.out s2_h.out (fun k hk => by omega) rfl
    exact ⟨_, fp, rfl, by rw [← hte_h.out]; exact h1, h2.mono hBs, hB3_h.out⟩
theorem first_each {na n : Nat} {b : Int} {V : Value} (hV : V.oneCell' = true) {w : World} {x : Hd} (hx : IS w x.1 x.2.1 x.2.2) (hl : x.2.2.length = n) (hn : na ≤ n) : ∀ W', Below w.heap.size w W' → Calls Tryz.prog 133 (#[Value.agg #[.int .i64 na, .int .i64 b, V]].push (.slice x.1 x.2.2.length x.2.1) ++ #[]) W' fun e w'' => ∃ B c', e = .returned (.slice B (partV 0 na x.2.2).length c') ∧ IS w'' B c' (partV 0 na x.2.2) ∧ (∀ b, b ∈ fpA B → b ∈ fpA x.1 ∨ W'.heap.size ≤ b) ∧ Below W'.heap.size W' w'' := by
 intro W' hb
 have h0 : Sl W' 3 1 x.1 x.2.2.length x.2.1 (ints x.2.2) := hx.below hb
 have hp : partV 0 na x.2.2 = x.2.2.take na := by simp [partV]
 have hp2 : (x.2.2.take na).length = na := by rw [List.length_take]; omega
 have := first_any na b V hV x.1 x.2.1 x.2.2.length x.2.2 W' h0 (by omega)
 refine Calls.mono ?_ (fun e w'' h => h)
 simp only [List.push_toArray, List.cons_append, List.nil_append, Array.append_empty]
 refine this.mono ?_
 rintro e w2 ⟨B', rfl, hS, hf, hb2⟩
 exact ⟨B', x.2.1, by rw [hp, hp2], by unfold IS; rw [hp, hp2]; exact hS, fun b hb => .inl (hf b hb), hb2⟩
theorem second_each {na r n : Nat} {b : Int} {V : Value} (hV : V.oneCell' = true) {w : World} {x : Hd} (hx : IS w x.1 x.2.1 x.2.2) (hl : x.2.2.length = n) (hn : n = na + r) : ∀ W', Below w.heap.size w W' → Calls Tryz.prog 105 (#[Value.agg #[.int .i64 na, .int .i64 b, V]].push (.slice x.1 x.2.2.length x.2.1) ++ #[]) W' fun e w'' => ∃ B c', e = .returned (.slice B (partV na r x.2.2).length c') ∧ IS w'' B c' (partV na r x.2.2) ∧ (∀ b, b ∈ fpA B → b ∈ fpA x.1 ∨ W'.heap.size ≤ b) ∧ Below W'.heap.size W' w'' := by
 intro W' hb
 have h0 : Sl W' 3 1 x.1 x.2.2.length x.2.1 (ints x.2.2) := hx.below hb
 have hp : partV na r x.2.2 = x.2.2.drop na := by unfold partV; rw [List.take_of_length_le (by rw [List.length_drop]; omega)]
 have hp2 : (x.2.2.drop na).length = r := by rw [List.length_drop]; omega
 have := second_any na b V hV x.1 x.2.1 x.2.2.length r x.2.2 W' h0 (by omega)
 refine Calls.mono ?_ (fun e w'' h => h)
 simp only [List.push_toArray, List.cons_append, List.nil_append, Array.append_empty]
 refine this.mono ?_
 rintro e w2 ⟨B', c', rfl, hS, hf, hb2⟩
 exact ⟨B', c', by rw [hp, hp2], by unfold IS; rw [hp, hp2]; exact hS, fun b hb => .inl (hf b hb), hb2⟩
set_option maxRecDepth 8000 in
set_option maxHeartbeats 2000000 in
theorem domain_any (p : Int) {v : Value} {s : Sys} {fp : List Nat} (w : World) (h : OwSys w v s fp) (hs : RelOk p s) :
  Calls Tryz.prog 145 #[.int .i64 p, v] w fun e w' => ∃ v' fp', e = .returned v' ∧ OwMt w' v' (s.1, redM p s.1.toNat (firstM s)) fp' ∧ FreshL w.heap.size fp' ∧ Below w.heap.size w w' := by
 have hpf := part_first hs
 have hmat0 := partV_mat (f := 0) (r := s.1.toNat) hs.mat (by have := hs.lo; have := hs.hi; omega)
 obtain ⟨A, c, gs, rfl, hL, hO, rfl⟩ := h
 obtain ⟨a, b, L⟩ := s
 have h0 : 0 ≤ a := hs.lo
 have h1 : 0 ≤ b := hs.hi
 have h2 : a + b ≤ 24 := hs.sum
 have hfld : fieldB p = true := hs.fld
 have hrow : ∀ u, u ∈ L → (u.length : Int) = a + b ∧ Res p u := fun u hu => hs.row hu
 have hlen : (L.length : Int) ≤ a + b := hs.len
 clear hs
 obtain ⟨na, rfl⟩ : ∃ na : Nat, a = (na : Int) := ⟨a.toNat, by omega⟩
 obtain ⟨nb, rfl⟩ : ∃ nb : Nat, b = (nb : Int) := ⟨b.toNat, by omega⟩
 have hL' : L = gs.map (fun h : Hd => h.2.2) := hL
 clear hL
 obtain ⟨m, hm⟩ : ∃ m, m = gs.length := ⟨_, rfl⟩
 have hLm : L.length = m := by rw [hL', List.length_map, hm]
 have hm24 : (m : Int) ≤ 24 := by have := hlen; rw [hLm] at this; omega
 have hgr : ∀ x, x ∈ gs → x.2.2.length = na + nb := fun x hx => by have := (hrow _ (by rw [hL']; exact List.mem_map_of_mem hx)).1; omega
 obtain ⟨X, hX⟩ : ∃ X, X = L.map (partV 0 na) := ⟨_, rfl⟩
 have hmat : Mat p X.length na X := by rw [hX, List.length_map]; exact hmat0
 have hgoal : firstM ((na : Int), (nb : Int), L) = X := by rw [hX]; exact hpf.symm
 obtain ⟨R, hR⟩ : ∃ R, R = redM p na X := ⟨_, rfl⟩
 show Calls Tryz.prog _ #[.int .i64 p, .agg #[.int .i64 (na : Int), .int .i64 (nb : Int), .slice A gs.length c]] w fun e w' => ∃ v' fp', e = .returned v' ∧ OwMt w' v' ((na : Int), redM p na (firstM ((na : Int), (nb : Int), L))) fp' ∧ FreshL w.heap.size fp' ∧ Below w.heap.size w w'
 rw [hgoal, ← hR, ← hm]
 have hEa := fun (W' : World) (hb : Below w.heap.size w W') => each_any 133 #[.agg #[.int .i64 (na : Int), .int .i64 (nb : Int), .slice A m c]] #[] (partV 0 na) (na : Int) (nb : Int) A c gs W' (hO.below hb).rd (hO.below hb).rows (by omega) (fun _ _ => rfl) (fun x hx => first_each rfl ((hO.below hb).rows x hx) (hgr x hx) (by omega))
 simp only [← hm] at hEa
 obtain ⟨W, hW, b0, k0, k1⟩ := alloc2 w (.cells #[.int .i64 (na : Int), .int .i64 (nb : Int), .slice A m c] tRel) (.cells #[.int .i64 0, .slice none 0 0] tSpc)
 clear hO hmat0 hgoal hpf hgr
 have hmf : ∀ (fn : Fn) (first cap : Array Value) (w : World), (Instr.makeFunc fn first cap).run Tryz.prog w = .ok (.func fn first cap) w := fun _ _ _ _ => rfl
 have hL'_h := lH hL'; have hm_h := lH hm; have hLm_h := lH hLm; have k0_h := lH k0; have k1_h := lH k1; have b0_h := lH b0; have hrow_h := lH hrow; have hlen_h := lH hlen; have hfld_h := lH hfld; have hmat_h := lH hmat; have hX_h := lH hX; have hR_h := lH hR; have hEa_h := lH hEa; clear hL' hm hLm k0 k1 b0 hrow hlen hfld hmat hX hR hEa
 go_enter Tryz.func145, Tryz.ntmps145
 go_wp2_with (fail)
 rw [← hW]
 clear hW
 have hbd : Below W.heap.size W W.drew := below_drewN (Below.refl _ _) 1
 refine beginH (fun w' => w'.heap[w.heap.size]? = some (.cells #[.int .i64 (na : Int), .int .i64 (nb : Int), .slice A m c] tRel)) (by kernel_rfl) ?_
 generalize W.drew = W1 at hbd ⊢
 replace k0_h := lH (box_below k0_h.out hbd)
 replace k1_h := lH (box_below k1_h.out hbd)
 have hB1 := below_trans b0_h.out hbd b0_h.out.size
 have hw1 : w.heap.size + 1 < W1.heap.size := (Array.getElem?_eq_some_iff.1 k1_h.out).1
 have hbd_h := lH hbd; have hB1_h := lH hB1; clear hbd hB1
 refine tkH 0 ?_ rfl k0_h.out (fun W' hW' => ?_) ?_; rotate_left; · (obtain ⟨⟨y0, y1, y2⟩, y3, y4, y5⟩ := box3 hW'; clear hW'; go_simp; first | done | with_reducible rfl)
 simp only [Act.put, nS]
 refine tkH 1 ?_ rfl k0_h.out (fun W' hW' => ?_) ?_; rotate_left; · (obtain ⟨⟨y0, y1, y2⟩, y3, y4, y5⟩ := box3 hW'; clear hW'; go_simp; first | done | with_reducible rfl)
 simp only [Act.put, nS]
 refine tkH 2 ?_ rfl k0_h.out (fun W' hW' => ?_) ?_; rotate_left; · (obtain ⟨⟨y0, y1, y2⟩, y3, y4, y5⟩ := box3 hW'; clear hW'; go_simp; first | done | with_reducible rfl)
 simp only [Act.put, nS]
 refine tkH 3 ?_ rfl k0_h.out (fun W' hW' => ?_) ?_; rotate_left; · (obtain ⟨⟨y0, y1, y2⟩, y3, y4, y5⟩ := box3 hW'; clear hW'; go_simp; first | done | with_reducible rfl)
 simp only [Act.put, nS]
 refine tkH 4 ?_ rfl k0_h.out (fun W' hW' => ?_) ?_; rotate_left; · (obtain ⟨⟨y0, y1, y2⟩, y3, y4, y5⟩ := box3 hW'; clear hW'; go_simp; first | done | with_reducible rfl)
 simp only [Act.put, nS]
 refine tkH 5 ?_ rfl k0_h.out (fun W' hW' => ?_) ?_; rotate_left; · (skip; clear hW'; go_simp; first | done | with_reducible rfl)
 simp only [Act.put, nS]
 refine' callH 6 (f := _) (args := _) rfl (by kernel_rfl) (by rfl) ?_ ?_; rotate_left 2; · (go_simp; first | done | with_reducible rfl | (constructor <;> with_reducible rfl))
 refine (hEa_h.out W1 hB1_h.out).mono ?_
 rintro e w2 ⟨A1, c1, g1, rfl, hg1, hO1⟩
 replace k0_h := lH (box_below k0_h.out hO1.below_)
 replace k1_h := lH (box_below k1_h.out hO1.below_)
 have hz2 := box_lt k1_h.out
 refine ⟨_, rfl, k0_h.out, ?_⟩
 simp only [Act.put, nS]
 have hg2 : g1.map (fun h : Hd => h.2.2) = X := by rw [hg1, hX_h.out, hL'_h.out, List.map_map]; rfl
 have hgl : g1.length = m := by have := congrArg List.length hg2; rwa [List.length_map, hX_h.out, List.length_map, hLm_h.out] at this
 have hXl : X.length = m := by rw [hX_h.out, List.length_map, hLm_h.out]
 have hC := span_any p na A1 c1 g1 w2 hO1.rdr hfld_h.out (by rw [hg2, hgl, ← hXl]; exact hmat_h.out) (by omega) (by omega)
 rw [hg2, ← hR_h.out, hgl] at hC
 have hB2 := below_trans hB1_h.out hO1.below_ hB1_h.out.size
 clear hg1 hg2 hgl hXl hO1; have hC_h := lH hC; have hB2_h := lH hB2; clear hC hB2
 refine' callH 7 (f := _) (args := _) rfl (by kernel_rfl) (by rfl) ?_ ?_; rotate_left 2; · (go_simp; first | done | with_reducible rfl | (constructor <;> with_reducible rfl))
 refine (hC_h.out).mono ?_
 rintro e w3 ⟨v3, fp3, rfl, hO3, hf3, hb3⟩
 replace k0_h := lH (box_below k0_h.out hb3)
 replace k1_h := lH (box_below k1_h.out hb3)
 refine ⟨_, rfl, k0_h.out, ?_⟩
 simp only [Act.put, nS]
 obtain ⟨A3, n3, c3, rfl⟩ := hO3.shape
 have hB3 := below_trans hB2_h.out hb3 hB2_h.out.size
 have hBs := hB2_h.out.size
 have hw0 := hB1_h.out.size
 have hw2 := hb3.size
 have hz3 : w.heap.size + 1 < w3.heap.size := (Array.getElem?_eq_some_iff.1 k1_h.out).1
 obtain ⟨⟨d0, d1⟩, g0, g1'⟩ := box2 k1_h.out
 obtain ⟨s1, s2⟩ := set2 (a := .int .i64 (na : Int)) (b := .slice A3 n3 c3) k1_h.out
 have k0' := box_keeps k0_h.out s2 (by omega)
 have hO4 := hO3.keeps s2 (fun k hk e => by have := hf3 k hk; omega)
 have hB4 := below_keeps hB3 s2 hB3.size (fun k hk => by omega)
 have hf4 := hf3.mono hBs
 clear hO3 hf3 hb3 hB3; have s1_h := lH s1; have s2_h := lH s2; have k0'_h := lH k0'; have hO4_h := lH hO4; have hB4_h := lH hB4; have hf4_h := lH hf4; clear s1 s2 k0' hO4 hB4 hf4
 refine oneH 8 rfl (by kernel_rfl) (by rfl) (fun K hK => ?_)
 go_simp
 refine hK _ _ k0'_h.out ?_
 clear hK K
 refine doneH (by kernel_rfl) ?_
 go_wp2_with (fail)
 refine bodyPost_ret (results_cell_row rfl _ _ (w.heap.size + 1) _ _ (0, 0) _ rfl s1_h.out Tryz.underlying155 rfl (by kernel_rfl)) rfl ?_
 exact ⟨_, rfl, fp3, hO4_h.out, hf4_h.out, hB4_h.out⟩
theorem rlPartF_any (p : Int) {v : Value} {s : Sys} {fp : List Nat} (w : World) (h : OwSys w v s fp) (hs : RelOk p s) :
  Calls Tryz.prog 144 #[.int .i64 p, v, .int .i64 0, .int .i64 s.1] w fun e w' => ∃ v' fp', e = .returned v' ∧ OwMt w' v' (s.1, redM p s.1.toNat (firstM s)) fp' ∧ FreshL w.heap.size fp' ∧ Below w.heap.size w w' := by
 have h0 := hs.lo
 have h1 := hs.hi
 have := rlPart_any p 0 s.1.toNat s.1.toNat w h hs (by omega) (by omega)
 rw [part_first hs] at this
 have e : ((s.1.toNat : Nat) : Int) = s.1 := by omega
 rw [e] at this
 exact this
set_option maxRecDepth 8000 in
set_option maxHeartbeats 2000000 in
theorem rlTotal_any (p : Int) {v : Value} {s : Sys} {fp : List Nat} (w : World) (h : OwSys w v s fp) (hs : RelOk p s) :
  Calls Tryz.prog 99 #[.int .i64 p, v] w fun e w' => e = .returned (.bool (totB p s)) ∧ Below w.heap.size w w' := by
 obtain ⟨A, n, c, rfl⟩ := h.shape
 obtain ⟨F, hF⟩ : ∃ F, F = totB p s := ⟨_, rfl⟩
 rw [← hF]
 unfold totB at hF
 have h0 := hs.lo
 have h2 := hs.sum
 have h1 := hs.hi
 obtain ⟨W, hW, b0, k0⟩ := alloc_box w (.cells #[.int .i64 s.1, .int .i64 s.2.1, .slice A n c] tRel)
 have hC := fun (W' : World) (hb : Below W.heap.size W W') => rlPartF_any p W' ((h.below b0).below hb) hs
 have hfd : ∀ (x y : Value) (W : World), (Instr.field tSpc (.agg #[x, y]) 1).run Tryz.prog W = .ok y W := fun _ _ _ => by kernel_rfl
 obtain ⟨R, hR⟩ : ∃ R, R = redM p s.1.toNat (firstM s) := ⟨_, rfl⟩
 rw [← hR] at hF
 simp only [← hR] at hC
 clear h hs; have hF_h := lH hF; have hC_h := lH hC; have k0_h := lH k0; have b0_h := lH b0; have hR_h := lH hR; clear hF hC k0 b0 hR
 go_enter Tryz.func99, Tryz.ntmps99
 go_upto_region 1 with (fail)
 rw [← hW]
 clear hW
 go_wp2_with (fail)
 have hbd : Below W.heap.size W W.drew := below_drewN (Below.refl _ _) 1
 refine beginH (fun w' => w'.heap[w.heap.size]? = some (.cells #[.int .i64 s.1, .int .i64 s.2.1, .slice A n c] tRel)) (by kernel_rfl) ?_
 generalize W.drew = W1 at hbd ⊢
 replace k0_h := lH (box_below k0_h.out hbd)
 have hbd_h := lH hbd; clear hbd
 refine tkH 0 ?_ rfl k0_h.out (fun W' hW' => ?_) ?_; rotate_left; · (obtain ⟨⟨y0, y1, y2⟩, y3, y4, y5⟩ := box3 hW'; clear hW'; go_simp; first | done | with_reducible rfl)
 simp only [Act.put, nS]
 refine tkH 1 ?_ rfl k0_h.out (fun W' hW' => ?_) ?_; rotate_left; · (obtain ⟨⟨y0, y1, y2⟩, y3, y4, y5⟩ := box3 hW'; clear hW'; go_simp; first | done | with_reducible rfl)
 simp only [Act.put, nS]
 refine tkH 2 ?_ rfl k0_h.out (fun W' hW' => ?_) ?_; rotate_left; · (obtain ⟨⟨y0, y1, y2⟩, y3, y4, y5⟩ := box3 hW'; clear hW'; go_simp; first | done | with_reducible rfl)
 simp only [Act.put, nS]
 refine tkH 3 ?_ rfl k0_h.out (fun W' hW' => ?_) ?_; rotate_left; · (obtain ⟨⟨y0, y1, y2⟩, y3, y4, y5⟩ := box3 hW'; clear hW'; go_simp; first | done | with_reducible rfl)
 simp only [Act.put, nS]
 refine tkH 7 ?_ rfl k0_h.out (fun W' hW' => ?_) ?_; rotate_left; · (obtain ⟨⟨y0, y1, y2⟩, y3, y4, y5⟩ := box3 hW'; clear hW'; go_simp; first | done | with_reducible rfl)
 simp only [Act.put, nS]
 refine tkH 8 ?_ rfl k0_h.out (fun W' hW' => ?_) ?_; rotate_left; · (obtain ⟨⟨y0, y1, y2⟩, y3, y4, y5⟩ := box3 hW'; clear hW'; go_simp; first | done | with_reducible rfl)
 simp only [Act.put, nS]
 refine' callH 4 (f := _) (args := _) rfl (by kernel_rfl) (by rfl) ?_ ?_; rotate_left 2; · (go_simp; first | done | with_reducible rfl | (constructor <;> with_reducible rfl))
 refine (hC_h.out W1 hbd_h.out).mono ?_
 rintro e w2 ⟨v2, fp2, rfl, hO2, -, hb2⟩
 replace k0_h := lH (box_below k0_h.out hb2)
 refine ⟨_, rfl, k0_h.out, ?_⟩
 simp only [Act.put, nS]
 obtain ⟨A3, c3, hs3, rfl, hL3, -, -⟩ := hO2
 have hB2 := below_trans (below_trans b0_h.out hbd_h.out b0_h.out.size) hb2 (Nat.le_trans b0_h.out.size hbd_h.out.size)
 have hRl : R.length = hs3.length := by have := congrArg List.length hL3; rwa [List.length_map] at this
 have hfin : F = ((hs3.length : Int) == s.1) := by
  rw [hF_h.out, hRl, Bool.eq_iff_iff]; simp
 obtain ⟨n3, hn3⟩ : ∃ n3, n3 = hs3.length := ⟨_, rfl⟩
 rw [← hn3] at hfin ⊢
 clear hL3 hb2 hRl hn3; have hB2_h := lH hB2; have hfin_h := lH hfin; clear hB2 hfin
 refine tkH 5 ?_ rfl k0_h.out (fun W' hW' => ?_) ?_; rotate_left; · (skip; clear hW'; go_simp; first | done | with_reducible rfl)
 simp only [Act.put, nS]
 refine tkH 6 ?_ rfl k0_h.out (fun W' hW' => ?_) ?_; rotate_left; · (skip; clear hW'; go_simp; first | done | with_reducible rfl)
 simp only [Act.put, nS]
 refine tkH 9 ?_ rfl k0_h.out (fun W' hW' => ?_) ?_; rotate_left; · (skip; clear hW'; go_simp; first | done | with_reducible rfl)
 simp only [Act.put, nS]
 refine tkH 10 ?_ rfl k0_h.out (fun W' hW' => ?_) ?_; rotate_left; · (skip; clear hW'; go_simp; first | done | with_reducible rfl)
 simp only [Act.put, nS]
 refine doneH (by kernel_rfl) ?_
 go_wp2_with (fail)
 go_ret
 exact ⟨ret_bool hfin_h.out.symm, hB2_h.out⟩
set_option maxRecDepth 8000 in
set_option maxHeartbeats 2000000 in
theorem isTotal_any (p : Int) {v : Value} {s : Sys} {fp : List Nat} (w : World) (h : OwSys w v s fp) (hs : RelOk p s) :
  Calls Tryz.prog 101 #[.int .i64 p, v] w fun e w' => e = .returned (.bool (totB p s)) ∧ Below w.heap.size w w' := by
 obtain ⟨A, n, c, rfl⟩ := h.shape
 obtain ⟨F, hF⟩ : ∃ F, F = totB p s := ⟨_, rfl⟩
 rw [← hF]
 unfold totB at hF
 have h0 := hs.lo
 have h2 := hs.sum
 have h1 := hs.hi
 obtain ⟨W, hW, b0, k0⟩ := alloc_box w (.cells #[.int .i64 s.1, .int .i64 s.2.1, .slice A n c] tRel)
 have hC := fun (W' : World) (hb : Below W.heap.size W W') => domain_any p W' ((h.below b0).below hb) hs
 have hfd : ∀ (x y : Value) (W : World), (Instr.field tSpc (.agg #[x, y]) 1).run Tryz.prog W = .ok y W := fun _ _ _ => by kernel_rfl
 obtain ⟨R, hR⟩ : ∃ R, R = redM p s.1.toNat (firstM s) := ⟨_, rfl⟩
 rw [← hR] at hF
 simp only [← hR] at hC
 clear h hs; have hF_h := lH hF; have hC_h := lH hC; have k0_h := lH k0; have b0_h := lH b0; have hR_h := lH hR; clear hF hC k0 b0 hR
 go_enter Tryz.func101, Tryz.ntmps101
 go_upto_region 1 with (fail)
 rw [← hW]
 clear hW
 go_wp2_with (fail)
 have hbd : Below W.heap.size W W.drew := below_drewN (Below.refl _ _) 1
 refine beginH (fun w' => w'.heap[w.heap.size]? = some (.cells #[.int .i64 s.1, .int .i64 s.2.1, .slice A n c] tRel)) (by kernel_rfl) ?_
 generalize W.drew = W1 at hbd ⊢
 replace k0_h := lH (box_below k0_h.out hbd)
 have hbd_h := lH hbd; clear hbd
 refine tkH 0 ?_ rfl k0_h.out (fun W' hW' => ?_) ?_; rotate_left; · (obtain ⟨⟨y0, y1, y2⟩, y3, y4, y5⟩ := box3 hW'; clear hW'; go_simp; first | done | with_reducible rfl)
 simp only [Act.put, nS]
 refine tkH 1 ?_ rfl k0_h.out (fun W' hW' => ?_) ?_; rotate_left; · (obtain ⟨⟨y0, y1, y2⟩, y3, y4, y5⟩ := box3 hW'; clear hW'; go_simp; first | done | with_reducible rfl)
 simp only [Act.put, nS]
 refine tkH 5 ?_ rfl k0_h.out (fun W' hW' => ?_) ?_; rotate_left; · (obtain ⟨⟨y0, y1, y2⟩, y3, y4, y5⟩ := box3 hW'; clear hW'; go_simp; first | done | with_reducible rfl)
 simp only [Act.put, nS]
 refine tkH 6 ?_ rfl k0_h.out (fun W' hW' => ?_) ?_; rotate_left; · (obtain ⟨⟨y0, y1, y2⟩, y3, y4, y5⟩ := box3 hW'; clear hW'; go_simp; first | done | with_reducible rfl)
 simp only [Act.put, nS]
 refine' callH 2 (f := _) (args := _) rfl (by kernel_rfl) (by rfl) ?_ ?_; rotate_left 2; · (go_simp; first | done | with_reducible rfl | (constructor <;> with_reducible rfl))
 refine (hC_h.out W1 hbd_h.out).mono ?_
 rintro e w2 ⟨v2, fp2, rfl, hO2, -, hb2⟩
 replace k0_h := lH (box_below k0_h.out hb2)
 refine ⟨_, rfl, k0_h.out, ?_⟩
 simp only [Act.put, nS]
 obtain ⟨A3, c3, hs3, rfl, hL3, -, -⟩ := hO2
 have hB2 := below_trans (below_trans b0_h.out hbd_h.out b0_h.out.size) hb2 (Nat.le_trans b0_h.out.size hbd_h.out.size)
 have hRl : R.length = hs3.length := by have := congrArg List.length hL3; rwa [List.length_map] at this
 have hfin : F = ((hs3.length : Int) == s.1) := by
  rw [hF_h.out, hRl, Bool.eq_iff_iff]; simp
 obtain ⟨n3, hn3⟩ : ∃ n3, n3 = hs3.length := ⟨_, rfl⟩
 rw [← hn3] at hfin ⊢
 clear hL3 hb2 hRl hn3; have hB2_h := lH hB2; have hfin_h := lH hfin; clear hB2 hfin
 refine tkH 3 ?_ rfl k0_h.out (fun W' hW' => ?_) ?_; rotate_left; · (skip; clear hW'; go_simp; first | done | with_reducible rfl)
 simp only [Act.put, nS]
 refine tkH 4 ?_ rfl k0_h.out (fun W' hW' => ?_) ?_; rotate_left; · (skip; clear hW'; go_simp; first | done | with_reducible rfl)
 simp only [Act.put, nS]
 refine tkH 7 ?_ rfl k0_h.out (fun W' hW' => ?_) ?_; rotate_left; · (skip; clear hW'; go_simp; first | done | with_reducible rfl)
 simp only [Act.put, nS]
 refine tkH 8 ?_ rfl k0_h.out (fun W' hW' => ?_) ?_; rotate_left; · (skip; clear hW'; go_simp; first | done | with_reducible rfl)
 simp only [Act.put, nS]
 refine doneH (by kernel_rfl) ?_
 go_wp2_with (fail)
 go_ret
 exact ⟨ret_bool hfin_h.out.symm, hB2_h.out⟩
set_option maxRecDepth 8000 in
theorem eachFirst_any (p : Int) {v : Value} {s : Sys} {fp : List Nat} (w : World) (h : OwSys w v s fp) (hs : RelOk p s) :
  Calls Tryz.prog 104 #[v, .func (.func 133) #[v] #[]] w fun e w' => ∃ A' c' gs n, e = .returned (.slice A' n c') ∧ gs.length = n ∧ n ≤ 24 ∧ gs.map (fun h : Hd => h.2.2) = firstM s ∧ RdO w w' A' c' gs := by
 have hpf := part_first hs
 obtain ⟨A, c, gs, rfl, hL, hO, rfl⟩ := h
 obtain ⟨a, b, L⟩ := s
 have h0 : 0 ≤ a := hs.lo
 have h1 : 0 ≤ b := hs.hi
 have h2 : a + b ≤ 24 := hs.sum
 have hfld : fieldB p = true := hs.fld
 have hrow : ∀ u, u ∈ L → (u.length : Int) = a + b ∧ Res p u := fun u hu => hs.row hu
 have hlen : (L.length : Int) ≤ a + b := hs.len
 clear hs
 obtain ⟨na, rfl⟩ : ∃ na : Nat, a = (na : Int) := ⟨a.toNat, by omega⟩
 obtain ⟨nb, rfl⟩ : ∃ nb : Nat, b = (nb : Int) := ⟨b.toNat, by omega⟩
 have hL' : L = gs.map (fun h : Hd => h.2.2) := hL
 clear hL
 obtain ⟨m, hm⟩ : ∃ m, m = gs.length := ⟨_, rfl⟩
 have hLm : L.length = m := by rw [hL', List.length_map, hm]
 have hm24 : (m : Int) ≤ 24 := by have := hlen; rw [hLm] at this; omega
 have hgr : ∀ x, x ∈ gs → x.2.2.length = na + nb := fun x hx => by have := (hrow _ (by rw [hL']; exact List.mem_map_of_mem hx)).1; omega
 have hE := each_any 133 #[.agg #[.int .i64 (na : Int), .int .i64 (nb : Int), .slice A gs.length c]] #[] (partV 0 na) (na : Int) (nb : Int) A c gs w hO.rd hO.rows (by omega) (fun _ _ => rfl) (fun x hx => first_each rfl (hO.rows x hx) (hgr x hx) (by omega))
 refine hE.mono ?_
 rintro e w' ⟨A', c', g1, rfl, hg1, hO1⟩
 have hgl : g1.length = gs.length := by have := congrArg List.length hg1; rwa [List.length_map, List.length_map] at this
 refine ⟨A', c', g1, gs.length, rfl, hgl, by omega, ?_, hO1⟩
 rw [hg1, ← hpf]
 show _ = L.map _
 rw [hL', List.map_map]; rfl
set_option maxRecDepth 8000 in
theorem eachSecond_any (p : Int) {v : Value} {s : Sys} {fp : List Nat} (w : World) (h : OwSys w v s fp) (hs : RelOk p s) :
  Calls Tryz.prog 104 #[v, .func (.func 105) #[v] #[]] w fun e w' => ∃ A' c' gs n, e = .returned (.slice A' n c') ∧ gs.length = n ∧ n ≤ 24 ∧ gs.map (fun h : Hd => h.2.2) = secondM s ∧ RdO w w' A' c' gs := by
 have hpf := part_second hs
 obtain ⟨A, c, gs, rfl, hL, hO, rfl⟩ := h
 obtain ⟨a, b, L⟩ := s
 have h0 : 0 ≤ a := hs.lo
 have h1 : 0 ≤ b := hs.hi
 have h2 : a + b ≤ 24 := hs.sum
 have hfld : fieldB p = true := hs.fld
 have hrow : ∀ u, u ∈ L → (u.length : Int) = a + b ∧ Res p u := fun u hu => hs.row hu
 have hlen : (L.length : Int) ≤ a + b := hs.len
 clear hs
 obtain ⟨na, rfl⟩ : ∃ na : Nat, a = (na : Int) := ⟨a.toNat, by omega⟩
 obtain ⟨nb, rfl⟩ : ∃ nb : Nat, b = (nb : Int) := ⟨b.toNat, by omega⟩
 have hL' : L = gs.map (fun h : Hd => h.2.2) := hL
 clear hL
 obtain ⟨m, hm⟩ : ∃ m, m = gs.length := ⟨_, rfl⟩
 have hLm : L.length = m := by rw [hL', List.length_map, hm]
 have hm24 : (m : Int) ≤ 24 := by have := hlen; rw [hLm] at this; omega
 have hgr : ∀ x, x ∈ gs → x.2.2.length = na + nb := fun x hx => by have := (hrow _ (by rw [hL']; exact List.mem_map_of_mem hx)).1; omega
 have hE := each_any 105 #[.agg #[.int .i64 (na : Int), .int .i64 (nb : Int), .slice A gs.length c]] #[] (partV na nb) (na : Int) (nb : Int) A c gs w hO.rd hO.rows (by omega) (fun _ _ => rfl) (fun x hx => second_each rfl (hO.rows x hx) (hgr x hx) (by omega))
 refine hE.mono ?_
 rintro e w' ⟨A', c', g1, rfl, hg1, hO1⟩
 have hgl : g1.length = gs.length := by have := congrArg List.length hg1; rwa [List.length_map, List.length_map] at this
 refine ⟨A', c', g1, gs.length, rfl, hgl, by omega, ?_, hO1⟩
 rw [hg1, ← hpf]
 show _ = L.map _
 rw [hL', List.map_map]; rfl
section
variable {P : Program} {w : World} {e : TypeId} {sz n cap : Nat} {A : Option Addr} {xs : List Value}
theorem Sl.sliced (hs : Sl w e sz A n cap xs) (t : TypeId) {z : Option Value} {bytes : Nat} (ht : P.underlying t = some (.slice e)) (hinfo : (P.info? e).map (fun i => (i.zero, i.size, i.bytes)) = some (z, sz, bytes))
  (lo hi mx : Option Value) (l hgh m : Nat) (hlo : OptIs lo l (l = 0)) (hhi : OptIs hi hgh (hgh = n ∧ mx = none)) (hmx : OptIs mx m (m = cap)) (h1 : l ≤ hgh) (h2 : hgh ≤ n) (h3 : hgh ≤ m) (h4 : m ≤ cap) :
  ∃ A', (∀ w', (Instr.sliceAt t (.slice A n cap) lo hi mx).run P w' = .ok (.slice A' (hgh - l) (m - l)) w') ∧ Sl w e sz A' (hgh - l) (m - l) ((xs.drop (l * sz)).take ((hgh - l) * sz)) ∧ (∀ b, b ∈ fpA A' → b ∈ fpA A) := by
 obtain ⟨hcut, hfp, hsub⟩ := hs.cut h1 h2 h3 h4
 refine ⟨_, fun w => ?_, hcut, hfp⟩
 unfold OptIs at hlo hhi hmx
 obtain ⟨i, hi', hzz⟩ := Option.map_eq_some_iff.1 hinfo
 simp only [Prod.mk.injEq] at hzz
 have hb : ∀ (k : IntKind) (i : Int) (j y : Nat) (code : BoundsCode), i = (j : Int) → j ≤ y → (Instr.sliceBound (.int k i) y code).run P w = .ok j w := by
  intro k i j y code e hj
  subst e
  rw [run_sliceBound w k _ y code (by omega) (by omega)]; simp
 have hsb : (Instr.sliceBounds true n cap lo hi mx).run P w = .ok (l, hgh, m) w := by
  unfold Instr.sliceBounds
  cases mx with
  | none =>
    subst hmx
    cases hi with
    | none =>
      obtain ⟨rfl, _⟩ := hhi
      cases lo with
      | none => subst hlo; simp
      | some v => obtain ⟨k, L, rfl, hL⟩ := hlo; simp [hb k L l _ _ hL h1]
    | some v =>
      obtain ⟨k, L, rfl, hL⟩ := hhi
      have hb1 := hb k L hgh m .sliceAcap hL h3
      cases lo with
      | none => subst hlo; simp [hb1]
      | some v => obtain ⟨k', L', rfl, hL'⟩ := hlo; simp [hb1, hb k' L' l _ _ hL' h1]
  | some vm =>
    obtain ⟨km, M, rfl, hM⟩ := hmx
    have hb0 := hb km M m cap .slice3Acap hM h4
    cases hi with
    | none => obtain ⟨_, h0⟩ := hhi; cases h0
    | some v =>
      obtain ⟨k, L, rfl, hL⟩ := hhi
      have hb1 := hb k L hgh m .slice3B hL h3
      cases lo with
      | none => subst hlo; simp [hb0, hb1]
      | some v => obtain ⟨k', L', rfl, hL'⟩ := hlo; simp [hb0, hb1, hb k' L' l _ _ hL' h1]
 have hrun : (Instr.slice t (.slice A n cap) lo hi mx).run P w = .ok (.slice (if m = l then A else A.map (·.add (l * sz))) (hgh - l) (m - l)) w := by
  simp only [Instr.slice, Sem.run_bind, run_underlying ht, Result.andThen_ok, hsb]
  simp [sizeOf, typeInfo, hi', hzz.2.1]
 simp [Instr.sliceAt, run_underlying ht, hrun]
theorem xop_sliceW {ρ : Operand → Value} {o : Oper} {w w' : World} {t : TypeId} {x : Operand} {lo hi mx : Option Operand} {v : Value} (ho : o.op = .slice t x lo hi mx) (hr : (Instr.sliceAt t (ρ x) (lo.map ρ) (hi.map ρ) (mx.map ρ)).run P w = .ok v w') : (execOp ρ o).run P w = .ok (.value v) w' := by
 simp [execOp, ho, hr, Result.andThen]
end
theorem laid_rdr {w : World} (hs : List Hd) (h : ∀ x, x ∈ hs → RdI w x.1 x.2.2) (hl : hs.length ≤ maxLen) : RdR (w.alloc (.cells (hs.map Hd.val).toArray 23)) (some ⟨w.heap.size, 0, none⟩) hs := by
 have hs1 := Sl.laid w 23 1 hs.length (hs.map Hd.val).toArray hl (by simp)
 refine ⟨fun i x hx => ?_, fun x hx => (h x hx).below (below_alloc _ _)⟩
 obtain ⟨ad, hA, _, hc, _⟩ := hs1.cell (j := i) (u := x.val) (by simp [hx])
 exact ⟨ad, hA, hc⟩
def swapV (a : Nat) (u : List Int) : List Int := u.drop a ++ u.take a
theorem swapV_len (a : Nat) (u : List Int) : (swapV a u).length = u.length := by unfold swapV; rw [List.length_append, List.length_drop, List.length_take]; omega
theorem swapV_res {p : Int} {a : Nat} {u : List Int} (h : Res p u) : Res p (swapV a u) := fun x hx => by
 rcases List.mem_append.1 hx with hx | hx
 · exact h x (List.mem_of_mem_drop hx)
 · exact h x (List.mem_of_mem_take hx)
def convM (p : Int) (s : Sys) : Sys := (s.2.1, s.1, redM p (s.1 + s.2.1).toNat (s.2.2.map (swapV s.1.toNat)))
set_option maxRecDepth 8000 in
set_option maxHeartbeats 2000000 in
theorem conv1_any (g na nb : Nat) (V : Value) (hV : V.oneCell' = true) (B : Option Addr) (d n : Nat) (u : List Int) (w : World) (h : Sl w 3 1 B n d (ints u)) (hn : n = na + nb) (hn2 : n ≤ 1000) (hg : w.heap[g]? = some (.cells #[.int .i64 na, .int .i64 nb, V] tRel)) :
  Calls Tryz.prog 164 #[.slice B n d, .pointer (some ⟨g, 0, none⟩)] w (RetI w (swapV na u)) := by
 have hul : u.length = n := by have := h.1; rw [ints_length] at this; omega
 have hl2 : (u.drop na).length = nb := by rw [List.length_drop]; omega
 have hl3 : (u.take na).length = na := by rw [List.length_take]; omega
 have hn_h := lH hn; have hg_h := lH hg; have h_h := lH h; have hul_h := lH hul; have hl2_h := lH hl2; have hl3_h := lH hl3; clear hn hg h hul hl2 hl3
 go_enter Tryz.func164, Tryz.ntmps164
 go_wp2_with (fail)
 have hbd : Below w.heap.size w w.drew := below_drewN (Below.refl _ _) 1
 refine beginH (fun w' => w'.heap[g]? = some (.cells #[.int .i64 na, .int .i64 nb, V] tRel)) (by kernel_rfl) ?_
 generalize w.drew = W1 at hbd ⊢
 replace hg_h := lH (box_below hg_h.out hbd)
 have h1 := h_h.out.below hbd
 have h1_h := lH h1; have hbd_h := lH hbd; clear h1 hbd
 refine tkH 0 ?_ rfl hg_h.out (fun W' hW' => ?_) ?_; rotate_left; · (obtain ⟨⟨y0, y1, y2⟩, y3, y4, y5⟩ := box3 hW'; clear hW'; go_simp; first | done | with_reducible rfl)
 simp only [Act.put, nS]
 refine tkH 1 ?_ rfl hg_h.out (fun W' hW' => ?_) ?_; rotate_left; · (obtain ⟨⟨y0, y1, y2⟩, y3, y4, y5⟩ := box3 hW'; clear hW'; go_simp; first | done | with_reducible rfl)
 simp only [Act.put, nS]
 refine tkH 3 ?_ rfl hg_h.out (fun W' hW' => ?_) ?_; rotate_left; · (obtain ⟨⟨y0, y1, y2⟩, y3, y4, y5⟩ := box3 hW'; clear hW'; go_simp; first | done | with_reducible rfl)
 simp only [Act.put, nS]
 refine tkH 4 ?_ rfl hg_h.out (fun W' hW' => ?_) ?_; rotate_left; · (obtain ⟨⟨y0, y1, y2⟩, y3, y4, y5⟩ := box3 hW'; clear hW'; go_simp; first | done | with_reducible rfl)
 simp only [Act.put, nS]
 refine' callH 2 (f := _) (args := _) rfl (by kernel_rfl) (by rfl) ?_ ?_; rotate_left 2; · (go_simp; first | done | with_reducible rfl | (constructor <;> with_reducible rfl))
 refine (second_any na (nb : Int) V hV B d n nb u W1 h1_h.out hn_h.out).mono ?_
 rintro e w2 ⟨B2, c2, rfl, hS2, hf2, hb2⟩
 replace hg_h := lH (box_below hg_h.out hb2)
 refine ⟨_, rfl, hg_h.out, ?_⟩
 simp only [Act.put, nS]
 have h2 := h1_h.out.below hb2
 have h2_h := lH h2; have hS2_h := lH hS2; have hf2_h := lH hf2; have hb2_h := lH hb2; clear h2 hS2 hf2 hb2
 refine' callH 5 (f := _) (args := _) rfl (by kernel_rfl) (by rfl) ?_ ?_; rotate_left 2; · (go_simp; first | done | with_reducible rfl | (constructor <;> with_reducible rfl))
 refine (first_any na (nb : Int) V hV B d n u w2 h2_h.out (by have := hn_h.out; omega)).mono ?_
 rintro e w3 ⟨B3, rfl, hS3, hf3, hb3⟩
 replace hg_h := lH (box_below hg_h.out hb3)
 refine ⟨_, rfl, hg_h.out, ?_⟩
 simp only [Act.put, nS]
 have hS2' := hS2_h.out.below hb3
 have hr2 : RdI w3 B2 (u.drop na) := fun j x hj => by
  obtain ⟨ad, hA, _, hc, _⟩ := hS2'.cell (ints_get hj)
  exact ⟨ad, hA, hc⟩
 have hr3 : RdI w3 B3 (u.take na) := fun j x hj => by
  obtain ⟨ad, hA, _, hc, _⟩ := hS3.cell (ints_get hj)
  exact ⟨ad, hA, hc⟩
 have hlr := laid_rdr (w := w3) [(B2, c2, u.drop na), (B3, d, u.take na)] (fun x hx => by
  rcases List.mem_cons.1 hx with rfl | hx
  · exact hr2
  · obtain rfl := List.mem_singleton.1 hx; exact hr3) (by unfold maxLen; simp)
 have e : (([(B2, c2, u.drop na), (B3, d, u.take na)] : List Hd).map Hd.val).toArray = #[.slice B2 nb c2, .slice B3 na d] := by
  simp [Hd.val, hl2_h.out, hl3_h.out]
 rw [e] at hlr
 have hgn := box_below hg_h.out (below_alloc w3 (.cells #[.slice B2 nb c2, .slice B3 na d] 23))
 have hJ := joined_any (some ⟨w3.heap.size, 0, none⟩) 2 [(B2, c2, u.drop na), (B3, d, u.take na)] _ hlr (by simp) (by simp; have := hul_h.out; omega)
 have e2 : (([(B2, c2, u.drop na), (B3, d, u.take na)] : List Hd).map fun h : Hd => h.2.2).flatten = swapV na u := by simp [swapV]
 rw [e2] at hJ
 have hB3 := below_trans (below_trans hbd_h.out hb2_h.out hbd_h.out.size) hb3 (Nat.le_trans hbd_h.out.size hb2_h.out.size)
 have hB4 := below_trans hB3 (below_alloc w3 (.cells #[.slice B2 nb c2, .slice B3 na d] 23)) hB3.size
 clear hlr e e2 hr2 hr3 hS2' hS3 hf3 hb3 hB3; have hgn_h := lH hgn; have hJ_h := lH hJ; have hB4_h := lH hB4; clear hgn hJ hB4
 refine oneH 6 rfl (by kernel_rfl) (by rfl) (fun K hK => ?_)
 go_simp
 refine hK _ _ hgn_h.out ?_
 clear hK K
 refine' callH 7 (f := _) (args := _) rfl (by kernel_rfl) (by rfl) ?_ ?_; rotate_left 2; · (go_simp; first | done | with_reducible rfl | (constructor <;> with_reducible rfl))
 refine (hJ_h.out).mono ?_
 rintro e w4 ⟨A4, c4, rfl, hi4, hf4, hb4⟩
 replace hgn_h := lH (box_below hgn_h.out hb4)
 refine ⟨_, rfl, hgn_h.out, ?_⟩
 simp only [Act.put, nS]
 have hres : RetI w (swapV na u) (.returned (.slice A4 (swapV na u).length c4)) w4 := ⟨A4, c4, rfl, hi4, hf4.mono hB4_h.out.size, below_trans hB4_h.out hb4 hB4_h.out.size⟩
 clear hi4 hf4 hb4; have hres_h := lH hres; clear hres
 refine tkH 8 ?_ rfl hgn_h.out (fun W' hW' => ?_) ?_; rotate_left; · (skip; clear hW'; go_simp; first | done | with_reducible rfl)
 simp only [Act.put, nS]
 refine doneH (by kernel_rfl) ?_
 go_wp2_with (fail)
 go_ret
 exact hres_h.out
set_option maxRecDepth 8000 in
set_option maxHeartbeats 2000000 in
theorem converse_any (p : Int) {v : Value} {s : Sys} {fp : List Nat} (w : World) (h : OwSys w v s fp) (hs : RelOk p s) :
  Calls Tryz.prog 141 #[.int .i64 p, v] w fun e w' => ∃ v' fp', e = .returned v' ∧ OwSys w' v' (convM p s) fp' ∧ FreshL w.heap.size fp' ∧ Below w.heap.size w w' := by
 have hmat0 := hs.mat.map (f := swapV s.1.toNat) fun v hv hr => ⟨(swapV_len _ v).trans hv, swapV_res hr⟩
 obtain ⟨A, c, gs, rfl, hL, hO, rfl⟩ := h
 obtain ⟨a, b, L⟩ := s
 have h0 : 0 ≤ a := hs.lo
 have h1 : 0 ≤ b := hs.hi
 have h2 : a + b ≤ 24 := hs.sum
 have hfld : fieldB p = true := hs.fld
 have hrow : ∀ u, u ∈ L → (u.length : Int) = a + b ∧ Res p u := fun u hu => hs.row hu
 have hlen : (L.length : Int) ≤ a + b := hs.len
 clear hs
 obtain ⟨na, rfl⟩ : ∃ na : Nat, a = (na : Int) := ⟨a.toNat, by omega⟩
 obtain ⟨nb, rfl⟩ : ∃ nb : Nat, b = (nb : Int) := ⟨b.toNat, by omega⟩
 have hL' : L = gs.map (fun h : Hd => h.2.2) := hL
 clear hL
 obtain ⟨m, hm⟩ : ∃ m, m = gs.length := ⟨_, rfl⟩
 have hLm : L.length = m := by rw [hL', List.length_map, hm]
 have hm24 : (m : Int) ≤ 24 := by have := hlen; rw [hLm] at this; omega
 have hgr : ∀ x, x ∈ gs → x.2.2.length = na + nb := fun x hx => by have := (hrow _ (by rw [hL']; exact List.mem_map_of_mem hx)).1; omega
 obtain ⟨n, hn⟩ : ∃ n, n = na + nb := ⟨_, rfl⟩
 obtain ⟨X, hX⟩ : ∃ X, X = L.map (swapV na) := ⟨_, rfl⟩
 have hmat : Mat p X.length n X := by rw [hX, hn, List.length_map]; exact hmat0
 obtain ⟨R, hR⟩ : ∃ R, R = redM p n X := ⟨_, rfl⟩
 have hgoal : convM p ((na : Int), (nb : Int), L) = ((nb : Int), (na : Int), R) := by
  rw [hR, hX, hn]; rfl
 rw [hgoal]
 show Calls Tryz.prog _ #[.int .i64 p, .agg #[.int .i64 (na : Int), .int .i64 (nb : Int), .slice A gs.length c]] w _
 rw [← hm]
 have hEa := fun (W' : World) (hb : Below w.heap.size w W') (hg : W'.heap[w.heap.size]? = some (.cells #[.int .i64 (na : Int), .int .i64 (nb : Int), .slice A m c] tRel)) => each_any 164 #[] #[.pointer (some ⟨w.heap.size, 0, none⟩)] (swapV na) (na : Int) (nb : Int) A c gs W' (hO.below hb).rd (hO.below hb).rows (by omega) (fun _ _ => rfl) (fun x hx W2 hb2 => by
  have hI : Sl W2 3 1 x.1 x.2.2.length x.2.1 (ints x.2.2) := ((hO.below hb).rows x hx).below hb2
  have hl := hgr x hx
  have := conv1_any w.heap.size na nb (.slice A m c) rfl x.1 x.2.1 x.2.2.length x.2.2 W2 hI (by omega) (by omega) (box_below hg hb2)
  refine this.mono ?_
  rintro e w4 ⟨A4, c4, rfl, hi4, hf4, hb4⟩
  exact ⟨A4, c4, rfl, hi4, fun b hb => .inr (hf4 b hb), hb4⟩)
 simp only [← hm] at hEa
 obtain ⟨W, hW, b0, k0, k1⟩ := alloc2 w (.cells #[.int .i64 (na : Int), .int .i64 (nb : Int), .slice A m c] tRel) (.cells #[.int .i64 0, .int .i64 0, .slice none 0 0] tRel)
 have hmf : ∀ (fn : Fn) (first cap : Array Value) (w : World), (Instr.makeFunc fn first cap).run Tryz.prog w = .ok (.func fn first cap) w := fun _ _ _ _ => rfl
 clear hO hmat0 hgoal hgr; have hL'_h := lH hL'; have hm_h := lH hm; have hLm_h := lH hLm; have k0_h := lH k0; have k1_h := lH k1; have b0_h := lH b0; have hrow_h := lH hrow; have hlen_h := lH hlen; have hfld_h := lH hfld; have hmat_h := lH hmat; have hX_h := lH hX; have hR_h := lH hR; have hEa_h := lH hEa; have hn_h := lH hn; clear hL' hm hLm k0 k1 b0 hrow hlen hfld hmat hX hR hEa hn
 go_enter Tryz.func141, Tryz.ntmps141
 go_wp2_with (fail)
 rw [← hW]
 clear hW
 have hbd : Below W.heap.size W W.drew := below_drewN (Below.refl _ _) 1
 refine beginH (fun w' => w'.heap[w.heap.size]? = some (.cells #[.int .i64 (na : Int), .int .i64 (nb : Int), .slice A m c] tRel)) (by kernel_rfl) ?_
 generalize W.drew = W1 at hbd ⊢
 replace k0_h := lH (box_below k0_h.out hbd)
 replace k1_h := lH (box_below k1_h.out hbd)
 have hB1 := below_trans b0_h.out hbd b0_h.out.size
 have hw1 : w.heap.size + 1 < W1.heap.size := (Array.getElem?_eq_some_iff.1 k1_h.out).1
 have hbd_h := lH hbd; have hB1_h := lH hB1; clear hbd hB1
 refine tkH 0 ?_ rfl k0_h.out (fun W' hW' => ?_) ?_; rotate_left; · (obtain ⟨⟨y0, y1, y2⟩, y3, y4, y5⟩ := box3 hW'; clear hW'; go_simp; first | done | with_reducible rfl)
 simp only [Act.put, nS]
 refine tkH 1 ?_ rfl k0_h.out (fun W' hW' => ?_) ?_; rotate_left; · (obtain ⟨⟨y0, y1, y2⟩, y3, y4, y5⟩ := box3 hW'; clear hW'; go_simp; first | done | with_reducible rfl)
 simp only [Act.put, nS]
 refine tkH 2 ?_ rfl k0_h.out (fun W' hW' => ?_) ?_; rotate_left; · (obtain ⟨⟨y0, y1, y2⟩, y3, y4, y5⟩ := box3 hW'; clear hW'; go_simp; first | done | with_reducible rfl)
 simp only [Act.put, nS]
 refine tkH 3 ?_ rfl k0_h.out (fun W' hW' => ?_) ?_; rotate_left; · (obtain ⟨⟨y0, y1, y2⟩, y3, y4, y5⟩ := box3 hW'; clear hW'; go_simp; first | done | with_reducible rfl)
 simp only [Act.put, nS]
 refine tkH 4 ?_ rfl k0_h.out (fun W' hW' => ?_) ?_; rotate_left; · (obtain ⟨⟨y0, y1, y2⟩, y3, y4, y5⟩ := box3 hW'; clear hW'; go_simp; first | done | with_reducible rfl)
 simp only [Act.put, nS]
 refine tkH 5 ?_ rfl k0_h.out (fun W' hW' => ?_) ?_; rotate_left; · (obtain ⟨⟨y0, y1, y2⟩, y3, y4, y5⟩ := box3 hW'; clear hW'; go_simp; first | done | with_reducible rfl)
 simp only [Act.put, nS]
 refine tkH 6 ?_ rfl k0_h.out (fun W' hW' => ?_) ?_; rotate_left; · (skip; clear hW'; go_simp; first | done | with_reducible rfl)
 simp only [Act.put, nS]
 refine' callH 7 (f := _) (args := _) rfl (by kernel_rfl) (by rfl) ?_ ?_; rotate_left 2; · (go_simp; first | done | with_reducible rfl | (constructor <;> with_reducible rfl))
 refine (hEa_h.out W1 hB1_h.out k0_h.out).mono ?_
 rintro e w2 ⟨A1, c1, g1, rfl, hg1, hO1⟩
 replace k0_h := lH (box_below k0_h.out hO1.below_)
 replace k1_h := lH (box_below k1_h.out hO1.below_)
 have hz2 := box_lt k1_h.out
 refine ⟨_, rfl, k0_h.out, ?_⟩
 simp only [Act.put, nS]
 have hg2 : g1.map (fun h : Hd => h.2.2) = X := by rw [hg1, hX_h.out, hL'_h.out, List.map_map]; rfl
 have hgl : g1.length = m := by have := congrArg List.length hg2; rwa [List.length_map, hX_h.out, List.length_map, hLm_h.out] at this
 have hXl : X.length = m := by rw [hX_h.out, List.length_map, hLm_h.out]
 have hC := relation_any p (nb : Int) (na : Int) n A1 c1 g1 w2 hO1.rdr hfld_h.out (by have := hn_h.out; omega) (by rw [hg2, hgl, ← hXl]; exact hmat_h.out) (by omega) (by have := hn_h.out; omega)
 rw [hg2, ← hR_h.out, hgl] at hC
 have hB2 := below_trans hB1_h.out hO1.below_ hB1_h.out.size
 clear hg1 hg2 hgl hXl hO1; have hC_h := lH hC; have hB2_h := lH hB2; clear hC hB2
 refine' callH 8 (f := _) (args := _) rfl (by kernel_rfl) (by rfl) ?_ ?_; rotate_left 2; · (go_simp; first | done | with_reducible rfl | (constructor <;> with_reducible rfl))
 refine (hC_h.out).mono ?_
 rintro e w3 ⟨v3, fp3, rfl, hO3, hf3, hb3⟩
 replace k0_h := lH (box_below k0_h.out hb3)
 replace k1_h := lH (box_below k1_h.out hb3)
 refine ⟨_, rfl, k0_h.out, ?_⟩
 simp only [Act.put, nS]
 obtain ⟨A3, n3, c3, rfl⟩ := hO3.shape
 have hB3 := below_trans hB2_h.out hb3 hB2_h.out.size
 have hBs := hB2_h.out.size
 have hz3 : w.heap.size + 1 < w3.heap.size := (Array.getElem?_eq_some_iff.1 k1_h.out).1
 obtain ⟨⟨d0, d1, d2⟩, g0, g1', g2'⟩ := box3 k1_h.out
 obtain ⟨s1, s2⟩ := set3 (a := .int .i64 (nb : Int)) (b := .int .i64 (na : Int)) (c := .slice A3 n3 c3) k1_h.out
 have k0' := box_keeps k0_h.out s2 (by omega)
 have hO4 := hO3.keeps s2 (fun k hk e => by have := hf3 k hk; omega)
 have hB4 := below_keeps hB3 s2 hB3.size (fun k hk => by omega)
 have hf4 := hf3.mono hBs
 clear hO3 hf3 hb3 hB3; have s1_h := lH s1; have s2_h := lH s2; have k0'_h := lH k0'; have hO4_h := lH hO4; have hB4_h := lH hB4; have hf4_h := lH hf4; clear s1 s2 k0' hO4 hB4 hf4
 refine oneH 9 rfl (by kernel_rfl) (by rfl) (fun K hK => ?_)
 go_simp
 refine hK _ _ k0'_h.out ?_
 clear hK K
 refine doneH (by kernel_rfl) ?_
 go_wp2_with (fail)
 refine bodyPost_ret (results_cell_row rfl _ _ (w.heap.size + 1) _ _ (0, 0) _ rfl s1_h.out Tryz.underlying29 rfl (by kernel_rfl)) rfl ?_
 exact ⟨_, rfl, fp3, hO4_h.out, hf4_h.out, hB4_h.out⟩
def negTo (p : Int) (a : Nat) (u : List Int) (k : Nat) : List Int := u.mapIdx fun j x => if a ≤ j ∧ j < k then -x % p else x
def negV (p : Int) (a : Nat) (u : List Int) : List Int := negTo p a u u.length
@[simp] theorem negTo_length (p : Int) (a : Nat) (u : List Int) (k : Nat) : (negTo p a u k).length = u.length := by simp [negTo]
@[simp] theorem negV_length (p : Int) (a : Nat) (u : List Int) : (negV p a u).length = u.length := negTo_length _ _ _ _
theorem alloc3 (w : World) (o o' o'' : Obj) : ∃ W, W = ((w.alloc o).alloc o').alloc o'' ∧ Below w.heap.size w W ∧ W.heap[w.heap.size]? = some o ∧ W.heap[w.heap.size + 1]? = some o' ∧ W.heap[w.heap.size + 1 + 1]? = some o'' := by
 obtain ⟨W, hW, b0, k0, k1⟩ := alloc2 w o o'
 refine ⟨_, rfl, ?_, ?_, ?_, ?_⟩
 · rw [← hW]; exact below_trans b0 (below_alloc _ _) b0.size
 · rw [← hW]; exact box_below k0 (below_alloc _ _)
 · rw [← hW]; exact box_below k1 (below_alloc _ _)
 · have := heap_alloc_new ((w.alloc o).alloc o') o''
   rwa [World.size_alloc, World.size_alloc] at this
end Go.Proofs.YtahnhblodfdfhaaGreatDoor
