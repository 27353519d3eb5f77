/-
  The program's WireValues returns what the reference's returns, for all arguments (laws.FnExactWireValues answers true): the tied card.
-/
import Derived.Test.YtjompikdkhhlgaaGreatDoorKWireValues5
import Derived.Laws.IdiomStrings
import Derived.OrdersIn
import Derived.Test.YtjompikdkhhlgaaGreatDoorCards
import Derived.Test.YtjompikdkhhlgaaGreatDoorTie
import Derived.ProofKit
import Derived.OpenShut
import Derived.Deep.DeepHandedRow
import Derived.Lib.LaidTab
namespace Go.Proofs.YtjompikdkhhlgaaGreatDoor
open Go.RowKit Go.Shelf
attribute [local go_sem] Oper.semAt_some
theorem dnOk_edge {p : Int} {g : Gr} (h : dnAskB p g = true) {e : Eg} (he : e ∈ g.2.1) : okLf p (e.1, e.2.1, noName) ∧ genB e.1 ∧ EdOk g.1.toNat e := by
 have hd := DnOk.of h
 obtain ⟨⟨h3, h14⟩, hty, hw, hv0, hvp, h8, h14'⟩ := hd.edge e he
 have hgv : gvB e.1 e.2.1 = true := by
  unfold dnAskB gOverB grB at h
  simp only [Bool.and_eq_true, List.all_eq_true] at h
  have h10 := h.1.2.1.2.1 e he
  unfold egB at h10
  simp only [Bool.and_eq_true] at h10
  exact h10.2.1
 have hz := hd.lo
 refine ⟨⟨?_, h8, h14', fun _ => hvp⟩, ?_, ?_⟩
 · unfold leafB
   refine decide_eq_true ⟨rfl, ?_⟩
   unfold gvB hvB at hgv
   by_cases h7 : e.1 = 7 ∨ e.1 = 13
   · rw [decide_eq_true h7, if_pos rfl] at hgv
     have := of_decide_eq_true hgv
     exact .inr (.inl ⟨h7, this⟩)
   · rw [decide_eq_false h7, if_neg (by simp)] at hgv
     have := of_decide_eq_true hgv
     simp only [not_or] at h7
     exact .inr (.inr ⟨by show 2 ≤ e.1; omega, h14, h7.1, h7.2, this⟩)
 · unfold genB
   omega
 · have h1 := congrArg Prod.fst hty
   have h2 := congrArg Prod.snd hty
   simp only at h1 h2
   exact ⟨by omega, by omega, fun a ha => by have := hw a (List.mem_append_left _ ha); omega, fun a ha => by have := hw a (List.mem_append_right _ ha); omega⟩
theorem leafOf_anyD (k x : Int) (w : World) : Calls Tryz.prog 62 #[.int .i64 k, .int .i64 x] w fun e w' => e = .returned (.agg #[.int .i64 k, .int .i64 x, .string noName]) ∧ Below w.heap.size w w' := by
 go_enter Tryz.func62, Tryz.ntmps62
 go_wp2_with (fail)
 refine bodyPost_ret (results_cell_row rfl _ _ w.heap.size _ _ (0, 0) _ rfl (heap_alloc_new w _) Tryz.underlying85 rfl (by kernel_rfl)) rfl ?_
 exact ⟨rfl, below_alloc _ _⟩
def XEq (w0 : World) (Bg Bp : Nat) (b : Nat) : Prop := b < w0.heap.size ∨ b = Bg ∨ b = Bp
structure GEq (w0 : World) (Bg Bp : Nat) (box : Obj) (p : Int) (V : World) : Prop where
 lo : Below w0.heap.size w0 V
 g : V.heap[Bg]? = some box
 p : V.heap[Bp]? = some (.cells #[.int .i64 p] 3)
section
variable {w0 V V' : World} {Bg Bp : Nat} {box : Obj} {p : Int}
theorem GEq.below (h : GEq w0 Bg Bp box p V) (hb : Below V.heap.size V V') : GEq w0 Bg Bp box p V' := ⟨below_trans h.lo hb h.lo.size, box_below h.g hb, box_below h.p hb⟩
theorem GEq.keeps (h : GEq w0 Bg Bp box p V) {T : Nat → Prop} (hk : Keeps T V V') (hT : ∀ b, T b → ¬ XEq w0 Bg Bp b) : GEq w0 Bg Bp box p V' :=
 ⟨below_keeps h.lo hk h.lo.size (fun k hk' => Nat.le_of_not_lt fun hl => hT k hk' (.inl hl)), (hk.block Bg (box_lt h.g) (fun ht => hT _ ht (.inr (.inl rfl)))).trans h.g, (hk.block Bp (box_lt h.p) (fun ht => hT _ ht (.inr (.inr rfl)))).trans h.p⟩
end
def EqE (p : Int) (g : Gr) (n : Nat) (b0 : Nat) (k : Nat) (W : World) (T : Nat → Prop) (v : Value) : Prop :=
 ∃ A c r, v = .slice A n c ∧ (imEqs p g)[k]? = some r ∧ IS W A c r ∧ ∀ b, b ∈ fpA A → b0 ≤ b ∧ ¬ T b
theorem flat_get {α β : Type} {f : α → List β} {l : List α} {k i : Nat} {x : α} (h : l[k]? = some x) (hi : i < (f x).length) : (l.flatMap f)[((l.take k).flatMap f).length + i]? = (f x)[i]? := by
 have hk : k < l.length := (List.getElem?_eq_some_iff.1 h).1
 have e : l = l.take k ++ (x :: l.drop (k + 1)) := by
  have := List.take_append_drop k l
  rw [List.drop_eq_getElem_cons hk] at this
  have h2 : l[k] = x := (List.getElem?_eq_some_iff.1 h).2
  rw [h2] at this
  exact this.symm
 have e3 : l.flatMap f = (l.take k).flatMap f ++ (f x ++ (l.drop (k + 1)).flatMap f) := by
  conv => lhs; rw [e]
  rw [List.flatMap_append, List.flatMap_cons]
 rw [e3, List.getElem?_append_right (by omega), Nat.add_sub_cancel_left, List.getElem?_append_left hi]
theorem flat_len {α β : Type} {f : α → List β} {l : List α} {k : Nat} {x : α} (h : l[k]? = some x) : ((l.take (k + 1)).flatMap f).length = ((l.take k).flatMap f).length + (f x).length := by
 rw [List.take_add_one, h]
 simp
theorem Sl.ne_cells {w : World} {e t : TypeId} {sz n c b : Nat} {A : Option Addr} {xs : List Value} {cs : Array Value} (h : Sl w e sz A n c xs) (hb : w.heap[b]? = some (.cells cs t)) (he : e ≠ t) : ∀ x, x ∈ fpA A → x ≠ b := by
 intro x hx e'
 subst e'
 rcases h.2.2.2 with ⟨rfl, _⟩ | ⟨g, off, cur, rfl, hg, _⟩
 · simp at hx
 · simp at hx
   subst hx
   rw [hb] at hg
   injection hg with hg
   injection hg with _ h2 _
   exact he h2.symm
theorem OwSys.ne_rel {w : World} {v : Value} {s : Sys} {fp : List Nat} {b : Nat} {cs : Array Value} (h : OwSys w v s fp) (hb : w.heap[b]? = some (.cells cs tRelD)) : ∀ x, x ∈ fp → x ≠ b := by
 obtain ⟨A, c, hs, _, _, hO, rfl⟩ := h
 intro x hx
 rcases List.mem_append.1 hx with h1 | h1
 · exact hO.sl.ne_cells hb (by decide) x h1
 · obtain ⟨y, hy, h2⟩ := mem_fpR.1 h1
   exact Sl.ne_cells (hO.rows y hy) hb (by decide) x h2
theorem RdR.laid (w : World) (hs : List Hd) (h : ∀ x, x ∈ hs → RdI w x.1 x.2.2) (hl : hs.length ≤ maxLen) : RdR (w.alloc (.cells (hs.map Hd.val).toArray 23)) (some ⟨w.heap.size, 0, none⟩) hs := by
 have hsl := Sl.laid w 23 1 hs.length (hs.map Hd.val).toArray hl (by simp)
 refine ⟨fun i x hi => ?_, fun x hx => (h x hx).below (below_alloc _ _)⟩
 obtain ⟨ad, hA, _, hc, _⟩ := hsl.cell (j := i) (u := x.val) (by simp [hi])
 exact ⟨ad, hA, by simpa using hc⟩
theorem leafV_gen' {p k v : Int} {s : ByteArray} (hk : genB k) : leafV p (k, v, s) = ((kindTy k).1, (kindTy k).2, nullM p (kdN k) (leafEq p k v)) := by
 unfold leafV
 rcases hk with rfl | rfl | rfl | rfl | rfl | rfl | rfl | rfl | rfl | rfl <;> rfl
theorem edEqs_gen {p : Int} {n : Nat} {k v : Int} {l m : List Int} (hk : genB k) : edEqs p n (k, v, l, m) = (perpM p (kdN k) (nullM p (kdN k) (leafEq p k v))).map (sprV p n (l ++ m)) := by
 unfold edEqs
 rw [leafV_gen hk]
theorem RetI.lenN {w w' : World} {e : Ending} {l : List Int} {n : Nat} (h : RetI w l e w') (hn : l.length = n) : ∃ A c, e = .returned (.slice A n c) ∧ IS w' A c l ∧ Fresh w.heap.size A ∧ Below w.heap.size w w' := by
 subst hn
 exact h
theorem RetSS.lenN {w w' : World} {e : Ending} {L : List (List Int)} {n : Nat} (h : RetSS w L e w') (hn : L.length = n) : ∃ A c hs, e = .returned (.slice A n c) ∧ L = hs.map (fun h : Hd => h.2.2) ∧ OwR w' A c hs ∧ (∀ b, b ∈ fpA A ++ fpR hs → w.heap.size ≤ b) ∧ Below w.heap.size w w' := by
 subst hn
 exact h
set_option maxRecDepth 100000 in
set_option maxHeartbeats 8000000 in
theorem equations1_seq {p : Int} {g : Gr} (hd : dnAskB p g = true) (_ok : OkG g) {w0 w : World} {A : Option Addr} {c b d : Nat} {B C : Option Addr} {hs : List EHd} {z : Int} (hgz : g.1 = z) (hge : g.2.1 = hs.map egOf) (hE : RdE w0 A hs) {Bg Bp ns nt : Nat}
  (hG : GEq w0 Bg Bp (.cells #[.int .i64 z, .slice A hs.length c, .slice B ns b, .slice C nt d] tGr) p w) :
  SeqT Fence.wide 3 Tryz.prog 60 #[.pointer (some ⟨Bg, 0, none⟩), .pointer (some ⟨Bp, 0, none⟩)] (XEq w0 Bg Bp) (EqE p g g.1.toNat w.heap.size) (imEqs p g).length w := by
 intro l J Jx W T hbW hT hJ hY h0
 refine callsIn_wide.2 ?_
 have hdo := DnOk.of hd
 have hf := hdo.fld
 have hpb := fieldB_bounds hf
 obtain ⟨n, hn⟩ : ∃ n : Nat, z = (n : Int) := ⟨z.toNat, by have := hdo.lo; omega⟩
 subst hn
 have hnn : g.1.toNat = n := by omega
 have hn100 : n ≤ 100 := by have := hdo.hi; omega
 rw [hnn] at hY
 obtain ⟨m, hm⟩ : ∃ m, m = hs.length := ⟨_, rfl⟩
 rw [← hm] at hG
 have hGW := hG.below hbW
 have hed : ∀ (k : Nat) (e : Eg), g.2.1[k]? = some e → okLf p (e.1, e.2.1, noName) ∧ genB e.1 ∧ EdOk n e := fun k e he => by
  have := dnOk_edge hd (List.mem_of_getElem? he)
  rwa [hnn] at this
 have hN : (imEqs p g).length = (g.2.1.flatMap (edEqs p n)).length := by unfold imEqs; rw [hnn]
 have hm60 : m ≤ 60 := by have := hdo.len; rw [hge, List.length_map, ← hm] at this; exact this
 have hgl : g.2.1.length = m := by rw [hge, List.length_map, hm]
 have h00 : ((g.2.1.take 0).flatMap (edEqs p n)).length = 0 := by simp
 have hTb : ∀ b, T b → ¬ XEq w0 Bg Bp b ∧ b < W.heap.size := hT
 obtain ⟨⟨c0, c1, c2, c3⟩, f0, f1, f2, f3⟩ := box4 hGW.g
 clear hdo hd hG hT; have hbW_h := lH hbW; have hGW_h := lH hGW; have hed_h := lH hed; have hN_h := lH hN; have hgl_h := lH hgl; have hm_h := lH hm; have hge_h := lH hge; have hE_h := lH hE; have hJ_h := lH hJ; have hY_h := lH hY; have hTb_h := lH hTb; have h0_h := lH h0; have hnn_h := lH hnn; have hgz_h := lH hgz; have hf_h := lH hf; clear hbW hGW hed hN hgl hm hge hE hJ hY hTb h0 hnn hgz hf
 have harr : (#[Value.func (.yield l) #[] #[]] ++ #[.pointer (some ⟨Bg, 0, none⟩), .pointer (some ⟨Bp, 0, none⟩)] : Array Value) = #[.func (.yield l) #[] #[], .pointer (some ⟨Bg, 0, none⟩), .pointer (some ⟨Bp, 0, none⟩)] := by simp
 rw [harr]
 clear harr h00
 go_enter Tryz.func60, Tryz.ntmps60
 go_wp2_with (fail)
 clear c0 c1 c2 c3 f0 f1 f2 f3
 go_loopw [16] (fun iv wr => ∃ (k : Nat) (T : Nat → Prop), k ≤ m ∧ iv = .int .i64 k ∧ J ((g.2.1.take k).flatMap (edEqs p n)).length T wr ∧ GEq w0 Bg Bp (.cells #[.int .i64 n, .slice A m c, .slice B ns b, .slice C nt d] tGr) p wr ∧ (∀ b, T b → ¬ XEq w0 Bg Bp b ∧ b < wr.heap.size) ∧ w.heap.size ≤ wr.heap.size) (fun iv _ => m - (intOf iv).toNat)
 case atStart => exact ⟨0, T, Nat.zero_le _, rfl, by rw [show ((g.2.1.take 0).flatMap (edEqs p n)).length = 0 by simp]; exact h0_h.out, hGW_h.out, hTb_h.out, hbW_h.out.size⟩
 case round =>
  clear hGW_h hTb_h h0_h hbW_h
  obtain ⟨k, T1, hk, rfl, hJ1, hG1, hT1, hz1⟩ := hrel
  obtain ⟨wo, rfl⟩ : ∃ x, x = wr := ⟨_, rfl⟩
  by_cases hlt : k < m
  · obtain ⟨ad, κ, v, B', b', l', C', c', mm, rfl, hx, ⟨d0, d1, d2, d3⟩, hI, hO⟩ := (hE_h.out.below hG1.lo).at_ (j := k) (by rw [← hm_h.out]; exact hlt)
    have hxe : g.2.1[k]? = some (κ, v, l', mm) := by rw [hge_h.out, List.getElem?_map, hx]; rfl
    obtain ⟨hok, hgen, hedk⟩ := hed_h.out k _ hxe
    have hkI : (k : Int) < (m : Int) := by omega
    obtain ⟨wN, hwN⟩ : ∃ wN, wN = wo.alloc (.cells #[.int .i64 κ, .int .i64 v, .slice B' l'.length b', .slice C' mm.length c'] tEd) := ⟨_, rfl⟩
    have hbN : Below wo.heap.size wo wN := by rw [hwN]; exact below_alloc _ _
    have hzN : wN.heap.size = wo.heap.size + 1 := by rw [hwN]; simp
    have kN : wN.heap[wo.heap.size]? = some (.cells #[.int .i64 κ, .int .i64 v, .slice B' l'.length b', .slice C' mm.length c'] tEd) := by rw [hwN]; exact heap_alloc_new _ _
    have kp := (hG1.below hbN).p
    clear hx
    have hLE := fun W' => leafOf_anyD κ v W'
    have hLR := fun W' => leafRelation_any p κ v noName W' hf_h.out hok
    obtain ⟨R, hR⟩ : ∃ R, R = leafV p (κ, v, noName) := ⟨_, rfl⟩
    rw [← hR] at hLR
    have hJ1_h := lH hJ1; have hG1_h := lH hG1; have hT1_h := lH hT1; have hz1_h := lH hz1; have hxe_h := lH hxe; have hok_h := lH hok; have hgen_h := lH hgen; have hedk_h := lH hedk; have hbN_h := lH hbN; have hzN_h := lH hzN; have kN_h := lH kN; have kp_h := lH kp; have hI_h := lH hI; have hO_h := lH hO; have hLE_h := lH hLE; have hLR_h := lH hLR; have hR_h := lH hR; clear hJ1 hG1 hT1 hz1 hxe hok hgen hedk hbN hzN kN kp hI hO hLE hLR hR
    go_upto_region 3 with (fail)
    rw [← hwN]
    clear hwN d0 d1 d2 d3
    refine beginH (fun w' => w'.heap[wo.heap.size]? = some (.cells #[.int .i64 κ, .int .i64 v, .slice B' l'.length b', .slice C' mm.length c'] tEd) ∧ w'.heap[Bp]? = some (.cells #[.int .i64 p] 3)) (by kernel_rfl) ?_
    have hbd : Below wN.heap.size wN wN.drew := below_drew (Below.refl _ _)
    generalize wN.drew = W1 at hbd ⊢
    have kN1 := box_below kN_h.out hbd
    have kp1 := box_below kp_h.out hbd
    have hbo1 := below_trans hbN_h.out hbd hbN_h.out.size
    have hz11 : wo.heap.size < W1.heap.size := box_lt kN1
    have kN1_h := lH kN1; have kp1_h := lH kp1; have hbo1_h := lH hbo1; have hz11_h := lH hz11; clear kN1 kp1 hbo1 hz11; clear hbd hbN_h kN_h kp_h
    refine tkH 0 ?_ rfl ⟨kN1_h.out, kp1_h.out⟩ (fun W' hW' => ?_) ?_; rotate_left; · (obtain ⟨⟨y0, y1, y2, y3⟩, y4, y5, y6, y7⟩ := box4 hW'.1; obtain ⟨z0, z1⟩ := bx1_d hW'.2; clear hW'; go_simp; first | done | with_reducible rfl)
    simp only [Act.put, nS]
    refine tkH 1 ?_ rfl ⟨kN1_h.out, kp1_h.out⟩ (fun W' hW' => ?_) ?_; rotate_left; · (obtain ⟨⟨y0, y1, y2, y3⟩, y4, y5, y6, y7⟩ := box4 hW'.1; obtain ⟨z0, z1⟩ := bx1_d hW'.2; clear hW'; go_simp; first | done | with_reducible rfl)
    simp only [Act.put, nS]
    refine tkH 2 ?_ rfl ⟨kN1_h.out, kp1_h.out⟩ (fun W' hW' => ?_) ?_; rotate_left; · (obtain ⟨⟨y0, y1, y2, y3⟩, y4, y5, y6, y7⟩ := box4 hW'.1; obtain ⟨z0, z1⟩ := bx1_d hW'.2; clear hW'; go_simp; first | done | with_reducible rfl)
    simp only [Act.put, nS]
    refine tkH 3 ?_ rfl ⟨kN1_h.out, kp1_h.out⟩ (fun W' hW' => ?_) ?_; rotate_left; · (obtain ⟨⟨y0, y1, y2, y3⟩, y4, y5, y6, y7⟩ := box4 hW'.1; obtain ⟨z0, z1⟩ := bx1_d hW'.2; clear hW'; go_simp; first | done | with_reducible rfl)
    simp only [Act.put, nS]
    refine tkH 4 ?_ rfl ⟨kN1_h.out, kp1_h.out⟩ (fun W' hW' => ?_) ?_; rotate_left; · (obtain ⟨⟨y0, y1, y2, y3⟩, y4, y5, y6, y7⟩ := box4 hW'.1; obtain ⟨z0, z1⟩ := bx1_d hW'.2; clear hW'; go_simp; first | done | with_reducible rfl)
    simp only [Act.put, nS]
    refine callsBoxes (fuel := 1) (w := W1) (R := fun vs w' => vs = [] ∨ vs = [.agg #[.int .i64 κ, .int .i64 v, .string noName]] ∨ ∃ u fp, vs = [.agg #[.int .i64 κ, .int .i64 v, .string noName], u] ∧ OwSys w' u R fp ∧ FreshL W1.heap.size fp) (fin := #[true, true, true, true, true, true, true, true, false]) (zs := [⟨7, 6, .cells #[.int .i64 0, .int .i64 0, .slice none 0 0] tRelD⟩]) (by kernel_rfl) (by decide) (fun vs w' w'' h hb => ?hst) (fun w' hb => ⟨box_below kN1_h.out hb, box_below kp1_h.out hb⟩) ?hz 3 _ [(5, 25), (6, 26)] [⟨7, 6, .cells #[.int .i64 0, .int .i64 0, .slice none 0 0] tRelD⟩] _ [] [] W1 (by kernel_rfl) (List.Perm.refl _) (Below.refl _ _) (.inl rfl) (by simp) (by simp) ?hc
    case hst =>
     rcases h with h | h | ⟨u, fp, h1, h2, h3⟩
     · exact .inl h
     · exact .inr (.inl h)
     · exact .inr (.inr ⟨u, fp, h1, h2.below hb, h3⟩)
    case hz =>
     intro z hz
     obtain rfl := List.mem_singleton.1 hz
     exact ⟨_, rfl, rfl, rfl, fun a w => (by kernel_rfl)⟩
    case hc =>
     refine callsB_cons (f := ?f1) (args := ?a1) rfl rfl (by kernel_rfl) (by rfl) (fun w' => ?r1) (fun w' hb _ => ?c1) (fun v1 => ?k1)
     case r1 => (go_simp; first | done | with_reducible rfl | (constructor <;> with_reducible rfl))
     case c1 =>
      refine (hLE_h.out w').mono ?_
      rintro e w2 ⟨rfl, hb2⟩
      exact ⟨_, rfl, hb2, .inr (.inl rfl)⟩
     case k1 =>
     refine callsB_cons (f := ?f2) (args := ?a2) rfl rfl (by kernel_rfl) (by rfl) (fun w' => ?r2) (fun w' hb hR => ?c2) (fun v2 bs w2 hbs hb2 hR hbx hnd => ?rest)
     case r2 => (go_simp; first | done | with_reducible rfl | (constructor <;> with_reducible rfl))
     case c2 =>
      have hv1 : v1 = .agg #[.int .i64 κ, .int .i64 v, .string noName] := by
       rcases hR with h | h | ⟨u, fp, h, _⟩
       · cases h
       · simpa using h
       · simp at h
      subst hv1
      refine (hLR_h.out w').mono ?_
      rintro e w2 ⟨u, fp, rfl, hO2, hfr, hb2⟩
      exact ⟨_, rfl, hb2, .inr (.inr ⟨u, fp, rfl, hO2, hfr.mono hb.size⟩)⟩
     case rest =>
      obtain ⟨fp, rfl, hO2, hfr⟩ : ∃ fp, v1 = .agg #[.int .i64 κ, .int .i64 v, .string noName] ∧ OwSys w2 v2 R fp ∧ FreshL W1.heap.size fp := by
       rcases hR with h | h | ⟨u, fp, h, h2, h3⟩
       · cases h
       · simp at h
       · simp at h
         obtain ⟨h5, h6⟩ := h
         subst h6
         exact ⟨fp, h5, h2, h3⟩
      match bs, hbs with
      | [(z1, B1)], hbs =>
        simp only [List.map_cons, List.map_nil, List.cons.injEq, and_true] at hbs
        subst hbs
        obtain ⟨x1, x2⟩ := hbx _ (List.mem_cons_self ..)
        clear hbx hnd hR
        obtain ⟨A2, c2, hs2, hv2, e2, hOR, hfp⟩ := id hO2
        obtain ⟨n2, hn2⟩ : ∃ n2, n2 = hs2.length := ⟨_, rfl⟩
        rw [← hn2] at hv2
        subst hv2
        obtain ⟨s1, s2⟩ := set3 (a := .int .i64 R.1) (b := .int .i64 R.2.1) (c := .slice A2 n2 c2) x1
        have hO3 := hOR.keeps s2 (fun q hq e => hO2.ne_rel x1 q (by rw [hfp]; exact hq) e)
        have hbo2 := below_trans hbo1_h.out hb2 hbo1_h.out.size
        have hzB : wo.heap.size < B1 := Nat.lt_of_lt_of_le hz11_h.out x2
        have hbo3 := below_keeps hbo2 s2 hbo2.size (fun q e => by omega)
        have kN3 := box_keeps (box_below kN1_h.out hb2) s2 (by omega)
        have hBl := box_lt x1
        have hS3 := And.intro kN3 ((hG1_h.out.below hbo3).p)
        obtain ⟨⟨e0, e1, e6⟩, e3, e4, e5⟩ := box3 x1
        obtain ⟨W3, hW3⟩ : ∃ W3, W3 = ((w2.setCell ⟨B1, 0, none⟩ (.int .i64 R.1)).setCell ⟨B1, 1, none⟩ (.int .i64 R.2.1)).setCell ⟨B1, 2, none⟩ (.slice A2 n2 c2) := ⟨_, rfl⟩
        rw [← hW3] at s1 hO3 hbo3 kN3
        have kp3 : W3.heap[Bp]? = some (.cells #[.int .i64 p] 3) := (hG1_h.out.below hbo3).p
        have hBl3 : B1 < W3.heap.size := box_lt s1
        have x1_h := lH x1; have s1_h := lH s1; have hO3_h := lH hO3; have hbo3_h := lH hbo3; have kN3_h := lH kN3; have kp3_h := lH kp3; have hfr_h := lH hfr; have hzB_h := lH hzB; have hBl3_h := lH hBl3; have hS3_h := lH hS3; clear x1 s1 hO3 hbo3 kN3 kp3 hfr hzB hBl3 hS3; clear hO2 hbo2 hBl hb2 s2 kN1_h kp1_h x2 hOR hfp; have hn2_h := lH hn2; have e2_h := lH e2; clear hn2 e2
        simp only [putB, List.foldl_cons, List.foldl_nil]
        simp only [Act.put, nS]
        refine oneH 8 rfl (by kernel_rfl) (by rfl) (fun K hK => ?_)
        go_simp
        refine hK _ _ hS3_h.out ?_
        clear hK K
        refine doneH (by kernel_rfl) ?_
        first
        | rw [← hW3]
        | skip
        clear hW3 e0 e1 e6 e3 e4 e5 hS3_h
        -- region 4: the places
        obtain ⟨N, hNk⟩ : ∃ N, N = kdN κ := ⟨_, rfl⟩
        obtain ⟨PL, hPL⟩ : ∃ PL, PL = l' ++ mm := ⟨_, rfl⟩
        have hty := kindTy_nn κ
        have hPLN : PL.length = N := by rw [hPL, hNk, List.length_append, hedk_h.out.inl, hedk_h.out.outl]; rfl
        have hN4 : N ≤ 4 := by rw [hNk]; exact hty.2.2.2
        have hPLw : ∀ a, a ∈ PL → 0 ≤ a ∧ a < (n : Int) := fun a ha => by
         rw [hPL] at ha
         exact (List.mem_append.1 ha).elim (hedk_h.out.wi a) (hedk_h.out.wo a)
        obtain ⟨W4, hW4⟩ : ∃ W4, W4 = W3.alloc (.cells #[.slice B' l'.length b', .slice C' mm.length c'] 23) := ⟨_, rfl⟩
        have hLaid : RdR W4 (some ⟨W3.heap.size, 0, none⟩) [(B', b', l'), (C', c', mm)] := by
         rw [hW4]
         refine RdR.laid W3 [(B', b', l'), (C', c', mm)] (fun x hx => ?_) (by unfold maxLen; simp)
         simp only [List.mem_cons, List.not_mem_nil, or_false] at hx
         rcases hx with rfl | rfl
         · exact hI_h.out.below hbo3_h.out
         · exact hO_h.out.below hbo3_h.out
        have hb34 : Below W3.heap.size W3 W4 := by rw [hW4]; exact below_alloc _ _
        have hJn : Calls Tryz.prog 63 #[.slice (some ⟨W3.heap.size, 0, none⟩) 2 2] W4 (RetI W4 PL) := by
         have e : ([(B', b', l'), (C', c', mm)].map fun h : Hd => h.2.2).flatten = PL := by rw [hPL]; simp
         have h := joined_any (some ⟨W3.heap.size, 0, none⟩) 2 [(B', b', l'), (C', c', mm)] W4 hLaid (by simp) (by rw [e, hPLN]; omega)
         rw [e] at h
         exact h
        clear hLaid; have hPL_h := lH hPL; have hNk_h := lH hNk; have hty_h := lH hty; have hPLN_h := lH hPLN; have hPLw_h := lH hPLw; have hb34_h := lH hb34; have hJn_h := lH hJn; clear hPL hNk hty hPLN hPLw hb34 hJn
        obtain ⟨⟨y0, y1, y2, y3⟩, y4, y5, y6, y7⟩ := box4 kN3_h.out
        go_wp2_with (fail)
        first
        | rw [← hW4]
        | skip
        clear hW4 y0 y1 y2 y3 y4 y5 y6 y7
        refine ((hJn_h.out).mono (fun e w' h => RetI.lenN h hPLN_h.out)).mono ?_
        rintro e W5 ⟨A5, c5, rfl, hI5, hF5, hb5⟩
        have hb35 := below_trans hb34_h.out hb5 hb34_h.out.size
        have kr5 := box_below s1_h.out hb35
        have kp5 := box_below kp3_h.out hb35
        have hO5 := hO3_h.out.below hb35
        have hz4 := hb34_h.out.size
        have hbo5 := below_trans hbo3_h.out hb35 hbo3_h.out.size
        have hF5o : ∀ q, q ∈ fpA A5 → wo.heap.size ≤ q ∧ q < W5.heap.size := fun q hq => ⟨by have h1 := hF5 q hq; have h2 := hbo3_h.out.size; omega, hI5.lt q hq⟩
        have hI5_h := lH hI5; have hF5o_h := lH hF5o; have kr5_h := lH kr5; have kp5_h := lH kp5; have hO5_h := lH hO5; have hbo5_h := lH hbo5; clear hI5 hF5o kr5 kp5 hO5 hbo5; clear hF5 hb5 hb35 hb34_h hJn_h kN3_h kp3_h hO3_h s1_h x1_h hz4 hbo3_h hI_h hO_h
        -- region 5: the relation's orthogonal
        go_wp2_with (fail)
        refine beginB (by kernel_rfl) (fun W6 hW6 => ?_)
        have hbw : Below W5.heap.size W5 W6 := by rw [hW6]; exact below_drew (Below.refl _ _)
        have kr6 := box_below kr5_h.out hbw
        have kp6 := box_below kp5_h.out hbw
        have hO6 := hO5_h.out.below hbw
        have hI6 := hI5_h.out.below hbw
        have hbo6 := below_trans hbo5_h.out hbw hbo5_h.out.size
        have hz56 := hbw.size
        have hRN : R.1 + R.2.1 = (N : Int) := by
         rw [hR_h.out, leafV_gen' hgen_h.out, hNk_h.out]
         exact hty_h.out.2.2.1
        have hR1 : 0 ≤ R.1 ∧ R.1 ≤ 1000 ∧ 0 ≤ R.2.1 ∧ R.2.1 ≤ 1000 := by
         have h := hty_h.out
         rw [hR_h.out, leafV_gen' hgen_h.out]
         show 0 ≤ (kindTy κ).1 ∧ _
         exact ⟨by omega, by omega, by show 0 ≤ (kindTy κ).2; omega, by show (kindTy κ).2 ≤ 1000; omega⟩
        have hSz := fun W' => relSize_any R.1 R.2.1 (.slice A2 n2 c2) rfl W' ⟨hR1.1, hR1.2.1⟩ hR1.2.2
        rw [hRN] at hSz
        obtain ⟨M, hM⟩ : ∃ M, M = perpM p N R.2.2 := ⟨_, rfl⟩
        have hRm : Mat p R.2.2.length N R.2.2 := by
         rw [hR_h.out, leafV_gen' hgen_h.out, hNk_h.out]
         exact (nullM_red hf_h.out _ _).1
        have hRl : R.2.2.length ≤ N := by
         rw [hR_h.out, leafV_gen' hgen_h.out, hNk_h.out]
         exact red_len (nullM_red hf_h.out _ _)
        have hMm : Mat p M.length N M := by rw [hM]; exact perpM_mat hf_h.out hRm
        have hMl : M.length ≤ N := by
         rw [hM, perpM_eq]
         exact red_len (redM_spec hf_h.out (perp_gen hf_h.out hRm).1).1
        obtain ⟨r, hr⟩ : ∃ r, r = M.length := ⟨_, rfl⟩
        have hOt := fun W' (hb : Below W6.heap.size W6 W') => orthogonal_any p N A2 c2 hs2 W' (hO6.rd.below hb) hf_h.out (by rw [← e2_h.out, show hs2.length = R.2.2.length by rw [e2_h.out, List.length_map]]; exact hRm) (by
         have h1 : hs2.length = R.2.2.length := by rw [e2_h.out, List.length_map]
         omega) (by omega)
        rw [← hn2_h.out, ← e2_h.out, ← hM] at hOt
        have hr4 : r ≤ 4 := by omega
        clear hW6 hR1 hRN hRl hMl; have kr6_h := lH kr6; have kp6_h := lH kp6; have hO6_h := lH hO6; have hI6_h := lH hI6; have hbo6_h := lH hbo6; have hz56_h := lH hz56; have hSz_h := lH hSz; have hM_h := lH hM; have hRm_h := lH hRm; have hMm_h := lH hMm; have hr_h := lH hr; have hOt_h := lH hOt; clear kr6 kp6 hO6 hI6 hbo6 hz56 hSz hM hRm hMm hr hOt; clear hbw kr5_h kp5_h hO5_h hI5_h hbo5_h
        refine tkH 0 ?_ rfl (Below.refl _ _) (fun W' hW' => ?_) ?_; rotate_left; · (obtain ⟨⟨y0, y1, y2⟩, y3, y4, y5⟩ := box3 (box_below kr6_h.out hW'); obtain ⟨z0, z1⟩ := bx1_d (box_below kp6_h.out hW'); clear hW'; go_simp; first | done | with_reducible rfl)
        simp only [Act.put, nS]
        refine tkH 1 ?_ rfl (Below.refl _ _) (fun W' hW' => ?_) ?_; rotate_left; · (obtain ⟨⟨y0, y1, y2⟩, y3, y4, y5⟩ := box3 (box_below kr6_h.out hW'); obtain ⟨z0, z1⟩ := bx1_d (box_below kp6_h.out hW'); clear hW'; go_simp; first | done | with_reducible rfl)
        simp only [Act.put, nS]
        refine tkH 2 ?_ rfl (Below.refl _ _) (fun W' hW' => ?_) ?_; rotate_left; · (obtain ⟨⟨y0, y1, y2⟩, y3, y4, y5⟩ := box3 (box_below kr6_h.out hW'); obtain ⟨z0, z1⟩ := bx1_d (box_below kp6_h.out hW'); clear hW'; go_simp; first | done | with_reducible rfl)
        simp only [Act.put, nS]
        refine tkH 3 ?_ rfl (Below.refl _ _) (fun W' hW' => ?_) ?_; rotate_left; · (obtain ⟨⟨y0, y1, y2⟩, y3, y4, y5⟩ := box3 (box_below kr6_h.out hW'); obtain ⟨z0, z1⟩ := bx1_d (box_below kp6_h.out hW'); clear hW'; go_simp; first | done | with_reducible rfl)
        simp only [Act.put, nS]
        refine tkH 7 ?_ rfl (Below.refl _ _) (fun W' hW' => ?_) ?_; rotate_left; · (obtain ⟨⟨y0, y1, y2⟩, y3, y4, y5⟩ := box3 (box_below kr6_h.out hW'); obtain ⟨z0, z1⟩ := bx1_d (box_below kp6_h.out hW'); clear hW'; go_simp; first | done | with_reducible rfl)
        simp only [Act.put, nS]
        refine' callH 4 (f := _) (args := _) rfl (by kernel_rfl) (by rfl) ?_ ?_; rotate_left 2; · (go_simp; first | done | with_reducible rfl | (constructor <;> with_reducible rfl))
        refine (hSz_h.out _).mono ?_
        rintro e W7 ⟨rfl, hb7⟩
        refine ⟨_, rfl, hb7, ?_⟩
        simp only [Act.put, nS]
        refine' callH 5 (f := _) (args := _) rfl (by kernel_rfl) (by rfl) ?_ ?_; rotate_left 2; · (go_simp; first | done | with_reducible rfl | (constructor <;> with_reducible rfl))
        refine ((hOt_h.out _ hb7).mono (fun e w' h => RetSS.lenN h hr_h.out.symm)).mono ?_
        rintro e W8 ⟨A8, c8, hs8, rfl, hP8, hOR8, hfr8, hb8⟩
        have hb68 := below_trans hb7 hb8 hb7.size
        refine ⟨_, rfl, hb68, ?_⟩
        simp only [Act.put, nS]
        refine tkH 6 ?_ rfl hb68 (fun W' hW' => ?_) ?_; rotate_left; · (skip; clear hW'; go_simp; first | done | with_reducible rfl)
        simp only [Act.put, nS]
        refine doneH (by kernel_rfl) ?_
        have hI8 := hI6_h.out.below hb68
        have hbo8 := below_trans hbo6_h.out hb68 hbo6_h.out.size
        have hz68 := hb68.size
        have hF8 : ∀ q, q ∈ fpA A8 ++ fpR hs8 → wo.heap.size ≤ q ∧ q < W8.heap.size := fun q hq => ⟨by have h1 := hfr8 q hq; have h2 := hb7.size; have h3 := hbo6_h.out.size; omega, hOR8.lt q hq⟩
        have hF5' : ∀ q, q ∈ fpA A5 → wo.heap.size ≤ q ∧ q < W8.heap.size := fun q hq => ⟨(hF5o_h.out q hq).1, by have h1 := (hF5o_h.out q hq).2; have h2 := hz56_h.out; omega⟩
        have hG8 := hG1_h.out.below hbo8
        have hJ8 := hJ_h.out _ _ _ _ hJ1_h.out hbo8
        have hT8 : ∀ b, T1 b → ¬ XEq w0 Bg Bp b ∧ b < wo.heap.size := hT1_h.out
        have hzo8 := hbo8.size
        have hr8 : hs8.length = r := by rw [hr_h.out, hP8, List.length_map]
        have hI8_h := lH hI8; have hbo8_h := lH hbo8; have hF8_h := lH hF8; have hF5'_h := lH hF5'; have hG8_h := lH hG8; have hJ8_h := lH hJ8; have hT8_h := lH hT8; have hzo8_h := lH hzo8; have hP8_h := lH hP8; have hOR8_h := lH hOR8; have hr8_h := lH hr8; clear hI8 hbo8 hF8 hF5' hG8 hJ8 hT8 hzo8 hP8 hOR8 hr8; clear hb7 hb8 hb68 hz68 hfr8 hF5o_h kr6_h kp6_h hO6_h hI6_h hbo6_h hz56_h hSz_h hOt_h
        go_wp2_with (fail)
        go_loopw [40] (fun iv wr => ∃ (i : Nat) (T2 : Nat → Prop), i ≤ r ∧ iv = .int .i64 i ∧ J (((g.2.1.take k).flatMap (edEqs p n)).length + i) T2 wr ∧ GEq w0 Bg Bp (.cells #[.int .i64 n, .slice (some ad) m c, .slice B ns b, .slice C nt d] tGr) p wr ∧ (∀ b, T2 b → ¬ XEq w0 Bg Bp b ∧ b < wr.heap.size) ∧ W8.heap.size ≤ wr.heap.size ∧ Keeps (fun b => b < wo.heap.size ∨ W8.heap.size ≤ b) W8 wr ∧ ∀ b, T2 b → b < wo.heap.size ∨ W8.heap.size ≤ b) (fun iv _ => r - (intOf iv).toNat)
        case atStart => exact ⟨0, T1, Nat.zero_le _, rfl, hJ8_h.out, hG8_h.out, fun b hb => ⟨(hT8_h.out b hb).1, by have h1 := (hT8_h.out b hb).2; have h2 := hzo8_h.out; omega⟩, Nat.le_refl _, Keeps.refl _ _, fun b hb => .inl (hT8_h.out b hb).2⟩
        case round =>
         clear hJ8_h hG8_h hJ1_h hG1_h hT1_h hT8_h
         obtain ⟨i, T2, hi, rfl, hJ2, hG2, hT2, hz2, hK2, hT2o⟩ := hrel
         obtain ⟨V7, rfl⟩ : ∃ x, x = wr := ⟨_, rfl⟩
         by_cases hli : i < r
         · have hI2 := hI8_h.out.keeps hK2 (fun q hq h => by have := hF5'_h.out q hq; omega)
           have hO2 := hOR8_h.out.keeps hK2 (fun q hq h => by have := hF8_h.out q hq; omega)
           obtain ⟨od, Bi, ci, row, rfl, hxi, hci, _, hIi⟩ := hO2.get (i := i) (by rw [hr8_h.out]; exact hli)
           have hrowM : M[i]? = some row := by rw [hP8_h.out, List.getElem?_map, hxi]; rfl
           obtain ⟨hrl, hrr⟩ := hMm_h.out.row row (List.mem_of_getElem? hrowM)
           have hliI : (i : Int) < (r : Int) := by omega
           obtain ⟨⟨q0, q1, q2, q3⟩, q4, q5, q6, q7⟩ := box4 hG2.g
           have hZ := zeros_any n V7 (by omega)
           rw [hrl] at hci
           have hIi' := hIi.rd
           clear hO2 hxi hIi; have hJ2_h := lH hJ2; have hG2_h := lH hG2; have hT2_h := lH hT2; have hz2_h := lH hz2; have hK2_h := lH hK2; have hT2o_h := lH hT2o; have hI2_h := lH hI2; have hrowM_h := lH hrowM; have hrr_h := lH hrr; have hrl_h := lH hrl; have hZ_h := lH hZ; have hIi'_h := lH hIi'; clear hJ2 hG2 hT2 hz2 hK2 hT2o hI2 hrowM hrr hrl hZ hIi'
           go_wp2_with (fail)
           clear q0 q1 q2 q3 q4 q5 q6 q7 hci
           refine ((hZ_h.out).mono (fun e w' h => RetI.lenN h (by simp : (List.replicate n (0 : Int)).length = n))).mono ?_
           rintro e V8 ⟨A7, c7, rfl, hI7, hF7, hb7⟩
           have hsl := sprTo_length p n PL row
           have hsr := sprTo_res (by omega : 0 < p) n PL row
           have hI70 : IS V8 A7 c7 (sprTo p n PL row 0) := hI7
           have hI2' := hI2_h.out.rd
           clear hI7; have hI70_h := lH hI70; have hF7_h := lH hF7; have hb7_h := lH hb7; have hsl_h := lH hsl; have hsr_h := lH hsr; have hI2'_h := lH hI2'; clear hI70 hF7 hb7 hsl hsr hI2'
           go_wp2_with (fail)
           go_loopw [49] (fun jv wr => ∃ q : Nat, q ≤ N ∧ jv = .int .i64 q ∧ IS wr A7 c7 (sprTo p n PL row q) ∧ Below V7.heap.size V7 wr) (fun jv _ => N - (intOf jv).toNat)
           case atStart => exact ⟨0, Nat.zero_le _, rfl, hI70_h.out, hb7_h.out⟩
           case round =>
            clear hI70_h hb7_h
            obtain ⟨q, hq, rfl, his, hbr⟩ := hrel
            obtain ⟨wq, rfl⟩ : ∃ x, x = wr := ⟨_, rfl⟩
            by_cases hlq : q < N
            · obtain ⟨ad5, x, rfl, hx, hcx⟩ := (hI2'_h.out.below hbr).at_ (j := q) (by rw [hPLN_h.out]; exact hlq)
              obtain ⟨bd5, y, rfl, hy, hcy⟩ := (hIi'_h.out.below hbr).at_ (j := q) (by rw [hrl_h.out]; exact hlq)
              obtain ⟨hx0, hxn⟩ := hPLw_h.out x (List.mem_of_getElem? hx)
              obtain ⟨j, rfl⟩ : ∃ j : Nat, x = (j : Int) := ⟨x.toNat, by omega⟩
              have hjn : j < n := by omega
              have hyb := hrr_h.out y (List.mem_of_getElem? hy)
              obtain ⟨V, hV⟩ : ∃ V, V = sprTo p n PL row q := ⟨_, rfl⟩
              have hVl : V.length = n := by rw [hV]; exact hsl_h.out q
              have hVr : Res p V := by rw [hV]; exact hsr_h.out q
              rw [← hV] at his
              obtain ⟨gd, u, rfl, hu, hblt, hcu, hfu⟩ := his.at_ (j := j) (by rw [hVl]; exact hjn)
              have hub := hVr u (List.mem_of_getElem? hu)
              have hstep : sprTo p n PL row (q + 1) = V.set j ((u + y) % p) := by
               have e1 : PL.getD q 0 = (j : Int) := by rw [List.getD_eq_getElem?_getD, hx]; rfl
               have e2 : row.getD q 0 = y := by rw [List.getD_eq_getElem?_getD, hy]; rfl
               have e3 : V.getD j 0 = u := by rw [List.getD_eq_getElem?_getD, hu]; rfl
               rw [sprTo, ← hV, e1, e2, Int.toNat_natCast, e3]
              have hset := (his.below (below_drewN (Below.refl wq.heap.size wq) 1)).set rfl ((u + y) % p) (j := j) (by rw [hVl]; exact hjn)
              rw [← hstep] at hset
              have hset : IS (wq.drew.setCell (gd.add j) (.int .i64 ((u + y) % p))) (some gd) c7 (sprTo p n PL row (q + 1)) := hset
              have hbd := below_trans hbr (below_drewN (Below.refl wq.heap.size wq) 1) hbr.size
              have hbs : Below V7.heap.size V7 (wq.drew.setCell (gd.add j) (.int .i64 ((u + y) % p))) := hbd.setCell (p := gd.add j) (by rw [block_of_add]; exact hF7_h.out _ (by simp)) (.int .i64 ((u + y) % p))
              have C1 := lH (stillC2 (mod_any p (u + y) wq.drew (by omega) (by omega) (by omega) (by omega)))
              have hkI : (q : Int) < (N : Int) := by omega
              have hjI : (j : Int) < (n : Int) := by omega
              have hfz := hfu j
              have hwr : IntKind.i64.wrap (u + y) = u + y := IntWalk.i64_in _ (by omega)
              obtain ⟨zp0, zp1⟩ := bx1_d (hG2_h.out.below hbr).p
              clear his hV hVl hVr hu hx hy hstep hbr hbd hfu hblt hx0 hxn hub hyb; have hset_h := lH hset; have hbs_h := lH hbs; clear hset hbs
              go_wp2_with (fail)
              refine wp_region_still_tail 14 (by kernel_rfl) (by kernel_rfl) ?_
              simp only [List.take_succ_cons, List.take_zero, List.drop_succ_cons, List.drop_zero]
              change wpStill _ _ wq.drew (fun a' => wpList _ _ _ _ a' wq.drew) _ _
              have d1 : wq.drew.cell? (gd.add j) = some (.int .i64 u) := hcu
              have d2 : wq.drew.cell? (bd5.add q) = some (.int .i64 y) := hcy
              have d3 : wq.drew.cell? ⟨Bp, 0, none⟩ = some (.int .i64 p) := zp0
              clear hcu hcy zp0 zp1
              repeat still_step
              still_call C1.out
              repeat still_step
              refine wpStill_nil ?_
              go_wp2_with (fail)
              go_roundw
              case rel => exact ⟨q + 1, by omega, by go_num, hset_h.out, hbs_h.out⟩
              case measure => simp [intOf]; omega
            · obtain rfl : q = N := by omega
              have hspr : sprTo p n PL row q = sprV p n PL row := by unfold sprV; rw [hPLN_h.out]
              rw [hspr] at his
              have hR22 : R.2.2 = nullM p (kdN κ) (leafEq p κ v) := by rw [hR_h.out, leafV_gen' hgen_h.out]
              have hedM : edEqs p n (κ, v, l', mm) = M.map (sprV p n PL) := by rw [edEqs_gen hgen_h.out, hM_h.out, hR22, hNk_h.out, hPL_h.out]
              have hidx : (imEqs p g)[((g.2.1.take k).flatMap (edEqs p n)).length + i]? = some (sprV p n PL row) := by
               unfold imEqs
               rw [hnn_h.out, flat_get hxe_h.out (by rw [hedM, List.length_map, ← hr_h.out]; exact hli), hedM, List.getElem?_map, hrowM_h.out]
               rfl
              have hJ9 := hJ_h.out _ _ _ _ hJ2_h.out hbr
              have hz79 := hbr.size
              have hE9 : EqE p g n w.heap.size (((g.2.1.take k).flatMap (edEqs p n)).length + i) wq T2 (.slice A7 n c7) := ⟨A7, c7, _, rfl, hidx, his, fun b hb => ⟨by have h1 := hF7_h.out b hb; have h2 := hz2_h.out; have h3 := hz1_h.out; have h4 := hzo8_h.out; omega, fun ht => by have h1 := (hT2_h.out b ht).2; have h2 := hF7_h.out b hb; omega⟩⟩
              obtain ⟨fn', tmps', assign', body', hy, hRd⟩ := hY_h.out _ T2 wq _ (List.getElem?_eq_some_iff.1 hidx).1 hJ9 hE9
              have hG9 := hG2_h.out.below hbr
              have hK9 : Keeps (fun b => b < wo.heap.size ∨ W8.heap.size ≤ b) W8 wq := hK2_h.out.trans (Keeps.of_below hbr _)
              have hz9 : W8.heap.size ≤ wq.heap.size := Nat.le_trans hz2_h.out hz79
              clear his hR22 hedM hidx hJ9 hE9 hbr hspr; have hRd_h := lH hRd; have hG9_h := lH hG9; have hK9_h := lH hK9; have hz9_h := lH hz9; have hz79_h := lH hz79; clear hRd hG9 hK9 hz9 hz79
              go_upto_region 14 with (fail)
              refine (wpIn_wide (n := 3)).1 ?_
              gi_wp2
              refine hRd_h.out.mono ?_
              rintro e W10 (⟨rfl, T', hJ', hkT, hT'⟩ | ⟨rfl, hJx⟩)
              · have hlow0 : ∀ b, V7.heap.size ≤ b → ¬ XEq w0 Bg Bp b := fun b h4 => by
                 rintro (h3 | h3 | h3)
                 · have := hG2_h.out.lo.size; omega
                 · have := box_lt hG2_h.out.g; omega
                 · have := box_lt hG2_h.out.p; omega
                have hG10 := hG9_h.out.keeps hkT (fun b hb => by
                 rcases hb with hb | hb
                 · exact (hT2_h.out b hb).1
                 · exact hlow0 b (hF7_h.out b hb))
                have hT10 : ∀ b, T' b → ¬ XEq w0 Bg Bp b ∧ b < W10.heap.size := fun b hb => by
                 obtain ⟨h1, h2⟩ := hT' b hb
                 refine ⟨?_, h2⟩
                 have hlow : V7.heap.size ≤ b → ¬ XEq w0 Bg Bp b := fun h4 => by
                  rintro (h3 | h3 | h3)
                  · have := hG2_h.out.lo.size; omega
                  · have := box_lt hG2_h.out.g; omega
                  · have := box_lt hG2_h.out.p; omega
                 rcases h1 with h1 | h1 | h1
                 · exact (hT2_h.out b h1).1
                 · exact hlow (by have := hz79_h.out; omega)
                 · exact hlow (hF7_h.out b h1)
                have hz10 : W8.heap.size ≤ W10.heap.size := Nat.le_trans hz9_h.out hkT.size
                have hK10 : Keeps (fun b => b < wo.heap.size ∨ W8.heap.size ≤ b) W8 W10 := hK9_h.out.trans (hkT.mono fun b _ hb => by rcases hb with hb | hb; exact hT2o_h.out b hb; have := hz2_h.out; have := hF7_h.out b hb; right; omega)
                have hTo10 : ∀ b, T' b → b < wo.heap.size ∨ W8.heap.size ≤ b := fun b hb => by
                 rcases (hT' b hb).1 with h1 | h1 | h1
                 · exact hT2o_h.out b h1
                 · have := hz9_h.out; right; omega
                 · have := hz2_h.out; have := hF7_h.out b h1; right; omega
                have hJ'_h := lH hJ'; have hG10_h := lH hG10; have hT10_h := lH hT10; have hz10_h := lH hz10; have hK10_h := lH hK10; have hTo10_h := lH hTo10; clear hJ' hG10 hT10 hz10 hK10 hTo10; clear hkT hT' hlow0
                gi_wp2
                go_wp2_with (fail)
                go_roundw
                case rel => exact ⟨i + 1, T', by omega, by go_num, hJ'_h.out, hG10_h.out, hT10_h.out, hz10_h.out, hK10_h.out, hTo10_h.out⟩
                case measure => simp [intOf]; omega
              · have hJx_h := lH hJx
                clear hJx
                gi_wp2
                go_wp2_with (fail)
                refine bodyPost_ret (results_none rfl _ _ _) rfl ?_
                exact ⟨⟨_, rfl⟩, .inr hJx_h.out⟩
         · obtain rfl : i = r := by omega
           have hlen := flat_len (f := edEqs p n) hxe_h.out
           rw [edEqs_gen hgen_h.out] at hlen
           have hMl : (perpM p (kdN κ) (nullM p (kdN κ) (leafEq p κ v))).length = i := by
            rw [hr_h.out, hM_h.out, hR_h.out, leafV_gen' hgen_h.out, hNk_h.out]
           rw [List.length_map, hMl] at hlen
           rw [← hlen] at hJ2
           have hz9 : w.heap.size ≤ V7.heap.size := by have := hz1_h.out; have := hzo8_h.out; omega
           clear hlen hMl; have hJ2_h := lH hJ2; have hG2_h := lH hG2; have hT2_h := lH hT2; have hz9_h := lH hz9; clear hJ2 hG2 hT2 hz9
           go_wp2_with (fail)
           go_roundw
           case rel => exact ⟨k + 1, T2, by omega, by go_num, hJ2_h.out, hG2_h.out, hT2_h.out, hz9_h.out⟩
           case measure => simp [intOf]; omega
  · obtain rfl : k = m := by omega
    have hfin : ((g.2.1.take k).flatMap (edEqs p n)).length = (imEqs p g).length := by
     rw [List.take_of_length_le (by rw [hgl_h.out]; exact Nat.le_refl _), hN_h.out]
    rw [hfin] at hJ1
    have hJ1_h := lH hJ1; clear hJ1
    go_wp2_with (fail)
    go_end0
    exact ⟨⟨_, rfl⟩, .inl ⟨T1, hJ1_h.out⟩⟩
set_option maxHeartbeats 1000000 in
theorem equations_any (p z : Int) (a b c : Value) (w : World) :
  Calls Tryz.prog 43 #[.agg #[.int .i64 z, a, b, c], .int .i64 p] w fun e w' => e = .returned (.func (.func 60) #[] #[.pointer (some ⟨w.heap.size, 0, none⟩), .pointer (some ⟨w.heap.size + 1, 0, none⟩)]) ∧ w' = (w.alloc (.cells #[.int .i64 z, a, b, c] tGr)).alloc (.cells #[.int .i64 p] 3) := by
 go_enter Tryz.func43, Tryz.ntmps43
 go_wp2_with (fail)
 go_ret
 exact ⟨rfl, rfl⟩
theorem EqE.kept {p : Int} {g : Gr} {n b0 k n0 : Nat} {A B : World} {T : Nat → Prop} {v : Value} (h : EqE p g n b0 k A T v) (hk : CellsKept n0 A B) : EqE p g n b0 k B T v := by
 obtain ⟨X, c, r, h1, h2, h3, h4⟩ := h
 exact ⟨X, c, r, h1, h2, hk.sl h3, h4⟩
theorem EqE.blk {p : Int} {g : Gr} {n b0 k : Nat} {A : World} {T : Nat → Prop} {v : Value} (h : EqE p g n b0 k A T v) : ∀ b, b ∈ blk v → ∃ o : Obj, A.heap[b]? = some o ∧ o.isCells = true := by
 obtain ⟨X, c, r, rfl, _, h3, _⟩ := h
 exact Sl.is_cells h3
theorem set1v {w : World} {B : Nat} {t : TypeId} {x : Value} (h : w.heap[B]? = some (.cells #[x] t)) (b : Value) : (w.setCell ⟨B, 0, none⟩ b).heap[B]? = some (.cells #[b] t) ∧ Keeps (· = B) w (w.setCell ⟨B, 0, none⟩ b) := by
 refine ⟨by simp [World.setCell, Array.getElem?_modify, h], ?_⟩
 exact (Keeps.refl (fun x => x = B) w).setCell (p := ⟨B, 0, none⟩) rfl _
end Go.Proofs.YtjompikdkhhlgaaGreatDoor
namespace Go.Proofs.YtjompikdkhhlgaaGreatDoor
open Go.RowKit
def digit (j : Nat) : UInt8 := UInt8.ofNat (48 + j % 10)
def mkGo : Nat → Nat → ByteArray → ByteArray
 | 0, _, o => o
 | f + 1, j, o => if j = 0 then o else mkGo f (j / 10) (⟨#[digit j]⟩ ++ o)
def mkT (k : Nat) : ByteArray := ⟨#[109]⟩ ++ mkGo k k ⟨#[]⟩
def mkN (k : Nat) : Nd := ((k : Int), (k : Int) + 1, mkT (k + 2))
def marksN (k n : Nat) : List Nd := (List.range n).map fun i => mkN (k + 3 * i)
@[simp] theorem marksN_length (k n : Nat) : (marksN k n).length = n := by simp [marksN]
def cntN (l : List Nd) : Nat := 3 * l.length
def OkN (l : List Nd) : Prop := l.length ≤ 1048576 ∧ True ∧ cntN l ≤ 3145728
theorem OkN.of {l : List Nd} (h : l.length ≤ 1048576) : OkN l := ⟨h, trivial, by unfold cntN; omega⟩
def HeTm (w : World) (v : Value) (l : List Nd) (k : Nat) (fp : List Nat) : Prop := ∃ A cap, v = .agg #[.slice A l.length cap] ∧ NS w A cap (marksN k l.length) ∧ fp = fpA A
section
variable {w w' : World} {v v' : Value} {l l' : List Nd} {k : Nat} {fp : List Nat} {K : Int}
theorem HeTm.below (h : HeTm w v l k fp) (hb : Below w.heap.size w w') : HeTm w' v l k fp := by obtain ⟨A, c, rfl, h, e⟩ := h; exact ⟨A, c, rfl, h.below hb, e⟩
theorem HeTm.keeps (h : HeTm w v l k fp) {S : Nat → Prop} (hk : Keeps S w w') (hS : ∀ b, b ∈ fp → ¬ S b) : HeTm w' v l k fp := by obtain ⟨A, c, rfl, h, rfl⟩ := h; exact ⟨A, c, rfl, h.keeps hk hS, rfl⟩
theorem RdTm.shape (h : RdTm w v l) : ∃ A n c, v = .agg #[.slice A n c] := by obtain ⟨A, c, rfl, _⟩ := h; exact ⟨A, _, c, rfl⟩
theorem OwTm.shape (h : OwTm w v l fp) : ∃ A n c, v = .agg #[.slice A n c] := h.rd.shape
end
end Go.Proofs.YtjompikdkhhlgaaGreatDoor
namespace Go.Proofs.YtjompikdkhhlgaaGreatDoor
open Go.RowKit Go.Shelf
attribute [local go_sem] Oper.semAt_some
theorem KeepsOthers.of_sl {w w' : World} {e : TypeId} {sz n cap : Nat} {A : Option Addr} {xs : List Value} (h : Sl w e sz A n cap xs) (hk : Keeps (· ∈ fpA A) w w') : KeepsOthers w w' := by
 refine ⟨hk.size, fun k o hk' ho => ?_⟩
 refine (hk.block k (Array.getElem?_eq_some_iff.1 hk').1 fun hm => ?_).trans hk'
 obtain ⟨o', h1, h2⟩ := Sl.is_cells h k hm
 rw [hk'] at h1
 cases h1
 rw [ho] at h2
 cases h2
theorem flatMap_le {α β : Type} {f : α → List β} {c : Nat} : ∀ {l : List α}, (∀ x, x ∈ l → (f x).length ≤ c) → (l.flatMap f).length ≤ c * l.length
 | [], _ => by simp
 | x :: l, h => by
   have h1 := h x (List.mem_cons_self ..)
   have h2 := flatMap_le (l := l) fun y hy => h y (List.mem_cons_of_mem _ hy)
   rw [List.flatMap_cons, List.length_append, List.length_cons, Nat.mul_succ]
   omega
theorem imEqs_le {p : Int} {g : Gr} (hg : dnAskB p g = true) : (imEqs p g).length ≤ 240 := by
 have hf := (DnOk.of hg).fld
 have hl := (DnOk.of hg).len
 have := flatMap_le (l := g.2.1) (f := edEqs p g.1.toNat) (c := 4) fun e he => by
  obtain ⟨hk, _, _⟩ := dnOk_edge hg he
  have hR := nullM_red hf (kdN e.1) (leafEq p e.1 e.2.1)
  have h4 := (kindTy_nn e.1).2.2.2
  obtain ⟨k, x, l, m⟩ := e
  rw [edEqs_gen (dnOk_edge hg he).2.1, List.length_map, perpM_eq]
  have := red_len (redM_spec hf (perp_gen hf hR.1).1).1
  exact Nat.le_trans this h4
 unfold imEqs
 omega
structure Gat (n0 B : Nat) (L : List (List Int)) (k : Nat) (T : Nat → Prop) (U : World) (A : Option Addr) (c : Nat) (gs : List Hd) : Prop where
 len : gs.length = k
 rows : gs.map (fun h : Hd => h.2.2) = L.take k
 box : U.heap[B]? = some (.cells #[.slice A k c] 52)
 sl : Sl U 23 1 A k c (gs.map Hd.val)
 is : ∀ h, h ∈ gs → IS U h.1 h.2.1 h.2.2
 apart : ∀ b, b ∈ fpR gs → ¬ b ∈ fpA A ∧ b ≠ B
 new : n0 ≤ B ∧ ∀ b, b ∈ fpA A → n0 ≤ b
 t : ∀ b, T b ↔ b = B ∨ b ∈ fpA A
section
variable {n0 B : Nat} {L : List (List Int)} {k : Nat} {T : Nat → Prop} {U V : World} {A : Option Addr} {c : Nat} {gs : List Hd}
theorem Gat.kept {m0 : Nat} (h : Gat n0 B L k T U A c gs) (hk : CellsKept m0 U V) : Gat n0 B L k T V A c gs :=
 ⟨h.len, h.rows, hk.same _ _ h.box rfl, hk.sl h.sl, fun x hx => hk.sl (h.is x hx), h.apart, h.new, h.t⟩
theorem Gat.rdr (h : Gat n0 B L k T U A c gs) : RdR U A gs := by
 refine ⟨fun i x hi => ?_, fun x hx => (h.is x hx).rd⟩
 obtain ⟨ad, hA, _, hc, _⟩ := h.sl.cell (j := i) (u := x.val) (by simp [hi])
 exact ⟨ad, hA, hc⟩
theorem Gat.step (h : Gat n0 B L k T U A c gs) {A1 : Option Addr} {c1 : Nat} {r : List Int} (hr : L[k]? = some r) (hi : IS U A1 c1 r) (hn : ∀ b, b ∈ fpA A1 → ¬ T b) {x : Obj} {w2 : World} {A2 : Option Addr} {c2 : Nat}
  (hs : Sl w2 23 1 A2 (k + 1) c2 (gs.map Hd.val ++ [.slice A1 r.length c1])) (hA : ∀ b, b ∈ fpA A2 → b ∈ fpA A ∨ (U.alloc x).heap.size ≤ b) (hk : Keeps (· ∈ fpA A) (U.alloc x) w2) :
  Gat n0 B L (k + 1) (fun b => b = B ∨ b ∈ fpA A2) (w2.setCell ⟨B, 0, none⟩ (.slice A2 (k + 1) c2)) A2 c2 (gs ++ [(A1, c1, r)]) ∧ Keeps T U (w2.setCell ⟨B, 0, none⟩ (.slice A2 (k + 1) c2)) ∧ KeepsOthers U (w2.setCell ⟨B, 0, none⟩ (.slice A2 (k + 1) c2)) ∧
   ∀ b, (b = B ∨ b ∈ fpA A2) → (T b ∨ U.heap.size ≤ b) ∧ b < (w2.setCell ⟨B, 0, none⟩ (.slice A2 (k + 1) c2)).heap.size := by
 have hal := below_alloc U x
 have hbl : B < U.heap.size := box_lt h.box
 have hAB : ∀ b, b ∈ fpA A → b ≠ B := h.sl.ne_cells h.box (by decide)
 have hBA : ¬ B ∈ fpA A := fun hb => hAB B hb rfl
 have hbox1 := box_below h.box hal
 have hbox2 := box_keeps hbox1 hk hBA
 have hs1 := (set1v hbox2 (.slice A2 (k + 1) c2))
 have hz : (U.alloc x).heap.size = U.heap.size + 1 := by simp
 have hA2B : ∀ b, b ∈ fpA A2 → b ≠ B := fun b hb e => by
  subst e
  rcases hA _ hb with h1 | h1
  · exact hBA h1
  · omega
 have hR : ∀ y, y ∈ gs → ∀ b, b ∈ fpA y.1 → ¬ b ∈ fpA A ∧ b ≠ B ∧ b < U.heap.size := fun y hy b hb => by
  have := h.apart b (mem_fpR.2 ⟨y, hy, hb⟩)
  exact ⟨this.1, this.2, (h.is y hy).lt b hb⟩
 have hR1 : ∀ b, b ∈ fpA A1 → ¬ b ∈ fpA A ∧ b ≠ B ∧ b < U.heap.size := fun b hb =>
  ⟨fun h1 => hn b hb ((h.t b).2 (.inr h1)), fun h1 => hn b hb ((h.t b).2 (.inl h1)), hi.lt b hb⟩
 have keepRow : ∀ {A0 : Option Addr} {c0 : Nat} {l : List Int}, IS U A0 c0 l → (∀ b, b ∈ fpA A0 → ¬ b ∈ fpA A ∧ b ≠ B ∧ b < U.heap.size) → IS (w2.setCell ⟨B, 0, none⟩ (.slice A2 (k + 1) c2)) A0 c0 l := fun h0 h1 =>
  ((h0.below hal).keeps hk fun b hb => (h1 b hb).1).keeps hs1.2 fun b hb => (h1 b hb).2.1
 have hn0 : ∀ b, b ∈ fpA A2 → n0 ≤ b := fun b hb => by
  rcases hA b hb with h1 | h1
  · exact h.new.2 b h1
  · have := h.new.1; omega
 have hlt2 : ∀ b, b ∈ fpA A2 → b < w2.heap.size := fun b hb => hs.lt b hb
 have hzz := hs1.2.size
 have hz2 := hk.size
 refine ⟨⟨by rw [List.length_append, h.len]; rfl, by rw [List.map_append, h.rows, List.take_add_one, hr]; rfl, hs1.1, ?_, ?_, ?_, ⟨h.new.1, hn0⟩, fun b => Iff.rfl⟩, ?_, ?_, ?_⟩
 · have := hs.keeps hs1.2 hA2B
   rwa [List.map_append]
 · intro y hy
   rcases List.mem_append.1 hy with hy | hy
   · exact keepRow (h.is y hy) (hR y hy)
   · obtain rfl := List.mem_singleton.1 hy
     exact keepRow hi hR1
 · intro b hb
   obtain ⟨y, hy, hb⟩ := mem_fpR.1 hb
   have h3 : ¬ b ∈ fpA A ∧ b ≠ B ∧ b < U.heap.size := by
    rcases List.mem_append.1 hy with hy | hy
    · exact hR y hy b hb
    · obtain rfl := List.mem_singleton.1 hy
      exact hR1 b hb
   refine ⟨fun h4 => ?_, h3.2.1⟩
   rcases hA b h4 with h5 | h5
   · exact h3.1 h5
   · omega
 · refine ⟨hs1.2.os.trans (hk.os.trans hal.os), hs1.2.tape.trans (hk.tape.trans hal.tape), hs1.2.output.trans (hk.output.trans hal.output), by omega, fun b hb hT => ?_⟩
   have h1 : b ≠ B := fun e => hT ((h.t b).2 (.inl e))
   have h2 : ¬ b ∈ fpA A := fun e => hT ((h.t b).2 (.inr e))
   rw [hs1.2.block b (by omega) h1, hk.block b (by omega) h2, hal.block b hb]
 · exact ((KeepsOthers.alloc U x).trans (KeepsOthers.of_sl (h.sl.below hal) hk)).trans (KeepsOthers.setCell _ _ _)
 · intro b hb
   rcases hb with rfl | hb
   · exact ⟨.inl ((h.t _).2 (.inl rfl)), by omega⟩
   · refine ⟨?_, by have := hlt2 b hb; omega⟩
     rcases hA b hb with h1 | h1
     · exact .inl ((h.t b).2 (.inr h1))
     · exact .inr (by omega)
end
end Go.Proofs.YtjompikdkhhlgaaGreatDoor
namespace Go.Proofs.YtjompikdkhhlgaaGreatDoor
open Go.RowKit Go.Shelf
attribute [local go_sem] Oper.semAt_some
section
variable {P : Program} {Q : Exit → Act → World → Prop} {md : Region.Mode} {l n : Nat}
theorem oper_wpIn {o : Oper} {a : Act} {w : World} {K : Act → World → Prop} (hnd : ∀ c, o.op ≠ .defer c) (h : o.wp P a w K Q) : o.wpIn (Fence.wide.inRound l) n P a w K Q := by
 refine ⟨fun _ _ => trivial, ?_⟩
 rw [Oper.semAt_plain _ _ _ hnd]
 unfold Oper.wp at h
 revert h
 generalize (execOp a.eval o).run P w = r
 intro h
 match r, h with
 | .ok (.value v) w', h => exact h
 | .ok .skip w', h => exact h
 | .ok (.defer d) w', h => exact h
 | .ok (.enter f args) w', h =>
   refine ⟨fun hd => (by cases hd), ?_⟩
   show CallsIn Fence.wide (n - 1) P f args w' _
   refine callsIn_wide.2 (Calls.mono h fun e w'' he => ?_)
   cases e <;> exact he
 | .ok (.row row args) w', h => exact ⟨fun hd => (by cases hd), fun c cs _ => let ⟨v, w'', r, s⟩ := h c cs; ⟨v, w'', r, stepsIn_wide.2 s⟩⟩
 | .halt (.panic v) w', h => exact h
def noDefer (ops : Array Oper) : Bool := ops.all fun o => match o.op with | .defer _ => false | _ => true
theorem noDefer_spec {ops : Array Oper} (h : noDefer ops = true) (i : Nat) (o : Oper) (ho : ops[i]? = some o) (c) : o.op ≠ .defer c := by
 intro e
 unfold noDefer at h
 rw [Array.all_eq_true] at h
 obtain ⟨hi, rfl⟩ := Array.getElem?_eq_some_iff.1 ho
 have := h i hi
 rw [e] at this
 cases this
theorem wpAnyIn_of {ops : Array Oper} (hnd : noDefer ops = true) (hlo : ¬ LetsOut Q) : ∀ (fuel : Nat) (L : Array Bool) (a : Act) (w : World), wpAny P md ops Q fuel L a w → wpAnyIn (Fence.wide.inRound l) n P md ops Q fuel L a w
 | 0, _, _, _, h => h
 | fuel + 1, L, a, w, h => by
   refine ⟨h.1, fun i hi => ?_⟩
   have h2 := wpOp_mono (fun a' w' h' => wpAnyIn_of hnd hlo fuel _ a' w' h') (h.2 i hi)
   unfold wpOp at h2
   unfold wpOpIn
   cases ho : ops[i]? with
   | none => rw [ho] at h2; exact h2
   | some o =>
     rw [ho] at h2
     simp only at h2 ⊢
     split
     · rename_i hw
       rw [if_pos hw] at h2
       rcases h2 with h2 | h2
       · exact oper_wpIn (noDefer_spec hnd i o ho) h2
       · exact absurd h2.2 hlo
     · rename_i hw
       rw [if_neg hw] at h2
       exact ⟨fun _ _ => trivial, h2⟩
theorem beginZwIn (z : Nat) (F : World → Prop) {id : Nat} {ops : List Oper} {a : Act} {w : World} (hm : P.follows .mixedOrders = true) (hnd : noDefer ops.toArray = true) (hlo : ¬ LetsOut Q)
  (h : ∀ W1, W1 = w.drew → wpAnyZ P .any ops.toArray Q z F ops.toArray.size (Array.replicate ops.toArray.size false) a W1) : (Code.region id ops.toArray true).wpIn (Fence.wide.inRound l) n P Q a w :=
 wpIn_region_any hm (wpAnyIn_of hnd hlo _ _ _ _ (wpAny_of_z _ _ _ _ (h _ rfl)))
end
def noP (Q : Exit → Act → World → Prop) : Exit → Act → World → Prop
 | .normal, a, w => Q .normal a w
 | _, _, _ => False
theorem noP_normal {Q : Exit → Act → World → Prop} {a : Act} {w : World} (h : Q .normal a w) : noP Q .normal a w := h
theorem beginZwN {P : Program} {Q : Exit → Act → World → Prop} (z : Nat) (F : World → Prop) {id : Nat} {ops : List Oper} {a : Act} {w : World} (hm : P.follows .mixedOrders = true)
  (h : ∀ W1, W1 = w.drew → wpAnyZ P .any ops.toArray (noP Q) z F ops.toArray.size (Array.replicate ops.toArray.size false) a W1) : (Code.region id ops.toArray true).wp P Q a w :=
 wp_mono (beginZw z F hm h) fun e a w h => by cases e <;> first | exact h | exact h.elim
structure Gat2 (n0 B N : Nat) (L : List (List Int)) (k : Nat) (T : Nat → Prop) (U : World) (A : Option Addr) (c : Nat) (gs : List Hd) : Prop where
 len : gs.length = k
 rows : gs.map (fun h : Hd => h.2.2) = L.take k
 box : U.heap[B]? = some (.cells #[.slice A k c] 52)
 own : OwR U A c gs
 new : n0 ≤ B ∧ ∀ b, b ∈ fpA A ++ fpR gs → n0 ≤ b
 t : ∀ b, T b ↔ b = B ∨ b ∈ fpA A ++ fpR gs
section
variable {n0 B N : Nat} {L : List (List Int)} {k : Nat} {T : Nat → Prop} {U V : World} {A : Option Addr} {c : Nat} {gs : List Hd}
theorem Gat2.kept {m0 : Nat} (h : Gat2 n0 B N L k T U A c gs) (hk : CellsKept m0 U V) : Gat2 n0 B N L k T V A c gs :=
 ⟨h.len, h.rows, hk.same _ _ h.box rfl, ⟨hk.sl h.own.sl, fun x hx => hk.sl (h.own.rows x hx), h.own.apart, h.own.outer⟩, h.new, h.t⟩
theorem box_ne_own {w : World} {A : Option Addr} {c b : Nat} {hs : List Hd} {cs : Array Value} (h : OwR w A c hs) (hb : w.heap[b]? = some (.cells cs 52)) : b ∉ fpA A ++ fpR hs := by
 intro hx
 rcases List.mem_append.1 hx with h1 | h1
 · exact h.sl.ne_cells hb (by decide) b h1 rfl
 · obtain ⟨y, hy, h2⟩ := mem_fpR.1 h1
   exact Sl.ne_cells (h.rows y hy) hb (by decide) b h2 rfl
theorem Gat2.step (h : Gat2 n0 B N L k T U A c gs) {r : List Int} (hr : L[k]? = some r) {S : Nat → Prop} {U2 : World} (hU : Keeps S U U2) (hS : ∀ b, S b → ¬ T b) (hSn : ∀ b, S b → n0 ≤ b) {A1 : Option Addr} {c1 : Nat} (hi : IS U2 A1 c1 r) (hn : ∀ b, b ∈ fpA A1 → S b ∨ U.heap.size ≤ b)
  {x : Obj} {w2 : World} {A2 : Option Addr} {c2 : Nat}
  (hs : Sl w2 23 1 A2 (k + 1) c2 (gs.map Hd.val ++ [.slice A1 r.length c1])) (hA : ∀ b, b ∈ fpA A2 → b ∈ fpA A ∨ (U2.alloc x).heap.size ≤ b) (hk : Keeps (· ∈ fpA A) (U2.alloc x) w2) :
  Gat2 n0 B N L (k + 1) (fun b => b = B ∨ b ∈ fpA A2 ++ fpR (gs ++ [(A1, c1, r)])) (w2.setCell ⟨B, 0, none⟩ (.slice A2 (k + 1) c2)) A2 c2 (gs ++ [(A1, c1, r)]) ∧ Keeps (fun b => T b ∨ S b) U (w2.setCell ⟨B, 0, none⟩ (.slice A2 (k + 1) c2)) ∧
   ∀ b, (b = B ∨ b ∈ fpA A2 ++ fpR (gs ++ [(A1, c1, r)])) → (T b ∨ U.heap.size ≤ b ∨ S b) ∧ b < (w2.setCell ⟨B, 0, none⟩ (.slice A2 (k + 1) c2)).heap.size := by
 have hTB : T B := (h.t B).2 (.inl rfl)
 have hBU : B < U.heap.size := box_lt h.box
 have hbox2 := box_keeps h.box hU fun hx => hS B hx hTB
 have hal := below_alloc U2 x
 have hown2 := (h.own.keeps hU fun b hb hx => hS b hx ((h.t b).2 (.inr hb))).below hal
 have hbox3 := box_below hbox2 hal
 have hBA : B ∉ fpA A := fun hb => box_ne_own h.own h.box (List.mem_append_left _ hb)
 have hbox4 := box_keeps hbox3 hk hBA
 have hs1 := set1v hbox4 (.slice A2 (k + 1) c2)
 have hz : (U2.alloc x).heap.size = U2.heap.size + 1 := by simp
 have hzU := hU.size
 have hz2 := hk.size
 have hz3 := hs1.2.size
 have hBlt : B < U2.heap.size := box_lt hbox2
 have hA2B : ∀ b, b ∈ fpA A2 → b ≠ B := fun b hb e => by
  subst e
  rcases hA _ hb with h1 | h1
  · exact hBA h1
  · omega
 -- the rows
 have hrowB : ∀ y, y ∈ gs → ∀ b, b ∈ fpA y.1 → b ≠ B ∧ b < U.heap.size ∧ b ∉ fpA A ∧ T b := fun y hy b hb => by
  have hm : b ∈ fpA A ++ fpR gs := List.mem_append_right _ (mem_fpR.2 ⟨y, hy, hb⟩)
  exact ⟨fun e => box_ne_own h.own h.box (e ▸ hm), (h.own.rows y hy).lt b hb, fun h1 => h.own.outer y hy b hb h1, (h.t b).2 (.inr hm)⟩
 have hnewB : ∀ b, b ∈ fpA A1 → b ≠ B ∧ b < U2.heap.size ∧ b ∉ fpA A ∧ ¬ T b := fun b hb => by
  have hlt := hi.lt b hb
  have hnT : ¬ T b := by
   rcases hn b hb with h1 | h1
   · exact hS b h1
   · intro hT
     rcases (h.t b).1 hT with e | e
     · omega
     · have := h.own.lt b e; omega
  exact ⟨fun e => hnT (e ▸ hTB), hlt, fun h1 => hnT ((h.t b).2 (.inr (List.mem_append_left _ h1))), hnT⟩
 have keepRow : ∀ {A0 : Option Addr} {c0 : Nat} {l : List Int}, IS U2 A0 c0 l → (∀ b, b ∈ fpA A0 → b ≠ B ∧ b ∉ fpA A) → IS (w2.setCell ⟨B, 0, none⟩ (.slice A2 (k + 1) c2)) A0 c0 l := fun h0 h1 =>
  ((h0.below hal).keeps hk fun b hb => (h1 b hb).2).keeps hs1.2 fun b hb => (h1 b hb).1
 have hrow2 : ∀ y, y ∈ gs → IS U2 y.1 y.2.1 y.2.2 := fun y hy => (h.own.rows y hy).keeps hU fun b hb hx => hS b hx (hrowB y hy b hb).2.2.2
 have hout : ∀ {b}, b ∈ fpA A2 → b ∉ fpA A → U2.heap.size ≤ b := fun {b} hb hna => by
  rcases hA b hb with h1 | h1
  · exact absurd h1 hna
  · omega
 have hn0 : ∀ b, b ∈ fpA A2 ++ fpR (gs ++ [(A1, c1, r)]) → (T b ∨ U.heap.size ≤ b ∨ S b) ∧ b < w2.heap.size := fun b hb => by
  rcases List.mem_append.1 hb with hb | hb
  · refine ⟨?_, hs.lt b hb⟩
    rcases hA b hb with h1 | h1
    · exact .inl ((h.t b).2 (.inr (List.mem_append_left _ h1)))
    · exact .inr (.inl (by omega))
  · rcases fpR_snoc gs (A1, c1, r) b hb with h1 | h1
    · obtain ⟨y, hy, h2⟩ := mem_fpR.1 h1
      have := hrowB y hy b h2
      exact ⟨.inl this.2.2.2, by omega⟩
    · have := hnewB b h1
      refine ⟨?_, by omega⟩
      rcases hn b h1 with h3 | h3
      · exact .inr (.inr h3)
      · exact .inr (.inl h3)
 refine ⟨⟨by rw [List.length_append, h.len]; rfl, by rw [List.map_append, h.rows, List.take_add_one, hr]; rfl, hs1.1, ⟨?_, ?_, ?_, ?_⟩, ⟨h.new.1, fun b hb => ?_⟩, fun b => Iff.rfl⟩, ?_, ?_⟩
 · have := hs.keeps hs1.2 hA2B
   rw [List.length_append, h.len, List.map_append]
   exact this
 · intro y hy
   rcases List.mem_append.1 hy with hy | hy
   · exact keepRow (hrow2 y hy) fun b hb => ⟨(hrowB y hy b hb).1, (hrowB y hy b hb).2.2.1⟩
   · obtain rfl := List.mem_singleton.1 hy
     exact keepRow hi fun b hb => ⟨(hnewB b hb).1, (hnewB b hb).2.2.1⟩
 · rw [List.pairwise_append]
   refine ⟨h.own.apart, List.pairwise_singleton _ _, fun y hy z hz b hb hb2 => ?_⟩
   obtain rfl := List.mem_singleton.1 hz
   exact (hnewB b hb2).2.2.2 (hrowB y hy b hb).2.2.2
 · intro y hy b hb hb2
   rcases List.mem_append.1 hy with hy | hy
   · have h3 := hrowB y hy b hb
     have := hout hb2 h3.2.2.1
     omega
   · obtain rfl := List.mem_singleton.1 hy
     have h3 := hnewB b hb
     have := hout hb2 h3.2.2.1
     omega
 · rcases (hn0 b hb).1 with h1 | h1 | h1
   · rcases (h.t b).1 h1 with h2 | h2
     · rw [h2]; exact h.new.1
     · exact h.new.2 b h2
   · have := h.new.1; omega
   · exact hSn b h1
 · refine ⟨hs1.2.os.trans (hk.os.trans (hal.os.trans hU.os)), hs1.2.tape.trans (hk.tape.trans (hal.tape.trans hU.tape)), hs1.2.output.trans (hk.output.trans (hal.output.trans hU.output)), by omega, fun b hb hT => ?_⟩
   have h1 : b ≠ B := fun e => hT (.inl (e ▸ hTB))
   have h2 : ¬ b ∈ fpA A := fun e => hT (.inl ((h.t b).2 (.inr (List.mem_append_left _ e))))
   rw [hs1.2.block b (by omega) h1, hk.block b (by omega) h2, hal.block b (by omega), hU.block b hb fun e => hT (.inr e)]
 · intro b hb
   rcases hb with rfl | hb
   · exact ⟨.inl hTB, by omega⟩
   · have := hn0 b hb
     exact ⟨this.1, by omega⟩
end
set_option maxRecDepth 100000 in
set_option maxHeartbeats 2000000 in
theorem fixed_any (n i : Nat) (a : Int) (w : World) (hn : n ≤ 1048575) (hi : i < n) :
  Calls Tryz.prog 44 #[.int .i64 (n : Int), .int .i64 (i : Int), .int .i64 a] w fun e w' => ∃ A c, e = .returned (.slice A (n + 1) c) ∧ IS w' A c (unitV n i ++ [a]) ∧ Fresh w.heap.size A ∧ Below w.heap.size w w' := by
 have hU := unit_any n i w (by omega) hi
 have hul : (unitV n i).length = n := by simp [unitV]
 have hU_h := lH hU; have hul_h := lH hul; clear hU hul
 go_enter Tryz.func44, Tryz.ntmps44
 go_wp2_with (fail)
 refine (hU_h.out).mono ?_
 rintro e w1 ⟨A, c, rfl, his, hf, hb⟩
 rw [hul_h.out]
 have hO : OI w w1 A c (unitV n i) := ⟨his, hf, hb⟩
 have hsl := fun (o : Obj) => oi_alloc hO hul_h.out o
 clear his hf hb; have hO_h := lH hO; have hsl_h := lH hsl; clear hO hsl
 go_wp2_with (at_builtin; refine wpList_append_Sl _ rfl _ _ _ rfl 3 Tryz.underlying23 info_int rfl (by omega) rfl (hsl_h.out (.cells #[.int .i64 a] 3)) rfl (news := [.int .i64 a]) rfl (Sl.rdc (Sl.laid w1 3 1 1 #[.int .i64 a] (by unfold maxLen; omega) rfl)) (by intro u hu; simp at hu; subst hu; rfl) (by unfold maxLen; omega) (by omega) ?_; intro A3 c3 w3 hs3 hA3 hk3)
 have hO2 := hO_h.out.snoc (x := a) (by rw [hul_h.out]) hs3 hA3 hk3
 clear hs3 hA3 hk3 hsl_h; have hO2_h := lH hO2; clear hO2
 go_ret
 exact ⟨A3, c3, rfl, hO2_h.out.is, hO2_h.out.new, hO2_h.out.below_⟩
def wvE (n : Nat) (Eq : List (List Int)) (ends : List Nat) (X : List Int) : List (List Int) := eqsM (wvC n Eq ends) (List.replicate Eq.length 0 ++ X)
theorem wvE_len {n : Nat} {Eq : List (List Int)} {ends : List Nat} {X : List Int} (h : X.length = ends.length) : (wvE n Eq ends X).length = Eq.length + ends.length := by
 unfold wvE eqsM wvC
 simp [h]
theorem wvE_lo {n k : Nat} {Eq : List (List Int)} {ends : List Nat} {X : List Int} {r : List Int} (h : Eq[k]? = some r) : (wvE n Eq ends X)[k]? = some (r ++ [0]) := by
 have hk := (List.getElem?_eq_some_iff.1 h).1
 unfold wvE eqsM wvC
 rw [List.getElem?_zipWith, List.getElem?_append_left hk, List.getElem?_append_left (by simpa using hk), h]
 simp [hk]
theorem wvE_hi {n q t : Nat} {a : Int} {Eq : List (List Int)} {ends : List Nat} {X : List Int} (h : ends[q]? = some t) (hx : X[q]? = some a) : (wvE n Eq ends X)[Eq.length + q]? = some (unitV n t ++ [a]) := by
 unfold wvE eqsM wvC
 rw [List.getElem?_zipWith, List.getElem?_append_right (by omega), List.getElem?_append_right (by simp), Nat.add_sub_cancel_left, List.getElem?_map, h, List.length_replicate, Nat.add_sub_cancel_left, hx]
 rfl
theorem OwR.not_def {w : World} {A : Option Addr} {c D : Nat} {hs : List Hd} {o : Obj} (h : OwR w A c hs) (hD : w.heap[D]? = some o) (ho : o.isCells = false) : D ∉ fpA A ++ fpR hs := by
 have key : ∀ {e : TypeId} {A : Option Addr} {sz n c : Nat} {xs : List Value}, Sl w e sz A n c xs → D ∉ fpA A := fun hs hm => by
  obtain ⟨o', h1, h2⟩ := Sl.is_cells hs D hm
  rw [hD] at h1
  cases h1
  rw [ho] at h2
  cases h2
 intro hm
 rcases List.mem_append.1 hm with h1 | h1
 · exact key h.sl h1
 · obtain ⟨y, hy, h2⟩ := mem_fpR.1 h1
   exact key (h.rows y hy) h2
theorem Gat2.not_def {n0 B N : Nat} {L : List (List Int)} {k : Nat} {T : Nat → Prop} {U : World} {A : Option Addr} {c D : Nat} {gs : List Hd} {o : Obj} (h : Gat2 n0 B N L k T U A c gs) (hD : U.heap[D]? = some o) (ho : o.isCells = false) : ¬ T D := fun hT => by
 rcases (h.t D).1 hT with e | e
 · have := h.box
   rw [← e, hD] at this
   cases this
   cases ho
 · exact h.own.not_def hD ho e
theorem Gat2.not_gr {n0 B N : Nat} {L : List (List Int)} {k : Nat} {T : Nat → Prop} {U : World} {A : Option Addr} {c b : Nat} {gs : List Hd} {cs : Array Value} (h : Gat2 n0 B N L k T U A c gs) (hb : U.heap[b]? = some (.cells cs tGr)) : ¬ T b := fun hT => by
 rcases (h.t b).1 hT with e | e
 · have := h.box
   rw [← e, hb] at this
   injection this with this
   injection this with _ h2 _
   exact absurd h2 (by decide)
 · rcases List.mem_append.1 e with h7 | h7
   · exact h.own.sl.ne_cells hb (by decide) _ h7 rfl
   · obtain ⟨y, hy, h8⟩ := mem_fpR.1 h7
     exact Sl.ne_cells (h.own.rows y hy) hb (by decide) _ h8 rfl
theorem Gat2.lo {n0 B N : Nat} {L : List (List Int)} {k : Nat} {T : Nat → Prop} {U : World} {A : Option Addr} {c b : Nat} {gs : List Hd} (h : Gat2 n0 B N L k T U A c gs) (hT : T b) : n0 ≤ b := by
 rcases (h.t b).1 hT with e | e
 · rw [e]; exact h.new.1
 · exact h.new.2 b e
theorem gi_below {w w' : World} (h : Below w.heap.size w w') : KeepsOthers w w' := ⟨h.size, fun k _ hk _ => (h.block k (Array.getElem?_eq_some_iff.1 hk).1).trans hk⟩
theorem list_ends (s : List Int) (h : ∀ x, x ∈ s → 0 ≤ x) {i : Nat} {x : Int} (hx : s[i]? = some x) : ∃ t : Nat, x = (t : Int) ∧ (s.map Int.toNat)[i]? = some t := by
 have := h x (List.mem_of_getElem? hx)
 exact ⟨x.toNat, by omega, by rw [List.getElem?_map, hx]; rfl⟩
set_option maxRecDepth 100000 in
set_option maxHeartbeats 8000000 in
theorem wireValues_any (p : Int) {v : Value} {g : Gr} (w : World) (h : RdGr w v g) (ok : OkG g) (hg : dnAskB p g = true) (AX AY : Option Addr) (cX cY : Nat) (x y : List Int) (hX : RdI w AX x) (hY : RdI w AY y) (hxl : x.length = g.2.2.1.length) (hyl : y.length = g.2.2.2.length) (hxr : Res p x) (hyr : Res p y) :
  Calls Tryz.prog 22 #[.int .i64 p, v, .slice AX g.2.2.1.length cX, .slice AY g.2.2.2.length cY] w fun e w' => ∃ A' c', e = .returned (.tuple #[.slice A' (wvS p g.1.toNat (nullM p g.1.toNat (dnEqs p g)) ((g.2.2.1 ++ g.2.2.2).map Int.toNat) (x ++ y)).1.length c', .bool (wvS p g.1.toNat (nullM p g.1.toNat (dnEqs p g)) ((g.2.2.1 ++ g.2.2.2).map Int.toNat) (x ++ y)).2]) ∧
   IS w' A' c' (wvS p g.1.toNat (nullM p g.1.toNat (dnEqs p g)) ((g.2.2.1 ++ g.2.2.2).map Int.toNat) (x ++ y)).1 ∧ Fresh w.heap.size A' ∧ Below w.heap.size w w' := by
 obtain ⟨A, c, hs, ⟨B, b, s⟩, ⟨C, d, t⟩, rfl, e1, e2, e3, hE, hRa, hRb⟩ := id h
 have a2 : g.2.2.1 = s := e2.symm
 have a3 : g.2.2.2 = t := e3.symm
 obtain ⟨z, hz⟩ : ∃ z, z = g.1 := ⟨_, rfl⟩
 obtain ⟨na, hna⟩ : ∃ na, na = hs.length := ⟨_, rfl⟩
 obtain ⟨nb, hnb⟩ : ∃ nb, nb = s.length := ⟨_, rfl⟩
 obtain ⟨nc, hnc⟩ : ∃ nc, nc = t.length := ⟨_, rfl⟩
 rw [a2, ← hnb] at hxl
 rw [a3, ← hnc] at hyl
 rw [a2, a3]
 simp only [← hz, ← hna, ← hnb, ← hnc] at h ⊢
 have hdo := DnOk.of hg
 have hfld := hdo.fld
 have hpb := fieldB_bounds hfld
 obtain ⟨W5, hW5, bW5, kg5, ko5, s5⟩ := alloc3 w (.cells #[.int .i64 z, .slice A na c, .slice B nb b, .slice C nc d] tGr) (.cells #[] 23) (.cells #[.slice (some ⟨w.heap.size + 1, 0, none⟩) 0 0] 52)
 have hsl0 : Sl W5 23 1 (some ⟨w.heap.size + 1, 0, none⟩) 0 0 [] := ⟨rfl, Nat.le_refl _, by unfold maxLen; omega, .inr ⟨_, 0, #[], rfl, ko5, by simp, by simp⟩⟩
 have hbx : (Obj.cells #[.int .i64 z, .slice A na c, .slice B nb b, .slice C nc d] tGr) = .cells #[.int .i64 g.1, .slice A hs.length c, .slice B nb b, .slice C nc d] tGr := by rw [hz, hna]
 have hSq := fun (V : World) (Bg Bp : Nat) (hG : GEq w Bg Bp (.cells #[.int .i64 z, .slice A na c, .slice B nb b, .slice C nc d] tGr) p V) => equations1_seq hg ok (z := g.1) rfl e1 hE (c := c) (ns := nb) (b := b) (nt := nc) (d := d) (B := B) (C := C) (w := V) (Bg := Bg) (Bp := Bp) (by rw [← hbx]; exact hG)
 obtain ⟨m, hm⟩ : ∃ m : Nat, z = (m : Int) := ⟨z.toNat, by have := hdo.lo; omega⟩
 have hm2 : g.1.toNat = m := by rw [← hz, hm, Int.toNat_natCast]
 have hm100 : m ≤ 100 := by have := hdo.hi; omega
 rw [hm2] at hSq
 have hzt : z.toNat = m := by rw [hm, Int.toNat_natCast]
 rw [hzt]
 obtain ⟨NQ, hN⟩ : ∃ N, N = (imEqs p g).length := ⟨_, rfl⟩
 have hmat := imEqs_mat (by omega : 0 < p) g
 rw [hm2] at hmat
 have hNQ := imEqs_le hg
 rw [← hN] at hNQ
 -- the plain law
 have hends0 : ∀ x, x ∈ s ++ t → 0 ≤ x ∧ x < (m : Int) := fun x hx => by have := hdo.ends x (by rw [a2, a3]; exact hx); omega
 obtain ⟨ends, hen⟩ : ∃ ends, ends = (s ++ t).map Int.toNat := ⟨_, rfl⟩
 have hendl : ends.length = nb + nc := by rw [hen, List.length_map, List.length_append, hnb, hnc]
 have hendlt : ∀ u, u ∈ ends → u < m := fun u hu => by
  rw [hen] at hu
  obtain ⟨x, hx, rfl⟩ := List.mem_map.1 hu
  have := hends0 x hx
  omega
 have hXl : (x ++ y).length = ends.length := by rw [List.length_append, hxl, hyl, hendl]
 have hXr : Res p (x ++ y) := Res.append hxr hyr
 have hnulls : ∀ x, NulL p m (imEqs p g) x ↔ NulL p m (dnEqs p g) x := fun x => by
  have := imEqs_nul hfld (fun e he => (dnOk_edge hg he).2) x
  rwa [hm2] at this
 have hdm := dnEqs_mat' (by omega : 0 < p) g
 rw [hm2] at hdm
 have hBr := nullM_red (p := p) hfld m (dnEqs p g)
 have hBg : GenL p m (NulL p m (imEqs p g)) (nullM p m (dnEqs p g)) := (nullM_genL hfld hdm).congr fun x => (hnulls x).symm
 have hD := wire_first hfld hmat hBr hBg hendlt hXl hXr
 rw [← hen]
 obtain ⟨D, hDe⟩ : ∃ D, D = wvS p m (nullM p m (dnEqs p g)) ends (x ++ y) := ⟨_, rfl⟩
 rw [← hDe] at hD ⊢
 obtain ⟨Q, hQ⟩ : ∃ Q, Q = imEqs p g := ⟨_, rfl⟩
 rw [← hQ] at hmat hN hD
 obtain ⟨E, hEd⟩ : ∃ E, E = wvE m Q ends (x ++ y) := ⟨_, rfl⟩
 change fsM p m (wvE m Q ends (x ++ y)) = D at hD
 rw [← hEd] at hD
 have hEl : E.length = NQ + (nb + nc) := by rw [hEd, wvE_len hXl, ← hN, hendl]
 have hElo : ∀ (k : Nat) (r : List Int), Q[k]? = some r → E[k]? = some (r ++ [0]) := fun k r hr => by rw [hEd]; exact wvE_lo hr
 have hEin : ∀ (i : Nat) (u a : Int), s[i]? = some u → x[i]? = some a → ∃ tn : Nat, u = (tn : Int) ∧ tn < m ∧ E[NQ + i]? = some (unitV m tn ++ [a]) := fun i u a hu ha => by
  have hi : i < nb := by rw [hnb]; exact (List.getElem?_eq_some_iff.1 hu).1
  have hu2 : (s ++ t)[i]? = some u := by rw [List.getElem?_append_left (by rw [← hnb]; exact hi)]; exact hu
  obtain ⟨tn, e, ht⟩ := list_ends (s ++ t) (fun x hx => (hends0 x hx).1) hu2
  rw [← hen] at ht
  refine ⟨tn, e, hendlt tn (List.mem_of_getElem? ht), ?_⟩
  rw [hEd, hN]
  exact wvE_hi ht (by rw [List.getElem?_append_left (by rw [hxl]; exact hi)]; exact ha)
 have hEout : ∀ (i : Nat) (u a : Int), t[i]? = some u → y[i]? = some a → ∃ tn : Nat, u = (tn : Int) ∧ tn < m ∧ E[NQ + nb + i]? = some (unitV m tn ++ [a]) := fun i u a hu ha => by
  have hu2 : (s ++ t)[nb + i]? = some u := by rw [List.getElem?_append_right (by omega), hnb, Nat.add_sub_cancel_left]; exact hu
  obtain ⟨tn, e, ht⟩ := list_ends (s ++ t) (fun x hx => (hends0 x hx).1) hu2
  rw [← hen] at ht
  refine ⟨tn, e, hendlt tn (List.mem_of_getElem? ht), ?_⟩
  rw [hEd, hN, Nat.add_assoc]
  exact wvE_hi ht (by rw [List.getElem?_append_right (by omega), hxl, Nat.add_sub_cancel_left]; exact ha)
 have hEm : Mat p E.length (m + 1) E := by rw [hEd]; exact eqsM_mat (wvC_mat (by omega) hmat) (by simp [wvC, hXl]) (Res.append (Res.replicate (by omega) _) hXr) (by omega)
 have hFs : ∀ (W' : World) (A3 : Option Addr) (c3 : Nat) (gs : List Hd), RdR W' A3 gs → gs.map (fun h : Hd => h.2.2) = E → gs.length = NQ + (nb + nc) → Calls Tryz.prog 45 #[.int .i64 p, .slice A3 (NQ + (nb + nc)) c3, .int .i64 (m : Int)] W' fun e w' => ∃ A' c', e = .returned (.tuple #[.slice A' D.1.length c', .bool D.2]) ∧ IS w' A' c' D.1 ∧ Fresh W'.heap.size A' ∧ Below W'.heap.size W' w' := fun W' A3 c3 gs h1 h2 h3 => by
  have := firstSolution_any p m A3 c3 gs W' h1 hfld (by rw [h2, h3, ← hEl]; exact hEm) (by have := hdo.li; have := hdo.lo'; rw [a2, ← hnb] at *; rw [a3, ← hnc] at *; omega) (by omega)
  rw [h2, hD, h3] at this
  exact this
 have hQE : ∀ (k n0 : Nat) (T : Nat → Prop) (U : World) (v : Value), EqE p g m n0 k U T v → ∃ A c r, v = .slice A m c ∧ Q[k]? = some r ∧ IS U A c r ∧ ∀ b, b ∈ fpA A → n0 ≤ b ∧ ¬ T b := fun k n0 T U v h => by
  obtain ⟨A, c, r, h1, h2, h3, h4⟩ := h
  exact ⟨A, c, r, h1, by rw [hQ]; exact h2, h3, h4⟩
 rw [← hQ, ← hN] at hSq
 have hnb12 : nb ≤ 12 := by rw [hnb, ← a2]; exact hdo.li
 have hnc12 : nc ≤ 12 := by rw [hnc, ← a3]; exact hdo.lo'
 subst hm
 clear hg ok h hna hE hbx hQ hz e1 e2 e3 hdo hD hEd hEm hBr hBg hnulls hdm hends0 hXl hXr hDe hm2 hzt hen hendl hendlt a2 a3 hxr hyr
 refine (callsIn_wide (n := 4)).1 ?_
 refine callsIn_of_wp_marks Tryz.func22 rfl trivial ?_ rfl
 simp only [Tryz.ntmps22, List.size_toArray, List.length_cons, List.length_nil, Nat.reduceAdd, Nat.reduceSub, Array.replicate_succ, Array.replicate_zero, List.push_toArray, List.append_toArray, List.nil_append, List.cons_append]
 refine wpIn_wide.2 ?_
 have s5_h := lH s5; have bW5_h := lH bW5; have kg5_h := lH kg5; have ko5_h := lH ko5; have hsl0_h := lH hsl0; have hSq_h := lH hSq; have hN_h := lH hN; have hmat_h := lH hmat; have hQE_h := lH hQE; have hNQ_h := lH hNQ; have hEl_h := lH hEl; have hElo_h := lH hElo; have hEin_h := lH hEin; have hEout_h := lH hEout; have hFs_h := lH hFs; have hX_h := lH hX; have hY_h := lH hY; have hxl_h := lH hxl; have hyl_h := lH hyl; have hnb_h := lH hnb; have hnc_h := lH hnc; have hRa_h := lH hRa; have hRb_h := lH hRb; clear s5 bW5 kg5 ko5 hsl0 hSq hN hmat hQE hNQ hEl hElo hEin hEout hFs hX hY hxl hyl hnb hnc hRa hRb
 go_upto_region 2 with (fail)
 rw [← hW5]
 clear hW5
 obtain ⟨⟨d0, d1, d2, d3⟩, f0, f1, f2, f3⟩ := box4 kg5_h.out
 go_wp2_with (fail)
 refine (equations_any p (m : Int) (.slice A na c) (.slice B nb b) (.slice C nc d) _).mono ?_
 rintro e we ⟨rfl, hwe⟩
 clear d0 d1 d2 d3 f0 f1 f2 f3
 obtain ⟨We, hWe, bWe, kge, kpe⟩ := alloc2 W5 (.cells #[.int .i64 (m : Int), .slice A na c, .slice B nb b, .slice C nc d] tGr) (.cells #[.int .i64 p] 3)
 obtain rfl : we = We := by rw [hwe, hWe]
 clear hwe hWe
 have hBe := below_trans bW5_h.out bWe bW5_h.out.size
 have hSeq := hSq_h.out we _ _ ⟨hBe, kge, kpe⟩
 have hze := bWe.size
 have hz5 := box_lt s5_h.out
 have kge5 := box_below kg5_h.out bWe
 have hG0 : Gat2 w.heap.size (w.heap.size + 1 + 1) (m + 1) E 0 (fun b => b = w.heap.size + 1 + 1 ∨ b = w.heap.size + 1) we (some ⟨w.heap.size + 1, 0, none⟩) 0 [] :=
  ⟨rfl, rfl, box_below s5_h.out bWe, ⟨hsl0_h.out.below bWe, fun h hh => (by cases hh), .nil, fun h hh => (by cases hh)⟩, ⟨by omega, fun b hb => (by simp [fpR] at hb; omega)⟩, fun b => (by simp [fpR])⟩
 have hSeq_h := lH hSeq; have hBe_h := lH hBe; have kge_h := lH kge; have kpe_h := lH kpe; have hG0_h := lH hG0; have kge5_h := lH kge5; clear hSeq hBe kge kpe hG0 kge5; clear bWe
 go_wp2_with (fail)
 have hle := hBe_h.out.size
 refine (wpIn_wide (n := 4)).1 ?_
 refine wpIn_rangeFuncT rfl (by omega) (gf := 60) (lb := #[.pointer (some ⟨W5.heap.size, 0, none⟩), .pointer (some ⟨W5.heap.size + 1, 0, none⟩)]) rfl trivial (enters_of Tryz.func60 (by kernel_rfl) rfl)
  hSeq_h.out rfl (fun k T U => Below w.heap.size w U ∧ U.heap[w.heap.size]? = some (.cells #[.int .i64 (m : Int), .slice A na c, .slice B nb b, .slice C nc d] tGr) ∧ ∃ A c gs, Gat2 w.heap.size (w.heap.size + 1 + 1) (m + 1) E k T U A c gs)
  (fun _ _ => False)
  (fun k T U V h hk => ⟨(hk.mono0 hle).below h.1 (Nat.le_refl _), hk.same _ _ h.2.1 rfl, by obtain ⟨A, c, gs, h⟩ := h.2.2; exact ⟨A, c, gs, h.kept hk⟩⟩)
  (fun c U V h hk => h)
  (fun k T U V v h hk => h.kept hk) (fun k T U v h => h.blk) (fun b => b = w.heap.size + 1 + 1 ∨ b = w.heap.size + 1) (fun b hb => ⟨fun hx => by rcases hx with hx | hx | hx <;> omega, by omega⟩) ⟨hBe_h.out, kge5_h.out, _, _, _, hG0_h.out⟩ ?round ?done ?stop
 case round =>
  intro l k T x' U0 hk hI0 hE0 K hK
  gi_wp2
  intro U hI hE
  clear hI0 hE0
  obtain ⟨hB, kgU, A1, c1, gs, hG⟩ := hI
  obtain ⟨A', c', r, rfl, hr, hIr, hIn⟩ := hQE_h.out _ _ _ _ _ hE
  obtain ⟨hrl, hrr⟩ := hmat_h.out.row r (List.mem_of_getElem? hr)
  clear hE hrr; have hB_h := lH hB; have hG_h := lH hG; have hr_h := lH hr; have hIr_h := lH hIr; have hIn_h := lH hIn; have hrl_h := lH hrl; have kgU_h := lH kgU; clear hB hG hr hIr hIn hrl kgU
  gi_wp2
  refine beginZwIn 6 (fun w' => w'.heap[w.heap.size + 1 + 1]? = some (.cells #[.slice A1 k c1] 52)) (by kernel_rfl) (by kernel_rfl) (by rintro ⟨_, _, h⟩; exact h) (fun W1 hW1 => ?_)
  have hb1 : Below U.heap.size U W1 := by rw [hW1]; exact below_drewN (Below.refl _ _) 1
  clear hW1
  have hF := box_below hG_h.out.box hb1
  have hIr1 := hIr_h.out.below hb1
  have hk240 : k ≤ 240 := by have := hNQ_h.out; omega
  have hsl1 : Sl (W1.alloc (.cells #[.int .i64 0] 3)) tInt 1 A' m c' (ints r) := by
   have := hIr1.below (below_alloc W1 (.cells #[.int .i64 0] 3))
   unfold IS at this
   rwa [hrl_h.out] at this
  have hF1 := box_below hF (below_alloc W1 (.cells #[.int .i64 0] 3))
  have hneA : w.heap.size + 1 + 1 ∉ fpA A' := fun hb => (hIn_h.out _ hb).2 ((hG_h.out.t _).2 (.inl rfl))
  have hbx1 := below_trans hb1 (below_alloc W1 (.cells #[.int .i64 0] 3)) hb1.size
  have hb1_h := lH hb1; have hF_h := lH hF; have hIr1_h := lH hIr1; have hsl1_h := lH hsl1; have hF1_h := lH hF1; have hneA_h := lH hneA; have hbx1_h := lH hbx1; clear hb1 hF hIr1 hsl1 hF1 hneA hbx1
  refine tkC 0 ?_ rfl hF_h.out (fun W' hW' => ?_) ?_; rotate_left; · (obtain ⟨x0, x1⟩ := bx1_d hW'; clear hW'; go_simp; first | done | with_reducible rfl)
  simp only [Act.put, nS]
  refine tkC 1 ?_ rfl hF_h.out (fun W' hW' => ?_) ?_; rotate_left; · (obtain ⟨x0, x1⟩ := bx1_d hW'; clear hW'; go_simp; first | done | with_reducible rfl)
  simp only [Act.put, nS]
  refine oneZ 2 rfl (by kernel_rfl) (by rfl) (fun K hK => ?_)
  go_simp
  refine hK _ _ (fun _ => hF1_h.out) ?_
  clear hK K
  refine appZ 3 rfl (by kernel_rfl) (by rfl) _ _ _ rfl tInt Tryz.underlying23 info_int rfl (by omega) rfl hsl1_h.out rfl (news := [.int .i64 0]) rfl (Sl.rdc (Sl.laid W1 3 1 1 #[.int .i64 0] (by unfold maxLen; omega) rfl)) (by intro u hu; simp at hu; subst hu; rfl) (by unfold maxLen; omega) (by omega) ?_
  intro A2 c2 w2 hs2 hA2 hk2 hrd2
  clear hrd2
  have hF2 := box_keeps hF1_h.out hk2 hneA_h.out
  have hr0l : (r ++ [0]).length = m + 1 := by rw [List.length_append, hrl_h.out]; rfl
  have hi2 : IS w2 A2 c2 (r ++ [0]) := by
   unfold IS
   rw [hr0l]
   have e : ints (r ++ [0]) = ints r ++ [.int .i64 0] := by simp [ints]
   rw [e]
   exact hs2
  have hU2 : Keeps (· ∈ fpA A') U w2 := (Keeps.of_below hbx1_h.out _).trans hk2
  have hn2 : ∀ b, b ∈ fpA A2 → b ∈ fpA A' ∨ U.heap.size ≤ b := fun b hb => by
   rcases hA2 b hb with h1 | h1
   · exact .inl h1
   · have := hbx1_h.out.size; right; omega
  have hko2 : KeepsOthers U w2 := (gi_below hbx1_h.out).trans (KeepsOthers.of_sl hsl1_h.out hk2)
  have hown2 := (hG_h.out.own.keeps hU2 fun b hb hx => (hIn_h.out b hx).2 ((hG_h.out.t b).2 (.inr hb))).below (below_alloc w2 (.cells #[.slice A2 (m + 1) c2] 23))
  have hsl2 : Sl (w2.alloc (.cells #[.slice A2 (m + 1) c2] 23)) 23 1 A1 k c1 (gs.map Hd.val) := by
   have := hown2.sl
   rwa [hG_h.out.len] at this
  have hF3 := box_below hF2 (below_alloc w2 (.cells #[.slice A2 (m + 1) c2] 23))
  clear hs2 hA2 hk2
  refine ⟨fun _ => hF2, ?_⟩
  have hF2_h := lH hF2; have hr0l_h := lH hr0l; have hi2_h := lH hi2; have hU2_h := lH hU2; have hn2_h := lH hn2; have hko2_h := lH hko2; have hsl2_h := lH hsl2; have hF3_h := lH hF3; have hown2_h := lH hown2; clear hF2 hr0l hi2 hU2 hn2 hko2 hsl2 hF3 hown2
  simp only [Act.put, nS]
  refine oneZ 4 rfl (by kernel_rfl) (by rfl) (fun K hK => ?_)
  go_simp
  refine hK _ _ (fun _ => hF3_h.out) ?_
  clear hK K
  refine appZ 5 rfl (by kernel_rfl) (by rfl) _ _ _ rfl 23 Tryz.underlying52 info_ints rfl (by omega) rfl hsl2_h.out rfl (news := [.slice A2 (m + 1) c2]) rfl (Sl.rdc (Sl.laid w2 23 1 1 #[.slice A2 (m + 1) c2] (by unfold maxLen; omega) rfl)) (by intro u hu; simp at hu; subst hu; rfl) (by unfold maxLen; omega) (by omega) ?_
  intro A6 c6 w6 hsA6 hA6 hkA6 hrdA6
  clear hrdA6
  have hbA1 : w.heap.size + 1 + 1 ∉ fpA A1 := fun hb => box_ne_own hG_h.out.own hG_h.out.box (List.mem_append_left _ hb)
  have hF6 := box_keeps hF3_h.out hkA6 hbA1
  have hst := hG_h.out.step (hElo_h.out _ _ hr_h.out) hU2_h.out (fun b hb => (hIn_h.out b hb).2) (fun b hb => by have := (hIn_h.out b hb).1; omega) hi2_h.out hn2_h.out (x := .cells #[.slice A2 (m + 1) c2] 23) (w2 := w6) (A2 := A6) (c2 := c6) (by rw [hr0l_h.out]; exact hsA6) hA6 hkA6
  have hko6 : KeepsOthers U w6 := (hko2_h.out.trans (KeepsOthers.alloc _ _)).trans (KeepsOthers.of_sl hsl2_h.out hkA6)
  obtain ⟨x0, x1⟩ := bx1_d hF6
  refine ⟨fun _ => hF6, ?_⟩
  clear hsA6 hA6 hkA6 hbA1; have hst_h := lH hst; have hko6_h := lH hko6; have hF6_h := lH hF6; clear hst hko6 hF6
  simp only [Act.put, nS]
  refine oneZ 6 rfl (by kernel_rfl) (by rfl) (fun K hK => ?_)
  go_simp
  refine hK _ _ (fun h => by cases h) ?_
  clear hK K
  refine doneZ (by kernel_rfl) ?_
  obtain ⟨h1, h2, h4⟩ := hst_h.out
  have hTlo : ∀ b, T b ∨ b ∈ fpA A' → w.heap.size + 1 ≤ b := fun b hb => by
   rcases hb with hb | hb
   · rcases (hG_h.out.t b).1 hb with h3 | h3
     · omega
     · have h5 := hG_h.out.new.2 b h3
       have h6 : b ≠ w.heap.size := fun e => by
        subst e
        have hg := kgU_h.out
        rcases List.mem_append.1 h3 with h7 | h7
        · exact hG_h.out.own.sl.ne_cells hg (by decide) _ h7 rfl
        · obtain ⟨y, hy, h8⟩ := mem_fpR.1 h7
          exact Sl.ne_cells (hG_h.out.own.rows y hy) hg (by decide) _ h8 rfl
       omega
   · have := (hIn_h.out b hb).1; omega
  refine ⟨hko6_h.out.trans (KeepsOthers.setCell _ _ _), _, ⟨?_, ?_, _, _, _, h1⟩, h2.mono (fun b _ hb => ?_), fun b hb => ?_⟩
  · exact below_keeps hB_h.out h2 hB_h.out.size fun b hb => by have := hTlo b hb; omega
  · exact box_keeps kgU_h.out h2 fun hb => by have := hTlo _ hb; omega
  · exact hb
  · exact h4 b hb
 case done =>
  intro Dn T U hI hD hDn
  obtain ⟨hB, kgU, A1, c1, gs, hG⟩ := hI
  rw [show NQ = NQ + 0 from rfl] at hG
  have hB_h := lH hB; have kgU_h := lH kgU; have hG_h := lH hG; have hD_h := lH hD; clear hB kgU hG hD
  obtain ⟨⟨g0, g1, g2, g3⟩, f0, f1, f2, f3⟩ := box4 kgU_h.out
  go_wp2_with (fail)
  clear g0 g1 g2 g3 f0 f1 f2 f3
  go_loopw [30] (fun iv wr => ∃ (i : Nat) (kk : Nat) (A1 : Option Addr) (c1 : Nat) (gs : List Hd) (T : Nat → Prop), i ≤ nb ∧ iv = .int .i64 i ∧ kk = NQ + i ∧ Gat2 w.heap.size (w.heap.size + 1 + 1) (m + 1) E kk T wr A1 c1 gs ∧ Below w.heap.size w wr ∧ wr.heap[w.heap.size]? = some (.cells #[.int .i64 (m : Int), .slice A na c, .slice B nb b, .slice C nc d] tGr) ∧ wr.heap[Dn]? = some (.deferred (some []))) (fun iv _ => nb - (intOf iv).toNat)
  case atStart => exact ⟨0, _, A1, c1, gs, T, Nat.zero_le _, rfl, rfl, hG_h.out, hB_h.out, kgU_h.out, hD_h.out⟩
  case round =>
   clear hG_h hB_h kgU_h hD_h
   obtain ⟨i, kk, A1, c1, gs, T, hi, rfl, hkk, hG, hB, kg, hD⟩ := hrel
   obtain ⟨wo, rfl⟩ : ∃ x, x = wr := ⟨_, rfl⟩
   obtain ⟨⟨g0, g1, g2, g3⟩, f0, f1, f2, f3⟩ := box4 kg
   by_cases hlt : i < nb
   · have hiI : (i : Int) < (nb : Int) := by omega
     obtain ⟨bd, u, hBd, hu, hcu0⟩ := hRa_h.out.at_ (j := i) (by rw [← hnb_h.out]; exact hlt)
     obtain ⟨xd, a, hAX, ha, hca0⟩ := hX_h.out.at_ (j := i) (by rw [hxl_h.out]; exact hlt)
     obtain ⟨tn, hun, htn, hEi⟩ := hEin_h.out i u a hu ha
     have hcu := (hB.cell (World.block_lt_of_cell? w _ hcu0)).trans hcu0
     subst hBd
     subst hAX
     subst hun
     have hC := fun W' => fixed_any m tn a W' (by omega) htn
     have hk300 : kk ≤ 300 := by have := hNQ_h.out; omega
     have hnG := hG.not_gr kg
     have hnD := hG.not_def hD rfl
     clear hu ha hcu0; have hG_h := lH hG; have hB_h := lH hB; have kg_h := lH kg; have hD_h := lH hD; have hEi_h := lH hEi; have hC_h := lH hC; have hnG_h := lH hnG; have hnD_h := lH hnD; have hkk_h := lH hkk; clear hG hB kg hD hEi hC hnG hnD hkk
     go_wp2_with (fail)
     clear g0 g1 g2 g3 f0 f1 f2 f3 hcu
     refine beginZwN 11 (fun w' => w'.heap[w.heap.size + 1 + 1]? = some (.cells #[.slice A1 kk c1] 52) ∧ w'.heap[w.heap.size]? = some (.cells #[.int .i64 (m : Int), .slice A na c, .slice (some bd) nb b, .slice C nc d] tGr) ∧ Below w.heap.size w w') (by kernel_rfl) (fun W1 hW1 => ?_)
     have hb1 : Below wo.heap.size wo W1 := by rw [hW1]; exact below_drewN (Below.refl _ _) 1
     clear hW1
     have hF := And.intro (box_below hG_h.out.box hb1) (And.intro (box_below kg_h.out hb1) (below_trans hB_h.out hb1 hB_h.out.size))
     have hb1_h := lH hb1; have hF_h := lH hF; clear hb1 hF
     refine tkC 0 ?_ rfl hF_h.out (fun W' hW' => ?_) ?_; rotate_left; · (obtain ⟨x0, x1⟩ := bx1_d hW'.1; obtain ⟨⟨g0, g1, g2, g3⟩, f0, f1, f2, f3⟩ := box4 hW'.2.1; have y0 := (hW'.2.2.cell (World.block_lt_of_cell? w _ hca0)).trans hca0; clear hW'; go_simp; first | done | with_reducible rfl)
     simp only [Act.put, nS]
     refine tkC 1 ?_ rfl hF_h.out (fun W' hW' => ?_) ?_; rotate_left; · (obtain ⟨x0, x1⟩ := bx1_d hW'.1; obtain ⟨⟨g0, g1, g2, g3⟩, f0, f1, f2, f3⟩ := box4 hW'.2.1; have y0 := (hW'.2.2.cell (World.block_lt_of_cell? w _ hca0)).trans hca0; clear hW'; go_simp; first | done | with_reducible rfl)
     simp only [Act.put, nS]
     refine tkC 2 ?_ rfl hF_h.out (fun W' hW' => ?_) ?_; rotate_left; · (obtain ⟨x0, x1⟩ := bx1_d hW'.1; obtain ⟨⟨g0, g1, g2, g3⟩, f0, f1, f2, f3⟩ := box4 hW'.2.1; have y0 := (hW'.2.2.cell (World.block_lt_of_cell? w _ hca0)).trans hca0; clear hW'; go_simp; first | done | with_reducible rfl)
     simp only [Act.put, nS]
     refine tkC 3 ?_ rfl hF_h.out (fun W' hW' => ?_) ?_; rotate_left; · (obtain ⟨x0, x1⟩ := bx1_d hW'.1; obtain ⟨⟨g0, g1, g2, g3⟩, f0, f1, f2, f3⟩ := box4 hW'.2.1; have y0 := (hW'.2.2.cell (World.block_lt_of_cell? w _ hca0)).trans hca0; clear hW'; go_simp; first | done | with_reducible rfl)
     simp only [Act.put, nS]
     refine tkC 4 ?_ rfl hF_h.out (fun W' hW' => ?_) ?_; rotate_left; · (obtain ⟨x0, x1⟩ := bx1_d hW'.1; obtain ⟨⟨g0, g1, g2, g3⟩, f0, f1, f2, f3⟩ := box4 hW'.2.1; have y0 := (hW'.2.2.cell (World.block_lt_of_cell? w _ hca0)).trans hca0; clear hW'; go_simp; first | done | with_reducible rfl)
     simp only [Act.put, nS]
     refine tkC 5 ?_ rfl hF_h.out (fun W' hW' => ?_) ?_; rotate_left; · (obtain ⟨x0, x1⟩ := bx1_d hW'.1; obtain ⟨⟨g0, g1, g2, g3⟩, f0, f1, f2, f3⟩ := box4 hW'.2.1; have y0 := (hW'.2.2.cell (World.block_lt_of_cell? w _ hca0)).trans hca0; clear hW'; go_simp; first | done | with_reducible rfl)
     simp only [Act.put, nS]
     refine tkC 6 ?_ rfl hF_h.out (fun W' hW' => ?_) ?_; rotate_left; · (obtain ⟨x0, x1⟩ := bx1_d hW'.1; obtain ⟨⟨g0, g1, g2, g3⟩, f0, f1, f2, f3⟩ := box4 hW'.2.1; have y0 := (hW'.2.2.cell (World.block_lt_of_cell? w _ hca0)).trans hca0; clear hW'; go_simp; first | done | with_reducible rfl)
     simp only [Act.put, nS]
     refine tkC 7 ?_ rfl hF_h.out (fun W' hW' => ?_) ?_; rotate_left; · (obtain ⟨x0, x1⟩ := bx1_d hW'.1; obtain ⟨⟨g0, g1, g2, g3⟩, f0, f1, f2, f3⟩ := box4 hW'.2.1; have y0 := (hW'.2.2.cell (World.block_lt_of_cell? w _ hca0)).trans hca0; clear hW'; go_simp; first | done | with_reducible rfl)
     simp only [Act.put, nS]
     refine callZ 8 (f := ?f1) (args := ?args1) rfl (by kernel_rfl) (by rfl) ?hrun1 ?hcall1
     case hrun1 => (go_simp; first | done | with_reducible rfl | (constructor <;> with_reducible rfl))
     case hcall1 =>
      refine (hC_h.out W1).mono ?_
      rintro e w5 ⟨A7, c7, rfl, hi7, hf7, hb7⟩
      have hb5 := below_trans hb1_h.out hb7 hb1_h.out.size
      have hF5 := box_below hG_h.out.box hb5
      have hF5' := And.intro hF5 (And.intro (box_below kg_h.out hb5) (below_trans hB_h.out hb5 hB_h.out.size))
      have hal := below_alloc w5 (.cells #[.slice A7 (m + 1) c7] 23)
      have hbal := below_trans hb5 hal hb5.size
      have hown2 := hG_h.out.own.below hbal
      have hsl2 : Sl (w5.alloc (.cells #[.slice A7 (m + 1) c7] 23)) 23 1 A1 kk c1 (gs.map Hd.val) := by
       have := hown2.sl
       rwa [hG_h.out.len] at this
      have hF6 := box_below hF5 hal
      have hF6' := And.intro hF6 (And.intro (box_below kg_h.out hbal) (below_trans hB_h.out hbal hB_h.out.size))
      have hr1l : (unitV m tn ++ [a]).length = m + 1 := by simp [unitV]
      have hz1 := hb1_h.out.size
      refine ⟨_, rfl, fun _ => hF5', ?_⟩
      have hi7_h := lH hi7; have hf7_h := lH hf7; have hb7_h := lH hb7; have hb5_h := lH hb5; have hF5_h := lH hF5; have hF5'_h := lH hF5'; have hal_h := lH hal; have hbal_h := lH hbal; have hown2_h := lH hown2; have hsl2_h := lH hsl2; have hF6_h := lH hF6; have hF6'_h := lH hF6'; have hr1l_h := lH hr1l; clear hi7 hf7 hb7 hb5 hF5 hF5' hal hbal hown2 hsl2 hF6 hF6' hr1l
      simp only [Act.put, nS]
      refine oneZ 9 rfl (by kernel_rfl) (by rfl) (fun K hK => ?_)
      go_simp
      refine hK _ _ (fun _ => hF6'_h.out) ?_
      clear hK K
      refine appZ 10 rfl (by kernel_rfl) (by rfl) _ _ _ rfl 23 Tryz.underlying52 info_ints rfl (by omega) rfl hsl2_h.out rfl (news := [.slice A7 (m + 1) c7]) rfl (Sl.rdc (Sl.laid w5 23 1 1 #[.slice A7 (m + 1) c7] (by unfold maxLen; omega) rfl)) (by intro u hu; simp at hu; subst hu; rfl) (by unfold maxLen; omega) (by omega) ?_
      intro A6 c6 w6 hsA6 hA6 hkA6 hrdA6
      clear hrdA6
      have hbA1 : w.heap.size + 1 + 1 ∉ fpA A1 := fun hb => box_ne_own hG_h.out.own hG_h.out.box (List.mem_append_left _ hb)
      have hF7 := box_keeps hF6_h.out hkA6 hbA1
      have hAlo : ∀ b, b ∈ fpA A1 → w.heap.size ≤ b := fun b hb => hG_h.out.new.2 b (List.mem_append_left _ hb)
      have hF7' := And.intro hF7 (And.intro (box_keeps hF6'_h.out.2.1 hkA6 (fun hb => hnG_h.out ((hG_h.out.t _).2 (.inr (List.mem_append_left _ hb))))) (below_keeps hF6'_h.out.2.2 hkA6 hF6'_h.out.2.2.size hAlo))
      have hU : Keeps (fun _ => False) wo w5 := Keeps.of_below hb5_h.out _
      have hst := hG_h.out.step (by rw [hkk_h.out]; exact hEi_h.out) hU (fun b hb => hb.elim) (fun b hb => hb.elim) hi7_h.out (fun b hb => by have := hf7_h.out b hb; right; omega) (x := .cells #[.slice A7 (m + 1) c7] 23) (w2 := w6) (A2 := A6) (c2 := c6) (by rw [hr1l_h.out]; exact hsA6) hA6 hkA6
      obtain ⟨x0, x1⟩ := bx1_d hF7
      refine ⟨fun _ => hF7', ?_⟩
      clear hsA6 hA6 hkA6 hbA1 hAlo hU hF7'; have hst_h := lH hst; have hF7_h := lH hF7; clear hst hF7
      simp only [Act.put, nS]
      refine oneZ 11 rfl (by kernel_rfl) (by rfl) (fun K hK => ?_)
      go_simp
      refine hK _ _ (fun h => by cases h) ?_
      clear hK K
      refine doneZ (by kernel_rfl) ?_
      refine noP_normal ?_
      go_wp2_with (fail)
      obtain ⟨h1, h2, _⟩ := hst_h.out
      have hB9 := below_keeps hB_h.out h2 hB_h.out.size (fun b hb => by rcases hb with hb | hb; exact hG_h.out.lo hb; exact hb.elim)
      have kg9 := box_keeps kg_h.out h2 (fun hb => by rcases hb with hb | hb; exact hnG_h.out hb; exact hb)
      have hD9 := box_keeps hD_h.out h2 (fun hb => by rcases hb with hb | hb; exact hnD_h.out hb; exact hb)
      have h1_h := lH h1; have hB9_h := lH hB9; have kg9_h := lH kg9; have hD9_h := lH hD9; clear h1 hB9 kg9 hD9; clear h2
      go_roundw
      case rel => exact ⟨i + 1, kk + 1, A6, c6, _, _, by omega, by go_num, by have := hkk_h.out; omega, h1_h.out, hB9_h.out, kg9_h.out, hD9_h.out⟩
      case measure => simp [intOf]; omega
   · obtain rfl : nb = i := by omega
     have hG_h := lH hG; have hB_h := lH hB; have kg_h := lH kg; have hD_h := lH hD; have hkk_h := lH hkk; clear hG hB kg hD hkk
     go_wp2_with (fail)
     clear g0 g1 g2 g3 f0 f1 f2 f3
     go_loopw [50] (fun iv wr => ∃ (i : Nat) (kk : Nat) (A1 : Option Addr) (c1 : Nat) (gs : List Hd) (T : Nat → Prop), i ≤ nc ∧ iv = .int .i64 i ∧ kk = NQ + nb + i ∧ Gat2 w.heap.size (w.heap.size + 1 + 1) (m + 1) E kk T wr A1 c1 gs ∧ Below w.heap.size w wr ∧ wr.heap[w.heap.size]? = some (.cells #[.int .i64 (m : Int), .slice A na c, .slice B nb b, .slice C nc d] tGr) ∧ wr.heap[Dn]? = some (.deferred (some []))) (fun iv _ => nc - (intOf iv).toNat)
     case atStart => exact ⟨0, _, A1, c1, gs, T, Nat.zero_le _, rfl, hkk_h.out, hG_h.out, hB_h.out, kg_h.out, hD_h.out⟩
     case round =>
      clear hG_h hB_h kg_h hD_h hkk_h; clear T gs A1 c1 kk
      obtain ⟨i, kk, A1, c1, gs, T, hi, rfl, hkk, hG, hB, kg, hD⟩ := hrel
      obtain ⟨wo, rfl⟩ : ∃ x, x = wr := ⟨_, rfl⟩
      obtain ⟨⟨g0, g1, g2, g3⟩, f0, f1, f2, f3⟩ := box4 kg
      by_cases hlt : i < nc
      · have hiI : (i : Int) < (nc : Int) := by omega
        obtain ⟨bd, u, hBd, hu, hcu0⟩ := hRb_h.out.at_ (j := i) (by rw [← hnc_h.out]; exact hlt)
        obtain ⟨xd, a, hAX, ha, hca0⟩ := hY_h.out.at_ (j := i) (by rw [hyl_h.out]; exact hlt)
        obtain ⟨tn, hun, htn, hEi⟩ := hEout_h.out i u a hu ha
        have hcu := (hB.cell (World.block_lt_of_cell? w _ hcu0)).trans hcu0
        subst hBd
        subst hAX
        subst hun
        have hC := fun W' => fixed_any m tn a W' (by omega) htn
        have hk300 : kk ≤ 300 := by have := hNQ_h.out; omega
        have hnG := hG.not_gr kg
        have hnD := hG.not_def hD rfl
        clear hu ha hcu0; have hG_h := lH hG; have hB_h := lH hB; have kg_h := lH kg; have hD_h := lH hD; have hEi_h := lH hEi; have hC_h := lH hC; have hnG_h := lH hnG; have hnD_h := lH hnD; have hkk_h := lH hkk; clear hG hB kg hD hEi hC hnG hnD hkk
        go_wp2_with (fail)
        clear g0 g1 g2 g3 f0 f1 f2 f3 hcu
        refine beginZwN 11 (fun w' => w'.heap[w.heap.size + 1 + 1]? = some (.cells #[.slice A1 kk c1] 52) ∧ w'.heap[w.heap.size]? = some (.cells #[.int .i64 (m : Int), .slice A na c, .slice B nb b, .slice (some bd) nc d] tGr) ∧ Below w.heap.size w w') (by kernel_rfl) (fun W1 hW1 => ?_)
        have hb1 : Below wo.heap.size wo W1 := by rw [hW1]; exact below_drewN (Below.refl _ _) 1
        clear hW1
        have hF := And.intro (box_below hG_h.out.box hb1) (And.intro (box_below kg_h.out hb1) (below_trans hB_h.out hb1 hB_h.out.size))
        have hb1_h := lH hb1; have hF_h := lH hF; clear hb1 hF
        refine tkC 0 ?_ rfl hF_h.out (fun W' hW' => ?_) ?_; rotate_left; · (obtain ⟨x0, x1⟩ := bx1_d hW'.1; obtain ⟨⟨g0, g1, g2, g3⟩, f0, f1, f2, f3⟩ := box4 hW'.2.1; have y0 := (hW'.2.2.cell (World.block_lt_of_cell? w _ hca0)).trans hca0; clear hW'; go_simp; first | done | with_reducible rfl)
        simp only [Act.put, nS]
        refine tkC 1 ?_ rfl hF_h.out (fun W' hW' => ?_) ?_; rotate_left; · (obtain ⟨x0, x1⟩ := bx1_d hW'.1; obtain ⟨⟨g0, g1, g2, g3⟩, f0, f1, f2, f3⟩ := box4 hW'.2.1; have y0 := (hW'.2.2.cell (World.block_lt_of_cell? w _ hca0)).trans hca0; clear hW'; go_simp; first | done | with_reducible rfl)
        simp only [Act.put, nS]
        refine tkC 2 ?_ rfl hF_h.out (fun W' hW' => ?_) ?_; rotate_left; · (obtain ⟨x0, x1⟩ := bx1_d hW'.1; obtain ⟨⟨g0, g1, g2, g3⟩, f0, f1, f2, f3⟩ := box4 hW'.2.1; have y0 := (hW'.2.2.cell (World.block_lt_of_cell? w _ hca0)).trans hca0; clear hW'; go_simp; first | done | with_reducible rfl)
        simp only [Act.put, nS]
        refine tkC 3 ?_ rfl hF_h.out (fun W' hW' => ?_) ?_; rotate_left; · (obtain ⟨x0, x1⟩ := bx1_d hW'.1; obtain ⟨⟨g0, g1, g2, g3⟩, f0, f1, f2, f3⟩ := box4 hW'.2.1; have y0 := (hW'.2.2.cell (World.block_lt_of_cell? w _ hca0)).trans hca0; clear hW'; go_simp; first | done | with_reducible rfl)
        simp only [Act.put, nS]
        refine tkC 4 ?_ rfl hF_h.out (fun W' hW' => ?_) ?_; rotate_left; · (obtain ⟨x0, x1⟩ := bx1_d hW'.1; obtain ⟨⟨g0, g1, g2, g3⟩, f0, f1, f2, f3⟩ := box4 hW'.2.1; have y0 := (hW'.2.2.cell (World.block_lt_of_cell? w _ hca0)).trans hca0; clear hW'; go_simp; first | done | with_reducible rfl)
        simp only [Act.put, nS]
        refine tkC 5 ?_ rfl hF_h.out (fun W' hW' => ?_) ?_; rotate_left; · (obtain ⟨x0, x1⟩ := bx1_d hW'.1; obtain ⟨⟨g0, g1, g2, g3⟩, f0, f1, f2, f3⟩ := box4 hW'.2.1; have y0 := (hW'.2.2.cell (World.block_lt_of_cell? w _ hca0)).trans hca0; clear hW'; go_simp; first | done | with_reducible rfl)
        simp only [Act.put, nS]
        refine tkC 6 ?_ rfl hF_h.out (fun W' hW' => ?_) ?_; rotate_left; · (obtain ⟨x0, x1⟩ := bx1_d hW'.1; obtain ⟨⟨g0, g1, g2, g3⟩, f0, f1, f2, f3⟩ := box4 hW'.2.1; have y0 := (hW'.2.2.cell (World.block_lt_of_cell? w _ hca0)).trans hca0; clear hW'; go_simp; first | done | with_reducible rfl)
        simp only [Act.put, nS]
        refine tkC 7 ?_ rfl hF_h.out (fun W' hW' => ?_) ?_; rotate_left; · (obtain ⟨x0, x1⟩ := bx1_d hW'.1; obtain ⟨⟨g0, g1, g2, g3⟩, f0, f1, f2, f3⟩ := box4 hW'.2.1; have y0 := (hW'.2.2.cell (World.block_lt_of_cell? w _ hca0)).trans hca0; clear hW'; go_simp; first | done | with_reducible rfl)
        simp only [Act.put, nS]
        refine callZ 8 (f := ?f2) (args := ?args2) rfl (by kernel_rfl) (by rfl) ?hrun2 ?hcall2
        case hrun2 => (go_simp; first | done | with_reducible rfl | (constructor <;> with_reducible rfl))
        case hcall2 =>
         refine (hC_h.out W1).mono ?_
         rintro e w5 ⟨A7, c7, rfl, hi7, hf7, hb7⟩
         have hb5 := below_trans hb1_h.out hb7 hb1_h.out.size
         have hF5 := box_below hG_h.out.box hb5
         have hF5' := And.intro hF5 (And.intro (box_below kg_h.out hb5) (below_trans hB_h.out hb5 hB_h.out.size))
         have hal := below_alloc w5 (.cells #[.slice A7 (m + 1) c7] 23)
         have hbal := below_trans hb5 hal hb5.size
         have hown2 := hG_h.out.own.below hbal
         have hsl2 : Sl (w5.alloc (.cells #[.slice A7 (m + 1) c7] 23)) 23 1 A1 kk c1 (gs.map Hd.val) := by
          have := hown2.sl
          rwa [hG_h.out.len] at this
         have hF6 := box_below hF5 hal
         have hF6' := And.intro hF6 (And.intro (box_below kg_h.out hbal) (below_trans hB_h.out hbal hB_h.out.size))
         have hr1l : (unitV m tn ++ [a]).length = m + 1 := by simp [unitV]
         have hz1 := hb1_h.out.size
         refine ⟨_, rfl, fun _ => hF5', ?_⟩
         have hi7_h := lH hi7; have hf7_h := lH hf7; have hb7_h := lH hb7; have hb5_h := lH hb5; have hF5_h := lH hF5; have hF5'_h := lH hF5'; have hal_h := lH hal; have hbal_h := lH hbal; have hown2_h := lH hown2; have hsl2_h := lH hsl2; have hF6_h := lH hF6; have hF6'_h := lH hF6'; have hr1l_h := lH hr1l; clear hi7 hf7 hb7 hb5 hF5 hF5' hal hbal hown2 hsl2 hF6 hF6' hr1l
         simp only [Act.put, nS]
         refine oneZ 9 rfl (by kernel_rfl) (by rfl) (fun K hK => ?_)
         go_simp
         refine hK _ _ (fun _ => hF6'_h.out) ?_
         clear hK K
         refine appZ 10 rfl (by kernel_rfl) (by rfl) _ _ _ rfl 23 Tryz.underlying52 info_ints rfl (by omega) rfl hsl2_h.out rfl (news := [.slice A7 (m + 1) c7]) rfl (Sl.rdc (Sl.laid w5 23 1 1 #[.slice A7 (m + 1) c7] (by unfold maxLen; omega) rfl)) (by intro u hu; simp at hu; subst hu; rfl) (by unfold maxLen; omega) (by omega) ?_
         intro A6 c6 w6 hsA6 hA6 hkA6 hrdA6
         clear hrdA6
         have hbA1 : w.heap.size + 1 + 1 ∉ fpA A1 := fun hb => box_ne_own hG_h.out.own hG_h.out.box (List.mem_append_left _ hb)
         have hF7 := box_keeps hF6_h.out hkA6 hbA1
         have hAlo : ∀ b, b ∈ fpA A1 → w.heap.size ≤ b := fun b hb => hG_h.out.new.2 b (List.mem_append_left _ hb)
         have hF7' := And.intro hF7 (And.intro (box_keeps hF6'_h.out.2.1 hkA6 (fun hb => hnG_h.out ((hG_h.out.t _).2 (.inr (List.mem_append_left _ hb))))) (below_keeps hF6'_h.out.2.2 hkA6 hF6'_h.out.2.2.size hAlo))
         have hU : Keeps (fun _ => False) wo w5 := Keeps.of_below hb5_h.out _
         have hst := hG_h.out.step (by rw [hkk_h.out]; exact hEi_h.out) hU (fun b hb => hb.elim) (fun b hb => hb.elim) hi7_h.out (fun b hb => by have := hf7_h.out b hb; right; omega) (x := .cells #[.slice A7 (m + 1) c7] 23) (w2 := w6) (A2 := A6) (c2 := c6) (by rw [hr1l_h.out]; exact hsA6) hA6 hkA6
         obtain ⟨x0, x1⟩ := bx1_d hF7
         refine ⟨fun _ => hF7', ?_⟩
         clear hsA6 hA6 hkA6 hbA1 hAlo hU hF7'; have hst_h := lH hst; have hF7_h := lH hF7; clear hst hF7
         simp only [Act.put, nS]
         refine oneZ 11 rfl (by kernel_rfl) (by rfl) (fun K hK => ?_)
         go_simp
         refine hK _ _ (fun h => by cases h) ?_
         clear hK K
         refine doneZ (by kernel_rfl) ?_
         refine noP_normal ?_
         go_wp2_with (fail)
         obtain ⟨h1, h2, _⟩ := hst_h.out
         have hB9 := below_keeps hB_h.out h2 hB_h.out.size (fun b hb => by rcases hb with hb | hb; exact hG_h.out.lo hb; exact hb.elim)
         have kg9 := box_keeps kg_h.out h2 (fun hb => by rcases hb with hb | hb; exact hnG_h.out hb; exact hb)
         have hD9 := box_keeps hD_h.out h2 (fun hb => by rcases hb with hb | hb; exact hnD_h.out hb; exact hb)
         have h1_h := lH h1; have hB9_h := lH hB9; have kg9_h := lH kg9; have hD9_h := lH hD9; clear h1 hB9 kg9 hD9; clear h2
         go_roundw
         case rel => exact ⟨i + 1, kk + 1, A6, c6, _, _, by omega, by go_num, by have := hkk_h.out; omega, h1_h.out, hB9_h.out, kg9_h.out, hD9_h.out⟩
         case measure => simp [intOf]; omega
      · obtain rfl : nc = i := by omega
        have hkk2 : kk = NQ + (nb + nc) := by omega
        subst hkk2
        have hrw : gs.map (fun h : Hd => h.2.2) = E := by rw [hG.rows]; exact List.take_of_length_le (by rw [hEl_h.out]; exact Nat.le_refl _)
        have hC := hFs_h.out wo A1 c1 gs hG.own.rd hrw hG.len
        obtain ⟨x0, x1⟩ := bx1_d hG.box
        have hlo := hB.size
        clear hG hkk hrw; have hB_h := lH hB; have kg_h := lH kg; have hD_h := lH hD; have hC_h := lH hC; clear hB kg hD hC
        go_wp2_with (fail)
        refine (hC_h.out).mono ?_
        rintro e w9 ⟨A9, c9, rfl, hi9, hf9, hb9⟩
        have hB9 := below_trans hB_h.out hb9 hB_h.out.size
        have hD9 := box_below hD_h.out hb9
        have hCK : CellsKept we.heap.size w9 (w9.putObj Dn (.deferred none)) := CellsKept.putObj (n0 := we.heap.size) (.deferred none) hD9 rfl hDn
        have hi9' := hCK.sl hi9
        have hBf := (hCK.mono0 hle).below hB9 (Nat.le_refl _)
        clear hb9; have hD9_h := lH hD9; have hBf_h := lH hBf; have hi9'_h := lH hi9'; have hf9_h := lH hf9; clear hD9 hBf hi9' hf9
        go_wp2_with (fail)
        refine postM_mark (v := .tuple #[.slice A9 D.1.length c9, .bool D.2]) rfl hD9_h.out ?_ ⟨A9, c9, rfl, hi9'_h.out, fun b hb => by have := hf9_h.out b hb; omega, hBf_h.out⟩
        simp [results, Tryz.results22, go_sem]
 case stop =>
  intro D c U hIx
  exact hIx.elim
end Go.Proofs.YtjompikdkhhlgaaGreatDoor
namespace Go.Proofs.YtjompikdkhhlgaaGreatDoor
open Go.RowKit Go.Shelf
def wvR (p : Int) (g : Gr) (x y : List Int) : List Int × Bool :=
 if dnAskB p g && ((decide ((x.length : Int) = g.2.2.1.length) && inB 0 (p - 1) x) && (decide ((y.length : Int) = g.2.2.2.length) && inB 0 (p - 1) y)) then
  wvS p g.1.toNat (nullM p g.1.toNat (dnEqs p g)) ((g.2.2.1 ++ g.2.2.2).map Int.toNat) (x ++ y) else ([], false)
theorem wvS_len {p : Int} (hf : fieldB p = true) {n : Nat} {B : List (List Int)} {ends : List Nat} {X : List Int} (_hB : Mat p B.length n B) : (wvS p n B ends X).1.length ≤ n := by
 unfold wvS
 split
 · have hpb := fieldB_bounds hf
   have hF := free_mat (p := p) (n := n) (B := B) (by omega) (nullM p B.length (transM (B.map (atV ends)) ends.length))
   have hK := (redM_spec hf hF).1
   have := (ls_inv (by omega : 0 < p) hK (y := cmbTo p n (slvM p B.length ends.length (B.map (atV ends)) X).1 B B.length) (cmbTo_length _ _ _ _ _) (cmbTo_res (by omega) _ _ _ _) _ (Nat.le_refl _)).1
   show (lsTo p (wvK p n B ends) _ (wvK p n B ends).length).length ≤ n
   unfold wvK
   rw [this]
   exact Nat.le_refl _
 · simp
theorem wvR_le (p : Int) (g : Gr) (x y : List Int) : (wvR p g x y).1.length ≤ 1048576 := by
 unfold wvR
 split
 · rename_i h
   simp only [Bool.and_eq_true] at h
   have hd := DnOk.of h.1
   have := wvS_len hd.fld (X := x ++ y) (ends := (g.2.2.1 ++ g.2.2.2).map Int.toNat) (nullM_red (p := p) hd.fld g.1.toNat (dnEqs p g)).1
   have := hd.hi
   have := hd.lo
   omega
 · simp
set_option maxRecDepth 100000 in
set_option maxHeartbeats 4000000 in
theorem iWireValues_law (p : Int) {v vx vy : Value} {g : Gr} {x y : List Int} {w : World} (h : RdGr w v g) (hx : RdIV w vx x) (hy : RdIV w vy y) (ok : OkG g) (okx : x.length ≤ 1048576) (oky : y.length ≤ 1048576) (hT : Tab w) :
  Calls Tryz.prog 8 #[.int .i64 p, v, vx, vy] w fun e w' => ∃ v' fp', e = .returned (.tuple #[v', .bool (wvR p g x y).2]) ∧ OwI w' v' (wvR p g x y).1 fp' ∧ FreshL w.heap.size fp' ∧ Below w.heap.size w w' := by
 obtain ⟨X, cx, rfl, hX⟩ := hx
 obtain ⟨Y, cy, rfl, hY⟩ := hy
 obtain ⟨A, c, hs, ⟨B, b, s⟩, ⟨C, d, t⟩, rfl, e1, e2, e3, hE, hRa, hRb⟩ := id h
 have a2 : g.2.2.1 = s := e2.symm
 have a3 : g.2.2.2 = t := e3.symm
 obtain ⟨z, hz⟩ : ∃ z, z = g.1 := ⟨_, rfl⟩
 obtain ⟨na, hna⟩ : ∃ na, na = hs.length := ⟨_, rfl⟩
 obtain ⟨nb, hnb⟩ : ∃ nb, nb = s.length := ⟨_, rfl⟩
 obtain ⟨nc, hnc⟩ : ∃ nc, nc = t.length := ⟨_, rfl⟩
 simp only [← hz, ← hna, ← hnb, ← hnc] at h ⊢
 obtain ⟨qx, hqx⟩ : ∃ m, m = x.length := ⟨_, rfl⟩
 obtain ⟨qy, hqy⟩ : ∃ m, m = y.length := ⟨_, rfl⟩
 rw [← hqx, ← hqy]
 obtain ⟨W, hW, bW, k0⟩ := (⟨_, rfl, below_alloc _ _, heap_alloc_new _ _⟩ : ∃ W, W = w.alloc (.cells #[.int .i64 z, .slice A na c, .slice B nb b, .slice C nc d] tGr) ∧ Below w.heap.size w W ∧ W.heap[w.heap.size]? = some (.cells #[.int .i64 z, .slice A na c, .slice B nb b, .slice C nc d] tGr))
 have hA := gStatic_any p W (h.below bW) ok (hT.below bW hT.lt)
 obtain ⟨D, hD⟩ : ∃ D, D = wvR p g x y := ⟨_, rfl⟩
 rw [← hD]
 unfold wvR at hD
 rw [a2, a3, ← hqx, ← hqy, ← hnb, ← hnc] at hD
 by_cases hg : dnAskB p g = true
 case neg =>
  have hg' : dnAskB p g = false := by simpa using hg
  rw [hg', Bool.false_and, if_neg (by simp)] at hD
  rw [hg'] at hA
  subst hD
  clear hg hg' ok okx oky h hX hY hz hqx hqy hna hnb hnc hE hRa hRb e1 e2 e3 a2 a3 hT; have hA_h := lH hA; have k0_h := lH k0; have bW_h := lH bW; clear hA k0 bW
  go_enter Tryz.func8, Tryz.ntmps8
  go_upto_region 1 with (fail)
  rw [← hW]
  clear hW
  obtain ⟨⟨d0, d1, d2, d3⟩, f0, f1, f2, f3⟩ := box4 k0_h.out
  go_wp2_with (fail)
  refine (hA_h.out).mono ?_
  rintro e w1 ⟨rfl, hb1⟩
  have hB1 := below_trans bW_h.out hb1 bW_h.out.size
  clear d0 d1 d2 d3 f0 f1 f2 f3 hb1; have hB1_h := lH hB1; clear hB1
  go_wp2_with (fail)
  go_ret2
  exact ⟨_, [], rfl, ⟨none, 0, rfl, (show IS _ none 0 [] from Sl.nil _ _ _), by simp⟩, FreshL.nil _, hB1_h.out⟩
 have hdo := DnOk.of hg
 have hpb := fieldB_bounds hdo.fld
 rw [hg, Bool.true_and] at hD
 rw [hg] at hA
 have hVx := fun W' (hb : Below w.heap.size w W') => isVector_any p X cx x nb W' (hX.below hb) (by omega)
 have hVy := fun W' (hb : Below w.heap.size w W') => isVector_any p Y cy y nc W' (hY.below hb) (by omega)
 simp only [← hqx] at hVx
 simp only [← hqy] at hVy
 by_cases hv : (decide ((qx : Int) = (nb : Int)) && inB 0 (p - 1) x) = true
 case neg =>
  have hv' : (decide ((qx : Int) = (nb : Int)) && inB 0 (p - 1) x) = false := by simpa using hv
  rw [hv', Bool.false_and, if_neg (by simp)] at hD
  simp only [hv'] at hVx
  subst hD
  clear hg ok okx oky h hX hY hz hqx hqy hna hnb hnc hE hRa hRb e1 e2 e3 a2 a3 hT hv hv' hdo hVy; have hA_h := lH hA; have k0_h := lH k0; have bW_h := lH bW; have hVx_h := lH hVx; clear hA k0 bW hVx
  go_enter Tryz.func8, Tryz.ntmps8
  go_upto_region 1 with (fail)
  rw [← hW]
  clear hW
  obtain ⟨⟨d0, d1, d2, d3⟩, f0, f1, f2, f3⟩ := box4 k0_h.out
  go_wp2_with (fail)
  refine (hA_h.out).mono ?_
  rintro e w1 ⟨rfl, hb1⟩
  clear d0 d1 d2 d3 f0 f1 f2 f3
  replace k0_h := lH (box_below k0_h.out hb1)
  have hB1 := below_trans bW_h.out hb1 bW_h.out.size
  clear hb1; have hB1_h := lH hB1; clear hB1
  obtain ⟨⟨d0, d1, d2, d3⟩, f0, f1, f2, f3⟩ := box4 k0_h.out
  go_wp2_with (fail)
  refine (hVx_h.out _ hB1_h.out).mono ?_
  rintro e w2 ⟨rfl, hw2⟩
  subst hw2
  go_wp2_with (fail)
  go_ret2
  exact ⟨_, [], rfl, ⟨none, 0, rfl, (show IS _ none 0 [] from Sl.nil _ _ _), by simp⟩, FreshL.nil _, hB1_h.out⟩
 rw [hv, Bool.true_and] at hD
 simp only [hv] at hVx
 by_cases hv2 : (decide ((qy : Int) = (nc : Int)) && inB 0 (p - 1) y) = true
 case neg =>
  have hv' : (decide ((qy : Int) = (nc : Int)) && inB 0 (p - 1) y) = false := by simpa using hv2
  rw [hv', if_neg (by simp)] at hD
  simp only [hv'] at hVy
  subst hD
  clear hg ok okx oky h hX hY hz hqx hqy hna hnb hnc hE hRa hRb e1 e2 e3 a2 a3 hT hv hv2 hv' hdo; have hA_h := lH hA; have k0_h := lH k0; have bW_h := lH bW; have hVx_h := lH hVx; have hVy_h := lH hVy; clear hA k0 bW hVx hVy
  go_enter Tryz.func8, Tryz.ntmps8
  go_upto_region 1 with (fail)
  rw [← hW]
  clear hW
  obtain ⟨⟨d0, d1, d2, d3⟩, f0, f1, f2, f3⟩ := box4 k0_h.out
  go_wp2_with (fail)
  refine (hA_h.out).mono ?_
  rintro e w1 ⟨rfl, hb1⟩
  clear d0 d1 d2 d3 f0 f1 f2 f3
  replace k0_h := lH (box_below k0_h.out hb1)
  have hB1 := below_trans bW_h.out hb1 bW_h.out.size
  clear hb1; have hB1_h := lH hB1; clear hB1
  obtain ⟨⟨d0, d1, d2, d3⟩, f0, f1, f2, f3⟩ := box4 k0_h.out
  go_wp2_with (fail)
  refine (hVx_h.out _ hB1_h.out).mono ?_
  rintro e w2 ⟨rfl, hw2⟩
  subst hw2
  go_wp2_with (fail)
  refine (hVy_h.out _ hB1_h.out).mono ?_
  rintro e w2 ⟨rfl, hw2⟩
  subst hw2
  go_wp2_with (fail)
  go_ret2
  exact ⟨_, [], rfl, ⟨none, 0, rfl, (show IS _ none 0 [] from Sl.nil _ _ _), by simp⟩, FreshL.nil _, hB1_h.out⟩
 rw [hv2, if_pos rfl] at hD
 simp only [hv2] at hVy
 simp only [Bool.and_eq_true, decide_eq_true_eq] at hv hv2
 have hxr : Res p x := fun a ha => by have := inB_iff.1 hv.2 a ha; omega
 have hyr : Res p y := fun a ha => by have := inB_iff.1 hv2.2 a ha; omega
 have h1 : qx = nb := by omega
 have h2 : qy = nc := by omega
 have hC := fun W' (hb : Below w.heap.size w W') => wireValues_any p W' (h.below hb) ok hg X Y cx cy x y (hX.below hb) (hY.below hb) (by rw [a2, ← hqx, ← hnb]; exact h1) (by rw [a3, ← hqy, ← hnc]; exact h2) hxr hyr
 rw [a2, a3, ← hnb, ← hnc, ← hD] at hC
 subst h1
 subst h2
 clear hg ok okx oky h hX hY hz hqx hqy hna hnb hnc hE hRa hRb e1 e2 e3 a2 a3 hT hv hv2 hdo hD hxr hyr; have hA_h := lH hA; have k0_h := lH k0; have bW_h := lH bW; have hVx_h := lH hVx; have hVy_h := lH hVy; have hC_h := lH hC; clear hA k0 bW hVx hVy hC
 go_enter Tryz.func8, Tryz.ntmps8
 go_upto_region 1 with (fail)
 rw [← hW]
 clear hW
 obtain ⟨⟨d0, d1, d2, d3⟩, f0, f1, f2, f3⟩ := box4 k0_h.out
 go_wp2_with (fail)
 refine (hA_h.out).mono ?_
 rintro e w1 ⟨rfl, hb1⟩
 clear d0 d1 d2 d3 f0 f1 f2 f3
 replace k0_h := lH (box_below k0_h.out hb1)
 have hB1 := below_trans bW_h.out hb1 bW_h.out.size
 clear hb1; have hB1_h := lH hB1; clear hB1
 obtain ⟨⟨d0, d1, d2, d3⟩, f0, f1, f2, f3⟩ := box4 k0_h.out
 go_wp2_with (fail)
 refine (hVx_h.out _ hB1_h.out).mono ?_
 rintro e w2 ⟨rfl, hw2⟩
 subst hw2
 go_wp2_with (fail)
 refine (hVy_h.out _ hB1_h.out).mono ?_
 rintro e w2 ⟨rfl, hw2⟩
 subst hw2
 go_wp2_with (fail)
 refine (hC_h.out _ hB1_h.out).mono ?_
 rintro e w3 ⟨A9, c9, rfl, hi9, hf9, hb9⟩
 have hB9 := below_trans hB1_h.out hb9 hB1_h.out.size
 have hf9' : FreshL w.heap.size (fpA A9) := fun b hb => Nat.le_trans hB1_h.out.size (hf9 b hb)
 clear d0 d1 d2 d3 f0 f1 f2 f3 hb9; have hB9_h := lH hB9; have hi9_h := lH hi9; have hf9'_h := lH hf9'; clear hB9 hi9 hf9'
 go_wp2_with (fail)
 go_ret2
 exact ⟨_, _, rfl, ⟨A9, c9, rfl, hi9_h.out, rfl⟩, hf9'_h.out, hB9_h.out⟩
end Go.Proofs.YtjompikdkhhlgaaGreatDoor
namespace Go.Proofs.YtjompikdkhhlgaaGreatDoor
open Go.RowKit
set_option maxRecDepth 100000 in
set_option maxHeartbeats 4000000 in
theorem sWireValues_law (p : Int) {v vx vy : Value} {g : Gr} {x y : List Int} {w : World} (h : RdGr w v g) (hx : RdIV w vx x) (hy : RdIV w vy y) (ok : OkG g) (okx : x.length ≤ 1048576) (oky : y.length ≤ 1048576) :
  Calls Tryz.prog 5 #[.int .i64 p, v, vx, vy] w fun e w' => ∃ v' fp', e = .returned (.tuple #[v', .bool (wvR p g x y).2]) ∧ OwI w' v' (wvR p g x y).1 fp' ∧ FreshL w.heap.size fp' ∧ Below w.heap.size w w' := by
 obtain ⟨X, cx, rfl, hX⟩ := hx
 obtain ⟨Y, cy, rfl, hY⟩ := hy
 obtain ⟨A, c, hs, ⟨B, b, s⟩, ⟨C, d, t⟩, rfl, e1, e2, e3, hE, hRa, hRb⟩ := id h
 have a2 : g.2.2.1 = s := e2.symm
 have a3 : g.2.2.2 = t := e3.symm
 obtain ⟨z, hz⟩ : ∃ z, z = g.1 := ⟨_, rfl⟩
 obtain ⟨na, hna⟩ : ∃ na, na = hs.length := ⟨_, rfl⟩
 obtain ⟨nb, hnb⟩ : ∃ nb, nb = s.length := ⟨_, rfl⟩
 obtain ⟨nc, hnc⟩ : ∃ nc, nc = t.length := ⟨_, rfl⟩
 simp only [← hz, ← hna, ← hnb, ← hnc] at h ⊢
 obtain ⟨qx, hqx⟩ : ∃ m, m = x.length := ⟨_, rfl⟩
 obtain ⟨qy, hqy⟩ : ∃ m, m = y.length := ⟨_, rfl⟩
 rw [← hqx, ← hqy]
 obtain ⟨W, hW, bW, k0⟩ := (⟨_, rfl, below_alloc _ _, heap_alloc_new _ _⟩ : ∃ W, W = w.alloc (.cells #[.int .i64 z, .slice A na c, .slice B nb b, .slice C nc d] tGr) ∧ Below w.heap.size w W ∧ W.heap[w.heap.size]? = some (.cells #[.int .i64 z, .slice A na c, .slice B nb b, .slice C nc d] tGr))
 have hA := dnAsked_any p W (h.below bW) ok
 obtain ⟨D, hD⟩ : ∃ D, D = wvR p g x y := ⟨_, rfl⟩
 rw [← hD]
 unfold wvR at hD
 rw [a2, a3, ← hqx, ← hqy, ← hnb, ← hnc] at hD
 have hEmp : ∀ w' : World, OwI w' (.slice none 0 0) [] [] := fun w' => ⟨none, 0, rfl, (show IS w' none 0 [] from Sl.nil _ _ _), by simp⟩
 by_cases hg : dnAskB p g = true
 case neg =>
  have hg' : dnAskB p g = false := by simpa using hg
  rw [hg', Bool.false_and, if_neg (by simp)] at hD
  rw [hg'] at hA
  subst hD
  clear hg hg' ok okx oky h hX hY hz hqx hqy hna hnb hnc hE hRa hRb e1 e2 e3 a2 a3; have hA_h := lH hA; have k0_h := lH k0; have bW_h := lH bW; have hEmp_h := lH hEmp; clear hA k0 bW hEmp
  go_enter Tryz.func5, Tryz.ntmps5
  go_upto_region 1 with (fail)
  rw [← hW]
  clear hW
  obtain ⟨⟨d0, d1, d2, d3⟩, f0, f1, f2, f3⟩ := box4 k0_h.out
  go_wp2_with (fail)
  refine (hA_h.out).mono ?_
  rintro e w1 ⟨rfl, hb1⟩
  clear d0 d1 d2 d3 f0 f1 f2 f3
  replace k0_h := lH (box_below k0_h.out hb1)
  have hB1 := below_trans bW_h.out hb1 bW_h.out.size
  clear hb1; have hB1_h := lH hB1; clear hB1
  obtain ⟨⟨d0, d1, d2, d3⟩, f0, f1, f2, f3⟩ := box4 k0_h.out
  go_wp2_with (fail)
  go_ret2
  exact ⟨_, [], rfl, hEmp_h.out _, FreshL.nil _, hB1_h.out⟩
 have hdo := DnOk.of hg
 have hpb := fieldB_bounds hdo.fld
 rw [hg, Bool.true_and] at hD
 rw [hg] at hA
 by_cases hlx : qx = nb
 case neg =>
  have hdx : decide ((qx : Int) = (nb : Int)) = false := decide_eq_false (by omega)
  rw [hdx, Bool.false_and, Bool.false_and, if_neg (by simp)] at hD
  have b1 : ((qx : Int) != (nb : Int)) = true := by rw [bne_iff_ne]; omega
  have b2 : ((qx : Int) == (nb : Int)) = false := by rw [beq_eq_false_iff_ne]; omega
  have b3 : ¬ (qx : Int) = (nb : Int) := by omega
  subst hD
  clear hg ok okx oky h hlx hdx hdo hX hY hz hqx hqy hna hnb hnc hE hRa hRb e1 e2 e3 a2 a3; have hA_h := lH hA; have k0_h := lH k0; have bW_h := lH bW; have hEmp_h := lH hEmp; clear hA k0 bW hEmp
  go_enter Tryz.func5, Tryz.ntmps5
  go_upto_region 1 with (fail)
  rw [← hW]
  clear hW
  obtain ⟨⟨d0, d1, d2, d3⟩, f0, f1, f2, f3⟩ := box4 k0_h.out
  go_wp2_with (fail)
  refine (hA_h.out).mono ?_
  rintro e w1 ⟨rfl, hb1⟩
  clear d0 d1 d2 d3 f0 f1 f2 f3
  replace k0_h := lH (box_below k0_h.out hb1)
  have hB1 := below_trans bW_h.out hb1 bW_h.out.size
  clear hb1; have hB1_h := lH hB1; clear hB1
  obtain ⟨⟨d0, d1, d2, d3⟩, f0, f1, f2, f3⟩ := box4 k0_h.out
  go_wp2_with (fail)
  go_ret2
  exact ⟨_, [], rfl, hEmp_h.out _, FreshL.nil _, hB1_h.out⟩
 subst hlx
 rw [show decide ((qx : Int) = (qx : Int)) = true from decide_eq_true rfl, Bool.true_and] at hD
 have b1 : ((qx : Int) != (qx : Int)) = false := by simp
 by_cases hly : qy = nc
 case neg =>
  have hdx : decide ((qy : Int) = (nc : Int)) = false := decide_eq_false (by omega)
  rw [hdx, Bool.false_and, Bool.and_false, if_neg (by simp)] at hD
  have c1 : ((qy : Int) != (nc : Int)) = true := by rw [bne_iff_ne]; omega
  have c2 : ((qy : Int) == (nc : Int)) = false := by rw [beq_eq_false_iff_ne]; omega
  have c3 : ¬ (qy : Int) = (nc : Int) := by omega
  subst hD
  clear hg ok okx oky h hly hdx hdo hX hY hz hqx hqy hna hnb hnc hE hRa hRb e1 e2 e3 a2 a3; have hA_h := lH hA; have k0_h := lH k0; have bW_h := lH bW; have hEmp_h := lH hEmp; clear hA k0 bW hEmp
  go_enter Tryz.func5, Tryz.ntmps5
  go_upto_region 1 with (fail)
  rw [← hW]
  clear hW
  obtain ⟨⟨d0, d1, d2, d3⟩, f0, f1, f2, f3⟩ := box4 k0_h.out
  go_wp2_with (fail)
  refine (hA_h.out).mono ?_
  rintro e w1 ⟨rfl, hb1⟩
  clear d0 d1 d2 d3 f0 f1 f2 f3
  replace k0_h := lH (box_below k0_h.out hb1)
  have hB1 := below_trans bW_h.out hb1 bW_h.out.size
  clear hb1; have hB1_h := lH hB1; clear hB1
  obtain ⟨⟨d0, d1, d2, d3⟩, f0, f1, f2, f3⟩ := box4 k0_h.out
  go_wp2_with (fail)
  go_ret2
  exact ⟨_, [], rfl, hEmp_h.out _, FreshL.nil _, hB1_h.out⟩
 subst hly
 rw [show decide ((qy : Int) = (qy : Int)) = true from decide_eq_true rfl, Bool.true_and] at hD
 have c1 : ((qy : Int) != (qy : Int)) = false := by simp
 have hVx := fun W' (hb : Below w.heap.size w W') => fdIn_any p X cx x W' (hX.below hb) (by omega) (by omega) hpb.2
 have hVy := fun W' (hb : Below w.heap.size w W') => fdIn_any p Y cy y W' (hY.below hb) (by omega) (by omega) hpb.2
 simp only [← hqx] at hVx
 simp only [← hqy] at hVy
 by_cases hv : inB 0 (p - 1) x = true
 case neg =>
  have hv' : inB 0 (p - 1) x = false := by simpa using hv
  rw [hv', Bool.false_and, if_neg (by simp)] at hD
  simp only [hv'] at hVx
  subst hD
  clear hg ok okx oky h hv hv' hdo hVy hX hY hz hqx hqy hna hnb hnc hE hRa hRb e1 e2 e3 a2 a3; have hA_h := lH hA; have k0_h := lH k0; have bW_h := lH bW; have hEmp_h := lH hEmp; have hVx_h := lH hVx; clear hA k0 bW hEmp hVx
  go_enter Tryz.func5, Tryz.ntmps5
  go_upto_region 1 with (fail)
  rw [← hW]
  clear hW
  obtain ⟨⟨d0, d1, d2, d3⟩, f0, f1, f2, f3⟩ := box4 k0_h.out
  go_wp2_with (fail)
  refine (hA_h.out).mono ?_
  rintro e w1 ⟨rfl, hb1⟩
  clear d0 d1 d2 d3 f0 f1 f2 f3
  replace k0_h := lH (box_below k0_h.out hb1)
  have hB1 := below_trans bW_h.out hb1 bW_h.out.size
  clear hb1; have hB1_h := lH hB1; clear hB1
  obtain ⟨⟨d0, d1, d2, d3⟩, f0, f1, f2, f3⟩ := box4 k0_h.out
  go_wp2_with (fail)
  refine (hVx_h.out _ hB1_h.out).mono ?_
  rintro e w2 ⟨rfl, hw2⟩
  subst hw2
  go_wp2_with (fail)
  go_ret2
  exact ⟨_, [], rfl, hEmp_h.out _, FreshL.nil _, hB1_h.out⟩
 rw [hv, Bool.true_and] at hD
 simp only [hv] at hVx
 by_cases hv2 : inB 0 (p - 1) y = true
 case neg =>
  have hv' : inB 0 (p - 1) y = false := by simpa using hv2
  rw [hv', if_neg (by simp)] at hD
  simp only [hv'] at hVy
  subst hD
  clear hg ok okx oky h hv hv2 hv' hdo hX hY hz hqx hqy hna hnb hnc hE hRa hRb e1 e2 e3 a2 a3; have hA_h := lH hA; have k0_h := lH k0; have bW_h := lH bW; have hEmp_h := lH hEmp; have hVx_h := lH hVx; have hVy_h := lH hVy; clear hA k0 bW hEmp hVx hVy
  go_enter Tryz.func5, Tryz.ntmps5
  go_upto_region 1 with (fail)
  rw [← hW]
  clear hW
  obtain ⟨⟨d0, d1, d2, d3⟩, f0, f1, f2, f3⟩ := box4 k0_h.out
  go_wp2_with (fail)
  refine (hA_h.out).mono ?_
  rintro e w1 ⟨rfl, hb1⟩
  clear d0 d1 d2 d3 f0 f1 f2 f3
  replace k0_h := lH (box_below k0_h.out hb1)
  have hB1 := below_trans bW_h.out hb1 bW_h.out.size
  clear hb1; have hB1_h := lH hB1; clear hB1
  obtain ⟨⟨d0, d1, d2, d3⟩, f0, f1, f2, f3⟩ := box4 k0_h.out
  go_wp2_with (fail)
  refine (hVx_h.out _ hB1_h.out).mono ?_
  rintro e w2 ⟨rfl, hw2⟩
  subst hw2
  go_wp2_with (fail)
  refine (hVy_h.out _ hB1_h.out).mono ?_
  rintro e w2 ⟨rfl, hw2⟩
  subst hw2
  go_wp2_with (fail)
  go_ret2
  exact ⟨_, [], rfl, hEmp_h.out _, FreshL.nil _, hB1_h.out⟩
 rw [hv2, if_pos rfl] at hD
 simp only [hv2] at hVy
 have hxr : Res p x := fun a ha => by have := inB_iff.1 hv a ha; omega
 have hyr : Res p y := fun a ha => by have := inB_iff.1 hv2 a ha; omega
 have hC := fun W' (hb : Below w.heap.size w W') => dnWires_any p W' (h.below hb) ok hg X Y cx cy x y (hX.below hb) (hY.below hb) (by rw [a2, ← hqx, ← hnb]) (by rw [a3, ← hqy, ← hnc]) hxr hyr
 rw [a2, a3, ← hnb, ← hnc, ← hD] at hC
 clear hg ok okx oky h hv hv2 hdo hD hxr hyr hX hY hz hqx hqy hna hnb hnc hE hRa hRb e1 e2 e3 a2 a3; have hA_h := lH hA; have k0_h := lH k0; have bW_h := lH bW; have hEmp_h := lH hEmp; have hVx_h := lH hVx; have hVy_h := lH hVy; have hC_h := lH hC; clear hA k0 bW hEmp hVx hVy hC
 go_enter Tryz.func5, Tryz.ntmps5
 go_upto_region 1 with (fail)
 rw [← hW]
 clear hW
 obtain ⟨⟨d0, d1, d2, d3⟩, f0, f1, f2, f3⟩ := box4 k0_h.out
 go_wp2_with (fail)
 refine (hA_h.out).mono ?_
 rintro e w1 ⟨rfl, hb1⟩
 clear d0 d1 d2 d3 f0 f1 f2 f3
 replace k0_h := lH (box_below k0_h.out hb1)
 have hB1 := below_trans bW_h.out hb1 bW_h.out.size
 clear hb1; have hB1_h := lH hB1; clear hB1
 obtain ⟨⟨d0, d1, d2, d3⟩, f0, f1, f2, f3⟩ := box4 k0_h.out
 go_wp2_with (fail)
 refine (hVx_h.out _ hB1_h.out).mono ?_
 rintro e w2 ⟨rfl, hw2⟩
 subst hw2
 go_wp2_with (fail)
 refine (hVy_h.out _ hB1_h.out).mono ?_
 rintro e w2 ⟨rfl, hw2⟩
 subst hw2
 go_wp2_with (fail)
 refine (hC_h.out _ hB1_h.out).mono ?_
 rintro e w3 ⟨A9, c9, rfl, hi9, hf9, hb9⟩
 have hB9 := below_trans hB1_h.out hb9 hB1_h.out.size
 have hf9' : FreshL w.heap.size (fpA A9) := fun b hb => Nat.le_trans hB1_h.out.size (hf9 b hb)
 clear d0 d1 d2 d3 f0 f1 f2 f3 hb9; have hB9_h := lH hB9; have hi9_h := lH hi9; have hf9'_h := lH hf9'; clear hB9 hi9 hf9'
 go_wp2_with (fail)
 go_ret2
 exact ⟨_, _, rfl, ⟨A9, c9, rfl, hi9_h.out, rfl⟩, hf9'_h.out, hB9_h.out⟩
end Go.Proofs.YtjompikdkhhlgaaGreatDoor
namespace Go.Proofs.YtjompikdkhhlgaaGreatDoor
open Go.ChangeShapes Go.WideShapes Go.ChangeAt Go.RowKit
theorem gTab : Tryz.prog.globalNamed "loop.example/g01073/impl.smallPrimes" = some 0 := by kernel_rfl
theorem gTabType : (Tryz.prog.globals[0]?).map (·.type) = some 98 := by kernel_rfl
theorem cellsTab : Tryz.prog.cellsOf 98 = 4 := by kernel_rfl
theorem tab_of_laid {W : World} (h : laidMetH Tryz.prog [("loop.example/g01073/impl.smallPrimes", Rows.laid_loop_example_g01073_impl_smallPrimes)] W) : Tab W := by
 have ht : Lib.TabIs Tryz.prog W "loop.example/g01073/impl.smallPrimes" .i64 [2, 3, 5, 7] :=
  Lib.tabIs_of_head (rest := []) gTab gTabType Tryz.underlying98 Tryz.underlying3 cellsInt cellsTab h
 exact ⟨ht.cell gTab 0 (by decide), ht.cell gTab 1 (by decide), ht.cell gTab 2 (by decide), ht.cell gTab 3 (by decide)⟩
theorem vars_ok : ∀ n ∈ ["loop.example/g01073/impl.smallPrimes"], ∀ g t, Tryz.prog.globalNamed n = some g → (Tryz.prog.globals[g]?).map (·.type) = some t → Tryz.prog.readableRec t = true ∧ t < Tryz.prog.types.size := by
 intro n hn g t h1 h2
 obtain rfl := List.mem_singleton.1 hn
 obtain rfl := Option.some.inj (gTab.symm.trans h1)
 obtain rfl := Option.some.inj (gTabType.symm.trans h2)
 exact ⟨by kernel_rfl, of_decide_eq_true (by kernel_rfl)⟩
noncomputable def laidWorld (os : Os) : World :=
 { World.holding Tryz.prog os ⟨#[], #[], []⟩ with heap := (World.holding Tryz.prog os ⟨#[], #[], []⟩).heap.modify 0 fun
   | .cells _ t frozen => .cells #[.int .i64 2, .int .i64 3, .int .i64 5, .int .i64 7] t frozen
   | o => o }
theorem laid_met (os : Os) (args : Array Value) : laidMet Tryz.prog [("loop.example/g01073/impl.smallPrimes", Rows.laid_loop_example_g01073_impl_smallPrimes)] ((laidWorld os).forCall (fun _ _ => 0) ⟨#[], args, []⟩).memory :=
 laidMet_of_run' 8 (by kernel_rfl) (by kernel_rfl)
end Go.Proofs.YtjompikdkhhlgaaGreatDoor
namespace Go.Proofs.YtjompikdkhhlgaaGreatDoor
open Go.RowKit
theorem eh_get {l : List EHd} {j : Nat} {n : EHd} (h : l[j]? = some n) : (eh l)[2 * j]? = some n.2.2.1 ∧ (eh l)[2 * j + 1]? = some n.2.2.2 := by
 induction l generalizing j with
 | nil => simp at h
 | cons a r ih =>
   cases j with
   | zero =>
     obtain rfl : a = n := by simpa using h
     simp [eh]
   | succ j =>
     have := ih (j := j) (by simpa using h)
     rw [show 2 * (j + 1) = 2 * j + 1 + 1 by omega]
     simpa [eh] using this
theorem eh_set {l : List EHd} {j : Nat} (n : EHd) (h : j < l.length) : ((eh l).set (2 * j) n.2.2.1).set (2 * j + 1) n.2.2.2 = eh (l.set j n) := by
 induction l generalizing j with
 | nil => simp at h
 | cons a r ih =>
   cases j with
   | zero => simp [eh]
   | succ j =>
     have := ih (j := j) (by simpa using h)
     rw [show 2 * (j + 1) = 2 * j + 1 + 1 by omega]
     simpa [eh] using this
@[simp] theorem eh_length (l : List EHd) : (eh l).length = 2 * l.length := by
  induction l with
  | nil => rfl
  | cons a r ih => simp only [eh, List.length_cons, ih]; omega
theorem fpR_map {l m : List Hd} (h : l.map (·.1) = m.map (·.1)) : fpR l = fpR m := by
 have e : ∀ x : List Hd, fpR x = (x.map (·.1)).flatMap fpA := fun x => by unfold fpR; rw [List.flatMap_map]
 rw [e, e, h]
theorem set_same {α : Type} {l : List α} {i : Nat} {x : α} (h : l[i]? = some x) : l.set i x = l := by
 apply List.ext_getElem?
 intro k
 rw [List.getElem?_set]
 split
 · rename_i e; subst e
   have := (List.getElem?_eq_some_iff.1 h).1
   rw [if_pos this, h]
 · rfl
section
variable {w w' : World} {fp : List Nat} {ls : List Hd}
theorem OwLs.wr (h : OwLs w fp ls) {i : Nat} {B : Option Addr} {c : Nat} {l l' : List Int} (hi : ls[i]? = some (B, c, l)) (hk : Keeps (· ∈ fpA B) w w') (hI : IS w' B c l') : OwLs w' fp (ls.set i (B, c, l')) := by
 have hap : ∀ (k : Nat) (x : Hd), ls[k]? = some x → i ≠ k → ∀ b, b ∈ fpA x.1 → ¬ b ∈ fpA B := fun k x hx hne b hb hb' => by
  have hp := List.pairwise_iff_getElem.1 h.apart
  obtain ⟨hi', ei⟩ := List.getElem?_eq_some_iff.1 hi
  obtain ⟨hk', ek⟩ := List.getElem?_eq_some_iff.1 hx
  rcases Nat.lt_or_gt_of_ne hne with hlt | hlt
  · exact hp i k hi' hk' hlt b (by rw [ei]; exact hb') (by rw [ek]; exact hb)
  · exact hp k i hk' hi' hlt b (by rw [ek]; exact hb) (by rw [ei]; exact hb')
 have hget : ∀ (k : Nat) (x : Hd), (ls.set i (B, c, l'))[k]? = some x → ∃ y : Hd, ls[k]? = some y ∧ y.1 = x.1 := by
  intro k x hx
  rw [List.getElem?_set] at hx
  split at hx
  · rename_i hk; subst hk
    simp at hx
    exact ⟨_, hi, by rw [← hx.2]⟩
  · exact ⟨x, hx, rfl⟩
 refine ⟨fun x hx => ?_, ?_, fun x hx => ?_⟩
 · obtain ⟨k, hkk⟩ := List.mem_iff_getElem?.1 hx
   rw [List.getElem?_set] at hkk
   split at hkk
   · simp at hkk
     rw [← hkk.2]
     exact hI
   · rename_i hik
     exact (h.rows x (List.mem_of_getElem? hkk)).keeps hk fun b hb hb' => hap k x hkk hik b hb hb'
 · refine List.pairwise_iff_getElem.2 fun a b ha hb hab => ?_
   obtain ⟨x, hx, ex⟩ := hget a _ (List.getElem?_eq_getElem ha)
   obtain ⟨y, hy, ey⟩ := hget b _ (List.getElem?_eq_getElem hb)
   rw [← ex, ← ey]
   obtain ⟨ha', e1⟩ := List.getElem?_eq_some_iff.1 hx
   obtain ⟨hb', e2⟩ := List.getElem?_eq_some_iff.1 hy
   rw [← e1, ← e2]
   exact List.pairwise_iff_getElem.1 h.apart a b ha' hb' hab
 · obtain ⟨k, hkk⟩ := List.mem_iff_getElem?.1 hx
   obtain ⟨y, hy, e⟩ := hget k x hkk
   rw [← e]; exact h.outer y (List.mem_of_getElem? hy)
theorem set_fst {ls : List Hd} {i : Nat} {B : Option Addr} {c : Nat} {l l' : List Int} (hi : ls[i]? = some (B, c, l)) : (ls.set i (B, c, l')).map (·.1) = ls.map (·.1) := by
 rw [List.map_set]
 exact set_same (by rw [List.getElem?_map, hi]; rfl)
end
theorem ecs_congr {l : List EHd} {j : Nat} {x y : EHd} (h : ec x = ec y) : ecs (l.set j x) = ecs (l.set j y) := by
 induction l generalizing j with
 | nil => rfl
 | cons a r ih =>
   cases j with
   | zero => simp [ecs, h]
   | succ j => simp only [List.set_cons_succ, ecs, ih]
theorem cntE_take_succ {L : List Eg} {j : Nat} {e : Eg} (h : L[j]? = some e) : cntE (L.take (j + 1)) = cntE (L.take j) + (2 + e.2.2.1.length + e.2.2.2.length) := by
 rw [List.take_add_one, h, cntE_append]; simp [cntE]
theorem cntE_take_le (L : List Eg) (j : Nat) : cntE (L.take j) ≤ cntE L := by
 conv => rhs; rw [← List.take_append_drop j L, cntE_append]
 omega
@[simp] theorem marksE_length : ∀ (k : Nat) (L : List Eg), (marksE k L).length = L.length
  | _, [] => rfl
  | k, e :: r => by simp [marksE, marksE_length]
theorem marksE_get : ∀ {L : List Eg} {k j : Nat} {e : Eg}, L[j]? = some e → (marksE k L)[j]? = some (((k + cntE (L.take j) : Nat) : Int), ((k + cntE (L.take j) + 1 : Nat) : Int), marks (k + cntE (L.take j) + 2) e.2.2.1.length, marks (k + cntE (L.take j) + 2 + e.2.2.1.length) e.2.2.2.length)
 | a :: r, k, 0, e, h => by
   obtain rfl : a = e := by simpa using h
   simp [marksE, cntE]
 | a :: r, k, j + 1, e, h => by
   have := marksE_get (L := r) (k := k + 2 + a.2.2.1.length + a.2.2.2.length) (j := j) (e := e) (by simpa using h)
   rw [show k + 2 + a.2.2.1.length + a.2.2.2.length + cntE (r.take j) = k + cntE ((a :: r).take (j + 1)) by simp [cntE]; omega] at this
   simpa [marksE] using this
set_option maxRecDepth 100000 in
set_option maxHeartbeats 4000000 in
theorem markEdgeS_any (A : Option Addr) (c m : Nat) (l : List EHd) (pre : List Hd) (k : Nat) (w : World) (h : Sl w tEd 4 A m c (ecs l)) (hO : OwLs w (fpA A) (pre ++ eh l)) (hm : l.length = m) (hml : m ≤ 1048576) (hl : k + cntE (l.map egOf) ≤ 17592186044000) :
  Calls Tryz.prog 24 #[.slice A m c, .int .i64 k] w fun e w' => ∃ ys : List EHd, e = .returned (.int .i64 ((k + cntE (l.map egOf) : Nat) : Int)) ∧ ys.length = m ∧ ys.map egOf = marksE k (l.map egOf) ∧ Sl w' tEd 4 A m c (ecs ys) ∧ OwLs w' (fpA A) (pre ++ eh ys) ∧ (eh ys).map (·.1) = (eh l).map (·.1) ∧ Keeps (· ∈ fpA A ++ fpR (eh l)) w w' := by
 obtain ⟨L, hL⟩ : ∃ L, L = l.map egOf := ⟨_, rfl⟩
 rw [← hL] at hl ⊢
 have hLm : L.length = m := by rw [hL, List.length_map, hm]
 have hm_h := lH hm; have hL_h := lH hL; have hLm_h := lH hLm; have h_h := lH h; have hO_h := lH hO; clear hm hL hLm h hO
 go_enter Tryz.func24, Tryz.ntmps24
 go_wp2_with (fail)
 go_loopw [1, 5] (fun q i wr => ∃ (j : Nat) (ys : List EHd), j ≤ m ∧ i = .int .i64 j ∧ q = .int .i64 ((k + cntE (L.take j) : Nat) : Int) ∧ ys.length = m ∧ ys.map egOf = (marksE k L).take j ++ L.drop j ∧ Sl wr tEd 4 A m c (ecs ys) ∧ OwLs wr (fpA A) (pre ++ eh ys) ∧ (eh ys).map (·.1) = (eh l).map (·.1) ∧ Keeps (· ∈ fpA A ++ fpR (eh l)) w wr) (fun _ i _ => m - (intOf i).toNat)
 case atStart => exact ⟨0, l, Nat.zero_le _, rfl, by simp [cntE], hm_h.out, by simpa using hL_h.out.symm, h_h.out, hO_h.out, rfl, Keeps.refl _ _⟩
 case round =>
  clear h_h hO_h
  obtain ⟨j, ys, hj, rfl, rfl, hyl, hye, his, hO, hfe, hkp⟩ := hrel
  by_cases hlt : j < m
  · obtain ⟨⟨κ, v, ⟨B, b, s⟩, ⟨C, d, t⟩⟩, hy⟩ : ∃ y, ys[j]? = some y := ⟨_, List.getElem?_eq_getElem (by omega)⟩
    have hLj : L[j]? = some (κ, v, s, t) := by
     have h1 : (ys.map egOf)[j]? = some (κ, v, s, t) := by rw [List.getElem?_map, hy]; rfl
     rw [hye, List.getElem?_append_right (by rw [List.length_take, marksE_length]; omega), List.length_take, marksE_length, List.getElem?_drop] at h1
     rwa [show j + (j - min j L.length) = j by rw [hLm_h.out]; omega] at h1
    obtain ⟨ad, hA, g0, g1⟩ : ∃ ad, A = some ad ∧ (∀ x, wr.frozen? (ad.add x) = false) ∧ ∀ i u, (ecs ys)[i]? = some u → wr.cell? (ad.add i) = some u := by
     obtain ⟨ad, hA, _, _, hf⟩ := Sl.cell his (ecs_get hy).1
     refine ⟨ad, hA, hf, fun i u hu => ?_⟩
     obtain ⟨ad', hA', _, hc, _⟩ := Sl.cell his hu
     rw [hA] at hA'
     obtain rfl := Option.some.inj hA'
     exact hc
    subst hA
    obtain ⟨y0, y1, y2, y3⟩ := ecs_get hy
    have hel : (ecs ys).length = m * 4 := by rw [ecs_length, hyl]
    obtain ⟨K, hK⟩ : ∃ K, K = k + cntE (L.take j) := ⟨_, rfl⟩
    have hcs := cntE_take_succ hLj
    have hcl := cntE_take_le L (j + 1)
    have hKb : K + (2 + s.length + t.length) ≤ 17592186044000 := by
     have : cntE (L.take (j + 1)) = cntE (L.take j) + (2 + s.length + t.length) := hcs
     omega
    -- the two stores
    obtain ⟨W1, hW1⟩ : ∃ W1, W1 = wr.setCell (ad.add (j * 4)) (.int .i64 (K : Int)) := ⟨_, rfl⟩
    have sl1 := Sl.set his rfl (j * 4) (.int .i64 (K : Int)) (by omega)
    rw [← hW1] at sl1
    obtain ⟨W2, hW2⟩ : ∃ W2, W2 = W1.setCell ⟨(ad.add (j * 4)).block, (ad.add (j * 4)).off + 1, none⟩ (.int .i64 ((K + 1 : Nat) : Int)) := ⟨_, rfl⟩
    have sl2 := Sl.set sl1 rfl (j * 4 + 1) (.int .i64 ((K + 1 : Nat) : Int)) (by rw [List.length_set]; omega)
    rw [add_next _ _ 1 (by omega), ← hW2] at sl2
    have q0 := g1 _ _ y0
    have q1 : W1.cell? ⟨(ad.add (j * 4)).block, (ad.add (j * 4)).off + 1, none⟩ = some (.int .i64 v) := by
     obtain ⟨ad', hA', _, hc, _⟩ := Sl.cell sl1 (j := j * 4 + 1) (u := .int .i64 v) (by rw [List.getElem?_set_ne (by omega)]; exact y1)
     obtain rfl := Option.some.inj hA'
     rwa [add_next _ _ 1 (by omega)] at hc
    have q1f : W1.frozen? ⟨(ad.add (j * 4)).block, (ad.add (j * 4)).off + 1, none⟩ = false := by
     obtain ⟨ad', hA', _, _, hf⟩ := Sl.cell sl1 (j := j * 4 + 1) (u := .int .i64 v) (by rw [List.getElem?_set_ne (by omega)]; exact y1)
     obtain rfl := Option.some.inj hA'
     have := hf (j * 4 + 1)
     rwa [add_next _ _ 1 (by omega)] at this
    have q2 : W2.cell? ⟨(ad.add (j * 4)).block, (ad.add (j * 4)).off + 2, none⟩ = some (.slice B s.length b) := by
     obtain ⟨ad', hA', _, hc, _⟩ := Sl.cell sl2 (j := j * 4 + 2) (u := .slice B s.length b) (by rw [List.getElem?_set_ne (by omega), List.getElem?_set_ne (by omega)]; exact y2)
     obtain rfl := Option.some.inj hA'
     rwa [add_next _ _ 2 (by omega)] at hc
    have hkB : Keeps (· ∈ fpA (some ad)) wr W2 := by
     rw [hW2, hW1]
     exact ((Keeps.refl _ wr).setCell (p := ad.add (j * 4)) (by rw [block_of_add]; simp) _).setCell (p := ⟨(ad.add (j * 4)).block, (ad.add (j * 4)).off + 1, none⟩) (by simp [block_of_add]) _
    have hset2 : ((ecs ys).set (j * 4) (.int .i64 (K : Int))).set (j * 4 + 1) (.int .i64 ((K + 1 : Nat) : Int)) = ecs (ys.set j ((K : Int), ((K + 1 : Nat) : Int), (B, b, s), (C, d, t))) := by
     rw [← ecs_set ((K : Int), ((K + 1 : Nat) : Int), (B, b, s), (C, d, t)) (by omega)]
     rw [set_same (i := j * 4 + 2) (by rw [List.getElem?_set_ne (by omega), List.getElem?_set_ne (by omega)]; exact y2), set_same (i := j * 4 + 3) (by rw [List.getElem?_set_ne (by omega), List.getElem?_set_ne (by omega)]; exact y3)]
    rw [hset2] at sl2
    have hO2 := hO.grow (fp' := fpA (some ad)) (fun x hx => .inl hx) hkB
    obtain ⟨z1, z2⟩ := eh_get hy
    have i1 : (pre ++ eh ys)[pre.length + 2 * j]? = some (B, b, s) := by rw [List.getElem?_append_right (by omega), Nat.add_sub_cancel_left]; exact z1
    have i2 : (pre ++ eh ys)[pre.length + (2 * j + 1)]? = some (C, d, t) := by rw [List.getElem?_append_right (by omega), Nat.add_sub_cancel_left]; exact z2
    have hI1 := hO2.rows _ (List.mem_of_getElem? i1)
    obtain ⟨p, hp⟩ : ∃ p, p = s.length := ⟨_, rfl⟩
    obtain ⟨r, hr⟩ : ∃ r, r = t.length := ⟨_, rfl⟩
    have hC1 := markIntS_any B b s (K + 2) W2 hI1 (by omega)
    have hC2 := fun (W : World) (hI : IS W C d t) => markIntS_any C d t (K + 2 + p) W hI (by omega)
    simp only [← hp] at hC1 q2 hKb
    simp only [← hr] at hC2 hKb
    have hjI : (j : Int) < (m : Int) := by omega
    have f0 := g0 (j * 4)
    have hBfp : ∀ x, x ∈ fpA B → x ∈ fpR (eh ys) := fun x hx => mem_fpR.2 ⟨_, List.mem_of_getElem? z1, hx⟩
    have hCfp : ∀ x, x ∈ fpA C → x ∈ fpR (eh ys) := fun x hx => mem_fpR.2 ⟨_, List.mem_of_getElem? z2, hx⟩
    have hfeq := fpR_map hfe
    have hBA : ∀ x, x ∈ fpA B → ¬ x ∈ fpA (some ad) := hO2.outer _ (List.mem_of_getElem? i1)
    rw [← hK]
    have eK1 : ((K : Int) + 1) = ((K + 1 : Nat) : Int) := by omega
    have eK2 : ((K : Int) + 1 + 1) = ((K + 2 : Nat) : Int) := by omega
    clear g0 g1 y0 y1 y2 y3 sl1 his hO hset2 hI1 hyl hcl hcs; have hC1_h := lH hC1; have hC2_h := lH hC2; have hp_h := lH hp; have hr_h := lH hr; have hK_h := lH hK; have hye_h := lH hye; have hy_h := lH hy; have hLj_h := lH hLj; have hkB_h := lH hkB; have hO2_h := lH hO2; have sl2_h := lH sl2; have i1_h := lH i1; have i2_h := lH i2; have z1_h := lH z1; have z2_h := lH z2; have hBfp_h := lH hBfp; have hCfp_h := lH hCfp; have hfeq_h := lH hfeq; have hfe_h := lH hfe; have hkp_h := lH hkp; have hel_h := lH hel; have hBA_h := lH hBA; have eK1_h := lH eK1; have eK2_h := lH eK2; clear hC1 hC2 hp hr hK hye hy hLj hkB hO2 sl2 i1 i2 z1 z2 hBfp hCfp hfeq hfe hkp hel hBA eK1 eK2
    go_upto_region 5 with (fail)
    rw [← hW1]
    clear hW1
    go_upto_region 7 with (fail)
    rw [eK1_h.out, ← hW2]
    clear hW2 q0 q1 q1f f0
    go_wp2_with (fail)
    rw [eK2_h.out]
    refine (hC1_h.out).mono ?_
    rintro e w3 ⟨rfl, hI3, hk3⟩
    have hO3 := hO2_h.out.wr i1_h.out hk3 hI3
    have sl3 := sl2_h.out.keeps hk3 (fun x hx hx' => hBA_h.out x hx' hx)
    have i3 : ((pre ++ eh ys).set (pre.length + 2 * j) (B, b, marks (K + 2) p))[pre.length + (2 * j + 1)]? = some (C, d, t) := by
     rw [List.getElem?_set_ne (by omega)]; exact i2_h.out
    have hI4 := hO3.rows _ (List.mem_of_getElem? i3)
    have hjl : j < ys.length := (List.getElem?_eq_some_iff.1 hy_h.out).1
    have q3 : w3.cell? ⟨(ad.add (j * 4)).block, (ad.add (j * 4)).off + 3, none⟩ = some (.slice C r d) := by
     have e := (ecs_get (l := ys.set j ((K : Int), ((K + 1 : Nat) : Int), (B, b, s), (C, d, t))) (j := j) (n := ((K : Int), ((K + 1 : Nat) : Int), (B, b, s), (C, d, t))) (by rw [List.getElem?_set_self hjl])).2.2.2
     obtain ⟨ad', hA', _, hc, _⟩ := Sl.cell sl3 e
     obtain rfl := Option.some.inj hA'
     rw [add_next _ _ 3 (by omega)] at hc
     rw [hr_h.out]; exact hc
    have hC4 := hC2_h.out w3 hI4
    have hk3' := hkB_h.out.trans (Keeps.of_below (Below.refl _ _) _)
    clear q2 hI3 hI4; have hO3_h := lH hO3; have sl3_h := lH sl3; have i3_h := lH i3; have hC4_h := lH hC4; have hk3_h := lH hk3; clear hO3 sl3 i3 hC4 hk3
    go_wp2_with (fail)
    refine (hC4_h.out).mono ?_
    rintro e w4 ⟨rfl, hI5, hk5⟩
    have hO5 := hO3_h.out.wr i3_h.out hk5 hI5
    have hCA : ∀ x, x ∈ fpA C → ¬ x ∈ fpA (some ad) := hO3_h.out.outer _ (List.mem_of_getElem? i3_h.out)
    have sl5 := sl3_h.out.keeps hk5 (fun x hx hx' => hCA x hx' hx)
    have hys : ecs (ys.set j ((K : Int), ((K + 1 : Nat) : Int), (B, b, s), (C, d, t))) = ecs (ys.set j ((K : Int), ((K + 1 : Nat) : Int), (B, b, marks (K + 2) p), (C, d, marks (K + 2 + p) r))) := ecs_congr (by simp only [ec, Hd.val, marks_length]; rw [← hp_h.out, ← hr_h.out])
    rw [hys] at sl5
    have hOe : ((pre ++ eh ys).set (pre.length + 2 * j) (B, b, marks (K + 2) p)).set (pre.length + (2 * j + 1)) (C, d, marks (K + 2 + p) r) = pre ++ eh (ys.set j ((K : Int), ((K + 1 : Nat) : Int), (B, b, marks (K + 2) p), (C, d, marks (K + 2 + p) r))) := by
     rw [List.set_append_right _ _ (by omega), List.set_append_right _ _ (by omega), Nat.add_sub_cancel_left, Nat.add_sub_cancel_left, ← eh_set _ hjl]
    rw [hOe] at hO5
    have hfe2 : (eh (ys.set j ((K : Int), ((K + 1 : Nat) : Int), (B, b, marks (K + 2) p), (C, d, marks (K + 2 + p) r)))).map (·.1) = (eh l).map (·.1) := by
     rw [← eh_set _ hjl, set_fst (l := t) (by rw [List.getElem?_set_ne (by omega)]; exact z2_h.out), set_fst z1_h.out, hfe_h.out]
    have hye2 : (ys.set j ((K : Int), ((K + 1 : Nat) : Int), (B, b, marks (K + 2) p), (C, d, marks (K + 2 + p) r))).map egOf = (marksE k L).take (j + 1) ++ L.drop (j + 1) := by
     rw [List.map_set, hye_h.out]
     have e := take_append_step (l := marksE k L) (m := L) (k := j) (by rw [marksE_length]) (marksE_get hLj_h.out)
     rw [← hK_h.out] at e
     rw [← e, hp_h.out, hr_h.out]; rfl
    have hkf : Keeps (· ∈ fpA (some ad) ++ fpR (eh l)) w w4 := by
     refine ((hkp_h.out.trans (hkB_h.out.mono fun x _ hx => List.mem_append_left _ hx)).trans (hk3_h.out.mono fun x _ hx => ?_)).trans (hk5.mono fun x _ hx => ?_)
     · rw [← hfeq_h.out]; exact List.mem_append_right _ (hBfp_h.out x hx)
     · rw [← hfeq_h.out]; exact List.mem_append_right _ (hCfp_h.out x hx)
    have hcs2 : k + cntE (L.take (j + 1)) = K + 2 + p + r := by
     have e1 : cntE (L.take (j + 1)) = cntE (L.take j) + (2 + s.length + t.length) := cntE_take_succ hLj_h.out
     have := hK_h.out; have := hp_h.out; have := hr_h.out; omega
    have hyl2 : ys.length = m := by have := hel_h.out; rw [ecs_length] at this; omega
    clear hI5 hk5 hCA hys hOe q3; have hO5_h := lH hO5; have sl5_h := lH sl5; have hfe2_h := lH hfe2; have hye2_h := lH hye2; have hkf_h := lH hkf; have hcs2_h := lH hcs2; have hyl2_h := lH hyl2; clear hO5 sl5 hfe2 hye2 hkf hcs2 hyl2
    go_wp2_with (fail)
    go_roundw
    case rel => exact ⟨j + 1, _, by omega, by go_num, by rw [hcs2_h.out]; go_num, by rw [List.length_set]; exact hyl2_h.out, hye2_h.out, sl5_h.out, hO5_h.out, hfe2_h.out, hkf_h.out⟩
    case measure => simp [intOf]; omega
  · obtain rfl : m = j := by omega
    have hye2 : ys.map egOf = marksE k L := by
     rw [hye, List.take_of_length_le (by rw [marksE_length, hLm_h.out]; exact Nat.le_refl _), List.drop_of_length_le (by rw [hLm_h.out]; exact Nat.le_refl _), List.append_nil]
    have hcn : cntE (L.take m) = cntE L := by rw [List.take_of_length_le (by rw [hLm_h.out]; exact Nat.le_refl _)]
    have hye2_h := lH hye2; have hcn_h := lH hcn; have hyl_h := lH hyl; have his_h := lH his; have hO_h := lH hO; have hfe_h := lH hfe; have hkp_h := lH hkp; clear hye2 hcn hyl his hO hfe hkp; clear hye
    go_wp2_with (fail)
    go_ret
    exact ⟨ret_int (by rw [hcn_h.out]), ys, hyl_h.out, hye2_h.out, his_h.out, hO_h.out, hfe_h.out, hkp_h.out.mono fun x _ hx => List.mem_append.1 hx⟩
set_option maxRecDepth 100000 in
set_option maxHeartbeats 2000000 in
theorem eqGraph_law {v v' : Value} {g g' : Gr} {w : World} (h : RdGr w v g) (h' : RdGr w v' g') (ok : OkG g) :
  Calls Tryz.prog 10 #[v, v'] w fun e w' => e = .returned (.bool (decide (g = g'))) ∧ Below w.heap.size w w' := by
 obtain ⟨A, c, hs, ⟨B, b, s⟩, ⟨C, d, t⟩, rfl, e1, e2, e3, hE, hRa, hRb⟩ := h
 obtain ⟨A', c', hs', ⟨B', b', s'⟩, ⟨C', d', t'⟩, rfl, e1', e2', e3', hE', hRa', hRb'⟩ := h'
 obtain ⟨z, es, s0, t0⟩ := g
 obtain ⟨z', es', s0', t0'⟩ := g'
 have a1 : es = hs.map egOf := e1
 have a2 : s = s0 := e2
 have a3 : t = t0 := e3
 have b1 : es' = hs'.map egOf := e1'
 have b2 : s' = s0' := e2'
 have b3 : t' = t0' := e3'
 subst a1 a2 a3 b1 b2 b3
 obtain ⟨⟨ok1, ok2, ok3⟩, ok4, -⟩ := ok
 have ok1' : hs.length ≤ 1048576 := by have : (hs.map egOf).length ≤ 1048576 := ok1; simpa using this
 have ok2' : s.length ≤ 1048576 := ok2
 have ok3' : t.length ≤ 1048576 := ok3
 have hQ0 := fun (W : World) (hb : Below w.heap.size w W) => eqEdgeS_any A A' c c' hs hs' W (hE.below hb) (hE'.below hb) ok1' (fun x hx => ok4 _ (List.mem_map_of_mem hx))
 have hQ1 := fun (W : World) (hb : Below w.heap.size w W) => eqIntS_any B B' b b' s s' W (RdI.below hRa hb) (RdI.below hRa' hb) (by omega)
 have hQ2 := fun (W : World) (hb : Below w.heap.size w W) => eqIntS_any C C' d d' t t' W (RdI.below hRb hb) (RdI.below hRb' hb) (by omega)
 show Calls Tryz.prog _ #[.agg #[.int .i64 z, .slice A hs.length c, .slice B s.length b, .slice C t.length d], .agg #[.int .i64 z', .slice A' hs'.length c', .slice B' s'.length b', .slice C' t'.length d']] w fun e w' => e = .returned (.bool (decide (((z, hs.map egOf, s, t) : Gr) = (z', hs'.map egOf, s', t')))) ∧ Below w.heap.size w w'
 obtain ⟨D, hD⟩ : ∃ D, D = decide (((z, hs.map egOf, s, t) : Gr) = (z', hs'.map egOf, s', t')) := ⟨_, rfl⟩
 obtain ⟨D0, hD0⟩ : ∃ D, D = decide (hs.map egOf = hs'.map egOf) := ⟨_, rfl⟩
 obtain ⟨D1, hD1⟩ : ∃ D, D = decide (s = s') := ⟨_, rfl⟩
 obtain ⟨D2, hD2⟩ : ∃ D, D = decide (t = t') := ⟨_, rfl⟩
 rw [← hD]
 simp only [← hD0] at hQ0
 simp only [← hD1] at hQ1
 simp only [← hD2] at hQ2
 have hDD : D = (decide (z = z') && (D0 && (D1 && D2))) := by
  rw [hD, hD0, hD1, hD2, Bool.eq_iff_iff]; simp
 obtain ⟨n, hn⟩ : ∃ n, n = hs.length := ⟨_, rfl⟩
 obtain ⟨n', hn'⟩ : ∃ n, n = hs'.length := ⟨_, rfl⟩
 obtain ⟨p, hp⟩ : ∃ p, p = s.length := ⟨_, rfl⟩
 obtain ⟨q, hq⟩ : ∃ q, q = t.length := ⟨_, rfl⟩
 obtain ⟨p', hp'⟩ : ∃ p, p = s'.length := ⟨_, rfl⟩
 obtain ⟨q', hq'⟩ : ∃ q, q = t'.length := ⟨_, rfl⟩
 simp only [← hn, ← hn'] at hQ0
 simp only [← hp, ← hp'] at hQ1
 simp only [← hq, ← hq'] at hQ2
 rw [← hn, ← hn', ← hp, ← hq, ← hp', ← hq']
 obtain ⟨W, hW, bW, k0, k1⟩ := allocs2 w (.cells #[.int .i64 z, .slice A n c, .slice B p b, .slice C q d] tGr) (.cells #[.int .i64 z', .slice A' n' c', .slice B' p' b', .slice C' q' d'] tGr)
 obtain ⟨⟨c0, c1, c2, c3⟩, f0, f1, f2, f3⟩ := t_box4 k0
 obtain ⟨⟨d0, d1, d2, d3⟩, g0, g1, g2, g3⟩ := t_box4 k1
 clear hE hE' hRa hRa' hRb hRb' hD hD0 hD1 hD2 hn hn' hp hq hp' hq' e1 e2 e3 e1' e2' e3' ok1 ok2 ok3 ok4
 by_cases e0 : z = z'
 · have t0 : (z != z') = false := by simp [e0]
   rw [decide_eq_true e0] at hDD
   cases D0
   · obtain rfl : D = false := by rw [hDD]; rfl
     clear e0 hDD; have hQ0_h := lH hQ0; have hQ1_h := lH hQ1; have hQ2_h := lH hQ2; have k0_h := lH k0; have k1_h := lH k1; have bW_h := lH bW; clear hQ0 hQ1 hQ2 k0 k1 bW
     go_enter Tryz.func10, Tryz.ntmps10
     go_upto_region 1 with (fail)
     rw [← hW]
     clear hW
     go_wp2_with (fail)
     refine (hQ0_h.out W bW_h.out).mono ?_
     rintro e w1 ⟨rfl, hb1⟩
     go_wp2_with (fail)
     go_ret
     exact ⟨rfl, below_trans bW_h.out hb1 bW_h.out.size⟩
   · cases D1
     · obtain rfl : D = false := by rw [hDD]; rfl
       clear e0 hDD; have hQ0_h := lH hQ0; have hQ1_h := lH hQ1; have hQ2_h := lH hQ2; have k0_h := lH k0; have k1_h := lH k1; have bW_h := lH bW; clear hQ0 hQ1 hQ2 k0 k1 bW
       go_enter Tryz.func10, Tryz.ntmps10
       go_upto_region 1 with (fail)
       rw [← hW]
       clear hW
       go_wp2_with (fail)
       refine (hQ0_h.out W bW_h.out).mono ?_
       rintro e w1 ⟨rfl, hb1⟩
       clear c0 c1 c2 c3 f0 f1 f2 f3 d0 d1 d2 d3 g0 g1 g2 g3
       obtain ⟨⟨c0, c1, c2, c3⟩, f0, f1, f2, f3⟩ := t_box4 (t_box_below k0_h.out hb1)
       obtain ⟨⟨d0, d1, d2, d3⟩, g0, g1, g2, g3⟩ := t_box4 (t_box_below k1_h.out hb1)
       have hB1 := below_trans bW_h.out hb1 bW_h.out.size
       clear hb1; have hB1_h := lH hB1; clear hB1
       go_wp2_with (fail)
       refine (hQ1_h.out w1 hB1_h.out).mono ?_
       rintro e w2 ⟨rfl, hq2⟩
       have hB2 := below_trans hB1_h.out hq2.below hB1_h.out.size
       clear hq2; have hB2_h := lH hB2; clear hB2
       go_wp2_with (fail)
       go_ret
       exact ⟨rfl, hB2_h.out⟩
     · obtain rfl : D = D2 := by rw [hDD]; rfl
       clear e0 hDD; have hQ0_h := lH hQ0; have hQ1_h := lH hQ1; have hQ2_h := lH hQ2; have k0_h := lH k0; have k1_h := lH k1; have bW_h := lH bW; clear hQ0 hQ1 hQ2 k0 k1 bW
       go_enter Tryz.func10, Tryz.ntmps10
       go_upto_region 1 with (fail)
       rw [← hW]
       clear hW
       go_wp2_with (fail)
       refine (hQ0_h.out W bW_h.out).mono ?_
       rintro e w1 ⟨rfl, hb1⟩
       clear c0 c1 c2 c3 f0 f1 f2 f3 d0 d1 d2 d3 g0 g1 g2 g3
       have k0a := t_box_below k0_h.out hb1
       have k1a := t_box_below k1_h.out hb1
       obtain ⟨⟨c0, c1, c2, c3⟩, f0, f1, f2, f3⟩ := t_box4 k0a
       obtain ⟨⟨d0, d1, d2, d3⟩, g0, g1, g2, g3⟩ := t_box4 k1a
       have hB1 := below_trans bW_h.out hb1 bW_h.out.size
       clear hb1; have hB1_h := lH hB1; have k0a_h := lH k0a; have k1a_h := lH k1a; clear hB1 k0a k1a
       go_wp2_with (fail)
       refine (hQ1_h.out w1 hB1_h.out).mono ?_
       rintro e w2 ⟨rfl, hq2⟩
       clear c0 c1 c2 c3 f0 f1 f2 f3 d0 d1 d2 d3 g0 g1 g2 g3
       obtain ⟨⟨c0, c1, c2, c3⟩, f0, f1, f2, f3⟩ := t_box4 (box_qt k0a_h.out hq2)
       obtain ⟨⟨d0, d1, d2, d3⟩, g0, g1, g2, g3⟩ := t_box4 (box_qt k1a_h.out hq2)
       have hB2 := below_trans hB1_h.out hq2.below hB1_h.out.size
       clear hq2; have hB2_h := lH hB2; clear hB2
       go_wp2_with (fail)
       refine (hQ2_h.out w2 hB2_h.out).mono ?_
       rintro e w3 ⟨rfl, hq3⟩
       have hB3 := below_trans hB2_h.out hq3.below hB2_h.out.size
       clear hq3; have hB3_h := lH hB3; clear hB3
       cases D
       · go_wp2_with (fail)
         go_ret
         exact ⟨rfl, hB3_h.out⟩
       · go_wp2_with (fail)
         go_ret
         exact ⟨rfl, hB3_h.out⟩
 · have t0 : (z != z') = true := by simp [e0]
   obtain rfl : D = false := by rw [hDD, decide_eq_false e0]; rfl
   clear e0 hDD; have hQ0_h := lH hQ0; have hQ1_h := lH hQ1; have hQ2_h := lH hQ2; have k0_h := lH k0; have k1_h := lH k1; have bW_h := lH bW; clear hQ0 hQ1 hQ2 k0 k1 bW
   go_enter Tryz.func10, Tryz.ntmps10
   go_upto_region 1 with (fail)
   rw [← hW]
   clear hW
   go_wp2_with (fail)
   go_ret
   exact ⟨rfl, bW_h.out⟩
theorem alloc_box1 (w : World) (o : Obj) : ∃ W, W = w.alloc o ∧ Below w.heap.size w W ∧ W.heap[w.heap.size]? = some o := ⟨_, rfl, t_below_alloc _ _, heap_alloc_new _ _⟩
set_option maxRecDepth 100000 in
set_option maxHeartbeats 2000000 in
theorem markGraph_law {v : Value} {g : Gr} {fp : List Nat} {K : Int} {w : World} (k : Nat) (h : OwGr w v g fp) (hK : K = (k : Int)) (_ok : OkG g) (hl : k + cntG g ≤ 17592186044000 ∧ 0 < k) :
  Calls Tryz.prog 11 #[v, .int .i64 K] w fun e w' => e = .returned (.int .i64 (K + (cntG g : Int))) ∧ HeGr w' v g k fp ∧ Keeps (· ∈ fp) w w' := by
 subst hK
 obtain ⟨A, c, hs, ⟨B, b, s⟩, ⟨C, d, t⟩, rfl, e1, e2, e3, hsl, hO, rfl⟩ := h
 obtain ⟨z, es, s0, t0⟩ := g
 have a1 : es = hs.map egOf := e1
 have a2 : s = s0 := e2
 have a3 : t = t0 := e3
 subst a1 a2 a3
 obtain ⟨⟨ok1, -, -⟩, -, -⟩ := _ok
 have ok1' : hs.length ≤ 1048576 := by have : (hs.map egOf).length ≤ 1048576 := ok1; simpa using this
 obtain ⟨E, hE⟩ : ∃ E, E = cntE (hs.map egOf) := ⟨_, rfl⟩
 obtain ⟨n, hn⟩ : ∃ n, n = hs.length := ⟨_, rfl⟩
 obtain ⟨p, hp⟩ : ∃ p, p = s.length := ⟨_, rfl⟩
 obtain ⟨q, hq⟩ : ∃ q, q = t.length := ⟨_, rfl⟩
 have hcg : cntG (z, hs.map egOf, s, t) = E + p + q := by rw [hE, hp, hq]; rfl
 rw [hcg] at hl ⊢
 have hl2 : k + (E + p + q) ≤ 17592186044000 := hl.1
 obtain ⟨W, hW, bW, k0⟩ := alloc_box1 w (.cells #[.int .i64 z, .slice A n c, .slice B p b, .slice C q d] tGr)
 have hC0 := markEdgeS_any A c n hs [(B, b, s), (C, d, t)] k W (by rw [hn]; exact hsl.below bW) (hO.below bW) hn.symm (by omega) (by rw [← hE]; omega)
 rw [← hE] at hC0
 have hC1 := fun (W' : World) (hI : IS W' B b s) => markIntS_any B b s (k + E) W' hI (by omega)
 have hC2 := fun (W' : World) (hI : IS W' C d t) => markIntS_any C d t (k + E + p) W' hI (by omega)
 simp only [← hp] at hC1
 simp only [← hq] at hC2
 show Calls Tryz.prog _ #[.agg #[.int .i64 z, .slice A hs.length c, .slice B s.length b, .slice C t.length d], .int .i64 (k : Int)] w fun e w' => e = .returned (.int .i64 ((k : Int) + ((E + p + q : Nat) : Int))) ∧ HeGr w' (.agg #[.int .i64 z, .slice A hs.length c, .slice B s.length b, .slice C t.length d]) (z, hs.map egOf, s, t) k (fpA A ++ fpR ((B, b, s) :: (C, d, t) :: eh hs)) ∧ Keeps (· ∈ fpA A ++ fpR ((B, b, s) :: (C, d, t) :: eh hs)) w w'
 have hlt : ∀ x, x ∈ fpA A ++ fpR (((B, b, s) : Hd) :: (C, d, t) :: eh hs) → x < w.heap.size := fun x hx => by
  rcases List.mem_append.1 hx with hx | hx
  · exact hsl.lt x hx
  · exact hO.lt x hx
 obtain ⟨fp, hfp⟩ : ∃ fp, fp = fpA A ++ fpR (((B, b, s) : Hd) :: (C, d, t) :: eh hs) := ⟨_, rfl⟩
 have hsub : ∀ x, x ∈ fpA A ++ fpR (eh hs) → x ∈ fp := fun x hx => by
  rw [hfp, fpR_cons, fpR_cons]; simp only [List.mem_append] at hx ⊢; rcases hx with h | h <;> simp [h]
 have hsubB : ∀ x, x ∈ fpA B → x ∈ fp := fun x hx => by rw [hfp, fpR_cons]; simp [hx]
 have hsubC : ∀ x, x ∈ fpA C → x ∈ fp := fun x hx => by rw [hfp, fpR_cons, fpR_cons]; simp [hx]
 rw [← hfp] at hlt ⊢
 obtain ⟨⟨c0, c1, c2, c3⟩, f0, f1, f2, f3⟩ := t_box4 k0
 rw [← hn, ← hp, ← hq]
 obtain ⟨R1, hR1⟩ : ∃ R : Nat, R = k + E + p := ⟨_, rfl⟩
 obtain ⟨R2, hR2⟩ : ∃ R : Nat, R = k + E + p + q := ⟨_, rfl⟩
 simp only [← hR1] at hC1 hC2
 have hRR : R1 + q = R2 := by omega
 rw [hRR] at hC2
 have hfin : (k : Int) + ((E + p + q : Nat) : Int) = (R2 : Int) := by omega
 rw [hfin]
 obtain ⟨R0, hR0⟩ : ∃ R : Nat, R = k + E := ⟨_, rfl⟩
 simp only [← hR0] at hC0 hC1
 clear hsl hO hl hl2 ok1 ok1' e1 e2 e3 hcg hfin; have hC0_h := lH hC0; have hC1_h := lH hC1; have hC2_h := lH hC2; have hE_h := lH hE; have hn_h := lH hn; have hp_h := lH hp; have hq_h := lH hq; have bW_h := lH bW; have k0_h := lH k0; have hlt_h := lH hlt; have hfp_h := lH hfp; have hsub_h := lH hsub; have hsubB_h := lH hsubB; have hsubC_h := lH hsubC; have hR0_h := lH hR0; have hR1_h := lH hR1; have hR2_h := lH hR2; have hRR_h := lH hRR; clear hC0 hC1 hC2 hE hn hp hq bW k0 hlt hfp hsub hsubB hsubC hR0 hR1 hR2 hRR
 go_enter Tryz.func11, Tryz.ntmps11
 go_upto_region 1 with (fail)
 rw [← hW]
 clear hW
 go_wp2_with (fail)
 refine (hC0_h.out).mono ?_
 rintro e w1 ⟨ys, rfl, hyl, hye, hsl1, hO1, hfe, hk1⟩
 clear c0 c1 c2 c3 f0 f1 f2 f3
 have k1 := t_box_keeps k0_h.out hk1 (fun hx => by have := hlt_h.out _ (hsub_h.out _ hx); omega)
 obtain ⟨⟨c0, c1, c2, c3⟩, f0, f1, f2, f3⟩ := t_box4 k1
 have hC1' := hC1_h.out w1 (hO1.rows (B, b, s) (by simp))
 have hyl_h := lH hyl; have hye_h := lH hye; have hsl1_h := lH hsl1; have hO1_h := lH hO1; have hfe_h := lH hfe; have hk1_h := lH hk1; have k1_h := lH k1; have hC1'_h := lH hC1'; clear hyl hye hsl1 hO1 hfe hk1 k1 hC1'
 go_wp2_with (fail)
 refine (hC1'_h.out).mono ?_
 rintro e w2 ⟨rfl, hI2, hk2⟩
 clear c0 c1 c2 c3 f0 f1 f2 f3
 have k2 := t_box_keeps k1_h.out hk2 (fun hx => by have := hlt_h.out _ (hsubB_h.out _ hx); omega)
 obtain ⟨⟨c0, c1, c2, c3⟩, f0, f1, f2, f3⟩ := t_box4 k2
 have hO2 := hO1_h.out.wr (i := 0) (B := B) (c := b) (l := s) rfl hk2 hI2
 have hsl2 := hsl1_h.out.keeps hk2 (fun x hx hx' => hO1_h.out.outer (B, b, s) (by simp) x hx' hx)
 have hC2' := hC2_h.out w2 (hO2.rows (C, d, t) (by simp))
 clear k2 hI2; have hO2_h := lH hO2; have hsl2_h := lH hsl2; have hk2_h := lH hk2; have hC2'_h := lH hC2'; clear hO2 hsl2 hk2 hC2'
 go_wp2_with (fail)
 refine (hC2'_h.out).mono ?_
 rintro e w3 ⟨rfl, hI3, hk3⟩
 have hO3 := hO2_h.out.wr (i := 1) (B := C) (c := d) (l := t) rfl hk3 hI3
 have hsl3 := hsl2_h.out.keeps hk3 (fun x hx hx' => hO2_h.out.outer (C, d, t) (by simp) x hx' hx)
 have hkf : Keeps (· ∈ fp) w w3 := (((Keeps.of_below bW_h.out _).trans (hk1_h.out.mono fun x _ hx => hsub_h.out x hx)).trans (hk2_h.out.mono fun x _ hx => hsubB_h.out x hx)).trans (hk3.mono fun x _ hx => hsubC_h.out x hx)
 have hHe : HeGr w3 (.agg #[.int .i64 z, .slice A n c, .slice B p b, .slice C q d]) (z, hs.map egOf, s, t) k fp := by
  refine ⟨A, c, ys, (B, b, marks R0 p), (C, d, marks R1 q), ?_, hye_h.out.symm, ?_, ?_, ?_, hO3, ?_⟩
  · rw [hyl_h.out]; simp only [marks_length]; rfl
  · show marks R0 p = marks (k + cntE (hs.map egOf)) s.length
    rw [← hE_h.out, ← hp_h.out, hR0_h.out]
  · show marks R1 q = marks (k + cntE (hs.map egOf) + s.length) t.length
    rw [← hE_h.out, ← hp_h.out, ← hq_h.out, hR1_h.out]
  · rw [hyl_h.out]; exact hsl3
  · rw [hfp_h.out]
    congr 1
    exact fpR_map (by simp only [List.map_cons]; rw [hfe_h.out])
 clear c0 c1 c2 c3 f0 f1 f2 f3 hI3 hk3 hO3 hsl3; have hkf_h := lH hkf; have hHe_h := lH hHe; clear hkf hHe
 go_wp2_with (fail)
 go_ret
 exact ⟨rfl, hHe_h.out, hkf_h.out⟩
end Go.Proofs.YtjompikdkhhlgaaGreatDoor
namespace Go.Proofs.YtjompikdkhhlgaaGreatDoor
open Go.ChangeShapes Go.WideShapes Go.ChangeAt Go.RowKit
set_option maxHeartbeats 40000000 in
set_option maxRecDepth 100000 in
theorem lawWireValues_any (p : Int) (vg : Value) (g : Gr) (Ax : Option Addr) (cx : Nat) (x : List Int) (Ay : Option Addr) (cy : Nat) (y : List Int) (w : World) (hg : RdGr w vg g) (hgg : BigGraph g) (qx : RdI w Ax x) (qy : RdI w Ay y) (_lop : -9223372036854775808 ≤ p) (_hip : p ≤ 9223372036854775807) (hT : Tab w) :
  Calls Tryz.prog 3 #[.int .i64 p, vg, .slice Ax x.length cx, .slice Ay y.length cy] w fun e w' => e = .returned (.bool true) ∧ Below w.heap.size w w' := by
 obtain ⟨Ag, ng, cg, Bg, mg, dg, Cg, kg, eg, rfl⟩ := hg.shape
 obtain ⟨Sg, hSg⟩ : ∃ S, S = szG (g) 1048576 := ⟨_, rfl⟩
 have HSg := lH hSg; clear hSg
 by_cases lenx : x.length ≤ 1048576
 case neg =>
  have gtx : 1048576 < (x.length : Int) := by omega
  go_enter Tryz.func3, Tryz.ntmps3
  go_wp2_with (fail)
  go_ret
  exact ⟨rfl, (Below.refl _ _).alloc (Nat.le_refl _) _⟩
 by_cases leny : y.length ≤ 1048576
 case neg =>
  have gtx : ¬ (1048576 < (x.length : Int)) := by omega
  have gty : 1048576 < (y.length : Int) := by omega
  go_enter Tryz.func3, Tryz.ntmps3
  go_wp2_with (fail)
  go_ret
  exact ⟨rfl, (Below.refl _ _).alloc (Nat.le_refl _) _⟩
 have gtx : ¬ (1048576 < (x.length : Int)) := by omega
 have hx : RdIV w (.slice Ax x.length cx) x := ⟨Ax, cx, rfl, qx⟩
 clear qx
 have gty : ¬ (1048576 < (y.length : Int)) := by omega
 have hy : RdIV w (.slice Ay y.length cy) y := ⟨Ay, cy, rfl, qy⟩
 clear qy
 have hB0 : Below w.heap.size w w := Below.refl _ _
 have hb1 := below_alloc (w) (.cells #[.int .i64 (g).1, .slice Ag ng cg, .slice Bg mg dg, .slice Cg kg eg] 25)
 have hB1 := below_trans hB0 hb1 hB0.size
 have bx1 := heap_alloc_new (w) (.cells #[.int .i64 (g).1, .slice Ag ng cg, .slice Bg mg dg, .slice Cg kg eg] 25)
 have lt_pg : LtL ((w).alloc (.cells #[.int .i64 (g).1, .slice Ag ng cg, .slice Bg mg dg, .slice Cg kg eg] 25)).heap.size [(w).heap.size] := fun b hb => by obtain rfl := List.mem_singleton.1 hb; exact box_lt bx1
 have fr_pg : FreshL (w).heap.size [(w).heap.size] := fun b hb => by obtain rfl := List.mem_singleton.1 hb; exact Nat.le_refl _
 have BX_pg_1 := lH bx1; clear bx1
 by_cases negg : Sg < 0
 case pos =>
  go_enter Tryz.func3, Tryz.ntmps3
  obtain ⟨⟨c1_0, c1_1, c1_2, c1_3⟩, f1_0, f1_1, f1_2, f1_3⟩ := box4 BX_pg_1.out
  go_wp2_with (fail)
  refine (szGraph_law 1048576 (hg.below hB1) hgg (by omega) (by omega)).mono ?_
  rintro e w2 ⟨he2, hb2⟩
  have hB2 := below_trans hB1 hb2 hB1.size
  clear c1_0 c1_1 c1_2 c1_3 f1_0 f1_1 f1_2 f1_3
  rw [← HSg.out] at he2
  subst he2
  go_wp2_with (fail)
  go_ret
  exact ⟨rfl, hB2⟩
 have sokg := szG_ok (by rw [← HSg.out]; omega : 0 ≤ szG (g) 1048576) (by omega)
 have okg := sokg.1
 have sleg : Sg ≤ 1048576 := by rw [HSg.out]; exact sokg.2
 clear sokg
 go_enter Tryz.func3, Tryz.ntmps3
 obtain ⟨⟨c2_0, c2_1, c2_2, c2_3⟩, f2_0, f2_1, f2_2, f2_3⟩ := box4 BX_pg_1.out
 go_wp2_with (fail)
 refine (szGraph_law 1048576 (hg.below hB1) hgg (by omega) (by omega)).mono ?_
 rintro e w2 ⟨he2, hb2⟩
 have hB2 := below_trans hB1 hb2 hB1.size
 clear c2_0 c2_1 c2_2 c2_3 f2_0 f2_1 f2_2 f2_3
 rw [← HSg.out] at he2
 subst he2
 have F3_pg_2 := lH (box_below BX_pg_1.out hb2)
 clear BX_pg_1
 obtain ⟨⟨c4_0, c4_1, c4_2, c4_3⟩, f4_0, f4_1, f4_2, f4_3⟩ := box4 F3_pg_2.out
 go_wp2_with (fail)
 refine (toGraph_law (hg.below hB2) okg).mono ?_
 rintro e w3 ⟨v3, fp3, rfl, o3, fr3, hb3⟩
 have hB3 := below_trans hB2 hb3 hB2.size
 clear c4_0 c4_1 c4_2 c4_3 f4_0 f4_1 f4_2 f4_3
 obtain ⟨A3, n3, c3, B3, m3, d3, C3, k3, e3, rfl⟩ := o3.shape
 have lt_ag := o3.lt
 go_wp2_with (fail)
 refine (toI_law (hx.below hB3) (by omega)).mono ?_
 rintro e w4 ⟨v4, fp4, rfl, o4, fr4, hb4⟩
 have hB4 := below_trans hB3 hb4 hB3.size
 have lt_ax := o4.lt
 go_wp2_with (fail)
 refine (toI_law (hy.below hB4) (by omega)).mono ?_
 rintro e w5 ⟨v5, fp5, rfl, o5, fr5, hb5⟩
 have hB5 := below_trans hB4 hb5 hB4.size
 have lt_ay := o5.lt
 have F5_ag_4 := o3.below hb4
 clear o3
 have F6_ag_5 := F5_ag_4.below hb5
 clear F5_ag_4
 have F7_ax_5 := o4.below hb5
 clear o4
 go_wp2_with (fail)
 refine (sWireValues_law p F6_ag_5.rd F7_ax_5.rd o5.rd okg (by omega) (by omega)).mono ?_
 rintro e w6 ⟨v6_0, fp6_0, rfl, o6r0, fr6_0, hb6⟩
 have hB6 := below_trans hB5 hb6 hB5.size
 have lt_W0 := o6r0.lt
 have F8_pg_3 := lH (box_below F3_pg_2.out hb3)
 clear F3_pg_2
 have F9_pg_4 := lH (box_below F8_pg_3.out hb4)
 clear F8_pg_3
 have F10_pg_5 := lH (box_below F9_pg_4.out hb5)
 clear F9_pg_4
 have F11_pg_6 := lH (box_below F10_pg_5.out hb6)
 clear F10_pg_5
 obtain ⟨⟨c12_0, c12_1, c12_2, c12_3⟩, f12_0, f12_1, f12_2, f12_3⟩ := box4 F11_pg_6.out
 go_wp2_with (fail)
 refine (toGraph_law (hg.below hB6) okg).mono ?_
 rintro e w7 ⟨v7, fp7, rfl, o7, fr7, hb7⟩
 have hB7 := below_trans hB6 hb7 hB6.size
 clear c12_0 c12_1 c12_2 c12_3 f12_0 f12_1 f12_2 f12_3
 obtain ⟨A7, n7, c7, B7, m7, d7, C7, k7, e7, rfl⟩ := o7.shape
 have lt_xg := o7.lt
 have hb8 := below_alloc (w7) (.cells #[.int .i64 (g).1, .slice A7 n7 c7, .slice B7 m7 d7, .slice C7 k7 e7] 31)
 have hB8 := below_trans hB7 hb8 hB7.size
 have bx8 := heap_alloc_new (w7) (.cells #[.int .i64 (g).1, .slice A7 n7 c7, .slice B7 m7 d7, .slice C7 k7 e7] 31)
 have lt_bxg : LtL ((w7).alloc (.cells #[.int .i64 (g).1, .slice A7 n7 c7, .slice B7 m7 d7, .slice C7 k7 e7] 31)).heap.size [(w7).heap.size] := fun b hb => by obtain rfl := List.mem_singleton.1 hb; exact box_lt bx8
 have fr_bxg : FreshL (w7).heap.size [(w7).heap.size] := fun b hb => by obtain rfl := List.mem_singleton.1 hb; exact Nat.le_refl _
 have BX_bxg_8 := lH bx8; clear bx8
 go_wp2_with (fail)
 refine (toI_law (hx.below hB8) (by omega)).mono ?_
 rintro e w9 ⟨v9, fp9, rfl, o9, fr9, hb9⟩
 have hB9 := below_trans hB8 hb9 hB8.size
 have lt_xx := o9.lt
 go_wp2_with (fail)
 refine (toI_law (hy.below hB9) (by omega)).mono ?_
 rintro e w10 ⟨v10, fp10, rfl, o10, fr10, hb10⟩
 have hB10 := below_trans hB9 hb10 hB9.size
 have lt_xy := o10.lt
 have F13_xg_8 := o7.below hb8
 clear o7
 have F14_xg_9 := F13_xg_8.below hb9
 clear F13_xg_8
 have F15_xg_10 := F14_xg_9.below hb10
 clear F14_xg_9
 have F16_xx_10 := o9.below hb10
 clear o9
 have F17_bxg_9 := lH (box_below BX_bxg_8.out hb9)
 clear BX_bxg_8
 have F18_bxg_10 := lH (box_below F17_bxg_9.out hb10)
 clear F17_bxg_9
 obtain ⟨⟨c19_0, c19_1, c19_2, c19_3⟩, f19_0, f19_1, f19_2, f19_3⟩ := box4 F18_bxg_10.out
 go_wp2_with (fail)
 refine (iWireValues_law p F15_xg_10.rd F16_xx_10.rd o10.rd okg (by omega) (by omega) (hT.below hB10 hT.lt)).mono ?_
 rintro e w11 ⟨v11_0, fp11_0, rfl, o11r0, fr11_0, hb11⟩
 have hB11 := below_trans hB10 hb11 hB10.size
 clear c19_0 c19_1 c19_2 c19_3 f19_0 f19_1 f19_2 f19_3
 have lt_G0 := o11r0.lt
 have F20_W0_7 := o6r0.below hb7
 clear o6r0
 have F21_W0_8 := F20_W0_7.below hb8
 clear F20_W0_7
 have F22_W0_9 := F21_W0_8.below hb9
 clear F21_W0_8
 have F23_W0_10 := F22_W0_9.below hb10
 clear F22_W0_9
 have F24_W0_11 := F23_W0_10.below hb11
 clear F23_W0_10
 go_wp2_with (fail)
 refine (eqI_law o11r0.rd F24_W0_11.rd (by have := (by have := wvR_le p g x y; omega); omega)).mono ?_
 rintro e w12 ⟨rfl, hb12⟩
 have hB12 := below_trans hB11 hb12 hB11.size
 rw [decide_eq_true (rfl : (wvR p g x y).1 = (wvR p g x y).1)]
 have F25_bxg_11 := lH (box_below F18_bxg_10.out hb11)
 clear F18_bxg_10
 have F26_bxg_12 := lH (box_below F25_bxg_11.out hb12)
 clear F25_bxg_11
 have F27_pg_7 := lH (box_below F11_pg_6.out hb7)
 clear F11_pg_6
 have F28_pg_8 := lH (box_below F27_pg_7.out hb8)
 clear F27_pg_7
 have F29_pg_9 := lH (box_below F28_pg_8.out hb9)
 clear F28_pg_8
 have F30_pg_10 := lH (box_below F29_pg_9.out hb10)
 clear F29_pg_9
 have F31_pg_11 := lH (box_below F30_pg_10.out hb11)
 clear F30_pg_10
 have F32_pg_12 := lH (box_below F31_pg_11.out hb12)
 clear F31_pg_11
 have F33_xg_11 := F15_xg_10.below hb11
 clear F15_xg_10
 have F34_xg_12 := F33_xg_11.below hb12
 clear F33_xg_11
 go_wp2_with (fail)
 refine beginH (fun w' => w'.heap[(w7).heap.size]? = some (.cells #[.int .i64 (g).1, .slice A7 n7 c7, .slice B7 m7 d7, .slice C7 k7 e7] 31) ∧ w'.heap[(w).heap.size]? = some (.cells #[.int .i64 (g).1, .slice Ag ng cg, .slice Bg mg dg, .slice Cg kg eg] 25)) (by kernel_rfl) ?_
 have hb13 : Below (w12).heap.size (w12) (w12).drew := below_drewN (Below.refl _ _) 1
 have hB13 := below_trans hB12 hb13 hB12.size
 have F36_bxg_13 := lH (box_below F26_bxg_12.out hb13)
 clear F26_bxg_12
 have F37_pg_13 := lH (box_below F32_pg_12.out hb13)
 clear F32_pg_12
 have F38_xg_13 := F34_xg_12.below hb13
 clear F34_xg_12
 refine tkH 0 ?_ rfl ⟨F36_bxg_13.out, F37_pg_13.out⟩ (fun W' hW' => ?_) ?_; rotate_left; · (obtain ⟨q1, q2⟩ := hW'; obtain ⟨⟨ca0, ca1, ca2, ca3⟩, gca0, gca1, gca2, gca3⟩ := box4 q1; obtain ⟨⟨cb0, cb1, cb2, cb3⟩, gcb0, gcb1, gcb2, gcb3⟩ := box4 q2; clear q1 q2; go_simp; first | done | with_reducible rfl)
 simp only [Act.put, nS]
 refine tkH 1 ?_ rfl ⟨F36_bxg_13.out, F37_pg_13.out⟩ (fun W' hW' => ?_) ?_; rotate_left; · (obtain ⟨q1, q2⟩ := hW'; obtain ⟨⟨ca0, ca1, ca2, ca3⟩, gca0, gca1, gca2, gca3⟩ := box4 q1; obtain ⟨⟨cb0, cb1, cb2, cb3⟩, gcb0, gcb1, gcb2, gcb3⟩ := box4 q2; clear q1 q2; go_simp; first | done | with_reducible rfl)
 simp only [Act.put, nS]
 refine' callH 2 (f := _) (args := _) rfl (by kernel_rfl) (by rfl) ?_ ?_; rotate_left 2; · (go_simp; first | done | with_reducible rfl | (constructor <;> with_reducible rfl))
 refine (toGraph_law (hg.below hB13) okg).mono ?_
 rintro e w14 ⟨v14, fp14, rfl, o14, fr14, hb14⟩
 have hB14 := below_trans hB13 hb14 hB13.size
 have F39_bxg_14 := lH (box_below F36_bxg_13.out hb14)
 clear F36_bxg_13
 have F40_pg_14 := lH (box_below F37_pg_13.out hb14)
 clear F37_pg_13
 have F41_xg_14 := F38_xg_13.below hb14
 clear F38_xg_13
 refine ⟨_, rfl, ⟨F39_bxg_14.out, F40_pg_14.out⟩, ?_⟩
 simp only [Act.put, nS]
 refine' callH 3 (f := _) (args := _) rfl (by kernel_rfl) (by rfl) ?_ ?_; rotate_left 2; · (go_simp; first | done | with_reducible rfl | (constructor <;> with_reducible rfl))
 refine (eqGraph_law F41_xg_14.rd o14.rd okg).mono ?_
 rintro e w15 ⟨rfl, hb15⟩
 have hB15 := below_trans hB14 hb15 hB14.size
 have F42_bxg_15 := lH (box_below F39_bxg_14.out hb15)
 clear F39_bxg_14
 have F43_pg_15 := lH (box_below F40_pg_14.out hb15)
 clear F40_pg_14
 have F44_xg_15 := F41_xg_14.below hb15
 clear F41_xg_14
 refine ⟨_, rfl, ⟨F42_bxg_15.out, F43_pg_15.out⟩, ?_⟩
 rw [decide_eq_true (rfl : g = g)]
 simp only [Act.put, nS]
 refine takeH 4 (v := .bool false) rfl (by kernel_rfl) (by kernel_rfl) (by kernel_rfl) (fun _ _ _ h => h) ⟨F42_bxg_15.out, F43_pg_15.out⟩ (by rfl) (fun W' hW' => ?_) ?_; · (go_simp; first | done | with_reducible rfl)
 simp only [Act.put, nS]
 refine doneH (by kernel_rfl) ?_
 go_wp2_with (fail)
 refine (toI_law (hx.below hB15) (by omega)).mono ?_
 rintro e w16 ⟨v16, fp16, rfl, o16, fr16, hb16⟩
 have hB16 := below_trans hB15 hb16 hB15.size
 have lt_tx := o16.lt
 have F45_xx_11 := F16_xx_10.below hb11
 clear F16_xx_10
 have F46_xx_12 := F45_xx_11.below hb12
 clear F45_xx_11
 have F47_xx_13 := F46_xx_12.below hb13
 clear F46_xx_12
 have F48_xx_14 := F47_xx_13.below hb14
 clear F47_xx_13
 have F49_xx_15 := F48_xx_14.below hb15
 clear F48_xx_14
 have F50_xx_16 := F49_xx_15.below hb16
 clear F49_xx_15
 go_wp2_with (fail)
 refine (eqI_law F50_xx_16.rd o16.rd (by omega)).mono ?_
 rintro e w17 ⟨rfl, hb17⟩
 have hB17 := below_trans hB16 hb17 hB16.size
 rw [decide_eq_true (rfl : x = x)]
 go_wp2_with (fail)
 refine (toI_law (hy.below hB17) (by omega)).mono ?_
 rintro e w18 ⟨v18, fp18, rfl, o18, fr18, hb18⟩
 have hB18 := below_trans hB17 hb18 hB17.size
 have lt_ty := o18.lt
 have F51_xy_11 := o10.below hb11
 clear o10
 have F52_xy_12 := F51_xy_11.below hb12
 clear F51_xy_11
 have F53_xy_13 := F52_xy_12.below hb13
 clear F52_xy_12
 have F54_xy_14 := F53_xy_13.below hb14
 clear F53_xy_13
 have F55_xy_15 := F54_xy_14.below hb15
 clear F54_xy_14
 have F56_xy_16 := F55_xy_15.below hb16
 clear F55_xy_15
 have F57_xy_17 := F56_xy_16.below hb17
 clear F56_xy_16
 have F58_xy_18 := F57_xy_17.below hb18
 clear F57_xy_17
 go_wp2_with (fail)
 refine (eqI_law F58_xy_18.rd o18.rd (by omega)).mono ?_
 rintro e w19 ⟨rfl, hb19⟩
 have hB19 := below_trans hB18 hb19 hB18.size
 rw [decide_eq_true (rfl : y = y)]
 have F59_xg_16 := F44_xg_15.below hb16
 clear F44_xg_15
 have F60_xg_17 := F59_xg_16.below hb17
 clear F59_xg_16
 have F61_xg_18 := F60_xg_17.below hb18
 clear F60_xg_17
 have F62_xg_19 := F61_xg_18.below hb19
 clear F61_xg_18
 have F63_bxg_16 := lH (box_below F42_bxg_15.out hb16)
 clear F42_bxg_15
 have F64_bxg_17 := lH (box_below F63_bxg_16.out hb17)
 clear F63_bxg_16
 have F65_bxg_18 := lH (box_below F64_bxg_17.out hb18)
 clear F64_bxg_17
 have F66_bxg_19 := lH (box_below F65_bxg_18.out hb19)
 clear F65_bxg_18
 obtain ⟨⟨c67_0, c67_1, c67_2, c67_3⟩, f67_0, f67_1, f67_2, f67_3⟩ := box4 F66_bxg_19.out
 go_wp2_with (fail)
 refine (markGraph_law (1) F62_xg_19 (by omega) okg (by have := okg.2.2; constructor <;> omega)).mono ?_
 rintro e w20 ⟨rfl, he20, hk20⟩
 have hB20 := below_keeps hB19 hk20 hB19.size (fun b hb => Nat.le_trans hB6.size (fr7 b hb))
 clear c67_0 c67_1 c67_2 c67_3 f67_0 f67_1 f67_2 f67_3
 have F68_xx_17 := F50_xx_16.below hb17
 clear F50_xx_16
 have F69_xx_18 := F68_xx_17.below hb18
 clear F68_xx_17
 have F70_xx_19 := F69_xx_18.below hb19
 clear F69_xx_18
 have F71_xx_20 := F70_xx_19.keeps hk20 (apart_of' lt_xg (fr9.mono (Nat.le_trans (Nat.le_refl _) hb8.size)))
 clear F70_xx_19
 go_wp2_with (fail)
 refine (markI_law (1 + cntG (g)) F71_xx_20 (by omega) (by have := okg.2.2; omega)).mono ?_
 rintro e w21 ⟨rfl, he21, hk21⟩
 have hB21 := below_keeps hB20 hk21 hB20.size (fun b hb => Nat.le_trans hB8.size (fr9 b hb))
 have F72_xy_19 := F58_xy_18.below hb19
 clear F58_xy_18
 have F73_xy_20 := F72_xy_19.keeps hk20 (apart_of' lt_xg (fr10.mono (Nat.le_trans (Nat.le_trans (Nat.le_refl _) hb8.size) hb9.size)))
 clear F72_xy_19
 have F74_xy_21 := F73_xy_20.keeps hk21 (apart_of' lt_xx (fr10))
 clear F73_xy_20
 go_wp2_with (fail)
 refine (markI_law (1 + cntG (g) + (x).length) F74_xy_21 (by omega) (by have := okg.2.2; omega)).mono ?_
 rintro e w22 ⟨rfl, he22, hk22⟩
 have hB22 := below_keeps hB21 hk22 hB21.size (fun b hb => Nat.le_trans hB9.size (fr10 b hb))
 have F75_G0_12 := o11r0.below hb12
 clear o11r0
 have F76_G0_13 := F75_G0_12.below hb13
 clear F75_G0_12
 have F77_G0_14 := F76_G0_13.below hb14
 clear F76_G0_13
 have F78_G0_15 := F77_G0_14.below hb15
 clear F77_G0_14
 have F79_G0_16 := F78_G0_15.below hb16
 clear F78_G0_15
 have F80_G0_17 := F79_G0_16.below hb17
 clear F79_G0_16
 have F81_G0_18 := F80_G0_17.below hb18
 clear F80_G0_17
 have F82_G0_19 := F81_G0_18.below hb19
 clear F81_G0_18
 have F83_G0_20 := F82_G0_19.keeps hk20 (apart_of' lt_xg (fr11_0.mono (Nat.le_trans (Nat.le_trans (Nat.le_trans (Nat.le_refl _) hb8.size) hb9.size) hb10.size)))
 clear F82_G0_19
 have F84_G0_21 := F83_G0_20.keeps hk21 (apart_of' lt_xx (fr11_0.mono (Nat.le_trans (Nat.le_refl _) hb10.size)))
 clear F83_G0_20
 have F85_G0_22 := F84_G0_21.keeps hk22 (apart_of' lt_xy (fr11_0))
 clear F84_G0_21
 have F86_W0_12 := F24_W0_11.below hb12
 clear F24_W0_11
 have F87_W0_13 := F86_W0_12.below hb13
 clear F86_W0_12
 have F88_W0_14 := F87_W0_13.below hb14
 clear F87_W0_13
 have F89_W0_15 := F88_W0_14.below hb15
 clear F88_W0_14
 have F90_W0_16 := F89_W0_15.below hb16
 clear F89_W0_15
 have F91_W0_17 := F90_W0_16.below hb17
 clear F90_W0_16
 have F92_W0_18 := F91_W0_17.below hb18
 clear F91_W0_17
 have F93_W0_19 := F92_W0_18.below hb19
 clear F92_W0_18
 have F94_W0_20 := F93_W0_19.keeps hk20 (apart_of lt_W0 (fr7))
 clear F93_W0_19
 have F95_W0_21 := F94_W0_20.keeps hk21 (apart_of lt_W0 (fr9.mono (Nat.le_trans (Nat.le_trans (Nat.le_refl _) hb7.size) hb8.size)))
 clear F94_W0_20
 have F96_W0_22 := F95_W0_21.keeps hk22 (apart_of lt_W0 (fr10.mono (Nat.le_trans (Nat.le_trans (Nat.le_trans (Nat.le_refl _) hb7.size) hb8.size) hb9.size)))
 clear F95_W0_21
 go_wp2_with (fail)
 refine (eqI_law F85_G0_22.rd F96_W0_22.rd (by have := (by have := wvR_le p g x y; omega); omega)).mono ?_
 rintro e w23 ⟨rfl, hb23⟩
 have hB23 := below_trans hB22 hb23 hB22.size
 rw [decide_eq_true (rfl : (wvR p g x y).1 = (wvR p g x y).1)]
 have F97_G0_23 := F85_G0_22.below hb23
 clear F85_G0_22
 go_wp2_with (fail)
 refine (markI_law (1) F97_G0_23 (by omega) (by have := (by have := wvR_le p g x y; omega); omega)).mono ?_
 rintro e w24 ⟨rfl, he24, hk24⟩
 have hB24 := below_keeps hB23 hk24 hB23.size (fun b hb => Nat.le_trans hB10.size (fr11_0 b hb))
 go_wp2_with (fail)
 refine (heldI_law he24 (by omega) (by have := (by have := wvR_le p g x y; omega); omega)).mono ?_
 rintro e w25 ⟨rfl, hb25⟩
 have hB25 := below_trans hB24 hb25 hB24.size
 have F98_pg_16 := lH (box_below F43_pg_15.out hb16)
 clear F43_pg_15
 have F99_pg_17 := lH (box_below F98_pg_16.out hb17)
 clear F98_pg_16
 have F100_pg_18 := lH (box_below F99_pg_17.out hb18)
 clear F99_pg_17
 have F101_pg_19 := lH (box_below F100_pg_18.out hb19)
 clear F100_pg_18
 have F102_pg_20 := lH (box_keeps F101_pg_19.out hk20 (fun hh => (apart_of lt_pg (fr7.mono (Nat.le_trans (Nat.le_trans (Nat.le_trans (Nat.le_trans (Nat.le_trans (Nat.le_refl _) hb2.size) hb3.size) hb4.size) hb5.size) hb6.size))) _ (List.mem_singleton.2 rfl) hh))
 clear F101_pg_19
 have F103_pg_21 := lH (box_keeps F102_pg_20.out hk21 (fun hh => (apart_of lt_pg (fr9.mono (Nat.le_trans (Nat.le_trans (Nat.le_trans (Nat.le_trans (Nat.le_trans (Nat.le_trans (Nat.le_trans (Nat.le_refl _) hb2.size) hb3.size) hb4.size) hb5.size) hb6.size) hb7.size) hb8.size))) _ (List.mem_singleton.2 rfl) hh))
 clear F102_pg_20
 have F104_pg_22 := lH (box_keeps F103_pg_21.out hk22 (fun hh => (apart_of lt_pg (fr10.mono (Nat.le_trans (Nat.le_trans (Nat.le_trans (Nat.le_trans (Nat.le_trans (Nat.le_trans (Nat.le_trans (Nat.le_trans (Nat.le_refl _) hb2.size) hb3.size) hb4.size) hb5.size) hb6.size) hb7.size) hb8.size) hb9.size))) _ (List.mem_singleton.2 rfl) hh))
 clear F103_pg_21
 have F105_pg_23 := lH (box_below F104_pg_22.out hb23)
 clear F104_pg_22
 have F106_pg_24 := lH (box_keeps F105_pg_23.out hk24 (fun hh => (apart_of lt_pg (fr11_0.mono (Nat.le_trans (Nat.le_trans (Nat.le_trans (Nat.le_trans (Nat.le_trans (Nat.le_trans (Nat.le_trans (Nat.le_trans (Nat.le_trans (Nat.le_refl _) hb2.size) hb3.size) hb4.size) hb5.size) hb6.size) hb7.size) hb8.size) hb9.size) hb10.size))) _ (List.mem_singleton.2 rfl) hh))
 clear F105_pg_23
 have F107_pg_25 := lH (box_below F106_pg_24.out hb25)
 clear F106_pg_24
 obtain ⟨⟨c108_0, c108_1, c108_2, c108_3⟩, f108_0, f108_1, f108_2, f108_3⟩ := box4 F107_pg_25.out
 go_wp2_with (fail)
 refine (toGraph_law (hg.below hB25) okg).mono ?_
 rintro e w26 ⟨v26, fp26, rfl, o26, fr26, hb26⟩
 have hB26 := below_trans hB25 hb26 hB25.size
 clear c108_0 c108_1 c108_2 c108_3 f108_0 f108_1 f108_2 f108_3
 obtain ⟨A26, n26, c26, B26, m26, d26, C26, k26, e26, rfl⟩ := o26.shape
 have lt_yg := o26.lt
 go_wp2_with (fail)
 refine (toI_law (hx.below hB26) (by omega)).mono ?_
 rintro e w27 ⟨v27, fp27, rfl, o27, fr27, hb27⟩
 have hB27 := below_trans hB26 hb27 hB26.size
 have lt_yx := o27.lt
 go_wp2_with (fail)
 refine (toI_law (hy.below hB27) (by omega)).mono ?_
 rintro e w28 ⟨v28, fp28, rfl, o28, fr28, hb28⟩
 have hB28 := below_trans hB27 hb28 hB27.size
 have lt_yy := o28.lt
 have F109_yg_27 := o26.below hb27
 clear o26
 have F110_yg_28 := F109_yg_27.below hb28
 clear F109_yg_27
 have F111_yx_28 := o27.below hb28
 clear o27
 go_wp2_with (fail)
 refine (iWireValues_law p F110_yg_28.rd F111_yx_28.rd o28.rd okg (by omega) (by omega) (hT.below hB28 hT.lt)).mono ?_
 rintro e w29 ⟨v29_0, fp29_0, rfl, o29r0, fr29_0, hb29⟩
 have hB29 := below_trans hB28 hb29 hB28.size
 have lt_H0 := o29r0.lt
 have F112_W0_23 := F96_W0_22.below hb23
 clear F96_W0_22
 have F113_W0_24 := F112_W0_23.keeps hk24 (apart_of lt_W0 (fr11_0.mono (Nat.le_trans (Nat.le_trans (Nat.le_trans (Nat.le_trans (Nat.le_refl _) hb7.size) hb8.size) hb9.size) hb10.size)))
 clear F112_W0_23
 have F114_W0_25 := F113_W0_24.below hb25
 clear F113_W0_24
 have F115_W0_26 := F114_W0_25.below hb26
 clear F114_W0_25
 have F116_W0_27 := F115_W0_26.below hb27
 clear F115_W0_26
 have F117_W0_28 := F116_W0_27.below hb28
 clear F116_W0_27
 have F118_W0_29 := F117_W0_28.below hb29
 clear F117_W0_28
 go_wp2_with (fail)
 refine (eqI_law o29r0.rd F118_W0_29.rd (by have := (by have := wvR_le p g x y; omega); omega)).mono ?_
 rintro e w30 ⟨rfl, hb30⟩
 have hB30 := below_trans hB29 hb30 hB29.size
 rw [decide_eq_true (rfl : (wvR p g x y).1 = (wvR p g x y).1)]
 have F119_G0_25 := he24.below hb25
 clear he24
 have F120_G0_26 := F119_G0_25.below hb26
 clear F119_G0_25
 have F121_G0_27 := F120_G0_26.below hb27
 clear F120_G0_26
 have F122_G0_28 := F121_G0_27.below hb28
 clear F121_G0_27
 have F123_G0_29 := F122_G0_28.below hb29
 clear F122_G0_28
 have F124_G0_30 := F123_G0_29.below hb30
 clear F123_G0_29
 go_wp2_with (fail)
 refine (heldI_law F124_G0_30 (by omega) (by have := (by have := wvR_le p g x y; omega); omega)).mono ?_
 rintro e w31 ⟨rfl, hb31⟩
 have hB31 := below_trans hB30 hb31 hB30.size
 go_wp2_with (fail)
 go_ret
 exact ⟨rfl, hB31⟩
set_option maxRecDepth 100000 in
theorem contractWireValues (H : Type) (enc : TypeId × Value → H) (W : World) (args : Array Value) (ds gs : List (DataW H)) (before : List MemPlace)
  (hval : ∀ (j : Nat) t v, Tryz.f3.params[j]? = some t → args[j]? = some v → Value.okWide Tryz.prog W .any 0 t v)
  (hW : DataW.Whole enc Tryz.prog Tryz.f3.params.toList Rows.fnExactWireValuesSpec.vars false W args.toList ds gs before) (hL : laidMetH Tryz.prog Rows.fnExactWireValuesRow.laid W) :
  Calls Tryz.prog 3 args W fun e W' => ∃ v, e = .returned v ∧ Rows.fnExactWireValuesSpec.post enc Tryz.prog Tryz.f3 false true false false W args v W' := by
 have hW' := hW
 obtain ⟨p, q, hA0, hV, rfl, hfz, hnd⟩ := hW
 have hA : DataW.TrodAll enc Tryz.prog W 0 (fun _ => true) true Tryz.f3.params.toList args.toList ds p := hA0
 have hr : ∀ t ∈ Tryz.f3.params.toList, Tryz.prog.readableRec t = true ∧ t < Tryz.prog.types.size := by
  rw [Tryz.params3]
  intro t ht
  have ht' : t ∈ ([3, 25, 23, 23] : List TypeId) := ht
  rcases List.mem_cons.1 ht' with rfl | ht'
  · exact ⟨by kernel_rfl, of_decide_eq_true (by kernel_rfl)⟩
  rcases List.mem_cons.1 ht' with rfl | ht'
  · exact ⟨by kernel_rfl, of_decide_eq_true (by kernel_rfl)⟩
  rcases List.mem_cons.1 ht' with rfl | ht'
  · exact ⟨by kernel_rfl, of_decide_eq_true (by kernel_rfl)⟩
  rcases List.mem_cons.1 ht' with rfl | ht'
  · exact ⟨by kernel_rfl, of_decide_eq_true (by kernel_rfl)⟩
  cases ht'
 rw [Tryz.params3] at hA hval
 obtain ⟨v0, vs0, d0, ds0, p0, q0, hargs, rfl, rfl, t0, r0⟩ := trodAll_cons hA
 obtain ⟨v1, vs1, d1, ds1, p1, q1, rfl, rfl, rfl, t1, r1⟩ := trodAll_cons r0
 obtain ⟨v2, vs2, d2, ds2, p2, q2, rfl, rfl, rfl, t2, r2⟩ := trodAll_cons r1
 obtain ⟨v3, vs3, d3, ds3, p3, q3, rfl, rfl, rfl, t3, r3⟩ := trodAll_cons r2
 obtain ⟨rfl, rfl, rfl⟩ := trodAll_nil r3
 obtain rfl : args = #[v0, v1, v2, v3] := by cases args; simp_all
 obtain ⟨g, _, _, _, dg, pg, rfl, _⟩ := trodVars_one hV
 obtain ⟨x0, rfl, lo0, hi0⟩ := in_int (hval 0 _ v0 rfl rfl) t0
 obtain ⟨m1, hl1, hg1⟩ := in_Graph (hval 1 _ v1 rfl rfl) t1
 obtain ⟨A2, c2, l2, rfl, hl2⟩ := in_ints (hval 2 _ v2 rfl rfl) t2
 obtain ⟨A3, c3, l3, rfl, hl3⟩ := in_ints (hval 3 _ v3 rfl rfl) t3
 refine (lawWireValues_any x0 v1 m1 A2 c2 l2 A3 c3 l3 W hl1 hg1 hl2 hl3 lo0 hi0 (tab_of_laid hL)).mono fun e W' ⟨he, hb⟩ => ?_
 subst he
 exact ⟨_, rfl, post_true laidOut hW' hb hr vars_ok rfl rfl Tryz.underlying4⟩
set_option maxRecDepth 100000 in
theorem liftedWireValues (os : Os) (started : os.Started) (H : Type) (enc : TypeId × Value → H) (F : Stop.Interp) :
  ReturnsInHanded {} Tryz.checked os 3 .any ((OpenSpec.ofChange Rows.fnExactWireValuesSpec).preRow enc Tryz.prog Tryz.f3 Rows.fnExactWireValuesRow.domain false Rows.fnExactWireValuesRow.laid) (((OpenSpec.ofChange Rows.fnExactWireValuesSpec).at F).post enc Tryz.prog Tryz.f3 false true false false) := by
 obtain ⟨ds, gs, places, hx⟩ : ∃ ds gs places, DataW.whole enc Tryz.prog ((laidWorld os).forCall (fun _ _ => 0) ⟨#[], #[.int .i64 0, .agg #[.int .i64 0, .slice none 0 0, .slice none 0 0, .slice none 0 0], .slice none 0 0, .slice none 0 0], []⟩).memory Tryz.f3.params.toList Rows.fnExactWireValuesSpec.vars false (#[.int .i64 0, .agg #[.int .i64 0, .slice none 0 0, .slice none 0 0, .slice none 0 0], .slice none 0 0, .slice none 0 0] : Array Value).toList 8 = some (ds, gs, places) :=
  ⟨[.lit (.int .i64 0), .agg [.lit (.int .i64 0), .nil, .nil, .nil], .nil, .nil], [Rows.laid_loop_example_g01073_impl_smallPrimes], MemPlace.row ⟨0, 0, none⟩ 4, by kernel_rfl⟩
 refine returnsInHanded_of_row (C := Tryz.checked) (s := OpenSpec.ofChange Rows.fnExactWireValuesSpec) own started (by kernel_rfl) Tryz.func3
  (witness_row_at (enc := enc) (C := Tryz.checked) false (laidWorld os) #[.int .i64 0, .agg #[.int .i64 0, .slice none 0 0, .slice none 0 0, .slice none 0 0], .slice none 0 0, .slice none 0 0] rfl (by kernel_rfl) (by kernel_rfl) (by kernel_rfl)
   (OpenSpec.preRow_of_cond 8 hx (by kernel_rfl) (fun k hk => by cases hk) (by kernel_rfl) (laid_met os _))) ?_
 intro W base args ds gs before hval hW _ _ _ hL _ _
 exact contractWireValues H enc W args ds gs before hval hW hL
theorem saidWireValues : Rows.FnExactWireValuesSaid :=
 OpenClaim.holds_of_cond 3 Tryz.f3 rfl rfl rfl rfl rfl rfl rfl ⟨rfl, rfl, rfl, rfl, rfl⟩ rfl rfl rfl rfl rfl (by kernel_rfl) Tryz.func3 (by kernel_rfl)
  (of_decide_eq_true (by kernel_rfl)) (by unfold Func.isWrapper; first | (rw [if_pos (by decide +kernel)]; kernel_rfl) | (rw [if_neg (by decide +kernel)]; exact ⟨rfl, rfl⟩))
  (fun os started H enc _ F => by rw [OpenClaim.pre_eq_preRow]; exact liftedWireValues os started H enc F)
theorem plainWireValues (f : FuncId) (fn : Func) (hf : Tryz.pinned.checked.prog.funcNamed "loop.example/g01073/laws.FnExactWireValues" = some f) (hfn : Tryz.pinned.checked.prog.funcs[f]? = some fn) :
  false = Tryz.pinned.checked.prog.looks [] ∧ ∀ (j : Nat) t, fn.params[j]? = some t → Tryz.pinned.checked.prog.wantsStandIn t = false := by
 obtain rfl : f = 3 := Option.some.inj ((show Tryz.prog.funcNamed "loop.example/g01073/laws.FnExactWireValues" = some 3 by kernel_rfl).symm.trans hf) |>.symm
 obtain rfl : fn = Tryz.f3 := (Option.some.inj (Tryz.func3.symm.trans hfn)).symm
 refine ⟨by kernel_rfl, fun j t ht => ?_⟩
 rw [Tryz.params3] at ht
 have ht' : t ∈ ([3, 25, 23, 23] : List TypeId) := by have := Array.mem_of_getElem? ht; simpa using this
 rcases List.mem_cons.1 ht' with rfl | ht'
 · exact (show Tryz.prog.wantsStandIn 3 = false by kernel_rfl)
 rcases List.mem_cons.1 ht' with rfl | ht'
 · exact (show Tryz.prog.wantsStandIn 25 = false by kernel_rfl)
 rcases List.mem_cons.1 ht' with rfl | ht'
 · exact (show Tryz.prog.wantsStandIn 23 = false by kernel_rfl)
 rcases List.mem_cons.1 ht' with rfl | ht'
 · exact (show Tryz.prog.wantsStandIn 23 = false by kernel_rfl)
 cases ht'
theorem cardWireValues : Rows.FnExactWireValuesCardSaid :=
 Claim7.holds_tied_plain_at .later [] _ _ _ _ saidWireValues (fun _ h => by cases h) (by kernel_rfl) (fun _ h => by cases h) fnExactWireValues_row_tie rfl ⟨rfl, rfl⟩ (by kernel_rfl) rfl plainWireValues (by kernel_rfl)
#print axioms cardWireValues
end Go.Proofs.YtjompikdkhhlgaaGreatDoor
