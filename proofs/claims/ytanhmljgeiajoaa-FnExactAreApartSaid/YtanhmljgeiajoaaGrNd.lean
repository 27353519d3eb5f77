/-
  THE WALKS: slices.Index, slices.Contains, hgMeets, mtSide, Graph.passes, mayShare, areMonogamous of three graphs.
-/
import Derived.Test.YtanhmljgeiajoaaGrNa
namespace Go.Proofs.Ytanhmljgeiajoaa
open Go.RowKit

/-- the first place of x -/
def idxN : List Int → Int → Nat
  | [], _ => 0
  | y :: r, x => if y = x then 0 else idxN r x + 1
def idxI (l : List Int) (x : Int) : Int := if l.contains x then (idxN l x : Int) else -1
theorem idxN_at : ∀ {l : List Int} {x : Int} {k : Nat}, l[k]? = some x → (l.take k).contains x = false → idxN l x = k
  | [], x, k, h, _ => by simp at h
  | y :: r, x, 0, h, _ => by
    obtain rfl : y = x := by simpa using h
    simp [idxN]
  | y :: r, x, k + 1, h, hn => by
    have h1 : ¬ y = x := fun e => by
      rw [List.take_succ_cons, Bool.eq_false_iff, ne_eq, List.contains_iff_mem] at hn
      exact hn (by simp [e])
    have hn2 : (r.take k).contains x = false := by
      rw [List.take_succ_cons, Bool.eq_false_iff, ne_eq, List.contains_iff_mem] at hn
      rw [Bool.eq_false_iff, ne_eq, List.contains_iff_mem]
      exact fun hh => hn (List.mem_cons_of_mem _ hh)
    have h2 : r[k]? = some x := by simpa using h
    rw [idxN, if_neg h1, idxN_at h2 hn2]
theorem idxN_get : ∀ {l : List Int} {x : Int}, x ∈ l → l[idxN l x]? = some x
  | [], x, h => by cases h
  | y :: r, x, h => by
    unfold idxN
    by_cases e : y = x
    · rw [if_pos e, e]; rfl
    · rw [if_neg e]
      rcases List.mem_cons.1 h with h | h
      · exact absurd h.symm e
      · simpa using idxN_get h
theorem idxI_at {l : List Int} {x : Int} {k : Nat} (h : l[k]? = some x) (hn : (l.take k).contains x = false) : idxI l x = (k : Int) := by
  unfold idxI
  rw [if_pos (by rw [List.contains_iff_mem]; exact List.mem_of_getElem? h), idxN_at h hn]
theorem idxI_no {l : List Int} {x : Int} (h : l.contains x = false) : idxI l x = -1 := by unfold idxI; rw [h]; rfl
theorem idxI_has (l : List Int) (x : Int) : decide (0 ≤ idxI l x) = l.contains x := by
  unfold idxI
  cases h : l.contains x
  · rfl
  · exact decide_eq_true (by simp)
theorem take_snoc_not {l : List Int} {k : Nat} {x y : Int} (hy : l[k]? = some y) (hn : (l.take k).contains x = false) (hyx : ¬ y = x) : (l.take (k + 1)).contains x = false := by
  rw [List.take_add_one, hy, Bool.eq_false_iff, ne_eq, List.contains_iff_mem]
  rw [Bool.eq_false_iff, ne_eq, List.contains_iff_mem] at hn
  intro hh
  rcases List.mem_append.1 hh with hh | hh
  · exact hn hh
  · simp at hh; exact hyx hh.symm

set_option maxHeartbeats 2000000 in
theorem index_any (A : Option Addr) (c m : Nat) (l : List Int) (x : Int) (w : World) (h : RdI w A l) (hm : l.length = m) (hl : m ≤ 1048576) :
    Calls Try.prog 112 #[.slice A m c, .int .i64 x] w fun e w' => e = .returned (.int .i64 (idxI l x)) ∧ w' = w := by
  obtain ⟨T, hT⟩ : ∃ T, T = idxI l x := ⟨_, rfl⟩
  rw [← hT]
  have hT_h := Lib.hid hT
  have hm_h := Lib.hid hm
  clear hT hm
  go_enter Try.func112, Try.ntmps112
  go_wp2_with (fail)
  go_loopw [8] (fun i wr => ∃ k : Nat, k ≤ m ∧ i = .int .i64 k ∧ (l.take k).contains x = false ∧ wr = w) (fun i _ => m - (intOf i).toNat)
  case atStart => exact ⟨0, Nat.zero_le _, rfl, by simp, rfl⟩
  case round =>
    obtain ⟨k, hk, rfl, hno, rfl⟩ := hrel
    by_cases hlt : k < m
    · obtain ⟨ad, y, rfl, hy, hc⟩ := h.at_ (j := k) (by rw [hm_h.out]; exact hlt)
      have hkI : (k : Int) < (m : Int) := by omega
      by_cases hyx : y = x
      · subst hyx
        have hbq : (y == y) = true := by simp
        have ht : T = (k : Int) := by rw [hT_h.out]; exact idxI_at hy hno
        have hy_h := Lib.hid hy
        have hno_h := Lib.hid hno
        have ht_h := Lib.hid ht
        clear hy hno ht
        go_wp2_with (fail)
        go_ret
        exact ⟨by rw [ht_h.out]; rfl, rfl⟩
      · have hbq : (x == y) = false := by rw [beq_eq_false_iff_ne]; exact fun e => hyx e.symm
        have hno2 := take_snoc_not hy hno hyx
        have hy_h := Lib.hid hy
        have hno_h := Lib.hid hno
        have hno2_h := Lib.hid hno2
        clear hy hno hno2
        go_wp2_with (fail)
        go_roundw
        case rel => exact ⟨k + 1, by omega, by go_num, hno2_h.out, trivial⟩
        case measure => simp [intOf]; omega
    · obtain rfl : m = k := by omega
      rw [List.take_of_length_le (by rw [hm_h.out]; exact Nat.le_refl _)] at hno
      have ht : T = -1 := by rw [hT_h.out]; exact idxI_no hno
      have hno_h := Lib.hid hno
      have ht_h := Lib.hid ht
      clear hno ht
      go_wp2_with (fail)
      go_ret
      exact ⟨by rw [ht_h.out]; rfl, rfl⟩
set_option maxHeartbeats 2000000 in
theorem contains_any (A : Option Addr) (c m : Nat) (l : List Int) (x : Int) (w : World) (h : RdI w A l) (hm : l.length = m) (hl : m ≤ 1048576) :
    Calls Try.prog 111 #[.slice A m c, .int .i64 x] w fun e w' => e = .returned (.bool (l.contains x)) ∧ w' = w := by
  have hI := index_any A c m l x w h hm hl
  have hT := idxI_has l x
  obtain ⟨i, hi⟩ : ∃ i, i = idxI l x := ⟨_, rfl⟩
  obtain ⟨T, hTe⟩ : ∃ T, T = l.contains x := ⟨_, rfl⟩
  rw [← hi] at hI hT
  rw [← hTe] at hT ⊢
  clear h hm hi hTe
  have hI_h := Lib.hid hI
  have hT_h := Lib.hid hT
  clear hI hT
  go_enter Try.func111, Try.ntmps111
  go_wp2_with (fail)
  refine (hI_h.out).mono ?_
  rintro e w1 ⟨rfl, rfl⟩
  go_wp2_with (fail)
  go_ret
  exact ⟨by rw [← hT_h.out]; rfl, rfl⟩

set_option maxHeartbeats 2000000 in
theorem hgMeets_any (A B : Option Addr) (c d m n : Nat) (l s : List Int) (w : World) (h : RdI w A l) (h' : RdI w B s) (hm : l.length = m) (hn : s.length = n) (hl : m ≤ 1048576) (hl' : n ≤ 1048576) :
    Calls Try.prog 109 #[.slice A m c, .slice B n d] w fun e w' => e = .returned (.bool (l.any fun x => s.contains x)) ∧ w' = w := by
  obtain ⟨T, hT⟩ : ∃ T, T = l.any fun x => s.contains x := ⟨_, rfl⟩
  rw [← hT]
  have hH := fun (x : Int) => l1Has_any B d n s x w h' hn hl'
  have hT_h := Lib.hid hT
  have hm_h := Lib.hid hm
  have hn_h := Lib.hid hn
  have hH_h := Lib.hid hH
  clear hT hm hn hH
  go_enter Try.func109, Try.ntmps109
  go_wp2_with (fail)
  go_loopw [9] (fun i wr => ∃ k : Nat, k ≤ m ∧ i = .int .i64 k ∧ ((l.take k).any fun x => s.contains x) = false ∧ wr = w) (fun i _ => m - (intOf i).toNat)
  case atStart => exact ⟨0, Nat.zero_le _, rfl, by simp, rfl⟩
  case round =>
    obtain ⟨k, hk, rfl, hno, rfl⟩ := hrel
    by_cases hlt : k < m
    · obtain ⟨ad, y, rfl, hy, hc⟩ := h.at_ (j := k) (by rw [hm_h.out]; exact hlt)
      have hkI : (k : Int) < (m : Int) := by omega
      obtain ⟨b, hb⟩ : ∃ b, b = s.contains y := ⟨_, rfl⟩
      have hH1 := hH_h.out y
      rw [← hb] at hH1
      have hstep : ((l.take (k + 1)).any fun x => s.contains x) = b := by rw [List.take_add_one, hy, List.any_append, hno, hb]; simp
      cases b
      case true =>
        have ht : T = true := by
          rw [hT_h.out, List.any_eq_true]
          exact ⟨y, List.mem_of_getElem? hy, hb.symm⟩
        subst ht
        have hy_h := Lib.hid hy
        have hno_h := Lib.hid hno
        have hH1_h := Lib.hid hH1
        have hb_h := Lib.hid hb
        have hstep_h := Lib.hid hstep
        clear hy hno hH1 hb hstep
        go_wp2_with (fail)
        refine (hH1_h.out).mono ?_
        rintro e w1 ⟨rfl, rfl⟩
        go_wp2_with (fail)
        go_ret
        exact ⟨rfl, rfl⟩
      case false =>
        have hy_h := Lib.hid hy
        have hno_h := Lib.hid hno
        have hH1_h := Lib.hid hH1
        have hb_h := Lib.hid hb
        have hstep_h := Lib.hid hstep
        clear hy hno hH1 hb hstep
        go_wp2_with (fail)
        refine (hH1_h.out).mono ?_
        rintro e w1 ⟨rfl, rfl⟩
        go_wp2_with (fail)
        go_roundw
        case rel => exact ⟨k + 1, by omega, by go_num, hstep_h.out, trivial⟩
        case measure => simp [intOf]; omega
    · obtain rfl : m = k := by omega
      rw [List.take_of_length_le (by rw [hm_h.out]; exact Nat.le_refl _), ← hT_h.out] at hno
      subst hno
      go_wp2_with (fail)
      go_ret
      exact ⟨rfl, rfl⟩
set_option maxHeartbeats 2000000 in
theorem mtSide_any (A B : Option Addr) (c d m n : Nat) (l s : List Int) (x : Int) (w : World) (h : RdI w A l) (h' : RdI w B s) (hm : l.length = m) (hn : s.length = n) (hl : m ≤ 1048576) (hl' : n ≤ 1048576) :
    Calls Try.prog 110 #[.slice A m c, .slice B n d, .int .i64 x] w fun e w' => e = .returned (.bool (sideB l s x)) ∧ w' = w := by
  have h1 := l1Has_any A c m l x w h hm hl
  have h2 := l1Has_any B d n s x w h' hn hl'
  unfold sideB
  obtain ⟨b1, hb1⟩ : ∃ b, b = l.contains x := ⟨_, rfl⟩
  obtain ⟨b2, hb2⟩ : ∃ b, b = s.contains x := ⟨_, rfl⟩
  rw [← hb1] at h1 ⊢
  rw [← hb2] at h2 ⊢
  clear h h' hm hn hb1 hb2
  have h1_h := Lib.hid h1
  have h2_h := Lib.hid h2
  clear h1 h2
  go_enter Try.func110, Try.ntmps110
  go_wp2_with (fail)
  refine (h1_h.out).mono ?_
  rintro e w1 ⟨rfl, rfl⟩
  cases b1
  case false =>
    go_wp2_with (fail)
    go_ret
    exact ⟨rfl, rfl⟩
  case true =>
    go_wp2_with (fail)
    refine (h2_h.out).mono ?_
    rintro e w1 ⟨rfl, rfl⟩
    go_wp2_with (fail)
    go_ret
    exact ⟨rfl, rfl⟩
set_option maxRecDepth 100000 in
set_option maxHeartbeats 4000000 in
theorem passes_any {v : Value} {g : Gr} (x : Int) (w : World) (h : RdGr w v g) (ok : OkG g) :
    Calls Try.prog 135 #[v, .int .i64 x] w fun e w' => e = .returned (.bool (g.2.2.1.contains x && g.2.2.2.contains x)) ∧ Below w.heap.size w w' := by
  obtain ⟨A, c, hs, ⟨B, b, s⟩, ⟨C, d, t⟩, rfl, e1, e2, e3, hE, hRa, hRb⟩ := h
  obtain ⟨z, L, s0, t0⟩ := g
  have a2 : s = s0 := e2
  have a3 : t = t0 := e3
  subst a2 a3
  have ls : s.length ≤ 1048576 := ok.1.2.1
  have lt : t.length ≤ 1048576 := ok.1.2.2
  have hRs : RdI w B s := hRa
  have hRt : RdI w C t := hRb
  show Calls Try.prog _ #[.agg #[.int .i64 z, .slice A hs.length c, .slice B s.length b, .slice C t.length d], .int .i64 x] w fun e w' => e = .returned (.bool (s.contains x && t.contains x)) ∧ Below w.heap.size w w'
  obtain ⟨q, hq⟩ : ∃ p, p = hs.length := ⟨_, rfl⟩
  obtain ⟨p, hp⟩ : ∃ p, p = s.length := ⟨_, rfl⟩
  obtain ⟨r, hr⟩ : ∃ p, p = t.length := ⟨_, rfl⟩
  have h1 := fun (W : World) (hb : Below w.heap.size w W) => contains_any B b p s x W (hRs.below hb) hp.symm (by omega)
  have h2 := fun (W : World) (hb : Below w.heap.size w W) => contains_any C d r t x W (hRt.below hb) hr.symm (by omega)
  obtain ⟨b1, hb1⟩ : ∃ b, b = s.contains x := ⟨_, rfl⟩
  obtain ⟨b2, hb2⟩ : ∃ b, b = t.contains x := ⟨_, rfl⟩
  simp only [← hb1] at h1
  simp only [← hb2] at h2
  rw [← hq, ← hp, ← hr, ← hb1, ← hb2]
  obtain ⟨W, hW, bW, k0⟩ := alloc_box1g w (.cells #[.int .i64 z, .slice A q c, .slice B p b, .slice C r d] tGr)
  obtain ⟨⟨c0, c1, c2, c3⟩, f0, f1, f2, f3⟩ := box4 k0
  clear e1 e2 e3 hE hRa hRb hRs hRt ok ls lt hq hp hr hb1 hb2
  have h1_h := Lib.hid h1
  have h2_h := Lib.hid h2
  have k0_h := Lib.hid k0
  have bW_h := Lib.hid bW
  clear h1 h2 k0 bW
  go_enter Try.func135, Try.ntmps135
  go_upto_region 1 with (fail)
  rw [← hW]
  clear hW
  go_wp2_with (fail)
  refine ((h1_h.out _ bW_h.out)).mono ?_
  rintro e w1 ⟨rfl, rfl⟩
  cases b1
  case false =>
    go_wp2_with (fail)
    go_ret
    exact ⟨rfl, bW_h.out⟩
  case true =>
    go_wp2_with (fail)
    refine ((h2_h.out _ bW_h.out)).mono ?_
    rintro e w2 ⟨rfl, rfl⟩
    go_wp2_with (fail)
    go_ret
    exact ⟨by cases b2 <;> rfl, bW_h.out⟩
set_option maxRecDepth 100000 in
set_option maxHeartbeats 4000000 in
theorem mayShare_any {v v' : Value} {g g' : Gr} (x y : Int) (w : World) (h : RdGr w v g) (h' : RdGr w v' g') (ok : OkG g) (ok' : OkG g') :
    Calls Try.prog 113 #[v, .int .i64 x, v', .int .i64 y] w fun e w' => e = .returned (.bool (shareB g x g' y)) ∧ Below w.heap.size w w' := by
  rw [← mayB_eq]
  have hP1 := fun (W : World) (hb : Below w.heap.size w W) => passes_any x W (h.below hb) ok
  have hP2 := fun (W : World) (hb : Below w.heap.size w W) => passes_any y W (h'.below hb) ok'
  obtain ⟨A, c, hs, ⟨B, b, s⟩, ⟨C, d, t⟩, rfl, e1, e2, e3, hE, hRa, hRb⟩ := h
  obtain ⟨A', c', hs', ⟨B', b', s'⟩, ⟨C', d', t'⟩, rfl, e1', e2', e3', hE', hRa', hRb'⟩ := h'
  obtain ⟨z, L, s0, t0⟩ := g
  obtain ⟨z', L', s0', t0'⟩ := g'
  have a2 : s = s0 := e2
  have a3 : t = t0 := e3
  have a2' : s' = s0' := e2'
  have a3' : t' = t0' := e3'
  subst a2 a3 a2' a3'
  have ls : s.length ≤ 1048576 := ok.1.2.1
  have lt : t.length ≤ 1048576 := ok.1.2.2
  have ls' : s'.length ≤ 1048576 := ok'.1.2.1
  have lt' : t'.length ≤ 1048576 := ok'.1.2.2
  have hRs : RdI w B s := hRa
  have hRt : RdI w C t := hRb
  have hRs' : RdI w B' s' := hRa'
  have hRt' : RdI w C' t' := hRb'
  show Calls Try.prog _ #[.agg #[.int .i64 z, .slice A hs.length c, .slice B s.length b, .slice C t.length d], .int .i64 x, .agg #[.int .i64 z', .slice A' hs'.length c', .slice B' s'.length b', .slice C' t'.length d'], .int .i64 y] w _
  change ∀ W, Below w.heap.size w W → Calls Try.prog _ #[.agg #[.int .i64 z, .slice A hs.length c, .slice B s.length b, .slice C t.length d], .int .i64 x] W fun e w' => e = .returned (.bool (s.contains x && t.contains x)) ∧ Below W.heap.size W w' at hP1
  change ∀ W, Below w.heap.size w W → Calls Try.prog _ #[.agg #[.int .i64 z', .slice A' hs'.length c', .slice B' s'.length b', .slice C' t'.length d'], .int .i64 y] W fun e w' => e = .returned (.bool (s'.contains y && t'.contains y)) ∧ Below W.heap.size W w' at hP2
  obtain ⟨M, hM⟩ : ∃ M, M = mayB (z, L, s, t) x (z', L', s', t') y := ⟨_, rfl⟩
  rw [← hM]
  unfold mayB at hM
  simp only at hM
  obtain ⟨q, hq⟩ : ∃ p, p = hs.length := ⟨_, rfl⟩
  obtain ⟨p, hp⟩ : ∃ p, p = s.length := ⟨_, rfl⟩
  obtain ⟨r, hr⟩ : ∃ p, p = t.length := ⟨_, rfl⟩
  obtain ⟨q', hq'⟩ : ∃ p, p = hs'.length := ⟨_, rfl⟩
  obtain ⟨p', hp'⟩ : ∃ p, p = s'.length := ⟨_, rfl⟩
  obtain ⟨r', hr'⟩ : ∃ p, p = t'.length := ⟨_, rfl⟩
  have h1 := fun (W : World) (hb : Below w.heap.size w W) => contains_any C d r t x W (hRt.below hb) hr.symm (by omega)
  have h2 := fun (W : World) (hb : Below w.heap.size w W) => contains_any B' b' p' s' y W (hRs'.below hb) hp'.symm (by omega)
  have h3 := fun (W : World) (hb : Below w.heap.size w W) => contains_any B b p s x W (hRs.below hb) hp.symm (by omega)
  have h4 := fun (W : World) (hb : Below w.heap.size w W) => contains_any C' d' r' t' y W (hRt'.below hb) hr'.symm (by omega)
  obtain ⟨b1, hb1⟩ : ∃ b, b = t.contains x := ⟨_, rfl⟩
  obtain ⟨b2, hb2⟩ : ∃ b, b = s'.contains y := ⟨_, rfl⟩
  obtain ⟨b3, hb3⟩ : ∃ b, b = s.contains x := ⟨_, rfl⟩
  obtain ⟨b4, hb4⟩ : ∃ b, b = t'.contains y := ⟨_, rfl⟩
  simp only [← hb1] at h1
  simp only [← hb2] at h2
  simp only [← hb3] at h3
  simp only [← hb4] at h4
  simp only [← hb1, ← hb3] at hP1
  simp only [← hb2, ← hb4] at hP2
  rw [← hb1, ← hb2, ← hb3, ← hb4] at hM
  rw [← hq, ← hp, ← hr] at hP1
  rw [← hq', ← hp', ← hr'] at hP2
  rw [← hq, ← hp, ← hr, ← hq', ← hp', ← hr']
  obtain ⟨P1, hP1e⟩ : ∃ P, P = (b3 && b1) := ⟨_, rfl⟩
  obtain ⟨P2, hP2e⟩ : ∃ P, P = (b2 && b4) := ⟨_, rfl⟩
  simp only [← hP1e] at hP1
  simp only [← hP2e] at hP2
  rw [← hP1e, ← hP2e] at hM
  obtain ⟨W, hW, bW, k0, k1⟩ := allocs2 w (.cells #[.int .i64 z, .slice A q c, .slice B p b, .slice C r d] tGr) (.cells #[.int .i64 z', .slice A' q' c', .slice B' p' b', .slice C' r' d'] tGr)
  obtain ⟨⟨c0, c1, c2, c3⟩, f0, f1, f2, f3⟩ := box4 k0
  obtain ⟨⟨d0, d1, d2, d3⟩, g0, g1, g2, g3⟩ := box4 k1
  clear e1 e2 e3 hE hRa hRb hRs hRt ok ls lt hq hp hr hb1 hb2 e1' e2' e3' hE' hRa' hRb' hRs' hRt' ok' ls' lt' hq' hp' hr' hb3 hb4
  have h1_h := Lib.hid h1
  have h2_h := Lib.hid h2
  have h3_h := Lib.hid h3
  have h4_h := Lib.hid h4
  have k0_h := Lib.hid k0
  have k1_h := Lib.hid k1
  have bW_h := Lib.hid bW
  have hP1_h := Lib.hid hP1
  have hP2_h := Lib.hid hP2
  have hM_h := Lib.hid hM
  have hP1e_h := Lib.hid hP1e
  have hP2e_h := Lib.hid hP2e
  clear h1 h2 h3 h4 k0 k1 bW hP1 hP2 hM hP1e hP2e
  go_enter Try.func113, Try.ntmps113
  go_upto_region 1 with (fail)
  rw [← hW]
  clear hW
  go_cut [16] (fun sv wx => sv = .bool (P1 || P2) ∧ Below W.heap.size W wx)
  case first =>
    go_wp2_with (fail)
    refine ((hP1_h.out _ bW_h.out)).mono ?_
    rintro e w1 ⟨rfl, hb1⟩
    have k1a := box_below k1_h.out hb1
    have hB1 := below_trans bW_h.out hb1 bW_h.out.size
    clear c0 c1 c2 c3 f0 f1 f2 f3 d0 d1 d2 d3 g0 g1 g2 g3
    obtain ⟨⟨d0, d1, d2, d3⟩, g0, g1, g2, g3⟩ := box4 k1a
    clear k1a
    cases P1
    case true =>
      have hb1_h := Lib.hid hb1
      have hB1_h := Lib.hid hB1
      clear hb1 hB1
      go_wp2_with (fail)
      go_meet
      exact ⟨rfl, hb1_h.out⟩
    have hb1_h := Lib.hid hb1
    have hB1_h := Lib.hid hB1
    clear hb1 hB1
    go_wp2_with (fail)
    refine ((hP2_h.out _ hB1_h.out)).mono ?_
    rintro e w2 ⟨rfl, hb2⟩
    have hb2' := below_trans hb1_h.out hb2 hb1_h.out.size
    clear hb2
    have hb2'_h := Lib.hid hb2'
    clear hb2'
    go_wp2_with (fail)
    go_meet
    exact ⟨by cases P2 <;> rfl, hb2'_h.out⟩
  case rest =>
    obtain ⟨rfl, hWc⟩ := hcut
    obtain ⟨w5, rfl⟩ : ∃ x, x = wc := ⟨_, rfl⟩
    have k0c := box_below k0_h.out hWc
    have k1c := box_below k1_h.out hWc
    have hB5 := below_trans bW_h.out hWc bW_h.out.size
    clear c0 c1 c2 c3 f0 f1 f2 f3 d0 d1 d2 d3 g0 g1 g2 g3 hWc
    obtain ⟨⟨c0, c1, c2, c3⟩, f0, f1, f2, f3⟩ := box4 k0c
    obtain ⟨⟨d0, d1, d2, d3⟩, g0, g1, g2, g3⟩ := box4 k1c
    clear k0c k1c
    obtain ⟨F, hF⟩ : ∃ F, F = (P1 || P2) := ⟨_, rfl⟩
    rw [← hF]
    cases F
    case true =>
      have hm0 : M = false := by rw [hM_h.out, ← hF]; rfl
      subst hm0
      have hF_h := Lib.hid hF
      have hB5_h := Lib.hid hB5
      clear hF hB5
      go_wp2_with (fail)
      go_ret
      exact ⟨rfl, hB5_h.out⟩
    have hm1 : M = ((b1 && b2) || (b3 && b4)) := by rw [hM_h.out, ← hF]; rfl
    have hF_h := Lib.hid hF
    have hB5_h := Lib.hid hB5
    have hm1_h := Lib.hid hm1
    clear hF hB5 hm1
    go_wp2_with (fail)
    refine ((h1_h.out _ hB5_h.out)).mono ?_
    rintro e w6 ⟨rfl, rfl⟩
    cases b1
    case true =>
      go_wp2_with (fail)
      refine ((h2_h.out _ hB5_h.out)).mono ?_
      rintro e w7 ⟨rfl, rfl⟩
      cases b2
      case true =>
        obtain rfl : M = true := hm1_h.out
        go_wp2_with (fail)
        go_ret
        exact ⟨rfl, hB5_h.out⟩
      go_wp2_with (fail)
      refine ((h3_h.out _ hB5_h.out)).mono ?_
      rintro e w8 ⟨rfl, rfl⟩
      cases b3
      case false =>
        obtain rfl : M = false := hm1_h.out
        go_wp2_with (fail)
        go_ret
        exact ⟨rfl, hB5_h.out⟩
      obtain rfl : M = b4 := hm1_h.out
      go_wp2_with (fail)
      refine ((h4_h.out _ hB5_h.out)).mono ?_
      rintro e w9 ⟨rfl, rfl⟩
      go_wp2_with (fail)
      go_ret
      exact ⟨rfl, hB5_h.out⟩
    go_wp2_with (fail)
    refine ((h3_h.out _ hB5_h.out)).mono ?_
    rintro e w8 ⟨rfl, rfl⟩
    cases b3
    case false =>
      obtain rfl : M = false := hm1_h.out
      go_wp2_with (fail)
      go_ret
      exact ⟨rfl, hB5_h.out⟩
    obtain rfl : M = b4 := hm1_h.out
    go_wp2_with (fail)
    refine ((h4_h.out _ hB5_h.out)).mono ?_
    rintro e w9 ⟨rfl, rfl⟩
    go_wp2_with (fail)
    go_ret
    exact ⟨rfl, hB5_h.out⟩
set_option maxRecDepth 100000 in
set_option maxHeartbeats 4000000 in
theorem areMonogamous3_any {g g' g'' : Gr} (w : World) (qb : Nat) (z : Int) (A : Option Addr) (n c : Nat) (B : Option Addr) (m d : Nat) (C : Option Addr) (l e : Nat) (z' : Int) (A' : Option Addr) (n' c' : Nat) (B' : Option Addr) (m' d' : Nat) (C' : Option Addr) (l' e' : Nat) (z'' : Int) (A'' : Option Addr) (n'' c'' : Nat) (B'' : Option Addr) (m'' d'' : Nat) (C'' : Option Addr) (l'' e'' : Nat)
    (h : RdGr w (.agg #[.int .i64 z, .slice A n c, .slice B m d, .slice C l e]) g) (ok : OkG g) (h' : RdGr w (.agg #[.int .i64 z', .slice A' n' c', .slice B' m' d', .slice C' l' e']) g') (ok' : OkG g') (h'' : RdGr w (.agg #[.int .i64 z'', .slice A'' n'' c'', .slice B'' m'' d'', .slice C'' l'' e'']) g'') (ok'' : OkG g'')
    (hq : w.heap[qb]? = some (.cells #[.int .i64 z, .slice A n c, .slice B m d, .slice C l e, .int .i64 z', .slice A' n' c', .slice B' m' d', .slice C' l' e', .int .i64 z'', .slice A'' n'' c'', .slice B'' m'' d'', .slice C'' l'' e''] tGr)) :
    Calls Try.prog 59 #[.slice (some ⟨qb, 0, none⟩) 3 3] w fun e w' => e = .returned (.bool (monoB g && (monoB g' && monoB g''))) ∧ Below w.heap.size w w' := by
  obtain ⟨T0, hT0⟩ : ∃ D, D = monoB g := ⟨_, rfl⟩
  obtain ⟨T1, hT1⟩ : ∃ D, D = monoB g' := ⟨_, rfl⟩
  obtain ⟨T2, hT2⟩ : ∃ D, D = monoB g'' := ⟨_, rfl⟩
  rw [← hT0, ← hT1, ← hT2]
  have hG0 := fun (W' : World) (hb : Below w.heap.size w W') => isMonogamous_any W' (h.below hb) ok
  simp only [← hT0] at hG0
  have hG1 := fun (W' : World) (hb : Below w.heap.size w W') => isMonogamous_any W' (h'.below hb) ok'
  simp only [← hT1] at hG1
  have hG2 := fun (W' : World) (hb : Below w.heap.size w W') => isMonogamous_any W' (h''.below hb) ok''
  simp only [← hT2] at hG2
  clear h h' h'' hT0 hT1 hT2 ok ok' ok''
  have hG0_h := Lib.hid hG0
  have hG1_h := Lib.hid hG1
  have hG2_h := Lib.hid hG2
  have hq_h := Lib.hid hq
  clear hG0 hG1 hG2 hq
  go_enter Try.func59, Try.ntmps59
  go_wp2_with (fail)
  go_loopw [7] (fun i wr => ∃ k : Nat, k ≤ 3 ∧ i = .int .i64 k ∧ (1 ≤ k → T0 = true) ∧ (2 ≤ k → T1 = true) ∧ (3 ≤ k → T2 = true) ∧ Below w.heap.size w wr) (fun i _ => 3 - (intOf i).toNat)
  case atStart => exact ⟨0, by omega, rfl, fun h => by omega, fun h => by omega, fun h => by omega, Below.refl _ _⟩
  case round =>
    obtain ⟨k, hk, rfl, ht0, ht1, ht2, hB⟩ := hrel
    obtain ⟨wo, rfl⟩ : ∃ x, x = wr := ⟨_, rfl⟩
    have kr := box_below hq_h.out hB
    have hcl : ∀ (i : Nat) (u : Value), (#[.int .i64 z, .slice A n c, .slice B m d, .slice C l e, .int .i64 z', .slice A' n' c', .slice B' m' d', .slice C' l' e', .int .i64 z'', .slice A'' n'' c'', .slice B'' m'' d'', .slice C'' l'' e''] : Array Value)[i]? = some u → wo.cell? ⟨qb, i, none⟩ = some u := fun i u hu => by
      simp only [World.cell?, kr]; exact hu
    rcases (by omega : k = 0 ∨ k = 1 ∨ k = 2 ∨ k = 3) with rfl | rfl | rfl | rfl
    · have d0 := hcl 0 _ rfl
      have d1 := hcl 1 _ rfl
      have d2 := hcl 2 _ rfl
      have d3 := hcl 3 _ rfl
      obtain ⟨W6, hW6, bW6, k6⟩ := alloc_box1g wo (.cells #[.int .i64 z, .slice A n c, .slice B m d, .slice C l e] tGr)
      have hB6 := below_trans hB bW6 hB.size
      have hGW := hG0_h.out W6 hB6
      obtain ⟨⟨y0, y1, y2, y3⟩, g0, g1, g2, g3⟩ := box4 k6
      clear ht0 ht1 ht2 hcl kr bW6 k6 hB
      have hB6_h := Lib.hid hB6
      have hGW_h := Lib.hid hGW
      clear hB6 hGW
      go_upto_region 4 with (fail)
      rw [← hW6]
      clear hW6
      go_wp2_with (fail)
      refine (hGW_h.out).mono ?_
      rintro e w7 ⟨rfl, hb7⟩
      have hB7 := below_trans hB6_h.out hb7 hB6_h.out.size
      clear hb7
      cases T0
      case false =>
        have hB7_h := Lib.hid hB7
        clear hB7
        go_wp2_with (fail)
        go_ret
        exact ⟨rfl, hB7_h.out⟩
      case true =>
        have hB7_h := Lib.hid hB7
        clear hB7
        go_wp2_with (fail)
        go_roundw
        case rel => exact ⟨1, by omega, by go_num, fun _ => trivial, fun h => by omega, fun h => by omega, hB7_h.out⟩
        case measure => simp [intOf]
    · have d0 := hcl 4 _ rfl
      have d1 := hcl 5 _ rfl
      have d2 := hcl 6 _ rfl
      have d3 := hcl 7 _ rfl
      have hx0 := ht0 (by omega)
      subst hx0
      obtain ⟨W6, hW6, bW6, k6⟩ := alloc_box1g wo (.cells #[.int .i64 z', .slice A' n' c', .slice B' m' d', .slice C' l' e'] tGr)
      have hB6 := below_trans hB bW6 hB.size
      have hGW := hG1_h.out W6 hB6
      obtain ⟨⟨y0, y1, y2, y3⟩, g0, g1, g2, g3⟩ := box4 k6
      clear ht0 ht1 ht2 hcl kr bW6 k6 hB
      have hB6_h := Lib.hid hB6
      have hGW_h := Lib.hid hGW
      clear hB6 hGW
      go_upto_region 4 with (fail)
      rw [← hW6]
      clear hW6
      go_wp2_with (fail)
      refine (hGW_h.out).mono ?_
      rintro e w7 ⟨rfl, hb7⟩
      have hB7 := below_trans hB6_h.out hb7 hB6_h.out.size
      clear hb7
      cases T1
      case false =>
        have hB7_h := Lib.hid hB7
        clear hB7
        go_wp2_with (fail)
        go_ret
        exact ⟨rfl, hB7_h.out⟩
      case true =>
        have hB7_h := Lib.hid hB7
        clear hB7
        go_wp2_with (fail)
        go_roundw
        case rel => exact ⟨2, by omega, by go_num, fun _ => trivial, fun _ => trivial, fun h => by omega, hB7_h.out⟩
        case measure => simp [intOf]
    · have d0 := hcl 8 _ rfl
      have d1 := hcl 9 _ rfl
      have d2 := hcl 10 _ rfl
      have d3 := hcl 11 _ rfl
      have hx0 := ht0 (by omega)
      subst hx0
      have hx1 := ht1 (by omega)
      subst hx1
      obtain ⟨W6, hW6, bW6, k6⟩ := alloc_box1g wo (.cells #[.int .i64 z'', .slice A'' n'' c'', .slice B'' m'' d'', .slice C'' l'' e''] tGr)
      have hB6 := below_trans hB bW6 hB.size
      have hGW := hG2_h.out W6 hB6
      obtain ⟨⟨y0, y1, y2, y3⟩, g0, g1, g2, g3⟩ := box4 k6
      clear ht0 ht1 ht2 hcl kr bW6 k6 hB
      have hB6_h := Lib.hid hB6
      have hGW_h := Lib.hid hGW
      clear hB6 hGW
      go_upto_region 4 with (fail)
      rw [← hW6]
      clear hW6
      go_wp2_with (fail)
      refine (hGW_h.out).mono ?_
      rintro e w7 ⟨rfl, hb7⟩
      have hB7 := below_trans hB6_h.out hb7 hB6_h.out.size
      clear hb7
      cases T2
      case false =>
        have hB7_h := Lib.hid hB7
        clear hB7
        go_wp2_with (fail)
        go_ret
        exact ⟨rfl, hB7_h.out⟩
      case true =>
        have hB7_h := Lib.hid hB7
        clear hB7
        go_wp2_with (fail)
        go_roundw
        case rel => exact ⟨3, by omega, by go_num, fun _ => trivial, fun _ => trivial, fun _ => trivial, hB7_h.out⟩
        case measure => simp [intOf]
    · have hx0 := ht0 (by omega)
      have hx1 := ht1 (by omega)
      have hx2 := ht2 (by omega)
      subst hx0 hx1 hx2
      clear ht0 ht1 ht2 hcl kr
      have hB_h := Lib.hid hB
      clear hB
      go_wp2_with (fail)
      go_ret
      exact ⟨rfl, hB_h.out⟩
end Go.Proofs.Ytanhmljgeiajoaa
