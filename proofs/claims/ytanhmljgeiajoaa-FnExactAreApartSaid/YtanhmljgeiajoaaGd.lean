/-
  GRAPHS: how edges (structs of two ints and two slices of ints) and graphs lie in memory.
-/
import Derived.Test.YtanhmljgeiajoaaIntss
import Derived.Test.YtanhmljgeiajoaaTmL
namespace Go.Proofs.Ytanhmljgeiajoaa
open Go.RowKit

abbrev tEd : TypeId := 85
abbrev tGr : TypeId := 31
/-- An edge: kind, value, wires that come in, wires that go out. -/
abbrev Eg := Int × Int × List Int × List Int
/-- An edge as it lies. -/
abbrev EHd := Int × Int × Hd × Hd
/-- A graph: wires, edges, In, Out. -/
abbrev Gr := Int × List Eg × List Int × List Int
instance decEg : DecidableEq Eg := inferInstance
instance decEgs : DecidableEq (List Eg) := inferInstance
instance decGr : DecidableEq Gr := inferInstance
def egOf (h : EHd) : Eg := (h.1, h.2.1, h.2.2.1.2.2, h.2.2.2.2.2)
def ec (h : EHd) : List Value := [.int .i64 h.1, .int .i64 h.2.1, Hd.val h.2.2.1, Hd.val h.2.2.2]
def ecs : List EHd → List Value
  | [] => []
  | h :: r => ec h ++ ecs r
theorem ecs_append (l m : List EHd) : ecs (l ++ m) = ecs l ++ ecs m := by
  induction l with
  | nil => rfl
  | cons n r ih => simp [ecs, ih]
@[simp] theorem ecs_length (l : List EHd) : (ecs l).length = l.length * 4 := by
  induction l with
  | nil => rfl
  | cons n r ih => simp only [ecs, ec, List.length_append, List.length_cons, List.length_nil, ih]; omega
theorem ecs_one (l : List EHd) : ∀ u ∈ ecs l, u.oneCell' = true := by
  induction l with
  | nil => intro u h; cases h
  | cons n r ih =>
    intro u h
    rcases List.mem_append.1 h with h | h
    · simp only [ec, List.mem_cons, List.not_mem_nil, or_false] at h
      rcases h with rfl | rfl | rfl | rfl <;> rfl
    · exact ih u h
theorem ecs_take : ∀ (l : List EHd) (k : Nat), ecs (l.take k) = (ecs l).take (k * 4)
  | [], k => by simp [ecs]
  | n :: r, 0 => by simp [ecs]
  | n :: r, k + 1 => by
    rw [show (k + 1) * 4 = k * 4 + 1 + 1 + 1 + 1 by omega]
    simp only [List.take_succ_cons, ecs, ec, List.cons_append, List.nil_append, ecs_take r k]
theorem ecs_drop : ∀ (l : List EHd) (k : Nat), ecs (l.drop k) = (ecs l).drop (k * 4)
  | [], k => by simp [ecs]
  | n :: r, 0 => by simp [ecs]
  | n :: r, k + 1 => by
    rw [show (k + 1) * 4 = k * 4 + 1 + 1 + 1 + 1 by omega]
    simp only [List.drop_succ_cons, ecs, ec, List.cons_append, List.nil_append, ecs_drop r k]
theorem ecs_get {l : List EHd} {j : Nat} {n : EHd} (h : l[j]? = some n) : (ecs l)[j * 4]? = some (.int .i64 n.1) ∧ (ecs l)[j * 4 + 1]? = some (.int .i64 n.2.1) ∧ (ecs l)[j * 4 + 2]? = some (Hd.val n.2.2.1) ∧ (ecs l)[j * 4 + 3]? = some (Hd.val n.2.2.2) := by
  induction l generalizing j with
  | nil => simp at h
  | cons a r ih =>
    cases j with
    | zero =>
      obtain rfl : a = n := by simpa using h
      simp [ecs, ec]
    | succ j =>
      have := ih (j := j) (by simpa using h)
      have hl : (ec a).length = 4 := rfl
      simp only [ecs]
      rw [List.getElem?_append_right (by omega), List.getElem?_append_right (by omega), List.getElem?_append_right (by omega), List.getElem?_append_right (by omega), hl]
      rw [show (j + 1) * 4 - 4 = j * 4 by omega, show (j + 1) * 4 + 1 - 4 = j * 4 + 1 by omega, show (j + 1) * 4 + 2 - 4 = j * 4 + 2 by omega, show (j + 1) * 4 + 3 - 4 = j * 4 + 3 by omega]
      exact this
theorem ecs_set {l : List EHd} {j : Nat} (n : EHd) (h : j < l.length) : ((((ecs l).set (j * 4) (.int .i64 n.1)).set (j * 4 + 1) (.int .i64 n.2.1)).set (j * 4 + 2) (Hd.val n.2.2.1)).set (j * 4 + 3) (Hd.val n.2.2.2) = ecs (l.set j n) := by
  induction l generalizing j with
  | nil => simp at h
  | cons a r ih =>
    cases j with
    | zero => simp [ecs, ec]
    | succ j =>
      have := ih (j := j) (by simpa using h)
      have hl : (ec a).length = 4 := rfl
      simp only [ecs, List.set_cons_succ]
      rw [List.set_append_right _ _ (by omega), List.set_append_right _ _ (by omega), List.set_append_right _ _ (by omega), List.set_append_right _ _ (by omega), hl]
      rw [show (j + 1) * 4 - 4 = j * 4 by omega, show (j + 1) * 4 + 1 - 4 = j * 4 + 1 by omega, show (j + 1) * 4 + 2 - 4 = j * 4 + 2 by omega, show (j + 1) * 4 + 3 - 4 = j * 4 + 3 by omega]
      rw [this]
/-- The lists of edges, in their order. -/
def eh : List EHd → List Hd
  | [] => []
  | h :: r => h.2.2.1 :: h.2.2.2 :: eh r
theorem eh_append (l m : List EHd) : eh (l ++ m) = eh l ++ eh m := by
  induction l with
  | nil => rfl
  | cons n r ih => simp [eh, ih]
theorem mem_eh {l : List EHd} {x : Hd} : x ∈ eh l ↔ ∃ h, h ∈ l ∧ (x = h.2.2.1 ∨ x = h.2.2.2) := by
  induction l with
  | nil => simp [eh]
  | cons n r ih =>
    simp only [eh, List.mem_cons, ih]
    constructor
    · rintro (h | h | ⟨y, hy, h⟩)
      · exact ⟨n, .inl rfl, .inl h⟩
      · exact ⟨n, .inl rfl, .inr h⟩
      · exact ⟨y, .inr hy, h⟩
    · rintro ⟨y, rfl | hy, h⟩
      · rcases h with h | h
        · exact .inl h
        · exact .inr (.inl h)
      · exact .inr (.inr ⟨y, hy, h⟩)

/-- The header may be read as edges. -/
def RdE (w : World) (A : Option Addr) (hs : List EHd) : Prop := RdC w A (ecs hs) ∧ ∀ h, h ∈ hs → RdI w h.2.2.1.1 h.2.2.1.2.2 ∧ RdI w h.2.2.2.1 h.2.2.2.2.2
/-- Lists of ints of the program's own: whole, apart from each other and from the blocks fp. -/
structure OwLs (w : World) (fp : List Nat) (ls : List Hd) : Prop where
  rows : ∀ h, h ∈ ls → IS w h.1 h.2.1 h.2.2
  apart : ls.Pairwise fun h h' => ∀ b, b ∈ fpA h.1 → ¬ b ∈ fpA h'.1
  outer : ∀ h, h ∈ ls → ∀ b, b ∈ fpA h.1 → ¬ b ∈ fp
section
variable {w w' : World} {A : Option Addr} {cap : Nat} {hs : List EHd} {fp : List Nat} {ls : List Hd}
theorem OwLs.below (h : OwLs w fp ls) (hb : Below w.heap.size w w') : OwLs w' fp ls := ⟨fun x hx => (h.rows x hx).below hb, h.apart, h.outer⟩
theorem OwLs.keeps (h : OwLs w fp ls) {S : Nat → Prop} (hk : Keeps S w w') (hS : ∀ b, b ∈ fpR ls → ¬ S b) : OwLs w' fp ls :=
  ⟨fun x hx => (h.rows x hx).keeps hk fun b hb => hS b (mem_fpR.2 ⟨x, hx, hb⟩), h.apart, h.outer⟩
theorem OwLs.lt (h : OwLs w fp ls) : ∀ b, b ∈ fpR ls → b < w.heap.size := fun b hb => by
  obtain ⟨x, hx, hb⟩ := mem_fpR.1 hb; exact (h.rows x hx).lt b hb
theorem OwLs.nil (w : World) (fp : List Nat) : OwLs w fp [] := ⟨fun h hh => (by cases hh), .nil, fun h hh => (by cases hh)⟩
theorem OwLs.sub (h : OwLs w fp ls) {ms : List Hd} (hm : ms.Sublist ls) : OwLs w fp ms := ⟨fun x hx => h.rows x (hm.mem hx), h.apart.sublist hm, fun x hx => h.outer x (hm.mem hx)⟩
theorem OwLs.fps (h : OwLs w fp ls) {fp' : List Nat} (hf : ∀ b, b ∈ fp' → b ∈ fp) : OwLs w fp' ls := ⟨h.rows, h.apart, fun x hx b hb hb' => h.outer x hx b hb (hf b hb')⟩
theorem fpR_append (l m : List Hd) : fpR (l ++ m) = fpR l ++ fpR m := by simp [fpR]
theorem fpR_cons (x : Hd) (m : List Hd) : fpR (x :: m) = fpA x.1 ++ fpR m := by simp [fpR]
/-- New lists behind them. -/
theorem OwLs.app (h : OwLs w fp ls) (hb : Below w.heap.size w w') {ms : List Hd} (hm : OwLs w' [] ms) (hf : FreshL w.heap.size (fpR ms)) (hlt : ∀ b, b ∈ fp → b < w.heap.size) : OwLs w' fp (ls ++ ms) := by
  refine ⟨fun y hy => ?_, ?_, fun y hy b hb1 hb2 => ?_⟩
  · rcases List.mem_append.1 hy with hy | hy
    · exact (h.rows y hy).below hb
    · exact hm.rows y hy
  · refine List.pairwise_append.2 ⟨h.apart, hm.apart, fun y hy z hz b hb1 hb2 => ?_⟩
    have := (h.rows y hy).lt b hb1
    have := hf b (mem_fpR.2 ⟨z, hz, hb2⟩)
    omega
  · rcases List.mem_append.1 hy with hy | hy
    · exact h.outer y hy b hb1 hb2
    · have := hf b (mem_fpR.2 ⟨y, hy, hb1⟩); have := hlt b hb2; omega
/-- The row that names them has grown. -/
theorem OwLs.grow (h : OwLs w fp ls) {fp' : List Nat} (hf : ∀ b, b ∈ fp' → b ∈ fp ∨ w.heap.size ≤ b) (hk : Keeps (· ∈ fp) w w') : OwLs w' fp' ls := by
  refine ⟨fun x hx => (h.rows x hx).keeps hk fun b hb hb' => h.outer x hx b hb hb', h.apart, fun x hx b hb hb' => ?_⟩
  rcases hf b hb' with h1 | h1
  · exact h.outer x hx b hb h1
  · have := (h.rows x hx).lt b hb; omega
theorem OwLs.one {x : Hd} (hx : IS w x.1 x.2.1 x.2.2) : OwLs w [] [x] := ⟨fun y hy => by obtain rfl := List.mem_singleton.1 hy; exact hx, List.pairwise_singleton _ _, fun y _ b _ hb => by cases hb⟩
theorem OwLs.two {x y : Hd} (hx : IS w x.1 x.2.1 x.2.2) (hb : Below w.heap.size w w') (hy : IS w' y.1 y.2.1 y.2.2) (hf : Fresh w.heap.size y.1) : OwLs w' [] [x, y] :=
  (OwLs.one hx).app (ms := [y]) hb (OwLs.one hy) (fun b hb' => hf b (by simpa [fpR] using hb')) (fun b hb' => by cases hb')
theorem OwLs.cons (h : OwLs w fp ls) (hb : Below w.heap.size w w') {x : Hd} (hx : IS w' x.1 x.2.1 x.2.2) (hf : Fresh w.heap.size x.1) (hlt : ∀ b, b ∈ fp → b < w.heap.size) : OwLs w' fp (x :: ls) := by
  refine ⟨fun y hy => ?_, ?_, fun y hy b hb1 hb2 => ?_⟩
  · rcases List.mem_cons.1 hy with rfl | hy
    · exact hx
    · exact (h.rows y hy).below hb
  · refine List.pairwise_cons.2 ⟨fun y hy b hb1 hb2 => ?_, h.apart⟩
    have := (h.rows y hy).lt b hb2
    have := hf b hb1
    omega
  · rcases List.mem_cons.1 hy with rfl | hy
    · have := hf b hb1; have := hlt b hb2; omega
    · exact h.outer y hy b hb1 hb2
theorem OwLs.perm (h : OwLs w fp ls) {ms : List Hd} (hp : ms.Perm ls) : OwLs w fp ms :=
  ⟨fun x hx => h.rows x (hp.mem_iff.1 hx), (hp.pairwise_iff (fun hxy b hb1 hb2 => hxy b hb2 hb1)).2 h.apart, fun x hx => h.outer x (hp.mem_iff.1 hx)⟩
theorem RdE.below (h : RdE w A hs) (hb : Below w.heap.size w w') : RdE w' A hs := ⟨RdC.below h.1 hb, fun x hx => ⟨(h.2 x hx).1.below hb, (h.2 x hx).2.below hb⟩⟩
theorem RdE.nil (w : World) (A : Option Addr) : RdE w A [] := ⟨RdC.nil w A, fun x hx => by cases hx⟩
theorem RdE.at_ (h : RdE w A hs) {j : Nat} (hj : j < hs.length) : ∃ ad k v B b l C c m, A = some ad ∧ hs[j]? = some (k, v, (B, b, l), (C, c, m)) ∧
    (w.cell? (ad.add (j * 4)) = some (.int .i64 k) ∧ w.cell? ⟨(ad.add (j * 4)).block, (ad.add (j * 4)).off + 1, none⟩ = some (.int .i64 v) ∧ w.cell? ⟨(ad.add (j * 4)).block, (ad.add (j * 4)).off + 2, none⟩ = some (.slice B l.length b) ∧ w.cell? ⟨(ad.add (j * 4)).block, (ad.add (j * 4)).off + 3, none⟩ = some (.slice C m.length c)) ∧ RdI w B l ∧ RdI w C m := by
  obtain ⟨n, hn⟩ : ∃ n, hs[j]? = some n := ⟨_, List.getElem?_eq_getElem hj⟩
  obtain ⟨h0, h1, h2, h3⟩ := ecs_get hn
  obtain ⟨ad, hA, c0⟩ := h.1 _ _ h0
  obtain ⟨ad1, hA1, c1⟩ := h.1 _ _ h1
  obtain ⟨ad2, hA2, c2⟩ := h.1 _ _ h2
  obtain ⟨ad3, hA3, c3⟩ := h.1 _ _ h3
  rw [hA] at hA1 hA2 hA3
  obtain rfl := Option.some.inj hA1
  obtain rfl := Option.some.inj hA2
  obtain rfl := Option.some.inj hA3
  obtain ⟨k, v, ⟨B, b, l⟩, ⟨C, c, m⟩⟩ := n
  have hr := h.2 _ (List.mem_of_getElem? hn)
  rw [add_next _ _ 1 (by omega)] at c1
  rw [add_next _ _ 2 (by omega)] at c2
  rw [add_next _ _ 3 (by omega)] at c3
  exact ⟨ad, k, v, B, b, l, C, c, m, hA, hn, ⟨c0, c1, c2, c3⟩, hr.1, hr.2⟩
end

/-- A GRAPH. -/
def RdGr (w : World) (v : Value) (g : Gr) : Prop := ∃ (A : Option Addr) (cap : Nat) (hs : List EHd) (a b : Hd), v = .agg #[.int .i64 g.1, .slice A hs.length cap, .slice a.1 a.2.2.length a.2.1, .slice b.1 b.2.2.length b.2.1] ∧ g.2.1 = hs.map egOf ∧ a.2.2 = g.2.2.1 ∧ b.2.2 = g.2.2.2 ∧ RdE w A hs ∧ RdI w a.1 a.2.2 ∧ RdI w b.1 b.2.2
def OwGr (w : World) (v : Value) (g : Gr) (fp : List Nat) : Prop := ∃ (A : Option Addr) (cap : Nat) (hs : List EHd) (a b : Hd), v = .agg #[.int .i64 g.1, .slice A hs.length cap, .slice a.1 a.2.2.length a.2.1, .slice b.1 b.2.2.length b.2.1] ∧ g.2.1 = hs.map egOf ∧ a.2.2 = g.2.2.1 ∧ b.2.2 = g.2.2.2 ∧ Sl w tEd 4 A hs.length cap (ecs hs) ∧ OwLs w (fpA A) (a :: b :: eh hs) ∧ fp = fpA A ++ fpR (a :: b :: eh hs)
section
variable {w w' : World} {v : Value} {g : Gr} {fp : List Nat}
theorem RdGr.below (h : RdGr w v g) (hb : Below w.heap.size w w') : RdGr w' v g := by
  obtain ⟨A, c, hs, a, b, rfl, e1, e2, e3, h1, h2, h3⟩ := h; exact ⟨A, c, hs, a, b, rfl, e1, e2, e3, h1.below hb, h2.below hb, h3.below hb⟩
theorem OwGr.rd (h : OwGr w v g fp) : RdGr w v g := by
  obtain ⟨A, c, hs, a, b, rfl, e1, e2, e3, h1, h2, _⟩ := h
  refine ⟨A, c, hs, a, b, rfl, e1, e2, e3, ⟨Sl.rdc h1, fun x hx => ⟨(h2.rows _ ?_).rd, (h2.rows _ ?_).rd⟩⟩, (h2.rows a (by simp)).rd, (h2.rows b (by simp)).rd⟩
  · exact List.mem_cons_of_mem _ (List.mem_cons_of_mem _ (mem_eh.2 ⟨x, hx, .inl rfl⟩))
  · exact List.mem_cons_of_mem _ (List.mem_cons_of_mem _ (mem_eh.2 ⟨x, hx, .inr rfl⟩))
theorem OwGr.below (h : OwGr w v g fp) (hb : Below w.heap.size w w') : OwGr w' v g fp := by
  obtain ⟨A, c, hs, a, b, rfl, e1, e2, e3, h1, h2, e⟩ := h; exact ⟨A, c, hs, a, b, rfl, e1, e2, e3, h1.below hb, h2.below hb, e⟩
theorem OwGr.keeps (h : OwGr w v g fp) {S : Nat → Prop} (hk : Keeps S w w') (hS : ∀ b, b ∈ fp → ¬ S b) : OwGr w' v g fp := by
  obtain ⟨A, c, hs, a, b, rfl, e1, e2, e3, h1, h2, rfl⟩ := h
  exact ⟨A, c, hs, a, b, rfl, e1, e2, e3, h1.keeps hk fun x hx => hS x (List.mem_append_left _ hx), h2.keeps hk fun x hx => hS x (List.mem_append_right _ hx), rfl⟩
theorem OwGr.lt (h : OwGr w v g fp) : LtL w.heap.size fp := by
  obtain ⟨A, c, hs, a, b, rfl, e1, e2, e3, h1, h2, rfl⟩ := h
  intro x hx
  rcases List.mem_append.1 hx with hx | hx
  · exact h1.lt x hx
  · exact h2.lt x hx
theorem RdGr.shape (h : RdGr w v g) : ∃ A n c B m d C k e, v = .agg #[.int .i64 g.1, .slice A n c, .slice B m d, .slice C k e] := by
  obtain ⟨A, c, hs, a, b, rfl, _⟩ := h; exact ⟨_, _, _, _, _, _, _, _, _, rfl⟩
theorem OwGr.shape (h : OwGr w v g fp) : ∃ A n c B m d C k e, v = .agg #[.int .i64 g.1, .slice A n c, .slice B m d, .slice C k e] := h.rd.shape
theorem OwGr.zero (w : World) : OwGr w (.agg #[.int .i64 0, .slice none 0 0, .slice none 0 0, .slice none 0 0]) (0, [], [], []) [] :=
  ⟨none, 0, [], (none, 0, []), (none, 0, []), rfl, rfl, rfl, rfl, Sl.nil _ _ _, ⟨fun x hx => by
    simp [eh] at hx; subst hx; exact Sl.nil _ _ _, by simp [eh], fun x hx b hb => by simp [eh] at hx; subst hx; simp at hb⟩, rfl⟩
theorem box4 {B : Nat} {x y z u : Value} {t : TypeId} (h : w.heap[B]? = some (.cells #[x, y, z, u] t)) :
    (w.cell? ⟨B, 0, none⟩ = some x ∧ w.cell? ⟨B, 1, none⟩ = some y ∧ w.cell? ⟨B, 2, none⟩ = some z ∧ w.cell? ⟨B, 3, none⟩ = some u) ∧ w.frozen? ⟨B, 0, none⟩ = false ∧ w.frozen? ⟨B, 1, none⟩ = false ∧ w.frozen? ⟨B, 2, none⟩ = false ∧ w.frozen? ⟨B, 3, none⟩ = false := by
  simp [World.cell?, World.frozen?, h]
end
/-- How many ints there are in all. -/
def cntE : List Eg → Nat
  | [] => 0
  | e :: r => 2 + e.2.2.1.length + e.2.2.2.length + cntE r
def cntG (g : Gr) : Nat := cntE g.2.1 + g.2.2.1.length + g.2.2.2.length
def OkG (g : Gr) : Prop := (g.2.1.length ≤ 1048576 ∧ g.2.2.1.length ≤ 1048576 ∧ g.2.2.2.length ≤ 1048576) ∧ (∀ e, e ∈ g.2.1 → e.2.2.1.length ≤ 1048576 ∧ e.2.2.2.length ≤ 1048576) ∧ cntG g ≤ 8388608
/-- The marks: what markGraph leaves, from k on. -/
def marksE : Nat → List Eg → List Eg
  | _, [] => []
  | k, e :: r => ((k : Int), ((k + 1 : Nat) : Int), marks (k + 2) e.2.2.1.length, marks (k + 2 + e.2.2.1.length) e.2.2.2.length) :: marksE (k + 2 + e.2.2.1.length + e.2.2.2.length) r
def marksG (k : Nat) (g : Gr) : Gr := (g.1, marksE k g.2.1, marks (k + cntE g.2.1) g.2.2.1.length, marks (k + cntE g.2.1 + g.2.2.1.length) g.2.2.2.length)
def HeGr (w : World) (v : Value) (g : Gr) (k : Nat) (fp : List Nat) : Prop := OwGr w v (marksG k g) fp
theorem HeGr.below {w w' : World} {v : Value} {g : Gr} {k : Nat} {fp : List Nat} (h : HeGr w v g k fp) (hb : Below w.heap.size w w') : HeGr w' v g k fp := OwGr.below h hb
theorem HeGr.keeps {w w' : World} {v : Value} {g : Gr} {k : Nat} {fp : List Nat} (h : HeGr w v g k fp) {S : Nat → Prop} (hk : Keeps S w w') (hS : ∀ b, b ∈ fp → ¬ S b) : HeGr w' v g k fp := OwGr.keeps h hk hS
theorem cntE_append (l m : List Eg) : cntE (l ++ m) = cntE l + cntE m := by
  induction l with
  | nil => simp [cntE]
  | cons e r ih => simp [cntE, ih]; omega
end Go.Proofs.Ytanhmljgeiajoaa
