/-
  THE WALK: slices.Delete of one row (after the shelf's walk of slices.Delete at []int).
-/
import Derived.Test.YtahnhblodfdfhaaDoorElim
import Derived.Test.YtahnhblodfdfhaaDoorOM
import Derived.Deep.RegionLaw
import Derived.Lib.SliceRun
import Derived.Shelf.RegionOpenPlain
namespace Go.Proofs.YtahnhblodfdfhaaDoor
open Go.RowKit

section
variable {w : World} {e : TypeId} {A : Option Addr} {n cap : Nat} {xs : List Value}
theorem Sl.setCells {g off : Nat} : ∀ (vs : List Value) (k : Nat) (w : World) (xs : List Value), Sl w e 1 (some ⟨g, off, none⟩) n cap xs → k + vs.length ≤ n → Sl (w.setCells g (off + k) vs) e 1 (some ⟨g, off, none⟩) n cap (xs.take k ++ vs ++ xs.drop (k + vs.length))
  | [], k, w, xs, h, _ => by simpa [World.setCells] using h
  | v :: r, k, w, xs, h, hk => by
    have hxl : xs.length = n := by have := h.1; omega
    have hk' : k + 1 + r.length ≤ n := by simp at hk; omega
    have h1 := h.set rfl k v (by omega)
    have hadd : (⟨g, off, none⟩ : Addr).add k = ⟨g, off + k, none⟩ := by unfold Addr.add; split <;> simp_all
    rw [hadd] at h1
    have h2 := Sl.setCells r (k + 1) _ _ h1 hk'
    rw [World.setCells]
    have e1 : (xs.set k v).take (k + 1) = xs.take k ++ [v] := by
      rw [List.take_add_one, List.take_set_of_le (Nat.le_refl _), List.getElem?_set_self (by omega)]; rfl
    have e2 : (xs.set k v).drop (k + 1 + r.length) = xs.drop (k + (v :: r).length) := by
      rw [List.drop_set_of_lt (by omega), List.length_cons, show k + 1 + r.length = k + (r.length + 1) by omega]
    rw [e1, e2, List.append_assoc, List.append_assoc] at h2
    rw [List.append_assoc]
    exact h2
theorem keeps_setCells {g : Nat} : ∀ (vs : List Value) (o : Nat) (w0 w : World), Keeps (· = g) w0 w → Keeps (· = g) w0 (w.setCells g o vs)
  | [], _, _, _, h => h
  | v :: r, o, w0, w, h => by
    rw [World.setCells]
    exact keeps_setCells r (o + 1) w0 _ (h.setCell (p := ⟨g, o, none⟩) rfl v)
theorem Sl.shrink (h : Sl w e 1 A n cap xs) {k : Nat} (hk : k ≤ n) : Sl w e 1 A k cap (xs.take k) := by
  obtain ⟨h1, h2, h3, h4⟩ := h
  refine ⟨by rw [List.length_take]; omega, by omega, h3, ?_⟩
  rcases h4 with h4 | ⟨g, off, cur, hA, hg, hc, ht⟩
  · exact .inl h4
  · exact .inr ⟨g, off, cur, hA, hg, hc, by rw [← ht, List.take_take, Nat.mul_one, Nat.mul_one, Nat.min_eq_left hk]⟩
end

set_option maxHeartbeats 4000000 in
set_option maxRecDepth 1000000 in
theorem delete_any (g off cap m i : Nat) (vs : List Value) (w : World) (h : Sl w 33 1 (some ⟨g, off, none⟩) m cap vs) (h1 : ∀ u, u ∈ vs → u.oneCell' = true) (hi : i < m) (hm : m ≤ 1048576) :
    Calls Tryd.prog 110 #[.slice (some ⟨g, off, none⟩) m cap, .int .i64 i, .int .i64 ((i : Int) + 1)] w fun e w' => e = .returned (.slice (some ⟨g, off, none⟩) (m - 1) cap) ∧ Sl w' 33 1 (some ⟨g, off, none⟩) (m - 1) cap (vs.eraseIdx i) ∧ Keeps (· = g) w w' := by
  obtain ⟨i0, hi0, hz0, hz1, hz2⟩ := info_parts info_ints
  have hvl : vs.length = m := by have := h.1; omega
  have hmc : m ≤ cap := h.2.1
  have hcm : cap ≤ maxLen := h.2.2.1
  have hcb : cap ≤ 9223372036854775807 := by simp only [maxLen] at hcm; omega
  obtain ⟨j, hj⟩ : ∃ j, j = i + 1 := ⟨_, rfl⟩
  have hadd : ∀ k, (⟨g, off, none⟩ : Addr).add k = ⟨g, off + k, none⟩ := by intro k; unfold Addr.add; split <;> simp_all
  have hcell : ∀ k u, vs[k]? = some u → w.cell? ⟨g, off + k, none⟩ = some u ∧ w.frozen? ⟨g, off + k, none⟩ = false := by
    intro k u hk
    obtain ⟨ad, hA, _, hc, hf⟩ := h.cell hk
    obtain rfl := Option.some.inj hA
    have hf' := hf k
    rw [hadd] at hc hf'
    exact ⟨hc, hf'⟩
  obtain ⟨news, hnews⟩ : ∃ news, news = vs.drop j := ⟨_, rfl⟩
  have hlen : news.length = m - j := by rw [hnews, List.length_drop, hvl]
  obtain ⟨A, hA, hsrc⟩ : ∃ A : Addr, (if cap = j then some (⟨g, off, none⟩ : Addr) else some ⟨g, off + j, none⟩) = some A ∧ Hid (∀ t u, news[t]? = some u → w.drew.cell? (A.add t) = some u) := by
    by_cases hc : cap = j
    · refine ⟨⟨g, off, none⟩, by simp [hc], Lib.hid fun t u hu => ?_⟩
      have h0 : news.length = 0 := by rw [hlen]; omega
      rw [List.length_eq_zero_iff.1 h0] at hu
      simp at hu
    · refine ⟨⟨g, off + j, none⟩, by simp [hc], Lib.hid fun t u hu => ?_⟩
      rw [hnews, List.getElem?_drop] at hu
      have hadd' : (⟨g, off + j, none⟩ : Addr).add t = ⟨g, off + j + t, none⟩ := by unfold Addr.add; split <;> simp_all
      rw [hadd', show off + j + t = off + (j + t) by omega]
      exact (hcell _ _ hu).1
  have s1 : Hid (news.length = (m - j) * 1) := by rw [Nat.mul_one]; exact hlen
  have s2 : Hid (∀ u ∈ news, u.oneCell' = true) := fun u hu => h1 u (List.mem_of_mem_drop (hnews ▸ hu))
  have s3 : Hid (∀ t, t < news.length → (w.drew.cell? ⟨g, off + i * 1 + t, none⟩).isSome = true ∧ w.drew.frozen? ⟨g, off + i * 1 + t, none⟩ = false) := by
    intro t ht
    rw [hlen] at ht
    obtain ⟨a1, a2⟩ := hcell (i + t) _ (List.getElem?_eq_getElem (by omega))
    rw [Nat.mul_one, Nat.add_assoc]
    exact ⟨by show (w.cell? _).isSome = true; rw [a1]; rfl, a2⟩
  obtain ⟨W1, hW1⟩ : ∃ W1, W1 = w.drew.setCells g (off + i * 1) news := ⟨_, rfl⟩
  have hS1 : Sl W1 33 1 (some ⟨g, off, none⟩) m cap (vs.take i ++ news ++ vs.drop (i + news.length)) := by
    rw [hW1, Nat.mul_one]
    exact Sl.setCells news i _ _ h.drew (by rw [hlen]; omega)
  have hk1 : Keeps (· = g) w W1 := by
    rw [hW1]; exact keeps_setCells news _ w w.drew ⟨rfl, rfl, rfl, Nat.le_refl _, fun _ _ _ => rfl⟩
  have hl1 : (vs.take i ++ news).length = m - 1 := by rw [List.length_append, List.length_take, hlen]; omega
  have hcell1 : ∃ u, W1.cell? ⟨g, off + (m - 1), none⟩ = some u ∧ W1.frozen? ⟨g, off + (m - 1), none⟩ = false := by
    obtain ⟨u, hu⟩ : ∃ u, (vs.take i ++ news ++ vs.drop (i + news.length))[m - 1]? = some u := ⟨_, List.getElem?_eq_getElem (by have := hS1.1; omega)⟩
    obtain ⟨ad, hA', _, hc, hf⟩ := hS1.cell hu
    obtain rfl := Option.some.inj hA'
    have hf' := hf (m - 1)
    rw [hadd] at hc hf'
    exact ⟨u, hc, hf'⟩
  obtain ⟨u1, hu1, hf1⟩ := hcell1
  have hi1 : i + (m - j) = m - 1 := by omega
  have hcl : ∀ ty, (Builtin.clear_ #[22] ty #[.slice (some ⟨g, off + (i + (m - j)), none⟩) (m - (i + (m - j))) (cap - (i + (m - j)))]).run Tryd.prog W1 = .ok (.tuple #[]) (W1.setCells g (off + (i + (m - j))) (List.replicate (m - (i + (m - j))) (.slice none 0 0))) := by
    intro ty
    refine Lib.run_clear_slice W1 _ _ ty (.slice none 0 0) Tryd.underlying22 (fun _ => by kernel_rfl) rfl rfl g (off + (i + (m - j))) _ _ (by omega) (fun t ht => ?_) (fun t ht => ?_)
    · obtain rfl : t = 0 := by omega
      rw [hi1, Nat.add_zero, hu1]; rfl
    · obtain rfl : t = 0 := by omega
      rw [hi1, Nat.add_zero]; exact hf1
  have hfin : Sl (W1.setCells g (off + (i + (m - j))) (List.replicate (m - (i + (m - j))) (.slice none 0 0))) 33 1 (some ⟨g, off, none⟩) (m - 1) cap (vs.eraseIdx i) := by
    have h2 := (Sl.setCells (List.replicate (m - (i + (m - j))) (.slice none 0 0)) (i + (m - j)) _ _ hS1 (by simp; omega)).shrink (k := m - 1) (by omega)
    have e : ((vs.take i ++ news ++ vs.drop (i + news.length)).take (i + (m - j)) ++ List.replicate (m - (i + (m - j))) (Value.slice none 0 0) ++ (vs.take i ++ news ++ vs.drop (i + news.length)).drop (i + (m - j) + (List.replicate (m - (i + (m - j))) (Value.slice none 0 0)).length)).take (m - 1) = vs.eraseIdx i := by
      rw [hi1, List.take_left' hl1, List.append_assoc, List.take_left' hl1, hnews, hj, List.eraseIdx_eq_take_drop_succ]
    rw [e] at h2
    exact h2
  have hkf : Keeps (· = g) w (W1.setCells g (off + (i + (m - j))) (List.replicate (m - (i + (m - j))) (.slice none 0 0))) := keeps_setCells _ _ w W1 hk1
  have HFIN := Lib.hid hfin
  have HKF := Lib.hid hkf
  have hW : Hid (W1 = w.drew.setCells g (off + i * 1) news) := hW1
  have mixed : Tryd.prog.follows .mixedOrders = true := by kernel_rfl
  have hic : i ≤ cap := by omega
  have hjc : j ≤ cap := by omega
  have hjm : j ≤ m := by omega
  have hcx : ¬ (cap = i + (m - j)) := by omega
  have hij : i ≤ j := by omega
  have hjI : ((i : Int) + 1) = (j : Int) := by omega
  have hne : ((i : Int) == (j : Int)) = false := by rw [beq_eq_false_iff_ne]; omega
  have HJ := Lib.hid hj
  rw [hjI]
  clear hW1 hS1 hk1 h hnews hlen hl1 hu1 hf1 hi1 hfin hkf hcell hadd hj hjI hvl h1
  go_enter Tryd.func110, Tryd.ntmps110
  go_wp2_with (fail)
  go_region_law_o (refine step_append_room rfl (.tmp 22) (.tmp 25) 22 rfl 33 i0 1 Tryd.underlying22 hi0 hz1 g off i cap (by simp [Act.eval, Act.put]) A (m - j) (cap - j) news (by simp [Act.eval, Act.put]) s1.out hsrc.out s2.out (by omega) s3.out ?_; rw [← hW.out])
  go_wp2
  go_ret
  exact ⟨by rw [show m - 1 = i + (m - j) by have := HJ.out; omega]; rfl, HFIN.out, HKF.out⟩

theorem map_eraseIdx' {α β : Type} (f : α → β) : ∀ (l : List α) (i : Nat), (l.eraseIdx i).map f = (l.map f).eraseIdx i
  | [], _ => rfl
  | _ :: _, 0 => rfl
  | a :: l, i + 1 => by simp only [List.eraseIdx, List.map_cons]; rw [map_eraseIdx' f l i]
theorem OM.erase {w0 w w' : World} {ad : Addr} {cap : Nat} {L : List (List Int)} {hs : List Hd} (hL : L = hs.map (fun h : Hd => h.2.2)) (hO : OwR w (some ad) cap hs) (hf : ∀ b, b ∈ fpA (some ad) ++ fpR hs → w0.heap.size ≤ b) (h0 : Below w0.heap.size w0 w) {i : Nat} (hi : i < hs.length)
    (hk : Keeps (· = ad.block) w w') (hs' : Sl w' 33 1 (some ad) (hs.length - 1) cap ((hs.map Hd.val).eraseIdx i)) : OM w0 w' (some ad) cap (L.eraseIdx i) := by
  subst hL
  have hlen : (hs.eraseIdx i).length = hs.length - 1 := List.length_eraseIdx_of_lt hi
  refine ⟨hs.eraseIdx i, (map_eraseIdx' _ hs i).symm, ⟨?_, fun x hx => ?_, hO.apart.sublist (List.eraseIdx_sublist _ _), fun x hx => hO.outer x (List.mem_of_mem_eraseIdx hx)⟩, fun b hb => ?_, ?_⟩
  · rw [hlen, map_eraseIdx']; exact hs'
  · have hx' := List.mem_of_mem_eraseIdx hx
    exact (hO.rows x hx').keeps hk fun b hb e => hO.outer x hx' b hb (by simp [e])
  · rcases List.mem_append.1 hb with hb | hb
    · exact hf b (List.mem_append_left _ hb)
    · obtain ⟨x, hx, hb⟩ := mem_fpR.1 hb
      exact hf b (List.mem_append_right _ (mem_fpR.2 ⟨x, List.mem_of_mem_eraseIdx hx, hb⟩))
  · exact below_keeps h0 hk h0.size fun b hb => hf b (List.mem_append_left _ (by simp [hb]))
theorem deleteOM_any {w0 w : World} {A : Option Addr} {cap m : Nat} {L : List (List Int)} (h : OM w0 w A cap L) (hm : L.length = m) {i : Nat} (hi : i < m) (hml : m ≤ 1048576) :
    Calls Tryd.prog 110 #[.slice A m cap, .int .i64 i, .int .i64 ((i : Int) + 1)] w fun e w' => e = .returned (.slice A (m - 1) cap) ∧ OM w0 w' A cap (L.eraseIdx i) := by
  obtain ⟨hs, hL, hO, hf, h0⟩ := h
  have hhl : hs.length = m := by rw [← hm, hL, List.length_map]
  have hsl := hO.sl
  rw [hhl] at hsl
  obtain ⟨x, hx⟩ : ∃ x, (hs.map Hd.val)[i]? = some x := ⟨_, List.getElem?_eq_getElem (by rw [List.length_map]; omega)⟩
  have hsl0 := hsl
  rcases hsl.2.2.2 with ⟨_, hc⟩ | ⟨g, off, cur, rfl, _⟩
  · have := hsl.2.1; omega
  · refine (delete_any g off cap m i _ w hsl0 (fun u hu => by obtain ⟨y, _, rfl⟩ := List.mem_map.1 hu; rfl) hi hml).mono ?_
    rintro e w' ⟨rfl, h1, h2⟩
    exact ⟨rfl, OM.erase hL hO hf h0 (by omega) h2 (by rw [hhl]; exact h1)⟩

/-- The row at i is laid anew as a part of itself. -/
theorem OM.cutRow {w0 w : World} {A : Option Addr} {cap : Nat} {L : List (List Int)} (h : OM w0 w A cap L) {i : Nat} (hi : i < L.length) {ad : Addr} (hA : A = some ad) {B0 : Option Addr} {n0 c0 : Nat} (hc0 : w.cell? (ad.add i) = some (.slice B0 n0 c0)) {B : Option Addr} {c : Nat} {l : List Int} (hx : IS w B c l) (hfp : ∀ b, b ∈ fpA B → b ∈ fpA B0) :
    OM w0 (w.setCell (ad.add i) (.slice B l.length c)) A cap (L.set i l) := by
  subst hA
  obtain ⟨hs, rfl, hO, hf, h0⟩ := h
  have hi' : i < hs.length := by simpa using hi
  obtain ⟨ad', B1, c1, l1, hA', hx1, hc1, _, _⟩ := hO.get hi'
  obtain rfl := Option.some.inj hA'
  rw [hc0] at hc1
  injection hc1 with hc1
  injection hc1 with e1 _ _
  subst e1
  have hm1 := List.mem_of_getElem? hx1
  have hk : Keeps (· ∈ fpA (some ad)) w (w.setCell (ad.add i) (.slice B l.length c)) := (Keeps.refl _ w).setCell (p := ad.add i) (by rw [block_of_add]; simp) _
  have hget : ∀ (k : Nat) (x : Hd), (hs.set i (B, c, l))[k]? = some x → (k = i ∧ x = (B, c, l)) ∨ (k ≠ i ∧ hs[k]? = some x) := by
    intro k x hx
    rw [List.getElem?_set] at hx
    split at hx
    · rename_i hk; subst hk
      simp at hx
      exact .inl ⟨rfl, hx.symm⟩
    · rename_i hk; exact .inr ⟨fun e => hk e.symm, hx⟩
  have hout : ∀ x, x ∈ hs.set i (B, c, l) → ∀ b, b ∈ fpA x.1 → ¬ b ∈ fpA (some ad) := by
    intro x hx' b hb hb'
    rcases List.mem_or_eq_of_mem_set hx' with hx' | hx'
    · exact hO.outer x hx' b hb hb'
    · subst hx'; exact hO.outer _ hm1 b (hfp b hb) hb'
  refine ⟨hs.set i (B, c, l), by rw [List.map_set], ⟨?_, fun x hx' => ?_, ?_, hout⟩, fun b hb' => ?_, ?_⟩
  · have := hO.sl.set (ad := ad) rfl i (Hd.val (B, c, l)) (by simpa using hi')
    rw [← List.map_set] at this
    rw [List.length_set]; exact this
  · rcases List.mem_or_eq_of_mem_set hx' with hx2 | hx2
    · exact (hO.rows x hx2).keeps hk fun b hb' => hO.outer x hx2 b hb'
    · subst hx2
      exact hx.keeps hk fun b hb' => hout _ hx' b hb'
  · refine List.pairwise_iff_getElem.2 fun a b ha hb' hab c' h1 h2 => ?_
    rcases hget a _ (List.getElem?_eq_getElem ha) with ⟨ea, e1⟩ | ⟨ea, e1⟩ <;> rcases hget b _ (List.getElem?_eq_getElem hb') with ⟨eb, e2⟩ | ⟨eb, e2⟩
    · omega
    · rw [e1] at h1
      exact hO.apart_get hx1 e2 (by omega) c' (hfp c' h1) h2
    · rw [e2] at h2
      exact hO.apart_get hx1 e1 (by omega) c' (hfp c' h2) h1
    · exact hO.apart_get e1 e2 (by omega) c' h1 h2
  · rcases List.mem_append.1 hb' with hb' | hb'
    · exact hf b (List.mem_append_left _ hb')
    · obtain ⟨y, hy, hb'⟩ := mem_fpR.1 hb'
      rcases List.mem_or_eq_of_mem_set hy with hy | hy
      · exact hf b (List.mem_append_right _ (mem_fpR.2 ⟨_, hy, hb'⟩))
      · subst hy
        exact hf b (List.mem_append_right _ (mem_fpR.2 ⟨_, hm1, hfp b hb'⟩))
  · exact below_keeps h0 hk h0.size fun b hb => hf b (List.mem_append_left _ hb)
end Go.Proofs.YtahnhblodfdfhaaDoor
