/-
  What the texts above it need, part 5.
-/
import Derived.Test.YtahnhblodfdfhaaGreatDoorKMatrixOfTerm4
namespace Go.Proofs.YtahnhblodfdfhaaGreatDoor
open Go.RowKit
theorem take_sl {w : World} {A : Option Addr} {n cap k : Nat} {l : List Int} (h : IS w A cap l) (hn : l.length = n) (hk : k ≤ n) :
  ∃ A', (∀ w', (Instr.sliceAt 23 (.slice A n cap) none (some (.int .i64 (k : Int))) none).run Tryz.prog w' = .ok (.slice A' k cap) w') ∧ IS w A' cap (l.take k) ∧ ∀ b, b ∈ fpA A' → b ∈ fpA A := by
 have hS : Sl w 3 1 A n cap (ints l) := by have := h; unfold IS at this; rw [hn] at this; exact this
 obtain ⟨A', h1, h2, h3⟩ := hS.sliced (P := Tryz.prog) 23 Tryz.underlying23 info_int none (some (.int .i64 (k : Int))) none 0 k cap (optNone rfl) (optSome rfl) (optNone rfl) (Nat.zero_le _) hk (by have := hS.2.1; omega) (Nat.le_refl _)
 refine ⟨A', h1, ?_, h3⟩
 have hlk : (l.take k).length = k := by rw [List.length_take, hn]; omega
 unfold IS
 rw [hlk]
 have e : ints (l.take k) = ((ints l).drop (0 * 1)).take ((k - 0) * 1) := by simp [ints, List.map_take]
 rw [e]
 exact h2
theorem drop_sl {w : World} {A : Option Addr} {n cap k r : Nat} {l : List Int} (h : IS w A cap l) (hn : l.length = n) (hk : n = k + r) :
  ∃ A' c', (∀ w', (Instr.sliceAt 23 (.slice A n cap) (some (.int .i64 (k : Int))) none none).run Tryz.prog w' = .ok (.slice A' r c') w') ∧ IS w A' c' (l.drop k) ∧ ∀ b, b ∈ fpA A' → b ∈ fpA A := by
 have hS : Sl w 3 1 A n cap (ints l) := by have := h; unfold IS at this; rw [hn] at this; exact this
 obtain ⟨A', h1, h2, h3⟩ := hS.sliced (P := Tryz.prog) 23 Tryz.underlying23 info_int (some (.int .i64 (k : Int))) none none k n cap (optSome rfl) (optNone ⟨rfl, rfl⟩) (optNone rfl) (by omega) (Nat.le_refl _) (by have := hS.2.1; omega) (Nat.le_refl _)
 have hr : n - k = r := by omega
 rw [hr] at h1 h2
 refine ⟨A', cap - k, h1, ?_, h3⟩
 have hlk : (l.drop k).length = r := by rw [List.length_drop, hn]; omega
 unfold IS
 rw [hlk]
 have e : ints (l.drop k) = ((ints l).drop (k * 1)).take (r * 1) := by
  rw [List.take_of_length_le (by rw [List.length_drop, ints_length, hn]; omega)]
  simp [ints, List.map_drop]
 rw [e]
 exact h2
theorem Keeps.cellK {S : Nat → Prop} {w w' : World} (hk : Keeps S w w') {p : Addr} (hp : p.block < w.heap.size) (hS : ¬ S p.block) : w'.cell? p = w.cell? p := World.cell?_of_block (w := w) (hk.block p.block hp hS)
theorem Keeps.frozenK {S : Nat → Prop} {w w' : World} (hk : Keeps S w w') {p : Addr} (hp : p.block < w.heap.size) (hS : ¬ S p.block) : w'.frozen? p = w.frozen? p := World.frozen?_of_block (w := w) (hk.block p.block hp hS)
theorem OM.rowfp {w0 w : World} {A : Option Addr} {cap : Nat} {L : List (List Int)} (h : OM w0 w A cap L) {i : Nat} (hi : i < L.length) {ad : Addr} (hA : A = some ad) {B : Option Addr} {n c : Nat} (hc : w.cell? (ad.add i) = some (.slice B n c)) : ∀ b, b ∈ fpA B → w0.heap.size ≤ b ∧ b ≠ ad.block := by
 subst hA
 obtain ⟨hs, rfl, hO, hf, h0⟩ := h
 obtain ⟨ad', B0, c0, l0, hA', hx0, hc', _, _⟩ := hO.get (i := i) (by simpa using hi)
 obtain rfl := Option.some.inj hA'
 rw [hc] at hc'
 injection hc' with hc'
 injection hc' with e1 e2 e3
 subst e1
 intro b hb
 refine ⟨hf b (List.mem_append_right _ (mem_fpR.2 ⟨_, List.mem_of_getElem? hx0, hb⟩)), fun e => hO.outer _ (List.mem_of_getElem? hx0) b hb (by simp [e])⟩
theorem OM.grow {w0 w w1 w2 : World} {A : Option Addr} {cap : Nat} {L : List (List Int)} (h : OM w0 w A cap L) {i : Nat} (hi : i < L.length) {ad : Addr} (hA : A = some ad) {B : Option Addr} {n c : Nat} (hc : w.cell? (ad.add i) = some (.slice B n c)) (hb : Below w.heap.size w w1) {B' : Option Addr} {c' : Nat} {l' : List Int} (hx : IS w2 B' c' l') (hf1 : ∀ b, b ∈ fpA B' → b ∈ fpA B ∨ w.heap.size ≤ b) (hkB : Keeps (· ∈ fpA B) w1 w2) :
  OM w0 (w2.setCell (ad.add i) (.slice B' l'.length c')) A cap (L.set i l') := by
 subst hA
 obtain ⟨hs, rfl, hO, hf, h0⟩ := h
 have hi' : i < hs.length := by simpa using hi
 obtain ⟨ad', B0, c0, l0, hA', hx0, hc', _, _⟩ := hO.get (i := i) hi'
 obtain rfl := Option.some.inj hA'
 rw [hc] at hc'
 injection hc' with hc'
 injection hc' with e1 e2 e3
 subst e1
 have hm0 := List.mem_of_getElem? hx0
 have hAl : ∀ b, b ∈ fpA (some ad) → b < w.heap.size := fun b hb' => hO.sl.lt b hb'
 have hRl : ∀ y, y ∈ hs → (∀ b, b ∈ fpA y.1 → b < w.heap.size) := fun y hy b hb' => (hO.rows y hy).lt b hb'
 have hBA : ∀ b, b ∈ fpA B → ¬ b ∈ fpA (some ad) := fun b hb' => hO.outer _ hm0 b hb'
 have hk : Keeps (· ∈ fpA (some ad)) w2 (w2.setCell (ad.add i) (.slice B' l'.length c')) := (Keeps.refl _ w2).setCell (p := ad.add i) (by rw [block_of_add]; simp) _
 have hget : ∀ (k : Nat) (x : Hd), (hs.set i (B', c', l'))[k]? = some x → (k = i ∧ x = (B', c', l')) ∨ (k ≠ i ∧ hs[k]? = some x) := by
  intro k x hx
  rw [List.getElem?_set] at hx
  split at hx
  · rename_i hk; subst hk
    simp at hx
    exact .inl ⟨rfl, hx.symm⟩
  · rename_i hk; exact .inr ⟨fun e => hk e.symm, hx⟩
 have hsz := h0.size
 have hbs := hb.size
 refine ⟨hs.set i (B', c', l'), by rw [List.map_set], ⟨?_, fun x hx' => ?_, ?_, fun x hx' b hb1 hb2 => ?_⟩, fun b hb' => ?_, ?_⟩
 · have := ((hO.sl.below hb).keeps hkB (fun b hb1 hb2 => hBA b hb2 hb1)).set (ad := ad) rfl i (Hd.val (B', c', l')) (by simpa using hi')
   rw [← List.map_set] at this
   rw [List.length_set]; exact this
 · obtain ⟨k, hk', rfl⟩ := List.getElem_of_mem hx'
   rcases hget k _ (List.getElem?_eq_getElem hk') with ⟨_, e⟩ | ⟨hne, e⟩
   · rw [e]
     exact hx.keeps hk fun b hb' hb'' => by
      rcases hf1 b hb' with h1 | h1
      · exact hBA b h1 hb''
      · have := hAl b hb''
        omega
   · exact ((hO.rows _ (List.mem_of_getElem? e)).below hb |>.keeps hkB (fun b hb1 hb2 => hO.apart_get e hx0 hne b hb1 hb2)).keeps hk fun b hb' => hO.outer _ (List.mem_of_getElem? e) b hb'
 · refine List.pairwise_iff_getElem.2 fun a b ha hb' hab c'' h1 h2 => ?_
   rcases hget a _ (List.getElem?_eq_getElem ha) with ⟨ea, e1⟩ | ⟨ea, e1⟩ <;> rcases hget b _ (List.getElem?_eq_getElem hb') with ⟨eb, e2⟩ | ⟨eb, e2⟩
   · omega
   · rw [e1] at h1
     have h3 := hRl _ (List.mem_of_getElem? e2) c'' h2
     rcases hf1 c'' h1 with h4 | h4
     · exact hO.apart_get e2 hx0 eb c'' h2 h4
     · omega
   · rw [e2] at h2
     have h3 := hRl _ (List.mem_of_getElem? e1) c'' h1
     rcases hf1 c'' h2 with h4 | h4
     · exact hO.apart_get e1 hx0 ea c'' h1 h4
     · omega
   · exact hO.apart_get e1 e2 (by omega) c'' h1 h2
 · rcases List.mem_or_eq_of_mem_set hx' with hx' | hx'
   · exact hO.outer x hx' b hb1 hb2
   · subst hx'
     rcases hf1 b hb1 with h1 | h1
     · exact hBA b h1 hb2
     · have := hAl b hb2
       omega
 · rcases List.mem_append.1 hb' with hb' | hb'
   · exact hf b (List.mem_append_left _ hb')
   · obtain ⟨y, hy, hb'⟩ := mem_fpR.1 hb'
     rcases List.mem_or_eq_of_mem_set hy with hy | hy
     · exact hf b (List.mem_append_right _ (mem_fpR.2 ⟨_, hy, hb'⟩))
     · subst hy
       rcases hf1 b hb' with h1 | h1
       · exact hf b (List.mem_append_right _ (mem_fpR.2 ⟨_, hm0, h1⟩))
       · omega
 · have hB2 := below_keeps (below_trans h0 hb hsz) hkB (by omega) fun b hb' => hf b (List.mem_append_right _ (mem_fpR.2 ⟨_, hm0, hb'⟩))
   exact below_keeps hB2 hk hB2.size fun b hb' => hf b (List.mem_append_left _ hb')
theorem set_take_drop {bs : List (List Int)} {j : Nat} {x : List Int} {X : List (List Int)} {n : Nat} (hb : bs = X.take j ++ (List.replicate n ([] : List Int)).drop j) (hX : X.length = n) (hx : X[j]? = some x) : bs.set j x = X.take (j + 1) ++ (List.replicate n ([] : List Int)).drop (j + 1) := by
 rw [hb, take_append_step (by rw [hX, List.length_replicate]) hx]
theorem nil_at {bs : List (List Int)} {j : Nat} {X : List (List Int)} {n : Nat} (hb : bs = X.take j ++ (List.replicate n ([] : List Int)).drop j) (hX : X.length = n) (hj : j < n) : bs.getD j [] = [] := by
 have hl : (X.take j).length = j := by rw [List.length_take]; omega
 rw [hb, List.getD_eq_getElem?_getD, List.getElem?_append_right (by omega), hl, Nat.sub_self, List.getElem?_drop, List.getElem?_replicate]
 split <;> rfl
set_option maxRecDepth 100000 in
set_option maxHeartbeats 8000000 in
theorem rlCompose_any (p : Int) {v v' : Value} {s t : Sys} {fp fp' : List Nat} (w : World) (ha : OwSys w v s fp) (hb : OwSys w v' t fp') (hs : RelOk p s) (ht : RelOk p t) (hm : s.2.1 = t.1) (hsum : s.1 + t.2.1 ≤ 24) :
  Calls Tryz.prog 89 #[.int .i64 p, v, v'] w fun e w' => ∃ v' fp', e = .returned v' ∧ OwSys w' v' (cmpV p s t) fp' ∧ FreshL w.heap.size fp' ∧ Below w.heap.size w w' := by
 have hmat0 := pairs_mat hs ht
 have hmid0 := mid_mat hs ht hm
 have hnull0 := mid_null hs ht hm
 have htr0 := mid_trans (s := s) ht hm
 have hpr0 := pair_ref hs ht hm
 obtain ⟨Aa, ca, ga, rfl, hLa0, hOa, rfl⟩ := ha
 obtain ⟨ia, ja, La⟩ := s
 have ha0 : 0 ≤ ia := hs.lo
 have ha1 : 0 ≤ ja := hs.hi
 have ha2 : ia + ja ≤ 24 := hs.sum
 have hfld : fieldB p = true := hs.fld
 have hrowa : ∀ u, u ∈ La → (u.length : Int) = ia + ja ∧ Res p u := fun u hu => hs.row hu
 have hlena : (La.length : Int) ≤ ia + ja := hs.len
 clear hs
 obtain ⟨a1, rfl⟩ : ∃ n : Nat, ia = (n : Int) := ⟨ia.toNat, by omega⟩
 obtain ⟨a2, rfl⟩ : ∃ n : Nat, ja = (n : Int) := ⟨ja.toNat, by omega⟩
 have hLa : La = ga.map (fun h : Hd => h.2.2) := hLa0
 clear hLa0
 obtain ⟨ma, hma⟩ : ∃ m, m = ga.length := ⟨_, rfl⟩
 have hLma : La.length = ma := by rw [hLa, List.length_map, hma]
 have hma24 : (ma : Int) ≤ 24 := by have := hlena; rw [hLma] at this; omega
 obtain ⟨Ab, cb, gb, rfl, hLb0, hOb, rfl⟩ := hb
 obtain ⟨ib, jb, Lb⟩ := t
 have hb0 : 0 ≤ ib := ht.lo
 have hb1 : 0 ≤ jb := ht.hi
 have hb2 : ib + jb ≤ 24 := ht.sum
 have hrowb : ∀ u, u ∈ Lb → (u.length : Int) = ib + jb ∧ Res p u := fun u hu => ht.row hu
 have hlenb : (Lb.length : Int) ≤ ib + jb := ht.len
 clear ht
 obtain rfl : ib = (a2 : Int) := hm.symm
 obtain ⟨b2, rfl⟩ : ∃ n : Nat, jb = (n : Int) := ⟨jb.toNat, by omega⟩
 have hLb : Lb = gb.map (fun h : Hd => h.2.2) := hLb0
 clear hLb0
 obtain ⟨mb, hmb⟩ : ∃ m, m = gb.length := ⟨_, rfl⟩
 have hLmb : Lb.length = mb := by rw [hLb, List.length_map, hmb]
 have hmb24 : (mb : Int) ≤ 24 := by have := hlenb; rw [hLmb] at this; omega
 obtain ⟨N, hN⟩ : ∃ N, N = a1 + b2 := ⟨_, rfl⟩
 obtain ⟨M, hM⟩ : ∃ M, M = ma + mb := ⟨_, rfl⟩
 have hNI : (a1 : Int) + (b2 : Int) = (N : Int) := by omega
 have hMI : (ma : Int) + (mb : Int) = (M : Int) := by omega
 obtain ⟨K, hK⟩ : ∃ K, K = kerM p a2 (midR p ((a1 : Int), (a2 : Int), La) ((a2 : Int), (b2 : Int), Lb)) := ⟨_, rfl⟩
 obtain ⟨g, hg⟩ : ∃ g, g = pairV p ((a1 : Int), (a2 : Int), La) ((a2 : Int), (b2 : Int), Lb) := ⟨_, rfl⟩
 have hmat : Mat p (K.map g).length N (K.map g) := by
  have e : (((a1 : Int), (a2 : Int), La) : Sys).1 + (((a2 : Int), (b2 : Int), Lb) : Sys).2.1 = ((N : Nat) : Int) := by show (a1 : Int) + (b2 : Int) = _; omega
  rw [e] at hmat0
  rw [hK, hg]; exact hmat0
 obtain ⟨R, hR⟩ : ∃ R, R = redM p N (K.map g) := ⟨_, rfl⟩
 have hgoal : cmpV p ((a1 : Int), (a2 : Int), La) ((a2 : Int), (b2 : Int), Lb) = ((a1 : Int), (b2 : Int), R) := by
  rw [hR, hK, hg]
  show ((a1 : Int), (b2 : Int), redM p ((a1 : Int) + (b2 : Int)).toNat _) = _
  rw [show ((a1 : Int) + (b2 : Int)).toNat = N by omega]; rfl
 rw [hgoal]
 have hMM : La.length + Lb.length = M := by rw [hLma, hLmb, hM]
 have hmid : Mat p M a2 (midR p ((a1 : Int), (a2 : Int), La) ((a2 : Int), (b2 : Int), Lb)) := by rw [← hMM]; exact hmid0
 have hpbb := fieldB_bounds hfld
 have hKm := kerM_len (L := midR p ((a1 : Int), (a2 : Int), La) ((a2 : Int), (b2 : Int), Lb)) (n := a2) hfld (by rw [hmid.len]; exact hmid)
 rw [← hK, hmid.len] at hKm
 obtain ⟨X, hX⟩ : ∃ X, X = (List.range a2).map (midC p ((a1 : Int), (a2 : Int), La) ((a2 : Int), (b2 : Int), Lb)) := ⟨_, rfl⟩
 have hXl : X.length = a2 := by rw [hX]; simp
 have htr : transM (midR p ((a1 : Int), (a2 : Int), La) ((a2 : Int), (b2 : Int), Lb)) a2 = X := by rw [hX]; exact htr0
 have hXm : Mat p a2 M X := by rw [← htr]; exact transM_mat (by omega) hmid
 have hXat : ∀ j, j < a2 → X[j]? = some (La.map (fun r => r.getD (a1 + j) 0) ++ Lb.map fun r => (-(r.getD j 0)) % p) := fun j hj => by rw [hX]; simp [hj, midC]
 have hnull : nullM p M X = K := by rw [← htr, hK, ← hMM]; exact hnull0
 have hpr : ∀ k, (cmbTo p (a1 + a2) (k.take ma) La ma).take a1 ++ (cmbTo p (a2 + b2) (k.drop ma) Lb mb).drop a2 = g k := fun k => by
  have := hpr0 k
  simp only [Int.toNat_natCast, hLma, hLmb] at this
  rw [hg]; exact this
 have hma48 : ma ≤ 24 := by omega
 have hmb48 : mb ≤ 24 := by omega
 have ha24 : a1 ≤ 24 := by omega
 have ha24' : a2 ≤ 24 := by omega
 have hb24 : b2 ≤ 24 := by omega
 have hM48 : M ≤ 48 := by omega
 obtain ⟨n1, hn1⟩ : ∃ n1, n1 = a1 + a2 := ⟨_, rfl⟩
 obtain ⟨n2, hn2⟩ : ∃ n2, n2 = a2 + b2 := ⟨_, rfl⟩
 have hn1I : (a1 : Int) + (a2 : Int) = (n1 : Int) := by omega
 have hn2I : (a2 : Int) + (b2 : Int) = (n2 : Int) := by omega
 rw [← hn1, ← hn2] at hpr
 have hmata : Mat p La.length n1 La := ⟨rfl, fun u hu => ⟨by have := (hrowa u hu).1; omega, (hrowa u hu).2⟩⟩
 have hmatb : Mat p Lb.length n2 Lb := ⟨rfl, fun u hu => ⟨by have := (hrowb u hu).1; omega, (hrowb u hu).2⟩⟩
 show Calls Tryz.prog _ #[.int .i64 p, .agg #[.int .i64 (a1 : Int), .int .i64 (a2 : Int), .slice Aa ga.length ca], .agg #[.int .i64 (a2 : Int), .int .i64 (b2 : Int), .slice Ab gb.length cb]] w _
 rw [← hma, ← hmb]
 obtain ⟨W, hW, bW, k0, k1, k2⟩ := alloc3 w (.cells #[.int .i64 (a1 : Int), .int .i64 (a2 : Int), .slice Aa ma ca] tRel) (.cells #[.int .i64 (a2 : Int), .int .i64 (b2 : Int), .slice Ab mb cb] tRel) (.cells #[.int .i64 0, .int .i64 0, .slice none 0 0] tRel)
 have hOa := hOa.below bW
 have hOb := hOb.below bW
 clear hmat0 hmid0 hnull0 htr0 hpr0 hgoal hsum hX htr hm hrowa hrowb hlena hlenb hg hMM ha0 ha1 ha2 hb0 hb1 hb2
 have hwz := bW.size
 have hLa_h := lH hLa; have hLb_h := lH hLb; have hma_h := lH hma; have hmb_h := lH hmb; have hLma_h := lH hLma; have hLmb_h := lH hLmb; have bW_h := lH bW; have k0_h := lH k0; have k1_h := lH k1; have k2_h := lH k2; have hOa_h := lH hOa; have hOb_h := lH hOb; have hmata_h := lH hmata; have hmatb_h := lH hmatb; have hfld_h := lH hfld; have hmat_h := lH hmat; have hR_h := lH hR; have hN_h := lH hN; have hM_h := lH hM; have hK_h := lH hK; have hKm_h := lH hKm; have hnull_h := lH hnull; have hpr_h := lH hpr; have hXl_h := lH hXl; have hXm_h := lH hXm; have hXat_h := lH hXat; have hmid_h := lH hmid; have hn1_h := lH hn1; have hn2_h := lH hn2; have hpbb_h := lH hpbb; have hwz_h := lH hwz; clear hLa hLb hma hmb hLma hLmb bW k0 k1 k2 hOa hOb hmata hmatb hfld hmat hR hN hM hK hKm hnull hpr hXl hXm hXat hmid hn1 hn2 hpbb hwz
 obtain ⟨⟨c0, c1, c2⟩, f0, f1, f2⟩ := box3 k0_h.out
 go_enter Tryz.func89, Tryz.ntmps89
 go_upto_region 1 with (fail)
 rw [← hW]
 clear hW
 go_wp2_with (at_make; refine wpList_make_Sl _ rfl _ _ _ rfl 23 Tryz.underlying27 info_ints a2 a2 rfl rfl rfl rfl (Nat.le_refl _) (by omega) (by unfold maxLen; omega) ?_; intro G w2 hs2 hG hb2)
 have hOM0 : OM W w2 (some G) a2 (X.take 0 ++ (List.replicate a2 []).drop 0) := by
  have := nils_om (w := W) (w1 := w2) (G := G) (m := a2) (by rw [← madeNils]; simpa using hs2) hG hb2
  simpa using this
 clear hs2 hb2 c0 c1 c2 f0 f1 f2; have hOM0_h := lH hOM0; have hG_h := lH hG; have hNI_h := lH hNI; have hMI_h := lH hMI; have hn1I_h := lH hn1I; have hn2I_h := lH hn2I; clear hOM0 hG hNI hMI hn1I hn2I
 go_loopw [25] (fun i wr => ∃ (j : Nat), j ≤ a2 ∧ i = .int .i64 j ∧ OM W wr (some G) a2 (X.take j ++ (List.replicate a2 []).drop j)) (fun i _ => a2 - (intOf i).toNat)
 case atStart => exact ⟨0, Nat.zero_le _, rfl, hOM0_h.out⟩
 case round =>
  clear hOM0_h
  obtain ⟨j, hj, rfl, hOM⟩ := hrel
  by_cases hlt : j < a2
  · have hjI : (j : Int) < (a2 : Int) := by omega
    obtain ⟨bs, hbs⟩ : ∃ bs, bs = X.take j ++ (List.replicate a2 ([] : List Int)).drop j := ⟨_, rfl⟩
    rw [← hbs] at hOM
    have hnil := nil_at hbs hXl_h.out hlt
    have hbl : bs.length = a2 := by rw [hbs, List.length_append, List.length_take, List.length_drop, List.length_replicate, hXl_h.out]; omega
    have hfin := set_take_drop hbs hXl_h.out (hXat_h.out j hlt)
    obtain ⟨L1, hL1⟩ : ∃ L1, L1 = La.map (fun r => r.getD (a1 + j) 0) := ⟨_, rfl⟩
    obtain ⟨L2, hL2⟩ : ∃ L2, L2 = Lb.map (fun r => (-(r.getD j 0)) % p) := ⟨_, rfl⟩
    rw [← hL1, ← hL2] at hfin
    have hL1l : L1.length = ma := by rw [hL1, List.length_map, hLma_h.out]
    have hL2l : L2.length = mb := by rw [hL2, List.length_map, hLmb_h.out]
    have hst : OM W wr (some G) a2 (bs.set j (L1.take 0)) := by
     rw [List.take_zero, ← hnil, set_getD]; exact hOM
    have k0r := box_below k0_h.out hOM.below_
    obtain ⟨⟨c0, c1, c2⟩, f0, f1, f2⟩ := box3 k0r
    have hbs_h := lH hbs; have hnil_h := lH hnil; have hbl_h := lH hbl; have hfin_h := lH hfin; have hL1_h := lH hL1; have hL2_h := lH hL2; have hL1l_h := lH hL1l; have hL2l_h := lH hL2l; have hst_h := lH hst; have k0r_h := lH k0r; clear hbs hnil hbl hfin hL1 hL2 hL1l hL2l hst k0r; clear hOM
    go_wp2_with (fail)
    clear c0 c1 c2 f0 f1 f2
    go_loopw [31] (fun i wr => ∃ (k : Nat), k ≤ ma ∧ i = .int .i64 k ∧ OM W wr (some G) a2 (bs.set j (L1.take k))) (fun i _ => ma - (intOf i).toNat)
    case atStart => exact ⟨0, Nat.zero_le _, rfl, hst_h.out⟩
    case round =>
     clear hst_h k0r_h
     obtain ⟨k, hk, rfl, hOM⟩ := hrel
     obtain ⟨wo, rfl⟩ : ∃ x, x = wr := ⟨_, rfl⟩
     have k0r := box_below k0_h.out hOM.below_
     by_cases hlt2 : k < ma
     · have hkI : (k : Int) < (ma : Int) := by omega
       obtain ⟨ad, C, d, u, rfl, hx, hcu, hrd⟩ := (hOa_h.out.below hOM.below_).rd.at_ (k := k) (by rw [← hma_h.out]; exact hlt2)
       have hLu : La[k]? = some u := by rw [hLa_h.out, List.getElem?_map, hx]; rfl
       have hur := hmata_h.out.row u (List.mem_of_getElem? hLu)
       have hul : u.length = n1 := hur.1
       obtain ⟨q, hq⟩ : ∃ q, q = a1 + j := ⟨_, rfl⟩
       have hqn : q < n1 := by rw [hq]; have := hn1_h.out; omega
       obtain ⟨ud, x, rfl, hxx, hcx⟩ := hrd.at_ (j := q) (by rw [hul]; exact hqn)
       have hL1k : L1.take (k + 1) = L1.take k ++ [x] := by
        rw [List.take_add_one, hL1_h.out, List.getElem?_map, hLu]
        show _ ++ [u.getD (a1 + j) 0] = _
        rw [← hq, List.getD_eq_getElem?_getD, hxx]; rfl
       obtain ⟨R0, hR0⟩ : ∃ R0, R0 = L1.take k := ⟨_, rfl⟩
       have hlk : R0.length = k := by rw [hR0, List.length_take, hL1l_h.out]; omega
       obtain ⟨q0, hq0⟩ : ∃ q0, q0 = k := ⟨_, rfl⟩
       rw [← hq0] at hlk
       rw [← hR0] at hL1k hOM
       obtain ⟨xx, hxe⟩ : ∃ y, y = x := ⟨_, rfl⟩
       rw [← hxe] at hL1k
       have hq48 : q0 ≤ 48 := by omega
       obtain ⟨gd, B, cB, hGg, hcB, hfB, hIB⟩ := hOM.get (i := j) (by rw [List.length_set, hbl_h.out]; exact hlt)
       obtain rfl := Option.some.inj hGg
       have hgd : (bs.set j R0).getD j [] = R0 := getD_set_self (by rw [hbl_h.out]; exact hlt)
       rw [hgd, hlk] at hcB
       rw [hgd] at hIB
       rw [hul] at hcu
       have hqI : (q : Int) < (n1 : Int) := by omega
       have e1 : IntKind.i64.wrap (q : Int) = (q : Int) := IntWalk.i64_in _ (by omega)
       have e2 : (a1 : Int) + (j : Int) = (q : Int) := by rw [hq]; omega
       have hbk := hOM.rowfp (i := j) (by rw [List.length_set, hbl_h.out]; exact hlt) rfl hcB
       have hul2 : ud.block < W.heap.size := by
        obtain ⟨ud', x', hu', _, hc'⟩ := (hOa_h.out.rows _ (List.mem_of_getElem? hx)).rd.at_ (j := q) (by rw [hul]; exact hqn)
        obtain rfl := Option.some.inj hu'
        have h2 := World.block_lt_of_cell? W _ hc'
        rw [block_of_add] at h2
        exact h2
       clear hx hLu hrd hxx hgd hur hq; have hOM_h := lH hOM; have hul_h := lH hul; have hL1k_h := lH hL1k; have hIB_h := lH hIB; have hlk_h := lH hlk; have hbk_h := lH hbk; have k0r_h := lH k0r; have hul2_h := lH hul2; have hR0_h := lH hR0; have hq0_h := lH hq0; clear hOM hul hL1k hIB hlk hbk k0r hul2 hR0 hq0
       subst hxe
       go_wp2_with (fail)
       refine beginZw 16 (fun w' => w'.heap[w.heap.size]? = some (.cells #[.int .i64 (a1 : Int), .int .i64 (a2 : Int), .slice (some ad) ma ca] tRel) ∧ w'.cell? (G.add j) = some (.slice B q0 cB) ∧ w'.cell? (ud.add q) = some (.int .i64 xx)) (by kernel_rfl) (fun W1 hW1 => ?_)
       have hbd : Below wo.heap.size wo W1 := by rw [hW1]; exact below_drewN (Below.refl _ _) 1
       clear hW1
       have hF0 := And.intro (box_below k0r_h.out hbd) (And.intro ((hbd.cell (World.block_lt_of_cell? _ _ hcB)).trans hcB) ((hbd.cell (World.block_lt_of_cell? _ _ hcx)).trans hcx))
       have hfB1 := (hbd.frozen (World.block_lt_of_cell? _ _ hcB)).trans hfB
       have hF0_h := lH hF0; have hbd_h := lH hbd; have hfB1_h := lH hfB1; clear hF0 hbd hfB1
       refine tkC 0 ?_ rfl hF0_h.out (fun W' hW' => ?_) ?_; rotate_left; · (obtain ⟨⟨x0, x1, x2⟩, x3, x4, x5⟩ := box3 hW'.1; have y0 := hW'.2.1; have y1 := hW'.2.2; clear hW'; go_simp; first | done | with_reducible rfl)
       simp only [Act.put, nS]
       refine tkC 1 ?_ rfl hF0_h.out (fun W' hW' => ?_) ?_; rotate_left; · (obtain ⟨⟨x0, x1, x2⟩, x3, x4, x5⟩ := box3 hW'.1; have y0 := hW'.2.1; have y1 := hW'.2.2; clear hW'; go_simp; first | done | with_reducible rfl)
       simp only [Act.put, nS]
       refine tkC 2 ?_ rfl hF0_h.out (fun W' hW' => ?_) ?_; rotate_left; · (obtain ⟨⟨x0, x1, x2⟩, x3, x4, x5⟩ := box3 hW'.1; have y0 := hW'.2.1; have y1 := hW'.2.2; clear hW'; go_simp; first | done | with_reducible rfl)
       simp only [Act.put, nS]
       refine tkC 3 ?_ rfl hF0_h.out (fun W' hW' => ?_) ?_; rotate_left; · (obtain ⟨⟨x0, x1, x2⟩, x3, x4, x5⟩ := box3 hW'.1; have y0 := hW'.2.1; have y1 := hW'.2.2; clear hW'; go_simp; first | done | with_reducible rfl)
       simp only [Act.put, nS]
       refine tkC 4 ?_ rfl hF0_h.out (fun W' hW' => ?_) ?_; rotate_left; · (obtain ⟨⟨x0, x1, x2⟩, x3, x4, x5⟩ := box3 hW'.1; have y0 := hW'.2.1; have y1 := hW'.2.2; clear hW'; go_simp; first | done | with_reducible rfl)
       simp only [Act.put, nS]
       refine tkC 5 ?_ rfl hF0_h.out (fun W' hW' => ?_) ?_; rotate_left; · (obtain ⟨⟨x0, x1, x2⟩, x3, x4, x5⟩ := box3 hW'.1; have y0 := hW'.2.1; have y1 := hW'.2.2; clear hW'; go_simp; first | done | with_reducible rfl)
       simp only [Act.put, nS]
       refine tkC 6 ?_ rfl hF0_h.out (fun W' hW' => ?_) ?_; rotate_left; · (obtain ⟨⟨x0, x1, x2⟩, x3, x4, x5⟩ := box3 hW'.1; have y0 := hW'.2.1; have y1 := hW'.2.2; clear hW'; go_simp; first | done | with_reducible rfl)
       simp only [Act.put, nS]
       refine tkC 7 ?_ rfl hF0_h.out (fun W' hW' => ?_) ?_; rotate_left; · (obtain ⟨⟨x0, x1, x2⟩, x3, x4, x5⟩ := box3 hW'.1; have y0 := hW'.2.1; have y1 := hW'.2.2; clear hW'; go_simp; first | done | with_reducible rfl)
       simp only [Act.put, nS]
       refine tkC 8 ?_ rfl hF0_h.out (fun W' hW' => ?_) ?_; rotate_left; · (obtain ⟨⟨x0, x1, x2⟩, x3, x4, x5⟩ := box3 hW'.1; have y0 := hW'.2.1; have y1 := hW'.2.2; clear hW'; go_simp; first | done | with_reducible rfl)
       simp only [Act.put, nS]
       refine tkC 9 ?_ rfl hF0_h.out (fun W' hW' => ?_) ?_; rotate_left; · (obtain ⟨⟨x0, x1, x2⟩, x3, x4, x5⟩ := box3 hW'.1; have y0 := hW'.2.1; have y1 := hW'.2.2; clear hW'; go_simp; first | done | with_reducible rfl)
       simp only [Act.put, nS]
       refine tkC 10 ?_ rfl hF0_h.out (fun W' hW' => ?_) ?_; rotate_left; · (obtain ⟨⟨x0, x1, x2⟩, x3, x4, x5⟩ := box3 hW'.1; have y0 := hW'.2.1; have y1 := hW'.2.2; clear hW'; go_simp; first | done | with_reducible rfl)
       simp only [Act.put, nS]
       refine tkC 11 ?_ rfl hF0_h.out (fun W' hW' => ?_) ?_; rotate_left; · (obtain ⟨⟨x0, x1, x2⟩, x3, x4, x5⟩ := box3 hW'.1; have y0 := hW'.2.1; have y1 := hW'.2.2; clear hW'; go_simp; first | done | with_reducible rfl)
       simp only [Act.put, nS]
       refine tkC 12 ?_ rfl hF0_h.out (fun W' hW' => ?_) ?_; rotate_left; · (obtain ⟨⟨x0, x1, x2⟩, x3, x4, x5⟩ := box3 hW'.1; have y0 := hW'.2.1; have y1 := hW'.2.2; clear hW'; go_simp; first | done | with_reducible rfl)
       simp only [Act.put, nS]
       have hal := below_alloc W1 (.cells #[.int .i64 xx] 3)
       have hF1 := And.intro (box_below hF0_h.out.1 hal) (And.intro ((hal.cell (World.block_lt_of_cell? _ _ hF0_h.out.2.1)).trans hF0_h.out.2.1) ((hal.cell (World.block_lt_of_cell? _ _ hF0_h.out.2.2)).trans hF0_h.out.2.2))
       have hfB2 := (hal.frozen (World.block_lt_of_cell? _ _ hF0_h.out.2.1)).trans hfB1_h.out
       have hsl : Sl (W1.alloc (.cells #[.int .i64 xx] 3)) 3 1 B q0 cB (ints R0) := by
        have := (hIB_h.out.below hbd_h.out).alloc (.cells #[.int .i64 xx] 3)
        rw [hlk_h.out] at this
        exact this
       have hba := below_trans hbd_h.out hal hbd_h.out.size
       have hF1_h := lH hF1; have hfB2_h := lH hfB2; have hsl_h := lH hsl; have hal_h := lH hal; have hba_h := lH hba; clear hF1 hfB2 hsl hal hba
       refine oneZ 13 rfl (by kernel_rfl) (by rfl) (fun K hK => ?_)
       go_simp
       refine hK _ _ (fun _ => hF1_h.out) ?_
       clear hK K
       refine appZ 14 rfl (by kernel_rfl) (by rfl) _ _ _ rfl 3 Tryz.underlying23 info_int rfl (by omega) rfl hsl_h.out rfl (news := [.int .i64 xx]) rfl (Sl.rdc (Sl.laid W1 3 1 1 #[.int .i64 xx] (by unfold maxLen; omega) rfl)) (by intro u hu; simp at hu; subst hu; rfl) (by unfold maxLen; omega) (by omega) ?_
       intro A6 c6 w6 hsA6 hA6 hkA6 hrdA6
       clear hrdA6
       have hF2 := And.intro (box_keeps hF1_h.out.1 hkA6 (fun h => by have h3 := (hbk_h.out _ h).1; have := box_lt k0_h.out; omega)) (And.intro ((hkA6.cellK (World.block_lt_of_cell? _ _ hF1_h.out.2.1) (by rw [block_of_add]; exact fun h => (hbk_h.out _ h).2 rfl)).trans hF1_h.out.2.1) ((hkA6.cellK (World.block_lt_of_cell? _ _ hF1_h.out.2.2) (by rw [block_of_add]; exact fun h => by have := (hbk_h.out _ h).1; have := hul2_h.out; omega)).trans hF1_h.out.2.2))
       have hfB3 := (hkA6.frozenK (World.block_lt_of_cell? _ _ hF1_h.out.2.1) (by rw [block_of_add]; exact fun h => (hbk_h.out _ h).2 rfl)).trans hfB2_h.out
       have hI6 : IS w6 A6 c6 (R0 ++ [xx]) := by
        have e : ints (R0 ++ [xx]) = ints R0 ++ [.int .i64 xx] := by simp [ints]
        unfold IS
        rw [e, List.length_append, hlk_h.out]
        exact hsA6
       have hO6 := hOM_h.out.grow (i := j) (by rw [List.length_set, hbl_h.out]; exact hlt) rfl hcB hba_h.out hI6 (fun b hb => by
        rcases hA6 b hb with h | h
        · exact .inl h
        · exact .inr (by have := hba_h.out.size; omega)) hkA6
       rw [List.length_append, hlk_h.out, List.set_set, ← hL1k_h.out] at hO6
       clear hsA6 hA6 hkA6 hI6; have hF2_h := lH hF2; have hfB3_h := lH hfB3; have hO6_h := lH hO6; clear hF2 hfB3 hO6
       refine ⟨fun _ => hF2_h.out, ?_⟩
       simp only [Act.put, nS]
       refine tkC 15 ?_ rfl hF2_h.out (fun W' hW' => ?_) ?_; rotate_left; · (skip; clear hW'; go_simp; first | done | with_reducible rfl)
       simp only [Act.put, nS]
       have hz1 := hF2_h.out.2.1
       have hz2 := hfB3_h.out
       refine oneZ 16 rfl (by kernel_rfl) (by rfl) (fun K hK => ?_)
       go_simp
       refine hK _ _ (fun h => by cases h) ?_
       clear hK K; clear hz1 hz2 hfB hcx hcu
       refine doneZ (by kernel_rfl) ?_
       go_wp2_with (fail)
       go_roundw
       case rel => exact ⟨k + 1, by omega, by go_num, hO6_h.out⟩
       case measure => simp [intOf]; omega
     · obtain rfl : ma = k := by omega
       have hst : OM W wo (some G) a2 (bs.set j (L1 ++ L2.take 0)) := by
        have := hOM
        rw [List.take_of_length_le (by rw [hL1l_h.out]; exact Nat.le_refl _)] at this
        rw [List.take_zero, List.append_nil]
        exact this
       have k0r := box_below k1_h.out hOM.below_
       obtain ⟨⟨c0, c1, c2⟩, f0, f1, f2⟩ := box3 k0r
       have k0r_h := lH k0r; have hst_h := lH hst; clear k0r hst; clear hOM
       go_wp2_with (fail)
       clear c0 c1 c2 f0 f1 f2
       go_loopw [55] (fun i wr => ∃ (k : Nat), k ≤ mb ∧ i = .int .i64 k ∧ OM W wr (some G) a2 (bs.set j (L1 ++ L2.take k))) (fun i _ => mb - (intOf i).toNat)
       case atStart => exact ⟨0, Nat.zero_le _, rfl, hst_h.out⟩
       case round =>
        clear hst_h k0r_h
        obtain ⟨k, hk, rfl, hOM⟩ := hrel
        obtain ⟨wo, rfl⟩ : ∃ x, x = wr := ⟨_, rfl⟩
        have k0r := box_below k1_h.out hOM.below_
        by_cases hlt2 : k < mb
        · have hkI : (k : Int) < (mb : Int) := by omega
          obtain ⟨ad, C, d, u, rfl, hx, hcu, hrd⟩ := (hOb_h.out.below hOM.below_).rd.at_ (k := k) (by rw [← hmb_h.out]; exact hlt2)
          have hLu : Lb[k]? = some u := by rw [hLb_h.out, List.getElem?_map, hx]; rfl
          have hur := hmatb_h.out.row u (List.mem_of_getElem? hLu)
          have hul : u.length = n2 := hur.1
          have hqn : j < n2 := by have := hn2_h.out; omega
          obtain ⟨ud, x, rfl, hxx, hcx⟩ := hrd.at_ (j := j) (by rw [hul]; exact hqn)
          have hxb := hur.2 x (List.mem_of_getElem? hxx)
          obtain ⟨xx, hxe⟩ : ∃ y, y = -x % p := ⟨_, rfl⟩
          have hL1k : L1 ++ L2.take (k + 1) = L1 ++ L2.take k ++ [xx] := by
           rw [List.take_add_one, hL2_h.out, List.getElem?_map, hLu, List.append_assoc]
           show _ ++ (_ ++ [(-(u.getD j 0)) % p]) = _
           rw [List.getD_eq_getElem?_getD, hxx, hxe]; rfl
          obtain ⟨R0, hR0⟩ : ∃ R0, R0 = L1 ++ L2.take k := ⟨_, rfl⟩
          obtain ⟨q0, hq0⟩ : ∃ q0, q0 = ma + k := ⟨_, rfl⟩
          have hlk : R0.length = q0 := by rw [hR0, List.length_append, List.length_take, hL1l_h.out, hL2l_h.out, hq0]; omega
          rw [← hR0] at hL1k hOM
          have hNEG := fun (W' : World) => fdNeg_any p x W' (by have := hpbb_h.out; omega) hpbb_h.out.2 hxb.1 hxb.2
          simp only [← hxe] at hNEG
          have hq48 : q0 ≤ 48 := by omega
          obtain ⟨gd, B, cB, hGg, hcB, hfB, hIB⟩ := hOM.get (i := j) (by rw [List.length_set, hbl_h.out]; exact hlt)
          obtain rfl := Option.some.inj hGg
          have hgd : (bs.set j R0).getD j [] = R0 := getD_set_self (by rw [hbl_h.out]; exact hlt)
          rw [hgd, hlk] at hcB
          rw [hgd] at hIB
          rw [hul] at hcu
          have hqI : (j : Int) < (n2 : Int) := by omega
          have e1 : IntKind.i64.wrap (j : Int) = (j : Int) := IntWalk.i64_in _ (by omega)
          have hbk := hOM.rowfp (i := j) (by rw [List.length_set, hbl_h.out]; exact hlt) rfl hcB
          have hul2 : ud.block < W.heap.size := by
           obtain ⟨ud', x', hu', _, hc'⟩ := (hOb_h.out.rows _ (List.mem_of_getElem? hx)).rd.at_ (j := j) (by rw [hul]; exact hqn)
           obtain rfl := Option.some.inj hu'
           have h2 := World.block_lt_of_cell? W _ hc'
           rw [block_of_add] at h2
           exact h2
          clear hx hLu hrd hxx hgd hur hxb; have hOM_h := lH hOM; have hul_h := lH hul; have hL1k_h := lH hL1k; have hIB_h := lH hIB; have hlk_h := lH hlk; have hbk_h := lH hbk; have k0r_h := lH k0r; have hul2_h := lH hul2; have hR0_h := lH hR0; have hq0_h := lH hq0; have hNEG_h := lH hNEG; clear hOM hul hL1k hIB hlk hbk k0r hul2 hR0 hq0 hNEG; have hxe_h := lH hxe; clear hxe
          go_wp2_with (fail)
          refine beginZw 15 (fun w' => w'.heap[w.heap.size + 1]? = some (.cells #[.int .i64 (a2 : Int), .int .i64 (b2 : Int), .slice (some ad) mb cb] tRel) ∧ w'.cell? (G.add j) = some (.slice B q0 cB) ∧ w'.cell? (ud.add j) = some (.int .i64 x)) (by kernel_rfl) (fun W1 hW1 => ?_)
          have hbd : Below wo.heap.size wo W1 := by rw [hW1]; exact below_drewN (Below.refl _ _) 1
          clear hW1
          have hF0 := And.intro (box_below k0r_h.out hbd) (And.intro ((hbd.cell (World.block_lt_of_cell? _ _ hcB)).trans hcB) ((hbd.cell (World.block_lt_of_cell? _ _ hcx)).trans hcx))
          have hfB1 := (hbd.frozen (World.block_lt_of_cell? _ _ hcB)).trans hfB
          have hF0_h := lH hF0; have hbd_h := lH hbd; have hfB1_h := lH hfB1; clear hF0 hbd hfB1
          refine tkC 0 ?_ rfl hF0_h.out (fun W' hW' => ?_) ?_; rotate_left; · (obtain ⟨⟨x0, x1, x2⟩, x3, x4, x5⟩ := box3 hW'.1; have y0 := hW'.2.1; have y1 := hW'.2.2; clear hW'; go_simp; first | done | with_reducible rfl)
          simp only [Act.put, nS]
          refine tkC 1 ?_ rfl hF0_h.out (fun W' hW' => ?_) ?_; rotate_left; · (obtain ⟨⟨x0, x1, x2⟩, x3, x4, x5⟩ := box3 hW'.1; have y0 := hW'.2.1; have y1 := hW'.2.2; clear hW'; go_simp; first | done | with_reducible rfl)
          simp only [Act.put, nS]
          refine tkC 2 ?_ rfl hF0_h.out (fun W' hW' => ?_) ?_; rotate_left; · (obtain ⟨⟨x0, x1, x2⟩, x3, x4, x5⟩ := box3 hW'.1; have y0 := hW'.2.1; have y1 := hW'.2.2; clear hW'; go_simp; first | done | with_reducible rfl)
          simp only [Act.put, nS]
          refine tkC 3 ?_ rfl hF0_h.out (fun W' hW' => ?_) ?_; rotate_left; · (obtain ⟨⟨x0, x1, x2⟩, x3, x4, x5⟩ := box3 hW'.1; have y0 := hW'.2.1; have y1 := hW'.2.2; clear hW'; go_simp; first | done | with_reducible rfl)
          simp only [Act.put, nS]
          refine tkC 4 ?_ rfl hF0_h.out (fun W' hW' => ?_) ?_; rotate_left; · (obtain ⟨⟨x0, x1, x2⟩, x3, x4, x5⟩ := box3 hW'.1; have y0 := hW'.2.1; have y1 := hW'.2.2; clear hW'; go_simp; first | done | with_reducible rfl)
          simp only [Act.put, nS]
          refine tkC 5 ?_ rfl hF0_h.out (fun W' hW' => ?_) ?_; rotate_left; · (obtain ⟨⟨x0, x1, x2⟩, x3, x4, x5⟩ := box3 hW'.1; have y0 := hW'.2.1; have y1 := hW'.2.2; clear hW'; go_simp; first | done | with_reducible rfl)
          simp only [Act.put, nS]
          refine tkC 6 ?_ rfl hF0_h.out (fun W' hW' => ?_) ?_; rotate_left; · (obtain ⟨⟨x0, x1, x2⟩, x3, x4, x5⟩ := box3 hW'.1; have y0 := hW'.2.1; have y1 := hW'.2.2; clear hW'; go_simp; first | done | with_reducible rfl)
          simp only [Act.put, nS]
          refine tkC 7 ?_ rfl hF0_h.out (fun W' hW' => ?_) ?_; rotate_left; · (obtain ⟨⟨x0, x1, x2⟩, x3, x4, x5⟩ := box3 hW'.1; have y0 := hW'.2.1; have y1 := hW'.2.2; clear hW'; go_simp; first | done | with_reducible rfl)
          simp only [Act.put, nS]
          refine tkC 8 ?_ rfl hF0_h.out (fun W' hW' => ?_) ?_; rotate_left; · (obtain ⟨⟨x0, x1, x2⟩, x3, x4, x5⟩ := box3 hW'.1; have y0 := hW'.2.1; have y1 := hW'.2.2; clear hW'; go_simp; first | done | with_reducible rfl)
          simp only [Act.put, nS]
          refine tkC 9 ?_ rfl hF0_h.out (fun W' hW' => ?_) ?_; rotate_left; · (obtain ⟨⟨x0, x1, x2⟩, x3, x4, x5⟩ := box3 hW'.1; have y0 := hW'.2.1; have y1 := hW'.2.2; clear hW'; go_simp; first | done | with_reducible rfl)
          simp only [Act.put, nS]
          refine tkC 10 ?_ rfl hF0_h.out (fun W' hW' => ?_) ?_; rotate_left; · (obtain ⟨⟨x0, x1, x2⟩, x3, x4, x5⟩ := box3 hW'.1; have y0 := hW'.2.1; have y1 := hW'.2.2; clear hW'; go_simp; first | done | with_reducible rfl)
          simp only [Act.put, nS]
          refine callZ 11 (f := ?f1) (args := ?args1) rfl (by kernel_rfl) (by rfl) ?hrun1 ?hcall1
          case hrun1 => (go_simp; first | done | with_reducible rfl | (constructor <;> with_reducible rfl))
          case hcall1 =>
           refine (hNEG_h.out _).mono ?_
           rintro e w' ⟨rfl, rfl⟩
           refine ⟨_, rfl, fun _ => hF0_h.out, ?_⟩
           simp only [Act.put, nS]
           have hal := below_alloc W1 (.cells #[.int .i64 xx] 3)
           have hF1 := And.intro (box_below hF0_h.out.1 hal) (And.intro ((hal.cell (World.block_lt_of_cell? _ _ hF0_h.out.2.1)).trans hF0_h.out.2.1) ((hal.cell (World.block_lt_of_cell? _ _ hF0_h.out.2.2)).trans hF0_h.out.2.2))
           have hfB2 := (hal.frozen (World.block_lt_of_cell? _ _ hF0_h.out.2.1)).trans hfB1_h.out
           have hsl : Sl (W1.alloc (.cells #[.int .i64 xx] 3)) 3 1 B q0 cB (ints R0) := by
            have := (hIB_h.out.below hbd_h.out).alloc (.cells #[.int .i64 xx] 3)
            rw [hlk_h.out] at this
            exact this
           have hba := below_trans hbd_h.out hal hbd_h.out.size
           have hF1_h := lH hF1; have hfB2_h := lH hfB2; have hsl_h := lH hsl; have hal_h := lH hal; have hba_h := lH hba; clear hF1 hfB2 hsl hal hba
           refine oneZ 12 rfl (by kernel_rfl) (by rfl) (fun K hK => ?_)
           go_simp
           refine hK _ _ (fun _ => hF1_h.out) ?_
           clear hK K
           refine appZ 13 rfl (by kernel_rfl) (by rfl) _ _ _ rfl 3 Tryz.underlying23 info_int rfl (by omega) rfl hsl_h.out rfl (news := [.int .i64 xx]) rfl (Sl.rdc (Sl.laid W1 3 1 1 #[.int .i64 xx] (by unfold maxLen; omega) rfl)) (by intro u hu; simp at hu; subst hu; rfl) (by unfold maxLen; omega) (by omega) ?_
           intro A6 c6 w6 hsA6 hA6 hkA6 hrdA6
           clear hrdA6
           have hF2 := And.intro (box_keeps hF1_h.out.1 hkA6 (fun h => by have h3 := (hbk_h.out _ h).1; have := box_lt k1_h.out; omega)) (And.intro ((hkA6.cellK (World.block_lt_of_cell? _ _ hF1_h.out.2.1) (by rw [block_of_add]; exact fun h => (hbk_h.out _ h).2 rfl)).trans hF1_h.out.2.1) ((hkA6.cellK (World.block_lt_of_cell? _ _ hF1_h.out.2.2) (by rw [block_of_add]; exact fun h => by have := (hbk_h.out _ h).1; have := hul2_h.out; omega)).trans hF1_h.out.2.2))
           have hfB3 := (hkA6.frozenK (World.block_lt_of_cell? _ _ hF1_h.out.2.1) (by rw [block_of_add]; exact fun h => (hbk_h.out _ h).2 rfl)).trans hfB2_h.out
           have hI6 : IS w6 A6 c6 (R0 ++ [xx]) := by
            have e : ints (R0 ++ [xx]) = ints R0 ++ [.int .i64 xx] := by simp [ints]
            unfold IS
            rw [e, List.length_append, hlk_h.out]
            exact hsA6
           have hO6 := hOM_h.out.grow (i := j) (by rw [List.length_set, hbl_h.out]; exact hlt) rfl hcB hba_h.out hI6 (fun b hb => by
            rcases hA6 b hb with h | h
            · exact .inl h
            · exact .inr (by have := hba_h.out.size; omega)) hkA6
           rw [List.length_append, hlk_h.out, List.set_set, ← hL1k_h.out] at hO6
           clear hsA6 hA6 hkA6 hI6; have hF2_h := lH hF2; have hfB3_h := lH hfB3; have hO6_h := lH hO6; clear hF2 hfB3 hO6
           refine ⟨fun _ => hF2_h.out, ?_⟩
           simp only [Act.put, nS]
           refine tkC 14 ?_ rfl hF2_h.out (fun W' hW' => ?_) ?_; rotate_left; · (skip; clear hW'; go_simp; first | done | with_reducible rfl)
           simp only [Act.put, nS]
           have hz1 := hF2_h.out.2.1
           have hz2 := hfB3_h.out
           refine oneZ 15 rfl (by kernel_rfl) (by rfl) (fun K hK => ?_)
           go_simp
           refine hK _ _ (fun h => by cases h) ?_
           clear hK K; clear hz1 hz2 hfB hcx hcu
           refine doneZ (by kernel_rfl) ?_
           go_wp2_with (fail)
           go_roundw
           case rel => exact ⟨k + 1, by omega, by go_num, hO6_h.out⟩
           case measure => simp [intOf]; omega
        · obtain rfl : mb = k := by omega
          have hO2 : OM W wo (some G) a2 (X.take (j + 1) ++ (List.replicate a2 []).drop (j + 1)) := by
           have := hOM
           rw [List.take_of_length_le (by rw [hL2l_h.out]; exact Nat.le_refl _), hfin_h.out] at this
           exact this
          clear hOM k0r; have hO2_h := lH hO2; clear hO2
          go_wp2_with (fail)
          go_roundw
          case rel => exact ⟨j + 1, by omega, by go_num, hO2_h.out⟩
          case measure => simp [intOf]; omega
  · obtain rfl : a2 = j := by omega
    have hO2 : OM W wr (some G) a2 X := by
     have := hOM
     rwa [List.take_of_length_le (by rw [hXl_h.out]; exact Nat.le_refl _), List.drop_of_length_le (by simp), List.append_nil] at this
    clear hOM
    obtain ⟨hsX, hLX, hRX⟩ := hO2.rdr
    have hbw := hO2.below_
    have hXl2 : hsX.length = a2 := by rw [← hXl_h.out, hLX, List.length_map]
    have hC := spNull_any p M (some G) a2 hsX wr hRX hfld_h.out (by rw [← hLX, hXl2]; exact hXm_h.out) (by omega) (by omega)
    rw [hXl2, ← hLX, hnull_h.out] at hC
    have k0r := box_below k0_h.out hbw
    have k1r := box_below k1_h.out hbw
    obtain ⟨⟨c0, c1, c2⟩, f0, f1, f2⟩ := box3 k0r
    obtain ⟨⟨d0, d1, d2⟩, g0, g1, g2⟩ := box3 k1r
    have hMI := hMI_h.out
    have eM : IntKind.i64.wrap (M : Int) = (M : Int) := IntWalk.i64_in _ (by omega)
    clear hO2 hLX hRX hXl2; have hC_h := lH hC; have hbw_h := lH hbw; have k0r_h := lH k0r; have k1r_h := lH k1r; clear hC hbw k0r k1r
    go_wp2_with (fail)
    clear c0 c1 c2 f0 f1 f2 d0 d1 d2 g0 g1 g2 hMI eM
    refine (hC_h.out).mono ?_
    rintro e w3 hret
    obtain ⟨A5, c5, rfl, hK5⟩ := hret.om
    obtain ⟨kk, hkk⟩ : ∃ kk, kk = K.length := ⟨_, rfl⟩
    rw [← hkk]
    have hk48 : kk ≤ 48 := by rw [hkk]; have := hKm_h.out.1; omega
    have hbw3 := below_trans hbw_h.out hK5.below_ hbw_h.out.size
    have hN0 := RdO.nil w3 w3 (Below.refl _ _)
    clear hret; have hK5_h := lH hK5; have hkk_h := lH hkk; have hbw3_h := lH hbw3; have hN0_h := lH hN0; clear hK5 hkk hbw3 hN0
    go_wp2_with (fail)
    go_loopw [87, 14] (fun i v wr => ∃ (k : Nat) (A' : Option Addr) (c' : Nat) (ys : List Hd) (q : Nat), k ≤ kk ∧ i = .int .i64 k ∧ q = k ∧ v = .slice A' q c' ∧ ys.length = q ∧ ys.map (fun h : Hd => h.2.2) = (K.take k).map g ∧ RdO w3 wr A' c' ys) (fun i _ _ => kk - (intOf i).toNat)
    case atStart => exact ⟨0, none, 0, [], 0, Nat.zero_le _, rfl, rfl, rfl, rfl, rfl, hN0_h.out⟩
    case round =>
     clear hN0_h
     obtain ⟨k, A', c', ys, q0, hk, rfl, hq0, rfl, hyl, hym, hO⟩ := hrel
     obtain ⟨wo, rfl⟩ : ∃ x, x = wr := ⟨_, rfl⟩
     have hbo := below_trans hbw3_h.out hO.below_ hbw3_h.out.size
     have k0r := box_below k0_h.out hbo
     have k1r := box_below k1_h.out hbo
     by_cases hlt : k < kk
     · have hkI : (k : Int) < (kk : Int) := by omega
       have hq48 : q0 ≤ 48 := by omega
       obtain ⟨ad, B, d, hA5, hcu, hfu, hI⟩ := (hK5_h.out.below hO.below_).get (i := k) (by rw [← hkk_h.out]; exact hlt)
       subst hA5
       have hKk : K[k]? = some (K.getD k []) := getElem?_getD (by rw [← hkk_h.out]; exact hlt)
       obtain ⟨u, hu⟩ : ∃ u, u = K.getD k [] := ⟨_, rfl⟩
       rw [← hu] at hcu hI hKk
       have hur := hKm_h.out.2.row u (List.mem_of_getElem? hKk)
       have hul := hur.1
       rw [hul] at hcu
       obtain ⟨B1, hr1, hI1, hf1⟩ := take_sl hI hul (k := ma) (by rw [hM_h.out]; omega)
       obtain ⟨B2, e2, hr2, hI2, hf2⟩ := drop_sl (r := mb) hI hul (by rw [hM_h.out])
       have hl1 : (u.take ma).length = ma := by rw [List.length_take, hul, hM_h.out]; omega
       have hl2 : (u.drop ma).length = mb := by rw [List.length_drop, hul, hM_h.out]; omega
       have hres1 : Res p (u.take ma) := fun x hx => hur.2 x (List.mem_of_mem_take hx)
       have hres2 : Res p (u.drop ma) := fun x hx => hur.2 x (List.mem_of_mem_drop hx)
       have hS1 := fun (W' : World) (hb : Below wo.heap.size wo W') => spSum_any p n1 ma Aa B1 ca d ga (u.take ma) La W' (((hOa_h.out.below hbo).below hb).rd) hLa_h.out.symm hLma_h.out ((hI1.below hb).rd) hl1 hres1 hmata_h.out (by have := hpbb_h.out; omega) hpbb_h.out.2 (by omega) (by have := hn1_h.out; omega)
       have hS2 := fun (W' : World) (hb : Below wo.heap.size wo W') => spSum_any p n2 mb Ab B2 cb e2 gb (u.drop ma) Lb W' (((hOb_h.out.below hbo).below hb).rd) hLb_h.out.symm hLmb_h.out ((hI2.below hb).rd) hl2 hres2 hmatb_h.out (by have := hpbb_h.out; omega) hpbb_h.out.2 (by omega) (by have := hn2_h.out; omega)
       obtain ⟨x, hx⟩ : ∃ x, x = cmbTo p n1 (u.take ma) La ma := ⟨_, rfl⟩
       obtain ⟨z, hz⟩ : ∃ z, z = cmbTo p n2 (u.drop ma) Lb mb := ⟨_, rfl⟩
       have hxl : x.length = n1 := by rw [hx]; exact cmbTo_length _ _ _ _ _
       have hzl : z.length = n2 := by rw [hz]; exact cmbTo_length _ _ _ _ _
       have hgu : x.take a1 ++ z.drop a2 = g u := by rw [hx, hz]; exact hpr_h.out u
       simp only [← hx] at hS1
       simp only [← hz] at hS2
       have hKt : (K.take (k + 1)).map g = (K.take k).map g ++ [g u] := by rw [List.take_add_one, hKk, List.map_append]; rfl
       have hbS : Below wo.heap.size wo wo.drew := below_drewN (Below.refl _ _) 1
       have hn1I := hn1I_h.out
       have hn2I := hn2I_h.out
       have en1 : IntKind.i64.wrap (n1 : Int) = (n1 : Int) := IntWalk.i64_in _ (by have := hn1_h.out; omega)
       have en2 : IntKind.i64.wrap (n2 : Int) = (n2 : Int) := IntWalk.i64_in _ (by have := hn2_h.out; omega)
       clear hI1 hI2 hres1 hres2 hl1 hl2 hI hur hul hx hz hf1 hf2 hKk hu hfu; have hyl_h := lH hyl; have hym_h := lH hym; have hO_h := lH hO; have hbo_h := lH hbo; have k0r_h := lH k0r; have k1r_h := lH k1r; have hS1_h := lH hS1; have hS2_h := lH hS2; have hxl_h := lH hxl; have hzl_h := lH hzl; have hgu_h := lH hgu; have hKt_h := lH hKt; have hr1_h := lH hr1; have hr2_h := lH hr2; have hq0_h := lH hq0; have hbS_h := lH hbS; clear hyl hym hO hbo k0r k1r hS1 hS2 hxl hzl hgu hKt hr1 hr2 hq0 hbS
       go_wp2_with (fail)
       refine beginH (fun w' => w'.heap[w.heap.size]? = some (.cells #[.int .i64 (a1 : Int), .int .i64 (a2 : Int), .slice Aa ma ca] tRel)) (by kernel_rfl) ?_
       clear hcu
       replace k0r_h := lH (box_below k0r_h.out hbS_h.out)
       refine tkH 0 ?_ rfl k0r_h.out (fun W' hW' => ?_) ?_; rotate_left; · (obtain ⟨⟨y0, y1, y2⟩, y3, y4, y5⟩ := box3 hW'; clear hW'; go_simp; first | done | with_reducible rfl)
       simp only [Act.put, nS]
       refine tkH 1 ?_ rfl k0r_h.out (fun W' hW' => ?_) ?_; rotate_left; · (obtain ⟨⟨y0, y1, y2⟩, y3, y4, y5⟩ := box3 hW'; clear hW'; go_simp; first | done | with_reducible rfl)
       simp only [Act.put, nS]
       refine tkH 2 ?_ rfl k0r_h.out (fun W' hW' => ?_) ?_; rotate_left; · (obtain ⟨⟨y0, y1, y2⟩, y3, y4, y5⟩ := box3 hW'; clear hW'; go_simp; first | done | with_reducible rfl)
       simp only [Act.put, nS]
       refine tkH 3 ?_ rfl k0r_h.out (fun W' hW' => ?_) ?_; rotate_left; · (obtain ⟨⟨y0, y1, y2⟩, y3, y4, y5⟩ := box3 hW'; clear hW'; go_simp; first | done | with_reducible rfl)
       simp only [Act.put, nS]
       refine tkH 4 ?_ rfl k0r_h.out (fun W' hW' => ?_) ?_; rotate_left; · (obtain ⟨⟨y0, y1, y2⟩, y3, y4, y5⟩ := box3 hW'; clear hW'; go_simp; first | done | with_reducible rfl)
       simp only [Act.put, nS]
       refine tkH 5 ?_ rfl k0r_h.out (fun W' hW' => ?_) ?_; rotate_left; · (obtain ⟨⟨y0, y1, y2⟩, y3, y4, y5⟩ := box3 hW'; clear hW'; go_simp; first | done | with_reducible rfl)
       simp only [Act.put, nS]
       refine tkH 6 ?_ rfl k0r_h.out (fun W' hW' => ?_) ?_; rotate_left; · (obtain ⟨⟨y0, y1, y2⟩, y3, y4, y5⟩ := box3 hW'; clear hW'; go_simp; first | done | with_reducible rfl)
       simp only [Act.put, nS]
       refine tkH 7 ?_ rfl k0r_h.out (fun W' hW' => ?_) ?_; rotate_left; · (obtain ⟨⟨y0, y1, y2⟩, y3, y4, y5⟩ := box3 hW'; clear hW'; go_simp; first | done | with_reducible rfl)
       simp only [Act.put, nS]
       refine tkH 8 ?_ rfl k0r_h.out (fun W' hW' => ?_) ?_; rotate_left; · (obtain ⟨⟨y0, y1, y2⟩, y3, y4, y5⟩ := box3 hW'; clear hW'; go_simp; first | done | with_reducible rfl)
       simp only [Act.put, nS]
       refine tkH 9 ?_ rfl k0r_h.out (fun W' hW' => ?_) ?_; rotate_left; · (obtain ⟨⟨y0, y1, y2⟩, y3, y4, y5⟩ := box3 hW'; clear hW'; go_simp; first | done | with_reducible rfl)
       simp only [Act.put, nS]
       refine tkH 10 ?_ rfl k0r_h.out (fun W' hW' => ?_) ?_; rotate_left; · (obtain ⟨⟨y0, y1, y2⟩, y3, y4, y5⟩ := box3 hW'; clear hW'; go_simp; first | done | with_reducible rfl)
       simp only [Act.put, nS]
       refine takeH 11 (v := .slice B1 ma d) rfl (by kernel_rfl) (by kernel_rfl) (by kernel_rfl) (fun _ _ _ h => h) k0r_h.out (by rfl) (fun W' _ => xop_sliceW rfl (hr1_h.out W')) ?_
       simp only [Act.put, nS]
       refine' callH 12 (f := _) (args := _) rfl (by kernel_rfl) (by rfl) ?_ ?_; rotate_left 2; · (go_simp; first | done | with_reducible rfl | (constructor <;> with_reducible rfl))
       refine (hS1_h.out _ hbS_h.out).mono ?_
       rintro e w4 ⟨Ax, cx, rfl, hix, hfx, hbx⟩
       rw [hxl_h.out]
       replace k0r_h := lH (box_below k0r_h.out hbx)
       have hb4 := below_trans hbS_h.out hbx hbS_h.out.size
       have hfx2 : Fresh wo.heap.size Ax := fun b hb => Nat.le_trans hbS_h.out.size (hfx b hb)
       refine ⟨_, rfl, k0r_h.out, ?_⟩
       simp only [Act.put, nS]
       have hix_h := lH hix; have hfx_h := lH hfx; have hbx_h := lH hbx; have hb4_h := lH hb4; have hfx2_h := lH hfx2; clear hix hfx hbx hb4 hfx2
       refine tkH 13 ?_ rfl k0r_h.out (fun W' hW' => ?_) ?_; rotate_left; · (skip; clear hW'; go_simp; first | done | with_reducible rfl)
       simp only [Act.put, nS]
       refine doneH (by kernel_rfl) ?_
       have k1q := box_below k1r_h.out hb4_h.out
       have hbd4 : Below w4.heap.size w4 w4.drew := below_drewN (Below.refl _ _) 1
       have hb5 := below_trans hb4_h.out hbd4 hb4_h.out.size
       have k1q_h := lH k1q; have hbd4_h := lH hbd4; have hb5_h := lH hb5; clear k1q hbd4 hb5
       go_wp2_with (fail)
       refine beginH (fun w' => w'.heap[w.heap.size]? = some (.cells #[.int .i64 (a1 : Int), .int .i64 (a2 : Int), .slice Aa ma ca] tRel) ∧ w'.heap[w.heap.size + 1]? = some (.cells #[.int .i64 (a2 : Int), .int .i64 (b2 : Int), .slice Ab mb cb] tRel)) (by kernel_rfl) ?_
       replace k0r_h := lH (box_below k0r_h.out hbd4_h.out)
       replace k1q_h := lH (box_below k1q_h.out hbd4_h.out)
       refine tkH 0 ?_ rfl ⟨k0r_h.out, k1q_h.out⟩ (fun W' hW' => ?_) ?_; rotate_left; · (obtain ⟨⟨y0, y1, y2⟩, y3, y4, y5⟩ := box3 hW'.1; obtain ⟨⟨x0, x1, x2⟩, x3, x4, x5⟩ := box3 hW'.2; clear hW'; go_simp; first | done | with_reducible rfl)
       simp only [Act.put, nS]
       refine tkH 1 ?_ rfl ⟨k0r_h.out, k1q_h.out⟩ (fun W' hW' => ?_) ?_; rotate_left; · (obtain ⟨⟨y0, y1, y2⟩, y3, y4, y5⟩ := box3 hW'.1; obtain ⟨⟨x0, x1, x2⟩, x3, x4, x5⟩ := box3 hW'.2; clear hW'; go_simp; first | done | with_reducible rfl)
       simp only [Act.put, nS]
       refine tkH 2 ?_ rfl ⟨k0r_h.out, k1q_h.out⟩ (fun W' hW' => ?_) ?_; rotate_left; · (obtain ⟨⟨y0, y1, y2⟩, y3, y4, y5⟩ := box3 hW'.1; obtain ⟨⟨x0, x1, x2⟩, x3, x4, x5⟩ := box3 hW'.2; clear hW'; go_simp; first | done | with_reducible rfl)
       simp only [Act.put, nS]
       refine tkH 3 ?_ rfl ⟨k0r_h.out, k1q_h.out⟩ (fun W' hW' => ?_) ?_; rotate_left; · (obtain ⟨⟨y0, y1, y2⟩, y3, y4, y5⟩ := box3 hW'.1; obtain ⟨⟨x0, x1, x2⟩, x3, x4, x5⟩ := box3 hW'.2; clear hW'; go_simp; first | done | with_reducible rfl)
       simp only [Act.put, nS]
       refine tkH 4 ?_ rfl ⟨k0r_h.out, k1q_h.out⟩ (fun W' hW' => ?_) ?_; rotate_left; · (obtain ⟨⟨y0, y1, y2⟩, y3, y4, y5⟩ := box3 hW'.1; obtain ⟨⟨x0, x1, x2⟩, x3, x4, x5⟩ := box3 hW'.2; clear hW'; go_simp; first | done | with_reducible rfl)
       simp only [Act.put, nS]
       refine tkH 5 ?_ rfl ⟨k0r_h.out, k1q_h.out⟩ (fun W' hW' => ?_) ?_; rotate_left; · (obtain ⟨⟨y0, y1, y2⟩, y3, y4, y5⟩ := box3 hW'.1; obtain ⟨⟨x0, x1, x2⟩, x3, x4, x5⟩ := box3 hW'.2; clear hW'; go_simp; first | done | with_reducible rfl)
       simp only [Act.put, nS]
       refine tkH 6 ?_ rfl ⟨k0r_h.out, k1q_h.out⟩ (fun W' hW' => ?_) ?_; rotate_left; · (obtain ⟨⟨y0, y1, y2⟩, y3, y4, y5⟩ := box3 hW'.1; obtain ⟨⟨x0, x1, x2⟩, x3, x4, x5⟩ := box3 hW'.2; clear hW'; go_simp; first | done | with_reducible rfl)
       simp only [Act.put, nS]
       refine tkH 7 ?_ rfl ⟨k0r_h.out, k1q_h.out⟩ (fun W' hW' => ?_) ?_; rotate_left; · (obtain ⟨⟨y0, y1, y2⟩, y3, y4, y5⟩ := box3 hW'.1; obtain ⟨⟨x0, x1, x2⟩, x3, x4, x5⟩ := box3 hW'.2; clear hW'; go_simp; first | done | with_reducible rfl)
       simp only [Act.put, nS]
       refine tkH 8 ?_ rfl ⟨k0r_h.out, k1q_h.out⟩ (fun W' hW' => ?_) ?_; rotate_left; · (obtain ⟨⟨y0, y1, y2⟩, y3, y4, y5⟩ := box3 hW'.1; obtain ⟨⟨x0, x1, x2⟩, x3, x4, x5⟩ := box3 hW'.2; clear hW'; go_simp; first | done | with_reducible rfl)
       simp only [Act.put, nS]
       refine tkH 9 ?_ rfl ⟨k0r_h.out, k1q_h.out⟩ (fun W' hW' => ?_) ?_; rotate_left; · (obtain ⟨⟨y0, y1, y2⟩, y3, y4, y5⟩ := box3 hW'.1; obtain ⟨⟨x0, x1, x2⟩, x3, x4, x5⟩ := box3 hW'.2; clear hW'; go_simp; first | done | with_reducible rfl)
       simp only [Act.put, nS]
       refine tkH 10 ?_ rfl ⟨k0r_h.out, k1q_h.out⟩ (fun W' hW' => ?_) ?_; rotate_left; · (obtain ⟨⟨y0, y1, y2⟩, y3, y4, y5⟩ := box3 hW'.1; obtain ⟨⟨x0, x1, x2⟩, x3, x4, x5⟩ := box3 hW'.2; clear hW'; go_simp; first | done | with_reducible rfl)
       simp only [Act.put, nS]
       refine takeH 11 (v := .slice B2 mb e2) rfl (by kernel_rfl) (by kernel_rfl) (by kernel_rfl) (fun _ _ _ h => h) ⟨k0r_h.out, k1q_h.out⟩ (by rfl) (fun W' _ => xop_sliceW rfl (hr2_h.out W')) ?_
       simp only [Act.put, nS]
       refine' callH 12 (f := _) (args := _) rfl (by kernel_rfl) (by rfl) ?_ ?_; rotate_left 2; · (go_simp; first | done | with_reducible rfl | (constructor <;> with_reducible rfl))
       refine (hS2_h.out _ hb5_h.out).mono ?_
       rintro e w5 ⟨Az, cz, rfl, hiz, hfz, hbz⟩
       rw [hzl_h.out]
       replace k0r_h := lH (box_below k0r_h.out hbz)
       replace k1q_h := lH (box_below k1q_h.out hbz)
       have hb6 := below_trans hb5_h.out hbz hb5_h.out.size
       have hfz2 : Fresh wo.heap.size Az := fun b hb => Nat.le_trans hb5_h.out.size (hfz b hb)
       have hix5 := hix_h.out.below (below_trans hbd4_h.out hbz hbd4_h.out.size)
       refine ⟨_, rfl, ⟨k0r_h.out, k1q_h.out⟩, ?_⟩
       simp only [Act.put, nS]
       have hiz_h := lH hiz; have hfz_h := lH hfz; have hbz_h := lH hbz; have hb6_h := lH hb6; have hfz2_h := lH hfz2; have hix5_h := lH hix5; clear hiz hfz hbz hb6 hfz2 hix5
       refine tkH 13 ?_ rfl ⟨k0r_h.out, k1q_h.out⟩ (fun W' hW' => ?_) ?_; rotate_left; · (skip; clear hW'; go_simp; first | done | with_reducible rfl)
       simp only [Act.put, nS]
       refine doneH (by kernel_rfl) ?_
       have hbd5 : Below w5.heap.size w5 w5.drew := below_drewN (Below.refl _ _) 1
       obtain ⟨Bx, hrx, hIx, hfpx⟩ := take_sl hix5_h.out hxl_h.out (k := a1) (by rw [hn1_h.out]; omega)
       obtain ⟨Bz, ez, hrz, hIz, hfpz⟩ := drop_sl (r := b2) hiz_h.out hzl_h.out (by rw [hn2_h.out])
       have hlx : (x.take a1).length = a1 := by rw [List.length_take, hxl_h.out, hn1_h.out]; omega
       have hlz : (z.drop a2).length = b2 := by rw [List.length_drop, hzl_h.out, hn2_h.out]; omega
       have hOw := l1Own_any Bx cx (x.take a1) w5.drew (hIx.below hbd5).rd (by omega)
       rw [hlx] at hOw
       have hb7 := below_trans hb6_h.out hbd5 hb6_h.out.size
       clear hn1I hn2I en1 en2; have hIx_h := lH hIx; have hIz_h := lH hIz; have hrx_h := lH hrx; have hrz_h := lH hrz; have hlx_h := lH hlx; have hlz_h := lH hlz; have hOw_h := lH hOw; have hbd5_h := lH hbd5; have hb7_h := lH hb7; clear hIx hIz hrx hrz hlx hlz hOw hbd5 hb7
       go_wp2_with (fail)
       refine beginH (fun w' => w'.heap[w.heap.size]? = some (.cells #[.int .i64 (a1 : Int), .int .i64 (a2 : Int), .slice Aa ma ca] tRel)) (by kernel_rfl) ?_
       replace k0r_h := lH (box_below k0r_h.out hbd5_h.out)
       refine tkH 0 ?_ rfl k0r_h.out (fun W' hW' => ?_) ?_; rotate_left; · (obtain ⟨⟨y0, y1, y2⟩, y3, y4, y5⟩ := box3 hW'; clear hW'; go_simp; first | done | with_reducible rfl)
       simp only [Act.put, nS]
       refine tkH 1 ?_ rfl k0r_h.out (fun W' hW' => ?_) ?_; rotate_left; · (obtain ⟨⟨y0, y1, y2⟩, y3, y4, y5⟩ := box3 hW'; clear hW'; go_simp; first | done | with_reducible rfl)
       simp only [Act.put, nS]
       refine tkH 2 ?_ rfl k0r_h.out (fun W' hW' => ?_) ?_; rotate_left; · (obtain ⟨⟨y0, y1, y2⟩, y3, y4, y5⟩ := box3 hW'; clear hW'; go_simp; first | done | with_reducible rfl)
       simp only [Act.put, nS]
       refine tkH 3 ?_ rfl k0r_h.out (fun W' hW' => ?_) ?_; rotate_left; · (obtain ⟨⟨y0, y1, y2⟩, y3, y4, y5⟩ := box3 hW'; clear hW'; go_simp; first | done | with_reducible rfl)
       simp only [Act.put, nS]
       refine takeH 4 (v := .slice Bx a1 cx) rfl (by kernel_rfl) (by kernel_rfl) (by kernel_rfl) (fun _ _ _ h => h) k0r_h.out (by rfl) (fun W' _ => xop_sliceW rfl (hrx_h.out W')) ?_
       simp only [Act.put, nS]
       refine tkH 6 ?_ rfl k0r_h.out (fun W' hW' => ?_) ?_; rotate_left; · (skip; clear hW'; go_simp; first | done | with_reducible rfl)
       simp only [Act.put, nS]
       refine tkH 7 ?_ rfl k0r_h.out (fun W' hW' => ?_) ?_; rotate_left; · (skip; clear hW'; go_simp; first | done | with_reducible rfl)
       simp only [Act.put, nS]
       refine takeH 8 (v := .slice Bz b2 ez) rfl (by kernel_rfl) (by kernel_rfl) (by kernel_rfl) (fun _ _ _ h => h) k0r_h.out (by rfl) (fun W' _ => xop_sliceW rfl (hrz_h.out W')) ?_
       simp only [Act.put, nS]
       refine' callH 5 (f := _) (args := _) rfl (by kernel_rfl) (by rfl) ?_ ?_; rotate_left 2; · (go_simp; first | done | with_reducible rfl | (constructor <;> with_reducible rfl))
       refine (hOw_h.out).mono ?_
       rintro e w6 ⟨Ao, co, rfl, hio, hfo, hbo6⟩
       rw [hlx_h.out]
       replace k0r_h := lH (box_below k0r_h.out hbo6)
       have hb8 := below_trans hb7_h.out hbo6 hb7_h.out.size
       refine ⟨_, rfl, k0r_h.out, ?_⟩
       simp only [Act.put, nS]
       have hso : Sl w6 3 1 Ao a1 co (ints (x.take a1)) := by have := hio; unfold IS at this; rw [hlx_h.out] at this; exact this
       have hrz6 := (hIz_h.out.below (below_trans hbd5_h.out hbo6 hbd5_h.out.size)).rd.rdc
       have hlz2 : (ints (z.drop a2)).length = b2 * 1 := by rw [ints_length, hlz_h.out, Nat.mul_one]
       have hio_h := lH hio; have hfo_h := lH hfo; have hbo6_h := lH hbo6; have hb8_h := lH hb8; have hso_h := lH hso; have hrz6_h := lH hrz6; have hlz2_h := lH hlz2; clear hio hfo hbo6 hb8 hso hrz6 hlz2
       refine appH 9 rfl (by kernel_rfl) (by rfl) _ _ _ rfl tInt Tryz.underlying23 info_int rfl (by omega) rfl hso_h.out rfl hlz2_h.out hrz6_h.out (ints_one (z.drop a2)) (by unfold maxLen; omega) (by omega) ?_
       intro A7 c7 w7 hsA7 hA7 hkA7
       have hk0l := box_lt k0_h.out
       have hwz := hwz_h.out
       have hbos := hbo_h.out.size
       have hfo' := hfo_h.out
       have hb7s := hb7_h.out.size
       have k07 := box_keeps k0r_h.out hkA7 (fun h => by have := hfo' _ h; omega)
       have hb9 := below_keeps hb8_h.out hkA7 hb8_h.out.size (fun b hb => by have := hfo' b hb; omega)
       have hfA7 : Fresh wo.heap.size A7 := fun b hb => by
        rcases hA7 b hb with h | h
        · have := hfo' b h; omega
        · have := hb8_h.out.size; omega
       have hgl : (g u).length = N := by rw [← hgu_h.out, List.length_append, hlx_h.out, hlz_h.out, hN_h.out]
       have hI7 : IS w7 A7 c7 (g u) := by
        unfold IS
        rw [hgl, ← hgu_h.out, hN_h.out]
        have e : ints (x.take a1 ++ z.drop a2) = ints (x.take a1) ++ ints (z.drop a2) := by simp [ints]
        rw [e]; exact hsA7
       have hN12 : a1 + b2 = N := hN_h.out.symm
       rw [hN12]
       clear hsA7 hA7 hkA7 hk0l hwz hbos hfo' hb7s hN12; have k07_h := lH k07; have hb9_h := lH hb9; have hfA7_h := lH hfA7; have hgl_h := lH hgl; have hI7_h := lH hI7; clear k07 hb9 hfA7 hgl hI7
       refine ⟨k07_h.out, ?_⟩
       simp only [Act.put, nS]
       have hal := below_alloc w7 (.cells #[.slice A7 N c7] 23)
       have hba := below_trans hb9_h.out hal hb9_h.out.size
       have k08 := box_below k07_h.out hal
       have hsl : Sl (w7.alloc (.cells #[.slice A7 N c7] 23)) 23 1 A' q0 c' (ys.map Hd.val) := by
        have := (hO_h.out.sl.below hb9_h.out).alloc (.cells #[.slice A7 N c7] 23)
        rwa [hyl_h.out] at this
       have hI8 := hI7_h.out.below hal
       have hal_h := lH hal; have hba_h := lH hba; have k08_h := lH k08; have hsl_h := lH hsl; have hI8_h := lH hI8; clear hal hba k08 hsl hI8
       refine oneH 10 rfl (by kernel_rfl) (by rfl) (fun K hK => ?_)
       go_simp
       refine hK _ _ k08_h.out ?_
       clear hK K
       refine appH 11 rfl (by kernel_rfl) (by rfl) _ _ _ rfl 23 Tryz.underlying27 info_ints rfl (by omega) rfl hsl_h.out rfl (news := [.slice A7 N c7]) rfl (Sl.rdc (Sl.laid w7 23 1 1 #[.slice A7 N c7] (by unfold maxLen; omega) rfl)) (by intro u hu; simp at hu; subst hu; rfl) (by unfold maxLen; omega) (by omega) ?_
       intro A9 c9 w9 hsA9 hA9 hkA9
       have hO2 := hO_h.out.snoc hba_h.out (x := (A7, c7, g u)) hI8_h.out (fun b hb hb' => by
        have h1 := hO_h.out.sl.lt b hb'
        have h2 := hfA7_h.out b hb
        omega) (by rw [hyl_h.out]) (by show Sl w9 _ 1 A9 (q0 + 1) c9 (ys.map Hd.val ++ [.slice A7 (g u).length c7]); rw [hgl_h.out]; exact hsA9) hA9 hkA9
       have hnw := hO_h.out.new
       have k09 := box_keeps k08_h.out hkA9 (fun h => by have h1 := hnw _ h; have h2 := box_lt k0_h.out; have h3 := hbw3_h.out.size; have h4 := hwz_h.out; omega)
       clear hsA9 hA9 hkA9 hnw; have hO2_h := lH hO2; have k09_h := lH k09; clear hO2 k09
       refine ⟨k09_h.out, ?_⟩
       simp only [Act.put, nS]
       refine tkH 12 ?_ rfl k09_h.out (fun W' hW' => ?_) ?_; rotate_left; · (skip; clear hW'; go_simp; first | done | with_reducible rfl)
       simp only [Act.put, nS]
       refine doneH (by kernel_rfl) ?_
       go_wp2_with (fail)
       go_roundw
       case rel => exact ⟨k + 1, A9, c9, ys ++ [(A7, c7, g u)], q0 + 1, by omega, by go_num, by have := hq0_h.out; omega, rfl, by rw [List.length_append, hyl_h.out]; rfl, by rw [List.map_append, hym_h.out, hKt_h.out]; rfl, hO2_h.out⟩
       case measure => simp [intOf]; omega
     · obtain rfl : kk = k := by omega
       have hym2 : ys.map (fun h : Hd => h.2.2) = K.map g := by rw [hym, List.take_of_length_le (by rw [hkk_h.out]; exact Nat.le_refl _)]
       have hC := rlOf_any p (a1 : Int) (b2 : Int) N A' c' ys wo hO.rdr hfld_h.out hNI_h.out (by rw [hym2]; have := hmat_h.out; rwa [show (K.map g).length = ys.length by rw [← hym2, List.length_map]] at this) (by omega) (by have := hN_h.out; omega)
       rw [hym2, ← hR_h.out, hyl] at hC
       have k2r := box_below k2_h.out hbo
       have hBr := below_trans bW_h.out hbo bW_h.out.size
       have hzr := hbo.size
       have hz2 := box_lt k2_h.out
       obtain ⟨⟨c0, c1, c2⟩, f0, f1, f2⟩ := box3 k0r
       obtain ⟨⟨d0, d1, d2⟩, g0, g1, g2⟩ := box3 k1r
       clear hym hym2 hyl hO k0r k1r; have hC_h := lH hC; have k2r_h := lH k2r; have hBr_h := lH hBr; have hq0_h := lH hq0; have hbo_h := lH hbo; clear hC k2r hBr hq0 hbo
       go_wp2_with (fail)
       refine (hC_h.out).mono ?_
       rintro e w1 ⟨v1, fp1, rfl, hO1, hf1, hb1⟩
       clear c0 c1 c2 f0 f1 f2 d0 d1 d2 g0 g1 g2
       obtain ⟨A1, n1', c1', rfl⟩ := hO1.shape
       have k2' := box_below k2r_h.out hb1
       have hB1 := below_trans hBr_h.out hb1 hBr_h.out.size
       obtain ⟨⟨d0, d1, d2⟩, g0, g1, g2⟩ := box3 k2'
       obtain ⟨s1, s2⟩ := set3 (a := .int .i64 (a1 : Int)) (b := .int .i64 (b2 : Int)) (c := .slice A1 n1' c1') k2'
       have hB3 := below_keeps hB1 s2 hB1.size (fun k hk => by omega)
       have hBs := hBr_h.out.size
       have hO3 := hO1.keeps s2 (fun k hk e => by have := hf1 k hk; omega)
       have hf3 := hf1.mono hBs
       clear k2' hB1 hO1 hf1; have s1_h := lH s1; have s2_h := lH s2; have hO3_h := lH hO3; have hf3_h := lH hf3; have hB3_h := lH hB3; clear s1 s2 hO3 hf3 hB3
       go_wp2_with (fail)
       refine bodyPost_ret (results_cell_row rfl _ _ (w.heap.size + 1 + 1) _ _ (0, 0) _ rfl s1_h.out Tryz.underlying29 rfl (by kernel_rfl)) rfl ?_
       exact ⟨_, fp1, rfl, hO3_h.out, hf3_h.out, hB3_h.out⟩
theorem IS.ne_out {w : World} {A B : Option Addr} {c n cap : Nat} {l : List Int} {xs : List Value} (h : IS w A c l) (h' : Sl w 23 1 B n cap xs) : ∀ x, x ∈ fpA A → x ∉ fpA B := by
 intro x hx hx'
 rcases h.2.2.2 with ⟨rfl, _⟩ | ⟨g, off, cur, rfl, hg, _⟩
 · simp at hx
 rcases h'.2.2.2 with ⟨rfl, _⟩ | ⟨g', off', cur', rfl, hg', _⟩
 · simp at hx'
 simp at hx hx'
 subst hx
 subst hx'
 rw [hg] at hg'
 injection hg' with hg'
 injection hg' with _ h2 _
 exact absurd h2 (by decide)
structure RwI (w0 w : World) (A : Option Addr) (cap : Nat) (hs : List Hd) : Prop where
 sl : Sl w 23 1 A hs.length cap (hs.map Hd.val)
 rows : ∀ x, x ∈ hs → IS w x.1 x.2.1 x.2.2
 new : ∀ b, b ∈ fpA A → w0.heap.size ≤ b
 below_ : Below w0.heap.size w0 w
theorem RwI.nil (w0 w : World) (hb : Below w0.heap.size w0 w) : RwI w0 w none 0 [] := ⟨Sl.nil _ _ _, fun x hx => (by cases hx), fun b hb' => (by simp at hb'), hb⟩
theorem RwI.below {w0 w w' : World} {A : Option Addr} {cap : Nat} {hs : List Hd} (h : RwI w0 w A cap hs) (hb : Below w.heap.size w w') : RwI w0 w' A cap hs :=
 ⟨h.sl.below hb, fun x hx => (h.rows x hx).below hb, h.new, below_trans h.below_ hb h.below_.size⟩
theorem RwI.rdr {w0 w : World} {A : Option Addr} {cap : Nat} {hs : List Hd} (h : RwI w0 w A cap hs) : RdR w A hs :=
 ⟨fun i x hi => by obtain ⟨ad, hA, _, hc, _⟩ := h.sl.cell (j := i) (u := x.val) (by simp [hi]); exact ⟨ad, hA, by simpa using hc⟩, fun x hx => (h.rows x hx).rd⟩
theorem RwI.app {w0 w w1 w2 : World} {A : Option Addr} {cap : Nat} {hs ys : List Hd} (h : RwI w0 w A cap hs) (hb : Below w.heap.size w w1) (hy : ∀ x, x ∈ ys → IS w1 x.1 x.2.1 x.2.2) {A' : Option Addr} {cap' n : Nat} (hn : n = hs.length + ys.length) (hs' : Sl w2 23 1 A' n cap' (hs.map Hd.val ++ ys.map Hd.val)) (hA' : ∀ b, b ∈ fpA A' → b ∈ fpA A ∨ w1.heap.size ≤ b) (hk : Keeps (· ∈ fpA A) w1 w2) : RwI w0 w2 A' cap' (hs ++ ys) := by
 subst hn
 have h1 := h.below hb
 refine ⟨by rw [List.length_append, List.map_append]; exact hs', fun x hx => ?_, fun b hb' => ?_, below_keeps h1.below_ hk h1.below_.size h.new⟩
 · rcases List.mem_append.1 hx with hx | hx
   · exact (h1.rows x hx).keeps hk ((h1.rows x hx).ne_out h1.sl)
   · exact (hy x hx).keeps hk ((hy x hx).ne_out h1.sl)
 · rcases hA' b hb' with h2 | h2
   · exact h.new b h2
   · have := h1.below_.size; omega
theorem mem_edWd {es : List Eg} {e : Eg} (he : e ∈ es) {x : Int} (hx : x ∈ e.2.2.1 ++ e.2.2.2) : x ∈ edW es := by
 induction es with
 | nil => cases he
 | cons a r ih =>
   unfold edW
   rcases List.mem_cons.1 he with rfl | he
   · rcases List.mem_append.1 hx with h | h
     · exact List.mem_append_left _ h
     · exact List.mem_append_right _ (List.mem_append_left _ h)
   · exact List.mem_append_right _ (List.mem_append_right _ (ih he))
structure DnOk (p : Int) (g : Gr) : Prop where
 fld : fieldB p = true
 lo : 0 ≤ g.1
 hi : g.1 ≤ 100
 len : g.2.1.length ≤ 60
 li : g.2.2.1.length ≤ 12
 lo' : g.2.2.2.length ≤ 12
 ends : ∀ x, x ∈ g.2.2.1 ++ g.2.2.2 → 0 ≤ x ∧ x < g.1
 edge : ∀ e, e ∈ g.2.1 → (3 ≤ e.1 ∧ e.1 ≤ 14) ∧ ((e.2.2.1.length : Int), (e.2.2.2.length : Int)) = kindTy e.1 ∧ (∀ x, x ∈ e.2.2.1 ++ e.2.2.2 → 0 ≤ x ∧ x < g.1) ∧ 0 ≤ e.2.1 ∧ e.2.1 < p ∧ e.1 ≠ 8 ∧ e.1 ≠ 14
theorem DnOk.of {p : Int} {g : Gr} (h : dnAskB p g = true) : DnOk p g := by
 unfold dnAskB gOverB grB at h
 simp only [Bool.and_eq_true, List.all_eq_true, decide_eq_true_eq] at h
 obtain ⟨⟨h1, ⟨⟨h2, h3, h4, h5⟩, h6, h7, _⟩, h8⟩, h9⟩ := h
 unfold t_inB at h2
 have h2 := of_decide_eq_true h2
 have hw := inW_iff.1 h7
 refine ⟨h1, h2.1, h2.2, h3, h4, h5, fun x hx => hw x ?_, fun e he => ?_⟩
 · unfold t_allW
   rcases List.mem_append.1 hx with h | h
   · exact List.mem_append_left _ h
   · exact List.mem_append_right _ (List.mem_append_left _ h)
 · have h10 := h6 e he
   unfold egB at h10
   simp only [Bool.and_eq_true, decide_eq_true_eq] at h10
   obtain ⟨k1, k2, k3⟩ := h10
   unfold t_inB at k1
   have k1 := of_decide_eq_true k1
   have h11 := h9 e he
   unfold noDl at h11
   simp only [Bool.and_eq_true, decide_eq_true_eq] at h11
   refine ⟨k1, k3, fun x hx => hw x ?_, ?_, h8 e he, h11.1, h11.2⟩
   · unfold t_allW
     exact List.mem_append_right _ (List.mem_append_right _ (mem_edWd he hx))
   · unfold gvB at k2
     split at k2
     · unfold t_inB at k2
       exact (of_decide_eq_true k2).1
     · have := of_decide_eq_true k2; omega
theorem dnRowsM_len (p : Int) (n : Nat) (e : Eg) : (dnRowsM p n e).length ≤ 2 := by
 unfold dnRowsM
 repeat' split
 all_goals simp
theorem dnRowsM_mat {p : Int} (hp : 0 < p) (n : Nat) (e : Eg) : ∀ v, v ∈ dnRowsM p n e → v.length = n ∧ Res p v := by
 have h : ∀ a b, (sprV p n a b).length = n ∧ Res p (sprV p n a b) := fun a b => ⟨sprTo_length _ _ _ _ _, sprTo_res hp _ _ _ _⟩
 intro v hv
 unfold dnRowsM at hv
 split at hv
 · simp only [List.mem_cons, List.not_mem_nil, or_false] at hv
   rcases hv with rfl | rfl <;> exact h _ _
 · split at hv
   · simp only [List.mem_cons, List.not_mem_nil, or_false] at hv
     subst hv; exact h _ _
   · split at hv
     · simp only [List.mem_cons, List.not_mem_nil, or_false] at hv
       subst hv; exact h _ _
     · split at hv
       · simp only [List.mem_cons, List.not_mem_nil, or_false] at hv
         subst hv; exact h _ _
       · cases hv
theorem eqs_mat {p : Int} (hp : 0 < p) (n : Nat) (es : List Eg) : Mat p (es.flatMap (dnRowsM p n)).length n (es.flatMap (dnRowsM p n)) := ⟨rfl, fun v hv => by
 obtain ⟨e, _, hv⟩ := List.mem_flatMap.1 hv
 exact dnRowsM_mat hp n e v hv⟩
theorem rdc_vals {w : World} {A : Option Addr} {hs : List Hd} (h : RdR w A hs) : RdC w A (hs.map Hd.val) := fun j u hj => by
 rw [List.getElem?_map] at hj
 cases hx : hs[j]? with
 | none => rw [hx] at hj; cases hj
 | some x =>
   rw [hx] at hj
   obtain rfl : x.val = u := by simpa using hj
   exact h.1 j x hx
theorem vals_one (hs : List Hd) : ∀ u ∈ hs.map Hd.val, u.oneCell' = true := fun u hu => by
 obtain ⟨x, _, rfl⟩ := List.mem_map.1 hu
 exact Hd.val_one x
set_option maxRecDepth 100000 in
set_option maxHeartbeats 2000000 in
theorem dnValues_any (p : Int) {v : Value} {g : Gr} (w : World) (h : RdGr w v g) (ok : OkG g) (hd : DnOk p g) :
  Calls Tryz.prog 60 #[.int .i64 p, v] w (RetSS w (nullM p g.1.toNat (dnEqs p g))) := by
 obtain ⟨A, c, hs, ⟨B, b, s⟩, ⟨C, d, t⟩, rfl, e1, e2, e3, hE, hRa, hRb⟩ := id h
 obtain ⟨z, es, s0, t0⟩ := g
 have a1 : es = hs.map egOf := e1
 have a2 : s = s0 := e2
 have a3 : t = t0 := e3
 subst a2 a3
 clear e1 e2 e3
 obtain ⟨m, hm⟩ : ∃ m, m = hs.length := ⟨_, rfl⟩
 have hmes : es.length = m := by rw [a1, List.length_map, hm]
 have hm20 : m ≤ 1048576 := by rw [← hmes]; exact ok.1.1
 change RdGr w (.agg #[.int .i64 z, .slice A hs.length c, .slice B s.length b, .slice C t.length d]) (z, es, s, t) at h
 show Calls Tryz.prog _ #[.int .i64 p, .agg #[.int .i64 z, .slice A hs.length c, .slice B s.length b, .slice C t.length d]] w _
 rw [← hm] at h ⊢
 obtain ⟨W, hW, bW, k0⟩ := (⟨_, rfl, below_alloc _ _, heap_alloc_new _ _⟩ : ∃ W, W = w.alloc (.cells #[.int .i64 z, .slice A m c, .slice B s.length b, .slice C t.length d] tGr) ∧ Below w.heap.size w W ∧ W.heap[w.heap.size]? = some (.cells #[.int .i64 z, .slice A m c, .slice B s.length b, .slice C t.length d] tGr))
 obtain ⟨⟨c0, c1, c2, c3⟩, f0, f1, f2, f3⟩ := box4 k0
 obtain ⟨n, hn⟩ : ∃ n, n = z.toNat := ⟨_, rfl⟩
 have hz0 : 0 ≤ z := hd.lo
 have hz1 : z ≤ 100 := hd.hi
 have hzn : z = (n : Int) := by omega
 have hpb := fieldB_bounds hd.fld
 have hes60 : m ≤ 60 := by rw [← hmes]; exact hd.len
 have hedge : ∀ e, e ∈ es → (3 ≤ e.1 ∧ e.1 ≤ 14) ∧ ((e.2.2.1.length : Int), (e.2.2.2.length : Int)) = kindTy e.1 ∧ (∀ x, x ∈ e.2.2.1 ++ e.2.2.2 → 0 ≤ x ∧ x < (n : Int)) ∧ 0 ≤ e.2.1 ∧ e.2.1 < p := fun e he => by
  obtain ⟨x1, x2, x3, x4, x5, _⟩ := hd.edge e he
  exact ⟨x1, x2, fun x hx => by rw [← hzn]; exact x3 x hx, x4, x5⟩
 have hmat := eqs_mat (p := p) (by omega) n es
 obtain ⟨X, hX⟩ : ∃ X, X = es.flatMap (dnRowsM p n) := ⟨_, rfl⟩
 rw [← hX] at hmat
 have hXE : dnEqs p (z, es, s, t) = X := by rw [hX, hn]; rfl
 rw [hXE]
 show Calls Tryz.prog _ _ w (RetSS w (nullM p z.toNat X))
 rw [← hn]
 have hE0 := hE.below bW
 have hfld := hd.fld
 have hN0 := RwI.nil W W (Below.refl _ _)
 have hn100 : n ≤ 100 := by omega
 clear h hd ok hE hRa hRb hz0 hz1
 subst hzn
 clear hn; have hm_h := lH hm; have hmes_h := lH hmes; have a1_h := lH a1; have hE0_h := lH hE0; have k0_h := lH k0; have bW_h := lH bW; have hedge_h := lH hedge; have hmat_h := lH hmat; have hX_h := lH hX; have hfld_h := lH hfld; have hN0_h := lH hN0; have hpb_h := lH hpb; clear hm hmes a1 hE0 k0 bW hedge hmat hX hfld hN0 hpb
 go_enter Tryz.func60, Tryz.ntmps60
 go_upto_region 1 with (fail)
 rw [← hW]
 clear hW
 go_wp2_with (fail)
 clear c0 c1 c2 c3 f0 f1 f2 f3
 go_loopw [11, 5] (fun i v wr => ∃ (k : Nat) (A' : Option Addr) (c' : Nat) (ys : List Hd) (q : Nat), k ≤ m ∧ i = .int .i64 k ∧ v = .slice A' q c' ∧ ys.length = q ∧ q ≤ 2 * k ∧ ys.map (fun h : Hd => h.2.2) = (es.take k).flatMap (dnRowsM p n) ∧ RwI W wr A' c' ys) (fun i _ _ => m - (intOf i).toNat)
 case atStart => exact ⟨0, none, 0, [], 0, Nat.zero_le _, rfl, rfl, rfl, Nat.zero_le _, rfl, hN0_h.out⟩
 case round =>
  clear hN0_h
  obtain ⟨k, A', c', ys, q, hk, rfl, rfl, hyl, hq2, hym, hO⟩ := hrel
  obtain ⟨wo, rfl⟩ : ∃ x, x = wr := ⟨_, rfl⟩
  have hbr := hO.below_
  by_cases hlt : k < m
  · obtain ⟨ad, κ, v, B', b', l, C', e', mm, rfl, hx, ⟨d0, d1, d2, d3⟩, hrl, hrm⟩ := (hE0_h.out.below hbr).at_ (j := k) (by rw [← hm_h.out]; exact hlt)
    have hxe : es[k]? = some (κ, v, l, mm) := by rw [a1_h.out, List.getElem?_map, hx]; rfl
    have hkI : (k : Int) < (m : Int) := by omega
    obtain ⟨x1, x2, x3, x4, x5⟩ := hedge_h.out _ (List.mem_of_getElem? hxe)
    obtain ⟨wN, hwN⟩ : ∃ wN, wN = wo.alloc (.cells #[.int .i64 κ, .int .i64 v, .slice B' l.length b', .slice C' mm.length e'] tEd) := ⟨_, rfl⟩
    have hbN : Below wo.heap.size wo wN := by rw [hwN]; exact below_alloc _ _
    have kN : wN.heap[wo.heap.size]? = some (.cells #[.int .i64 κ, .int .i64 v, .slice B' l.length b', .slice C' mm.length e'] tEd) := by rw [hwN]; exact heap_alloc_new _ _
    have hC := dnRows_any p n κ v B' C' b' e' l mm wN (hrl.below hbN) (hrm.below hbN) x1 x2 x3 x4 x5 hpb_h.out.1 hpb_h.out.2 (by omega)
    have hkt : (es.take (k + 1)).flatMap (dnRowsM p n) = (es.take k).flatMap (dnRowsM p n) ++ dnRowsM p n (κ, v, l, mm) := by rw [List.take_add_one, hxe]; simp
    have hR2 := dnRowsM_len p n (κ, v, l, mm)
    obtain ⟨L, hL⟩ : ∃ L, L = dnRowsM p n (κ, v, l, mm) := ⟨_, rfl⟩
    rw [← hL] at hC hkt hR2
    obtain ⟨r, hr⟩ : ∃ r, r = L.length := ⟨_, rfl⟩
    unfold RetRc at hC
    rw [← hr] at hC hR2
    have k0r := box_below (box_below k0_h.out hbr) hbN
    obtain ⟨⟨c0, c1, c2, c3⟩, f0, f1, f2, f3⟩ := box4 k0r
    obtain ⟨⟨g0, g1, g2, g3⟩, j0, j1, j2, j3⟩ := box4 kN
    have k0w := box_below k0_h.out hbr
    clear hx hrl hrm x1 x2 x3 x4 x5 hL k0r; have hC_h := lH hC; have hkt_h := lH hkt; have hr_h := lH hr; have hbN_h := lH hbN; have kN_h := lH kN; have hxe_h := lH hxe; have hyl_h := lH hyl; have hym_h := lH hym; have hO_h := lH hO; have hbr_h := lH hbr; have k0w_h := lH k0w; clear hC hkt hr hbN kN hxe hyl hym hO hbr k0w
    go_upto_region 5 with (fail)
    rw [← hwN]
    clear hwN d0 d1 d2 d3
    go_wp2_with (fail)
    refine (hC_h.out).mono ?_
    rintro e w3 ⟨vr, rfl, ⟨A5, c5, hs5, rfl, hl5, hm5, hr5, hi5⟩, hb3⟩
    clear c0 c1 c2 c3 f0 f1 f2 f3 g0 g1 g2 g3 j0 j1 j2 j3
    have hba := below_trans hbN_h.out hb3 hbN_h.out.size
    have hsl : Sl w3 23 1 A' q c' (ys.map Hd.val) := by
     have := hO_h.out.sl.below hba
     rwa [hyl_h.out] at this
    have hnl : (hs5.map Hd.val).length = r * 1 := by rw [List.length_map, hl5, Nat.mul_one]
    have hrdc := rdc_vals hr5
    have hba_h := lH hba; have hsl_h := lH hsl; have hnl_h := lH hnl; have hrdc_h := lH hrdc; have hm5_h := lH hm5; have hi5_h := lH hi5; have hl5_h := lH hl5; have hb3_h := lH hb3; clear hba hsl hnl hrdc hm5 hi5 hl5 hb3; clear hr5
    go_wp2_with (at_builtin; refine wpList_append_Sl _ rfl _ _ _ rfl 23 Tryz.underlying27 info_ints rfl (by omega) rfl hsl_h.out rfl hnl_h.out hrdc_h.out (vals_one hs5) (by unfold maxLen; omega) (by omega) ?_; intro A3 c3' w5 hsA3 hA3 hkA3)
    have hO2 := hO_h.out.app hba_h.out (ys := hs5) hi5_h.out (n := q + r) (by rw [hyl_h.out, hl5_h.out]) hsA3 hA3 hkA3
    clear hsA3 hA3 hkA3; have hO2_h := lH hO2; clear hO2
    go_roundw
    case rel => exact ⟨k + 1, A3, c3', ys ++ hs5, q + r, by omega, by go_num, rfl, by rw [List.length_append, hyl_h.out, hl5_h.out], by omega, by rw [List.map_append, hym_h.out, hkt_h.out, hm5_h.out], hO2_h.out⟩
    case measure => simp [intOf]; omega
  · obtain rfl : m = k := by omega
    have hym2 : ys.map (fun h : Hd => h.2.2) = X := by rw [hym, List.take_of_length_le (by rw [hmes_h.out]; exact Nat.le_refl _), hX_h.out]
    have hXl : X.length = q := by rw [← hym2, List.length_map, hyl]
    have hC := spNull_any p n A' c' ys wo hO.rdr hfld_h.out (by rw [hym2, hyl]; have := hmat_h.out; rwa [hXl] at this) (by omega) (by omega)
    rw [hym2, hyl] at hC
    have k0r := box_below k0_h.out hbr
    obtain ⟨⟨c0, c1, c2, c3⟩, f0, f1, f2, f3⟩ := box4 k0r
    have hbf := below_trans bW_h.out hbr bW_h.out.size
    clear hym hO k0r hXl hym2 hyl hbr; have hC_h := lH hC; have hbf_h := lH hbf; clear hC hbf
    go_wp2_with (fail)
    refine (hC_h.out).mono ?_
    rintro e w1 hret
    obtain ⟨A1, c1', rfl, hO1⟩ := hret.om
    have hfin := hret.mono hbf_h.out
    go_wp2_with (fail)
    go_ret
    exact hfin
theorem mapL_res {p : Int} (hp : 0 < p) {v l : List Int} (hv : Res p v) : Res p (mapL v l) := fun x hx => by
 unfold mapL at hx
 obtain ⟨y, _, rfl⟩ := List.mem_map.1 hx
 exact hv.getD hp _
set_option maxRecDepth 100000 in
set_option maxHeartbeats 4000000 in
theorem dnGraph_any (p : Int) {v : Value} {g : Gr} (w : World) (h : RdGr w v g) (ok : OkG g) :
  Calls Tryz.prog 35 #[.int .i64 p, v] w fun e w' => ∃ v' fp, e = .returned (.tuple #[v', .bool (dnGM p g).2]) ∧ OwSys w' v' (dnGM p g).1 fp ∧ FreshL w.heap.size fp ∧ Below w.heap.size w w' := by
 obtain ⟨A, c, hs, ⟨B, b, s⟩, ⟨C, d, t⟩, rfl, e1, e2, e3, hE, hRa, hRb⟩ := id h
 obtain ⟨z, es, s0, t0⟩ := g
 have a1 : es = hs.map egOf := e1
 have a2 : s = s0 := e2
 have a3 : t = t0 := e3
 subst a2 a3
 clear e1 e2 e3
 obtain ⟨m, hm⟩ : ∃ m, m = hs.length := ⟨_, rfl⟩
 have hmes : es.length = m := by rw [a1, List.length_map, hm]
 have hm20 : m ≤ 1048576 := by rw [← hmes]; exact ok.1.1
 change RdGr w (.agg #[.int .i64 z, .slice A hs.length c, .slice B s.length b, .slice C t.length d]) (z, es, s, t) at h
 show Calls Tryz.prog _ #[.int .i64 p, .agg #[.int .i64 z, .slice A hs.length c, .slice B s.length b, .slice C t.length d]] w _
 rw [← hm] at h ⊢
 obtain ⟨W, hW, bW, k0, k1⟩ := alloc2 w (.cells #[.int .i64 z, .slice A m c, .slice B s.length b, .slice C t.length d] tGr) (.cells #[.int .i64 0, .int .i64 0, .slice none 0 0] tRel)
 obtain ⟨⟨c0, c1, c2, c3⟩, f0, f1, f2, f3⟩ := box4 k0
 have hG := dnAsked_any p W (h.below bW) ok
 obtain ⟨D, hD⟩ : ∃ D, D = dnGM p (z, es, s, t) := ⟨_, rfl⟩
 rw [← hD]
 unfold dnGM at hD
 have hbz := box_lt k1
 by_cases hq : dnAskB p (z, es, s, t) = true
 · rw [hq] at hG
   rw [if_pos hq] at hD
   have hd := DnOk.of hq
   have hVA := fun W' (hb : Below w.heap.size w W') => dnValues_any p W' (h.below hb) ok hd
   obtain ⟨n, hn⟩ : ∃ n, n = z.toNat := ⟨_, rfl⟩
   have hz0 : 0 ≤ z := hd.lo
   have hz1 : z ≤ 100 := hd.hi
   have hzn : z = (n : Int) := by omega
   have hn100 : n ≤ 100 := by omega
   have hpb := fieldB_bounds hd.fld
   have hfld := hd.fld
   have hends : ∀ x, x ∈ s ++ t → 0 ≤ x ∧ x < (n : Int) := fun x hx => by rw [← hzn]; exact hd.ends x hx
   obtain ⟨a, ha⟩ : ∃ a, a = s.length := ⟨_, rfl⟩
   obtain ⟨bb, hbb⟩ : ∃ b, b = t.length := ⟨_, rfl⟩
   have ha12 : a ≤ 12 := by rw [ha]; exact hd.li
   have hb12 : bb ≤ 12 := by rw [hbb]; exact hd.lo'
   obtain ⟨K, hK⟩ : ∃ K, K = nullM p n (dnEqs p (z, es, s, t)) := ⟨_, rfl⟩
   have hKr := nullM_red (p := p) hd.fld n (dnEqs p (z, es, s, t))
   have hKl := red_len hKr
   have hKm := hKr.1
   rw [← hK] at hKl hKm
   obtain ⟨ends, hen⟩ : ∃ e, e = s ++ t := ⟨_, rfl⟩
   obtain ⟨N, hN⟩ : ∃ N, N = a + bb := ⟨_, rfl⟩
   have henl : ends.length = N := by rw [hen, List.length_append, hN, ha, hbb]
   have hmat : Mat p (K.map (mapL · ends)).length N (K.map (mapL · ends)) := by
    rw [List.length_map]
    exact hKm.map (f := (mapL · ends)) fun v _ hr => ⟨by rw [mapL_length, henl], mapL_res (by omega) hr⟩
   obtain ⟨R, hR⟩ : ∃ R, R = redM p N (K.map (mapL · ends)) := ⟨_, rfl⟩
   have hDV : dnV p (z, es, s, t) = ((a : Int), (bb : Int), R) := by
    unfold dnV
    show ((s.length : Int), (t.length : Int), redM p (s.length + t.length) ((nullM p z.toNat (dnEqs p (z, es, s, t))).map fun v => mapL v (s ++ t))) = _
    rw [← ha, ← hbb, ← hn, ← hK, ← hen, ← hN, ← hR]
   rw [hDV] at hD
   subst hD
   have hVA' : ∀ W', Below w.heap.size w W' → Calls Tryz.prog 60 #[.int .i64 p, .agg #[.int .i64 z, .slice A m c, .slice B a b, .slice C bb d]] W' (RetSS W' K) := by
    intro W' hb
    have h1 := hVA W' hb
    have e : nullM p ((z, es, s, t) : Gr).1.toNat (dnEqs p (z, es, s, t)) = K := by rw [hK, hn]
    rw [e, ← ha, ← hbb] at h1
    exact h1
   rw [← ha, ← hbb] at hG k0 ⊢
   simp only [← ha, ← hbb] at hW
   rw [← hen] at hends
   have hRa2 : RdI W B s := RdI.below hRa bW
   have hRb2 : RdI W C t := RdI.below hRb bW
   have hNI : (a : Int) + (bb : Int) = (N : Int) := by omega
   clear h hd ok hE hRa hRb hz0 hz1 hq hDV hVA hKr hK hmes a1 hm c0 c1 c2 c3 f0 f1 f2 f3
   subst hzn
   clear hn
   obtain ⟨⟨c0, c1, c2, c3⟩, f0, f1, f2, f3⟩ := box4 k0
   have hG_h := lH hG; have k0_h := lH k0; have k1_h := lH k1; have bW_h := lH bW; have hVA'_h := lH hVA'; have hpb_h := lH hpb; have hfld_h := lH hfld; have hends_h := lH hends; have ha_h := lH ha; have hbb_h := lH hbb; have hKl_h := lH hKl; have hKm_h := lH hKm; have hen_h := lH hen; have henl_h := lH henl; have hN_h := lH hN; have hmat_h := lH hmat; have hR_h := lH hR; have hRa2_h := lH hRa2; have hRb2_h := lH hRb2; have hNI_h := lH hNI; clear hG k0 k1 bW hVA' hpb hfld hends ha hbb hKl hKm hen henl hN hmat hR hRa2 hRb2 hNI
   go_enter Tryz.func35, Tryz.ntmps35
   go_upto_region 1 with (fail)
   rw [← hW]
   clear hW
   go_wp2_with (fail)
   refine (hG_h.out).mono ?_
   rintro e w1 ⟨rfl, hb1⟩
   clear c0 c1 c2 c3 f0 f1 f2 f3
   replace k0_h := lH (box_below k0_h.out hb1)
   replace k1_h := lH (box_below k1_h.out hb1)
   have hB1 := below_trans bW_h.out hb1 bW_h.out.size
   have hbd : Below w1.heap.size w1 w1.drew := below_drewN (Below.refl _ _) 1
   have hB1_h := lH hB1; have hb1_h := lH hb1; have hbd_h := lH hbd; clear hB1 hb1 hbd
   obtain ⟨⟨c0, c1, c2, c3⟩, f0, f1, f2, f3⟩ := box4 k0_h.out
   go_wp2_with (fail)
   clear c0 c1 c2 c3 f0 f1 f2 f3
   refine beginH (fun w' => w'.heap[w.heap.size]? = some (.cells #[.int .i64 (n : Int), .slice A m c, .slice B a b, .slice C bb d] tGr)) (by kernel_rfl) ?_
   replace k0_h := lH (box_below k0_h.out hbd_h.out)
   replace k1_h := lH (box_below k1_h.out hbd_h.out)
   refine tkH 0 ?_ rfl k0_h.out (fun W' hW' => ?_) ?_; rotate_left; · (obtain ⟨⟨y0, y1, y2, y3⟩, y4, y5, y6, y7⟩ := box4 hW'; clear hW'; go_simp; first | done | with_reducible rfl)
   simp only [Act.put, nS]
   refine tkH 1 ?_ rfl k0_h.out (fun W' hW' => ?_) ?_; rotate_left; · (obtain ⟨⟨y0, y1, y2, y3⟩, y4, y5, y6, y7⟩ := box4 hW'; clear hW'; go_simp; first | done | with_reducible rfl)
   simp only [Act.put, nS]
   refine tkH 3 ?_ rfl k0_h.out (fun W' hW' => ?_) ?_; rotate_left; · (obtain ⟨⟨y0, y1, y2, y3⟩, y4, y5, y6, y7⟩ := box4 hW'; clear hW'; go_simp; first | done | with_reducible rfl)
   simp only [Act.put, nS]
   refine tkH 4 ?_ rfl k0_h.out (fun W' hW' => ?_) ?_; rotate_left; · (obtain ⟨⟨y0, y1, y2, y3⟩, y4, y5, y6, y7⟩ := box4 hW'; clear hW'; go_simp; first | done | with_reducible rfl)
   simp only [Act.put, nS]
   refine' callH 2 (f := _) (args := _) rfl (by kernel_rfl) (by rfl) ?_ ?_; rotate_left 2; · (go_simp; first | done | with_reducible rfl | (constructor <;> with_reducible rfl))
   have hbW2 := below_trans hb1_h.out hbd_h.out hb1_h.out.size
   have hOw := l1Own_any B b s w1.drew (hRa2_h.out.below hbW2) (by have := ha_h.out; omega)
   rw [← ha_h.out] at hOw
   refine (hOw).mono ?_
   rintro e w2 ⟨Ao, co, rfl, hio, hfo, hb2⟩
   rw [← ha_h.out]
   replace k0_h := lH (box_below k0_h.out hb2)
   replace k1_h := lH (box_below k1_h.out hb2)
   refine ⟨_, rfl, k0_h.out, ?_⟩
   simp only [Act.put, nS]
   have hso : Sl w2 3 1 Ao a co (ints s) := by have := hio; unfold IS at this; rw [← ha_h.out] at this; exact this
   have hrt := (hRb2_h.out.below (below_trans hbW2 hb2 hbW2.size)).rdc
   have hlt2 : (ints t).length = bb * 1 := by rw [ints_length, ← hbb_h.out, Nat.mul_one]
   have hB2 := below_trans hB1_h.out (below_trans hbd_h.out hb2 hbd_h.out.size) hB1_h.out.size
   have hbz1 := hb1_h.out.size
   have hz12 : w1.heap.size ≤ w2.heap.size := Nat.le_trans hbd_h.out.size hb2.size
   clear hOw hbW2 hio; have hso_h := lH hso; have hrt_h := lH hrt; have hlt2_h := lH hlt2; have hB2_h := lH hB2; have hfo_h := lH hfo; have hb2_h := lH hb2; clear hso hrt hlt2 hB2 hfo hb2
   refine appH 5 rfl (by kernel_rfl) (by rfl) _ _ _ rfl tInt Tryz.underlying23 info_int rfl (by omega) rfl hso_h.out rfl hlt2_h.out hrt_h.out (ints_one t) (by unfold maxLen; omega) (by omega) ?_
   intro A7 c7 w7 hsA7 hA7 hkA7
   have hf7 : ∀ b, b ∈ fpA Ao → w1.heap.size ≤ b := fun b hb => Nat.le_trans hbd_h.out.size (hfo_h.out b hb)
   have k07 := box_keeps k0_h.out hkA7 (fun h => by have := hf7 _ h; omega)
   have k17 := box_keeps k1_h.out hkA7 (fun h => by have := hf7 _ h; omega)
   have hB7 := below_keeps hB2_h.out hkA7 hB2_h.out.size (fun b hb => by have := hf7 b hb; have := hB1_h.out.size; omega)
   have hI7 : IS w7 A7 c7 ends := by
    unfold IS
    rw [henl_h.out, hN_h.out, hen_h.out]
    have e : ints (s ++ t) = ints s ++ ints t := by simp [ints]
    rw [e]; exact hsA7
   have hN12 : a + bb = N := hN_h.out.symm
   rw [hN12]
   have hz17 : w1.heap.size ≤ w7.heap.size := Nat.le_trans hz12 hkA7.size
   clear hsA7 hA7 hkA7 hN12 hf7; have k07_h := lH k07; have k17_h := lH k17; have hB7_h := lH hB7; have hI7_h := lH hI7; clear k07 k17 hB7 hI7
   refine ⟨k07_h.out, ?_⟩
   simp only [Act.put, nS]
   refine tkH 6 ?_ rfl k07_h.out (fun W' hW' => ?_) ?_; rotate_left; · (skip; clear hW'; go_simp; first | done | with_reducible rfl)
   simp only [Act.put, nS]
   refine doneH (by kernel_rfl) ?_
   obtain ⟨⟨c0, c1, c2, c3⟩, f0, f1, f2, f3⟩ := box4 k07_h.out
   have hVA1 := hVA'_h.out w7 hB7_h.out
   have hVA1_h := lH hVA1; clear hVA1
   go_wp2_with (fail)
   refine (hVA1_h.out).mono ?_
   rintro e w8 hret
   obtain ⟨A5, c5, rfl, hK5⟩ := hret.om
   obtain ⟨hsK, hKL, hKR⟩ := hK5.rdr
   obtain ⟨kk, hkk⟩ : ∃ kk, kk = K.length := ⟨_, rfl⟩
   rw [← hkk]
   have hk100 : kk ≤ 100 := by rw [hkk]; have := hKl_h.out; omega
   have hb8 := hK5.below_
   have hI8 := hI7_h.out.below hb8
   have hN0 := RdO.nil w8 w8 (Below.refl _ _)
   have k08 := box_below k07_h.out hb8
   have k18 := box_below k17_h.out hb8
   have hB8 := below_trans hB7_h.out hb8 hB7_h.out.size
   have hz8 := hb8.size
   have hsKl : hsK.length = kk := by rw [hkk, hKL, List.length_map]
   clear hret c0 c1 c2 c3 f0 f1 f2 f3 hK5 hb8; have hKL_h := lH hKL; have hKR_h := lH hKR; have hkk_h := lH hkk; have hI8_h := lH hI8; have hN0_h := lH hN0; have k08_h := lH k08; have k18_h := lH k18; have hB8_h := lH hB8; have hsKl_h := lH hsKl; clear hKL hKR hkk hI8 hN0 k08 k18 hB8 hsKl
   go_wp2_with (fail)
   go_loopw [25, 7] (fun i v wr => ∃ (k : Nat) (A' : Option Addr) (c' : Nat) (ys : List Hd) (q : Nat), k ≤ kk ∧ i = .int .i64 k ∧ q = k ∧ v = .slice A' q c' ∧ ys.length = q ∧ ys.map (fun h : Hd => h.2.2) = (K.take k).map (mapL · ends) ∧ RdO w8 wr A' c' ys) (fun i _ _ => kk - (intOf i).toNat)
   case atStart => exact ⟨0, none, 0, [], 0, Nat.zero_le _, rfl, rfl, rfl, rfl, rfl, hN0_h.out⟩
   case round =>
    clear hN0_h
    obtain ⟨k, A', c', ys, q0, hk, rfl, hq0, rfl, hyl, hym, hO⟩ := hrel
    obtain ⟨wo, rfl⟩ : ∃ x, x = wr := ⟨_, rfl⟩
    have hbo := hO.below_
    by_cases hlt : k < kk
    · have hkI : (k : Int) < (kk : Int) := by omega
      have hq100 : q0 ≤ 100 := by omega
      obtain ⟨ad, Bk, dk, u, rfl, hx, hcu, hrd⟩ := (hKR_h.out.below hbo).at_ (k := k) (by rw [hsKl_h.out]; exact hlt)
      have hKk : K[k]? = some u := by rw [hKL_h.out, List.getElem?_map, hx]; rfl
      have hul := (hKm_h.out.row u (List.mem_of_getElem? hKk)).1
      rw [hul] at hcu
      have hC := hgList_any A7 Bk c7 dk N n ends u wo (hI8_h.out.below hbo).rd hrd henl_h.out hul hends_h.out (by have := hN_h.out; omega)
      have hKt : (K.take (k + 1)).map (mapL · ends) = (K.take k).map (mapL · ends) ++ [mapL u ends] := by rw [List.take_add_one, hKk, List.map_append]; rfl
      have hrl : (mapL u ends).length = N := by rw [mapL_length, henl_h.out]
      clear hx hrd hKk hul; have hC_h := lH hC; have hKt_h := lH hKt; have hrl_h := lH hrl; have hyl_h := lH hyl; have hym_h := lH hym; have hO_h := lH hO; have hbo_h := lH hbo; have hq0_h := lH hq0; clear hC hKt hrl hyl hym hO hbo hq0
      go_wp2_with (fail)
      refine (hC_h.out).mono ?_
      rintro e w9 ⟨A8, c8, rfl, hOI⟩
      have hal := below_alloc w9 (.cells #[.slice A8 N c8] 23)
      have hba := below_trans hOI.below_ hal hOI.below_.size
      have hsl : Sl (w9.alloc (.cells #[.slice A8 N c8] 23)) 23 1 A' q0 c' (ys.map Hd.val) := by
       have := (hO_h.out.sl.below hOI.below_).alloc (.cells #[.slice A8 N c8] 23)
       rwa [hyl_h.out] at this
      have hI9 := hOI.is.below hal
      have hf9 := hOI.new
      clear hOI hcu; have hal_h := lH hal; have hba_h := lH hba; have hsl_h := lH hsl; have hI9_h := lH hI9; have hf9_h := lH hf9; clear hal hba hsl hI9 hf9
      go_wp2_with (at_builtin; refine wpList_append_Sl _ rfl _ _ _ rfl 23 Tryz.underlying27 info_ints rfl (by omega) rfl (hsl_h.out) rfl (news := [.slice A8 N c8]) rfl (Sl.rdc (Sl.laid w9 23 1 1 #[.slice A8 N c8] (by unfold maxLen; omega) rfl)) (by intro u hu; simp at hu; subst hu; rfl) (by unfold maxLen; omega) (by omega) ?_; intro A9 c9 w10 hsA9 hA9 hkA9)
      have hO2 := hO_h.out.snoc hba_h.out (x := (A8, c8, mapL u ends)) hI9_h.out (fun b hb hb' => by
       have h1 := hO_h.out.sl.lt b hb'
       have h2 := hf9_h.out b hb
       omega) (by rw [hyl_h.out]) (by show Sl w10 _ 1 A9 (q0 + 1) c9 (ys.map Hd.val ++ [.slice A8 (mapL u ends).length c8]); rw [hrl_h.out]; exact hsA9) hA9 hkA9
      clear hsA9 hA9 hkA9; have hO2_h := lH hO2; clear hO2
      go_roundw
      case rel => exact ⟨k + 1, A9, c9, ys ++ [(A8, c8, mapL u ends)], q0 + 1, by omega, by go_num, by have := hq0_h.out; omega, rfl, by rw [List.length_append, hyl_h.out]; rfl, by rw [List.map_append, hym_h.out, hKt_h.out]; rfl, hO2_h.out⟩
      case measure => simp [intOf]; omega
    · obtain rfl : kk = k := by omega
      have hym2 : ys.map (fun h : Hd => h.2.2) = K.map (mapL · ends) := by rw [hym, List.take_of_length_le (by rw [hkk_h.out]; exact Nat.le_refl _)]
      have hC := rlOf_any p (a : Int) (bb : Int) N A' c' ys wo hO.rdr hfld_h.out hNI_h.out (by rw [hym2]; have := hmat_h.out; rwa [show (K.map (mapL · ends)).length = ys.length by rw [← hym2, List.length_map]] at this) (by omega) (by have := hN_h.out; omega)
      rw [hym2, ← hR_h.out, hyl] at hC
      have k0r := box_below k08_h.out hbo
      have k1r := box_below k18_h.out hbo
      have hBr := below_trans hB8_h.out hbo hB8_h.out.size
      have hz9 := hbo.size
      obtain ⟨⟨c0, c1, c2, c3⟩, f0, f1, f2, f3⟩ := box4 k0r
      clear hym hym2 hyl hO k0r; have hC_h := lH hC; have k1r_h := lH k1r; have hBr_h := lH hBr; have hq0_h := lH hq0; have hbo_h := lH hbo; clear hC k1r hBr hq0 hbo
      go_wp2_with (fail)
      refine (hC_h.out).mono ?_
      rintro e w11 ⟨v1, fp1, rfl, hO1, hf1, hb11⟩
      clear c0 c1 c2 c3 f0 f1 f2 f3
      obtain ⟨A1, n1', c1', rfl⟩ := hO1.shape
      have k1' := box_below k1r_h.out hb11
      have hB9 := below_trans hBr_h.out hb11 hBr_h.out.size
      obtain ⟨⟨d0, d1, d2⟩, g0, g1, g2⟩ := box3 k1'
      obtain ⟨s1, s2⟩ := set3 (a := .int .i64 (a : Int)) (b := .int .i64 (bb : Int)) (c := .slice A1 n1' c1') k1'
      have hB3 := below_keeps hB9 s2 hB9.size (fun k hk => by omega)
      have hBs := hBr_h.out.size
      have hO3 := hO1.keeps s2 (fun k hk e => by have := hf1 k hk; omega)
      have hf3 := hf1.mono hBs
      clear k1' hB9 hO1 hf1; have s1_h := lH s1; have s2_h := lH s2; have hO3_h := lH hO3; have hf3_h := lH hf3; have hB3_h := lH hB3; clear s1 s2 hO3 hf3 hB3
      go_wp2_with (fail)
      refine bodyPost_ret (results_cell_tmp rfl _ _ (w.heap.size + 1) _ _ (0, 0) _ rfl s1_h.out Tryz.underlying29 rfl (by kernel_rfl)) rfl ?_
      first | exact ⟨_, fp1, rfl, hO3_h.out, hf3_h.out, hB3_h.out⟩ | exact ⟨_, rfl, fp1, hO3_h.out, hf3_h.out, hB3_h.out⟩
 · have hq' : dnAskB p (z, es, s, t) = false := by simpa using hq
   rw [hq'] at hG
   rw [if_neg hq] at hD
   subst hD
   clear hq hq' ok h hE hRa hRb; have hG_h := lH hG; have k0_h := lH k0; have k1_h := lH k1; have bW_h := lH bW; have hm_h := lH hm; have hmes_h := lH hmes; have a1_h := lH a1; clear hG k0 k1 bW hm hmes a1
   go_enter Tryz.func35, Tryz.ntmps35
   go_upto_region 1 with (fail)
   rw [← hW]
   clear hW
   go_wp2_with (fail)
   refine (hG_h.out).mono ?_
   rintro e w1 ⟨rfl, hb1⟩
   clear c0 c1 c2 c3 f0 f1 f2 f3
   replace k1_h := lH (box_below k1_h.out hb1)
   have hB1 := below_trans bW_h.out hb1 bW_h.out.size
   have hz1 := hb1.size
   obtain ⟨⟨d0, d1, d2⟩, g0, g1, g2⟩ := box3 k1_h.out
   obtain ⟨s1, s2⟩ := set3 (a := .int .i64 0) (b := .int .i64 0) (c := .slice none 0 0) k1_h.out
   have hB3 := below_keeps hB1 s2 hB1.size (fun k hk => by omega)
   clear hB1 hb1; have s1_h := lH s1; have s2_h := lH s2; have hB3_h := lH hB3; clear s1 s2 hB3
   go_wp2_with (fail)
   refine bodyPost_ret (results_cell_tmp rfl _ _ (w.heap.size + 1) _ _ (0, 0) _ rfl s1_h.out Tryz.underlying29 rfl (by kernel_rfl)) rfl ?_
   first | exact ⟨_, [], rfl, OwSys.zero _ 0 0, FreshL.nil _, hB3_h.out⟩ | exact ⟨_, rfl, [], OwSys.zero _ 0 0, FreshL.nil _, hB3_h.out⟩
abbrev tMat : TypeId := 60
def OMx (w0 : World) (bx : Nat) (w : World) (A : Option Addr) (cap : Nat) (L : List (List Int)) : Prop :=
 ∃ hs : List Hd, L = hs.map (fun h : Hd => h.2.2) ∧ OwR w A cap hs ∧ (∀ b, b ∈ fpA A ++ fpR hs → w0.heap.size ≤ b ∧ b ≠ bx) ∧ Below w0.heap.size w0 w ∧ w0.heap.size ≤ bx ∧ bx < w.heap.size
section
variable {w0 w w' : World} {bx : Nat} {A : Option Addr} {cap : Nat} {L : List (List Int)}
theorem set_f1 {B : Nat} {t : TypeId} {x y b : Value} (h : w.heap[B]? = some (.cells #[x, y] t)) : (w.setCell ⟨B, 1, none⟩ b).heap[B]? = some (.cells #[x, b] t) ∧ Keeps (· = B) w (w.setCell ⟨B, 1, none⟩ b) := by
 refine ⟨by simp [World.setCell, Array.getElem?_modify, h], ?_⟩
 exact (Keeps.refl (fun x => x = B) w).setCell (p := ⟨B, 1, none⟩) rfl _
theorem OMx.om (h : OMx w0 bx w A cap L) : OM w0 w A cap L := by
 obtain ⟨hs, hL, hO, hf, h0, _⟩ := h
 exact ⟨hs, hL, hO, fun b hb => (hf b hb).1, h0⟩
theorem OMx.below_ (h : OMx w0 bx w A cap L) : Below w0.heap.size w0 w := h.om.below_
theorem OMx.nil (h0 : Below w0.heap.size w0 w) (h1 : w0.heap.size ≤ bx) (h2 : bx < w.heap.size) : OMx w0 bx w none 0 [] :=
 ⟨[], rfl, OwR.nil w, fun b hb => by simp [fpR] at hb, h0, h1, h2⟩
theorem OMx.below (h : OMx w0 bx w A cap L) (hb : Below w.heap.size w w') : OMx w0 bx w' A cap L := by
 obtain ⟨hs, hL, hO, hf, h0, h1, h2⟩ := h
 exact ⟨hs, hL, hO.below hb, hf, below_trans h0 hb h0.size, h1, Nat.lt_of_lt_of_le h2 hb.size⟩
theorem OMx.store (h : OMx w0 bx w A cap L) (hk : Keeps (· = bx) w w') : OMx w0 bx w' A cap L := by
 obtain ⟨hs, hL, hO, hf, h0, h1, h2⟩ := h
 exact ⟨hs, hL, hO.keeps hk fun b hb e => (hf b hb).2 e, hf, below_keeps h0 hk h0.size fun k e => by subst e; exact h1, h1, Nat.lt_of_lt_of_le h2 hk.size⟩
theorem OMx.snoc {w1 w2 : World} {hs : List Hd} (hL : L = hs.map (fun h : Hd => h.2.2)) (hO : OwR w A cap hs) (hf : ∀ b, b ∈ fpA A ++ fpR hs → w0.heap.size ≤ b ∧ b ≠ bx) (h0 : Below w0.heap.size w0 w) (h1 : w0.heap.size ≤ bx) (h2 : bx < w.heap.size) {l : List Int} {B : Option Addr} {c : Nat} (hb : Below w.heap.size w w1) (hx : IS w1 B c l) (hf1 : Fresh w.heap.size B)
  {A' : Option Addr} {cap' n : Nat} (hn : n = hs.length + 1) (hs' : Sl w2 23 1 A' n cap' (hs.map Hd.val ++ [.slice B l.length c])) (hA' : ∀ b, b ∈ fpA A' → b ∈ fpA A ∨ w1.heap.size ≤ b) (hk : Keeps (· ∈ fpA A) w1 w2) : OMx w0 bx w2 A' cap' (L ++ [l]) := by
 subst hL hn
 have hbw := below_trans h0 hb h0.size
 have hz := hb.size
 have hz2 := hk.size
 refine ⟨hs ++ [(B, c, l)], by simp, hO.snoc hb (x := (B, c, l)) hx hf1 (by simpa [Hd.val] using hs') hA' hk, fun b hb' => ?_, below_keeps hbw hk hbw.size fun b hb' => (hf b (List.mem_append_left _ hb')).1, h1, by omega⟩
 rcases List.mem_append.1 hb' with hb' | hb'
 · rcases hA' b hb' with h3 | h3
   · exact hf b (List.mem_append_left _ h3)
   · have := hbw.size; omega
 · rcases fpR_snoc hs (B, c, l) b hb' with h3 | h3
   · exact hf b (List.mem_append_right _ h3)
   · have := hf1 b h3; have := h0.size; omega
end
def foM (p : Int) (s : Sys) : (Int × List (List Int)) × Bool := if totB p s && singB s then ((s.2.1, secondM s), true) else ((0, []), false)
theorem funM_eq {p : Int} {s : Sys} : funM p s = if relB p s then foM p s else ((0, []), false) := by
 unfold funM foM
 cases relB p s <;> simp
set_option maxRecDepth 100000 in
set_option maxHeartbeats 2000000 in
theorem functionOf_any (p : Int) {v : Value} {s : Sys} {fp : List Nat} (w : World) (h : OwSys w v s fp) (hs : RelOk p s) :
  Calls Tryz.prog 57 #[.int .i64 p, v] w fun e w' => ∃ v' fp', e = .returned (.tuple #[v', .bool (foM p s).2]) ∧ OwMt w' v' (foM p s).1 fp' ∧ FreshL w.heap.size fp' ∧ Below w.heap.size w w' := by
 obtain ⟨C, hC0⟩ : ∃ C, C = foM p s := ⟨_, rfl⟩
 rw [← hC0]
 unfold foM at hC0
 obtain ⟨A, n, c, rfl⟩ := h.shape
 obtain ⟨W, hW, b0, k0, k1⟩ := alloc2 w (.cells #[.int .i64 s.1, .int .i64 s.2.1, .slice A n c] tRel) (.cells #[.int .i64 0, .slice none 0 0] tMat)
 have hT := isTotal_any p W (h.below b0) hs
 have hS := fun W' (hb : Below W.heap.size W W') => isSingleValued_any p W' ((h.below b0).below hb) hs
 have hE := fun W' (hb : Below W.heap.size W W') => eachSecond_any p W' ((h.below b0).below hb) hs
 obtain ⟨⟨c0, c1, c2⟩, f0, f1, f2⟩ := box3 k0
 by_cases ht : totB p s = true
 · rw [ht] at hT hC0
   by_cases hg : singB s = true
   · rw [hg] at hC0
     simp only [hg] at hS
     have hms := secondM_mat hs
     have hC1 : C = ((s.2.1, secondM s), true) := hC0
     subst hC1
     have hsl : ∀ x, x ∈ secondM s → x.length ≤ 1048576 := fun x hx => by have := (hms.row x hx).1; have := hs.sum; have := hs.lo; omega
     clear h hs ht hg hC0 hms; have hT_h := lH hT; have hS_h := lH hS; have hE_h := lH hE; have k0_h := lH k0; have k1_h := lH k1; have b0_h := lH b0; have hsl_h := lH hsl; clear hT hS hE k0 k1 b0 hsl
     go_enter Tryz.func57, Tryz.ntmps57
     go_upto_region 1 with (fail)
     rw [← hW]
     clear hW
     go_wp2_with (fail)
     refine (hT_h.out).mono ?_
     rintro e w1 ⟨rfl, hb1⟩
     clear c0 c1 c2 f0 f1 f2
     replace k0_h := lH (box_below k0_h.out hb1)
     replace k1_h := lH (box_below k1_h.out hb1)
     obtain ⟨⟨c0, c1, c2⟩, f0, f1, f2⟩ := box3 k0_h.out
     have hS1 := hS_h.out w1 hb1
     have hS1_h := lH hS1; have hb1_h := lH hb1; clear hS1 hb1
     go_wp2_with (fail)
     refine (hS1_h.out).mono ?_
     rintro e w2 ⟨rfl, hb2⟩
     clear c0 c1 c2 f0 f1 f2
     replace k0_h := lH (box_below k0_h.out hb2)
     replace k1_h := lH (box_below k1_h.out hb2)
     obtain ⟨⟨c0, c1, c2⟩, f0, f1, f2⟩ := box3 k0_h.out
     have hbW := below_trans hb1_h.out hb2 hb1_h.out.size
     have hbd : Below w2.heap.size w2 w2.drew := below_drewN (Below.refl _ _) 1
     have hmf : ∀ (fn : Fn) (first cap : Array Value) (w : World), (Instr.makeFunc fn first cap).run Tryz.prog w = .ok (.func fn first cap) w := fun _ _ _ _ => rfl
     have hE1 := hE_h.out w2.drew (below_trans hbW hbd hbW.size)
     have hB2 := below_trans (below_trans b0_h.out hbW b0_h.out.size) hbd (Nat.le_trans b0_h.out.size hbW.size)
     obtain ⟨X, hX⟩ : ∃ X, X = secondM s := ⟨_, rfl⟩
     rw [← hX] at hE1
     clear hbW; have hE1_h := lH hE1; have hB2_h := lH hB2; have hX_h := lH hX; have hb2_h := lH hb2; clear hE1 hB2 hX hb2
     go_wp2_with (fail)
     refine beginH (fun w' => w'.heap[w.heap.size]? = some (.cells #[.int .i64 s.1, .int .i64 s.2.1, .slice A n c] tRel)) (by kernel_rfl) ?_
     clear c0 c1 c2 f0 f1 f2
     generalize w2.drew = W1 at hbd hE1_h hB2_h ⊢
     replace k0_h := lH (box_below k0_h.out hbd)
     replace k1_h := lH (box_below k1_h.out hbd)
     have hz1 := box_lt k1_h.out
     refine tkH 0 ?_ rfl k0_h.out (fun W' hW' => ?_) ?_; rotate_left; · (obtain ⟨⟨y0, y1, y2⟩, y3, y4, y5⟩ := box3 hW'; clear hW'; go_simp; first | done | with_reducible rfl)
     simp only [Act.put, nS]
     refine tkH 1 ?_ rfl k0_h.out (fun W' hW' => ?_) ?_; rotate_left; · (obtain ⟨⟨y0, y1, y2⟩, y3, y4, y5⟩ := box3 hW'; clear hW'; go_simp; first | done | with_reducible rfl)
     simp only [Act.put, nS]
     refine tkH 2 ?_ rfl k0_h.out (fun W' hW' => ?_) ?_; rotate_left; · (obtain ⟨⟨y0, y1, y2⟩, y3, y4, y5⟩ := box3 hW'; clear hW'; go_simp; first | done | with_reducible rfl)
     simp only [Act.put, nS]
     refine tkH 3 ?_ rfl k0_h.out (fun W' hW' => ?_) ?_; rotate_left; · (obtain ⟨⟨y0, y1, y2⟩, y3, y4, y5⟩ := box3 hW'; clear hW'; go_simp; first | done | with_reducible rfl)
     simp only [Act.put, nS]
     refine tkH 4 ?_ rfl k0_h.out (fun W' hW' => ?_) ?_; rotate_left; · (skip; clear hW'; go_simp; first | done | with_reducible rfl)
     simp only [Act.put, nS]
     refine' callH 5 (f := _) (args := _) rfl (by kernel_rfl) (by rfl) ?_ ?_; rotate_left 2; · (go_simp; first | done | with_reducible rfl | (constructor <;> with_reducible rfl))
     refine (hE1_h.out).mono ?_
     rintro e w3 ⟨A1, c1, g1, m, rfl, hgl, hm24, hgm, hO1⟩
     replace k0_h := lH (box_below k0_h.out hO1.below_)
     replace k1_h := lH (box_below k1_h.out hO1.below_)
     have hw3 := box_lt k1_h.out
     refine ⟨_, rfl, k0_h.out, ?_⟩
     simp only [Act.put, nS]
     have hC := clones_any A1 c1 g1 w3 hO1.rdr (by omega) (fun x hx => hsl_h.out _ (by rw [← hX_h.out, ← hgm]; exact List.mem_map_of_mem hx))
     rw [hgm, hgl] at hC
     have hB3 := below_trans hB2_h.out hO1.below_ hB2_h.out.size
     clear hgl hgm hO1; have hC_h := lH hC; have hB3_h := lH hB3; clear hC hB3
     refine' callH 6 (f := _) (args := _) rfl (by kernel_rfl) (by rfl) ?_ ?_; rotate_left 2; · (go_simp; first | done | with_reducible rfl | (constructor <;> with_reducible rfl))
     refine (hC_h.out).mono ?_
     rintro e w4 hret
     obtain ⟨A3, c3, rfl, hO3⟩ := hret.om
     replace k0_h := lH (box_below k0_h.out hO3.below_)
     replace k1_h := lH (box_below k1_h.out hO3.below_)
     refine ⟨_, rfl, k0_h.out, ?_⟩
     simp only [Act.put, nS]
     have hB4 := below_trans hB3_h.out hO3.below_ hB3_h.out.size
     have hz4 := box_lt k1_h.out
     have hBs := hB3_h.out.size
     have hz5 := hO3.below_.size
     obtain ⟨⟨d0, d1⟩, g0, g1'⟩ := box2 k1_h.out
     obtain ⟨s1, s2⟩ := set2 (a := .int .i64 s.2.1) (b := .slice A3 X.length c3) k1_h.out
     have k0' := box_keeps k0_h.out s2 (by omega)
     obtain ⟨fp3, hO4, hf3⟩ := OwMt.of_ret (a := s.2.1) hO3 s2 (fun k hk => by omega) rfl
     have hB5 := below_keeps hB4 s2 hB4.size (fun k hk => by omega)
     have hf4 := hf3.mono hBs
     clear hO3 hf3 hB4 hret; have s1_h := lH s1; have s2_h := lH s2; have k0'_h := lH k0'; have hO4_h := lH hO4; have hB5_h := lH hB5; have hf4_h := lH hf4; clear s1 s2 k0' hO4 hB5 hf4
     refine tkH 7 ?_ rfl k0_h.out (fun W' hW' => ?_) ?_; rotate_left; · (skip; clear hW'; go_simp; first | done | with_reducible rfl)
     simp only [Act.put, nS]
     refine oneH 8 rfl (by kernel_rfl) (by rfl) (fun K hK => ?_)
     go_simp
     refine hK _ _ k0'_h.out ?_
     clear hK K
     refine tkH 9 ?_ rfl k0'_h.out (fun W' hW' => ?_) ?_; rotate_left; · (skip; clear hW'; go_simp; first | done | with_reducible rfl)
     simp only [Act.put, nS]
     refine doneH (by kernel_rfl) ?_
     go_wp2_with (fail)
     refine bodyPost_ret (results_cell_tmp rfl _ _ (w.heap.size + 1) _ _ (0, 0) _ rfl s1_h.out Tryz.underlying60 rfl (by kernel_rfl)) rfl ?_
     exact ⟨_, fp3, rfl, by rw [← hX_h.out]; exact hO4_h.out, hf4_h.out, hB5_h.out⟩
   · have hg' : singB s = false := by simpa using hg
     rw [hg'] at hC0
     simp only [hg'] at hS
     have hC1 : C = ((0, []), false) := hC0
     subst hC1
     clear h hs ht hg hg' hC0 hE; have hT_h := lH hT; have hS_h := lH hS; have k0_h := lH k0; have k1_h := lH k1; have b0_h := lH b0; clear hT hS k0 k1 b0
     go_enter Tryz.func57, Tryz.ntmps57
     go_upto_region 1 with (fail)
     rw [← hW]
     clear hW
     go_wp2_with (fail)
     refine (hT_h.out).mono ?_
     rintro e w1 ⟨rfl, hb1⟩
     clear c0 c1 c2 f0 f1 f2
     replace k0_h := lH (box_below k0_h.out hb1)
     replace k1_h := lH (box_below k1_h.out hb1)
     obtain ⟨⟨c0, c1, c2⟩, f0, f1, f2⟩ := box3 k0_h.out
     have hS1 := hS_h.out w1 hb1
     have hS1_h := lH hS1; have hb1_h := lH hb1; clear hS1 hb1
     go_wp2_with (fail)
     refine (hS1_h.out).mono ?_
     rintro e w2 ⟨rfl, hb2⟩
     clear c0 c1 c2 f0 f1 f2
     replace k0_h := lH (box_below k0_h.out hb2)
     replace k1_h := lH (box_below k1_h.out hb2)
     have hB2 := below_trans (below_trans b0_h.out hb1_h.out b0_h.out.size) hb2 (Nat.le_trans b0_h.out.size hb1_h.out.size)
     have hb2_h := lH hb2; have hB2_h := lH hB2; clear hb2 hB2
     obtain ⟨⟨d0, d1⟩, g0, g1⟩ := box2 k1_h.out
     obtain ⟨s1, s2⟩ := set2 (a := .int .i64 0) (b := .slice none 0 0) k1_h.out
     have hz1 : w.heap.size + 1 < w2.heap.size := (Array.getElem?_eq_some_iff.1 k1_h.out).1
     have hB3 := below_keeps hB2_h.out s2 (hB2_h.out).size (fun k hk => by omega)
     have s1_h := lH s1; have s2_h := lH s2; have hB3_h := lH hB3; clear s1 s2 hB3
     go_wp2_with (fail)
     refine bodyPost_ret (results_cell_tmp rfl _ _ (w.heap.size + 1) _ _ (0, 0) _ rfl s1_h.out Tryz.underlying60 rfl (by kernel_rfl)) rfl ?_
     exact ⟨_, [], rfl, OwMt.zero _ 0, FreshL.nil _, hB3_h.out⟩
 · have ht' : totB p s = false := by simpa using ht
   rw [ht'] at hT hC0
   have hC1 : C = ((0, []), false) := hC0
   subst hC1
   clear h hs ht ht' hC0 hE hS; have hT_h := lH hT; have k0_h := lH k0; have k1_h := lH k1; have b0_h := lH b0; clear hT k0 k1 b0
   go_enter Tryz.func57, Tryz.ntmps57
   go_upto_region 1 with (fail)
   rw [← hW]
   clear hW
   go_wp2_with (fail)
   refine (hT_h.out).mono ?_
   rintro e w1 ⟨rfl, hb1⟩
   clear c0 c1 c2 f0 f1 f2
   replace k0_h := lH (box_below k0_h.out hb1)
   replace k1_h := lH (box_below k1_h.out hb1)
   have hB2 := below_trans b0_h.out hb1 b0_h.out.size
   have hb1_h := lH hb1; have hB2_h := lH hB2; clear hb1 hB2
   obtain ⟨⟨d0, d1⟩, g0, g1⟩ := box2 k1_h.out
   obtain ⟨s1, s2⟩ := set2 (a := .int .i64 0) (b := .slice none 0 0) k1_h.out
   have hz1 : w.heap.size + 1 < w1.heap.size := (Array.getElem?_eq_some_iff.1 k1_h.out).1
   have hB3 := below_keeps hB2_h.out s2 (hB2_h.out).size (fun k hk => by omega)
   have s1_h := lH s1; have s2_h := lH s2; have hB3_h := lH hB3; clear s1 s2 hB3
   go_wp2_with (fail)
   refine bodyPost_ret (results_cell_tmp rfl _ _ (w.heap.size + 1) _ _ (0, 0) _ rfl s1_h.out Tryz.underlying60 rfl (by kernel_rfl)) rfl ?_
   exact ⟨_, [], rfl, OwMt.zero _ 0, FreshL.nil _, hB3_h.out⟩
set_option maxRecDepth 100000 in
set_option maxHeartbeats 4000000 in
theorem sFunctionOf_law (p : Int) {v : Value} {s : Sys} {fp : List Nat} {w : World} (h : OwSys w v s fp) (ok : OkR s.2.2) :
  Calls Tryz.prog 56 #[.int .i64 p, v] w fun e w' => ∃ v' fp', e = .returned (.tuple #[v', .bool (funM p s).2]) ∧ OwMt w' v' (funM p s).1 fp' ∧ FreshL w.heap.size fp' ∧ Below w.heap.size w w' := by
 obtain ⟨C, hC0⟩ : ∃ C, C = funM p s := ⟨_, rfl⟩
 rw [← hC0]
 rw [funM_eq] at hC0
 obtain ⟨A, n, c, rfl⟩ := h.shape
 obtain ⟨W, hW, b0, k0, k1⟩ := alloc2 w (.cells #[.int .i64 s.1, .int .i64 s.2.1, .slice A n c] tRel) (.cells #[.int .i64 0, .slice none 0 0] tMat)
 have hG := rlGood_any p W (h.rd.below b0) ok.1 ok.2.1
 have hT := fun W' (hb : Below W.heap.size W W') (hs : RelOk p s) => rlTotal_any p W' ((h.below b0).below hb) hs
 have hS := fun W' (hb : Below W.heap.size W W') (hs : RelOk p s) => rlSingle_any p W' ((h.below b0).below hb) hs
 have hOw := h.below b0
 obtain ⟨⟨c0, c1, c2⟩, f0, f1, f2⟩ := box3 k0
 by_cases hb : relB p s = true
 · rw [hb] at hG hC0
   have hof := RelOk.of hb
   have hC1 : C = foM p s := hC0
   unfold foM at hC1
   clear h ok hb hC0
   by_cases ht : totB p s = true
   · rw [ht] at hC1
     simp only [ht] at hT
     clear ht
     by_cases hg : singB s = true
     · rw [hg] at hC1
       simp only [hg] at hS
       clear hg
       have hC2 : C = ((s.2.1, secondM s), true) := hC1
       subst hC2
       clear hC1; have hG_h := lH hG; have hT_h := lH hT; have hS_h := lH hS; have k0_h := lH k0; have k1_h := lH k1; have b0_h := lH b0; have hof_h := lH hof; have hOw_h := lH hOw; clear hG hT hS k0 k1 b0 hof hOw
       go_enter Tryz.func56, Tryz.ntmps56
       go_upto_region 1 with (fail)
       rw [← hW]
       clear hW
       go_wp2_with (fail)
       refine (hG_h.out).mono ?_
       rintro e w1 ⟨rfl, hb1⟩
       clear c0 c1 c2 f0 f1 f2
       replace k0_h := lH (box_below k0_h.out hb1)
       replace k1_h := lH (box_below k1_h.out hb1)
       have hB1 := below_trans b0_h.out hb1 b0_h.out.size
       obtain ⟨⟨c0, c1, c2⟩, f0, f1, f2⟩ := box3 k0_h.out
       have hT1 := hT_h.out w1 hb1 hof_h.out
       have hT1_h := lH hT1; have hB1_h := lH hB1; have hb1_h := lH hb1; clear hT1 hB1 hb1
       go_wp2_with (fail)
       refine (hT1_h.out).mono ?_
       rintro e w2 ⟨rfl, hb2⟩
       clear c0 c1 c2 f0 f1 f2
       replace k0_h := lH (box_below k0_h.out hb2)
       replace k1_h := lH (box_below k1_h.out hb2)
       have hB2 := below_trans hB1_h.out hb2 hB1_h.out.size
       have hb12 := below_trans hb1_h.out hb2 hb1_h.out.size
       obtain ⟨⟨c0, c1, c2⟩, f0, f1, f2⟩ := box3 k0_h.out
       have hS1 := hS_h.out w2 hb12 hof_h.out
       have hS1_h := lH hS1; have hB2_h := lH hB2; have hb2_h := lH hb2; have hb12_h := lH hb12; clear hS1 hB2 hb2 hb12
       go_wp2_with (fail)
       refine (hS1_h.out).mono ?_
       rintro e w3 ⟨rfl, hb3⟩
       clear c0 c1 c2 f0 f1 f2
       replace k0_h := lH (box_below k0_h.out hb3)
       replace k1_h := lH (box_below k1_h.out hb3)
       have hB3' := below_trans hB2_h.out hb3 hB2_h.out.size
       have hb13 := below_trans hb12_h.out hb3 hb12_h.out.size
       have hw0 : w.heap.size + 1 < w3.heap.size := box_lt k1_h.out
       have hz0 := box_lt k0_h.out
       obtain ⟨⟨c0, c1, c2⟩, f0, f1, f2⟩ := box3 k0_h.out
       have hb3_h := lH hb3; have hB3'_h := lH hB3'; have hb13_h := lH hb13; clear hb3 hB3' hb13
       go_upto_region 4 with (fail)
       obtain ⟨W4, hW4⟩ : ∃ W4, W4 = w3.alloc (.cells #[.int .i64 s.2.1, .slice none 0 0] tMat) := ⟨_, rfl⟩
       have b4 := below_alloc w3 (.cells #[.int .i64 s.2.1, .slice none 0 0] tMat)
       have k4 := heap_alloc_new w3 (.cells #[.int .i64 s.2.1, .slice none 0 0] tMat)
       rw [← hW4] at b4 k4
       have hW4s : W4.heap.size ≤ w3.heap.size + 1 := by rw [hW4]; simp
       obtain ⟨bx, hbx⟩ : ∃ bx, bx = w3.heap.size := ⟨_, rfl⟩
       rw [← hbx] at k4 hW4s
       rw [show w3.alloc (Obj.cells #[.int .i64 s.2.1, .slice none 0 0] 60) = W4 from hW4.symm]
       rw [← hbx]
       have hz4 := box_lt k4
       have hN4 : OMx w3 bx W4 none 0 [] := OMx.nil b4 (by omega) hz4
       have hO4 := (hOw_h.out.below hb13_h.out).below b4
       replace k0_h := lH (box_below k0_h.out b4)
       replace k1_h := lH (box_below k1_h.out b4)
       clear c0 c1 c2 f0 f1 f2 hW4
       obtain ⟨A0, c0', gs, hv, hL, hO, hfpe⟩ := hO4
       have hlt0 := hOw_h.out.lt
       have hpf := part_second hof_h.out
       have hBs := hb13_h.out.size
       injection hv with hv
       simp only [Array.mk.injEq, List.cons.injEq, Value.slice.injEq, and_true, true_and] at hv
       obtain ⟨rfl, rfl, rfl⟩ := hv
       obtain ⟨a, b, L⟩ := s
       have h0 : 0 ≤ a := hof_h.out.lo
       have h1 : 0 ≤ b := hof_h.out.hi
       have h2 : a + b ≤ 24 := hof_h.out.sum
       have hrow : ∀ u, u ∈ L → (u.length : Int) = a + b ∧ Res p u := fun u hu => hof_h.out.row hu
       have hlen : (L.length : Int) ≤ a + b := hof_h.out.len
       clear hof_h hG_h hT_h hS_h hOw_h
       obtain ⟨na, rfl⟩ : ∃ na : Nat, a = (na : Int) := ⟨a.toNat, by omega⟩
       obtain ⟨nb, rfl⟩ : ∃ nb : Nat, b = (nb : Int) := ⟨b.toNat, by omega⟩
       have hL' : L = gs.map (fun h : Hd => h.2.2) := hL
       clear hL
       obtain ⟨m, hm⟩ : ∃ m, m = gs.length := ⟨_, rfl⟩
       have hLm : L.length = m := by rw [hL', List.length_map, hm]
       have hm24 : (m : Int) ≤ 24 := by have := hlen; rw [hLm] at this; omega
       obtain ⟨n, hn⟩ : ∃ n, n = na + nb := ⟨_, rfl⟩
       have hn24 : n ≤ 24 := by omega
       have hna : na ≤ n := by omega
       have hnb : n - na = nb := by omega
       simp only [← hm] at k0_h ⊢
       obtain ⟨⟨c0, c1, c2⟩, f0, f1, f2⟩ := box3 k0_h.out
       have hbxw : w.heap.size + 1 < bx := by omega
       have hlt : ∀ b, b ∈ fpA A ++ fpR gs → b < bx := fun b hb => by rw [← hfpe] at hb; have := hlt0 b hb; omega
       have hpf' : secondM ((na : Int), (nb : Int), L) = L.map (partV na nb) := hpf.symm
       clear hlt0 hfpe hpf; have hm_h := lH hm; have hL'_h := lH hL'; have hLm_h := lH hLm; have hrow_h := lH hrow; have hlen_h := lH hlen; have hO_h := lH hO; have hN4_h := lH hN4; have b4_h := lH b4; have k4_h := lH k4; have hn_h := lH hn; have hnb_h := lH hnb; have hbx_h := lH hbx; have hlt_h := lH hlt; have hpf'_h := lH hpf'; clear hm hL' hLm hrow hlen hO hN4 b4 k4 hn hnb hbx hlt hpf'
       go_wp2_with (fail)
       clear c0 c1 c2 f0 f1 f2
       go_loopw [31] (fun i wr => ∃ (k : Nat) (A' : Option Addr) (c' : Nat), k ≤ m ∧ i = .int .i64 k ∧ wr.heap[bx]? = some (.cells #[.int .i64 (nb : Int), .slice A' k c'] tMat) ∧ OMx w3 bx wr A' c' ((L.take k).map (partV na nb)) ∧ Keeps (fun b => W4.heap.size ≤ b ∨ b = bx) W4 wr) (fun i _ => m - (intOf i).toNat)
       case atStart => exact ⟨0, none, 0, Nat.zero_le _, rfl, k4_h.out, hN4_h.out, Keeps.refl _ _⟩
       case round =>
        clear hN4_h k4_h
        obtain ⟨k, A', c', hk, rfl, kbx, hOM, hkw⟩ := hrel
        have k0r := box_keeps k0_h.out hkw (by omega)
        have k1r := box_keeps k1_h.out hkw (by omega)
        have hzr := hkw.size
        by_cases hlt2 : k < m
        · have hOr := hO_h.out.keeps hkw (fun b hb h => by have := hlt_h.out b hb; have := b4_h.out.size; omega)
          obtain ⟨ad, B, d, u, rfl, hx, hc, _⟩ := hOr.rd.at_ (k := k) (by rw [← hm_h.out]; exact hlt2)
          have hyL : L[k]? = some u := by rw [hL'_h.out, List.getElem?_map, hx]; rfl
          have hul : u.length = n := by have := (hrow_h.out _ (List.mem_of_getElem? hyL)).1; have := hn_h.out; omega
          have hI : Sl wr.drew 3 1 B n d (ints u) := by have := hOr.rows _ (List.mem_of_getElem? hx); unfold IS at this; rw [hul] at this; exact this
          have hcap := hI.2.1
          rw [hul] at hc
          have hkI : (k : Int) < (m : Int) := by omega
          obtain ⟨A2, hr2, hS2, hf2⟩ := hI.sliced (P := Tryz.prog) 23 Tryz.underlying23 info_int (some (.int .i64 (na : Int))) none none na n d (optSome rfl) (optNone ⟨rfl, rfl⟩) (optNone rfl) hna (Nat.le_refl _) hcap (Nat.le_refl _)
          rw [hnb_h.out] at hr2 hS2
          have hpv : partV na nb u = u.drop na := by unfold partV; rw [List.take_of_length_le (by rw [List.length_drop, hul, hnb_h.out]; exact Nat.le_refl _)]
          have hpl : (partV na nb u).length = nb := partV_len hul (by have := hn_h.out; omega)
          have hd2 : RdI wr.drew A2 (partV na nb u) := by
           have e : ((ints u).drop (na * 1)).take (nb * 1) = ints (partV na nb u) := by simp [ints, partV, List.map_take, List.map_drop]
           rw [e] at hS2
           intro j x hj
           obtain ⟨ad, hA, _, hc, _⟩ := hS2.cell (ints_get hj)
           exact ⟨ad, hA, hc⟩
          have hC := l1Own_any A2 (d - na) (partV na nb u) wr.drew hd2 (by omega)
          rw [hpl] at hC
          have hbd : Below wr.heap.size wr wr.drew := below_drewN (Below.refl _ _) 1
          clear hOr hx hS2 hf2 hI hd2 hpv; have hyL_h := lH hyL; have hul_h := lH hul; have hr2_h := lH hr2; have hpl_h := lH hpl; have hC_h := lH hC; have hbd_h := lH hbd; have hOM_h := lH hOM; have hkw_h := lH hkw; have k0r_h := lH k0r; have k1r_h := lH k1r; clear hyL hul hr2 hpl hC hbd hOM hkw k0r k1r
          obtain ⟨⟨y0, y1, y2⟩, y3, y4, y5⟩ := box3 k0r_h.out
          go_wp2_with (fail)
          refine beginZw 10 (fun w' => w'.heap[w.heap.size]? = some (.cells #[.int .i64 (na : Int), .int .i64 (nb : Int), .slice (some ad) m c] tRel) ∧ w'.heap[bx]? = some (.cells #[.int .i64 (nb : Int), .slice A' k c'] tMat)) (by kernel_rfl) (fun W1 hW1 => ?_)
          rw [← hW1] at hC_h hbd_h
          clear hc hW1 y0 y1 y2 y3 y4 y5
          have k0a := box_below k0r_h.out hbd_h.out
          have kbxa := box_below kbx hbd_h.out
          have hF := And.intro k0a kbxa
          clear k0a kbxa; have hF_h := lH hF; have kbx_h := lH kbx; clear hF kbx
          refine tkC 0 ?_ rfl hF_h.out (fun W' hW' => ?_) ?_; rotate_left; · (obtain ⟨⟨y0, y1, y2⟩, y3, y4, y5⟩ := box3 hW'.1; obtain ⟨⟨x0, x1⟩, x2, x3⟩ := box2 hW'.2; clear hW'; go_simp; first | done | with_reducible rfl)
          simp only [Act.put, nS]
          refine tkC 1 ?_ rfl hF_h.out (fun W' hW' => ?_) ?_; rotate_left; · (obtain ⟨⟨y0, y1, y2⟩, y3, y4, y5⟩ := box3 hW'.1; obtain ⟨⟨x0, x1⟩, x2, x3⟩ := box2 hW'.2; clear hW'; go_simp; first | done | with_reducible rfl)
          simp only [Act.put, nS]
          refine tkC 2 ?_ rfl hF_h.out (fun W' hW' => ?_) ?_; rotate_left; · (obtain ⟨⟨y0, y1, y2⟩, y3, y4, y5⟩ := box3 hW'.1; obtain ⟨⟨x0, x1⟩, x2, x3⟩ := box2 hW'.2; clear hW'; go_simp; first | done | with_reducible rfl)
          simp only [Act.put, nS]
          refine tkC 3 ?_ rfl hF_h.out (fun W' hW' => ?_) ?_; rotate_left; · (obtain ⟨⟨y0, y1, y2⟩, y3, y4, y5⟩ := box3 hW'.1; obtain ⟨⟨x0, x1⟩, x2, x3⟩ := box2 hW'.2; clear hW'; go_simp; first | done | with_reducible rfl)
          simp only [Act.put, nS]
          refine tkC 4 ?_ rfl hF_h.out (fun W' hW' => ?_) ?_; rotate_left; · (obtain ⟨⟨y0, y1, y2⟩, y3, y4, y5⟩ := box3 hW'.1; obtain ⟨⟨x0, x1⟩, x2, x3⟩ := box2 hW'.2; clear hW'; go_simp; first | done | with_reducible rfl)
          simp only [Act.put, nS]
          refine takeC 5 (v := .slice A2 nb (d - na)) rfl (by kernel_rfl) (by kernel_rfl) (by kernel_rfl) (by kernel_rfl) (fun _ _ _ h => h) hF_h.out (by rfl) (fun W' _ => xop_sliceW rfl (hr2_h.out W')) ?_
          simp only [Act.put, nS]
          refine callZ 6 (f := ?f1) (args := ?args1) rfl (by kernel_rfl) (by rfl) ?hrun1 ?hcall1
          case hrun1 => (go_simp; first | done | with_reducible rfl | (constructor <;> with_reducible rfl))
          case hcall1 =>
           refine (hC_h.out).mono ?_
           rintro e w5 ⟨A4, c4, rfl, hi4, hf4, hb4⟩
           rw [hpl_h.out]
           have hF5 := And.intro (box_below hF_h.out.1 hb4) (box_below hF_h.out.2 hb4)
           refine ⟨_, rfl, fun _ => hF5, ?_⟩
           have hF6 := And.intro (box_below hF5.1 (below_alloc w5 (.cells #[.slice A4 nb c4] 23))) (box_below hF5.2 (below_alloc w5 (.cells #[.slice A4 nb c4] 23)))
           have hB5 := below_trans hbd_h.out hb4 hbd_h.out.size
           have hz5 := hB5.size
           have hzd := hbd_h.out.size
           obtain ⟨ys, hLy, hOy, hfy, h0y, h1y, h2y⟩ := hOM_h.out
           have hyl : ys.length = k := by
            have := congrArg List.length hLy
            rw [List.length_map, List.length_map, List.length_take, hLm_h.out] at this; omega
           have hsl : Sl (w5.alloc (.cells #[.slice A4 nb c4] 23)) 23 1 A' k c' (ys.map Hd.val) := by
            have := (hOy.sl.below hB5).alloc (.cells #[.slice A4 nb c4] 23)
            rwa [hyl] at this
           clear hF5 hb4; have hF6_h := lH hF6; have hB5_h := lH hB5; have hi4_h := lH hi4; have hf4_h := lH hf4; have hsl_h := lH hsl; have hLy_h := lH hLy; have hOy_h := lH hOy; have hfy_h := lH hfy; have h0y_h := lH h0y; have hyl_h := lH hyl; clear hF6 hB5 hi4 hf4 hsl hLy hOy hfy h0y hyl
           simp only [Act.put, nS]
           refine oneZ 7 rfl (by kernel_rfl) (by rfl) (fun K hK => ?_)
           go_simp
           refine hK _ _ (fun _ => hF6_h.out) ?_
           clear hK K
           refine appZ 8 rfl (by kernel_rfl) (by rfl) _ _ _ rfl 23 Tryz.underlying27 info_ints rfl (by omega) rfl hsl_h.out rfl (news := [.slice A4 nb c4]) rfl (Sl.rdc (Sl.laid w5 23 1 1 #[.slice A4 nb c4] (by unfold maxLen; omega) rfl)) (by intro u hu; simp at hu; subst hu; rfl) (by unfold maxLen; omega) (by omega) ?_
           intro A6 c6 w6 hsA6 hA6 hkA6 hrdA6
           clear hrdA6
           have hal : Below w5.heap.size w5 (w5.alloc (.cells #[.slice A4 nb c4] 23)) := below_alloc _ _
           have hO6 := OMx.snoc (w1 := w5.alloc (.cells #[.slice A4 nb c4] 23)) hLy_h.out hOy_h.out hfy_h.out h0y_h.out h1y h2y (below_trans hB5_h.out hal hB5_h.out.size) (hi4_h.out.below hal) (hf4_h.out.mono hzd) (by rw [hyl_h.out]) (by rw [hpl_h.out]; exact hsA6) hA6 hkA6
           have hF7 := And.intro (box_keeps hF6_h.out.1 hkA6 (fun h => by have := (hfy_h.out _ (List.mem_append_left _ h)).1; have := hbx_h.out; omega)) (box_keeps hF6_h.out.2 hkA6 (fun h => (hfy_h.out _ (List.mem_append_left _ h)).2 rfl))
           refine ⟨fun _ => hF7, ?_⟩
           obtain ⟨s1, s2⟩ := set_f1 (b := .slice A6 (k + 1) c6) hF7.2
           have hO7 := hO6.store s2
           have hkq : Keeps (fun b => W4.heap.size ≤ b ∨ b = bx) W4 w6 := by
            refine ((hkw_h.out.trans ((Keeps.of_below hB5_h.out _).mono fun _ _ h => h)).trans (Keeps.of_below hal _)).trans (hkA6.mono fun b _ hb => ?_)
            have := hfy_h.out b (List.mem_append_left _ hb)
            have := hbx_h.out
            left; omega
           have hkr := hkq.trans (s2.mono fun b _ hb => .inr hb)
           obtain ⟨⟨x0, x1⟩, x2, x3⟩ := box2 hF7.2
           clear hsA6 hA6 hkA6 hO6 s2 hkq hal; have hF7_h := lH hF7; have hO7_h := lH hO7; have s1_h := lH s1; have hkr_h := lH hkr; clear hF7 hO7 s1 hkr
           simp only [Act.put, nS]
           refine tkC 9 ?_ rfl hF7_h.out (fun W' hW' => ?_) ?_; rotate_left; · (skip; clear hW'; go_simp; first | done | with_reducible rfl)
           simp only [Act.put, nS]
           refine oneZ 10 rfl (by kernel_rfl) (by rfl) (fun K hK => ?_)
           go_simp
           refine hK _ _ (fun h => by cases h) ?_
           clear hK K
           refine doneZ (by kernel_rfl) ?_
           go_wp2_with (fail)
           go_roundw
           case rel => exact ⟨k + 1, A6, c6, by omega, by go_num, s1_h.out, by rw [List.take_add_one, hyL_h.out, List.map_append]; exact hO7_h.out, hkr_h.out⟩
           case measure => simp [intOf]; omega
        · obtain rfl : k = m := by omega
          have hOM2 : OMx w3 bx wr A' c' (L.map (partV na nb)) := by rwa [List.take_of_length_le (by rw [hLm_h.out]; exact Nat.le_refl _)] at hOM
          have hB5 := below_trans hB3'_h.out hOM2.below_ hB3'_h.out.size
          have hz5 := hB5.size
          obtain ⟨⟨x0, x1⟩, x2, x3⟩ := box2 kbx
          obtain ⟨⟨d0, d1⟩, g0, g1⟩ := box2 k1r
          obtain ⟨s1, s2⟩ := set2 (a := .int .i64 (nb : Int)) (b := .slice A' k c') k1r
          obtain ⟨fp3, hO5, hf5⟩ := OwMt.of_ret (a := (nb : Int)) hOM2.om s2 (fun k hk => by omega) (by rw [List.length_map, hLm_h.out])
          have hB6 := below_keeps hB5 s2 hB5.size (fun k hk => by omega)
          have hf6 := hf5.mono hB3'_h.out.size
          clear hOM hOM2 hkw hf5 s2 kbx; have s1_h := lH s1; have hO5_h := lH hO5; have hf6_h := lH hf6; have hB6_h := lH hB6; clear s1 hO5 hf6 hB6
          go_wp2_with (fail)
          refine bodyPost_ret (results_cell_tmp rfl _ _ (w.heap.size + 1) _ _ (0, 0) _ rfl s1_h.out Tryz.underlying60 rfl (by kernel_rfl)) rfl ?_
          exact ⟨_, rfl, fp3, by rw [hpf'_h.out]; exact hO5_h.out, hf6_h.out, hB6_h.out⟩
     · have hg' : singB s = false := by simpa using hg
       rw [hg'] at hC1
       simp only [hg'] at hS
       have hC2 : C = ((0, []), false) := hC1
       subst hC2
       clear hC1 hg hg' hOw; have hG_h := lH hG; have hT_h := lH hT; have hS_h := lH hS; have k0_h := lH k0; have k1_h := lH k1; have b0_h := lH b0; have hof_h := lH hof; clear hG hT hS k0 k1 b0 hof
       go_enter Tryz.func56, Tryz.ntmps56
       go_upto_region 1 with (fail)
       rw [← hW]
       clear hW
       go_wp2_with (fail)
       refine (hG_h.out).mono ?_
       rintro e w1 ⟨rfl, hb1⟩
       clear c0 c1 c2 f0 f1 f2
       replace k0_h := lH (box_below k0_h.out hb1)
       replace k1_h := lH (box_below k1_h.out hb1)
       have hB1 := below_trans b0_h.out hb1 b0_h.out.size
       obtain ⟨⟨c0, c1, c2⟩, f0, f1, f2⟩ := box3 k0_h.out
       have hT1 := hT_h.out w1 hb1 hof_h.out
       have hT1_h := lH hT1; have hB1_h := lH hB1; have hb1_h := lH hb1; clear hT1 hB1 hb1
       go_wp2_with (fail)
       refine (hT1_h.out).mono ?_
       rintro e w2 ⟨rfl, hb2⟩
       clear c0 c1 c2 f0 f1 f2
       replace k0_h := lH (box_below k0_h.out hb2)
       replace k1_h := lH (box_below k1_h.out hb2)
       have hB2 := below_trans hB1_h.out hb2 hB1_h.out.size
       have hb12 := below_trans hb1_h.out hb2 hb1_h.out.size
       obtain ⟨⟨c0, c1, c2⟩, f0, f1, f2⟩ := box3 k0_h.out
       have hS1 := hS_h.out w2 hb12 hof_h.out
       have hS1_h := lH hS1; have hB2_h := lH hB2; have hb2_h := lH hb2; have hb12_h := lH hb12; clear hS1 hB2 hb2 hb12
       go_wp2_with (fail)
       refine (hS1_h.out).mono ?_
       rintro e w3 ⟨rfl, hb3⟩
       clear c0 c1 c2 f0 f1 f2
       replace k0_h := lH (box_below k0_h.out hb3)
       replace k1_h := lH (box_below k1_h.out hb3)
       have hB3' := below_trans hB2_h.out hb3 hB2_h.out.size
       have hb13 := below_trans hb12_h.out hb3 hb12_h.out.size
       have hb3_h := lH hb3; have hB3'_h := lH hB3'; have hb13_h := lH hb13; clear hb3 hB3' hb13
       obtain ⟨⟨d0, d1⟩, g0, g1⟩ := box2 k1_h.out
       obtain ⟨s1, s2⟩ := set2 (a := .int .i64 0) (b := .slice none 0 0) k1_h.out
       have hz1 : w.heap.size + 1 < w3.heap.size := (Array.getElem?_eq_some_iff.1 k1_h.out).1
       have hB3 := below_keeps hB3'_h.out s2 (hB3'_h.out).size (fun k hk => by omega)
       have s1_h := lH s1; have s2_h := lH s2; have hB3_h := lH hB3; clear s1 s2 hB3
       go_wp2_with (fail)
       refine bodyPost_ret (results_cell_tmp rfl _ _ (w.heap.size + 1) _ _ (0, 0) _ rfl s1_h.out Tryz.underlying60 rfl (by kernel_rfl)) rfl ?_
       exact ⟨_, [], rfl, OwMt.zero _ 0, FreshL.nil _, hB3_h.out⟩
   · have ht' : totB p s = false := by simpa using ht
     rw [ht'] at hC1
     simp only [ht'] at hT
     have hC2 : C = ((0, []), false) := hC1
     subst hC2
     clear hC1 ht ht' hS hOw; have hG_h := lH hG; have hT_h := lH hT; have k0_h := lH k0; have k1_h := lH k1; have b0_h := lH b0; have hof_h := lH hof; clear hG hT k0 k1 b0 hof
     go_enter Tryz.func56, Tryz.ntmps56
     go_upto_region 1 with (fail)
     rw [← hW]
     clear hW
     go_wp2_with (fail)
     refine (hG_h.out).mono ?_
     rintro e w1 ⟨rfl, hb1⟩
     clear c0 c1 c2 f0 f1 f2
     replace k0_h := lH (box_below k0_h.out hb1)
     replace k1_h := lH (box_below k1_h.out hb1)
     have hB1 := below_trans b0_h.out hb1 b0_h.out.size
     obtain ⟨⟨c0, c1, c2⟩, f0, f1, f2⟩ := box3 k0_h.out
     have hT1 := hT_h.out w1 hb1 hof_h.out
     have hT1_h := lH hT1; have hB1_h := lH hB1; have hb1_h := lH hb1; clear hT1 hB1 hb1
     go_wp2_with (fail)
     refine (hT1_h.out).mono ?_
     rintro e w2 ⟨rfl, hb2⟩
     clear c0 c1 c2 f0 f1 f2
     replace k0_h := lH (box_below k0_h.out hb2)
     replace k1_h := lH (box_below k1_h.out hb2)
     have hB2 := below_trans hB1_h.out hb2 hB1_h.out.size
     have hb12 := below_trans hb1_h.out hb2 hb1_h.out.size
     have hb2_h := lH hb2; have hB2_h := lH hB2; have hb12_h := lH hb12; clear hb2 hB2 hb12
     obtain ⟨⟨d0, d1⟩, g0, g1⟩ := box2 k1_h.out
     obtain ⟨s1, s2⟩ := set2 (a := .int .i64 0) (b := .slice none 0 0) k1_h.out
     have hz1 : w.heap.size + 1 < w2.heap.size := (Array.getElem?_eq_some_iff.1 k1_h.out).1
     have hB3 := below_keeps hB2_h.out s2 (hB2_h.out).size (fun k hk => by omega)
     have s1_h := lH s1; have s2_h := lH s2; have hB3_h := lH hB3; clear s1 s2 hB3
     go_wp2_with (fail)
     refine bodyPost_ret (results_cell_tmp rfl _ _ (w.heap.size + 1) _ _ (0, 0) _ rfl s1_h.out Tryz.underlying60 rfl (by kernel_rfl)) rfl ?_
     exact ⟨_, [], rfl, OwMt.zero _ 0, FreshL.nil _, hB3_h.out⟩
 · have hb' : relB p s = false := by simpa using hb
   rw [hb'] at hG hC0
   have hC1 : C = ((0, []), false) := hC0
   subst hC1
   clear h ok hb hb' hC0 hT hS hOw; have hG_h := lH hG; have k0_h := lH k0; have k1_h := lH k1; have b0_h := lH b0; clear hG k0 k1 b0
   go_enter Tryz.func56, Tryz.ntmps56
   go_upto_region 1 with (fail)
   rw [← hW]
   clear hW
   go_wp2_with (fail)
   refine (hG_h.out).mono ?_
   rintro e w1 ⟨rfl, hb1⟩
   clear c0 c1 c2 f0 f1 f2
   replace k0_h := lH (box_below k0_h.out hb1)
   replace k1_h := lH (box_below k1_h.out hb1)
   have hB1 := below_trans b0_h.out hb1 b0_h.out.size
   have hB1_h := lH hB1; have hb1_h := lH hb1; clear hB1 hb1
   obtain ⟨⟨d0, d1⟩, g0, g1⟩ := box2 k1_h.out
   obtain ⟨s1, s2⟩ := set2 (a := .int .i64 0) (b := .slice none 0 0) k1_h.out
   have hz1 : w.heap.size + 1 < w1.heap.size := (Array.getElem?_eq_some_iff.1 k1_h.out).1
   have hB3 := below_keeps hB1_h.out s2 (hB1_h.out).size (fun k hk => by omega)
   have s1_h := lH s1; have s2_h := lH s2; have hB3_h := lH hB3; clear s1 s2 hB3
   go_wp2_with (fail)
   refine bodyPost_ret (results_cell_tmp rfl _ _ (w.heap.size + 1) _ _ (0, 0) _ rfl s1_h.out Tryz.underlying60 rfl (by kernel_rfl)) rfl ?_
   exact ⟨_, [], rfl, OwMt.zero _ 0, FreshL.nil _, hB3_h.out⟩
theorem funM_ok {p : Int} {s : Sys} : OkR (funM p s).1.2 := by
 unfold funM
 split
 · rename_i h
   have hs := RelOk.of (by simp only [Bool.and_eq_true] at h; exact h.1)
   have hm := secondM_mat hs
   have := hs.len; have := hs.sum; have := hs.hi; have := hs.lo
   exact okR_mat hm (by omega) (by omega)
 · exact okR_nil
abbrev tRelD : TypeId := 29
def RetRdn (w : World) (L : List (List Int)) (e : Ending) (w' : World) : Prop := ∃ A c hs n, e = .returned (.slice A n c) ∧ hs.length = n ∧ hs.map (fun h : Hd => h.2.2) = L ∧ RdR w' A hs ∧ Below w.heap.size w w'
theorem rd_laid (w : World) (l : List Int) (hl : l.length ≤ maxLen) : RdI (w.alloc (.cells (ints l).toArray 3)) (some ⟨w.heap.size, 0, none⟩) l := by
 have h := Sl.laid w 3 1 l.length (ints l).toArray hl (by simp)
 intro j x hj
 obtain ⟨ad, hA, _, hc, _⟩ := h.cell (j := j) (u := .int .i64 x) (by simpa using ints_get hj)
 exact ⟨ad, hA, hc⟩
theorem mirror_any (k : Int) (w : World) (h1 : 9 ≤ k) (h2 : k ≤ 14) : Calls Tryz.prog 140 #[.int .i64 k] w fun e w' => e = .returned (.int .i64 (k - 6)) ∧ w' = w := by
 have hA : t_inB k 3 8 = false := decide_eq_false (by omega)
 have hB : t_inB k 9 14 = true := decide_eq_true (by omega)
 go_enter Tryz.func140, Tryz.ntmps140
 go_wp2_with (fail)
 refine (t_within_any _ _ _ _).mono ?_
 rintro e w' ⟨rfl, rfl⟩
 rw [hA]
 go_wp2_with (fail)
 refine (t_within_any _ _ _ _).mono ?_
 rintro e w' ⟨rfl, rfl⟩
 rw [hB]
 go_wp2_with (fail)
 go_ret
 show Ending.returned (.int .i64 (k - 9 + 3)) = _ ∧ _
 rw [show k - 9 + 3 = k - 6 by omega]
 exact ⟨rfl, rfl⟩
set_option maxRecDepth 100000 in
set_option maxHeartbeats 2000000 in
theorem generatorRows_any (k v : Int) (w : World) (hk : k = 3 ∨ k = 4 ∨ k = 5 ∨ k = 6 ∨ k = 7) :
  Calls Tryz.prog 142 #[.int .i64 k, .int .i64 v] w (RetRdn w (leafRows k v)) := by
 rcases hk with rfl | rfl | rfl | rfl | rfl
 · -- kind 3
   go_enter Tryz.func142, Tryz.ntmps142
   go_wp2_with (fail)
   go_ret
   have r0 := rd_laid (w) [1, 1, 1] (by unfold maxLen; simp)
   have b0 := below_alloc (w) (.cells (ints [1, 1, 1]).toArray 3)
   have hlr := laid_rdr (w := (w).alloc (.cells (ints [1, 1, 1]).toArray 3)) ([((some ⟨w.heap.size, 0, none⟩ : Option Addr), 3, ([1, 1, 1] : List Int))] : List Hd) (fun x hx => by
    simp only [List.mem_cons, List.not_mem_nil, or_false] at hx
    subst hx
    exact r0) (by unfold maxLen; simp)
   simp only [World.size_alloc] at hlr
   have hbl := below_trans b0 (below_alloc _ (.cells (([((some ⟨w.heap.size, 0, none⟩ : Option Addr), 3, ([1, 1, 1] : List Int))] : List Hd).map Hd.val).toArray 23)) b0.size
   exact ⟨_, 1, _, 1, rfl, rfl, rfl, hlr, hbl⟩
 · -- kind 4
   go_enter Tryz.func142, Tryz.ntmps142
   go_wp2_with (fail)
   go_ret
   have r0 := rd_laid (w) [1] (by unfold maxLen; simp)
   have b0 := below_alloc (w) (.cells (ints [1]).toArray 3)
   have hlr := laid_rdr (w := (w).alloc (.cells (ints [1]).toArray 3)) ([((some ⟨w.heap.size, 0, none⟩ : Option Addr), 1, ([1] : List Int))] : List Hd) (fun x hx => by
    simp only [List.mem_cons, List.not_mem_nil, or_false] at hx
    subst hx
    exact r0) (by unfold maxLen; simp)
   simp only [World.size_alloc] at hlr
   have hbl := below_trans b0 (below_alloc _ (.cells (([((some ⟨w.heap.size, 0, none⟩ : Option Addr), 1, ([1] : List Int))] : List Hd).map Hd.val).toArray 23)) b0.size
   exact ⟨_, 1, _, 1, rfl, rfl, rfl, hlr, hbl⟩
 · -- kind 5
   go_enter Tryz.func142, Tryz.ntmps142
   go_wp2_with (fail)
   go_ret
   have r0 := rd_laid (w) [1, 0, 1] (by unfold maxLen; simp)
   have b0 := below_alloc (w) (.cells (ints [1, 0, 1]).toArray 3)
   have r1 := rd_laid ((w).alloc (.cells (ints [1, 0, 1]).toArray 3)) [0, 1, 1] (by unfold maxLen; simp)
   have b1 := below_alloc ((w).alloc (.cells (ints [1, 0, 1]).toArray 3)) (.cells (ints [0, 1, 1]).toArray 3)
   simp only [World.size_alloc] at r1
   have r0 := r0.below b1
   have hlr := laid_rdr (w := ((w).alloc (.cells (ints [1, 0, 1]).toArray 3)).alloc (.cells (ints [0, 1, 1]).toArray 3)) ([((some ⟨w.heap.size, 0, none⟩ : Option Addr), 3, ([1, 0, 1] : List Int)), ((some ⟨w.heap.size + 1, 0, none⟩ : Option Addr), 3, ([0, 1, 1] : List Int))] : List Hd) (fun x hx => by
    simp only [List.mem_cons, List.not_mem_nil, or_false] at hx
    rcases hx with rfl | rfl
    · exact r0
    · exact r1) (by unfold maxLen; simp)
   simp only [World.size_alloc] at hlr
   have hbl := below_trans (below_trans b0 b1 b0.size) (below_alloc _ (.cells (([((some ⟨w.heap.size, 0, none⟩ : Option Addr), 3, ([1, 0, 1] : List Int)), ((some ⟨w.heap.size + 1, 0, none⟩ : Option Addr), 3, ([0, 1, 1] : List Int))] : List Hd).map Hd.val).toArray 23)) (below_trans b0 b1 b0.size).size
   exact ⟨_, 2, _, 2, rfl, rfl, rfl, hlr, hbl⟩
 · -- kind 6
   go_enter Tryz.func142, Tryz.ntmps142
   go_wp2_with (fail)
   go_ret
   exact ⟨none, 0, [], 0, rfl, rfl, rfl, ⟨fun i h hh => by simp at hh, fun h hh => by cases hh⟩, Below.refl _ _⟩
 · -- kind 7
   go_enter Tryz.func142, Tryz.ntmps142
   go_wp2_with (fail)
   go_ret
   have r0 := rd_laid (w) [1, v] (by unfold maxLen; simp)
   have b0 := below_alloc (w) (.cells (ints [1, v]).toArray 3)
   have hlr := laid_rdr (w := (w).alloc (.cells (ints [1, v]).toArray 3)) ([((some ⟨w.heap.size, 0, none⟩ : Option Addr), 2, ([1, v] : List Int))] : List Hd) (fun x hx => by
    simp only [List.mem_cons, List.not_mem_nil, or_false] at hx
    subst hx
    exact r0) (by unfold maxLen; simp)
   simp only [World.size_alloc] at hlr
   have hbl := below_trans b0 (below_alloc _ (.cells (([((some ⟨w.heap.size, 0, none⟩ : Option Addr), 2, ([1, v] : List Int))] : List Hd).map Hd.val).toArray 23)) b0.size
   exact ⟨_, 1, _, 1, rfl, rfl, rfl, hlr, hbl⟩
theorem set_f2d {w : World} {B : Nat} {t : TypeId} {x y z b : Value} (h : w.heap[B]? = some (.cells #[x, y, z] t)) : (w.setCell ⟨B, 2, none⟩ b).heap[B]? = some (.cells #[x, y, b] t) ∧ Keeps (· = B) w (w.setCell ⟨B, 2, none⟩ b) := by
 refine ⟨by simp [World.setCell, Array.getElem?_modify, h], ?_⟩
 exact (Keeps.refl (fun x => x = B) w).setCell (p := ⟨B, 2, none⟩) rfl _
theorem idRows_take {n k : Nat} (hk : k < n) : (idRows n).take (k + 1) = (idRows n).take k ++ [unitV n k ++ unitV n k] := by
 rw [List.take_add_one]
 simp [idRows, hk]
set_option maxRecDepth 100000 in
set_option maxHeartbeats 4000000 in
theorem identityRelation_any (n : Nat) (w : World) (hn : n ≤ 12) :
  Calls Tryz.prog 138 #[.int .i64 (n : Int)] w fun e w' => ∃ v' fp, e = .returned v' ∧ OwSys w' v' ((n : Int), (n : Int), idRows n) fp ∧ FreshL w.heap.size fp ∧ Below w.heap.size w w' := by
 obtain ⟨W0, hW0, bW0, k0⟩ := alloc_box w (.cells #[.int .i64 0, .int .i64 0, .slice none 0 0] tRelD)
 obtain ⟨W, hW, b1, k1⟩ := alloc_box W0 (.cells #[.int .i64 (n : Int), .int .i64 (n : Int), .slice none 0 0] tRelD)
 obtain ⟨bx, hbx⟩ : ∃ bx, bx = W0.heap.size := ⟨_, rfl⟩
 have hbx1 : bx = w.heap.size + 1 := by rw [hbx, hW0]; simp
 rw [← hbx] at k1
 have hnil : OMx W0 bx W none 0 ((idRows n).take 0) := OMx.nil b1 (by omega) (box_lt k1)
 have bW0_h := lH bW0; have k0_h := lH k0; have b1_h := lH b1; have k1_h := lH k1; have hnil_h := lH hnil; have hbx1_h := lH hbx1; clear bW0 k0 b1 k1 hnil hbx1
 go_enter Tryz.func138, Tryz.ntmps138
 go_upto_region 2 with (fail)
 rw [← hW0, ← hW, ← hbx1_h.out]
 have hbx_h := lH hbx; clear hW0 hW hbx
 go_wp2_with (fail)
 go_loopw [9] (fun i wr => ∃ (k q : Nat) (A1 : Option Addr) (c1 : Nat), k ≤ n ∧ i = .int .i64 k ∧ q = k ∧ wr.heap[bx]? = some (.cells #[.int .i64 (n : Int), .int .i64 (n : Int), .slice A1 q c1] tRelD) ∧ OMx W0 bx wr A1 c1 ((idRows n).take k)) (fun i _ => n - (intOf i).toNat)
 case atStart => exact ⟨0, 0, none, 0, Nat.zero_le _, rfl, rfl, k1_h.out, hnil_h.out⟩
 case round =>
  clear hnil_h k1_h
  obtain ⟨k, q, A1, c1, hk, rfl, hq, kx, hOM⟩ := hrel
  obtain ⟨wo, rfl⟩ : ∃ x, x = wr := ⟨_, rfl⟩
  by_cases hlt : k < n
  · have hkI : (k : Int) < (n : Int) := by omega
    have hq12 : q ≤ 12 := by omega
    have hU := fun (W' : World) => unit_any n k W' (by omega) hlt
    have htk := idRows_take hlt
    have hrl : (unitV n k ++ unitV n k).length = n + n := by simp
    obtain ⟨row, hrow⟩ : ∃ r, r = unitV n k ++ unitV n k := ⟨_, rfl⟩
    obtain ⟨N, hN⟩ : ∃ N, N = n + n := ⟨_, rfl⟩
    rw [← hrow] at htk hrl
    rw [← hN] at hrl
    have hbd : Below wo.heap.size wo wo.drew := below_drewN (Below.refl _ _) 1
    have kx_h := lH kx; have hOM_h := lH hOM; have hU_h := lH hU; have htk_h := lH htk; have hrl_h := lH hrl; have hrow_h := lH hrow; have hN_h := lH hN; have hbd_h := lH hbd; have hq_h := lH hq; clear kx hOM hU htk hrl hrow hN hbd hq
    go_wp2_with (fail)
    refine beginZw 13 (fun w' => w'.heap[bx]? = some (.cells #[.int .i64 (n : Int), .int .i64 (n : Int), .slice A1 q c1] tRelD)) (by kernel_rfl) (fun W1 hW1 => ?_)
    have hB := hbd_h.out
    rw [← hW1] at hB
    clear hW1
    have hF := box_below kx_h.out hB
    have hF_h := lH hF; have hB_h := lH hB; clear hF hB
    refine tkC 0 ?_ rfl hF_h.out (fun W' hW' => ?_) ?_; rotate_left; · (obtain ⟨⟨x0, x1, x2⟩, x3, x4, x5⟩ := box3 hW'; clear hW'; go_simp; first | done | with_reducible rfl)
    simp only [Act.put, nS]
    refine tkC 1 ?_ rfl hF_h.out (fun W' hW' => ?_) ?_; rotate_left; · (obtain ⟨⟨x0, x1, x2⟩, x3, x4, x5⟩ := box3 hW'; clear hW'; go_simp; first | done | with_reducible rfl)
    simp only [Act.put, nS]
    refine tkC 2 ?_ rfl hF_h.out (fun W' hW' => ?_) ?_; rotate_left; · (obtain ⟨⟨x0, x1, x2⟩, x3, x4, x5⟩ := box3 hW'; clear hW'; go_simp; first | done | with_reducible rfl)
    simp only [Act.put, nS]
    refine tkC 3 ?_ rfl hF_h.out (fun W' hW' => ?_) ?_; rotate_left; · (obtain ⟨⟨x0, x1, x2⟩, x3, x4, x5⟩ := box3 hW'; clear hW'; go_simp; first | done | with_reducible rfl)
    simp only [Act.put, nS]
    refine tkC 5 ?_ rfl hF_h.out (fun W' hW' => ?_) ?_; rotate_left; · (obtain ⟨⟨x0, x1, x2⟩, x3, x4, x5⟩ := box3 hW'; clear hW'; go_simp; first | done | with_reducible rfl)
    simp only [Act.put, nS]
    refine tkC 6 ?_ rfl hF_h.out (fun W' hW' => ?_) ?_; rotate_left; · (obtain ⟨⟨x0, x1, x2⟩, x3, x4, x5⟩ := box3 hW'; clear hW'; go_simp; first | done | with_reducible rfl)
    simp only [Act.put, nS]
    refine callZ 4 (f := ?f1) (args := ?args1) rfl (by kernel_rfl) (by rfl) ?hrun1 ?hcall1
    case hrun1 => (go_simp; first | done | with_reducible rfl | (constructor <;> with_reducible rfl))
    case hcall1 =>
     refine (hU_h.out _).mono ?_
     rintro e w2 ⟨Aa, ca, rfl, hia, hfa, hb2⟩
     rw [unitV_length]
     replace hF_h := lH (box_below hF_h.out hb2)
     have hB2 := below_trans hB_h.out hb2 hB_h.out.size
     refine ⟨_, rfl, fun _ => hF_h.out, ?_⟩
     simp only [Act.put, nS]
     have hia_h := lH hia; have hfa_h := lH hfa; have hb2_h := lH hb2; have hB2_h := lH hB2; clear hia hfa hb2 hB2
     refine callZ 7 (f := ?f2) (args := ?args2) rfl (by kernel_rfl) (by rfl) ?hrun2 ?hcall2
     case hrun2 => (go_simp; first | done | with_reducible rfl | (constructor <;> with_reducible rfl))
     case hcall2 =>
      refine (hU_h.out _).mono ?_
      rintro e w3 ⟨Ab, cb, rfl, hib, hfb, hb3⟩
      rw [unitV_length]
      replace hF_h := lH (box_below hF_h.out hb3)
      have hB3 := below_trans hB2_h.out hb3 hB2_h.out.size
      have hia3 := hia_h.out.below hb3
      refine ⟨_, rfl, fun _ => hF_h.out, ?_⟩
      simp only [Act.put, nS]
      have hal3 := below_alloc w3 (.cells #[.slice Aa n ca, .slice Ab n cb] 23)
      have hlr := laid_rdr (w := w3) [(Aa, ca, unitV n k), (Ab, cb, unitV n k)] (fun y hy => by
       simp only [List.mem_cons, List.not_mem_nil, or_false] at hy
       rcases hy with rfl | rfl
       · exact hia3.rd
       · exact hib.rd) (by unfold maxLen; simp)
      have e : (([(Aa, ca, unitV n k), (Ab, cb, unitV n k)] : List Hd).map Hd.val).toArray = #[.slice Aa n ca, .slice Ab n cb] := by simp [Hd.val]
      rw [e] at hlr
      have e2 : (([(Aa, ca, unitV n k), (Ab, cb, unitV n k)] : List Hd).map fun h : Hd => h.2.2).flatten = row := by rw [hrow_h.out]; simp
      have hJ := joined_any (some ⟨w3.heap.size, 0, none⟩) 2 [(Aa, ca, unitV n k), (Ab, cb, unitV n k)] _ hlr (by simp) (by rw [e2, hrl_h.out, hN_h.out]; omega)
      rw [e2] at hJ
      have hF3 := box_below hF_h.out hal3
      clear hlr e e2; have hB3_h := lH hB3; have hal3_h := lH hal3; have hJ_h := lH hJ; have hF3_h := lH hF3; clear hB3 hal3 hJ hF3
      refine oneZ 8 rfl (by kernel_rfl) (by rfl) (fun K hK => ?_)
      go_simp
      refine hK _ _ (fun _ => hF3_h.out) ?_
      clear hK K
      refine callZ 9 (f := ?f3) (args := ?args3) rfl (by kernel_rfl) (by rfl) ?hrun3 ?hcall3
      case hrun3 => (go_simp; first | done | with_reducible rfl | (constructor <;> with_reducible rfl))
      case hcall3 =>
       refine (hJ_h.out).mono ?_
       rintro e w4 ⟨A7, c7, rfl, hi7, hf7, hb4⟩
       rw [hrl_h.out]
       replace hF3_h := lH (box_below hF3_h.out hb4)
       have hB4 := below_trans hB3_h.out (below_trans hal3_h.out hb4 hal3_h.out.size) hB3_h.out.size
       have hfA7 : Fresh wo.heap.size A7 := fun b hb => by have := hf7 b hb; have := hal3_h.out.size; have := hB3_h.out.size; omega
       refine ⟨_, rfl, fun _ => hF3_h.out, ?_⟩
       simp only [Act.put, nS]
       have hal := below_alloc w4 (.cells #[.slice A7 N c7] 23)
       have hba := below_trans hB4 hal hB4.size
       have hF4 := box_below hF3_h.out hal
       obtain ⟨ys, hLy, hOy, hfy, h0y, h1y, h2y⟩ := hOM_h.out
       have hyl : ys.length = q := by have := congrArg List.length hLy; rw [List.length_map, List.length_take, idRows_len] at this; have := hq_h.out; omega
       have hsl : Sl (w4.alloc (.cells #[.slice A7 N c7] 23)) 23 1 A1 q c1 (ys.map Hd.val) := by
        have := (hOy.sl.below hB4).alloc (.cells #[.slice A7 N c7] 23)
        rwa [hyl] at this
       have hi8 := hi7.below hal
       have hF4_h := lH hF4; have hba_h := lH hba; have hal_h := lH hal; have hsl_h := lH hsl; have hi8_h := lH hi8; have hfA7_h := lH hfA7; have hLy_h := lH hLy; have hOy_h := lH hOy; have hfy_h := lH hfy; have h0y_h := lH h0y; have hyl_h := lH hyl; have hB4_h := lH hB4; clear hF4 hba hal hsl hi8 hfA7 hLy hOy hfy h0y hyl hB4
       refine oneZ 10 rfl (by kernel_rfl) (by rfl) (fun K hK => ?_)
       go_simp
       refine hK _ _ (fun _ => hF4_h.out) ?_
       clear hK K
       refine appZ 11 rfl (by kernel_rfl) (by rfl) _ _ _ rfl 23 Tryz.underlying27 info_ints rfl (by omega) rfl hsl_h.out rfl (news := [.slice A7 N c7]) rfl (Sl.rdc (Sl.laid w4 23 1 1 #[.slice A7 N c7] (by unfold maxLen; omega) rfl)) (by intro u hu; simp at hu; subst hu; rfl) (by unfold maxLen; omega) (by omega) ?_
       intro A6 c6 w6 hsA6 hA6 hkA6 hrdA6
       clear hrdA6
       have hO6 := OMx.snoc (l := row) (w1 := w4.alloc (.cells #[.slice A7 N c7] 23)) hLy_h.out hOy_h.out hfy_h.out h0y_h.out h1y h2y hba_h.out hi8_h.out hfA7_h.out (by rw [hyl_h.out]) (by rw [hrl_h.out]; exact hsA6) hA6 hkA6
       have hF7 := box_keeps hF4_h.out hkA6 (fun h => (hfy_h.out _ (List.mem_append_left _ h)).2 rfl)
       refine ⟨fun _ => hF7, ?_⟩
       obtain ⟨s1, s2⟩ := set_f2d (b := .slice A6 (q + 1) c6) hF7
       have hO7 := hO6.store s2
       rw [← htk_h.out] at hO7
       obtain ⟨⟨x0, x1, x2⟩, x3, x4, x5⟩ := box3 hF7
       clear hsA6 hA6 hkA6 hO6 s2; have hF7_h := lH hF7; have hO7_h := lH hO7; have s1_h := lH s1; clear hF7 hO7 s1
       simp only [Act.put, nS]
       refine tkC 12 ?_ rfl hF7_h.out (fun W' hW' => ?_) ?_; rotate_left; · (skip; clear hW'; go_simp; first | done | with_reducible rfl)
       simp only [Act.put, nS]
       refine oneZ 13 rfl (by kernel_rfl) (by rfl) (fun K hK => ?_)
       go_simp
       refine hK _ _ (fun h => by cases h) ?_
       clear hK K
       refine doneZ (by kernel_rfl) ?_
       go_wp2_with (fail)
       go_roundw
       case rel => exact ⟨k + 1, q + 1, A6, c6, by omega, by go_num, by have := hq_h.out; omega, s1_h.out, hO7_h.out⟩
       case measure => simp [intOf]; omega
  · obtain rfl : n = k := by omega
    obtain rfl : n = q := hq.symm
    have hO2 : OMx W0 bx wo A1 c1 (idRows n) := by have := hOM; rwa [List.take_of_length_le (by rw [idRows_len]; exact Nat.le_refl _)] at this
    have k0r := box_below k0_h.out hO2.below_
    obtain ⟨⟨x0, x1, x2⟩, x3, x4, x5⟩ := box3 kx
    obtain ⟨⟨y0, y1, y2⟩, y3, y4, y5⟩ := box3 k0r
    obtain ⟨s1, s2⟩ := set3 (a := .int .i64 (n : Int)) (b := .int .i64 (n : Int)) (c := .slice A1 n c1) k0r
    have hbb := below_trans bW0_h.out hO2.below_ bW0_h.out.size
    have hz0 : w.heap.size < W0.heap.size := by have := hbx_h.out; have := hbx1_h.out; omega
    have hbw := below_keeps hbb s2 hbb.size (fun k hk => by omega)
    obtain ⟨fp, h1, h2⟩ := OwSys.of_ret (a := (n : Int)) (b := (n : Int)) hO2.om s2 (fun k hk => by omega) (idRows_len n)
    have h3 := h2.mono bW0_h.out.size
    clear hOM hO2 kx k0r h2 s2 hbb; have s1_h := lH s1; have h1_h := lH h1; have h3_h := lH h3; have hbw_h := lH hbw; clear s1 h1 h3 hbw
    go_wp2_with (fail)
    refine bodyPost_ret (results_cell_row rfl _ _ w.heap.size _ _ (0, 0) _ rfl s1_h.out Tryz.underlying29 rfl (by kernel_rfl)) rfl ?_
    exact ⟨_, rfl, fp, h1_h.out, h3_h.out, hbw_h.out⟩
theorem leafRows_le (k v : Int) : (leafRows k v).length ≤ 2 := by
 unfold leafRows
 repeat' split
 all_goals simp
set_option maxRecDepth 100000 in
set_option maxHeartbeats 4000000 in
theorem leafRelation_any (p k v : Int) (nm : ByteArray) (w : World) (hf : fieldB p = true) (ok : okLf p (k, v, nm)) :
  Calls Tryz.prog 95 #[.int .i64 p, .agg #[.int .i64 k, .int .i64 v, .string nm]] w fun e w' => ∃ v' fp, e = .returned v' ∧ OwSys w' v' (leafV p (k, v, nm)) fp ∧ FreshL w.heap.size fp ∧ Below w.heap.size w w' := by
 have hpb := fieldB_bounds hf
 obtain ⟨V, hV⟩ : ∃ V, V = leafV p (k, v, nm) := ⟨_, rfl⟩
 rw [← hV]
 have hV0 := hV
 unfold leafV at hV
 obtain ⟨W, hW, bW, k0, k1⟩ := alloc2 w (.cells #[.int .i64 k, .int .i64 v, .string nm] 113) (.cells #[.int .i64 0, .int .i64 0, .slice none 0 0] tRelD)
 have hl := ok.1
 have hl1 := hl
 unfold leafB at hl1
 simp only [decide_eq_true_eq] at hl1
 have hfit := leaf_fit hl
 have hbz := bW.size
 have hbz2 := box_lt k1
 by_cases h1 : k = 1
 · rw [if_pos h1] at hV
   have hv0 : 0 ≤ v ∧ v ≤ 12 := by omega
   obtain ⟨n, rfl⟩ : ∃ n : Nat, v = (n : Int) := ⟨v.toNat, by omega⟩
   have hC := identityRelation_any n W (by omega)
   have e : (((n : Int), (n : Int), idRows n) : Sys) = V := by rw [hV]; rfl
   rw [e] at hC
   have hb1 : (k == 1) = true := by rw [h1]; rfl
   clear hV hl hl1 hfit ok e hV0 h1; have k0_h := lH k0; have k1_h := lH k1; have bW_h := lH bW; have hC_h := lH hC; clear k0 k1 bW hC
   go_enter Tryz.func95, Tryz.ntmps95
   go_upto_region 1 with (fail)
   rw [← hW]
   clear hW
   obtain ⟨⟨c0, c1, c2⟩, f0, f1, f2⟩ := box3 k0_h.out
   go_wp2_with (fail)
   refine (hC_h.out).mono ?_
   rintro e w2 ⟨v2, fp9, rfl, hO9, hf9, hb2⟩
   obtain ⟨A9, n9, c9, rfl⟩ := hO9.shape
   replace k1_h := lH (box_below k1_h.out hb2)
   have hB8 := below_trans bW_h.out hb2 bW_h.out.size
   have hBz := bW_h.out.size
   have hw0 := box_lt k1_h.out
   obtain ⟨⟨d0, d1, d2⟩, g0, g1, g2⟩ := box3 k1_h.out
   obtain ⟨s1, s2⟩ := set3 (a := .int .i64 V.1) (b := .int .i64 V.2.1) (c := .slice A9 n9 c9) k1_h.out
   have hB9 := below_keeps hB8 s2 hB8.size (fun k hk => by omega)
   have hO8 := hO9.keeps s2 (fun k hk e => by have := hf9 k hk; omega)
   have hf8 := hf9.mono hBz
   clear hB8 hO9 hf9; have s1_h := lH s1; have s2_h := lH s2; have hB9_h := lH hB9; have hO8_h := lH hO8; have hf8_h := lH hf8; clear s1 s2 hB9 hO8 hf8
   go_wp2_with (fail)
   refine bodyPost_ret (results_cell_row rfl _ _ (w.heap.size + 1) _ _ (0, 0) _ rfl s1_h.out Tryz.underlying29 rfl (by kernel_rfl)) rfl ?_
   first | exact ⟨_, fp9, rfl, hO8_h.out, hf8_h.out, hB9_h.out⟩ | exact ⟨_, rfl, fp9, hO8_h.out, hf8_h.out, hB9_h.out⟩
 · rw [if_neg h1] at hV
   have hb1 : (k == 1) = false := by rw [beq_eq_false_iff_ne]; exact h1
   by_cases h2 : k = 2
   · rw [if_pos h2] at hV
     have hb2 : (k == 2) = true := by rw [h2]; rfl
     have r0 := rd_laid (W) [1, 0, 0, 1] (by unfold maxLen; simp)
     have b0 := below_alloc (W) (.cells (ints [1, 0, 0, 1]).toArray 3)
     have r1 := rd_laid ((W).alloc (.cells (ints [1, 0, 0, 1]).toArray 3)) [0, 1, 1, 0] (by unfold maxLen; simp)
     have b1 := below_alloc ((W).alloc (.cells (ints [1, 0, 0, 1]).toArray 3)) (.cells (ints [0, 1, 1, 0]).toArray 3)
     simp only [World.size_alloc] at r1
     have r0 := r0.below b1
     have hlr := laid_rdr (w := ((W).alloc (.cells (ints [1, 0, 0, 1]).toArray 3)).alloc (.cells (ints [0, 1, 1, 0]).toArray 3)) ([((some ⟨W.heap.size, 0, none⟩ : Option Addr), 4, ([1, 0, 0, 1] : List Int)), ((some ⟨W.heap.size + 1, 0, none⟩ : Option Addr), 4, ([0, 1, 1, 0] : List Int))] : List Hd) (fun x hx => by
      simp only [List.mem_cons, List.not_mem_nil, or_false] at hx
      rcases hx with rfl | rfl
      · exact r0
      · exact r1) (by unfold maxLen; simp)
     simp only [World.size_alloc] at hlr
     have hbl := below_trans (below_trans b0 b1 b0.size) (below_alloc _ (.cells (([((some ⟨W.heap.size, 0, none⟩ : Option Addr), 4, ([1, 0, 0, 1] : List Int)), ((some ⟨W.heap.size + 1, 0, none⟩ : Option Addr), 4, ([0, 1, 1, 0] : List Int))] : List Hd).map Hd.val).toArray 23)) (below_trans b0 b1 b0.size).size
     have hC := relation_any p 2 2 4 _ 2 _ _ hlr hf (by omega) (swapRows_mat (by omega)) (by simp) (by omega)
     have e : ((2, 2, redM p 4 swapRows) : Sys) = V := hV.symm
     have hC' : Calls Tryz.prog 68 #[.int .i64 p, .int .i64 2, .int .i64 2, .slice (some ⟨W.heap.size + 1 + 1, 0, none⟩) 2 2] (((W.alloc (.cells (ints [1, 0, 0, 1]).toArray 3)).alloc (.cells (ints [0, 1, 1, 0]).toArray 3)).alloc (.cells (([((some ⟨W.heap.size, 0, none⟩ : Option Addr), 4, ([1, 0, 0, 1] : List Int)), ((some ⟨W.heap.size + 1, 0, none⟩ : Option Addr), 4, ([0, 1, 1, 0] : List Int))] : List Hd).map Hd.val).toArray 23)) (fun e w' => ∃ v' fp, e = .returned v' ∧ OwSys w' v' V fp ∧ FreshL (((W.alloc (.cells (ints [1, 0, 0, 1]).toArray 3)).alloc (.cells (ints [0, 1, 1, 0]).toArray 3)).alloc (.cells (([((some ⟨W.heap.size, 0, none⟩ : Option Addr), 4, ([1, 0, 0, 1] : List Int)), ((some ⟨W.heap.size + 1, 0, none⟩ : Option Addr), 4, ([0, 1, 1, 0] : List Int))] : List Hd).map Hd.val).toArray 23)).heap.size fp ∧ Below (((W.alloc (.cells (ints [1, 0, 0, 1]).toArray 3)).alloc (.cells (ints [0, 1, 1, 0]).toArray 3)).alloc (.cells (([((some ⟨W.heap.size, 0, none⟩ : Option Addr), 4, ([1, 0, 0, 1] : List Int)), ((some ⟨W.heap.size + 1, 0, none⟩ : Option Addr), 4, ([0, 1, 1, 0] : List Int))] : List Hd).map Hd.val).toArray 23)).heap.size (((W.alloc (.cells (ints [1, 0, 0, 1]).toArray 3)).alloc (.cells (ints [0, 1, 1, 0]).toArray 3)).alloc (.cells (([((some ⟨W.heap.size, 0, none⟩ : Option Addr), 4, ([1, 0, 0, 1] : List Int)), ((some ⟨W.heap.size + 1, 0, none⟩ : Option Addr), 4, ([0, 1, 1, 0] : List Int))] : List Hd).map Hd.val).toArray 23)) w') := by rw [← e]; exact hC
     clear hV hl hl1 hfit ok e hV0 hlr hC r0 r1 b0 b1 h1 h2; have k0_h := lH k0; have k1_h := lH k1; have bW_h := lH bW; have hC'_h := lH hC'; have hbl_h := lH hbl; clear k0 k1 bW hC' hbl
     go_enter Tryz.func95, Tryz.ntmps95
     go_upto_region 1 with (fail)
     rw [← hW]
     clear hW
     obtain ⟨⟨c0, c1, c2⟩, f0, f1, f2⟩ := box3 k0_h.out
     go_wp2_with (fail)
     refine (hC'_h.out).mono ?_
     rintro e w2 ⟨v2, fp9, rfl, hO9, hf9, hb2'⟩
     obtain ⟨A9, n9, c9, rfl⟩ := hO9.shape
     have hbb := below_trans hbl_h.out hb2' hbl_h.out.size
     replace k1_h := lH (box_below k1_h.out hbb)
     have hB8 := below_trans bW_h.out hbb bW_h.out.size
     have hBz := Nat.le_trans bW_h.out.size hbl_h.out.size
     have hz7 := hbl_h.out.size
     have hw0 := box_lt k1_h.out
     obtain ⟨⟨d0, d1, d2⟩, g0, g1, g2⟩ := box3 k1_h.out
     obtain ⟨s1, s2⟩ := set3 (a := .int .i64 V.1) (b := .int .i64 V.2.1) (c := .slice A9 n9 c9) k1_h.out
     have hB9 := below_keeps hB8 s2 hB8.size (fun k hk => by omega)
     have hO8 := hO9.keeps s2 (fun k hk e => by have := hf9 k hk; omega)
     have hf8 := hf9.mono hBz
     clear hB8 hO9 hf9; have s1_h := lH s1; have s2_h := lH s2; have hB9_h := lH hB9; have hO8_h := lH hO8; have hf8_h := lH hf8; clear s1 s2 hB9 hO8 hf8
     go_wp2_with (fail)
     refine bodyPost_ret (results_cell_row rfl _ _ (w.heap.size + 1) _ _ (0, 0) _ rfl s1_h.out Tryz.underlying29 rfl (by kernel_rfl)) rfl ?_
     first | exact ⟨_, fp9, rfl, hO8_h.out, hf8_h.out, hB9_h.out⟩ | exact ⟨_, rfl, fp9, hO8_h.out, hf8_h.out, hB9_h.out⟩
   · rw [if_neg h2] at hV
     have hb2 : (k == 2) = false := by rw [beq_eq_false_iff_ne]; exact h2
     have hk := gen_of_leaf hl h1 h2 ok.2.1 ok.2.2.1
     have hv := ok.val (by omega) h1
     have hk : genB k := hk
     have hv : 0 ≤ v ∧ v < p := hv
     by_cases h9 : 9 ≤ k
     · have hb9 : decide (9 ≤ k) = true := decide_eq_true h9
       have hb9' : decide (k ≥ 9) = true := decide_eq_true h9
       have hk5 : k = 9 ∨ k = 10 ∨ k = 11 ∨ k = 12 ∨ k = 13 := by unfold genB at hk; omega
       have hcv := conv_leaf hf hk5 hv
       obtain ⟨a, b, c, d⟩ := kindTy_nn (k - 6)
       have hg6 : genB (k - 6) := by unfold genB; omega
       have hrok := RelOk.mk_red hf a b c (by omega) (leafRows_mat (by omega) hg6 hv)
       have hM := fun (W' : World) => mirror_any k W' (by omega) (by omega)
       have hGW := fun (W' : World) => generatorWires_any (k - 6) W' (by omega) (by omega)
       have hGR := fun (W' : World) => generatorRows_any (k - 6) v W' (by omega)
       have hmt := leafRows_mat (p := p) (v := v) (by omega) hg6 hv
       have hV' : ((kindTy k).1, (kindTy k).2, nullM p (kdN k) (leafEq p k v)) = V := hV.symm
       rw [hV'] at hcv
       obtain ⟨x, hx⟩ : ∃ x, x = (kindTy (k - 6)).1 := ⟨_, rfl⟩
       obtain ⟨y, hy⟩ : ∃ y, y = (kindTy (k - 6)).2 := ⟨_, rfl⟩
       obtain ⟨N, hN⟩ : ∃ y, y = kdN (k - 6) := ⟨_, rfl⟩
       simp only [← hx, ← hy] at hGW
       rw [← hx, ← hy, ← hN] at c
       rw [← hx, ← hy, ← hN] at hrok hcv
       rw [← hN] at hmt d
       clear hV hl hl1 hfit ok hV0 hk hv hk5 a b hg6 hV' h1 h2; have k0_h := lH k0; have k1_h := lH k1; have bW_h := lH bW; have hcv_h := lH hcv; have c_h := lH c; have d_h := lH d; have hrok_h := lH hrok; have hM_h := lH hM; have hGW_h := lH hGW; have hGR_h := lH hGR; have hmt_h := lH hmt; have hx_h := lH hx; have hy_h := lH hy; have hN_h := lH hN; clear k0 k1 bW hcv c d hrok hM hGW hGR hmt hx hy hN
       go_enter Tryz.func95, Tryz.ntmps95
       go_upto_region 1 with (fail)
       rw [← hW]
       clear hW
       obtain ⟨⟨c0, c1, c2⟩, f0, f1, f2⟩ := box3 k0_h.out
       go_wp2_with (fail)
       refine (hM_h.out _).mono ?_
       rintro e w' ⟨rfl, rfl⟩
       go_wp2_with (fail)
       refine (hGW_h.out _).mono ?_
       rintro e w3 ⟨rfl, hb3⟩
       replace k0_h := lH (box_below k0_h.out hb3)
       replace k1_h := lH (box_below k1_h.out hb3)
       obtain ⟨w4, hw4⟩ : ∃ w4, w4 = w3.alloc (.cells #[.int .i64 x, .int .i64 y] 147) := ⟨_, rfl⟩
       have hb4 : Below w3.heap.size w3 w4 := by rw [hw4]; exact below_alloc _ _
       have k5 : w4.heap[w3.heap.size]? = some (.cells #[.int .i64 x, .int .i64 y] 147) := by rw [hw4]; exact heap_alloc_new _ _
       replace k0_h := lH (box_below k0_h.out hb4)
       replace k1_h := lH (box_below k1_h.out hb4)
       have hbW4 := below_trans hb3 hb4 hb3.size
       have hz3 := hb3.size
       clear c0 c1 c2 f0 f1 f2 hb3 hb4; have k5_h := lH k5; have hbW4_h := lH hbW4; clear k5 hbW4
       go_upto_region 7 with (fail)
       rw [← hw4]
       clear hw4
       have hbd : Below w4.heap.size w4 w4.drew := below_drewN (Below.refl _ _) 1
       have hbd_h := lH hbd; clear hbd
       refine beginH (fun w' => w'.heap[w.heap.size]? = some (.cells #[.int .i64 k, .int .i64 v, .string nm] 113) ∧ w'.heap[w3.heap.size]? = some (.cells #[.int .i64 x, .int .i64 y] 147)) (by kernel_rfl) ?_
       replace k0_h := lH (box_below k0_h.out hbd_h.out)
       replace k1_h := lH (box_below k1_h.out hbd_h.out)
       replace k5_h := lH (box_below k5_h.out hbd_h.out)
       refine tkH 0 ?_ rfl ⟨k0_h.out, k5_h.out⟩ (fun W' hW' => ?_) ?_; rotate_left; · (obtain ⟨⟨x0, x1, x2⟩, x3, x4, x5⟩ := box3 hW'.1; obtain ⟨⟨y0, y1⟩, y3, y4⟩ := box2 hW'.2; clear hW'; go_simp; first | done | with_reducible rfl)
       simp only [Act.put, nS]
       refine tkH 1 ?_ rfl ⟨k0_h.out, k5_h.out⟩ (fun W' hW' => ?_) ?_; rotate_left; · (obtain ⟨⟨x0, x1, x2⟩, x3, x4, x5⟩ := box3 hW'.1; obtain ⟨⟨y0, y1⟩, y3, y4⟩ := box2 hW'.2; clear hW'; go_simp; first | done | with_reducible rfl)
       simp only [Act.put, nS]
       refine tkH 2 ?_ rfl ⟨k0_h.out, k5_h.out⟩ (fun W' hW' => ?_) ?_; rotate_left; · (obtain ⟨⟨x0, x1, x2⟩, x3, x4, x5⟩ := box3 hW'.1; obtain ⟨⟨y0, y1⟩, y3, y4⟩ := box2 hW'.2; clear hW'; go_simp; first | done | with_reducible rfl)
       simp only [Act.put, nS]
       refine tkH 3 ?_ rfl ⟨k0_h.out, k5_h.out⟩ (fun W' hW' => ?_) ?_; rotate_left; · (obtain ⟨⟨x0, x1, x2⟩, x3, x4, x5⟩ := box3 hW'.1; obtain ⟨⟨y0, y1⟩, y3, y4⟩ := box2 hW'.2; clear hW'; go_simp; first | done | with_reducible rfl)
       simp only [Act.put, nS]
       refine tkH 4 ?_ rfl ⟨k0_h.out, k5_h.out⟩ (fun W' hW' => ?_) ?_; rotate_left; · (obtain ⟨⟨x0, x1, x2⟩, x3, x4, x5⟩ := box3 hW'.1; obtain ⟨⟨y0, y1⟩, y3, y4⟩ := box2 hW'.2; clear hW'; go_simp; first | done | with_reducible rfl)
       simp only [Act.put, nS]
       refine tkH 5 ?_ rfl ⟨k0_h.out, k5_h.out⟩ (fun W' hW' => ?_) ?_; rotate_left; · (obtain ⟨⟨x0, x1, x2⟩, x3, x4, x5⟩ := box3 hW'.1; obtain ⟨⟨y0, y1⟩, y3, y4⟩ := box2 hW'.2; clear hW'; go_simp; first | done | with_reducible rfl)
       simp only [Act.put, nS]
       refine tkH 6 ?_ rfl ⟨k0_h.out, k5_h.out⟩ (fun W' hW' => ?_) ?_; rotate_left; · (obtain ⟨⟨x0, x1, x2⟩, x3, x4, x5⟩ := box3 hW'.1; obtain ⟨⟨y0, y1⟩, y3, y4⟩ := box2 hW'.2; clear hW'; go_simp; first | done | with_reducible rfl)
       simp only [Act.put, nS]
       refine tkH 7 ?_ rfl ⟨k0_h.out, k5_h.out⟩ (fun W' hW' => ?_) ?_; rotate_left; · (obtain ⟨⟨x0, x1, x2⟩, x3, x4, x5⟩ := box3 hW'.1; obtain ⟨⟨y0, y1⟩, y3, y4⟩ := box2 hW'.2; clear hW'; go_simp; first | done | with_reducible rfl)
       simp only [Act.put, nS]
       refine tkH 9 ?_ rfl ⟨k0_h.out, k5_h.out⟩ (fun W' hW' => ?_) ?_; rotate_left; · (obtain ⟨⟨x0, x1, x2⟩, x3, x4, x5⟩ := box3 hW'.1; obtain ⟨⟨y0, y1⟩, y3, y4⟩ := box2 hW'.2; clear hW'; go_simp; first | done | with_reducible rfl)
       simp only [Act.put, nS]
       refine tkH 10 ?_ rfl ⟨k0_h.out, k5_h.out⟩ (fun W' hW' => ?_) ?_; rotate_left; · (obtain ⟨⟨x0, x1, x2⟩, x3, x4, x5⟩ := box3 hW'.1; obtain ⟨⟨y0, y1⟩, y3, y4⟩ := box2 hW'.2; clear hW'; go_simp; first | done | with_reducible rfl)
       simp only [Act.put, nS]
       refine' callH 8 (f := _) (args := _) rfl (by kernel_rfl) (by rfl) ?_ ?_; rotate_left 2; · (go_simp; first | done | with_reducible rfl | (constructor <;> with_reducible rfl))
       refine (hM_h.out _).mono ?_
       rintro e w' ⟨rfl, hw'⟩
       subst hw'
       refine ⟨_, rfl, ⟨k0_h.out, k5_h.out⟩, ?_⟩
       simp only [Act.put, nS]
       refine' callH 11 (f := _) (args := _) rfl (by kernel_rfl) (by rfl) ?_ ?_; rotate_left 2; · (go_simp; first | done | with_reducible rfl | (constructor <;> with_reducible rfl))
       refine (hGR_h.out _).mono ?_
       rintro e w6 ⟨Ar, cr, hr, nr, rfl, hrn, hrl, hrr, hb6⟩
       replace k0_h := lH (box_below k0_h.out hb6)
       replace k1_h := lH (box_below k1_h.out hb6)
       replace k5_h := lH (box_below k5_h.out hb6)
       have hB6 := below_trans hbW4_h.out (below_trans hbd_h.out hb6 hbd_h.out.size) hbW4_h.out.size
       have hC := relation_any p x y N Ar cr hr w6 hrr hf c_h.out.symm.symm (by rw [hrl]; have := hmt_h.out; rwa [show (leafRows (k - 6) v).length = hr.length by rw [← hrl, List.length_map]] at this) (by have := congrArg List.length hrl; rw [List.length_map] at this; have := leafRows_le (k - 6) v; omega) (by have := d_h.out; omega)
       rw [hrl, hrn] at hC
       refine ⟨_, rfl, ⟨k0_h.out, k5_h.out⟩, ?_⟩
       simp only [Act.put, nS]
       clear hrl hrn hrr; have hb6_h := lH hb6; have hB6_h := lH hB6; have hC_h := lH hC; clear hb6 hB6 hC
       refine' callH 12 (f := _) (args := _) rfl (by kernel_rfl) (by rfl) ?_ ?_; rotate_left 2; · (go_simp; first | done | with_reducible rfl | (constructor <;> with_reducible rfl))
       refine (hC_h.out).mono ?_
       rintro e w7 ⟨v7, fp7, rfl, hO7, hf7, hb7⟩
       obtain ⟨A7, n7, c7, rfl⟩ := id hO7.shape
       replace k0_h := lH (box_below k0_h.out hb7)
       replace k1_h := lH (box_below k1_h.out hb7)
       replace k5_h := lH (box_below k5_h.out hb7)
       have hB7 := below_trans hB6_h.out hb7 hB6_h.out.size
       have hCv := converse_any p w7 hO7 hrok_h.out
       rw [hcv_h.out] at hCv
       refine ⟨_, rfl, ⟨k0_h.out, k5_h.out⟩, ?_⟩
       simp only [Act.put, nS]
       clear hO7 hf7 hb7; have hB7_h := lH hB7; have hCv_h := lH hCv; clear hB7 hCv
       refine' callH 13 (f := _) (args := _) rfl (by kernel_rfl) (by rfl) ?_ ?_; rotate_left 2; · (go_simp; first | done | with_reducible rfl | (constructor <;> with_reducible rfl))
       refine (hCv_h.out).mono ?_
       rintro e w8 ⟨v2, fp9, rfl, hO9, hf9, hb8⟩
       obtain ⟨A9, n9, c9, rfl⟩ := hO9.shape
       replace k0_h := lH (box_below k0_h.out hb8)
       replace k1_h := lH (box_below k1_h.out hb8)
       replace k5_h := lH (box_below k5_h.out hb8)
       have hB8' := below_trans hB7_h.out hb8 hB7_h.out.size
       have hB8 := below_trans bW_h.out hB8' bW_h.out.size
       have hBz := Nat.le_trans bW_h.out.size hB7_h.out.size
       have hz7 := hB7_h.out.size
       refine ⟨_, rfl, ⟨k0_h.out, k5_h.out⟩, ?_⟩
       simp only [Act.put, nS]
       have hw3z := box_lt k5_h.out
       have hw0 := box_lt k1_h.out
       obtain ⟨⟨d0, d1, d2⟩, g0, g1, g2⟩ := box3 k1_h.out
       obtain ⟨s1, s2⟩ := set3 (a := .int .i64 V.1) (b := .int .i64 V.2.1) (c := .slice A9 n9 c9) k1_h.out
       have hB9 := below_keeps hB8 s2 hB8.size (fun k hk => by omega)
       have hO8 := hO9.keeps s2 (fun k hk e => by have := hf9 k hk; omega)
       have hf8 := hf9.mono hBz
       clear hB8 hO9 hf9; have s1_h := lH s1; have s2_h := lH s2; have hB9_h := lH hB9; have hO8_h := lH hO8; have hf8_h := lH hf8; clear s1 s2 hB9 hO8 hf8
       have k0s := box_keeps k0_h.out s2_h.out (by omega)
       have k5s := box_keeps k5_h.out s2_h.out (by omega)
       have k0s_h := lH k0s; have k5s_h := lH k5s; clear k0s k5s
       refine oneH 14 rfl (by kernel_rfl) (by rfl) (fun K hK => ?_)
       go_simp
       refine hK _ _ ⟨k0s_h.out, k5s_h.out⟩ ?_
       clear hK K
       refine doneH (by kernel_rfl) ?_
       go_wp2_with (fail)
       refine bodyPost_ret (results_cell_row rfl _ _ (w.heap.size + 1) _ _ (0, 0) _ rfl s1_h.out Tryz.underlying29 rfl (by kernel_rfl)) rfl ?_
       first | exact ⟨_, fp9, rfl, hO8_h.out, hf8_h.out, hB9_h.out⟩ | exact ⟨_, rfl, fp9, hO8_h.out, hf8_h.out, hB9_h.out⟩
     · have hb9 : decide (9 ≤ k) = false := decide_eq_false h9
       have hk5 : k = 3 ∨ k = 4 ∨ k = 5 ∨ k = 6 ∨ k = 7 := by unfold genB at hk; omega
       obtain ⟨a, b, c, d⟩ := kindTy_nn k
       have hGW := fun (W' : World) => generatorWires_any k W' (by omega) (by omega)
       have hGR := fun (W' : World) => generatorRows_any k v W' hk5
       have hmt := leafRows_mat (p := p) (v := v) (by omega) hk hv
       have hV' : ((kindTy k).1, (kindTy k).2, redM p (kdN k) (leafRows k v)) = V := by rw [leaf_null hf hk hv]; exact hV.symm
       obtain ⟨x, hx⟩ : ∃ x, x = (kindTy k).1 := ⟨_, rfl⟩
       obtain ⟨y, hy⟩ : ∃ y, y = (kindTy k).2 := ⟨_, rfl⟩
       obtain ⟨N, hN⟩ : ∃ y, y = kdN k := ⟨_, rfl⟩
       simp only [← hx, ← hy] at hGW
       rw [← hx, ← hy, ← hN] at c hV'
       rw [← hN] at hmt d
       clear hV hl hl1 hfit ok hV0 hk hv hk5 a b h1 h2; have k0_h := lH k0; have k1_h := lH k1; have bW_h := lH bW; have c_h := lH c; have d_h := lH d; have hGW_h := lH hGW; have hGR_h := lH hGR; have hmt_h := lH hmt; have hx_h := lH hx; have hy_h := lH hy; have hN_h := lH hN; have hV'_h := lH hV'; clear k0 k1 bW c d hGW hGR hmt hx hy hN hV'
       have h9' : ¬ k ≥ 9 := h9
       go_enter Tryz.func95, Tryz.ntmps95
       go_upto_region 1 with (fail)
       rw [← hW]
       clear hW
       obtain ⟨⟨c0, c1, c2⟩, f0, f1, f2⟩ := box3 k0_h.out
       go_wp2_with (fail)
       refine (hGW_h.out _).mono ?_
       rintro e w3 ⟨rfl, hb3⟩
       replace k0_h := lH (box_below k0_h.out hb3)
       replace k1_h := lH (box_below k1_h.out hb3)
       obtain ⟨w4, hw4⟩ : ∃ w4, w4 = w3.alloc (.cells #[.int .i64 x, .int .i64 y] 147) := ⟨_, rfl⟩
       have hb4 : Below w3.heap.size w3 w4 := by rw [hw4]; exact below_alloc _ _
       have k5 : w4.heap[w3.heap.size]? = some (.cells #[.int .i64 x, .int .i64 y] 147) := by rw [hw4]; exact heap_alloc_new _ _
       replace k0_h := lH (box_below k0_h.out hb4)
       replace k1_h := lH (box_below k1_h.out hb4)
       have hbW4 := below_trans hb3 hb4 hb3.size
       have hz3 := hb3.size
       clear c0 c1 c2 f0 f1 f2 hb3 hb4; have k5_h := lH k5; have hbW4_h := lH hbW4; clear k5 hbW4
       go_upto_region 9 with (fail)
       rw [← hw4]
       clear hw4
       have hbd : Below w4.heap.size w4 w4.drew := below_drewN (Below.refl _ _) 1
       have hbd_h := lH hbd; clear hbd
       refine beginH (fun w' => w'.heap[w.heap.size]? = some (.cells #[.int .i64 k, .int .i64 v, .string nm] 113) ∧ w'.heap[w3.heap.size]? = some (.cells #[.int .i64 x, .int .i64 y] 147)) (by kernel_rfl) ?_
       replace k0_h := lH (box_below k0_h.out hbd_h.out)
       replace k1_h := lH (box_below k1_h.out hbd_h.out)
       replace k5_h := lH (box_below k5_h.out hbd_h.out)
       refine tkH 0 ?_ rfl ⟨k0_h.out, k5_h.out⟩ (fun W' hW' => ?_) ?_; rotate_left; · (obtain ⟨⟨x0, x1, x2⟩, x3, x4, x5⟩ := box3 hW'.1; obtain ⟨⟨y0, y1⟩, y3, y4⟩ := box2 hW'.2; clear hW'; go_simp; first | done | with_reducible rfl)
       simp only [Act.put, nS]
       refine tkH 1 ?_ rfl ⟨k0_h.out, k5_h.out⟩ (fun W' hW' => ?_) ?_; rotate_left; · (obtain ⟨⟨x0, x1, x2⟩, x3, x4, x5⟩ := box3 hW'.1; obtain ⟨⟨y0, y1⟩, y3, y4⟩ := box2 hW'.2; clear hW'; go_simp; first | done | with_reducible rfl)
       simp only [Act.put, nS]
       refine tkH 2 ?_ rfl ⟨k0_h.out, k5_h.out⟩ (fun W' hW' => ?_) ?_; rotate_left; · (obtain ⟨⟨x0, x1, x2⟩, x3, x4, x5⟩ := box3 hW'.1; obtain ⟨⟨y0, y1⟩, y3, y4⟩ := box2 hW'.2; clear hW'; go_simp; first | done | with_reducible rfl)
       simp only [Act.put, nS]
       refine tkH 3 ?_ rfl ⟨k0_h.out, k5_h.out⟩ (fun W' hW' => ?_) ?_; rotate_left; · (obtain ⟨⟨x0, x1, x2⟩, x3, x4, x5⟩ := box3 hW'.1; obtain ⟨⟨y0, y1⟩, y3, y4⟩ := box2 hW'.2; clear hW'; go_simp; first | done | with_reducible rfl)
       simp only [Act.put, nS]
       refine tkH 4 ?_ rfl ⟨k0_h.out, k5_h.out⟩ (fun W' hW' => ?_) ?_; rotate_left; · (obtain ⟨⟨x0, x1, x2⟩, x3, x4, x5⟩ := box3 hW'.1; obtain ⟨⟨y0, y1⟩, y3, y4⟩ := box2 hW'.2; clear hW'; go_simp; first | done | with_reducible rfl)
       simp only [Act.put, nS]
       refine tkH 5 ?_ rfl ⟨k0_h.out, k5_h.out⟩ (fun W' hW' => ?_) ?_; rotate_left; · (obtain ⟨⟨x0, x1, x2⟩, x3, x4, x5⟩ := box3 hW'.1; obtain ⟨⟨y0, y1⟩, y3, y4⟩ := box2 hW'.2; clear hW'; go_simp; first | done | with_reducible rfl)
       simp only [Act.put, nS]
       refine tkH 6 ?_ rfl ⟨k0_h.out, k5_h.out⟩ (fun W' hW' => ?_) ?_; rotate_left; · (obtain ⟨⟨x0, x1, x2⟩, x3, x4, x5⟩ := box3 hW'.1; obtain ⟨⟨y0, y1⟩, y3, y4⟩ := box2 hW'.2; clear hW'; go_simp; first | done | with_reducible rfl)
       simp only [Act.put, nS]
       refine tkH 7 ?_ rfl ⟨k0_h.out, k5_h.out⟩ (fun W' hW' => ?_) ?_; rotate_left; · (obtain ⟨⟨x0, x1, x2⟩, x3, x4, x5⟩ := box3 hW'.1; obtain ⟨⟨y0, y1⟩, y3, y4⟩ := box2 hW'.2; clear hW'; go_simp; first | done | with_reducible rfl)
       simp only [Act.put, nS]
       refine tkH 8 ?_ rfl ⟨k0_h.out, k5_h.out⟩ (fun W' hW' => ?_) ?_; rotate_left; · (obtain ⟨⟨x0, x1, x2⟩, x3, x4, x5⟩ := box3 hW'.1; obtain ⟨⟨y0, y1⟩, y3, y4⟩ := box2 hW'.2; clear hW'; go_simp; first | done | with_reducible rfl)
       simp only [Act.put, nS]
       refine' callH 9 (f := _) (args := _) rfl (by kernel_rfl) (by rfl) ?_ ?_; rotate_left 2; · (go_simp; first | done | with_reducible rfl | (constructor <;> with_reducible rfl))
       refine (hGR_h.out _).mono ?_
       rintro e w6 ⟨Ar, cr, hr, nr, rfl, hrn, hrl, hrr, hb6⟩
       replace k0_h := lH (box_below k0_h.out hb6)
       replace k1_h := lH (box_below k1_h.out hb6)
       replace k5_h := lH (box_below k5_h.out hb6)
       have hB6 := below_trans hbW4_h.out (below_trans hbd_h.out hb6 hbd_h.out.size) hbW4_h.out.size
       have hC := relation_any p x y N Ar cr hr w6 hrr hf c_h.out (by rw [hrl]; have := hmt_h.out; rwa [show (leafRows k v).length = hr.length by rw [← hrl, List.length_map]] at this) (by have := congrArg List.length hrl; rw [List.length_map] at this; have := leafRows_le k v; omega) (by have := d_h.out; omega)
       rw [hrl, hrn, hV'_h.out] at hC
       refine ⟨_, rfl, ⟨k0_h.out, k5_h.out⟩, ?_⟩
       simp only [Act.put, nS]
       clear hrl hrn hrr; have hb6_h := lH hb6; have hB6_h := lH hB6; have hC_h := lH hC; clear hb6 hB6 hC
       refine' callH 10 (f := _) (args := _) rfl (by kernel_rfl) (by rfl) ?_ ?_; rotate_left 2; · (go_simp; first | done | with_reducible rfl | (constructor <;> with_reducible rfl))
       refine (hC_h.out).mono ?_
       rintro e w8 ⟨v2, fp9, rfl, hO9, hf9, hb8⟩
       obtain ⟨A9, n9, c9, rfl⟩ := hO9.shape
       replace k0_h := lH (box_below k0_h.out hb8)
       replace k1_h := lH (box_below k1_h.out hb8)
       replace k5_h := lH (box_below k5_h.out hb8)
       have hB8' := below_trans hB6_h.out hb8 hB6_h.out.size
       have hB8 := below_trans bW_h.out hB8' bW_h.out.size
       have hBz := Nat.le_trans bW_h.out.size hB6_h.out.size
       have hz7 := hB6_h.out.size
       refine ⟨_, rfl, ⟨k0_h.out, k5_h.out⟩, ?_⟩
       simp only [Act.put, nS]
       have hw3z := box_lt k5_h.out
       have hw0 := box_lt k1_h.out
       obtain ⟨⟨d0, d1, d2⟩, g0, g1, g2⟩ := box3 k1_h.out
       obtain ⟨s1, s2⟩ := set3 (a := .int .i64 V.1) (b := .int .i64 V.2.1) (c := .slice A9 n9 c9) k1_h.out
       have hB9 := below_keeps hB8 s2 hB8.size (fun k hk => by omega)
       have hO8 := hO9.keeps s2 (fun k hk e => by have := hf9 k hk; omega)
       have hf8 := hf9.mono hBz
       clear hB8 hO9 hf9; have s1_h := lH s1; have s2_h := lH s2; have hB9_h := lH hB9; have hO8_h := lH hO8; have hf8_h := lH hf8; clear s1 s2 hB9 hO8 hf8
       have k0s := box_keeps k0_h.out s2_h.out (by omega)
       have k5s := box_keeps k5_h.out s2_h.out (by omega)
       have k0s_h := lH k0s; have k5s_h := lH k5s; clear k0s k5s
       refine oneH 11 rfl (by kernel_rfl) (by rfl) (fun K hK => ?_)
       go_simp
       refine hK _ _ ⟨k0s_h.out, k5s_h.out⟩ ?_
       clear hK K
       refine doneH (by kernel_rfl) ?_
       go_wp2_with (fail)
       refine bodyPost_ret (results_cell_row rfl _ _ (w.heap.size + 1) _ _ (0, 0) _ rfl s1_h.out Tryz.underlying29 rfl (by kernel_rfl)) rfl ?_
       first | exact ⟨_, fp9, rfl, hO8_h.out, hf8_h.out, hB9_h.out⟩ | exact ⟨_, rfl, fp9, hO8_h.out, hf8_h.out, hB9_h.out⟩
theorem IS.ne_outer {w : World} {A B : Option Addr} {c n cap : Nat} {l : List Int} {xs : List Value} (h : IS w A c l) (h' : Sl w 23 1 B n cap xs) : ∀ x, x ∈ fpA A → x ∉ fpA B := by
 intro x hx hx'
 rcases h.2.2.2 with ⟨rfl, _⟩ | ⟨g, off, cur, rfl, hg, _⟩
 · simp at hx
 rcases h'.2.2.2 with ⟨rfl, _⟩ | ⟨g', off', cur', rfl, hg', _⟩
 · simp at hx'
 simp at hx hx'
 subst hx
 subst hx'
 rw [hg] at hg'
 injection hg' with hg'
 injection hg' with _ h2 _
 exact absurd h2 (by decide)
theorem Keeps.after {S T : Nat → Prop} {a w w' : World} (h : Keeps T a w) (hk : Keeps S w w') (hS : ∀ k, k < a.heap.size → S k → T k) : Keeps T a w' :=
 ⟨hk.os.trans h.os, hk.tape.trans h.tape, hk.output.trans h.output, Nat.le_trans h.size hk.size, fun i hi ht => (hk.block i (Nat.lt_of_lt_of_le hi h.size) (fun hs => ht (hS i hi hs))).trans (h.block i hi ht)⟩
structure Aside (w : World) (A : Option Addr) (cap : Nat) (hs : List Hd) (B : Option Addr) : Prop where
 sl : Sl w 23 1 A hs.length cap (hs.map Hd.val)
 rows : ∀ x, x ∈ hs → IS w x.1 x.2.1 x.2.2
 off : ∀ b, b ∈ fpA A → ¬ b ∈ fpA B
theorem Aside.rdr {w : World} {A B : Option Addr} {cap : Nat} {hs : List Hd} (h : Aside w A cap hs B) : RdR w A hs :=
 ⟨fun i x hi => by obtain ⟨ad, hA, _, hc, _⟩ := h.sl.cell (j := i) (u := x.val) (by simp [hi]); exact ⟨ad, hA, by simpa using hc⟩, fun x hx => (h.rows x hx).rd⟩
theorem Aside.step {w w1 w2 : World} {A B B' : Option Addr} {cap n c : Nat} {hs : List Hd} {xs : List Value} (h : Aside w A cap hs B) (hB : Sl w 23 1 B n c xs) (hb : Below w.heap.size w w1) (hk : Keeps (· ∈ fpA B) w1 w2) (hB' : ∀ b, b ∈ fpA B' → b ∈ fpA B ∨ w1.heap.size ≤ b) : Aside w2 A cap hs B' :=
 ⟨(h.sl.below hb).keeps hk fun b hb1 hb2 => h.off b hb1 hb2, fun x hx => ((h.rows x hx).below hb).keeps hk fun b hb1 hb2 => IS.ne_outer (h.rows x hx) hB b hb1 hb2, fun b hb1 hb2 => by
   rcases hB' b hb2 with h1 | h1
   · exact h.off b hb1 h1
   · have := h.sl.lt b hb1; have := hb.size; omega⟩
set_option maxRecDepth 100000 in
set_option maxHeartbeats 2500000 in
theorem composed_any (p : Int) {v v' : Value} {s t : Sys} {fp fp' : List Nat} (w : World) (ha : OwSys w v s fp) (hb : OwSys w v' t fp') (hs : RelOk p s) (ht : RelOk p t) (hm : s.2.1 = t.1) (hsum : s.1 + t.2.1 ≤ 24) :
  Calls Tryz.prog 93 #[.int .i64 p, v, v'] w fun e w' => ∃ v' fp', e = .returned v' ∧ OwSys w' v' (cmpV p s t) fp' ∧ FreshL w.heap.size fp' ∧ Below w.heap.size w w' := by
 have hmat0 := pairs_mat hs ht
 have hmid0 := mid_mat hs ht hm
 have hnull0 := mid_null hs ht hm
 have htr0 := mid_trans (s := s) ht hm
 have hpr0 := pair_ref hs ht hm
 have hEa1 := fun (W' : World) (hbb : Below w.heap.size w W') => eachFirst_any p W' (ha.below hbb) hs
 have hEa2 := fun (W' : World) (hbb : Below w.heap.size w W') => eachSecond_any p W' (ha.below hbb) hs
 have hEb1 := fun (W' : World) (hbb : Below w.heap.size w W') => eachFirst_any p W' (hb.below hbb) ht
 have hEb2 := fun (W' : World) (hbb : Below w.heap.size w W') => eachSecond_any p W' (hb.below hbb) ht
 have hma0 := firstM_mat hs
 have hma2 := secondM_mat hs
 have hmb0 := firstM_mat ht
 have hmb2 := secondM_mat ht
 obtain ⟨Aa, ca, ga, rfl, hLa0, hOa, rfl⟩ := ha
 obtain ⟨ia, ja, La⟩ := s
 have ha0 : 0 ≤ ia := hs.lo
 have ha1 : 0 ≤ ja := hs.hi
 have ha2 : ia + ja ≤ 24 := hs.sum
 have hfld : fieldB p = true := hs.fld
 have hrowa : ∀ u, u ∈ La → (u.length : Int) = ia + ja ∧ Res p u := fun u hu => hs.row hu
 have hlena : (La.length : Int) ≤ ia + ja := hs.len
 clear hs
 obtain ⟨a1, rfl⟩ : ∃ n : Nat, ia = (n : Int) := ⟨ia.toNat, by omega⟩
 obtain ⟨a2, rfl⟩ : ∃ n : Nat, ja = (n : Int) := ⟨ja.toNat, by omega⟩
 have hLa : La = ga.map (fun h : Hd => h.2.2) := hLa0
 clear hLa0
 obtain ⟨ma, hma⟩ : ∃ m, m = ga.length := ⟨_, rfl⟩
 have hLma : La.length = ma := by rw [hLa, List.length_map, hma]
 have hma24 : (ma : Int) ≤ 24 := by have := hlena; rw [hLma] at this; omega
 obtain ⟨Ab, cb, gb, rfl, hLb0, hOb, rfl⟩ := hb
 obtain ⟨ib, jb, Lb⟩ := t
 have hb0 : 0 ≤ ib := ht.lo
 have hb1 : 0 ≤ jb := ht.hi
 have hb2 : ib + jb ≤ 24 := ht.sum
 have hrowb : ∀ u, u ∈ Lb → (u.length : Int) = ib + jb ∧ Res p u := fun u hu => ht.row hu
 have hlenb : (Lb.length : Int) ≤ ib + jb := ht.len
 clear ht
 obtain rfl : ib = (a2 : Int) := hm.symm
 obtain ⟨b2, rfl⟩ : ∃ n : Nat, jb = (n : Int) := ⟨jb.toNat, by omega⟩
 have hLb : Lb = gb.map (fun h : Hd => h.2.2) := hLb0
 clear hLb0
 obtain ⟨mb, hmb⟩ : ∃ m, m = gb.length := ⟨_, rfl⟩
 have hLmb : Lb.length = mb := by rw [hLb, List.length_map, hmb]
 have hmb24 : (mb : Int) ≤ 24 := by have := hlenb; rw [hLmb] at this; omega
 obtain ⟨N, hN⟩ : ∃ N, N = a1 + b2 := ⟨_, rfl⟩
 obtain ⟨M, hM⟩ : ∃ M, M = ma + mb := ⟨_, rfl⟩
 have hNI : (a1 : Int) + (b2 : Int) = (N : Int) := by omega
 have hMI : (ma : Int) + (mb : Int) = (M : Int) := by omega
 obtain ⟨K, hK⟩ : ∃ K, K = kerM p a2 (midR p ((a1 : Int), (a2 : Int), La) ((a2 : Int), (b2 : Int), Lb)) := ⟨_, rfl⟩
 obtain ⟨g, hg⟩ : ∃ g, g = pairV p ((a1 : Int), (a2 : Int), La) ((a2 : Int), (b2 : Int), Lb) := ⟨_, rfl⟩
 have hmat : Mat p (K.map g).length N (K.map g) := by
  have e : (((a1 : Int), (a2 : Int), La) : Sys).1 + (((a2 : Int), (b2 : Int), Lb) : Sys).2.1 = ((N : Nat) : Int) := by show (a1 : Int) + (b2 : Int) = _; omega
  rw [e] at hmat0
  rw [hK, hg]; exact hmat0
 obtain ⟨R, hR⟩ : ∃ R, R = redM p N (K.map g) := ⟨_, rfl⟩
 have hgoal : cmpV p ((a1 : Int), (a2 : Int), La) ((a2 : Int), (b2 : Int), Lb) = ((a1 : Int), (b2 : Int), R) := by
  rw [hR, hK, hg]
  show ((a1 : Int), (b2 : Int), redM p ((a1 : Int) + (b2 : Int)).toNat _) = _
  rw [show ((a1 : Int) + (b2 : Int)).toNat = N by omega]; rfl
 rw [hgoal]
 have hMM : La.length + Lb.length = M := by rw [hLma, hLmb, hM]
 have hmid : Mat p M a2 (midR p ((a1 : Int), (a2 : Int), La) ((a2 : Int), (b2 : Int), Lb)) := by rw [← hMM]; exact hmid0
 have hpbb := fieldB_bounds hfld
 have hKm := kerM_len (L := midR p ((a1 : Int), (a2 : Int), La) ((a2 : Int), (b2 : Int), Lb)) (n := a2) hfld (by rw [hmid.len]; exact hmid)
 rw [← hK, hmid.len] at hKm
 obtain ⟨X, hX⟩ : ∃ X, X = (List.range a2).map (midC p ((a1 : Int), (a2 : Int), La) ((a2 : Int), (b2 : Int), Lb)) := ⟨_, rfl⟩
 have hXl : X.length = a2 := by rw [hX]; simp
 have htr : transM (midR p ((a1 : Int), (a2 : Int), La) ((a2 : Int), (b2 : Int), Lb)) a2 = X := by rw [hX]; exact htr0
 have hXm : Mat p a2 M X := by rw [← htr]; exact transM_mat (by omega) hmid
 have hXat : ∀ j, j < a2 → X[j]? = some (La.map (fun r => r.getD (a1 + j) 0) ++ Lb.map fun r => (-(r.getD j 0)) % p) := fun j hj => by rw [hX]; simp [hj, midC]
 have hnull : nullM p M X = K := by rw [← htr, hK, ← hMM]; exact hnull0
 have hpr : ∀ k, (cmbTo p (a1 + a2) (k.take ma) La ma).take a1 ++ (cmbTo p (a2 + b2) (k.drop ma) Lb mb).drop a2 = g k := fun k => by
  have := hpr0 k
  simp only [Int.toNat_natCast, hLma, hLmb] at this
  rw [hg]; exact this
 have hma48 : ma ≤ 24 := by omega
 have hmb48 : mb ≤ 24 := by omega
 have ha24 : a1 ≤ 24 := by omega
 have ha24' : a2 ≤ 24 := by omega
 have hb24 : b2 ≤ 24 := by omega
 have hM48 : M ≤ 48 := by omega
 obtain ⟨n1, hn1⟩ : ∃ n1, n1 = a1 + a2 := ⟨_, rfl⟩
 obtain ⟨n2, hn2⟩ : ∃ n2, n2 = a2 + b2 := ⟨_, rfl⟩
 have hn1I : (a1 : Int) + (a2 : Int) = (n1 : Int) := by omega
 have hn2I : (a2 : Int) + (b2 : Int) = (n2 : Int) := by omega
 rw [← hn1, ← hn2] at hpr
 have hmata : Mat p La.length n1 La := ⟨rfl, fun u hu => ⟨by have := (hrowa u hu).1; omega, (hrowa u hu).2⟩⟩
 have hmatb : Mat p Lb.length n2 Lb := ⟨rfl, fun u hu => ⟨by have := (hrowb u hu).1; omega, (hrowb u hu).2⟩⟩
 show Calls Tryz.prog _ #[.int .i64 p, .agg #[.int .i64 (a1 : Int), .int .i64 (a2 : Int), .slice Aa ga.length ca], .agg #[.int .i64 (a2 : Int), .int .i64 (b2 : Int), .slice Ab gb.length cb]] w _
 rw [← hma, ← hmb]
 obtain ⟨W, hW, bW, k0, k1, k2⟩ := alloc3 w (.cells #[.int .i64 (a1 : Int), .int .i64 (a2 : Int), .slice Aa ma ca] tRel) (.cells #[.int .i64 (a2 : Int), .int .i64 (b2 : Int), .slice Ab mb cb] tRel) (.cells #[.int .i64 0, .int .i64 0, .slice none 0 0] tRel)
 have hOa := hOa.below bW
 have hOb := hOb.below bW
 simp only [← hma] at hEa1 hEa2
 simp only [← hmb] at hEb1 hEb2
 obtain ⟨F1, hF1⟩ : ∃ F, F = firstM ((a1 : Int), (a2 : Int), La) := ⟨_, rfl⟩
 obtain ⟨S1, hS1⟩ : ∃ F, F = secondM ((a1 : Int), (a2 : Int), La) := ⟨_, rfl⟩
 obtain ⟨F2, hF2⟩ : ∃ F, F = firstM ((a2 : Int), (b2 : Int), Lb) := ⟨_, rfl⟩
 obtain ⟨S2, hS2⟩ : ∃ F, F = secondM ((a2 : Int), (b2 : Int), Lb) := ⟨_, rfl⟩
 simp only [← hF1, ← hS1, ← hF2, ← hS2] at hEa1 hEa2 hEb1 hEb2
 rw [← hF1] at hma0
 rw [← hS1] at hma2
 rw [← hF2] at hmb0
 rw [← hS2] at hmb2
 have hF1l : F1.length = ma := by rw [hma0.len]; exact hLma
 have hS1l : S1.length = ma := by rw [hma2.len]; exact hLma
 have hF2l : F2.length = mb := by rw [hmb0.len]; exact hLmb
 have hS2l : S2.length = mb := by rw [hmb2.len]; exact hLmb
 have hF1m : Mat p F1.length a1 F1 := by rw [hma0.len]; exact hma0
 have hF2m : Mat p F2.length a2 F2 := by rw [hmb0.len]; exact hmb0
 have hS2m : Mat p S2.length b2 S2 := by rw [hmb2.len]; exact hmb2
 have hmidE : midR p ((a1 : Int), (a2 : Int), La) ((a2 : Int), (b2 : Int), Lb) = S1 ++ F2.map (ngV p) := by rw [hS1, hF2]; rfl
 have hgE : ∀ k, g k = cmbTo p a1 (k.take ma) F1 ma ++ cmbTo p b2 (k.drop ma) S2 mb := fun k => by
  rw [hg, hF1, hS2]
  unfold pairV
  show cmbTo p a1 (k.take La.length) _ La.length ++ cmbTo p b2 (k.drop La.length) _ Lb.length = _
  rw [hLma, hLmb]
 clear hma0 hma2 hmb0 hmb2 hF1 hS1 hF2 hS2; have hEa1_h := lH hEa1; have hEa2_h := lH hEa2; have hEb1_h := lH hEb1; have hEb2_h := lH hEb2; have hF1l_h := lH hF1l; have hS1l_h := lH hS1l; have hF2l_h := lH hF2l; have hS2l_h := lH hS2l; have hF1m_h := lH hF1m; have hF2m_h := lH hF2m; have hS2m_h := lH hS2m; have hmidE_h := lH hmidE; have hgE_h := lH hgE; clear hEa1 hEa2 hEb1 hEb2 hF1l hS1l hF2l hS2l hF1m hF2m hS2m hmidE hgE; clear hmat0 hmid0 hnull0 htr0 hpr0 hgoal hsum hX htr hm hrowa hrowb hlena hlenb hg hMM ha0 ha1 ha2 hb0 hb1 hb2
 have hwz := bW.size
 have hLa_h := lH hLa; have hLb_h := lH hLb; have hma_h := lH hma; have hmb_h := lH hmb; have hLma_h := lH hLma; have hLmb_h := lH hLmb; have bW_h := lH bW; have k0_h := lH k0; have k1_h := lH k1; have k2_h := lH k2; have hOa_h := lH hOa; have hOb_h := lH hOb; have hmata_h := lH hmata; have hmatb_h := lH hmatb; have hfld_h := lH hfld; have hmat_h := lH hmat; have hR_h := lH hR; have hN_h := lH hN; have hM_h := lH hM; have hK_h := lH hK; have hKm_h := lH hKm; have hnull_h := lH hnull; have hpr_h := lH hpr; have hXl_h := lH hXl; have hXm_h := lH hXm; have hXat_h := lH hXat; have hmid_h := lH hmid; have hn1_h := lH hn1; have hn2_h := lH hn2; have hpbb_h := lH hpbb; have hwz_h := lH hwz; clear hLa hLb hma hmb hLma hLmb bW k0 k1 k2 hOa hOb hmata hmatb hfld hmat hR hN hM hK hKm hnull hpr hXl hXm hXat hmid hn1 hn2 hpbb hwz
 obtain ⟨⟨c0, c1, c2⟩, f0, f1, f2⟩ := box3 k0_h.out
 have hmf : ∀ (fn : Fn) (first cap : Array Value) (w : World), (Instr.makeFunc fn first cap).run Tryz.prog w = .ok (.func fn first cap) w := fun _ _ _ _ => rfl
 have hNI_h := lH hNI; have hMI_h := lH hMI; have hn1I_h := lH hn1I; have hn2I_h := lH hn2I; clear hNI hMI hn1I hn2I
 go_enter Tryz.func93, Tryz.ntmps93
 go_upto_region 1 with (fail)
 rw [← hW]
 clear hW
 have k00 := k0_h.out
 have k10 := k1_h.out
 have k20 := k2_h.out
 have k00_h := lH k00; have k10_h := lH k10; have k20_h := lH k20; clear k00 k10 k20
 go_wp2_with (fail)
 refine (hEa2_h.out W bW_h.out).mono ?_
 rintro e w1 ⟨A1, e1, g1, m1, rfl, hgl1, hm1, hgm1, hO1⟩
 obtain rfl : ma = m1 := by rw [← hgl1, ← hS1l_h.out, ← hgm1, List.length_map]
 clear c0 c1 c2 f0 f1 f2
 have hb1 := hO1.below_
 replace k0_h := lH (box_below k0_h.out hb1)
 replace k1_h := lH (box_below k1_h.out hb1)
 obtain ⟨⟨d0, d1, d2⟩, g0', g1', g2'⟩ := box3 k1_h.out
 have hO1_h := lH hO1; have hgl1_h := lH hgl1; have hgm1_h := lH hgm1; have hb1_h := lH hb1; clear hO1 hgl1 hgm1 hb1
 go_wp2_with (fail)
 refine (hEb1_h.out w1 (below_trans bW_h.out hb1_h.out bW_h.out.size)).mono ?_
 rintro e w2 ⟨A2, e2, g2, m2, rfl, hgl2, hm2, hgm2, hO2⟩
 obtain rfl : mb = m2 := by rw [← hgl2, ← hF2l_h.out, ← hgm2, List.length_map]
 clear d0 d1 d2 g0' g1' g2'
 have hb2 := hO2.below_
 have hO12 := hO1_h.out.below hb2
 have hbW2 := hO12.below_
 replace k0_h := lH (box_below k0_h.out hb2)
 replace k1_h := lH (box_below k1_h.out hb2)
 have hg2l : g2.length = mb := hgl2
 have hAs : Aside w2 A2 e2 g2 A1 := ⟨hO2.sl, hO2.rows, fun b h1 h2 => by have := hO2.new b h1; have := hO1_h.out.sl.lt b h2; omega⟩
 have hO2_h := lH hO2; have hO12_h := lH hO12; have hgl2_h := lH hgl2; have hgm2_h := lH hgm2; have hb2_h := lH hb2; have hbW2_h := lH hbW2; have hg2l_h := lH hg2l; have hAs_h := lH hAs; clear hO2 hO12 hgl2 hgm2 hb2 hbW2 hg2l hAs
 go_wp2_with (fail)
 go_loopw [27, 7] (fun i v wr => ∃ (k : Nat) (A' : Option Addr) (c' : Nat) (ys : List Hd) (q : Nat), k ≤ mb ∧ i = .int .i64 k ∧ q = ma + k ∧ v = .slice A' q c' ∧ ys.length = q ∧ ys.map (fun h : Hd => h.2.2) = S1 ++ (F2.take k).map (ngV p) ∧ RdO W wr A' c' ys ∧ Aside wr A2 e2 g2 A') (fun i _ _ => mb - (intOf i).toNat)
 case atStart => exact ⟨0, A1, e1, g1, ma, Nat.zero_le _, rfl, rfl, rfl, hgl1_h.out, by simpa using hgm1_h.out, hO12_h.out, hAs_h.out⟩
 case round =>
  clear hO12_h hAs_h
  obtain ⟨k, A', c', ys, q0, hk, rfl, hq0, rfl, hyl, hym, hO, hAd⟩ := hrel
  obtain ⟨wo, rfl⟩ : ∃ x, x = wr := ⟨_, rfl⟩
  by_cases hlt : k < mb
  · have hkI : (k : Int) < (mb : Int) := by omega
    have hq48 : q0 ≤ 48 := by omega
    obtain ⟨ad, C, d, u, rfl, hx, hcu, hrd⟩ := hAd.rdr.at_ (k := k) (by rw [hg2l_h.out]; exact hlt)
    have hLu : F2[k]? = some u := by rw [← hgm2_h.out, List.getElem?_map, hx]; rfl
    have hur := hF2m_h.out.row u (List.mem_of_getElem? hLu)
    have hul := hur.1
    have hrd2 : ∀ b, 0 < u.length → b ∈ fpA C → b < wo.heap.size := fun b h0 hb => hrd.lt0 h0 b hb
    rw [hul] at hcu
    have hyt : (F2.take (k + 1)).map (ngV p) = (F2.take k).map (ngV p) ++ [ngV p u] := by rw [List.take_add_one, hLu, List.map_append]; rfl
    clear hx hLu; have hyl_h := lH hyl; have hym_h := lH hym; have hO_h := lH hO; have hAd_h := lH hAd; have hrd_h := lH hrd; have hur_h := lH hur; have hul_h := lH hul; have hrd2_h := lH hrd2; have hyt_h := lH hyt; have hq0_h := lH hq0; clear hyl hym hO hAd hrd hur hul hrd2 hyt hq0
    have hZ := zeros_any a2 wo (by omega)
    have hZ_h := lH hZ; clear hZ
    go_wp2_with (fail)
    refine (hZ_h.out).mono ?_
    rintro e w3 ⟨Z, cz, rfl, hiz, hfz, hbz⟩
    rw [List.length_replicate]
    have hAT := addTimes_any p (-1) Z C cz d (List.replicate a2 0) u w3 hiz (hrd_h.out.below hbz) (fun h0 b hb hb' => by
     have h1 := hfz b hb'
     have h2 := hrd2_h.out b h0 hb
     omega) (by rw [List.length_replicate, hul_h.out]; exact Nat.le_refl _) (by rw [List.length_replicate]; omega) (by have := hpbb_h.out; omega) hpbb_h.out.2 (fun x hx => by
      obtain rfl := (List.mem_replicate.1 hx).2
      have := hpbb_h.out; omega) hur_h.out.2 (by omega) (by omega)
    have hng : addT p (List.replicate a2 0) (-1) u = ngV p u := by have := ngV_add (p := p) u; rw [hul_h.out] at this; exact this
    rw [hng, List.length_replicate, hul_h.out] at hAT
    have hnl : (ngV p u).length = a2 := by rw [ngV_length, hul_h.out]
    have hnext : ∀ w', Wr w3 w' Z (ints (ngV p u)) → IS w' Z cz (ngV p u) ∧ Below wo.heap.size wo w' := fun w' hw => by
     refine ⟨?_, below_keeps hbz hw.1 hbz.size fun b hb => hfz b hb⟩
     have := hw.sl hiz (by rw [ints_length, hnl, List.length_replicate, Nat.mul_one])
     unfold IS
     rw [hnl]
     rwa [List.length_replicate] at this
    clear hiz hbz hng; have hAT_h := lH hAT; have hnext_h := lH hnext; have hnl_h := lH hnl; have hfz_h := lH hfz; clear hAT hnext hnl hfz
    go_wp2_with (fail)
    refine (hAT_h.out).mono ?_
    rintro e w4 ⟨rfl, hw4⟩
    obtain ⟨hi4, hb4⟩ := hnext_h.out w4 hw4
    have hsl : Sl (w4.alloc (.cells #[.slice Z a2 cz] 23)) 23 1 A' q0 c' (ys.map Hd.val) := by
     have := (hO_h.out.sl.below hb4).alloc (.cells #[.slice Z a2 cz] 23)
     rwa [hyl_h.out] at this
    clear hw4 hcu; have hi4_h := lH hi4; have hb4_h := lH hb4; have hsl_h := lH hsl; clear hi4 hb4 hsl
    go_wp2_with (at_builtin; refine wpList_append_Sl _ rfl _ _ _ rfl 23 Tryz.underlying27 info_ints rfl (by omega) rfl (hsl_h.out) rfl (news := [.slice Z a2 cz]) rfl (Sl.rdc (Sl.laid w4 23 1 1 #[.slice Z a2 cz] (by unfold maxLen; omega) rfl)) (by intro u hu; simp at hu; subst hu; rfl) (by unfold maxLen; omega) (by omega) ?_; intro A3 c3 w5 hsA3 hA3 hkA3)
    have hal : Below w4.heap.size w4 (w4.alloc (.cells #[.slice Z a2 cz] 23)) := below_alloc _ _
    have hba := below_trans hb4_h.out hal hb4_h.out.size
    have hO2' := hO_h.out.snoc (w1 := w4.alloc (.cells #[.slice Z a2 cz] 23)) hba (x := (Z, cz, ngV p u)) (hi4_h.out.below hal) (fun b hb hb' => by
     have h1 := hO_h.out.sl.lt b hb'
     have h2 := hfz_h.out b hb
     omega) (by rw [hyl_h.out]) (by show Sl w5 _ 1 A3 (q0 + 1) c3 (ys.map Hd.val ++ [.slice Z (ngV p u).length cz]); rw [hnl_h.out]; exact hsA3) hA3 hkA3
    have hAd2 := hAd_h.out.step hO_h.out.sl hba hkA3 hA3
    clear hsA3 hA3 hkA3; have hO2'_h := lH hO2'; have hAd2_h := lH hAd2; clear hO2' hAd2
    go_roundw
    case rel => exact ⟨k + 1, A3, c3, ys ++ [(Z, cz, ngV p u)], q0 + 1, by omega, by go_num, by have := hq0_h.out; omega, rfl, by rw [List.length_append, hyl_h.out]; rfl, by rw [List.map_append, hym_h.out, hyt_h.out, List.append_assoc]; rfl, hO2'_h.out, hAd2_h.out⟩
    case measure => simp [intOf]; omega
  · obtain rfl : mb = k := by omega
    have hym2 : ys.map (fun h : Hd => h.2.2) = S1 ++ F2.map (ngV p) := by rw [hym, List.take_of_length_le (by rw [hF2l_h.out]; exact Nat.le_refl _)]
    rw [← hmidE_h.out] at hym2
    have hbW := below_trans bW_h.out hO.below_ bW_h.out.size
    have hbWo := hO.below_
    have k0 := box_below k00_h.out hO.below_
    have k1 := box_below k10_h.out hO.below_
    have k2 := box_below k2_h.out hO.below_
    have hbS : Below wo.heap.size wo wo.drew := below_drewN (Below.refl _ _) 1
    clear hym hAd k0_h k1_h
    have hylen : ys.length = M := by rw [hyl, hq0, hM_h.out]
    have hqM : q0 = M := by rw [← hylen, hyl]
    subst hqM
    have hym2_h := lH hym2; have hyl_h := lH hyl; have hO_h := lH hO; have hbW_h := lH hbW; have hbWo_h := lH hbWo; have k0_h := lH k0; have k1_h := lH k1; have k2_h := lH k2; have hbS_h := lH hbS; have hq0_h := lH hq0; clear hym2 hyl hO hbW hbWo k0 k1 k2 hbS hq0
    go_wp2_with (fail)
    clear hylen
    refine beginH (fun w' => w'.heap[w.heap.size]? = some (.cells #[.int .i64 (a1 : Int), .int .i64 (a2 : Int), .slice Aa ma ca] tRel) ∧ w'.heap[w.heap.size + 1]? = some (.cells #[.int .i64 (a2 : Int), .int .i64 (b2 : Int), .slice Ab mb cb] tRel)) (by kernel_rfl) ?_
    replace k0_h := lH (box_below k0_h.out hbS_h.out)
    replace k1_h := lH (box_below k1_h.out hbS_h.out)
    replace k2_h := lH (box_below k2_h.out hbS_h.out)
    refine tkH 0 ?_ rfl ⟨k0_h.out, k1_h.out⟩ (fun W' hW' => ?_) ?_; rotate_left; · (obtain ⟨⟨y0, y1, y2⟩, y3, y4, y5⟩ := box3 hW'.1; obtain ⟨⟨x0, x1, x2⟩, x3, x4, x5⟩ := box3 hW'.2; clear hW'; go_simp; first | done | with_reducible rfl)
    simp only [Act.put, nS]
    refine tkH 1 ?_ rfl ⟨k0_h.out, k1_h.out⟩ (fun W' hW' => ?_) ?_; rotate_left; · (obtain ⟨⟨y0, y1, y2⟩, y3, y4, y5⟩ := box3 hW'.1; obtain ⟨⟨x0, x1, x2⟩, x3, x4, x5⟩ := box3 hW'.2; clear hW'; go_simp; first | done | with_reducible rfl)
    simp only [Act.put, nS]
    refine tkH 2 ?_ rfl ⟨k0_h.out, k1_h.out⟩ (fun W' hW' => ?_) ?_; rotate_left; · (obtain ⟨⟨y0, y1, y2⟩, y3, y4, y5⟩ := box3 hW'.1; obtain ⟨⟨x0, x1, x2⟩, x3, x4, x5⟩ := box3 hW'.2; clear hW'; go_simp; first | done | with_reducible rfl)
    simp only [Act.put, nS]
    refine tkH 4 ?_ rfl ⟨k0_h.out, k1_h.out⟩ (fun W' hW' => ?_) ?_; rotate_left; · (obtain ⟨⟨y0, y1, y2⟩, y3, y4, y5⟩ := box3 hW'.1; obtain ⟨⟨x0, x1, x2⟩, x3, x4, x5⟩ := box3 hW'.2; clear hW'; go_simp; first | done | with_reducible rfl)
    simp only [Act.put, nS]
    refine tkH 5 ?_ rfl ⟨k0_h.out, k1_h.out⟩ (fun W' hW' => ?_) ?_; rotate_left; · (obtain ⟨⟨y0, y1, y2⟩, y3, y4, y5⟩ := box3 hW'.1; obtain ⟨⟨x0, x1, x2⟩, x3, x4, x5⟩ := box3 hW'.2; clear hW'; go_simp; first | done | with_reducible rfl)
    simp only [Act.put, nS]
    refine tkH 6 ?_ rfl ⟨k0_h.out, k1_h.out⟩ (fun W' hW' => ?_) ?_; rotate_left; · (obtain ⟨⟨y0, y1, y2⟩, y3, y4, y5⟩ := box3 hW'.1; obtain ⟨⟨x0, x1, x2⟩, x3, x4, x5⟩ := box3 hW'.2; clear hW'; go_simp; first | done | with_reducible rfl)
    simp only [Act.put, nS]
    refine' callH 3 (f := _) (args := _) rfl (by kernel_rfl) (by rfl) ?_ ?_; rotate_left 2; · (go_simp; first | done | with_reducible rfl | (constructor <;> with_reducible rfl))
    refine (hEa1_h.out _ (below_trans hbW_h.out hbS_h.out hbW_h.out.size)).mono ?_
    rintro e w3 ⟨A3, e3, g3, m3, rfl, hgl3, hm3, hgm3, hO3⟩
    obtain rfl : ma = m3 := by rw [← hgl3, ← hF1l_h.out, ← hgm3, List.length_map]
    have hb3 := hO3.below_
    have hbo3 := below_trans hbS_h.out hb3 hbS_h.out.size
    replace k0_h := lH (box_below k0_h.out hb3)
    replace k1_h := lH (box_below k1_h.out hb3)
    replace k2_h := lH (box_below k2_h.out hb3)
    refine ⟨_, rfl, ⟨k0_h.out, k1_h.out⟩, ?_⟩
    simp only [Act.put, nS]
    have hO3_h := lH hO3; have hgl3_h := lH hgl3; have hgm3_h := lH hgm3; have hb3_h := lH hb3; have hbo3_h := lH hbo3; clear hO3 hgl3 hgm3 hb3 hbo3
    refine' callH 7 (f := _) (args := _) rfl (by kernel_rfl) (by rfl) ?_ ?_; rotate_left 2; · (go_simp; first | done | with_reducible rfl | (constructor <;> with_reducible rfl))
    refine (hEb2_h.out _ (below_trans hbW_h.out hbo3_h.out hbW_h.out.size)).mono ?_
    rintro e w4 ⟨A4, e4, g4, m4, rfl, hgl4, hm4, hgm4, hO4⟩
    obtain rfl : mb = m4 := by rw [← hgl4, ← hS2l_h.out, ← hgm4, List.length_map]
    have hb4 := hO4.below_
    have hbo4 := below_trans hbo3_h.out hb4 hbo3_h.out.size
    have hO34 := hO3_h.out.rdr.below hb4
    replace k0_h := lH (box_below k0_h.out hb4)
    replace k1_h := lH (box_below k1_h.out hb4)
    replace k2_h := lH (box_below k2_h.out hb4)
    refine ⟨_, rfl, ⟨k0_h.out, k1_h.out⟩, ?_⟩
    simp only [Act.put, nS]
    have hO4_h := lH hO4; have hgl4_h := lH hgl4; have hgm4_h := lH hgm4; have hb4_h := lH hb4; have hbo4_h := lH hbo4; have hO34_h := lH hO34; clear hO4 hgl4 hgm4 hb4 hbo4 hO34
    refine tkH 8 ?_ rfl ⟨k0_h.out, k1_h.out⟩ (fun W' hW' => ?_) ?_; rotate_left; · (skip; clear hW'; go_simp; first | done | with_reducible rfl)
    simp only [Act.put, nS]
    refine tkH 9 ?_ rfl ⟨k0_h.out, k1_h.out⟩ (fun W' hW' => ?_) ?_; rotate_left; · (skip; clear hW'; go_simp; first | done | with_reducible rfl)
    simp only [Act.put, nS]
    refine doneH (by kernel_rfl) ?_
    go_upto_region 11 with (fail)
    obtain ⟨w5, hw5⟩ : ∃ w5, w5 = w4.alloc (.cells #[] 23) := ⟨_, rfl⟩
    have hN0 : RdO w4 w5 (some ⟨w4.heap.size, 0, none⟩) 0 [] := by rw [hw5]; exact RdO.start w4 w4 (Below.refl _ _)
    rw [← hw5]
    have hw5s : w5.heap.size = w4.heap.size + 1 := by rw [hw5]; simp
    clear hw5
    have hb5 := hN0.below_
    have hbo5 := below_trans hbo4_h.out hb5 hbo4_h.out.size
    replace k0_h := lH (box_below k0_h.out hb5)
    replace k1_h := lH (box_below k1_h.out hb5)
    replace k2_h := lH (box_below k2_h.out hb5)
    obtain ⟨⟨c0, c1, c2⟩, f0, f1, f2⟩ := box3 k0_h.out
    have hK5 := kernel_any p a2 A' c' ys w5 (hO_h.out.rdr.below hbo5) hfld_h.out (by rw [hym2_h.out, hyl_h.out]; exact hmid_h.out) (by rw [hyl_h.out]; omega) (by omega)
    rw [hym2_h.out, ← hK_h.out, hyl_h.out] at hK5
    have hN0_h := lH hN0; have hb5_h := lH hb5; have hbo5_h := lH hbo5; have hK5_h := lH hK5; clear hN0 hb5 hbo5 hK5
    go_wp2_with (fail)
    refine (hK5_h.out).mono ?_
    rintro e w6 hret
    obtain ⟨A5, c5, rfl, hKm5⟩ := hret.om
    obtain ⟨hsK, hKL, hKO, hKf, _⟩ := id hKm5
    have hKw5 : w5.heap.size = w4.heap.size + 1 := hw5s
    clear c0 c1 c2 f0 f1 f2
    obtain ⟨kk, hkk⟩ : ∃ kk, kk = K.length := ⟨_, rfl⟩
    rw [← hkk]
    have hk48 : kk ≤ 48 := by rw [hkk]; have := hKm_h.out.1; omega
    have hb6 := hKm5.below_
    have hN1 := hN0_h.out.below hb6
    have hbo6 := below_trans hbo5_h.out hb6 hbo5_h.out.size
    have hb46 := below_trans hb5_h.out hb6 hb5_h.out.size
    have hO36 := hO34_h.out.below hb46
    have hO46 := hO4_h.out.rdr.below hb46
    replace k0_h := lH (box_below k0_h.out hb6)
    replace k1_h := lH (box_below k1_h.out hb6)
    replace k2_h := lH (box_below k2_h.out hb6)
    clear hret hw5s; have hKm5_h := lH hKm5; have hkk_h := lH hkk; have hb6_h := lH hb6; have hN1_h := lH hN1; have hbo6_h := lH hbo6; have hb46_h := lH hb46; have hO36_h := lH hO36; have hO46_h := lH hO46; have hKL_h := lH hKL; have hKO_h := lH hKO; have hKf_h := lH hKf; have hKw5_h := lH hKw5; clear hKm5 hkk hb6 hN1 hbo6 hb46 hO36 hO46 hKL hKO hKf hKw5
    go_wp2_with (fail)
    go_loopw [58, 13] (fun i v wr => ∃ (k : Nat) (A' : Option Addr) (c' : Nat) (zs : List Hd) (q : Nat), k ≤ kk ∧ i = .int .i64 k ∧ q = k ∧ v = .slice A' q c' ∧ zs.length = q ∧ zs.map (fun h : Hd => h.2.2) = (K.take k).map g ∧ RdO w4 wr A' c' zs ∧ Keeps (· = w4.heap.size) w6 wr ∧ ∀ b, b ∈ fpA A' → b = w4.heap.size ∨ w6.heap.size ≤ b) (fun i _ _ => kk - (intOf i).toNat)
    case atStart => exact ⟨0, some ⟨w4.heap.size, 0, none⟩, 0, [], 0, Nat.zero_le _, rfl, rfl, rfl, rfl, rfl, hN1_h.out, Keeps.refl _ _, fun b hb => .inl (by simpa using hb)⟩
    case round =>
     clear hN1_h
     obtain ⟨k, A', c', zs, q0, hk, rfl, hq0, rfl, hzl, hzm, hO, hKe, hfA⟩ := hrel
     obtain ⟨wi, rfl⟩ : ∃ x, x = wr := ⟨_, rfl⟩
     have hb4i := hO.below_
     have hw4l : w4.heap.size < w6.heap.size := by have := hKw5_h.out; have := hb6_h.out.size; omega
     have hbWi := below_trans hbWo_h.out (below_trans hbo4_h.out hb4i hbo4_h.out.size) hbWo_h.out.size
     have k0r := box_below k00_h.out hbWi
     have k1r := box_below k10_h.out hbWi
     by_cases hlt : k < kk
     · have hkI : (k : Int) < (kk : Int) := by omega
       have hq48 : q0 ≤ 48 := by omega
       have hKOi : OwR wi A5 c5 hsK := hKO_h.out.keeps hKe fun b hb e => by have := hKf_h.out b hb; have := hKw5_h.out; omega
       have hsKl : hsK.length = kk := by rw [hkk_h.out, hKL_h.out, List.length_map]
       obtain ⟨ad, B, d, u, hA5, hx, hcu, hfu, hI⟩ := hKOi.get (i := k) (by rw [hsKl]; exact hlt)
       subst hA5
       have hKk : K[k]? = some u := by rw [hKL_h.out, List.getElem?_map, hx]; rfl
       have hur := hKm_h.out.2.row u (List.mem_of_getElem? hKk)
       have hul := hur.1
       rw [hul] at hcu
       obtain ⟨B1, hr1, hI1, hf1⟩ := take_sl hI hul (k := ma) (by rw [hM_h.out]; omega)
       obtain ⟨B2, e2', hr2, hI2, hf2⟩ := drop_sl (r := mb) hI hul (by rw [hM_h.out])
       have hl1 : (u.take ma).length = ma := by rw [List.length_take, hul, hM_h.out]; omega
       have hl2 : (u.drop ma).length = mb := by rw [List.length_drop, hul, hM_h.out]; omega
       have hres1 : Res p (u.take ma) := fun x hx => hur.2 x (List.mem_of_mem_take hx)
       have hres2 : Res p (u.drop ma) := fun x hx => hur.2 x (List.mem_of_mem_drop hx)
       have hC1 := fun (W' : World) (hb : Below wi.heap.size wi W') => combine_any p a1 ma A3 B1 e3 d g3 (u.take ma) F1 W' ((hO34_h.out.below hb4i).below hb) hgm3_h.out hF1l_h.out ((hI1.below hb).rd) hl1 hres1 hF1m_h.out (by have := hpbb_h.out; omega) hpbb_h.out.2 (by omega) (by omega)
       have hC2 := fun (W' : World) (hb : Below wi.heap.size wi W') => combine_any p b2 mb A4 B2 e4 e2' g4 (u.drop ma) S2 W' ((hO4_h.out.rdr.below hb4i).below hb) hgm4_h.out hS2l_h.out ((hI2.below hb).rd) hl2 hres2 hS2m_h.out (by have := hpbb_h.out; omega) hpbb_h.out.2 (by omega) (by omega)
       obtain ⟨x, hxe⟩ : ∃ x, x = cmbTo p a1 (u.take ma) F1 ma := ⟨_, rfl⟩
       obtain ⟨z, hze⟩ : ∃ z, z = cmbTo p b2 (u.drop ma) S2 mb := ⟨_, rfl⟩
       have hxl : x.length = a1 := by rw [hxe]; exact cmbTo_length _ _ _ _ _
       have hzl' : z.length = b2 := by rw [hze]; exact cmbTo_length _ _ _ _ _
       have hgu : x ++ z = g u := by rw [hxe, hze]; exact (hgE_h.out u).symm
       simp only [← hxe] at hC1
       simp only [← hze] at hC2
       have hKt : (K.take (k + 1)).map g = (K.take k).map g ++ [g u] := by rw [List.take_add_one, hKk, List.map_append]; rfl
       have hbS : Below wi.heap.size wi wi.drew := below_drewN (Below.refl _ _) 1
       clear hI1 hI2 hres1 hres2 hl1 hl2 hI hur hul hxe hze hf1 hf2 hKk hfu hx hKOi hsKl hb4i; have hzl_h := lH hzl; have hzm_h := lH hzm; have hO_h := lH hO; have hbWi_h := lH hbWi; have k0r_h := lH k0r; have k1r_h := lH k1r; have hC1_h := lH hC1; have hC2_h := lH hC2; have hxl_h := lH hxl; have hzl'_h := lH hzl'; have hgu_h := lH hgu; have hKt_h := lH hKt; have hr1_h := lH hr1; have hr2_h := lH hr2; have hq0_h := lH hq0; have hbS_h := lH hbS; have hKe_h := lH hKe; have hfA_h := lH hfA; have hw4l_h := lH hw4l; clear hzl hzm hO hbWi k0r k1r hC1 hC2 hxl hzl' hgu hKt hr1 hr2 hq0 hbS hKe hfA hw4l
       go_wp2_with (fail)
       refine beginH (fun w' => w'.heap[w.heap.size]? = some (.cells #[.int .i64 (a1 : Int), .int .i64 (a2 : Int), .slice Aa ma ca] tRel)) (by kernel_rfl) ?_
       clear hcu
       replace k0r_h := lH (box_below k0r_h.out hbS_h.out)
       refine tkH 0 ?_ rfl k0r_h.out (fun W' hW' => ?_) ?_; rotate_left; · (skip; clear hW'; go_simp; first | done | with_reducible rfl)
       simp only [Act.put, nS]
       refine tkH 1 ?_ rfl k0r_h.out (fun W' hW' => ?_) ?_; rotate_left; · (skip; clear hW'; go_simp; first | done | with_reducible rfl)
       simp only [Act.put, nS]
       refine tkH 2 ?_ rfl k0r_h.out (fun W' hW' => ?_) ?_; rotate_left; · (skip; clear hW'; go_simp; first | done | with_reducible rfl)
       simp only [Act.put, nS]
       refine tkH 3 ?_ rfl k0r_h.out (fun W' hW' => ?_) ?_; rotate_left; · (skip; clear hW'; go_simp; first | done | with_reducible rfl)
       simp only [Act.put, nS]
       refine takeH 4 (v := .slice B1 ma d) rfl (by kernel_rfl) (by kernel_rfl) (by kernel_rfl) (fun _ _ _ h => h) k0r_h.out (by rfl) (fun W' _ => xop_sliceW rfl (hr1_h.out W')) ?_
       simp only [Act.put, nS]
       refine tkH 5 ?_ rfl k0r_h.out (fun W' hW' => ?_) ?_; rotate_left; · (obtain ⟨⟨y0, y1, y2⟩, y3, y4, y5⟩ := box3 hW'; clear hW'; go_simp; first | done | with_reducible rfl)
       simp only [Act.put, nS]
       refine tkH 6 ?_ rfl k0r_h.out (fun W' hW' => ?_) ?_; rotate_left; · (obtain ⟨⟨y0, y1, y2⟩, y3, y4, y5⟩ := box3 hW'; clear hW'; go_simp; first | done | with_reducible rfl)
       simp only [Act.put, nS]
       refine tkH 7 ?_ rfl k0r_h.out (fun W' hW' => ?_) ?_; rotate_left; · (obtain ⟨⟨y0, y1, y2⟩, y3, y4, y5⟩ := box3 hW'; clear hW'; go_simp; first | done | with_reducible rfl)
       simp only [Act.put, nS]
       refine' callH 8 (f := _) (args := _) rfl (by kernel_rfl) (by rfl) ?_ ?_; rotate_left 2; · (go_simp; first | done | with_reducible rfl | (constructor <;> with_reducible rfl))
       refine (hC1_h.out _ hbS_h.out).mono ?_
       rintro e w7 ⟨Ax, cx, rfl, hix, hfx, hbx⟩
       rw [hxl_h.out]
       replace k0r_h := lH (box_below k0r_h.out hbx)
       have hb7 := below_trans hbS_h.out hbx hbS_h.out.size
       have hfx2 : Fresh wi.heap.size Ax := fun b hb => Nat.le_trans hbS_h.out.size (hfx b hb)
       refine ⟨_, rfl, k0r_h.out, ?_⟩
       simp only [Act.put, nS]
       have hix_h := lH hix; have hfx_h := lH hfx; have hbx_h := lH hbx; have hb7_h := lH hb7; have hfx2_h := lH hfx2; clear hix hfx hbx hb7 hfx2
       refine tkH 9 ?_ rfl k0r_h.out (fun W' hW' => ?_) ?_; rotate_left; · (skip; clear hW'; go_simp; first | done | with_reducible rfl)
       simp only [Act.put, nS]
       refine doneH (by kernel_rfl) ?_
       have k1q := box_below k1r_h.out hb7_h.out
       have hbd7 : Below w7.heap.size w7 w7.drew := below_drewN (Below.refl _ _) 1
       have hb8 := below_trans hb7_h.out hbd7 hb7_h.out.size
       have k1q_h := lH k1q; have hbd7_h := lH hbd7; have hb8_h := lH hb8; clear k1q hbd7 hb8
       go_wp2_with (fail)
       refine beginH (fun w' => w'.heap[w.heap.size + 1]? = some (.cells #[.int .i64 (a2 : Int), .int .i64 (b2 : Int), .slice Ab mb cb] tRel)) (by kernel_rfl) ?_
       replace k1q_h := lH (box_below k1q_h.out hbd7_h.out)
       refine tkH 0 ?_ rfl k1q_h.out (fun W' hW' => ?_) ?_; rotate_left; · (skip; clear hW'; go_simp; first | done | with_reducible rfl)
       simp only [Act.put, nS]
       refine tkH 1 ?_ rfl k1q_h.out (fun W' hW' => ?_) ?_; rotate_left; · (skip; clear hW'; go_simp; first | done | with_reducible rfl)
       simp only [Act.put, nS]
       refine tkH 2 ?_ rfl k1q_h.out (fun W' hW' => ?_) ?_; rotate_left; · (skip; clear hW'; go_simp; first | done | with_reducible rfl)
       simp only [Act.put, nS]
       refine tkH 3 ?_ rfl k1q_h.out (fun W' hW' => ?_) ?_; rotate_left; · (skip; clear hW'; go_simp; first | done | with_reducible rfl)
       simp only [Act.put, nS]
       refine takeH 4 (v := .slice B2 mb e2') rfl (by kernel_rfl) (by kernel_rfl) (by kernel_rfl) (fun _ _ _ h => h) k1q_h.out (by rfl) (fun W' _ => xop_sliceW rfl (hr2_h.out W')) ?_
       simp only [Act.put, nS]
       refine tkH 5 ?_ rfl k1q_h.out (fun W' hW' => ?_) ?_; rotate_left; · (obtain ⟨⟨y0, y1, y2⟩, y3, y4, y5⟩ := box3 hW'; clear hW'; go_simp; first | done | with_reducible rfl)
       simp only [Act.put, nS]
       refine tkH 6 ?_ rfl k1q_h.out (fun W' hW' => ?_) ?_; rotate_left; · (obtain ⟨⟨y0, y1, y2⟩, y3, y4, y5⟩ := box3 hW'; clear hW'; go_simp; first | done | with_reducible rfl)
       simp only [Act.put, nS]
       refine tkH 7 ?_ rfl k1q_h.out (fun W' hW' => ?_) ?_; rotate_left; · (obtain ⟨⟨y0, y1, y2⟩, y3, y4, y5⟩ := box3 hW'; clear hW'; go_simp; first | done | with_reducible rfl)
       simp only [Act.put, nS]
       refine' callH 8 (f := _) (args := _) rfl (by kernel_rfl) (by rfl) ?_ ?_; rotate_left 2; · (go_simp; first | done | with_reducible rfl | (constructor <;> with_reducible rfl))
       refine (hC2_h.out _ hb8_h.out).mono ?_
       rintro e w8 ⟨Az, cz, rfl, hiz, hfz, hbz⟩
       rw [hzl'_h.out]
       replace k1q_h := lH (box_below k1q_h.out hbz)
       have hb9 := below_trans hb8_h.out hbz hb8_h.out.size
       have hix8 := hix_h.out.below (below_trans hbd7_h.out hbz hbd7_h.out.size)
       refine ⟨_, rfl, k1q_h.out, ?_⟩
       simp only [Act.put, nS]
       have hiz_h := lH hiz; have hfz_h := lH hfz; have hbz_h := lH hbz; have hb9_h := lH hb9; have hix8_h := lH hix8; clear hiz hfz hbz hb9 hix8
       refine tkH 9 ?_ rfl k1q_h.out (fun W' hW' => ?_) ?_; rotate_left; · (skip; clear hW'; go_simp; first | done | with_reducible rfl)
       simp only [Act.put, nS]
       refine doneH (by kernel_rfl) ?_
       have hlr := laid_rdr (w := w8) [(Ax, cx, x), (Az, cz, z)] (fun y hy => by
        simp only [List.mem_cons, List.not_mem_nil, or_false] at hy
        rcases hy with rfl | rfl
        · exact hix8_h.out.rd
        · exact hiz_h.out.rd) (by unfold maxLen; simp)
       have e : (([(Ax, cx, x), (Az, cz, z)] : List Hd).map Hd.val).toArray = #[.slice Ax a1 cx, .slice Az b2 cz] := by simp [Hd.val, hxl_h.out, hzl'_h.out]
       rw [e] at hlr
       have hgl : (g u).length = N := by rw [← hgu_h.out, List.length_append, hxl_h.out, hzl'_h.out, hN_h.out]
       have e2 : (([(Ax, cx, x), (Az, cz, z)] : List Hd).map fun h : Hd => h.2.2).flatten = g u := by rw [← hgu_h.out]; simp
       have hJ := joined_any (some ⟨w8.heap.size, 0, none⟩) 2 [(Ax, cx, x), (Az, cz, z)] _ hlr (by simp) (by rw [e2, hgl]; have := hN_h.out; omega)
       rw [e2] at hJ
       have hal8 := below_alloc w8 (.cells #[.slice Ax a1 cx, .slice Az b2 cz] 23)
       clear hlr e e2; have hJ_h := lH hJ; have hal8_h := lH hal8; have hgl_h := lH hgl; clear hJ hal8 hgl
       go_wp2_with (fail)
       refine (hJ_h.out).mono ?_
       rintro e w9 ⟨A7, c7, rfl, hi7, hf7, hb10⟩
       rw [hgl_h.out]
       have hb11 := below_trans hb9_h.out (below_trans hal8_h.out hb10 hal8_h.out.size) hb9_h.out.size
       have hal := below_alloc w9 (.cells #[.slice A7 N c7] 23)
       have hba := below_trans hb11 hal hb11.size
       have hfA7 : Fresh wi.heap.size A7 := fun b hb => by have := hf7 b hb; have := hal8_h.out.size; have := hb9_h.out.size; omega
       have hsl : Sl (w9.alloc (.cells #[.slice A7 N c7] 23)) 23 1 A' q0 c' (zs.map Hd.val) := by
        have := (hO_h.out.sl.below hb11).alloc (.cells #[.slice A7 N c7] 23)
        rwa [hzl_h.out] at this
       have hI8 := hi7.below hal
       clear hi7 hf7 hb10; have hb11_h := lH hb11; have hal_h := lH hal; have hba_h := lH hba; have hfA7_h := lH hfA7; have hsl_h := lH hsl; have hI8_h := lH hI8; clear hb11 hal hba hfA7 hsl hI8
       go_wp2_with (at_builtin; refine wpList_append_Sl _ rfl _ _ _ rfl 23 Tryz.underlying27 info_ints rfl (by omega) rfl (hsl_h.out) rfl (news := [.slice A7 N c7]) rfl (Sl.rdc (Sl.laid w9 23 1 1 #[.slice A7 N c7] (by unfold maxLen; omega) rfl)) (by intro u hu; simp at hu; subst hu; rfl) (by unfold maxLen; omega) (by omega) ?_; intro A9 c9 w10 hsA9 hA9 hkA9)
       have hO2 := hO_h.out.snoc hba_h.out (x := (A7, c7, g u)) hI8_h.out (fun b hb hb' => by
        have h1 := hO_h.out.sl.lt b hb'
        have h2 := hfA7_h.out b hb
        omega) (by rw [hzl_h.out]) (by show Sl w10 _ 1 A9 (q0 + 1) c9 (zs.map Hd.val ++ [.slice A7 (g u).length c7]); rw [hgl_h.out]; exact hsA9) hA9 hkA9
       have hKe2 := (hKe_h.out.trans (Keeps.of_below hba_h.out _)).after hkA9 (fun b hb hb2 => by
        rcases hfA_h.out b hb2 with h | h
        · exact h
        · omega)
       have hfA2 : ∀ b, b ∈ fpA A9 → b = w4.heap.size ∨ w6.heap.size ≤ b := fun b hb => by
        rcases hA9 b hb with h | h
        · exact hfA_h.out b h
        · right; have := hba_h.out.size; have := hKe_h.out.size; omega
       clear hsA9 hA9 hkA9; have hO2_h := lH hO2; have hKe2_h := lH hKe2; have hfA2_h := lH hfA2; clear hO2 hKe2 hfA2
       go_roundw
       case rel => exact ⟨k + 1, A9, c9, zs ++ [(A7, c7, g u)], q0 + 1, by omega, by go_num, by have := hq0_h.out; omega, rfl, by rw [List.length_append, hzl_h.out]; rfl, by rw [List.map_append, hzm_h.out, hKt_h.out]; rfl, hO2_h.out, hKe2_h.out, hfA2_h.out⟩
       case measure => simp [intOf]; omega
     · obtain rfl : kk = k := by omega
       have hym2 : zs.map (fun h : Hd => h.2.2) = K.map g := by rw [hzm, List.take_of_length_le (by rw [hkk_h.out]; exact Nat.le_refl _)]
       have hC := relation_any p (a1 : Int) (b2 : Int) N A' c' zs wi hO.rdr hfld_h.out hNI_h.out (by rw [hym2]; have := hmat_h.out; rwa [show (K.map g).length = zs.length by rw [← hym2, List.length_map]] at this) (by omega) (by have := hN_h.out; omega)
       rw [hym2, ← hR_h.out, hzl] at hC
       have k2r := box_below k20_h.out hbWi
       have hBr := below_trans bW_h.out hbWi bW_h.out.size
       have hzr := hbWi.size
       have hz2 := box_lt k20_h.out
       obtain ⟨⟨c0, c1, c2⟩, f0, f1, f2⟩ := box3 k0r
       obtain ⟨⟨d0, d1, d2⟩, g0', g1', g2'⟩ := box3 k1r
       clear hzm hym2 hzl hO k0r k1r hKe hfA; have hC_h := lH hC; have k2r_h := lH k2r; have hBr_h := lH hBr; have hq0_h := lH hq0; have hbWi_h := lH hbWi; clear hC k2r hBr hq0 hbWi
       go_wp2_with (fail)
       refine (hC_h.out).mono ?_
       rintro e w1 ⟨v1, fp1, rfl, hO1, hf1, hb1⟩
       clear c0 c1 c2 f0 f1 f2 d0 d1 d2 g0' g1' g2'
       obtain ⟨A1', n1', c1', rfl⟩ := hO1.shape
       have k2' := box_below k2r_h.out hb1
       have hB1 := below_trans hBr_h.out hb1 hBr_h.out.size
       obtain ⟨⟨d0, d1, d2⟩, g0', g1', g2'⟩ := box3 k2'
       obtain ⟨s1, s2⟩ := set3 (a := .int .i64 (a1 : Int)) (b := .int .i64 (b2 : Int)) (c := .slice A1' n1' c1') k2'
       have hB3 := below_keeps hB1 s2 hB1.size (fun k hk => by omega)
       have hBs := hBr_h.out.size
       have hO3 := hO1.keeps s2 (fun k hk e => by have := hf1 k hk; omega)
       have hf3 := hf1.mono hBs
       clear k2' hB1 hO1 hf1; have s1_h := lH s1; have s2_h := lH s2; have hO3_h := lH hO3; have hf3_h := lH hf3; have hB3_h := lH hB3; clear s1 s2 hO3 hf3 hB3
       go_wp2_with (fail)
       refine bodyPost_ret (results_cell_row rfl _ _ (w.heap.size + 1 + 1) _ _ (0, 0) _ rfl s1_h.out Tryz.underlying29 rfl (by kernel_rfl)) rfl ?_
       exact ⟨_, fp1, rfl, hO3_h.out, hf3_h.out, hB3_h.out⟩
def t_fitB (i o : Int) : Bool := decide (i ≤ 12 ∧ o ≤ 12)
theorem fit_any (i o : Int) (w : World) :
  Calls Tryz.prog 183 #[.agg #[.int .i64 i, .int .i64 o]] w fun e w' => e = .returned (.bool (t_fitB i o)) ∧ Below w.heap.size w w' := by
 by_cases h1 : i ≤ 12
 · by_cases h2 : o ≤ 12
   all_goals
    go_enter Tryz.func183, Tryz.ntmps183
    go_wp2_with (fail)
    go_ret
    refine ⟨ret_bool ?_, t_below_alloc _ _⟩
    unfold t_fitB
    simp
    omega
 · go_enter Tryz.func183, Tryz.ntmps183
   go_wp2_with (fail)
   go_ret
   refine ⟨ret_bool ?_, t_below_alloc _ _⟩
   unfold t_fitB
   simp
   omega
def JnA (p : Bool) (a b : Int × Int) (w : World) (e : Ending) (w' : World) : Prop :=
 ∃ (c : Bool), e = .returned (.tuple #[.agg #[.int .i64 (joinTy p a b).1, .int .i64 (joinTy p a b).2], .bool c]) ∧ c = joinB p a b ∧ Below w.heap.size w w'
set_option maxRecDepth 8000 in
set_option maxHeartbeats 1000000 in
theorem joinWires_any (p : Bool) (ai ao bi bo : Int) (w : World) (h1 : 0 ≤ ai ∧ ai ≤ 12) (h2 : 0 ≤ ao ∧ ao ≤ 12) (h3 : 0 ≤ bi ∧ bi ≤ 12) (h4 : 0 ≤ bo ∧ bo ≤ 12) :
  Calls Tryz.prog 180 #[.int .i64 (kd p), .agg #[.int .i64 ai, .int .i64 ao], .agg #[.int .i64 bi, .int .i64 bo]] w (JnA p (ai, ao) (bi, bo) w) := by
 obtain ⟨W, hW⟩ : ∃ W, W = ((w.alloc (.cells #[.int .i64 ai, .int .i64 ao] tWires)).alloc (.cells #[.int .i64 bi, .int .i64 bo] tWires)).alloc (.cells #[.int .i64 0, .int .i64 0] tWires) := ⟨_, rfl⟩
 obtain ⟨b0, k0, k1, hz⟩ := two_boxes w (.cells #[.int .i64 ai, .int .i64 ao] tWires) (.cells #[.int .i64 bi, .int .i64 bo] tWires)
 have hbz := b0.alloc (by omega) (.cells #[.int .i64 0, .int .i64 0] tWires)
 have k2 := heap_alloc_new ((w.alloc (.cells #[.int .i64 ai, .int .i64 ao] tWires)).alloc (.cells #[.int .i64 bi, .int .i64 bo] tWires)) (.cells #[.int .i64 0, .int .i64 0] tWires)
 rw [hz] at k2
 have k0 := t_box_below k0 (t_below_alloc _ (.cells #[.int .i64 0, .int .i64 0] tWires))
 have k1 := t_box_below k1 (t_below_alloc _ (.cells #[.int .i64 0, .int .i64 0] tWires))
 rw [← hW] at hbz k0 k1 k2
 clear b0 hz
 cases p
 · show Calls Tryz.prog _ #[.int .i64 15, _, _] _ _
   have k0_h := lH k0; have k1_h := lH k1; have k2_h := lH k2; have hbz_h := lH hbz; clear k0 k1 k2 hbz
   go_enter Tryz.func180, Tryz.ntmps180
   go_wp2_with (fail)
   rw [← hW]
   clear hW
   have k0d : W.drew.heap[w.heap.size]? = some (.cells #[.int .i64 ai, .int .i64 ao] tWires) := k0_h.out
   have k1d : W.drew.heap[w.heap.size + 1]? = some (.cells #[.int .i64 bi, .int .i64 bo] tWires) := k1_h.out
   have k2d : W.drew.heap[w.heap.size + 2]? = some (.cells #[.int .i64 0, .int .i64 0] tWires) := k2_h.out
   have b0d := below_drew hbz_h.out
   refine beginH (fun w' => w'.heap[w.heap.size]? = some (.cells #[.int .i64 ai, .int .i64 ao] tWires) ∧ w'.heap[w.heap.size + 1]? = some (.cells #[.int .i64 bi, .int .i64 bo] tWires)) (by kernel_rfl) ?_
   clear k0_h k1_h k2_h hbz_h
   generalize W.drew = W1 at k0d k1d k2d b0d ⊢
   obtain ⟨s1, s2⟩ := t_set2 (a := .int .i64 ai) (b := .int .i64 bo) k2d
   have k0s := t_box_keeps k0d s2 (by omega)
   have k1s := t_box_keeps k1d s2 (by omega)
   have hS := And.intro k0d k1d
   have hSs := And.intro k0s k1s
   have hB2 := below_keeps b0d s2 b0d.size (fun k hk => by omega)
   obtain ⟨⟨c0, c1⟩, f0, f1⟩ := t_box2 k2d
   have k0d_h := lH k0d; have k1d_h := lH k1d; have k2d_h := lH k2d; have s1_h := lH s1; have s2_h := lH s2; have k0s_h := lH k0s; have k1s_h := lH k1s; have hB2_h := lH hB2; have hS_h := lH hS; have hSs_h := lH hSs; have b0d_h := lH b0d; clear k0d k1d k2d s1 s2 k0s k1s hB2 hS hSs b0d
   refine tkH 0 ?_ rfl hS_h.out (fun W' hW' => ?_) ?_; rotate_left; · (obtain ⟨⟨d0, d1⟩, e0, e1⟩ := t_box2 hW'.1; obtain ⟨⟨g0, g1⟩, i0, i1⟩ := t_box2 hW'.2; clear hW'; go_simp; first | done | with_reducible rfl)
   simp only [Act.put, nS]
   refine tkH 1 ?_ rfl hS_h.out (fun W' hW' => ?_) ?_; rotate_left; · (obtain ⟨⟨d0, d1⟩, e0, e1⟩ := t_box2 hW'.1; obtain ⟨⟨g0, g1⟩, i0, i1⟩ := t_box2 hW'.2; clear hW'; go_simp; first | done | with_reducible rfl)
   simp only [Act.put, nS]
   refine tkH 2 ?_ rfl hS_h.out (fun W' hW' => ?_) ?_; rotate_left; · (obtain ⟨⟨d0, d1⟩, e0, e1⟩ := t_box2 hW'.1; obtain ⟨⟨g0, g1⟩, i0, i1⟩ := t_box2 hW'.2; clear hW'; go_simp; first | done | with_reducible rfl)
   simp only [Act.put, nS]
   refine tkH 3 ?_ rfl hS_h.out (fun W' hW' => ?_) ?_; rotate_left; · (obtain ⟨⟨d0, d1⟩, e0, e1⟩ := t_box2 hW'.1; obtain ⟨⟨g0, g1⟩, i0, i1⟩ := t_box2 hW'.2; clear hW'; go_simp; first | done | with_reducible rfl)
   simp only [Act.put, nS]
   refine tkH 4 ?_ rfl hS_h.out (fun W' hW' => ?_) ?_; rotate_left; · (obtain ⟨⟨d0, d1⟩, e0, e1⟩ := t_box2 hW'.1; obtain ⟨⟨g0, g1⟩, i0, i1⟩ := t_box2 hW'.2; clear hW'; go_simp; first | done | with_reducible rfl)
   simp only [Act.put, nS]
   refine tkH 5 ?_ rfl hS_h.out (fun W' hW' => ?_) ?_; rotate_left; · (obtain ⟨⟨d0, d1⟩, e0, e1⟩ := t_box2 hW'.1; obtain ⟨⟨g0, g1⟩, i0, i1⟩ := t_box2 hW'.2; clear hW'; go_simp; first | done | with_reducible rfl)
   simp only [Act.put, nS]
   refine tkH 6 ?_ rfl hS_h.out (fun W' hW' => ?_) ?_; rotate_left; · (obtain ⟨⟨d0, d1⟩, e0, e1⟩ := t_box2 hW'.1; obtain ⟨⟨g0, g1⟩, i0, i1⟩ := t_box2 hW'.2; clear hW'; go_simp; first | done | with_reducible rfl)
   simp only [Act.put, nS]
   refine tkH 7 ?_ rfl hS_h.out (fun W' hW' => ?_) ?_; rotate_left; · (obtain ⟨⟨d0, d1⟩, e0, e1⟩ := t_box2 hW'.1; obtain ⟨⟨g0, g1⟩, i0, i1⟩ := t_box2 hW'.2; clear hW'; go_simp; first | done | with_reducible rfl)
   simp only [Act.put, nS]
   refine tkH 8 ?_ rfl hS_h.out (fun W' hW' => ?_) ?_; rotate_left; · (obtain ⟨⟨d0, d1⟩, e0, e1⟩ := t_box2 hW'.1; obtain ⟨⟨g0, g1⟩, i0, i1⟩ := t_box2 hW'.2; clear hW'; go_simp; first | done | with_reducible rfl)
   simp only [Act.put, nS]
   refine tkH 9 ?_ rfl hS_h.out (fun W' hW' => ?_) ?_; rotate_left; · (obtain ⟨⟨d0, d1⟩, e0, e1⟩ := t_box2 hW'.1; obtain ⟨⟨g0, g1⟩, i0, i1⟩ := t_box2 hW'.2; clear hW'; go_simp; first | done | with_reducible rfl)
   simp only [Act.put, nS]
   refine oneH 10 rfl (by kernel_rfl) (by rfl) (fun K hK => ?_)
   go_simp
   refine hK _ _ hSs_h.out ?_
   clear hK K
   refine tkH 11 ?_ rfl hSs_h.out (fun W' hW' => ?_) ?_; rotate_left; · (skip; clear hW'; go_simp; first | done | with_reducible rfl)
   simp only [Act.put, nS]
   refine doneH (by kernel_rfl) ?_
   go_wp2_with (fail)
   refine bodyPost_ret (t_results_cell_tmp rfl _ _ (w.heap.size + 2) _ _ (0, 0) _ rfl s1_h.out Tryz.underlying147 rfl (by kernel_rfl)) rfl ?_
   refine ⟨(ao == bi), rfl, ?_, hB2_h.out⟩
   simp only [joinB, Bool.false_eq_true, if_false]
   by_cases h0 : ao = bi <;> simp [h0]
 · show Calls Tryz.prog _ #[.int .i64 16, _, _] _ _
   obtain ⟨X, hX⟩ : ∃ X, X = W.alloc (.cells #[.int .i64 (ai + bi), .int .i64 (ao + bo)] tWires) := ⟨_, rfl⟩
   have bx := hbz.alloc hbz.size (.cells #[.int .i64 (ai + bi), .int .i64 (ao + bo)] tWires)
   have kx := heap_alloc_new W (.cells #[.int .i64 (ai + bi), .int .i64 (ao + bo)] tWires)
   have k2x := t_box_below k2 (t_below_alloc _ (.cells #[.int .i64 (ai + bi), .int .i64 (ao + bo)] tWires))
   have hWz : W.heap.size = w.heap.size + 3 := by rw [hW]; simp
   rw [← hX] at bx kx k2x
   rw [hWz] at kx
   have bx_h := lH bx; have kx_h := lH kx; have k2x_h := lH k2x; have k0_h := lH k0; have k1_h := lH k1; have k2_h := lH k2; have hbz_h := lH hbz; have hWz_h := lH hWz; clear bx kx k2x k0 k1 k2 hbz hWz
   go_enter Tryz.func180, Tryz.ntmps180
   go_wp2_with (fail)
   rw [← hW, ← hX]
   have kxd : X.drew.heap[w.heap.size + 3]? = some (.cells #[.int .i64 (ai + bi), .int .i64 (ao + bo)] tWires) := kx_h.out
   have k2d : X.drew.heap[w.heap.size + 2]? = some (.cells #[.int .i64 0, .int .i64 0] tWires) := k2x_h.out
   have b0d := below_drew bx_h.out
   refine beginH (fun w' => w'.heap[w.heap.size + 3]? = some (.cells #[.int .i64 (ai + bi), .int .i64 (ao + bo)] tWires)) (by kernel_rfl) ?_
   clear k0_h k1_h k2_h hbz_h bx_h kx_h k2x_h hW hX hWz_h
   generalize X.drew = W1 at kxd k2d b0d ⊢
   have kxd_h := lH kxd; have k2d_h := lH k2d; have b0d_h := lH b0d; clear kxd k2d b0d
   refine tkH 0 ?_ rfl kxd_h.out (fun W' hW' => ?_) ?_; rotate_left; · (obtain ⟨⟨d0, d1⟩, e0, e1⟩ := t_box2 hW'; clear hW'; go_simp; first | done | with_reducible rfl)
   simp only [Act.put, nS]
   refine tkH 1 ?_ rfl kxd_h.out (fun W' hW' => ?_) ?_; rotate_left; · (obtain ⟨⟨d0, d1⟩, e0, e1⟩ := t_box2 hW'; clear hW'; go_simp; first | done | with_reducible rfl)
   simp only [Act.put, nS]
   refine' callH 2 (f := _) (args := _) rfl (by kernel_rfl) (by rfl) ?_ ?_; rotate_left 2; · (go_simp; first | done | with_reducible rfl | (constructor <;> with_reducible rfl))
   refine (fit_any _ _ _).mono ?_
   rintro e w2 ⟨rfl, hb2⟩
   have kx2 := t_box_below kxd_h.out hb2
   have k22 := t_box_below k2d_h.out hb2
   have b2 := below_trans b0d_h.out hb2 b0d_h.out.size
   obtain ⟨s1, s2⟩ := t_set2 (a := .int .i64 (ai + bi)) (b := .int .i64 (ao + bo)) k22
   have kxs := t_box_keeps kx2 s2 (by omega)
   have hB2 := below_keeps b2 s2 b2.size (fun k hk => by omega)
   obtain ⟨⟨c0, c1⟩, f0, f1⟩ := t_box2 k22
   refine ⟨_, rfl, kx2, ?_⟩
   have kx2_h := lH kx2; have k22_h := lH k22; have b2_h := lH b2; have s1_h := lH s1; have s2_h := lH s2; have kxs_h := lH kxs; have hB2_h := lH hB2; have hb2_h := lH hb2; clear kx2 k22 b2 s1 s2 kxs hB2 hb2
   simp only [Act.put, nS]
   refine oneH 3 rfl (by kernel_rfl) (by rfl) (fun K hK => ?_)
   go_simp
   refine hK _ _ kxs_h.out ?_
   clear hK K
   refine tkH 4 ?_ rfl kxs_h.out (fun W' hW' => ?_) ?_; rotate_left; · (skip; clear hW'; go_simp; first | done | with_reducible rfl)
   simp only [Act.put, nS]
   refine doneH (by kernel_rfl) ?_
   go_wp2_with (fail)
   refine bodyPost_ret (t_results_cell_tmp rfl _ _ (w.heap.size + 2) _ _ (0, 0) _ rfl s1_h.out Tryz.underlying147 rfl (by kernel_rfl)) rfl ?_
   exact ⟨_, rfl, rfl, hB2_h.out⟩
theorem parse_none {l : List Nd} {k : Nat} {n : Nd} {st : List Tr} (h : parse [] (l.take k) = some st) (hn : l[k]? = some n) (hs : stepT st n = none) : treeM l = none := by
 have hk := (List.getElem?_eq_some_iff.1 hn).1
 have e : l = l.take (k + 1) ++ l.drop (k + 1) := (List.take_append_drop _ _).symm
 have e2 : l.take (k + 1) = l.take k ++ [n] := by rw [List.take_add_one, hn]; rfl
 have : parse [] l = none := by
  rw [e, parse_append, e2, parse_snoc, h, Option.bind_some, hs]; rfl
 unfold treeM
 rw [this]
 split <;> rfl
theorem parse_more {l : List Nd} {k : Nat} {n : Nd} {st st' : List Tr} (h : parse [] (l.take k) = some st) (hn : l[k]? = some n) (hs : stepT st n = some st') : parse [] (l.take (k + 1)) = some st' := by
 have e2 : l.take (k + 1) = l.take k ++ [n] := by rw [List.take_add_one, hn]; rfl
 rw [e2, parse_snoc, h, Option.bind_some, hs]
def oneOf : List Tr → Option Tr
 | [t] => some t
 | _ => none
theorem treeM_of {l : List Nd} {st : List Tr} (h : 1 ≤ l.length ∧ l.length ≤ 400) (hp : parse [] l = some st) : treeM l = oneOf st := by
 unfold treeM
 rw [if_pos h, hp]
 match st with
 | [] => rfl
 | [_] => rfl
 | _ :: _ :: _ => rfl
theorem oneOf_some : ∀ {st : List Tr} {t : Tr}, oneOf st = some t → st = [t]
 | [_], _, h => by rw [Option.some.inj h]
theorem oneOf_one : ∀ {st : List Tr} {n : Nat}, n = st.length → ((n : Int) == 1) = (oneOf st).isSome
 | [], n, h => by obtain rfl : n = 0 := h; rfl
 | [_], n, h => by obtain rfl : n = 1 := h; rfl
 | _ :: _ :: r, n, h => by
   have : ((n : Int) == 1) = false := by simp only [beq_eq_false_iff_ne]; simp only [List.length_cons] at h; omega
   rw [this]; rfl
theorem step_leaf {st : List Tr} {n : Nd} (hj : ¬ isJoin n) : stepT st n = if leafB n = true then some (.leaf n :: st) else none := by
 unfold stepT; rw [if_neg hj]
theorem step_none {st : List Tr} {n : Nd} (hj : isJoin n) (h : n.2.1 ≠ 0 ∨ n.2.2 ≠ noName ∨ st.length < 2) : stepT st n = none := by
 unfold stepT
 rw [if_pos hj]
 match st, h with
 | [], _ => rfl
 | [_], _ => rfl
 | b :: a :: r, h =>
   simp only [List.length_cons]  at h
   simp only
   rw [if_neg]
   rintro ⟨h1, h2, _⟩
   rcases h with h | h | h
   · exact h h1
   · exact h h2
   · omega
theorem step_join {r : List Tr} {a b : Tr} (p : Bool) : stepT (b :: a :: r) (joinNd p) = if joinB p (ty a) (ty b) = true then some (.node p a b :: r) else none := by
 unfold stepT
 rw [if_pos (joinNd_is p)]
 simp only [joinNd_kd]
 by_cases h : joinB p (ty a) (ty b) = true
 · rw [if_pos ⟨rfl, rfl, h⟩, if_pos h]
 · rw [if_neg (fun hh => h hh.2.2), if_neg h]
theorem name_eq {s : ByteArray} (h : s.toList = []) : s = noName := name_yes (by simp [h])
theorem name_ne {s : ByteArray} (h : ¬ s.toList = []) : s ≠ noName := name_no (by simpa using h)
theorem two_of {st : List Tr} {q : Nat} (h : q + 2 = st.length) : ∃ b a r, st = b :: a :: r ∧ r.length = q := by
 match st, h with
 | [], h => simp at h
 | [_], h => simp at h
 | b :: a :: r, h => exact ⟨b, a, r, rfl, by simp at h; omega⟩
end Go.Proofs.YtahnhblodfdfhaaGreatDoor
