/-
  THE WALKS: ComposeSystems.

  COMPOSITION OF SYSTEMS: the plain law.
-/
import Derived.Test.YtpfidjegdpkhdaaDoorSyO
namespace Go.Proofs.YtpfidjegdpkhdaaDoor
open Go.RowKit

/-- Three runs of places. -/
def at3 (n1 o1 n2 o2 n3 o3 : Nat) : List Nat := (List.range n1).map (· + o1) ++ ((List.range n2).map (· + o2) ++ (List.range n3).map (· + o3))
@[simp] theorem at3_length (n1 o1 n2 o2 n3 o3 : Nat) : (at3 n1 o1 n2 o2 n3 o3).length = n1 + (n2 + n3) := by simp [at3]
theorem range_get {n o j : Nat} (h : j < n) : ((List.range n).map (· + o))[j]? = some (j + o) := by simp [h]
theorem at3_get {n1 o1 n2 o2 n3 o3 j : Nat} (hj : j < n1 + n2 + n3) : (at3 n1 o1 n2 o2 n3 o3).getD j 0 = if j < n1 then j + o1 else if j < n1 + n2 then j - n1 + o2 else j - (n1 + n2) + o3 := by
  unfold at3
  simp only [List.getD, List.getElem?_append, List.length_map, List.length_range]
  split
  · rename_i h; rw [range_get h]; rfl
  · rename_i h
    by_cases h2 : j < n1 + n2
    · rw [if_pos (by omega), if_pos h2, range_get (by omega)]; rfl
    · rw [if_neg (by omega), if_neg h2, range_get (by omega)]
      show j - n1 - n2 + o3 = _
      omega
theorem range_fromI (n o : Nat) : ((List.range n).map (· + o)).map (fun i => ((i : Nat) : Int)) = fromI (o : Int) n := by
  unfold fromI
  rw [List.map_map]
  refine List.map_congr_left fun i _ => ?_
  simp
theorem at3_ints (n1 o1 n2 o2 n3 o3 : Nat) : ((at3 n1 o1 n2 o2 n3 o3).map fun i => ((i : Nat) : Int)) = fromI (o1 : Int) n1 ++ (fromI (o2 : Int) n2 ++ fromI (o3 : Int) n3) := by
  unfold at3
  rw [List.map_append, List.map_append, range_fromI, range_fromI, range_fromI]
theorem rangeI_from (n : Nat) : rangeI n = fromI 0 n := by unfold rangeI fromI; simp
theorem at3_lt {n1 o1 n2 o2 n3 o3 N : Nat} (h1 : n1 = 0 ∨ n1 + o1 ≤ N) (h2 : n2 = 0 ∨ n2 + o2 ≤ N) (h3 : n3 = 0 ∨ n3 + o3 ≤ N) : ∀ i, i ∈ at3 n1 o1 n2 o2 n3 o3 → i < N := by
  intro i hi
  unfold at3 at hi
  simp only [List.mem_append, List.mem_map, List.mem_range] at hi
  rcases hi with ⟨j, hj, rfl⟩ | ⟨j, hj, rfl⟩ | ⟨j, hj, rfl⟩ <;> omega
/-- The places of a row of the first system, and of the second: lf, md, vis, jt: the left variables, the shared ones, the visible ones, where the shared ones begin. -/
def cA (lf a1 vis jt j : Nat) : Nat := if j < lf then j else if j < a1 then j - lf + jt else j - a1 + vis
def cB (md b1 lf va jt j : Nat) : Nat := if j < md then j + jt else if j < b1 then j - md + lf else j - b1 + va
theorem place_cA {lf md a1 a2 vis jt N : Nat} {u : List Int} (hu : u.length = a1 + a2) (h1 : a1 = lf + md) : placeV N (at3 lf 0 md jt a2 vis) u = layTo N (cA lf a1 vis jt) u (a1 + a2) := by
  unfold placeV
  rw [placeTo_lay, hu]
  refine layTo_congr fun j hj => ?_
  rw [at3_get (by omega)]
  unfold cA
  rw [h1]; simp
theorem place_cB {lf md b1 b2 va jt rt N : Nat} {u : List Int} (hu : u.length = b1 + b2) (h1 : b1 = md + rt) : placeV N (at3 md jt rt lf b2 va) u = layTo N (cB md b1 lf va jt) u (b1 + b2) := by
  unfold placeV
  rw [placeTo_lay, hu]
  refine layTo_congr fun j hj => ?_
  rw [at3_get (by omega)]
  unfold cB
  rw [h1]
/-- The rows of the composition. -/
def coRows (md : Nat) (s t : Sys) : List (List Int) :=
  s.2.2.map (fun u => layTo ((s.1.toNat - md) + (t.1.toNat - md) + (s.2.1.toNat + t.2.1.toNat + md)) (cA (s.1.toNat - md) s.1.toNat ((s.1.toNat - md) + (t.1.toNat - md)) ((s.1.toNat - md) + (t.1.toNat - md) + (s.2.1.toNat + t.2.1.toNat))) u (s.1.toNat + s.2.1.toNat)) ++
  t.2.2.map (fun u => layTo ((s.1.toNat - md) + (t.1.toNat - md) + (s.2.1.toNat + t.2.1.toNat + md)) (cB md t.1.toNat (s.1.toNat - md) ((s.1.toNat - md) + (t.1.toNat - md) + s.2.1.toNat) ((s.1.toNat - md) + (t.1.toNat - md) + (s.2.1.toNat + t.2.1.toNat))) u (t.1.toNat + t.2.1.toNat))
def coV (mid : Int) (s t : Sys) : Sys := ((s.1 - mid) + (t.1 - mid), s.2.1 + t.2.1 + mid, coRows mid.toNat s t)
def coM (p mid : Int) (s t : Sys) : Sys × Bool := if sysB p s && (sysB p t && (decide (0 ≤ mid) && decide (mid ≤ min s.1 t.1))) then vsM p (coV mid s t) else ((0, 0, []), false)
theorem vsM_ok {p : Int} {M : Sys} : OkR (vsM p M).1.2.2 := by
  unfold vsM
  split
  · rename_i h; exact okR_sys h
  · exact okR_nil
theorem coM_ok {p mid : Int} {s t : Sys} : OkR (coM p mid s t).1.2.2 := by
  unfold coM
  split
  · exact vsM_ok
  · exact okR_nil
theorem co_ok {p mid : Int} {s t : Sys} (hs : SysOk p s) (ht : SysOk p t) (_h0 : 0 ≤ mid) (h1 : mid ≤ s.1) (h2 : mid ≤ t.1) : OkR (coV mid s t).2.2 := by
  have := hs.len; have := ht.len; have := hs.vis; have := hs.hid; have := ht.vis; have := ht.hid
  refine okR_len (k := 0) (by unfold coV coRows; rw [List.length_append, List.length_map, List.length_map]; omega) (fun x hx => ?_) rfl
  rcases List.mem_append.1 hx with hx | hx
  · obtain ⟨u, hu, rfl⟩ := List.mem_map.1 hx
    rw [layTo_length]; omega
  · obtain ⟨u, hu, rfl⟩ := List.mem_map.1 hx
    rw [layTo_length]; omega

set_option maxRecDepth 100000 in
set_option maxHeartbeats 8000000 in
theorem compose_i (p mid : Int) {v v' : Value} {s t : Sys} {fp fp' : List Nat} (w : World) (ha : OwSys w v s fp) (hb : OwSys w v' t fp') (hs : SysOk p s) (ht : SysOk p t) (hr : sysB p s = true) (hq : sysB p t = true) (hm0 : 0 ≤ mid) (hm1 : mid ≤ s.1) (hm2 : mid ≤ t.1) (hT : Tab w) :
    Calls Tryd.prog 25 #[.int .i64 p, v, v', .int .i64 mid] w fun e w' => ∃ v' fp', e = .returned (.tuple #[v', .bool (vsM p (coV mid s t)).2]) ∧ OwSys w' v' (vsM p (coV mid s t)).1 fp' ∧ FreshL w.heap.size fp' ∧ Below w.heap.size w w' := by
  have hokm := co_ok hs ht hm0 hm1 hm2
  have hG0 := fun (W' : World) (hb' : Below w.heap.size w W') => isSystem_any p W' (ha.rd.below hb') (hT.below hb' hT.lt) (okR_sys hr).1 (okR_sys hr).2.1
  have hG0' := fun (W' : World) (hb' : Below w.heap.size w W') => isSystem_any p W' (hb.rd.below hb') (hT.below hb' hT.lt) (okR_sys hq).1 (okR_sys hq).2.1
  simp only [hr] at hG0
  simp only [hq] at hG0'
  clear hr hq
  obtain ⟨Aa, ca, ga, rfl, hLa0, hOa, hfpa⟩ := ha
  obtain ⟨ia, ja, La⟩ := s
  have hva : 0 ≤ ia ∧ ia ≤ 24 := hs.vis
  have hha : 0 ≤ ja ∧ ja ≤ 100 := hs.hid
  have hflda : fieldB p = true := hs.fld
  have hrowa : ∀ u, u ∈ La → (u.length : Int) = ia + ja ∧ Res p u := fun u hu => ⟨by have := (hs.mat.row u hu).1; have e : ((ia, ja, La) : Sys).1 + ((ia, ja, La) : Sys).2.1 = ia + ja := rfl; rw [e] at this; omega, (hs.mat.row u hu).2⟩
  have hlena : La.length ≤ 160 := hs.len
  clear hs
  obtain ⟨a1, rfl⟩ : ∃ n : Nat, ia = (n : Int) := ⟨ia.toNat, by omega⟩
  obtain ⟨a2, rfl⟩ : ∃ n : Nat, ja = (n : Int) := ⟨ja.toNat, by omega⟩
  have hLa : La = ga.map (fun h : Hd => h.2.2) := hLa0
  clear hLa0
  obtain ⟨ma, hma⟩ : ∃ m, m = ga.length := ⟨_, rfl⟩
  have hLma : La.length = ma := by rw [hLa, List.length_map, hma]
  have hma160 : (ma : Int) ≤ 160 := by have := hlena; rw [hLma] at this; omega
  have ha1b : (a1 : Int) ≤ 24 := hva.2
  have ha2b : (a2 : Int) ≤ 100 := hha.2
  clear hva hha
  obtain ⟨Ab, cb, gb, rfl, hLb0, hOb, hfpb⟩ := hb
  obtain ⟨ib, jb, Lb⟩ := t
  have hvb : 0 ≤ ib ∧ ib ≤ 24 := ht.vis
  have hhb : 0 ≤ jb ∧ jb ≤ 100 := ht.hid
  have hfldb : fieldB p = true := ht.fld
  have hrowb : ∀ u, u ∈ Lb → (u.length : Int) = ib + jb ∧ Res p u := fun u hu => ⟨by have := (ht.mat.row u hu).1; have e : ((ib, jb, Lb) : Sys).1 + ((ib, jb, Lb) : Sys).2.1 = ib + jb := rfl; rw [e] at this; omega, (ht.mat.row u hu).2⟩
  have hlenb : Lb.length ≤ 160 := ht.len
  clear ht
  obtain ⟨b1, rfl⟩ : ∃ n : Nat, ib = (n : Int) := ⟨ib.toNat, by omega⟩
  obtain ⟨b2, rfl⟩ : ∃ n : Nat, jb = (n : Int) := ⟨jb.toNat, by omega⟩
  have hLb : Lb = gb.map (fun h : Hd => h.2.2) := hLb0
  clear hLb0
  obtain ⟨mb, hmb⟩ : ∃ m, m = gb.length := ⟨_, rfl⟩
  have hLmb : Lb.length = mb := by rw [hLb, List.length_map, hmb]
  have hmb160 : (mb : Int) ≤ 160 := by have := hlenb; rw [hLmb] at this; omega
  have hb1b : (b1 : Int) ≤ 24 := hvb.2
  have hb2b : (b2 : Int) ≤ 100 := hhb.2
  clear hvb hhb
  obtain ⟨md, rfl⟩ : ∃ n : Nat, mid = (n : Int) := ⟨mid.toNat, by omega⟩
  have hma1 : md ≤ a1 := by have : (md : Int) ≤ (a1 : Int) := hm1; omega
  have hmb1 : md ≤ b1 := by have : (md : Int) ≤ (b1 : Int) := hm2; omega
  obtain ⟨lf, hlf⟩ : ∃ n, n = a1 - md := ⟨_, rfl⟩
  obtain ⟨rt, hrt⟩ : ∃ n, n = b1 - md := ⟨_, rfl⟩
  obtain ⟨vis, hvis⟩ : ∃ n, n = lf + rt := ⟨_, rfl⟩
  obtain ⟨ab, hab⟩ : ∃ n, n = a2 + b2 := ⟨_, rfl⟩
  obtain ⟨hd, hhd⟩ : ∃ n, n = ab + md := ⟨_, rfl⟩
  obtain ⟨va, hva⟩ : ∃ n, n = vis + a2 := ⟨_, rfl⟩
  obtain ⟨jt, hjt⟩ : ∃ n, n = vis + ab := ⟨_, rfl⟩
  obtain ⟨N, hN⟩ : ∃ n, n = vis + hd := ⟨_, rfl⟩
  have i1 : (a1 : Int) - (md : Int) = (lf : Int) := by omega
  have i2 : (b1 : Int) - (md : Int) = (rt : Int) := by omega
  have i3 : (lf : Int) + (rt : Int) = (vis : Int) := by omega
  have i4 : (a2 : Int) + (b2 : Int) = (ab : Int) := by omega
  have i5 : (ab : Int) + (md : Int) = (hd : Int) := by omega
  have i6 : (vis : Int) + (a2 : Int) = (va : Int) := by omega
  have i7 : (va : Int) + (b2 : Int) = (jt : Int) := by omega
  have i8 : (vis : Int) + (hd : Int) = (N : Int) := by omega
  obtain ⟨X, hX⟩ : ∃ X, X = La.map (fun u => layTo N (cA lf a1 vis jt) u (a1 + a2)) ++ Lb.map (fun u => layTo N (cB md b1 lf va jt) u (b1 + b2)) := ⟨_, rfl⟩
  have hgoal : coV (md : Int) ((a1 : Int), (a2 : Int), La) ((b1 : Int), (b2 : Int), Lb) = ((vis : Int), (hd : Int), X) := by
    unfold coV
    refine Prod.ext ?_ (Prod.ext ?_ ?_)
    · show (a1 : Int) - md + ((b1 : Int) - md) = vis; omega
    · show (a2 : Int) + b2 + md = hd; omega
    · show coRows _ _ _ = X
      rw [hX, hN, hjt, hva, hhd, hab, hvis, hlf, hrt]; rfl
  have hokX : OkR X := by
    have e : ((vis : Int), (hd : Int), X).2.2 = X := rfl
    rw [← e, ← hgoal]; exact hokm
  have b1b : (lf : Int) ≤ 24 := by omega
  have b2b : (rt : Int) ≤ 24 := by omega
  have b3b : (vis : Int) ≤ 48 := by omega
  have b4b : (ab : Int) ≤ 200 := by omega
  have b5b : (hd : Int) ≤ 224 := by omega
  have b6b : (va : Int) ≤ 148 := by omega
  have b7b : (jt : Int) ≤ 248 := by omega
  have b8b : N ≤ 272 := by omega
  have b9b : (md : Int) ≤ 24 := by omega
  have hla : a1 = lf + md := by omega
  have hlb : b1 = md + rt := by omega
  rw [hgoal]
  obtain ⟨M, hM⟩ : ∃ M, M = vsM p ((vis : Int), (hd : Int), X) := ⟨_, rfl⟩
  rw [← hM]
  unfold vsM at hM
  show Calls Tryd.prog _ #[.int .i64 p, .agg #[.int .i64 (a1 : Int), .int .i64 (a2 : Int), .slice Aa ga.length ca], .agg #[.int .i64 (b1 : Int), .int .i64 (b2 : Int), .slice Ab gb.length cb], .int .i64 (md : Int)] w _
  rw [← hma, ← hmb]
  simp only [← hma] at hG0
  simp only [← hmb] at hG0'
  obtain ⟨W, hW, bW, k0, k1, k2⟩ := alloc3 w (.cells #[.int .i64 (a1 : Int), .int .i64 (a2 : Int), .slice Aa ma ca] tSys) (.cells #[.int .i64 (b1 : Int), .int .i64 (b2 : Int), .slice Ab mb cb] tSys) (.cells #[.int .i64 0, .int .i64 0, .slice none 0 0] tSys)
  have hga : ∀ x, x ∈ ga → x.2.2.length = a1 + a2 := fun x hx => by have := (hrowa _ (by rw [hLa]; exact List.mem_map_of_mem hx)).1; omega
  have hgb : ∀ x, x ∈ gb → x.2.2.length = b1 + b2 := fun x hx => by have := (hrowb _ (by rw [hLb]; exact List.mem_map_of_mem hx)).1; omega
  have hPa : La.map (placeV N (at3 lf 0 md jt a2 vis)) = La.map (fun u => layTo N (cA lf a1 vis jt) u (a1 + a2)) := by
    refine List.map_congr_left fun u hu => ?_
    have := (hrowa u hu).1
    exact place_cA (by omega) hla
  have hPb : Lb.map (placeV N (at3 md jt rt lf b2 va)) = Lb.map (fun u => layTo N (cB md b1 lf va jt) u (b1 + b2)) := by
    refine List.map_congr_left fun u hu => ?_
    have := (hrowb u hu).1
    exact place_cB (by omega) hlb
  have hAa : ∀ i, i ∈ at3 lf 0 md jt a2 vis → i < N := at3_lt (by omega) (by omega) (by omega)
  have hAb : ∀ i, i ∈ at3 md jt rt lf b2 va → i < N := at3_lt (by omega) (by omega) (by omega)
  have hTW := hT.below bW hT.lt
  have hzw2 := box_lt k2
  have hrda := hOa.rd.below bW
  have hrdb := hOb.rd.below bW
  have hG := hG0 W bW
  have hG' := fun (W' : World) (hb' : Below W.heap.size W W') => hG0' W' (below_trans bW hb' bW.size)
  obtain ⟨⟨c0, c1, c2⟩, f0, f1, f2⟩ := box3 k0
  have hsz : ∀ (V : Value) (W' : World), Calls Tryd.prog 77 #[.agg #[.int .i64 (vis : Int), .int .i64 (hd : Int), V]] W' fun e w' => e = .returned (.int .i64 (N : Int)) ∧ Below W'.heap.size W' w' := fun V W' => by
    have := sysSize_any (vis : Int) (hd : Int) V W' (by omega) (by omega)
    rw [i8] at this; exact this
  have hlA : lf + (md + a2) = a1 + a2 := by omega
  have hlB : md + (rt + b2) = b1 + b2 := by omega
  clear hgoal hokm hOa hOb hT hG0 hG0'
  have hLa_h := Lib.hid hLa
  have hLb_h := Lib.hid hLb
  have hma_h := Lib.hid hma
  have hmb_h := Lib.hid hmb
  have hLma_h := Lib.hid hLma
  have hLmb_h := Lib.hid hLmb
  have bW_h := Lib.hid bW
  have k0_h := Lib.hid k0
  have k1_h := Lib.hid k1
  have k2_h := Lib.hid k2
  have hrda_h := Lib.hid hrda
  have hrdb_h := Lib.hid hrdb
  have hrowa_h := Lib.hid hrowa
  have hrowb_h := Lib.hid hrowb
  have hlena_h := Lib.hid hlena
  have hlenb_h := Lib.hid hlenb
  have hflda_h := Lib.hid hflda
  have hfldb_h := Lib.hid hfldb
  have hX_h := Lib.hid hX
  have hfpa_h := Lib.hid hfpa
  have hfpb_h := Lib.hid hfpb
  have hM_h := Lib.hid hM
  have hga_h := Lib.hid hga
  have hgb_h := Lib.hid hgb
  have hPa_h := Lib.hid hPa
  have hPb_h := Lib.hid hPb
  have hAa_h := Lib.hid hAa
  have hAb_h := Lib.hid hAb
  have hTW_h := Lib.hid hTW
  have hsz_h := Lib.hid hsz
  have hokX_h := Lib.hid hokX
  have hG_h := Lib.hid hG
  have hG'_h := Lib.hid hG'
  have hlf_h := Lib.hid hlf
  have hrt_h := Lib.hid hrt
  have hvis_h := Lib.hid hvis
  have hab_h := Lib.hid hab
  have hhd_h := Lib.hid hhd
  have hva_h := Lib.hid hva
  have hjt_h := Lib.hid hjt
  have hN_h := Lib.hid hN
  have i1_h := Lib.hid i1
  have i2_h := Lib.hid i2
  have i3_h := Lib.hid i3
  have i4_h := Lib.hid i4
  have i5_h := Lib.hid i5
  have i6_h := Lib.hid i6
  have i7_h := Lib.hid i7
  have i8_h := Lib.hid i8
  have hla_h := Lib.hid hla
  have hlb_h := Lib.hid hlb
  have hlA_h := Lib.hid hlA
  have hlB_h := Lib.hid hlB
  have hzw2_h := Lib.hid hzw2
  clear hLa hLb hma hmb hLma hLmb bW k0 k1 k2 hrda hrdb hrowa hrowb hlena hlenb hflda hfldb hX hfpa hfpb hM hga hgb hPa hPb hAa hAb hTW hsz hokX hG hG' hlf hrt hvis hab hhd hva hjt hN i1 i2 i3 i4 i5 i6 i7 i8 hla hlb hlA hlB hzw2
  go_enter Tryd.func25, Tryd.ntmps25
  go_upto_region 1 with (fail)
  rw [← hW]
  clear hW
  have dA : (decide ((0 : Int) ≤ (md : Int)) && decide ((md : Int) ≤ (a1 : Int))) = true := by simp; omega
  have dB : (decide ((0 : Int) ≤ (md : Int)) && decide ((md : Int) ≤ (b1 : Int))) = true := by simp; omega
  have dA_h := Lib.hid dA
  have dB_h := Lib.hid dB
  clear dA dB
  go_cut [35] (fun sx wx => sx = .bool false ∧ Below W.heap.size W wx)
  case first =>
    go_wp2_with (fail)
    refine (hG_h.out).mono ?_
    rintro e w1 ⟨rfl, hb1⟩
    clear c0 c1 c2 f0 f1 f2
    replace k0_h := Lib.hid (box_below k0_h.out hb1)
    replace k1_h := Lib.hid (box_below k1_h.out hb1)
    replace k2_h := Lib.hid (box_below k2_h.out hb1)
    have hG1 := hG'_h.out w1 hb1
    obtain ⟨⟨c0, c1, c2⟩, f0, f1, f2⟩ := box3 k1_h.out
    have hb1_h := Lib.hid hb1
    have hG1_h := Lib.hid hG1
    clear hb1 hG1
    go_wp2_with (fail)
    refine (hG1_h.out).mono ?_
    rintro e w2 ⟨rfl, hb2⟩
    clear c0 c1 c2 f0 f1 f2
    replace k0_h := Lib.hid (box_below k0_h.out hb2)
    replace k1_h := Lib.hid (box_below k1_h.out hb2)
    replace k2_h := Lib.hid (box_below k2_h.out hb2)
    have hbW2 := below_trans hb1_h.out hb2 hb1_h.out.size
    obtain ⟨⟨c0, c1, c2⟩, f0, f1, f2⟩ := box3 k0_h.out
    obtain ⟨⟨d0, d1, d2⟩, g0, g1, g2⟩ := box3 k1_h.out
    have hbW2_h := Lib.hid hbW2
    have hb2_h := Lib.hid hb2
    clear hbW2 hb2
    go_wp2_with (fail)
    all_goals
      refine (within_any _ 0 _ _).mono ?_
      rintro e w3 ⟨rfl, rfl⟩
      first
        | rw [dA_h.out]
        | rw [dB_h.out]
      go_wp2_with (fail)
      go_meet
      exact ⟨rfl, hbW2_h.out⟩
  case rest =>
    obtain ⟨rfl, hbc⟩ := hcut
    obtain ⟨w2, rfl⟩ : ∃ x, x = wc := ⟨_, rfl⟩
    clear c0 c1 c2 f0 f1 f2 hG_h hG'_h dA_h dB_h
    replace k0_h := Lib.hid (box_below k0_h.out hbc)
    replace k1_h := Lib.hid (box_below k1_h.out hbc)
    replace k2_h := Lib.hid (box_below k2_h.out hbc)
    have hB2 := below_trans bW_h.out hbc bW_h.out.size
    obtain ⟨⟨c0, c1, c2⟩, f0, f1, f2⟩ := box3 k0_h.out
    obtain ⟨⟨d0, d1, d2⟩, g0, g1, g2⟩ := box3 k1_h.out
    have i1 := i1_h.out
    have i2 := i2_h.out
    have i1w : IntKind.i64.wrap ((a1 : Int) - (md : Int)) = (lf : Int) := by rw [i1]; exact IntWalk.i64_in _ (by omega)
    have i2w : IntKind.i64.wrap ((b1 : Int) - (md : Int)) = (rt : Int) := by rw [i2]; exact IntWalk.i64_in _ (by omega)
    have hbc_h := Lib.hid hbc
    have hB2_h := Lib.hid hB2
    clear hbc hB2
    go_wp2_with (fail)
    go_quiet (fail)
    obtain ⟨Wd, hWd⟩ : ∃ Wd, Wd = w2.drewN nq := ⟨_, rfl⟩
    have hbd : Below w2.heap.size w2 Wd := by rw [hWd]; exact below_drewN (Below.refl _ _) nq
    rw [← hWd]
    clear hWd c0 c1 c2 f0 f1 f2 d0 d1 d2 g0 g1 g2 i1 i2 i1w i2w
    replace k0_h := Lib.hid (box_below k0_h.out hbd)
    replace k1_h := Lib.hid (box_below k1_h.out hbd)
    replace k2_h := Lib.hid (box_below k2_h.out hbd)
    have hbc2 := below_trans hbc_h.out hbd hbc_h.out.size
    obtain ⟨⟨c0, c1, c2⟩, f0, f1, f2⟩ := box3 k0_h.out
    obtain ⟨⟨d0, d1, d2⟩, g0, g1, g2⟩ := box3 k1_h.out
    have i3 := i3_h.out
    have i4 := i4_h.out
    have i5 := i5_h.out
    have hbc2_h := Lib.hid hbc2
    have hbd_h := Lib.hid hbd
    clear hbc2 hbd
    go_upto_region 5 with (fail)
    obtain ⟨W4, hW4⟩ : ∃ W4, W4 = Wd.alloc (.cells #[.int .i64 (vis : Int), .int .i64 (hd : Int), .slice none 0 0] tSys) := ⟨_, rfl⟩
    have b4 := below_alloc Wd (.cells #[.int .i64 (vis : Int), .int .i64 (hd : Int), .slice none 0 0] tSys)
    have k4 := heap_alloc_new Wd (.cells #[.int .i64 (vis : Int), .int .i64 (hd : Int), .slice none 0 0] tSys)
    rw [← hW4] at b4 k4
    have hW4s : W4.heap.size ≤ Wd.heap.size + 1 := by rw [hW4]; simp
    obtain ⟨bx, hbx⟩ : ∃ bx, bx = Wd.heap.size := ⟨_, rfl⟩
    have hzb := box_lt k2_h.out
    rw [← hbx] at k4 hW4s hzb
    rw [← hW4, ← hbx]
    have hz4 := box_lt k4
    have hWbx : W.heap.size ≤ bx := by rw [hbx]; exact hbc2_h.out.size
    have hBW : Below W.heap.size W W4 := below_trans hbc2_h.out b4 hbc2_h.out.size
    clear c0 c1 c2 f0 f1 f2 d0 d1 d2 g0 g1 g2 hW4 i3 i4 i5
    replace k0_h := Lib.hid (box_below k0_h.out b4)
    replace k1_h := Lib.hid (box_below k1_h.out b4)
    replace k2_h := Lib.hid (box_below k2_h.out b4)
    have hB := Below.refl W4.heap.size W4
    obtain ⟨⟨c0, c1, c2⟩, f0, f1, f2⟩ := box3 k0_h.out
    obtain ⟨⟨d0, d1, d2⟩, g0, g1, g2⟩ := box3 k1_h.out
    obtain ⟨⟨x0, x1, x2⟩, x3, x4, x5⟩ := box3 k4
    have i6 := i6_h.out
    have i7 := i7_h.out
    have hC := from_any (jt : Int) md W4 (by omega) (by omega)
    have b4_h := Lib.hid b4
    have k4_h := Lib.hid k4
    have hbx_h := Lib.hid hbx
    have hB_h := Lib.hid hB
    have hBW_h := Lib.hid hBW
    have hC_h := Lib.hid hC
    clear b4 k4 hbx hB hBW hC
    go_wp2_with (fail)
    refine (hC_h.out).mono ?_
    rintro e w5 ⟨A5, c5, rfl, hi5, hf5, hb⟩
    rw [fromI_length]
    clear c0 c1 c2 f0 f1 f2 d0 d1 d2 g0 g1 g2 x0 x1 x2 x3 x4 x5 i6 i7
    replace k0_h := Lib.hid (box_below k0_h.out hb)
    replace k1_h := Lib.hid (box_below k1_h.out hb)
    replace k2_h := Lib.hid (box_below k2_h.out hb)
    replace k4_h := Lib.hid (box_below k4_h.out hb)
    replace hB_h := Lib.hid (below_trans hB_h.out hb hB_h.out.size)
    have hi5_h := Lib.hid hi5
    clear hi5
    clear hf5 hb
    obtain ⟨⟨c0, c1, c2⟩, f0, f1, f2⟩ := box3 k0_h.out
    have hbd : Below w5.heap.size w5 w5.drew := below_drewN (Below.refl _ _) 1
    have hbd_h := Lib.hid hbd
    clear hbd
    go_wp2_with (fail)
    clear c0 c1 c2 f0 f1 f2
    refine beginH (fun w' => (w'.heap[w.heap.size]? = some (.cells #[.int .i64 (a1 : Int), .int .i64 (a2 : Int), .slice Aa ma ca] tSys)) ∧ (w'.heap[bx]? = some (.cells #[.int .i64 (vis : Int), .int .i64 (hd : Int), .slice none 0 0] tSys))) (by kernel_rfl) ?_
    have hb := hbd_h.out
    generalize w5.drew = w6 at hb ⊢
    clear hbd_h
    replace k0_h := Lib.hid (box_below k0_h.out hb)
    replace k1_h := Lib.hid (box_below k1_h.out hb)
    replace k2_h := Lib.hid (box_below k2_h.out hb)
    replace k4_h := Lib.hid (box_below k4_h.out hb)
    replace hi5_h := Lib.hid (hi5_h.out.below hb)
    replace hB_h := Lib.hid (below_trans hB_h.out hb hB_h.out.size)
    have hF6 : (w6.heap[w.heap.size]? = some (.cells #[.int .i64 (a1 : Int), .int .i64 (a2 : Int), .slice Aa ma ca] tSys)) ∧ (w6.heap[bx]? = some (.cells #[.int .i64 (vis : Int), .int .i64 (hd : Int), .slice none 0 0] tSys)) := ⟨k0_h.out, k4_h.out⟩
    have hF6_h := Lib.hid hF6
    clear hF6
    clear hb
    refine takeH 0 (v := ?_) rfl (by kernel_rfl) (by kernel_rfl) (by kernel_rfl) (fun _ _ _ h => h) hF6_h.out (by rfl) (fun W' hW' => ?_) ?_; rotate_left; · (obtain ⟨⟨x0, x1, x2⟩, x3, x4, x5⟩ := box3 hW'.1; obtain ⟨⟨y0, y1, y2⟩, y3, y4, y5⟩ := box3 hW'.2; clear hW'; go_simp; first | done | with_reducible rfl)
    simp only [Act.put, List.setIfInBounds_toArray, List.set_cons_zero, List.set_cons_succ]
    refine takeH 2 (v := ?_) rfl (by kernel_rfl) (by kernel_rfl) (by kernel_rfl) (fun _ _ _ h => h) hF6_h.out (by rfl) (fun W' hW' => ?_) ?_; rotate_left; · (obtain ⟨⟨x0, x1, x2⟩, x3, x4, x5⟩ := box3 hW'.1; obtain ⟨⟨y0, y1, y2⟩, y3, y4, y5⟩ := box3 hW'.2; clear hW'; go_simp; first | done | with_reducible rfl)
    simp only [Act.put, List.setIfInBounds_toArray, List.set_cons_zero, List.set_cons_succ]
    refine takeH 3 (v := ?_) rfl (by kernel_rfl) (by kernel_rfl) (by kernel_rfl) (fun _ _ _ h => h) hF6_h.out (by rfl) (fun W' hW' => ?_) ?_; rotate_left; · (obtain ⟨⟨x0, x1, x2⟩, x3, x4, x5⟩ := box3 hW'.1; obtain ⟨⟨y0, y1, y2⟩, y3, y4, y5⟩ := box3 hW'.2; clear hW'; go_simp; first | done | with_reducible rfl)
    simp only [Act.put, List.setIfInBounds_toArray, List.set_cons_zero, List.set_cons_succ]
    refine takeH 4 (v := ?_) rfl (by kernel_rfl) (by kernel_rfl) (by kernel_rfl) (fun _ _ _ h => h) hF6_h.out (by rfl) (fun W' hW' => ?_) ?_; rotate_left; · (obtain ⟨⟨x0, x1, x2⟩, x3, x4, x5⟩ := box3 hW'.1; obtain ⟨⟨y0, y1, y2⟩, y3, y4, y5⟩ := box3 hW'.2; clear hW'; go_simp; first | done | with_reducible rfl)
    simp only [Act.put, List.setIfInBounds_toArray, List.set_cons_zero, List.set_cons_succ]
    refine takeH 5 (v := ?_) rfl (by kernel_rfl) (by kernel_rfl) (by kernel_rfl) (fun _ _ _ h => h) hF6_h.out (by rfl) (fun W' hW' => ?_) ?_; rotate_left; · (obtain ⟨⟨x0, x1, x2⟩, x3, x4, x5⟩ := box3 hW'.1; obtain ⟨⟨y0, y1, y2⟩, y3, y4, y5⟩ := box3 hW'.2; clear hW'; go_simp; first | done | with_reducible rfl)
    simp only [Act.put, List.setIfInBounds_toArray, List.set_cons_zero, List.set_cons_succ]
    refine takeH 6 (v := ?_) rfl (by kernel_rfl) (by kernel_rfl) (by kernel_rfl) (fun _ _ _ h => h) hF6_h.out (by rfl) (fun W' hW' => ?_) ?_; rotate_left; · (obtain ⟨⟨x0, x1, x2⟩, x3, x4, x5⟩ := box3 hW'.1; obtain ⟨⟨y0, y1, y2⟩, y3, y4, y5⟩ := box3 hW'.2; clear hW'; go_simp; first | done | with_reducible rfl)
    simp only [Act.put, List.setIfInBounds_toArray, List.set_cons_zero, List.set_cons_succ]
    refine' callH 1 (f := _) (args := _) rfl (by kernel_rfl) (by rfl) ?_ ?_; rotate_left 2; · (go_simp; first | done | with_reducible rfl | (constructor <;> with_reducible rfl))
    refine (upTo_any lf w6 (by omega)).mono ?_
    rintro e w7 ⟨A7, c7, rfl, hi7, hf7, hb⟩
    rw [rangeI_length]
    replace k0_h := Lib.hid (box_below k0_h.out hb)
    replace k1_h := Lib.hid (box_below k1_h.out hb)
    replace k2_h := Lib.hid (box_below k2_h.out hb)
    replace k4_h := Lib.hid (box_below k4_h.out hb)
    replace hi5_h := Lib.hid (hi5_h.out.below hb)
    replace hB_h := Lib.hid (below_trans hB_h.out hb hB_h.out.size)
    have hF7 : (w7.heap[w.heap.size]? = some (.cells #[.int .i64 (a1 : Int), .int .i64 (a2 : Int), .slice Aa ma ca] tSys)) ∧ (w7.heap[bx]? = some (.cells #[.int .i64 (vis : Int), .int .i64 (hd : Int), .slice none 0 0] tSys)) := ⟨k0_h.out, k4_h.out⟩
    have hF7_h := Lib.hid hF7
    clear hF7
    refine ⟨_, rfl, hF7_h.out, ?_⟩
    simp only [Act.put, List.setIfInBounds_toArray, List.set_cons_zero, List.set_cons_succ]
    clear hf7 hb
    have hi7_h := Lib.hid hi7
    clear hi7
    refine' callH 7 (f := _) (args := _) rfl (by kernel_rfl) (by rfl) ?_ ?_; rotate_left 2; · (go_simp; first | done | with_reducible rfl | (constructor <;> with_reducible rfl))
    refine (from_any (vis : Int) a2 w7 (by omega) (by omega)).mono ?_
    rintro e w8 ⟨A8, c8, rfl, hi8, hf8, hb⟩
    rw [fromI_length]
    replace k0_h := Lib.hid (box_below k0_h.out hb)
    replace k1_h := Lib.hid (box_below k1_h.out hb)
    replace k2_h := Lib.hid (box_below k2_h.out hb)
    replace k4_h := Lib.hid (box_below k4_h.out hb)
    replace hi5_h := Lib.hid (hi5_h.out.below hb)
    replace hi7_h := Lib.hid (hi7_h.out.below hb)
    replace hB_h := Lib.hid (below_trans hB_h.out hb hB_h.out.size)
    have hF8 : (w8.heap[w.heap.size]? = some (.cells #[.int .i64 (a1 : Int), .int .i64 (a2 : Int), .slice Aa ma ca] tSys)) ∧ (w8.heap[bx]? = some (.cells #[.int .i64 (vis : Int), .int .i64 (hd : Int), .slice none 0 0] tSys)) := ⟨k0_h.out, k4_h.out⟩
    have hF8_h := Lib.hid hF8
    clear hF8
    refine ⟨_, rfl, hF8_h.out, ?_⟩
    simp only [Act.put, List.setIfInBounds_toArray, List.set_cons_zero, List.set_cons_succ]
    have hlr := laid_rdr (w := w8) [(A7, c7, rangeI lf), (A5, c5, fromI (jt : Int) md), (A8, c8, fromI (vis : Int) a2)] (fun x hx => by
      simp only [List.mem_cons, List.not_mem_nil, or_false] at hx
      rcases hx with rfl | rfl | rfl
      · exact hi7_h.out.rd
      · exact hi5_h.out.rd
      · exact hi8.rd) (by unfold maxLen; simp)
    have e : (([(A7, c7, rangeI lf), (A5, c5, fromI (jt : Int) md), (A8, c8, fromI (vis : Int) a2)] : List Hd).map Hd.val).toArray = #[.slice A7 lf c7, .slice A5 md c5, .slice A8 a2 c8] := by simp [Hd.val]
    rw [e] at hlr
    have e2 : (([(A7, c7, rangeI lf), (A5, c5, fromI (jt : Int) md), (A8, c8, fromI (vis : Int) a2)] : List Hd).map fun h : Hd => h.2.2).flatten = (at3 lf 0 md jt a2 vis).map fun i => ((i : Nat) : Int) := by
      rw [at3_ints]; simp [rangeI_from]
    have hJ := joined_any (some ⟨w8.heap.size, 0, none⟩) 3 [(A7, c7, rangeI lf), (A5, c5, fromI (jt : Int) md), (A8, c8, fromI (vis : Int) a2)] _ hlr (by simp) (by rw [e2, List.length_map, at3_length]; omega)
    rw [e2] at hJ
    have hal := below_alloc w8 (.cells #[.slice A7 lf c7, .slice A5 md c5, .slice A8 a2 c8] 37)
    clear hlr e e2
    clear hf8 hb hi8
    replace k0_h := Lib.hid (box_below k0_h.out hal)
    replace k1_h := Lib.hid (box_below k1_h.out hal)
    replace k2_h := Lib.hid (box_below k2_h.out hal)
    replace k4_h := Lib.hid (box_below k4_h.out hal)
    replace hi5_h := Lib.hid (hi5_h.out.below hal)
    replace hB_h := Lib.hid (below_trans hB_h.out hal hB_h.out.size)
    have hF9 := (And.intro k0_h.out k4_h.out)
    have hF9_h := Lib.hid hF9
    clear hF9
    have hJ_h := Lib.hid hJ
    clear hJ
    refine oneH 8 rfl (by kernel_rfl) (by rfl) (fun K hK => ?_)
    go_simp
    refine hK _ _ hF9_h.out ?_
    clear hK K
    clear hal
    refine' callH 9 (f := _) (args := _) rfl (by kernel_rfl) (by rfl) ?_ ?_; rotate_left 2; · (go_simp; first | done | with_reducible rfl | (constructor <;> with_reducible rfl))
    refine (hJ_h.out).mono ?_
    rintro e w10 ⟨A10, c10, rfl, hi10, hf10, hb⟩
    rw [List.length_map, at3_length]
    replace k0_h := Lib.hid (box_below k0_h.out hb)
    replace k1_h := Lib.hid (box_below k1_h.out hb)
    replace k2_h := Lib.hid (box_below k2_h.out hb)
    replace k4_h := Lib.hid (box_below k4_h.out hb)
    replace hi5_h := Lib.hid (hi5_h.out.below hb)
    replace hB_h := Lib.hid (below_trans hB_h.out hb hB_h.out.size)
    have hF10 : (w10.heap[w.heap.size]? = some (.cells #[.int .i64 (a1 : Int), .int .i64 (a2 : Int), .slice Aa ma ca] tSys)) ∧ (w10.heap[bx]? = some (.cells #[.int .i64 (vis : Int), .int .i64 (hd : Int), .slice none 0 0] tSys)) := ⟨k0_h.out, k4_h.out⟩
    have hF10_h := Lib.hid hF10
    clear hF10
    refine ⟨_, rfl, hF10_h.out, ?_⟩
    simp only [Act.put, List.setIfInBounds_toArray, List.set_cons_zero, List.set_cons_succ]
    clear hf10 hb hJ_h
    have hi10_h := Lib.hid hi10
    clear hi10
    refine takeH 10 (v := ?_) rfl (by kernel_rfl) (by kernel_rfl) (by kernel_rfl) (fun _ _ _ h => h) hF10_h.out (by rfl) (fun W' hW' => ?_) ?_; rotate_left; · (skip; clear hW'; go_simp; first | done | with_reducible rfl)
    simp only [Act.put, List.setIfInBounds_toArray, List.set_cons_zero, List.set_cons_succ]
    refine doneH (by kernel_rfl) ?_
    have hbd : Below w10.heap.size w10 w10.drew := below_drewN (Below.refl _ _) 1
    have hbd_h := Lib.hid hbd
    clear hbd
    go_wp2_with (fail)
    refine beginH (fun w' => (w'.heap[w.heap.size]? = some (.cells #[.int .i64 (a1 : Int), .int .i64 (a2 : Int), .slice Aa ma ca] tSys)) ∧ (w'.heap[w.heap.size + 1]? = some (.cells #[.int .i64 (b1 : Int), .int .i64 (b2 : Int), .slice Ab mb cb] tSys)) ∧ (w'.heap[bx]? = some (.cells #[.int .i64 (vis : Int), .int .i64 (hd : Int), .slice none 0 0] tSys))) (by kernel_rfl) ?_
    have hb := hbd_h.out
    generalize w10.drew = w11 at hb ⊢
    clear hbd_h
    replace k0_h := Lib.hid (box_below k0_h.out hb)
    replace k1_h := Lib.hid (box_below k1_h.out hb)
    replace k2_h := Lib.hid (box_below k2_h.out hb)
    replace k4_h := Lib.hid (box_below k4_h.out hb)
    replace hi5_h := Lib.hid (hi5_h.out.below hb)
    replace hi10_h := Lib.hid (hi10_h.out.below hb)
    replace hB_h := Lib.hid (below_trans hB_h.out hb hB_h.out.size)
    have hF11 : (w11.heap[w.heap.size]? = some (.cells #[.int .i64 (a1 : Int), .int .i64 (a2 : Int), .slice Aa ma ca] tSys)) ∧ (w11.heap[w.heap.size + 1]? = some (.cells #[.int .i64 (b1 : Int), .int .i64 (b2 : Int), .slice Ab mb cb] tSys)) ∧ (w11.heap[bx]? = some (.cells #[.int .i64 (vis : Int), .int .i64 (hd : Int), .slice none 0 0] tSys)) := ⟨k0_h.out, k1_h.out, k4_h.out⟩
    have hF11_h := Lib.hid hF11
    clear hF11
    clear hb
    have i6 := i6_h.out
    have i6w : IntKind.i64.wrap ((vis : Int) + (a2 : Int)) = (va : Int) := by rw [i6]; exact IntWalk.i64_in _ (by omega)
    clear i6
    refine takeH 0 (v := ?_) rfl (by kernel_rfl) (by kernel_rfl) (by kernel_rfl) (fun _ _ _ h => h) hF11_h.out (by rfl) (fun W' hW' => ?_) ?_; rotate_left; · (obtain ⟨⟨x0, x1, x2⟩, x3, x4, x5⟩ := box3 hW'.1; obtain ⟨⟨y0, y1, y2⟩, y3, y4, y5⟩ := box3 hW'.2.1; obtain ⟨⟨z0, z1, z2⟩, z3, z4, z5⟩ := box3 hW'.2.2; clear hW'; go_simp; first | done | with_reducible rfl)
    simp only [Act.put, List.setIfInBounds_toArray, List.set_cons_zero, List.set_cons_succ]
    refine takeH 1 (v := ?_) rfl (by kernel_rfl) (by kernel_rfl) (by kernel_rfl) (fun _ _ _ h => h) hF11_h.out (by rfl) (fun W' hW' => ?_) ?_; rotate_left; · (obtain ⟨⟨x0, x1, x2⟩, x3, x4, x5⟩ := box3 hW'.1; obtain ⟨⟨y0, y1, y2⟩, y3, y4, y5⟩ := box3 hW'.2.1; obtain ⟨⟨z0, z1, z2⟩, z3, z4, z5⟩ := box3 hW'.2.2; clear hW'; go_simp; first | done | with_reducible rfl)
    simp only [Act.put, List.setIfInBounds_toArray, List.set_cons_zero, List.set_cons_succ]
    refine takeH 2 (v := ?_) rfl (by kernel_rfl) (by kernel_rfl) (by kernel_rfl) (fun _ _ _ h => h) hF11_h.out (by rfl) (fun W' hW' => ?_) ?_; rotate_left; · (obtain ⟨⟨x0, x1, x2⟩, x3, x4, x5⟩ := box3 hW'.1; obtain ⟨⟨y0, y1, y2⟩, y3, y4, y5⟩ := box3 hW'.2.1; obtain ⟨⟨z0, z1, z2⟩, z3, z4, z5⟩ := box3 hW'.2.2; clear hW'; go_simp; first | done | with_reducible rfl)
    simp only [Act.put, List.setIfInBounds_toArray, List.set_cons_zero, List.set_cons_succ]
    refine takeH 4 (v := ?_) rfl (by kernel_rfl) (by kernel_rfl) (by kernel_rfl) (fun _ _ _ h => h) hF11_h.out (by rfl) (fun W' hW' => ?_) ?_; rotate_left; · (obtain ⟨⟨x0, x1, x2⟩, x3, x4, x5⟩ := box3 hW'.1; obtain ⟨⟨y0, y1, y2⟩, y3, y4, y5⟩ := box3 hW'.2.1; obtain ⟨⟨z0, z1, z2⟩, z3, z4, z5⟩ := box3 hW'.2.2; clear hW'; go_simp; first | done | with_reducible rfl)
    simp only [Act.put, List.setIfInBounds_toArray, List.set_cons_zero, List.set_cons_succ]
    refine takeH 5 (v := ?_) rfl (by kernel_rfl) (by kernel_rfl) (by kernel_rfl) (fun _ _ _ h => h) hF11_h.out (by rfl) (fun W' hW' => ?_) ?_; rotate_left; · (obtain ⟨⟨x0, x1, x2⟩, x3, x4, x5⟩ := box3 hW'.1; obtain ⟨⟨y0, y1, y2⟩, y3, y4, y5⟩ := box3 hW'.2.1; obtain ⟨⟨z0, z1, z2⟩, z3, z4, z5⟩ := box3 hW'.2.2; clear hW'; go_simp; first | done | with_reducible rfl)
    simp only [Act.put, List.setIfInBounds_toArray, List.set_cons_zero, List.set_cons_succ]
    refine takeH 6 (v := ?_) rfl (by kernel_rfl) (by kernel_rfl) (by kernel_rfl) (fun _ _ _ h => h) hF11_h.out (by rfl) (fun W' hW' => ?_) ?_; rotate_left; · (obtain ⟨⟨x0, x1, x2⟩, x3, x4, x5⟩ := box3 hW'.1; obtain ⟨⟨y0, y1, y2⟩, y3, y4, y5⟩ := box3 hW'.2.1; obtain ⟨⟨z0, z1, z2⟩, z3, z4, z5⟩ := box3 hW'.2.2; clear hW'; go_simp; first | done | with_reducible rfl)
    simp only [Act.put, List.setIfInBounds_toArray, List.set_cons_zero, List.set_cons_succ]
    refine takeH 7 (v := ?_) rfl (by kernel_rfl) (by kernel_rfl) (by kernel_rfl) (fun _ _ _ h => h) hF11_h.out (by rfl) (fun W' hW' => ?_) ?_; rotate_left; · (obtain ⟨⟨x0, x1, x2⟩, x3, x4, x5⟩ := box3 hW'.1; obtain ⟨⟨y0, y1, y2⟩, y3, y4, y5⟩ := box3 hW'.2.1; obtain ⟨⟨z0, z1, z2⟩, z3, z4, z5⟩ := box3 hW'.2.2; clear hW'; go_simp; first | done | with_reducible rfl)
    simp only [Act.put, List.setIfInBounds_toArray, List.set_cons_zero, List.set_cons_succ]
    refine takeH 8 (v := ?_) rfl (by kernel_rfl) (by kernel_rfl) (by kernel_rfl) (fun _ _ _ h => h) hF11_h.out (by rfl) (fun W' hW' => ?_) ?_; rotate_left; · (obtain ⟨⟨x0, x1, x2⟩, x3, x4, x5⟩ := box3 hW'.1; obtain ⟨⟨y0, y1, y2⟩, y3, y4, y5⟩ := box3 hW'.2.1; obtain ⟨⟨z0, z1, z2⟩, z3, z4, z5⟩ := box3 hW'.2.2; clear hW'; go_simp; first | done | with_reducible rfl)
    simp only [Act.put, List.setIfInBounds_toArray, List.set_cons_zero, List.set_cons_succ]
    refine takeH 9 (v := ?_) rfl (by kernel_rfl) (by kernel_rfl) (by kernel_rfl) (fun _ _ _ h => h) hF11_h.out (by rfl) (fun W' hW' => ?_) ?_; rotate_left; · (obtain ⟨⟨x0, x1, x2⟩, x3, x4, x5⟩ := box3 hW'.1; obtain ⟨⟨y0, y1, y2⟩, y3, y4, y5⟩ := box3 hW'.2.1; obtain ⟨⟨z0, z1, z2⟩, z3, z4, z5⟩ := box3 hW'.2.2; clear hW'; go_simp; first | done | with_reducible rfl)
    simp only [Act.put, List.setIfInBounds_toArray, List.set_cons_zero, List.set_cons_succ]
    refine takeH 10 (v := ?_) rfl (by kernel_rfl) (by kernel_rfl) (by kernel_rfl) (fun _ _ _ h => h) hF11_h.out (by rfl) (fun W' hW' => ?_) ?_; rotate_left; · (obtain ⟨⟨x0, x1, x2⟩, x3, x4, x5⟩ := box3 hW'.1; obtain ⟨⟨y0, y1, y2⟩, y3, y4, y5⟩ := box3 hW'.2.1; obtain ⟨⟨z0, z1, z2⟩, z3, z4, z5⟩ := box3 hW'.2.2; clear hW'; go_simp; first | done | with_reducible rfl)
    simp only [Act.put, List.setIfInBounds_toArray, List.set_cons_zero, List.set_cons_succ]
    clear i6w
    refine' callH 3 (f := _) (args := _) rfl (by kernel_rfl) (by rfl) ?_ ?_; rotate_left 2; · (go_simp; first | done | with_reducible rfl | (constructor <;> with_reducible rfl))
    refine (from_any (lf : Int) rt w11 (by omega) (by omega)).mono ?_
    rintro e w12 ⟨A12, c12, rfl, hi12, hf12, hb⟩
    rw [fromI_length]
    replace k0_h := Lib.hid (box_below k0_h.out hb)
    replace k1_h := Lib.hid (box_below k1_h.out hb)
    replace k2_h := Lib.hid (box_below k2_h.out hb)
    replace k4_h := Lib.hid (box_below k4_h.out hb)
    replace hi5_h := Lib.hid (hi5_h.out.below hb)
    replace hi10_h := Lib.hid (hi10_h.out.below hb)
    replace hB_h := Lib.hid (below_trans hB_h.out hb hB_h.out.size)
    have hF12 : (w12.heap[w.heap.size]? = some (.cells #[.int .i64 (a1 : Int), .int .i64 (a2 : Int), .slice Aa ma ca] tSys)) ∧ (w12.heap[w.heap.size + 1]? = some (.cells #[.int .i64 (b1 : Int), .int .i64 (b2 : Int), .slice Ab mb cb] tSys)) ∧ (w12.heap[bx]? = some (.cells #[.int .i64 (vis : Int), .int .i64 (hd : Int), .slice none 0 0] tSys)) := ⟨k0_h.out, k1_h.out, k4_h.out⟩
    have hF12_h := Lib.hid hF12
    clear hF12
    refine ⟨_, rfl, hF12_h.out, ?_⟩
    simp only [Act.put, List.setIfInBounds_toArray, List.set_cons_zero, List.set_cons_succ]
    clear hf12 hb
    have hi12_h := Lib.hid hi12
    clear hi12
    refine' callH 11 (f := _) (args := _) rfl (by kernel_rfl) (by rfl) ?_ ?_; rotate_left 2; · (go_simp; first | done | with_reducible rfl | (constructor <;> with_reducible rfl))
    refine (from_any (va : Int) b2 w12 (by omega) (by omega)).mono ?_
    rintro e w13 ⟨A13, c13, rfl, hi13, hf13, hb⟩
    rw [fromI_length]
    replace k0_h := Lib.hid (box_below k0_h.out hb)
    replace k1_h := Lib.hid (box_below k1_h.out hb)
    replace k2_h := Lib.hid (box_below k2_h.out hb)
    replace k4_h := Lib.hid (box_below k4_h.out hb)
    replace hi5_h := Lib.hid (hi5_h.out.below hb)
    replace hi10_h := Lib.hid (hi10_h.out.below hb)
    replace hi12_h := Lib.hid (hi12_h.out.below hb)
    replace hB_h := Lib.hid (below_trans hB_h.out hb hB_h.out.size)
    have hF13 : (w13.heap[w.heap.size]? = some (.cells #[.int .i64 (a1 : Int), .int .i64 (a2 : Int), .slice Aa ma ca] tSys)) ∧ (w13.heap[w.heap.size + 1]? = some (.cells #[.int .i64 (b1 : Int), .int .i64 (b2 : Int), .slice Ab mb cb] tSys)) ∧ (w13.heap[bx]? = some (.cells #[.int .i64 (vis : Int), .int .i64 (hd : Int), .slice none 0 0] tSys)) := ⟨k0_h.out, k1_h.out, k4_h.out⟩
    have hF13_h := Lib.hid hF13
    clear hF13
    refine ⟨_, rfl, hF13_h.out, ?_⟩
    simp only [Act.put, List.setIfInBounds_toArray, List.set_cons_zero, List.set_cons_succ]
    have hlr := laid_rdr (w := w13) [(A5, c5, fromI (jt : Int) md), (A12, c12, fromI (lf : Int) rt), (A13, c13, fromI (va : Int) b2)] (fun x hx => by
      simp only [List.mem_cons, List.not_mem_nil, or_false] at hx
      rcases hx with rfl | rfl | rfl
      · exact hi5_h.out.rd
      · exact hi12_h.out.rd
      · exact hi13.rd) (by unfold maxLen; simp)
    have e : (([(A5, c5, fromI (jt : Int) md), (A12, c12, fromI (lf : Int) rt), (A13, c13, fromI (va : Int) b2)] : List Hd).map Hd.val).toArray = #[.slice A5 md c5, .slice A12 rt c12, .slice A13 b2 c13] := by simp [Hd.val]
    rw [e] at hlr
    have e2 : (([(A5, c5, fromI (jt : Int) md), (A12, c12, fromI (lf : Int) rt), (A13, c13, fromI (va : Int) b2)] : List Hd).map fun h : Hd => h.2.2).flatten = (at3 md jt rt lf b2 va).map fun i => ((i : Nat) : Int) := by
      rw [at3_ints]; simp
    have hJ := joined_any (some ⟨w13.heap.size, 0, none⟩) 3 [(A5, c5, fromI (jt : Int) md), (A12, c12, fromI (lf : Int) rt), (A13, c13, fromI (va : Int) b2)] _ hlr (by simp) (by rw [e2, List.length_map, at3_length]; omega)
    rw [e2] at hJ
    have hal := below_alloc w13 (.cells #[.slice A5 md c5, .slice A12 rt c12, .slice A13 b2 c13] 37)
    clear hlr e e2
    clear hf13 hb hi13
    replace k0_h := Lib.hid (box_below k0_h.out hal)
    replace k1_h := Lib.hid (box_below k1_h.out hal)
    replace k2_h := Lib.hid (box_below k2_h.out hal)
    replace k4_h := Lib.hid (box_below k4_h.out hal)
    replace hi10_h := Lib.hid (hi10_h.out.below hal)
    replace hB_h := Lib.hid (below_trans hB_h.out hal hB_h.out.size)
    have hF14 := (And.intro k0_h.out (And.intro k1_h.out k4_h.out))
    have hF14_h := Lib.hid hF14
    clear hF14
    have hJ_h := Lib.hid hJ
    clear hJ
    refine oneH 12 rfl (by kernel_rfl) (by rfl) (fun K hK => ?_)
    go_simp
    refine hK _ _ hF14_h.out ?_
    clear hK K
    clear hal
    refine' callH 13 (f := _) (args := _) rfl (by kernel_rfl) (by rfl) ?_ ?_; rotate_left 2; · (go_simp; first | done | with_reducible rfl | (constructor <;> with_reducible rfl))
    refine (hJ_h.out).mono ?_
    rintro e w15 ⟨A15, c15, rfl, hi15, hf15, hb⟩
    rw [List.length_map, at3_length]
    replace k0_h := Lib.hid (box_below k0_h.out hb)
    replace k1_h := Lib.hid (box_below k1_h.out hb)
    replace k2_h := Lib.hid (box_below k2_h.out hb)
    replace k4_h := Lib.hid (box_below k4_h.out hb)
    replace hi10_h := Lib.hid (hi10_h.out.below hb)
    replace hB_h := Lib.hid (below_trans hB_h.out hb hB_h.out.size)
    have hF15 : (w15.heap[w.heap.size]? = some (.cells #[.int .i64 (a1 : Int), .int .i64 (a2 : Int), .slice Aa ma ca] tSys)) ∧ (w15.heap[w.heap.size + 1]? = some (.cells #[.int .i64 (b1 : Int), .int .i64 (b2 : Int), .slice Ab mb cb] tSys)) ∧ (w15.heap[bx]? = some (.cells #[.int .i64 (vis : Int), .int .i64 (hd : Int), .slice none 0 0] tSys)) := ⟨k0_h.out, k1_h.out, k4_h.out⟩
    have hF15_h := Lib.hid hF15
    clear hF15
    refine ⟨_, rfl, hF15_h.out, ?_⟩
    simp only [Act.put, List.setIfInBounds_toArray, List.set_cons_zero, List.set_cons_succ]
    clear hf15 hb hJ_h hi5_h hi12_h
    have hi15_h := Lib.hid hi15
    clear hi15
    refine takeH 14 (v := ?_) rfl (by kernel_rfl) (by kernel_rfl) (by kernel_rfl) (fun _ _ _ h => h) hF15_h.out (by rfl) (fun W' hW' => ?_) ?_; rotate_left; · (skip; clear hW'; go_simp; first | done | with_reducible rfl)
    simp only [Act.put, List.setIfInBounds_toArray, List.set_cons_zero, List.set_cons_succ]
    refine doneH (by kernel_rfl) ?_
    have hbd : Below w15.heap.size w15 w15.drew := below_drewN (Below.refl _ _) 1
    obtain ⟨⟨y0, y1, y2⟩, y3, y4, y5⟩ := box3 k0_h.out
    obtain ⟨⟨x0, x1, x2⟩, x3, x4, x5⟩ := box3 k4_h.out
    have hbd_h := Lib.hid hbd
    clear hbd
    go_wp2_with (fail)
    refine beginZw 14 (fun w' => (w'.heap[w.heap.size]? = some (.cells #[.int .i64 (a1 : Int), .int .i64 (a2 : Int), .slice Aa ma ca] tSys)) ∧ (w'.heap[w.heap.size + 1]? = some (.cells #[.int .i64 (b1 : Int), .int .i64 (b2 : Int), .slice Ab mb cb] tSys)) ∧ (w'.heap[bx]? = some (.cells #[.int .i64 (vis : Int), .int .i64 (hd : Int), .slice none 0 0] tSys))) (by kernel_rfl) (fun w16 hw16 => ?_)
    have hb : Below w15.heap.size w15 w16 := by rw [hw16]; exact hbd_h.out
    clear hbd_h hw16 x0 x1 x2 x3 x4 x5 y0 y1 y2 y3 y4 y5
    replace k0_h := Lib.hid (box_below k0_h.out hb)
    replace k1_h := Lib.hid (box_below k1_h.out hb)
    replace k2_h := Lib.hid (box_below k2_h.out hb)
    replace k4_h := Lib.hid (box_below k4_h.out hb)
    replace hi10_h := Lib.hid (hi10_h.out.below hb)
    replace hi15_h := Lib.hid (hi15_h.out.below hb)
    replace hB_h := Lib.hid (below_trans hB_h.out hb hB_h.out.size)
    have hF16 : (w16.heap[w.heap.size]? = some (.cells #[.int .i64 (a1 : Int), .int .i64 (a2 : Int), .slice Aa ma ca] tSys)) ∧ (w16.heap[w.heap.size + 1]? = some (.cells #[.int .i64 (b1 : Int), .int .i64 (b2 : Int), .slice Ab mb cb] tSys)) ∧ (w16.heap[bx]? = some (.cells #[.int .i64 (vis : Int), .int .i64 (hd : Int), .slice none 0 0] tSys)) := ⟨k0_h.out, k1_h.out, k4_h.out⟩
    have hF16_h := Lib.hid hF16
    clear hF16
    clear hb
    refine takeC 0 (v := ?_) rfl (by kernel_rfl) (by kernel_rfl) (by kernel_rfl) (by kernel_rfl) (fun _ _ _ h => h) hF16_h.out (by rfl) (fun W' hW' => ?_) ?_; rotate_left; · (obtain ⟨⟨x0, x1, x2⟩, x3, x4, x5⟩ := box3 hW'.1; obtain ⟨⟨y0, y1, y2⟩, y3, y4, y5⟩ := box3 hW'.2.1; obtain ⟨⟨z0, z1, z2⟩, z3, z4, z5⟩ := box3 hW'.2.2; clear hW'; go_simp; first | done | with_reducible rfl)
    simp only [Act.put, List.setIfInBounds_toArray, List.set_cons_zero, List.set_cons_succ]
    refine takeC 1 (v := ?_) rfl (by kernel_rfl) (by kernel_rfl) (by kernel_rfl) (by kernel_rfl) (fun _ _ _ h => h) hF16_h.out (by rfl) (fun W' hW' => ?_) ?_; rotate_left; · (obtain ⟨⟨x0, x1, x2⟩, x3, x4, x5⟩ := box3 hW'.1; obtain ⟨⟨y0, y1, y2⟩, y3, y4, y5⟩ := box3 hW'.2.1; obtain ⟨⟨z0, z1, z2⟩, z3, z4, z5⟩ := box3 hW'.2.2; clear hW'; go_simp; first | done | with_reducible rfl)
    simp only [Act.put, List.setIfInBounds_toArray, List.set_cons_zero, List.set_cons_succ]
    refine takeC 2 (v := ?_) rfl (by kernel_rfl) (by kernel_rfl) (by kernel_rfl) (by kernel_rfl) (fun _ _ _ h => h) hF16_h.out (by rfl) (fun W' hW' => ?_) ?_; rotate_left; · (obtain ⟨⟨x0, x1, x2⟩, x3, x4, x5⟩ := box3 hW'.1; obtain ⟨⟨y0, y1, y2⟩, y3, y4, y5⟩ := box3 hW'.2.1; obtain ⟨⟨z0, z1, z2⟩, z3, z4, z5⟩ := box3 hW'.2.2; clear hW'; go_simp; first | done | with_reducible rfl)
    simp only [Act.put, List.setIfInBounds_toArray, List.set_cons_zero, List.set_cons_succ]
    refine takeC 4 (v := ?_) rfl (by kernel_rfl) (by kernel_rfl) (by kernel_rfl) (by kernel_rfl) (fun _ _ _ h => h) hF16_h.out (by rfl) (fun W' hW' => ?_) ?_; rotate_left; · (obtain ⟨⟨x0, x1, x2⟩, x3, x4, x5⟩ := box3 hW'.1; obtain ⟨⟨y0, y1, y2⟩, y3, y4, y5⟩ := box3 hW'.2.1; obtain ⟨⟨z0, z1, z2⟩, z3, z4, z5⟩ := box3 hW'.2.2; clear hW'; go_simp; first | done | with_reducible rfl)
    simp only [Act.put, List.setIfInBounds_toArray, List.set_cons_zero, List.set_cons_succ]
    refine takeC 6 (v := ?_) rfl (by kernel_rfl) (by kernel_rfl) (by kernel_rfl) (by kernel_rfl) (fun _ _ _ h => h) hF16_h.out (by rfl) (fun W' hW' => ?_) ?_; rotate_left; · (obtain ⟨⟨x0, x1, x2⟩, x3, x4, x5⟩ := box3 hW'.1; obtain ⟨⟨y0, y1, y2⟩, y3, y4, y5⟩ := box3 hW'.2.1; obtain ⟨⟨z0, z1, z2⟩, z3, z4, z5⟩ := box3 hW'.2.2; clear hW'; go_simp; first | done | with_reducible rfl)
    simp only [Act.put, List.setIfInBounds_toArray, List.set_cons_zero, List.set_cons_succ]
    refine takeC 7 (v := ?_) rfl (by kernel_rfl) (by kernel_rfl) (by kernel_rfl) (by kernel_rfl) (fun _ _ _ h => h) hF16_h.out (by rfl) (fun W' hW' => ?_) ?_; rotate_left; · (obtain ⟨⟨x0, x1, x2⟩, x3, x4, x5⟩ := box3 hW'.1; obtain ⟨⟨y0, y1, y2⟩, y3, y4, y5⟩ := box3 hW'.2.1; obtain ⟨⟨z0, z1, z2⟩, z3, z4, z5⟩ := box3 hW'.2.2; clear hW'; go_simp; first | done | with_reducible rfl)
    simp only [Act.put, List.setIfInBounds_toArray, List.set_cons_zero, List.set_cons_succ]
    refine takeC 8 (v := ?_) rfl (by kernel_rfl) (by kernel_rfl) (by kernel_rfl) (by kernel_rfl) (fun _ _ _ h => h) hF16_h.out (by rfl) (fun W' hW' => ?_) ?_; rotate_left; · (obtain ⟨⟨x0, x1, x2⟩, x3, x4, x5⟩ := box3 hW'.1; obtain ⟨⟨y0, y1, y2⟩, y3, y4, y5⟩ := box3 hW'.2.1; obtain ⟨⟨z0, z1, z2⟩, z3, z4, z5⟩ := box3 hW'.2.2; clear hW'; go_simp; first | done | with_reducible rfl)
    simp only [Act.put, List.setIfInBounds_toArray, List.set_cons_zero, List.set_cons_succ]
    refine takeC 10 (v := ?_) rfl (by kernel_rfl) (by kernel_rfl) (by kernel_rfl) (by kernel_rfl) (fun _ _ _ h => h) hF16_h.out (by rfl) (fun W' hW' => ?_) ?_; rotate_left; · (obtain ⟨⟨x0, x1, x2⟩, x3, x4, x5⟩ := box3 hW'.1; obtain ⟨⟨y0, y1, y2⟩, y3, y4, y5⟩ := box3 hW'.2.1; obtain ⟨⟨z0, z1, z2⟩, z3, z4, z5⟩ := box3 hW'.2.2; clear hW'; go_simp; first | done | with_reducible rfl)
    simp only [Act.put, List.setIfInBounds_toArray, List.set_cons_zero, List.set_cons_succ]
    refine callZ 3 (f := ?f1) (args := ?args1) rfl (by kernel_rfl) (by rfl) ?hrun1 ?hcall1
    case hrun1 => (go_simp; first | done | with_reducible rfl | (constructor <;> with_reducible rfl))
    case hcall1 =>
      refine (hsz_h.out (.slice none 0 0) w16).mono ?_
      rintro e w17 ⟨rfl, hb⟩
      replace k0_h := Lib.hid (box_below k0_h.out hb)
      replace k1_h := Lib.hid (box_below k1_h.out hb)
      replace k2_h := Lib.hid (box_below k2_h.out hb)
      replace k4_h := Lib.hid (box_below k4_h.out hb)
      replace hi10_h := Lib.hid (hi10_h.out.below hb)
      replace hi15_h := Lib.hid (hi15_h.out.below hb)
      replace hB_h := Lib.hid (below_trans hB_h.out hb hB_h.out.size)
      have hF17 : (w17.heap[w.heap.size]? = some (.cells #[.int .i64 (a1 : Int), .int .i64 (a2 : Int), .slice Aa ma ca] tSys)) ∧ (w17.heap[w.heap.size + 1]? = some (.cells #[.int .i64 (b1 : Int), .int .i64 (b2 : Int), .slice Ab mb cb] tSys)) ∧ (w17.heap[bx]? = some (.cells #[.int .i64 (vis : Int), .int .i64 (hd : Int), .slice none 0 0] tSys)) := ⟨k0_h.out, k1_h.out, k4_h.out⟩
      have hF17_h := Lib.hid hF17
      clear hF17
      refine ⟨_, rfl, fun _ => hF17_h.out, ?_⟩
      simp only [Act.put, List.setIfInBounds_toArray, List.set_cons_zero, List.set_cons_succ]
      clear hb
      have hB17 := below_trans hBW_h.out hB_h.out hBW_h.out.size
      have hPl := placed_any Aa A10 ca c10 N ga (at3 lf 0 md jt a2 vis) w17 (hrda_h.out.below hB17) (fun x hx => by rw [at3_length, hga_h.out x hx, hlA_h.out]; exact Nat.le_refl _) hi10_h.out.rd hAa_h.out (by omega) (by rw [at3_length]; omega) (by rw [← hma_h.out]; omega)
      rw [at3_length, ← hma_h.out, ← hLa_h.out, hPa_h.out] at hPl
      clear hB17
      have hPl_h := Lib.hid hPl
      clear hPl
      refine callZ 5 (f := ?f2) (args := ?args2) rfl (by kernel_rfl) (by rfl) ?hrun2 ?hcall2
      case hrun2 => (go_simp; first | done | with_reducible rfl | (constructor <;> with_reducible rfl))
      case hcall2 =>
        refine (hPl_h.out).mono ?_
        rintro e w18 hret
        obtain ⟨A18, c18, rfl, hO18⟩ := hret.om
        rw [List.length_map, hLma_h.out]
        have hb := hO18.below_
        have hlt17 : bx < w17.heap.size := box_lt k4_h.out
        have hz17 := hB_h.out.size
        replace k0_h := Lib.hid (box_below k0_h.out hb)
        replace k1_h := Lib.hid (box_below k1_h.out hb)
        replace k2_h := Lib.hid (box_below k2_h.out hb)
        replace k4_h := Lib.hid (box_below k4_h.out hb)
        replace hi15_h := Lib.hid (hi15_h.out.below hb)
        replace hB_h := Lib.hid (below_trans hB_h.out hb hB_h.out.size)
        have hF18 : (w18.heap[w.heap.size]? = some (.cells #[.int .i64 (a1 : Int), .int .i64 (a2 : Int), .slice Aa ma ca] tSys)) ∧ (w18.heap[w.heap.size + 1]? = some (.cells #[.int .i64 (b1 : Int), .int .i64 (b2 : Int), .slice Ab mb cb] tSys)) ∧ (w18.heap[bx]? = some (.cells #[.int .i64 (vis : Int), .int .i64 (hd : Int), .slice none 0 0] tSys)) := ⟨k0_h.out, k1_h.out, k4_h.out⟩
        have hF18_h := Lib.hid hF18
        clear hF18
        refine ⟨_, rfl, fun _ => hF18_h.out, ?_⟩
        simp only [Act.put, List.setIfInBounds_toArray, List.set_cons_zero, List.set_cons_succ]
        obtain ⟨ys, hLy, hOy, hfy, h0y⟩ := hO18
        have hlty := hOy.lt
        have hz18 := hb.size
        have hfyx : ∀ b, b ∈ fpA A18 ++ fpR ys → W.heap.size ≤ b ∧ b ≠ bx := fun b hb => by have := hfy b hb; omega
        have hyl : ys.length = ma := by have := congrArg List.length hLy; rw [List.length_map, List.length_map, hLma_h.out] at this; exact this.symm
        clear hret h0y hfy hb hPl_h
        have hLy_h := Lib.hid hLy
        have hOy_h := Lib.hid hOy
        have hlty_h := Lib.hid hlty
        have hfyx_h := Lib.hid hfyx
        have hyl_h := Lib.hid hyl
        clear hLy hOy hlty hfyx hyl
        refine callZ 9 (f := ?f3) (args := ?args3) rfl (by kernel_rfl) (by rfl) ?hrun3 ?hcall3
        case hrun3 => (go_simp; first | done | with_reducible rfl | (constructor <;> with_reducible rfl))
        case hcall3 =>
          refine (hsz_h.out (.slice none 0 0) w18).mono ?_
          rintro e w19 ⟨rfl, hb⟩
          replace k0_h := Lib.hid (box_below k0_h.out hb)
          replace k1_h := Lib.hid (box_below k1_h.out hb)
          replace k2_h := Lib.hid (box_below k2_h.out hb)
          replace k4_h := Lib.hid (box_below k4_h.out hb)
          replace hi15_h := Lib.hid (hi15_h.out.below hb)
          replace hOy_h := Lib.hid (hOy_h.out.below hb)
          replace hB_h := Lib.hid (below_trans hB_h.out hb hB_h.out.size)
          have hF19 : (w19.heap[w.heap.size]? = some (.cells #[.int .i64 (a1 : Int), .int .i64 (a2 : Int), .slice Aa ma ca] tSys)) ∧ (w19.heap[w.heap.size + 1]? = some (.cells #[.int .i64 (b1 : Int), .int .i64 (b2 : Int), .slice Ab mb cb] tSys)) ∧ (w19.heap[bx]? = some (.cells #[.int .i64 (vis : Int), .int .i64 (hd : Int), .slice none 0 0] tSys)) := ⟨k0_h.out, k1_h.out, k4_h.out⟩
          have hF19_h := Lib.hid hF19
          clear hF19
          refine ⟨_, rfl, fun _ => hF19_h.out, ?_⟩
          simp only [Act.put, List.setIfInBounds_toArray, List.set_cons_zero, List.set_cons_succ]
          have hz19 := hb.size
          clear hb
          have hB19 := below_trans hBW_h.out hB_h.out hBW_h.out.size
          have hPl := placed_any Ab A15 cb c15 N gb (at3 md jt rt lf b2 va) w19 (hrdb_h.out.below hB19) (fun x hx => by rw [at3_length, hgb_h.out x hx, hlB_h.out]; exact Nat.le_refl _) hi15_h.out.rd hAb_h.out (by omega) (by rw [at3_length]; omega) (by rw [← hmb_h.out]; omega)
          rw [at3_length, ← hmb_h.out, ← hLb_h.out, hPb_h.out] at hPl
          have hPl_h := Lib.hid hPl
          have hB19_h := Lib.hid hB19
          clear hPl hB19
          refine callZ 11 (f := ?f4) (args := ?args4) rfl (by kernel_rfl) (by rfl) ?hrun4 ?hcall4
          case hrun4 => (go_simp; first | done | with_reducible rfl | (constructor <;> with_reducible rfl))
          case hcall4 =>
            refine (hPl_h.out).mono ?_
            rintro e w20 hret
            obtain ⟨A20, c20, rfl, hO20⟩ := hret.om
            rw [List.length_map, hLmb_h.out]
            have hb := hO20.below_
            have hlt19 : bx < w19.heap.size := box_lt k4_h.out
            replace k0_h := Lib.hid (box_below k0_h.out hb)
            replace k1_h := Lib.hid (box_below k1_h.out hb)
            replace k2_h := Lib.hid (box_below k2_h.out hb)
            replace k4_h := Lib.hid (box_below k4_h.out hb)
            replace hOy_h := Lib.hid (hOy_h.out.below hb)
            replace hB_h := Lib.hid (below_trans hB_h.out hb hB_h.out.size)
            have hF20 : (w20.heap[w.heap.size]? = some (.cells #[.int .i64 (a1 : Int), .int .i64 (a2 : Int), .slice Aa ma ca] tSys)) ∧ (w20.heap[w.heap.size + 1]? = some (.cells #[.int .i64 (b1 : Int), .int .i64 (b2 : Int), .slice Ab mb cb] tSys)) ∧ (w20.heap[bx]? = some (.cells #[.int .i64 (vis : Int), .int .i64 (hd : Int), .slice none 0 0] tSys)) := ⟨k0_h.out, k1_h.out, k4_h.out⟩
            have hF20_h := Lib.hid hF20
            clear hF20
            refine ⟨_, rfl, fun _ => hF20_h.out, ?_⟩
            simp only [Act.put, List.setIfInBounds_toArray, List.set_cons_zero, List.set_cons_succ]
            have hz20 := hb.size
            have hB20 := below_trans hBW_h.out hB_h.out hBW_h.out.size
            obtain ⟨zs, hLz, hOz, hfz, h0z⟩ := hO20
            have hzl : zs.length = mb := by have := congrArg List.length hLz; rw [List.length_map, List.length_map, hLmb_h.out] at this; exact this.symm
            have hs1 : Sl w20 37 1 A18 ma c18 (ys.map Hd.val) := by have := hOy_h.out.sl; rwa [hyl_h.out] at this
            have hnl : (zs.map Hd.val).length = mb * 1 := by rw [List.length_map, hzl, Nat.mul_one]
            have hnr : RdC w20 A20 (zs.map Hd.val) := hOz.sl.rdc
            have hn1 : ∀ u ∈ zs.map Hd.val, u.oneCell' = true := fun u hu => by
              obtain ⟨x, _, rfl⟩ := List.mem_map.1 hu
              rfl
            clear hret h0z hb
            have hB20_h := Lib.hid hB20
            have hLz_h := Lib.hid hLz
            have hOz_h := Lib.hid hOz
            have hfz_h := Lib.hid hfz
            have hzl_h := Lib.hid hzl
            have hs1_h := Lib.hid hs1
            have hnl_h := Lib.hid hnl
            have hnr_h := Lib.hid hnr
            have hn1_h := Lib.hid hn1
            clear hB20 hLz hOz hfz hzl hs1 hnl hnr hn1
            refine appZ 12 rfl (by kernel_rfl) (by rfl) _ _ _ rfl 37 Tryd.underlying22 info_ints rfl (by omega) rfl hs1_h.out rfl hnl_h.out hnr_h.out hn1_h.out (by unfold maxLen; omega) (by omega) ?_
            intro A21 c21 w21 hs3 hA3 hk3 hrd3
            have hOM := OMx.cat (w0 := W) (w1 := w19) (bx := bx) hLy_h.out hOy_h.out hfyx_h.out (fun b hb => by have := hlty_h.out b hb; omega) hB20_h.out (by omega) hlt19 hLz_h.out hOz_h.out hfz_h.out hs3 (by rw [hyl_h.out, hzl_h.out]) hA3 hk3 (by omega) hz20
            rw [← hX_h.out] at hOM
            have hnA : ∀ b, b ∈ fpA A18 → W.heap.size ≤ b ∧ b ≠ bx := fun b hb => hfyx_h.out b (List.mem_append_left _ hb)
            have hF21 : (w21.heap[w.heap.size]? = some (.cells #[.int .i64 (a1 : Int), .int .i64 (a2 : Int), .slice Aa ma ca] tSys)) ∧ (w21.heap[w.heap.size + 1]? = some (.cells #[.int .i64 (b1 : Int), .int .i64 (b2 : Int), .slice Ab mb cb] tSys)) ∧ (w21.heap[bx]? = some (.cells #[.int .i64 (vis : Int), .int .i64 (hd : Int), .slice none 0 0] tSys)) := ⟨box_keeps hF20_h.out.1 hk3 (fun h => by have := (hnA _ h).1; have := hzw2_h.out; omega), box_keeps hF20_h.out.2.1 hk3 (fun h => by have := (hnA _ h).1; have := hzw2_h.out; omega), box_keeps hF20_h.out.2.2 hk3 (fun h => (hnA _ h).2 rfl)⟩
            have k2b := box_keeps k2_h.out hk3 (fun h => by have := (hnA _ h).1; have := hzw2_h.out; omega)
            refine ⟨fun _ => hF21, ?_⟩
            simp only [Act.put, List.setIfInBounds_toArray, List.set_cons_zero, List.set_cons_succ]
            obtain ⟨⟨x0, x1, x2⟩, x3, x4, x5⟩ := box3 hF21.2.2
            obtain ⟨s1, s2⟩ := set_f2 (b := .slice A21 (ma + mb) c21) hF21.2.2
            have hOM2 := hOM.store s2
            have k2c := box_keeps k2b s2 (by omega)
            obtain ⟨w22, hw22⟩ : ∃ w22, w22 = w21.setCell ⟨bx, 2, none⟩ (.slice A21 (ma + mb) c21) := ⟨_, rfl⟩
            rw [← hw22] at s1 hOM2 k2c
            clear hs3 hA3 hk3 hrd3 hOM hnA k2b s2 k0_h k1_h k2_h k4_h
            have k2 := k2c
            have k4 := s1
            clear k2c s1
            have hF21_h := Lib.hid hF21
            have hOM2_h := Lib.hid hOM2
            have k2_h := Lib.hid k2
            have k4_h := Lib.hid k4
            clear hF21 hOM2 k2 k4
            refine takeC 13 (v := ?_) rfl (by kernel_rfl) (by kernel_rfl) (by kernel_rfl) (by kernel_rfl) (fun _ _ _ h => h) hF21_h.out (by rfl) (fun W' hW' => ?_) ?_; rotate_left; · (skip; clear hW'; go_simp; first | done | with_reducible rfl)
            simp only [Act.put, List.setIfInBounds_toArray, List.set_cons_zero, List.set_cons_succ]
            refine oneZ 14 rfl (by kernel_rfl) (by rfl) (fun K hK => ?_)
            go_simp
            refine hK _ _ (fun h => by cases h) ?_
            clear hK K
            refine doneZ (by kernel_rfl) ?_
            rw [← hw22]
            clear hw22 x0 x1 x2 x3 x4 x5
            have hXl : X.length = ma + mb := by rw [hX_h.out, List.length_append, List.length_map, List.length_map, hLma_h.out, hLmb_h.out]
            obtain ⟨hs, hLs, hrs⟩ := hOM2_h.out.om.rdr
            have hsl : hs.length = ma + mb := by have := congrArg List.length hLs; rw [List.length_map, hXl] at this; exact this.symm
            have hV := validSystem_any p (v := .agg #[.int .i64 (vis : Int), .int .i64 (hd : Int), .slice A21 (ma + mb) c21]) (s := ((vis : Int), (hd : Int), X)) (w := w22) ⟨A21, c21, hs, by rw [hsl], hLs, hrs⟩ hokX_h.out (hTW_h.out.below hOM2_h.out.below_ hTW_h.out.lt)
            obtain ⟨⟨x0, x1, x2⟩, x3, x4, x5⟩ := box3 k4_h.out
            have hB22 := below_trans bW_h.out hOM2_h.out.below_ bW_h.out.size
            clear hLs hrs hsl
            by_cases hsb : sysB p ((vis : Int), (hd : Int), X) = true
            · have hM2 := hM_h.out
              rw [hsb, if_pos rfl] at hM2
              rw [hsb, if_pos rfl] at hV
              subst hM2
              clear hM_h hsb
              have hV_h := Lib.hid hV
              have hXl_h := Lib.hid hXl
              have hB22_h := Lib.hid hB22
              clear hV hXl hB22
              go_wp2_with (fail)
              refine (hV_h.out).mono ?_
              rintro e w23 ⟨rfl, hb23⟩
              clear x0 x1 x2 x3 x4 x5
              have hOM3 := hOM2_h.out.below hb23
              have k2e := box_below k2_h.out hb23
              have hB23 := below_trans hB22_h.out hb23 hB22_h.out.size
              have hz23 := box_lt k2e
              have hzW := bW_h.out.size
              obtain ⟨⟨d0, d1, d2⟩, g0, g1, g2⟩ := box3 k2e
              obtain ⟨s1, s2⟩ := set3 (a := .int .i64 (vis : Int)) (b := .int .i64 (hd : Int)) (c := .slice A21 (ma + mb) c21) k2e
              obtain ⟨fp3, hO5, hf5⟩ := OwSys.of_ret (a := (vis : Int)) (b := (hd : Int)) hOM3.om s2 (fun k hk => by have := hzw2_h.out; omega) hXl_h.out
              have hB24 := below_keeps hB23 s2 hB23.size (fun k hk => by omega)
              have hf6 := hf5.mono bW_h.out.size
              clear hOM3 hB23 hf5 s2 k2e hb23
              have s1_h := Lib.hid s1
              have hO5_h := Lib.hid hO5
              have hf6_h := Lib.hid hf6
              have hB24_h := Lib.hid hB24
              clear s1 hO5 hf6 hB24
              go_wp2_with (fail)
              refine bodyPost_ret (results_cell_tmp rfl _ _ (w.heap.size + 1 + 1) _ _ (0, 0) _ rfl s1_h.out Tryd.underlying26 rfl (by kernel_rfl)) rfl ?_
              exact ⟨_, rfl, fp3, hO5_h.out, hf6_h.out, hB24_h.out⟩
            · have hsb' : sysB p ((vis : Int), (hd : Int), X) = false := by simpa using hsb
              have hM2 := hM_h.out
              rw [hsb', if_neg (by simp)] at hM2
              rw [hsb', if_neg (by simp)] at hV
              subst hM2
              clear hM_h hsb hsb'
              have hV_h := Lib.hid hV
              have hXl_h := Lib.hid hXl
              have hB22_h := Lib.hid hB22
              clear hV hXl hB22
              go_wp2_with (fail)
              refine (hV_h.out).mono ?_
              rintro e w23 ⟨rfl, hb23⟩
              clear x0 x1 x2 x3 x4 x5
              have k2e := box_below k2_h.out hb23
              have hB23 := below_trans hB22_h.out hb23 hB22_h.out.size
              have hz23 := box_lt k2e
              obtain ⟨⟨d0, d1, d2⟩, g0, g1, g2⟩ := box3 k2e
              obtain ⟨s1, s2⟩ := set3 (a := .int .i64 0) (b := .int .i64 0) (c := .slice none 0 0) k2e
              have hB24 := below_keeps hB23 s2 hB23.size (fun k hk => by omega)
              clear hB23 s2 k2e hb23
              have s1_h := Lib.hid s1
              have hB24_h := Lib.hid hB24
              clear s1 hB24
              go_wp2_with (fail)
              refine bodyPost_ret (results_cell_tmp rfl _ _ (w.heap.size + 1 + 1) _ _ (0, 0) _ rfl s1_h.out Tryd.underlying26 rfl (by kernel_rfl)) rfl ?_
              exact ⟨_, rfl, [], OwSys.zero _ 0 0, FreshL.nil _, hB24_h.out⟩
end Go.Proofs.YtpfidjegdpkhdaaDoor
namespace Go.Proofs.YtpfidjegdpkhdaaDoor
open Go.RowKit

theorem fresh_some {B : Nat} {G : Addr} (h : B ≤ G.block) : Fresh B (some G) := fun b hb => by
  have : b = G.block := by simpa using hb
  omega
theorem l1Least_any (a b : Int) (w : World) :
    Calls Tryd.prog 71 #[.int .i64 a, .int .i64 b] w fun e w' => e = .returned (.int .i64 (min a b)) ∧ w = w' := by
  by_cases h : a < b
  · have hm : min a b = a := by omega
    have hm_h := Lib.hid hm
    clear hm
    go_enter Tryd.func71, Tryd.ntmps71
    go_wp2_with (fail)
    go_ret
    exact ⟨ret_int hm_h.out.symm, rfl⟩
  · have hm : min a b = b := by omega
    have hm_h := Lib.hid hm
    clear hm
    go_enter Tryd.func71, Tryd.ntmps71
    go_wp2_with (fail)
    go_ret
    exact ⟨ret_int hm_h.out.symm, rfl⟩
set_option maxRecDepth 100000 in
set_option maxHeartbeats 8000000 in
theorem compose_s (p mid : Int) {v v' : Value} {s t : Sys} {fp fp' : List Nat} (w : World) (ha : OwSys w v s fp) (hb : OwSys w v' t fp') (hs : SysOk p s) (ht : SysOk p t) (hr : sysB p s = true) (hq : sysB p t = true) (hm0 : 0 ≤ mid) (hm1 : mid ≤ s.1) (hm2 : mid ≤ t.1) :
    Calls Tryd.prog 24 #[.int .i64 p, v, v', .int .i64 mid] w fun e w' => ∃ v' fp', e = .returned (.tuple #[v', .bool (vsM p (coV mid s t)).2]) ∧ OwSys w' v' (vsM p (coV mid s t)).1 fp' ∧ FreshL w.heap.size fp' ∧ Below w.heap.size w w' := by
  have hokm := co_ok hs ht hm0 hm1 hm2
  have hG0 := fun (W' : World) (hb' : Below w.heap.size w W') => syGood_any p W' (ha.rd.below hb') (okR_sys hr).1 (okR_sys hr).2.1
  have hG0' := fun (W' : World) (hb' : Below w.heap.size w W') => syGood_any p W' (hb.rd.below hb') (okR_sys hq).1 (okR_sys hq).2.1
  simp only [hr] at hG0
  simp only [hq] at hG0'
  clear hr hq
  obtain ⟨Aa, ca, ga, rfl, hLa0, hOa, hfpa⟩ := ha
  obtain ⟨ia, ja, La⟩ := s
  have hva : 0 ≤ ia ∧ ia ≤ 24 := hs.vis
  have hha : 0 ≤ ja ∧ ja ≤ 100 := hs.hid
  have hflda : fieldB p = true := hs.fld
  have hrowa : ∀ u, u ∈ La → (u.length : Int) = ia + ja ∧ Res p u := fun u hu => ⟨by have := (hs.mat.row u hu).1; have e : ((ia, ja, La) : Sys).1 + ((ia, ja, La) : Sys).2.1 = ia + ja := rfl; rw [e] at this; omega, (hs.mat.row u hu).2⟩
  have hlena : La.length ≤ 160 := hs.len
  clear hs
  obtain ⟨a1, rfl⟩ : ∃ n : Nat, ia = (n : Int) := ⟨ia.toNat, by omega⟩
  obtain ⟨a2, rfl⟩ : ∃ n : Nat, ja = (n : Int) := ⟨ja.toNat, by omega⟩
  have hLa : La = ga.map (fun h : Hd => h.2.2) := hLa0
  clear hLa0
  obtain ⟨ma, hma⟩ : ∃ m, m = ga.length := ⟨_, rfl⟩
  have hLma : La.length = ma := by rw [hLa, List.length_map, hma]
  have hma160 : (ma : Int) ≤ 160 := by have := hlena; rw [hLma] at this; omega
  have ha1b : (a1 : Int) ≤ 24 := hva.2
  have ha2b : (a2 : Int) ≤ 100 := hha.2
  clear hva hha
  obtain ⟨Ab, cb, gb, rfl, hLb0, hOb, hfpb⟩ := hb
  obtain ⟨ib, jb, Lb⟩ := t
  have hvb : 0 ≤ ib ∧ ib ≤ 24 := ht.vis
  have hhb : 0 ≤ jb ∧ jb ≤ 100 := ht.hid
  have hfldb : fieldB p = true := ht.fld
  have hrowb : ∀ u, u ∈ Lb → (u.length : Int) = ib + jb ∧ Res p u := fun u hu => ⟨by have := (ht.mat.row u hu).1; have e : ((ib, jb, Lb) : Sys).1 + ((ib, jb, Lb) : Sys).2.1 = ib + jb := rfl; rw [e] at this; omega, (ht.mat.row u hu).2⟩
  have hlenb : Lb.length ≤ 160 := ht.len
  clear ht
  obtain ⟨b1, rfl⟩ : ∃ n : Nat, ib = (n : Int) := ⟨ib.toNat, by omega⟩
  obtain ⟨b2, rfl⟩ : ∃ n : Nat, jb = (n : Int) := ⟨jb.toNat, by omega⟩
  have hLb : Lb = gb.map (fun h : Hd => h.2.2) := hLb0
  clear hLb0
  obtain ⟨mb, hmb⟩ : ∃ m, m = gb.length := ⟨_, rfl⟩
  have hLmb : Lb.length = mb := by rw [hLb, List.length_map, hmb]
  have hmb160 : (mb : Int) ≤ 160 := by have := hlenb; rw [hLmb] at this; omega
  have hb1b : (b1 : Int) ≤ 24 := hvb.2
  have hb2b : (b2 : Int) ≤ 100 := hhb.2
  clear hvb hhb
  obtain ⟨md, rfl⟩ : ∃ n : Nat, mid = (n : Int) := ⟨mid.toNat, by omega⟩
  have hma1 : md ≤ a1 := by have : (md : Int) ≤ (a1 : Int) := hm1; omega
  have hmb1 : md ≤ b1 := by have : (md : Int) ≤ (b1 : Int) := hm2; omega
  obtain ⟨lf, hlf⟩ : ∃ n, n = a1 - md := ⟨_, rfl⟩
  obtain ⟨rt, hrt⟩ : ∃ n, n = b1 - md := ⟨_, rfl⟩
  obtain ⟨vis, hvis⟩ : ∃ n, n = lf + rt := ⟨_, rfl⟩
  obtain ⟨ab, hab⟩ : ∃ n, n = a2 + b2 := ⟨_, rfl⟩
  obtain ⟨hd, hhd⟩ : ∃ n, n = ab + md := ⟨_, rfl⟩
  obtain ⟨va, hva⟩ : ∃ n, n = vis + a2 := ⟨_, rfl⟩
  obtain ⟨jt, hjt⟩ : ∃ n, n = vis + ab := ⟨_, rfl⟩
  obtain ⟨N, hN⟩ : ∃ n, n = vis + hd := ⟨_, rfl⟩
  have i1 : (a1 : Int) - (md : Int) = (lf : Int) := by omega
  have i2 : (b1 : Int) - (md : Int) = (rt : Int) := by omega
  have i3 : (lf : Int) + (rt : Int) = (vis : Int) := by omega
  have i4 : (a2 : Int) + (b2 : Int) = (ab : Int) := by omega
  have i5 : (ab : Int) + (md : Int) = (hd : Int) := by omega
  have i6 : (vis : Int) + (a2 : Int) = (va : Int) := by omega
  have i7 : (va : Int) + (b2 : Int) = (jt : Int) := by omega
  have i8 : (vis : Int) + (hd : Int) = (N : Int) := by omega
  obtain ⟨X, hX⟩ : ∃ X, X = La.map (fun u => layTo N (cA lf a1 vis jt) u (a1 + a2)) ++ Lb.map (fun u => layTo N (cB md b1 lf va jt) u (b1 + b2)) := ⟨_, rfl⟩
  have hgoal : coV (md : Int) ((a1 : Int), (a2 : Int), La) ((b1 : Int), (b2 : Int), Lb) = ((vis : Int), (hd : Int), X) := by
    unfold coV
    refine Prod.ext ?_ (Prod.ext ?_ ?_)
    · show (a1 : Int) - md + ((b1 : Int) - md) = vis; omega
    · show (a2 : Int) + b2 + md = hd; omega
    · show coRows _ _ _ = X
      rw [hX, hN, hjt, hva, hhd, hab, hvis, hlf, hrt]; rfl
  have hokX : OkR X := by
    have e : ((vis : Int), (hd : Int), X).2.2 = X := rfl
    rw [← e, ← hgoal]; exact hokm
  have b1b : (lf : Int) ≤ 24 := by omega
  have b2b : (rt : Int) ≤ 24 := by omega
  have b3b : (vis : Int) ≤ 48 := by omega
  have b4b : (ab : Int) ≤ 200 := by omega
  have b5b : (hd : Int) ≤ 224 := by omega
  have b6b : (va : Int) ≤ 148 := by omega
  have b7b : (jt : Int) ≤ 248 := by omega
  have b8b : N ≤ 272 := by omega
  have b9b : (md : Int) ≤ 24 := by omega
  have hla : a1 = lf + md := by omega
  have hlb : b1 = md + rt := by omega
  rw [hgoal]
  obtain ⟨M, hM⟩ : ∃ M, M = vsM p ((vis : Int), (hd : Int), X) := ⟨_, rfl⟩
  rw [← hM]
  unfold vsM at hM
  show Calls Tryd.prog _ #[.int .i64 p, .agg #[.int .i64 (a1 : Int), .int .i64 (a2 : Int), .slice Aa ga.length ca], .agg #[.int .i64 (b1 : Int), .int .i64 (b2 : Int), .slice Ab gb.length cb], .int .i64 (md : Int)] w _
  rw [← hma, ← hmb]
  simp only [← hma] at hG0
  simp only [← hmb] at hG0'
  obtain ⟨W, hW, bW, k0, k1, k2⟩ := alloc3 w (.cells #[.int .i64 (a1 : Int), .int .i64 (a2 : Int), .slice Aa ma ca] tSys) (.cells #[.int .i64 (b1 : Int), .int .i64 (b2 : Int), .slice Ab mb cb] tSys) (.cells #[.int .i64 0, .int .i64 0, .slice none 0 0] tSys)
  have hzw2 := box_lt k2
  have hlta : ∀ b, b ∈ fpA Aa ++ fpR ga → b < w.heap.size := hOa.lt
  have hltb : ∀ b, b ∈ fpA Ab ++ fpR gb → b < w.heap.size := hOb.lt
  have hG := hG0 W bW
  have hG' := fun (W' : World) (hb' : Below W.heap.size W W') => hG0' W' (below_trans bW hb' bW.size)
  obtain ⟨⟨c0, c1, c2⟩, f0, f1, f2⟩ := box3 k0
  clear hgoal hokm hG0 hG0'
  have hLa_h := Lib.hid hLa
  have hLb_h := Lib.hid hLb
  have hma_h := Lib.hid hma
  have hmb_h := Lib.hid hmb
  have hLma_h := Lib.hid hLma
  have hLmb_h := Lib.hid hLmb
  have bW_h := Lib.hid bW
  have k0_h := Lib.hid k0
  have k1_h := Lib.hid k1
  have k2_h := Lib.hid k2
  have hlta_h := Lib.hid hlta
  have hltb_h := Lib.hid hltb
  have hOa_h := Lib.hid hOa
  have hOb_h := Lib.hid hOb
  have hrowa_h := Lib.hid hrowa
  have hrowb_h := Lib.hid hrowb
  have hlena_h := Lib.hid hlena
  have hlenb_h := Lib.hid hlenb
  have hflda_h := Lib.hid hflda
  have hfldb_h := Lib.hid hfldb
  have hX_h := Lib.hid hX
  have hfpa_h := Lib.hid hfpa
  have hfpb_h := Lib.hid hfpb
  have hM_h := Lib.hid hM
  have hokX_h := Lib.hid hokX
  have hG_h := Lib.hid hG
  have hG'_h := Lib.hid hG'
  have hlf_h := Lib.hid hlf
  have hrt_h := Lib.hid hrt
  have hvis_h := Lib.hid hvis
  have hab_h := Lib.hid hab
  have hhd_h := Lib.hid hhd
  have hva_h := Lib.hid hva
  have hjt_h := Lib.hid hjt
  have hN_h := Lib.hid hN
  have i1_h := Lib.hid i1
  have i2_h := Lib.hid i2
  have i3_h := Lib.hid i3
  have i4_h := Lib.hid i4
  have i5_h := Lib.hid i5
  have i6_h := Lib.hid i6
  have i7_h := Lib.hid i7
  have i8_h := Lib.hid i8
  have hla_h := Lib.hid hla
  have hlb_h := Lib.hid hlb
  have hzw2_h := Lib.hid hzw2
  clear hLa hLb hma hmb hLma hLmb bW k0 k1 k2 hlta hltb hOa hOb hrowa hrowb hlena hlenb hflda hfldb hX hfpa hfpb hM hokX hG hG' hlf hrt hvis hab hhd hva hjt hN i1 i2 i3 i4 i5 i6 i7 i8 hla hlb hzw2
  go_enter Tryd.func24, Tryd.ntmps24
  go_upto_region 1 with (fail)
  rw [← hW]
  clear hW
  have dM : (decide ((0 : Int) ≤ (md : Int)) && decide ((md : Int) ≤ min (a1 : Int) (b1 : Int))) = true := by simp; omega
  have dM_h := Lib.hid dM
  clear dM
  go_cut [44] (fun sx wx => sx = .bool false ∧ Below W.heap.size W wx)
  case first =>
    go_wp2_with (fail)
    refine (hG_h.out).mono ?_
    rintro e w1 ⟨rfl, hb1⟩
    clear c0 c1 c2 f0 f1 f2
    replace k0_h := Lib.hid (box_below k0_h.out hb1)
    replace k1_h := Lib.hid (box_below k1_h.out hb1)
    replace k2_h := Lib.hid (box_below k2_h.out hb1)
    have hG1 := hG'_h.out w1 hb1
    obtain ⟨⟨c0, c1, c2⟩, f0, f1, f2⟩ := box3 k1_h.out
    have hb1_h := Lib.hid hb1
    have hG1_h := Lib.hid hG1
    clear hb1 hG1
    go_wp2_with (fail)
    refine (hG1_h.out).mono ?_
    rintro e w2 ⟨rfl, hb2⟩
    clear c0 c1 c2 f0 f1 f2
    replace k0_h := Lib.hid (box_below k0_h.out hb2)
    replace k1_h := Lib.hid (box_below k1_h.out hb2)
    replace k2_h := Lib.hid (box_below k2_h.out hb2)
    have hbW2 := below_trans hb1_h.out hb2 hb1_h.out.size
    obtain ⟨⟨c0, c1, c2⟩, f0, f1, f2⟩ := box3 k0_h.out
    obtain ⟨⟨d0, d1, d2⟩, g0, g1, g2⟩ := box3 k1_h.out
    have hbW2_h := Lib.hid hbW2
    have hb2_h := Lib.hid hb2
    clear hbW2 hb2
    go_wp2_with (fail)
    refine (l1Least_any _ _ _).mono ?_
    rintro e w3 ⟨rfl, rfl⟩
    go_wp2_with (fail)
    refine (l1In_any _ _ _ _).mono ?_
    rintro e w3 ⟨rfl, rfl⟩
    rw [dM_h.out]
    go_wp2_with (fail)
    go_meet
    exact ⟨rfl, hbW2_h.out⟩
  case rest =>
    obtain ⟨rfl, hbc⟩ := hcut
    obtain ⟨w2, rfl⟩ : ∃ x, x = wc := ⟨_, rfl⟩
    clear c0 c1 c2 f0 f1 f2 hG_h hG'_h dM_h
    replace k0_h := Lib.hid (box_below k0_h.out hbc)
    replace k1_h := Lib.hid (box_below k1_h.out hbc)
    replace k2_h := Lib.hid (box_below k2_h.out hbc)
    have hB2 := below_trans bW_h.out hbc bW_h.out.size
    obtain ⟨⟨c0, c1, c2⟩, f0, f1, f2⟩ := box3 k0_h.out
    obtain ⟨⟨d0, d1, d2⟩, g0, g1, g2⟩ := box3 k1_h.out
    have i1 := i1_h.out
    have i2 := i2_h.out
    have i1w : IntKind.i64.wrap ((a1 : Int) - (md : Int)) = (lf : Int) := by rw [i1]; exact IntWalk.i64_in _ (by omega)
    have i2w : IntKind.i64.wrap ((b1 : Int) - (md : Int)) = (rt : Int) := by rw [i2]; exact IntWalk.i64_in _ (by omega)
    have hbc_h := Lib.hid hbc
    have hB2_h := Lib.hid hB2
    clear hbc hB2
    go_wp2_with (fail)
    go_quiet (fail)
    obtain ⟨Wd, hWd⟩ : ∃ Wd, Wd = w2.drewN nq := ⟨_, rfl⟩
    have hbd : Below w2.heap.size w2 Wd := by rw [hWd]; exact below_drewN (Below.refl _ _) nq
    rw [← hWd]
    clear hWd c0 c1 c2 f0 f1 f2 d0 d1 d2 g0 g1 g2 i1 i2 i1w i2w
    replace k0_h := Lib.hid (box_below k0_h.out hbd)
    replace k1_h := Lib.hid (box_below k1_h.out hbd)
    replace k2_h := Lib.hid (box_below k2_h.out hbd)
    have hbc2 := below_trans hbc_h.out hbd hbc_h.out.size
    obtain ⟨⟨c0, c1, c2⟩, f0, f1, f2⟩ := box3 k0_h.out
    obtain ⟨⟨d0, d1, d2⟩, g0, g1, g2⟩ := box3 k1_h.out
    have i3 := i3_h.out
    have i4 := i4_h.out
    have i5 := i5_h.out
    have hbc2_h := Lib.hid hbc2
    have hbd_h := Lib.hid hbd
    clear hbc2 hbd
    go_upto_region 5 with (fail)
    obtain ⟨W4, hW4⟩ : ∃ W4, W4 = Wd.alloc (.cells #[.int .i64 (vis : Int), .int .i64 (hd : Int), .slice none 0 0] tSys) := ⟨_, rfl⟩
    have b4 := below_alloc Wd (.cells #[.int .i64 (vis : Int), .int .i64 (hd : Int), .slice none 0 0] tSys)
    have k4 := heap_alloc_new Wd (.cells #[.int .i64 (vis : Int), .int .i64 (hd : Int), .slice none 0 0] tSys)
    rw [← hW4] at b4 k4
    have hW4s : W4.heap.size ≤ Wd.heap.size + 1 := by rw [hW4]; simp
    obtain ⟨bx, hbx⟩ : ∃ bx, bx = Wd.heap.size := ⟨_, rfl⟩
    have hzb := box_lt k2_h.out
    rw [← hbx] at k4 hW4s hzb
    rw [← hW4, ← hbx]
    have hz4 := box_lt k4
    have hWbx : W.heap.size ≤ bx := by rw [hbx]; exact hbc2_h.out.size
    have hBW : Below W.heap.size W W4 := below_trans hbc2_h.out b4 hbc2_h.out.size
    have hN4 : OMx Wd bx W4 none 0 [] := OMx.nil b4 (by omega) hz4
    clear c0 c1 c2 f0 f1 f2 d0 d1 d2 g0 g1 g2 hW4 i3 i4 i5
    replace k0_h := Lib.hid (box_below k0_h.out b4)
    replace k1_h := Lib.hid (box_below k1_h.out b4)
    replace k2_h := Lib.hid (box_below k2_h.out b4)
    have hOa := (hOa_h.out.below bW_h.out).below hBW
    have hOb := (hOb_h.out.below bW_h.out).below hBW
    clear hOa_h hOb_h
    have hwW := bW_h.out.size
    obtain ⟨⟨c0, c1, c2⟩, f0, f1, f2⟩ := box3 k0_h.out
    obtain ⟨⟨x0, x1, x2⟩, x3, x4, x5⟩ := box3 k4
    have i8 := i8_h.out
    have i9 : (N : Int) - (md : Int) = (jt : Int) := by have := hN_h.out; have := hhd_h.out; have := hjt_h.out; omega
    have b4_h := Lib.hid b4
    have k4_h := Lib.hid k4
    have hbx_h := Lib.hid hbx
    have hBW_h := Lib.hid hBW
    have hOa_h := Lib.hid hOa
    have hOb_h := Lib.hid hOb
    have hN4_h := Lib.hid hN4
    clear b4 k4 hbx hBW hOa hOb hN4
    go_wp2_with (fail)
    clear c0 c1 c2 f0 f1 f2 x0 x1 x2 x3 x4 x5 i8 i9
    go_loopw [76] (fun i wr => ∃ (k : Nat) (A' : Option Addr) (c' q' : Nat), k ≤ ma ∧ i = .int .i64 k ∧ q' = k ∧ wr.heap[bx]? = some (.cells #[.int .i64 (vis : Int), .int .i64 (hd : Int), .slice A' q' c'] tSys) ∧ OMx Wd bx wr A' c' ((La.take k).map (fun u => layTo N (cA lf a1 vis jt) u (a1 + a2))) ∧ Keeps (fun b => W4.heap.size ≤ b ∨ b = bx) W4 wr) (fun i _ => ma - (intOf i).toNat)
    case atStart => exact ⟨0, none, 0, 0, Nat.zero_le _, rfl, rfl, k4_h.out, hN4_h.out, Keeps.refl _ _⟩
    case round =>
      clear hN4_h k4_h
      obtain ⟨k, A', c', q', hk, rfl, hq', kbx, hOM, hkw⟩ := hrel
      have hzr := hkw.size
      have k0r := box_keeps k0_h.out hkw (by omega)
      have k1r := box_keeps k1_h.out hkw (by omega)
      have k2r := box_keeps k2_h.out hkw (by omega)
      have hq320 : (q' : Int) ≤ 320 := by omega
      by_cases hlt : k < ma
      · have hOr := hOa_h.out.keeps hkw (fun b hb h => by have := hlta_h.out b hb; omega)
        obtain ⟨ad, B, d, u, rfl, hx, hc, hrd⟩ := hOr.rd.at_ (k := k) (by rw [← hma_h.out]; exact hlt)
        have hyL : La[k]? = some u := by rw [hLa_h.out, List.getElem?_map, hx]; rfl
        have hul : u.length = a1 + a2 := by have := (hrowa_h.out _ (List.mem_of_getElem? hyL)).1; omega
        rw [hul] at hc
        have hkI : (k : Int) < (ma : Int) := by omega
        obtain ⟨wo, rfl⟩ : ∃ x, x = wr := ⟨_, rfl⟩
        clear hOr hx
        have hyL_h := Lib.hid hyL
        have hul_h := Lib.hid hul
        have hOM_h := Lib.hid hOM
        have hkw_h := Lib.hid hkw
        have hrd_h := Lib.hid hrd
        have k0r_h := Lib.hid k0r
        have k1r_h := Lib.hid k1r
        have k2r_h := Lib.hid k2r
        have kbx_h := Lib.hid kbx
        have hq'_h := Lib.hid hq'
        clear hyL hul hOM hkw hrd k0r k1r k2r kbx hq'
        go_wp2_with (at_make; refine wpList_make_Sl _ rfl _ _ _ rfl 3 Tryd.underlying37 info_int N N rfl rfl rfl rfl (Nat.le_refl _) (by omega) (by unfold maxLen; omega) ?_; intro G w2 hs2 hG hb2)
        have hi2 : IS w2 (some G) N (List.replicate N 0) := by unfold IS; rw [← madeZeros]; simpa using hs2
        clear hs2 hc
        have hi2_h := Lib.hid hi2
        have hG_h := Lib.hid hG
        have hb2_h := Lib.hid hb2
        clear hi2 hG hb2
        go_loopw [84] (fun i wr => ∃ j : Nat, j ≤ a1 + a2 ∧ i = .int .i64 j ∧ IS wr (some G) N (layTo N (cA lf a1 vis jt) u j) ∧ Below wo.heap.size wo wr) (fun i _ => a1 + a2 - (intOf i).toNat)
        case atStart => exact ⟨0, Nat.zero_le _, rfl, hi2_h.out, hb2_h.out⟩
        case round =>
          clear hi2_h hb2_h
          obtain ⟨j, hj, rfl, his, hbr⟩ := hrel
          have k0i := box_below k0r_h.out hbr
          have k1i := box_below k1r_h.out hbr
          have kbi := box_below kbx_h.out hbr
          by_cases hlt2 : j < a1 + a2
          · obtain ⟨bd, x, rfl, hx, hcx⟩ := (hrd_h.out.below hbr).at_ (j := j) (by rw [hul_h.out]; exact hlt2)
            have hgx : u.getD j 0 = x := by simp [List.getD, hx]
            have hjI : (j : Int) < ((a1 + a2 : Nat) : Int) := by omega
            by_cases t1 : j < lf
            · obtain ⟨q, hq⟩ : ∃ q, q = j := ⟨_, rfl⟩
              have hfq : (cA lf a1 vis jt) j = q := by rw [hq]; unfold cA; rw [if_pos t1]
              have hqN : q < N := by rw [hq]; have := hN_h.out; have := hhd_h.out; have := hab_h.out; have := hjt_h.out; have := hva_h.out; have := hvis_h.out; have := hla_h.out; have := hlb_h.out; omega
              have hkl : q < (layTo N (cA lf a1 vis jt) u j).length := by rw [layTo_length]; exact hqN
              obtain ⟨gd, y, hA, hy, hblt, hc, hf⟩ := his.at_ hkl
              obtain rfl := Option.some.inj hA
              have hset := his.set rfl x hkl
              rw [← hfq, ← hgx] at hset
              have hset2 : IS _ (some G) N (layTo N (cA lf a1 vis jt) u (j + 1)) := hset
              rw [hfq, hgx] at hset2
              have hbs := hbr.setCell (p := G.add q) (by rw [block_of_add]; exact hG_h.out) (.int .i64 x)
              have hfz := hf q
              have hqI : (q : Int) < (N : Int) := by omega
              obtain ⟨⟨c0, c1, c2⟩, f0, f1, f2⟩ := box3 k0i
              obtain ⟨⟨d0, d1, d2⟩, g0, g1, g2⟩ := box3 k1i
              obtain ⟨⟨x0, x1, x2⟩, x3, x4, x5⟩ := box3 kbi
              clear his hy hkl hf hbr hset hfq k0i k1i kbi hgx hx
              obtain rfl : j = q := hq.symm
              have hq : j = j := rfl
              have t1I : (j : Int) < (lf : Int) := by omega
              have hset2_h := Lib.hid hset2
              have hbs_h := Lib.hid hbs
              have hq_h := Lib.hid hq
              clear hset2 hbs hq
              go_wp2_with (fail)
              go_roundw
              case rel => exact ⟨j + 1, by omega, by go_num, hset2_h.out, hbs_h.out⟩
              case measure => simp [intOf]; omega
            · by_cases t2 : j < a1
              · obtain ⟨q, hq⟩ : ∃ q, q = j - lf + jt := ⟨_, rfl⟩
                have hfq : (cA lf a1 vis jt) j = q := by rw [hq]; unfold cA; rw [if_neg t1, if_pos t2]
                have hqN : q < N := by rw [hq]; have := hN_h.out; have := hhd_h.out; have := hab_h.out; have := hjt_h.out; have := hva_h.out; have := hvis_h.out; have := hla_h.out; have := hlb_h.out; omega
                have hkl : q < (layTo N (cA lf a1 vis jt) u j).length := by rw [layTo_length]; exact hqN
                obtain ⟨gd, y, hA, hy, hblt, hc, hf⟩ := his.at_ hkl
                obtain rfl := Option.some.inj hA
                have hset := his.set rfl x hkl
                rw [← hfq, ← hgx] at hset
                have hset2 : IS _ (some G) N (layTo N (cA lf a1 vis jt) u (j + 1)) := hset
                rw [hfq, hgx] at hset2
                have hbs := hbr.setCell (p := G.add q) (by rw [block_of_add]; exact hG_h.out) (.int .i64 x)
                have hfz := hf q
                have hqI : (q : Int) < (N : Int) := by omega
                obtain ⟨⟨c0, c1, c2⟩, f0, f1, f2⟩ := box3 k0i
                obtain ⟨⟨d0, d1, d2⟩, g0, g1, g2⟩ := box3 k1i
                obtain ⟨⟨x0, x1, x2⟩, x3, x4, x5⟩ := box3 kbi
                clear his hy hkl hf hbr hset hfq k0i k1i kbi hgx hx
                have t1I : ¬ (j : Int) < (lf : Int) := by omega
                have t2I : (j : Int) < (a1 : Int) := by omega
                have e2 : (jt : Int) + (j : Int) - (lf : Int) = (q : Int) := by rw [hq]; omega
                have hset2_h := Lib.hid hset2
                have hbs_h := Lib.hid hbs
                have hq_h := Lib.hid hq
                clear hset2 hbs hq
                go_wp2_with (fail)
                go_roundw
                case rel => exact ⟨j + 1, by omega, by go_num, hset2_h.out, hbs_h.out⟩
                case measure => simp [intOf]; omega
              · obtain ⟨q, hq⟩ : ∃ q, q = j - a1 + vis := ⟨_, rfl⟩
                have hfq : (cA lf a1 vis jt) j = q := by rw [hq]; unfold cA; rw [if_neg t1, if_neg t2]
                have hqN : q < N := by rw [hq]; have := hN_h.out; have := hhd_h.out; have := hab_h.out; have := hjt_h.out; have := hva_h.out; have := hvis_h.out; have := hla_h.out; have := hlb_h.out; omega
                have hkl : q < (layTo N (cA lf a1 vis jt) u j).length := by rw [layTo_length]; exact hqN
                obtain ⟨gd, y, hA, hy, hblt, hc, hf⟩ := his.at_ hkl
                obtain rfl := Option.some.inj hA
                have hset := his.set rfl x hkl
                rw [← hfq, ← hgx] at hset
                have hset2 : IS _ (some G) N (layTo N (cA lf a1 vis jt) u (j + 1)) := hset
                rw [hfq, hgx] at hset2
                have hbs := hbr.setCell (p := G.add q) (by rw [block_of_add]; exact hG_h.out) (.int .i64 x)
                have hfz := hf q
                have hqI : (q : Int) < (N : Int) := by omega
                obtain ⟨⟨c0, c1, c2⟩, f0, f1, f2⟩ := box3 k0i
                obtain ⟨⟨d0, d1, d2⟩, g0, g1, g2⟩ := box3 k1i
                obtain ⟨⟨x0, x1, x2⟩, x3, x4, x5⟩ := box3 kbi
                clear his hy hkl hf hbr hset hfq k0i k1i kbi hgx hx
                have t1I : ¬ (j : Int) < (lf : Int) := by omega
                have t2I : ¬ (j : Int) < (a1 : Int) := by omega
                have e2 : (vis : Int) + (j : Int) - (a1 : Int) = (q : Int) := by rw [hq]; omega
                have hset2_h := Lib.hid hset2
                have hbs_h := Lib.hid hbs
                have hq_h := Lib.hid hq
                clear hset2 hbs hq
                go_wp2_with (fail)
                go_roundw
                case rel => exact ⟨j + 1, by omega, by go_num, hset2_h.out, hbs_h.out⟩
                case measure => simp [intOf]; omega
          · have hje : j = a1 + a2 := by omega
            subst hje
            have hi3 : IS wr (some G) N (layTo N (cA lf a1 vis jt) u (a1 + a2)) := his
            obtain ⟨ys, hLy, hOy, hfy, h0y, h1y, h2y⟩ := hOM_h.out
            have hyl : ys.length = q' := by
              have := congrArg List.length hLy
              simp only [List.length_map, List.length_take, hLma_h.out] at this
              have := hq'_h.out
              omega
            have hsl : Sl (wr.alloc (.cells #[.slice (some G) N N] 37)) 37 1 A' q' c' (ys.map Hd.val) := by
              have := (hOy.sl.below hbr).alloc (.cells #[.slice (some G) N N] 37)
              rwa [hyl] at this
            have hal : Below wr.heap.size wr (wr.alloc (.cells #[.slice (some G) N N] 37)) := below_alloc _ _
            have kba := box_below kbi hal
            have hpl : (layTo N (cA lf a1 vis jt) u (a1 + a2)).length = N := layTo_length _ _ _ _
            have hfyb : ∀ b, b ∈ fpA A' → b ≠ bx := fun b hb => (hfy b (List.mem_append_left _ hb)).2
            obtain ⟨⟨z0, z1, z2⟩, z3, z4, z5⟩ := box3 kbi
            clear his k0i k1i kbi
            have hi3_h := Lib.hid hi3
            have hsl_h := Lib.hid hsl
            have hbr_h := Lib.hid hbr
            have hpl_h := Lib.hid hpl
            have hal_h := Lib.hid hal
            have kba_h := Lib.hid kba
            have hLy_h := Lib.hid hLy
            have hOy_h := Lib.hid hOy
            have hfy_h := Lib.hid hfy
            have h0y_h := Lib.hid h0y
            have hyl_h := Lib.hid hyl
            have hfyb_h := Lib.hid hfyb
            clear hi3 hsl hbr hpl hal kba hLy hOy hfy h0y hyl hfyb
            go_wp2_with (at_builtin; refine wpList_append_Sl _ rfl _ _ _ rfl 37 Tryd.underlying22 info_ints rfl (by omega) rfl (hsl_h.out) rfl (news := [.slice (some G) N N]) rfl (Sl.rdc (Sl.laid wr 37 1 1 #[.slice (some G) N N] (by unfold maxLen; omega) rfl)) (by intro u hu; simp at hu; subst hu; rfl) (by unfold maxLen; omega) (by omega) ?_; intro A6 c6 w6 hsA6 hA6 hkA6; have kb6 := box_keeps kba_h.out hkA6 (fun h => hfyb_h.out _ h rfl); obtain ⟨⟨x0, x1, x2⟩, x3, x4, x5⟩ := box3 kb6; have kb6_h := Lib.hid kb6; clear kb6)
            clear z0 z1 z2 z3 z4 z5 x0 x1 x2 x3 x4 x5
            have hO6 := OMx.snoc (w1 := wr.alloc (.cells #[.slice (some G) N N] 37)) hLy_h.out hOy_h.out hfy_h.out h0y_h.out h1y h2y (below_trans hbr_h.out hal_h.out hbr_h.out.size) (hi3_h.out.below hal_h.out) (fresh_some hG_h.out) (by rw [hyl_h.out]) (by rw [hpl_h.out]; exact hsA6) hA6 hkA6
            obtain ⟨s1, s2⟩ := set_f2 (b := .slice A6 (q' + 1) c6) kb6_h.out
            have hO7 := hO6.store s2
            have hkr := ((((hkw_h.out.trans (Keeps.of_below hbr_h.out _)).trans (Keeps.of_below hal_h.out _)).trans (hkA6.mono fun b _ hb => by
              have := hfy_h.out b (List.mem_append_left _ hb)
              have := hbx_h.out
              left; omega)).trans (s2.mono fun b _ hb => .inr hb))
            clear hsA6 hA6 hkA6 hO6 s2
            have hO7_h := Lib.hid hO7
            have s1_h := Lib.hid s1
            have hkr_h := Lib.hid hkr
            clear hO7 s1 hkr
            go_roundw
            case rel => exact ⟨k + 1, A6, c6, q' + 1, by omega, by go_num, by have := hq'_h.out; omega, s1_h.out, by rw [List.take_add_one, hyL_h.out, List.map_append]; exact hO7_h.out, hkr_h.out⟩
            case measure => simp [intOf]; omega
      · obtain rfl : ma = k := by omega
        have hOM2 : OMx Wd bx wr A' c' (La.map (fun u => layTo N (cA lf a1 vis jt) u (a1 + a2))) := by rwa [List.take_of_length_le (by rw [hLma_h.out]; exact Nat.le_refl _)] at hOM
        obtain ⟨⟨c0, c1, c2⟩, f0, f1, f2⟩ := box3 k1r
        clear hOM
        have hOM2_h := Lib.hid hOM2
        have kbx_h := Lib.hid kbx
        have hkw_h := Lib.hid hkw
        have k0r_h := Lib.hid k0r
        have k1r_h := Lib.hid k1r
        have k2r_h := Lib.hid k2r
        clear hOM2 kbx hkw k0r k1r k2r
        go_wp2_with (fail)
        clear c0 c1 c2 f0 f1 f2
        go_loopw [131] (fun i wr => ∃ (k : Nat) (A' : Option Addr) (c' q' : Nat), k ≤ mb ∧ i = .int .i64 k ∧ q' = ma + k ∧ wr.heap[bx]? = some (.cells #[.int .i64 (vis : Int), .int .i64 (hd : Int), .slice A' q' c'] tSys) ∧ OMx Wd bx wr A' c' (La.map (fun u => layTo N (cA lf a1 vis jt) u (a1 + a2)) ++ (Lb.take k).map (fun u => layTo N (cB md b1 lf va jt) u (b1 + b2))) ∧ Keeps (fun b => W4.heap.size ≤ b ∨ b = bx) W4 wr) (fun i _ => mb - (intOf i).toNat)
        case atStart => exact ⟨0, A', c', q', Nat.zero_le _, rfl, by omega, kbx_h.out, by simpa using hOM2_h.out, hkw_h.out⟩
        case round =>
          clear hOM2_h kbx_h hkw_h k0r_h k1r_h k2r_h hzr hq' hq320
          obtain ⟨k, A', c', q', hk, rfl, hq', kbx, hOM, hkw⟩ := hrel
          have hzr := hkw.size
          have k0r := box_keeps k0_h.out hkw (by omega)
          have k1r := box_keeps k1_h.out hkw (by omega)
          have k2r := box_keeps k2_h.out hkw (by omega)
          have hq320 : (q' : Int) ≤ 320 := by omega
          by_cases hlt : k < mb
          · have hOr := hOb_h.out.keeps hkw (fun b hb h => by have := hltb_h.out b hb; omega)
            obtain ⟨ad, B, d, u, rfl, hx, hc, hrd⟩ := hOr.rd.at_ (k := k) (by rw [← hmb_h.out]; exact hlt)
            have hyL : Lb[k]? = some u := by rw [hLb_h.out, List.getElem?_map, hx]; rfl
            have hul : u.length = b1 + b2 := by have := (hrowb_h.out _ (List.mem_of_getElem? hyL)).1; omega
            rw [hul] at hc
            have hkI : (k : Int) < (mb : Int) := by omega
            obtain ⟨wo, rfl⟩ : ∃ x, x = wr := ⟨_, rfl⟩
            clear hOr hx
            have hyL_h := Lib.hid hyL
            have hul_h := Lib.hid hul
            have hOM_h := Lib.hid hOM
            have hkw_h := Lib.hid hkw
            have hrd_h := Lib.hid hrd
            have k0r_h := Lib.hid k0r
            have k1r_h := Lib.hid k1r
            have k2r_h := Lib.hid k2r
            have kbx_h := Lib.hid kbx
            have hq'_h := Lib.hid hq'
            clear hyL hul hOM hkw hrd k0r k1r k2r kbx hq'
            go_wp2_with (at_make; refine wpList_make_Sl _ rfl _ _ _ rfl 3 Tryd.underlying37 info_int N N rfl rfl rfl rfl (Nat.le_refl _) (by omega) (by unfold maxLen; omega) ?_; intro G w2 hs2 hG hb2)
            have hi2 : IS w2 (some G) N (List.replicate N 0) := by unfold IS; rw [← madeZeros]; simpa using hs2
            clear hs2 hc
            have hi2_h := Lib.hid hi2
            have hG_h := Lib.hid hG
            have hb2_h := Lib.hid hb2
            clear hi2 hG hb2
            go_loopw [139] (fun i wr => ∃ j : Nat, j ≤ b1 + b2 ∧ i = .int .i64 j ∧ IS wr (some G) N (layTo N (cB md b1 lf va jt) u j) ∧ Below wo.heap.size wo wr) (fun i _ => b1 + b2 - (intOf i).toNat)
            case atStart => exact ⟨0, Nat.zero_le _, rfl, hi2_h.out, hb2_h.out⟩
            case round =>
              clear hi2_h hb2_h
              obtain ⟨j, hj, rfl, his, hbr⟩ := hrel
              have k0i := box_below k0r_h.out hbr
              have k1i := box_below k1r_h.out hbr
              have kbi := box_below kbx_h.out hbr
              by_cases hlt2 : j < b1 + b2
              · obtain ⟨bd, x, rfl, hx, hcx⟩ := (hrd_h.out.below hbr).at_ (j := j) (by rw [hul_h.out]; exact hlt2)
                have hgx : u.getD j 0 = x := by simp [List.getD, hx]
                have hjI : (j : Int) < ((b1 + b2 : Nat) : Int) := by omega
                by_cases t1 : j < md
                · obtain ⟨q, hq⟩ : ∃ q, q = j + jt := ⟨_, rfl⟩
                  have hfq : (cB md b1 lf va jt) j = q := by rw [hq]; unfold cB; rw [if_pos t1]
                  have hqN : q < N := by rw [hq]; have := hN_h.out; have := hhd_h.out; have := hab_h.out; have := hjt_h.out; have := hva_h.out; have := hvis_h.out; have := hla_h.out; have := hlb_h.out; omega
                  have hkl : q < (layTo N (cB md b1 lf va jt) u j).length := by rw [layTo_length]; exact hqN
                  obtain ⟨gd, y, hA, hy, hblt, hc, hf⟩ := his.at_ hkl
                  obtain rfl := Option.some.inj hA
                  have hset := his.set rfl x hkl
                  rw [← hfq, ← hgx] at hset
                  have hset2 : IS _ (some G) N (layTo N (cB md b1 lf va jt) u (j + 1)) := hset
                  rw [hfq, hgx] at hset2
                  have hbs := hbr.setCell (p := G.add q) (by rw [block_of_add]; exact hG_h.out) (.int .i64 x)
                  have hfz := hf q
                  have hqI : (q : Int) < (N : Int) := by omega
                  obtain ⟨⟨c0, c1, c2⟩, f0, f1, f2⟩ := box3 k0i
                  obtain ⟨⟨d0, d1, d2⟩, g0, g1, g2⟩ := box3 k1i
                  obtain ⟨⟨x0, x1, x2⟩, x3, x4, x5⟩ := box3 kbi
                  clear his hy hkl hf hbr hset hfq k0i k1i kbi hgx hx
                  have t1I : (j : Int) < (md : Int) := by omega
                  have e2 : (jt : Int) + (j : Int) = (q : Int) := by rw [hq]; omega
                  have hset2_h := Lib.hid hset2
                  have hbs_h := Lib.hid hbs
                  have hq_h := Lib.hid hq
                  clear hset2 hbs hq
                  go_wp2_with (fail)
                  go_roundw
                  case rel => exact ⟨j + 1, by omega, by go_num, hset2_h.out, hbs_h.out⟩
                  case measure => simp [intOf]; omega
                · by_cases t2 : j < b1
                  · obtain ⟨q, hq⟩ : ∃ q, q = j - md + lf := ⟨_, rfl⟩
                    have hfq : (cB md b1 lf va jt) j = q := by rw [hq]; unfold cB; rw [if_neg t1, if_pos t2]
                    have hqN : q < N := by rw [hq]; have := hN_h.out; have := hhd_h.out; have := hab_h.out; have := hjt_h.out; have := hva_h.out; have := hvis_h.out; have := hla_h.out; have := hlb_h.out; omega
                    have hkl : q < (layTo N (cB md b1 lf va jt) u j).length := by rw [layTo_length]; exact hqN
                    obtain ⟨gd, y, hA, hy, hblt, hc, hf⟩ := his.at_ hkl
                    obtain rfl := Option.some.inj hA
                    have hset := his.set rfl x hkl
                    rw [← hfq, ← hgx] at hset
                    have hset2 : IS _ (some G) N (layTo N (cB md b1 lf va jt) u (j + 1)) := hset
                    rw [hfq, hgx] at hset2
                    have hbs := hbr.setCell (p := G.add q) (by rw [block_of_add]; exact hG_h.out) (.int .i64 x)
                    have hfz := hf q
                    have hqI : (q : Int) < (N : Int) := by omega
                    obtain ⟨⟨c0, c1, c2⟩, f0, f1, f2⟩ := box3 k0i
                    obtain ⟨⟨d0, d1, d2⟩, g0, g1, g2⟩ := box3 k1i
                    obtain ⟨⟨x0, x1, x2⟩, x3, x4, x5⟩ := box3 kbi
                    clear his hy hkl hf hbr hset hfq k0i k1i kbi hgx hx
                    have t1I : ¬ (j : Int) < (md : Int) := by omega
                    have t2I : (j : Int) < (b1 : Int) := by omega
                    have e2 : (lf : Int) + (j : Int) - (md : Int) = (q : Int) := by rw [hq]; omega
                    have hset2_h := Lib.hid hset2
                    have hbs_h := Lib.hid hbs
                    have hq_h := Lib.hid hq
                    clear hset2 hbs hq
                    go_wp2_with (fail)
                    go_roundw
                    case rel => exact ⟨j + 1, by omega, by go_num, hset2_h.out, hbs_h.out⟩
                    case measure => simp [intOf]; omega
                  · obtain ⟨q, hq⟩ : ∃ q, q = j - b1 + va := ⟨_, rfl⟩
                    have hfq : (cB md b1 lf va jt) j = q := by rw [hq]; unfold cB; rw [if_neg t1, if_neg t2]
                    have hqN : q < N := by rw [hq]; have := hN_h.out; have := hhd_h.out; have := hab_h.out; have := hjt_h.out; have := hva_h.out; have := hvis_h.out; have := hla_h.out; have := hlb_h.out; omega
                    have hkl : q < (layTo N (cB md b1 lf va jt) u j).length := by rw [layTo_length]; exact hqN
                    obtain ⟨gd, y, hA, hy, hblt, hc, hf⟩ := his.at_ hkl
                    obtain rfl := Option.some.inj hA
                    have hset := his.set rfl x hkl
                    rw [← hfq, ← hgx] at hset
                    have hset2 : IS _ (some G) N (layTo N (cB md b1 lf va jt) u (j + 1)) := hset
                    rw [hfq, hgx] at hset2
                    have hbs := hbr.setCell (p := G.add q) (by rw [block_of_add]; exact hG_h.out) (.int .i64 x)
                    have hfz := hf q
                    have hqI : (q : Int) < (N : Int) := by omega
                    obtain ⟨⟨c0, c1, c2⟩, f0, f1, f2⟩ := box3 k0i
                    obtain ⟨⟨d0, d1, d2⟩, g0, g1, g2⟩ := box3 k1i
                    obtain ⟨⟨x0, x1, x2⟩, x3, x4, x5⟩ := box3 kbi
                    clear his hy hkl hf hbr hset hfq k0i k1i kbi hgx hx
                    have t1I : ¬ (j : Int) < (md : Int) := by omega
                    have t2I : ¬ (j : Int) < (b1 : Int) := by omega
                    have e1 : (vis : Int) + (a2 : Int) = (va : Int) := i6_h.out
                    have e2 : (va : Int) + (j : Int) - (b1 : Int) = (q : Int) := by rw [hq]; omega
                    have hset2_h := Lib.hid hset2
                    have hbs_h := Lib.hid hbs
                    have hq_h := Lib.hid hq
                    clear hset2 hbs hq
                    go_wp2_with (fail)
                    go_roundw
                    case rel => exact ⟨j + 1, by omega, by go_num, hset2_h.out, hbs_h.out⟩
                    case measure => simp [intOf]; omega
              · have hje : j = b1 + b2 := by omega
                subst hje
                have hi3 : IS wr (some G) N (layTo N (cB md b1 lf va jt) u (b1 + b2)) := his
                obtain ⟨ys, hLy, hOy, hfy, h0y, h1y, h2y⟩ := hOM_h.out
                have hyl : ys.length = q' := by
                  have := congrArg List.length hLy
                  simp only [List.length_append, List.length_map, List.length_take, hLma_h.out, hLmb_h.out] at this
                  have := hq'_h.out
                  omega
                have hsl : Sl (wr.alloc (.cells #[.slice (some G) N N] 37)) 37 1 A' q' c' (ys.map Hd.val) := by
                  have := (hOy.sl.below hbr).alloc (.cells #[.slice (some G) N N] 37)
                  rwa [hyl] at this
                have hal : Below wr.heap.size wr (wr.alloc (.cells #[.slice (some G) N N] 37)) := below_alloc _ _
                have kba := box_below kbi hal
                have hpl : (layTo N (cB md b1 lf va jt) u (b1 + b2)).length = N := layTo_length _ _ _ _
                have hfyb : ∀ b, b ∈ fpA A' → b ≠ bx := fun b hb => (hfy b (List.mem_append_left _ hb)).2
                obtain ⟨⟨z0, z1, z2⟩, z3, z4, z5⟩ := box3 kbi
                clear his k0i k1i kbi
                have hi3_h := Lib.hid hi3
                have hsl_h := Lib.hid hsl
                have hbr_h := Lib.hid hbr
                have hpl_h := Lib.hid hpl
                have hal_h := Lib.hid hal
                have kba_h := Lib.hid kba
                have hLy_h := Lib.hid hLy
                have hOy_h := Lib.hid hOy
                have hfy_h := Lib.hid hfy
                have h0y_h := Lib.hid h0y
                have hyl_h := Lib.hid hyl
                have hfyb_h := Lib.hid hfyb
                clear hi3 hsl hbr hpl hal kba hLy hOy hfy h0y hyl hfyb
                go_wp2_with (at_builtin; refine wpList_append_Sl _ rfl _ _ _ rfl 37 Tryd.underlying22 info_ints rfl (by omega) rfl (hsl_h.out) rfl (news := [.slice (some G) N N]) rfl (Sl.rdc (Sl.laid wr 37 1 1 #[.slice (some G) N N] (by unfold maxLen; omega) rfl)) (by intro u hu; simp at hu; subst hu; rfl) (by unfold maxLen; omega) (by omega) ?_; intro A6 c6 w6 hsA6 hA6 hkA6; have kb6 := box_keeps kba_h.out hkA6 (fun h => hfyb_h.out _ h rfl); obtain ⟨⟨x0, x1, x2⟩, x3, x4, x5⟩ := box3 kb6; have kb6_h := Lib.hid kb6; clear kb6)
                clear z0 z1 z2 z3 z4 z5 x0 x1 x2 x3 x4 x5
                have hO6 := OMx.snoc (w1 := wr.alloc (.cells #[.slice (some G) N N] 37)) hLy_h.out hOy_h.out hfy_h.out h0y_h.out h1y h2y (below_trans hbr_h.out hal_h.out hbr_h.out.size) (hi3_h.out.below hal_h.out) (fresh_some hG_h.out) (by rw [hyl_h.out]) (by rw [hpl_h.out]; exact hsA6) hA6 hkA6
                obtain ⟨s1, s2⟩ := set_f2 (b := .slice A6 (q' + 1) c6) kb6_h.out
                have hO7 := hO6.store s2
                have hkr := ((((hkw_h.out.trans (Keeps.of_below hbr_h.out _)).trans (Keeps.of_below hal_h.out _)).trans (hkA6.mono fun b _ hb => by
                  have := hfy_h.out b (List.mem_append_left _ hb)
                  have := hbx_h.out
                  left; omega)).trans (s2.mono fun b _ hb => .inr hb))
                clear hsA6 hA6 hkA6 hO6 s2
                have hO7_h := Lib.hid hO7
                have s1_h := Lib.hid s1
                have hkr_h := Lib.hid hkr
                clear hO7 s1 hkr
                go_roundw
                case rel => exact ⟨k + 1, A6, c6, q' + 1, by omega, by go_num, by have := hq'_h.out; omega, s1_h.out, by rw [List.take_add_one, hyL_h.out, List.map_append, ← List.append_assoc]; exact hO7_h.out, hkr_h.out⟩
                case measure => simp [intOf]; omega
          · obtain rfl : mb = k := by omega
            have hOM2 : OMx Wd bx wr A' c' X := by rw [List.take_of_length_le (by rw [hLmb_h.out]; exact Nat.le_refl _), ← hX_h.out] at hOM; exact hOM
            have hXl : X.length = q' := by rw [hX_h.out, List.length_append, List.length_map, List.length_map, hLma_h.out, hLmb_h.out, hq']
            obtain ⟨hs, hLs, hrs⟩ := hOM2.om.rdr
            have hsl : hs.length = q' := by have := congrArg List.length hLs; rw [List.length_map, hXl] at this; exact this.symm
            have hV := syGood_any p (v := .agg #[.int .i64 (vis : Int), .int .i64 (hd : Int), .slice A' q' c']) (s := ((vis : Int), (hd : Int), X)) wr ⟨A', c', hs, by rw [hsl], hLs, hrs⟩ hokX_h.out.1 hokX_h.out.2.1
            have hBd0 := below_trans bW_h.out hbc2_h.out bW_h.out.size
            have hB5 := below_trans hBd0 hOM2.below_ hBd0.size
            have hbd9 : bx ≤ Wd.heap.size := by have := hbx_h.out; omega
            have hzw2 := hzw2_h.out
            have hz5 := hOM2.below_.size
            obtain ⟨⟨x0, x1, x2⟩, x3, x4, x5⟩ := box3 kbx
            clear hLs hrs hsl hOM hkw k0r k1r hq'
            by_cases hsb : sysB p ((vis : Int), (hd : Int), X) = true
            · have hM2 := hM_h.out
              rw [hsb, if_pos rfl] at hM2
              rw [hsb] at hV
              subst hM2
              clear hM_h hsb
              have hV_h := Lib.hid hV
              have hXl_h := Lib.hid hXl
              have hB5_h := Lib.hid hB5
              have hOM2_h := Lib.hid hOM2
              have k2r_h := Lib.hid k2r
              have kbx_h := Lib.hid kbx
              clear hV hXl hB5 hOM2 k2r kbx
              go_wp2_with (fail)
              refine (hV_h.out).mono ?_
              rintro e w23 ⟨rfl, hb23⟩
              clear x0 x1 x2 x3 x4 x5
              have hOM3 := hOM2_h.out.below hb23
              have k2e := box_below k2r_h.out hb23
              have hB23 := below_trans hB5_h.out hb23 hB5_h.out.size
              have hz23 := box_lt k2e
              obtain ⟨⟨x0, x1, x2⟩, x3, x4, x5⟩ := box3 (box_below kbx_h.out hb23)
              obtain ⟨⟨d0, d1, d2⟩, g0, g1, g2⟩ := box3 k2e
              obtain ⟨s1, s2⟩ := set3 (a := .int .i64 (vis : Int)) (b := .int .i64 (hd : Int)) (c := .slice A' q' c') k2e
              obtain ⟨fp3, hO5, hf5⟩ := OwSys.of_ret (a := (vis : Int)) (b := (hd : Int)) hOM3.om s2 (fun k hk => by omega) hXl_h.out
              have hB24 := below_keeps hB23 s2 hB23.size (fun k hk => by omega)
              have hf6 := hf5.mono hBd0.size
              clear hOM3 hB23 hf5 s2 k2e hb23
              have s1_h := Lib.hid s1
              have hO5_h := Lib.hid hO5
              have hf6_h := Lib.hid hf6
              have hB24_h := Lib.hid hB24
              clear s1 hO5 hf6 hB24
              go_wp2_with (fail)
              refine bodyPost_ret (results_cell_tmp rfl _ _ (w.heap.size + 1 + 1) _ _ (0, 0) _ rfl s1_h.out Tryd.underlying26 rfl (by kernel_rfl)) rfl ?_
              exact ⟨_, rfl, fp3, hO5_h.out, hf6_h.out, hB24_h.out⟩
            · have hsb' : sysB p ((vis : Int), (hd : Int), X) = false := by simpa using hsb
              have hM2 := hM_h.out
              rw [hsb', if_neg (by simp)] at hM2
              rw [hsb'] at hV
              subst hM2
              clear hM_h hsb hsb'
              have hV_h := Lib.hid hV
              have hXl_h := Lib.hid hXl
              have hB5_h := Lib.hid hB5
              have hOM2_h := Lib.hid hOM2
              have k2r_h := Lib.hid k2r
              have kbx_h := Lib.hid kbx
              clear hV hXl hB5 hOM2 k2r kbx
              go_wp2_with (fail)
              refine (hV_h.out).mono ?_
              rintro e w23 ⟨rfl, hb23⟩
              clear x0 x1 x2 x3 x4 x5
              have k2e := box_below k2r_h.out hb23
              have hB23 := below_trans hB5_h.out hb23 hB5_h.out.size
              have hz23 := box_lt k2e
              obtain ⟨⟨d0, d1, d2⟩, g0, g1, g2⟩ := box3 k2e
              obtain ⟨s1, s2⟩ := set3 (a := .int .i64 0) (b := .int .i64 0) (c := .slice none 0 0) k2e
              have hB24 := below_keeps hB23 s2 hB23.size (fun k hk => by omega)
              clear hB23 s2 k2e hb23
              have s1_h := Lib.hid s1
              have hB24_h := Lib.hid hB24
              clear s1 hB24
              go_wp2_with (fail)
              refine bodyPost_ret (results_cell_tmp rfl _ _ (w.heap.size + 1 + 1) _ _ (0, 0) _ rfl s1_h.out Tryd.underlying26 rfl (by kernel_rfl)) rfl ?_
              exact ⟨_, rfl, [], OwSys.zero _ 0 0, FreshL.nil _, hB24_h.out⟩
set_option maxRecDepth 100000 in
set_option maxHeartbeats 4000000 in
theorem sComposeSystems_law (p mid : Int) {v v' : Value} {s t : Sys} {fp fp' : List Nat} {w : World} (h : OwSys w v s fp) (h' : OwSys w v' t fp') (ok : OkR s.2.2) (ok' : OkR t.2.2) :
    Calls Tryd.prog 24 #[.int .i64 p, v, v', .int .i64 mid] w fun e w' => ∃ v' fp', e = .returned (.tuple #[v', .bool (coM p mid s t).2]) ∧ OwSys w' v' (coM p mid s t).1 fp' ∧ FreshL w.heap.size fp' ∧ Below w.heap.size w w' := by
  by_cases hall : sysB p s = true ∧ sysB p t = true ∧ 0 ≤ mid ∧ mid ≤ s.1 ∧ mid ≤ t.1
  · obtain ⟨hr, hq, h1, h2, h3⟩ := hall
    have hC : coM p mid s t = vsM p (coV mid s t) := by
      unfold coM
      rw [hr, hq, decide_eq_true h1, decide_eq_true (show mid ≤ min s.1 t.1 by omega)]; rfl
    rw [hC]
    exact compose_s p mid w h h' (SysOk.of hr) (SysOk.of hq) hr hq h1 h2 h3
  have hC : coM p mid s t = ((0, 0, []), false) := by
    unfold coM
    rw [if_neg]
    intro hh
    simp only [Bool.and_eq_true, decide_eq_true_eq] at hh
    exact hall ⟨hh.1, hh.2.1, hh.2.2.1, by omega, by omega⟩
  rw [hC]
  obtain ⟨A, n, c, rfl⟩ := h.shape
  obtain ⟨A', n', c', rfl⟩ := h'.shape
  obtain ⟨W, hW, bW, k0, k1, k2⟩ := alloc3 w (.cells #[.int .i64 s.1, .int .i64 s.2.1, .slice A n c] tSys) (.cells #[.int .i64 t.1, .int .i64 t.2.1, .slice A' n' c'] tSys) (.cells #[.int .i64 0, .int .i64 0, .slice none 0 0] tSys)
  have hG := fun W' (hb : Below W.heap.size W W') => syGood_any p W' ((h.below bW).below hb).rd ok.1 ok.2.1
  have hG' := fun W' (hb : Below W.heap.size W W') => syGood_any p W' ((h'.below bW).below hb).rd ok'.1 ok'.2.1
  by_cases hr : sysB p s = true
  · simp only [hr] at hG
    by_cases hq : sysB p t = true
    · simp only [hq] at hG'
      have hmb : (decide (0 ≤ mid) && decide (mid ≤ min s.1 t.1)) = false := by
        rw [Bool.eq_false_iff]; intro hh
        simp only [Bool.and_eq_true, decide_eq_true_eq] at hh
        exact hall ⟨hr, hq, hh.1, by omega, by omega⟩
      clear h h' ok ok' hC hall hr hq
      have hG_h := Lib.hid hG
      have hG'_h := Lib.hid hG'
      have k0_h := Lib.hid k0
      have k1_h := Lib.hid k1
      have k2_h := Lib.hid k2
      have bW_h := Lib.hid bW
      have hmb_h := Lib.hid hmb
      clear hG hG' k0 k1 k2 bW hmb
      go_enter Tryd.func24, Tryd.ntmps24
      go_upto_region 1 with (fail)
      rw [← hW]
      clear hW
      obtain ⟨⟨c0, c1, c2⟩, f0, f1, f2⟩ := box3 k0_h.out
      obtain ⟨⟨e0, e1, e2⟩, j0, j1, j2⟩ := box3 k1_h.out
      go_wp2_with (fail)
      refine (hG_h.out W (Below.refl _ _)).mono ?_
      rintro e w1 ⟨rfl, hb1⟩
      clear c0 c1 c2 f0 f1 f2 e0 e1 e2 j0 j1 j2
      replace k0_h := Lib.hid (box_below k0_h.out hb1)
      replace k1_h := Lib.hid (box_below k1_h.out hb1)
      replace k2_h := Lib.hid (box_below k2_h.out hb1)
      have hB1 := below_trans bW_h.out hb1 bW_h.out.size
      have hB1_h := Lib.hid hB1
      have hb1_h := Lib.hid hb1
      clear hB1 hb1
      obtain ⟨⟨c0, c1, c2⟩, f0, f1, f2⟩ := box3 k0_h.out
      obtain ⟨⟨e0, e1, e2⟩, j0, j1, j2⟩ := box3 k1_h.out
      go_wp2_with (fail)
      refine (hG'_h.out w1 hb1_h.out).mono ?_
      rintro e w2 ⟨rfl, hb2⟩
      clear c0 c1 c2 f0 f1 f2 e0 e1 e2 j0 j1 j2
      replace k0_h := Lib.hid (box_below k0_h.out hb2)
      replace k1_h := Lib.hid (box_below k1_h.out hb2)
      replace k2_h := Lib.hid (box_below k2_h.out hb2)
      have hB2 := below_trans hB1_h.out hb2 hB1_h.out.size
      have hb12 := below_trans hb1_h.out hb2 hb1_h.out.size
      have hB2_h := Lib.hid hB2
      have hb2_h := Lib.hid hb2
      have hb12_h := Lib.hid hb12
      clear hB2 hb2 hb12
      obtain ⟨⟨c0, c1, c2⟩, f0, f1, f2⟩ := box3 k0_h.out
      obtain ⟨⟨e0, e1, e2⟩, j0, j1, j2⟩ := box3 k1_h.out
      go_wp2_with (fail)
      refine (l1Least_any s.1 t.1 w2).mono ?_
      rintro e w3 ⟨rfl, rfl⟩
      go_wp2_with (fail)
      refine (l1In_any mid 0 _ w2).mono ?_
      rintro e w3 ⟨rfl, rfl⟩
      rw [hmb_h.out]
      have hzr := box_lt k2_h.out
      obtain ⟨⟨d0, d1, d2⟩, g0, g1, g2⟩ := box3 k2_h.out
      obtain ⟨s1, s2⟩ := set3 (a := .int .i64 0) (b := .int .i64 0) (c := .slice none 0 0) k2_h.out
      have hB9 := below_keeps hB2_h.out s2 (hB2_h.out).size (fun k hk => by omega)
      have s1_h := Lib.hid s1
      have s2_h := Lib.hid s2
      have hB9_h := Lib.hid hB9
      clear s1 s2 hB9
      go_wp2_with (fail)
      refine bodyPost_ret (results_cell_tmp rfl _ _ (w.heap.size + 1 + 1) _ _ (0, 0) _ rfl s1_h.out Tryd.underlying26 rfl (by kernel_rfl)) rfl ?_
      exact ⟨_, [], rfl, OwSys.zero _ 0 0, FreshL.nil _, hB9_h.out⟩
    · have hq' : sysB p t = false := by simpa using hq
      simp only [hq'] at hG'
      clear h h' ok ok' hC hall hr hq hq'
      have hG_h := Lib.hid hG
      have hG'_h := Lib.hid hG'
      have k0_h := Lib.hid k0
      have k1_h := Lib.hid k1
      have k2_h := Lib.hid k2
      have bW_h := Lib.hid bW
      clear hG hG' k0 k1 k2 bW
      go_enter Tryd.func24, Tryd.ntmps24
      go_upto_region 1 with (fail)
      rw [← hW]
      clear hW
      obtain ⟨⟨c0, c1, c2⟩, f0, f1, f2⟩ := box3 k0_h.out
      obtain ⟨⟨e0, e1, e2⟩, j0, j1, j2⟩ := box3 k1_h.out
      go_wp2_with (fail)
      refine (hG_h.out W (Below.refl _ _)).mono ?_
      rintro e w1 ⟨rfl, hb1⟩
      clear c0 c1 c2 f0 f1 f2 e0 e1 e2 j0 j1 j2
      replace k0_h := Lib.hid (box_below k0_h.out hb1)
      replace k1_h := Lib.hid (box_below k1_h.out hb1)
      replace k2_h := Lib.hid (box_below k2_h.out hb1)
      have hB1 := below_trans bW_h.out hb1 bW_h.out.size
      have hB1_h := Lib.hid hB1
      have hb1_h := Lib.hid hb1
      clear hB1 hb1
      obtain ⟨⟨c0, c1, c2⟩, f0, f1, f2⟩ := box3 k0_h.out
      obtain ⟨⟨e0, e1, e2⟩, j0, j1, j2⟩ := box3 k1_h.out
      go_wp2_with (fail)
      refine (hG'_h.out w1 hb1_h.out).mono ?_
      rintro e w2 ⟨rfl, hb2⟩
      clear c0 c1 c2 f0 f1 f2 e0 e1 e2 j0 j1 j2
      replace k0_h := Lib.hid (box_below k0_h.out hb2)
      replace k1_h := Lib.hid (box_below k1_h.out hb2)
      replace k2_h := Lib.hid (box_below k2_h.out hb2)
      have hB2 := below_trans hB1_h.out hb2 hB1_h.out.size
      have hb12 := below_trans hb1_h.out hb2 hb1_h.out.size
      have hB2_h := Lib.hid hB2
      have hb2_h := Lib.hid hb2
      have hb12_h := Lib.hid hb12
      clear hB2 hb2 hb12
      have hzr := box_lt k2_h.out
      obtain ⟨⟨d0, d1, d2⟩, g0, g1, g2⟩ := box3 k2_h.out
      obtain ⟨s1, s2⟩ := set3 (a := .int .i64 0) (b := .int .i64 0) (c := .slice none 0 0) k2_h.out
      have hB9 := below_keeps hB2_h.out s2 (hB2_h.out).size (fun k hk => by omega)
      have s1_h := Lib.hid s1
      have s2_h := Lib.hid s2
      have hB9_h := Lib.hid hB9
      clear s1 s2 hB9
      go_wp2_with (fail)
      refine bodyPost_ret (results_cell_tmp rfl _ _ (w.heap.size + 1 + 1) _ _ (0, 0) _ rfl s1_h.out Tryd.underlying26 rfl (by kernel_rfl)) rfl ?_
      exact ⟨_, [], rfl, OwSys.zero _ 0 0, FreshL.nil _, hB9_h.out⟩
  · have hr' : sysB p s = false := by simpa using hr
    simp only [hr'] at hG
    clear h h' ok ok' hC hall hr hr' hG'
    have hG_h := Lib.hid hG
    have k0_h := Lib.hid k0
    have k1_h := Lib.hid k1
    have k2_h := Lib.hid k2
    have bW_h := Lib.hid bW
    clear hG k0 k1 k2 bW
    go_enter Tryd.func24, Tryd.ntmps24
    go_upto_region 1 with (fail)
    rw [← hW]
    clear hW
    obtain ⟨⟨c0, c1, c2⟩, f0, f1, f2⟩ := box3 k0_h.out
    obtain ⟨⟨e0, e1, e2⟩, j0, j1, j2⟩ := box3 k1_h.out
    go_wp2_with (fail)
    refine (hG_h.out W (Below.refl _ _)).mono ?_
    rintro e w1 ⟨rfl, hb1⟩
    clear c0 c1 c2 f0 f1 f2 e0 e1 e2 j0 j1 j2
    replace k0_h := Lib.hid (box_below k0_h.out hb1)
    replace k1_h := Lib.hid (box_below k1_h.out hb1)
    replace k2_h := Lib.hid (box_below k2_h.out hb1)
    have hB1 := below_trans bW_h.out hb1 bW_h.out.size
    have hB1_h := Lib.hid hB1
    have hb1_h := Lib.hid hb1
    clear hB1 hb1
    have hzr := box_lt k2_h.out
    obtain ⟨⟨d0, d1, d2⟩, g0, g1, g2⟩ := box3 k2_h.out
    obtain ⟨s1, s2⟩ := set3 (a := .int .i64 0) (b := .int .i64 0) (c := .slice none 0 0) k2_h.out
    have hB9 := below_keeps hB1_h.out s2 (hB1_h.out).size (fun k hk => by omega)
    have s1_h := Lib.hid s1
    have s2_h := Lib.hid s2
    have hB9_h := Lib.hid hB9
    clear s1 s2 hB9
    go_wp2_with (fail)
    refine bodyPost_ret (results_cell_tmp rfl _ _ (w.heap.size + 1 + 1) _ _ (0, 0) _ rfl s1_h.out Tryd.underlying26 rfl (by kernel_rfl)) rfl ?_
    exact ⟨_, [], rfl, OwSys.zero _ 0 0, FreshL.nil _, hB9_h.out⟩
set_option maxRecDepth 100000 in
set_option maxHeartbeats 4000000 in
theorem iComposeSystems_law (p mid : Int) {v v' : Value} {s t : Sys} {fp fp' : List Nat} {w : World} (h : OwSys w v s fp) (h' : OwSys w v' t fp') (ok : OkR s.2.2) (ok' : OkR t.2.2) (hT : Tab w) :
    Calls Tryd.prog 25 #[.int .i64 p, v, v', .int .i64 mid] w fun e w' => ∃ v' fp', e = .returned (.tuple #[v', .bool (coM p mid s t).2]) ∧ OwSys w' v' (coM p mid s t).1 fp' ∧ FreshL w.heap.size fp' ∧ Below w.heap.size w w' := by
  by_cases hall : sysB p s = true ∧ sysB p t = true ∧ 0 ≤ mid ∧ mid ≤ s.1 ∧ mid ≤ t.1
  · obtain ⟨hr, hq, h1, h2, h3⟩ := hall
    have hC : coM p mid s t = vsM p (coV mid s t) := by
      unfold coM
      rw [hr, hq, decide_eq_true h1, decide_eq_true (show mid ≤ min s.1 t.1 by omega)]; rfl
    rw [hC]
    exact compose_i p mid w h h' (SysOk.of hr) (SysOk.of hq) hr hq h1 h2 h3 hT
  have hC : coM p mid s t = ((0, 0, []), false) := by
    unfold coM
    rw [if_neg]
    intro hh
    simp only [Bool.and_eq_true, decide_eq_true_eq] at hh
    exact hall ⟨hh.1, hh.2.1, hh.2.2.1, by omega, by omega⟩
  rw [hC]
  obtain ⟨A, n, c, rfl⟩ := h.shape
  obtain ⟨A', n', c', rfl⟩ := h'.shape
  obtain ⟨W, hW, bW, k0, k1, k2⟩ := alloc3 w (.cells #[.int .i64 s.1, .int .i64 s.2.1, .slice A n c] tSys) (.cells #[.int .i64 t.1, .int .i64 t.2.1, .slice A' n' c'] tSys) (.cells #[.int .i64 0, .int .i64 0, .slice none 0 0] tSys)
  have hG := fun W' (hb : Below W.heap.size W W') => isSystem_any p W' ((h.below bW).below hb).rd ((hT.below bW hT.lt).below hb (hT.below bW hT.lt).lt) ok.1 ok.2.1
  have hG' := fun W' (hb : Below W.heap.size W W') => isSystem_any p W' ((h'.below bW).below hb).rd ((hT.below bW hT.lt).below hb (hT.below bW hT.lt).lt) ok'.1 ok'.2.1
  by_cases hr : sysB p s = true
  · simp only [hr] at hG
    by_cases hq : sysB p t = true
    · simp only [hq] at hG'
      have hm1 : s.1 ≤ t.1 → (decide (0 ≤ mid) && decide (mid ≤ s.1)) = false := fun hle => by
        rw [Bool.eq_false_iff]; intro hh
        simp only [Bool.and_eq_true, decide_eq_true_eq] at hh
        exact hall ⟨hr, hq, hh.1, by omega, by omega⟩
      have hm2 : t.1 ≤ s.1 → (decide (0 ≤ mid) && decide (mid ≤ t.1)) = false := fun hle => by
        rw [Bool.eq_false_iff]; intro hh
        simp only [Bool.and_eq_true, decide_eq_true_eq] at hh
        exact hall ⟨hr, hq, hh.1, by omega, by omega⟩
      clear h h' ok ok' hC hall hr hq hT
      have hG_h := Lib.hid hG
      have hG'_h := Lib.hid hG'
      have k0_h := Lib.hid k0
      have k1_h := Lib.hid k1
      have k2_h := Lib.hid k2
      have bW_h := Lib.hid bW
      have hm1_h := Lib.hid hm1
      have hm2_h := Lib.hid hm2
      clear hG hG' k0 k1 k2 bW hm1 hm2
      go_enter Tryd.func25, Tryd.ntmps25
      go_upto_region 1 with (fail)
      rw [← hW]
      clear hW
      obtain ⟨⟨c0, c1, c2⟩, f0, f1, f2⟩ := box3 k0_h.out
      obtain ⟨⟨e0, e1, e2⟩, j0, j1, j2⟩ := box3 k1_h.out
      go_wp2_with (fail)
      refine (hG_h.out W (Below.refl _ _)).mono ?_
      rintro e w1 ⟨rfl, hb1⟩
      clear c0 c1 c2 f0 f1 f2 e0 e1 e2 j0 j1 j2
      replace k0_h := Lib.hid (box_below k0_h.out hb1)
      replace k1_h := Lib.hid (box_below k1_h.out hb1)
      replace k2_h := Lib.hid (box_below k2_h.out hb1)
      have hB1 := below_trans bW_h.out hb1 bW_h.out.size
      have hB1_h := Lib.hid hB1
      have hb1_h := Lib.hid hb1
      clear hB1 hb1
      obtain ⟨⟨c0, c1, c2⟩, f0, f1, f2⟩ := box3 k0_h.out
      obtain ⟨⟨e0, e1, e2⟩, j0, j1, j2⟩ := box3 k1_h.out
      go_wp2_with (fail)
      refine (hG'_h.out w1 hb1_h.out).mono ?_
      rintro e w2 ⟨rfl, hb2⟩
      clear c0 c1 c2 f0 f1 f2 e0 e1 e2 j0 j1 j2
      replace k0_h := Lib.hid (box_below k0_h.out hb2)
      replace k1_h := Lib.hid (box_below k1_h.out hb2)
      replace k2_h := Lib.hid (box_below k2_h.out hb2)
      have hB2 := below_trans hB1_h.out hb2 hB1_h.out.size
      have hb12 := below_trans hb1_h.out hb2 hb1_h.out.size
      have hB2_h := Lib.hid hB2
      have hb2_h := Lib.hid hb2
      have hb12_h := Lib.hid hb12
      clear hB2 hb2 hb12
      obtain ⟨⟨c0, c1, c2⟩, f0, f1, f2⟩ := box3 k0_h.out
      obtain ⟨⟨e0, e1, e2⟩, j0, j1, j2⟩ := box3 k1_h.out
      have hzr := box_lt k2_h.out
      obtain ⟨⟨d0, d1, d2⟩, g0, g1, g2⟩ := box3 k2_h.out
      obtain ⟨s1, s2⟩ := set3 (a := .int .i64 0) (b := .int .i64 0) (c := .slice none 0 0) k2_h.out
      have hB9 := below_keeps hB2_h.out s2 (hB2_h.out).size (fun k hk => by omega)
      have s1_h := Lib.hid s1
      have s2_h := Lib.hid s2
      have hB9_h := Lib.hid hB9
      clear s1 s2 hB9
      go_wp2_with (fail)
      all_goals
        refine (within_any _ 0 _ _).mono ?_
        rintro e w3 ⟨rfl, rfl⟩
        first
          | rw [hm1_h.out (by omega)]
          | rw [hm2_h.out (by omega)]
        go_wp2_with (fail)
        refine bodyPost_ret (results_cell_tmp rfl _ _ (w.heap.size + 1 + 1) _ _ (0, 0) _ rfl s1_h.out Tryd.underlying26 rfl (by kernel_rfl)) rfl ?_
        exact ⟨_, [], rfl, OwSys.zero _ 0 0, FreshL.nil _, hB9_h.out⟩
    · have hq' : sysB p t = false := by simpa using hq
      simp only [hq'] at hG'
      clear h h' ok ok' hC hall hr hq hq' hT
      have hG_h := Lib.hid hG
      have hG'_h := Lib.hid hG'
      have k0_h := Lib.hid k0
      have k1_h := Lib.hid k1
      have k2_h := Lib.hid k2
      have bW_h := Lib.hid bW
      clear hG hG' k0 k1 k2 bW
      go_enter Tryd.func25, Tryd.ntmps25
      go_upto_region 1 with (fail)
      rw [← hW]
      clear hW
      obtain ⟨⟨c0, c1, c2⟩, f0, f1, f2⟩ := box3 k0_h.out
      obtain ⟨⟨e0, e1, e2⟩, j0, j1, j2⟩ := box3 k1_h.out
      go_wp2_with (fail)
      refine (hG_h.out W (Below.refl _ _)).mono ?_
      rintro e w1 ⟨rfl, hb1⟩
      clear c0 c1 c2 f0 f1 f2 e0 e1 e2 j0 j1 j2
      replace k0_h := Lib.hid (box_below k0_h.out hb1)
      replace k1_h := Lib.hid (box_below k1_h.out hb1)
      replace k2_h := Lib.hid (box_below k2_h.out hb1)
      have hB1 := below_trans bW_h.out hb1 bW_h.out.size
      have hB1_h := Lib.hid hB1
      have hb1_h := Lib.hid hb1
      clear hB1 hb1
      obtain ⟨⟨c0, c1, c2⟩, f0, f1, f2⟩ := box3 k0_h.out
      obtain ⟨⟨e0, e1, e2⟩, j0, j1, j2⟩ := box3 k1_h.out
      go_wp2_with (fail)
      refine (hG'_h.out w1 hb1_h.out).mono ?_
      rintro e w2 ⟨rfl, hb2⟩
      clear c0 c1 c2 f0 f1 f2 e0 e1 e2 j0 j1 j2
      replace k0_h := Lib.hid (box_below k0_h.out hb2)
      replace k1_h := Lib.hid (box_below k1_h.out hb2)
      replace k2_h := Lib.hid (box_below k2_h.out hb2)
      have hB2 := below_trans hB1_h.out hb2 hB1_h.out.size
      have hb12 := below_trans hb1_h.out hb2 hb1_h.out.size
      have hB2_h := Lib.hid hB2
      have hb2_h := Lib.hid hb2
      have hb12_h := Lib.hid hb12
      clear hB2 hb2 hb12
      have hzr := box_lt k2_h.out
      obtain ⟨⟨d0, d1, d2⟩, g0, g1, g2⟩ := box3 k2_h.out
      obtain ⟨s1, s2⟩ := set3 (a := .int .i64 0) (b := .int .i64 0) (c := .slice none 0 0) k2_h.out
      have hB9 := below_keeps hB2_h.out s2 (hB2_h.out).size (fun k hk => by omega)
      have s1_h := Lib.hid s1
      have s2_h := Lib.hid s2
      have hB9_h := Lib.hid hB9
      clear s1 s2 hB9
      go_wp2_with (fail)
      refine bodyPost_ret (results_cell_tmp rfl _ _ (w.heap.size + 1 + 1) _ _ (0, 0) _ rfl s1_h.out Tryd.underlying26 rfl (by kernel_rfl)) rfl ?_
      exact ⟨_, [], rfl, OwSys.zero _ 0 0, FreshL.nil _, hB9_h.out⟩
  · have hr' : sysB p s = false := by simpa using hr
    simp only [hr'] at hG
    clear h h' ok ok' hC hall hr hr' hG' hT
    have hG_h := Lib.hid hG
    have k0_h := Lib.hid k0
    have k1_h := Lib.hid k1
    have k2_h := Lib.hid k2
    have bW_h := Lib.hid bW
    clear hG k0 k1 k2 bW
    go_enter Tryd.func25, Tryd.ntmps25
    go_upto_region 1 with (fail)
    rw [← hW]
    clear hW
    obtain ⟨⟨c0, c1, c2⟩, f0, f1, f2⟩ := box3 k0_h.out
    obtain ⟨⟨e0, e1, e2⟩, j0, j1, j2⟩ := box3 k1_h.out
    go_wp2_with (fail)
    refine (hG_h.out W (Below.refl _ _)).mono ?_
    rintro e w1 ⟨rfl, hb1⟩
    clear c0 c1 c2 f0 f1 f2 e0 e1 e2 j0 j1 j2
    replace k0_h := Lib.hid (box_below k0_h.out hb1)
    replace k1_h := Lib.hid (box_below k1_h.out hb1)
    replace k2_h := Lib.hid (box_below k2_h.out hb1)
    have hB1 := below_trans bW_h.out hb1 bW_h.out.size
    have hB1_h := Lib.hid hB1
    have hb1_h := Lib.hid hb1
    clear hB1 hb1
    have hzr := box_lt k2_h.out
    obtain ⟨⟨d0, d1, d2⟩, g0, g1, g2⟩ := box3 k2_h.out
    obtain ⟨s1, s2⟩ := set3 (a := .int .i64 0) (b := .int .i64 0) (c := .slice none 0 0) k2_h.out
    have hB9 := below_keeps hB1_h.out s2 (hB1_h.out).size (fun k hk => by omega)
    have s1_h := Lib.hid s1
    have s2_h := Lib.hid s2
    have hB9_h := Lib.hid hB9
    clear s1 s2 hB9
    go_wp2_with (fail)
    refine bodyPost_ret (results_cell_tmp rfl _ _ (w.heap.size + 1 + 1) _ _ (0, 0) _ rfl s1_h.out Tryd.underlying26 rfl (by kernel_rfl)) rfl ?_
    exact ⟨_, [], rfl, OwSys.zero _ 0 0, FreshL.nil _, hB9_h.out⟩
end Go.Proofs.YtpfidjegdpkhdaaDoor
