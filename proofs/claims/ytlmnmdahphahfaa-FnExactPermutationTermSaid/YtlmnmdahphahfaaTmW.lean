/-
  THE LAW's HELPERS: mark, held over []Node and Term.
-/
import Derived.Test.YtlmnmdahphahfaaTmQ
import Derived.Laws.IdiomStrings
namespace Go.Proofs.Ytlmnmdahphahfaa
open Go.RowKit

def digit (j : Nat) : UInt8 := UInt8.ofNat (48 + j % 10)
theorem digit_val (j : Nat) : ((digit j).toNat : Int) = 48 + (j : Int) % 10 := by
  unfold digit
  rw [UInt8.toNat_ofNat']
  omega
def mkGo : Nat → Nat → ByteArray → ByteArray
  | 0, _, o => o
  | f + 1, j, o => if j = 0 then o else mkGo f (j / 10) (⟨#[digit j]⟩ ++ o)
/-- The text of a mark. -/
def mkT (k : Nat) : ByteArray := ⟨#[109]⟩ ++ mkGo k k ⟨#[]⟩
theorem mkGo_zero (f : Nat) (o : ByteArray) : mkGo f 0 o = o := by cases f <;> simp [mkGo]
set_option maxRecDepth 20000 in
set_option maxHeartbeats 1000000 in
theorem markText_any (k : Nat) (hk : 0 < k) (hb : k ≤ 17592186044416) (w : World) :
    Calls Try.prog 84 #[.int .i64 k] w fun e w' => e = .returned (.string (mkT k)) ∧ Below w.heap.size w w' := by
  have h0 : ¬ ((k : Int) ≤ 0) := by omega
  obtain ⟨R, hR⟩ : ∃ R, R = mkGo k k ⟨#[]⟩ := ⟨_, rfl⟩
  have hT : mkT k = ⟨#[109]⟩ ++ R := by rw [hR]; rfl
  rw [hT]
  have hR_h := Lib.hid hR
  have hT_h := Lib.hid hT
  clear hR hT
  go_enter Try.func84, Try.ntmps84
  go_wp2_with (fail)
  go_loopw [0, 3] (fun kv ov wr => ∃ (f j : Nat) (o : ByteArray), j ≤ f ∧ o.size + j ≤ 17592186044416 ∧ kv = .int .i64 j ∧ ov = .string o ∧ mkGo f j o = R ∧ Below w.heap.size w wr) (fun kv _ _ => (intOf kv).toNat)
  case atStart => exact ⟨k, k, ⟨#[]⟩, Nat.le_refl _, by show 0 + k ≤ _; omega, rfl, rfl, hR_h.out.symm, Below.refl _ _⟩
  case round =>
    obtain ⟨f, j, o, hf, hj, rfl, rfl, hgo, hbl⟩ := hrel
    by_cases hj0 : 0 < j
    · obtain ⟨f, rfl⟩ : ∃ f', f = f' + 1 := ⟨f - 1, by omega⟩
      have hgo' : mkGo f (j / 10) (⟨#[digit j]⟩ ++ o) = R := by rw [← hgo]; show _ = (if j = 0 then _ else _); rw [if_neg (by omega)]
      have hjI : (0 : Int) < (j : Int) := by omega
      have hcv : (convert 130 9 (.slice (some ⟨wr.heap.size, 0, none⟩) 1 1)).run Try.prog (wr.alloc (.cells #[.int .u8 (48 + (j : Int) % 10)] 5)) = .ok (.string ⟨#[digit j]⟩) (wr.alloc (.cells #[.int .u8 (48 + (j : Int) % 10)] 5)) := by
        have := run_convert_bytes_back (P := Try.prog) (wr.alloc (.cells #[.int .u8 (48 + (j : Int) % 10)] 5)) 130 9 5 ⟨wr.heap.size, 0, none⟩ 1 [digit j] Try.underlying130 Try.underlying5 Try.underlying9 (fun i hi => by
          have : i = 0 := by simp at hi; exact hi
          subst this
          simp only [List.getElem_cons_zero, digit_val]
          exact (bx1 (heap_alloc_new wr _)).1)
        exact this
      have hbl2 := below_trans hbl (below_alloc wr (.cells #[.int .u8 (48 + (j : Int) % 10)] 5)) hbl.size
      have hgo_h := Lib.hid hgo
      have hgo'_h := Lib.hid hgo'
      have hbl2_h := Lib.hid hbl2
      clear hgo hgo' hbl2
      go_wp2_with (fail)
      go_roundw
      case rel => exact ⟨f, j / 10, _, by omega, by show (⟨#[digit j]⟩ ++ o : ByteArray).size + _ ≤ _; rw [ByteArray.size_append]; show 1 + o.size + _ ≤ _; omega, by go_num, rfl, hgo'_h.out, hbl2_h.out⟩
      case measure => simp [intOf]; omega
    · obtain rfl : j = 0 := by omega
      have : o = R := by rw [← hgo, mkGo_zero]
      subst this
      have hgo_h := Lib.hid hgo
      clear hgo
      go_wp2_with (fail)
      go_ret
      exact ⟨rfl, hbl⟩

def mkN (k : Nat) : Nd := ((k : Int), (k : Int) + 1, mkT (k + 2))
def marksN (k n : Nat) : List Nd := (List.range n).map fun i => mkN (k + 3 * i)
@[simp] theorem marksN_length (k n : Nat) : (marksN k n).length = n := by simp [marksN]
theorem marksN_get {k n j : Nat} (h : j < n) : (marksN k n)[j]? = some (mkN (k + 3 * j)) := by simp [marksN, h]

set_option maxRecDepth 8000 in
set_option maxHeartbeats 1000000 in
theorem markNodeS_any (A : Option Addr) (c : Nat) (l : List Nd) (k : Nat) (w : World) (h : NS w A c l) (hk0 : 0 < k) (hl : k + 3 * l.length ≤ 17592186044000) :
    Calls Try.prog 53 #[.slice A l.length c, .int .i64 k] w fun e w' => e = .returned (.int .i64 ((k + 3 * l.length : Nat) : Int)) ∧ NS w' A c (marksN k l.length) ∧ Keeps (· ∈ fpA A) w w' := by
  obtain ⟨m, hm⟩ : ∃ m, m = l.length := ⟨_, rfl⟩
  rw [← hm] at hl ⊢
  have hm_h := Lib.hid hm
  clear hm
  go_enter Try.func53, Try.ntmps53
  go_wp2_with (fail)
  go_loopw [1, 5] (fun q i wr => ∃ j x : Nat, j ≤ m ∧ x = k + 3 * j ∧ i = .int .i64 j ∧ q = .int .i64 (x : Int) ∧ NS wr A c ((marksN k m).take j ++ l.drop j) ∧ Keeps (· ∈ fpA A) w wr) (fun _ i _ => m - (intOf i).toNat)
  case atStart => exact ⟨0, k, Nat.zero_le _, rfl, rfl, rfl, by simpa using h, Keeps.refl _ _⟩
  case round =>
    obtain ⟨j, x, hj, hx, rfl, rfl, his, hkp⟩ := hrel
    have hlen : ((marksN k m).take j ++ l.drop j).length = m := by have := hm_h.out; simp; omega
    have hxb : x ≤ 17592186044000 := by omega
    have hx0 : 0 < x := by omega
    by_cases hlt : j < m
    · have hjI : (j : Int) < (m : Int) := by omega
      obtain ⟨ad, hA, g0, g1, g2⟩ := his.free (j := j) (by omega)
      subst hA
      obtain ⟨_, κ, v, s, hA', hn, d0, d1, d2⟩ := his.rd.at_ (j := j) (by omega)
      obtain rfl := Option.some.inj hA'
      obtain ⟨⟨xm1, m1⟩, n1, ⟨xm2, m2⟩, n2⟩ := his.mid (j := j) (x : Int) ((x : Int) + 1) (by omega)
      have hcl : (ncs ((marksN k m).take j ++ l.drop j)).length = m * 3 := by rw [ncs_length, hlen]
      have s1 := Sl.set his rfl (j * 3) (.int .i64 (x : Int)) (by omega)
      have s2 := Sl.set s1 rfl (j * 3 + 1) (.int .i64 ((x : Int) + 1)) (by rw [List.length_set]; omega)
      rw [add_next ad (j * 3) 1 (by omega)] at s2
      have hk2 : Keeps (· ∈ fpA (some ad)) w ((wr.setCell (ad.add (j * 3)) (.int .i64 (x : Int))).setCell ⟨(ad.add (j * 3)).block, (ad.add (j * 3)).off + 1, none⟩ (.int .i64 ((x : Int) + 1))) :=
        (hkp.setCell (p := ad.add (j * 3)) (by rw [block_of_add]; simp) _).setCell (p := ⟨(ad.add (j * 3)).block, (ad.add (j * 3)).off + 1, none⟩) (by show (ad.add (j * 3)).block ∈ _; rw [block_of_add]; simp) _
      have hMT := markText_any (x + 2) (by omega) (by omega)
      have hset := ncs_set (l := (marksN k m).take j ++ l.drop j) (j := j) (mkN x) (by omega)
      have htr : ((marksN k m).take j ++ l.drop j).set j (mkN x) = (marksN k m).take (j + 1) ++ l.drop (j + 1) := take_append_step (by have := hm_h.out; simp; omega) (by rw [marksN_get hlt, hx])
      rw [htr] at hset
      have s1_h := Lib.hid s1
      have s2_h := Lib.hid s2
      have hk2_h := Lib.hid hk2
      have hcl_h := Lib.hid hcl
      have hlen_h := Lib.hid hlen
      have hn_h := Lib.hid hn
      have his_h := Lib.hid his
      have hkp_h := Lib.hid hkp
      have hMT_h := Lib.hid hMT
      have hset_h := Lib.hid hset
      have htr_h := Lib.hid htr
      have hx_h := Lib.hid hx
      clear s1 s2 hk2 hcl hlen hn his hkp hMT hset htr hx
      clear h hA'
      go_wp2_with (fail)
      rw [show ((x : Int) + 1 + 1) = ((x + 2 : Nat) : Int) by omega]
      refine (hMT_h.out _).mono ?_
      rintro e w2 ⟨rfl, hb2⟩
      have s2' := s2_h.out.below hb2
      have s3 := Sl.set s2' rfl (j * 3 + 2) (.string (mkT (x + 2))) (by rw [List.length_set, List.length_set]; have := hcl_h.out; omega)
      obtain ⟨a3, h3, _, c3, f3⟩ := Sl.cell s2' (j := j * 3 + 2) (u := _) (List.getElem?_eq_getElem (by rw [List.length_set, List.length_set]; have := hcl_h.out; omega))
      obtain rfl := Option.some.inj h3
      have f3 := f3 (j * 3 + 2)
      rw [add_next ad (j * 3) 2 (by omega)] at s3 c3 f3
      rw [show (((ncs ((marksN k m).take j ++ l.drop j)).set (j * 3) (.int .i64 (x : Int))).set (j * 3 + 1) (.int .i64 ((x : Int) + 1))).set (j * 3 + 2) (.string (mkT (x + 2))) = ncs ((marksN k m).take (j + 1) ++ l.drop (j + 1)) from hset_h.out] at s3
      have hl2 : ((marksN k m).take j ++ l.drop j).length = ((marksN k m).take (j + 1) ++ l.drop (j + 1)).length := by have := hm_h.out; simp; omega
      rw [hl2] at s3
      have hk3 := ((hk2_h.out.trans (Keeps.of_below hb2 _)).setCell (p := ⟨(ad.add (j * 3)).block, (ad.add (j * 3)).off + 2, none⟩) (by show (ad.add (j * 3)).block ∈ _; rw [block_of_add]; simp) (.string (mkT (x + 2))))
      have s3_h := Lib.hid s3
      have hk3_h := Lib.hid hk3
      have hl2_h := Lib.hid hl2
      clear s3 hk3 hl2
      clear s2' h3
      go_wp2_with (fail)
      go_roundw
      case rel => exact ⟨j + 1, x + 3, by omega, by have := hx_h.out; omega, by go_num, by go_num, s3_h.out, hk3_h.out⟩
      case measure => simp [intOf]; omega
    · obtain rfl : j = m := by omega
      have hfin : NS wr A c (marksN k j) := by rw [List.take_of_length_le (by simp), List.drop_of_length_le (by rw [← hm_h.out]; omega), List.append_nil] at his; exact his
      have his_h := Lib.hid his
      have hfin_h := Lib.hid hfin
      have hkp_h := Lib.hid hkp
      have hlen_h := Lib.hid hlen
      have hx_h := Lib.hid hx
      clear his hfin hkp hlen hx
      clear h
      go_wp2_with (fail)
      go_ret
      refine ⟨ret_int (by have := hx_h.out; omega), ?_, hkp_h.out⟩
      exact hfin_h.out
end Go.Proofs.Ytlmnmdahphahfaa
