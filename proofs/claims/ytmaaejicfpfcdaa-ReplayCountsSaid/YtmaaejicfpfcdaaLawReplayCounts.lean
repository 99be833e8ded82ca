/- 'ReplayCounts' answers true at every input, and leaves what it was given. No condition. -/
import Derived.Test.YtmaaejicfpfcdaaRpBatch
import Derived.Test.YtmaaejicfpfcdaaLaw
import Derived.Test.YtmaaejicfpfcdaaRows
namespace Go.Proofs.Ytmaaejicfpfcdaa.ReplayCounts
open Go Go.RowKit Go.Mun Go.Proofs

theorem read_two {l more : List Rec} (h1 : SmallL l) (h2 : SmallL more) : batches (batchB l ++ batchB more) = ([normL l, normL more], (batchB l ++ batchB more).length) := by
  obtain ⟨e1, e2, e3⟩ := bat_batch (b := batchB l ++ batchB more) 0 [] l 0 (batchB more) h1 (Nat.zero_le _) rfl
  obtain ⟨e4, e5, e6⟩ := bat_batch (b := batchB l ++ batchB more) (0 + (batchB l).length) ([] ++ [normL l]) more (0 + (batchB l).length) [] h2 e2 (by rw [e3, List.append_nil])
  show bat _ 0 0 [] [] = _
  rw [e1, e4, bat_none e6]
  simp
theorem read_odd {l : List Rec} {z : Nat} (rest : List UInt8) (h1 : SmallL l) (hz : z ≤ 1000) (hne : z ≠ l.length) : batches (opsB l ++ ((endR z).bytes ++ rest)) = ([], 0) := by
  obtain ⟨e1, e2, e3⟩ := bat_ops (b := opsB l ++ ((endR z).bytes ++ rest)) 0 [] l 0 [] _ h1.2 (Nat.zero_le _) rfl
  show bat _ 0 0 [] [] = _
  rw [e1]
  refine bat_odd (x := endR z) (k := (endR z).bytes.length) (by rw [e3, next_pack (endR_err (by omega)), endR_norm (by omega)]) (by show (2 : Int) ≠ 1; decide) ?_
  show ((z : Nat) : Int) ≠ _
  simp [normL]
  omega

set_option maxRecDepth 100000 in
set_option maxHeartbeats 1000000 in
theorem walk_big1 (v1 v2 : Value) (l more : List Rec) (w : World) (hl : SliceOf 3 rOp w v1 l) (hm : SliceOf 3 rOp w v2 more) (z : Int) (_h1 : -9223372036854775808 ≤ z) (_h2 : z ≤ 9223372036854775807) (hs1 : ¬ SmallL l) :
    Calls Try.prog 13 #[v1, v2, .int .i64 z] w fun e w' => e = .returned (.bool true) ∧ Below w.heap.size w w' := by
  have CA := Lib.hid alive22
  have tkB : True := trivial
  go_enter Try.func13, Try.ntmps13
  go_wp2_with (first
    | (go_at_call 26; refine (CA.out _).mono ?_; rintro e w1 ⟨rfl, hb1⟩; have hl1 := hl.ext rOp_stays hb1; have hm1 := hm.ext rOp_stays hb1)
    | (go_at_call 30; have _t := tkB; refine (Big_yes _ _ _ hl1 hs1).mono ?_; clear tkB; rintro e w2 ⟨rfl, rfl⟩)
    | fail)
  go_ret
  exact ⟨rfl, hb1⟩

set_option maxRecDepth 100000 in
set_option maxHeartbeats 1000000 in
theorem walk_big2 (v1 v2 : Value) (l more : List Rec) (w : World) (hl : SliceOf 3 rOp w v1 l) (hm : SliceOf 3 rOp w v2 more) (z : Int) (_h1 : -9223372036854775808 ≤ z) (_h2 : z ≤ 9223372036854775807) (hs1 : SmallL l) (hs2 : ¬ SmallL more) :
    Calls Try.prog 13 #[v1, v2, .int .i64 z] w fun e w' => e = .returned (.bool true) ∧ Below w.heap.size w w' := by
  have CA := Lib.hid alive22
  have tkB : True := trivial
  go_enter Try.func13, Try.ntmps13
  go_wp2_with (first
    | (go_at_call 26; refine (CA.out _).mono ?_; rintro e w1 ⟨rfl, hb1⟩; have hl1 := hl.ext rOp_stays hb1; have hm1 := hm.ext rOp_stays hb1)
    | (go_at_call 30; have _t := tkB; refine (Big_no _ _ _ hl1 hs1).mono ?_; clear tkB; rintro e w2 ⟨rfl, rfl⟩)
    | (go_at_call 30; refine (Big_yes _ _ _ hm1 hs2).mono ?_; rintro e w2 ⟨rfl, rfl⟩)
    | fail)
  go_ret
  exact ⟨rfl, hb1⟩

set_option maxRecDepth 100000 in
set_option maxHeartbeats 1000000 in
theorem walk_neg (v1 v2 : Value) (l more : List Rec) (w : World) (hl : SliceOf 3 rOp w v1 l) (hm : SliceOf 3 rOp w v2 more) (z : Int) (_h1 : -9223372036854775808 ≤ z) (_h2 : z ≤ 9223372036854775807) (hs1 : SmallL l) (hs2 : SmallL more) (hz : z < 0) :
    Calls Try.prog 13 #[v1, v2, .int .i64 z] w fun e w' => e = .returned (.bool true) ∧ Below w.heap.size w w' := by
  have CA := Lib.hid alive22
  have tkB : True := trivial
  have d1 : decide (z < 0) = true := decide_eq_true hz
  go_enter Try.func13, Try.ntmps13
  go_wp2_with (first
    | (go_at_call 26; refine (CA.out _).mono ?_; rintro e w1 ⟨rfl, hb1⟩; have hl1 := hl.ext rOp_stays hb1; have hm1 := hm.ext rOp_stays hb1)
    | (go_at_call 30; have _t := tkB; refine (Big_no _ _ _ hl1 hs1).mono ?_; clear tkB; rintro e w2 ⟨rfl, rfl⟩)
    | (go_at_call 30; refine (Big_no _ _ _ hm1 hs2).mono ?_; rintro e w2 ⟨rfl, rfl⟩)
    | fail)
  go_ret
  exact ⟨rfl, hb1⟩

set_option maxRecDepth 100000 in
set_option maxHeartbeats 1000000 in
theorem walk_far (v1 v2 : Value) (l more : List Rec) (w : World) (hl : SliceOf 3 rOp w v1 l) (hm : SliceOf 3 rOp w v2 more) (z : Int) (_h1 : -9223372036854775808 ≤ z) (_h2 : z ≤ 9223372036854775807) (hs1 : SmallL l) (hs2 : SmallL more) (hz : 1000 < z) :
    Calls Try.prog 13 #[v1, v2, .int .i64 z] w fun e w' => e = .returned (.bool true) ∧ Below w.heap.size w w' := by
  have CA := Lib.hid alive22
  have tkB : True := trivial
  have d1 : decide (z < 0) = false := decide_eq_false (by omega)
  have d2 : decide (1000 < z) = true := decide_eq_true hz
  go_enter Try.func13, Try.ntmps13
  go_wp2_with (first
    | (go_at_call 26; refine (CA.out _).mono ?_; rintro e w1 ⟨rfl, hb1⟩; have hl1 := hl.ext rOp_stays hb1; have hm1 := hm.ext rOp_stays hb1)
    | (go_at_call 30; have _t := tkB; refine (Big_no _ _ _ hl1 hs1).mono ?_; clear tkB; rintro e w2 ⟨rfl, rfl⟩)
    | (go_at_call 30; refine (Big_no _ _ _ hm1 hs2).mono ?_; rintro e w2 ⟨rfl, rfl⟩)
    | fail)
  go_ret
  exact ⟨rfl, hb1⟩

set_option maxRecDepth 100000 in
set_option maxHeartbeats 4000000 in
theorem walk_odd (v1 v2 : Value) (l more : List Rec) (w : World) (hl : SliceOf 3 rOp w v1 l) (hm : SliceOf 3 rOp w v2 more) (z : Nat) (hs1 : SmallL l) (hs2 : SmallL more) (hz0 : z ≤ 1000) (hz : z ≠ l.length) :
    Calls Try.prog 13 #[v1, v2, .int .i64 (z : Nat)] w fun e w' => e = .returned (.bool true) ∧ Below w.heap.size w w' := by
  have CA := Lib.hid alive22
  have tkB : True := trivial
  have tkA : True := trivial
  have tkC : True := trivial
  have hT := bytesTyR
  have HLM := Lib.hid (And.intro hl hm)
  obtain ⟨A, n, c, xs, rfl, g1, g2, g3, g4, g5, g6⟩ := id hl
  obtain ⟨A2, n2, c2, _, rfl, _⟩ := id hm
  unfold maxLen at g4
  have h60 : n ≤ 60 := by have := hs1.1; omega
  have HS1 := Lib.hid hs1
  have HX := Lib.hid (fun w' (hB : Below w.heap.size w w') k (hk : k < n) => op_full (g5.ext hB) g1 g2 g6 hk)
  have HL := Lib.hid g1
  have HT := Lib.hid (show l.take n = l from List.take_of_length_le (by omega))
  have HE := Lib.hid (endR_err (n := z) (by omega))
  have HEL := Lib.hid (endR_len (n := z) (by omega))
  have HBD := Lib.hid (fun k => opsB_bd (l := l.take k) (fun r hr => hs1.2 r (List.mem_of_mem_take hr)))
  have HMB := Lib.hid (batchB_bd hs2)
  have HR := Lib.hid (read_odd (batchB more) hs1 hz0 hz)
  have d9 := hz0
  have d1 : decide ((z : Int) < 0) = false := decide_eq_false (by omega)
  have d2 : decide ((1000 : Int) < z) = false := decide_eq_false (by omega)
  have d3 : decide ((z : Int) = (n : Nat)) = false := decide_eq_false (by omega)
  have hzn : (z : Int) ≠ (n : Nat) := by omega
  clear g1 g2 g5 g6 hz
  go_enter Try.func13, Try.ntmps13
  go_wp2_with (first
    | (go_at_call 26; refine (CA.out _).mono ?_; rintro e w1 ⟨rfl, hb1⟩; have hl1 := hl.ext rOp_stays hb1; have hm1 := hm.ext rOp_stays hb1)
    | (go_at_call 30; have _t := tkB; refine (Big_no _ _ _ hl1 hs1).mono ?_; clear tkB; rintro e w2 ⟨rfl, rfl⟩)
    | (go_at_call 30; refine (Big_no _ _ _ hm1 hs2).mono ?_; rintro e w2 ⟨rfl, rfl⟩)
    | fail)
  go_loopw [9, 10] (fun vo i wr => ∃ k : Nat, k ≤ n ∧ i = .int .i64 k ∧ Below w.heap.size w wr ∧ wr.ownsRow w.heap.size 5 1 vo (opsB (l.take k)).length (bv (opsB (l.take k)))) (fun _ i _ => n - (intOf i).toNat)
  case atStart => exact ⟨0, Nat.zero_le _, rfl, hb1, own_zero _ _⟩
  case round =>
    obtain ⟨k, hk, rfl, hBr, hor⟩ := hrel
    have hbd : (opsB (l.take k)).length ≤ 42000 := by have := HBD.out k; rw [List.length_take] at this; omega
    by_cases hlt : k < n
    · obtain ⟨ad, r, kv, vv, rfl, q0, q1, q2, hr, hr1, hr2, hbk, hbv⟩ := HX.out wr hBr k hlt
      have hro : OpOk r := HS1.out.2 r (List.mem_of_getElem? hr)
      have HRE := Lib.hid hro.err
      have hrl := hro.len
      have HTM := Lib.hid (show opsB (l.take (k + 1)) = opsB (l.take k) ++ r.bytes by rw [take_more hr, opsB_append]; simp [opsB])
      obtain ⟨kind, del, key, value, nn⟩ := r
      simp only at hr1 hr2 hbk hbv q0
      subst hr1 hr2
      obtain ⟨AK, m, cK, rfl, _⟩ := id hbk
      obtain ⟨AV, m', cV, rfl, _⟩ := id hbv
      have HKV := Lib.hid (And.intro hbk hbv)
      clear hro hr hbk hbv
      go_wp2_with (first
        | (go_at_call 22; refine (PackRecord_ok ⟨1, del, key, value, 0⟩ _ _ _ (HKV.out.1.ext hBr) (HKV.out.2.ext hBr) (by simp) (by simp) HRE.out).mono ?_; rintro e w3 ⟨v3, rfl, hb3, ho3⟩; have hB3 := below_step hBr hb3; have hor3 := own_ext hor hb3)
        | (at_builtin; refine wpList_append_bytes rfl (.tmp 55) (.tmp 56) _ rfl w.heap.size hT rfl hor3 rfl (Bytes.own ho3) (by omega) hB3.size ?_; intro v4 w4 ho4 hg4 hat4; have hB4 := below_own hB3 hor3 (Nat.le_refl _) hg4 hB3.size)
        | fail)
      go_roundw
      case rel => exact ⟨k + 1, by omega, by go_num, hB4, row_b ho4 HTM.out⟩
      case measure => simp [intOf]; omega
    · obtain rfl : k = n := by omega
      rw [HT.out] at hor hbd
      go_upto_region 14 with (first
        | (go_at_call 22; refine (PackRecord_ok (endR z) _ _ _ (Bytes.nil _) (Bytes.nil _) (by show (-9223372036854775808 : Int) ≤ (z : Int); omega) (by show (z : Int) ≤ 9223372036854775807; omega) HE.out).mono ?_; rintro e w3 ⟨v3, rfl, hb3, ho3⟩; have hB3 := below_step hBr hb3; have hor3 := own_ext hor hb3)
        | (go_at_call 31; refine (RefBatch_ok _ more _ (HLM.out.2.ext rOp_stays hB3) hs2).mono ?_; rintro e w5 ⟨v5, rfl, ho5, hb5⟩; have hB5 := below_step hB3 hb5; have hor5 := own_ext hor3 hb5; have ho35 := Bytes.own (own_ext ho3 hb5))
        | (at_builtin; have _t := tkA; refine wpList_append_bytes rfl (.tmp 69) (.tmp 70) _ rfl w.heap.size hT rfl hor5 rfl ho35 (by rw [HEL.out]; omega) hB5.size ?_; clear tkA; intro v6 w6 ho6 hg6 hat6; have hB6 := below_own hB5 hor5 (Nat.le_refl _) hg6 hB5.size; have ho56 := Bytes.own (far_row ho5 hg6 (apart_late hor3 ho5)))
        | (at_builtin; refine wpList_append_bytes rfl (.tmp 71) (.tmp 72) _ rfl w.heap.size hT rfl ho6 rfl ho56 (by have := HMB.out; rw [HEL.out]; omega) hB6.size ?_; intro v7 w7 ho7 hg7 hat7; have hB7 := below_own hB6 ho6 (Nat.le_refl _) hg7 hB6.size)
        | fail)
      have hlen : ((opsB l).length + (endR z).bytes.length + (batchB more).length) = (opsB l ++ ((endR z).bytes ++ batchB more)).length := by simp [Nat.add_assoc]
      rw [List.append_assoc, hlen] at ho7
      have hbd2 : (opsB l ++ ((endR z).bytes ++ batchB more)).length ≤ 100000 := by rw [← hlen]; have := HMB.out; rw [HEL.out]; omega
      obtain ⟨bs, hbs⟩ : ∃ bs, bs = opsB l ++ ((endR z).bytes ++ batchB more) := ⟨_, rfl⟩
      rw [← hbs] at ho7 hbd2
      have HRR := HR.out
      rw [← hbs] at HRR
      have HRF := Lib.hid HRR
      clear HRR hbs hlen hor
      obtain ⟨A7, c7, e7⟩ := own_sl ho7
      subst e7
      go_upto_region 15 with (first
        | (go_at_call 27; refine (Read_any _ bs _ (Bytes.own ho7) (by omega)).mono ?_; rintro e w8 ⟨v8, rfl, hs8, hb8⟩; rw [HRF.out] at hs8 ⊢; have hB8 := below_step hB7 hb8)
        | fail)
      obtain ⟨A8, n8, c8, xs8, rfl, k1, k2, k3, k4, k5, k6⟩ := hs8
      have hn8 : n8 = 0 := by simpa using k1.symm
      subst hn8
      clear k1 k2 k3 k4 k5 k6
      go_wp2
      go_ret
      exact ⟨rfl, hB8⟩

set_option maxRecDepth 100000 in
set_option maxHeartbeats 4000000 in
theorem walk_same (v1 v2 : Value) (l more : List Rec) (w : World) (hl : SliceOf 3 rOp w v1 l) (hm : SliceOf 3 rOp w v2 more) (z : Nat) (hs1 : SmallL l) (hs2 : SmallL more) (hz0 : z ≤ 1000) (hz : z = l.length) :
    Calls Try.prog 13 #[v1, v2, .int .i64 (z : Nat)] w fun e w' => e = .returned (.bool true) ∧ Below w.heap.size w w' := by
  have CA := Lib.hid alive22
  have tkB : True := trivial
  have tkA : True := trivial
  have tkC : True := trivial
  have hT := bytesTyR
  have HLM := Lib.hid (And.intro hl hm)
  obtain ⟨A, n, c, xs, rfl, g1, g2, g3, g4, g5, g6⟩ := id hl
  obtain ⟨A2, n2, c2, _, rfl, _⟩ := id hm
  unfold maxLen at g4
  have h60 : n ≤ 60 := by have := hs1.1; omega
  have HS1 := Lib.hid hs1
  have HX := Lib.hid (fun w' (hB : Below w.heap.size w w') k (hk : k < n) => op_full (g5.ext hB) g1 g2 g6 hk)
  have HL := Lib.hid g1
  have HT := Lib.hid (show l.take n = l from List.take_of_length_le (by omega))
  have HE := Lib.hid (endR_err (n := z) (by omega))
  have HEL := Lib.hid (endR_len (n := z) (by omega))
  have HBD := Lib.hid (fun k => opsB_bd (l := l.take k) (fun r hr => hs1.2 r (List.mem_of_mem_take hr)))
  have HMB := Lib.hid (batchB_bd hs2)
  have HR := Lib.hid (show batches (opsB l ++ ((endR z).bytes ++ batchB more)) = ([normL l, normL more], (opsB l ++ ((endR z).bytes ++ batchB more)).length) by have := read_two hs1 hs2; unfold batchB at this ⊢; rw [List.append_assoc, ← hz] at this; exact this)
  have HSM := Lib.hid (show SameLL [normL l, normL more] [l, more] from same_pair (normL_same hs1.2) (normL_same hs2.2))
  have d1 : decide ((z : Int) < 0) = false := decide_eq_false (by omega)
  have d2 : decide ((1000 : Int) < z) = false := decide_eq_false (by omega)
  have HZN := Lib.hid (show z = n by omega)
  have d8 := hz0
  clear g1 g2 g5 g6 hz
  go_enter Try.func13, Try.ntmps13
  go_wp2_with (first
    | (go_at_call 26; refine (CA.out _).mono ?_; rintro e w1 ⟨rfl, hb1⟩; have hl1 := hl.ext rOp_stays hb1; have hm1 := hm.ext rOp_stays hb1)
    | (go_at_call 30; have _t := tkB; refine (Big_no _ _ _ hl1 hs1).mono ?_; clear tkB; rintro e w2 ⟨rfl, rfl⟩)
    | (go_at_call 30; refine (Big_no _ _ _ hm1 hs2).mono ?_; rintro e w2 ⟨rfl, rfl⟩)
    | fail)
  go_loopw [9, 10] (fun vo i wr => ∃ k : Nat, k ≤ n ∧ i = .int .i64 k ∧ Below w.heap.size w wr ∧ wr.ownsRow w.heap.size 5 1 vo (opsB (l.take k)).length (bv (opsB (l.take k)))) (fun _ i _ => n - (intOf i).toNat)
  case atStart => exact ⟨0, Nat.zero_le _, rfl, hb1, own_zero _ _⟩
  case round =>
    obtain ⟨k, hk, rfl, hBr, hor⟩ := hrel
    have hbd : (opsB (l.take k)).length ≤ 42000 := by have := HBD.out k; rw [List.length_take] at this; omega
    by_cases hlt : k < n
    · obtain ⟨ad, r, kv, vv, rfl, q0, q1, q2, hr, hr1, hr2, hbk, hbv⟩ := HX.out wr hBr k hlt
      have hro : OpOk r := HS1.out.2 r (List.mem_of_getElem? hr)
      have HRE := Lib.hid hro.err
      have hrl := hro.len
      have HTM := Lib.hid (show opsB (l.take (k + 1)) = opsB (l.take k) ++ r.bytes by rw [take_more hr, opsB_append]; simp [opsB])
      obtain ⟨kind, del, key, value, nn⟩ := r
      simp only at hr1 hr2 hbk hbv q0
      subst hr1 hr2
      obtain ⟨AK, m, cK, rfl, _⟩ := id hbk
      obtain ⟨AV, m', cV, rfl, _⟩ := id hbv
      have HKV := Lib.hid (And.intro hbk hbv)
      clear hro hr hbk hbv
      go_wp2_with (first
        | (go_at_call 22; refine (PackRecord_ok ⟨1, del, key, value, 0⟩ _ _ _ (HKV.out.1.ext hBr) (HKV.out.2.ext hBr) (by simp) (by simp) HRE.out).mono ?_; rintro e w3 ⟨v3, rfl, hb3, ho3⟩; have hB3 := below_step hBr hb3; have hor3 := own_ext hor hb3)
        | (at_builtin; refine wpList_append_bytes rfl (.tmp 55) (.tmp 56) _ rfl w.heap.size hT rfl hor3 rfl (Bytes.own ho3) (by omega) hB3.size ?_; intro v4 w4 ho4 hg4 hat4; have hB4 := below_own hB3 hor3 (Nat.le_refl _) hg4 hB3.size)
        | fail)
      go_roundw
      case rel => exact ⟨k + 1, by omega, by go_num, hB4, row_b ho4 HTM.out⟩
      case measure => simp [intOf]; omega
    · obtain rfl : k = n := by omega
      rw [HT.out] at hor hbd
      go_upto_region 14 with (first
        | (go_at_call 22; refine (PackRecord_ok (endR z) _ _ _ (Bytes.nil _) (Bytes.nil _) (by show (-9223372036854775808 : Int) ≤ (z : Int); omega) (by show (z : Int) ≤ 9223372036854775807; omega) HE.out).mono ?_; rintro e w3 ⟨v3, rfl, hb3, ho3⟩; have hB3 := below_step hBr hb3; have hor3 := own_ext hor hb3)
        | (go_at_call 31; refine (RefBatch_ok _ more _ (HLM.out.2.ext rOp_stays hB3) hs2).mono ?_; rintro e w5 ⟨v5, rfl, ho5, hb5⟩; have hB5 := below_step hB3 hb5; have hor5 := own_ext hor3 hb5; have ho35 := Bytes.own (own_ext ho3 hb5))
        | (at_builtin; have _t := tkA; refine wpList_append_bytes rfl (.tmp 69) (.tmp 70) _ rfl w.heap.size hT rfl hor5 rfl ho35 (by rw [HEL.out]; omega) hB5.size ?_; clear tkA; intro v6 w6 ho6 hg6 hat6; have hB6 := below_own hB5 hor5 (Nat.le_refl _) hg6 hB5.size; have ho56 := Bytes.own (far_row ho5 hg6 (apart_late hor3 ho5)))
        | (at_builtin; refine wpList_append_bytes rfl (.tmp 71) (.tmp 72) _ rfl w.heap.size hT rfl ho6 rfl ho56 (by have := HMB.out; rw [HEL.out]; omega) hB6.size ?_; intro v7 w7 ho7 hg7 hat7; have hB7 := below_own hB6 ho6 (Nat.le_refl _) hg7 hB6.size)
        | fail)
      have hlen : ((opsB l).length + (endR z).bytes.length + (batchB more).length) = (opsB l ++ ((endR z).bytes ++ batchB more)).length := by simp [Nat.add_assoc]
      rw [List.append_assoc, hlen] at ho7
      have hbd2 : (opsB l ++ ((endR z).bytes ++ batchB more)).length ≤ 100000 := by rw [← hlen]; have := HMB.out; rw [HEL.out]; omega
      obtain ⟨bs, hbs⟩ : ∃ bs, bs = opsB l ++ ((endR z).bytes ++ batchB more) := ⟨_, rfl⟩
      rw [← hbs] at ho7 hbd2
      have HRR := HR.out
      rw [← hbs] at HRR
      have HRF := Lib.hid HRR
      clear HRR hbs hlen hor
      obtain ⟨A7, c7, e7⟩ := own_sl ho7
      subst e7
      have hzn := HZN.out
      subst hzn
      go_wp2_with (first
        | (go_at_call 27; refine (Read_any _ bs _ (Bytes.own ho7) (by omega)).mono ?_; rintro e w8 ⟨v8, rfl, hs8, hb8⟩; rw [HRF.out] at hs8 ⊢; have hB8 := below_step hB7 hb8)
        | (refine wpList_row_two rfl (.tmp 84) (.tmp 85) rfl outTy (by decide) rfl rfl rfl rfl ?_; intro w9 hx9 hb9 hl9; have hB9 := below_step hB8 hb9; have hs9 := two_rows hx9 (HLM.out.1.ext rOp_stays hB9) (HLM.out.2.ext rOp_stays hB9); have hs89 := hs8.ext (rSlice_stays rOp_stays) hb9)
        | (go_at_call 29; refine (Batches_true _ _ _ _ _ hs89 hs9 HSM.out).mono ?_; rintro e w10 ⟨rfl, hb10⟩; have hB10 := below_step hB9 hb10)
        | fail)
      go_ret
      exact ⟨rfl, hB10⟩
open Go.ChangeShapes Go.WideShapes Go.ChangeAt

set_option maxRecDepth 100000 in
theorem lifted (os : Os) (started : os.Started) (H : Type) (enc : TypeId × Value → H) :
    ReturnsInHanded {} Try.checked os 13 .any (Rows.replayCountsSpec.pre6 enc Try.prog Try.f13 Rows.replayCountsRow.domain false) (Rows.replayCountsSpec.post enc Try.prog Try.f13 false true false false) := by
  refine law_lift (C := Try.checked) (ts := [49, 49, 3]) (tb := 4) (by kernel_rfl) started (by kernel_rfl) Try.func13
    (ChangeSpec.witness6 (enc := enc) (C := Try.checked) false ⟨#[], #[.slice none 0 0, .slice none 0 0, .int .i64 0], []⟩ 8 (by kernel_rfl) (by kernel_rfl) (by kernel_rfl) (by kernel_rfl))
    (by kernel_rfl) (by kernel_rfl) (by kernel_rfl) (by kernel_rfl) Try.underlying4 rfl (fun ds h => by match ds, h with | [_, _, _], _ => rfl) ?_
  intro W vs hl h
  match vs, hl with
  | [v0, v1, v2], _ =>
    have hl := h 0 _ v0 rfl rfl
    have hm := h 1 _ v1 rfl rfl
    obtain ⟨z, rfl, hz⟩ := arg_int Try.underlying3 (h 2 _ v2 rfl rfl)
    obtain ⟨ls, hl'⟩ := arg_slice Try.underlying49 (by kernel_rfl) (opens_op enc) hl
    obtain ⟨ms, hm'⟩ := arg_slice Try.underlying49 (by kernel_rfl) (opens_op enc) hm
    have hzb := bounds_i64 hz
    by_cases hs1 : SmallL ls
    · by_cases hs2 : SmallL ms
      · by_cases h0 : z < 0
        · exact walk_neg _ _ ls ms W hl' hm' z hzb.1 hzb.2 hs1 hs2 h0
        · by_cases h1 : 1000 < z
          · exact walk_far _ _ ls ms W hl' hm' z hzb.1 hzb.2 hs1 hs2 h1
          · obtain ⟨y, rfl⟩ : ∃ y : Nat, z = y := ⟨z.toNat, by omega⟩
            by_cases h2 : y = ls.length
            · exact walk_same _ _ ls ms W hl' hm' y hs1 hs2 (by omega) h2
            · exact walk_odd _ _ ls ms W hl' hm' y hs1 hs2 (by omega) h2
      · exact walk_big2 _ _ ls ms W hl' hm' z hzb.1 hzb.2 hs1 hs2
    · exact walk_big1 _ _ ls ms W hl' hm' z hzb.1 hzb.2 hs1

theorem over : Rows.replayCountsRow.holds Try.pinned (OpenSpec.ofChange Rows.replayCountsSpec) :=
  OpenClaim.holds_of_wide 13 Try.f13 rfl rfl rfl rfl rfl rfl rfl ⟨rfl, rfl, rfl, rfl, rfl⟩ rfl rfl rfl rfl rfl (by kernel_rfl) Try.func13 (by kernel_rfl)
    (of_decide_eq_true (by kernel_rfl)) (by unfold Func.isWrapper; first | (rw [if_pos (by decide +kernel)]; kernel_rfl) | (rw [if_neg (by decide +kernel)]; exact ⟨rfl, rfl⟩))
    (fun os started H enc _ => lifted os started H enc)
end Go.Proofs.Ytmaaejicfpfcdaa.ReplayCounts
namespace Go.Proofs.Ytmaaejicfpfcdaa
theorem replayCounts_holds : Rows.ReplayCountsSaid := ReplayCounts.over
#print axioms replayCounts_holds
end Go.Proofs.Ytmaaejicfpfcdaa
