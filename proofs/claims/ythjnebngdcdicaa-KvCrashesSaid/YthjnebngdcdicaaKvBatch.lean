/- replay.Batch and the document's Batch, of many changes. -/
import Derived.Test.YthjnebngdcdicaaKvPure
import Derived.Deep.Cut
namespace Go.Mun
open Go Go.RowKit Go.Proofs

set_option maxRecDepth 100000 in
set_option maxHeartbeats 4000000 in
theorem Batch_okW (v : Value) (l : List Rec) (w : World) (h : SliceOf 3 rOp w v l) (hs : WideL l) :
    Calls Try.prog 32 #[v] w fun e w' => ∃ v', e = .returned (.tuple #[v', .int .i64 0]) ∧ w'.ownsRow w.heap.size 5 1 v' (batchB l).length (bv (batchB l)) ∧ Below w.heap.size w w' := by
  have hT := bytesTyR
  have zO := zOp
  have hTO := opTy
  obtain ⟨A, n, c, xs, rfl, g1, g2, g3, g4, g5, g6⟩ := h
  unfold maxLen at g4
  have HS := Lib.hid hs
  have h60 : n ≤ 2000 := by have := hs.1; omega
  have HX := Lib.hid (fun w' (hB : Below w.heap.size w w') k (hk : k < n) => op_full (g5.ext hB) g1 g2 g6 hk)
  have HL := Lib.hid g1
  have HT := Lib.hid (show l.take n = l from List.take_of_length_le (by omega))
  have HE := Lib.hid (endR_err (n := n) (by omega))
  have HEL := Lib.hid (endR_len (n := n) (by omega))
  have HBD := Lib.hid (fun k => opsB_bdW (l := l.take k) (fun r hr => hs.2 r (List.mem_of_mem_take hr)))
  have d1 : decide ((100000 : Int) < n) = false := decide_eq_false (by omega)
  clear g1 g2 g5 g6 hs
  go_enter Try.func32, Try.ntmps32
  go_wp2
  go_loopw [4, 13] (fun vo i wr => ∃ k : Nat, k ≤ n ∧ i = .int .i64 k ∧ Below w.heap.size w wr ∧ wr.ownsRow w.heap.size 5 1 vo (opsB (l.take k)).length (bv (opsB (l.take k)))) (fun _ i _ => n - (RowKit.intOf i).toNat)
  case atStart => exact ⟨0, Nat.zero_le _, rfl, Below.refl _ _, own_zero _ _⟩
  case round =>
    obtain ⟨k, hk, rfl, hBr, hor⟩ := hrel
    have hbd : (opsB (l.take k)).length ≤ 2000000 := by have := HBD.out k; rw [List.length_take] at this; omega
    by_cases hlt : k < n
    · obtain ⟨ad, r, kv, vv, rfl, q0, q1, q2, hr, hr1, hr2, hbk, hbv⟩ := HX.out wr hBr k hlt
      have hro : OpW r := HS.out.2 r (List.mem_of_getElem? hr)
      have HRE := Lib.hid hro.err
      have hrl := hro.len
      have HTM := Lib.hid (show opsB (l.take (k + 1)) = opsB (l.take k) ++ r.bytes by rw [take_more hr, opsB_append]; simp [opsB])
      obtain ⟨kind, del, key, value, nn⟩ := r
      simp only at hr1 hr2 hbk hbv q0
      subst hr1 hr2
      have f2 : decide ((k : Int) < n) = true := decide_eq_true (by omega)
      have b3 : (0 : Int) ≤ k := by omega
      have b4 : (k : Int) < n := by omega
      obtain ⟨AK, m, cK, rfl, _⟩ := id hbk
      obtain ⟨AV, m', cV, rfl, _⟩ := id hbv
      have HKV := Lib.hid (And.intro hbk hbv)
      clear hro hr hbk hbv
      go_upto_region 5 with (first
        | ((with_reducible refine gd_alloc ?_); refine wpList_alloc_blk rfl 32 rfl zO ?_; intro w9 hx9 hb9 hl9)
        | ((with_reducible refine gd_store ?_); refine wpList_store_all rfl 32 (.tmp 6) (.tmp 16) rfl #[.bool del, .slice AK m cK, .slice AV m' cV] hx9 hTO rfl rfl rfl rfl ?_; intro w10 hx10 hg10)
        | fail)
      have hb10 := below_blk hb9 hb9.size hg10 (Nat.le_refl _)
      have hB10 := below_step hBr hb10
      have hor10 := own_ext hor hb10
      clear hx9 hb9 hg10
      go_wp2_with (first
        | ((with_reducible refine gd_load ?_); refine wpList_load_blk rfl 32 (.tmp 6) rfl hx10 hTO rfl ?_)
        | (go_at_call 47; refine (Pack_ok ⟨1, del, key, value, 0⟩ _ _ _ (HKV.out.1.ext hB10) (HKV.out.2.ext hB10) (by simp) (by simp) HRE.out).mono ?_; rintro e w3 ⟨v3, rfl, hb3, ho3⟩; have hB3 := below_step hB10 hb3; have hor3 := own_ext hor10 hb3)
        | (at_builtin; refine wpList_append_bytes rfl (.tmp 26) (.tmp 27) _ rfl w.heap.size hT rfl hor3 rfl (Bytes.own ho3) (by omega) hB3.size ?_; intro v4 w4 ho4 hg4 hat4; have hB4 := below_own hB3 hor3 (Nat.le_refl _) hg4 hB3.size)
        | fail)
      go_roundw
      case rel => exact ⟨k + 1, by omega, by go_num, hB4, row_b ho4 HTM.out⟩
      case measure => simp [RowKit.intOf]; omega
    · obtain rfl : k = n := by omega
      have f2 : decide ((k : Int) < k) = false := decide_eq_false (by omega)
      rw [HT.out] at hor hbd
      go_wp2_with (first
        | (go_at_call 47; refine (Pack_ok (endR k) _ _ _ (Bytes.nil _) (Bytes.nil _) (by show (-9223372036854775808 : Int) ≤ (k : Int); omega) (by show (k : Int) ≤ 9223372036854775807; omega) HE.out).mono ?_; rintro e w3 ⟨v3, rfl, hb3, ho3⟩; have hB3 := below_step hBr hb3; have hor3 := own_ext hor hb3)
        | (at_builtin; refine wpList_append_bytes rfl (.tmp 43) (.tmp 44) _ rfl w.heap.size hT rfl hor3 rfl (Bytes.own ho3) (by rw [HEL.out]; omega) hB3.size ?_; intro v4 w4 ho4 hg4 hat4; have hB4 := below_own hB3 hor3 (Nat.le_refl _) hg4 hB3.size)
        | fail)
      go_ret2
      exact ⟨_, rfl, row_b ho4 (by unfold batchB; rw [HL.out]), hB4⟩
set_option maxRecDepth 100000 in
set_option maxHeartbeats 1000000 in
theorem RefBatch_okW (v : Value) (l : List Rec) (w : World) (h : SliceOf 3 rOp w v l) (hs : WideL l) :
    Calls Try.prog 37 #[v] w fun e w' => ∃ v', e = .returned (.tuple #[v', .int .i64 0]) ∧ w'.ownsRow w.heap.size 5 1 v' (batchB l).length (bv (batchB l)) ∧ Below w.heap.size w w' := by
  have hT := bytesTyR
  obtain ⟨A, n, c, xs, rfl, g1, g2, g3, g4, g5, g6⟩ := h
  unfold maxLen at g4
  have HS := Lib.hid hs
  have h60 : n ≤ 2000 := by have := hs.1; omega
  have HX := Lib.hid (fun w' (hB : Below w.heap.size w w') k (hk : k < n) => op_full (g5.ext hB) g1 g2 g6 hk)
  have HL := Lib.hid g1
  have HT := Lib.hid (show l.take n = l from List.take_of_length_le (by omega))
  have HE := Lib.hid (endR_err (n := n) (by omega))
  have HEL := Lib.hid (endR_len (n := n) (by omega))
  have HBD := Lib.hid (fun k => opsB_bdW (l := l.take k) (fun r hr => hs.2 r (List.mem_of_mem_take hr)))
  have d1 : decide ((100000 : Int) < n) = false := decide_eq_false (by omega)
  clear g1 g2 g5 g6 hs
  go_enter Try.func37, Try.ntmps37
  go_wp2
  go_loopw [4, 5] (fun vo i wr => ∃ k : Nat, k ≤ n ∧ i = .int .i64 k ∧ Below w.heap.size w wr ∧ wr.ownsRow w.heap.size 5 1 vo (opsB (l.take k)).length (bv (opsB (l.take k)))) (fun _ i _ => n - (RowKit.intOf i).toNat)
  case atStart => exact ⟨0, Nat.zero_le _, rfl, Below.refl _ _, own_zero _ _⟩
  case round =>
    obtain ⟨k, hk, rfl, hBr, hor⟩ := hrel
    have hbd : (opsB (l.take k)).length ≤ 2000000 := by have := HBD.out k; rw [List.length_take] at this; omega
    by_cases hlt : k < n
    · obtain ⟨ad, r, kv, vv, rfl, q0, q1, q2, hr, hr1, hr2, hbk, hbv⟩ := HX.out wr hBr k hlt
      have hro : OpW r := HS.out.2 r (List.mem_of_getElem? hr)
      have HRE := Lib.hid hro.err
      have hrl := hro.len
      have HTM := Lib.hid (show opsB (l.take (k + 1)) = opsB (l.take k) ++ r.bytes by rw [take_more hr, opsB_append]; simp [opsB])
      obtain ⟨kind, del, key, value, nn⟩ := r
      simp only at hr1 hr2 hbk hbv q0
      subst hr1 hr2
      obtain ⟨AK, m, cK, rfl, _⟩ := id hbk
      obtain ⟨AV, m', cV, rfl, _⟩ := id hbv
      have HKV := Lib.hid (And.intro hbk hbv)
      clear hro hr hbk hbv
      go_wp2_with (first
        | (go_at_call 53; refine (PackRecord_ok ⟨1, del, key, value, 0⟩ _ _ _ (HKV.out.1.ext hBr) (HKV.out.2.ext hBr) (by simp) (by simp) HRE.out).mono ?_; rintro e w3 ⟨v3, rfl, hb3, ho3⟩; have hB3 := below_step hBr hb3; have hor3 := own_ext hor hb3)
        | (at_builtin; refine wpList_append_bytes rfl (.tmp 31) (.tmp 32) _ rfl w.heap.size hT rfl hor3 rfl (Bytes.own ho3) (by omega) hB3.size ?_; intro v4 w4 ho4 hg4 hat4; have hB4 := below_own hB3 hor3 (Nat.le_refl _) hg4 hB3.size)
        | fail)
      go_roundw
      case rel => exact ⟨k + 1, by omega, by go_num, hB4, row_b ho4 HTM.out⟩
      case measure => simp [RowKit.intOf]; omega
    · obtain rfl : k = n := by omega
      rw [HT.out] at hor hbd
      go_wp2_with (first
        | (go_at_call 53; refine (PackRecord_ok (endR k) _ _ _ (Bytes.nil _) (Bytes.nil _) (by show (-9223372036854775808 : Int) ≤ (k : Int); omega) (by show (k : Int) ≤ 9223372036854775807; omega) HE.out).mono ?_; rintro e w3 ⟨v3, rfl, hb3, ho3⟩; have hB3 := below_step hBr hb3; have hor3 := own_ext hor hb3)
        | (at_builtin; refine wpList_append_bytes rfl (.tmp 41) (.tmp 42) _ rfl w.heap.size hT rfl hor3 rfl (Bytes.own ho3) (by rw [HEL.out]; omega) hB3.size ?_; intro v4 w4 ho4 hg4 hat4; have hB4 := below_own hB3 hor3 (Nat.le_refl _) hg4 hB3.size)
        | fail)
      go_ret2
      exact ⟨_, rfl, row_b ho4 (by unfold batchB; rw [HL.out]), hB4⟩
end Go.Mun
