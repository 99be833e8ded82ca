/- The walk of munimentsref1.Of. -/
import Derived.Test.YtpliedimdhilcaaWordBase
import Derived.Test.YtpliedimdhilcaaOfP
namespace Go.Mun
open Go Go.RowKit Go.Proofs

theorem cast_pow2 (n : Nat) : ((2 ^ n : Nat) : Int) = 2 ^ n := by push_cast; rfl
theorem lowB_ofN (n : Int) (j : Nat) (hj : j < 32) : ((lowB (ofN n) j : Nat) : Int) = n / 2 ^ (8 * j) % 256 := by
  unfold lowB ofN
  have h0 : 0 ≤ n % 2 ^ 256 := Int.emod_nonneg _ (by decide)
  rw [Int.natCast_emod, Int.natCast_ediv, Int.toNat_of_nonneg h0, cast_pow2]
  have e : (2 : Int) ^ 256 = 2 ^ (8 * j) * (256 * 2 ^ (8 * (31 - j))) := by
    rw [show (256 : Int) = 2 ^ 8 from rfl, ← Int.pow_add, ← Int.pow_add]
    congr 1
    omega
  have hp : (0 : Int) < 2 ^ (8 * j) := Int.pow_pos (by decide)
  rw [e]
  have h1 := Int.emod_add_mul_ediv n (2 ^ (8 * j) * (256 * 2 ^ (8 * (31 - j))))
  generalize hq : n / (2 ^ (8 * j) * (256 * 2 ^ (8 * (31 - j)))) = q at *
  generalize n % (2 ^ (8 * j) * (256 * 2 ^ (8 * (31 - j)))) = r at *
  rw [← h1, Int.mul_assoc (2 ^ (8 * j)), Int.add_mul_ediv_left _ _ (by omega), Int.mul_assoc, Int.add_mul_emod_self_left]
  rfl
theorem shift_ofN (n : Int) (j : Nat) : n / 2 ^ (8 * j) / 256 = n / 2 ^ (8 * (j + 1)) := by
  rw [Int.ediv_ediv_of_nonneg (Int.pow_nonneg (by decide)), show (256 : Int) = 2 ^ 8 from rfl, ← Int.pow_add]
  congr 2
theorem div_bd {n : Int} (h1 : -9223372036854775808 ≤ n) (h2 : n ≤ 9223372036854775807) (j : Nat) : -9223372036854775808 ≤ n / 2 ^ (8 * j) ∧ n / 2 ^ (8 * j) ≤ 9223372036854775807 := by
  have hp : (1 : Int) ≤ 2 ^ (8 * j) := Int.pow_pos (by decide)
  generalize (2 : Int) ^ (8 * j) = p at *
  constructor
  · rw [Int.le_ediv_iff_mul_le (by omega)]
    omega
  · rcases Int.lt_or_le n 0 with c | c
    · have := Int.ediv_neg_of_neg_of_pos c (show 0 < p by omega)
      omega
    · have := Int.ediv_le_self p c
      omega
theorem sign_div {n : Int} (h1 : -9223372036854775808 ≤ n) (h2 : n ≤ 9223372036854775807) (j : Nat) (hj : 8 ≤ j) : n / 2 ^ (8 * j) = n / 18446744073709551616 := by
  rw [show (18446744073709551616 : Int) = 2 ^ 64 from by decide]
  have e : (2 : Int) ^ (8 * j) = 2 ^ 64 * 2 ^ (8 * (j - 8)) := by
    rw [← Int.pow_add]
    congr 1
    omega
  rw [e, ← Int.ediv_ediv_of_nonneg (by decide)]
  have hp : (1 : Int) ≤ 2 ^ (8 * (j - 8)) := Int.pow_pos (by decide)
  have h3 : n / 2 ^ 64 = 0 ∨ n / 2 ^ 64 = -1 := by omega
  rcases h3 with h | h
  · rw [h, Int.zero_ediv]
  · rw [h]
    have hlt : (2 : Int) ^ (8 * (j - 8)) = 1 ∨ 1 < (2 : Int) ^ (8 * (j - 8)) := by omega
    exact Int.ediv_eq_neg_one_of_neg_of_le (by decide) (by omega)

theorem and255 (m : Int) : bits .and .i64 m 255 % 256 = m % 256 := by
  have := i64_and_mask m 8 255 (by decide) (by decide)
  rw [show ((255 : Nat) : Int) = 255 from rfl] at this
  rw [this]
  omega
def ofT (n : Int) (k : Nat) : Array Value := tab .u8 32 fun p => if 31 - k < p then lowB (ofN n) (31 - p) else 0
def ofU (n : Int) (q : Nat) : Array Value := tab .u8 32 fun p => if p < q ∨ 23 < p then lowB (ofN n) (31 - p) else 0
theorem ofT_zero (n : Int) : ofT n 0 = wcells 0 := by
  rw [← wcells_zero]
  exact tab_congr fun i hi => by rw [if_neg (by omega)]
theorem ofT_step (n : Int) (k : Nat) (hk : k < 8) : (ofT n k).setIfInBounds (31 - k) (.int .u8 (lowB (ofN n) k : Nat)) = ofT n (k + 1) := by
  unfold ofT
  rw [tab_set (by omega)]
  exact tab_congr fun i hi => by
    by_cases c : i = 31 - k
    · rw [if_pos c, if_pos (by omega), show 31 - i = k from by omega]
    · rw [if_neg c]
      by_cases d : 31 - k < i
      · rw [if_pos d, if_pos (by omega)]
      · rw [if_neg d, if_neg (by omega)]
theorem ofU_zero (n : Int) : ofT n 8 = ofU n 0 := tab_congr fun i hi => by
  by_cases c : 23 < i
  · rw [if_pos (by omega), if_pos (.inr c)]
  · rw [if_neg (by omega), if_neg (by omega)]
theorem ofU_step (n : Int) (q : Nat) (hq : q < 24) : (ofU n q).setIfInBounds q (.int .u8 (lowB (ofN n) (31 - q) : Nat)) = ofU n (q + 1) := by
  unfold ofU
  rw [tab_set (by omega)]
  exact tab_congr fun i hi => by
    by_cases c : i = q
    · rw [if_pos c, if_pos (by omega), c]
    · rw [if_neg c]
      by_cases d : i < q ∨ 23 < i
      · rw [if_pos d, if_pos (by omega)]
      · rw [if_neg d, if_neg (by omega)]
theorem ofU_end (n : Int) : ofU n 24 = wcells (ofN n) := by
  rw [wcells, bv_wbytes]
  exact tab_congr fun i hi => by rw [if_pos (by omega)]

set_option maxRecDepth 100000 in
set_option maxHeartbeats 2000000 in
theorem RefOf_any (n : Int) (w : World) (h1 : -9223372036854775808 ≤ n) (h2 : n ≤ 9223372036854775807) : Calls Try.prog 16 #[.int .i64 n] w fun e w' => e = .returned (.agg (wcells (ofN n))) ∧ Below w.heap.size w w' := by
  have hW := wordTy
  have zW := zWordL
  have HSW := Lib.hid wcells_size
  have H1W := Lib.hid wcells_one
  have HTZ := Lib.hid (ofT_zero n)
  have HTS := Lib.hid (ofT_step n)
  have HUZ := Lib.hid (ofU_zero n)
  have HUS := Lib.hid (ofU_step n)
  have HUE := Lib.hid (ofU_end n)
  have HL := Lib.hid (lowB_ofN n)
  have HSH := Lib.hid (shift_ofN n)
  have HD := Lib.hid (div_bd h1 h2)
  have HSG := Lib.hid (sign_div h1 h2)
  have HST := Lib.hid (fun k => @tab_size .u8 32 (fun p => if 31 - k < p then lowB (ofN n) (31 - p) else 0))
  have HSU := Lib.hid (fun q => @tab_size .u8 32 (fun p => if p < q ∨ 23 < p then lowB (ofN n) (31 - p) else 0))
  have tk1 : True := trivial
  have tk2 : True := trivial
  go_enter Try.func16, Try.ntmps16
  go_wp2_with (first
    | ((with_reducible refine gd_alloc ?_); have _t := tk1; refine wpList_alloc_blk rfl 25 rfl zW ?_; clear tk1; intro w1 hx1 hb1 hl1)
    | ((with_reducible refine gd_alloc ?_); have _t := tk2; refine wpList_alloc_blk rfl 25 rfl zW ?_; clear tk2; intro w2 hx2 hb2 hl2)
    | fail)
  have hy1 : Blk w2 w.heap.size 25 (wcells 0) := hx1.ext hb2
  have hy2 : Blk w2 w1.heap.size 25 (ofT n 0) := by rw [HTZ.out]; exact hx2
  have hB2 := below_step hb1 hb2
  have o1 := hx1.lt
  have o2 := hb2.size
  clear hx1 hb1 hb2 hl1 hl2 hx2 h1 h2
  go_loopw [4, 0] (fun i m wr => ∃ k : Nat, k ≤ 8 ∧ i = .int .i64 (31 - (k : Int)) ∧ m = .int .i64 (n / 2 ^ (8 * k)) ∧ Blk wr w1.heap.size 25 (ofT n k) ∧ Blk wr w.heap.size 25 (wcells 0) ∧ Below w.heap.size w wr) (fun i _ _ => (intOf i).toNat)
  case atStart => exact ⟨0, by omega, rfl, by simp, hy2, hy1, hB2⟩
  case round =>
    clear hy1 hy2 hB2
    obtain ⟨k, hk, rfl, rfl, hz2, hz1, hBr⟩ := hrel
    by_cases hlt : k < 8
    · have k0 : (0 : Int) ≤ (k : Int) := by omega
      have k1 : (k : Int) ≤ 7 := by omega
      have bd1 := (HD.out k).1
      have bd2 := (HD.out k).2
      have HLk := Lib.hid (HL.out k (by omega))
      have HSHk := Lib.hid (HSH.out k)
      generalize n / 2 ^ (8 * k) = m at *
      have HX := Lib.hid ((and255 m).trans HLk.out.symm)
      go_wp2_with (first
        | ((with_reducible refine gd_store ?_); refine wpList_store_cell rfl 5 (.tmp 14) (.tmp 13) rfl hz2 (i := 31 - k) (v := .int .u8 (lowB (ofN n) k : Nat)) (by rw [show (ofT n k).size = 32 from HST.out k]; omega) (by kernel_rfl) rfl rfl (congrArg (Value.int .u8) HX.out) ?_; intro w5 hx5 hg5)
        | fail)
      rw [HTS.out k hlt] at hx5
      have hz1' := hz1.grown hg5 (by simp; omega)
      have hB5 := below_blk hBr hBr.size hg5 (by omega)
      go_roundw
      case rel => exact ⟨k + 1, by omega, by go_num, by rw [← HSHk.out], hx5, hz1', hB5⟩
      case measure => (simp [intOf]; try omega)
    · obtain rfl : k = 8 := by omega
      rw [HUZ.out] at hz2
      have e64 := (HSG.out 8 (by omega))
      have bd1 := (HD.out 8).1
      have bd2 := (HD.out 8).2
      have HX := Lib.hid (fun q (hq : q < 24) => (and255 (n / 2 ^ (8 * 8))).trans ((congrArg (· % 256) (e64.trans (HSG.out (31 - q) (by omega)).symm)).trans (HL.out (31 - q) (by omega)).symm))
      clear e64 HSG HD
      generalize n / 2 ^ (8 * 8) = m at *
      go_wp2
      go_loopw [5] (fun i ws => ∃ q : Nat, q ≤ 24 ∧ i = .int .i64 q ∧ Blk ws w1.heap.size 25 (ofU n q) ∧ Blk ws w.heap.size 25 (wcells 0) ∧ Below w.heap.size w ws) (fun i _ => 24 - (intOf i).toNat)
      case atStart => exact ⟨0, by omega, rfl, hz2, hz1, hBr⟩
      case round =>
        clear hz2 hz1 hBr
        obtain ⟨q, hq, rfl, hz2, hz1, hBr⟩ := hrel
        by_cases hlt : q < 24
        · have k0 : (0 : Int) ≤ (q : Int) := by omega
          have k1 : (q : Int) < 24 := by omega
          have HXq := Lib.hid (HX.out q hlt)
          go_wp2_with (first
            | ((with_reducible refine gd_store ?_); refine wpList_store_cell rfl 5 (.tmp 25) (.tmp 24) rfl hz2 (i := q) (v := .int .u8 (lowB (ofN n) (31 - q) : Nat)) (by rw [show (ofU n q).size = 32 from HSU.out q]; omega) (by kernel_rfl) rfl rfl (congrArg (Value.int .u8) HXq.out) ?_; intro w5 hx5 hg5)
            | fail)
          rw [HUS.out q hlt] at hx5
          have hz1' := hz1.grown hg5 (by simp; omega)
          have hB5 := below_blk hBr hBr.size hg5 (by omega)
          go_roundw
          case rel => first | exact ⟨q + 1, by omega, by go_num, hx5, hz1', hB5⟩ | ((repeat apply Exists.intro); exact ⟨⟨q + 1, by omega, by go_num, hx5, hz1', hB5⟩, rfl⟩)
          case measure => (simp [intOf]; try omega)
        · obtain rfl : q = 24 := by omega
          rw [HUE.out] at hz2
          obtain ⟨r, Er⟩ : ∃ r, r = ofN n := ⟨_, rfl⟩
          have HR := Lib.hid Er
          rw [← Er] at hz2
          clear Er
          go_wp2_with (first
            | ((with_reducible refine gd_load ?_); refine wpList_load_blk rfl 25 (.tmp 3) rfl hz2 (by rw [HSW.out]; exact hW) rfl ?_)
            | ((with_reducible refine gd_store ?_); refine wpList_store_all rfl 25 (.tmp 2) (.tmp 26) rfl (wcells r) hz1 (by rw [HSW.out]; exact hW) (by rw [HSW.out]; exact HSW.out 0) (H1W.out _) (by rfl) (by rfl) ?_; intro w9 hx9 hg9)
            | fail)
          have hB9 := below_blk hBr hBr.size hg9 (by omega)
          exact bodyPost_ret (results_blk1 (cs := wcells r) rfl (by rw [HSW.out]; exact hW) hx9 rfl) rfl ⟨by rw [HR.out], hB9⟩
end Go.Mun
