/- The walks of munimentsref1.bit and moved. -/
import Derived.Test.YtcmhbolonhhhoaaRefInt
import Derived.Test.YtcmhbolonhhhoaaRefOf
namespace Go.Mun
open Go Go.RowKit Go.Proofs

theorem bit_low (a i : Nat) : lowB a (i / 8) / 2 ^ (i % 8) % 2 = a / 2 ^ i % 2 := by
  unfold lowB
  have e : 2 ^ i = 2 ^ (8 * (i / 8)) * 2 ^ (i % 8) := by rw [← Nat.pow_add]; congr 1; omega
  rw [e, ← Nat.div_div_eq_div_mul]
  generalize a / 2 ^ (8 * (i / 8)) = q
  have hr : i % 8 ≤ 7 := by omega
  generalize i % 8 = r at *
  have e2 : (256 : Nat) = 2 ^ r * (2 * 2 ^ (7 - r)) := by rw [show (256 : Nat) = 2 ^ 8 from rfl, Nat.mul_left_comm, ← Nat.pow_add, ← Nat.pow_succ']; congr 1; omega
  rw [e2, Nat.mod_mul_right_div_self, Nat.mod_mul_right_mod]

set_option maxRecDepth 100000 in
set_option maxHeartbeats 1000000 in
theorem RefBit_any (a i : Nat) (w : World) (hi : i < 256) : Calls Try.prog 62 #[.agg (wcells a), .int .i64 (i : Int)] w fun e w' => e = .returned (.int .u8 (a / 2 ^ i % 2 : Nat)) ∧ Below w.heap.size w w' := by
  have hcell0 := wcells_at a (show 31 - i / 8 < 32 by omega)
  rw [show 31 - (31 - i / 8) = i / 8 from by omega] at hcell0
  have HB := Lib.hid (bit_low a i)
  have hx := lowB_lt a (i / 8)
  have q1 : (i : Int) / 8 = ((i / 8 : Nat) : Int) := by omega
  have q2 : (i : Int) % 8 = ((i % 8 : Nat) : Int) := by omega
  have hi0 : (0 : Int) ≤ (i : Int) := by omega
  have hi1 : (i : Int) < 256 := by omega
  obtain ⟨j, hj⟩ : ∃ j, j = 31 - i / 8 := ⟨_, rfl⟩
  have q3 : (31 : Int) - ((i / 8 : Nat) : Int) = (j : Int) := by omega
  have q4 : 31 - i / 8 = j := hj.symm
  have hr : i % 8 < 8 := by omega
  rw [← hj] at hcell0
  clear hj
  have hj0 : (0 : Int) ≤ (j : Int) := by omega
  have hj1 : (j : Int) < 32 := by omega
  have HC := Lib.hid hcell0
  clear hcell0
  generalize lowB a (i / 8) = x at *
  generalize i % 8 = r at *
  generalize i / 8 = k at *
  generalize wcells a = cs at *
  have r0 : (0 : Int) ≤ (r : Int) := by omega
  have r1 : (r : Int) < 8 := by omega
  have HU := Lib.hid (u8_bit x r hx)
  go_enter Try.func62, Try.ntmps62
  go_wp2_with (first
    | ((with_reducible refine gd_box ?_); refine wpList_box_agg rfl _ (.tmp 0) rfl rfl ?_; intro w1 hx1 hB hl1; have hcell := hx1.cellv HC.out)
    | fail)
  go_ret
  exact ⟨congrArg (fun n : Int => Ending.returned (.int .u8 n)) (HU.out.trans (by rw [HB.out])), hB⟩

/-- a number by its bits, the lowest first -/
def wN (F : Nat → Nat) : Nat → Nat
  | 0 => 0
  | i + 1 => wN F i + F i * 2 ^ i
theorem wN_lt {F : Nat → Nat} (h : ∀ i, F i ≤ 1) : ∀ i, wN F i < 2 ^ i
  | 0 => by simp [wN]
  | i + 1 => by
    have := wN_lt h i
    have h2 := Nat.mul_le_mul_right (2 ^ i) (h i)
    show wN F i + F i * 2 ^ i < 2 ^ (i + 1)
    rw [Nat.pow_succ]
    omega
/-- one bit more -/
theorem wN_byte {F : Nat → Nat} (h : ∀ i, F i ≤ 1) (i j : Nat) : lowB (wN F (i + 1)) j = if j = i / 8 then lowB (wN F i) j ||| F i * 2 ^ (i % 8) else lowB (wN F i) j := by
  have hlt := wN_lt h i
  have hb := h i
  show lowB (wN F i + F i * 2 ^ i) j = _
  have e : 2 ^ i = 2 ^ (i % 8) * 2 ^ (8 * (i / 8)) := by rw [← Nat.pow_add]; congr 1; omega
  have hr : i % 8 < 8 := Nat.mod_lt _ (by decide)
  unfold lowB
  by_cases hj : j = i / 8
  · rw [if_pos hj, hj]
    have hx : wN F i / 2 ^ (8 * (i / 8)) < 2 ^ (i % 8) := (Nat.div_lt_iff_lt_mul (Nat.pow_pos (by decide))).2 (by rw [← e]; exact hlt)
    rw [e, ← Nat.mul_assoc, Nat.add_mul_div_right _ _ (Nat.pow_pos (by decide))]
    have h8 : 2 ^ (i % 8) * 2 ≤ 256 := by rw [show (256 : Nat) = 2 ^ 8 from rfl, ← Nat.pow_succ]; exact Nat.pow_le_pow_right (by decide) hr
    have hor := or_side (F i) (wN F i / 2 ^ (8 * (i / 8))) (i % 8) hx
    have hF : F i * 2 ^ (i % 8) ≤ 1 * 2 ^ (i % 8) := Nat.mul_le_mul_right _ hb
    rw [Nat.mod_eq_of_lt (show wN F i / 2 ^ (8 * (i / 8)) < 256 by omega), Nat.or_comm, hor, Nat.mod_eq_of_lt (by omega), Nat.add_comm]
  · rw [if_neg hj]
    rcases Nat.lt_or_gt_of_ne hj with g | g
    · have e2 : F i * 2 ^ i = 2 ^ (8 * j) * (256 * (F i * 2 ^ (i - 8 * j - 8))) := by
        rw [show (256 : Nat) = 2 ^ 8 from rfl, show 2 ^ i = 2 ^ (8 * j) * (2 ^ 8 * 2 ^ (i - 8 * j - 8)) from by rw [← Nat.pow_add, ← Nat.pow_add]; congr 1; omega]
        rw [Nat.mul_left_comm, Nat.mul_left_comm (F i) (2 ^ 8)]
      rw [e2, Nat.add_mul_div_left _ _ (Nat.pow_pos (by decide)), Nat.add_mul_mod_self_left]
    · have h1 : wN F i + F i * 2 ^ i < 2 ^ (8 * j) := by
        have h2 : 2 ^ (i + 1) ≤ 2 ^ (8 * j) := Nat.pow_le_pow_right (by decide) (by omega)
        have h3 := Nat.mul_le_mul_right (2 ^ i) hb
        rw [Nat.pow_succ] at h2
        omega
      rw [Nat.div_eq_of_lt h1, Nat.div_eq_of_lt (Nat.lt_of_le_of_lt (Nat.le_add_right _ _) h1)]
theorem wN_cells {F : Nat → Nat} (h : ∀ i, F i ≤ 1) (i : Nat) (hi : i < 256) : (wcells (wN F i)).setIfInBounds (31 - i / 8) (.int .u8 (lowB (wN F i) (i / 8) ||| F i * 2 ^ (i % 8) : Nat)) = wcells (wN F (i + 1)) := by
  rw [wcells, wcells, bv_wbytes, bv_wbytes, tab_set (by omega)]
  exact tab_congr fun j hj => by
    rw [wN_byte h i (31 - j)]
    by_cases c : j = 31 - i / 8
    · rw [if_pos c, if_pos (by omega), show 31 - j = i / 8 from by omega]
    · rw [if_neg c, if_neg (by omega)]
theorem u8_orbit (x b r : Nat) (hx : x < 256) (hb : b ≤ 1) (hr : r < 8) : bits .or .u8 (x : Int) ((b : Int) * 2 ^ r % 256) = ((x ||| b * 2 ^ r : Nat) : Int) := by
  have h1 : b * 2 ^ r ≤ 1 * 2 ^ r := Nat.mul_le_mul_right _ hb
  have h2 : 2 ^ r < 256 := Nat.lt_of_lt_of_le (Nat.pow_lt_pow_right (by decide) hr) (by decide)
  have e : (b : Int) * 2 ^ r % 256 = ((b * 2 ^ r : Nat) : Int) := by
    rw [← cast_pow2', ← Int.natCast_mul]
    omega
  rw [e, u8_or_nat _ _ hx (by omega)]

set_option maxRecDepth 100000 in
set_option maxHeartbeats 4000000 in
theorem moved_any (a c : Nat) (n : Int) (F : Nat → Nat) (w : World) (hc : c ≤ 1) (hn1 : -256 ≤ n) (hn2 : n ≤ 255) (hF1 : ∀ i, F i ≤ 1) (hF : ∀ i : Nat, i < 256 → (0 ≤ (i : Int) - n ∧ (i : Int) - n < 256 → F i = a / 2 ^ ((i : Int) - n).toNat % 2) ∧ (¬ (0 ≤ (i : Int) - n ∧ (i : Int) - n < 256) → F i = c)) :
    Calls Try.prog 60 #[.agg (wcells a), .int .i64 n, .int .u8 (c : Int)] w fun e w' => e = .returned (.agg (wcells (wN F 256))) ∧ Below w.heap.size w w' := by
  have hW := wordTy
  have zW := zWordL
  have HSW := Lib.hid wcells_size
  have H1W := Lib.hid wcells_one
  have HF := Lib.hid hF
  have HF1 := Lib.hid hF1
  have HW := Lib.hid (fun i (hi : i < 256) => wN_cells hF1 i hi)
  have HAT := Lib.hid (fun m i (h : i < 32) => wcells_at m h)
  clear hF hF1
  have tk1 : True := trivial
  go_enter Try.func60, Try.ntmps60
  go_wp2_with (first
    | ((with_reducible refine gd_box ?_); refine wpList_box_agg rfl _ (.tmp 0) rfl rfl ?_; intro w1 hx1 hb1 hl1)
    | ((with_reducible refine gd_alloc ?_); have _t := tk1; refine wpList_alloc_blk rfl 23 rfl zW ?_; clear tk1; intro w2 hx2 hb2 hl2)
    | ((with_reducible refine gd_alloc ?_); refine wpList_alloc_blk rfl 23 rfl zW ?_; intro w3 hx3 hb3 hl3)
    | fail)
  have hya := (hx1.ext hb2).ext hb3
  have hy4 : Blk w3 w1.heap.size 23 (wcells 0) := hx2.ext hb3
  have hy5 : Blk w3 w2.heap.size 23 (wcells (wN F 0)) := hx3
  have o1 := hx1.lt
  have o2 := hx2.lt
  have hB := below_step (below_step hb1 hb2) hb3
  clear hx1 hx2 hx3 hb1 hb2 hb3 hl1 hl2 hl3
  go_loopw [8] (fun i wr => ∃ k : Nat, k ≤ 256 ∧ i = .int .i64 k ∧ Blk wr w2.heap.size 23 (wcells (wN F k)) ∧ Blk wr w1.heap.size 23 (wcells 0) ∧ Blk wr w.heap.size 23 (wcells a) ∧ Below w.heap.size w wr) (fun i _ => 256 - (intOf i).toNat)
  case atStart => exact ⟨0, by omega, rfl, hy5, hy4, hya, hB⟩
  case round =>
    clear hya hy4 hy5 hB
    obtain ⟨k, hk, rfl, hy5, hy4, hya, hB⟩ := hrel
    by_cases hlt : k < 256
    · have k0 : (0 : Int) ≤ (k : Int) := by omega
      have k1 : (k : Int) < 256 := by omega
      have HFk := Lib.hid (HF.out k hlt)
      have HF1k := Lib.hid (HF1.out k)
      have HWk := Lib.hid (HW.out k hlt)
      have HCk := Lib.hid ((HAT.out (wN F k) (31 - k / 8) (by omega)).trans (congrArg (fun i => some (Value.int .u8 (lowB (wN F k) i : Nat))) (show 31 - (31 - k / 8) = k / 8 from by omega)))
      have q1 : (k : Int) / 8 = ((k / 8 : Nat) : Int) := by omega
      have q2 : (k : Int) % 8 = ((k % 8 : Nat) : Int) := by omega
      obtain ⟨j, hj⟩ : ∃ j, j = 31 - k / 8 := ⟨_, rfl⟩
      have q3 : (31 : Int) - ((k / 8 : Nat) : Int) = (j : Int) := by omega
      have q4 : 31 - k / 8 = j := hj.symm
      have hr : k % 8 < 8 := by omega
      have hj32 : j < 32 := by omega
      rw [← hj] at HCk HWk
      clear hj
      have hj0 : (0 : Int) ≤ (j : Int) := by omega
      have hj1 : (j : Int) < 32 := by omega
      have hx := lowB_lt (wN F k) (k / 8)
      generalize lowB (wN F k) (k / 8) = x at *
      generalize k % 8 = r at *
      generalize k / 8 = kk at *
      have r0 : (0 : Int) ≤ (r : Int) := by omega
      have r1 : (r : Int) < 8 := by omega
      by_cases c1 : 0 ≤ (k : Int) - n ∧ (k : Int) - n < 256
      · obtain ⟨m, hm⟩ : ∃ m : Nat, (k : Int) - n = (m : Int) := ⟨((k : Int) - n).toNat, by omega⟩
        have HE := Lib.hid (HFk.out.1 c1)
        rw [hm] at HE
        have hm2 : m < 256 := by omega
        have HBT := Lib.hid (fun w => RefBit_any a m w hm2)
        rw [show a / 2 ^ m % 2 = F k from by have := HE.out; rw [this]; rfl] at HBT
        have g0 : (0 : Int) ≤ (m : Int) := by omega
        have g1 : (m : Int) < 256 := by omega
        clear c1 hm2
        have hf := HF1k.out
        generalize F k = f at *
        have HO := Lib.hid (u8_orbit x f r hx hf hr)
        go_wp2_with (first
          | ((with_reducible refine gd_load ?_); refine wpList_load_blk rfl 23 (.tmp 3) rfl hya (by rw [HSW.out]; exact hW) rfl ?_)
          | (go_at_call 62; refine (HBT.out _).mono ?_; rintro e w4 ⟨rfl, hb4⟩; have hz5 := hy5.ext hb4; have hcell := hz5.cellv HCk.out)
          | ((with_reducible refine gd_store ?_); refine wpList_store_cell rfl 5 (.tmp 44) (.tmp 43) rfl hz5 (i := j) (v := .int .u8 (x ||| f * 2 ^ r : Nat)) (by rw [HSW.out]; exact hj32) (by kernel_rfl) rfl rfl ?_ ?_; (first | exact congrArg (Value.int .u8) HO.out | (trace_state; fail)); intro w5 hx5 hg5)
          | fail)
        rw [HWk.out] at hx5
        have hz4 := (hy4.ext hb4).grown hg5 (by simp; omega)
        have hza := (hya.ext hb4).grown hg5 (by simp; omega)
        have hB5 := below_blk (below_step hB hb4) ((below_step hB hb4)).size hg5 (by omega)
        go_roundw
        case rel => exact ⟨k + 1, by omega, by go_num, hx5, hz4, hza, hB5⟩
        case measure => (simp [intOf]; try omega)
      · have HE := Lib.hid (HFk.out.2 c1)
        rw [HE.out] at HWk
        have hf := hc
        have HO := Lib.hid (u8_orbit x c r hx hc hr)
        have hcell := hy5.cellv HCk.out
        by_cases c2 : (k : Int) - n < 0
        · have d1 : decide ((0 : Int) ≤ (k : Int) - n) = false := decide_eq_false (by omega)
          clear c1
          go_wp2_with (first
            | ((with_reducible refine gd_store ?_); refine wpList_store_cell rfl 5 (.tmp 44) (.tmp 43) rfl hy5 (i := j) (v := .int .u8 (x ||| c * 2 ^ r : Nat)) (by rw [HSW.out]; exact hj32) (by kernel_rfl) rfl rfl ?_ ?_; (first | exact congrArg (Value.int .u8) HO.out | (trace_state; fail)); intro w5 hx5 hg5)
            | fail)
          rw [HWk.out] at hx5
          have hz4 := (hy4).grown hg5 (by simp; omega)
          have hza := (hya).grown hg5 (by simp; omega)
          have hB5 := below_blk hB (hB).size hg5 (by omega)
          go_roundw
          case rel => exact ⟨k + 1, by omega, by go_num, hx5, hz4, hza, hB5⟩
          case measure => (simp [intOf]; try omega)
        · have d1 : (0 : Int) ≤ (k : Int) - n := by omega
          have d2 : decide ((k : Int) - n < 256) = false := decide_eq_false (by omega)
          clear c1
          go_wp2_with (first
            | ((with_reducible refine gd_store ?_); refine wpList_store_cell rfl 5 (.tmp 44) (.tmp 43) rfl hy5 (i := j) (v := .int .u8 (x ||| c * 2 ^ r : Nat)) (by rw [HSW.out]; exact hj32) (by kernel_rfl) rfl rfl ?_ ?_; (first | exact congrArg (Value.int .u8) HO.out | (trace_state; fail)); intro w5 hx5 hg5)
            | fail)
          rw [HWk.out] at hx5
          have hz4 := (hy4).grown hg5 (by simp; omega)
          have hza := (hya).grown hg5 (by simp; omega)
          have hB5 := below_blk hB (hB).size hg5 (by omega)
          go_roundw
          case rel => exact ⟨k + 1, by omega, by go_num, hx5, hz4, hza, hB5⟩
          case measure => (simp [intOf]; try omega)
    · obtain rfl : k = 256 := by omega
      generalize hs : wN F 256 = s at *
      have HS := Lib.hid hs
      clear hs
      go_wp2_with (first
        | ((with_reducible refine gd_load ?_); refine wpList_load_blk rfl 23 (.tmp 7) rfl hy5 (by rw [HSW.out]; exact hW) rfl ?_)
        | ((with_reducible refine gd_store ?_); refine wpList_store_all rfl 23 (.tmp 6) (.tmp 45) rfl (wcells s) hy4 (by rw [HSW.out]; exact hW) (by rw [HSW.out]; exact HSW.out 0) (H1W.out _) (by rfl) (by rfl) ?_; intro wf hxf hgf)
        | fail)
      have hBf := below_blk hB hB.size hgf (by omega)
      exact bodyPost_ret (results_blk1 (cs := wcells s) rfl (by rw [HSW.out]; exact hW) hxf rfl) rfl ⟨by rw [HS.out], hBf⟩
end Go.Mun
