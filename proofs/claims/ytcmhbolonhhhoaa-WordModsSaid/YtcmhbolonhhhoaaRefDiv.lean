/- The walk of munimentsref1.divide. -/
import Derived.Test.YtcmhbolonhhhoaaRefMul
import Derived.Test.YtcmhbolonhhhoaaDivPlain
namespace Go.Mun
open Go Go.RowKit Go.Proofs

def quoR (N M i : Nat) : Nat := N / 2 ^ i / M * 2 ^ i
theorem quoR_same {n m k : Nat} (h : n / 2 ^ k / m = 2 * (n / 2 ^ (k + 1) / m)) : quoR n m k = quoR n m (k + 1) := by
  unfold quoR
  rw [h, Nat.pow_succ, Nat.mul_comm 2, Nat.mul_assoc, Nat.mul_comm 2 (2 ^ k)]
theorem quoR_more {n m k : Nat} (h : n / 2 ^ k / m = 2 * (n / 2 ^ (k + 1) / m) + 1) : quoR n m k = quoR n m (k + 1) + 2 ^ k := by
  unfold quoR
  rw [h, Nat.add_mul, Nat.one_mul, Nat.pow_succ, Nat.mul_comm 2, Nat.mul_assoc, Nat.mul_comm 2 (2 ^ k)]
theorem quoR_zero (n m : Nat) : quoR n m 0 = n / m := by simp [quoR]
theorem quoR_top {n m i : Nat} (h : n < 2 ^ i) : quoR n m i = 0 := by unfold quoR; rw [Nat.div_eq_of_lt h, Nat.zero_div, Nat.zero_mul]
/-- a bit that is set -/
theorem dig_form (y j r : Nat) (hr : r < 16) : dig (y * 2 ^ (16 * j + r + 1)) j = y % 2 ^ (15 - r) * 2 ^ (r + 1) := by
  unfold dig
  rw [show 16 * j + r + 1 = (r + 1) + 16 * j from by omega, Nat.pow_add, ← Nat.mul_assoc, Nat.mul_div_cancel _ (Nat.pow_pos (by decide))]
  have e : 65536 = 2 ^ (15 - r) * 2 ^ (r + 1) := by
    rw [show (65536 : Nat) = 2 ^ 16 from rfl, ← Nat.pow_add]
    congr 1
    omega
  rw [e, Nat.mul_mod_mul_right]
theorem dig_setbit (y j r : Nat) (hr : r < 16) : dig (y * 2 ^ (16 * j + r + 1)) j + 2 ^ r < 65536 ∧ (dig (y * 2 ^ (16 * j + r + 1)) j ||| 2 ^ r) = dig (y * 2 ^ (16 * j + r + 1)) j + 2 ^ r ∧
    setD (y * 2 ^ (16 * j + r + 1)) j (dig (y * 2 ^ (16 * j + r + 1)) j + 2 ^ r) = y * 2 ^ (16 * j + r + 1) + 2 ^ (16 * j + r) := by
  have hs := setD_val (y * 2 ^ (16 * j + r + 1)) j (dig (y * 2 ^ (16 * j + r + 1)) j + 2 ^ r)
  have e2 : 2 ^ r * 2 ^ (16 * j) = 2 ^ (16 * j + r) := by rw [← Nat.pow_add, Nat.add_comm]
  rw [Nat.add_mul, e2] at hs
  refine ⟨?_, ?_, by omega⟩
  · rw [dig_form y j r hr]
    have h1 : y % 2 ^ (15 - r) < 2 ^ (15 - r) := Nat.mod_lt _ (Nat.pow_pos (by decide))
    have h2 := Nat.mul_le_mul_right (2 ^ (r + 1)) h1
    rw [Nat.succ_mul, ← Nat.pow_add, show 15 - r + (r + 1) = 16 from by omega] at h2
    have h3 : 2 ^ (r + 1) = 2 * 2 ^ r := by rw [Nat.pow_succ, Nat.mul_comm]
    have h4 : 0 < 2 ^ r := Nat.pow_pos (by decide)
    generalize y % 2 ^ (15 - r) * 2 ^ (r + 1) = z at *
    have h5 : (2 : Nat) ^ 16 = 65536 := rfl
    omega
  · rw [dig_form y j r hr]
    exact or_side _ _ _ (Nat.pow_lt_pow_right (by decide) (by omega))
theorem quoR_form (n m k : Nat) : ∃ y, quoR n m (k + 1) = y * 2 ^ (16 * (k / 16) + k % 16 + 1) ∧ 2 ^ (16 * (k / 16) + k % 16) = 2 ^ k := by
  have e : 16 * (k / 16) + k % 16 = k := by omega
  rw [e]
  exact ⟨n / 2 ^ (k + 1) / m, rfl, rfl⟩
theorem quoR_set (n m k : Nat) : dig (quoR n m (k + 1)) (k / 16) + 2 ^ (k % 16) < 65536 ∧ (dig (quoR n m (k + 1)) (k / 16) ||| 2 ^ (k % 16)) = dig (quoR n m (k + 1)) (k / 16) + 2 ^ (k % 16) ∧
    setD (quoR n m (k + 1)) (k / 16) (dig (quoR n m (k + 1)) (k / 16) + 2 ^ (k % 16)) = quoR n m (k + 1) + 2 ^ k := by
  obtain ⟨y, hy, he⟩ := quoR_form n m k
  rw [hy, ← he]
  exact dig_setbit y (k / 16) (k % 16) (Nat.mod_lt _ (by decide))
theorem dig_bit (N k : Nat) : dig N (k / 16) / 2 ^ (k % 16) % 2 = N / 2 ^ k % 2 := by
  have e : 2 ^ k = 2 ^ (16 * (k / 16)) * 2 ^ (k % 16) := by rw [← Nat.pow_add]; congr 1; omega
  unfold dig
  rw [e, ← Nat.div_div_eq_div_mul]
  generalize N / 2 ^ (16 * (k / 16)) = q
  have hr : k % 16 < 16 := Nat.mod_lt _ (by decide)
  generalize k % 16 = r at *
  have e2 : (65536 : Nat) = 2 ^ r * (2 * 2 ^ (15 - r)) := by rw [show (65536 : Nat) = 2 ^ 16 from rfl, Nat.mul_left_comm, ← Nat.pow_add, ← Nat.pow_succ']; congr 1; omega
  rw [e2, Nat.mod_mul_right_div_self, Nat.mod_mul_right_mod]
theorem setD_mod {V j y : Nat} (hy : y < 65536) : setD V j y % 2 ^ (16 * (j + 1)) = V % 2 ^ (16 * j) + y * 2 ^ (16 * j) ∧ setD V j y / 2 ^ (16 * (j + 1)) = V / 2 ^ (16 * (j + 1)) := by
  have h1 : V % 2 ^ (16 * j) < 2 ^ (16 * j) := mod_step
  have hlt : V % 2 ^ (16 * j) + y * 2 ^ (16 * j) < 2 ^ (16 * (j + 1)) := by
    rw [powS]
    have := Nat.mul_le_mul_right (2 ^ (16 * j)) hy
    rw [Nat.succ_mul] at this
    omega
  have e : setD V j y = V % 2 ^ (16 * j) + y * 2 ^ (16 * j) + V / 2 ^ (16 * (j + 1)) * 2 ^ (16 * (j + 1)) := by
    unfold setD
    rw [Nat.add_mul, Nat.mul_assoc, ← powS, Nat.add_assoc]
  rw [e]
  exact ⟨by rw [Nat.add_mul_mod_self_right, Nat.mod_eq_of_lt hlt], by rw [Nat.add_mul_div_right _ _ (Nat.pow_pos (by decide)), Nat.div_eq_of_lt hlt, Nat.zero_add]⟩
/-- how far the doubling is -/
def DblR (R c j V C : Nat) : Prop := C ≤ 1 ∧ V % 2 ^ (16 * j) + C * 2 ^ (16 * j) = 2 * (R % 2 ^ (16 * j)) + c ∧ V / 2 ^ (16 * j) = R / 2 ^ (16 * j)
theorem dblR_start {R c : Nat} (hc : c ≤ 1) : DblR R c 0 R c := ⟨hc, by rw [Nat.mul_zero, Nat.pow_zero, Nat.mod_one]; omega, rfl⟩
theorem dbl_num {P a C d c L R1 : Nat} (h : a + C * P = 2 * R1 + c) (x : Nat) (hx : x = 2 * d + C) (hL : L = R1 + d * P) : a + x % 65536 * P + x / 65536 * (65536 * P) = 2 * L + c := by
  have ex : x % 65536 + x / 65536 * 65536 = x := by omega
  have e2 := congrArg (· * P) hx
  have e3 := congrArg (· * P) ex
  simp only [Nat.add_mul] at e2 e3
  rw [Nat.mul_assoc] at e2 e3
  generalize x / 65536 * (65536 * P) = z at *
  generalize x % 65536 * P = z1 at *
  omega
theorem dblR_step {R c j V C : Nat} (h : DblR R c j V C) (x : Nat) (hx : x = 2 * dig V j + C) : DblR R c (j + 1) (setD V j (x % 65536)) (x / 65536) := by
  obtain ⟨h0, h1, h2⟩ := h
  have hd : dig V j = dig R j := by unfold dig; rw [h2]
  have hs := setD_mod (V := V) (j := j) (y := x % 65536) (Nat.mod_lt _ (by decide))
  have hlt := dig_lt V j
  refine ⟨?_, ?_, ?_⟩
  · generalize dig V j = d at *
    omega
  · rw [hs.1, powS]
    rw [← powS, dig_split R j, powS]
    exact dbl_num h1 x (by rw [hx, hd]) rfl
  · rw [hs.2, powS, Nat.mul_comm 65536, ← Nat.div_div_eq_div_mul, ← Nat.div_div_eq_div_mul, h2]
theorem and1 (m : Int) : bits .and .i64 m 1 = m % 2 := by
  have := i64_and_mask m 1 1 (by decide) (by decide)
  rw [show ((1 : Nat) : Int) = 1 from rfl] at this
  rw [this]
  rfl
theorem dblR_end {R c V C j : Nat} (hR : 2 * R + c < 2 ^ (16 * j)) (h : DblR R c j V C) : V = 2 * R + c := by
  obtain ⟨h0, h1, h2⟩ := h
  have hP0 : 0 < 2 ^ (16 * j) := Nat.pow_pos (by decide)
  generalize 2 ^ (16 * j) = P at *
  rw [Nat.mod_eq_of_lt (show R < P by omega)] at h1
  rw [Nat.div_eq_of_lt (show R < P by omega)] at h2
  have hV : V < P := by
    rcases Nat.lt_or_ge V P with g | g
    · exact g
    · have := Nat.div_pos g hP0
      omega
  rw [Nat.mod_eq_of_lt hV] at h1
  have hC : C = 0 ∨ C = 1 := by omega
  rcases hC with rfl | rfl
  · omega
  · omega
theorem bd_pow {x j : Nat} (hj : 16 < j) (h : x < 2 * 2 ^ (16 * 16)) : x < 2 ^ (16 * j) := by
  have e : 2 ^ (16 * j) = 2 ^ (16 * 16) * 2 ^ (16 * (j - 16)) := by
    rw [← Nat.pow_add]
    congr 1
    omega
  have h1 : 2 ^ 1 ≤ 2 ^ (16 * (j - 16)) := Nat.pow_le_pow_right (by decide) (by omega)
  have h2 := Nat.mul_le_mul_left (2 ^ (16 * 16)) h1
  rw [e]
  generalize 2 ^ (16 * 16) * 2 ^ (16 * (j - 16)) = z at *
  omega
theorem sub_pow {x y m : Nat} (h : y ≤ x) (hx : x < 2 ^ (16 * m)) : (x + 2 ^ (16 * m) - y) % 2 ^ (16 * m) = x - y := by
  generalize 2 ^ (16 * m) = P at *
  rw [show x + P - y = (x - y) + P from by omega, Nat.add_mod_right, Nat.mod_eq_of_lt (by omega)]
theorem or_pow (lq r : Nat) (hr : r < 16) (hl : lq < 65536) (h : (lq ||| 2 ^ r) = lq + 2 ^ r) : bits .or .i64 (lq : Int) (2 ^ r) = ((lq + 2 ^ r : Nat) : Int) ∧ bits .or .i64 (lq : Int) (wrap64 (2 ^ r)) = (lq : Int) + 2 ^ r := by
  have h1 : 2 ^ r < 65536 := Nat.lt_of_lt_of_le (Nat.pow_lt_pow_right (by decide) hr) (by decide)
  have h2 : bits .or .i64 (lq : Int) (2 ^ r) = ((lq + 2 ^ r : Nat) : Int) := by rw [← cast_pow2, i64_or_nat _ _ (by omega) (by omega), h]
  have h3 : IntKind.i64.wrap (2 ^ r) = (2 ^ r : Int) := by
    rw [← cast_pow2]
    exact IntWalk.i64_in _ (by omega)
  refine ⟨h2, ?_⟩
  rw [← IntWalk.i64_left, h3, h2, Int.natCast_add, cast_pow2]
theorem bit_i64 (d r : Nat) : bits .and .i64 ((d : Int) / 2 ^ r) 1 = ((d / 2 ^ r % 2 : Nat) : Int) := by
  have e : (d : Int) / 2 ^ r = ((d / 2 ^ r : Nat) : Int) := by rw [Int.natCast_ediv, cast_pow2]
  rw [and1, e]
  rfl
set_option maxRecDepth 100000 in
set_option maxHeartbeats 8000000 in
theorem refdiv_any (ad bd : Addr) (m ca cb N M : Nat) (w : World) (hm : 1 ≤ m) (hm2 : m ≤ 100) (hN : N < 2 ^ (16 * m)) (hM0 : 0 < M) (hM : M < 2 ^ (16 * 16)) (ra : Rd w (some ad) (dtab m N).toList) (rb : Rd w (some bd) (dtab 16 M).toList) :
    Calls Try.prog 53 #[.slice (some ad) m ca, .slice (some bd) 16 cb] w fun e w' => ∃ g h, e = .returned (.tuple #[.slice (some ⟨g, 0, none⟩) m m, .slice (some ⟨h, 0, none⟩) 17 17]) ∧ w.heap.size ≤ g ∧ w.heap.size ≤ h ∧ Blk w' g 3 (dtab m (N / M)) ∧ Blk w' h 3 (dtab 17 (N % M)) ∧ Below w.heap.size w w' := by
  have hI := intsTy
  have oa : ad.block < w.heap.size := rd_lt ra (by rw [Array.length_toList, dtab_size]; omega)
  have ob : bd.block < w.heap.size := rd_lt rb (by rw [Array.length_toList, dtab_size]; omega)
  have HCA := Lib.hid (fun i (h : i < m) => @dtab_get m N i h)
  have HLA := Lib.hid (dig_lt N)
  have HS := Lib.hid dtab_size
  have H0q := Lib.hid ((rep_dtab m).trans (congrArg (dtab m) (quoR_top (m := M) hN).symm))
  have H0r := Lib.hid ((rep_dtab 17).trans (congrArg (dtab 17) (remB_top (m := M) hN).symm))
  have HEq := Lib.hid (quoR_zero N M)
  have HEr := Lib.hid (remB_zero N M)
  have HM0 := Lib.hid hM0
  have HMB := Lib.hid hM
  have hmi : (m : Int) ≤ 100 := by omega
  have hmi0 : (1 : Int) ≤ (m : Int) := by omega
  clear hN hM0 hM
  generalize dtab m N = da at *
  have tk1 : True := trivial
  go_enter Try.func53, Try.ntmps53
  go_wp2_with (first
    | ((with_reducible refine gd_make ?_); have _t := tk1; refine wpList_make_ints rfl _ _ 48 rfl hI rfl (n := m) rfl rfl (by omega) ?_; clear tk1; intro w1 hx1 hb1 hl1)
    | ((with_reducible refine gd_make ?_); refine wpList_make_ints rfl _ _ 48 rfl hI rfl (n := 17) rfl rfl (by omega) ?_; intro w2 hx2 hb2 hl2)
    | fail)
  rw [H0q.out] at hx1
  rw [H0r.out] at hx2
  have hq := hx1.ext hb2
  have o1 := hx1.lt
  have ya := (ra.ext hb1).ext hb2
  have yb := (rb.ext hb1).ext hb2
  have hB := below_step hb1 hb2
  clear ra rb hx1 hb1 hb2 hl1 hl2
  go_loopw [7, 8] (fun v i wr => ∃ k g : Nat, k ≤ 16 * m ∧ i = .int .i64 ((k : Int) - 1) ∧ v = .slice (some ⟨g, 0, none⟩) 17 17 ∧ w1.heap.size ≤ g ∧ Blk wr w.heap.size 3 (dtab m (quoR N M k)) ∧ Blk wr g 3 (dtab 17 (remB N M k)) ∧ Rd wr (some ad) da.toList ∧ Rd wr (some bd) (dtab 16 M).toList ∧ Below w.heap.size w wr) (fun _ i _ => (intOf i + 1).toNat)
  case atStart => exact ⟨16 * m, w1.heap.size, by omega, by go_num, rfl, Nat.le_refl _, hq, hx2, ya, yb, hB⟩
  case round =>
    clear hx2 ya yb hB hq
    obtain ⟨k', g, hk, hi, rfl, hg, hq, hr, ya, yb, hB⟩ := hrel
    rcases k' with _ | k
    · obtain rfl : _ = Value.int .i64 (-1) := hi.trans rfl
      clear hi
      rw [HEq.out] at hq
      rw [HEr.out] at hr
      go_wp2
      go_ret2
      exact ⟨_, _, rfl, Nat.le_refl _, by omega, hq, hr, hB⟩
    · obtain rfl : _ = Value.int .i64 (k : Int) := hi.trans (congrArg (Value.int .i64) (by omega))
      clear hi
      have k0 : (0 : Int) ≤ (k : Int) := by omega
      have k1 : (k : Int) < 1600 := by omega
      have hj : k / 16 < m := by omega
      have hca := rd_at ya (HCA.out (k / 16) hj)
      have hd := HLA.out (k / 16)
      have HBit := Lib.hid (dig_bit N k)
      have HQS := Lib.hid (quoR_set N M k)
      have hcq := hq.cellv (dtab_get (quoR N M (k + 1)) hj)
      have HQl := Lib.hid (dig_lt (quoR N M (k + 1)) (k / 16))
      have HSD := Lib.hid (fun y hy => @dtab_setD m (quoR N M (k + 1)) (k / 16) y hy hj)
      have hr16 : k % 16 < 16 := Nat.mod_lt _ (by decide)
      have q1 : (k : Int) / 16 = ((k / 16 : Nat) : Int) := by omega
      have q2 : (k : Int) % 16 = ((k % 16 : Nat) : Int) := by omega
      generalize k / 16 = j at *
      generalize k % 16 = r at *
      have j0 : (0 : Int) ≤ (j : Int) := by omega
      have j1 : (j : Int) < (m : Int) := by omega
      have r0 : (0 : Int) ≤ (r : Int) := by omega
      have r1 : (r : Int) < 16 := by omega
      generalize dig N j = d at *
      have HC := Lib.hid ((bit_i64 d r).trans (by rw [HBit.out]))
      have hc1 : N / 2 ^ k % 2 ≤ 1 := by omega
      obtain ⟨c0, hc0⟩ : ∃ c0, c0 = N / 2 ^ k % 2 := ⟨_, rfl⟩
      rw [← hc0] at HC hc1
      have HC0 := Lib.hid hc0
      clear hc0
      have HDB := Lib.hid (dblR_start (R := remB N M (k + 1)) hc1)
      go_wp2
      simp only [q2]
      obtain ⟨wo, rfl⟩ : ∃ wo : World, wo = wr := ⟨_, rfl⟩
      go_loopw [9, 10, 11] (fun c i _ ws => ∃ q V C : Nat, q ≤ 17 ∧ i = .int .i64 q ∧ c = .int .i64 C ∧ Hid (DblR (remB N M (k + 1)) c0 q V C) ∧ Blk ws w.heap.size 3 (dtab m (quoR N M (k + 1))) ∧ Blk ws g 3 (dtab 17 V) ∧ Rd ws (some ad) da.toList ∧ Rd ws (some bd) (dtab 16 M).toList ∧ Below w.heap.size w ws) (fun _ i _ _ => 17 - (intOf i).toNat)
      case atStart => exact ⟨0, _, c0, by omega, rfl, congrArg (Value.int .i64) HC.out, HDB, hq, hr, ya, yb, hB⟩
      case round =>
        clear hq hr ya yb hB HDB hca hcq
        obtain ⟨q, V, C, hq17, rfl, rfl, HDB, hq, hr, ya, yb, hB⟩ := hrel
        have hC := HDB.out.1
        by_cases hlt : q < 17
        · have s0 : (0 : Int) ≤ (q : Int) := by omega
          have s1 : (q : Int) < 17 := by omega
          have hcv := hr.cellv (dtab_get V hlt)
          have hv := dig_lt V q
          have HD2 := Lib.hid (dblR_step HDB.out _ rfl)
          have HSV := Lib.hid (HS.out 17 V)
          have HSET := Lib.hid (fun y hy => @dtab_setD 17 V q y hy hlt)
          generalize dig V q = x at *
          have HA := Lib.hid ((and65535 (2 * (x : Int) + (C : Int))).trans (show (2 * (x : Int) + (C : Int)) % 65536 = (((2 * x + C) % 65536 : Nat) : Int) from by omega))
          have HD := Lib.hid (show (2 * (x : Int) + (C : Int)) / 65536 = (((2 * x + C) / 65536 : Nat) : Int) from by omega)
          go_wp2_with (first
            | ((with_reducible refine gd_store ?_); refine wpList_store_cell rfl 3 (.tmp 54) (.tmp 53) rfl hr (i := q) (v := .int .i64 ((2 * x + C) % 65536 : Nat)) (by rw [HSV.out]; exact hlt) (by kernel_rfl) rfl rfl (congrArg (Value.int .i64) HA.out) ?_; intro w5 hx5 hg5)
            | fail)
          rw [HSET.out _ (Nat.mod_lt _ (by decide))] at hx5
          have ya5 := rd_grown ya hg5 (by omega)
          have yb5 := rd_grown yb hg5 (by omega)
          have hq5 := hq.grown hg5 (by simp; omega)
          have hB5 := below_blk hB hB.size hg5 (by omega)
          go_roundw
          case rel => first | exact ⟨q + 1, _, _, by omega, by go_num, congrArg (Value.int .i64) HD.out, HD2, hq5, hx5, ya5, yb5, hB5⟩ | ((repeat apply Exists.intro); exact ⟨⟨q + 1, _, _, by omega, by go_num, congrArg (Value.int .i64) HD.out, HD2, hq5, hx5, ya5, yb5, hB5⟩, rfl⟩)
          case measure => (simp [intOf]; try omega)
        · obtain rfl : q = 17 := by omega
          have hRl : remB N M (k + 1) < M := remB_lt HM0.out
          have h272 := bd_pow (x := 2 * remB N M (k + 1) + c0) (j := 17) (by decide) (by have := HMB.out; omega)
          have hV : V = stepB N M k := by
            have := dblR_end h272 HDB.out
            rw [this, HC0.out]
            rfl
          have HVL := Lib.hid h272
          rw [← dblR_end h272 HDB.out, hV] at HVL
          subst hV
          have HCM := Lib.hid (refcmp_any ⟨g, 0, none⟩ bd 17 16 17 cb (stepB N M k) M wr HVL.out HMB.out (by decide) (by decide) hr.rd yb)
          clear h272 hRl HDB
          by_cases hle : M ≤ stepB N M k
          · have HREM := Lib.hid (step_more HM0.out hle)
            have hz : 0 ≤ cmpN (stepB N M k) M := by unfold cmpN; rw [if_neg (by omega)]; split <;> omega
            have hz1 := (show cmpN (stepB N M k) M ≤ 1 from by unfold cmpN; rw [if_neg (by omega)]; split <;> omega)
            generalize cmpN (stepB N M k) M = z at *
            have HSB := Lib.hid (refsub_any ⟨g, 0, none⟩ bd 17 16 17 cb (stepB N M k) M wr HVL.out HMB.out (by decide) (by decide) (by decide) hr.rd yb)
            rw [sub_pow hle HVL.out, ← HREM.out.1] at HSB
            have HQ2 := Lib.hid (HQS.out.2.2.trans (quoR_more HREM.out.2).symm)
            clear hle
            have hlq := HQl.out
            have h2r := HQS.out.1
            have HO := Lib.hid (or_pow _ r hr16 hlq HQS.out.2.1)
            have HCQ := Lib.hid (dtab_get (quoR N M (k + 1)) hj)
            generalize dig (quoR N M (k + 1)) j = lq at *
            have hs16 := HS.out m (quoR N M (k + 1))
            have HSQ := Lib.hid hs16
            clear hs16
            go_wp2_with (first
              | (go_at_call 75; refine HCM.out.mono ?_; rintro e w' ⟨rfl, rfl⟩)
              | (go_at_call 76; refine HSB.out.mono ?_; rintro e w5 ⟨g2, rfl, hg2, hr2, hb5⟩; have hq5 := hq.ext hb5; have hcq := hq5.cellv HCQ.out)
              | ((with_reducible refine gd_store ?_); refine wpList_store_cell rfl 3 (.tmp 77) (.tmp 76) rfl hq5 (i := j) (v := .int .i64 (lq + 2 ^ r : Nat)) ?_ (by kernel_rfl) rfl ?_ ?_ ?_; (rw [HSQ.out]; exact hj); rfl; (simp [Act.eval]; exact HO.out.2); intro w6 hx6 hg6)
              | fail)
            rw [HSD.out _ h2r, HQ2.out] at hx6
            have hBs := hB.size
            have hgl := hr.lt
            have hr6 := hr2.grown hg6 (by simp; have := hq.lt; omega)
            have ya6 := rd_grown (ya.ext hb5) hg6 (by omega)
            have yb6 := rd_grown (yb.ext hb5) hg6 (by omega)
            have hB5 := below_step hB hb5
            have hB6 := below_blk hB5 hB5.size hg6 (by omega)
            go_roundw
            case rel => exact ⟨k, g2, by omega, rfl, rfl, by omega, hx6, hr6, ya6, yb6, hB6⟩
            case measure => (simp [intOf]; try omega)
          · have hz : cmpN (stepB N M k) M = -1 := by unfold cmpN; rw [if_pos (by omega)]
            rw [hz] at HCM
            have HREM := Lib.hid (step_less (show stepB N M k < M by omega))
            rw [← HREM.out.1] at hr
            rw [← quoR_same HREM.out.2] at hq
            clear hle
            have d1 : decide ((0 : Int) ≤ -1) = false := by decide
            go_wp2_with (first
              | (go_at_call 75; refine HCM.out.mono ?_; rintro e w' ⟨rfl, rfl⟩)
              | fail)
            go_roundw
            case rel => exact ⟨k, g, by omega, rfl, rfl, hg, hq, hr, ya, yb, hB⟩
            case measure => (simp [intOf]; try omega)
end Go.Mun
