/- The walk of munimentsref1.mul. -/
import Derived.Test.YtcmhbolonhhhoaaRefAdd
import Derived.Deep.QuietTactic
import Derived.BigQuiet
namespace Go.Mun
open Go Go.RowKit Go.Proofs

theorem dig_over {x z k : Nat} (hx : x < 2 ^ (16 * k)) (j : Nat) : dig (x + z * 2 ^ (16 * k)) j = if j < k then dig x j else dig z (j - k) := by
  unfold dig
  by_cases h : j < k
  · rw [if_pos h]
    have e : 2 ^ (16 * k) = 2 ^ (16 * j) * (65536 * 2 ^ (16 * (k - j - 1))) := by
      rw [show (65536 : Nat) = 2 ^ 16 from rfl, ← Nat.pow_add, ← Nat.pow_add]
      congr 1
      omega
    rw [e, Nat.mul_left_comm, Nat.add_mul_div_left _ _ (Nat.pow_pos (by decide)), Nat.mul_left_comm, Nat.add_mul_mod_self_left]
  · rw [if_neg h]
    have e : 2 ^ (16 * j) = 2 ^ (16 * k) * 2 ^ (16 * (j - k)) := by
      rw [← Nat.pow_add]
      congr 1
      omega
    rw [e, ← Nat.div_div_eq_div_mul, Nat.add_mul_div_right _ _ (Nat.pow_pos (by decide)), Nat.div_eq_of_lt hx, Nat.zero_add]
/-- V with its j-th digit changed to y -/
def setD (V j y : Nat) : Nat := V % 2 ^ (16 * j) + (y + V / 2 ^ (16 * (j + 1)) * 65536) * 2 ^ (16 * j)
theorem dig_set {V j y : Nat} (hy : y < 65536) (i : Nat) : dig (setD V j y) i = if i = j then y else dig V i := by
  unfold setD
  rw [dig_over mod_step]
  by_cases h : i < j
  · rw [if_pos h, if_neg (by omega)]
    have := dig_over (x := V % 2 ^ (16 * j)) (z := V / 2 ^ (16 * j)) (k := j) mod_step i
    rw [if_pos h, Nat.mod_add_div'] at this
    exact this.symm
  · rw [if_neg h]
    have hd := dig_over (x := y) (z := V / 2 ^ (16 * (j + 1))) (k := 1) hy (i - j)
    rw [show (2 : Nat) ^ (16 * 1) = 65536 from rfl] at hd
    rw [hd]
    by_cases c : i = j
    · rw [if_pos (by omega), if_pos c, c, Nat.sub_self]
      unfold dig
      rw [Nat.mul_zero, Nat.pow_zero, Nat.div_one, Nat.mod_eq_of_lt hy]
    · rw [if_neg (by omega), if_neg c]
      have := dig_over (x := V % 2 ^ (16 * (j + 1))) (z := V / 2 ^ (16 * (j + 1))) (k := j + 1) mod_step i
      rw [if_neg (by omega), Nat.mod_add_div'] at this
      rw [this, show i - j - 1 = i - (j + 1) from by omega]
theorem dtab_setD {m V j y : Nat} (hy : y < 65536) (hj : j < m) : (dtab m V).setIfInBounds j (.int .i64 (y : Nat)) = dtab m (setD V j y) := by
  unfold dtab
  rw [tab_set hj]
  exact tab_congr fun i _ => (dig_set hy i).symm
theorem setD_val (V j y : Nat) : setD V j y + dig V j * 2 ^ (16 * j) = V + y * 2 ^ (16 * j) := by
  unfold setD
  have h1 := Nat.mod_add_div V (2 ^ (16 * j))
  have h2 := dig_div V j
  rw [h2, Nat.mul_add] at h1
  rw [Nat.add_mul]
  have e1 : 2 ^ (16 * j) * (V / 2 ^ (16 * (j + 1)) * 65536) = V / 2 ^ (16 * (j + 1)) * 65536 * 2 ^ (16 * j) := Nat.mul_comm _ _
  have e2 : 2 ^ (16 * j) * dig V j = dig V j * 2 ^ (16 * j) := Nat.mul_comm _ _
  rw [e1, e2] at h1
  omega
/-- how far the product is: row i, digit k, what has been written, what is carried -/
def MulR (A B i k V c : Nat) : Prop := c < 65536 ∧ ((k ≤ 16 ∧ V + c * 2 ^ (16 * (i + k)) = A % 2 ^ (16 * i) * B + dig A i * (B % 2 ^ (16 * k)) * 2 ^ (16 * i)) ∨ (k = 17 ∧ c = 0 ∧ V = A % 2 ^ (16 * (i + 1)) * B))
theorem mulR_start (A B i : Nat) : MulR A B i 0 (A % 2 ^ (16 * i) * B) 0 := ⟨by decide, .inl ⟨by decide, by rw [Nat.mul_zero, Nat.pow_zero, Nat.mod_one, Nat.zero_mul, Nat.mul_zero, Nat.zero_mul]⟩⟩
theorem row_next (A B i : Nat) : A % 2 ^ (16 * i) * B + dig A i * B * 2 ^ (16 * i) = A % 2 ^ (16 * (i + 1)) * B := by
  rw [dig_split, Nat.add_mul, Nat.mul_right_comm]
theorem mulR_end {A B i V k c : Nat} (hB : B < 2 ^ (16 * 16)) (h : MulR A B i k V c) (hk : 16 ≤ k) (hc : c = 0) : V = A % 2 ^ (16 * (i + 1)) * B := by
  obtain ⟨_, ⟨h1, h2⟩ | ⟨_, _, h2⟩⟩ := h
  · obtain rfl : k = 16 := by omega
    rw [hc, Nat.zero_mul, Nat.add_zero, Nat.mod_eq_of_lt hB, row_next] at h2
    exact h2
  · exact h2
theorem prod_bd {x y : Nat} (hx : x < 65536) (hy : y < 65536) : x * y ≤ 65535 * 65535 := Nat.mul_le_mul (by omega) (by omega)
theorem powL (i k : Nat) : 2 ^ (16 * k) * 2 ^ (16 * i) = 2 ^ (16 * (i + k)) := by rw [← Nat.pow_add]; congr 1; omega
theorem powS (i : Nat) : 2 ^ (16 * (i + 1)) = 65536 * 2 ^ (16 * i) := by rw [show (65536 : Nat) = 2 ^ 16 from rfl, ← Nat.pow_add]; congr 1; omega
theorem mul_row (A B i k : Nat) : dig A i * (B % 2 ^ (16 * (k + 1))) * 2 ^ (16 * i) = dig A i * (B % 2 ^ (16 * k)) * 2 ^ (16 * i) + dig A i * dig B k * 2 ^ (16 * (i + k)) := by
  rw [dig_split B k, Nat.mul_add, Nat.add_mul, ← powL, Nat.mul_assoc (dig A i) (dig B k), Nat.mul_assoc (dig A i) (dig B k * 2 ^ (16 * k)), Nat.mul_assoc (dig B k)]
theorem mul_num {V W P d c p x L : Nat} (hs : W + d * P = V + x % 65536 * P) (hx : x = d + c + p) (h2 : V + c * P = L) : W + x / 65536 * (65536 * P) = L + p * P := by
  have ex : x % 65536 + x / 65536 * 65536 = x := by omega
  have e2 := congrArg (· * P) hx
  have e3 := congrArg (· * P) ex
  simp only [Nat.add_mul] at e2 e3
  rw [Nat.mul_assoc] at e3
  generalize x / 65536 * (65536 * P) = z at *
  generalize x % 65536 * P = z1 at *
  omega
theorem mul_bd {d c p x : Nat} (hd : d < 65536) (hc : c < 65536) (hp : p ≤ 65535 * 65535) (hx : x = d + c + p) : x / 65536 < 65536 := by omega
theorem mulR_step {A B i V k c : Nat} (h : MulR A B i k V c) (hk : k < 16) (x : Nat) (hx : x = dig V (i + k) + c + dig A i * dig B k) : MulR A B i (k + 1) (setD V (i + k) (x % 65536)) (x / 65536) := by
  obtain ⟨hc, ⟨h1, h2⟩ | ⟨h1, _⟩⟩ := h
  · refine ⟨mul_bd (dig_lt V (i + k)) hc (prod_bd (dig_lt A i) (dig_lt B k)) hx, .inl ⟨hk, ?_⟩⟩
    have := mul_num (setD_val V (i + k) (x % 65536)) hx h2
    rw [mul_row, show i + (k + 1) = (i + k) + 1 from rfl, powS, this]
    exact Nat.add_assoc _ _ _
  · exact absurd hk (by rw [h1]; decide)
theorem row_lt {A B i : Nat} (hB : B < 2 ^ (16 * 16)) : A % 2 ^ (16 * (i + 1)) * B < 65536 * 2 ^ (16 * (i + 16)) := by
  have e : 65536 * 2 ^ (16 * (i + 16)) = 2 ^ (16 * (i + 1)) * 2 ^ (16 * 16) := by
    rw [← powS, ← Nat.pow_add]
    all_goals (congr 1 <;> omega)
  rw [e]
  exact Nat.mul_lt_mul_of_lt_of_le mod_step (Nat.le_of_lt hB) (Nat.pow_pos (by decide))
theorem dig_le (V j : Nat) : dig V j * 2 ^ (16 * j) ≤ V := by
  have h3 := dig_div V j
  have h4 := Nat.div_mul_le_self V (2 ^ (16 * j))
  have h5 : dig V j * 2 ^ (16 * j) ≤ V / 2 ^ (16 * j) * 2 ^ (16 * j) := Nat.mul_le_mul_right _ (by rw [h3]; exact Nat.le_add_left _ _)
  exact Nat.le_trans h5 h4
theorem mulR_tail {A B i V c : Nat} (hB : B < 2 ^ (16 * 16)) (h : MulR A B i 16 V c) : dig V (i + 16) + c < 65536 ∧ MulR A B i 17 (setD V (i + 16) (dig V (i + 16) + c)) 0 := by
  obtain ⟨hc, ⟨h1, h2⟩ | ⟨h1, _⟩⟩ := h
  · rw [Nat.mod_eq_of_lt hB, row_next] at h2
    have hlt := row_lt (i := i) (A := A) hB
    have hle := dig_le V (i + 16)
    have hs := setD_val V (i + 16) (dig V (i + 16) + c)
    have hx : dig V (i + 16) + c < 65536 := by
      rw [← h2] at hlt
      generalize dig V (i + 16) = d at *
      generalize 2 ^ (16 * (i + 16)) = P at *
      rcases Nat.lt_or_ge (d + c) 65536 with g | g
      · exact g
      · have := Nat.mul_le_mul_right P g
        rw [Nat.add_mul] at this
        omega
    refine ⟨hx, by decide, .inr ⟨rfl, rfl, ?_⟩⟩
    rw [← h2]
    rw [Nat.add_mul] at hs
    generalize dig V (i + 16) * 2 ^ (16 * (i + 16)) = z at *
    omega
  · exact absurd h1 (by decide)

set_option maxRecDepth 100000 in
set_option maxHeartbeats 8000000 in
theorem refmul_any (ad bd : Addr) (ca cb A B : Nat) (w : World) (hA : A < 2 ^ (16 * 16)) (hB : B < 2 ^ (16 * 16)) (ra : Rd w (some ad) (dtab 16 A).toList) (rb : Rd w (some bd) (dtab 16 B).toList) :
    Calls Try.prog 58 #[.slice (some ad) 16 ca, .slice (some bd) 16 cb] w fun e w' => ∃ g, e = .returned (.slice (some ⟨g, 0, none⟩) 32 32) ∧ w.heap.size ≤ g ∧ Blk w' g 3 (dtab 32 (A * B)) ∧ Below w.heap.size w w' := by
  have hI := intsTy
  have oa : ad.block < w.heap.size := rd_lt ra (by rw [Array.length_toList, dtab_size]; omega)
  have ob : bd.block < w.heap.size := rd_lt rb (by rw [Array.length_toList, dtab_size]; omega)
  have HCA := Lib.hid (fun i (h : i < 16) => @dtab_get 16 A i h)
  have HCB := Lib.hid (fun i (h : i < 16) => @dtab_get 16 B i h)
  have HLA := Lib.hid (dig_lt A)
  have HLB := Lib.hid (dig_lt B)
  have HS := Lib.hid dtab_size
  have H0 := Lib.hid ((rep_dtab 32).trans (congrArg (dtab 32) (show 0 = A % 2 ^ (16 * 0) * B from by rw [Nat.mul_zero, Nat.pow_zero, Nat.mod_one, Nat.zero_mul])))
  have HE := Lib.hid (show A % 2 ^ (16 * 16) * B = A * B from by rw [Nat.mod_eq_of_lt hA])
  have HBB := Lib.hid hB
  have HST := Lib.hid (fun i => mulR_start A B i)
  clear hA hB
  generalize dtab 16 A = da at *
  generalize dtab 16 B = db at *
  go_enter Try.func58, Try.ntmps58
  go_wp2_with (first
    | ((with_reducible refine gd_make ?_); refine wpList_make_ints rfl _ _ 48 rfl hI rfl (n := 32) rfl rfl (by omega) ?_; intro w2 hx2 hb2 hl2)
    | fail)
  rw [H0.out] at hx2
  have ya := ra.ext hb2
  have yb := rb.ext hb2
  clear ra rb hl2
  go_loopw [6] (fun i wr => ∃ k : Nat, k ≤ 16 ∧ i = .int .i64 k ∧ Blk wr w.heap.size 3 (dtab 32 (A % 2 ^ (16 * k) * B)) ∧ Rd wr (some ad) da.toList ∧ Rd wr (some bd) db.toList ∧ Below w.heap.size w wr) (fun i _ => 16 - (intOf i).toNat)
  case atStart => exact ⟨0, by omega, rfl, hx2, ya, yb, hb2⟩
  case round =>
    clear hx2 ya yb hb2
    obtain ⟨i, hi, rfl, hx, ya, yb, hB⟩ := hrel
    by_cases hlt : i < 16
    · have k0 : (0 : Int) ≤ (i : Int) := by omega
      have k1 : (i : Int) < 16 := by omega
      have hla := HLA.out i
      have HM := Lib.hid (HST.out i)
      go_wp2
      obtain ⟨wo, rfl⟩ : ∃ wo : World, wo = wr := ⟨_, rfl⟩
      go_loopw [7, 8, 9] (fun c j _ ws => ∃ k V C : Nat, k ≤ 17 ∧ j = .int .i64 k ∧ c = .int .i64 C ∧ Hid (MulR A B i k V C) ∧ Blk ws w.heap.size 3 (dtab 32 V) ∧ Rd ws (some ad) da.toList ∧ Rd ws (some bd) db.toList ∧ Below w.heap.size w ws) (fun _ j _ _ => 17 - (intOf j).toNat)
      case atStart => exact ⟨0, _, 0, by omega, rfl, rfl, HM, hx, ya, yb, hB⟩
      case round =>
        clear hx ya yb hB HM
        obtain ⟨k, V, c, hk, rfl, rfl, HM, hx, ya, yb, hB⟩ := hrel
        have hca := rd_at ya (HCA.out i hlt)
        have j0 : (0 : Int) ≤ (k : Int) := by omega
        have hc := HM.out.1
        by_cases h16 : k < 16
        · have j1 : (k : Int) < 16 := by omega
          have hcb := rd_at yb (HCB.out k h16)
          have hcv := hx.cellv (dtab_get V (show i + k < 32 by omega))
          have hlb := HLB.out k
          have hlv := dig_lt V (i + k)
          have HM2 := Lib.hid (mulR_step HM.out h16 _ rfl)
          have HSV := Lib.hid (HS.out 32 V)
          have HSD := Lib.hid (fun y hy => @dtab_setD 32 V (i + k) y hy (by omega))
          have hp := prod_bd hla hlb
          have qi : (i : Int) + (k : Int) = ((i + k : Nat) : Int) := by omega
          obtain ⟨j, hj⟩ : ∃ j, j = i + k := ⟨_, rfl⟩
          have hj32 : j < 32 := by omega
          have jj0 : (0 : Int) ≤ (j : Int) := by omega
          have jj1 : (j : Int) < 32 := by omega
          rw [← hj] at hcv hlv HM2 HSD qi
          clear hj
          generalize dig A i = x at *
          generalize dig B k = y at *
          generalize dig V j = d at *
          have qp : (x : Int) * (y : Int) = ((x * y : Nat) : Int) := by rw [Int.natCast_mul]
          generalize x * y = p at *
          have r1 : IntKind.i64.wrap (p : Int) = (p : Int) := IntWalk.i64_in _ (by omega)
          have r2 : IntKind.i64.wrap ((d : Int) + (c : Int) + (p : Int)) = (d : Int) + (c : Int) + (p : Int) := IntWalk.i64_in _ (by omega)
          go_wp2
          go_quiet (fail)
          have HA := Lib.hid ((and65535 ((d : Int) + (c : Int) + (p : Int))).trans (show ((d : Int) + (c : Int) + (p : Int)) % 65536 = (((d + c + p) % 65536 : Nat) : Int) from by omega))
          have HD := Lib.hid (show ((d : Int) + (c : Int) + (p : Int)) / 65536 = (((d + c + p) / 65536 : Nat) : Int) from by omega)
          clear r1 r2 qp
          rename_i nq
          have hxn := hx.drewN nq
          have yan := Rd_drewN ya nq
          have ybn := Rd_drewN yb nq
          have hBn := below_drewN hB nq
          generalize wr.drewN nq = wn at *
          clear hx ya yb hB hca hcb hcv
          simp only [Exit.then]
          go_simp
          go_wp2_with (first
            | ((with_reducible refine gd_store ?_); refine wpList_store_cell rfl 3 (.tmp 61) (.tmp 60) rfl hxn (i := j) (v := .int .i64 ((d + c + p) % 65536 : Nat)) (by rw [HSV.out]; exact hj32) (by kernel_rfl) rfl rfl (congrArg (Value.int .i64) HA.out) ?_; intro w5 hx5 hg5)
            | fail)
          rw [HSD.out _ (Nat.mod_lt _ (by decide))] at hx5
          have ya5 := rd_grown yan hg5 (by omega)
          have yb5 := rd_grown ybn hg5 (by omega)
          have hB5 := below_blk hBn hBn.size hg5 (by omega)
          go_roundw
          case rel => exact ⟨k + 1, _, _, by omega, by go_num, congrArg (Value.int .i64) HD.out, HM2, hx5, ya5, yb5, hB5⟩
          case measure => (simp [intOf]; try omega)
        · have j1 : decide ((k : Int) < 16) = false := decide_eq_false (by omega)
          by_cases hc0 : c = 0
          · have HV := Lib.hid (mulR_end HBB.out HM.out (by omega) hc0)
            subst hc0
            rw [HV.out] at hx
            go_wp2
            go_roundw
            case rel => exact ⟨i + 1, by omega, by go_num, hx, ya, yb, hB⟩
            case measure => (simp [intOf]; try omega)
          · obtain rfl : k = 16 := by
              rcases HM.out.2 with h | h
              · omega
              · exact absurd h.2.1 hc0
            have hcv := hx.cellv (dtab_get V (show i + 16 < 32 by omega))
            have HT := Lib.hid (mulR_tail HBB.out HM.out)
            have hlv := dig_lt V (i + 16)
            have HSV := Lib.hid (HS.out 32 V)
            have HSD := Lib.hid (fun y hy => @dtab_setD 32 V (i + 16) y hy (by omega))
            have qi : (i : Int) + ((16 : Nat) : Int) = ((i + 16 : Nat) : Int) := by omega
            have qi' : (i : Int) + 16 = ((i + 16 : Nat) : Int) := by omega
            obtain ⟨j, hj⟩ : ∃ j, j = i + 16 := ⟨_, rfl⟩
            have hj32 : j < 32 := by omega
            have jj0 : (0 : Int) ≤ (j : Int) := by omega
            have jj1 : (j : Int) < 32 := by omega
            rw [← hj] at hcv hlv HT HSD qi qi'
            clear hj
            generalize dig V j = d at *
            have c1 : (0 : Int) < (c : Int) := by omega
            have HA := Lib.hid ((and65535 ((d : Int) + (c : Int))).trans (show ((d : Int) + (c : Int)) % 65536 = ((d + c : Nat) : Int) from by have := HT.out.1; omega))
            have HD := Lib.hid (show ((d : Int) + (c : Int)) / 65536 = ((0 : Nat) : Int) from by have := HT.out.1; omega)
            go_wp2_with (first
              | ((with_reducible refine gd_store ?_); refine wpList_store_cell rfl 3 (.tmp 61) (.tmp 60) rfl hx (i := j) (v := .int .i64 (d + c : Nat)) (by rw [HSV.out]; exact hj32) (by kernel_rfl) rfl rfl (congrArg (Value.int .i64) HA.out) ?_; intro w5 hx5 hg5)
              | fail)
            rw [HSD.out _ HT.out.1] at hx5
            have ya5 := rd_grown ya hg5 (by omega)
            have yb5 := rd_grown yb hg5 (by omega)
            have hB5 := below_blk hB hB.size hg5 (by omega)
            go_roundw
            case rel => first | exact ⟨17, _, 0, by omega, by go_num, congrArg (Value.int .i64) HD.out, Lib.hid HT.out.2, hx5, ya5, yb5, hB5⟩ | ((repeat apply Exists.intro); exact ⟨⟨17, _, 0, by omega, by go_num, congrArg (Value.int .i64) HD.out, Lib.hid HT.out.2, hx5, ya5, yb5, hB5⟩, rfl⟩)
            case measure => (simp [intOf]; try omega)
    · obtain rfl : i = 16 := by omega
      rw [HE.out] at hx
      go_wp2
      go_ret
      exact ⟨_, rfl, Nat.le_refl _, hx, hB⟩
end Go.Mun
