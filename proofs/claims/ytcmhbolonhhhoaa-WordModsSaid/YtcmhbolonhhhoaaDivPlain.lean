/- The plain law of division bit by bit. Over no program. -/
import Derived.Test.YtcmhbolonhhhoaaShiftPlain
import Derived.Test.YtcmhbolonhhhoaaBitLen
namespace Go.Mun
open Go Go.RowKit

theorem limb_orr (a b j : Nat) : limb (a ||| b) j = limb a j ||| limb b j := by
  unfold limb
  rw [← Nat.shiftRight_eq_div_pow, ← Nat.shiftRight_eq_div_pow, ← Nat.shiftRight_eq_div_pow, Nat.shiftRight_or_distrib, Nat.or_mod_two_pow]
theorem limb_pow (k j : Nat) : limb (2 ^ k) j = if j = k / 64 then 2 ^ (k % 64) else 0 := by
  unfold limb
  by_cases h : j = k / 64
  · rw [if_pos h, Nat.pow_div (by omega) (by decide), show k - 64 * j = k % 64 from by omega]
    exact Nat.mod_eq_of_lt (Nat.pow_lt_pow_right (by decide) (by omega))
  · rw [if_neg h]
    rcases Nat.lt_or_gt_of_ne h with c | c
    · rw [Nat.pow_div (by omega) (by decide)]
      exact Nat.mod_eq_zero_of_dvd (Nat.pow_dvd_pow 2 (by omega))
    · rw [Nat.div_eq_of_lt (Nat.pow_lt_pow_right (by decide) (by omega)), Nat.zero_mod]
/-- what stands where no bit was, put there -/
theorem limb_setbit (y k j : Nat) : limb (y * 2 ^ (k + 1) + 2 ^ k) j = if j = k / 64 then limb (y * 2 ^ (k + 1)) j ||| 2 ^ (k % 64) else limb (y * 2 ^ (k + 1)) j := by
  rw [← or_side _ _ _ (Nat.pow_lt_pow_right (by decide) (Nat.lt_succ_self k)), limb_orr, limb_pow]
  by_cases h : j = k / 64
  · rw [if_pos h, if_pos h]
  · rw [if_neg h, if_neg h, Nat.or_zero]
theorem limb_bit0 (y b j : Nat) (hb : b < 2) : limb (y * 2 + b) j = if j = 0 then limb (y * 2) j ||| b else limb (y * 2) j := by
  have e := or_side y b 1 (by omega)
  rw [Nat.pow_one] at e
  rw [← e, limb_orr]
  by_cases h : j = 0
  · rw [if_pos h, h, show limb b 0 = b from by unfold limb; simp; omega]
  · rw [if_neg h, show limb b j = 0 from limb_high (k := 1) (by omega) (by omega), Nat.or_zero]
/-- a bit by its limb -/
theorem limb_bit (n k : Nat) : limb n (k / 64) / 2 ^ (k % 64) % 2 = n / 2 ^ k % 2 := by
  unfold limb
  have hr : k % 64 < 64 := Nat.mod_lt _ (by decide)
  have e1 : n / 2 ^ k = n / 2 ^ (64 * (k / 64)) / 2 ^ (k % 64) := by rw [Nat.div_div_eq_div_mul, ← Nat.pow_add]; congr 2; omega
  rw [e1]
  generalize n / 2 ^ (64 * (k / 64)) = m
  generalize k % 64 = r at *
  have h64 : (2 : Nat) ^ 64 = 2 ^ r * (2 ^ (63 - r) * 2) := by rw [← Nat.pow_succ, ← Nat.pow_add]; congr 1; omega
  have hm := Nat.div_add_mod m (2 ^ 64)
  have e : m / 2 ^ r = m % 2 ^ 64 / 2 ^ r + 2 ^ (63 - r) * 2 * (m / 2 ^ 64) := by
    conv => lhs; rw [← hm]
    rw [h64, Nat.mul_assoc, Nat.add_comm, Nat.add_mul_div_left _ _ (Nat.pow_pos (by decide))]
  rw [e, Nat.mul_right_comm, Nat.add_mul_mod_self_right]

/-- the rest and the quotient of the bits from the i-th on -/
def remB (n m i : Nat) : Nat := n / 2 ^ i % m
def quoB (n m i : Nat) : Nat := n / 2 ^ i / m * 2 ^ i % 2 ^ 256
def stepB (n m k : Nat) : Nat := 2 * remB n m (k + 1) + n / 2 ^ k % 2
theorem half_pow (n k : Nat) : n / 2 ^ k = 2 * (n / 2 ^ (k + 1)) + n / 2 ^ k % 2 := by
  rw [Nat.pow_succ, ← Nat.div_div_eq_div_mul]
  omega
theorem stepB_lt {n m k : Nat} (hm : 0 < m) : stepB n m k < 2 * m := by
  unfold stepB remB
  have := Nat.mod_lt (n / 2 ^ (k + 1)) hm
  omega
theorem step_div {n m k : Nat} : n / 2 ^ k = m * (2 * (n / 2 ^ (k + 1) / m)) + stepB n m k := by
  have h := half_pow n k
  have h2 := Nat.div_add_mod (n / 2 ^ (k + 1)) m
  unfold stepB remB
  rw [Nat.mul_left_comm]
  omega
theorem step_less {n m k : Nat} (h : stepB n m k < m) : remB n m k = stepB n m k ∧ n / 2 ^ k / m = 2 * (n / 2 ^ (k + 1) / m) := by
  have e := @step_div n m k
  have hm : 0 < m := by omega
  refine ⟨?_, ?_⟩
  · unfold remB
    rw [e, Nat.mul_add_mod, Nat.mod_eq_of_lt h]
  · rw [e, Nat.mul_add_div hm, Nat.div_eq_of_lt h, Nat.add_zero]
theorem step_more {n m k : Nat} (hm : 0 < m) (h : m ≤ stepB n m k) : remB n m k = stepB n m k - m ∧ n / 2 ^ k / m = 2 * (n / 2 ^ (k + 1) / m) + 1 := by
  have e := @step_div n m k
  have hl := @stepB_lt n m k hm
  obtain ⟨t, ht⟩ : ∃ t, stepB n m k = m + t := ⟨stepB n m k - m, by omega⟩
  have htl : t < m := by omega
  rw [ht, ← Nat.add_assoc, ← Nat.mul_succ] at e
  refine ⟨?_, ?_⟩
  · unfold remB
    rw [ht, e, Nat.mul_add_mod, Nat.mod_eq_of_lt htl]
    omega
  · rw [e, Nat.mul_add_div hm, Nat.div_eq_of_lt htl, Nat.add_zero]
theorem quoB_form {n m k : Nat} (hk : k < 256) : ∃ y, quoB n m (k + 1) = y * 2 ^ (k + 1) ∧ y * 2 ^ (k + 1) + 2 ^ k < 2 ^ 256 := by
  have e : (2 : Nat) ^ 256 = 2 ^ (256 - (k + 1)) * 2 ^ (k + 1) := by rw [← Nat.pow_add]; congr 1; omega
  refine ⟨n / 2 ^ (k + 1) / m % 2 ^ (256 - (k + 1)), ?_, ?_⟩
  · unfold quoB
    rw [e, Nat.mul_mod_mul_right]
  · have hl : n / 2 ^ (k + 1) / m % 2 ^ (256 - (k + 1)) < 2 ^ (256 - (k + 1)) := Nat.mod_lt _ (Nat.pow_pos (by decide))
    generalize n / 2 ^ (k + 1) / m % 2 ^ (256 - (k + 1)) = y at *
    have h1 : (y + 1) * 2 ^ (k + 1) ≤ 2 ^ (256 - (k + 1)) * 2 ^ (k + 1) := Nat.mul_le_mul_right _ hl
    rw [← e, Nat.add_mul] at h1
    have h2 : (2 : Nat) ^ (k + 1) = 2 * 2 ^ k := by rw [Nat.pow_succ, Nat.mul_comm]
    have h3 : 0 < (2 : Nat) ^ k := Nat.pow_pos (by decide)
    omega
theorem quoB_same {n m k : Nat} (h : n / 2 ^ k / m = 2 * (n / 2 ^ (k + 1) / m)) : quoB n m k = quoB n m (k + 1) := by
  unfold quoB
  rw [h, Nat.pow_succ, Nat.mul_comm 2, Nat.mul_assoc, Nat.mul_comm 2 (2 ^ k)]
theorem quoB_more {n m k : Nat} (hk : k < 256) (h : n / 2 ^ k / m = 2 * (n / 2 ^ (k + 1) / m) + 1) : quoB n m k = quoB n m (k + 1) + 2 ^ k := by
  obtain ⟨y, hy, hl⟩ := @quoB_form n m k hk
  have e : n / 2 ^ k / m * 2 ^ k = n / 2 ^ (k + 1) / m * 2 ^ (k + 1) + 2 ^ k := by
    rw [h, Nat.add_mul, Nat.one_mul, Nat.pow_succ, Nat.mul_comm 2, Nat.mul_assoc, Nat.mul_comm 2 (2 ^ k)]
  have e2 : quoB n m k = (quoB n m (k + 1) + 2 ^ k) % 2 ^ 256 := by
    unfold quoB
    rw [e, Nat.mod_add_mod]
  rw [e2, hy, Nat.mod_eq_of_lt hl]
theorem quoB_high {n m k : Nat} (hk : 256 ≤ k) : quoB n m k = 0 := by
  unfold quoB
  exact Nat.mod_eq_zero_of_dvd (Nat.dvd_trans (Nat.pow_dvd_pow 2 hk) (Nat.dvd_mul_left _ _))
theorem quoB_bit {n m k : Nat} (hk : k < 256) (j : Nat) : limb (quoB n m (k + 1) + 2 ^ k) j = if j = k / 64 then limb (quoB n m (k + 1)) j ||| 2 ^ (k % 64) else limb (quoB n m (k + 1)) j := by
  obtain ⟨y, hy, _⟩ := @quoB_form n m k hk
  rw [hy]
  exact limb_setbit y k j
theorem remB_zero (n m : Nat) : remB n m 0 = n % m := by simp [remB]
theorem quoB_zero (n m : Nat) : quoB n m 0 = n / m % 2 ^ 256 := by simp [quoB]
theorem remB_top {n m i : Nat} (h : n < 2 ^ i) : remB n m i = 0 := by unfold remB; rw [Nat.div_eq_of_lt h, Nat.zero_mod]
theorem quoB_top {n m i : Nat} (h : n < 2 ^ i) : quoB n m i = 0 := by unfold quoB; rw [Nat.div_eq_of_lt h, Nat.zero_div, Nat.zero_mul, Nat.zero_mod]
theorem remB_lt {n m i : Nat} (hm : 0 < m) : remB n m i < m := Nat.mod_lt _ hm
/-- twice the rest and the next bit, as the limbs have it -/
theorem stepB_mod {n m k : Nat} : stepB n m k % 2 ^ 256 = remB n m (k + 1) * 2 % 2 ^ 256 + n / 2 ^ k % 2 := by
  unfold stepB
  generalize remB n m (k + 1) = r
  omega
theorem stepB_limb {n m k : Nat} (j : Nat) : limb (stepB n m k % 2 ^ 256) j = if j = 0 then limb (remB n m (k + 1) * 2 % 2 ^ 256) j ||| n / 2 ^ k % 2 else limb (remB n m (k + 1) * 2 % 2 ^ 256) j := by
  rw [stepB_mod]
  have e : remB n m (k + 1) * 2 % 2 ^ 256 = remB n m (k + 1) % 2 ^ 255 * 2 := by
    rw [show (2 : Nat) ^ 256 = 2 ^ 255 * 2 from by decide, Nat.mul_mod_mul_right]
  rw [e]
  exact limb_bit0 _ _ _ (Nat.mod_lt _ (by decide))
theorem stepB_over {n m k : Nat} (hm : m < 2 ^ 256) (h : 2 ^ 255 ≤ remB n m (k + 1)) : m ≤ stepB n m k := by unfold stepB; omega
theorem stepB_in {n m k : Nat} (h : ¬ 2 ^ 255 ≤ remB n m (k + 1)) : stepB n m k % 2 ^ 256 = stepB n m k := by unfold stepB; omega
theorem stepB_sub {n m k : Nat} (hm0 : 0 < m) (hm : m < 2 ^ 256) (h : m ≤ stepB n m k) : (stepB n m k % 2 ^ 256 + 2 ^ 256 - m) % 2 ^ 256 = stepB n m k - m := by
  have := @stepB_lt n m k hm0
  generalize stepB n m k = t at *
  omega
theorem u64_or_pow (x r : Nat) (hx : x < 2 ^ 64) (hr : r < 64) : bits .or .u64 (x : Int) (IntKind.u64.wrap (2 ^ r)) = ((x ||| 2 ^ r : Nat) : Int) := by
  have h2 : (2 : Nat) ^ r < 2 ^ 64 := Nat.pow_lt_pow_right (by decide) hr
  have e : IntKind.u64.wrap (2 ^ r) = ((2 ^ r : Nat) : Int) := by
    have e1 : (2 : Int) ^ r = ((2 ^ r : Nat) : Int) := by rw [Int.natCast_pow]; rfl
    rw [e1]
    generalize (2 : Nat) ^ r = y at *
    show (y : Int) % 18446744073709551616 = _
    omega
  rw [e, u64_or_nat _ _ hx h2]
end Go.Mun
