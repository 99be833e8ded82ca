/- The plain law of shifts, limb by limb. Over no program. -/
import Derived.Test.YtcmhbolonhhhoaaTab
import Derived.Laws.BitsAllLaws
namespace Go.Mun
open Go Go.RowKit

theorem u64_shl_wrap (x s : Nat) : IntKind.u64.wrap ((x : Int) * 2 ^ s) = ((x * 2 ^ s % 2 ^ 64 : Nat) : Int) := by
  have e : (x : Int) * 2 ^ s = ((x * 2 ^ s : Nat) : Int) := by rw [Int.natCast_mul, Int.natCast_pow]; rfl
  rw [e]
  generalize x * 2 ^ s = y
  show (y : Int) % 18446744073709551616 = _
  omega
theorem or_add_low (a b k : Nat) (hb : b < 2 ^ k) : b ||| a * 2 ^ k = b + a * 2 ^ k := by
  rw [Nat.or_comm, or_side _ _ _ hb, Nat.add_comm]
theorem shl_mod (x t : Nat) (h : t ≤ 64) : x * 2 ^ t % 2 ^ 64 = x % 2 ^ (64 - t) * 2 ^ t := by
  have e : (2 : Nat) ^ 64 = 2 ^ (64 - t) * 2 ^ t := by rw [← Nat.pow_add]; congr 1; omega
  rw [e, Nat.mul_mod_mul_right]
theorem shr_lt {x r : Nat} (hx : x < 2 ^ 64) (hr : r ≤ 64) : x / 2 ^ r < 2 ^ (64 - r) := by
  rw [Nat.div_lt_iff_lt_mul (Nat.pow_pos (by decide)), ← Nat.pow_add, show 64 - r + r = 64 from by omega]
  exact hx
/-- a limb of a number shifted down -/
theorem shr_limb (n q r i : Nat) (hr : r < 64) : limb (n / 2 ^ (64 * q + r)) i = limb n (i + q) / 2 ^ r ||| (if r = 0 then 0 else limb n (i + q + 1) * 2 ^ (64 - r) % 2 ^ 64) := by
  have e1 : limb (n / 2 ^ (64 * q + r)) i = n / 2 ^ (64 * (i + q)) / 2 ^ r % 2 ^ 64 := by
    unfold limb
    rw [Nat.div_div_eq_div_mul, Nat.div_div_eq_div_mul, ← Nat.pow_add, ← Nat.pow_add]
    congr 3; omega
  have e2 : limb n (i + q + 1) = n / 2 ^ (64 * (i + q)) / 2 ^ 64 % 2 ^ 64 := by
    unfold limb
    rw [Nat.div_div_eq_div_mul, ← Nat.pow_add]
    congr 3
  have e3 : limb n (i + q) = n / 2 ^ (64 * (i + q)) % 2 ^ 64 := rfl
  rw [e1, e2, e3]
  generalize n / 2 ^ (64 * (i + q)) = m
  by_cases h0 : r = 0
  · subst h0; simp
  · rw [if_neg h0, shl_mod _ _ (by omega)]
    have hl : m % 2 ^ 64 / 2 ^ r < 2 ^ (64 - r) := shr_lt (Nat.mod_lt _ (by decide)) (by omega)
    rw [or_add_low _ _ _ hl]
    have hm := Nat.div_add_mod m (2 ^ 64)
    have h64 : (2 : Nat) ^ 64 = 2 ^ r * 2 ^ (64 - r) := by rw [← Nat.pow_add]; congr 1; omega
    have e : m / 2 ^ r = m % 2 ^ 64 / 2 ^ r + m / 2 ^ 64 * 2 ^ (64 - r) := by
      conv => lhs; rw [← hm]
      rw [h64, Nat.mul_assoc, Nat.add_comm, Nat.add_mul_div_left _ _ (Nat.pow_pos (by decide)), Nat.mul_comm (2 ^ (64 - r))]
    rw [e, show 64 - (64 - r) = r from by omega]
    have h65 : (2 : Nat) ^ 64 = 2 ^ (64 - r) * 2 ^ r := by rw [Nat.mul_comm]; exact h64
    generalize m % 2 ^ 64 / 2 ^ r = l at *
    generalize m / 2 ^ 64 = g at *
    conv => lhs; rw [h65]
    rw [Nat.mod_mul, Nat.add_mul_mod_self_right, Nat.mod_eq_of_lt hl, Nat.add_mul_div_right _ _ (Nat.pow_pos (by decide)), Nat.div_eq_of_lt hl, Nat.zero_add]
    rw [Nat.mod_mod_of_dvd _ (Nat.pow_dvd_pow 2 (by omega)), Nat.mul_comm]
theorem shr_high {n q r i : Nat} (hn : n < 2 ^ 256) (h : 4 ≤ i + q) : limb (n / 2 ^ (64 * q + r)) i = 0 := by
  by_cases hq : q ≤ 4
  · refine limb_high (k := 4 - q) ?_ (by omega)
    rw [Nat.div_lt_iff_lt_mul (Nat.pow_pos (by decide)), ← Nat.pow_add]
    exact Nat.lt_of_lt_of_le hn (Nat.pow_le_pow_right (by decide) (by omega))
  · rw [Nat.div_eq_of_lt (Nat.lt_of_lt_of_le hn (Nat.pow_le_pow_right (by decide) (by omega)))]
    simp [limb]
/-- a limb of a number shifted up -/
theorem shl_limb (n q r i : Nat) (hr : r < 64) : limb (n * 2 ^ (64 * q + r)) i = if i < q then 0 else (limb n (i - q) * 2 ^ r % 2 ^ 64 ||| (if i < q + 1 then 0 else if r = 0 then 0 else limb n (i - q - 1) / 2 ^ (64 - r))) := by
  have hp : ∀ k, 0 < 2 ^ k := fun k => Nat.pow_pos (by decide)
  by_cases h1 : i < q
  · rw [if_pos h1]
    unfold limb
    have e : n * 2 ^ (64 * q + r) = n * 2 ^ (64 * (q - i - 1) + r) * 2 ^ 64 * 2 ^ (64 * i) := by rw [Nat.mul_assoc, Nat.mul_assoc, ← Nat.pow_add, ← Nat.pow_add]; congr 2; omega
    rw [e, Nat.mul_div_cancel _ (hp _), Nat.mul_mod_left]
  · rw [if_neg h1]
    obtain ⟨j, rfl⟩ : ∃ j, i = q + j := ⟨i - q, by omega⟩
    rw [show q + j - q = j from by omega]
    have e : limb (n * 2 ^ (64 * q + r)) (q + j) = n * 2 ^ r / 2 ^ (64 * j) % 2 ^ 64 := by
      unfold limb
      rw [show n * 2 ^ (64 * q + r) = n * 2 ^ r * 2 ^ (64 * q) from by rw [Nat.mul_assoc, ← Nat.pow_add]; congr 2; omega,
        show 64 * (q + j) = 64 * j + 64 * q from by omega, Nat.pow_add, Nat.mul_div_mul_right _ _ (hp _)]
    rw [e]
    cases j with
    | zero =>
      rw [if_pos (by omega)]
      simp [limb, Nat.mod_mul_mod]
    | succ j =>
      rw [if_neg (by omega), show j + 1 - 1 = j from rfl]
      have e2 : limb n (j + 1) = n / 2 ^ (64 * j) / 2 ^ 64 % 2 ^ 64 := by
        unfold limb
        rw [Nat.div_div_eq_div_mul, ← Nat.pow_add]
        congr 3
      have e4 : n * 2 ^ r / 2 ^ (64 * (j + 1)) = n / 2 ^ (64 * j) * 2 ^ r / 2 ^ 64 := by
        rw [show 64 * (j + 1) = 64 * j + 64 from by omega, Nat.pow_add, ← Nat.div_div_eq_div_mul]
        have hd := Nat.div_add_mod n (2 ^ (64 * j))
        have hlt : n % 2 ^ (64 * j) < 2 ^ (64 * j) := Nat.mod_lt _ (hp _)
        generalize n % 2 ^ (64 * j) = z at *
        conv => lhs; rw [← hd]
        rw [Nat.add_mul, Nat.mul_assoc, Nat.add_comm, Nat.add_mul_div_left _ _ (hp _)]
        have hz : z * 2 ^ r / 2 ^ (64 * j) < 2 ^ r := by
          rw [Nat.div_lt_iff_lt_mul (hp _), Nat.mul_comm (2 ^ r)]
          exact Nat.mul_lt_mul_of_pos_right hlt (hp _)
        have h64 : (2 : Nat) ^ 64 = 2 ^ r * 2 ^ (64 - r) := by rw [← Nat.pow_add]; congr 1; omega
        rw [h64, ← Nat.div_div_eq_div_mul, ← Nat.div_div_eq_div_mul, Nat.add_mul_div_right _ _ (hp _), Nat.div_eq_of_lt hz, Nat.zero_add, Nat.mul_div_cancel _ (hp _)]
      rw [e4, e2, show limb n j = n / 2 ^ (64 * j) % 2 ^ 64 from rfl]
      generalize n / 2 ^ (64 * j) = m
      by_cases h0 : r = 0
      · subst h0; simp
      · rw [if_neg h0, shl_mod _ _ (by omega)]
        have hl : m % 2 ^ 64 / 2 ^ (64 - r) < 2 ^ r := by
          have := shr_lt (x := m % 2 ^ 64) (r := 64 - r) (Nat.mod_lt _ (by decide)) (by omega)
          rwa [show 64 - (64 - r) = r from by omega] at this
        rw [or_side _ _ _ hl]
        have hm := Nat.div_add_mod m (2 ^ 64)
        have h64 : (2 : Nat) ^ 64 = 2 ^ r * 2 ^ (64 - r) := by rw [← Nat.pow_add]; congr 1; omega
        have h65 : (2 : Nat) ^ 64 = 2 ^ (64 - r) * 2 ^ r := by rw [Nat.mul_comm]; exact h64
        have ed : m * 2 ^ r / 2 ^ 64 = m / 2 ^ (64 - r) := by rw [h65, Nat.mul_div_mul_right _ _ (hp _)]
        rw [ed]
        have e : m / 2 ^ (64 - r) = m % 2 ^ 64 / 2 ^ (64 - r) + m / 2 ^ 64 * 2 ^ r := by
          conv => lhs; rw [← hm]
          rw [h65, Nat.mul_assoc, Nat.add_comm, Nat.add_mul_div_left _ _ (hp _), Nat.mul_comm (2 ^ r)]
        rw [e]
        generalize m % 2 ^ 64 / 2 ^ (64 - r) = l at *
        generalize m / 2 ^ 64 = g at *
        conv => lhs; rw [h64]
        rw [Nat.mod_mul, Nat.add_mul_mod_self_right, Nat.mod_eq_of_lt hl, Nat.add_mul_div_right _ _ (hp _), Nat.div_eq_of_lt hl, Nat.zero_add]
        rw [Nat.mod_mod_of_dvd _ (Nat.pow_dvd_pow 2 (by omega)), Nat.mul_comm, Nat.add_comm]
end Go.Mun
