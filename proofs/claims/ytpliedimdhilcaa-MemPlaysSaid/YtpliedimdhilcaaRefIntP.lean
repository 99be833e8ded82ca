/- Plain laws of a word's bytes and bits. -/
import Derived.Test.YtpliedimdhilcaaWordBase
import Derived.Test.YtpliedimdhilcaaBitLen
namespace Go.Mun
open Go Go.RowKit Go.Proofs

theorem wcells_at (a : Nat) {i : Nat} (h : i < 32) : (wcells a)[i]? = some (.int .u8 (lowB a (31 - i) : Nat)) := wcells_get a h
theorem lowB_top {a n : Nat} (ha : a < 2 ^ (8 * (n + 1))) : lowB a n = a / 2 ^ (8 * n) := by
  unfold lowB
  refine Nat.mod_eq_of_lt ((Nat.div_lt_iff_lt_mul (Nat.pow_pos (by decide))).2 ?_)
  rw [show 8 * (n + 1) = 8 + 8 * n from by omega, Nat.pow_add] at ha
  exact ha
theorem lt_of_lowB {a n : Nat} (ha : a < 2 ^ (8 * (n + 1))) (h : lowB a n = 0) : a < 2 ^ (8 * n) := by
  rw [lowB_top ha] at h
  rcases Nat.lt_or_ge a (2 ^ (8 * n)) with g | g
  · exact g
  · have := Nat.div_pos g (Nat.pow_pos (by decide))
    omega
theorem ge_of_lowB {a n : Nat} (ha : a < 2 ^ (8 * (n + 1))) (h : lowB a n ≠ 0) : 2 ^ (8 * n) ≤ a := by
  rw [lowB_top ha] at h
  rcases Nat.lt_or_ge a (2 ^ (8 * n)) with g | g
  · rw [Nat.div_eq_of_lt g] at h
    omega
  · exact g

/-! ### how long -/
theorem cast_pow2' (n : Nat) : ((2 ^ n : Nat) : Int) = 2 ^ n := by push_cast; rfl
theorem bit_byte (a i : Nat) (h : i < 256) : lowB a (31 - i / 8) / 2 ^ (7 - i % 8) % 2 = a / 2 ^ (255 - i) % 2 := by
  unfold lowB
  have e : 2 ^ (255 - i) = 2 ^ (8 * (31 - i / 8)) * 2 ^ (7 - i % 8) := by rw [← Nat.pow_add]; congr 1; omega
  rw [e, ← Nat.div_div_eq_div_mul]
  generalize a / 2 ^ (8 * (31 - i / 8)) = q
  have hr : 7 - i % 8 ≤ 7 := by omega
  generalize 7 - i % 8 = r at *
  have e2 : (256 : Nat) = 2 ^ r * (2 * 2 ^ (7 - r)) := by rw [show (256 : Nat) = 2 ^ 8 from rfl, Nat.mul_left_comm, ← Nat.pow_add, ← Nat.pow_succ']; congr 1; omega
  rw [e2, Nat.mod_mul_right_div_self, Nat.mod_mul_right_mod]
theorem bit_zero {a m : Nat} (ha : a < 2 ^ (m + 1)) (h : a / 2 ^ m % 2 ≠ 1) : a < 2 ^ m := by
  rcases Nat.lt_or_ge a (2 ^ m) with g | g
  · exact g
  · have h1 := Nat.div_pos g (Nat.pow_pos (by decide))
    have h2 : a / 2 ^ m < 2 := (Nat.div_lt_iff_lt_mul (Nat.pow_pos (by decide))).2 (by rw [Nat.mul_comm, ← Nat.pow_succ]; exact ha)
    omega
theorem bit_one {a m : Nat} (ha : a < 2 ^ (m + 1)) (h : a / 2 ^ m % 2 = 1) : blen a = m + 1 := by
  refine blen_of ha ?_ (by omega)
  rw [Nat.add_sub_cancel]
  rcases Nat.lt_or_ge a (2 ^ m) with g | g
  · rw [Nat.div_eq_of_lt g] at h
    omega
  · exact g

theorem u8_bit (x r : Nat) (hx : x < 256) : bits .and .u8 ((x : Int) / 2 ^ r) 1 = ((x / 2 ^ r % 2 : Nat) : Int) := by
  have h1 : x / 2 ^ r < 256 := Nat.lt_of_le_of_lt (Nat.div_le_self _ _) hx
  have := u8_and_nat (x / 2 ^ r) 1 h1 (by decide)
  rw [Nat.and_one_is_mod, Int.natCast_ediv, cast_pow2'] at this
  exact this

end Go.Mun
