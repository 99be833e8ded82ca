/- The plain laws of extended words. Over no program. -/
import Derived.Test.YtcmhbolonhhhoaaWordExt
import Derived.Test.YtcmhbolonhhhoaaWordSar
namespace Go.Mun
open Go Go.RowKit

theorem ofN_int {k : Int} (h : 0 ≤ k) (h2 : k < 2 ^ 64) : ofN k = k.toNat := by
  obtain ⟨n, rfl⟩ := Int.eq_ofNat_of_zero_le h
  rw [ofN_nat n (by omega)]
  rfl
theorem pExt1 {k : Int} (a : Nat) (h : 30 < k) (h2 : k ≤ 40) : extN (ofN k) a = a := by
  rw [ofN_int (by omega) (by omega)]
  unfold extN
  rw [if_neg (by omega)]
theorem sign_ext {a k : Nat} : 2 ^ (8 * k + 7) ≤ a % 2 ^ (8 * (k + 1)) ↔ 128 ≤ lowB a k := by
  have e : lowB a k = a % 2 ^ (8 * (k + 1)) / 2 ^ (8 * k) := by
    unfold lowB
    rw [show 8 * (k + 1) = 8 * k + 8 from by omega, Nat.pow_add, Nat.mod_mul_right_div_self]
  rw [e, Nat.le_div_iff_mul_le (Nat.pow_pos (by decide)), show 8 * k + 7 = 7 + 8 * k from by omega, Nat.pow_add]
theorem ext_sar {a k : Nat} (h : k ≤ 30) : sarN (8 * (31 - k)) (shlN (8 * (31 - k)) a) = extN k a := by
  have hn : 8 * (31 - k) < 256 := by omega
  have e1 : shlN (8 * (31 - k)) a = a % 2 ^ (8 * (k + 1)) * 2 ^ (8 * (31 - k)) := by
    unfold shlN
    rw [if_pos hn, show (2 : Nat) ^ 256 = 2 ^ (8 * (k + 1)) * 2 ^ (8 * (31 - k)) from by rw [← Nat.pow_add]; congr 1; omega, Nat.mul_mod_mul_right]
  have e2 : 2 ^ 255 ≤ a % 2 ^ (8 * (k + 1)) * 2 ^ (8 * (31 - k)) ↔ 128 ≤ lowB a k := by
    rw [← sign_ext, show (2 : Nat) ^ 255 = 2 ^ (8 * k + 7) * 2 ^ (8 * (31 - k)) from by rw [← Nat.pow_add]; congr 1; omega]
    exact Nat.mul_le_mul_right_iff (Nat.pow_pos (by decide))
  have h256 : (2 : Nat) ^ 256 = 2 ^ (8 * (k + 1)) * 2 ^ (8 * (31 - k)) := by rw [← Nat.pow_add]; congr 1; omega
  have hr : a % 2 ^ (8 * (k + 1)) < 2 ^ (8 * (k + 1)) := Nat.mod_lt _ (Nat.pow_pos (by decide))
  have hM : 2 ^ (8 * (k + 1)) ≤ 2 ^ 256 := Nat.pow_le_pow_right (by decide) (by omega)
  have hp : 0 < 2 ^ (8 * (31 - k)) := Nat.pow_pos (by decide)
  rw [e1]
  unfold sarN extN shrN notN
  rw [if_pos (show k < 31 by omega), if_pos hn, if_pos hn]
  by_cases c : 128 ≤ lowB a k
  · rw [if_pos (e2.2 c), if_pos c]
    have e3 : (2 ^ 256 - 1 - a % 2 ^ (8 * (k + 1)) * 2 ^ (8 * (31 - k))) / 2 ^ (8 * (31 - k)) = 2 ^ (8 * (k + 1)) - 1 - a % 2 ^ (8 * (k + 1)) := by
      generalize a % 2 ^ (8 * (k + 1)) = r at *
      rw [h256]
      generalize 2 ^ (8 * (k + 1)) = M at *
      generalize 2 ^ (8 * (31 - k)) = p at *
      obtain ⟨d, rfl⟩ : ∃ d, M = r + 1 + d := ⟨M - r - 1, by omega⟩
      rw [show r + 1 + d - 1 - r = d from by omega, Nat.add_mul, Nat.add_mul, Nat.one_mul]
      rw [show r * p + p + d * p - 1 - r * p = (p - 1) + d * p from by omega, Nat.add_mul_div_right _ _ hp, Nat.div_eq_of_lt (by omega), Nat.zero_add]
    rw [e3]
    omega
  · rw [if_neg (fun h => c (e2.1 h)), if_neg c, Nat.mul_div_cancel _ hp]
    exact (Nat.add_zero _).symm
theorem pExt2 {k : Nat} (a : Nat) (h : k ≤ 30) : extN (ofN (k : Int)) a = sarN (ofN (8 * (31 - (k : Int)))) (shlN (ofN (8 * (31 - (k : Int)))) a) := by
  rw [show (8 * (31 - (k : Int))) = ((8 * (31 - k) : Nat) : Int) from by omega, ofN_nat _ (by omega), ofN_nat _ (by omega), ext_sar h]
theorem pExt3 {k a : Nat} (ha : a < 2 ^ 256) (h : k ≤ 30) : extN (ofN (k : Int)) (extN (ofN (k : Int)) a) = extN (ofN (k : Int)) a := by
  rw [ofN_nat _ (by omega)]
  refine bytes_ext (extN_lt (extN_lt ha)) (extN_lt ha) fun j hj => ?_
  rw [lowB_ext (by omega) hj, lowB_ext (by omega) hj, lowB_ext (by omega) (by omega)]
  rw [if_pos (Nat.le_refl k)]
  by_cases c : j ≤ k
  · rw [if_pos c, if_pos c]
  · rw [if_neg c, if_neg c]
end Go.Mun
