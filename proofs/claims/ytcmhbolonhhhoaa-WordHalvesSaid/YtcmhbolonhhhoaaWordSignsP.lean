/- The plain laws of signs and halves. Over no program. -/
import Derived.Test.YtcmhbolonhhhoaaWordAll
import Derived.Test.YtcmhbolonhhhoaaWordAllV
namespace Go.Mun
open Go Go.RowKit

/-- a fact that no tactic looks into -/
structure Kept (p : Prop) : Prop where
  out : p

theorem pNegAdd {a : Nat} (ha : a < 2 ^ 256) : (a + (0 + 2 ^ 256 - a) % 2 ^ 256) % 2 ^ 256 = 0 := by omega
theorem ofN_m1 : ofN (-1) = 2 ^ 256 - 1 := by unfold ofN; omega
theorem pNegMul {a : Nat} (ha : a < 2 ^ 256) : a * ofN (-1) % 2 ^ 256 = (0 + 2 ^ 256 - a) % 2 ^ 256 := by
  rw [ofN_m1]
  omega
theorem cmpN_anti (a b : Nat) : cmpN a b = -cmpN b a := by
  unfold cmpN
  by_cases h : a < b <;> by_cases g : b < a <;> simp [h, g] <;> omega
theorem cmpN_bd (a b : Nat) : -1 ≤ cmpN a b ∧ cmpN a b ≤ 1 := by
  unfold cmpN
  by_cases h : a < b <;> by_cases g : b < a <;> simp [h, g]
theorem cmpN_ne {a b : Nat} (h : a ≠ b) : cmpN a b ≠ 0 := by
  unfold cmpN
  by_cases h1 : a < b <;> by_cases g : b < a <;> simp [h1, g] <;> omega
theorem neg_beq {v : Int} (h : v ≠ 0) : (-v == 0) = false := by
  rw [beq_eq_false_iff_ne]
  omega
theorem cmpN_self (a : Nat) : cmpN a a = 0 := by unfold cmpN; simp
theorem scmpN_anti (a b : Nat) : scmpN a b = -scmpN b a := by
  unfold scmpN
  by_cases h : 2 ^ 255 ≤ a <;> by_cases g : 2 ^ 255 ≤ b
  · rw [if_pos h, if_pos g, if_pos g, if_pos h]; exact cmpN_anti a b
  · rw [if_pos h, if_neg g, if_neg g, if_pos h]
  · rw [if_neg h, if_pos g, if_pos g, if_neg h]; rfl
  · rw [if_neg h, if_neg g, if_neg g, if_neg h]; exact cmpN_anti a b
theorem scmpN_bd (a b : Nat) : -1 ≤ scmpN a b ∧ scmpN a b ≤ 1 := by
  have := cmpN_bd a b
  unfold scmpN
  by_cases h : 2 ^ 255 ≤ a <;> by_cases g : 2 ^ 255 ≤ b
  · rw [if_pos h, if_pos g]; exact this
  · rw [if_pos h, if_neg g]; exact ⟨by omega, by omega⟩
  · rw [if_neg h, if_pos g]; exact ⟨by omega, by omega⟩
  · rw [if_neg h, if_neg g]; exact this
theorem cmpN_eq {a b c d : Nat} (h : (a < b ↔ c < d) ∧ (b < a ↔ d < c)) : cmpN a b = cmpN c d := by
  unfold cmpN
  by_cases h1 : a < b <;> by_cases h2 : b < a
  · omega
  · rw [if_pos h1, if_pos (h.1.1 h1)]
  · rw [if_neg h1, if_pos h2, if_neg (fun g => h1 (h.1.2 g)), if_pos (h.2.1 h2)]
  · rw [if_neg h1, if_neg h2, if_neg (fun g => h1 (h.1.2 g)), if_neg (fun g => h2 (h.2.2 g))]
theorem least_eq : shlN (ofN 255) (ofN 1) = 2 ^ 255 := by
  unfold shlN
  rw [show ofN 255 = 255 from by unfold ofN; omega, show ofN 1 = 1 from by unfold ofN; omega, if_pos (by decide)]
theorem pTurn {a b : Nat} (ha : a < 2 ^ 256) (hb : b < 2 ^ 256) (h1 : a ≠ shlN (ofN 255) (ofN 1)) (h2 : b ≠ shlN (ofN 255) (ofN 1)) : scmpN ((0 + 2 ^ 256 - b) % 2 ^ 256) ((0 + 2 ^ 256 - a) % 2 ^ 256) = scmpN a b := by
  rw [least_eq] at h1 h2
  obtain ⟨x, hx⟩ : ∃ x, x = (0 + 2 ^ 256 - a) % 2 ^ 256 := ⟨_, rfl⟩
  obtain ⟨y, hy⟩ : ∃ y, y = (0 + 2 ^ 256 - b) % 2 ^ 256 := ⟨_, rfl⟩
  rw [← hx, ← hy]
  unfold scmpN
  by_cases h : 2 ^ 255 ≤ a <;> by_cases g : 2 ^ 255 ≤ b
  · rw [if_pos h, if_pos g, if_neg (by omega), if_neg (by omega)]
    exact cmpN_eq ⟨by omega, by omega⟩
  · rw [if_pos h, if_neg g]
    by_cases b0 : b = 0
    · rw [if_neg (by omega), if_neg (by omega)]
      unfold cmpN
      rw [if_pos (by omega)]
    · rw [if_pos (by omega), if_neg (by omega)]
  · rw [if_neg h, if_pos g]
    by_cases a0 : a = 0
    · rw [if_neg (by omega), if_neg (by omega)]
      unfold cmpN
      rw [if_neg (by omega), if_pos (by omega)]
    · rw [if_neg (by omega), if_pos (by omega)]
  · rw [if_neg h, if_neg g]
    by_cases a0 : a = 0
    · by_cases b0 : b = 0
      · rw [if_neg (by omega), if_neg (by omega)]
        exact cmpN_eq ⟨by omega, by omega⟩
      · rw [if_pos (by omega), if_neg (by omega)]
        unfold cmpN
        rw [if_pos (by omega)]
    · by_cases b0 : b = 0
      · rw [if_neg (by omega), if_pos (by omega)]
        unfold cmpN
        rw [if_neg (by omega), if_pos (by omega)]
      · rw [if_pos (by omega), if_pos (by omega)]
        exact cmpN_eq ⟨by omega, by omega⟩
/-! ### halves -/
theorem two_pow_N {k : Nat} (h : k ≤ 255) : powN (ofN 2) (ofN (k : Int)) = 2 ^ k := by
  rw [ofN_nat k (by omega), show ofN 2 = 2 from by unfold ofN; omega]
  unfold powN
  exact Nat.mod_eq_of_lt (Nat.pow_lt_pow_right (by decide) (by omega))
theorem pHalf1 {a k : Nat} (ha : a < 2 ^ 256) (h : k ≤ 255) : (shlN (ofN (k : Int)) (shrN (ofN (k : Int)) a) + modN a (powN (ofN 2) (ofN (k : Int)))) % 2 ^ 256 = a := by
  rw [two_pow_N h, ofN_nat k (by omega)]
  unfold shlN shrN modN
  have hp : 0 < 2 ^ k := Nat.pow_pos (by decide)
  have hd : a / 2 ^ k * 2 ^ k ≤ a := Nat.div_mul_le_self a (2 ^ k)
  rw [if_pos (by omega), if_pos (by omega), if_neg (by omega), Nat.mod_eq_of_lt (Nat.lt_of_le_of_lt hd ha), Nat.mul_comm, Nat.div_add_mod, Nat.mod_eq_of_lt ha]
theorem pHalf2 {a k : Nat} (h : k ≤ 255) : shlN (ofN (k : Int)) a = a * powN (ofN 2) (ofN (k : Int)) % 2 ^ 256 := by
  rw [two_pow_N h, ofN_nat k (by omega)]
  unfold shlN
  rw [if_pos (by omega)]
theorem pHalf3 {a k : Nat} (h : k ≤ 255) : shrN (ofN (k : Int)) a = a / powN (ofN 2) (ofN (k : Int)) := by
  rw [two_pow_N h, ofN_nat k (by omega)]
  unfold shrN
  rw [if_pos (by omega)]
end Go.Mun
