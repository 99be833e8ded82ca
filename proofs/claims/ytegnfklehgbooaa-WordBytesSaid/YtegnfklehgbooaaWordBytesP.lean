/- The plain laws of a word's bytes and of how long it is. Over no program. -/
import Derived.Test.YtegnfklehgbooaaWordAll
import Derived.Test.YtegnfklehgbooaaWordFnB
namespace Go.Mun
open Go Go.RowKit

/-- a fact that no tactic looks into -/
structure Kept2 (p : Prop) : Prop where
  out : p
theorem pByte {k a : Nat} (h : k < 32) : byteN (ofN (k : Int)) a = lowB a (31 - k) := by
  rw [ofN_nat k (by omega)]
  unfold byteN
  rw [if_pos h]
theorem pByte32 (a : Nat) : byteN (ofN 32) a = 0 := by
  rw [show ofN 32 = 32 from by unfold ofN; omega]
  unfold byteN
  rw [if_neg (by decide)]
theorem pShrTop {a : Nat} (h : a = 0) : shrN (ofN 0) a = 0 := by
  subst h
  unfold shrN
  split
  · exact Nat.zero_div _
  · rfl
theorem pShrTop1 {a bl : Nat} (ha : a < 2 ^ 256) (h : ((blen a : Nat) : Int) = (bl : Int)) : shrN (ofN (bl : Int)) a = 0 := by
  have h2 : blen a ≤ 256 := blen_le_iff.2 ha
  obtain rfl : blen a = bl := by omega
  rw [ofN_nat _ (by omega)]
  unfold shrN
  split
  · exact Nat.div_eq_of_lt (blen_lt a)
  · rfl
theorem pShrOne {a bl : Nat} (h : ((blen a : Nat) : Int) = (bl : Int)) (hb : 1 ≤ (bl : Int)) (h2 : (bl : Int) ≤ 256) : shrN (ofN ((bl : Int) - 1)) a = ofN 1 := by
  obtain rfl : blen a = bl := by omega
  obtain ⟨m, hm⟩ : ∃ m, blen a = m + 1 := ⟨blen a - 1, by omega⟩
  have hlt := blen_lt a
  have hge : 2 ^ m ≤ a := by
    rcases Nat.lt_or_ge a (2 ^ m) with g | g
    · have := blen_le_iff.2 g
      omega
    · exact g
  rw [hm] at hlt h2 ⊢
  rw [show (((m + 1 : Nat) : Int) - 1) = (m : Int) from by omega, ofN_nat _ (by omega), show ofN 1 = 1 from by unfold ofN; omega]
  unfold shrN
  rw [if_pos (by omega)]
  have hp : 0 < 2 ^ m := Nat.pow_pos (by decide)
  rw [Nat.pow_succ] at hlt
  have h1 : 1 ≤ a / 2 ^ m := (Nat.le_div_iff_mul_le hp).2 (by omega)
  have h3 : a / 2 ^ m < 2 := (Nat.div_lt_iff_lt_mul hp).2 (by omega)
  omega
end Go.Mun
