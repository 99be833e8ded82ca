/- word's functions of two words, each by one function of two numbers. -/
import Derived.Test.YtcmhbolonhhhoaaWordExp
import Derived.Test.YtcmhbolonhhhoaaWordFn
namespace Go.Mun
open Go Go.RowKit Go.Proofs

def byteN (k a : Nat) : Nat := if k < 32 then lowB a (31 - k) else 0
def shrN (k a : Nat) : Nat := if k < 256 then a / 2 ^ k else 0
def modN (a b : Nat) : Nat := if b = 0 then 0 else a % b
def sdivN (a b : Nat) : Nat := if absN b = 0 then 0 else if (decide (2 ^ 255 ≤ a) != decide (2 ^ 255 ≤ b)) = true then negN (absN a / absN b % 2 ^ 256) else absN a / absN b % 2 ^ 256
def smodN (a b : Nat) : Nat := if absN b = 0 then 0 else if decide (2 ^ 255 ≤ a) = true then negN (absN a % absN b) else absN a % absN b
def scmpN (a b : Nat) : Int := if 2 ^ 255 ≤ a then (if 2 ^ 255 ≤ b then cmpN a b else -1) else (if 2 ^ 255 ≤ b then 1 else cmpN a b)

theorem byteN_lt (k a : Nat) : byteN k a < 2 ^ 256 := by
  unfold byteN
  split
  · exact Nat.lt_of_lt_of_le (lowB_lt _ _) (by decide)
  · decide
theorem shrN_lt {k a : Nat} (ha : a < 2 ^ 256) : shrN k a < 2 ^ 256 := by
  unfold shrN
  split
  · exact Nat.lt_of_le_of_lt (Nat.div_le_self _ _) ha
  · decide
theorem divN_lt {a : Nat} (b : Nat) (ha : a < 2 ^ 256) : a / b < 2 ^ 256 := Nat.lt_of_le_of_lt (Nat.div_le_self _ _) ha
theorem modN_lt {a : Nat} (b : Nat) (ha : a < 2 ^ 256) : modN a b < 2 ^ 256 := by
  unfold modN
  split
  · decide
  · exact Nat.lt_of_le_of_lt (Nat.mod_le _ _) ha
theorem negN_lt' (n : Nat) : negN n < 2 ^ 256 := Nat.mod_lt _ (by decide)
theorem absN_lt' {n : Nat} (h : n < 2 ^ 256) : absN n < 2 ^ 256 := by
  unfold absN
  split
  · exact negN_lt' _
  · exact h
theorem sdivN_lt (a b : Nat) : sdivN a b < 2 ^ 256 := by
  unfold sdivN
  split
  · decide
  · split
    · exact negN_lt' _
    · exact Nat.mod_lt _ (by decide)
theorem smodN_lt {a : Nat} (b : Nat) (ha : a < 2 ^ 256) : smodN a b < 2 ^ 256 := by
  unfold smodN
  split
  · decide
  · split
    · exact negN_lt' _
    · exact Nat.lt_of_le_of_lt (Nat.mod_le _ _) (absN_lt' ha)

section
variable (k a b : Nat) (w : World) (hk : k < 2 ^ 256) (ha : a < 2 ^ 256) (hb : b < 2 ^ 256)
theorem Byte_all (hk : k < 2 ^ 256) : Calls Try.prog 24 #[.agg (wcells k), .agg (wcells a)] w fun e w' => e = .returned (.agg (wcells (byteN k a))) ∧ Below w.heap.size w w' := by
  unfold byteN
  by_cases c : k < 32
  · rw [if_pos c]; exact Byte_in k a w c
  · rw [if_neg c]
    by_cases c2 : k < 2 ^ 63
    · exact Byte_mid k a w c c2
    · exact Byte_big k a w hk c2
theorem Shr_all (hk : k < 2 ^ 256) (ha : a < 2 ^ 256) : Calls Try.prog 21 #[.agg (wcells k), .agg (wcells a)] w fun e w' => e = .returned (.agg (wcells (shrN k a))) ∧ Below w.heap.size w w' := by
  unfold shrN
  by_cases c : k < 256
  · rw [if_pos c]; exact Shr_in k a w c ha
  · rw [if_neg c]
    by_cases c2 : k < 2 ^ 63
    · exact Shr_mid k a w c c2
    · exact Shr_big k a w hk c2
theorem Div_all (ha : a < 2 ^ 256) (hb : b < 2 ^ 256) : Calls Try.prog 40 #[.agg (wcells a), .agg (wcells b)] w fun e w' => e = .returned (.agg (wcells (a / b))) ∧ Below w.heap.size w w' := by
  by_cases c : b = 0
  · have := Div_zero a b w ha hb c
    rw [c] at this ⊢
    rw [Nat.div_zero]
    exact this
  · have := Div_pos a b w ha hb c
    rw [Nat.mod_eq_of_lt (divN_lt b ha)] at this
    exact this
theorem Mod_all (ha : a < 2 ^ 256) (hb : b < 2 ^ 256) : Calls Try.prog 41 #[.agg (wcells a), .agg (wcells b)] w fun e w' => e = .returned (.agg (wcells (modN a b))) ∧ Below w.heap.size w w' := by
  unfold modN
  by_cases c : b = 0
  · rw [if_pos c]; exact Mod_zero a b w ha hb c
  · rw [if_neg c]; exact Mod_pos a b w ha hb c
theorem SDiv_all (ha : a < 2 ^ 256) (hb : b < 2 ^ 256) : Calls Try.prog 42 #[.agg (wcells a), .agg (wcells b)] w fun e w' => e = .returned (.agg (wcells (sdivN a b))) ∧ Below w.heap.size w w' := by
  unfold sdivN
  by_cases c : absN b = 0
  · rw [if_pos c]; exact SDiv_zero a b w ha hb c
  · rw [if_neg c]; exact SDiv_pos a b w ha hb c
theorem SMod_all (ha : a < 2 ^ 256) (hb : b < 2 ^ 256) : Calls Try.prog 43 #[.agg (wcells a), .agg (wcells b)] w fun e w' => e = .returned (.agg (wcells (smodN a b))) ∧ Below w.heap.size w w' := by
  unfold smodN
  by_cases c : absN b = 0
  · rw [if_pos c]; exact SMod_zero a b w ha hb c
  · rw [if_neg c]; exact SMod_pos a b w ha hb c
theorem SCmp_all (ha : a < 2 ^ 256) (hb : b < 2 ^ 256) : Calls Try.prog 36 #[.agg (wcells a), .agg (wcells b)] w fun e w' => e = .returned (.int .i64 (scmpN a b)) ∧ Below w.heap.size w w' := by
  unfold scmpN
  by_cases c : 2 ^ 255 ≤ a <;> by_cases d : 2 ^ 255 ≤ b
  · rw [if_pos c, if_pos d]; exact SCmp_mm a b w ha hb c d
  · rw [if_pos c, if_neg d]; exact SCmp_mp a b w ha hb c d
  · rw [if_neg c, if_pos d]; exact SCmp_pm a b w ha hb c d
  · rw [if_neg c, if_neg d]; exact SCmp_pp a b w ha hb c d
end
end Go.Mun
