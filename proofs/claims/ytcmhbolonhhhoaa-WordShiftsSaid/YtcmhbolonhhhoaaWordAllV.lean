/- word.Shl by one function of two numbers. -/
import Derived.Test.YtcmhbolonhhhoaaWordShiftL
namespace Go.Mun
open Go Go.RowKit Go.Proofs

def shlN (k a : Nat) : Nat := if k < 256 then a * 2 ^ k % 2 ^ 256 else 0
theorem shlN_lt (k a : Nat) : shlN k a < 2 ^ 256 := by
  unfold shlN
  split
  · exact Nat.mod_lt _ (by decide)
  · decide
theorem Shl_all (k a : Nat) (w : World) (hk : k < 2 ^ 256) (ha : a < 2 ^ 256) : Calls Try.prog 14 #[.agg (wcells k), .agg (wcells a)] w fun e w' => e = .returned (.agg (wcells (shlN k a))) ∧ Below w.heap.size w w' := by
  unfold shlN
  by_cases c : k < 256
  · rw [if_pos c]; exact Shl_in k a w c ha
  · rw [if_neg c]
    by_cases c2 : k < 2 ^ 63
    · exact Shl_mid k a w c c2
    · exact Shl_big k a w hk c2
end Go.Mun
