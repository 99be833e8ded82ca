/- The word of a number. Over no program. -/
import Derived.Test.YtpliedimdhilcaaTab
namespace Go.Mun
open Go Go.RowKit

/-- the word of a number -/
def ofN (n : Int) : Nat := (n % 2 ^ 256).toNat
theorem ofN_lt (n : Int) : ofN n < 2 ^ 256 := by unfold ofN; omega
theorem ofN_nat (m : Nat) (h : m < 2 ^ 64) : ofN (m : Int) = m := by unfold ofN; omega
end Go.Mun
