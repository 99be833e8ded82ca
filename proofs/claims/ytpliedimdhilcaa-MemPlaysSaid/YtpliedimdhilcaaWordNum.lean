/- What numbers are in memory. -/
import Derived.Test.YtpliedimdhilcaaWordBase
namespace Go.Mun
open Go Go.RowKit Go.Proofs

theorem zNumL : (Try.prog.info? 77).bind (·.zero) = some (.agg (limbsV 0)) := by kernel_rfl
theorem eq_num (a b : Nat) (ha : a < 2 ^ 256) (hb : b < 2 ^ 256) (w : World) : (Op.equalIn 10000 77 (.agg (limbsV a)) (.agg (limbsV b))).run Try.prog w = .ok (decide (a = b)) w := by
  rw [limbsV_tab, limbsV_tab, ← all_limbs ha hb]
  obtain ⟨i, hi, hs⟩ : ∃ i, Try.prog.info? 75 = some i ∧ i.size = 1 := ⟨_, rfl, rfl⟩
  exact run_eq_tab Try.underlying77 (by kernel_rfl) Try.underlying75 hi hs _ _ 9998 w
theorem eq_num0 (a : Nat) (ha : a < 2 ^ 256) (w : World) : (Op.equalIn 10000 77 (.agg (limbsV a)) (.agg #[.int .u64 0, .int .u64 0, .int .u64 0, .int .u64 0])).run Try.prog w = .ok (decide (a = 0)) w := by
  rw [← limbsV_zero]
  exact eq_num a 0 ha (by decide) w
end Go.Mun
