/- What words are in memory. -/
import Derived.Test.YtpliedimdhilcaaWordFrom
import Derived.Test.YtpliedimdhilcaaMade
import Derived.Test.YtpliedimdhilcaaEqs
namespace Go.Mun
open Go Go.RowKit Go.Proofs

theorem zWord : (Try.prog.info? 25).bind (·.zero) = some (.agg (tab .u8 32 fun _ => 0)) := by kernel_rfl
theorem wcells_one (n : Nat) : oneAll (wcells n).toList = true := by rw [wcells, bv_wbytes]; exact tab_one
theorem wcells_zero : tab .u8 32 (fun _ => 0) = wcells 0 := by
  rw [wcells, bv_wbytes]
  exact tab_congr fun i _ => by simp [lowB]
theorem zWordL : (Try.prog.info? 25).bind (·.zero) = some (.agg (wcells 0)) := by rw [← wcells_zero]; exact zWord
theorem eq_word (a b : Nat) (ha : a < 2 ^ 256) (hb : b < 2 ^ 256) (w : World) : (Op.equalIn 10000 25 (.agg (wcells a)) (.agg (wcells b))).run Try.prog w = .ok (decide (a = b)) w := by
  rw [wcells, wcells, bv_wbytes, bv_wbytes, ← all_bytes ha hb]
  obtain ⟨i, hi, hs⟩ : ∃ i, Try.prog.info? 5 = some i ∧ i.size = 1 := ⟨_, rfl, rfl⟩
  exact run_eq_tab Try.underlying25 (by kernel_rfl) Try.underlying5 hi hs _ _ 9998 w
theorem wcells_lit0 : (#[.int .u8 0, .int .u8 0, .int .u8 0, .int .u8 0, .int .u8 0, .int .u8 0, .int .u8 0, .int .u8 0, .int .u8 0, .int .u8 0, .int .u8 0, .int .u8 0, .int .u8 0, .int .u8 0, .int .u8 0, .int .u8 0, .int .u8 0, .int .u8 0, .int .u8 0, .int .u8 0, .int .u8 0, .int .u8 0, .int .u8 0, .int .u8 0, .int .u8 0, .int .u8 0, .int .u8 0, .int .u8 0, .int .u8 0, .int .u8 0, .int .u8 0, .int .u8 0] : Array Value) = wcells 0 := by
  rw [← wcells_zero]
  rfl
end Go.Mun
