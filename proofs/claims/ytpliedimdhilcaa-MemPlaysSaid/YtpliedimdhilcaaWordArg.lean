/- A word that came in as an argument. -/
import Derived.Test.YtpliedimdhilcaaLaw
import Derived.Test.YtpliedimdhilcaaWordCells
namespace Go.Mun
open Go Go.RowKit Go.ChangeShapes Go.WideShapes Go.ChangeAt Go.Deep Go.Proofs

theorem arg_word {H : Type} {enc : TypeId × Value → H} {W : World} {v : Value} (h : ArgOk enc Try.prog W 25 v) : ∃ n, n < 2 ^ 256 ∧ v = .agg (wcells n) := by
  obtain ⟨⟨b, hok⟩, fuel, x, hx⟩ := h
  have ht : Try.prog.underlying 25 = some (.array 32 5) := Try.underlying25
  simp only [Value.okWide, ht] at hok
  obtain ⟨cs, rfl, _⟩ := hok
  have hx' : DataW.trod enc Try.prog W 0 (fun _ => true) true fuel 25 cs.toList = some x := hx
  obtain ⟨xs, m, _, _, hlen, hxl, hi⟩ := DataW.trod_array ht hx'
  have hc1 : Try.prog.cellsOf 5 = 1 := by kernel_rfl
  have hc32 : Try.prog.cellsOf 25 = 32 := by kernel_rfl
  rw [hc32] at hlen
  have hbyte : ∀ i, i < 32 → ∃ b : UInt8, cs.toList[i]? = some (.int .u8 (b.toNat : Int)) := fun i h => by
    have h1 := hi i h
    rw [hc1, Nat.mul_one, List.getElem?_eq_getElem (by omega)] at h1
    obtain ⟨b, hb⟩ := opens_byte enc 0 (fun _ => true) true Try.underlying5 W m _ _ h1
    exact ⟨b, cell_of_field hb⟩
  obtain ⟨f, hf⟩ := choose_lt (α := UInt8) (p := fun i b => cs.toList[i]? = some (.int .u8 (b.toNat : Int))) (n := 32) hbyte
  obtain ⟨n, hn, he⟩ := word_of (cs := cs.toList) (bs := (List.range 32).map f) (by simp) (by
    apply List.ext_getElem?
    intro i
    by_cases c : i < 32
    · rw [hf i c]
      simp [bv, c]
    · rw [List.getElem?_eq_none (by omega), List.getElem?_eq_none (by simp [bv]; omega)])
  refine ⟨n, hn, ?_⟩
  rw [← he, Array.toArray_toList]
end Go.Mun
