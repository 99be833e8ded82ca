/- A transaction that came in, as the walks of gas want it. -/
import Derived.Test.YtpliedimdhilcaaGas
import Derived.Test.YtpliedimdhilcaaLaw
namespace Go.Mun
open Go Go.RowKit Go.Proofs Go.ChangeShapes Go.WideShapes Go.ChangeAt

theorem tx_of {H : Type} {enc : TypeId × Value → H} {W : World} {v : Value} (h : ArgOk enc Try.prog W 28 v) : ∃ cs mk data, v = .agg cs ∧ OneCells cs ∧ TxOk W cs mk data := by
  obtain ⟨cs, rfl, hsz, hone, fuel, x, hx⟩ := arg_cells Try.underlying28 rfl h
  have hsz' : cs.size = 77 := hsz.trans (by kernel_rfl)
  obtain ⟨n1, y1, h1⟩ := trod_at Try.underlying28 hx 5 rfl (e := 4) (off := 43) (size := 1) rfl rfl (by kernel_rfl)
  obtain ⟨n2, y2, h2⟩ := trod_at Try.underlying28 hx 7 rfl (e := 26) (off := 76) (size := 1) rfl rfl (by kernel_rfl)
  obtain ⟨mk, hmk⟩ := opens_bool enc 0 (fun _ => true) true Try.underlying4 W n1 _ y1 h1
  obtain ⟨data, vd, hvd, hb⟩ := opens_bytes enc 0 (fun _ => true) true Try.underlying26 Try.underlying5 (by kernel_rfl) W n2 _ y2 h2
  have hb' := hb
  obtain ⟨A, n, c, rfl, _⟩ := hb
  exact ⟨cs, mk, data, rfl, hone, hsz', by simpa using cell_of_field hmk, A, n, c, by simpa using cell_of_field hvd, hb'⟩
end Go.Mun
