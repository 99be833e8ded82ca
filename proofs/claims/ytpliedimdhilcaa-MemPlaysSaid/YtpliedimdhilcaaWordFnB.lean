/- The walks of word's functions of two words: Bits. -/
import Derived.Test.YtpliedimdhilcaaWordNum
import Derived.Test.YtpliedimdhilcaaWordBitsN
namespace Go.Mun
open Go Go.RowKit Go.Proofs

set_option maxRecDepth 100000 in
set_option maxHeartbeats 400000 in
theorem Bits_any (a : Nat) (w : World) (ha : a < 2 ^ 256) : Calls Try.prog 41 #[.agg (wcells a)] w fun e w' => e = .returned (.int .i64 (blen a : Nat)) ∧ Below w.heap.size w w' := by
  have hW := wordTy
  have hN := numTy
  have zW := zWordL
  have zN := zNumL
  have HSN := Lib.hid limbsV_size
  have H1N := Lib.hid limbsV_one
  have HSW := Lib.hid wcells_size
  have H1W := Lib.hid wcells_one
  have HFr := Lib.hid from_any
  have CBits := Lib.hid (fun w => bits_any a w ha)
  generalize blen a = z at *
  go_enter Try.func41, Try.ntmps41
  go_wp2_with (first
    | ((with_reducible refine gd_box ?_); refine wpList_box_agg rfl _ (.tmp 0) rfl rfl ?_; intro w2 hx2 hb2 hl2)
    | ((with_reducible refine gd_load ?_); refine wpList_load_blk rfl 25 (.tmp 1) rfl hx2 (by rw [HSW.out]; exact hW) rfl ?_)
    | (go_at_call 51; refine (HFr.out a _ ha).mono ?_; rintro e w3 ⟨rfl, hb3⟩)
    | (go_at_call 52; refine (CBits.out _).mono ?_; rintro e w4 ⟨rfl, hb4⟩)
    | fail)
  go_ret
  exact ⟨rfl, below_step (below_step hb2 hb3) hb4⟩
end Go.Mun
