/- The reference: Start. -/
import Derived.Test.YtdkccaiahgfjoaaFrRead
namespace Go.Mun
open Go Go.RowKit Go.Proofs Go.Maps

section
variable {k p : Nat} {M : FSs} {φ : Nat → Nat} {o : Own} {K L : Nat} {w : World}
set_option maxRecDepth 100000 in
set_option maxHeartbeats 1000000 in
theorem StartR_any (h : RelR k p M φ o K L w) : Calls Try.prog 44 #[.pointer (some ⟨p, 0, none⟩)] w fun e w' => e = .returned (.tuple #[]) ∧ RelR k p (startM M) φ o K L w' ∧ Turn k o o w w' := by
  obtain ⟨vn, vs, vw, vk, pl, c0, c1, lf, hh⟩ := h.head
  have hx := hh.blk
  have H := Lib.hid hh
  have HR := Lib.hid h
  clear hh h
  go_enter Try.func44, Try.ntmps44
  go_wp2_with (first
    | ((with_reducible refine gd_store ?_); refine wpList_store_cell rfl 4 (.tmp 4) (.const (.bool false)) rfl (i := 8) (v := .bool false) hx (show 8 < 10 by decide) (by kernel_rfl) rfl rfl rfl ?_; intro w1 hx1 hg1)
    | ((with_reducible refine gd_store ?_); refine wpList_store_cell rfl 4 (.tmp 7) (.const (.bool false)) rfl (i := 3) (v := .bool false) hx1 (show 3 < 10 by decide) (by kernel_rfl) rfl rfl rfl ?_; intro w2 hx2 hg2)
    | fail)
  have hg := hg1.trans hg2
  go_end0
  exact ⟨rfl, RelR.counts (M' := startM M) HR.out H.out hg hx2 rfl rfl rfl rfl HR.out.fine.start rfl (fun h0 => absurd h0 (by show ¬ (0 : Int) ≤ -1; decide)) HR.out.ops ⟨by show (-9223372036854775808 : Int) ≤ 0; decide, by show (0 : Int) ≤ _; decide⟩ (by show (-1 : Int) ≤ _; decide), Turn.wrote HR.out.own hg H.out.op⟩
end
end Go.Mun
