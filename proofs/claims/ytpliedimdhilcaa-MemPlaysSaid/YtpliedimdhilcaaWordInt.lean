/- The walk of word.Int. -/
import Derived.Test.YtpliedimdhilcaaWordNum
import Derived.Test.YtpliedimdhilcaaWordBitsN
namespace Go.Mun
open Go Go.RowKit Go.Proofs

theorem limb_self {a : Nat} (h : a < 2 ^ 64) : limb a 0 = a := by
  unfold limb
  rw [Nat.mul_zero, Nat.pow_zero, Nat.div_one]
  exact Nat.mod_eq_of_lt h
set_option maxRecDepth 100000 in
set_option maxHeartbeats 1000000 in
theorem Int_yes (a : Nat) (w : World) (ha : a < 2 ^ 63) : Calls Try.prog 40 #[.agg (wcells a)] w fun e w' => e = .returned (.tuple #[.int .i64 (a : Nat), .bool true]) ∧ Below w.heap.size w w' := by
  have hW := wordTy
  have hN := numTy
  have zN := zNumL
  have HSN := Lib.hid limbsV_size
  have H1N := Lib.hid limbsV_one
  have HSW := Lib.hid wcells_size
  have ha6 : a < 2 ^ 256 := Nat.lt_trans ha (by decide)
  have HFr := Lib.hid (fun w => from_any a w ha6)
  have CBits := Lib.hid (fun w => bits_any a w ha6)
  have HL0 := Lib.hid (limbsV_get a (show 0 < 4 by decide))
  rw [limb_self (Nat.lt_trans ha (by decide))] at HL0
  have hz : ((blen a : Nat) : Int) < 64 := by have := (blen_le_iff (n := a) (m := 63)).2 ha; omega
  have hz0 : 0 ≤ ((blen a : Nat) : Int) := by omega
  have hab : (a : Int) ≤ 9223372036854775807 := by omega
  clear ha6 ha
  generalize blen a = z at *
  have tok1 : True := trivial
  have tok2 : True := trivial
  go_enter Try.func40, Try.ntmps40
  go_wp2_with (first
    | ((with_reducible refine gd_box ?_); refine wpList_box_agg rfl _ (.tmp 0) rfl rfl ?_; intro w2 hx2 hb2 hl2)
    | ((with_reducible refine gd_load ?_); have _t := tok1; refine wpList_load_blk rfl 25 (.tmp 1) rfl hx2 (by rw [HSW.out]; exact hW) rfl ?_; clear tok1)
    | (go_at_call 51; refine (HFr.out _).mono ?_; rintro e w3 ⟨rfl, hb3⟩)
    | ((with_reducible refine gd_alloc ?_); refine wpList_alloc_blk rfl 77 rfl zN ?_; intro w4 hx4 hb4 hl4)
    | ((with_reducible refine gd_store ?_); refine wpList_store_all rfl 77 (.tmp 4) (.tmp 6) rfl (limbsV a) hx4 (by rw [HSN.out]; exact hN) (by rw [HSN.out]; exact HSN.out 0) (H1N.out _) (by rfl) (by rfl) ?_; intro w5 hx5 hg5)
    | ((with_reducible refine gd_load ?_); have _t := tok2; refine wpList_load_blk rfl 77 (.tmp 4) rfl hx5 (by rw [HSN.out]; exact hN) rfl ?_; clear tok2)
    | (go_at_call 52; refine (CBits.out _).mono ?_; rintro e w6 ⟨rfl, hb6⟩; have hc := (hx5.ext hb6).cellv HL0.out)
    | fail)
  have hB6 := below_step (below_blk (below_step (below_step hb2 hb3) hb4) (below_step (below_step hb2 hb3) hb4).size hg5 (by have := hx2.lt; have := hb3.size; omega)) hb6
  go_ret2
  exact ⟨rfl, hB6⟩
set_option maxRecDepth 100000 in
set_option maxHeartbeats 1000000 in
theorem Int_no (a : Nat) (w : World) (ha6 : a < 2 ^ 256) (ha : ¬ a < 2 ^ 63) : Calls Try.prog 40 #[.agg (wcells a)] w fun e w' => e = .returned (.tuple #[.int .i64 0, .bool false]) ∧ Below w.heap.size w w' := by
  have hW := wordTy
  have hN := numTy
  have zN := zNumL
  have HSN := Lib.hid limbsV_size
  have H1N := Lib.hid limbsV_one
  have HSW := Lib.hid wcells_size
  have HFr := Lib.hid (fun w => from_any a w ha6)
  have CBits := Lib.hid (fun w => bits_any a w ha6)
  have hz : 64 ≤ ((blen a : Nat) : Int) := by have := (blen_le_iff (n := a) (m := 63)).1; omega
  have hz0 : 0 ≤ ((blen a : Nat) : Int) := by omega
  clear ha6 ha
  generalize blen a = z at *
  have tok1 : True := trivial
  have tok2 : True := trivial
  go_enter Try.func40, Try.ntmps40
  go_wp2_with (first
    | ((with_reducible refine gd_box ?_); refine wpList_box_agg rfl _ (.tmp 0) rfl rfl ?_; intro w2 hx2 hb2 hl2)
    | ((with_reducible refine gd_load ?_); have _t := tok1; refine wpList_load_blk rfl 25 (.tmp 1) rfl hx2 (by rw [HSW.out]; exact hW) rfl ?_; clear tok1)
    | (go_at_call 51; refine (HFr.out _).mono ?_; rintro e w3 ⟨rfl, hb3⟩)
    | ((with_reducible refine gd_alloc ?_); refine wpList_alloc_blk rfl 77 rfl zN ?_; intro w4 hx4 hb4 hl4)
    | ((with_reducible refine gd_store ?_); refine wpList_store_all rfl 77 (.tmp 4) (.tmp 6) rfl (limbsV a) hx4 (by rw [HSN.out]; exact hN) (by rw [HSN.out]; exact HSN.out 0) (H1N.out _) (by rfl) (by rfl) ?_; intro w5 hx5 hg5)
    | ((with_reducible refine gd_load ?_); have _t := tok2; refine wpList_load_blk rfl 77 (.tmp 4) rfl hx5 (by rw [HSN.out]; exact hN) rfl ?_; clear tok2)
    | (go_at_call 52; refine (CBits.out _).mono ?_; rintro e w6 ⟨rfl, hb6⟩)
    | fail)
  have hB6 := below_step (below_blk (below_step (below_step hb2 hb3) hb4) (below_step (below_step hb2 hb3) hb4).size hg5 (by have := hx2.lt; have := hb3.size; omega)) hb6
  go_ret2
  exact ⟨rfl, hB6⟩
end Go.Mun
