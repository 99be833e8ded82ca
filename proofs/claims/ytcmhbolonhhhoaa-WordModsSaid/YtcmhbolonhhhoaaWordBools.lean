/- The walks of word's functions of two words: And, Or, Xor, Not. -/
import Derived.Test.YtcmhbolonhhhoaaWordEach
namespace Go.Mun
open Go Go.RowKit Go.Proofs

theorem And1_any (x y : Nat) (w : World) (hx : x < 256) (hy : y < 256) : Calls Try.prog 64 #[.int .u8 (x : Nat), .int .u8 (y : Nat)] w fun e w' => e = .returned (.int .u8 (x &&& y : Nat)) ∧ w' = w := by
  have HB := Lib.hid (u8_and_nat x y hx hy)
  go_enter Try.func64, Try.ntmps64
  go_wp2
  go_ret
  exact ⟨congrArg (fun n => Ending.returned (.int .u8 n)) HB.out, rfl⟩
set_option maxRecDepth 100000 in
theorem And_any (a b : Nat) (w : World) : Calls Try.prog 27 #[.agg (wcells a), .agg (wcells b)] w fun e w' => e = .returned (.agg (wcells (a &&& b))) ∧ Below w.heap.size w w' := by
  have hW := wordTy
  have zW := zWordL
  have HSW := Lib.hid wcells_size
  have H1W := Lib.hid wcells_one
  have CE := Lib.hid (fun w => each_any (fun x y => x &&& y) 64 a b w (run_enter Try.func64 (by kernel_rfl) rfl) And1_any)
  have HE := Lib.hid (show tab .u8 32 (fun j => lowB a (31 - j) &&& lowB b (31 - j)) = wcells (a &&& b) from by
    rw [wcells, bv_wbytes]; exact tab_congr fun j _ => (lowB_and _ _ _).symm)
  rw [HE.out] at CE
  clear HE
  generalize a &&& b = s at *
  have tokF : True := trivial
  have tokE : True := trivial
  go_enter Try.func27, Try.ntmps27
  go_wp2_with (first
    | ((with_reducible refine gd_box ?_); have _t := tokE; refine wpList_box_agg rfl _ (.tmp 0) rfl rfl ?_; clear tokE; intro w1 hx1 hb1 hl1)
    | ((with_reducible refine gd_box ?_); refine wpList_box_agg rfl _ (.tmp 1) rfl rfl ?_; intro w2 hx2 hb2 hl2)
    | ((with_reducible refine gd_alloc ?_); refine wpList_alloc_blk rfl 23 rfl zW ?_; intro w3 hx3 hb3 hl3)
    | ((with_reducible refine gd_load ?_); have _t := tokF; refine wpList_load_blk rfl 23 (.tmp 2) rfl ((hx1.ext hb2).ext hb3) (by rw [HSW.out]; exact hW) rfl ?_; clear tokF)
    | ((with_reducible refine gd_load ?_); refine wpList_load_blk rfl 23 (.tmp 3) rfl (hx2.ext hb3) (by rw [HSW.out]; exact hW) rfl ?_)
    | (go_at_call 63; refine (CE.out _).mono ?_; rintro e w4 ⟨rfl, hb4⟩)
    | ((with_reducible refine gd_store ?_); refine wpList_store_all rfl 23 (.tmp 4) (.tmp 7) rfl (wcells s) (hx3.ext hb4) (by rw [HSW.out]; exact hW) (by rw [HSW.out]; exact HSW.out 0) (H1W.out _) (by rfl) (by rfl) ?_; intro w9 hx9 hg9)
    | fail)
  have hg1 := hx1.lt
  have hg2 := hx2.lt
  have hB4 := below_step (below_step (below_step hb1 hb2) hb3) hb4
  have hB9 := below_blk hB4 hB4.size hg9 (by omega)
  exact bodyPost_ret (results_blk1 (cs := wcells s) rfl (by rw [HSW.out]; exact hW) hx9 rfl) rfl ⟨rfl, hB9⟩
theorem Or1_any (x y : Nat) (w : World) (hx : x < 256) (hy : y < 256) : Calls Try.prog 65 #[.int .u8 (x : Nat), .int .u8 (y : Nat)] w fun e w' => e = .returned (.int .u8 (x ||| y : Nat)) ∧ w' = w := by
  have HB := Lib.hid (u8_or_nat x y hx hy)
  go_enter Try.func65, Try.ntmps65
  go_wp2
  go_ret
  exact ⟨congrArg (fun n => Ending.returned (.int .u8 n)) HB.out, rfl⟩
set_option maxRecDepth 100000 in
theorem Or_any (a b : Nat) (w : World) : Calls Try.prog 29 #[.agg (wcells a), .agg (wcells b)] w fun e w' => e = .returned (.agg (wcells (a ||| b))) ∧ Below w.heap.size w w' := by
  have hW := wordTy
  have zW := zWordL
  have HSW := Lib.hid wcells_size
  have H1W := Lib.hid wcells_one
  have CE := Lib.hid (fun w => each_any (fun x y => x ||| y) 65 a b w (run_enter Try.func65 (by kernel_rfl) rfl) Or1_any)
  have HE := Lib.hid (show tab .u8 32 (fun j => lowB a (31 - j) ||| lowB b (31 - j)) = wcells (a ||| b) from by
    rw [wcells, bv_wbytes]; exact tab_congr fun j _ => (lowB_or _ _ _).symm)
  rw [HE.out] at CE
  clear HE
  generalize a ||| b = s at *
  have tokF : True := trivial
  have tokE : True := trivial
  go_enter Try.func29, Try.ntmps29
  go_wp2_with (first
    | ((with_reducible refine gd_box ?_); have _t := tokE; refine wpList_box_agg rfl _ (.tmp 0) rfl rfl ?_; clear tokE; intro w1 hx1 hb1 hl1)
    | ((with_reducible refine gd_box ?_); refine wpList_box_agg rfl _ (.tmp 1) rfl rfl ?_; intro w2 hx2 hb2 hl2)
    | ((with_reducible refine gd_alloc ?_); refine wpList_alloc_blk rfl 23 rfl zW ?_; intro w3 hx3 hb3 hl3)
    | ((with_reducible refine gd_load ?_); have _t := tokF; refine wpList_load_blk rfl 23 (.tmp 2) rfl ((hx1.ext hb2).ext hb3) (by rw [HSW.out]; exact hW) rfl ?_; clear tokF)
    | ((with_reducible refine gd_load ?_); refine wpList_load_blk rfl 23 (.tmp 3) rfl (hx2.ext hb3) (by rw [HSW.out]; exact hW) rfl ?_)
    | (go_at_call 63; refine (CE.out _).mono ?_; rintro e w4 ⟨rfl, hb4⟩)
    | ((with_reducible refine gd_store ?_); refine wpList_store_all rfl 23 (.tmp 4) (.tmp 7) rfl (wcells s) (hx3.ext hb4) (by rw [HSW.out]; exact hW) (by rw [HSW.out]; exact HSW.out 0) (H1W.out _) (by rfl) (by rfl) ?_; intro w9 hx9 hg9)
    | fail)
  have hg1 := hx1.lt
  have hg2 := hx2.lt
  have hB4 := below_step (below_step (below_step hb1 hb2) hb3) hb4
  have hB9 := below_blk hB4 hB4.size hg9 (by omega)
  exact bodyPost_ret (results_blk1 (cs := wcells s) rfl (by rw [HSW.out]; exact hW) hx9 rfl) rfl ⟨rfl, hB9⟩
theorem Xor1_any (x y : Nat) (w : World) (hx : x < 256) (hy : y < 256) : Calls Try.prog 66 #[.int .u8 (x : Nat), .int .u8 (y : Nat)] w fun e w' => e = .returned (.int .u8 (x ^^^ y : Nat)) ∧ w' = w := by
  have HB := Lib.hid (u8_xor_nat x y hx hy)
  go_enter Try.func66, Try.ntmps66
  go_wp2
  go_ret
  exact ⟨congrArg (fun n => Ending.returned (.int .u8 n)) HB.out, rfl⟩
set_option maxRecDepth 100000 in
theorem Xor_any (a b : Nat) (w : World) : Calls Try.prog 31 #[.agg (wcells a), .agg (wcells b)] w fun e w' => e = .returned (.agg (wcells (a ^^^ b))) ∧ Below w.heap.size w w' := by
  have hW := wordTy
  have zW := zWordL
  have HSW := Lib.hid wcells_size
  have H1W := Lib.hid wcells_one
  have CE := Lib.hid (fun w => each_any (fun x y => x ^^^ y) 66 a b w (run_enter Try.func66 (by kernel_rfl) rfl) Xor1_any)
  have HE := Lib.hid (show tab .u8 32 (fun j => lowB a (31 - j) ^^^ lowB b (31 - j)) = wcells (a ^^^ b) from by
    rw [wcells, bv_wbytes]; exact tab_congr fun j _ => (lowB_xor _ _ _).symm)
  rw [HE.out] at CE
  clear HE
  generalize a ^^^ b = s at *
  have tokF : True := trivial
  have tokE : True := trivial
  go_enter Try.func31, Try.ntmps31
  go_wp2_with (first
    | ((with_reducible refine gd_box ?_); have _t := tokE; refine wpList_box_agg rfl _ (.tmp 0) rfl rfl ?_; clear tokE; intro w1 hx1 hb1 hl1)
    | ((with_reducible refine gd_box ?_); refine wpList_box_agg rfl _ (.tmp 1) rfl rfl ?_; intro w2 hx2 hb2 hl2)
    | ((with_reducible refine gd_alloc ?_); refine wpList_alloc_blk rfl 23 rfl zW ?_; intro w3 hx3 hb3 hl3)
    | ((with_reducible refine gd_load ?_); have _t := tokF; refine wpList_load_blk rfl 23 (.tmp 2) rfl ((hx1.ext hb2).ext hb3) (by rw [HSW.out]; exact hW) rfl ?_; clear tokF)
    | ((with_reducible refine gd_load ?_); refine wpList_load_blk rfl 23 (.tmp 3) rfl (hx2.ext hb3) (by rw [HSW.out]; exact hW) rfl ?_)
    | (go_at_call 63; refine (CE.out _).mono ?_; rintro e w4 ⟨rfl, hb4⟩)
    | ((with_reducible refine gd_store ?_); refine wpList_store_all rfl 23 (.tmp 4) (.tmp 7) rfl (wcells s) (hx3.ext hb4) (by rw [HSW.out]; exact hW) (by rw [HSW.out]; exact HSW.out 0) (H1W.out _) (by rfl) (by rfl) ?_; intro w9 hx9 hg9)
    | fail)
  have hg1 := hx1.lt
  have hg2 := hx2.lt
  have hB4 := below_step (below_step (below_step hb1 hb2) hb3) hb4
  have hB9 := below_blk hB4 hB4.size hg9 (by omega)
  exact bodyPost_ret (results_blk1 (cs := wcells s) rfl (by rw [HSW.out]; exact hW) hx9 rfl) rfl ⟨rfl, hB9⟩
theorem Not1_any (x y : Nat) (w : World) (hx : x < 256) (_hy : y < 256) : Calls Try.prog 67 #[.int .u8 (x : Nat), .int .u8 (y : Nat)] w fun e w' => e = .returned (.int .u8 (255 - x : Nat)) ∧ w' = w := by
  have HB := Lib.hid (xor_byte x hx)
  have hs : ¬ IntKind.u8.signed = true := by decide
  go_enter Try.func67, Try.ntmps67
  go_wp2
  go_ret
  exact ⟨congrArg (fun n => Ending.returned (.int .u8 n)) HB.out, rfl⟩
set_option maxRecDepth 100000 in
theorem Not_any (a : Nat) (w : World) (ha : a < 2 ^ 256) : Calls Try.prog 33 #[.agg (wcells a)] w fun e w' => e = .returned (.agg (wcells (notN a))) ∧ Below w.heap.size w w' := by
  have hW := wordTy
  have zW := zWordL
  have HSW := Lib.hid wcells_size
  have H1W := Lib.hid wcells_one
  have CE := Lib.hid (fun w => each_any (fun x _ => 255 - x) 67 a a w (run_enter Try.func67 (by kernel_rfl) rfl) Not1_any)
  have HE := Lib.hid (show tab .u8 32 (fun j => 255 - lowB a (31 - j)) = wcells (notN a) from by
    rw [wcells, bv_wbytes]; exact tab_congr fun j hj => (lowB_not ha _ (by omega)).symm)
  rw [HE.out] at CE
  clear HE ha
  generalize notN a = s at *
  go_enter Try.func33, Try.ntmps33
  go_wp2_with (first
    | ((with_reducible refine gd_box ?_); refine wpList_box_agg rfl _ (.tmp 0) rfl rfl ?_; intro w2 hx2 hb2 hl2)
    | ((with_reducible refine gd_alloc ?_); refine wpList_alloc_blk rfl 23 rfl zW ?_; intro w3 hx3 hb3 hl3)
    | ((with_reducible refine gd_load ?_); refine wpList_load_blk rfl 23 (.tmp 1) rfl (hx2.ext hb3) (by rw [HSW.out]; exact hW) rfl ?_)
    | (go_at_call 63; refine (CE.out _).mono ?_; rintro e w4 ⟨rfl, hb4⟩)
    | ((with_reducible refine gd_store ?_); refine wpList_store_all rfl 23 (.tmp 2) (.tmp 5) rfl (wcells s) (hx3.ext hb4) (by rw [HSW.out]; exact hW) (by rw [HSW.out]; exact HSW.out 0) (H1W.out _) (by rfl) (by rfl) ?_; intro w9 hx9 hg9)
    | fail)
  have hg2 := hx2.lt
  have hB4 := below_step (below_step hb2 hb3) hb4
  have hB9 := below_blk hB4 hB4.size hg9 (by omega)
  exact bodyPost_ret (results_blk1 (cs := wcells s) rfl (by rw [HSW.out]; exact hW) hx9 rfl) rfl ⟨rfl, hB9⟩
end Go.Mun
