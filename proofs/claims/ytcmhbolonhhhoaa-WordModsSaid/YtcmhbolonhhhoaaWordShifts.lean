/- The walks of word's functions of two words: shift, Shr. -/
import Derived.Test.YtcmhbolonhhhoaaWordSDivs
namespace Go.Mun
open Go Go.RowKit Go.Proofs

set_option maxRecDepth 100000 in
set_option maxHeartbeats 400000 in
theorem shift_in (k : Nat) (w : World) (hk : k < 256) : Calls Try.prog 49 #[.agg (wcells k)] w fun e w' => e = .returned (.tuple #[.int .i64 (k : Nat), .bool true]) ∧ Below w.heap.size w w' := by
  have hW := wordTy
  have HSW := Lib.hid wcells_size
  have CInt := Lib.hid (fun w => Int_yes k w (Nat.lt_trans hk (by decide)))
  have d1 : decide ((k : Int) < 256) = true := decide_eq_true (by omega)
  clear hk
  go_enter Try.func49, Try.ntmps49
  go_wp2_with (first
    | ((with_reducible refine gd_box ?_); refine wpList_box_agg rfl _ (.tmp 0) rfl rfl ?_; intro w2 hx2 hb2 hl2)
    | ((with_reducible refine gd_load ?_); refine wpList_load_blk rfl 23 (.tmp 1) rfl hx2 (by rw [HSW.out]; exact hW) rfl ?_)
    | (go_at_call 45; refine (CInt.out _).mono ?_; rintro e w3 ⟨rfl, hb3⟩)
    | fail)
  go_ret2
  exact ⟨rfl, below_step hb2 hb3⟩
set_option maxRecDepth 100000 in
set_option maxHeartbeats 400000 in
theorem shift_mid (k : Nat) (w : World) (hk : ¬ k < 256) (hk2 : k < 2 ^ 63) : Calls Try.prog 49 #[.agg (wcells k)] w fun e w' => e = .returned (.tuple #[.int .i64 (k : Nat), .bool false]) ∧ Below w.heap.size w w' := by
  have hW := wordTy
  have HSW := Lib.hid wcells_size
  have CInt := Lib.hid (fun w => Int_yes k w hk2)
  have d1 : decide ((k : Int) < 256) = false := decide_eq_false (by omega)
  clear hk hk2
  go_enter Try.func49, Try.ntmps49
  go_wp2_with (first
    | ((with_reducible refine gd_box ?_); refine wpList_box_agg rfl _ (.tmp 0) rfl rfl ?_; intro w2 hx2 hb2 hl2)
    | ((with_reducible refine gd_load ?_); refine wpList_load_blk rfl 23 (.tmp 1) rfl hx2 (by rw [HSW.out]; exact hW) rfl ?_)
    | (go_at_call 45; refine (CInt.out _).mono ?_; rintro e w3 ⟨rfl, hb3⟩)
    | fail)
  go_ret2
  exact ⟨rfl, below_step hb2 hb3⟩
set_option maxRecDepth 100000 in
set_option maxHeartbeats 400000 in
theorem shift_out (k : Nat) (w : World) (hk : k < 2 ^ 256) (hk2 : ¬ k < 2 ^ 63) : Calls Try.prog 49 #[.agg (wcells k)] w fun e w' => e = .returned (.tuple #[.int .i64 0, .bool false]) ∧ Below w.heap.size w w' := by
  have hW := wordTy
  have HSW := Lib.hid wcells_size
  have CInt := Lib.hid (fun w => Int_no k w hk hk2)
  clear hk hk2
  go_enter Try.func49, Try.ntmps49
  go_wp2_with (first
    | ((with_reducible refine gd_box ?_); refine wpList_box_agg rfl _ (.tmp 0) rfl rfl ?_; intro w2 hx2 hb2 hl2)
    | ((with_reducible refine gd_load ?_); refine wpList_load_blk rfl 23 (.tmp 1) rfl hx2 (by rw [HSW.out]; exact hW) rfl ?_)
    | (go_at_call 45; refine (CInt.out _).mono ?_; rintro e w3 ⟨rfl, hb3⟩)
    | fail)
  go_ret2
  exact ⟨rfl, below_step hb2 hb3⟩
set_option maxRecDepth 100000 in
set_option maxHeartbeats 400000 in
theorem Shr_in (k a : Nat) (w : World) (hk : k < 256) (ha : a < 2 ^ 256) : Calls Try.prog 21 #[.agg (wcells k), .agg (wcells a)] w fun e w' => e = .returned (.agg (wcells (a / 2 ^ k))) ∧ Below w.heap.size w w' := by
  have hW := wordTy
  have hN := numTy
  have zW := zWordL
  have HSN := Lib.hid limbsV_size
  have HSW := Lib.hid wcells_size
  have H1W := Lib.hid wcells_one
  have HFr := Lib.hid from_any
  have HWd := Lib.hid word_any
  have hz0 := wcells_lit0
  have CSh := Lib.hid (fun w => shift_in k w hk)
  have CIn := Lib.hid (fun w => shr_any a k w ha hk)
  have HLT := Lib.hid (show a / 2 ^ k < 2 ^ 256 from Nat.lt_of_le_of_lt (Nat.div_le_self _ _) ha)
  have d1 : (k : Int) < 256 := by omega
  have HK := Lib.hid hk
  clear hk
  generalize (a / 2 ^ k) = s at *
  have tokF : True := trivial
  have tokE : True := trivial
  go_enter Try.func21, Try.ntmps21
  go_wp2_with (first
    | ((with_reducible refine gd_box ?_); have _t := tokE; refine wpList_box_agg rfl _ (.tmp 0) rfl rfl ?_; clear tokE; intro w1 hx1 hb1 hl1)
    | ((with_reducible refine gd_box ?_); refine wpList_box_agg rfl _ (.tmp 1) rfl rfl ?_; intro w2 hx2 hb2 hl2)
    | ((with_reducible refine gd_alloc ?_); refine wpList_alloc_blk rfl 23 rfl zW ?_; intro w3 hx3 hb3 hl3)
    | ((with_reducible refine gd_load ?_); have _t := tokF; refine wpList_load_blk rfl 23 (.tmp 2) rfl ((hx1.ext hb2).ext hb3) (by rw [HSW.out]; exact hW) rfl ?_; clear tokF)
    | (go_at_call 49; refine (CSh.out _).mono ?_; rintro e w4 ⟨rfl, hb4⟩)
    | ((with_reducible refine gd_load ?_); refine wpList_load_blk rfl 23 (.tmp 3) rfl ((hx2.ext hb3).ext hb4) (by rw [HSW.out]; exact hW) rfl ?_)
    | (go_at_call 47; refine (HFr.out a _ ha).mono ?_; rintro e w5 ⟨rfl, hb5⟩)
    | (go_at_call 61; refine (CIn.out _).mono ?_; rintro e w6 ⟨rfl, hb6⟩)
    | (go_at_call 46; refine (HWd.out s _ HLT.out).mono ?_; rintro e w7 ⟨rfl, hb7⟩)
    | ((with_reducible refine gd_store ?_); refine wpList_store_all rfl 23 (.tmp 4) (.tmp 19) rfl (wcells s) ((((hx3.ext hb4).ext hb5).ext hb6).ext hb7) (by rw [HSW.out]; exact hW) (by rw [HSW.out]; exact HSW.out 0) (H1W.out _) (by rfl) (by rfl) ?_; intro w9 hx9 hg9)
    | fail)
  have hg1 := hx1.lt
  have hg2 := hx2.lt
  have hB7 := below_step (below_step (below_step (below_step (below_step (below_step hb1 hb2) hb3) hb4) hb5) hb6) hb7
  have hB9 := below_blk hB7 hB7.size hg9 (by omega)
  exact bodyPost_ret (results_blk1 (cs := wcells s) rfl (by rw [HSW.out]; exact hW) hx9 rfl) rfl ⟨rfl, hB9⟩
set_option maxRecDepth 100000 in
set_option maxHeartbeats 400000 in
theorem Shr_mid (k a : Nat) (w : World) (hk : ¬ k < 256) (hk2 : k < 2 ^ 63) : Calls Try.prog 21 #[.agg (wcells k), .agg (wcells a)] w fun e w' => e = .returned (.agg (wcells 0)) ∧ Below w.heap.size w w' := by
  have hW := wordTy
  have hN := numTy
  have zW := zWordL
  have HSN := Lib.hid limbsV_size
  have HSW := Lib.hid wcells_size
  have H1W := Lib.hid wcells_one
  have HFr := Lib.hid from_any
  have HWd := Lib.hid word_any
  have hz0 := wcells_lit0
  have CSh := Lib.hid (fun w => shift_mid k w hk hk2)
  clear hk hk2
  have tokE : True := trivial
  go_enter Try.func21, Try.ntmps21
  go_wp2_with (first
    | ((with_reducible refine gd_box ?_); have _t := tokE; refine wpList_box_agg rfl _ (.tmp 0) rfl rfl ?_; clear tokE; intro w1 hx1 hb1 hl1)
    | ((with_reducible refine gd_box ?_); refine wpList_box_agg rfl _ (.tmp 1) rfl rfl ?_; intro w2 hx2 hb2 hl2)
    | ((with_reducible refine gd_alloc ?_); refine wpList_alloc_blk rfl 23 rfl zW ?_; intro w3 hx3 hb3 hl3)
    | ((with_reducible refine gd_load ?_); refine wpList_load_blk rfl 23 (.tmp 2) rfl ((hx1.ext hb2).ext hb3) (by rw [HSW.out]; exact hW) rfl ?_)
    | (go_at_call 49; refine (CSh.out _).mono ?_; rintro e w4 ⟨rfl, hb4⟩)
    | ((with_reducible refine gd_store ?_); refine wpList_store_all rfl 23 (.tmp 4) (.tmp 14) rfl (wcells 0) (hx3.ext hb4) (by rw [HSW.out]; exact hW) (by rw [HSW.out]; exact HSW.out 0) (H1W.out _) (by rfl) (congrArg Value.agg hz0) ?_; intro w9 hx9 hg9)
    | fail)
  have hg1 := hx1.lt
  have hg2 := hx2.lt
  have hB7 := below_step (below_step (below_step hb1 hb2) hb3) hb4
  have hB9 := below_blk hB7 hB7.size hg9 (by omega)
  exact bodyPost_ret (results_blk1 (cs := wcells 0) rfl (by rw [HSW.out]; exact hW) hx9 rfl) rfl ⟨rfl, hB9⟩
set_option maxRecDepth 100000 in
set_option maxHeartbeats 400000 in
theorem Shr_big (k a : Nat) (w : World) (hk2 : k < 2 ^ 256) (hk : ¬ k < 2 ^ 63) : Calls Try.prog 21 #[.agg (wcells k), .agg (wcells a)] w fun e w' => e = .returned (.agg (wcells 0)) ∧ Below w.heap.size w w' := by
  have hW := wordTy
  have hN := numTy
  have zW := zWordL
  have HSN := Lib.hid limbsV_size
  have HSW := Lib.hid wcells_size
  have H1W := Lib.hid wcells_one
  have HFr := Lib.hid from_any
  have HWd := Lib.hid word_any
  have hz0 := wcells_lit0
  have CSh := Lib.hid (fun w => shift_out k w hk2 hk)
  clear hk hk2
  have tokE : True := trivial
  go_enter Try.func21, Try.ntmps21
  go_wp2_with (first
    | ((with_reducible refine gd_box ?_); have _t := tokE; refine wpList_box_agg rfl _ (.tmp 0) rfl rfl ?_; clear tokE; intro w1 hx1 hb1 hl1)
    | ((with_reducible refine gd_box ?_); refine wpList_box_agg rfl _ (.tmp 1) rfl rfl ?_; intro w2 hx2 hb2 hl2)
    | ((with_reducible refine gd_alloc ?_); refine wpList_alloc_blk rfl 23 rfl zW ?_; intro w3 hx3 hb3 hl3)
    | ((with_reducible refine gd_load ?_); refine wpList_load_blk rfl 23 (.tmp 2) rfl ((hx1.ext hb2).ext hb3) (by rw [HSW.out]; exact hW) rfl ?_)
    | (go_at_call 49; refine (CSh.out _).mono ?_; rintro e w4 ⟨rfl, hb4⟩)
    | ((with_reducible refine gd_store ?_); refine wpList_store_all rfl 23 (.tmp 4) (.tmp 14) rfl (wcells 0) (hx3.ext hb4) (by rw [HSW.out]; exact hW) (by rw [HSW.out]; exact HSW.out 0) (H1W.out _) (by rfl) (congrArg Value.agg hz0) ?_; intro w9 hx9 hg9)
    | fail)
  have hg1 := hx1.lt
  have hg2 := hx2.lt
  have hB7 := below_step (below_step (below_step hb1 hb2) hb3) hb4
  have hB9 := below_blk hB7 hB7.size hg9 (by omega)
  exact bodyPost_ret (results_blk1 (cs := wcells 0) rfl (by rw [HSW.out]; exact hW) hx9 rfl) rfl ⟨rfl, hB9⟩
end Go.Mun
