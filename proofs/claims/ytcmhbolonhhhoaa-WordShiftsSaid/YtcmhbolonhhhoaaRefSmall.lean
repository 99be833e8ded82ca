/- The walks of munimentsref1.small and Byte. -/
import Derived.Test.YtcmhbolonhhhoaaRefMoved
import Derived.Test.YtcmhbolonhhhoaaWordAll
namespace Go.Mun
open Go Go.RowKit Go.Proofs

set_option maxRecDepth 100000 in
set_option maxHeartbeats 400000 in
theorem small_in (k : Nat) (w : World) (hk : k < 256) : Calls Try.prog 59 #[.agg (wcells k)] w fun e w' => e = .returned (.tuple #[.int .i64 (k : Nat), .bool true]) ∧ Below w.heap.size w w' := by
  have hW := wordTy
  have HSW := Lib.hid wcells_size
  have CInt := Lib.hid (fun w => RefInt_yes k w (Nat.lt_trans hk (by decide)))
  have d1 : decide ((k : Int) < 256) = true := decide_eq_true (by omega)
  clear hk
  go_enter Try.func59, Try.ntmps59
  go_wp2_with (first
    | ((with_reducible refine gd_box ?_); refine wpList_box_agg rfl _ (.tmp 0) rfl rfl ?_; intro w2 hx2 hb2 hl2)
    | ((with_reducible refine gd_load ?_); refine wpList_load_blk rfl 23 (.tmp 1) rfl hx2 (by rw [HSW.out]; exact hW) rfl ?_)
    | (go_at_call 78; refine (CInt.out _).mono ?_; rintro e w3 ⟨rfl, hb3⟩)
    | fail)
  go_ret2
  exact ⟨rfl, below_step hb2 hb3⟩
set_option maxRecDepth 100000 in
set_option maxHeartbeats 400000 in
theorem small_mid (k : Nat) (w : World) (hk : ¬ k < 256) (hk2 : k < 2 ^ 63) : Calls Try.prog 59 #[.agg (wcells k)] w fun e w' => e = .returned (.tuple #[.int .i64 (k : Nat), .bool false]) ∧ Below w.heap.size w w' := by
  have hW := wordTy
  have HSW := Lib.hid wcells_size
  have CInt := Lib.hid (fun w => RefInt_yes k w hk2)
  have d1 : decide ((k : Int) < 256) = false := decide_eq_false (by omega)
  clear hk hk2
  go_enter Try.func59, Try.ntmps59
  go_wp2_with (first
    | ((with_reducible refine gd_box ?_); refine wpList_box_agg rfl _ (.tmp 0) rfl rfl ?_; intro w2 hx2 hb2 hl2)
    | ((with_reducible refine gd_load ?_); refine wpList_load_blk rfl 23 (.tmp 1) rfl hx2 (by rw [HSW.out]; exact hW) rfl ?_)
    | (go_at_call 78; refine (CInt.out _).mono ?_; rintro e w3 ⟨rfl, hb3⟩)
    | fail)
  go_ret2
  exact ⟨rfl, below_step hb2 hb3⟩
set_option maxRecDepth 100000 in
set_option maxHeartbeats 400000 in
theorem small_out (k : Nat) (w : World) (hk : k < 2 ^ 256) (hk2 : ¬ k < 2 ^ 63) : Calls Try.prog 59 #[.agg (wcells k)] w fun e w' => e = .returned (.tuple #[.int .i64 0, .bool false]) ∧ Below w.heap.size w w' := by
  have hW := wordTy
  have HSW := Lib.hid wcells_size
  have CInt := Lib.hid (fun w => RefInt_no k w hk hk2)
  clear hk hk2
  go_enter Try.func59, Try.ntmps59
  go_wp2_with (first
    | ((with_reducible refine gd_box ?_); refine wpList_box_agg rfl _ (.tmp 0) rfl rfl ?_; intro w2 hx2 hb2 hl2)
    | ((with_reducible refine gd_load ?_); refine wpList_load_blk rfl 23 (.tmp 1) rfl hx2 (by rw [HSW.out]; exact hW) rfl ?_)
    | (go_at_call 78; refine (CInt.out _).mono ?_; rintro e w3 ⟨rfl, hb3⟩)
    | fail)
  go_ret2
  exact ⟨rfl, below_step hb2 hb3⟩

set_option maxRecDepth 100000 in
set_option maxHeartbeats 400000 in
theorem RefByte_in (k a : Nat) (w : World) (hk : k < 32) : Calls Try.prog 25 #[.agg (wcells k), .agg (wcells a)] w fun e w' => e = .returned (.agg (wcells (lowB a (31 - k)))) ∧ Below w.heap.size w w' := by
  have hW := wordTy
  have zW := zWordL
  have HSW := Lib.hid wcells_size
  have H1W := Lib.hid wcells_one
  have CInt := Lib.hid (fun w => small_in k w (Nat.lt_trans hk (by decide)))
  have HG := Lib.hid (wcells_get a hk)
  have d0 : (0 : Int) ≤ (k : Int) := by omega
  have d1 : (k : Int) < 32 := by omega
  have hlb := lowB_lt a (31 - k)
  have COf := Lib.hid (fun w => RefOf_any ((lowB a (31 - k) : Nat) : Int) w (by omega) (by omega))
  rw [ofN_nat _ (by omega)] at COf
  clear hk
  generalize lowB a (31 - k) = s at *
  have d2 : (0 : Int) ≤ (s : Int) := by omega
  have d3 : (s : Int) < 256 := by omega
  clear hlb
  have tokE : True := trivial
  go_enter Try.func25, Try.ntmps25
  go_wp2_with (first
    | ((with_reducible refine gd_box ?_); have _t := tokE; refine wpList_box_agg rfl _ (.tmp 0) rfl rfl ?_; clear tokE; intro w1 hx1 hb1 hl1)
    | ((with_reducible refine gd_box ?_); refine wpList_box_agg rfl _ (.tmp 1) rfl rfl ?_; intro w2 hx2 hb2 hl2)
    | ((with_reducible refine gd_alloc ?_); refine wpList_alloc_blk rfl 23 rfl zW ?_; intro w3 hx3 hb3 hl3)
    | ((with_reducible refine gd_load ?_); refine wpList_load_blk rfl 23 (.tmp 2) rfl ((hx1.ext hb2).ext hb3) (by rw [HSW.out]; exact hW) rfl ?_)
    | (go_at_call 59; refine (CInt.out _).mono ?_; rintro e w4 ⟨rfl, hb4⟩; have hcell := ((hx2.ext hb3).ext hb4).cellv HG.out)
    | (go_at_call 19; refine (COf.out _).mono ?_; rintro e w5 ⟨rfl, hb5⟩)
    | ((with_reducible refine gd_store ?_); refine wpList_store_all rfl 23 (.tmp 4) (.tmp 23) rfl (wcells s) ((hx3.ext hb4).ext hb5) (by rw [HSW.out]; exact hW) (by rw [HSW.out]; exact HSW.out 0) (H1W.out _) (by rfl) (by rfl) ?_; intro w9 hx9 hg9)
    | fail)
  have hg1 := hx1.lt
  have hg2 := hx2.lt
  have hB4 := below_step (below_step (below_step (below_step hb1 hb2) hb3) hb4) hb5
  have hB9 := below_blk hB4 hB4.size hg9 (by omega)
  exact bodyPost_ret (results_blk1 (cs := wcells s) rfl (by rw [HSW.out]; exact hW) hx9 rfl) rfl ⟨rfl, hB9⟩
set_option maxRecDepth 100000 in
set_option maxHeartbeats 400000 in
theorem RefByte_mid (k a : Nat) (w : World) (hk : ¬ k < 32) (hk2 : k < 256) : Calls Try.prog 25 #[.agg (wcells k), .agg (wcells a)] w fun e w' => e = .returned (.agg (wcells (0))) ∧ Below w.heap.size w w' := by
  have hW := wordTy
  have zW := zWordL
  have HSW := Lib.hid wcells_size
  have H1W := Lib.hid wcells_one
  have CInt := Lib.hid (fun w => small_in k w hk2)
  have hz0 := wcells_lit0
  have d1 : 32 ≤ (k : Int) := by omega
  clear hk hk2
  have tokE : True := trivial
  go_enter Try.func25, Try.ntmps25
  go_wp2_with (first
    | ((with_reducible refine gd_box ?_); have _t := tokE; refine wpList_box_agg rfl _ (.tmp 0) rfl rfl ?_; clear tokE; intro w1 hx1 hb1 hl1)
    | ((with_reducible refine gd_box ?_); refine wpList_box_agg rfl _ (.tmp 1) rfl rfl ?_; intro w2 hx2 hb2 hl2)
    | ((with_reducible refine gd_alloc ?_); refine wpList_alloc_blk rfl 23 rfl zW ?_; intro w3 hx3 hb3 hl3)
    | ((with_reducible refine gd_load ?_); refine wpList_load_blk rfl 23 (.tmp 2) rfl ((hx1.ext hb2).ext hb3) (by rw [HSW.out]; exact hW) rfl ?_)
    | (go_at_call 59; refine (CInt.out _).mono ?_; rintro e w4 ⟨rfl, hb4⟩)
    | ((with_reducible refine gd_store ?_); refine wpList_store_all rfl 23 (.tmp 4) (.tmp 18) rfl (wcells 0) (hx3.ext hb4) (by rw [HSW.out]; exact hW) (by rw [HSW.out]; exact HSW.out 0) (H1W.out _) (by rfl) (congrArg Value.agg hz0) ?_; intro w9 hx9 hg9)
    | fail)
  have hg1 := hx1.lt
  have hg2 := hx2.lt
  have hB4 := below_step (below_step (below_step hb1 hb2) hb3) hb4
  have hB9 := below_blk hB4 hB4.size hg9 (by omega)
  exact bodyPost_ret (results_blk1 (cs := wcells 0) rfl (by rw [HSW.out]; exact hW) hx9 rfl) rfl ⟨rfl, hB9⟩
set_option maxRecDepth 100000 in
set_option maxHeartbeats 400000 in
theorem RefByte_out (k a : Nat) (w : World) (hk2 : ¬ k < 256) (hk : k < 2 ^ 63) : Calls Try.prog 25 #[.agg (wcells k), .agg (wcells a)] w fun e w' => e = .returned (.agg (wcells (0))) ∧ Below w.heap.size w w' := by
  have hW := wordTy
  have zW := zWordL
  have HSW := Lib.hid wcells_size
  have H1W := Lib.hid wcells_one
  have CInt := Lib.hid (fun w => small_mid k w hk2 hk)
  have hz0 := wcells_lit0
  clear hk hk2
  have tokE : True := trivial
  go_enter Try.func25, Try.ntmps25
  go_wp2_with (first
    | ((with_reducible refine gd_box ?_); have _t := tokE; refine wpList_box_agg rfl _ (.tmp 0) rfl rfl ?_; clear tokE; intro w1 hx1 hb1 hl1)
    | ((with_reducible refine gd_box ?_); refine wpList_box_agg rfl _ (.tmp 1) rfl rfl ?_; intro w2 hx2 hb2 hl2)
    | ((with_reducible refine gd_alloc ?_); refine wpList_alloc_blk rfl 23 rfl zW ?_; intro w3 hx3 hb3 hl3)
    | ((with_reducible refine gd_load ?_); refine wpList_load_blk rfl 23 (.tmp 2) rfl ((hx1.ext hb2).ext hb3) (by rw [HSW.out]; exact hW) rfl ?_)
    | (go_at_call 59; refine (CInt.out _).mono ?_; rintro e w4 ⟨rfl, hb4⟩)
    | ((with_reducible refine gd_store ?_); refine wpList_store_all rfl 23 (.tmp 4) (.tmp 18) rfl (wcells 0) (hx3.ext hb4) (by rw [HSW.out]; exact hW) (by rw [HSW.out]; exact HSW.out 0) (H1W.out _) (by rfl) (congrArg Value.agg hz0) ?_; intro w9 hx9 hg9)
    | fail)
  have hg1 := hx1.lt
  have hg2 := hx2.lt
  have hB4 := below_step (below_step (below_step hb1 hb2) hb3) hb4
  have hB9 := below_blk hB4 hB4.size hg9 (by omega)
  exact bodyPost_ret (results_blk1 (cs := wcells 0) rfl (by rw [HSW.out]; exact hW) hx9 rfl) rfl ⟨rfl, hB9⟩

set_option maxRecDepth 100000 in
set_option maxHeartbeats 400000 in
theorem RefByte_big (k a : Nat) (w : World) (hk2 : k < 2 ^ 256) (hk : ¬ k < 2 ^ 63) : Calls Try.prog 25 #[.agg (wcells k), .agg (wcells a)] w fun e w' => e = .returned (.agg (wcells (0))) ∧ Below w.heap.size w w' := by
  have hW := wordTy
  have zW := zWordL
  have HSW := Lib.hid wcells_size
  have H1W := Lib.hid wcells_one
  have CInt := Lib.hid (fun w => small_out k w hk2 hk)
  have hz0 := wcells_lit0
  clear hk hk2
  have tokE : True := trivial
  go_enter Try.func25, Try.ntmps25
  go_wp2_with (first
    | ((with_reducible refine gd_box ?_); have _t := tokE; refine wpList_box_agg rfl _ (.tmp 0) rfl rfl ?_; clear tokE; intro w1 hx1 hb1 hl1)
    | ((with_reducible refine gd_box ?_); refine wpList_box_agg rfl _ (.tmp 1) rfl rfl ?_; intro w2 hx2 hb2 hl2)
    | ((with_reducible refine gd_alloc ?_); refine wpList_alloc_blk rfl 23 rfl zW ?_; intro w3 hx3 hb3 hl3)
    | ((with_reducible refine gd_load ?_); refine wpList_load_blk rfl 23 (.tmp 2) rfl ((hx1.ext hb2).ext hb3) (by rw [HSW.out]; exact hW) rfl ?_)
    | (go_at_call 59; refine (CInt.out _).mono ?_; rintro e w4 ⟨rfl, hb4⟩)
    | ((with_reducible refine gd_store ?_); refine wpList_store_all rfl 23 (.tmp 4) (.tmp 18) rfl (wcells 0) (hx3.ext hb4) (by rw [HSW.out]; exact hW) (by rw [HSW.out]; exact HSW.out 0) (H1W.out _) (by rfl) (congrArg Value.agg hz0) ?_; intro w9 hx9 hg9)
    | fail)
  have hg1 := hx1.lt
  have hg2 := hx2.lt
  have hB4 := below_step (below_step (below_step hb1 hb2) hb3) hb4
  have hB9 := below_blk hB4 hB4.size hg9 (by omega)
  exact bodyPost_ret (results_blk1 (cs := wcells 0) rfl (by rw [HSW.out]; exact hW) hx9 rfl) rfl ⟨rfl, hB9⟩

theorem RefByte_all (k a : Nat) (w : World) (hk : k < 2 ^ 256) : Calls Try.prog 25 #[.agg (wcells k), .agg (wcells a)] w fun e w' => e = .returned (.agg (wcells (byteN k a))) ∧ Below w.heap.size w w' := by
  unfold byteN
  by_cases c : k < 32
  · rw [if_pos c]; exact RefByte_in k a w c
  · rw [if_neg c]
    by_cases c2 : k < 256
    · exact RefByte_mid k a w c c2
    · by_cases c3 : k < 2 ^ 63
      · exact RefByte_out k a w c2 c3
      · exact RefByte_big k a w hk c3
end Go.Mun
