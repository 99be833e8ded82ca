/- The walks of munimentsref1.Shl, Shr, Sar. -/
import Derived.Test.YtcmhbolonhhhoaaRefShiftP
namespace Go.Mun
open Go Go.RowKit Go.Proofs

set_option maxRecDepth 100000 in
set_option maxHeartbeats 4000000 in
theorem RefShl_in (k a : Nat) (w : World) (hk : Hid (k < 256)) (ha : a < 2 ^ 256) : Calls Try.prog 20 #[.agg (wcells k), .agg (wcells a)] w fun e w' => e = .returned (.agg (wcells (shlN k a))) ∧ Below w.heap.size w w' := by
  have hW := wordTy
  have zW := zWordL
  have HSW := Lib.hid wcells_size
  have H1W := Lib.hid wcells_one
  have HZW := Lib.hid wcells_lit0
  have C1 := Lib.hid (fun w => small_in k w hk.out)
  obtain ⟨z3, Ez3⟩ : ∃ z, z = a * 2 ^ k % 2 ^ 256 := ⟨_, rfl⟩
  have hz3 : z3 < 2 ^ 256 := by rw [Ez3]; exact (Nat.mod_lt _ (by decide))
  have C2 := Lib.hid (fun w => moved_left a k w hk.out ha)
  rw [← Ez3] at C2
  have HE := Lib.hid (show z3 = shlN k a from by subst_vars; unfold shlN; rw [if_pos hk.out])
  clear Ez3 hz3
  go_enter Try.func20, Try.ntmps20
  have tk0_0 : True := trivial
  have tk0_1 : True := trivial
  have tk0_2 : True := trivial
  have tk0_3 : True := trivial
  have tk0_4 : True := trivial
  have tk0_5 : True := trivial
  have tk0_6 : True := trivial
  have tk0_7 : True := trivial
  go_wp2_with (first
    | ((with_reducible refine gd_box ?_); have _t := tk0_0; refine wpList_box_agg rfl _ (.tmp 0) rfl rfl ?_; clear tk0_0; intro w1 hx1 hb1 hl1; have hz1 := hx1.lt; have hs1 := hb1.size)
    | ((with_reducible refine gd_box ?_); have _t := tk0_1; refine wpList_box_agg rfl _ (.tmp 1) rfl rfl ?_; clear tk0_1; intro w2 hx2 hb2 hl2; have hz2 := hx2.lt; have hs2 := hb2.size)
    | ((with_reducible refine gd_alloc ?_); have _t := tk0_2; refine wpList_alloc_blk rfl 23 rfl zW ?_; clear tk0_2; intro w3 hx3 hb3 hl3; have hz3 := hx3.lt; have hs3 := hb3.size)
    | ((with_reducible refine gd_load ?_); have _t := tk0_3; refine wpList_load_blk rfl 23 (.tmp 2) rfl ((hx1.ext hb2).ext hb3) (by rw [HSW.out]; exact hW) rfl ?_; clear tk0_3)
    | (go_at_call 59; have _t := tk0_4; refine (C1.out _).mono ?_; clear tk0_4; rintro e w4 ⟨rfl, hb4⟩; have hs4 := hb4.size)
    | ((with_reducible refine gd_load ?_); have _t := tk0_5; refine wpList_load_blk rfl 23 (.tmp 3) rfl ((hx2.ext hb3).ext hb4) (by rw [HSW.out]; exact hW) rfl ?_; clear tk0_5)
    | (go_at_call 60; have _t := tk0_6; refine (C2.out _).mono ?_; clear tk0_6; rintro e w5 ⟨rfl, hb5⟩; have hs5 := hb5.size)
    | ((with_reducible refine gd_store ?_); have _t := tk0_7; refine wpList_store_all rfl 23 (.tmp 4) (.tmp 17) rfl (wcells z3) ((hx3.ext hb4).ext hb5) (by rw [HSW.out]; exact hW) (by rw [HSW.out]; exact HSW.out 0) (H1W.out _) (by rfl) (by rfl) ?_; clear tk0_7; intro w6 hx6 hg6; have hs6 := hg6.size)
    | fail)
  have hy1_1 := (((((hx1.ext hb2).ext hb3).ext hb4).ext hb5).grown hg6 (by simp; omega))
  have hy1_2 := ((((hx2.ext hb3).ext hb4).ext hb5).grown hg6 (by simp; omega))
  have hy1_3 := hx6
  have hB1_1 := hb1
  have hB1_2 := below_step hB1_1 hb2
  have hB1_3 := below_step hB1_2 hb3
  have hB1_4 := below_step hB1_3 hb4
  have hB1_5 := below_step hB1_4 hb5
  have hB1_6 := below_blk hB1_5 hB1_5.size hg6 (by first | omega | (simp; omega))
  clear hb1 hl1 hz1 hs1 hb2 hl2 hz2 hs2 hx3 hb3 hl3 hz3 hs3 hb4 hs4 hb5 hs5 hg6 hs6 hx1 hx2 hx6 hB1_1 hB1_2 hB1_3 hB1_4 hB1_5
  exact bodyPost_ret (results_blk1 (cs := wcells z3) rfl (by rw [HSW.out]; exact hW) hy1_3 rfl) rfl ⟨by rw [HE.out], hB1_6⟩
set_option maxRecDepth 100000 in
set_option maxHeartbeats 4000000 in
theorem RefShl_mid (k a : Nat) (w : World) (hk : Hid (¬ k < 256)) (hk2 : Hid (k < 2 ^ 63)) : Calls Try.prog 20 #[.agg (wcells k), .agg (wcells a)] w fun e w' => e = .returned (.agg (wcells (0))) ∧ Below w.heap.size w w' := by
  have hW := wordTy
  have zW := zWordL
  have HSW := Lib.hid wcells_size
  have H1W := Lib.hid wcells_one
  have HZW := Lib.hid wcells_lit0
  have C1 := Lib.hid (fun w => small_mid k w hk.out hk2.out)
  go_enter Try.func20, Try.ntmps20
  have tk0_0 : True := trivial
  have tk0_1 : True := trivial
  have tk0_2 : True := trivial
  have tk0_3 : True := trivial
  have tk0_4 : True := trivial
  have tk0_5 : True := trivial
  go_wp2_with (first
    | ((with_reducible refine gd_box ?_); have _t := tk0_0; refine wpList_box_agg rfl _ (.tmp 0) rfl rfl ?_; clear tk0_0; intro w1 hx1 hb1 hl1; have hz1 := hx1.lt; have hs1 := hb1.size)
    | ((with_reducible refine gd_box ?_); have _t := tk0_1; refine wpList_box_agg rfl _ (.tmp 1) rfl rfl ?_; clear tk0_1; intro w2 hx2 hb2 hl2; have hz2 := hx2.lt; have hs2 := hb2.size)
    | ((with_reducible refine gd_alloc ?_); have _t := tk0_2; refine wpList_alloc_blk rfl 23 rfl zW ?_; clear tk0_2; intro w3 hx3 hb3 hl3; have hz3 := hx3.lt; have hs3 := hb3.size)
    | ((with_reducible refine gd_load ?_); have _t := tk0_3; refine wpList_load_blk rfl 23 (.tmp 2) rfl ((hx1.ext hb2).ext hb3) (by rw [HSW.out]; exact hW) rfl ?_; clear tk0_3)
    | (go_at_call 59; have _t := tk0_4; refine (C1.out _).mono ?_; clear tk0_4; rintro e w4 ⟨rfl, hb4⟩; have hs4 := hb4.size)
    | ((with_reducible refine gd_store ?_); have _t := tk0_5; refine wpList_store_all rfl 23 (.tmp 4) (.tmp 14) rfl (wcells 0) (hx3.ext hb4) (by rw [HSW.out]; exact hW) (by rw [HSW.out]; exact HSW.out 0) (H1W.out _) (by rfl) (congrArg Value.agg HZW.out) ?_; clear tk0_5; intro w5 hx5 hg5; have hs5 := hg5.size)
    | fail)
  have hy1_1 := ((((hx1.ext hb2).ext hb3).ext hb4).grown hg5 (by simp; omega))
  have hy1_2 := (((hx2.ext hb3).ext hb4).grown hg5 (by simp; omega))
  have hy1_3 := hx5
  have hB1_1 := hb1
  have hB1_2 := below_step hB1_1 hb2
  have hB1_3 := below_step hB1_2 hb3
  have hB1_4 := below_step hB1_3 hb4
  have hB1_5 := below_blk hB1_4 hB1_4.size hg5 (by first | omega | (simp; omega))
  clear hb1 hl1 hz1 hs1 hb2 hl2 hz2 hs2 hx3 hb3 hl3 hz3 hs3 hb4 hs4 hg5 hs5 hx1 hx2 hx5 hB1_1 hB1_2 hB1_3 hB1_4
  exact bodyPost_ret (results_blk1 (cs := wcells 0) rfl (by rw [HSW.out]; exact hW) hy1_3 rfl) rfl ⟨rfl, hB1_5⟩
set_option maxRecDepth 100000 in
set_option maxHeartbeats 4000000 in
theorem RefShl_out (k a : Nat) (w : World) (hk : k < 2 ^ 256) (hk2 : Hid (¬ k < 2 ^ 63)) : Calls Try.prog 20 #[.agg (wcells k), .agg (wcells a)] w fun e w' => e = .returned (.agg (wcells (0))) ∧ Below w.heap.size w w' := by
  have hW := wordTy
  have zW := zWordL
  have HSW := Lib.hid wcells_size
  have H1W := Lib.hid wcells_one
  have HZW := Lib.hid wcells_lit0
  have C1 := Lib.hid (fun w => small_out k w hk hk2.out)
  go_enter Try.func20, Try.ntmps20
  have tk0_0 : True := trivial
  have tk0_1 : True := trivial
  have tk0_2 : True := trivial
  have tk0_3 : True := trivial
  have tk0_4 : True := trivial
  have tk0_5 : True := trivial
  go_wp2_with (first
    | ((with_reducible refine gd_box ?_); have _t := tk0_0; refine wpList_box_agg rfl _ (.tmp 0) rfl rfl ?_; clear tk0_0; intro w1 hx1 hb1 hl1; have hz1 := hx1.lt; have hs1 := hb1.size)
    | ((with_reducible refine gd_box ?_); have _t := tk0_1; refine wpList_box_agg rfl _ (.tmp 1) rfl rfl ?_; clear tk0_1; intro w2 hx2 hb2 hl2; have hz2 := hx2.lt; have hs2 := hb2.size)
    | ((with_reducible refine gd_alloc ?_); have _t := tk0_2; refine wpList_alloc_blk rfl 23 rfl zW ?_; clear tk0_2; intro w3 hx3 hb3 hl3; have hz3 := hx3.lt; have hs3 := hb3.size)
    | ((with_reducible refine gd_load ?_); have _t := tk0_3; refine wpList_load_blk rfl 23 (.tmp 2) rfl ((hx1.ext hb2).ext hb3) (by rw [HSW.out]; exact hW) rfl ?_; clear tk0_3)
    | (go_at_call 59; have _t := tk0_4; refine (C1.out _).mono ?_; clear tk0_4; rintro e w4 ⟨rfl, hb4⟩; have hs4 := hb4.size)
    | ((with_reducible refine gd_store ?_); have _t := tk0_5; refine wpList_store_all rfl 23 (.tmp 4) (.tmp 14) rfl (wcells 0) (hx3.ext hb4) (by rw [HSW.out]; exact hW) (by rw [HSW.out]; exact HSW.out 0) (H1W.out _) (by rfl) (congrArg Value.agg HZW.out) ?_; clear tk0_5; intro w5 hx5 hg5; have hs5 := hg5.size)
    | fail)
  have hy1_1 := ((((hx1.ext hb2).ext hb3).ext hb4).grown hg5 (by simp; omega))
  have hy1_2 := (((hx2.ext hb3).ext hb4).grown hg5 (by simp; omega))
  have hy1_3 := hx5
  have hB1_1 := hb1
  have hB1_2 := below_step hB1_1 hb2
  have hB1_3 := below_step hB1_2 hb3
  have hB1_4 := below_step hB1_3 hb4
  have hB1_5 := below_blk hB1_4 hB1_4.size hg5 (by first | omega | (simp; omega))
  clear hb1 hl1 hz1 hs1 hb2 hl2 hz2 hs2 hx3 hb3 hl3 hz3 hs3 hb4 hs4 hg5 hs5 hx1 hx2 hx5 hB1_1 hB1_2 hB1_3 hB1_4
  exact bodyPost_ret (results_blk1 (cs := wcells 0) rfl (by rw [HSW.out]; exact hW) hy1_3 rfl) rfl ⟨rfl, hB1_5⟩
theorem RefShl_all (k a : Nat) (w : World) (hk : k < 2 ^ 256) (ha : a < 2 ^ 256) : Calls Try.prog 20 #[.agg (wcells k), .agg (wcells a)] w fun e w' => e = .returned (.agg (wcells (shlN k a))) ∧ Below w.heap.size w w' := by
  by_cases c : k < 256
  · exact RefShl_in k a w (Lib.hid c) ha
  · have e : shlN k a = 0 := by unfold shlN; rw [if_neg c]
    rw [e]
    by_cases c2 : k < 2 ^ 63
    · exact RefShl_mid k a w (Lib.hid c) (Lib.hid c2)
    · exact RefShl_out k a w hk (Lib.hid c2)
set_option maxRecDepth 100000 in
set_option maxHeartbeats 4000000 in
theorem RefShr_in (k a : Nat) (w : World) (hk : Hid (k < 256)) (hk1 : (k : Int) < 256) (ha : a < 2 ^ 256) : Calls Try.prog 22 #[.agg (wcells k), .agg (wcells a)] w fun e w' => e = .returned (.agg (wcells (shrN k a))) ∧ Below w.heap.size w w' := by
  have hW := wordTy
  have zW := zWordL
  have HSW := Lib.hid wcells_size
  have H1W := Lib.hid wcells_one
  have HZW := Lib.hid wcells_lit0
  have C1 := Lib.hid (fun w => small_in k w hk.out)
  obtain ⟨z3, Ez3⟩ : ∃ z, z = a / 2 ^ k := ⟨_, rfl⟩
  have hz3 : z3 < 2 ^ 256 := by rw [Ez3]; exact (Nat.lt_of_le_of_lt (Nat.div_le_self _ _) ha)
  have C2 := Lib.hid (fun w => moved_right0 a k w (Nat.le_of_lt hk.out) ha)
  rw [← Ez3] at C2
  have HE := Lib.hid (show z3 = shrN k a from by subst_vars; unfold shrN; rw [if_pos hk.out])
  clear Ez3 hz3
  go_enter Try.func22, Try.ntmps22
  have tk0_0 : True := trivial
  have tk0_1 : True := trivial
  have tk0_2 : True := trivial
  have tk0_3 : True := trivial
  have tk0_4 : True := trivial
  have tk0_5 : True := trivial
  have tk0_6 : True := trivial
  have tk0_7 : True := trivial
  go_wp2_with (first
    | ((with_reducible refine gd_box ?_); have _t := tk0_0; refine wpList_box_agg rfl _ (.tmp 0) rfl rfl ?_; clear tk0_0; intro w1 hx1 hb1 hl1; have hz1 := hx1.lt; have hs1 := hb1.size)
    | ((with_reducible refine gd_box ?_); have _t := tk0_1; refine wpList_box_agg rfl _ (.tmp 1) rfl rfl ?_; clear tk0_1; intro w2 hx2 hb2 hl2; have hz2 := hx2.lt; have hs2 := hb2.size)
    | ((with_reducible refine gd_alloc ?_); have _t := tk0_2; refine wpList_alloc_blk rfl 23 rfl zW ?_; clear tk0_2; intro w3 hx3 hb3 hl3; have hz3 := hx3.lt; have hs3 := hb3.size)
    | ((with_reducible refine gd_load ?_); have _t := tk0_3; refine wpList_load_blk rfl 23 (.tmp 2) rfl ((hx1.ext hb2).ext hb3) (by rw [HSW.out]; exact hW) rfl ?_; clear tk0_3)
    | (go_at_call 59; have _t := tk0_4; refine (C1.out _).mono ?_; clear tk0_4; rintro e w4 ⟨rfl, hb4⟩; have hs4 := hb4.size)
    | ((with_reducible refine gd_load ?_); have _t := tk0_5; refine wpList_load_blk rfl 23 (.tmp 3) rfl ((hx2.ext hb3).ext hb4) (by rw [HSW.out]; exact hW) rfl ?_; clear tk0_5)
    | (go_at_call 60; have _t := tk0_6; refine (C2.out _).mono ?_; clear tk0_6; rintro e w5 ⟨rfl, hb5⟩; have hs5 := hb5.size)
    | ((with_reducible refine gd_store ?_); have _t := tk0_7; refine wpList_store_all rfl 23 (.tmp 4) (.tmp 18) rfl (wcells z3) ((hx3.ext hb4).ext hb5) (by rw [HSW.out]; exact hW) (by rw [HSW.out]; exact HSW.out 0) (H1W.out _) (by rfl) (by rfl) ?_; clear tk0_7; intro w6 hx6 hg6; have hs6 := hg6.size)
    | fail)
  have hy1_1 := (((((hx1.ext hb2).ext hb3).ext hb4).ext hb5).grown hg6 (by simp; omega))
  have hy1_2 := ((((hx2.ext hb3).ext hb4).ext hb5).grown hg6 (by simp; omega))
  have hy1_3 := hx6
  have hB1_1 := hb1
  have hB1_2 := below_step hB1_1 hb2
  have hB1_3 := below_step hB1_2 hb3
  have hB1_4 := below_step hB1_3 hb4
  have hB1_5 := below_step hB1_4 hb5
  have hB1_6 := below_blk hB1_5 hB1_5.size hg6 (by first | omega | (simp; omega))
  clear hb1 hl1 hz1 hs1 hb2 hl2 hz2 hs2 hx3 hb3 hl3 hz3 hs3 hb4 hs4 hb5 hs5 hg6 hs6 hx1 hx2 hx6 hB1_1 hB1_2 hB1_3 hB1_4 hB1_5
  exact bodyPost_ret (results_blk1 (cs := wcells z3) rfl (by rw [HSW.out]; exact hW) hy1_3 rfl) rfl ⟨by rw [HE.out], hB1_6⟩
set_option maxRecDepth 100000 in
set_option maxHeartbeats 4000000 in
theorem RefShr_mid (k a : Nat) (w : World) (hk : Hid (¬ k < 256)) (hk2 : Hid (k < 2 ^ 63)) : Calls Try.prog 22 #[.agg (wcells k), .agg (wcells a)] w fun e w' => e = .returned (.agg (wcells (0))) ∧ Below w.heap.size w w' := by
  have hW := wordTy
  have zW := zWordL
  have HSW := Lib.hid wcells_size
  have H1W := Lib.hid wcells_one
  have HZW := Lib.hid wcells_lit0
  have C1 := Lib.hid (fun w => small_mid k w hk.out hk2.out)
  go_enter Try.func22, Try.ntmps22
  have tk0_0 : True := trivial
  have tk0_1 : True := trivial
  have tk0_2 : True := trivial
  have tk0_3 : True := trivial
  have tk0_4 : True := trivial
  have tk0_5 : True := trivial
  go_wp2_with (first
    | ((with_reducible refine gd_box ?_); have _t := tk0_0; refine wpList_box_agg rfl _ (.tmp 0) rfl rfl ?_; clear tk0_0; intro w1 hx1 hb1 hl1; have hz1 := hx1.lt; have hs1 := hb1.size)
    | ((with_reducible refine gd_box ?_); have _t := tk0_1; refine wpList_box_agg rfl _ (.tmp 1) rfl rfl ?_; clear tk0_1; intro w2 hx2 hb2 hl2; have hz2 := hx2.lt; have hs2 := hb2.size)
    | ((with_reducible refine gd_alloc ?_); have _t := tk0_2; refine wpList_alloc_blk rfl 23 rfl zW ?_; clear tk0_2; intro w3 hx3 hb3 hl3; have hz3 := hx3.lt; have hs3 := hb3.size)
    | ((with_reducible refine gd_load ?_); have _t := tk0_3; refine wpList_load_blk rfl 23 (.tmp 2) rfl ((hx1.ext hb2).ext hb3) (by rw [HSW.out]; exact hW) rfl ?_; clear tk0_3)
    | (go_at_call 59; have _t := tk0_4; refine (C1.out _).mono ?_; clear tk0_4; rintro e w4 ⟨rfl, hb4⟩; have hs4 := hb4.size)
    | ((with_reducible refine gd_store ?_); have _t := tk0_5; refine wpList_store_all rfl 23 (.tmp 4) (.tmp 14) rfl (wcells 0) (hx3.ext hb4) (by rw [HSW.out]; exact hW) (by rw [HSW.out]; exact HSW.out 0) (H1W.out _) (by rfl) (congrArg Value.agg HZW.out) ?_; clear tk0_5; intro w5 hx5 hg5; have hs5 := hg5.size)
    | fail)
  have hy1_1 := ((((hx1.ext hb2).ext hb3).ext hb4).grown hg5 (by simp; omega))
  have hy1_2 := (((hx2.ext hb3).ext hb4).grown hg5 (by simp; omega))
  have hy1_3 := hx5
  have hB1_1 := hb1
  have hB1_2 := below_step hB1_1 hb2
  have hB1_3 := below_step hB1_2 hb3
  have hB1_4 := below_step hB1_3 hb4
  have hB1_5 := below_blk hB1_4 hB1_4.size hg5 (by first | omega | (simp; omega))
  clear hb1 hl1 hz1 hs1 hb2 hl2 hz2 hs2 hx3 hb3 hl3 hz3 hs3 hb4 hs4 hg5 hs5 hx1 hx2 hx5 hB1_1 hB1_2 hB1_3 hB1_4
  exact bodyPost_ret (results_blk1 (cs := wcells 0) rfl (by rw [HSW.out]; exact hW) hy1_3 rfl) rfl ⟨rfl, hB1_5⟩
set_option maxRecDepth 100000 in
set_option maxHeartbeats 4000000 in
theorem RefShr_out (k a : Nat) (w : World) (hk : k < 2 ^ 256) (hk2 : Hid (¬ k < 2 ^ 63)) : Calls Try.prog 22 #[.agg (wcells k), .agg (wcells a)] w fun e w' => e = .returned (.agg (wcells (0))) ∧ Below w.heap.size w w' := by
  have hW := wordTy
  have zW := zWordL
  have HSW := Lib.hid wcells_size
  have H1W := Lib.hid wcells_one
  have HZW := Lib.hid wcells_lit0
  have C1 := Lib.hid (fun w => small_out k w hk hk2.out)
  go_enter Try.func22, Try.ntmps22
  have tk0_0 : True := trivial
  have tk0_1 : True := trivial
  have tk0_2 : True := trivial
  have tk0_3 : True := trivial
  have tk0_4 : True := trivial
  have tk0_5 : True := trivial
  go_wp2_with (first
    | ((with_reducible refine gd_box ?_); have _t := tk0_0; refine wpList_box_agg rfl _ (.tmp 0) rfl rfl ?_; clear tk0_0; intro w1 hx1 hb1 hl1; have hz1 := hx1.lt; have hs1 := hb1.size)
    | ((with_reducible refine gd_box ?_); have _t := tk0_1; refine wpList_box_agg rfl _ (.tmp 1) rfl rfl ?_; clear tk0_1; intro w2 hx2 hb2 hl2; have hz2 := hx2.lt; have hs2 := hb2.size)
    | ((with_reducible refine gd_alloc ?_); have _t := tk0_2; refine wpList_alloc_blk rfl 23 rfl zW ?_; clear tk0_2; intro w3 hx3 hb3 hl3; have hz3 := hx3.lt; have hs3 := hb3.size)
    | ((with_reducible refine gd_load ?_); have _t := tk0_3; refine wpList_load_blk rfl 23 (.tmp 2) rfl ((hx1.ext hb2).ext hb3) (by rw [HSW.out]; exact hW) rfl ?_; clear tk0_3)
    | (go_at_call 59; have _t := tk0_4; refine (C1.out _).mono ?_; clear tk0_4; rintro e w4 ⟨rfl, hb4⟩; have hs4 := hb4.size)
    | ((with_reducible refine gd_store ?_); have _t := tk0_5; refine wpList_store_all rfl 23 (.tmp 4) (.tmp 14) rfl (wcells 0) (hx3.ext hb4) (by rw [HSW.out]; exact hW) (by rw [HSW.out]; exact HSW.out 0) (H1W.out _) (by rfl) (congrArg Value.agg HZW.out) ?_; clear tk0_5; intro w5 hx5 hg5; have hs5 := hg5.size)
    | fail)
  have hy1_1 := ((((hx1.ext hb2).ext hb3).ext hb4).grown hg5 (by simp; omega))
  have hy1_2 := (((hx2.ext hb3).ext hb4).grown hg5 (by simp; omega))
  have hy1_3 := hx5
  have hB1_1 := hb1
  have hB1_2 := below_step hB1_1 hb2
  have hB1_3 := below_step hB1_2 hb3
  have hB1_4 := below_step hB1_3 hb4
  have hB1_5 := below_blk hB1_4 hB1_4.size hg5 (by first | omega | (simp; omega))
  clear hb1 hl1 hz1 hs1 hb2 hl2 hz2 hs2 hx3 hb3 hl3 hz3 hs3 hb4 hs4 hg5 hs5 hx1 hx2 hx5 hB1_1 hB1_2 hB1_3 hB1_4
  exact bodyPost_ret (results_blk1 (cs := wcells 0) rfl (by rw [HSW.out]; exact hW) hy1_3 rfl) rfl ⟨rfl, hB1_5⟩
theorem RefShr_all (k a : Nat) (w : World) (hk : k < 2 ^ 256) (ha : a < 2 ^ 256) : Calls Try.prog 22 #[.agg (wcells k), .agg (wcells a)] w fun e w' => e = .returned (.agg (wcells (shrN k a))) ∧ Below w.heap.size w w' := by
  by_cases c : k < 256
  · exact RefShr_in k a w (Lib.hid c) (by omega) ha
  · have e : shrN k a = 0 := by unfold shrN; rw [if_neg c]
    rw [e]
    by_cases c2 : k < 2 ^ 63
    · exact RefShr_mid k a w (Lib.hid c) (Lib.hid c2)
    · exact RefShr_out k a w hk (Lib.hid c2)
set_option maxRecDepth 100000 in
set_option maxHeartbeats 4000000 in
theorem RefSar1_in (k a : Nat) (w : World) (hk : Hid (k < 256)) (hk1 : (k : Int) < 256) (ha : a < 2 ^ 256) (hs : Hid (2 ^ 255 ≤ a)) : Calls Try.prog 23 #[.agg (wcells k), .agg (wcells a)] w fun e w' => e = .returned (.agg (wcells (sarN k a))) ∧ Below w.heap.size w w' := by
  have hW := wordTy
  have zW := zWordL
  have HSW := Lib.hid wcells_size
  have H1W := Lib.hid wcells_one
  have HZW := Lib.hid wcells_lit0
  have C1 := Lib.hid (fun w => small_in k w hk.out)
  have C2 := Lib.hid (fun w => bit_top a w ha hs.out)
  obtain ⟨z4, Ez4⟩ : ∃ z, z = notN (notN a / 2 ^ k) := ⟨_, rfl⟩
  have hz4 : z4 < 2 ^ 256 := by rw [Ez4]; exact (notN_lt _)
  have C3 := Lib.hid (fun w => moved_right1 a k w (Nat.le_of_lt hk.out) ha)
  rw [← Ez4] at C3
  have HE := Lib.hid (show z4 = sarN k a from by subst_vars; unfold sarN shrN; rw [if_pos hs.out, if_pos hk.out])
  clear Ez4 hz4
  go_enter Try.func23, Try.ntmps23
  have tk0_0 : True := trivial
  have tk0_1 : True := trivial
  have tk0_2 : True := trivial
  have tk0_3 : True := trivial
  have tk0_4 : True := trivial
  go_wp2_with (first
    | ((with_reducible refine gd_box ?_); have _t := tk0_0; refine wpList_box_agg rfl _ (.tmp 0) rfl rfl ?_; clear tk0_0; intro w1 hx1 hb1 hl1; have hz1 := hx1.lt; have hs1 := hb1.size)
    | ((with_reducible refine gd_box ?_); have _t := tk0_1; refine wpList_box_agg rfl _ (.tmp 1) rfl rfl ?_; clear tk0_1; intro w2 hx2 hb2 hl2; have hz2 := hx2.lt; have hs2 := hb2.size)
    | ((with_reducible refine gd_alloc ?_); have _t := tk0_2; refine wpList_alloc_blk rfl 23 rfl zW ?_; clear tk0_2; intro w3 hx3 hb3 hl3; have hz3 := hx3.lt; have hs3 := hb3.size)
    | ((with_reducible refine gd_load ?_); have _t := tk0_3; refine wpList_load_blk rfl 23 (.tmp 2) rfl ((hx1.ext hb2).ext hb3) (by rw [HSW.out]; exact hW) rfl ?_; clear tk0_3)
    | (go_at_call 59; have _t := tk0_4; refine (C1.out _).mono ?_; clear tk0_4; rintro e w4 ⟨rfl, hb4⟩; have hs4 := hb4.size)
    | fail)
  have hy1_1 := (((hx1.ext hb2).ext hb3).ext hb4)
  have hy1_2 := ((hx2.ext hb3).ext hb4)
  have hy1_3 := (hx3.ext hb4)
  have hB1_1 := hb1
  have hB1_2 := below_step hB1_1 hb2
  have hB1_3 := below_step hB1_2 hb3
  have hB1_4 := below_step hB1_3 hb4
  have hge_1 : w.heap.size ≤ w.heap.size := by omega
  have hge_2 : w.heap.size ≤ w1.heap.size := by omega
  have hlo_1_2 : w.heap.size < w1.heap.size := by omega
  have hge_3 : w.heap.size ≤ w2.heap.size := by omega
  have hlo_1_3 : w.heap.size < w2.heap.size := by omega
  have hlo_2_3 : w1.heap.size < w2.heap.size := by omega
  clear hb1 hl1 hz1 hs1 hb2 hl2 hz2 hs2 hb3 hl3 hz3 hs3 hb4 hs4 hx1 hx2 hx3 hB1_1 hB1_2 hB1_3
  refine wp_region_made (w := w4) (B := w.heap.size) (wB := w) [.val (.agg (wcells a)), .val (.int .i64 ((k : Int))), .val (.int .i64 (-((k : Int)))), .val (.agg (wcells a)), .val (.int .u8 1), .val (.agg (wcells z4)), .putG w2.heap.size 23 (wcells 0) (wcells z4)] (by kernel_rfl) (by kernel_rfl) (by kernel_rfl) rfl (by kernel_rfl) rfl hB1_4.size hB1_4 (List.nodup_cons.2 ⟨List.not_mem_nil, List.nodup_nil⟩) (by intro g hg; simp [heldBy, Knd.blockOf] at hg; subst hg; exact ⟨by omega, hy1_3.lt⟩) ⟨hy1_3, trivial⟩ ?_ ?_
  · refine ⟨?_, ?_, ?_, ?_, ?_, ?_, ?_, trivial⟩
    · intro G wx fr hway _ hs hdef hsz
      have s3 : fr.tmps[3]? = some (.pointer (some ⟨w1.heap.size, 0, none⟩)) := hs.1
      clear hs
      refine ⟨?_⟩
      refine wpList_load_blk rfl 23 (.tmp 3) rfl (way_blk hway hy1_2 (by first | exact hy1_2.lt | omega) (by simp [heldBy, Knd.blockOf]; omega)) (by rw [HSW.out]; exact hW) (by simp [Act.eval, s3]) ?_
      refine wpList_nil ?_
      exact kp_val hdef hsz (Below.refl _ _)
    · intro G wx fr hway _ hs hdef hsz
      have s5 : fr.tmps[5]? = some (.int .i64 ((k : Int))) := hs.1
      clear hs
      refine ⟨?_⟩
      go_wp2
      exact kp_post hsz (Below.refl _ _)
    · intro G wx fr hway _ hs hdef hsz
      have s15 : fr.tmps[15]? = some (.int .i64 ((k : Int))) := hs.1
      clear hs
      refine ⟨?_⟩
      go_wp2
      exact kp_post hsz (Below.refl _ _)
    · intro G wx fr hway _ hs hdef hsz
      have s3 : fr.tmps[3]? = some (.pointer (some ⟨w1.heap.size, 0, none⟩)) := hs.1
      clear hs
      refine ⟨?_⟩
      refine wpList_load_blk rfl 23 (.tmp 3) rfl (way_blk hway hy1_2 (by first | exact hy1_2.lt | omega) (by simp [heldBy, Knd.blockOf]; omega)) (by rw [HSW.out]; exact hW) (by simp [Act.eval, s3]) ?_
      refine wpList_nil ?_
      exact kp_val hdef hsz (Below.refl _ _)
    · intro G wx fr hway _ hs hdef hsz
      have s17 : fr.tmps[17]? = some (.agg (wcells a)) := hs.1
      clear hs
      refine ⟨?_⟩
      go_wp2_with fail
      refine (C2.out wx).mono ?_
      rintro e w2 ⟨rfl, hb2⟩
      go_wp2
      exact kp_post hsz hb2
    · intro G wx fr hway _ hs hdef hsz
      have s14 : fr.tmps[14]? = some (.agg (wcells a)) := hs.1
      have s16 : fr.tmps[16]? = some (.int .i64 (-((k : Int)))) := hs.2.1
      have s18 : fr.tmps[18]? = some (.int .u8 1) := hs.2.2.1
      clear hs
      refine ⟨?_⟩
      go_wp2_with fail
      refine (C3.out wx).mono ?_
      rintro e w2 ⟨rfl, hb2⟩
      go_wp2
      exact kp_post hsz hb2
    · intro G wx fr hway hpre hs hdef hsz
      have s4 : fr.tmps[4]? = some (.pointer (some ⟨w2.heap.size, 0, none⟩)) := hs.1
      have s19 : fr.tmps[19]? = some (.agg (wcells z4)) := hs.2.1
      clear hs
      have hpre' : Blk wx w2.heap.size 23 (wcells 0) := hpre
      refine ⟨?_⟩
      refine wpList_store_all rfl 23 (.tmp 4) (.tmp 19) rfl (wcells z4) hpre' (by rw [HSW.out]; exact hW) (by rw [HSW.out, HSW.out]) (H1W.out _) (by simp [Act.eval, s4]) (by simp [Act.eval, s19]) ?_
      intro wy hxy hgy
      refine wpList_nil ?_
      exact ⟨rfl, hdef, rfl, hxy, hgy⟩
  · intro G V wr3 hval hway hmade hap
    replace hval : V 0 = .agg (wcells a) ∧ V 1 = .int .i64 ((k : Int)) ∧ V 2 = .int .i64 (-((k : Int))) ∧ V 3 = .agg (wcells a) ∧ V 4 = .int .u8 1 ∧ V 5 = .agg (wcells z4) ∧ V 6 = undef ∧ True := hval
    replace hmade : Blk wr3 w2.heap.size 23 (wcells z4) ∧ True := hmade
    obtain ⟨e3_0, e3_1, e3_2, e3_3, e3_4, e3_5, e3_6, -⟩ := hval
    obtain ⟨hx_3_6, -⟩ := hmade
    clear hap
    simp only [fill, Act.put, e3_0, e3_1, e3_2, e3_3, e3_4, e3_5]
    clear e3_0 e3_1 e3_2 e3_3 e3_4 e3_5 e3_6
    simp only [Exit.then]
    go_simp
    clear G V
    replace hy1_1 := way_blk hway hy1_1 hy1_1.lt (by simp [heldBy, Knd.blockOf]; omega)
    replace hy1_2 := way_blk hway hy1_2 hy1_2.lt (by simp [heldBy, Knd.blockOf]; omega)
    replace hB1_4 := hway.2.2
    clear hway
    go_wp2
    exact bodyPost_ret (results_blk1 (cs := wcells z4) rfl (by rw [HSW.out]; exact hW) hx_3_6 rfl) rfl ⟨by rw [HE.out], hB1_4⟩
set_option maxRecDepth 100000 in
set_option maxHeartbeats 4000000 in
theorem RefSar1_mid (k a : Nat) (w : World) (hk : Hid (¬ k < 256)) (hk2 : Hid (k < 2 ^ 63)) (ha : a < 2 ^ 256) (hs : Hid (2 ^ 255 ≤ a)) : Calls Try.prog 23 #[.agg (wcells k), .agg (wcells a)] w fun e w' => e = .returned (.agg (wcells (sarN k a))) ∧ Below w.heap.size w w' := by
  have hW := wordTy
  have zW := zWordL
  have HSW := Lib.hid wcells_size
  have H1W := Lib.hid wcells_one
  have HZW := Lib.hid wcells_lit0
  have C1 := Lib.hid (fun w => small_mid k w hk.out hk2.out)
  have C2 := Lib.hid (fun w => bit_top a w ha hs.out)
  obtain ⟨z4, Ez4⟩ : ∃ z, z = notN (notN a / 2 ^ 256) := ⟨_, rfl⟩
  have hz4 : z4 < 2 ^ 256 := by rw [Ez4]; exact (notN_lt _)
  have C3 := Lib.hid (fun w => moved_right1 a 256 w (Nat.le_refl _) ha)
  rw [← Ez4] at C3
  have HE := Lib.hid (show z4 = sarN k a from by subst_vars; unfold sarN shrN; rw [if_pos hs.out, if_neg hk.out]; rw [Nat.div_eq_of_lt (notN_lt a)])
  clear Ez4 hz4
  go_enter Try.func23, Try.ntmps23
  have tk0_0 : True := trivial
  have tk0_1 : True := trivial
  have tk0_2 : True := trivial
  have tk0_3 : True := trivial
  have tk0_4 : True := trivial
  go_wp2_with (first
    | ((with_reducible refine gd_box ?_); have _t := tk0_0; refine wpList_box_agg rfl _ (.tmp 0) rfl rfl ?_; clear tk0_0; intro w1 hx1 hb1 hl1; have hz1 := hx1.lt; have hs1 := hb1.size)
    | ((with_reducible refine gd_box ?_); have _t := tk0_1; refine wpList_box_agg rfl _ (.tmp 1) rfl rfl ?_; clear tk0_1; intro w2 hx2 hb2 hl2; have hz2 := hx2.lt; have hs2 := hb2.size)
    | ((with_reducible refine gd_alloc ?_); have _t := tk0_2; refine wpList_alloc_blk rfl 23 rfl zW ?_; clear tk0_2; intro w3 hx3 hb3 hl3; have hz3 := hx3.lt; have hs3 := hb3.size)
    | ((with_reducible refine gd_load ?_); have _t := tk0_3; refine wpList_load_blk rfl 23 (.tmp 2) rfl ((hx1.ext hb2).ext hb3) (by rw [HSW.out]; exact hW) rfl ?_; clear tk0_3)
    | (go_at_call 59; have _t := tk0_4; refine (C1.out _).mono ?_; clear tk0_4; rintro e w4 ⟨rfl, hb4⟩; have hs4 := hb4.size)
    | fail)
  have hy1_1 := (((hx1.ext hb2).ext hb3).ext hb4)
  have hy1_2 := ((hx2.ext hb3).ext hb4)
  have hy1_3 := (hx3.ext hb4)
  have hB1_1 := hb1
  have hB1_2 := below_step hB1_1 hb2
  have hB1_3 := below_step hB1_2 hb3
  have hB1_4 := below_step hB1_3 hb4
  have hge_1 : w.heap.size ≤ w.heap.size := by omega
  have hge_2 : w.heap.size ≤ w1.heap.size := by omega
  have hlo_1_2 : w.heap.size < w1.heap.size := by omega
  have hge_3 : w.heap.size ≤ w2.heap.size := by omega
  have hlo_1_3 : w.heap.size < w2.heap.size := by omega
  have hlo_2_3 : w1.heap.size < w2.heap.size := by omega
  clear hb1 hl1 hz1 hs1 hb2 hl2 hz2 hs2 hb3 hl3 hz3 hs3 hb4 hs4 hx1 hx2 hx3 hB1_1 hB1_2 hB1_3
  refine wp_region_made (w := w4) (B := w.heap.size) (wB := w) [.val (.agg (wcells a)), .val (.int .i64 256), .val (.int .i64 (-256)), .val (.agg (wcells a)), .val (.int .u8 1), .val (.agg (wcells z4)), .putG w2.heap.size 23 (wcells 0) (wcells z4)] (by kernel_rfl) (by kernel_rfl) (by kernel_rfl) rfl (by kernel_rfl) rfl hB1_4.size hB1_4 (List.nodup_cons.2 ⟨List.not_mem_nil, List.nodup_nil⟩) (by intro g hg; simp [heldBy, Knd.blockOf] at hg; subst hg; exact ⟨by omega, hy1_3.lt⟩) ⟨hy1_3, trivial⟩ ?_ ?_
  · refine ⟨?_, ?_, ?_, ?_, ?_, ?_, ?_, trivial⟩
    · intro G wx fr hway _ hs hdef hsz
      have s3 : fr.tmps[3]? = some (.pointer (some ⟨w1.heap.size, 0, none⟩)) := hs.1
      clear hs
      refine ⟨?_⟩
      refine wpList_load_blk rfl 23 (.tmp 3) rfl (way_blk hway hy1_2 (by first | exact hy1_2.lt | omega) (by simp [heldBy, Knd.blockOf]; omega)) (by rw [HSW.out]; exact hW) (by simp [Act.eval, s3]) ?_
      refine wpList_nil ?_
      exact kp_val hdef hsz (Below.refl _ _)
    · intro G wx fr hway _ hs hdef hsz
      have s5 : fr.tmps[5]? = some (.int .i64 256) := hs.1
      clear hs
      refine ⟨?_⟩
      go_wp2
      exact kp_post hsz (Below.refl _ _)
    · intro G wx fr hway _ hs hdef hsz
      have s15 : fr.tmps[15]? = some (.int .i64 256) := hs.1
      clear hs
      refine ⟨?_⟩
      go_wp2
      exact kp_post hsz (Below.refl _ _)
    · intro G wx fr hway _ hs hdef hsz
      have s3 : fr.tmps[3]? = some (.pointer (some ⟨w1.heap.size, 0, none⟩)) := hs.1
      clear hs
      refine ⟨?_⟩
      refine wpList_load_blk rfl 23 (.tmp 3) rfl (way_blk hway hy1_2 (by first | exact hy1_2.lt | omega) (by simp [heldBy, Knd.blockOf]; omega)) (by rw [HSW.out]; exact hW) (by simp [Act.eval, s3]) ?_
      refine wpList_nil ?_
      exact kp_val hdef hsz (Below.refl _ _)
    · intro G wx fr hway _ hs hdef hsz
      have s17 : fr.tmps[17]? = some (.agg (wcells a)) := hs.1
      clear hs
      refine ⟨?_⟩
      go_wp2_with fail
      refine (C2.out wx).mono ?_
      rintro e w2 ⟨rfl, hb2⟩
      go_wp2
      exact kp_post hsz hb2
    · intro G wx fr hway _ hs hdef hsz
      have s14 : fr.tmps[14]? = some (.agg (wcells a)) := hs.1
      have s16 : fr.tmps[16]? = some (.int .i64 (-256)) := hs.2.1
      have s18 : fr.tmps[18]? = some (.int .u8 1) := hs.2.2.1
      clear hs
      refine ⟨?_⟩
      go_wp2_with fail
      refine (C3.out wx).mono ?_
      rintro e w2 ⟨rfl, hb2⟩
      go_wp2
      exact kp_post hsz hb2
    · intro G wx fr hway hpre hs hdef hsz
      have s4 : fr.tmps[4]? = some (.pointer (some ⟨w2.heap.size, 0, none⟩)) := hs.1
      have s19 : fr.tmps[19]? = some (.agg (wcells z4)) := hs.2.1
      clear hs
      have hpre' : Blk wx w2.heap.size 23 (wcells 0) := hpre
      refine ⟨?_⟩
      refine wpList_store_all rfl 23 (.tmp 4) (.tmp 19) rfl (wcells z4) hpre' (by rw [HSW.out]; exact hW) (by rw [HSW.out, HSW.out]) (H1W.out _) (by simp [Act.eval, s4]) (by simp [Act.eval, s19]) ?_
      intro wy hxy hgy
      refine wpList_nil ?_
      exact ⟨rfl, hdef, rfl, hxy, hgy⟩
  · intro G V wr3 hval hway hmade hap
    replace hval : V 0 = .agg (wcells a) ∧ V 1 = .int .i64 256 ∧ V 2 = .int .i64 (-256) ∧ V 3 = .agg (wcells a) ∧ V 4 = .int .u8 1 ∧ V 5 = .agg (wcells z4) ∧ V 6 = undef ∧ True := hval
    replace hmade : Blk wr3 w2.heap.size 23 (wcells z4) ∧ True := hmade
    obtain ⟨e3_0, e3_1, e3_2, e3_3, e3_4, e3_5, e3_6, -⟩ := hval
    obtain ⟨hx_3_6, -⟩ := hmade
    clear hap
    simp only [fill, Act.put, e3_0, e3_1, e3_2, e3_3, e3_4, e3_5]
    clear e3_0 e3_1 e3_2 e3_3 e3_4 e3_5 e3_6
    simp only [Exit.then]
    go_simp
    clear G V
    replace hy1_1 := way_blk hway hy1_1 hy1_1.lt (by simp [heldBy, Knd.blockOf]; omega)
    replace hy1_2 := way_blk hway hy1_2 hy1_2.lt (by simp [heldBy, Knd.blockOf]; omega)
    replace hB1_4 := hway.2.2
    clear hway
    go_wp2
    exact bodyPost_ret (results_blk1 (cs := wcells z4) rfl (by rw [HSW.out]; exact hW) hx_3_6 rfl) rfl ⟨by rw [HE.out], hB1_4⟩
set_option maxRecDepth 100000 in
set_option maxHeartbeats 4000000 in
theorem RefSar1_out (k a : Nat) (w : World) (hk : k < 2 ^ 256) (hk2 : Hid (¬ k < 2 ^ 63)) (ha : a < 2 ^ 256) (hs : Hid (2 ^ 255 ≤ a)) : Calls Try.prog 23 #[.agg (wcells k), .agg (wcells a)] w fun e w' => e = .returned (.agg (wcells (sarN k a))) ∧ Below w.heap.size w w' := by
  have hW := wordTy
  have zW := zWordL
  have HSW := Lib.hid wcells_size
  have H1W := Lib.hid wcells_one
  have HZW := Lib.hid wcells_lit0
  have C1 := Lib.hid (fun w => small_out k w hk hk2.out)
  have C2 := Lib.hid (fun w => bit_top a w ha hs.out)
  obtain ⟨z4, Ez4⟩ : ∃ z, z = notN (notN a / 2 ^ 256) := ⟨_, rfl⟩
  have hz4 : z4 < 2 ^ 256 := by rw [Ez4]; exact (notN_lt _)
  have C3 := Lib.hid (fun w => moved_right1 a 256 w (Nat.le_refl _) ha)
  rw [← Ez4] at C3
  have HE := Lib.hid (show z4 = sarN k a from by subst_vars; unfold sarN shrN; rw [if_pos hs.out, if_neg (fun h => hk2.out (Nat.lt_trans h (by decide)))]; rw [Nat.div_eq_of_lt (notN_lt a)])
  clear Ez4 hz4
  go_enter Try.func23, Try.ntmps23
  have tk0_0 : True := trivial
  have tk0_1 : True := trivial
  have tk0_2 : True := trivial
  have tk0_3 : True := trivial
  have tk0_4 : True := trivial
  go_wp2_with (first
    | ((with_reducible refine gd_box ?_); have _t := tk0_0; refine wpList_box_agg rfl _ (.tmp 0) rfl rfl ?_; clear tk0_0; intro w1 hx1 hb1 hl1; have hz1 := hx1.lt; have hs1 := hb1.size)
    | ((with_reducible refine gd_box ?_); have _t := tk0_1; refine wpList_box_agg rfl _ (.tmp 1) rfl rfl ?_; clear tk0_1; intro w2 hx2 hb2 hl2; have hz2 := hx2.lt; have hs2 := hb2.size)
    | ((with_reducible refine gd_alloc ?_); have _t := tk0_2; refine wpList_alloc_blk rfl 23 rfl zW ?_; clear tk0_2; intro w3 hx3 hb3 hl3; have hz3 := hx3.lt; have hs3 := hb3.size)
    | ((with_reducible refine gd_load ?_); have _t := tk0_3; refine wpList_load_blk rfl 23 (.tmp 2) rfl ((hx1.ext hb2).ext hb3) (by rw [HSW.out]; exact hW) rfl ?_; clear tk0_3)
    | (go_at_call 59; have _t := tk0_4; refine (C1.out _).mono ?_; clear tk0_4; rintro e w4 ⟨rfl, hb4⟩; have hs4 := hb4.size)
    | fail)
  have hy1_1 := (((hx1.ext hb2).ext hb3).ext hb4)
  have hy1_2 := ((hx2.ext hb3).ext hb4)
  have hy1_3 := (hx3.ext hb4)
  have hB1_1 := hb1
  have hB1_2 := below_step hB1_1 hb2
  have hB1_3 := below_step hB1_2 hb3
  have hB1_4 := below_step hB1_3 hb4
  have hge_1 : w.heap.size ≤ w.heap.size := by omega
  have hge_2 : w.heap.size ≤ w1.heap.size := by omega
  have hlo_1_2 : w.heap.size < w1.heap.size := by omega
  have hge_3 : w.heap.size ≤ w2.heap.size := by omega
  have hlo_1_3 : w.heap.size < w2.heap.size := by omega
  have hlo_2_3 : w1.heap.size < w2.heap.size := by omega
  clear hb1 hl1 hz1 hs1 hb2 hl2 hz2 hs2 hb3 hl3 hz3 hs3 hb4 hs4 hx1 hx2 hx3 hB1_1 hB1_2 hB1_3
  refine wp_region_made (w := w4) (B := w.heap.size) (wB := w) [.val (.agg (wcells a)), .val (.int .i64 256), .val (.int .i64 (-256)), .val (.agg (wcells a)), .val (.int .u8 1), .val (.agg (wcells z4)), .putG w2.heap.size 23 (wcells 0) (wcells z4)] (by kernel_rfl) (by kernel_rfl) (by kernel_rfl) rfl (by kernel_rfl) rfl hB1_4.size hB1_4 (List.nodup_cons.2 ⟨List.not_mem_nil, List.nodup_nil⟩) (by intro g hg; simp [heldBy, Knd.blockOf] at hg; subst hg; exact ⟨by omega, hy1_3.lt⟩) ⟨hy1_3, trivial⟩ ?_ ?_
  · refine ⟨?_, ?_, ?_, ?_, ?_, ?_, ?_, trivial⟩
    · intro G wx fr hway _ hs hdef hsz
      have s3 : fr.tmps[3]? = some (.pointer (some ⟨w1.heap.size, 0, none⟩)) := hs.1
      clear hs
      refine ⟨?_⟩
      refine wpList_load_blk rfl 23 (.tmp 3) rfl (way_blk hway hy1_2 (by first | exact hy1_2.lt | omega) (by simp [heldBy, Knd.blockOf]; omega)) (by rw [HSW.out]; exact hW) (by simp [Act.eval, s3]) ?_
      refine wpList_nil ?_
      exact kp_val hdef hsz (Below.refl _ _)
    · intro G wx fr hway _ hs hdef hsz
      have s5 : fr.tmps[5]? = some (.int .i64 256) := hs.1
      clear hs
      refine ⟨?_⟩
      go_wp2
      exact kp_post hsz (Below.refl _ _)
    · intro G wx fr hway _ hs hdef hsz
      have s15 : fr.tmps[15]? = some (.int .i64 256) := hs.1
      clear hs
      refine ⟨?_⟩
      go_wp2
      exact kp_post hsz (Below.refl _ _)
    · intro G wx fr hway _ hs hdef hsz
      have s3 : fr.tmps[3]? = some (.pointer (some ⟨w1.heap.size, 0, none⟩)) := hs.1
      clear hs
      refine ⟨?_⟩
      refine wpList_load_blk rfl 23 (.tmp 3) rfl (way_blk hway hy1_2 (by first | exact hy1_2.lt | omega) (by simp [heldBy, Knd.blockOf]; omega)) (by rw [HSW.out]; exact hW) (by simp [Act.eval, s3]) ?_
      refine wpList_nil ?_
      exact kp_val hdef hsz (Below.refl _ _)
    · intro G wx fr hway _ hs hdef hsz
      have s17 : fr.tmps[17]? = some (.agg (wcells a)) := hs.1
      clear hs
      refine ⟨?_⟩
      go_wp2_with fail
      refine (C2.out wx).mono ?_
      rintro e w2 ⟨rfl, hb2⟩
      go_wp2
      exact kp_post hsz hb2
    · intro G wx fr hway _ hs hdef hsz
      have s14 : fr.tmps[14]? = some (.agg (wcells a)) := hs.1
      have s16 : fr.tmps[16]? = some (.int .i64 (-256)) := hs.2.1
      have s18 : fr.tmps[18]? = some (.int .u8 1) := hs.2.2.1
      clear hs
      refine ⟨?_⟩
      go_wp2_with fail
      refine (C3.out wx).mono ?_
      rintro e w2 ⟨rfl, hb2⟩
      go_wp2
      exact kp_post hsz hb2
    · intro G wx fr hway hpre hs hdef hsz
      have s4 : fr.tmps[4]? = some (.pointer (some ⟨w2.heap.size, 0, none⟩)) := hs.1
      have s19 : fr.tmps[19]? = some (.agg (wcells z4)) := hs.2.1
      clear hs
      have hpre' : Blk wx w2.heap.size 23 (wcells 0) := hpre
      refine ⟨?_⟩
      refine wpList_store_all rfl 23 (.tmp 4) (.tmp 19) rfl (wcells z4) hpre' (by rw [HSW.out]; exact hW) (by rw [HSW.out, HSW.out]) (H1W.out _) (by simp [Act.eval, s4]) (by simp [Act.eval, s19]) ?_
      intro wy hxy hgy
      refine wpList_nil ?_
      exact ⟨rfl, hdef, rfl, hxy, hgy⟩
  · intro G V wr3 hval hway hmade hap
    replace hval : V 0 = .agg (wcells a) ∧ V 1 = .int .i64 256 ∧ V 2 = .int .i64 (-256) ∧ V 3 = .agg (wcells a) ∧ V 4 = .int .u8 1 ∧ V 5 = .agg (wcells z4) ∧ V 6 = undef ∧ True := hval
    replace hmade : Blk wr3 w2.heap.size 23 (wcells z4) ∧ True := hmade
    obtain ⟨e3_0, e3_1, e3_2, e3_3, e3_4, e3_5, e3_6, -⟩ := hval
    obtain ⟨hx_3_6, -⟩ := hmade
    clear hap
    simp only [fill, Act.put, e3_0, e3_1, e3_2, e3_3, e3_4, e3_5]
    clear e3_0 e3_1 e3_2 e3_3 e3_4 e3_5 e3_6
    simp only [Exit.then]
    go_simp
    clear G V
    replace hy1_1 := way_blk hway hy1_1 hy1_1.lt (by simp [heldBy, Knd.blockOf]; omega)
    replace hy1_2 := way_blk hway hy1_2 hy1_2.lt (by simp [heldBy, Knd.blockOf]; omega)
    replace hB1_4 := hway.2.2
    clear hway
    go_wp2
    exact bodyPost_ret (results_blk1 (cs := wcells z4) rfl (by rw [HSW.out]; exact hW) hx_3_6 rfl) rfl ⟨by rw [HE.out], hB1_4⟩
set_option maxRecDepth 100000 in
set_option maxHeartbeats 4000000 in
theorem RefSar0_in (k a : Nat) (w : World) (hk : Hid (k < 256)) (hk1 : (k : Int) < 256) (ha : a < 2 ^ 256) (hs : Hid (¬ 2 ^ 255 ≤ a)) : Calls Try.prog 23 #[.agg (wcells k), .agg (wcells a)] w fun e w' => e = .returned (.agg (wcells (sarN k a))) ∧ Below w.heap.size w w' := by
  have hW := wordTy
  have zW := zWordL
  have HSW := Lib.hid wcells_size
  have H1W := Lib.hid wcells_one
  have HZW := Lib.hid wcells_lit0
  have C1 := Lib.hid (fun w => small_in k w hk.out)
  have C2 := Lib.hid (fun w => bit_none a w hs.out)
  obtain ⟨z4, Ez4⟩ : ∃ z, z = a / 2 ^ k := ⟨_, rfl⟩
  have hz4 : z4 < 2 ^ 256 := by rw [Ez4]; exact (Nat.lt_of_le_of_lt (Nat.div_le_self _ _) ha)
  have C3 := Lib.hid (fun w => moved_right0 a k w (Nat.le_of_lt hk.out) ha)
  rw [← Ez4] at C3
  have HE := Lib.hid (show z4 = sarN k a from by subst_vars; unfold sarN shrN; rw [if_neg hs.out, if_pos hk.out])
  clear Ez4 hz4
  go_enter Try.func23, Try.ntmps23
  have tk0_0 : True := trivial
  have tk0_1 : True := trivial
  have tk0_2 : True := trivial
  have tk0_3 : True := trivial
  have tk0_4 : True := trivial
  go_wp2_with (first
    | ((with_reducible refine gd_box ?_); have _t := tk0_0; refine wpList_box_agg rfl _ (.tmp 0) rfl rfl ?_; clear tk0_0; intro w1 hx1 hb1 hl1; have hz1 := hx1.lt; have hs1 := hb1.size)
    | ((with_reducible refine gd_box ?_); have _t := tk0_1; refine wpList_box_agg rfl _ (.tmp 1) rfl rfl ?_; clear tk0_1; intro w2 hx2 hb2 hl2; have hz2 := hx2.lt; have hs2 := hb2.size)
    | ((with_reducible refine gd_alloc ?_); have _t := tk0_2; refine wpList_alloc_blk rfl 23 rfl zW ?_; clear tk0_2; intro w3 hx3 hb3 hl3; have hz3 := hx3.lt; have hs3 := hb3.size)
    | ((with_reducible refine gd_load ?_); have _t := tk0_3; refine wpList_load_blk rfl 23 (.tmp 2) rfl ((hx1.ext hb2).ext hb3) (by rw [HSW.out]; exact hW) rfl ?_; clear tk0_3)
    | (go_at_call 59; have _t := tk0_4; refine (C1.out _).mono ?_; clear tk0_4; rintro e w4 ⟨rfl, hb4⟩; have hs4 := hb4.size)
    | fail)
  have hy1_1 := (((hx1.ext hb2).ext hb3).ext hb4)
  have hy1_2 := ((hx2.ext hb3).ext hb4)
  have hy1_3 := (hx3.ext hb4)
  have hB1_1 := hb1
  have hB1_2 := below_step hB1_1 hb2
  have hB1_3 := below_step hB1_2 hb3
  have hB1_4 := below_step hB1_3 hb4
  have hge_1 : w.heap.size ≤ w.heap.size := by omega
  have hge_2 : w.heap.size ≤ w1.heap.size := by omega
  have hlo_1_2 : w.heap.size < w1.heap.size := by omega
  have hge_3 : w.heap.size ≤ w2.heap.size := by omega
  have hlo_1_3 : w.heap.size < w2.heap.size := by omega
  have hlo_2_3 : w1.heap.size < w2.heap.size := by omega
  clear hb1 hl1 hz1 hs1 hb2 hl2 hz2 hs2 hb3 hl3 hz3 hs3 hb4 hs4 hx1 hx2 hx3 hB1_1 hB1_2 hB1_3
  refine wp_region_made (w := w4) (B := w.heap.size) (wB := w) [.val (.agg (wcells a)), .val (.int .i64 ((k : Int))), .val (.int .i64 (-((k : Int)))), .val (.agg (wcells a)), .val (.int .u8 0), .val (.agg (wcells z4)), .putG w2.heap.size 23 (wcells 0) (wcells z4)] (by kernel_rfl) (by kernel_rfl) (by kernel_rfl) rfl (by kernel_rfl) rfl hB1_4.size hB1_4 (List.nodup_cons.2 ⟨List.not_mem_nil, List.nodup_nil⟩) (by intro g hg; simp [heldBy, Knd.blockOf] at hg; subst hg; exact ⟨by omega, hy1_3.lt⟩) ⟨hy1_3, trivial⟩ ?_ ?_
  · refine ⟨?_, ?_, ?_, ?_, ?_, ?_, ?_, trivial⟩
    · intro G wx fr hway _ hs hdef hsz
      have s3 : fr.tmps[3]? = some (.pointer (some ⟨w1.heap.size, 0, none⟩)) := hs.1
      clear hs
      refine ⟨?_⟩
      refine wpList_load_blk rfl 23 (.tmp 3) rfl (way_blk hway hy1_2 (by first | exact hy1_2.lt | omega) (by simp [heldBy, Knd.blockOf]; omega)) (by rw [HSW.out]; exact hW) (by simp [Act.eval, s3]) ?_
      refine wpList_nil ?_
      exact kp_val hdef hsz (Below.refl _ _)
    · intro G wx fr hway _ hs hdef hsz
      have s5 : fr.tmps[5]? = some (.int .i64 ((k : Int))) := hs.1
      clear hs
      refine ⟨?_⟩
      go_wp2
      exact kp_post hsz (Below.refl _ _)
    · intro G wx fr hway _ hs hdef hsz
      have s15 : fr.tmps[15]? = some (.int .i64 ((k : Int))) := hs.1
      clear hs
      refine ⟨?_⟩
      go_wp2
      exact kp_post hsz (Below.refl _ _)
    · intro G wx fr hway _ hs hdef hsz
      have s3 : fr.tmps[3]? = some (.pointer (some ⟨w1.heap.size, 0, none⟩)) := hs.1
      clear hs
      refine ⟨?_⟩
      refine wpList_load_blk rfl 23 (.tmp 3) rfl (way_blk hway hy1_2 (by first | exact hy1_2.lt | omega) (by simp [heldBy, Knd.blockOf]; omega)) (by rw [HSW.out]; exact hW) (by simp [Act.eval, s3]) ?_
      refine wpList_nil ?_
      exact kp_val hdef hsz (Below.refl _ _)
    · intro G wx fr hway _ hs hdef hsz
      have s17 : fr.tmps[17]? = some (.agg (wcells a)) := hs.1
      clear hs
      refine ⟨?_⟩
      go_wp2_with fail
      refine (C2.out wx).mono ?_
      rintro e w2 ⟨rfl, hb2⟩
      go_wp2
      exact kp_post hsz hb2
    · intro G wx fr hway _ hs hdef hsz
      have s14 : fr.tmps[14]? = some (.agg (wcells a)) := hs.1
      have s16 : fr.tmps[16]? = some (.int .i64 (-((k : Int)))) := hs.2.1
      have s18 : fr.tmps[18]? = some (.int .u8 0) := hs.2.2.1
      clear hs
      refine ⟨?_⟩
      go_wp2_with fail
      refine (C3.out wx).mono ?_
      rintro e w2 ⟨rfl, hb2⟩
      go_wp2
      exact kp_post hsz hb2
    · intro G wx fr hway hpre hs hdef hsz
      have s4 : fr.tmps[4]? = some (.pointer (some ⟨w2.heap.size, 0, none⟩)) := hs.1
      have s19 : fr.tmps[19]? = some (.agg (wcells z4)) := hs.2.1
      clear hs
      have hpre' : Blk wx w2.heap.size 23 (wcells 0) := hpre
      refine ⟨?_⟩
      refine wpList_store_all rfl 23 (.tmp 4) (.tmp 19) rfl (wcells z4) hpre' (by rw [HSW.out]; exact hW) (by rw [HSW.out, HSW.out]) (H1W.out _) (by simp [Act.eval, s4]) (by simp [Act.eval, s19]) ?_
      intro wy hxy hgy
      refine wpList_nil ?_
      exact ⟨rfl, hdef, rfl, hxy, hgy⟩
  · intro G V wr3 hval hway hmade hap
    replace hval : V 0 = .agg (wcells a) ∧ V 1 = .int .i64 ((k : Int)) ∧ V 2 = .int .i64 (-((k : Int))) ∧ V 3 = .agg (wcells a) ∧ V 4 = .int .u8 0 ∧ V 5 = .agg (wcells z4) ∧ V 6 = undef ∧ True := hval
    replace hmade : Blk wr3 w2.heap.size 23 (wcells z4) ∧ True := hmade
    obtain ⟨e3_0, e3_1, e3_2, e3_3, e3_4, e3_5, e3_6, -⟩ := hval
    obtain ⟨hx_3_6, -⟩ := hmade
    clear hap
    simp only [fill, Act.put, e3_0, e3_1, e3_2, e3_3, e3_4, e3_5]
    clear e3_0 e3_1 e3_2 e3_3 e3_4 e3_5 e3_6
    simp only [Exit.then]
    go_simp
    clear G V
    replace hy1_1 := way_blk hway hy1_1 hy1_1.lt (by simp [heldBy, Knd.blockOf]; omega)
    replace hy1_2 := way_blk hway hy1_2 hy1_2.lt (by simp [heldBy, Knd.blockOf]; omega)
    replace hB1_4 := hway.2.2
    clear hway
    go_wp2
    exact bodyPost_ret (results_blk1 (cs := wcells z4) rfl (by rw [HSW.out]; exact hW) hx_3_6 rfl) rfl ⟨by rw [HE.out], hB1_4⟩
set_option maxRecDepth 100000 in
set_option maxHeartbeats 4000000 in
theorem RefSar0_mid (k a : Nat) (w : World) (hk : Hid (¬ k < 256)) (hk2 : Hid (k < 2 ^ 63)) (ha : a < 2 ^ 256) (hs : Hid (¬ 2 ^ 255 ≤ a)) : Calls Try.prog 23 #[.agg (wcells k), .agg (wcells a)] w fun e w' => e = .returned (.agg (wcells (sarN k a))) ∧ Below w.heap.size w w' := by
  have hW := wordTy
  have zW := zWordL
  have HSW := Lib.hid wcells_size
  have H1W := Lib.hid wcells_one
  have HZW := Lib.hid wcells_lit0
  have C1 := Lib.hid (fun w => small_mid k w hk.out hk2.out)
  have C2 := Lib.hid (fun w => bit_none a w hs.out)
  obtain ⟨z4, Ez4⟩ : ∃ z, z = a / 2 ^ 256 := ⟨_, rfl⟩
  have hz4 : z4 < 2 ^ 256 := by rw [Ez4]; exact (Nat.lt_of_le_of_lt (Nat.div_le_self _ _) ha)
  have C3 := Lib.hid (fun w => moved_right0 a 256 w (Nat.le_refl _) ha)
  rw [← Ez4] at C3
  have HE := Lib.hid (show z4 = sarN k a from by subst_vars; unfold sarN shrN; rw [if_neg hs.out, if_neg hk.out]; rw [Nat.div_eq_of_lt (ha)])
  clear Ez4 hz4
  go_enter Try.func23, Try.ntmps23
  have tk0_0 : True := trivial
  have tk0_1 : True := trivial
  have tk0_2 : True := trivial
  have tk0_3 : True := trivial
  have tk0_4 : True := trivial
  go_wp2_with (first
    | ((with_reducible refine gd_box ?_); have _t := tk0_0; refine wpList_box_agg rfl _ (.tmp 0) rfl rfl ?_; clear tk0_0; intro w1 hx1 hb1 hl1; have hz1 := hx1.lt; have hs1 := hb1.size)
    | ((with_reducible refine gd_box ?_); have _t := tk0_1; refine wpList_box_agg rfl _ (.tmp 1) rfl rfl ?_; clear tk0_1; intro w2 hx2 hb2 hl2; have hz2 := hx2.lt; have hs2 := hb2.size)
    | ((with_reducible refine gd_alloc ?_); have _t := tk0_2; refine wpList_alloc_blk rfl 23 rfl zW ?_; clear tk0_2; intro w3 hx3 hb3 hl3; have hz3 := hx3.lt; have hs3 := hb3.size)
    | ((with_reducible refine gd_load ?_); have _t := tk0_3; refine wpList_load_blk rfl 23 (.tmp 2) rfl ((hx1.ext hb2).ext hb3) (by rw [HSW.out]; exact hW) rfl ?_; clear tk0_3)
    | (go_at_call 59; have _t := tk0_4; refine (C1.out _).mono ?_; clear tk0_4; rintro e w4 ⟨rfl, hb4⟩; have hs4 := hb4.size)
    | fail)
  have hy1_1 := (((hx1.ext hb2).ext hb3).ext hb4)
  have hy1_2 := ((hx2.ext hb3).ext hb4)
  have hy1_3 := (hx3.ext hb4)
  have hB1_1 := hb1
  have hB1_2 := below_step hB1_1 hb2
  have hB1_3 := below_step hB1_2 hb3
  have hB1_4 := below_step hB1_3 hb4
  have hge_1 : w.heap.size ≤ w.heap.size := by omega
  have hge_2 : w.heap.size ≤ w1.heap.size := by omega
  have hlo_1_2 : w.heap.size < w1.heap.size := by omega
  have hge_3 : w.heap.size ≤ w2.heap.size := by omega
  have hlo_1_3 : w.heap.size < w2.heap.size := by omega
  have hlo_2_3 : w1.heap.size < w2.heap.size := by omega
  clear hb1 hl1 hz1 hs1 hb2 hl2 hz2 hs2 hb3 hl3 hz3 hs3 hb4 hs4 hx1 hx2 hx3 hB1_1 hB1_2 hB1_3
  refine wp_region_made (w := w4) (B := w.heap.size) (wB := w) [.val (.agg (wcells a)), .val (.int .i64 256), .val (.int .i64 (-256)), .val (.agg (wcells a)), .val (.int .u8 0), .val (.agg (wcells z4)), .putG w2.heap.size 23 (wcells 0) (wcells z4)] (by kernel_rfl) (by kernel_rfl) (by kernel_rfl) rfl (by kernel_rfl) rfl hB1_4.size hB1_4 (List.nodup_cons.2 ⟨List.not_mem_nil, List.nodup_nil⟩) (by intro g hg; simp [heldBy, Knd.blockOf] at hg; subst hg; exact ⟨by omega, hy1_3.lt⟩) ⟨hy1_3, trivial⟩ ?_ ?_
  · refine ⟨?_, ?_, ?_, ?_, ?_, ?_, ?_, trivial⟩
    · intro G wx fr hway _ hs hdef hsz
      have s3 : fr.tmps[3]? = some (.pointer (some ⟨w1.heap.size, 0, none⟩)) := hs.1
      clear hs
      refine ⟨?_⟩
      refine wpList_load_blk rfl 23 (.tmp 3) rfl (way_blk hway hy1_2 (by first | exact hy1_2.lt | omega) (by simp [heldBy, Knd.blockOf]; omega)) (by rw [HSW.out]; exact hW) (by simp [Act.eval, s3]) ?_
      refine wpList_nil ?_
      exact kp_val hdef hsz (Below.refl _ _)
    · intro G wx fr hway _ hs hdef hsz
      have s5 : fr.tmps[5]? = some (.int .i64 256) := hs.1
      clear hs
      refine ⟨?_⟩
      go_wp2
      exact kp_post hsz (Below.refl _ _)
    · intro G wx fr hway _ hs hdef hsz
      have s15 : fr.tmps[15]? = some (.int .i64 256) := hs.1
      clear hs
      refine ⟨?_⟩
      go_wp2
      exact kp_post hsz (Below.refl _ _)
    · intro G wx fr hway _ hs hdef hsz
      have s3 : fr.tmps[3]? = some (.pointer (some ⟨w1.heap.size, 0, none⟩)) := hs.1
      clear hs
      refine ⟨?_⟩
      refine wpList_load_blk rfl 23 (.tmp 3) rfl (way_blk hway hy1_2 (by first | exact hy1_2.lt | omega) (by simp [heldBy, Knd.blockOf]; omega)) (by rw [HSW.out]; exact hW) (by simp [Act.eval, s3]) ?_
      refine wpList_nil ?_
      exact kp_val hdef hsz (Below.refl _ _)
    · intro G wx fr hway _ hs hdef hsz
      have s17 : fr.tmps[17]? = some (.agg (wcells a)) := hs.1
      clear hs
      refine ⟨?_⟩
      go_wp2_with fail
      refine (C2.out wx).mono ?_
      rintro e w2 ⟨rfl, hb2⟩
      go_wp2
      exact kp_post hsz hb2
    · intro G wx fr hway _ hs hdef hsz
      have s14 : fr.tmps[14]? = some (.agg (wcells a)) := hs.1
      have s16 : fr.tmps[16]? = some (.int .i64 (-256)) := hs.2.1
      have s18 : fr.tmps[18]? = some (.int .u8 0) := hs.2.2.1
      clear hs
      refine ⟨?_⟩
      go_wp2_with fail
      refine (C3.out wx).mono ?_
      rintro e w2 ⟨rfl, hb2⟩
      go_wp2
      exact kp_post hsz hb2
    · intro G wx fr hway hpre hs hdef hsz
      have s4 : fr.tmps[4]? = some (.pointer (some ⟨w2.heap.size, 0, none⟩)) := hs.1
      have s19 : fr.tmps[19]? = some (.agg (wcells z4)) := hs.2.1
      clear hs
      have hpre' : Blk wx w2.heap.size 23 (wcells 0) := hpre
      refine ⟨?_⟩
      refine wpList_store_all rfl 23 (.tmp 4) (.tmp 19) rfl (wcells z4) hpre' (by rw [HSW.out]; exact hW) (by rw [HSW.out, HSW.out]) (H1W.out _) (by simp [Act.eval, s4]) (by simp [Act.eval, s19]) ?_
      intro wy hxy hgy
      refine wpList_nil ?_
      exact ⟨rfl, hdef, rfl, hxy, hgy⟩
  · intro G V wr3 hval hway hmade hap
    replace hval : V 0 = .agg (wcells a) ∧ V 1 = .int .i64 256 ∧ V 2 = .int .i64 (-256) ∧ V 3 = .agg (wcells a) ∧ V 4 = .int .u8 0 ∧ V 5 = .agg (wcells z4) ∧ V 6 = undef ∧ True := hval
    replace hmade : Blk wr3 w2.heap.size 23 (wcells z4) ∧ True := hmade
    obtain ⟨e3_0, e3_1, e3_2, e3_3, e3_4, e3_5, e3_6, -⟩ := hval
    obtain ⟨hx_3_6, -⟩ := hmade
    clear hap
    simp only [fill, Act.put, e3_0, e3_1, e3_2, e3_3, e3_4, e3_5]
    clear e3_0 e3_1 e3_2 e3_3 e3_4 e3_5 e3_6
    simp only [Exit.then]
    go_simp
    clear G V
    replace hy1_1 := way_blk hway hy1_1 hy1_1.lt (by simp [heldBy, Knd.blockOf]; omega)
    replace hy1_2 := way_blk hway hy1_2 hy1_2.lt (by simp [heldBy, Knd.blockOf]; omega)
    replace hB1_4 := hway.2.2
    clear hway
    go_wp2
    exact bodyPost_ret (results_blk1 (cs := wcells z4) rfl (by rw [HSW.out]; exact hW) hx_3_6 rfl) rfl ⟨by rw [HE.out], hB1_4⟩
set_option maxRecDepth 100000 in
set_option maxHeartbeats 4000000 in
theorem RefSar0_out (k a : Nat) (w : World) (hk : k < 2 ^ 256) (hk2 : Hid (¬ k < 2 ^ 63)) (ha : a < 2 ^ 256) (hs : Hid (¬ 2 ^ 255 ≤ a)) : Calls Try.prog 23 #[.agg (wcells k), .agg (wcells a)] w fun e w' => e = .returned (.agg (wcells (sarN k a))) ∧ Below w.heap.size w w' := by
  have hW := wordTy
  have zW := zWordL
  have HSW := Lib.hid wcells_size
  have H1W := Lib.hid wcells_one
  have HZW := Lib.hid wcells_lit0
  have C1 := Lib.hid (fun w => small_out k w hk hk2.out)
  have C2 := Lib.hid (fun w => bit_none a w hs.out)
  obtain ⟨z4, Ez4⟩ : ∃ z, z = a / 2 ^ 256 := ⟨_, rfl⟩
  have hz4 : z4 < 2 ^ 256 := by rw [Ez4]; exact (Nat.lt_of_le_of_lt (Nat.div_le_self _ _) ha)
  have C3 := Lib.hid (fun w => moved_right0 a 256 w (Nat.le_refl _) ha)
  rw [← Ez4] at C3
  have HE := Lib.hid (show z4 = sarN k a from by subst_vars; unfold sarN shrN; rw [if_neg hs.out, if_neg (fun h => hk2.out (Nat.lt_trans h (by decide)))]; rw [Nat.div_eq_of_lt (ha)])
  clear Ez4 hz4
  go_enter Try.func23, Try.ntmps23
  have tk0_0 : True := trivial
  have tk0_1 : True := trivial
  have tk0_2 : True := trivial
  have tk0_3 : True := trivial
  have tk0_4 : True := trivial
  go_wp2_with (first
    | ((with_reducible refine gd_box ?_); have _t := tk0_0; refine wpList_box_agg rfl _ (.tmp 0) rfl rfl ?_; clear tk0_0; intro w1 hx1 hb1 hl1; have hz1 := hx1.lt; have hs1 := hb1.size)
    | ((with_reducible refine gd_box ?_); have _t := tk0_1; refine wpList_box_agg rfl _ (.tmp 1) rfl rfl ?_; clear tk0_1; intro w2 hx2 hb2 hl2; have hz2 := hx2.lt; have hs2 := hb2.size)
    | ((with_reducible refine gd_alloc ?_); have _t := tk0_2; refine wpList_alloc_blk rfl 23 rfl zW ?_; clear tk0_2; intro w3 hx3 hb3 hl3; have hz3 := hx3.lt; have hs3 := hb3.size)
    | ((with_reducible refine gd_load ?_); have _t := tk0_3; refine wpList_load_blk rfl 23 (.tmp 2) rfl ((hx1.ext hb2).ext hb3) (by rw [HSW.out]; exact hW) rfl ?_; clear tk0_3)
    | (go_at_call 59; have _t := tk0_4; refine (C1.out _).mono ?_; clear tk0_4; rintro e w4 ⟨rfl, hb4⟩; have hs4 := hb4.size)
    | fail)
  have hy1_1 := (((hx1.ext hb2).ext hb3).ext hb4)
  have hy1_2 := ((hx2.ext hb3).ext hb4)
  have hy1_3 := (hx3.ext hb4)
  have hB1_1 := hb1
  have hB1_2 := below_step hB1_1 hb2
  have hB1_3 := below_step hB1_2 hb3
  have hB1_4 := below_step hB1_3 hb4
  have hge_1 : w.heap.size ≤ w.heap.size := by omega
  have hge_2 : w.heap.size ≤ w1.heap.size := by omega
  have hlo_1_2 : w.heap.size < w1.heap.size := by omega
  have hge_3 : w.heap.size ≤ w2.heap.size := by omega
  have hlo_1_3 : w.heap.size < w2.heap.size := by omega
  have hlo_2_3 : w1.heap.size < w2.heap.size := by omega
  clear hb1 hl1 hz1 hs1 hb2 hl2 hz2 hs2 hb3 hl3 hz3 hs3 hb4 hs4 hx1 hx2 hx3 hB1_1 hB1_2 hB1_3
  refine wp_region_made (w := w4) (B := w.heap.size) (wB := w) [.val (.agg (wcells a)), .val (.int .i64 256), .val (.int .i64 (-256)), .val (.agg (wcells a)), .val (.int .u8 0), .val (.agg (wcells z4)), .putG w2.heap.size 23 (wcells 0) (wcells z4)] (by kernel_rfl) (by kernel_rfl) (by kernel_rfl) rfl (by kernel_rfl) rfl hB1_4.size hB1_4 (List.nodup_cons.2 ⟨List.not_mem_nil, List.nodup_nil⟩) (by intro g hg; simp [heldBy, Knd.blockOf] at hg; subst hg; exact ⟨by omega, hy1_3.lt⟩) ⟨hy1_3, trivial⟩ ?_ ?_
  · refine ⟨?_, ?_, ?_, ?_, ?_, ?_, ?_, trivial⟩
    · intro G wx fr hway _ hs hdef hsz
      have s3 : fr.tmps[3]? = some (.pointer (some ⟨w1.heap.size, 0, none⟩)) := hs.1
      clear hs
      refine ⟨?_⟩
      refine wpList_load_blk rfl 23 (.tmp 3) rfl (way_blk hway hy1_2 (by first | exact hy1_2.lt | omega) (by simp [heldBy, Knd.blockOf]; omega)) (by rw [HSW.out]; exact hW) (by simp [Act.eval, s3]) ?_
      refine wpList_nil ?_
      exact kp_val hdef hsz (Below.refl _ _)
    · intro G wx fr hway _ hs hdef hsz
      have s5 : fr.tmps[5]? = some (.int .i64 256) := hs.1
      clear hs
      refine ⟨?_⟩
      go_wp2
      exact kp_post hsz (Below.refl _ _)
    · intro G wx fr hway _ hs hdef hsz
      have s15 : fr.tmps[15]? = some (.int .i64 256) := hs.1
      clear hs
      refine ⟨?_⟩
      go_wp2
      exact kp_post hsz (Below.refl _ _)
    · intro G wx fr hway _ hs hdef hsz
      have s3 : fr.tmps[3]? = some (.pointer (some ⟨w1.heap.size, 0, none⟩)) := hs.1
      clear hs
      refine ⟨?_⟩
      refine wpList_load_blk rfl 23 (.tmp 3) rfl (way_blk hway hy1_2 (by first | exact hy1_2.lt | omega) (by simp [heldBy, Knd.blockOf]; omega)) (by rw [HSW.out]; exact hW) (by simp [Act.eval, s3]) ?_
      refine wpList_nil ?_
      exact kp_val hdef hsz (Below.refl _ _)
    · intro G wx fr hway _ hs hdef hsz
      have s17 : fr.tmps[17]? = some (.agg (wcells a)) := hs.1
      clear hs
      refine ⟨?_⟩
      go_wp2_with fail
      refine (C2.out wx).mono ?_
      rintro e w2 ⟨rfl, hb2⟩
      go_wp2
      exact kp_post hsz hb2
    · intro G wx fr hway _ hs hdef hsz
      have s14 : fr.tmps[14]? = some (.agg (wcells a)) := hs.1
      have s16 : fr.tmps[16]? = some (.int .i64 (-256)) := hs.2.1
      have s18 : fr.tmps[18]? = some (.int .u8 0) := hs.2.2.1
      clear hs
      refine ⟨?_⟩
      go_wp2_with fail
      refine (C3.out wx).mono ?_
      rintro e w2 ⟨rfl, hb2⟩
      go_wp2
      exact kp_post hsz hb2
    · intro G wx fr hway hpre hs hdef hsz
      have s4 : fr.tmps[4]? = some (.pointer (some ⟨w2.heap.size, 0, none⟩)) := hs.1
      have s19 : fr.tmps[19]? = some (.agg (wcells z4)) := hs.2.1
      clear hs
      have hpre' : Blk wx w2.heap.size 23 (wcells 0) := hpre
      refine ⟨?_⟩
      refine wpList_store_all rfl 23 (.tmp 4) (.tmp 19) rfl (wcells z4) hpre' (by rw [HSW.out]; exact hW) (by rw [HSW.out, HSW.out]) (H1W.out _) (by simp [Act.eval, s4]) (by simp [Act.eval, s19]) ?_
      intro wy hxy hgy
      refine wpList_nil ?_
      exact ⟨rfl, hdef, rfl, hxy, hgy⟩
  · intro G V wr3 hval hway hmade hap
    replace hval : V 0 = .agg (wcells a) ∧ V 1 = .int .i64 256 ∧ V 2 = .int .i64 (-256) ∧ V 3 = .agg (wcells a) ∧ V 4 = .int .u8 0 ∧ V 5 = .agg (wcells z4) ∧ V 6 = undef ∧ True := hval
    replace hmade : Blk wr3 w2.heap.size 23 (wcells z4) ∧ True := hmade
    obtain ⟨e3_0, e3_1, e3_2, e3_3, e3_4, e3_5, e3_6, -⟩ := hval
    obtain ⟨hx_3_6, -⟩ := hmade
    clear hap
    simp only [fill, Act.put, e3_0, e3_1, e3_2, e3_3, e3_4, e3_5]
    clear e3_0 e3_1 e3_2 e3_3 e3_4 e3_5 e3_6
    simp only [Exit.then]
    go_simp
    clear G V
    replace hy1_1 := way_blk hway hy1_1 hy1_1.lt (by simp [heldBy, Knd.blockOf]; omega)
    replace hy1_2 := way_blk hway hy1_2 hy1_2.lt (by simp [heldBy, Knd.blockOf]; omega)
    replace hB1_4 := hway.2.2
    clear hway
    go_wp2
    exact bodyPost_ret (results_blk1 (cs := wcells z4) rfl (by rw [HSW.out]; exact hW) hx_3_6 rfl) rfl ⟨by rw [HE.out], hB1_4⟩
theorem RefSar_all (k a : Nat) (w : World) (hk : k < 2 ^ 256) (ha : a < 2 ^ 256) : Calls Try.prog 23 #[.agg (wcells k), .agg (wcells a)] w fun e w' => e = .returned (.agg (wcells (sarN k a))) ∧ Below w.heap.size w w' := by
  by_cases s : 2 ^ 255 ≤ a
  · by_cases c : k < 256
    · exact RefSar1_in k a w (Lib.hid c) (by omega) ha (Lib.hid s)
    · by_cases c2 : k < 2 ^ 63
      · exact RefSar1_mid k a w (Lib.hid c) (Lib.hid c2) ha (Lib.hid s)
      · exact RefSar1_out k a w hk (Lib.hid c2) ha (Lib.hid s)
  · by_cases c : k < 256
    · exact RefSar0_in k a w (Lib.hid c) (by omega) ha (Lib.hid s)
    · by_cases c2 : k < 2 ^ 63
      · exact RefSar0_mid k a w (Lib.hid c) (Lib.hid c2) ha (Lib.hid s)
      · exact RefSar0_out k a w hk (Lib.hid c2) ha (Lib.hid s)
end Go.Mun
