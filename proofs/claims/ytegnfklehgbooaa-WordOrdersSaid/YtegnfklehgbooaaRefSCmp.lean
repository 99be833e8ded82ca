/- The walk of munimentsref1.SCmp. -/
import Derived.Test.YtegnfklehgbooaaRefCmps
namespace Go.Mun
open Go Go.RowKit Go.Proofs

set_option maxRecDepth 100000 in
set_option maxHeartbeats 4000000 in
theorem RefSCmp_mm (a b : Nat) (w : World) (ha : a < 2 ^ 256) (hb : b < 2 ^ 256) (hs : Hid (2 ^ 255 ≤ a)) (ht : Hid (2 ^ 255 ≤ b)) : Calls Try.prog 17 #[.agg (wcells a), .agg (wcells b)] w fun e w' => e = .returned (.int .i64 (scmpN a b)) ∧ Below w.heap.size w w' := by
  have hW := wordTy
  have zW := zWordL
  have HSW := Lib.hid wcells_size
  have H1W := Lib.hid wcells_one
  have HZW := Lib.hid wcells_lit0
  have C1 := Lib.hid (fun w => RefNeg_any a w ha)
  rw [decide_eq_true hs.out] at C1
  have C2 := Lib.hid (fun w => RefNeg_any b w hb)
  rw [decide_eq_true ht.out] at C2
  have C3 := Lib.hid (fun w => RefCmp_any a b w ha hb)
  have HE := Lib.hid (show (scmpN a b : Int) = cmpN a b from by unfold scmpN; rw [if_pos hs.out, if_pos ht.out])
  go_enter Try.func17, Try.ntmps17
  have tk0_0 : True := trivial
  have tk0_1 : True := trivial
  have tk0_2 : True := trivial
  have tk0_3 : True := trivial
  have tk0_4 : True := trivial
  have tk0_5 : True := trivial
  have tk0_6 : True := trivial
  have tk0_7 : True := trivial
  have tk0_8 : True := trivial
  go_wp2_with (first
    | ((with_reducible refine gd_box ?_); have _t := tk0_0; refine wpList_box_agg rfl _ (.tmp 0) rfl rfl ?_; clear tk0_0; intro w1 hx1 hb1 hl1; have hz1 := hx1.lt; have hs1 := hb1.size)
    | ((with_reducible refine gd_box ?_); have _t := tk0_1; refine wpList_box_agg rfl _ (.tmp 1) rfl rfl ?_; clear tk0_1; intro w2 hx2 hb2 hl2; have hz2 := hx2.lt; have hs2 := hb2.size)
    | ((with_reducible refine gd_load ?_); have _t := tk0_2; refine wpList_load_blk rfl 23 (.tmp 2) rfl (hx1.ext hb2) (by rw [HSW.out]; exact hW) rfl ?_; clear tk0_2)
    | (go_at_call 50; have _t := tk0_3; refine (C1.out _).mono ?_; clear tk0_3; rintro e w3 ⟨rfl, hb3⟩; have hs3 := hb3.size)
    | ((with_reducible refine gd_load ?_); have _t := tk0_4; refine wpList_load_blk rfl 23 (.tmp 3) rfl (hx2.ext hb3) (by rw [HSW.out]; exact hW) rfl ?_; clear tk0_4)
    | (go_at_call 50; have _t := tk0_5; refine (C2.out _).mono ?_; clear tk0_5; rintro e w4 ⟨rfl, hb4⟩; have hs4 := hb4.size)
    | ((with_reducible refine gd_load ?_); have _t := tk0_6; refine wpList_load_blk rfl 23 (.tmp 2) rfl (((hx1.ext hb2).ext hb3).ext hb4) (by rw [HSW.out]; exact hW) rfl ?_; clear tk0_6)
    | ((with_reducible refine gd_load ?_); have _t := tk0_7; refine wpList_load_blk rfl 23 (.tmp 3) rfl ((hx2.ext hb3).ext hb4) (by rw [HSW.out]; exact hW) rfl ?_; clear tk0_7)
    | (go_at_call 15; have _t := tk0_8; refine (C3.out _).mono ?_; clear tk0_8; rintro e w5 ⟨rfl, hb5⟩; have hs5 := hb5.size)
    | fail)
  have hy1_1 := ((((hx1.ext hb2).ext hb3).ext hb4).ext hb5)
  have hy1_2 := (((hx2.ext hb3).ext hb4).ext hb5)
  have hB1_1 := hb1
  have hB1_2 := below_step hB1_1 hb2
  have hB1_3 := below_step hB1_2 hb3
  have hB1_4 := below_step hB1_3 hb4
  have hB1_5 := below_step hB1_4 hb5
  have hge_1 : w.heap.size ≤ w.heap.size := by omega
  have hge_2 : w.heap.size ≤ w1.heap.size := by omega
  have hlo_1_2 : w.heap.size < w1.heap.size := by omega
  clear hb1 hl1 hz1 hs1 hb2 hl2 hz2 hs2 hb3 hs3 hb4 hs4 hb5 hs5 hx1 hx2 hB1_1 hB1_2 hB1_3 hB1_4
  go_ret
  exact ⟨congrArg (fun n : Int => Ending.returned (.int .i64 n)) HE.out.symm, hB1_5⟩
set_option maxRecDepth 100000 in
set_option maxHeartbeats 4000000 in
theorem RefSCmp_mp (a b : Nat) (w : World) (ha : a < 2 ^ 256) (hb : b < 2 ^ 256) (hs : Hid (2 ^ 255 ≤ a)) (ht : Hid (¬ 2 ^ 255 ≤ b)) : Calls Try.prog 17 #[.agg (wcells a), .agg (wcells b)] w fun e w' => e = .returned (.int .i64 (scmpN a b)) ∧ Below w.heap.size w w' := by
  have hW := wordTy
  have zW := zWordL
  have HSW := Lib.hid wcells_size
  have H1W := Lib.hid wcells_one
  have HZW := Lib.hid wcells_lit0
  have C1 := Lib.hid (fun w => RefNeg_any a w ha)
  rw [decide_eq_true hs.out] at C1
  have C2 := Lib.hid (fun w => RefNeg_any b w hb)
  rw [decide_eq_false ht.out] at C2
  have HE := Lib.hid (show (scmpN a b : Int) = -1 from by unfold scmpN; rw [if_pos hs.out, if_neg ht.out])
  go_enter Try.func17, Try.ntmps17
  have tk0_0 : True := trivial
  have tk0_1 : True := trivial
  have tk0_2 : True := trivial
  have tk0_3 : True := trivial
  have tk0_4 : True := trivial
  have tk0_5 : True := trivial
  go_wp2_with (first
    | ((with_reducible refine gd_box ?_); have _t := tk0_0; refine wpList_box_agg rfl _ (.tmp 0) rfl rfl ?_; clear tk0_0; intro w1 hx1 hb1 hl1; have hz1 := hx1.lt; have hs1 := hb1.size)
    | ((with_reducible refine gd_box ?_); have _t := tk0_1; refine wpList_box_agg rfl _ (.tmp 1) rfl rfl ?_; clear tk0_1; intro w2 hx2 hb2 hl2; have hz2 := hx2.lt; have hs2 := hb2.size)
    | ((with_reducible refine gd_load ?_); have _t := tk0_2; refine wpList_load_blk rfl 23 (.tmp 2) rfl (hx1.ext hb2) (by rw [HSW.out]; exact hW) rfl ?_; clear tk0_2)
    | (go_at_call 50; have _t := tk0_3; refine (C1.out _).mono ?_; clear tk0_3; rintro e w3 ⟨rfl, hb3⟩; have hs3 := hb3.size)
    | ((with_reducible refine gd_load ?_); have _t := tk0_4; refine wpList_load_blk rfl 23 (.tmp 3) rfl (hx2.ext hb3) (by rw [HSW.out]; exact hW) rfl ?_; clear tk0_4)
    | (go_at_call 50; have _t := tk0_5; refine (C2.out _).mono ?_; clear tk0_5; rintro e w4 ⟨rfl, hb4⟩; have hs4 := hb4.size)
    | fail)
  have hy1_1 := (((hx1.ext hb2).ext hb3).ext hb4)
  have hy1_2 := ((hx2.ext hb3).ext hb4)
  have hB1_1 := hb1
  have hB1_2 := below_step hB1_1 hb2
  have hB1_3 := below_step hB1_2 hb3
  have hB1_4 := below_step hB1_3 hb4
  have hge_1 : w.heap.size ≤ w.heap.size := by omega
  have hge_2 : w.heap.size ≤ w1.heap.size := by omega
  have hlo_1_2 : w.heap.size < w1.heap.size := by omega
  clear hb1 hl1 hz1 hs1 hb2 hl2 hz2 hs2 hb3 hs3 hb4 hs4 hx1 hx2 hB1_1 hB1_2 hB1_3
  go_ret
  exact ⟨congrArg (fun n : Int => Ending.returned (.int .i64 n)) HE.out.symm, hB1_4⟩
set_option maxRecDepth 100000 in
set_option maxHeartbeats 4000000 in
theorem RefSCmp_pm (a b : Nat) (w : World) (ha : a < 2 ^ 256) (hb : b < 2 ^ 256) (hs : Hid (¬ 2 ^ 255 ≤ a)) (ht : Hid (2 ^ 255 ≤ b)) : Calls Try.prog 17 #[.agg (wcells a), .agg (wcells b)] w fun e w' => e = .returned (.int .i64 (scmpN a b)) ∧ Below w.heap.size w w' := by
  have hW := wordTy
  have zW := zWordL
  have HSW := Lib.hid wcells_size
  have H1W := Lib.hid wcells_one
  have HZW := Lib.hid wcells_lit0
  have C1 := Lib.hid (fun w => RefNeg_any a w ha)
  rw [decide_eq_false hs.out] at C1
  have C2 := Lib.hid (fun w => RefNeg_any b w hb)
  rw [decide_eq_true ht.out] at C2
  have HE := Lib.hid (show (scmpN a b : Int) = 1 from by unfold scmpN; rw [if_neg hs.out, if_pos ht.out])
  go_enter Try.func17, Try.ntmps17
  have tk0_0 : True := trivial
  have tk0_1 : True := trivial
  have tk0_2 : True := trivial
  have tk0_3 : True := trivial
  have tk0_4 : True := trivial
  have tk0_5 : True := trivial
  go_wp2_with (first
    | ((with_reducible refine gd_box ?_); have _t := tk0_0; refine wpList_box_agg rfl _ (.tmp 0) rfl rfl ?_; clear tk0_0; intro w1 hx1 hb1 hl1; have hz1 := hx1.lt; have hs1 := hb1.size)
    | ((with_reducible refine gd_box ?_); have _t := tk0_1; refine wpList_box_agg rfl _ (.tmp 1) rfl rfl ?_; clear tk0_1; intro w2 hx2 hb2 hl2; have hz2 := hx2.lt; have hs2 := hb2.size)
    | ((with_reducible refine gd_load ?_); have _t := tk0_2; refine wpList_load_blk rfl 23 (.tmp 2) rfl (hx1.ext hb2) (by rw [HSW.out]; exact hW) rfl ?_; clear tk0_2)
    | (go_at_call 50; have _t := tk0_3; refine (C1.out _).mono ?_; clear tk0_3; rintro e w3 ⟨rfl, hb3⟩; have hs3 := hb3.size)
    | ((with_reducible refine gd_load ?_); have _t := tk0_4; refine wpList_load_blk rfl 23 (.tmp 3) rfl (hx2.ext hb3) (by rw [HSW.out]; exact hW) rfl ?_; clear tk0_4)
    | (go_at_call 50; have _t := tk0_5; refine (C2.out _).mono ?_; clear tk0_5; rintro e w4 ⟨rfl, hb4⟩; have hs4 := hb4.size)
    | fail)
  have hy1_1 := (((hx1.ext hb2).ext hb3).ext hb4)
  have hy1_2 := ((hx2.ext hb3).ext hb4)
  have hB1_1 := hb1
  have hB1_2 := below_step hB1_1 hb2
  have hB1_3 := below_step hB1_2 hb3
  have hB1_4 := below_step hB1_3 hb4
  have hge_1 : w.heap.size ≤ w.heap.size := by omega
  have hge_2 : w.heap.size ≤ w1.heap.size := by omega
  have hlo_1_2 : w.heap.size < w1.heap.size := by omega
  clear hb1 hl1 hz1 hs1 hb2 hl2 hz2 hs2 hb3 hs3 hb4 hs4 hx1 hx2 hB1_1 hB1_2 hB1_3
  go_ret
  exact ⟨congrArg (fun n : Int => Ending.returned (.int .i64 n)) HE.out.symm, hB1_4⟩
set_option maxRecDepth 100000 in
set_option maxHeartbeats 4000000 in
theorem RefSCmp_pp (a b : Nat) (w : World) (ha : a < 2 ^ 256) (hb : b < 2 ^ 256) (hs : Hid (¬ 2 ^ 255 ≤ a)) (ht : Hid (¬ 2 ^ 255 ≤ b)) : Calls Try.prog 17 #[.agg (wcells a), .agg (wcells b)] w fun e w' => e = .returned (.int .i64 (scmpN a b)) ∧ Below w.heap.size w w' := by
  have hW := wordTy
  have zW := zWordL
  have HSW := Lib.hid wcells_size
  have H1W := Lib.hid wcells_one
  have HZW := Lib.hid wcells_lit0
  have C1 := Lib.hid (fun w => RefNeg_any a w ha)
  rw [decide_eq_false hs.out] at C1
  have C2 := Lib.hid (fun w => RefNeg_any b w hb)
  rw [decide_eq_false ht.out] at C2
  have C3 := Lib.hid (fun w => RefCmp_any a b w ha hb)
  have HE := Lib.hid (show (scmpN a b : Int) = cmpN a b from by unfold scmpN; rw [if_neg hs.out, if_neg ht.out])
  go_enter Try.func17, Try.ntmps17
  have tk0_0 : True := trivial
  have tk0_1 : True := trivial
  have tk0_2 : True := trivial
  have tk0_3 : True := trivial
  have tk0_4 : True := trivial
  have tk0_5 : True := trivial
  have tk0_6 : True := trivial
  have tk0_7 : True := trivial
  have tk0_8 : True := trivial
  go_wp2_with (first
    | ((with_reducible refine gd_box ?_); have _t := tk0_0; refine wpList_box_agg rfl _ (.tmp 0) rfl rfl ?_; clear tk0_0; intro w1 hx1 hb1 hl1; have hz1 := hx1.lt; have hs1 := hb1.size)
    | ((with_reducible refine gd_box ?_); have _t := tk0_1; refine wpList_box_agg rfl _ (.tmp 1) rfl rfl ?_; clear tk0_1; intro w2 hx2 hb2 hl2; have hz2 := hx2.lt; have hs2 := hb2.size)
    | ((with_reducible refine gd_load ?_); have _t := tk0_2; refine wpList_load_blk rfl 23 (.tmp 2) rfl (hx1.ext hb2) (by rw [HSW.out]; exact hW) rfl ?_; clear tk0_2)
    | (go_at_call 50; have _t := tk0_3; refine (C1.out _).mono ?_; clear tk0_3; rintro e w3 ⟨rfl, hb3⟩; have hs3 := hb3.size)
    | ((with_reducible refine gd_load ?_); have _t := tk0_4; refine wpList_load_blk rfl 23 (.tmp 3) rfl (hx2.ext hb3) (by rw [HSW.out]; exact hW) rfl ?_; clear tk0_4)
    | (go_at_call 50; have _t := tk0_5; refine (C2.out _).mono ?_; clear tk0_5; rintro e w4 ⟨rfl, hb4⟩; have hs4 := hb4.size)
    | ((with_reducible refine gd_load ?_); have _t := tk0_6; refine wpList_load_blk rfl 23 (.tmp 2) rfl (((hx1.ext hb2).ext hb3).ext hb4) (by rw [HSW.out]; exact hW) rfl ?_; clear tk0_6)
    | ((with_reducible refine gd_load ?_); have _t := tk0_7; refine wpList_load_blk rfl 23 (.tmp 3) rfl ((hx2.ext hb3).ext hb4) (by rw [HSW.out]; exact hW) rfl ?_; clear tk0_7)
    | (go_at_call 15; have _t := tk0_8; refine (C3.out _).mono ?_; clear tk0_8; rintro e w5 ⟨rfl, hb5⟩; have hs5 := hb5.size)
    | fail)
  have hy1_1 := ((((hx1.ext hb2).ext hb3).ext hb4).ext hb5)
  have hy1_2 := (((hx2.ext hb3).ext hb4).ext hb5)
  have hB1_1 := hb1
  have hB1_2 := below_step hB1_1 hb2
  have hB1_3 := below_step hB1_2 hb3
  have hB1_4 := below_step hB1_3 hb4
  have hB1_5 := below_step hB1_4 hb5
  have hge_1 : w.heap.size ≤ w.heap.size := by omega
  have hge_2 : w.heap.size ≤ w1.heap.size := by omega
  have hlo_1_2 : w.heap.size < w1.heap.size := by omega
  clear hb1 hl1 hz1 hs1 hb2 hl2 hz2 hs2 hb3 hs3 hb4 hs4 hb5 hs5 hx1 hx2 hB1_1 hB1_2 hB1_3 hB1_4
  go_ret
  exact ⟨congrArg (fun n : Int => Ending.returned (.int .i64 n)) HE.out.symm, hB1_5⟩
theorem RefSCmp_all (a b : Nat) (w : World) (ha : a < 2 ^ 256) (hb : b < 2 ^ 256) : Calls Try.prog 17 #[.agg (wcells a), .agg (wcells b)] w fun e w' => e = .returned (.int .i64 (scmpN a b)) ∧ Below w.heap.size w w' := by
  by_cases c : 2 ^ 255 ≤ a <;> by_cases d : 2 ^ 255 ≤ b
  · exact RefSCmp_mm a b w ha hb (Lib.hid c) (Lib.hid d)
  · exact RefSCmp_mp a b w ha hb (Lib.hid c) (Lib.hid d)
  · exact RefSCmp_pm a b w ha hb (Lib.hid c) (Lib.hid d)
  · exact RefSCmp_pp a b w ha hb (Lib.hid c) (Lib.hid d)
end Go.Mun
