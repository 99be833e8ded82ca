/- What a change of a slot costs. -/
import Derived.Test.YtpliedimdhilcaaGasRef
namespace Go.Mun
open Go Go.RowKit Go.Proofs

def storeOf (a b : Nat) : Int := if a = 0 ∧ b ≠ 0 then 20000 else 5000
set_option maxRecDepth 100000 in
set_option maxHeartbeats 4000000 in
theorem GasStore_a (a b : Nat) (w : World) (ha : a < 2 ^ 256) (h1 : Hid (a ≠ 0)) : Calls Try.prog 25 #[.agg (wcells a), .agg (wcells b)] w fun e w' => e = .returned (.int .i64 5000) ∧ Below w.heap.size w w' := by
  have hW := wordTy
  have zW := zWordL
  have HSW := Lib.hid wcells_size
  have H1W := Lib.hid wcells_one
  have HZW := Lib.hid wcells_lit0
  have Q1 := Lib.hid (fun w => eq_word a 0 ha (by decide) w)
  rw [decide_eq_false h1.out] at Q1
  go_enter Try.func25, Try.ntmps25
  have tk0_0 : True := trivial
  have tk0_1 : True := trivial
  have tk0_2 : True := trivial
  have hqQ1 := Q1.out
  rw [← HZW.out] at hqQ1
  go_wp2_with (first
    | ((with_reducible refine gd_box ?_); have _t := tk0_0; refine wpList_box_agg rfl _ (.tmp 0) rfl rfl ?_; clear tk0_0; intro w1 hx1 hb1 hl1; have hz1 := hx1.lt; have hs1 := hb1.size)
    | ((with_reducible refine gd_box ?_); have _t := tk0_1; refine wpList_box_agg rfl _ (.tmp 1) rfl rfl ?_; clear tk0_1; intro w2 hx2 hb2 hl2; have hz2 := hx2.lt; have hs2 := hb2.size)
    | ((with_reducible refine gd_load ?_); have _t := tk0_2; refine wpList_load_blk rfl 25 (.tmp 2) rfl (hx1.ext hb2) (by rw [HSW.out]; exact hW) rfl ?_; clear tk0_2)
    | fail)
  clear hqQ1
  have hy1_1 := (hx1.ext hb2)
  have hy1_2 := hx2
  have hB1_1 := hb1
  have hB1_2 := below_step hB1_1 hb2
  clear hb1 hl1 hz1 hs1 hb2 hl2 hz2 hs2 hx1 hx2 hB1_1
  go_ret
  exact ⟨rfl, hB1_2⟩
set_option maxRecDepth 100000 in
set_option maxHeartbeats 4000000 in
theorem GasStore_b (a b : Nat) (w : World) (ha : a < 2 ^ 256) (hb : b < 2 ^ 256) (h1 : Hid (a = 0)) (h2 : Hid (b = 0)) : Calls Try.prog 25 #[.agg (wcells a), .agg (wcells b)] w fun e w' => e = .returned (.int .i64 5000) ∧ Below w.heap.size w w' := by
  have hW := wordTy
  have zW := zWordL
  have HSW := Lib.hid wcells_size
  have H1W := Lib.hid wcells_one
  have HZW := Lib.hid wcells_lit0
  have Q1 := Lib.hid (fun w => eq_word a 0 ha (by decide) w)
  rw [decide_eq_true h1.out] at Q1
  have Q2 := Lib.hid (fun w => eq_word b 0 hb (by decide) w)
  rw [decide_eq_true h2.out] at Q2
  go_enter Try.func25, Try.ntmps25
  have tk0_0 : True := trivial
  have tk0_1 : True := trivial
  have tk0_2 : True := trivial
  have tk0_3 : True := trivial
  have hqQ1 := Q1.out
  rw [← HZW.out] at hqQ1
  have hqQ2 := Q2.out
  rw [← HZW.out] at hqQ2
  go_wp2_with (first
    | ((with_reducible refine gd_box ?_); have _t := tk0_0; refine wpList_box_agg rfl _ (.tmp 0) rfl rfl ?_; clear tk0_0; intro w1 hx1 hb1 hl1; have hz1 := hx1.lt; have hs1 := hb1.size)
    | ((with_reducible refine gd_box ?_); have _t := tk0_1; refine wpList_box_agg rfl _ (.tmp 1) rfl rfl ?_; clear tk0_1; intro w2 hx2 hb2 hl2; have hz2 := hx2.lt; have hs2 := hb2.size)
    | ((with_reducible refine gd_load ?_); have _t := tk0_2; refine wpList_load_blk rfl 25 (.tmp 2) rfl (hx1.ext hb2) (by rw [HSW.out]; exact hW) rfl ?_; clear tk0_2)
    | ((with_reducible refine gd_load ?_); have _t := tk0_3; refine wpList_load_want (by first | rfl | simp [Region.wanted, yielded]) 25 (.tmp 3) rfl hx2 (by rw [HSW.out]; exact hW) rfl ?_; clear tk0_3)
    | fail)
  clear hqQ1 hqQ2
  have hy1_1 := (hx1.ext hb2)
  have hy1_2 := hx2
  have hB1_1 := hb1
  have hB1_2 := below_step hB1_1 hb2
  clear hb1 hl1 hz1 hs1 hb2 hl2 hz2 hs2 hx1 hx2 hB1_1
  go_ret
  exact ⟨rfl, hB1_2⟩
set_option maxRecDepth 100000 in
set_option maxHeartbeats 4000000 in
theorem GasStore_c (a b : Nat) (w : World) (ha : a < 2 ^ 256) (hb : b < 2 ^ 256) (h1 : Hid (a = 0)) (h2 : Hid (b ≠ 0)) : Calls Try.prog 25 #[.agg (wcells a), .agg (wcells b)] w fun e w' => e = .returned (.int .i64 20000) ∧ Below w.heap.size w w' := by
  have hW := wordTy
  have zW := zWordL
  have HSW := Lib.hid wcells_size
  have H1W := Lib.hid wcells_one
  have HZW := Lib.hid wcells_lit0
  have Q1 := Lib.hid (fun w => eq_word a 0 ha (by decide) w)
  rw [decide_eq_true h1.out] at Q1
  have Q2 := Lib.hid (fun w => eq_word b 0 hb (by decide) w)
  rw [decide_eq_false h2.out] at Q2
  go_enter Try.func25, Try.ntmps25
  have tk0_0 : True := trivial
  have tk0_1 : True := trivial
  have tk0_2 : True := trivial
  have tk0_3 : True := trivial
  have hqQ1 := Q1.out
  rw [← HZW.out] at hqQ1
  have hqQ2 := Q2.out
  rw [← HZW.out] at hqQ2
  go_wp2_with (first
    | ((with_reducible refine gd_box ?_); have _t := tk0_0; refine wpList_box_agg rfl _ (.tmp 0) rfl rfl ?_; clear tk0_0; intro w1 hx1 hb1 hl1; have hz1 := hx1.lt; have hs1 := hb1.size)
    | ((with_reducible refine gd_box ?_); have _t := tk0_1; refine wpList_box_agg rfl _ (.tmp 1) rfl rfl ?_; clear tk0_1; intro w2 hx2 hb2 hl2; have hz2 := hx2.lt; have hs2 := hb2.size)
    | ((with_reducible refine gd_load ?_); have _t := tk0_2; refine wpList_load_blk rfl 25 (.tmp 2) rfl (hx1.ext hb2) (by rw [HSW.out]; exact hW) rfl ?_; clear tk0_2)
    | ((with_reducible refine gd_load ?_); have _t := tk0_3; refine wpList_load_want (by first | rfl | simp [Region.wanted, yielded]) 25 (.tmp 3) rfl hx2 (by rw [HSW.out]; exact hW) rfl ?_; clear tk0_3)
    | fail)
  clear hqQ1 hqQ2
  have hy1_1 := (hx1.ext hb2)
  have hy1_2 := hx2
  have hB1_1 := hb1
  have hB1_2 := below_step hB1_1 hb2
  clear hb1 hl1 hz1 hs1 hb2 hl2 hz2 hs2 hx1 hx2 hB1_1
  go_ret
  exact ⟨rfl, hB1_2⟩
theorem GasStore_any (a b : Nat) (w : World) (ha : a < 2 ^ 256) (hb : b < 2 ^ 256) : Calls Try.prog 25 #[.agg (wcells a), .agg (wcells b)] w fun e w' => e = .returned (.int .i64 (storeOf a b)) ∧ Below w.heap.size w w' := by
  unfold storeOf
  by_cases c : a = 0
  · by_cases d : b = 0
    · rw [if_neg (by omega)]
      exact GasStore_b a b w ha hb (Lib.hid c) (Lib.hid d)
    · rw [if_pos ⟨c, d⟩]
      exact GasStore_c a b w ha hb (Lib.hid c) (Lib.hid d)
  · rw [if_neg (by omega)]
    exact GasStore_a a b w ha (Lib.hid c)
set_option maxRecDepth 100000 in
set_option maxHeartbeats 4000000 in
theorem GasRefStore_a (a b : Nat) (w : World) (ha : a < 2 ^ 256) (h1 : Hid (a ≠ 0)) : Calls Try.prog 26 #[.agg (wcells a), .agg (wcells b)] w fun e w' => e = .returned (.int .i64 5000) ∧ Below w.heap.size w w' := by
  have hW := wordTy
  have zW := zWordL
  have HSW := Lib.hid wcells_size
  have H1W := Lib.hid wcells_one
  have HZW := Lib.hid wcells_lit0
  have Q1 := Lib.hid (fun w => eq_word a 0 ha (by decide) w)
  rw [decide_eq_false h1.out] at Q1
  go_enter Try.func26, Try.ntmps26
  have tk0_0 : True := trivial
  have tk0_1 : True := trivial
  have tk0_2 : True := trivial
  have hqQ1 := Q1.out
  rw [← HZW.out] at hqQ1
  go_wp2_with (first
    | ((with_reducible refine gd_box ?_); have _t := tk0_0; refine wpList_box_agg rfl _ (.tmp 0) rfl rfl ?_; clear tk0_0; intro w1 hx1 hb1 hl1; have hz1 := hx1.lt; have hs1 := hb1.size)
    | ((with_reducible refine gd_box ?_); have _t := tk0_1; refine wpList_box_agg rfl _ (.tmp 1) rfl rfl ?_; clear tk0_1; intro w2 hx2 hb2 hl2; have hz2 := hx2.lt; have hs2 := hb2.size)
    | ((with_reducible refine gd_load ?_); have _t := tk0_2; refine wpList_load_blk rfl 25 (.tmp 2) rfl (hx1.ext hb2) (by rw [HSW.out]; exact hW) rfl ?_; clear tk0_2)
    | fail)
  clear hqQ1
  have hy1_1 := (hx1.ext hb2)
  have hy1_2 := hx2
  have hB1_1 := hb1
  have hB1_2 := below_step hB1_1 hb2
  clear hb1 hl1 hz1 hs1 hb2 hl2 hz2 hs2 hx1 hx2 hB1_1
  go_ret
  exact ⟨rfl, hB1_2⟩
set_option maxRecDepth 100000 in
set_option maxHeartbeats 4000000 in
theorem GasRefStore_b (a b : Nat) (w : World) (ha : a < 2 ^ 256) (hb : b < 2 ^ 256) (h1 : Hid (a = 0)) (h2 : Hid (b = 0)) : Calls Try.prog 26 #[.agg (wcells a), .agg (wcells b)] w fun e w' => e = .returned (.int .i64 5000) ∧ Below w.heap.size w w' := by
  have hW := wordTy
  have zW := zWordL
  have HSW := Lib.hid wcells_size
  have H1W := Lib.hid wcells_one
  have HZW := Lib.hid wcells_lit0
  have Q1 := Lib.hid (fun w => eq_word a 0 ha (by decide) w)
  rw [decide_eq_true h1.out] at Q1
  have Q2 := Lib.hid (fun w => eq_word b 0 hb (by decide) w)
  rw [decide_eq_true h2.out] at Q2
  go_enter Try.func26, Try.ntmps26
  have tk0_0 : True := trivial
  have tk0_1 : True := trivial
  have tk0_2 : True := trivial
  have tk0_3 : True := trivial
  have hqQ1 := Q1.out
  rw [← HZW.out] at hqQ1
  have hqQ2 := Q2.out
  rw [← HZW.out] at hqQ2
  go_wp2_with (first
    | ((with_reducible refine gd_box ?_); have _t := tk0_0; refine wpList_box_agg rfl _ (.tmp 0) rfl rfl ?_; clear tk0_0; intro w1 hx1 hb1 hl1; have hz1 := hx1.lt; have hs1 := hb1.size)
    | ((with_reducible refine gd_box ?_); have _t := tk0_1; refine wpList_box_agg rfl _ (.tmp 1) rfl rfl ?_; clear tk0_1; intro w2 hx2 hb2 hl2; have hz2 := hx2.lt; have hs2 := hb2.size)
    | ((with_reducible refine gd_load ?_); have _t := tk0_2; refine wpList_load_blk rfl 25 (.tmp 2) rfl (hx1.ext hb2) (by rw [HSW.out]; exact hW) rfl ?_; clear tk0_2)
    | ((with_reducible refine gd_load ?_); have _t := tk0_3; refine wpList_load_want (by first | rfl | simp [Region.wanted, yielded]) 25 (.tmp 3) rfl hx2 (by rw [HSW.out]; exact hW) rfl ?_; clear tk0_3)
    | fail)
  clear hqQ1 hqQ2
  have hy1_1 := (hx1.ext hb2)
  have hy1_2 := hx2
  have hB1_1 := hb1
  have hB1_2 := below_step hB1_1 hb2
  clear hb1 hl1 hz1 hs1 hb2 hl2 hz2 hs2 hx1 hx2 hB1_1
  go_ret
  exact ⟨rfl, hB1_2⟩
set_option maxRecDepth 100000 in
set_option maxHeartbeats 4000000 in
theorem GasRefStore_c (a b : Nat) (w : World) (ha : a < 2 ^ 256) (hb : b < 2 ^ 256) (h1 : Hid (a = 0)) (h2 : Hid (b ≠ 0)) : Calls Try.prog 26 #[.agg (wcells a), .agg (wcells b)] w fun e w' => e = .returned (.int .i64 20000) ∧ Below w.heap.size w w' := by
  have hW := wordTy
  have zW := zWordL
  have HSW := Lib.hid wcells_size
  have H1W := Lib.hid wcells_one
  have HZW := Lib.hid wcells_lit0
  have Q1 := Lib.hid (fun w => eq_word a 0 ha (by decide) w)
  rw [decide_eq_true h1.out] at Q1
  have Q2 := Lib.hid (fun w => eq_word b 0 hb (by decide) w)
  rw [decide_eq_false h2.out] at Q2
  go_enter Try.func26, Try.ntmps26
  have tk0_0 : True := trivial
  have tk0_1 : True := trivial
  have tk0_2 : True := trivial
  have tk0_3 : True := trivial
  have hqQ1 := Q1.out
  rw [← HZW.out] at hqQ1
  have hqQ2 := Q2.out
  rw [← HZW.out] at hqQ2
  go_wp2_with (first
    | ((with_reducible refine gd_box ?_); have _t := tk0_0; refine wpList_box_agg rfl _ (.tmp 0) rfl rfl ?_; clear tk0_0; intro w1 hx1 hb1 hl1; have hz1 := hx1.lt; have hs1 := hb1.size)
    | ((with_reducible refine gd_box ?_); have _t := tk0_1; refine wpList_box_agg rfl _ (.tmp 1) rfl rfl ?_; clear tk0_1; intro w2 hx2 hb2 hl2; have hz2 := hx2.lt; have hs2 := hb2.size)
    | ((with_reducible refine gd_load ?_); have _t := tk0_2; refine wpList_load_blk rfl 25 (.tmp 2) rfl (hx1.ext hb2) (by rw [HSW.out]; exact hW) rfl ?_; clear tk0_2)
    | ((with_reducible refine gd_load ?_); have _t := tk0_3; refine wpList_load_want (by first | rfl | simp [Region.wanted, yielded]) 25 (.tmp 3) rfl hx2 (by rw [HSW.out]; exact hW) rfl ?_; clear tk0_3)
    | fail)
  clear hqQ1 hqQ2
  have hy1_1 := (hx1.ext hb2)
  have hy1_2 := hx2
  have hB1_1 := hb1
  have hB1_2 := below_step hB1_1 hb2
  clear hb1 hl1 hz1 hs1 hb2 hl2 hz2 hs2 hx1 hx2 hB1_1
  go_ret
  exact ⟨rfl, hB1_2⟩
theorem GasRefStore_any (a b : Nat) (w : World) (ha : a < 2 ^ 256) (hb : b < 2 ^ 256) : Calls Try.prog 26 #[.agg (wcells a), .agg (wcells b)] w fun e w' => e = .returned (.int .i64 (storeOf a b)) ∧ Below w.heap.size w w' := by
  unfold storeOf
  by_cases c : a = 0
  · by_cases d : b = 0
    · rw [if_neg (by omega)]
      exact GasRefStore_b a b w ha hb (Lib.hid c) (Lib.hid d)
    · rw [if_pos ⟨c, d⟩]
      exact GasRefStore_c a b w ha hb (Lib.hid c) (Lib.hid d)
  · rw [if_neg (by omega)]
    exact GasRefStore_a a b w ha (Lib.hid c)
theorem txTy' : AggTy Try.prog 28 77 := ⟨⟨_, Try.underlying28, rfl⟩, by kernel_rfl⟩
noncomputable def zTx' : Value := ((Try.prog.info? 28).bind (·.zero)).getD undef
end Go.Mun
