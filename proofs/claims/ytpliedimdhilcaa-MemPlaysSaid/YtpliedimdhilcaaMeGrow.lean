/- Grow, in every case: the program's. -/
import Derived.Test.YtpliedimdhilcaaMe
namespace Go.Mun.MS
open Go Go.RowKit Go.Proofs Go.Mun

theorem Grow_zero (a k : Nat) (w : World) (v : Value) (hk : k < 2 ^ 256) (h1 : Hid (k = 0)) :
    Calls Try.prog 15 #[v, .agg (wcells a), .agg (wcells k)] w fun e w' => e = .returned (.tuple #[.int .i64 0, .bool true]) ∧ Below w.heap.size w w' := by
  have hW := wordTy
  have HSW := Lib.hid wcells_size
  have HZW := Lib.hid wcells_lit0
  have Q1 := Lib.hid (fun w => eq_word k 0 hk (by decide) w)
  rw [decide_eq_true h1.out] at Q1
  go_enter Try.func15, Try.ntmps15
  have tk0_0 : True := trivial
  have tk0_1 : True := trivial
  have tk0_2 : True := trivial
  have hqQ1 := Q1.out
  rw [← HZW.out] at hqQ1
  go_wp2_with (first
    | ((with_reducible refine gd_box ?_); have _t := tk0_0; refine wpList_box_agg rfl _ (.tmp 1) rfl rfl ?_; clear tk0_0; intro w1 hx1 hb1 hl1; have hz1 := hx1.lt; have hs1 := hb1.size)
    | ((with_reducible refine gd_box ?_); have _t := tk0_1; refine wpList_box_agg rfl _ (.tmp 2) rfl rfl ?_; clear tk0_1; intro w2 hx2 hb2 hl2; have hz2 := hx2.lt; have hs2 := hb2.size)
    | ((with_reducible refine gd_load ?_); have _t := tk0_2; refine wpList_load_blk rfl 25 (.tmp 5) rfl hx2 (by rw [HSW.out]; exact hW) rfl ?_; clear tk0_2)
    | fail)
  have hB1_2 := below_step hb1 hb2
  go_ret2
  exact ⟨rfl, hB1_2⟩
theorem Grow_n0 (a k x y : Nat) (d : Bool) (w : World) (v : Value) (hk : k < 2 ^ 256) (hk0 : k ≠ 0) (_hx63 : x < 2 ^ 63) (_hy63 : y < 2 ^ 63) 
    (HI : Hid (∀ w, Calls Try.prog 40 #[.agg (wcells a)] w fun e w' => e = .returned (.tuple #[.int .i64 (x : Nat), .bool false]) ∧ Below w.heap.size w w'))
    (HJ : Hid (∀ w, Calls Try.prog 40 #[.agg (wcells k)] w fun e w' => e = .returned (.tuple #[.int .i64 (y : Nat), .bool d]) ∧ Below w.heap.size w w')) :
    Calls Try.prog 15 #[v, .agg (wcells a), .agg (wcells k)] w fun e w' => e = .returned (.tuple #[.int .i64 0, .bool false]) ∧ Below w.heap.size w w' := by
  have hW := wordTy
  have HSW := Lib.hid wcells_size
  have HZW := Lib.hid wcells_lit0
  have Q1 := Lib.hid (fun w => eq_word k 0 hk (by decide) w)
  rw [decide_eq_false hk0] at Q1
  clear hk hk0
  go_enter Try.func15, Try.ntmps15
  have tk0_0 : True := trivial
  have tk0_1 : True := trivial
  have tk0_2 : True := trivial
  have tk0_3 : True := trivial
  have tk0_4 : True := trivial
  have hqQ1 := Q1.out
  rw [← HZW.out] at hqQ1
  go_wp2_with (first
    | ((with_reducible refine gd_box ?_); have _t := tk0_0; refine wpList_box_agg rfl _ (.tmp 1) rfl rfl ?_; clear tk0_0; intro w1 hx1 hb1 hl1; have hz1 := hx1.lt; have hs1 := hb1.size)
    | ((with_reducible refine gd_box ?_); have _t := tk0_1; refine wpList_box_agg rfl _ (.tmp 2) rfl rfl ?_; clear tk0_1; intro w2 hx2 hb2 hl2; have hz2 := hx2.lt; have hs2 := hb2.size)
    | ((with_reducible refine gd_load ?_); have _t := tk0_2; refine wpList_load_blk rfl 25 (.tmp 5) rfl hx2 (by rw [HSW.out]; exact hW) rfl ?_; clear tk0_2)
    | ((with_reducible refine gd_load ?_); have _t := tk0_3; refine wpList_load_blk rfl 25 (.tmp 4) rfl (hx1.ext hb2) (by rw [HSW.out]; exact hW) rfl ?_; clear tk0_3)
    | (have _t := tk0_3; fail)
    | (go_at_call 40; have _t := tk0_4; refine (HI.out _).mono ?_; clear tk0_4; rintro e w3 ⟨rfl, hb3⟩)
    | ((with_reducible refine gd_load ?_); refine wpList_load_blk rfl 25 (.tmp 5) rfl (hx2.ext hb3) (by rw [HSW.out]; exact hW) rfl ?_)
    | (go_at_call 40; refine (HJ.out _).mono ?_; rintro e w4 ⟨rfl, hb4⟩)
    | fail)
  have hB4 := below_step (below_step (below_step hb1 hb2) hb3) hb4
  go_ret2
  exact ⟨rfl, hB4⟩
theorem Grow_n1 (a k x y : Nat) (w : World) (v : Value) (hk : k < 2 ^ 256) (hk0 : k ≠ 0) (_hx63 : x < 2 ^ 63) (_hy63 : y < 2 ^ 63) 
    (HI : Hid (∀ w, Calls Try.prog 40 #[.agg (wcells a)] w fun e w' => e = .returned (.tuple #[.int .i64 (x : Nat), .bool true]) ∧ Below w.heap.size w w'))
    (HJ : Hid (∀ w, Calls Try.prog 40 #[.agg (wcells k)] w fun e w' => e = .returned (.tuple #[.int .i64 (y : Nat), .bool false]) ∧ Below w.heap.size w w')) :
    Calls Try.prog 15 #[v, .agg (wcells a), .agg (wcells k)] w fun e w' => e = .returned (.tuple #[.int .i64 0, .bool false]) ∧ Below w.heap.size w w' := by
  have hW := wordTy
  have HSW := Lib.hid wcells_size
  have HZW := Lib.hid wcells_lit0
  have Q1 := Lib.hid (fun w => eq_word k 0 hk (by decide) w)
  rw [decide_eq_false hk0] at Q1
  clear hk hk0
  go_enter Try.func15, Try.ntmps15
  have tk0_0 : True := trivial
  have tk0_1 : True := trivial
  have tk0_2 : True := trivial
  have tk0_3 : True := trivial
  have tk0_4 : True := trivial
  have hqQ1 := Q1.out
  rw [← HZW.out] at hqQ1
  go_wp2_with (first
    | ((with_reducible refine gd_box ?_); have _t := tk0_0; refine wpList_box_agg rfl _ (.tmp 1) rfl rfl ?_; clear tk0_0; intro w1 hx1 hb1 hl1; have hz1 := hx1.lt; have hs1 := hb1.size)
    | ((with_reducible refine gd_box ?_); have _t := tk0_1; refine wpList_box_agg rfl _ (.tmp 2) rfl rfl ?_; clear tk0_1; intro w2 hx2 hb2 hl2; have hz2 := hx2.lt; have hs2 := hb2.size)
    | ((with_reducible refine gd_load ?_); have _t := tk0_2; refine wpList_load_blk rfl 25 (.tmp 5) rfl hx2 (by rw [HSW.out]; exact hW) rfl ?_; clear tk0_2)
    | ((with_reducible refine gd_load ?_); have _t := tk0_3; refine wpList_load_blk rfl 25 (.tmp 4) rfl (hx1.ext hb2) (by rw [HSW.out]; exact hW) rfl ?_; clear tk0_3)
    | (have _t := tk0_3; fail)
    | (go_at_call 40; have _t := tk0_4; refine (HI.out _).mono ?_; clear tk0_4; rintro e w3 ⟨rfl, hb3⟩)
    | ((with_reducible refine gd_load ?_); refine wpList_load_blk rfl 25 (.tmp 5) rfl (hx2.ext hb3) (by rw [HSW.out]; exact hW) rfl ?_)
    | (go_at_call 40; refine (HJ.out _).mono ?_; rintro e w4 ⟨rfl, hb4⟩)
    | fail)
  have hB4 := below_step (below_step (below_step hb1 hb2) hb3) hb4
  go_ret2
  exact ⟨rfl, hB4⟩
theorem Grow_n2 (a k x y : Nat) (w : World) (v : Value) (hk : k < 2 ^ 256) (hk0 : k ≠ 0) (_hx63 : x < 2 ^ 63) (_hy63 : y < 2 ^ 63) (hx : 1048576 < x)
    (HI : Hid (∀ w, Calls Try.prog 40 #[.agg (wcells a)] w fun e w' => e = .returned (.tuple #[.int .i64 (x : Nat), .bool true]) ∧ Below w.heap.size w w'))
    (HJ : Hid (∀ w, Calls Try.prog 40 #[.agg (wcells k)] w fun e w' => e = .returned (.tuple #[.int .i64 (y : Nat), .bool true]) ∧ Below w.heap.size w w')) :
    Calls Try.prog 15 #[v, .agg (wcells a), .agg (wcells k)] w fun e w' => e = .returned (.tuple #[.int .i64 0, .bool false]) ∧ Below w.heap.size w w' := by
  have hW := wordTy
  have HSW := Lib.hid wcells_size
  have HZW := Lib.hid wcells_lit0
  have Q1 := Lib.hid (fun w => eq_word k 0 hk (by decide) w)
  rw [decide_eq_false hk0] at Q1
  have d0 : decide ((1048576 : Int) < x) = true := decide_eq_true (by omega)
  clear hk hk0
  go_enter Try.func15, Try.ntmps15
  have tk0_0 : True := trivial
  have tk0_1 : True := trivial
  have tk0_2 : True := trivial
  have tk0_3 : True := trivial
  have tk0_4 : True := trivial
  have hqQ1 := Q1.out
  rw [← HZW.out] at hqQ1
  go_wp2_with (first
    | ((with_reducible refine gd_box ?_); have _t := tk0_0; refine wpList_box_agg rfl _ (.tmp 1) rfl rfl ?_; clear tk0_0; intro w1 hx1 hb1 hl1; have hz1 := hx1.lt; have hs1 := hb1.size)
    | ((with_reducible refine gd_box ?_); have _t := tk0_1; refine wpList_box_agg rfl _ (.tmp 2) rfl rfl ?_; clear tk0_1; intro w2 hx2 hb2 hl2; have hz2 := hx2.lt; have hs2 := hb2.size)
    | ((with_reducible refine gd_load ?_); have _t := tk0_2; refine wpList_load_blk rfl 25 (.tmp 5) rfl hx2 (by rw [HSW.out]; exact hW) rfl ?_; clear tk0_2)
    | ((with_reducible refine gd_load ?_); have _t := tk0_3; refine wpList_load_blk rfl 25 (.tmp 4) rfl (hx1.ext hb2) (by rw [HSW.out]; exact hW) rfl ?_; clear tk0_3)
    | (have _t := tk0_3; fail)
    | (go_at_call 40; have _t := tk0_4; refine (HI.out _).mono ?_; clear tk0_4; rintro e w3 ⟨rfl, hb3⟩)
    | ((with_reducible refine gd_load ?_); refine wpList_load_blk rfl 25 (.tmp 5) rfl (hx2.ext hb3) (by rw [HSW.out]; exact hW) rfl ?_)
    | (go_at_call 40; refine (HJ.out _).mono ?_; rintro e w4 ⟨rfl, hb4⟩)
    | fail)
  have hB4 := below_step (below_step (below_step hb1 hb2) hb3) hb4
  go_ret2
  exact ⟨rfl, hB4⟩
theorem Grow_n3 (a k x y : Nat) (w : World) (v : Value) (hk : k < 2 ^ 256) (hk0 : k ≠ 0) (_hx63 : x < 2 ^ 63) (_hy63 : y < 2 ^ 63) (hx : x ≤ 1048576) (hy : 1048576 < y)
    (HI : Hid (∀ w, Calls Try.prog 40 #[.agg (wcells a)] w fun e w' => e = .returned (.tuple #[.int .i64 (x : Nat), .bool true]) ∧ Below w.heap.size w w'))
    (HJ : Hid (∀ w, Calls Try.prog 40 #[.agg (wcells k)] w fun e w' => e = .returned (.tuple #[.int .i64 (y : Nat), .bool true]) ∧ Below w.heap.size w w')) :
    Calls Try.prog 15 #[v, .agg (wcells a), .agg (wcells k)] w fun e w' => e = .returned (.tuple #[.int .i64 0, .bool false]) ∧ Below w.heap.size w w' := by
  have hW := wordTy
  have HSW := Lib.hid wcells_size
  have HZW := Lib.hid wcells_lit0
  have Q1 := Lib.hid (fun w => eq_word k 0 hk (by decide) w)
  rw [decide_eq_false hk0] at Q1
  have d0 : decide ((1048576 : Int) < x) = false := decide_eq_false (by omega)
  have d1 : decide ((1048576 : Int) - x < y) = true := decide_eq_true (by omega)
  clear hk hk0
  go_enter Try.func15, Try.ntmps15
  have tk0_0 : True := trivial
  have tk0_1 : True := trivial
  have tk0_2 : True := trivial
  have tk0_3 : True := trivial
  have tk0_4 : True := trivial
  have hqQ1 := Q1.out
  rw [← HZW.out] at hqQ1
  go_wp2_with (first
    | ((with_reducible refine gd_box ?_); have _t := tk0_0; refine wpList_box_agg rfl _ (.tmp 1) rfl rfl ?_; clear tk0_0; intro w1 hx1 hb1 hl1; have hz1 := hx1.lt; have hs1 := hb1.size)
    | ((with_reducible refine gd_box ?_); have _t := tk0_1; refine wpList_box_agg rfl _ (.tmp 2) rfl rfl ?_; clear tk0_1; intro w2 hx2 hb2 hl2; have hz2 := hx2.lt; have hs2 := hb2.size)
    | ((with_reducible refine gd_load ?_); have _t := tk0_2; refine wpList_load_blk rfl 25 (.tmp 5) rfl hx2 (by rw [HSW.out]; exact hW) rfl ?_; clear tk0_2)
    | ((with_reducible refine gd_load ?_); have _t := tk0_3; refine wpList_load_blk rfl 25 (.tmp 4) rfl (hx1.ext hb2) (by rw [HSW.out]; exact hW) rfl ?_; clear tk0_3)
    | (have _t := tk0_3; fail)
    | (go_at_call 40; have _t := tk0_4; refine (HI.out _).mono ?_; clear tk0_4; rintro e w3 ⟨rfl, hb3⟩)
    | ((with_reducible refine gd_load ?_); refine wpList_load_blk rfl 25 (.tmp 5) rfl (hx2.ext hb3) (by rw [HSW.out]; exact hW) rfl ?_)
    | (go_at_call 40; refine (HJ.out _).mono ?_; rintro e w4 ⟨rfl, hb4⟩)
    | fail)
  have hB4 := below_step (below_step (below_step hb1 hb2) hb3) hb4
  go_ret2
  exact ⟨rfl, hB4⟩
theorem Grow_n4 (a k x y : Nat) (w : World) (v : Value) (hk : k < 2 ^ 256) (hk0 : k ≠ 0) (_hx63 : x < 2 ^ 63) (_hy63 : y < 2 ^ 63) (hx : x ≤ 1048576) (_hy : y ≤ 1048576) (hxy : 1048576 < x + y)
    (HI : Hid (∀ w, Calls Try.prog 40 #[.agg (wcells a)] w fun e w' => e = .returned (.tuple #[.int .i64 (x : Nat), .bool true]) ∧ Below w.heap.size w w'))
    (HJ : Hid (∀ w, Calls Try.prog 40 #[.agg (wcells k)] w fun e w' => e = .returned (.tuple #[.int .i64 (y : Nat), .bool true]) ∧ Below w.heap.size w w')) :
    Calls Try.prog 15 #[v, .agg (wcells a), .agg (wcells k)] w fun e w' => e = .returned (.tuple #[.int .i64 0, .bool false]) ∧ Below w.heap.size w w' := by
  have hW := wordTy
  have HSW := Lib.hid wcells_size
  have HZW := Lib.hid wcells_lit0
  have Q1 := Lib.hid (fun w => eq_word k 0 hk (by decide) w)
  rw [decide_eq_false hk0] at Q1
  have d0 : decide ((1048576 : Int) < x) = false := decide_eq_false (by omega)
  have d1 : decide ((1048576 : Int) - x < y) = true := decide_eq_true (by omega)
  clear hk hk0
  go_enter Try.func15, Try.ntmps15
  have tk0_0 : True := trivial
  have tk0_1 : True := trivial
  have tk0_2 : True := trivial
  have tk0_3 : True := trivial
  have tk0_4 : True := trivial
  have hqQ1 := Q1.out
  rw [← HZW.out] at hqQ1
  go_wp2_with (first
    | ((with_reducible refine gd_box ?_); have _t := tk0_0; refine wpList_box_agg rfl _ (.tmp 1) rfl rfl ?_; clear tk0_0; intro w1 hx1 hb1 hl1; have hz1 := hx1.lt; have hs1 := hb1.size)
    | ((with_reducible refine gd_box ?_); have _t := tk0_1; refine wpList_box_agg rfl _ (.tmp 2) rfl rfl ?_; clear tk0_1; intro w2 hx2 hb2 hl2; have hz2 := hx2.lt; have hs2 := hb2.size)
    | ((with_reducible refine gd_load ?_); have _t := tk0_2; refine wpList_load_blk rfl 25 (.tmp 5) rfl hx2 (by rw [HSW.out]; exact hW) rfl ?_; clear tk0_2)
    | ((with_reducible refine gd_load ?_); have _t := tk0_3; refine wpList_load_blk rfl 25 (.tmp 4) rfl (hx1.ext hb2) (by rw [HSW.out]; exact hW) rfl ?_; clear tk0_3)
    | (have _t := tk0_3; fail)
    | (go_at_call 40; have _t := tk0_4; refine (HI.out _).mono ?_; clear tk0_4; rintro e w3 ⟨rfl, hb3⟩)
    | ((with_reducible refine gd_load ?_); refine wpList_load_blk rfl 25 (.tmp 5) rfl (hx2.ext hb3) (by rw [HSW.out]; exact hW) rfl ?_)
    | (go_at_call 40; refine (HJ.out _).mono ?_; rintro e w4 ⟨rfl, hb4⟩)
    | fail)
  have hB4 := below_step (below_step (below_step hb1 hb2) hb3) hb4
  go_ret2
  exact ⟨rfl, hB4⟩
set_option maxRecDepth 100000 in
set_option maxHeartbeats 1000000 in
theorem Grow_way (a k : Nat) (w : World) (g base q q' c : Nat) (A : Option Addr) (xs : List Value) (ha : a < 1048577) (hk : k ≤ 1048576 - a) (hk0 : 0 < k) (hq : q ≤ 32768) (hq' : Hid (q' = max q ((a + k + 31) / 32)))
    (hm : Blk w g 35 #[.slice A (32 * q) c]) (ho : w.ownsRow base 5 1 (.slice A (32 * q) c) (32 * q) xs) (hg : g < base) (hbs : base ≤ w.heap.size) :
    Calls Try.prog 15 #[.pointer (some ⟨g, 0, none⟩), .agg (wcells a), .agg (wcells k)] w fun e w' =>
      e = .returned (.tuple #[.int .i64 (memCost q' - memCost q), .bool true]) ∧ ∃ A' c', Blk w' g 35 #[.slice A' (32 * q') c'] ∧
        w'.ownsRow base 5 1 (.slice A' (32 * q') c') (32 * q') (xs ++ List.replicate (32 * (q' - q)) (.int .u8 0)) ∧ Way2 g (Value.ownBlock (.slice A (32 * q) c)) w w' ∧ Moved w (Value.ownBlock (.slice A (32 * q) c)) (Value.ownBlock (.slice A' (32 * q') c')) := by
  have hW := wordTy
  have HSW := Lib.hid wcells_size
  have HZW := Lib.hid wcells_lit0
  have HI := Lib.hid (fun w => Int_yes a w (by omega))
  have HJ := Lib.hid (fun w => Int_yes k w (by omega))
  have hT : SliceTy Try.prog 26 5 (.int .u8 0) 1 1 := bytesTyM
  have Q1 := Lib.hid (fun w => eq_word k 0 (by omega) (by decide) w)
  rw [decide_eq_false (by omega)] at Q1
  obtain ⟨L, hL⟩ : ∃ L, L = 32 * q := ⟨_, rfl⟩
  have HC := Lib.hid (Cost_any)
  have cb1 := memCost_bd q
  have cb2 := memCost_bd (max (q : Int) (((a : Int) + k + 31) / 32))
  have hqq : q ≤ q' ∧ q' ≤ 32768 := by rw [hq'.out]; omega
  have E3 := Lib.hid (show (max (q : Int) (((a : Int) + k + 31) / 32) - q) * 32 = ((32 * (q' - q) : Nat) : Int) by rw [hq'.out]; omega)
  have E4 := Lib.hid (show max (q : Int) (((a : Int) + k + 31) / 32) = (q' : Int) by rw [hq'.out]; omega)
  have E5 := Lib.hid (show L + 32 * (q' - q) = 32 * q' by omega)
  have HS := Lib.hid (show (Try.prog.info? 26).map (·.size) = some 1 by kernel_rfl)
  have d1 : decide ((1048576 : Int) < a) = false := decide_eq_false (by omega)
  have d2 : decide ((1048576 : Int) - a < k) = false := decide_eq_false (by omega)
  have e1 : ((L : Nat) : Int).tdiv 32 = q := by rw [Int.tdiv_eq_ediv_of_nonneg (by omega)]; omega
  have e2 : ((a : Int) + k + 32 - 1).tdiv 32 = (((a + k + 31) / 32 : Nat) : Int) := by rw [Int.tdiv_eq_ediv_of_nonneg (by omega)]; omega
  rw [← hL] at hm ho
  have hLb : L ≤ 1048576 := by omega
  have HL := Lib.hid hL
  clear hL
  have a1 : (a : Int) ≤ 1048576 := by omega
  have a2 : (k : Int) ≤ 1048576 - a := by omega
  go_enter Try.func15, Try.ntmps15
  have tk0_0 : True := trivial
  have tk0_1 : True := trivial
  have tk0_2 : True := trivial
  have tk0_3 : True := trivial
  have tk0_4 : True := trivial
  have tk0_5 : True := trivial
  have tk0_6 : True := trivial
  have hqQ1 := Q1.out
  rw [← HZW.out] at hqQ1
  go_wp2_with (first
    | ((with_reducible refine gd_box ?_); have _t := tk0_0; refine wpList_box_agg rfl _ (.tmp 1) rfl rfl ?_; clear tk0_0; intro w1 hx1 hb1 hl1; have hz1 := hx1.lt; have hs1 := hb1.size)
    | ((with_reducible refine gd_box ?_); have _t := tk0_1; refine wpList_box_agg rfl _ (.tmp 2) rfl rfl ?_; clear tk0_1; intro w2 hx2 hb2 hl2; have hz2 := hx2.lt; have hs2 := hb2.size)
    | ((with_reducible refine gd_load ?_); have _t := tk0_2; refine wpList_load_blk rfl 25 (.tmp 5) rfl hx2 (by rw [HSW.out]; exact hW) rfl ?_; clear tk0_2)
    | ((with_reducible refine gd_load ?_); have _t := tk0_3; refine wpList_load_blk rfl 25 (.tmp 4) rfl (hx1.ext hb2) (by rw [HSW.out]; exact hW) rfl ?_; clear tk0_3)
    | (have _t := tk0_3; fail)
    | (go_at_call 40; have _t := tk0_4; refine (HI.out _).mono ?_; clear tk0_4; rintro e w3 ⟨rfl, hb3⟩)
    | ((with_reducible refine gd_load ?_); refine wpList_load_blk rfl 25 (.tmp 5) rfl (hx2.ext hb3) (by rw [HSW.out]; exact hW) rfl ?_)
    | (go_at_call 40; refine (HJ.out _).mono ?_; rintro e w4 ⟨rfl, hb4⟩; have hB4 := below_step (below_step (below_step hb1 hb2) hb3) hb4; have hm4 := hm.ext hB4; have ho4 := own_ext ho hB4; have hz4 : base ≤ w4.heap.size := Nat.le_trans hbs hB4.size; have hc := hm4.cellv (i := 0) rfl)
    | (at_builtin; have _t := tk0_5; refine wpList_append_zeros _ rfl (.tmp 61) (.tmp 65) _ _ rfl base hT intU (v := .slice A L c) rfl ho4 (32 * (q' - q)) (congrArg (Value.int .i64) E3.out) (by omega) hz4 ?_; clear tk0_5; intro v5 w5 ho5 hg5 hat5; have hn5 := own_far hm4.lt ho4 hg; have hm5 := hm4.grown hg5 hn5)
    | ((with_reducible refine gd_store ?_); refine wpList_store_cell rfl _ (.tmp 68) (.tmp 66) rfl (i := 0) hm5 Nat.zero_lt_one HS.out (own_one ho5) rfl rfl ?_; intro w6 hm6 hg6; have ho6 := own_kept ho5 hg6 hg)
    | (go_at_call 17; have _t := tk0_6; refine (HC.out _ _ (by omega) (by omega)).mono ?_; clear tk0_6; rintro e w7 ⟨rfl, hb7⟩)
    | (go_at_call 17; refine (HC.out _ _ (by omega) (by omega)).mono ?_; rintro e w8 ⟨rfl, hb8⟩)
    | fail)
  go_ret2
  have hb78 := below_step hb7 hb8
  have hY : Way2 g (Value.ownBlock (.slice A L c)) w w8 := (((Way2.of_below hB4).trans (Way2.of_grown hg5)).trans (Way2.of_put hg6)).trans (Way2.of_below hb78)
  have hM : Moved w (Value.ownBlock (.slice A L c)) v5.ownBlock := by
    rcases hat5 with e | e
    · exact .inl e
    · exact .inr ⟨_, e, hB4.size⟩
  rw [E5.out] at ho6
  have hi6 := own_isSlice ho6
  obtain ⟨A', c', rfl⟩ := hi6
  refine ⟨congrArg (fun z => Ending.returned (.tuple #[.int .i64 (memCost z - memCost q), .bool true])) E4.out, A', c', hm6.ext hb78, own_ext ho6 hb78, ?_⟩
  rw [← HL.out]
  exact ⟨hY, hM⟩
theorem Grow_no (a k : Nat) (w : World) (v : Value) (ha : a < 2 ^ 256) (hk : k < 2 ^ 256) (hk0 : k ≠ 0) (h : ¬(a ≤ 1048576 ∧ k ≤ 1048576 - a)) :
    Calls Try.prog 15 #[v, .agg (wcells a), .agg (wcells k)] w fun e w' => e = .returned (.tuple #[.int .i64 0, .bool false]) ∧ Below w.heap.size w w' := by
  have HI : Hid (∀ w, _) := Lib.hid (fun w => Int_all a w ha)
  have HJ : Hid (∀ w, _) := Lib.hid (fun w => Int_all k w hk)
  have h1 := iw_lt a
  have h2 := iw_lt k
  rcases grow_why h with e | ⟨e, e'⟩ | ⟨e, e', e1⟩ | ⟨e, e', e1, e2⟩ | ⟨e, e', e1, e2, e3⟩
  · rw [e] at HI
    exact Grow_n0 a k _ _ _ w v hk hk0 h1 h2 HI HJ
  · rw [e] at HI
    rw [e'] at HJ
    exact Grow_n1 a k _ _ w v hk hk0 h1 h2 HI HJ
  · rw [e] at HI
    rw [e'] at HJ
    exact Grow_n2 a k _ _ w v hk hk0 h1 h2 e1 HI HJ
  · rw [e] at HI
    rw [e'] at HJ
    exact Grow_n3 a k _ _ w v hk hk0 h1 h2 e1 e2 HI HJ
  · rw [e] at HI
    rw [e'] at HJ
    exact Grow_n4 a k _ _ w v hk hk0 h1 h2 e1 e2 e3 HI HJ
theorem Grow_any (a k q : Nat) (w : World) (g base : Nat) (l : List UInt8) (r : Option Nat) (ha : a < 2 ^ 256) (hk : k < 2 ^ 256) (h : MeR 35 w g base l r) (hq : l.length = 32 * q) (hl : l.length ≤ 1048576) (hg : g < base) (hbs : base ≤ w.heap.size) :
    Calls Try.prog 15 #[.pointer (some ⟨g, 0, none⟩), .agg (wcells a), .agg (wcells k)] w fun e w' =>
      e = .returned (.tuple #[.int .i64 (growGas l a k), .bool (growOk a k)]) ∧ ∃ r', MeR 35 w' g base (grownTo l a k) r' ∧ Way2 g r w w' ∧ Moved w r r' := by
  have e32 : l.length / 32 = q := by omega
  by_cases hk0 : k = 0
  · have e1 : growQ l a k = q := by unfold growQ; rw [if_neg (by omega), e32]
    have e2 : grownTo l a k = l := by unfold grownTo; rw [e1, e32, Nat.sub_self]; simp
    have e3 : growGas l a k = 0 := by unfold growGas; rw [e1, e32]; omega
    have e4 : growOk a k = true := by unfold growOk; rw [decide_eq_true hk0]; rfl
    rw [e2, e3, e4]
    refine (Grow_zero a k w _ hk (Lib.hid hk0)).mono ?_
    rintro e w' ⟨rfl, hb⟩
    exact ⟨rfl, r, h.ext hb, Way2.of_below hb, .inl rfl⟩
  · by_cases hok : a ≤ 1048576 ∧ k ≤ 1048576 - a
    · have e4 : growOk a k = true := by unfold growOk; rw [decide_eq_true hok.1, decide_eq_true hok.2]; simp
      obtain ⟨A, c, hro, h1, h2⟩ := h
      rw [hq] at hro h1 h2
      obtain ⟨qn, hqn⟩ : ∃ qn, qn = max q ((a + k + 31) / 32) := ⟨_, rfl⟩
      have e1 : growQ l a k = qn := by unfold growQ; rw [if_pos ⟨hk0, hok⟩, e32, hqn]
      have e3 : growGas l a k = memCost qn - memCost q := by unfold growGas; rw [e1, e32]
      · refine (Grow_way a k w g base q qn c A (bv l) (by omega) hok.2 (by omega) (by omega) (Lib.hid hqn) h1 h2 hg hbs).mono ?_
        rintro e w' ⟨rfl, A', c', k1, k2, k3, k4⟩
        have e2 : (grownTo l a k).length = 32 * qn := by rw [grownTo_length hq hl, e1]
        have e5 : bv l ++ List.replicate (32 * (qn - q)) (.int .u8 0) = bv (grownTo l a k) := by unfold grownTo; rw [bv_append, bv_zeros, e1, e32]
        rw [e3, e4]
        rw [e5] at k2
        subst hro
        exact ⟨rfl, _, ⟨A', c', rfl, by rw [e2]; exact k1, by rw [e2]; exact k2⟩, k3, by rw [e2]; exact k4⟩
    · have e1 : growQ l a k = q := by unfold growQ; rw [if_neg (fun e => hok e.2), e32]
      have e2 : grownTo l a k = l := by unfold grownTo; rw [e1, e32, Nat.sub_self]; simp
      have e3 : growGas l a k = 0 := by unfold growGas; rw [e1, e32]; omega
      have e4 : growOk a k = false := by
        unfold growOk
        rw [decide_eq_false hk0, Bool.false_or, Bool.and_eq_false_iff]
        by_cases h1 : a ≤ 1048576
        · exact .inr (decide_eq_false (fun e => hok ⟨h1, e⟩))
        · exact .inl (decide_eq_false h1)
      rw [e2, e3, e4]
      refine (Grow_no a k w _ ha hk hk0 hok).mono ?_
      rintro e w' ⟨rfl, hb⟩
      exact ⟨rfl, r, h.ext hb, Way2.of_below hb, .inl rfl⟩
end Go.Mun.MS
