/- The walks of a memory's growth and its cost. -/
import Derived.Test.YtpliedimdhilcaaMemZeros
import Derived.Test.YtpliedimdhilcaaWordInt
import Derived.Test.YtpliedimdhilcaaWordFnB
import Derived.Test.YtpliedimdhilcaaRefOf
namespace Go.Mun
open Go Go.RowKit Go.Proofs

/-- what so many words cost -/
def memCap (n : Int) : Int := min (max 0 n) 1048576
def memCost (n : Int) : Int := 3 * memCap n + memCap n * memCap n / 512
theorem memCap_bd (n : Int) : 0 ≤ memCap n ∧ memCap n ≤ 1048576 := by unfold memCap; omega
theorem sq_bd {k : Int} (h0 : 0 ≤ k) (h1 : k ≤ 1048576) : 0 ≤ k * k ∧ k * k ≤ 1099511627776 := by
  refine ⟨Int.mul_nonneg h0 h0, ?_⟩
  have := Int.mul_le_mul h1 h1 h0 (by omega)
  omega
theorem memCost_bd (n : Int) : 0 ≤ memCost n ∧ memCost n ≤ 3000000000 := by
  have h := memCap_bd n
  have h2 := sq_bd h.1 h.2
  unfold memCost
  omega

theorem Cost_any (n : Int) (w : World) (_h1 : -9223372036854775808 ≤ n) (_h2 : n ≤ 9223372036854775807) :
    Calls Try.prog 17 #[.int .i64 n] w fun e w' => e = .returned (.int .i64 (memCost n)) ∧ Below w.heap.size w w' := by
  obtain ⟨k, hk⟩ : ∃ k, k = memCap n := ⟨_, rfl⟩
  have hkb := memCap_bd n
  rw [← hk] at hkb
  obtain ⟨hk0, hk1⟩ := hkb
  have hsq := sq_bd hk0 hk1
  obtain ⟨q, hq⟩ : ∃ q, q = k * k := ⟨_, rfl⟩
  have hE : memCost n = 3 * k + q / 512 := by unfold memCost; rw [← hk, hq]
  rw [← hq] at hsq
  obtain ⟨hq0, hq1⟩ := hsq
  rw [hE]
  unfold memCap at hk
  go_enter Try.func17, Try.ntmps17
  go_wp2
  have w1 : wrap64 q = q := IntWalk.wrap64_in _ (by omega)
  have w2 : q.tdiv 512 = q / 512 := Int.tdiv_eq_ediv_of_nonneg hq0
  have w3 : wrap64 (q / 512) = q / 512 := IntWalk.wrap64_in _ (by omega)
  have w4 : wrap64 (3 * k + q / 512) = 3 * k + q / 512 := IntWalk.wrap64_in _ (by omega)
  simp only [← hk, ← hq, w1, w2, w3, w4]
  go_ret
  exact ⟨rfl, Below.refl _ _⟩

theorem RefCost_any (n : Int) (w : World) (h1 : -9223372036854775808 ≤ n) (h2 : n ≤ 9223372036854775807) :
    Calls Try.prog 18 #[.int .i64 n] w fun e w' => e = .returned (.int .i64 (memCost n)) ∧ Below w.heap.size w w' := by
  by_cases c1 : n < 0
  · have hE : memCost n = 0 := by
      have : memCap n = 0 := by unfold memCap; omega
      unfold memCost; rw [this]; rfl
    rw [hE]
    clear hE
    go_enter Try.func18, Try.ntmps18
    go_wp2
    go_ret
    exact ⟨rfl, Below.refl _ _⟩
  · by_cases c2 : 1048576 < n
    · have hE : memCost n = 2150629376 := by
        have : memCap n = 1048576 := by unfold memCap; omega
        unfold memCost; rw [this]; rfl
      rw [hE]
      clear hE
      go_enter Try.func18, Try.ntmps18
      go_wp2
      go_ret
      exact ⟨rfl, Below.refl _ _⟩
    · have hk : memCap n = n := by unfold memCap; omega
      have hk0 : 0 ≤ n := by omega
      have hk1 : n ≤ 1048576 := by omega
      obtain ⟨hq0, hq1⟩ := sq_bd hk0 hk1
      obtain ⟨q, hq⟩ : ∃ q, q = n * n := ⟨_, rfl⟩
      have hE : memCost n = 3 * n + q / 512 := by unfold memCost; rw [hk, hq]
      rw [← hq] at hq0 hq1
      rw [hE]
      clear hE c1 c2 hk
      go_enter Try.func18, Try.ntmps18
      go_wp2
      simp only [← hq]
      go_ret
      exact ⟨rfl, Below.refl _ _⟩

theorem Size_any (w : World) (g L c : Nat) (A : Option Addr) (h : Blk w g 35 #[.slice A L c]) :
    Calls Try.prog 19 #[.pointer (some ⟨g, 0, none⟩)] w fun e w' => e = .returned (.int .i64 L) ∧ w = w' := by
  have hc := h.cellv (i := 0) rfl
  go_enter Try.func19, Try.ntmps19
  go_wp2
  go_ret
  exact ⟨rfl, rfl⟩

/-- nothing below a place is changed but one block -/
structure Kept (base g : Nat) (w w' : World) : Prop where
  os : w'.os = w.os
  tape : w'.tape = w.tape
  output : w'.output = w.output
  size : w.heap.size ≤ w'.heap.size
  block : ∀ k, k < base → k ≠ g → w'.heap[k]? = w.heap[k]?

theorem Kept.of_below {base g : Nat} {w w' : World} (h : Below base w w') : Kept base g w w' := ⟨h.os, h.tape, h.output, h.size, fun k hk _ => h.block k hk⟩
theorem Kept.trans {base g : Nat} {w w' w'' : World} (h : Kept base g w w') (h' : Kept base g w' w'') : Kept base g w w'' :=
  ⟨h'.os.trans h.os, h'.tape.trans h.tape, h'.output.trans h.output, Nat.le_trans h.size h'.size, fun k hk hn => (h'.block k hk hn).trans (h.block k hk hn)⟩
theorem Kept.below {base g B : Nat} {w w' : World} (h : Kept base g w w') (hB : B ≤ base) (hg : B ≤ g) : Below B w w' :=
  ⟨h.os, h.tape, h.output, h.size, fun k hk => h.block k (by omega) (by omega)⟩
theorem Kept.put {base g : Nat} {w w' : World} (h : w.grownBy w' (some g)) (hs : base ≤ w.heap.size) : Kept base g w w' :=
  ⟨h.os, h.tape, h.output, h.size, fun k hk hn => h.block k (by omega) (by simpa using hn)⟩
theorem Kept.blk {base g : Nat} {w w' : World} (h : Kept base g w w') {j : Nat} {t : TypeId} {cs : Array Value} (hb : Blk w j t cs) (hj : j < base) (hn : j ≠ g) : Blk w' j t cs := (h.block j hj hn).trans hb

theorem bytesTyM : SliceTy Try.prog 26 5 (.int .u8 0) 1 1 := SliceTy.mk' Try.underlying26 (by kernel_rfl) rfl (by decide)
theorem Grow_zero (a k : Nat) (w : World) (v : Value) (hk : k < 2 ^ 256) (h1 : Hid (k = 0)) :
    Calls Try.prog 15 #[v, .agg (wcells a), .agg (wcells k)] w fun e w' => e = .returned (.tuple #[.int .i64 0, .bool true]) ∧ Below w.heap.size w w' := by
  have hW := wordTy
  have HSW := Lib.hid wcells_size
  have HZW := Lib.hid wcells_lit0
  have Q1 := Lib.hid (fun w => eq_word k 0 hk (by decide) w)
  rw [decide_eq_true h1.out] at Q1
  go_enter Try.func15, Try.ntmps15
  have tk0_0 : True := trivial
  have tk0_1 : True := trivial
  have tk0_2 : True := trivial
  have hqQ1 := Q1.out
  rw [← HZW.out] at hqQ1
  go_wp2_with (first
    | ((with_reducible refine gd_box ?_); have _t := tk0_0; refine wpList_box_agg rfl _ (.tmp 1) rfl rfl ?_; clear tk0_0; intro w1 hx1 hb1 hl1; have hz1 := hx1.lt; have hs1 := hb1.size)
    | ((with_reducible refine gd_box ?_); have _t := tk0_1; refine wpList_box_agg rfl _ (.tmp 2) rfl rfl ?_; clear tk0_1; intro w2 hx2 hb2 hl2; have hz2 := hx2.lt; have hs2 := hb2.size)
    | ((with_reducible refine gd_load ?_); have _t := tk0_2; refine wpList_load_blk rfl 25 (.tmp 5) rfl hx2 (by rw [HSW.out]; exact hW) rfl ?_; clear tk0_2)
    | fail)
  have hB1_2 := below_step hb1 hb2
  go_ret2
  exact ⟨rfl, hB1_2⟩
theorem own_isSlice {w : World} {base : Nat} {e : TypeId} {size n : Nat} {v : Value} {xs : List Value} (h : w.ownsRow base e size v n xs) : ∃ A c, v = .slice A n c := by
  rcases h.2 with ⟨rfl, rfl⟩ | ⟨g, cap, cur, rfl, _⟩
  · exact ⟨_, _, rfl⟩
  · exact ⟨_, _, rfl⟩
theorem intU : Try.prog.underlying 3 = some (.int .i64) := Try.underlying3
set_option maxRecDepth 100000 in
set_option maxHeartbeats 1000000 in
theorem Grow_go (a k : Nat) (w : World) (g base q q' c : Nat) (A : Option Addr) (xs : List Value) (ha : a < 1048577) (hk : k ≤ 1048576 - a) (hk0 : 0 < k) (hq : q ≤ 32768) (hq' : Hid (q' = max q ((a + k + 31) / 32)))
    (hm : Blk w g 35 #[.slice A (32 * q) c]) (ho : w.ownsRow base 5 1 (.slice A (32 * q) c) (32 * q) xs) (hg : g < base) (hbs : base ≤ w.heap.size) :
    Calls Try.prog 15 #[.pointer (some ⟨g, 0, none⟩), .agg (wcells a), .agg (wcells k)] w fun e w' =>
      e = .returned (.tuple #[.int .i64 (memCost q' - memCost q), .bool true]) ∧ ∃ A' c', Blk w' g 35 #[.slice A' (32 * q') c'] ∧
        w'.ownsRow base 5 1 (.slice A' (32 * q') c') (32 * q') (xs ++ List.replicate (32 * (q' - q)) (.int .u8 0)) ∧ Kept base g w w' := by
  have hW := wordTy
  have HSW := Lib.hid wcells_size
  have HZW := Lib.hid wcells_lit0
  have HI := Lib.hid (fun w => Int_yes a w (by omega))
  have HJ := Lib.hid (fun w => Int_yes k w (by omega))
  have hT : SliceTy Try.prog 26 5 (.int .u8 0) 1 1 := bytesTyM
  have Q1 := Lib.hid (fun w => eq_word k 0 (by omega) (by decide) w)
  rw [decide_eq_false (by omega)] at Q1
  obtain ⟨L, hL⟩ : ∃ L, L = 32 * q := ⟨_, rfl⟩
  have HC := Lib.hid (Cost_any)
  have cb1 := memCost_bd q
  have cb2 := memCost_bd (max (q : Int) (((a : Int) + k + 31) / 32))
  have hqq : q ≤ q' ∧ q' ≤ 32768 := by rw [hq'.out]; omega
  have E3 := Lib.hid (show (max (q : Int) (((a : Int) + k + 31) / 32) - q) * 32 = ((32 * (q' - q) : Nat) : Int) by rw [hq'.out]; omega)
  have E4 := Lib.hid (show max (q : Int) (((a : Int) + k + 31) / 32) = (q' : Int) by rw [hq'.out]; omega)
  have E5 := Lib.hid (show L + 32 * (q' - q) = 32 * q' by omega)
  have HS := Lib.hid (show (Try.prog.info? 26).map (·.size) = some 1 by kernel_rfl)
  have d1 : decide ((1048576 : Int) < a) = false := decide_eq_false (by omega)
  have d2 : decide ((1048576 : Int) - a < k) = false := decide_eq_false (by omega)
  have e1 : ((L : Nat) : Int).tdiv 32 = q := by rw [Int.tdiv_eq_ediv_of_nonneg (by omega)]; omega
  have e2 : ((a : Int) + k + 32 - 1).tdiv 32 = (((a + k + 31) / 32 : Nat) : Int) := by rw [Int.tdiv_eq_ediv_of_nonneg (by omega)]; omega
  rw [← hL] at hm ho
  have hLb : L ≤ 1048576 := by omega
  clear hL
  have a1 : (a : Int) ≤ 1048576 := by omega
  have a2 : (k : Int) ≤ 1048576 - a := by omega
  go_enter Try.func15, Try.ntmps15
  have tk0_0 : True := trivial
  have tk0_1 : True := trivial
  have tk0_2 : True := trivial
  have tk0_3 : True := trivial
  have tk0_4 : True := trivial
  have tk0_5 : True := trivial
  have tk0_6 : True := trivial
  have hqQ1 := Q1.out
  rw [← HZW.out] at hqQ1
  go_wp2_with (first
    | ((with_reducible refine gd_box ?_); have _t := tk0_0; refine wpList_box_agg rfl _ (.tmp 1) rfl rfl ?_; clear tk0_0; intro w1 hx1 hb1 hl1; have hz1 := hx1.lt; have hs1 := hb1.size)
    | ((with_reducible refine gd_box ?_); have _t := tk0_1; refine wpList_box_agg rfl _ (.tmp 2) rfl rfl ?_; clear tk0_1; intro w2 hx2 hb2 hl2; have hz2 := hx2.lt; have hs2 := hb2.size)
    | ((with_reducible refine gd_load ?_); have _t := tk0_2; refine wpList_load_blk rfl 25 (.tmp 5) rfl hx2 (by rw [HSW.out]; exact hW) rfl ?_; clear tk0_2)
    | ((with_reducible refine gd_load ?_); have _t := tk0_3; refine wpList_load_blk rfl 25 (.tmp 4) rfl (hx1.ext hb2) (by rw [HSW.out]; exact hW) rfl ?_; clear tk0_3)
    | (have _t := tk0_3; fail)
    | (go_at_call 40; have _t := tk0_4; refine (HI.out _).mono ?_; clear tk0_4; rintro e w3 ⟨rfl, hb3⟩)
    | ((with_reducible refine gd_load ?_); refine wpList_load_blk rfl 25 (.tmp 5) rfl (hx2.ext hb3) (by rw [HSW.out]; exact hW) rfl ?_)
    | (go_at_call 40; refine (HJ.out _).mono ?_; rintro e w4 ⟨rfl, hb4⟩; have hB4 := below_step (below_step (below_step hb1 hb2) hb3) hb4; have hm4 := hm.ext hB4; have ho4 := own_ext ho hB4; have hz4 : base ≤ w4.heap.size := Nat.le_trans hbs hB4.size; have hc := hm4.cellv (i := 0) rfl)
    | (at_builtin; have _t := tk0_5; refine wpList_append_zeros _ rfl (.tmp 61) (.tmp 65) _ _ rfl base hT intU (v := .slice A L c) rfl ho4 (32 * (q' - q)) (congrArg (Value.int .i64) E3.out) (by omega) hz4 ?_; clear tk0_5; intro v5 w5 ho5 hg5 hat5; have hn5 := own_far hm4.lt ho4 hg; have hm5 := hm4.grown hg5 hn5)
    | ((with_reducible refine gd_store ?_); refine wpList_store_cell rfl _ (.tmp 68) (.tmp 66) rfl (i := 0) hm5 Nat.zero_lt_one HS.out (own_one ho5) rfl rfl ?_; intro w6 hm6 hg6; have ho6 := own_kept ho5 hg6 hg)
    | (go_at_call 17; have _t := tk0_6; refine (HC.out _ _ (by omega) (by omega)).mono ?_; clear tk0_6; rintro e w7 ⟨rfl, hb7⟩)
    | (go_at_call 17; refine (HC.out _ _ (by omega) (by omega)).mono ?_; rintro e w8 ⟨rfl, hb8⟩)
    | fail)
  go_ret2
  have hb78 := below_step hb7 hb8
  have k5 : Below base w w5 := below_own (hB4.mono hbs) ho4 (Nat.le_refl _) hg5 hz4
  have hs5 : base ≤ w5.heap.size := Nat.le_trans hbs k5.size
  have k6 : Kept base g w w6 := (Kept.of_below k5).trans (Kept.put hg6 hs5)
  have k8 : Kept base g w w8 := k6.trans (Kept.of_below (hb78.mono (Nat.le_trans hbs k6.size)))
  rw [E5.out] at ho6
  obtain ⟨A', c', rfl⟩ := own_isSlice ho6
  refine ⟨congrArg (fun z => Ending.returned (.tuple #[.int .i64 (memCost z - memCost q), .bool true])) E4.out, A', c', hm6.ext hb78, own_ext ho6 hb78, k8⟩
end Go.Mun
