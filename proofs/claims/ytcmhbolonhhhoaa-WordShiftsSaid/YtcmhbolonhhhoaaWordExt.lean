/- The walk of word.Extend. -/
import Derived.Test.YtcmhbolonhhhoaaWordAllV
import Derived.Test.YtcmhbolonhhhoaaWordAll
namespace Go.Mun
open Go Go.RowKit Go.Proofs

/-- the number of a word's lowest k + 1 bytes, with its sign -/
def extN (k a : Nat) : Nat := if k < 31 then a % 2 ^ (8 * (k + 1)) + (if 128 ≤ lowB a k then 2 ^ 256 - 2 ^ (8 * (k + 1)) else 0) else a
theorem extN_lt {k a : Nat} (ha : a < 2 ^ 256) : extN k a < 2 ^ 256 := by
  unfold extN
  split
  · have h1 : a % 2 ^ (8 * (k + 1)) < 2 ^ (8 * (k + 1)) := Nat.mod_lt _ (Nat.pow_pos (by decide))
    have h2 : 2 ^ (8 * (k + 1)) ≤ 2 ^ 256 := Nat.pow_le_pow_right (by decide) (by omega)
    split <;> omega
  · exact ha
theorem lowB_mod {a : Nat} {j n : Nat} (h : j < n) : lowB (a % 2 ^ (8 * n)) j = lowB a j := by
  unfold lowB
  have e : 2 ^ (8 * n) = 2 ^ (8 * j) * (256 * 2 ^ (8 * (n - j - 1))) := by
    rw [show (256 : Nat) = 2 ^ 8 from rfl, ← Nat.pow_add, ← Nat.pow_add]
    congr 1
    omega
  rw [e, Nat.mod_mul_right_div_self, Nat.mod_mul_right_mod]
theorem lowB_over {x y n j : Nat} (hx : x < 2 ^ (8 * n)) : lowB (x + y * 2 ^ (8 * n)) j = if j < n then lowB x j else lowB y (j - n) := by
  unfold lowB
  by_cases c : j < n
  · rw [if_pos c]
    have e : 2 ^ (8 * n) = 2 ^ (8 * j) * (256 * 2 ^ (8 * (n - j - 1))) := by
      rw [show (256 : Nat) = 2 ^ 8 from rfl, ← Nat.pow_add, ← Nat.pow_add]
      congr 1
      omega
    rw [e, Nat.mul_left_comm, Nat.add_mul_div_left _ _ (Nat.pow_pos (by decide)), Nat.mul_left_comm, Nat.add_mul_mod_self_left]
  · rw [if_neg c]
    have e : 2 ^ (8 * j) = 2 ^ (8 * n) * 2 ^ (8 * (j - n)) := by
      rw [← Nat.pow_add]
      congr 1
      omega
    rw [e, ← Nat.div_div_eq_div_mul, Nat.add_mul_div_right _ _ (Nat.pow_pos (by decide)), Nat.div_eq_of_lt hx, Nat.zero_add]
theorem lowB_allones {n j : Nat} (h : j < n) : lowB (2 ^ (8 * n) - 1) j = 255 := by
  have e : 2 ^ (8 * n) - 1 = (2 ^ (8 * j) - 1) + (2 ^ (8 * (n - j)) - 1) * 2 ^ (8 * j) := by
    have h1 : 2 ^ (8 * n) = 2 ^ (8 * (n - j)) * 2 ^ (8 * j) := by
      rw [← Nat.pow_add]
      congr 1
      omega
    have h2 : 0 < 2 ^ (8 * j) := Nat.pow_pos (by decide)
    have h3 : 2 ^ (8 * j) ≤ 2 ^ (8 * (n - j)) * 2 ^ (8 * j) := Nat.le_mul_of_pos_left _ (Nat.pow_pos (by decide))
    rw [h1, Nat.sub_mul, Nat.one_mul]
    omega
  have h2 : 0 < 2 ^ (8 * j) := Nat.pow_pos (by decide)
  rw [e, lowB_over (by omega), if_neg (by omega), Nat.sub_self]
  unfold lowB
  rw [Nat.mul_zero, Nat.pow_zero, Nat.div_one]
  have h1 : 2 ^ (8 * (n - j)) = 256 * 2 ^ (8 * (n - j - 1)) := by
    rw [show (256 : Nat) = 2 ^ 8 from rfl, ← Nat.pow_add]
    congr 1
    omega
  have h3 : 0 < 2 ^ (8 * (n - j - 1)) := Nat.pow_pos (by decide)
  omega
theorem lowB_ext {k a j : Nat} (hk : k < 31) (hj : j < 32) : lowB (extN k a) j = if j ≤ k then lowB a j else if 128 ≤ lowB a k then 255 else 0 := by
  unfold extN
  rw [if_pos hk]
  have h1 : a % 2 ^ (8 * (k + 1)) < 2 ^ (8 * (k + 1)) := Nat.mod_lt _ (Nat.pow_pos (by decide))
  by_cases c : 128 ≤ lowB a k
  · rw [if_pos c, if_pos c]
    have e : 2 ^ 256 - 2 ^ (8 * (k + 1)) = (2 ^ (8 * (31 - k)) - 1) * 2 ^ (8 * (k + 1)) := by
      rw [Nat.sub_mul, ← Nat.pow_add, Nat.one_mul, show 8 * (31 - k) + 8 * (k + 1) = 256 from by omega]
    rw [e, lowB_over h1]
    by_cases d : j ≤ k
    · rw [if_pos d, if_pos (by omega), lowB_mod (by omega)]
    · rw [if_neg d, if_neg (by omega), lowB_allones (by omega)]
  · rw [if_neg c, if_neg c, Nat.add_zero]
    by_cases d : j ≤ k
    · rw [if_pos d, lowB_mod (by omega)]
    · rw [if_neg d]
      have := lowB_over (y := 0) (j := j) h1
      rw [Nat.zero_mul, Nat.add_zero, if_neg (by omega)] at this
      rw [this]
      unfold lowB
      rw [Nat.zero_div]
theorem ext_cells {m k a f : Nat} (hk : k < 31) (hm : m = 31 - k) (hf : f = if 128 ≤ lowB a k then 255 else 0) : (tab .u8 32 fun i => if i < m then f else lowB a (31 - i)) = wcells (extN k a) := by
  rw [wcells, bv_wbytes]
  exact tab_congr fun i hi => by
    rw [lowB_ext hk (by omega)]
    by_cases c : i < m
    · rw [if_pos c, if_neg (by omega), hf]
    · rw [if_neg c, if_pos (by omega)]

set_option maxRecDepth 100000 in
set_option maxHeartbeats 4000000 in
theorem Extend_one (k m a : Nat) (w : World) (hk : k < 31) (hm : m = 31 - k) (hc : Hid (128 ≤ lowB a k)) : Calls Try.prog 11 #[.agg (wcells k), .agg (wcells a)] w fun e w' => e = .returned (.agg (wcells (extN k a))) ∧ Below w.heap.size w w' := by
  have hW := wordTy
  have zW := zWordL
  have HSW := Lib.hid wcells_size
  have H1W := Lib.hid wcells_one
  have CI := Lib.hid (fun w => Int_yes k w (by omega))
  rw [show ((k : Nat) : Int) = 31 - (m : Int) from by omega] at CI
  obtain ⟨x, Ex⟩ : ∃ x, x = lowB a k := ⟨_, rfl⟩
  have hx256 : x < 256 := by rw [Ex]; exact lowB_lt _ _
  have d1 : ((x : Int) / 128 != 0) = true := by
    have := hc.out
    rw [← Ex] at this
    have e : (x : Int) / 128 = 1 := by omega
    rw [e]; rfl
  have hcell0 : (wcells a)[m]? = some (.int .u8 (x : Nat)) := by rw [wcells_get a (by omega), Ex, show 31 - m = k from by omega]
  have HEND := Lib.hid (ext_cells (f := 255) hk hm (by rw [if_pos hc.out]))
  have H0 := Lib.hid (show wcells a = (tab .u8 32 fun i => if i < 0 then 255 else lowB a (31 - i)) from by rw [wcells, bv_wbytes]; exact tab_congr fun j _ => by simp)
  have HT := Lib.hid (fun k (hk : k < 32) => @tab_set .u8 32 (fun i => if i < k then 255 else lowB a (31 - i)) k 255 hk)
  have HE := Lib.hid (fun k => @tab_congr .u8 32 (fun i => if i = k then 255 else if i < k then 255 else lowB a (31 - i)) (fun i => if i < k + 1 then 255 else lowB a (31 - i)) (fun i _ => by
    by_cases e : i = k
    · subst e; simp
    · by_cases e2 : i < k
      · rw [if_neg e, if_pos e2, if_pos (by omega)]
      · rw [if_neg e, if_neg e2, if_neg (by omega)]))
  have HS := Lib.hid (fun k => @tab_size .u8 32 (fun i => if i < k then 255 else lowB a (31 - i)))
  have hm1 : (1 : Int) ≤ (m : Int) := by omega
  have hm2 : (m : Int) ≤ 31 := by omega
  have hmN : m ≤ 31 := by omega
  clear Ex hc hk hm
  obtain ⟨r, Er⟩ : ∃ r, r = extN k a := ⟨_, rfl⟩
  rw [← Er] at HEND
  have HR := Lib.hid Er
  clear Er
  have q1 : (31 : Int) - (31 - (m : Int)) = (m : Int) := by omega
  have q2 : 31 - (31 - m) = m := by omega
  have tk1 : True := trivial
  have tk2 : True := trivial
  go_enter Try.func11, Try.ntmps11
  go_wp2_with (first
    | ((with_reducible refine gd_box ?_); have _t := tk1; refine wpList_box_agg rfl _ (.tmp 0) rfl rfl ?_; clear tk1; intro w1 hx1 hb1 hl1)
    | ((with_reducible refine gd_box ?_); refine wpList_box_agg rfl _ (.tmp 1) rfl rfl ?_; intro w2 hx2 hb2 hl2)
    | ((with_reducible refine gd_alloc ?_); refine wpList_alloc_blk rfl 23 rfl zW ?_; intro w3 hx3 hb3 hl3)
    | ((with_reducible refine gd_load ?_); have _t := tk2; refine wpList_load_blk rfl 23 (.tmp 2) rfl ((hx1.ext hb2).ext hb3) (by rw [HSW.out]; exact hW) rfl ?_; clear tk2)
    | (go_at_call 45; refine (CI.out _).mono ?_; rintro e w4 ⟨rfl, hb4⟩; have hcA := ((hx2.ext hb3).ext hb4).cellv hcell0)
    | fail)
  have hy3 := ((hx2.ext hb3).ext hb4)
  have hy4 := hx3.ext hb4
  have hB4 := below_step (below_step (below_step hb1 hb2) hb3) hb4
  have o1 := hx1.lt
  have o2 := hx2.lt
  have o3 := hx3.lt
  have o4 := hb4.size
  rw [H0.out] at hy3
  clear hx1 hx2 hx3 hb1 hb2 hb3 hb4 hl1 hl2 hl3 hcA q1 q2
  go_loopw [30] (fun i wr => ∃ j : Nat, j ≤ m ∧ i = .int .i64 j ∧ Blk wr w1.heap.size 23 (tab .u8 32 fun i => if i < j then 255 else lowB a (31 - i)) ∧ Blk wr w2.heap.size 23 (wcells 0) ∧ Below w.heap.size w wr) (fun i _ => m - (intOf i).toNat)
  case atStart => exact ⟨0, by omega, rfl, hy3, hy4, hB4⟩
  case round =>
    clear hy3 hy4 hB4
    obtain ⟨j, hj, rfl, hy3, hy4, hBr⟩ := hrel
    by_cases hlt : j < m
    · have j0 : (0 : Int) ≤ (j : Int) := by omega
      have j1 : (j : Int) < 31 := by omega
      have j2 : (j : Int) < (m : Int) := by omega
      have HSj := Lib.hid (HS.out j)
      have HTj := Lib.hid ((HT.out j (by omega)).trans (HE.out j))
      generalize (tab .u8 32 fun i => if i < j then 255 else lowB a (31 - i)) = cj at *
      go_wp2_with (first
        | ((with_reducible refine gd_store ?_); refine wpList_store_cell rfl 5 (.tmp 35) (.tmp 34) rfl hy3 (i := j) (v := .int .u8 (255 : Nat)) (by rw [HSj.out]; omega) (by kernel_rfl) rfl rfl (by rfl) ?_; intro w5 hx5 hg5)
        | fail)
      rw [HTj.out] at hx5
      have hy4' := hy4.grown hg5 (by simp; omega)
      have hB5 := below_blk hBr hBr.size hg5 (by omega)
      go_roundw
      case rel => exact ⟨j + 1, by omega, by go_num, hx5, hy4', hB5⟩
      case measure => (simp [intOf]; try omega)
    · obtain rfl : j = m := by omega
      rw [HEND.out] at hy3
      have j2 : decide ((j : Int) < (j : Int)) = false := by simp
      go_wp2_with (first
        | ((with_reducible refine gd_load ?_); refine wpList_load_blk rfl 23 (.tmp 3) rfl hy3 (by rw [HSW.out]; exact hW) rfl ?_)
        | ((with_reducible refine gd_store ?_); refine wpList_store_all rfl 23 (.tmp 4) (.tmp 37) rfl (wcells r) hy4 (by rw [HSW.out]; exact hW) (by rw [HSW.out]; exact HSW.out 0) (H1W.out _) (by rfl) (by rfl) ?_; intro w9 hx9 hg9)
        | fail)
      have hB9 := below_blk hBr hBr.size hg9 (by omega)
      exact bodyPost_ret (results_blk1 (cs := wcells r) rfl (by rw [HSW.out]; exact hW) hx9 rfl) rfl ⟨by rw [HR.out], hB9⟩

set_option maxRecDepth 100000 in
set_option maxHeartbeats 4000000 in
theorem Extend_nil (k m a : Nat) (w : World) (hk : k < 31) (hm : m = 31 - k) (hc : Hid (¬ 128 ≤ lowB a k)) : Calls Try.prog 11 #[.agg (wcells k), .agg (wcells a)] w fun e w' => e = .returned (.agg (wcells (extN k a))) ∧ Below w.heap.size w w' := by
  have hW := wordTy
  have zW := zWordL
  have HSW := Lib.hid wcells_size
  have H1W := Lib.hid wcells_one
  have CI := Lib.hid (fun w => Int_yes k w (by omega))
  rw [show ((k : Nat) : Int) = 31 - (m : Int) from by omega] at CI
  obtain ⟨x, Ex⟩ : ∃ x, x = lowB a k := ⟨_, rfl⟩
  have hx256 : x < 256 := by rw [Ex]; exact lowB_lt _ _
  have d1 : ((x : Int) / 128 != 0) = false := by
    have := hc.out
    rw [← Ex] at this
    have e : (x : Int) / 128 = 0 := by omega
    rw [e]; rfl
  have hcell0 : (wcells a)[m]? = some (.int .u8 (x : Nat)) := by rw [wcells_get a (by omega), Ex, show 31 - m = k from by omega]
  have HEND := Lib.hid (ext_cells (f := 0) hk hm (by rw [if_neg hc.out]))
  have H0 := Lib.hid (show wcells a = (tab .u8 32 fun i => if i < 0 then 0 else lowB a (31 - i)) from by rw [wcells, bv_wbytes]; exact tab_congr fun j _ => by simp)
  have HT := Lib.hid (fun k (hk : k < 32) => @tab_set .u8 32 (fun i => if i < k then 0 else lowB a (31 - i)) k 0 hk)
  have HE := Lib.hid (fun k => @tab_congr .u8 32 (fun i => if i = k then 0 else if i < k then 0 else lowB a (31 - i)) (fun i => if i < k + 1 then 0 else lowB a (31 - i)) (fun i _ => by
    by_cases e : i = k
    · subst e; simp
    · by_cases e2 : i < k
      · rw [if_neg e, if_pos e2, if_pos (by omega)]
      · rw [if_neg e, if_neg e2, if_neg (by omega)]))
  have HS := Lib.hid (fun k => @tab_size .u8 32 (fun i => if i < k then 0 else lowB a (31 - i)))
  have hm1 : (1 : Int) ≤ (m : Int) := by omega
  have hm2 : (m : Int) ≤ 31 := by omega
  have hmN : m ≤ 31 := by omega
  clear Ex hc hk hm
  obtain ⟨r, Er⟩ : ∃ r, r = extN k a := ⟨_, rfl⟩
  rw [← Er] at HEND
  have HR := Lib.hid Er
  clear Er
  have q1 : (31 : Int) - (31 - (m : Int)) = (m : Int) := by omega
  have q2 : 31 - (31 - m) = m := by omega
  have tk1 : True := trivial
  have tk2 : True := trivial
  go_enter Try.func11, Try.ntmps11
  go_wp2_with (first
    | ((with_reducible refine gd_box ?_); have _t := tk1; refine wpList_box_agg rfl _ (.tmp 0) rfl rfl ?_; clear tk1; intro w1 hx1 hb1 hl1)
    | ((with_reducible refine gd_box ?_); refine wpList_box_agg rfl _ (.tmp 1) rfl rfl ?_; intro w2 hx2 hb2 hl2)
    | ((with_reducible refine gd_alloc ?_); refine wpList_alloc_blk rfl 23 rfl zW ?_; intro w3 hx3 hb3 hl3)
    | ((with_reducible refine gd_load ?_); have _t := tk2; refine wpList_load_blk rfl 23 (.tmp 2) rfl ((hx1.ext hb2).ext hb3) (by rw [HSW.out]; exact hW) rfl ?_; clear tk2)
    | (go_at_call 45; refine (CI.out _).mono ?_; rintro e w4 ⟨rfl, hb4⟩; have hcA := ((hx2.ext hb3).ext hb4).cellv hcell0)
    | fail)
  have hy3 := ((hx2.ext hb3).ext hb4)
  have hy4 := hx3.ext hb4
  have hB4 := below_step (below_step (below_step hb1 hb2) hb3) hb4
  have o1 := hx1.lt
  have o2 := hx2.lt
  have o3 := hx3.lt
  have o4 := hb4.size
  rw [H0.out] at hy3
  clear hx1 hx2 hx3 hb1 hb2 hb3 hb4 hl1 hl2 hl3 hcA q1 q2
  go_loopw [30] (fun i wr => ∃ j : Nat, j ≤ m ∧ i = .int .i64 j ∧ Blk wr w1.heap.size 23 (tab .u8 32 fun i => if i < j then 0 else lowB a (31 - i)) ∧ Blk wr w2.heap.size 23 (wcells 0) ∧ Below w.heap.size w wr) (fun i _ => m - (intOf i).toNat)
  case atStart => exact ⟨0, by omega, rfl, hy3, hy4, hB4⟩
  case round =>
    clear hy3 hy4 hB4
    obtain ⟨j, hj, rfl, hy3, hy4, hBr⟩ := hrel
    by_cases hlt : j < m
    · have j0 : (0 : Int) ≤ (j : Int) := by omega
      have j1 : (j : Int) < 31 := by omega
      have j2 : (j : Int) < (m : Int) := by omega
      have HSj := Lib.hid (HS.out j)
      have HTj := Lib.hid ((HT.out j (by omega)).trans (HE.out j))
      generalize (tab .u8 32 fun i => if i < j then 0 else lowB a (31 - i)) = cj at *
      go_wp2_with (first
        | ((with_reducible refine gd_store ?_); refine wpList_store_cell rfl 5 (.tmp 35) (.tmp 34) rfl hy3 (i := j) (v := .int .u8 (0 : Nat)) (by rw [HSj.out]; omega) (by kernel_rfl) rfl rfl (by rfl) ?_; intro w5 hx5 hg5)
        | fail)
      rw [HTj.out] at hx5
      have hy4' := hy4.grown hg5 (by simp; omega)
      have hB5 := below_blk hBr hBr.size hg5 (by omega)
      go_roundw
      case rel => exact ⟨j + 1, by omega, by go_num, hx5, hy4', hB5⟩
      case measure => (simp [intOf]; try omega)
    · obtain rfl : j = m := by omega
      rw [HEND.out] at hy3
      have j2 : decide ((j : Int) < (j : Int)) = false := by simp
      go_wp2_with (first
        | ((with_reducible refine gd_load ?_); refine wpList_load_blk rfl 23 (.tmp 3) rfl hy3 (by rw [HSW.out]; exact hW) rfl ?_)
        | ((with_reducible refine gd_store ?_); refine wpList_store_all rfl 23 (.tmp 4) (.tmp 37) rfl (wcells r) hy4 (by rw [HSW.out]; exact hW) (by rw [HSW.out]; exact HSW.out 0) (H1W.out _) (by rfl) (by rfl) ?_; intro w9 hx9 hg9)
        | fail)
      have hB9 := below_blk hBr hBr.size hg9 (by omega)
      exact bodyPost_ret (results_blk1 (cs := wcells r) rfl (by rw [HSW.out]; exact hW) hx9 rfl) rfl ⟨by rw [HR.out], hB9⟩

set_option maxRecDepth 100000 in
set_option maxHeartbeats 400000 in
theorem Extend_mid (k a : Nat) (w : World) (hk : ¬ k < 31) (hk2 : k < 2 ^ 63) : Calls Try.prog 11 #[.agg (wcells k), .agg (wcells a)] w fun e w' => e = .returned (.agg (wcells a)) ∧ Below w.heap.size w w' := by
  have hW := wordTy
  have zW := zWordL
  have HSW := Lib.hid wcells_size
  have H1W := Lib.hid wcells_one
  have CI := Lib.hid (fun w => Int_yes k w (by omega))
  have hk30 : 30 < (k : Int) := by omega
  clear hk hk2
  have tk1 : True := trivial
  have tk2 : True := trivial
  go_enter Try.func11, Try.ntmps11
  go_wp2_with (first
    | ((with_reducible refine gd_box ?_); have _t := tk1; refine wpList_box_agg rfl _ (.tmp 0) rfl rfl ?_; clear tk1; intro w1 hx1 hb1 hl1)
    | ((with_reducible refine gd_box ?_); refine wpList_box_agg rfl _ (.tmp 1) rfl rfl ?_; intro w2 hx2 hb2 hl2)
    | ((with_reducible refine gd_alloc ?_); refine wpList_alloc_blk rfl 23 rfl zW ?_; intro w3 hx3 hb3 hl3)
    | ((with_reducible refine gd_load ?_); have _t := tk2; refine wpList_load_blk rfl 23 (.tmp 2) rfl ((hx1.ext hb2).ext hb3) (by rw [HSW.out]; exact hW) rfl ?_; clear tk2)
    | (go_at_call 45; refine (CI.out _).mono ?_; rintro e w4 ⟨rfl, hb4⟩)
    | ((with_reducible refine gd_load ?_); refine wpList_load_blk rfl 23 (.tmp 3) rfl ((hx2.ext hb3).ext hb4) (by rw [HSW.out]; exact hW) rfl ?_)
    | ((with_reducible refine gd_store ?_); refine wpList_store_all rfl 23 (.tmp 4) (.tmp 21) rfl (wcells a) (hx3.ext hb4) (by rw [HSW.out]; exact hW) (by rw [HSW.out]; exact HSW.out 0) (H1W.out _) (by rfl) (by rfl) ?_; intro w9 hx9 hg9)
    | fail)
  have o1 := hx1.lt
  have o2 := hx2.lt
  have hB4 := below_step (below_step (below_step hb1 hb2) hb3) hb4
  have hB9 := below_blk hB4 hB4.size hg9 (by omega)
  exact bodyPost_ret (results_blk1 (cs := wcells a) rfl (by rw [HSW.out]; exact hW) hx9 rfl) rfl ⟨rfl, hB9⟩

set_option maxRecDepth 100000 in
set_option maxHeartbeats 400000 in
theorem Extend_big (k a : Nat) (w : World) (hk2 : k < 2 ^ 256) (hk : ¬ k < 2 ^ 63) : Calls Try.prog 11 #[.agg (wcells k), .agg (wcells a)] w fun e w' => e = .returned (.agg (wcells a)) ∧ Below w.heap.size w w' := by
  have hW := wordTy
  have zW := zWordL
  have HSW := Lib.hid wcells_size
  have H1W := Lib.hid wcells_one
  have CI := Lib.hid (fun w => Int_no k w hk2 hk)
  clear hk hk2
  have tk1 : True := trivial
  have tk2 : True := trivial
  go_enter Try.func11, Try.ntmps11
  go_wp2_with (first
    | ((with_reducible refine gd_box ?_); have _t := tk1; refine wpList_box_agg rfl _ (.tmp 0) rfl rfl ?_; clear tk1; intro w1 hx1 hb1 hl1)
    | ((with_reducible refine gd_box ?_); refine wpList_box_agg rfl _ (.tmp 1) rfl rfl ?_; intro w2 hx2 hb2 hl2)
    | ((with_reducible refine gd_alloc ?_); refine wpList_alloc_blk rfl 23 rfl zW ?_; intro w3 hx3 hb3 hl3)
    | ((with_reducible refine gd_load ?_); have _t := tk2; refine wpList_load_blk rfl 23 (.tmp 2) rfl ((hx1.ext hb2).ext hb3) (by rw [HSW.out]; exact hW) rfl ?_; clear tk2)
    | (go_at_call 45; refine (CI.out _).mono ?_; rintro e w4 ⟨rfl, hb4⟩)
    | ((with_reducible refine gd_load ?_); refine wpList_load_blk rfl 23 (.tmp 3) rfl ((hx2.ext hb3).ext hb4) (by rw [HSW.out]; exact hW) rfl ?_)
    | ((with_reducible refine gd_store ?_); refine wpList_store_all rfl 23 (.tmp 4) (.tmp 21) rfl (wcells a) (hx3.ext hb4) (by rw [HSW.out]; exact hW) (by rw [HSW.out]; exact HSW.out 0) (H1W.out _) (by rfl) (by rfl) ?_; intro w9 hx9 hg9)
    | fail)
  have o1 := hx1.lt
  have o2 := hx2.lt
  have hB4 := below_step (below_step (below_step hb1 hb2) hb3) hb4
  have hB9 := below_blk hB4 hB4.size hg9 (by omega)
  exact bodyPost_ret (results_blk1 (cs := wcells a) rfl (by rw [HSW.out]; exact hW) hx9 rfl) rfl ⟨rfl, hB9⟩

theorem Extend_all (k a : Nat) (w : World) (hk : k < 2 ^ 256) : Calls Try.prog 11 #[.agg (wcells k), .agg (wcells a)] w fun e w' => e = .returned (.agg (wcells (extN k a))) ∧ Below w.heap.size w w' := by
  by_cases c : k < 31
  · by_cases d : 128 ≤ lowB a k
    · exact Extend_one k (31 - k) a w c rfl (Lib.hid d)
    · exact Extend_nil k (31 - k) a w c rfl (Lib.hid d)
  · have e : extN k a = a := by unfold extN; rw [if_neg c]
    rw [e]
    by_cases c2 : k < 2 ^ 63
    · exact Extend_mid k a w c c2
    · exact Extend_big k a w hk c2
end Go.Mun
