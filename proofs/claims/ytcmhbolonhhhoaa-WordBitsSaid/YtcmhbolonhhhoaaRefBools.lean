/- The walks of munimentsref1.And, Or, Xor, Not. -/
import Derived.Test.YtcmhbolonhhhoaaRefMoved
import Derived.Test.YtcmhbolonhhhoaaWordAll
namespace Go.Mun
open Go Go.RowKit Go.Proofs

set_option maxRecDepth 100000 in
set_option maxHeartbeats 1000000 in
theorem RefAnd_any (a b : Nat) (w : World) : Calls Try.prog 28 #[.agg (wcells a), .agg (wcells b)] w fun e w' => e = .returned (.agg (wcells (a &&& b))) ∧ Below w.heap.size w w' := by
  have hW := wordTy
  have zW := zWordL
  have HSW := Lib.hid wcells_size
  have H1W := Lib.hid wcells_one
  have HB := Lib.hid (fun k (hk : k < 32) => wcells_get b hk)
  have H0 := Lib.hid (show wcells a = (tab .u8 32 fun j => if j < 0 then lowB a (31 - j) &&& lowB b (31 - j) else lowB a (31 - j)) from by
    rw [wcells, bv_wbytes]; exact tab_congr fun j _ => by simp)
  have H32 := Lib.hid (show (tab .u8 32 fun j => if j < 32 then lowB a (31 - j) &&& lowB b (31 - j) else lowB a (31 - j)) = wcells (a &&& b) from by
    rw [wcells, bv_wbytes]; exact tab_congr fun j hj => by rw [if_pos hj, lowB_and])
  have HG := Lib.hid (fun k (hk : k < 32) => @tab_get .u8 32 (fun j => if j < k then lowB a (31 - j) &&& lowB b (31 - j) else lowB a (31 - j)) k hk)
  have HT := Lib.hid (fun k (hk : k < 32) => @tab_set .u8 32 (fun j => if j < k then lowB a (31 - j) &&& lowB b (31 - j) else lowB a (31 - j)) k (lowB a (31 - k) &&& lowB b (31 - k)) hk)
  have HE := Lib.hid (fun k => @tab_congr .u8 32 (fun j => if j = k then lowB a (31 - k) &&& lowB b (31 - k) else if j < k then lowB a (31 - j) &&& lowB b (31 - j) else lowB a (31 - j)) (fun j => if j < k + 1 then lowB a (31 - j) &&& lowB b (31 - j) else lowB a (31 - j)) (fun j _ => by
    by_cases e : j = k
    · subst e; simp
    · by_cases e2 : j < k
      · rw [if_neg e, if_pos e2, if_pos (by omega)]
      · rw [if_neg e, if_neg e2, if_neg (by omega)]))
  have HS := Lib.hid (fun k => @tab_size .u8 32 (fun j => if j < k then lowB a (31 - j) &&& lowB b (31 - j) else lowB a (31 - j)))
  have tokE : True := trivial
  go_enter Try.func28, Try.ntmps28
  go_wp2_with (first
    | ((with_reducible refine gd_box ?_); have _t := tokE; refine wpList_box_agg rfl _ (.tmp 0) rfl rfl ?_; clear tokE; intro w1 hx1 hb1 hl1)
    | ((with_reducible refine gd_box ?_); refine wpList_box_agg rfl _ (.tmp 1) rfl rfl ?_; intro w2 hx2 hb2 hl2)
    | ((with_reducible refine gd_alloc ?_); refine wpList_alloc_blk rfl 23 rfl zW ?_; intro w3 hx3 hb3 hl3)
    | fail)
  replace hx3 : Blk w3 w2.heap.size 23 (wcells 0) := hx3
  have hx1' := (hx1.ext hb2).ext hb3
  have hx2' := hx2.ext hb3
  have hB3 := below_step (below_step hb1 hb2) hb3
  have hg1 := hx1.lt
  have hg2 := hx2.lt
  have hg3 := hx3.lt
  rw [H0.out] at hx1'
  clear hx1 hx2 hb1 hb2 hb3
  go_loopw [5] (fun i wr => ∃ k : Nat, k ≤ 32 ∧ i = .int .i64 k ∧ Blk wr w.heap.size 23 (tab .u8 32 fun j => if j < k then lowB a (31 - j) &&& lowB b (31 - j) else lowB a (31 - j)) ∧ Blk wr w1.heap.size 23 (wcells b) ∧ Blk wr w2.heap.size 23 (wcells 0) ∧ Below w.heap.size w wr) (fun i _ => 32 - (intOf i).toNat)
  case atStart => exact ⟨0, by omega, rfl, hx1', hx2', hx3, hB3⟩
  case round =>
    clear hx1' hx2' hx3 hB3
    obtain ⟨k, hk, rfl, hy1, hy2, hy3, hBr⟩ := hrel
    by_cases hlt : k < 32
    · have hcA := hy1.cellv (HG.out k hlt)
      rw [if_neg (Nat.lt_irrefl k)] at hcA
      have hcB := hy2.cellv (i := k) (HB.out k hlt)
      have b0 : (0 : Int) ≤ (k : Int) := by omega
      have b1 : (k : Int) < 32 := by omega
      have HTk := Lib.hid ((HT.out k hlt).trans (HE.out k))
      have HSk := Lib.hid (HS.out k)
      have HO := Lib.hid (u8_and_nat (lowB a (31 - k)) (lowB b (31 - k)) (lowB_lt _ _) (lowB_lt _ _))
      generalize lowB a (31 - k) &&& lowB b (31 - k) = z at *
      generalize lowB a (31 - k) = x at *
      generalize lowB b (31 - k) = y at *
      generalize (tab .u8 32 fun j => if j < k then lowB a (31 - j) &&& lowB b (31 - j) else lowB a (31 - j)) = ck at *
      go_wp2
      go_still_tail 9, (by kernel_rfl)
      refine wpList_store_cell rfl 5 (.tmp 18) (.tmp 17) rfl (w := wr.drew) hy1.drew (i := k) (v := .int .u8 (z : Nat)) (by rw [HSk.out]; exact hlt) (by kernel_rfl) rfl rfl (congrArg (Value.int .u8) HO.out) ?_
      intro w5 hx5 hg5
      rw [HTk.out] at hx5
      have hy2' := hy2.drew.grown hg5 (by simp; omega)
      have hy3' := hy3.drew.grown hg5 (by simp; omega)
      have hB5 := below_blk hBr.drew hBr.size hg5 (by omega)
      go_wp2
      go_roundw
      case rel => exact ⟨k + 1, by omega, by go_num, hx5, hy2', hy3', hB5⟩
      case measure => (simp [intOf]; try omega)
    · obtain rfl : k = 32 := by omega
      rw [H32.out] at hy1
      generalize hr : a &&& b = r at *
      have HR := Lib.hid hr
      clear hr
      go_wp2_with (first
        | ((with_reducible refine gd_load ?_); refine wpList_load_blk rfl 23 (.tmp 2) rfl hy1 (by rw [HSW.out]; exact hW) rfl ?_)
        | ((with_reducible refine gd_store ?_); refine wpList_store_all rfl 23 (.tmp 4) (.tmp 19) rfl (wcells r) hy3 (by rw [HSW.out]; exact hW) (by rw [HSW.out]; exact HSW.out 0) (H1W.out _) (by rfl) (by rfl) ?_; intro w9 hx9 hg9)
        | fail)
      have hB9 := below_blk hBr hBr.size hg9 (by omega)
      exact bodyPost_ret (results_blk1 (cs := wcells r) rfl (by rw [HSW.out]; exact hW) hx9 rfl) rfl ⟨by rw [HR.out], hB9⟩

set_option maxRecDepth 100000 in
set_option maxHeartbeats 1000000 in
theorem RefOr_any (a b : Nat) (w : World) : Calls Try.prog 30 #[.agg (wcells a), .agg (wcells b)] w fun e w' => e = .returned (.agg (wcells (a ||| b))) ∧ Below w.heap.size w w' := by
  have hW := wordTy
  have zW := zWordL
  have HSW := Lib.hid wcells_size
  have H1W := Lib.hid wcells_one
  have HB := Lib.hid (fun k (hk : k < 32) => wcells_get b hk)
  have H0 := Lib.hid (show wcells a = (tab .u8 32 fun j => if j < 0 then lowB a (31 - j) ||| lowB b (31 - j) else lowB a (31 - j)) from by
    rw [wcells, bv_wbytes]; exact tab_congr fun j _ => by simp)
  have H32 := Lib.hid (show (tab .u8 32 fun j => if j < 32 then lowB a (31 - j) ||| lowB b (31 - j) else lowB a (31 - j)) = wcells (a ||| b) from by
    rw [wcells, bv_wbytes]; exact tab_congr fun j hj => by rw [if_pos hj, lowB_or])
  have HG := Lib.hid (fun k (hk : k < 32) => @tab_get .u8 32 (fun j => if j < k then lowB a (31 - j) ||| lowB b (31 - j) else lowB a (31 - j)) k hk)
  have HT := Lib.hid (fun k (hk : k < 32) => @tab_set .u8 32 (fun j => if j < k then lowB a (31 - j) ||| lowB b (31 - j) else lowB a (31 - j)) k (lowB a (31 - k) ||| lowB b (31 - k)) hk)
  have HE := Lib.hid (fun k => @tab_congr .u8 32 (fun j => if j = k then lowB a (31 - k) ||| lowB b (31 - k) else if j < k then lowB a (31 - j) ||| lowB b (31 - j) else lowB a (31 - j)) (fun j => if j < k + 1 then lowB a (31 - j) ||| lowB b (31 - j) else lowB a (31 - j)) (fun j _ => by
    by_cases e : j = k
    · subst e; simp
    · by_cases e2 : j < k
      · rw [if_neg e, if_pos e2, if_pos (by omega)]
      · rw [if_neg e, if_neg e2, if_neg (by omega)]))
  have HS := Lib.hid (fun k => @tab_size .u8 32 (fun j => if j < k then lowB a (31 - j) ||| lowB b (31 - j) else lowB a (31 - j)))
  have tokE : True := trivial
  go_enter Try.func30, Try.ntmps30
  go_wp2_with (first
    | ((with_reducible refine gd_box ?_); have _t := tokE; refine wpList_box_agg rfl _ (.tmp 0) rfl rfl ?_; clear tokE; intro w1 hx1 hb1 hl1)
    | ((with_reducible refine gd_box ?_); refine wpList_box_agg rfl _ (.tmp 1) rfl rfl ?_; intro w2 hx2 hb2 hl2)
    | ((with_reducible refine gd_alloc ?_); refine wpList_alloc_blk rfl 23 rfl zW ?_; intro w3 hx3 hb3 hl3)
    | fail)
  replace hx3 : Blk w3 w2.heap.size 23 (wcells 0) := hx3
  have hx1' := (hx1.ext hb2).ext hb3
  have hx2' := hx2.ext hb3
  have hB3 := below_step (below_step hb1 hb2) hb3
  have hg1 := hx1.lt
  have hg2 := hx2.lt
  have hg3 := hx3.lt
  rw [H0.out] at hx1'
  clear hx1 hx2 hb1 hb2 hb3
  go_loopw [5] (fun i wr => ∃ k : Nat, k ≤ 32 ∧ i = .int .i64 k ∧ Blk wr w.heap.size 23 (tab .u8 32 fun j => if j < k then lowB a (31 - j) ||| lowB b (31 - j) else lowB a (31 - j)) ∧ Blk wr w1.heap.size 23 (wcells b) ∧ Blk wr w2.heap.size 23 (wcells 0) ∧ Below w.heap.size w wr) (fun i _ => 32 - (intOf i).toNat)
  case atStart => exact ⟨0, by omega, rfl, hx1', hx2', hx3, hB3⟩
  case round =>
    clear hx1' hx2' hx3 hB3
    obtain ⟨k, hk, rfl, hy1, hy2, hy3, hBr⟩ := hrel
    by_cases hlt : k < 32
    · have hcA := hy1.cellv (HG.out k hlt)
      rw [if_neg (Nat.lt_irrefl k)] at hcA
      have hcB := hy2.cellv (i := k) (HB.out k hlt)
      have b0 : (0 : Int) ≤ (k : Int) := by omega
      have b1 : (k : Int) < 32 := by omega
      have HTk := Lib.hid ((HT.out k hlt).trans (HE.out k))
      have HSk := Lib.hid (HS.out k)
      have HO := Lib.hid (u8_or_nat (lowB a (31 - k)) (lowB b (31 - k)) (lowB_lt _ _) (lowB_lt _ _))
      generalize lowB a (31 - k) ||| lowB b (31 - k) = z at *
      generalize lowB a (31 - k) = x at *
      generalize lowB b (31 - k) = y at *
      generalize (tab .u8 32 fun j => if j < k then lowB a (31 - j) ||| lowB b (31 - j) else lowB a (31 - j)) = ck at *
      go_wp2
      go_still_tail 9, (by kernel_rfl)
      refine wpList_store_cell rfl 5 (.tmp 18) (.tmp 17) rfl (w := wr.drew) hy1.drew (i := k) (v := .int .u8 (z : Nat)) (by rw [HSk.out]; exact hlt) (by kernel_rfl) rfl rfl (congrArg (Value.int .u8) HO.out) ?_
      intro w5 hx5 hg5
      rw [HTk.out] at hx5
      have hy2' := hy2.drew.grown hg5 (by simp; omega)
      have hy3' := hy3.drew.grown hg5 (by simp; omega)
      have hB5 := below_blk hBr.drew hBr.size hg5 (by omega)
      go_wp2
      go_roundw
      case rel => exact ⟨k + 1, by omega, by go_num, hx5, hy2', hy3', hB5⟩
      case measure => (simp [intOf]; try omega)
    · obtain rfl : k = 32 := by omega
      rw [H32.out] at hy1
      generalize hr : a ||| b = r at *
      have HR := Lib.hid hr
      clear hr
      go_wp2_with (first
        | ((with_reducible refine gd_load ?_); refine wpList_load_blk rfl 23 (.tmp 2) rfl hy1 (by rw [HSW.out]; exact hW) rfl ?_)
        | ((with_reducible refine gd_store ?_); refine wpList_store_all rfl 23 (.tmp 4) (.tmp 19) rfl (wcells r) hy3 (by rw [HSW.out]; exact hW) (by rw [HSW.out]; exact HSW.out 0) (H1W.out _) (by rfl) (by rfl) ?_; intro w9 hx9 hg9)
        | fail)
      have hB9 := below_blk hBr hBr.size hg9 (by omega)
      exact bodyPost_ret (results_blk1 (cs := wcells r) rfl (by rw [HSW.out]; exact hW) hx9 rfl) rfl ⟨by rw [HR.out], hB9⟩

set_option maxRecDepth 100000 in
set_option maxHeartbeats 1000000 in
theorem RefXor_any (a b : Nat) (w : World) : Calls Try.prog 32 #[.agg (wcells a), .agg (wcells b)] w fun e w' => e = .returned (.agg (wcells (a ^^^ b))) ∧ Below w.heap.size w w' := by
  have hW := wordTy
  have zW := zWordL
  have HSW := Lib.hid wcells_size
  have H1W := Lib.hid wcells_one
  have HB := Lib.hid (fun k (hk : k < 32) => wcells_get b hk)
  have H0 := Lib.hid (show wcells a = (tab .u8 32 fun j => if j < 0 then lowB a (31 - j) ^^^ lowB b (31 - j) else lowB a (31 - j)) from by
    rw [wcells, bv_wbytes]; exact tab_congr fun j _ => by simp)
  have H32 := Lib.hid (show (tab .u8 32 fun j => if j < 32 then lowB a (31 - j) ^^^ lowB b (31 - j) else lowB a (31 - j)) = wcells (a ^^^ b) from by
    rw [wcells, bv_wbytes]; exact tab_congr fun j hj => by rw [if_pos hj, lowB_xor])
  have HG := Lib.hid (fun k (hk : k < 32) => @tab_get .u8 32 (fun j => if j < k then lowB a (31 - j) ^^^ lowB b (31 - j) else lowB a (31 - j)) k hk)
  have HT := Lib.hid (fun k (hk : k < 32) => @tab_set .u8 32 (fun j => if j < k then lowB a (31 - j) ^^^ lowB b (31 - j) else lowB a (31 - j)) k (lowB a (31 - k) ^^^ lowB b (31 - k)) hk)
  have HE := Lib.hid (fun k => @tab_congr .u8 32 (fun j => if j = k then lowB a (31 - k) ^^^ lowB b (31 - k) else if j < k then lowB a (31 - j) ^^^ lowB b (31 - j) else lowB a (31 - j)) (fun j => if j < k + 1 then lowB a (31 - j) ^^^ lowB b (31 - j) else lowB a (31 - j)) (fun j _ => by
    by_cases e : j = k
    · subst e; simp
    · by_cases e2 : j < k
      · rw [if_neg e, if_pos e2, if_pos (by omega)]
      · rw [if_neg e, if_neg e2, if_neg (by omega)]))
  have HS := Lib.hid (fun k => @tab_size .u8 32 (fun j => if j < k then lowB a (31 - j) ^^^ lowB b (31 - j) else lowB a (31 - j)))
  have tokE : True := trivial
  go_enter Try.func32, Try.ntmps32
  go_wp2_with (first
    | ((with_reducible refine gd_box ?_); have _t := tokE; refine wpList_box_agg rfl _ (.tmp 0) rfl rfl ?_; clear tokE; intro w1 hx1 hb1 hl1)
    | ((with_reducible refine gd_box ?_); refine wpList_box_agg rfl _ (.tmp 1) rfl rfl ?_; intro w2 hx2 hb2 hl2)
    | ((with_reducible refine gd_alloc ?_); refine wpList_alloc_blk rfl 23 rfl zW ?_; intro w3 hx3 hb3 hl3)
    | fail)
  replace hx3 : Blk w3 w2.heap.size 23 (wcells 0) := hx3
  have hx1' := (hx1.ext hb2).ext hb3
  have hx2' := hx2.ext hb3
  have hB3 := below_step (below_step hb1 hb2) hb3
  have hg1 := hx1.lt
  have hg2 := hx2.lt
  have hg3 := hx3.lt
  rw [H0.out] at hx1'
  clear hx1 hx2 hb1 hb2 hb3
  go_loopw [5] (fun i wr => ∃ k : Nat, k ≤ 32 ∧ i = .int .i64 k ∧ Blk wr w.heap.size 23 (tab .u8 32 fun j => if j < k then lowB a (31 - j) ^^^ lowB b (31 - j) else lowB a (31 - j)) ∧ Blk wr w1.heap.size 23 (wcells b) ∧ Blk wr w2.heap.size 23 (wcells 0) ∧ Below w.heap.size w wr) (fun i _ => 32 - (intOf i).toNat)
  case atStart => exact ⟨0, by omega, rfl, hx1', hx2', hx3, hB3⟩
  case round =>
    clear hx1' hx2' hx3 hB3
    obtain ⟨k, hk, rfl, hy1, hy2, hy3, hBr⟩ := hrel
    by_cases hlt : k < 32
    · have hcA := hy1.cellv (HG.out k hlt)
      rw [if_neg (Nat.lt_irrefl k)] at hcA
      have hcB := hy2.cellv (i := k) (HB.out k hlt)
      have b0 : (0 : Int) ≤ (k : Int) := by omega
      have b1 : (k : Int) < 32 := by omega
      have HTk := Lib.hid ((HT.out k hlt).trans (HE.out k))
      have HSk := Lib.hid (HS.out k)
      have HO := Lib.hid (u8_xor_nat (lowB a (31 - k)) (lowB b (31 - k)) (lowB_lt _ _) (lowB_lt _ _))
      generalize lowB a (31 - k) ^^^ lowB b (31 - k) = z at *
      generalize lowB a (31 - k) = x at *
      generalize lowB b (31 - k) = y at *
      generalize (tab .u8 32 fun j => if j < k then lowB a (31 - j) ^^^ lowB b (31 - j) else lowB a (31 - j)) = ck at *
      go_wp2
      go_still_tail 9, (by kernel_rfl)
      refine wpList_store_cell rfl 5 (.tmp 18) (.tmp 17) rfl (w := wr.drew) hy1.drew (i := k) (v := .int .u8 (z : Nat)) (by rw [HSk.out]; exact hlt) (by kernel_rfl) rfl rfl (congrArg (Value.int .u8) HO.out) ?_
      intro w5 hx5 hg5
      rw [HTk.out] at hx5
      have hy2' := hy2.drew.grown hg5 (by simp; omega)
      have hy3' := hy3.drew.grown hg5 (by simp; omega)
      have hB5 := below_blk hBr.drew hBr.size hg5 (by omega)
      go_wp2
      go_roundw
      case rel => exact ⟨k + 1, by omega, by go_num, hx5, hy2', hy3', hB5⟩
      case measure => (simp [intOf]; try omega)
    · obtain rfl : k = 32 := by omega
      rw [H32.out] at hy1
      generalize hr : a ^^^ b = r at *
      have HR := Lib.hid hr
      clear hr
      go_wp2_with (first
        | ((with_reducible refine gd_load ?_); refine wpList_load_blk rfl 23 (.tmp 2) rfl hy1 (by rw [HSW.out]; exact hW) rfl ?_)
        | ((with_reducible refine gd_store ?_); refine wpList_store_all rfl 23 (.tmp 4) (.tmp 19) rfl (wcells r) hy3 (by rw [HSW.out]; exact hW) (by rw [HSW.out]; exact HSW.out 0) (H1W.out _) (by rfl) (by rfl) ?_; intro w9 hx9 hg9)
        | fail)
      have hB9 := below_blk hBr hBr.size hg9 (by omega)
      exact bodyPost_ret (results_blk1 (cs := wcells r) rfl (by rw [HSW.out]; exact hW) hx9 rfl) rfl ⟨by rw [HR.out], hB9⟩

set_option maxRecDepth 100000 in
set_option maxHeartbeats 1000000 in
theorem RefNot_any (a : Nat) (w : World) (ha : a < 2 ^ 256) : Calls Try.prog 34 #[.agg (wcells a)] w fun e w' => e = .returned (.agg (wcells (notN a))) ∧ Below w.heap.size w w' := by
  have hW := wordTy
  have zW := zWordL
  have HSW := Lib.hid wcells_size
  have H1W := Lib.hid wcells_one
  have H0 := Lib.hid (show wcells a = (tab .u8 32 fun j => if j < 0 then 255 - lowB a (31 - j) else lowB a (31 - j)) from by
    rw [wcells, bv_wbytes]; exact tab_congr fun j _ => by simp)
  have H32 := Lib.hid (show (tab .u8 32 fun j => if j < 32 then 255 - lowB a (31 - j) else lowB a (31 - j)) = wcells (notN a) from by
    rw [wcells, bv_wbytes]; exact tab_congr fun j hj => by rw [if_pos hj, lowB_not ha _ (by omega)])
  clear ha
  have HG := Lib.hid (fun k (hk : k < 32) => @tab_get .u8 32 (fun j => if j < k then 255 - lowB a (31 - j) else lowB a (31 - j)) k hk)
  have HT := Lib.hid (fun k (hk : k < 32) => @tab_set .u8 32 (fun j => if j < k then 255 - lowB a (31 - j) else lowB a (31 - j)) k (255 - lowB a (31 - k)) hk)
  have HE := Lib.hid (fun k => @tab_congr .u8 32 (fun j => if j = k then 255 - lowB a (31 - k) else if j < k then 255 - lowB a (31 - j) else lowB a (31 - j)) (fun j => if j < k + 1 then 255 - lowB a (31 - j) else lowB a (31 - j)) (fun j _ => by
    by_cases e : j = k
    · subst e; simp
    · by_cases e2 : j < k
      · rw [if_neg e, if_pos e2, if_pos (by omega)]
      · rw [if_neg e, if_neg e2, if_neg (by omega)]))
  have HS := Lib.hid (fun k => @tab_size .u8 32 (fun j => if j < k then 255 - lowB a (31 - j) else lowB a (31 - j)))
  go_enter Try.func34, Try.ntmps34
  go_wp2_with (first
    | ((with_reducible refine gd_box ?_); refine wpList_box_agg rfl _ (.tmp 0) rfl rfl ?_; intro w1 hx1 hb1 hl1)
    | ((with_reducible refine gd_alloc ?_); refine wpList_alloc_blk rfl 23 rfl zW ?_; intro w3 hx3 hb3 hl3)
    | fail)
  replace hx3 : Blk w3 w1.heap.size 23 (wcells 0) := hx3
  have hx1' := hx1.ext hb3
  have hB3 := below_step hb1 hb3
  have hg1 := hx1.lt
  have hg3 := hx3.lt
  rw [H0.out] at hx1'
  clear hx1 hb1 hb3
  go_loopw [3] (fun i wr => ∃ k : Nat, k ≤ 32 ∧ i = .int .i64 k ∧ Blk wr w.heap.size 23 (tab .u8 32 fun j => if j < k then 255 - lowB a (31 - j) else lowB a (31 - j)) ∧ Blk wr w1.heap.size 23 (wcells 0) ∧ Below w.heap.size w wr) (fun i _ => 32 - (intOf i).toNat)
  case atStart => exact ⟨0, by omega, rfl, hx1', hx3, hB3⟩
  case round =>
    clear hx1' hx3 hB3
    obtain ⟨k, hk, rfl, hy1, hy3, hBr⟩ := hrel
    by_cases hlt : k < 32
    · have hcA := hy1.cellv (HG.out k hlt)
      rw [if_neg (Nat.lt_irrefl k)] at hcA
      have b0 : (0 : Int) ≤ (k : Int) := by omega
      have b1 : (k : Int) < 32 := by omega
      have HTk := Lib.hid ((HT.out k hlt).trans (HE.out k))
      have HSk := Lib.hid (HS.out k)
      have hx := lowB_lt a (31 - k)
      generalize lowB a (31 - k) = x at *
      have HO := Lib.hid (show bits .xor .u8 (x : Int) 255 = ((255 - x : Nat) : Int) from by
        have h1 := u8_xor_nat x 255 hx (by decide)
        rw [Nat.xor_comm, ones_sub x hx] at h1
        exact h1)
      generalize (tab .u8 32 fun j => if j < k then 255 - lowB a (31 - j) else lowB a (31 - j)) = ck at *
      go_wp2_with (first
        | ((with_reducible refine gd_store ?_); refine wpList_store_cell rfl 5 (.tmp 13) (.tmp 12) rfl hy1 (i := k) (v := .int .u8 (255 - x : Nat)) (by rw [HSk.out]; exact hlt) (by kernel_rfl) rfl rfl (congrArg (Value.int .u8) HO.out) ?_; intro w5 hx5 hg5)
        | fail)
      rw [HTk.out] at hx5
      have hy3' := hy3.grown hg5 (by simp; omega)
      have hB5 := below_blk hBr hBr.size hg5 (by omega)
      go_roundw
      case rel => exact ⟨k + 1, by omega, by go_num, hx5, hy3', hB5⟩
      case measure => (simp [intOf]; try omega)
    · obtain rfl : k = 32 := by omega
      rw [H32.out] at hy1
      generalize hr : notN a = r at *
      have HR := Lib.hid hr
      clear hr
      go_wp2_with (first
        | ((with_reducible refine gd_load ?_); refine wpList_load_blk rfl 23 (.tmp 1) rfl hy1 (by rw [HSW.out]; exact hW) rfl ?_)
        | ((with_reducible refine gd_store ?_); refine wpList_store_all rfl 23 (.tmp 2) (.tmp 14) rfl (wcells r) hy3 (by rw [HSW.out]; exact hW) (by rw [HSW.out]; exact HSW.out 0) (H1W.out _) (by rfl) (by rfl) ?_; intro w9 hx9 hg9)
        | fail)
      have hB9 := below_blk hBr hBr.size hg9 (by omega)
      exact bodyPost_ret (results_blk1 (cs := wcells r) rfl (by rw [HSW.out]; exact hW) hx9 rfl) rfl ⟨by rw [HR.out], hB9⟩
end Go.Mun
