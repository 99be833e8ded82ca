/- The walk of word.Exp. -/
import Derived.Test.YtcmhbolonhhhoaaWordByte
namespace Go.Mun
open Go Go.RowKit Go.Proofs

def powN (a e : Nat) : Nat := a ^ e % 2 ^ 256
theorem powN_lt (a e : Nat) : powN a e < 2 ^ 256 := Nat.mod_lt _ (by decide)
theorem powN_zero (a : Nat) : powN a 0 = 1 := by unfold powN; rw [Nat.pow_zero]
theorem powN_sq (a e : Nat) : powN a e * powN a e % 2 ^ 256 = powN a (2 * e) := by
  unfold powN
  rw [← Nat.mul_mod, ← Nat.pow_add, show e + e = 2 * e from by omega]
theorem powN_succ (a e : Nat) : powN a e * a % 2 ^ 256 = powN a (e + 1) := by
  unfold powN
  rw [Nat.mod_mul_mod, Nat.pow_succ a e]

set_option maxRecDepth 100000 in
set_option maxHeartbeats 2000000 in
theorem Exp_any (a b : Nat) (w : World) (ha : a < 2 ^ 256) (hb : b < 2 ^ 256) : Calls Try.prog 44 #[.agg (wcells a), .agg (wcells b)] w fun e w' => e = .returned (.agg (wcells (powN a b))) ∧ Below w.heap.size w w' := by
  have hW := wordTy
  have hN := numTy
  have zW := zWordL
  have zN := zNumL
  have HSN := Lib.hid limbsV_size
  have H1N := Lib.hid limbsV_one
  have HSW := Lib.hid wcells_size
  have H1W := Lib.hid wcells_one
  have CFr := Lib.hid (fun w => from_any b w hb)
  have COf := Lib.hid (fun w => Of_any 1 w (by decide) (by decide))
  rw [show ofN 1 = 1 from by decide] at COf
  have CBits := Lib.hid (fun w => bits_any b w hb)
  have hbl : blen b ≤ 256 := blen_le_iff.2 hb
  have HBL := Lib.hid (blen_lt b)
  have HA := Lib.hid ha
  clear ha hb
  have tok1 : True := trivial
  have tok2 : True := trivial
  have tok3 : True := trivial
  have tok4 : True := trivial
  go_enter Try.func44, Try.ntmps44
  go_wp2_with (first
    | ((with_reducible refine gd_box ?_); have _t := tok1; refine wpList_box_agg rfl _ (.tmp 0) rfl rfl ?_; clear tok1; intro w1 hx1 hb1 hl1)
    | ((with_reducible refine gd_box ?_); refine wpList_box_agg rfl _ (.tmp 1) rfl rfl ?_; intro w2 hx2 hb2 hl2)
    | ((with_reducible refine gd_alloc ?_); have _t := tok2; refine wpList_alloc_blk rfl 23 rfl zW ?_; clear tok2; intro w3 hx3 hb3 hl3)
    | (go_at_call 12; refine (COf.out _).mono ?_; rintro e w4 ⟨rfl, hb4⟩)
    | ((with_reducible refine gd_alloc ?_); have _t := tok3; refine wpList_alloc_blk rfl 23 rfl zW ?_; clear tok3; intro w5 hx5 hb5 hl5)
    | ((with_reducible refine gd_store ?_); have _t := tok4; refine wpList_store_all rfl 23 (.tmp 5) (.tmp 8) rfl (wcells 1) hx5 (by rw [HSW.out]; exact hW) (by rw [HSW.out]; exact HSW.out 0) (H1W.out _) (by rfl) (by rfl) ?_; clear tok4; intro w6 hx6 hg6)
    | ((with_reducible refine gd_load ?_); refine wpList_load_blk rfl 23 (.tmp 3) rfl ((((hx2.ext hb3).ext hb4).ext hb5).grown hg6 (by have := hx2.lt; have := hb3.size; have := hb4.size; simp; omega)) (by rw [HSW.out]; exact hW) rfl ?_)
    | (go_at_call 47; refine (CFr.out _).mono ?_; rintro e w7 ⟨rfl, hb7⟩)
    | ((with_reducible refine gd_alloc ?_); refine wpList_alloc_blk rfl 39 rfl zN ?_; intro w8 hx8 hb8 hl8)
    | ((with_reducible refine gd_store ?_); refine wpList_store_all rfl 39 (.tmp 6) (.tmp 10) rfl (limbsV b) hx8 (by rw [HSN.out]; exact hN) (by rw [HSN.out]; exact HSN.out 0) (H1N.out _) (by rfl) (by rfl) ?_; intro w9 hx9 hg9)
    | ((with_reducible refine gd_load ?_); refine wpList_load_blk rfl 39 (.tmp 6) rfl hx9 (by rw [HSN.out]; exact hN) rfl ?_)
    | (go_at_call 72; refine (CBits.out _).mono ?_; rintro e w10 ⟨rfl, hb10⟩)
    | fail)
  replace hx3 : Blk w3 w2.heap.size 23 (wcells 0) := hx3
  have hg1 := hx1.lt
  have hg2 := hx2.lt
  have hg3 := hx3.lt
  have hs4 := hb4.size
  have hl6 := hx6.lt
  have hs7 := hb7.size
  have hB3 := below_step (below_step hb1 hb2) hb3
  have hB5 := below_step (below_step hB3 hb4) hb5
  have hB6 := below_blk hB5 hB5.size hg6 (by omega)
  have hB8 := below_step (below_step hB6 hb7) hb8
  have hB9 := below_blk hB8 hB8.size hg9 (by omega)
  have hB := below_step hB9 hb10
  have hy2 := (((((((((hx1.ext hb2).ext hb3).ext hb4).ext hb5).grown hg6 (by simp; omega)).ext hb7).ext hb8).grown hg9 (by simp; omega)).ext hb10)
  have hy4 := (((((((hx3.ext hb4).ext hb5).grown hg6 (by simp; omega)).ext hb7).ext hb8).grown hg9 (by simp; omega)).ext hb10)
  have hy5 := (((hx6.ext hb7).ext hb8).grown hg9 (by simp; omega)).ext hb10
  have hy6 := hx9.ext hb10
  clear hx1 hx2 hx3 hx5 hx6 hx8 hx9 hb1 hb2 hb3 hb4 hb5 hb7 hb8 hb10 hg6 hg9
  go_loopw [7] (fun i wr => ∃ k : Nat, k ≤ 256 ∧ i = .int .i64 ((k : Int) - 1) ∧ Blk wr w4.heap.size 23 (wcells (powN a (b / 2 ^ k))) ∧ Blk wr w7.heap.size 39 (limbsV b) ∧ Blk wr w.heap.size 23 (wcells a) ∧ Blk wr w2.heap.size 23 (wcells 0) ∧ Below w.heap.size w wr) (fun i _ => (intOf i + 1).toNat)
  case atStart => exact ⟨blen b, hbl, rfl, by rw [Nat.div_eq_of_lt HBL.out, powN_zero]; exact hy5, hy6, hy2, hy4, hB⟩
  case round =>
    clear hy2 hy4 hy5 hy6 hB
    obtain ⟨k', hk, hi, hz5, hz6, hz2, hz4, hBr⟩ := hrel
    rcases k' with _ | k
    · obtain rfl : _ = Value.int .i64 (-1) := hi.trans rfl
      clear hi
      rw [Nat.pow_zero, Nat.div_one] at hz5
      generalize hs : powN a b = s at *
      have HS := Lib.hid hs
      clear hs
      go_wp2_with (first
        | ((with_reducible refine gd_load ?_); refine wpList_load_blk rfl 23 (.tmp 5) rfl hz5 (by rw [HSW.out]; exact hW) rfl ?_)
        | ((with_reducible refine gd_store ?_); refine wpList_store_all rfl 23 (.tmp 4) (.tmp 28) rfl (wcells s) hz4 (by rw [HSW.out]; exact hW) (by rw [HSW.out]; exact HSW.out 0) (H1W.out _) (by rfl) (by rfl) ?_; intro wf hxf hgf)
        | fail)
      have hBf := below_blk hBr hBr.size hgf (by omega)
      exact bodyPost_ret (results_blk1 (cs := wcells s) rfl (by rw [HSW.out]; exact hW) hxf rfl) rfl ⟨by rw [HS.out], hBf⟩
    · obtain rfl : _ = Value.int .i64 (k : Int) := hi.trans (congrArg (Value.int .i64) (by omega))
      clear hi
      have hk0 : (0 : Int) ≤ (k : Int) := by omega
      have hkL : (k : Int) < 256 := by omega
      have CM1 := Lib.hid (fun w => Mul_any (powN a (b / 2 ^ (k + 1))) (powN a (b / 2 ^ (k + 1))) w (powN_lt _ _) (powN_lt _ _))
      rw [powN_sq] at CM1
      have CM2 := Lib.hid (fun w => Mul_any (powN a (2 * (b / 2 ^ (k + 1)))) a w (powN_lt _ _) HA.out)
      rw [powN_succ] at CM2
      have HBit := Lib.hid (fun (wx : World) (hx : Blk wx w7.heap.size 39 (limbsV b)) => (bit_any ⟨w7.heap.size, 0, none⟩ 4 4 k (limb b (k / 64)) wx (by omega) (by omega) (hx.rd.cells (k / 64) _ (by rw [Array.getElem?_toList]; exact limbsV_get b (by omega))) (limb_lt _ _)).mono (R' := fun e w' => e = .returned (.int .u64 (b / 2 ^ k % 2 : Nat)) ∧ w' = wx) fun e w' h => ⟨by rw [h.1, limb_bit], h.2.symm⟩)
      have HH := Lib.hid (half_pow b k)
      have tokA : True := trivial
      have tokB : True := trivial
      by_cases c : b / 2 ^ k % 2 = 1
      · rw [c] at HBit HH
        have HP := Lib.hid (show powN a (2 * (b / 2 ^ (k + 1)) + 1) = powN a (b / 2 ^ k) from by rw [← HH.out])
        clear c
        rw [HP.out] at CM2
        generalize powN a (b / 2 ^ (k + 1)) = p at *
        generalize powN a (2 * (b / 2 ^ (k + 1))) = p2 at *
        generalize hs : powN a (b / 2 ^ k) = s at *
        have HS := Lib.hid hs
        clear hs
        go_wp2_with (first
          | ((with_reducible refine gd_load ?_); have _t := tokA; refine wpList_load_blk rfl 23 (.tmp 5) rfl hz5 (by rw [HSW.out]; exact hW) rfl ?_)
          | (go_at_call 38; have _t := tokA; refine (CM1.out _).mono ?_; clear tokA; rintro e w11 ⟨rfl, hb11⟩)
          | ((with_reducible refine gd_store ?_); have _t := tokB; refine wpList_store_all rfl 23 (.tmp 5) (.tmp 20) rfl (wcells p2) (hz5.ext hb11) (by rw [HSW.out]; exact hW) (by rw [HSW.out]; exact HSW.out p) (H1W.out _) (by rfl) (by rfl) ?_; clear tokB; intro w12 hx12 hg12; have hs11 := hb11.size; have hlr := hz6.lt; have hlr2 := hz2.lt; have hzz6 := ((hz6.ext hb11).grown hg12 (by simp; omega)); have hzz2 := ((hz2.ext hb11).grown hg12 (by simp; omega)))
          | (go_at_call 73; refine (HBit.out _ hzz6).mono ?_; rintro e w' ⟨rfl, rfl⟩)
          | ((with_reducible refine gd_load ?_); refine wpList_load_blk rfl 23 (.tmp 5) rfl hx12 (by rw [HSW.out]; exact hW) rfl ?_)
          | ((with_reducible refine gd_load ?_); refine wpList_load_blk rfl 23 (.tmp 2) rfl hzz2 (by rw [HSW.out]; exact hW) rfl ?_)
          | (go_at_call 38; refine (CM2.out _).mono ?_; rintro e w13 ⟨rfl, hb13⟩)
          | ((with_reducible refine gd_store ?_); refine wpList_store_all rfl 23 (.tmp 5) (.tmp 27) rfl (wcells s) (hx12.ext hb13) (by rw [HSW.out]; exact hW) (by rw [HSW.out]; exact HSW.out p2) (H1W.out _) (by rfl) (by rfl) ?_; intro w14 hx14 hg14)
          | fail)
        have hs13 := hb13.size
        have hB12 := below_blk (below_step hBr hb11) (below_step hBr hb11).size hg12 (by omega)
        have hB14 := below_blk (below_step hB12 hb13) (below_step hB12 hb13).size hg14 (by omega)
        have hzz4 := ((hz4.ext hb11).grown hg12 (by simp; omega))
        go_roundw
        case rel => exact ⟨k, by omega, rfl, by rw [HS.out]; exact hx14, (hzz6.ext hb13).grown hg14 (by simp; omega), (hzz2.ext hb13).grown hg14 (by simp; omega), (hzz4.ext hb13).grown hg14 (by simp; omega), hB14⟩
        case measure => (simp [intOf]; try omega)
      · have c0 : b / 2 ^ k % 2 = 0 := by omega
        rw [c0] at HBit HH
        have HP := Lib.hid (show powN a (2 * (b / 2 ^ (k + 1))) = powN a (b / 2 ^ k) from by rw [← HH.out.trans (Nat.add_zero _)])
        clear c c0 CM2
        generalize powN a (b / 2 ^ (k + 1)) = p at *
        generalize hp2 : powN a (2 * (b / 2 ^ (k + 1))) = p2 at *
        have HP2 := Lib.hid hp2
        clear hp2
        go_wp2_with (first
          | ((with_reducible refine gd_load ?_); have _t := tokA; refine wpList_load_blk rfl 23 (.tmp 5) rfl hz5 (by rw [HSW.out]; exact hW) rfl ?_)
          | (go_at_call 38; have _t := tokA; refine (CM1.out _).mono ?_; clear tokA; rintro e w11 ⟨rfl, hb11⟩)
          | ((with_reducible refine gd_store ?_); have _t := tokB; refine wpList_store_all rfl 23 (.tmp 5) (.tmp 20) rfl (wcells p2) (hz5.ext hb11) (by rw [HSW.out]; exact hW) (by rw [HSW.out]; exact HSW.out p) (H1W.out _) (by rfl) (by rfl) ?_; clear tokB; intro w12 hx12 hg12; have hs11 := hb11.size; have hlr := hz6.lt; have hlr2 := hz2.lt; have hzz6 := ((hz6.ext hb11).grown hg12 (by simp; omega)); have hzz2 := ((hz2.ext hb11).grown hg12 (by simp; omega)))
          | (go_at_call 73; refine (HBit.out _ hzz6).mono ?_; rintro e w' ⟨rfl, rfl⟩)
          | fail)
        have hB12 := below_blk (below_step hBr hb11) (below_step hBr hb11).size hg12 (by omega)
        have hzz4 := ((hz4.ext hb11).grown hg12 (by simp; omega))
        go_roundw
        case rel => exact ⟨k, by omega, rfl, by rw [← HP.out]; exact hx12, hzz6, hzz2, hzz4, hB12⟩
        case measure => (simp [intOf]; try omega)
end Go.Mun
