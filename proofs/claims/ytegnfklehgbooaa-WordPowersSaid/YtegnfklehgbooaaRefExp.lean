/- The walk of munimentsref1.Exp. -/
import Derived.Test.YtegnfklehgbooaaRefSums
namespace Go.Mun
open Go Go.RowKit Go.Proofs

set_option maxRecDepth 100000 in
set_option maxHeartbeats 4000000 in
theorem RefExp_any (a b : Nat) (w : World) (ha : a < 2 ^ 256) (hb : b < 2 ^ 256) : Calls Try.prog 34 #[.agg (wcells a), .agg (wcells b)] w fun e w' => e = .returned (.agg (wcells (powN a b))) ∧ Below w.heap.size w w' := by
  have hW := wordTy
  have zW := zWordL
  have HSW := Lib.hid wcells_size
  have H1W := Lib.hid wcells_one
  have COf := Lib.hid (fun w => RefOf_any 1 w (by decide) (by decide))
  rw [show ofN 1 = 1 from by decide] at COf
  have CBits := Lib.hid (fun w => RefBits_any b w hb)
  have hbl : blen b ≤ 256 := blen_le_iff.2 hb
  have HC := Lib.hid (fun i (h : i < 32) => wcells_at b h)
  have HBB := Lib.hid (fun i (h : i < 256) => bit_byte b i h)
  have HBL := Lib.hid (show powN a (b / 2 ^ (256 - (256 - blen b))) = 1 from by rw [show 256 - (256 - blen b) = blen b from by omega, Nat.div_eq_of_lt (blen_lt b), powN_zero])
  have HA := Lib.hid ha
  clear ha hb
  have hbi : (256 : Int) - (blen b : Nat) = ((256 - blen b : Nat) : Int) := by omega
  have hbl2 : ((blen b : Nat) : Int) ≤ 256 := by omega
  generalize blen b = bl at *
  have tok1 : True := trivial
  have tok2 : True := trivial
  have tok4 : True := trivial
  go_enter Try.func34, Try.ntmps34
  go_wp2_with (first
    | ((with_reducible refine gd_box ?_); have _t := tok1; refine wpList_box_agg rfl _ (.tmp 0) rfl rfl ?_; clear tok1; intro w1 hx1 hb1 hl1)
    | ((with_reducible refine gd_box ?_); refine wpList_box_agg rfl _ (.tmp 1) rfl rfl ?_; intro w2 hx2 hb2 hl2)
    | ((with_reducible refine gd_alloc ?_); have _t := tok2; refine wpList_alloc_blk rfl 23 rfl zW ?_; clear tok2; intro w3 hx3 hb3 hl3)
    | (go_at_call 20; refine (COf.out _).mono ?_; rintro e w4 ⟨rfl, hb4⟩)
    | ((with_reducible refine gd_alloc ?_); refine wpList_alloc_blk rfl 23 rfl zW ?_; intro w5 hx5 hb5 hl5)
    | ((with_reducible refine gd_store ?_); have _t := tok4; refine wpList_store_all rfl 23 (.tmp 5) (.tmp 7) rfl (wcells 1) hx5 (by rw [HSW.out]; exact hW) (by rw [HSW.out]; exact HSW.out 0) (H1W.out _) (by rfl) (by rfl) ?_; clear tok4; intro w6 hx6 hg6)
    | ((with_reducible refine gd_load ?_); refine wpList_load_blk rfl 23 (.tmp 3) rfl ((((hx2.ext hb3).ext hb4).ext hb5).grown hg6 (by have := hx2.lt; have := hb3.size; have := hb4.size; simp; omega)) (by rw [HSW.out]; exact hW) rfl ?_)
    | (go_at_call 19; refine (CBits.out _).mono ?_; rintro e w7 ⟨rfl, hb7⟩)
    | fail)
  replace hx3 : Blk w3 w2.heap.size 23 (wcells 0) := hx3
  have hg1 := hx1.lt
  have hg2 := hx2.lt
  have hg3 := hx3.lt
  have hs4 := hb4.size
  have hl6 := hx6.lt
  have hs7 := hb7.size
  have hB3 := below_step (below_step hb1 hb2) hb3
  have hB5 := below_step (below_step hB3 hb4) hb5
  have hB6 := below_blk hB5 hB5.size hg6 (by omega)
  have hB := below_step hB6 hb7
  have hya := (((((hx1.ext hb2).ext hb3).ext hb4).ext hb5).grown hg6 (by simp; omega)).ext hb7
  have hyb := ((((hx2.ext hb3).ext hb4).ext hb5).grown hg6 (by simp; omega)).ext hb7
  have hy4 := (((hx3.ext hb4).ext hb5).grown hg6 (by simp; omega)).ext hb7
  have hy5 := hx6.ext hb7
  clear hx1 hx2 hx3 hx5 hx6 hb1 hb2 hb3 hb4 hb5 hb7 hg6
  go_loopw [6] (fun i wr => ∃ k : Nat, k ≤ 256 ∧ i = .int .i64 (k : Int) ∧ Blk wr w4.heap.size 23 (wcells (powN a (b / 2 ^ (256 - k)))) ∧ Blk wr w1.heap.size 23 (wcells b) ∧ Blk wr w.heap.size 23 (wcells a) ∧ Blk wr w2.heap.size 23 (wcells 0) ∧ Below w.heap.size w wr) (fun i _ => 256 - (intOf i).toNat)
  case atStart => first | exact ⟨256 - bl, by omega, rfl, by rw [HBL.out]; exact hy5, hyb, hya, hy4, hB⟩ | exact ⟨256 - bl, by omega, by go_num, by rw [HBL.out]; exact hy5, hyb, hya, hy4, hB⟩
  case round =>
    clear hya hyb hy4 hy5 hB hbi hbl2
    obtain ⟨i, hi, rfl, hz5, hzb, hza, hz4, hBr⟩ := hrel
    by_cases hlt : i < 256
    · have k0 : (0 : Int) ≤ (i : Int) := by omega
      have k1 : (i : Int) < 256 := by omega
      obtain ⟨k, hk⟩ : ∃ k, i + k = 255 := ⟨255 - i, by omega⟩
      have e1 : 256 - i = k + 1 := by omega
      rw [e1] at hz5
      have CM1 := Lib.hid (fun w => RefMul_any (powN a (b / 2 ^ (k + 1))) (powN a (b / 2 ^ (k + 1))) w (powN_lt _ _) (powN_lt _ _))
      rw [powN_sq] at CM1
      have CM2 := Lib.hid (fun w => RefMul_any (powN a (2 * (b / 2 ^ (k + 1)))) a w (powN_lt _ _) HA.out)
      rw [powN_succ] at CM2
      have hbit := HBB.out i hlt
      rw [show 255 - i = k from by omega] at hbit
      have HH := Lib.hid (half_pow b k)
      have HKK := Lib.hid (show 256 - (i + 1) = k from by omega)
      have HCB := Lib.hid (HC.out (i / 8) (by omega))
      have q1 : (i : Int) / 8 = ((i / 8 : Nat) : Int) := by omega
      have q2 : (7 : Int) - (i : Int) % 8 = ((7 - i % 8 : Nat) : Int) := by omega
      have hr : 7 - i % 8 < 8 := by omega
      have hj : i / 8 < 32 := by omega
      have hx := lowB_lt b (31 - i / 8)
      generalize lowB b (31 - i / 8) = x at *
      generalize i / 8 = j at *
      generalize 7 - i % 8 = r at *
      have b0 : (0 : Int) ≤ (j : Int) := by omega
      have b1 : (j : Int) < 32 := by omega
      have r0 : (0 : Int) ≤ (r : Int) := by omega
      have r1 : (r : Int) < 8 := by omega
      have HU := Lib.hid (u8_bit x r hx)
      have tokA : True := trivial
      have tokB : True := trivial
      have tokC : True := trivial
      clear e1 hk
      by_cases c : b / 2 ^ k % 2 = 1
      · have d1 : (bits BinOp.and IntKind.u8 ((x : Int) / 2 ^ r) 1 == 1) = true := by rw [HU.out, hbit, c]; rfl
        rw [c] at HH
        have HP := Lib.hid (show powN a (2 * (b / 2 ^ (k + 1)) + 1) = powN a (b / 2 ^ k) from by rw [← HH.out])
        clear c hbit
        rw [HP.out] at CM2
        generalize powN a (b / 2 ^ (k + 1)) = p at *
        generalize powN a (2 * (b / 2 ^ (k + 1))) = p2 at *
        generalize hs : powN a (b / 2 ^ k) = s at *
        have HS := Lib.hid hs
        clear hs
        go_wp2_with (first
          | ((with_reducible refine gd_load ?_); have _t := tokA; refine wpList_load_blk rfl 23 (.tmp 5) rfl hz5 (by rw [HSW.out]; exact hW) rfl ?_)
          | (go_at_call 26; have _t := tokA; refine (CM1.out _).mono ?_; clear tokA; rintro e w11 ⟨rfl, hb11⟩)
          | ((with_reducible refine gd_store ?_); have _t := tokB; refine wpList_store_all rfl 23 (.tmp 5) (.tmp 17) rfl (wcells p2) (hz5.ext hb11) (by rw [HSW.out]; exact hW) (by rw [HSW.out]; exact HSW.out p) (H1W.out _) (by rfl) (by rfl) ?_; clear tokB; intro w12 hx12 hg12; have hs11 := hb11.size; have hlr := hzb.lt; have hlr2 := hza.lt; have hzzb := ((hzb.ext hb11).grown hg12 (by simp; omega)); have hzza := ((hza.ext hb11).grown hg12 (by simp; omega)); have hcell := hzzb.cellv HCB.out)
          | ((with_reducible refine gd_load ?_); have _t := tokC; refine wpList_load_blk rfl 23 (.tmp 5) rfl hx12 (by rw [HSW.out]; exact hW) rfl ?_; clear tokC)
          | ((with_reducible refine gd_load ?_); refine wpList_load_blk rfl 23 (.tmp 2) rfl hzza (by rw [HSW.out]; exact hW) rfl ?_)
          | (go_at_call 26; refine (CM2.out _).mono ?_; rintro e w13 ⟨rfl, hb13⟩)
          | ((with_reducible refine gd_store ?_); refine wpList_store_all rfl 23 (.tmp 5) (.tmp 31) rfl (wcells s) (hx12.ext hb13) (by rw [HSW.out]; exact hW) (by rw [HSW.out]; exact HSW.out p2) (H1W.out _) (by rfl) (by rfl) ?_; intro w14 hx14 hg14)
          | fail)
        have hs13 := hb13.size
        have hB12 := below_blk (below_step hBr hb11) (below_step hBr hb11).size hg12 (by omega)
        have hB14 := below_blk (below_step hB12 hb13) (below_step hB12 hb13).size hg14 (by omega)
        have hzz4 := ((hz4.ext hb11).grown hg12 (by simp; omega))
        go_roundw
        case rel => exact ⟨i + 1, by omega, by go_num, by rw [HKK.out, HS.out]; exact hx14, (hzzb.ext hb13).grown hg14 (by simp; omega), (hzza.ext hb13).grown hg14 (by simp; omega), (hzz4.ext hb13).grown hg14 (by simp; omega), hB14⟩
        case measure => (simp [intOf]; try omega)
      · have c0 : b / 2 ^ k % 2 = 0 := by omega
        have d1 : (bits BinOp.and IntKind.u8 ((x : Int) / 2 ^ r) 1 == 1) = false := by rw [HU.out, hbit, c0]; rfl
        rw [c0] at HH
        have HP := Lib.hid (show powN a (2 * (b / 2 ^ (k + 1))) = powN a (b / 2 ^ k) from by rw [← HH.out.trans (Nat.add_zero _)])
        clear c c0 CM2 hbit
        generalize powN a (b / 2 ^ (k + 1)) = p at *
        generalize hp2 : powN a (2 * (b / 2 ^ (k + 1))) = p2 at *
        clear hp2
        go_wp2_with (first
          | ((with_reducible refine gd_load ?_); have _t := tokA; refine wpList_load_blk rfl 23 (.tmp 5) rfl hz5 (by rw [HSW.out]; exact hW) rfl ?_)
          | (go_at_call 26; have _t := tokA; refine (CM1.out _).mono ?_; clear tokA; rintro e w11 ⟨rfl, hb11⟩)
          | ((with_reducible refine gd_store ?_); have _t := tokB; refine wpList_store_all rfl 23 (.tmp 5) (.tmp 17) rfl (wcells p2) (hz5.ext hb11) (by rw [HSW.out]; exact hW) (by rw [HSW.out]; exact HSW.out p) (H1W.out _) (by rfl) (by rfl) ?_; clear tokB; intro w12 hx12 hg12; have hs11 := hb11.size; have hlr := hzb.lt; have hlr2 := hza.lt; have hzzb := ((hzb.ext hb11).grown hg12 (by simp; omega)); have hzza := ((hza.ext hb11).grown hg12 (by simp; omega)); have hcell := hzzb.cellv HCB.out)
          | fail)
        have hB12 := below_blk (below_step hBr hb11) (below_step hBr hb11).size hg12 (by omega)
        have hzz4 := ((hz4.ext hb11).grown hg12 (by simp; omega))
        go_roundw
        case rel => exact ⟨i + 1, by omega, by go_num, by rw [HKK.out, ← HP.out]; exact hx12, hzzb, hzza, hzz4, hB12⟩
        case measure => (simp [intOf]; try omega)
    · obtain rfl : i = 256 := by omega
      rw [Nat.sub_self, Nat.pow_zero, Nat.div_one] at hz5
      generalize hs : powN a b = s at *
      have HS := Lib.hid hs
      clear hs
      go_wp2_with (first
        | ((with_reducible refine gd_load ?_); refine wpList_load_blk rfl 23 (.tmp 5) rfl hz5 (by rw [HSW.out]; exact hW) rfl ?_)
        | ((with_reducible refine gd_store ?_); refine wpList_store_all rfl 23 (.tmp 4) (.tmp 32) rfl (wcells s) hz4 (by rw [HSW.out]; exact hW) (by rw [HSW.out]; exact HSW.out 0) (H1W.out _) (by rfl) (by rfl) ?_; intro wf hxf hgf)
        | fail)
      have hBf := below_blk hBr hBr.size hgf (by omega)
      exact bodyPost_ret (results_blk1 (cs := wcells s) rfl (by rw [HSW.out]; exact hW) hxf rfl) rfl ⟨by rw [HS.out], hBf⟩
end Go.Mun
