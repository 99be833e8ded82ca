/- The walks of number.word, minus, bits. -/
import Derived.Test.YtcmhbolonhhhoaaWordFrom
import Derived.Test.YtcmhbolonhhhoaaTab
namespace Go.Mun
open Go Go.RowKit Go.Proofs

set_option maxRecDepth 100000 in
set_option maxHeartbeats 1000000 in
theorem word_any (n : Nat) (w : World) (_hn : n < 2 ^ 256) : Calls Try.prog 46 #[.agg (limbsV n)] w fun e w' => e = .returned (.agg (wcells n)) ∧ Below w.heap.size w w' := by
  have hN := numTy
  have hW := wordTy
  have zW : (Try.prog.info? 23).bind (·.zero) = some (.agg (tab .u8 32 fun _ => 0)) := by kernel_rfl
  have HL := Lib.hid (fun k (hk : k < 4) => limbsV_get n hk)
  have HS := Lib.hid (show (limbsV n).size = 4 from rfl)
  generalize limbsV n = cs at *
  have hZ : (Value.agg (tab .u8 32 fun _ => 0)).cells = tab .u8 32 fun _ => 0 := rfl
  have hZs : (tab .u8 32 fun _ => 0).size = 32 := tab_size
  have HT := Lib.hid (fun k (hk : k < 32) => @tab_set .u8 32 (fun j => if j < k then lowB n (31 - j) else 0) k (lowB n (31 - k)) hk)
  have HE := Lib.hid (fun k (hk : k < 32) => @tab_congr .u8 32 (fun j => if j = k then lowB n (31 - k) else if j < k then lowB n (31 - j) else 0) (fun j => if j < k + 1 then lowB n (31 - j) else 0) (fun j hj => by
    by_cases e : j = k
    · subst e; simp
    · by_cases e2 : j < k
      · rw [if_neg e, if_pos e2, if_pos (by omega)]
      · rw [if_neg e, if_neg e2, if_neg (by omega)]))
  have H0 := Lib.hid (@tab_congr .u8 32 (fun _ => 0) (fun j => if j < 0 then lowB n (31 - j) else 0) (fun j hj => by simp))
  have H32 := Lib.hid (show tab .u8 32 (fun j => if j < 32 then lowB n (31 - j) else 0) = wcells n from by
    rw [wcells, bv_wbytes]; exact tab_congr fun j hj => by rw [if_pos hj])
  have HSZ := Lib.hid (fun k => @tab_size .u8 32 (fun j => if j < k then lowB n (31 - j) else 0))
  have tok1 : True := trivial
  have tok2 : True := trivial
  clear hZs hZ
  go_enter Try.func46, Try.ntmps46
  go_wp2_with (first
    | ((with_reducible refine gd_box ?_); refine wpList_box_agg rfl _ (.tmp 0) rfl rfl ?_; intro w1 hx1 hB hl1)
    | ((with_reducible refine gd_alloc ?_); have _t := tok1; refine wpList_alloc_blk rfl 23 rfl zW ?_; clear tok1; intro w2 hx2 hb2 hl2)
    | ((with_reducible refine gd_alloc ?_); have _t := tok2; refine wpList_alloc_blk rfl 23 rfl zW ?_; clear tok2; intro w3 hx3 hb3 hl3)
    | fail)
  have hx1' := (hx1.ext hb2).ext hb3
  have hx2' := hx2.ext hb3
  have hB3 := below_step (below_step hB hb2) hb3
  have hg12 := hx1.lt
  have hg23 := hx2.lt
  rw [show (Value.agg (tab .u8 32 fun _ => 0)).cells = tab .u8 32 fun _ => 0 from rfl] at hx2' hx3
  go_loopw [6] (fun i wr => ∃ k : Nat, k ≤ 32 ∧ i = .int .i64 k ∧ Blk wr w2.heap.size 23 (tab .u8 32 fun j => if j < k then lowB n (31 - j) else 0) ∧ Blk wr w1.heap.size 23 (tab .u8 32 fun _ => 0) ∧ Blk wr w.heap.size 39 cs ∧ Below w.heap.size w wr) (fun i _ => 32 - (intOf i).toNat)
  case atStart => exact ⟨0, by omega, rfl, by rw [← H0.out]; exact hx3, hx2', hx1', hB3⟩
  case round =>
    obtain ⟨k, hk, rfl, hy3, hy2, hy1, hBr⟩ := hrel
    by_cases hlt : k < 32
    · obtain ⟨j, hj⟩ : ∃ j, j = 31 - k := ⟨_, rfl⟩
      have hm : (31 : Int) - (k : Int) = (j : Int) := by omega
      have hj8 : j / 8 < 4 := by omega
      have hb := limb_byte n j
      have HJ := Lib.hid hj
      clear hj
      have q1' : (j : Int) / 8 = ((j / 8 : Nat) : Int) := by omega
      have q2' : (j : Int) % 8 = ((j % 8 : Nat) : Int) := by omega
      have hjr : j % 8 < 8 := by omega
      generalize j / 8 = a at *
      generalize j % 8 = r at *
      have q3 : 8 * (r : Int) = ((8 * r : Nat) : Int) := by omega
      have hrt : 8 * r < 64 := by omega
      generalize 8 * r = t at *
      have b0 : (0 : Int) ≤ (a : Int) := by omega
      have b1 : (a : Int) < 4 := by omega
      have b2 : (0 : Int) ≤ (t : Int) := by omega
      have b3 : (t : Int) < 64 := by omega
      have hcell := hy1.cellv (i := a) (v := .int .u64 (limb n a : Nat)) (HL.out a hj8)
      have HLB := Lib.hid (show ((limb n a : Nat) : Int) / 2 ^ t % 256 = ((lowB n j : Nat) : Int) from by rw [← hb]; push_cast; rfl)
      clear hb
      go_wp2_with (first
        | ((with_reducible refine gd_store ?_); refine wpList_store_cell rfl 5 (.tmp 21) (.tmp 20) rfl hy3 (i := k) (v := .int .u8 (lowB n j : Nat)) (by rw [HSZ.out]; exact hlt) (by kernel_rfl) rfl rfl (congrArg (Value.int .u8) HLB.out) ?_; intro w5 hx5 hg5)
        | fail)
      rw [show lowB n j = lowB n (31 - k) from by rw [HJ.out], HT.out k hlt, HE.out k hlt] at hx5
      have hy2' := hy2.grown hg5 (by simp; omega)
      have hy1' := hy1.grown hg5 (by simp; omega)
      have hB5 := below_blk hBr hBr.size hg5 (by omega)
      go_roundw
      case rel => exact ⟨k + 1, by omega, by go_num, hx5, hy2', hy1', hB5⟩
      case measure => simp [intOf]; omega
    · obtain rfl : k = 32 := by omega
      rw [H32.out] at hy3
      have HWS := Lib.hid (wcells_size n)
      have H1 := Lib.hid (show oneAll (wcells n).toList = true from by rw [wcells, bv_wbytes]; exact tab_one)
      generalize hws : wcells n = ws at *
      have HQ := Lib.hid hws
      clear hws
      go_wp2_with (first
        | ((with_reducible refine gd_load ?_); refine wpList_load_blk rfl 23 (.tmp 3) rfl hy3 (by rw [HWS.out]; exact hW) rfl ?_)
        | ((with_reducible refine gd_store ?_); refine wpList_store_all rfl 23 (.tmp 2) (.tmp 23) rfl ws hy2 (by rw [HWS.out]; exact hW) (by rw [HWS.out]; exact tab_size) H1.out (by rfl) (by rfl) ?_; intro w9 hx9 hg9; have hB9 := below_blk hBr hBr.size hg9 (by omega))
        | fail)
      exact bodyPost_ret (results_blk1 (cs := ws) rfl (by rw [HWS.out]; exact hW) hx9 rfl) rfl ⟨by rw [HQ.out], hB9⟩

theorem minus_any (n : Nat) (w : World) (hn : n < 2 ^ 256) : Calls Try.prog 48 #[.agg (limbsV n)] w fun e w' => e = .returned (.bool (decide (2 ^ 255 ≤ n))) ∧ Below w.heap.size w w' := by
  have h3 : limb n 3 < 2 ^ 64 := limb_lt n 3
  have hd : (2 ^ 255 ≤ n) ↔ 2 ^ 63 ≤ limb n 3 := by
    unfold limb
    rw [Nat.mod_eq_of_lt (by omega)]
    omega
  have H3 := Lib.hid (limbsV_get n (show 3 < 4 by omega))
  rw [show decide (2 ^ 255 ≤ n) = decide (2 ^ 63 ≤ limb n 3) from by rw [decide_eq_decide]; exact hd]
  clear hd hn
  generalize limb n 3 = l at *
  generalize limbsV n = cs at *
  have H4 := Lib.hid h3
  go_enter Try.func48, Try.ntmps48
  go_wp2_with (first
    | ((with_reducible refine gd_box ?_); refine wpList_box_agg rfl _ (.tmp 0) rfl rfl ?_; intro w1 hx1 hB hl1; have hcell := hx1.cellv (i := 3) H3.out)
    | fail)
  go_ret
  refine ⟨?_, hB⟩
  show Ending.returned (.bool ((l : Int) / 9223372036854775808 != 0)) = _
  rw [show ((l : Int) / 9223372036854775808 != 0) = decide (2 ^ 63 ≤ l) from by
    rw [bne, Bool.not_eq_eq_eq_not, ← decide_not]
    have : ((l : Int) / 9223372036854775808 == 0) = decide ((l : Int) / 9223372036854775808 = 0) := rfl
    rw [this, decide_eq_decide]
    omega]
end Go.Mun
