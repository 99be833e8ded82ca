/- The walks of munimentsref1.limbs and word. -/
import Derived.Test.YtcmhbolonhhhoaaDig
namespace Go.Mun
open Go Go.RowKit Go.Proofs

/-- a slice of m digits that is a number -/
def Digs (w : World) (v : Value) (g m N : Nat) : Prop := v = .slice (some ⟨g, 0, none⟩) m m ∧ Blk w g 3 (dtab m N)

set_option maxRecDepth 100000 in
set_option maxHeartbeats 2000000 in
theorem limbs_any (a : Nat) (w : World) (ha : a < 2 ^ 256) : Calls Try.prog 55 #[.agg (wcells a)] w fun e w' => ∃ g, e = .returned (.slice (some ⟨g, 0, none⟩) 16 16) ∧ w.heap.size ≤ g ∧ Blk w' g 3 (dtab 16 a) ∧ Below w.heap.size w w' := by
  have hI := intsTy
  have HC := Lib.hid (fun i (h : i < 32) => wcells_at a h)
  have HO := Lib.hid (dig_or a)
  have HSP := Lib.hid (fun k (hk : k < 16) => (dtab_step (m := 16) (x := a % 2 ^ (16 * k)) (k := k) mod_step (dig_lt a k) hk).trans (congrArg (dtab 16) (dig_split a k).symm))
  have HS := Lib.hid dtab_size
  have H0 := Lib.hid ((rep_dtab 16).trans (congrArg (dtab 16) (show 0 = a % 2 ^ (16 * 0) from (Nat.mod_one _).symm)))
  have H16 := Lib.hid (congrArg (dtab 16) (show a % 2 ^ (16 * 16) = a from Nat.mod_eq_of_lt ha))
  have HLT := Lib.hid (dig_lt a)
  clear ha
  generalize wcells a = cs at *
  go_enter Try.func55, Try.ntmps55
  go_wp2_with (first
    | ((with_reducible refine gd_box ?_); refine wpList_box_agg rfl _ (.tmp 0) rfl rfl ?_; intro w1 hx1 hb1 hl1)
    | ((with_reducible refine gd_make ?_); refine wpList_make_ints rfl _ _ 48 rfl hI rfl (n := 16) rfl rfl (by decide) ?_; intro w2 hx2 hb2 hl2)
    | fail)
  rw [H0.out] at hx2
  have hy1 := hx1.ext hb2
  have o1 := hx1.lt
  have hB2 := below_step hb1 hb2
  clear hx1 hb1 hb2 hl1 hl2
  go_loopw [4] (fun i wr => ∃ k : Nat, k ≤ 16 ∧ i = .int .i64 k ∧ Blk wr w1.heap.size 3 (dtab 16 (a % 2 ^ (16 * k))) ∧ Blk wr w.heap.size 23 cs ∧ Below w.heap.size w wr) (fun i _ => 16 - (intOf i).toNat)
  case atStart => exact ⟨0, by omega, rfl, hx2, hy1, hB2⟩
  case round =>
    clear hx2 hy1 hB2
    obtain ⟨k, hk, rfl, hx2, hx1, hB⟩ := hrel
    by_cases hlt : k < 16
    · have k0 : (0 : Int) ≤ (k : Int) := by omega
      have k1 : (k : Int) < 16 := by omega
      have hc1 := hx1.cellv ((HC.out (31 - 2 * k) (by omega)).trans (congrArg (fun i => some (Value.int .u8 (lowB a i : Nat))) (show 31 - (31 - 2 * k) = 2 * k from by omega)))
      have hc2 := hx1.cellv ((HC.out (30 - 2 * k) (by omega)).trans (congrArg (fun i => some (Value.int .u8 (lowB a i : Nat))) (show 31 - (30 - 2 * k) = 2 * k + 1 from by omega)))
      have HOk := Lib.hid (HO.out k)
      have x1 := lowB_lt a (2 * k)
      have x2 := lowB_lt a (2 * k + 1)
      generalize lowB a (2 * k) = x at *
      generalize lowB a (2 * k + 1) = y at *
      have r3 : IntKind.i64.wrap (x : Int) = (x : Int) := IntWalk.i64_in _ (by omega)
      have r4 : IntKind.i64.wrap (y : Int) = (y : Int) := IntWalk.i64_in _ (by omega)
      have r5 : IntKind.i64.wrap ((y : Int) * 256) = (y : Int) * 256 := IntWalk.i64_in _ (by omega)
      have HSk := Lib.hid (HS.out 16 (a % 2 ^ (16 * k)))
      have HSPk := Lib.hid (HSP.out k hlt)
      obtain ⟨t, ht⟩ : ∃ t, t = 2 * k := ⟨_, rfl⟩
      obtain ⟨j, hj⟩ : ∃ j, j = 31 - t := ⟨_, rfl⟩
      obtain ⟨j', hj'⟩ : ∃ j', j' = 30 - t := ⟨_, rfl⟩
      have q0 : 2 * (k : Int) = (t : Int) := by omega
      have q2 : 31 - (t : Int) = (j : Int) := by omega
      have q3 : 30 - (t : Int) = (j' : Int) := by omega
      have r0 : IntKind.i64.wrap (t : Int) = (t : Int) := IntWalk.i64_in _ (by omega)
      have r1 : IntKind.i64.wrap (j : Int) = (j : Int) := IntWalk.i64_in _ (by omega)
      have r2 : IntKind.i64.wrap (j' : Int) = (j' : Int) := IntWalk.i64_in _ (by omega)
      have b1 : (0 : Int) ≤ (j : Int) := by omega
      have b2 : (0 : Int) ≤ (j' : Int) := by omega
      have b3 : (j : Int) < 32 := by omega
      have b4 : (j' : Int) < 32 := by omega
      rw [← ht, ← hj] at hc1
      rw [← ht, ← hj'] at hc2
      clear ht hj hj'
      go_wp2
      go_still_tail 17, (by kernel_rfl)
      refine wpList_store_cell rfl 3 (.tmp 26) (.tmp 25) rfl (w := wr.drew) hx2.drew (i := k) (v := .int .i64 (dig a k : Nat)) (by rw [HSk.out]; exact hlt) (by kernel_rfl) rfl rfl (congrArg (Value.int .i64) HOk.out) ?_
      intro w5 hx5 hg5
      rw [HSPk.out] at hx5
      have hx1' := hx1.drew.grown hg5 (by simp; omega)
      have hB5 := below_blk hB.drew hB.size hg5 (by omega)
      clear q0 q2 q3 r0 r1 r2 r3 r4 r5
      go_wp2
      go_roundw
      case rel => exact ⟨k + 1, by omega, by go_num, hx5, hx1', hB5⟩
      case measure => (simp [intOf]; try omega)
    · obtain rfl : k = 16 := by omega
      rw [H16.out] at hx2
      go_wp2
      go_ret
      exact ⟨_, rfl, Nat.le_of_lt o1, hx2, hB⟩

def wordT (N k : Nat) : Array Value := tab .u8 32 fun p => if 32 - 2 * k ≤ p then lowB N (31 - p) else 0
def wordH (N k : Nat) : Array Value := tab .u8 32 fun p => if 31 - 2 * k ≤ p then lowB N (31 - p) else 0
theorem wordT_zero (N : Nat) : wordT N 0 = wcells 0 := by
  rw [← wcells_zero]
  exact tab_congr fun i hi => by rw [if_neg (by omega)]
theorem wordT_half {N k : Nat} (hk : k < 16) : (wordT N k).setIfInBounds (31 - 2 * k) (.int .u8 (lowB N (2 * k) : Nat)) = wordH N k := by
  unfold wordT wordH
  rw [tab_set (by omega)]
  exact tab_congr fun i hi => by
    by_cases c : i = 31 - 2 * k
    · rw [if_pos c, if_pos (by omega), show 31 - i = 2 * k from by omega]
    · rw [if_neg c]
      by_cases d : 32 - 2 * k ≤ i
      · rw [if_pos d, if_pos (by omega)]
      · rw [if_neg d, if_neg (by omega)]
theorem wordT_step {N k : Nat} (hk : k < 16) : (wordH N k).setIfInBounds (30 - 2 * k) (.int .u8 (lowB N (2 * k + 1) : Nat)) = wordT N (k + 1) := by
  unfold wordT wordH
  rw [tab_set (by omega)]
  exact tab_congr fun i hi => by
    by_cases c : i = 30 - 2 * k
    · rw [if_pos c, if_pos (by omega), show 31 - i = 2 * k + 1 from by omega]
    · rw [if_neg c]
      by_cases d : 31 - 2 * k ≤ i
      · rw [if_pos d, if_pos (by omega)]
      · rw [if_neg d, if_neg (by omega)]
theorem wordT_end (N : Nat) : wordT N 16 = wcells (N % 2 ^ 256) := by
  rw [wcells, bv_wbytes]
  exact tab_congr fun i hi => by rw [if_pos (by omega), show (2 : Nat) ^ 256 = 2 ^ (8 * 32) from rfl, lowB_mod' (n := 32) (j := 31 - i) (by omega)]

set_option maxRecDepth 100000 in
set_option maxHeartbeats 2000000 in
theorem refword_any (ad : Addr) (m c N : Nat) (w : World) (hm : 16 ≤ m) (hm2 : m ≤ 1000) (hg : Rd w (some ad) (dtab m N).toList) : Calls Try.prog 56 #[.slice (some ad) m c] w fun e w' => e = .returned (.agg (wcells (N % 2 ^ 256))) ∧ Below w.heap.size w w' := by
  have hW := wordTy
  have zW := zWordL
  have HSW := Lib.hid wcells_size
  have H1W := Lib.hid wcells_one
  have HC := Lib.hid (fun i (h : i < m) => dtab_get N h)
  have HT0 := Lib.hid (wordT_zero N)
  have HTH := Lib.hid (fun k (hk : k < 16) => @wordT_half N k hk)
  have HTS := Lib.hid (fun k (hk : k < 16) => @wordT_step N k hk)
  have HTE := Lib.hid (wordT_end N)
  have HLO := Lib.hid (dig_low N)
  have HHI := Lib.hid (dig_high N)
  have HLT := Lib.hid (dig_lt N)
  have HST := Lib.hid (fun k => @tab_size .u8 32 (fun p => if 32 - 2 * k ≤ p then lowB N (31 - p) else 0))
  have HSH := Lib.hid (fun k => @tab_size .u8 32 (fun p => if 31 - 2 * k ≤ p then lowB N (31 - p) else 0))
  have ho : ad.block < w.heap.size := rd_lt hg (by rw [Array.length_toList, dtab_size]; omega)
  generalize dtab m N = ds at *
  have tk1 : True := trivial
  have tk2 : True := trivial
  go_enter Try.func56, Try.ntmps56
  go_wp2_with (first
    | ((with_reducible refine gd_alloc ?_); have _t := tk1; refine wpList_alloc_blk rfl 23 rfl zW ?_; clear tk1; intro w1 hx1 hb1 hl1)
    | ((with_reducible refine gd_alloc ?_); have _t := tk2; refine wpList_alloc_blk rfl 23 rfl zW ?_; clear tk2; intro w2 hx2 hb2 hl2)
    | fail)
  have hy1 : Blk w2 w.heap.size 23 (wcells 0) := hx1.ext hb2
  have hy2 : Blk w2 w1.heap.size 23 (wordT N 0) := by rw [HT0.out]; exact hx2
  have hy3 := (hg.ext hb1).ext hb2
  have o1 := hx1.lt
  have hB2 := below_step hb1 hb2
  clear hx1 hx2 hb1 hb2 hl1 hl2 hg
  go_loopw [4] (fun i wr => ∃ k : Nat, k ≤ 16 ∧ i = .int .i64 k ∧ Blk wr w1.heap.size 23 (wordT N k) ∧ Blk wr w.heap.size 23 (wcells 0) ∧ Rd wr (some ad) ds.toList ∧ Below w.heap.size w wr) (fun i _ => 16 - (intOf i).toNat)
  case atStart => exact ⟨0, by omega, rfl, hy2, hy1, hy3, hB2⟩
  case round =>
    clear hy2 hy1 hy3 hB2
    obtain ⟨k, hk, rfl, hy2, hy1, hy3, hB⟩ := hrel
    by_cases hlt : k < 16
    · have k0 : (0 : Int) ≤ (k : Int) := by omega
      have k1 : (k : Int) < 16 := by omega
      have k2 : (k : Int) < (m : Int) := by omega
      have k3 : k < m := by omega
      have hc1 := rd_at hy3 (HC.out k k3)
      have hl := HLT.out k
      have hlo := HLO.out k
      have hhi := HHI.out k
      have l1 := lowB_lt N (2 * k)
      have l2 := lowB_lt N (2 * k + 1)
      have HTHk := Lib.hid (HTH.out k hlt)
      have HTSk := Lib.hid (HTS.out k hlt)
      have HA := Lib.hid (show bits .and .i64 ((dig N k : Nat) : Int) 255 % 256 = ((lowB N (2 * k) : Nat) : Int) from by rw [and255]; omega)
      have HS := Lib.hid (show ((dig N k : Nat) : Int) / 256 = ((lowB N (2 * k + 1) : Nat) : Int) from by omega)
      have HSTk := Lib.hid (HST.out k)
      have HSHk := Lib.hid (HSH.out k)
      clear hlo hhi

      have tkA : True := trivial
      go_wp2_with (first
        | ((with_reducible refine gd_store ?_); have _t := tkA; refine wpList_store_cell rfl 5 (.tmp 24) (.tmp 23) rfl hy2 (i := 31 - 2 * k) (v := .int .u8 (lowB N (2 * k) : Nat)) (by rw [show (wordT N k).size = 32 from HSTk.out]; omega) (by kernel_rfl) rfl rfl (congrArg (Value.int .u8) HA.out) ?_; clear tkA; intro w5 hx5 hg5; rw [HTHk.out] at hx5; have hz3 := rd_grown hy3 hg5 (by omega); have hc1 := rd_at hz3 (HC.out k k3))
        | ((with_reducible refine gd_store ?_); refine wpList_store_cell rfl 5 (.tmp 34) (.tmp 33) rfl hx5 (i := 30 - 2 * k) (v := .int .u8 (lowB N (2 * k + 1) : Nat)) ?_ (by kernel_rfl) rfl ?_ ?_ ?_; (rw [show (wordH N k).size = 32 from HSHk.out]; omega); rfl; exact (congrArg (Value.int .u8) HS.out); intro w6 hx6 hg6)
        | fail)
      rw [HTSk.out] at hx6
      have hz1 := (hy1.grown hg5 (by simp; omega)).grown hg6 (by simp; omega)
      have hz3' := rd_grown hz3 hg6 (by omega)
      have hB5 := below_blk hB hB.size hg5 (by omega)
      have hB6 := below_blk hB5 hB5.size hg6 (by omega)
      go_roundw
      case rel => exact ⟨k + 1, by omega, by go_num, hx6, hz1, hz3', hB6⟩
      case measure => (simp [intOf]; try omega)
    · obtain rfl : k = 16 := by omega
      rw [HTE.out] at hy2
      obtain ⟨r, Er⟩ : ∃ r, r = N % 2 ^ 256 := ⟨_, rfl⟩
      have HR := Lib.hid Er
      rw [← Er] at hy2
      clear Er
      go_wp2_with (first
        | ((with_reducible refine gd_load ?_); refine wpList_load_blk rfl 23 (.tmp 3) rfl hy2 (by rw [HSW.out]; exact hW) rfl ?_)
        | ((with_reducible refine gd_store ?_); refine wpList_store_all rfl 23 (.tmp 2) (.tmp 35) rfl (wcells r) hy1 (by rw [HSW.out]; exact hW) (by rw [HSW.out]; exact HSW.out 0) (H1W.out _) (by rfl) (by rfl) ?_; intro w9 hx9 hg9)
        | fail)
      have hB9 := below_blk hB hB.size hg9 (by omega)
      exact bodyPost_ret (results_blk1 (cs := wcells r) rfl (by rw [HSW.out]; exact hW) hx9 rfl) rfl ⟨by rw [HR.out], hB9⟩
end Go.Mun
