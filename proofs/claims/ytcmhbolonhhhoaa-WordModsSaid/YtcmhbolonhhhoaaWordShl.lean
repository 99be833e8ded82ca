/- The walks of number.shl. -/
import Derived.Test.YtcmhbolonhhhoaaWordShr
import Derived.Test.YtcmhbolonhhhoaaShiftPlain
import Derived.StillTailTactics
namespace Go.Mun
open Go Go.RowKit Go.Proofs


set_option maxRecDepth 100000 in
set_option maxHeartbeats 2000000 in
theorem shl_any (n k : Nat) (w : World) (hk : k < 256) : Calls Try.prog 50 #[.agg (limbsV n), .int .i64 (k : Int)] w fun e w' => e = .returned (.agg (limbsV (n * 2 ^ k % 2 ^ 256))) ∧ Below w.heap.size w w' := by
  have hN := numTy
  have zN := zNum
  obtain ⟨q, hq⟩ : ∃ q, q = k / 64 := ⟨_, rfl⟩
  obtain ⟨r, hr⟩ : ∃ r, r = k % 64 := ⟨_, rfl⟩
  have hr64 : r < 64 := by omega
  have hq4 : q < 4 := by omega
  have hkq : k = 64 * q + r := by omega
  have q1 : (k : Int) / 64 = (q : Int) := by omega
  have q2 : (k : Int) % 64 = (r : Int) := by omega
  have q3 : (k : Int).tdiv 64 = (q : Int) := by rw [Int.tdiv_eq_ediv_of_nonneg (by omega)]; omega
  have q4 : (k : Int).tmod 64 = (r : Int) := by rw [Int.tmod_eq_emod_of_nonneg (by omega)]; omega
  have HR := Lib.hid (show tab .u64 4 (limb (n * 2 ^ (64 * q + r))) = limbsV (n * 2 ^ k % 2 ^ 256) from by
    rw [limbsV_tab, hkq]
    exact tab_congr fun j hj => (limb_low (k := 4) _ hj).symm)
  have HF := Lib.hid (fun i => shl_limb n q r i hr64)
  have HL := Lib.hid (fun k (hk : k < 4) => limbsV_get n hk)
  have HLt := Lib.hid (fun k => limb_lt n k)
  clear hq hr hkq
  have b1 : (0 : Int) ≤ (k : Int) := by omega
  have b2 : (k : Int) < 256 := by omega
  have b3 : (0 : Int) ≤ (r : Int) := by omega
  have b4 : (r : Int) < 64 := by omega
  have b5 : (0 : Int) ≤ (q : Int) := by omega
  have b6 : (q : Int) < 4 := by omega
  clear hk
  generalize limbsV n = cs at *
  have tok1 : True := trivial
  go_enter Try.func50, Try.ntmps50
  go_wp2_with (first
    | ((with_reducible refine gd_box ?_); refine wpList_box_agg rfl _ (.tmp 0) rfl rfl ?_; intro w1 hx1 hb1 hl1)
    | ((with_reducible refine gd_alloc ?_); have _t := tok1; refine wpList_alloc_blk rfl 39 rfl zN ?_; clear tok1; intro w2 hx2 hb2 hl2)
    | ((with_reducible refine gd_alloc ?_); refine wpList_alloc_blk rfl 39 rfl zN ?_; intro w3 hx3 hb3 hl3)
    | fail)
  have hx1' := (hx1.ext hb2).ext hb3
  have hx2' := hx2.ext hb3
  have hB := below_step (below_step hb1 hb2) hb3
  have hg1 := hx1.lt
  have hg2 := hx2.lt
  clear hx1 hx2 hb1 hb2 hb3
  generalize hN' : limb (n * 2 ^ (64 * q + r)) = F at *
  clear hN'
  go_loopw [6] (fun i wr => ∃ m : Nat, q ≤ m ∧ m ≤ 4 ∧ i = .int .i64 ((m : Int) - 1) ∧ Blk wr w2.heap.size 39 (tab .u64 4 fun j => if m ≤ j then F j else 0) ∧ Blk wr w1.heap.size 39 (limbsV 0) ∧ Blk wr w.heap.size 39 cs ∧ Below w.heap.size w wr) (fun i _ => (intOf i + 1).toNat)
  case atStart => exact ⟨4, by omega, by omega, rfl, hx3, hx2', hx1', hB⟩
  case round =>
    obtain ⟨m', hqm, hm, hi, hy3, hy2, hy1, hBr⟩ := hrel
    by_cases c : q < m'
    · obtain ⟨m, rfl⟩ : ∃ m, m' = m + 1 := ⟨m' - 1, by omega⟩
      obtain rfl : _ = Value.int .i64 (m : Int) := hi.trans (congrArg (Value.int .i64) (by omega))
      clear hi
      obtain ⟨a, ha⟩ : ∃ a, a = m - q := ⟨_, rfl⟩
      have ha4 : a < 4 := by omega
      have hm4 : m < 4 := by omega
      have ha' : (m : Int) - (q : Int) = (a : Int) := by omega
      have d0 : (q : Int) ≤ (m : Int) := by omega
      have d1 : (a : Int) < 4 := by omega
      have d2 : (m : Int) < 4 := by omega
      have d3 : (0 : Int) ≤ (a : Int) := by omega
      have d4 : (0 : Int) ≤ (m : Int) := by omega
      have hcA := hy1.cellv (i := a) (HL.out a ha4)
      have hF := HF.out m
      rw [show m - q = a from ha.symm, if_neg (by omega)] at hF
      have ha0 : (m < q + 1) ↔ a = 0 := by omega
      have HA := Lib.hid ha
      clear ha c hqm
      have HS1 := Lib.hid (@tab_set .u64 4 (fun j => if m + 1 ≤ j then F j else 0) m (limb n a * 2 ^ r % 2 ^ 64) hm4)
      have HV := Lib.hid (u64_shl_wrap (limb n a) r)
      by_cases c2 : 0 < a ∧ 0 < r
      · obtain ⟨c3, c4⟩ := c2
        rw [if_neg (by omega), if_neg (by omega)] at hF
        obtain ⟨b, hb⟩ : ∃ b, b = a - 1 := ⟨_, rfl⟩
        obtain ⟨s, hs⟩ : ∃ s, s = 64 - r := ⟨_, rfl⟩
        have hb4 : b < 4 := by omega
        have hb' : (a : Int) - 1 = (b : Int) := by omega
        have hs' : (64 : Int) - (r : Int) = (s : Int) := by omega
        have e1 : (b : Int) < 4 := by omega
        have e2 : (0 : Int) ≤ (b : Int) := by omega
        have e3 : (0 : Int) < (r : Int) := by omega
        have e4 : (0 : Int) ≤ (s : Int) := by omega
        have e5 : (s : Int) < 64 := by omega
        have e6 : (1 : Int) ≤ (a : Int) := by omega
        have hs64 : s < 64 := by omega
        rw [← hb, ← hs] at hF
        have HB := Lib.hid hb
        clear hb hs c3 c4 ha0
        have hcB := hy1.cellv (i := b) (HL.out b hb4)
        have g1 : IntKind.i64.wrap (r : Int) = (r : Int) := IntWalk.i64_in _ (by omega)
        have g2 : IntKind.i64.wrap (s : Int) = (s : Int) := IntWalk.i64_in _ (by omega)
        have HO := Lib.hid (show bits .or .u64 ((limb n a * 2 ^ r % 2 ^ 64 : Nat) : Int) (((limb n b : Nat) : Int) / 2 ^ s) = ((F m : Nat) : Int) from by
          have hl : limb n b / 2 ^ s < 2 ^ 64 := Nat.lt_of_le_of_lt (Nat.div_le_self _ _) (HLt.out b)
          have e : (((limb n b : Nat) : Int) / 2 ^ s) = ((limb n b / 2 ^ s : Nat) : Int) := by rw [Int.natCast_ediv, Int.natCast_pow]; rfl
          rw [e, u64_or_nat _ _ (Nat.mod_lt _ (by decide)) hl, hF])
        have HT := Lib.hid (@tab_set .u64 4 (fun j => if j = m then limb n a * 2 ^ r % 2 ^ 64 else if m + 1 ≤ j then F j else 0) m (F m) hm4)
        have HE := Lib.hid (show (tab .u64 4 fun j => if j = m then F m else if j = m then limb n a * 2 ^ r % 2 ^ 64 else if m + 1 ≤ j then F j else 0) = (tab .u64 4 fun j => if m ≤ j then F j else 0) from tab_congr fun j _ => by
          by_cases e : j = m
          · subst e; rw [if_pos rfl, if_pos (by omega)]
          · by_cases e2 : m + 1 ≤ j
            · rw [if_neg e, if_neg e, if_pos e2, if_pos (by omega)]
            · rw [if_neg e, if_neg e, if_neg e2, if_neg (by omega)])
        have HG := Lib.hid (@tab_get .u64 4 (fun j => if j = m then limb n a * 2 ^ r % 2 ^ 64 else if m + 1 ≤ j then F j else 0) m hm4)
        clear hF
        go_wp2_with (first
          | ((with_reducible refine gd_store ?_); refine wpList_store_cell rfl 37 (.tmp 24) (.tmp 23) rfl hy3 (i := m) (v := .int .u64 (limb n a * 2 ^ r % 2 ^ 64 : Nat)) (by rw [tab_size]; exact hm4) (by kernel_rfl) rfl rfl (congrArg (Value.int .u64) HV.out) ?_; intro w5 hx5 hg5; rw [HS1.out] at hx5; have hz1 := hy1.grown hg5 (by simp; omega); have hz2 := hy2.grown hg5 (by simp; omega); have hB5 := below_blk hBr hBr.size hg5 (by omega); have hcO := hx5.cellv HG.out; rw [if_pos rfl] at hcO; replace hcB := hz1.cellv (i := b) (HL.out b hb4))
          | fail)
        generalize limb n a * 2 ^ r % 2 ^ 64 = v1 at *
        generalize limb n b = v2 at *
        clear HF HLt HL
        go_still_tail 12, (by kernel_rfl)
        rw [HO.out]
        refine wpList_store_cell rfl 37 (.tmp 48) (.tmp 47) rfl (w := w5.drew) hx5.drew (i := m) (v := .int .u64 (F m : Nat)) (by rw [tab_size]; exact hm4) (by kernel_rfl) rfl rfl rfl ?_
        intro w6 hx6 hg6
        rw [HT.out, HE.out] at hx6
        have hz1' := hz1.drew.grown hg6 (by simp; omega)
        have hz2' := hz2.drew.grown hg6 (by simp; omega)
        have hB6 := below_blk hB5.drew hB5.size hg6 (by omega)
        go_wp2
        go_roundw
        case rel => exact ⟨m, by omega, by omega, rfl, hx6, hz2', hz1', hB6⟩
        case measure => (simp [intOf]; try omega)
      · have hF2 : F m = limb n a * 2 ^ r % 2 ^ 64 := by
          rw [hF]
          by_cases h0 : r = 0
          · rw [if_pos h0, ite_self, Nat.or_zero]
          · rw [if_pos (by omega), Nat.or_zero]
        have HE := Lib.hid (show (tab .u64 4 fun j => if j = m then limb n a * 2 ^ r % 2 ^ 64 else if m + 1 ≤ j then F j else 0) = (tab .u64 4 fun j => if m ≤ j then F j else 0) from tab_congr fun j _ => by
          rw [← hF2]
          by_cases e : j = m
          · subst e; rw [if_pos rfl, if_pos (by omega)]
          · by_cases e2 : m + 1 ≤ j
            · rw [if_neg e, if_pos e2, if_pos (by omega)]
            · rw [if_neg e, if_neg e2, if_neg (by omega)])
        clear hF hF2 ha0
        by_cases c4 : 0 < a
        · have d5 : (1 : Int) ≤ (a : Int) := by omega
          have d6 : ¬ (0 < (r : Int)) := by omega
          go_wp2_with (first
            | ((with_reducible refine gd_store ?_); refine wpList_store_cell rfl 37 (.tmp 24) (.tmp 23) rfl hy3 (i := m) (v := .int .u64 (limb n a * 2 ^ r % 2 ^ 64 : Nat)) (by rw [tab_size]; exact hm4) (by kernel_rfl) rfl rfl (congrArg (Value.int .u64) HV.out) ?_; intro w5 hx5 hg5; rw [HS1.out, HE.out] at hx5; have hz1 := hy1.grown hg5 (by simp; omega); have hz2 := hy2.grown hg5 (by simp; omega); have hB5 := below_blk hBr hBr.size hg5 (by omega))
            | fail)
          go_roundw
          case rel => exact ⟨m, by omega, by omega, rfl, hx5, hz2, hz1, hB5⟩
          case measure => (simp [intOf]; try omega)
        · obtain rfl : a = 0 := by omega
          go_wp2_with (first
            | ((with_reducible refine gd_store ?_); refine wpList_store_cell rfl 37 (.tmp 24) (.tmp 23) rfl hy3 (i := m) (v := .int .u64 (limb n 0 * 2 ^ r % 2 ^ 64 : Nat)) (by rw [tab_size]; exact hm4) (by kernel_rfl) rfl rfl (congrArg (Value.int .u64) HV.out) ?_; intro w5 hx5 hg5; rw [HS1.out, HE.out] at hx5; have hz1 := hy1.grown hg5 (by simp; omega); have hz2 := hy2.grown hg5 (by simp; omega); have hB5 := below_blk hBr hBr.size hg5 (by omega))
            | fail)
          go_roundw
          case rel => exact ⟨m, by omega, by omega, rfl, hx5, hz2, hz1, hB5⟩
          case measure => (simp [intOf]; try omega)
    · obtain rfl : m' = q := by omega
      have HT := Lib.hid (show (tab .u64 4 fun j => if m' ≤ j then F j else 0) = tab .u64 4 F from tab_congr fun j _ => by
          by_cases e : m' ≤ j
          · rw [if_pos e]
          · rw [if_neg e, HF.out j, if_pos (by omega)])
      rw [HT.out, HR.out] at hy3
      obtain ⟨z, hz⟩ : ∃ z : Int, z = (m' : Int) - 1 := ⟨_, rfl⟩
      rw [← hz] at hi
      subst hi
      have d1 : ¬ (m' : Int) ≤ z := by omega
      have d2 : z < 4 := by omega
      have d3 : -1 ≤ z := by omega
      clear c HT hz
      have H0 := Lib.hid (limbsV_one (n * 2 ^ k % 2 ^ 256))
      have HS := Lib.hid (limbsV_size (n * 2 ^ k % 2 ^ 256))
      have HSz := Lib.hid (limbsV_size 0)
      generalize hcr : limbsV (n * 2 ^ k % 2 ^ 256) = cr at *
      have HQ := Lib.hid hcr
      clear hcr
      go_wp2_with (first
        | ((with_reducible refine gd_load ?_); refine wpList_load_blk rfl 39 (.tmp 5) rfl hy3 (by rw [HS.out]; exact hN) rfl ?_)
        | ((with_reducible refine gd_store ?_); refine wpList_store_all rfl 39 (.tmp 4) (.tmp 49) rfl cr hy2 (by rw [HS.out]; exact hN) (by rw [HS.out]; exact HSz.out) H0.out (by rfl) (by rfl) ?_; intro w9 hx9 hg9; have hB9 := below_blk hBr hBr.size hg9 (by omega))
        | fail)
      exact bodyPost_ret (results_blk1 (cs := cr) rfl (by rw [HS.out]; exact hN) hx9 rfl) rfl ⟨by rw [HQ.out], hB9⟩
end Go.Mun
