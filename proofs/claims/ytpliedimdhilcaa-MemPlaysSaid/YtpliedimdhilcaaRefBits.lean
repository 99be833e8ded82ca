/- The walk of munimentsref1.Bits. -/
import Derived.Test.YtpliedimdhilcaaRefIntP
namespace Go.Mun
open Go Go.RowKit Go.Proofs

set_option maxRecDepth 100000 in
set_option maxHeartbeats 2000000 in
theorem RefBits_any (a : Nat) (w : World) (ha : a < 2 ^ 256) : Calls Try.prog 42 #[.agg (wcells a)] w fun e w' => e = .returned (.int .i64 (blen a : Nat)) ∧ Below w.heap.size w w' := by
  have HC := Lib.hid (fun i (h : i < 32) => wcells_at a h)
  have HA := Lib.hid ha
  have HBB := Lib.hid (fun i (h : i < 256) => bit_byte a i h)
  clear ha
  generalize wcells a = cs at *
  go_enter Try.func42, Try.ntmps42
  go_wp2_with (first
    | ((with_reducible refine gd_box ?_); refine wpList_box_agg rfl _ (.tmp 0) rfl rfl ?_; intro w1 hx1 hB hl1)
    | fail)
  go_loopw [3] (fun i wr => ∃ k : Nat, k ≤ 256 ∧ i = .int .i64 k ∧ Hid (a < 2 ^ (256 - k)) ∧ Blk wr w.heap.size 25 cs ∧ Below w.heap.size w wr) (fun i _ => 256 - (intOf i).toNat)
  case atStart => exact ⟨0, by omega, rfl, HA, hx1, hB⟩
  case round =>
    clear hx1 hB
    obtain ⟨k, hk, rfl, HK, hx1, hB⟩ := hrel
    by_cases hlt : k < 256
    · have k0 : (0 : Int) ≤ (k : Int) := by omega
      have k1 : (k : Int) < 256 := by omega
      have hcell := hx1.cellv (HC.out (k / 8) (by omega))
      have hb := HBB.out k hlt
      have q1 : (k : Int) / 8 = ((k / 8 : Nat) : Int) := by omega
      have q2 : (7 : Int) - (k : Int) % 8 = ((7 - k % 8 : Nat) : Int) := by omega
      have hr : 7 - k % 8 < 8 := by omega
      have hj : k / 8 < 32 := by omega
      have hx := lowB_lt a (31 - k / 8)
      generalize lowB a (31 - k / 8) = x at *
      generalize k / 8 = j at *
      generalize 7 - k % 8 = r at *
      have b0 : (0 : Int) ≤ (j : Int) := by omega
      have b1 : (j : Int) < 32 := by omega
      have r0 : (0 : Int) ≤ (r : Int) := by omega
      have r1 : (r : Int) < 8 := by omega
      have HU := Lib.hid (u8_bit x r hx)
      by_cases c : a / 2 ^ (255 - k) % 2 = 1
      · have d1 : (bits BinOp.and IntKind.u8 ((x : Int) / 2 ^ r) 1 == 1) = true := by rw [HU.out, hb, c]; rfl
        have HE := Lib.hid (@bit_one a (255 - k) (by have := HK.out; rw [show 255 - k + 1 = 256 - k from by omega]; exact this) c)
        clear hb c
        go_wp2
        go_ret
        exact ⟨congrArg (fun n : Int => Ending.returned (.int .i64 n)) (by rw [HE.out]; omega), hB⟩
      · have d1 : (bits BinOp.and IntKind.u8 ((x : Int) / 2 ^ r) 1 == 1) = false := by
          rw [HU.out, hb, beq_eq_false_iff_ne]
          omega
        have HE := Lib.hid (@bit_zero a (255 - k) (by have := HK.out; rw [show 255 - k + 1 = 256 - k from by omega]; exact this) c)
        clear hb c
        go_wp2
        go_roundw
        case rel => exact ⟨k + 1, by omega, by go_num, Lib.hid (by have := HE.out; rw [show 256 - (k + 1) = 255 - k from by omega]; exact this), hx1, hB⟩
        case measure => (simp [intOf]; try omega)
    · obtain rfl : k = 256 := by omega
      obtain rfl : a = 0 := by have := HK.out; rw [Nat.sub_self, Nat.pow_zero] at this; omega
      go_wp2
      go_ret
      exact ⟨rfl, hB⟩
end Go.Mun
