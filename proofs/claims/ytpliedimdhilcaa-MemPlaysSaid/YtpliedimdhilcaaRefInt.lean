/- The walk of munimentsref1.Int. -/
import Derived.Test.YtpliedimdhilcaaRefIntP
namespace Go.Mun
open Go Go.RowKit Go.Proofs

/-- the number of 8 bytes that have been read -/
theorem int_step {a k : Nat} (ha : a < 2 ^ 63) (hk : k < 8) : bits .or .i64 (((a / 2 ^ (8 * (8 - k)) : Nat) : Int) * 256) ((lowB a (7 - k) : Nat) : Int) = ((a / 2 ^ (8 * (8 - (k + 1))) : Nat) : Int) ∧ a / 2 ^ (8 * (8 - k)) * 256 < 2 ^ 63 := by
  have e : a / 2 ^ (8 * (8 - k)) = a / 2 ^ (8 * (7 - k)) / 256 := by
    rw [Nat.div_div_eq_div_mul, show (256 : Nat) = 2 ^ 8 from rfl, ← Nat.pow_add]
    congr 2
    omega
  have h1 : a / 2 ^ (8 * (7 - k)) ≤ a := Nat.div_le_self _ _
  have e2 : 8 * (8 - (k + 1)) = 8 * (7 - k) := by omega
  have hl : lowB a (7 - k) = a / 2 ^ (8 * (7 - k)) % 256 := rfl
  rw [e, e2, hl]
  generalize a / 2 ^ (8 * (7 - k)) = q at *
  refine ⟨?_, by omega⟩
  have e3 : ((q / 256 : Nat) : Int) * 256 = ((q / 256 * 256 : Nat) : Int) := by rw [Int.natCast_mul]; rfl
  rw [e3, i64_or_nat _ _ (by omega) (by omega)]
  have := or_side (q / 256) (q % 256) 8 (by omega)
  rw [show (2 : Nat) ^ 8 = 256 from rfl] at this
  rw [this]
  congr 1
  omega

set_option maxRecDepth 100000 in
set_option maxHeartbeats 2000000 in
theorem RefInt_no (a : Nat) (w : World) (ha : a < 2 ^ 256) (hbig : ¬ a < 2 ^ 63) : Calls Try.prog 53 #[.agg (wcells a)] w fun e w' => e = .returned (.tuple #[.int .i64 0, .bool false]) ∧ Below w.heap.size w w' := by
  have HC := Lib.hid (fun i (h : i < 32) => wcells_at a h)
  have HB := Lib.hid hbig
  have HA := Lib.hid ha
  clear ha hbig
  generalize wcells a = cs at *
  go_enter Try.func53, Try.ntmps53
  go_wp2_with (first
    | ((with_reducible refine gd_box ?_); refine wpList_box_agg rfl _ (.tmp 0) rfl rfl ?_; intro w1 hx1 hB hl1)
    | fail)
  go_loop [4] (fun i => ∃ k : Nat, k ≤ 24 ∧ i = .int .i64 k ∧ Hid (a < 2 ^ (8 * (32 - k)))) (fun i => 24 - (intOf i).toNat)
  case atStart => exact ⟨0, by omega, rfl, HA⟩
  case round =>
    obtain ⟨k, hk, rfl, HK⟩ := hrel
    by_cases hlt : k < 24
    · have k0 : (0 : Int) ≤ (k : Int) := by omega
      have k1 : (k : Int) < 24 := by omega
      have hcell := hx1.cellv (HC.out k (by omega))
      have HN := Lib.hid (@lt_of_lowB a (31 - k) (by have := HK.out; rw [show 31 - k + 1 = 32 - k from by omega]; exact this))
      by_cases c : lowB a (31 - k) = 0
      · have HX := Lib.hid (HN.out c)
        rw [c] at hcell
        clear c
        go_wp2
        go_round
        case rel => exact ⟨k + 1, by omega, by go_num, Lib.hid (by have := HX.out; rw [show 32 - (k + 1) = 31 - k from by omega]; exact this)⟩
        case measure => (simp [intOf]; try omega)
      · have hx := lowB_lt a (31 - k)
        generalize lowB a (31 - k) = x at *
        have d1 : ((x : Int) != 0) = true := by rw [bne_iff_ne]; omega
        go_wp2
        go_ret2
        exact ⟨rfl, hB⟩
    · obtain rfl : k = 24 := by omega
      have hcell := hx1.cellv (HC.out 24 (by omega))
      have h7 : 128 ≤ lowB a 7 := by
        have h := HB.out
        have h2 := HK.out
        rw [show 8 * (32 - 24) = 64 from rfl] at h2
        rw [lowB_top (n := 7) h2]
        omega
      rw [show 31 - 24 = 7 from rfl] at hcell
      have hx := lowB_lt a 7
      generalize lowB a 7 = x at *
      have d1 : (128 : Int) ≤ (x : Int) := by omega
      go_wp2
      go_ret2
      exact ⟨rfl, hB⟩

set_option maxRecDepth 100000 in
set_option maxHeartbeats 2000000 in
theorem RefInt_yes (a : Nat) (w : World) (ha : a < 2 ^ 63) : Calls Try.prog 53 #[.agg (wcells a)] w fun e w' => e = .returned (.tuple #[.int .i64 (a : Nat), .bool true]) ∧ Below w.heap.size w w' := by
  have HC := Lib.hid (fun i (h : i < 32) => wcells_at a h)
  have HA := Lib.hid ha
  have HS := Lib.hid (fun k (hk : k < 8) => int_step ha hk)
  have hz : ∀ i, i < 24 → lowB a (31 - i) = 0 := fun i hi => by
    unfold lowB
    have : a < 2 ^ (8 * (31 - i)) := Nat.lt_of_lt_of_le ha (Nat.pow_le_pow_right (by decide) (by omega))
    rw [Nat.div_eq_of_lt this]
  have HZ := Lib.hid hz
  clear ha hz
  generalize wcells a = cs at *
  go_enter Try.func53, Try.ntmps53
  go_wp2_with (first
    | ((with_reducible refine gd_box ?_); refine wpList_box_agg rfl _ (.tmp 0) rfl rfl ?_; intro w1 hx1 hB hl1)
    | fail)
  go_loop [4] (fun i => ∃ k : Nat, k ≤ 24 ∧ i = .int .i64 k) (fun i => 24 - (intOf i).toNat)
  case atStart => exact ⟨0, by omega, rfl⟩
  case round =>
    obtain ⟨k, hk, rfl⟩ := hrel
    by_cases hlt : k < 24
    · have k0 : (0 : Int) ≤ (k : Int) := by omega
      have k1 : (k : Int) < 24 := by omega
      have hcell := hx1.cellv (HC.out k (by omega))
      rw [HZ.out k hlt] at hcell
      go_wp2
      go_round
      case rel => exact ⟨k + 1, by omega, by go_num⟩
      case measure => (simp [intOf]; try omega)
    · obtain rfl : k = 24 := by omega
      have hcell := hx1.cellv (HC.out 24 (by omega))
      have h7 : lowB a 7 < 128 := by
        have h := HA.out
        rw [lowB_top (n := 7) (by omega)]
        omega
      rw [show 31 - 24 = 7 from rfl] at hcell
      have hx := lowB_lt a 7
      generalize lowB a 7 = x at *
      have d1 : decide ((128 : Int) ≤ (x : Int)) = false := decide_eq_false (by omega)
      go_wp2
      clear d1 hcell
      go_loopw [5, 6] (fun v i wr => ∃ k : Nat, k ≤ 8 ∧ i = .int .i64 (24 + (k : Int)) ∧ v = .int .i64 (a / 2 ^ (8 * (8 - k)) : Nat) ∧ Blk wr w.heap.size 25 cs ∧ Below w.heap.size w wr) (fun _ i _ => 32 - (intOf i).toNat)
      case atStart => exact ⟨0, by omega, rfl, by rw [Nat.div_eq_of_lt (Nat.lt_trans HA.out (by decide))]; rfl, hx1, hB⟩
      case round =>
        clear hx1 hB
        obtain ⟨k, hk, rfl, rfl, hx1, hB⟩ := hrel
        by_cases hlt : k < 8
        · have k0 : (0 : Int) ≤ (k : Int) := by omega
          have k1 : (k : Int) < 8 := by omega
          have hcell := hx1.cellv (HC.out (24 + k) (by omega))
          rw [show 31 - (24 + k) = 7 - k from by omega] at hcell
          have h1 := (HS.out k hlt).1
          have h2 := (HS.out k hlt).2
          have hx := lowB_lt a (7 - k)
          have H1 := Lib.hid h1
          clear h1
          generalize a / 2 ^ (8 * (8 - k)) = q at *
          generalize lowB a (7 - k) = x at *
          have q0 : (q : Int) * 256 ≤ 9223372036854775807 := by omega
          go_wp2
          go_roundw
          case rel => exact ⟨k + 1, by omega, by go_num, congrArg (Value.int .i64) H1.out, hx1, hB⟩
          case measure => (simp [intOf]; try omega)
        · obtain rfl : k = 8 := by omega
          have e : a / 2 ^ (8 * (8 - 8)) = a := by rw [Nat.sub_self, Nat.mul_zero, Nat.pow_zero, Nat.div_one]
          generalize a / 2 ^ (8 * (8 - 8)) = q at *
          subst e
          go_wp2
          go_ret2
          exact ⟨rfl, hB⟩

end Go.Mun
