/- The walks of number.bits, cmp. -/
import Derived.Test.YtcmhbolonhhhoaaWordOut
import Derived.Test.YtcmhbolonhhhoaaBitLen
import Derived.Test.YtcmhbolonhhhoaaLen64
import Derived.Deep.QuietTactic
import Derived.BigQuiet
import Derived.IntWalk
namespace Go.Mun
open Go Go.RowKit Go.Proofs

theorem len64_any (x : Nat) (w : World) (h : x < 2 ^ 64) : Calls Try.prog 81 #[.int .u64 x] w fun e w' => e = .returned (.int .i64 (blen x : Nat)) ∧ w' = w := by
  have := len64_lib (x : Int) w (by omega) (by omega)
  rw [Int.toNat_natCast, blen_lib 64 x h (Nat.le_refl _)] at this
  exact this

set_option maxRecDepth 100000 in
set_option maxHeartbeats 1000000 in
theorem bits_any (n : Nat) (w : World) (hn : n < 2 ^ 256) : Calls Try.prog 72 #[.agg (limbsV n)] w fun e w' => e = .returned (.int .i64 (blen n : Nat)) ∧ Below w.heap.size w w' := by
  have HL := Lib.hid (fun k (hk : k < 4) => limbsV_get n hk)
  have HN := Lib.hid hn
  clear hn
  generalize limbsV n = cs at *
  go_enter Try.func72, Try.ntmps72
  go_wp2_with (first
    | ((with_reducible refine gd_box ?_); refine wpList_box_agg rfl _ (.tmp 0) rfl rfl ?_; intro w1 hx1 hB hl1)
    | fail)
  go_loop [3] (fun i => ∃ m : Nat, m ≤ 4 ∧ i = .int .i64 ((m : Int) - 1) ∧ Hid (n < 2 ^ (64 * m))) (fun i => (intOf i + 1).toNat)
  case atStart => exact ⟨4, by omega, rfl, Lib.hid HN.out⟩
  case round =>
    obtain ⟨m, hm, hi, HM⟩ := hrel
    rcases m with _ | q
    · subst hi
      obtain rfl : n = 0 := by have := HM.out; simp at this; omega
      go_wp2
      go_ret
      exact ⟨rfl, hB⟩
    · obtain rfl : _ = Value.int .i64 (q : Int) := hi.trans (congrArg (Value.int .i64) (by omega))
      clear hi
      have hcell := hx1.cellv (i := q) (HL.out q (by omega))
      have hq : q < 4 := by omega
      have b1 : (q : Int) < 4 := by omega
      by_cases c : limb n q = 0
      · have HC := Lib.hid c
        rw [c] at hcell
        clear c
        go_wp2_with fail
        go_round
        case rel => exact ⟨q, by omega, rfl, Lib.hid (lt_of_limb HM.out HC.out)⟩
        case measure => (simp [intOf]; try omega)
      · have HC := Lib.hid (blen_limb HM.out c)
        have hl := limb_lt n q
        have hb := (blen_le_iff (n := limb n q) (m := 64)).2 hl
        have hne : ((limb n q : Nat) : Int) ≠ 0 := by omega
        generalize limb n q = l at *
        have d1 : ((l : Int) != 0) = true := by simpa using c
        go_wp2_with (first
          | (go_at_call 81; refine (len64_any _ _ hl).mono ?_; rintro e w' ⟨rfl, rfl⟩)
          | fail)
        go_ret
        refine ⟨ret_i ?_, hB⟩
        rw [HC.out]
        push_cast
        omega

set_option maxRecDepth 100000 in
set_option maxHeartbeats 1000000 in
theorem cmp_any (a b : Nat) (w : World) (ha : a < 2 ^ 256) (hb : b < 2 ^ 256) : Calls Try.prog 69 #[.agg (limbsV a), .agg (limbsV b)] w fun e w' => e = .returned (.int .i64 (cmpN a b)) ∧ Below w.heap.size w w' := by
  have HA := Lib.hid (fun k (hk : k < 4) => limbsV_get a hk)
  have HB := Lib.hid (fun k (hk : k < 4) => limbsV_get b hk)
  have H4 := Lib.hid (show a / 2 ^ (64 * 4) = b / 2 ^ (64 * 4) from by rw [Nat.div_eq_of_lt ha, Nat.div_eq_of_lt hb])
  clear ha hb
  generalize limbsV a = ca at *
  generalize limbsV b = cb at *
  have tok1 : True := trivial
  go_enter Try.func69, Try.ntmps69
  go_wp2_with (first
    | ((with_reducible refine gd_box ?_); have _t := tok1; refine wpList_box_agg rfl _ (.tmp 0) rfl rfl ?_; clear tok1; intro w1 hx1 hb1 hl1)
    | ((with_reducible refine gd_box ?_); refine wpList_box_agg rfl _ (.tmp 1) rfl rfl ?_; intro w2 hx2 hb2 hl2)
    | fail)
  have hx1' := hx1.ext hb2
  have hB := below_step hb1 hb2
  go_loopw [5] (fun i wr => ∃ m : Nat, m ≤ 4 ∧ i = .int .i64 ((m : Int) - 1) ∧ Hid (a / 2 ^ (64 * m) = b / 2 ^ (64 * m)) ∧ Blk wr w.heap.size 39 ca ∧ Blk wr w1.heap.size 39 cb ∧ Below w.heap.size w wr) (fun i _ => (intOf i + 1).toNat)
  case atStart => exact ⟨4, by omega, rfl, H4, hx1', hx2, hB⟩
  case round =>
    obtain ⟨m, hm, hi, HM, hy1, hy2, hBr⟩ := hrel
    rcases m with _ | q
    · subst hi
      obtain rfl : a = b := by have := HM.out; simpa using this
      go_wp2
      go_ret
      exact ⟨ret_i (by simp [cmpN]), hBr⟩
    · obtain rfl : _ = Value.int .i64 (q : Int) := hi.trans (congrArg (Value.int .i64) (by omega))
      clear hi
      have hq : q < 4 := by omega
      have hcA := hy1.cellv (i := q) (HA.out q hq)
      have hcB := hy2.cellv (i := q) (HB.out q hq)
      have HL := Lib.hid (cmp_limb HM.out)
      have HL' := Lib.hid (cmp_limb HM.out.symm)
      have b1 : (q : Int) < 4 := by omega
      have b0 : (0 : Int) ≤ (q : Int) := by omega
      generalize limb a q = x at *
      generalize limb b q = y at *
      rcases Nat.lt_trichotomy x y with c | c | c
      · have d1 : decide (x < y) = true := decide_eq_true (by omega)
        have HR := Lib.hid (HL.out.1 c)
        clear c
        go_wp2
        go_quiet (fail)
        go_wp2
        go_ret
        exact ⟨ret_i (by unfold cmpN; rw [if_pos HR.out]), below_drewN hBr _⟩
      · have d1 : decide (x < y) = false := decide_eq_false (by omega)
        have d2 : decide (y < x) = false := decide_eq_false (by omega)
        have HR := Lib.hid (HL.out.2 c)
        clear c
        go_wp2
        go_quiet (fail)
        go_wp2
        go_quiet (fail)
        go_wp2
        go_roundw
        case rel => exact ⟨q, by omega, rfl, HR, hy1, hy2, below_drewN hBr _⟩
        case measure => (simp [intOf]; try omega)
      · have d1 : decide (x < y) = false := decide_eq_false (by omega)
        have d2 : decide (y < x) = true := decide_eq_true (by omega)
        have HR := Lib.hid (HL'.out.1 c)
        clear c
        go_wp2
        go_quiet (fail)
        go_wp2
        go_quiet (fail)
        go_wp2
        go_ret
        exact ⟨ret_i (by unfold cmpN; have := HR.out; rw [if_neg (by omega), if_pos HR.out]), below_drewN (below_drewN hBr _) _⟩
end Go.Mun
