/- The walk of number.cmp. -/
import Derived.Test.YtcmhbolonhhhoaaWordOut
import Derived.Test.YtcmhbolonhhhoaaWordBitsN
import Derived.Deep.QuietTactic
import Derived.BigQuiet
import Derived.IntWalk
namespace Go.Mun
open Go Go.RowKit Go.Proofs

set_option maxRecDepth 100000 in
set_option maxHeartbeats 1000000 in
theorem cmp_any (a b : Nat) (w : World) (ha : a < 2 ^ 256) (hb : b < 2 ^ 256) : Calls Try.prog 69 #[.agg (limbsV a), .agg (limbsV b)] w fun e w' => e = .returned (.int .i64 (cmpN a b)) ∧ Below w.heap.size w w' := by
  have HA := Lib.hid (fun k (hk : k < 4) => limbsV_get a hk)
  have HB := Lib.hid (fun k (hk : k < 4) => limbsV_get b hk)
  have H4 := Lib.hid (show a / 2 ^ (64 * 4) = b / 2 ^ (64 * 4) from by rw [Nat.div_eq_of_lt ha, Nat.div_eq_of_lt hb])
  clear ha hb
  generalize limbsV a = ca at *
  generalize limbsV b = cb at *
  have tok1 : True := trivial
  go_enter Try.func69, Try.ntmps69
  go_wp2_with (first
    | ((with_reducible refine gd_box ?_); have _t := tok1; refine wpList_box_agg rfl _ (.tmp 0) rfl rfl ?_; clear tok1; intro w1 hx1 hb1 hl1)
    | ((with_reducible refine gd_box ?_); refine wpList_box_agg rfl _ (.tmp 1) rfl rfl ?_; intro w2 hx2 hb2 hl2)
    | fail)
  have hx1' := hx1.ext hb2
  have hB := below_step hb1 hb2
  go_loopw [5] (fun i wr => ∃ m : Nat, m ≤ 4 ∧ i = .int .i64 ((m : Int) - 1) ∧ Hid (a / 2 ^ (64 * m) = b / 2 ^ (64 * m)) ∧ Blk wr w.heap.size 39 ca ∧ Blk wr w1.heap.size 39 cb ∧ Below w.heap.size w wr) (fun i _ => (intOf i + 1).toNat)
  case atStart => exact ⟨4, by omega, rfl, H4, hx1', hx2, hB⟩
  case round =>
    obtain ⟨m, hm, hi, HM, hy1, hy2, hBr⟩ := hrel
    rcases m with _ | q
    · subst hi
      obtain rfl : a = b := by have := HM.out; simpa using this
      go_wp2
      go_ret
      exact ⟨ret_i (by simp [cmpN]), hBr⟩
    · obtain rfl : _ = Value.int .i64 (q : Int) := hi.trans (congrArg (Value.int .i64) (by omega))
      clear hi
      have hq : q < 4 := by omega
      have hcA := hy1.cellv (i := q) (HA.out q hq)
      have hcB := hy2.cellv (i := q) (HB.out q hq)
      have HL := Lib.hid (cmp_limb HM.out)
      have HL' := Lib.hid (cmp_limb HM.out.symm)
      have b1 : (q : Int) < 4 := by omega
      have b0 : (0 : Int) ≤ (q : Int) := by omega
      generalize limb a q = x at *
      generalize limb b q = y at *
      rcases Nat.lt_trichotomy x y with c | c | c
      · have d1 : decide (x < y) = true := decide_eq_true (by omega)
        have HR := Lib.hid (HL.out.1 c)
        clear c
        go_wp2
        go_quiet (fail)
        go_wp2
        go_ret
        exact ⟨ret_i (by unfold cmpN; rw [if_pos HR.out]), below_drewN hBr _⟩
      · have d1 : decide (x < y) = false := decide_eq_false (by omega)
        have d2 : decide (y < x) = false := decide_eq_false (by omega)
        have HR := Lib.hid (HL.out.2 c)
        clear c
        go_wp2
        go_quiet (fail)
        go_wp2
        go_quiet (fail)
        go_wp2
        go_roundw
        case rel => exact ⟨q, by omega, rfl, HR, hy1, hy2, below_drewN hBr _⟩
        case measure => (simp [intOf]; try omega)
      · have d1 : decide (x < y) = false := decide_eq_false (by omega)
        have d2 : decide (y < x) = true := decide_eq_true (by omega)
        have HR := Lib.hid (HL'.out.1 c)
        clear c
        go_wp2
        go_quiet (fail)
        go_wp2
        go_quiet (fail)
        go_wp2
        go_ret
        exact ⟨ret_i (by unfold cmpN; have := HR.out; rw [if_neg (by omega), if_pos HR.out]), below_drewN (below_drewN hBr _) _⟩
end Go.Mun
