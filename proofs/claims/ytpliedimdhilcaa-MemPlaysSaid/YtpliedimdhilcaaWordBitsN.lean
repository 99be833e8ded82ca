/- The walk of number.bits. -/
import Derived.Test.YtpliedimdhilcaaWordFrom
import Derived.Test.YtpliedimdhilcaaBitLen
import Derived.Test.YtpliedimdhilcaaLen64
import Derived.Deep.QuietTactic
import Derived.BigQuiet
import Derived.IntWalk
namespace Go.Mun
open Go Go.RowKit Go.Proofs

theorem len64_any (x : Nat) (w : World) (h : x < 2 ^ 64) : Calls Try.prog 55 #[.int .u64 x] w fun e w' => e = .returned (.int .i64 (blen x : Nat)) ∧ w' = w := by
  have := len64_lib (x : Int) w (by omega) (by omega)
  rw [Int.toNat_natCast, blen_lib 64 x h (Nat.le_refl _)] at this
  exact this

set_option maxRecDepth 100000 in
set_option maxHeartbeats 1000000 in
theorem bits_any (n : Nat) (w : World) (hn : n < 2 ^ 256) : Calls Try.prog 52 #[.agg (limbsV n)] w fun e w' => e = .returned (.int .i64 (blen n : Nat)) ∧ Below w.heap.size w w' := by
  have HL := Lib.hid (fun k (hk : k < 4) => limbsV_get n hk)
  have HN := Lib.hid hn
  clear hn
  generalize limbsV n = cs at *
  go_enter Try.func52, Try.ntmps52
  go_wp2_with (first
    | ((with_reducible refine gd_box ?_); refine wpList_box_agg rfl _ (.tmp 0) rfl rfl ?_; intro w1 hx1 hB hl1)
    | fail)
  go_loop [3] (fun i => ∃ m : Nat, m ≤ 4 ∧ i = .int .i64 ((m : Int) - 1) ∧ Hid (n < 2 ^ (64 * m))) (fun i => (intOf i + 1).toNat)
  case atStart => exact ⟨4, by omega, rfl, Lib.hid HN.out⟩
  case round =>
    obtain ⟨m, hm, hi, HM⟩ := hrel
    rcases m with _ | q
    · subst hi
      obtain rfl : n = 0 := by have := HM.out; simp at this; omega
      go_wp2
      go_ret
      exact ⟨rfl, hB⟩
    · obtain rfl : _ = Value.int .i64 (q : Int) := hi.trans (congrArg (Value.int .i64) (by omega))
      clear hi
      have hcell := hx1.cellv (i := q) (HL.out q (by omega))
      have hq : q < 4 := by omega
      have b1 : (q : Int) < 4 := by omega
      by_cases c : limb n q = 0
      · have HC := Lib.hid c
        rw [c] at hcell
        clear c
        go_wp2_with fail
        go_round
        case rel => exact ⟨q, by omega, rfl, Lib.hid (lt_of_limb HM.out HC.out)⟩
        case measure => (simp [intOf]; try omega)
      · have HC := Lib.hid (blen_limb HM.out c)
        have hl := limb_lt n q
        have hb := (blen_le_iff (n := limb n q) (m := 64)).2 hl
        have hne : ((limb n q : Nat) : Int) ≠ 0 := by omega
        generalize limb n q = l at *
        have d1 : ((l : Int) != 0) = true := by simpa using c
        go_wp2_with (first
          | (go_at_call 55; refine (len64_any _ _ hl).mono ?_; rintro e w' ⟨rfl, rfl⟩)
          | fail)
        go_ret
        refine ⟨ret_i ?_, hB⟩
        rw [HC.out]
        push_cast
        omega

end Go.Mun
