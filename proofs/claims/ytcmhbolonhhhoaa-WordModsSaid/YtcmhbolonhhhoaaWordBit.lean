/- The walk of word.bit. -/
import Derived.Test.YtcmhbolonhhhoaaWordShl
namespace Go.Mun
open Go Go.RowKit Go.Proofs

theorem u64_and_one (x : Nat) (hx : x < 2 ^ 64) : bits .and .u64 (x : Int) 1 = ((x % 2 : Nat) : Int) := by
  have := u64_and_nat x 1 hx (by decide)
  rw [Nat.and_one_is_mod] at this
  exact this
set_option maxRecDepth 100000 in
set_option maxHeartbeats 1000000 in
theorem bit_any (ad : Addr) (L c k x : Nat) (w : World) (hk : k < 2 ^ 62) (hL : k / 64 < L) (hcell : w.cell? (ad.add (k / 64)) = some (.int .u64 x)) (hx : x < 2 ^ 64) :
    Calls Try.prog 73 #[.slice (some ad) L c, .int .i64 (k : Int)] w fun e w' => e = .returned (.int .u64 (x / 2 ^ (k % 64) % 2 : Nat)) ∧ w = w' := by
  have hj : k / 64 = k / 64 := rfl
  have q1 : (k : Int) / 64 = ((k / 64 : Nat) : Int) := by omega
  have q2 : (k : Int) % 64 = ((k % 64 : Nat) : Int) := by omega
  have hr : k % 64 < 64 := by omega
  generalize k / 64 = j at *
  generalize k % 64 = r at *
  have HA := Lib.hid (show bits .and .u64 ((x : Int) / 2 ^ r) 1 = ((x / 2 ^ r % 2 : Nat) : Int) from by
    have e : (x : Int) / 2 ^ r = ((x / 2 ^ r : Nat) : Int) := by rw [Int.natCast_ediv, Int.natCast_pow]; rfl
    rw [e]
    exact u64_and_one _ (Nat.lt_of_le_of_lt (Nat.div_le_self _ _) hx))
  have b1 : (0 : Int) ≤ (r : Int) := by omega
  have b2 : (r : Int) < 64 := by omega
  have b3 : (0 : Int) ≤ (j : Int) := by omega
  have b4 : (j : Int) < (L : Int) := by omega
  have b5 : (0 : Int) ≤ (k : Int) := by omega
  have b6 : (k : Int) < 2 ^ 62 := by omega
  clear hj hk hx
  go_enter Try.func73, Try.ntmps73
  go_wp2
  go_ret
  refine ⟨?_, rfl⟩
  show Ending.returned (.int .u64 (bits BinOp.and IntKind.u64 ((x : Int) / 2 ^ r) 1)) = _
  rw [HA.out]
end Go.Mun
