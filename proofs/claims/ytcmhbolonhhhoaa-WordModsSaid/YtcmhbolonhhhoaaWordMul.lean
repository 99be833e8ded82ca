/- The walk of math/bits.Mul64 and of word.product. -/
import Derived.Test.YtcmhbolonhhhoaaWordDiv
namespace Go.Mun
open Go Go.RowKit Go.Proofs

theorem u64_and_mask (x : Nat) (hx : x < 2 ^ 64) : bits .and .u64 (x : Int) 4294967295 = ((x % 2 ^ 32 : Nat) : Int) := by
  have := u64_and_nat x 4294967295 hx (by decide)
  rw [show (4294967295 : Nat) = 2 ^ 32 - 1 from by decide, Nat.and_two_pow_sub_one_eq_mod] at this
  exact this

theorem uw (n : Nat) (h : n < 2 ^ 64) : IntKind.u64.wrap (n : Int) = n := by
  show (n : Int) % 18446744073709551616 = _
  omega
theorem mul_lt_32 {a b : Nat} (ha : a < 2 ^ 32) (hb : b < 2 ^ 32) : a * b ≤ (2 ^ 32 - 1) * (2 ^ 32 - 1) := Nat.mul_le_mul (by omega) (by omega)
theorem mul64_hi (x y : Nat) (hx : x < 2 ^ 64) (hy : y < 2 ^ 64) :
    IntKind.u64.wrap (IntKind.u64.wrap (IntKind.u64.wrap ((x : Int) / 4294967296 * ((y : Int) / 4294967296)) +
        IntKind.u64.wrap (IntKind.u64.wrap ((x : Int) / 4294967296 * bits BinOp.and IntKind.u64 (y : Int) 4294967295) + IntKind.u64.wrap (bits BinOp.and IntKind.u64 (x : Int) 4294967295 * bits BinOp.and IntKind.u64 (y : Int) 4294967295) / 4294967296) / 4294967296) +
      IntKind.u64.wrap (bits BinOp.and IntKind.u64 (IntKind.u64.wrap (IntKind.u64.wrap ((x : Int) / 4294967296 * bits BinOp.and IntKind.u64 (y : Int) 4294967295) + IntKind.u64.wrap (bits BinOp.and IntKind.u64 (x : Int) 4294967295 * bits BinOp.and IntKind.u64 (y : Int) 4294967295) / 4294967296)) 4294967295 +
        IntKind.u64.wrap (bits BinOp.and IntKind.u64 (x : Int) 4294967295 * ((y : Int) / 4294967296))) / 4294967296) = ((x * y / 2 ^ 64 : Nat) : Int) := by
  rw [u64_and_mask x hx, u64_and_mask y hy]
  have ex : (x : Int) / 4294967296 = ((x / 2 ^ 32 : Nat) : Int) := by omega
  have ey : (y : Int) / 4294967296 = ((y / 2 ^ 32 : Nat) : Int) := by omega
  rw [ex, ey]
  have hX := Nat.div_add_mod x (2 ^ 32)
  have hY := Nat.div_add_mod y (2 ^ 32)
  have a1 : x / 2 ^ 32 < 2 ^ 32 := by omega
  have a0 : x % 2 ^ 32 < 2 ^ 32 := Nat.mod_lt _ (by decide)
  have b1 : y / 2 ^ 32 < 2 ^ 32 := by omega
  have b0 : y % 2 ^ 32 < 2 ^ 32 := Nat.mod_lt _ (by decide)
  clear ex ey
  generalize x / 2 ^ 32 = x1 at *
  generalize x % 2 ^ 32 = x0 at *
  generalize y / 2 ^ 32 = y1 at *
  generalize y % 2 ^ 32 = y0 at *
  have h00 := mul_lt_32 a0 b0
  have h10 := mul_lt_32 a1 b0
  have h01 := mul_lt_32 a0 b1
  have h11 := mul_lt_32 a1 b1
  have hxy : x * y = 2 ^ 64 * (x1 * y1) + 2 ^ 32 * (x1 * y0) + 2 ^ 32 * (x0 * y1) + x0 * y0 := by
    rw [← hX, ← hY, Nat.add_mul, Nat.mul_add, Nat.mul_add, show (2 : Nat) ^ 64 = 2 ^ 32 * 2 ^ 32 from by decide]
    rw [Nat.mul_mul_mul_comm, Nat.mul_assoc (2 ^ 32) x1 y0, Nat.mul_left_comm x0 (2 ^ 32) y1]
    omega
  rw [← Int.natCast_mul, ← Int.natCast_mul, ← Int.natCast_mul, ← Int.natCast_mul, hxy]
  clear hX hY hxy
  generalize x0 * y0 = p00 at *
  generalize x1 * y0 = p10 at *
  generalize x0 * y1 = p01 at *
  generalize x1 * y1 = p11 at *
  rw [uw p00 (by omega), uw p10 (by omega), uw p01 (by omega), uw p11 (by omega)]
  have e1 : (p10 : Int) + (p00 : Int) / 4294967296 = ((p10 + p00 / 2 ^ 32 : Nat) : Int) := by omega
  rw [e1, uw _ (by omega)]
  have ht : p10 + p00 / 2 ^ 32 < 2 ^ 64 := by omega
  obtain ⟨t, htt⟩ : ∃ t, t = p10 + p00 / 2 ^ 32 := ⟨_, rfl⟩
  rw [← htt] at ht ⊢
  rw [u64_and_mask t ht]
  have e2 : ((t % 2 ^ 32 : Nat) : Int) + (p01 : Int) = ((t % 2 ^ 32 + p01 : Nat) : Int) := by omega
  rw [e2, uw _ (by omega)]
  have e3 : (p11 : Int) + (t : Int) / 4294967296 = ((p11 + t / 2 ^ 32 : Nat) : Int) := by omega
  rw [e3, uw _ (by omega)]
  have e4 : ((p11 + t / 2 ^ 32 : Nat) : Int) + ((t % 2 ^ 32 + p01 : Nat) : Int) / 4294967296 = ((p11 + t / 2 ^ 32 + (t % 2 ^ 32 + p01) / 2 ^ 32 : Nat) : Int) := by omega
  rw [e4, uw _ (by omega)]
  omega
theorem mul64_lo (x y : Nat) : IntKind.u64.wrap ((x : Int) * (y : Int)) = ((x * y % 2 ^ 64 : Nat) : Int) := by
  rw [← Int.natCast_mul]
  generalize x * y = p
  show (p : Int) % 18446744073709551616 = _
  omega

set_option maxRecDepth 100000 in
set_option maxHeartbeats 1000000 in
theorem mul64_any (x y : Nat) (w : World) (hx : x < 2 ^ 64) (hy : y < 2 ^ 64) : Calls Try.prog 77 #[.int .u64 (x : Nat), .int .u64 (y : Nat)] w fun e w' => e = .returned (.tuple #[.int .u64 (x * y / 2 ^ 64 : Nat), .int .u64 (x * y % 2 ^ 64 : Nat)]) ∧ w' = w := by
  go_enter Try.func77, Try.ntmps77
  go_wp2
  go_ret2
  refine ⟨?_, rfl⟩
  refine congrArg Ending.returned (congrArg Value.tuple ?_)
  have h1 := mul64_hi x y hx hy
  have h2 := mul64_lo x y
  rw [← h1, ← h2]
  rfl
end Go.Mun
