/- The plain law of words: bytes, limbs. Over no program. -/
import Derived.Test.YtpliedimdhilcaaBits
import Derived.Test.YtpliedimdhilcaaBlk
namespace Go.Mun
open Go Go.RowKit

/-- the k-th limb of 64 bits, the lowest first -/
def limb (n k : Nat) : Nat := n / 2 ^ (64 * k) % 2 ^ 64
/-- the k-th byte, the lowest first -/
def lowB (n k : Nat) : Nat := n / 2 ^ (8 * k) % 256
/-- a word's bytes, the highest first -/
def wbytes (n : Nat) : List UInt8 := (List.range 32).map fun i => UInt8.ofNat (lowB n (31 - i))
theorem wbytes_length (n : Nat) : (wbytes n).length = 32 := by simp [wbytes]
theorem wbytes_get (n : Nat) {i : Nat} (h : i < 32) : (wbytes n)[i]? = some (UInt8.ofNat (lowB n (31 - i))) := by
  simp [wbytes, h]
/-- a number's four limbs -/
def limbsV (n : Nat) : Array Value := #[.int .u64 (limb n 0 : Nat), .int .u64 (limb n 1 : Nat), .int .u64 (limb n 2 : Nat), .int .u64 (limb n 3 : Nat)]
/-- n without its lowest k bytes -/
def hiN (n k : Nat) : Nat := n / 2 ^ (8 * k) * 2 ^ (8 * k)
theorem hiN_zero (n : Nat) : hiN n 0 = n := by simp [hiN]
theorem hiN_step (n k : Nat) : hiN n k = hiN n (k + 1) + lowB n k * 2 ^ (8 * k) := by
  unfold hiN lowB
  have e : 2 ^ (8 * (k + 1)) = 2 ^ (8 * k) * 256 := by rw [show 8 * (k + 1) = 8 * k + 8 from by omega, Nat.pow_add]
  rw [e, ← Nat.div_div_eq_div_mul]
  generalize n / 2 ^ (8 * k) = m
  generalize 2 ^ (8 * k) = p
  have h := Nat.div_add_mod m 256
  calc m * p = (256 * (m / 256) + m % 256) * p := by rw [h]
    _ = m / 256 * (p * 256) + m % 256 * p := by rw [Nat.add_mul]; congr 1; rw [Nat.mul_comm 256, Nat.mul_assoc, Nat.mul_comm 256]
theorem limb_lt (n k : Nat) : limb n k < 2 ^ 64 := Nat.mod_lt _ (by decide)
theorem lowB_lt (n k : Nat) : lowB n k < 256 := Nat.mod_lt _ (by decide)
/-- what one more byte makes of the limbs -/
theorem limb_step (n k j : Nat) : limb (hiN n k) j = if j = k / 8 then limb (hiN n (k + 1)) j ||| lowB n k * 2 ^ (8 * (k % 8)) else limb (hiN n (k + 1)) j := by
  have hk : 8 * k = 64 * (k / 8) + 8 * (k % 8) := by omega
  have hr : k % 8 < 8 := Nat.mod_lt _ (by decide)
  rw [hiN_step]
  have hd : ∃ a, hiN n (k + 1) = a * 2 ^ (8 * k + 8) := ⟨_, rfl⟩
  obtain ⟨a, ha⟩ := hd
  rw [ha]
  have hb := lowB_lt n k
  generalize lowB n k = b at *
  unfold limb
  have hsum : a * 2 ^ (8 * k + 8) + b * 2 ^ (8 * k) = (a * 256 + b) * 2 ^ (8 * k) := by
    rw [Nat.pow_add, show (2 : Nat) ^ 8 = 256 from rfl, Nat.add_mul, ← Nat.mul_assoc, Nat.mul_comm (a * 2 ^ (8 * k)) 256, ← Nat.mul_assoc, Nat.mul_comm 256 a]
  have ha2 : a * 2 ^ (8 * k + 8) = (a * 256) * 2 ^ (8 * k) := by
    rw [Nat.pow_add, show (2 : Nat) ^ 8 = 256 from rfl, ← Nat.mul_assoc, Nat.mul_right_comm]
  rw [hsum, ha2]
  by_cases hj : j = k / 8
  · rw [if_pos hj, hj, hk, Nat.pow_add]
    have hp : 0 < 2 ^ (64 * (k / 8)) := Nat.pow_pos (by decide)
    generalize 2 ^ (64 * (k / 8)) = p at *
    obtain ⟨r, hr'⟩ : ∃ r, r = k % 8 := ⟨_, rfl⟩
    rw [← hr'] at hr ⊢
    have e1 : ∀ x, x * (p * 2 ^ (8 * r)) / p = x * 2 ^ (8 * r) := fun x => by rw [← Nat.mul_assoc, Nat.mul_right_comm, Nat.mul_div_cancel _ hp]
    rw [e1, e1]
    have e8 : a * 256 * 2 ^ (8 * r) = a * 2 ^ (8 * r + 8) := by rw [Nat.pow_add, show (2 : Nat) ^ 8 = 256 from rfl, Nat.mul_assoc, Nat.mul_comm 256]
    have h64 : (2 : Nat) ^ 64 = 2 ^ (56 - 8 * r) * 2 ^ (8 * r + 8) := by rw [← Nat.pow_add]; congr 1; omega
    have hm : a * 2 ^ (8 * r + 8) % 2 ^ 64 = a % 2 ^ (56 - 8 * r) * 2 ^ (8 * r + 8) := by rw [h64, Nat.mul_mod_mul_right]
    have hc : a % 2 ^ (56 - 8 * r) < 2 ^ (56 - 8 * r) := Nat.mod_lt _ (Nat.pow_pos (by decide))
    have hb2 : b * 2 ^ (8 * r) < 2 ^ (8 * r + 8) := by
      rw [Nat.pow_add, Nat.mul_comm (2 ^ (8 * r))]
      exact Nat.mul_lt_mul_of_pos_right hb (Nat.pow_pos (by decide))
    have hlt : a % 2 ^ (56 - 8 * r) * 2 ^ (8 * r + 8) + b * 2 ^ (8 * r) < 2 ^ 64 := by
      have h1 : (a % 2 ^ (56 - 8 * r) + 1) * 2 ^ (8 * r + 8) ≤ 2 ^ (56 - 8 * r) * 2 ^ (8 * r + 8) := Nat.mul_le_mul_right _ hc
      rw [Nat.add_mul, Nat.one_mul, ← h64] at h1
      exact Nat.lt_of_lt_of_le (Nat.add_lt_add_left hb2 _) h1
    rw [Nat.add_mul, e8, Nat.add_mod, hm, Nat.mod_eq_of_lt (a := b * 2 ^ (8 * r)) (Nat.lt_of_lt_of_le hb2 (Nat.pow_le_pow_right (by decide) (by omega))), Nat.mod_eq_of_lt hlt, or_side _ _ _ hb2]
  · rw [if_neg hj]
    rcases Nat.lt_or_gt_of_ne hj with h | h
    · have e : ∀ x, x * 2 ^ (8 * k) / 2 ^ (64 * j) % 2 ^ 64 = 0 := fun x => by
        have h1 : (2 : Nat) ^ (8 * k) = 2 ^ (8 * k - 64 * j - 64) * 2 ^ 64 * 2 ^ (64 * j) := by rw [← Nat.pow_add, ← Nat.pow_add]; congr 1; omega
        rw [h1, ← Nat.mul_assoc, Nat.mul_div_cancel _ (Nat.pow_pos (by decide)), ← Nat.mul_assoc, Nat.mul_mod_left]
      rw [e, e]
    · have e : ∀ x, x * 2 ^ (8 * k) / 2 ^ (64 * j) = x / 256 / 2 ^ (64 * j - 8 * k - 8) := fun x => by
        have h1 : (2 : Nat) ^ (64 * j) = 256 * 2 ^ (64 * j - 8 * k - 8) * 2 ^ (8 * k) := by
          rw [show (256 : Nat) = 2 ^ 8 from rfl, ← Nat.pow_add, ← Nat.pow_add]; congr 1; omega
        rw [h1, Nat.mul_div_mul_right _ _ (Nat.pow_pos (by decide)), Nat.div_div_eq_div_mul]
      rw [e, e]
      have e2 : (a * 256 + b) / 256 = a * 256 / 256 := by omega
      rw [e2]
theorem limb_or (n k : Nat) : bits .or .u64 ((limb (hiN n (k + 1)) (k / 8) : Nat) : Int) (IntKind.u64.wrap (IntKind.u64.wrap ((lowB n k : Nat) : Int) * 2 ^ (8 * (k % 8)))) = ((limb (hiN n k) (k / 8) : Nat) : Int) := by
  have hb := lowB_lt n k
  have hl := limb_lt (hiN n (k + 1)) (k / 8)
  have hp : (2 : Nat) ^ (8 * (k % 8)) ≤ 2 ^ 56 := Nat.pow_le_pow_right (by decide) (by omega)
  have hlt : lowB n k * 2 ^ (8 * (k % 8)) < 2 ^ 64 := by
    have h1 : lowB n k * 2 ^ (8 * (k % 8)) ≤ 255 * 2 ^ 56 := Nat.mul_le_mul (by omega) hp
    exact Nat.lt_of_le_of_lt h1 (by decide)
  have e1 : IntKind.u64.wrap ((lowB n k : Nat) : Int) = ((lowB n k : Nat) : Int) := by
    show ((lowB n k : Nat) : Int) % 18446744073709551616 = _
    omega
  have e2 : ((lowB n k : Nat) : Int) * 2 ^ (8 * (k % 8)) = ((lowB n k * 2 ^ (8 * (k % 8)) : Nat) : Int) := by push_cast; rfl
  have e3 : IntKind.u64.wrap ((lowB n k * 2 ^ (8 * (k % 8)) : Nat) : Int) = ((lowB n k * 2 ^ (8 * (k % 8)) : Nat) : Int) := by
    show ((lowB n k * 2 ^ (8 * (k % 8)) : Nat) : Int) % 18446744073709551616 = _
    omega
  rw [e1, e2, e3, u64_or_nat _ _ (by omega) (by omega), limb_step n k (k / 8), if_pos rfl]
theorem limbs_step (n k : Nat) (hk : k < 32) : (limbsV (hiN n (k + 1))).setIfInBounds (k / 8) (.int .u64 (limb (hiN n k) (k / 8) : Nat)) = limbsV (hiN n k) := by
  have h : ∀ j, j ≠ k / 8 → limb (hiN n k) j = limb (hiN n (k + 1)) j := fun j hj => by rw [limb_step n k j, if_neg hj]
  have h4 : k / 8 = 0 ∨ k / 8 = 1 ∨ k / 8 = 2 ∨ k / 8 = 3 := by omega
  rcases h4 with e | e | e | e <;> rw [e] at h ⊢ <;> simp [limbsV, h]
/-- a byte out of its limb -/
theorem limb_byte (n j : Nat) : limb n (j / 8) / 2 ^ (8 * (j % 8)) % 256 = lowB n j := by
  unfold limb lowB
  have hr : j % 8 < 8 := Nat.mod_lt _ (by decide)
  rw [show 8 * j = 64 * (j / 8) + 8 * (j % 8) from by omega, Nat.pow_add, ← Nat.div_div_eq_div_mul]
  generalize n / 2 ^ (64 * (j / 8)) = m
  generalize j % 8 = r at *
  have h64 : (2 : Nat) ^ 64 = 2 ^ (8 * r) * (2 ^ (56 - 8 * r) * 256) := by
    rw [show (256 : Nat) = 2 ^ 8 from rfl, ← Nat.pow_add, ← Nat.pow_add]; congr 1; omega
  have hm := Nat.div_add_mod m (2 ^ 64)
  have e : m / 2 ^ (8 * r) = m % 2 ^ 64 / 2 ^ (8 * r) + 2 ^ (56 - 8 * r) * 256 * (m / 2 ^ 64) := by
    conv => lhs; rw [← hm]
    rw [h64, Nat.mul_assoc, Nat.add_comm, Nat.add_mul_div_left _ _ (Nat.pow_pos (by decide))]
  rw [e, Nat.mul_right_comm, Nat.add_mul_mod_self_right]
end Go.Mun
