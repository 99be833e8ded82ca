/- How many bits a number has. Over no program. -/
import Derived.Test.YtpliedimdhilcaaTab
import Derived.Lib.BitFns
namespace Go.Mun
open Go Go.RowKit

/-- how many bits a number has -/
def blen (n : Nat) : Nat := if n = 0 then 0 else Nat.log2 n + 1
theorem blen_lt (n : Nat) : n < 2 ^ blen n := by
  unfold blen
  by_cases h : n = 0
  · simp [h]
  · rw [if_neg h]; exact (Nat.log2_lt h).1 (Nat.lt_succ_self _)
theorem blen_le {n : Nat} (h : n ≠ 0) : 2 ^ (blen n - 1) ≤ n := by
  unfold blen
  rw [if_neg h, Nat.add_sub_cancel]
  exact Nat.log2_self_le h
theorem blen_pos {n : Nat} (h : n ≠ 0) : 0 < blen n := by unfold blen; rw [if_neg h]; omega
theorem blen_zero : blen 0 = 0 := rfl
theorem blen_of {n m : Nat} (h1 : n < 2 ^ m) (h2 : 2 ^ (m - 1) ≤ n) (hm : 0 < m) : blen n = m := by
  have hn : n ≠ 0 := fun e => by subst e; have : 0 < 2 ^ (m - 1) := Nat.pow_pos (by decide); omega
  have a := blen_lt n
  have b := blen_le hn
  have c := blen_pos hn
  rcases Nat.lt_trichotomy (blen n) m with h | h | h
  · have : 2 ^ blen n ≤ 2 ^ (m - 1) := Nat.pow_le_pow_right (by decide) (by omega)
    omega
  · exact h
  · have : 2 ^ m ≤ 2 ^ (blen n - 1) := Nat.pow_le_pow_right (by decide) (by omega)
    omega
theorem blen_le_iff {n m : Nat} : blen n ≤ m ↔ n < 2 ^ m := by
  constructor
  · intro h; exact Nat.lt_of_lt_of_le (blen_lt n) (Nat.pow_le_pow_right (by decide) h)
  · intro h
    by_cases h0 : n = 0
    · subst h0; exact Nat.zero_le _
    · have b := blen_le h0
      rcases Nat.lt_or_ge m (blen n) with c | c
      · have : 2 ^ m ≤ 2 ^ (blen n - 1) := Nat.pow_le_pow_right (by decide) (by omega)
        omega
      · exact c
theorem blen_half {n : Nat} (h : n ≠ 0) : blen n = 1 + blen (n / 2) := by
  by_cases h2 : n / 2 = 0
  · have : n = 1 := by omega
    subst this; rfl
  · have a := blen_lt (n / 2)
    have b := blen_le h2
    have c := blen_pos h2
    refine blen_of ?_ ?_ (by omega)
    · rw [Nat.pow_add]; omega
    · rw [show 1 + blen (n / 2) - 1 = (blen (n / 2) - 1) + 1 from by omega, Nat.pow_succ]; omega
theorem blen_lib : ∀ (f n : Nat), n < 2 ^ f → f ≤ 64 → Lib.bitLen n = blen n
  | 0, n, h, _ => by
    have : n = 0 := by simpa using h
    subst this; rfl
  | f + 1, n, h, hf => by
    by_cases h0 : n = 0
    · subst h0; rfl
    · have h64 : n < 2 ^ 64 := Nat.lt_of_lt_of_le h (Nat.pow_le_pow_right (by decide) hf)
      rw [Lib.bitLen_half n h0 h64, blen_half h0, blen_lib f (n / 2) (by rw [Nat.pow_succ] at h; omega) (by omega)]
theorem blen_shift {n k : Nat} (h : n / 2 ^ k ≠ 0) : blen n = k + blen (n / 2 ^ k) := by
  have a := blen_lt (n / 2 ^ k)
  have b := blen_le h
  have c := blen_pos h
  have hp : 0 < 2 ^ k := Nat.pow_pos (by decide)
  refine blen_of ?_ ?_ (by omega)
  · rw [Nat.pow_add, Nat.mul_comm]; exact (Nat.div_lt_iff_lt_mul hp).1 a
  · rw [show k + blen (n / 2 ^ k) - 1 = k + (blen (n / 2 ^ k) - 1) from by omega, Nat.pow_add, Nat.mul_comm]; exact (Nat.le_div_iff_mul_le hp).1 b
/-- the highest limb that is not 0 tells it -/
theorem blen_limb {n k : Nat} (hn : n < 2 ^ (64 * (k + 1))) (h : limb n k ≠ 0) : blen n = 64 * k + blen (limb n k) := by
  have e : limb n k = n / 2 ^ (64 * k) := by
    unfold limb
    apply Nat.mod_eq_of_lt
    rw [Nat.div_lt_iff_lt_mul (Nat.pow_pos (by decide)), ← Nat.pow_add]
    rw [show 64 + 64 * k = 64 * (k + 1) from by omega]; exact hn
  rw [e] at h ⊢
  exact blen_shift h
theorem lt_of_limb {n k : Nat} (hn : n < 2 ^ (64 * (k + 1))) (h : limb n k = 0) : n < 2 ^ (64 * k) := by
  have := limb_split n k
  rw [h, Nat.zero_mul, Nat.add_zero, Nat.mod_eq_of_lt hn] at this
  rw [this]
  exact Nat.mod_lt _ (Nat.pow_pos (by decide))
/-- -1, 0, 1 -/
def cmpN (a b : Nat) : Int := if a < b then -1 else if b < a then 1 else 0
/-- the highest limb that differs tells how two numbers stand -/
theorem cmp_limb {a b k : Nat} (h : a / 2 ^ (64 * (k + 1)) = b / 2 ^ (64 * (k + 1))) : (limb a k < limb b k → a < b) ∧ (limb a k = limb b k → a / 2 ^ (64 * k) = b / 2 ^ (64 * k)) := by
  have e : ∀ x : Nat, x / 2 ^ (64 * k) = 2 ^ 64 * (x / 2 ^ (64 * (k + 1))) + limb x k := fun x => by
    unfold limb
    rw [show 64 * (k + 1) = 64 * k + 64 from by omega, Nat.pow_add, ← Nat.div_div_eq_div_mul]
    exact (Nat.div_add_mod _ _).symm
  have ea := e a
  have eb := e b
  rw [h] at ea
  refine ⟨fun hl => ?_, fun hl => ?_⟩
  · have hlt : a / 2 ^ (64 * k) < b / 2 ^ (64 * k) := by rw [ea, eb]; exact Nat.add_lt_add_left hl _
    rcases Nat.lt_or_ge a b with c | c
    · exact c
    · exact absurd (Nat.div_le_div_right (c := 2 ^ (64 * k)) c) (by omega)
  · rw [ea, eb, hl]
end Go.Mun
