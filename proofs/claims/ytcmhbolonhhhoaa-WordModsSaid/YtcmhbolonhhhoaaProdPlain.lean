/- The plain law of products, limb by limb. Over no program. -/
import Derived.Test.YtcmhbolonhhhoaaTab
namespace Go.Mun
open Go Go.RowKit

theorem limb_glue {x z p : Nat} (hx : x < 2 ^ (64 * p)) (k : Nat) : limb (x + z * 2 ^ (64 * p)) k = if k < p then limb x k else limb z (k - p) := by
  have hp : 0 < (2 : Nat) ^ (64 * p) := Nat.pow_pos (by decide)
  by_cases h : k < p
  · rw [if_pos h, ← limb_low _ h, Nat.add_mul_mod_self_right, Nat.mod_eq_of_lt hx]
  · rw [if_neg h]
    obtain ⟨d, rfl⟩ : ∃ d, k = p + d := ⟨k - p, by omega⟩
    rw [show p + d - p = d from by omega]
    unfold limb
    rw [show 64 * (p + d) = 64 * p + 64 * d from by omega, Nat.pow_add, ← Nat.div_div_eq_div_mul, Nat.add_mul_div_right _ _ hp, Nat.div_eq_of_lt hx, Nat.zero_add]
/-- one limb changed -/
theorem set_limb (O p v : Nat) (hv : v < 2 ^ 64) : ∃ O', O' + limb O p * 2 ^ (64 * p) = O + v * 2 ^ (64 * p) ∧ (∀ k, limb O' k = if k = p then v else limb O k) ∧ ∀ q, p < q → O < 2 ^ (64 * q) → O' < 2 ^ (64 * q) := by
  have hp : 0 < (2 : Nat) ^ (64 * p) := Nat.pow_pos (by decide)
  have hlo : O % 2 ^ (64 * p) < 2 ^ (64 * p) := Nat.mod_lt _ hp
  obtain ⟨h, hh⟩ : ∃ h, h = O / 2 ^ (64 * p) / 2 ^ 64 := ⟨_, rfl⟩
  have hO : O = O % 2 ^ (64 * p) + (limb O p + h * 2 ^ 64) * 2 ^ (64 * p) := by
    have h1 := Nat.div_add_mod O (2 ^ (64 * p))
    have h2 := Nat.div_add_mod (O / 2 ^ (64 * p)) (2 ^ 64)
    have e : limb O p + h * 2 ^ 64 = O / 2 ^ (64 * p) := by rw [hh]; unfold limb; omega
    rw [e, Nat.mul_comm (O / _)]
    omega
  have hl := limb_lt O p
  refine ⟨O % 2 ^ (64 * p) + (v + h * 2 ^ 64) * 2 ^ (64 * p), ?_, ?_, ?_⟩
  · conv => rhs; rw [hO]
    rw [Nat.add_mul, Nat.add_mul]
    omega
  · intro k
    rw [limb_glue hlo]
    have e2 : limb O k = if k < p then limb (O % 2 ^ (64 * p)) k else limb (limb O p + h * 2 ^ 64) (k - p) := by
      conv => lhs; rw [hO]
      exact limb_glue hlo k
    rw [e2]
    have g : ∀ u, u < 2 ^ 64 → ∀ d, limb (u + h * 2 ^ 64) d = if d < 1 then limb u d else limb h (d - 1) := fun u hu d => by
      have := limb_glue (x := u) (z := h) (p := 1) (by simpa using hu) d
      rwa [show (2 : Nat) ^ (64 * 1) = 2 ^ 64 from rfl] at this
    have g0 : ∀ u, u < 2 ^ 64 → limb u 0 = u := fun u hu => by
      unfold limb
      rw [Nat.mul_zero, Nat.pow_zero, Nat.div_one]
      exact Nat.mod_eq_of_lt hu
    by_cases c : k < p
    · rw [if_pos c, if_pos c, if_neg (by omega)]
    · rw [if_neg c, if_neg c, g v hv, g _ hl]
      by_cases e : k = p
      · rw [if_pos e, if_pos (by omega), show k - p = 0 from by omega, g0 v hv]
      · rw [if_neg e, if_neg (by omega), if_neg (by omega)]
  · intro q hq hlt
    have e : (2 : Nat) ^ (64 * q) = 2 ^ (64 * (q - p)) * 2 ^ (64 * p) := by rw [← Nat.pow_add]; congr 1; omega
    have e1 : (2 : Nat) ^ (64 * (q - p)) = 2 ^ (64 * (q - p - 1)) * 2 ^ 64 := by rw [← Nat.pow_add]; congr 1; omega
    rw [e] at hlt ⊢
    have h3 : (limb O p + h * 2 ^ 64) * 2 ^ (64 * p) < 2 ^ (64 * (q - p)) * 2 ^ (64 * p) := by omega
    have h4 := Nat.lt_of_mul_lt_mul_right h3
    rw [e1] at h4
    have h5 : h < 2 ^ (64 * (q - p - 1)) := by
      refine Nat.lt_of_mul_lt_mul_right (a := 2 ^ 64) ?_
      omega
    have h6 : v + h * 2 ^ 64 + 1 ≤ 2 ^ (64 * (q - p)) := by
      rw [e1]
      have : (h + 1) * 2 ^ 64 ≤ 2 ^ (64 * (q - p - 1)) * 2 ^ 64 := Nat.mul_le_mul_right _ h5
      omega
    have h7 : (v + h * 2 ^ 64 + 1) * 2 ^ (64 * p) ≤ 2 ^ (64 * (q - p)) * 2 ^ (64 * p) := Nat.mul_le_mul_right _ h6
    rw [Nat.add_mul _ 1, Nat.one_mul] at h7
    omega
theorem carry_sum (hi lo o c : Nat) : (hi + (lo + o) / 2 ^ 64 + ((lo + o) % 2 ^ 64 + c) / 2 ^ 64) * 2 ^ 64 + ((lo + o) % 2 ^ 64 + c) % 2 ^ 64 = hi * 2 ^ 64 + lo + o + c := by omega
theorem carry_lt {hi lo o c p : Nat} (ho : o < 2 ^ 64) (hc : c < 2 ^ 64) (hp : hi * 2 ^ 64 + lo = p) (hb : p ≤ (2 ^ 64 - 1) * (2 ^ 64 - 1)) : hi + (lo + o) / 2 ^ 64 + ((lo + o) % 2 ^ 64 + c) / 2 ^ 64 < 2 ^ 64 := by omega
/-- the state of a product: what stands in the row, with what is carried -/
def MulAt (n m i j O c : Nat) : Prop := O + c * 2 ^ (64 * (i + j)) = n % 2 ^ (64 * i) * m + limb n i * (m % 2 ^ (64 * j)) * 2 ^ (64 * i) ∧ O < 2 ^ (64 * (i + 4)) ∧ c < 2 ^ 64
theorem mulAt_start {n m i : Nat} (hm : m < 2 ^ 256) : MulAt n m i 0 (n % 2 ^ (64 * i) * m) 0 := by
  refine ⟨by simp [Nat.mod_one], ?_, by decide⟩
  have hp : 0 < (2 : Nat) ^ (64 * i) := Nat.pow_pos (by decide)
  rw [show 64 * (i + 4) = 64 * i + 256 from by omega, Nat.pow_add]
  exact Nat.mul_lt_mul'' (Nat.mod_lt _ hp) hm
theorem mulAt_step {n m i j O c hi lo : Nat} (h : MulAt n m i j O c) (hj : j < 4) (hp : hi * 2 ^ 64 + lo = limb n i * limb m j) :
    ∃ O', MulAt n m i (j + 1) O' (hi + (lo + limb O (i + j)) / 2 ^ 64 + ((lo + limb O (i + j)) % 2 ^ 64 + c) / 2 ^ 64) ∧
      ∀ k, limb O' k = if k = i + j then ((lo + limb O (i + j)) % 2 ^ 64 + c) % 2 ^ 64 else limb O k := by
  obtain ⟨h1, h2, h3⟩ := h
  obtain ⟨O', e1, e2, e3⟩ := set_limb O (i + j) (((lo + limb O (i + j)) % 2 ^ 64 + c) % 2 ^ 64) (Nat.mod_lt _ (by decide))
  have hb : limb n i * limb m j ≤ (2 ^ 64 - 1) * (2 ^ 64 - 1) := Nat.mul_le_mul (by have := limb_lt n i; omega) (by have := limb_lt m j; omega)
  have ho := limb_lt O (i + j)
  refine ⟨O', ⟨?_, e3 _ (by omega) h2, carry_lt ho h3 hp hb⟩, e2⟩
  have hs : limb n i * (m % 2 ^ (64 * (j + 1))) * 2 ^ (64 * i) = limb n i * (m % 2 ^ (64 * j)) * 2 ^ (64 * i) + limb n i * (limb m j * 2 ^ (64 * j)) * 2 ^ (64 * i) := by
    rw [limb_split m, Nat.mul_add, Nat.add_mul]
  rw [hs, ← Nat.add_assoc (n % 2 ^ (64 * i) * m), ← h1]
  have e4 : limb n i * (limb m j * 2 ^ (64 * j)) * 2 ^ (64 * i) = (hi * 2 ^ 64 + lo) * 2 ^ (64 * (i + j)) := by
    rw [hp, show 64 * (i + j) = 64 * j + 64 * i from by omega, Nat.pow_add, ← Nat.mul_assoc, ← Nat.mul_assoc]
  rw [e4]
  have e5 : (2 : Nat) ^ (64 * (i + (j + 1))) = 2 ^ 64 * 2 ^ (64 * (i + j)) := by rw [← Nat.pow_add]; congr 1; omega
  rw [e5]
  generalize limb O (i + j) = o at *
  generalize (2 : Nat) ^ (64 * (i + j)) = P at *
  have e6 : (hi + (lo + o) / 2 ^ 64 + ((lo + o) % 2 ^ 64 + c) / 2 ^ 64) * 2 ^ 64 + ((lo + o) % 2 ^ 64 + c) % 2 ^ 64 = hi * 2 ^ 64 + lo + o + c := carry_sum hi lo o c
  generalize hi + (lo + o) / 2 ^ 64 + ((lo + o) % 2 ^ 64 + c) / 2 ^ 64 = t at *
  generalize ((lo + o) % 2 ^ 64 + c) % 2 ^ 64 = v at *
  have e7 := congrArg (· * P) e6
  simp only [Nat.add_mul] at e7
  rw [← Nat.mul_assoc, Nat.add_mul]
  omega
theorem mulAt_done {n m i O c : Nat} (hm : m < 2 ^ 256) (h : MulAt n m i 4 O c) : O + c * 2 ^ (64 * (i + 4)) = n % 2 ^ (64 * (i + 1)) * m ∧
    ∀ k, limb (O + c * 2 ^ (64 * (i + 4))) k = if k = i + 4 then c else limb O k := by
  obtain ⟨h1, h2, h3⟩ := h
  refine ⟨?_, fun k => limb_top h2 h3 k⟩
  rw [h1, show 64 * 4 = 256 from rfl, Nat.mod_eq_of_lt hm, limb_split, Nat.add_mul, Nat.mul_right_comm]
end Go.Mun
