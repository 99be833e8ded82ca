/- The plain laws of sums, products and bits modulo 2^256. Over no program. -/
import Derived.Test.YtcmhbolonhhhoaaWordEach
import Derived.Test.YtcmhbolonhhhoaaWordOf
namespace Go.Mun
open Go Go.RowKit

theorem and_add_or' : ∀ (n a b : Nat), a < 2 ^ n → b < 2 ^ n → (a &&& b) + (a ||| b) = a + b
  | 0, a, b, ha, hb => by
    have : a = 0 := by simpa using ha
    have : b = 0 := by simpa using hb
    subst a b; rfl
  | n + 1, a, b, ha, hb => by
    have ih := and_add_or' n (a / 2) (b / 2) (by rw [Nat.pow_succ] at ha; omega) (by rw [Nat.pow_succ] at hb; omega)
    have e1 : (a &&& b) / 2 = a / 2 &&& b / 2 := by
      have := Nat.shiftRight_and_distrib (a := a) (b := b) (i := 1)
      simpa [Nat.shiftRight_eq_div_pow] using this
    have e2 : (a ||| b) / 2 = a / 2 ||| b / 2 := by
      have := Nat.shiftRight_or_distrib (a := a) (b := b) (i := 1)
      simpa [Nat.shiftRight_eq_div_pow] using this
    have m1 : (a &&& b) % 2 = a % 2 &&& b % 2 := by
      have := Nat.and_mod_two_pow (a := a) (b := b) (n := 1)
      simpa using this
    have m2 : (a ||| b) % 2 = a % 2 ||| b % 2 := by
      have := Nat.or_mod_two_pow (a := a) (b := b) (n := 1)
      simpa using this
    have ha2 : a % 2 = 0 ∨ a % 2 = 1 := by omega
    have hb2 : b % 2 = 0 ∨ b % 2 = 1 := by omega
    have c00 : (0 &&& 0 : Nat) = 0 := rfl
    have c01 : (0 &&& 1 : Nat) = 0 := rfl
    have c10 : (1 &&& 0 : Nat) = 0 := rfl
    have c11 : (1 &&& 1 : Nat) = 1 := rfl
    have d00 : (0 ||| 0 : Nat) = 0 := rfl
    have d01 : (0 ||| 1 : Nat) = 1 := rfl
    have d10 : (1 ||| 0 : Nat) = 1 := rfl
    have d11 : (1 ||| 1 : Nat) = 1 := rfl
    rw [← e1, ← e2] at ih
    clear e1 e2
    generalize (a &&& b) = x at *
    generalize (a ||| b) = y at *
    rcases ha2 with h | h <;> rcases hb2 with g | g <;> rw [h, g] at m1 m2
    · rw [c00] at m1; rw [d00] at m2; omega
    · rw [c01] at m1; rw [d01] at m2; omega
    · rw [c10] at m1; rw [d10] at m2; omega
    · rw [c11] at m1; rw [d11] at m2; omega
theorem pMulAdd (a b c : Nat) : a * ((b + c) % 2 ^ 256) % 2 ^ 256 = (a * b % 2 ^ 256 + a * c % 2 ^ 256) % 2 ^ 256 := by
  rw [Nat.mul_mod_mod, Nat.mul_add, Nat.add_mod]
theorem pAddSub {a b : Nat} (ha : a < 2 ^ 256) (_hb : b < 2 ^ 256) : ((a + b) % 2 ^ 256 + 2 ^ 256 - b) % 2 ^ 256 = a := by omega
theorem pAddComm (a b : Nat) : (a + b) % 2 ^ 256 = (b + a) % 2 ^ 256 := by rw [Nat.add_comm]
theorem pMulComm (a b : Nat) : a * b % 2 ^ 256 = b * a % 2 ^ 256 := by rw [Nat.mul_comm]
theorem pAndOr {a b : Nat} (ha : a < 2 ^ 256) (hb : b < 2 ^ 256) : ((a &&& b) + (a ||| b)) % 2 ^ 256 = (a + b) % 2 ^ 256 := by rw [and_add_or' 256 a b ha hb]
theorem pXor (a b : Nat) : (a ^^^ b) ^^^ b = a := by rw [Nat.xor_assoc, Nat.xor_self, Nat.xor_zero]
theorem pNot {a : Nat} (ha : a < 2 ^ 256) : (a + notN a) % 2 ^ 256 = ofN (-1) := by unfold notN ofN; omega
/-- a word's cells that the form reads are those of a number -/
theorem word_of {cs : List Value} {bs : List UInt8} (hl : bs.length = 32) (h : cs = bv bs) : ∃ n, n < 2 ^ 256 ∧ cs.toArray = wcells n := by
  have key : ∀ (k : Nat) (l : List UInt8), l.length = k → ∃ n, n < 2 ^ (8 * k) ∧ ∀ i, i < k → (l[i]?.getD 0).toNat = lowB n (k - 1 - i) := by
    intro k
    induction k with
    | zero => intro l _; exact ⟨0, by simp, fun i hi => by omega⟩
    | succ k ih =>
      intro l hl
      obtain ⟨x, l', rfl⟩ : ∃ x l', l = x :: l' := by
        cases l with
        | nil => simp at hl
        | cons x l' => exact ⟨x, l', rfl⟩
      obtain ⟨n, hn, hi⟩ := ih l' (by simpa using hl)
      have hp : 0 < 2 ^ (8 * k) := Nat.pow_pos (by decide)
      have hx : x.toNat < 256 := x.toNat_lt
      refine ⟨x.toNat * 2 ^ (8 * k) + n, ?_, fun i hik => ?_⟩
      · rw [show 8 * (k + 1) = 8 + 8 * k from by omega, Nat.pow_add]
        have : (x.toNat + 1) * 2 ^ (8 * k) ≤ 2 ^ 8 * 2 ^ (8 * k) := Nat.mul_le_mul_right _ hx
        rw [Nat.add_mul] at this
        omega
      · cases i with
        | zero =>
          simp only [List.getElem?_cons_zero, Option.getD_some]
          unfold lowB
          rw [show k + 1 - 1 - 0 = k from by omega, Nat.add_comm, Nat.add_mul_div_right _ _ hp, Nat.div_eq_of_lt hn, Nat.zero_add, Nat.mod_eq_of_lt hx]
        | succ i =>
          simp only [List.getElem?_cons_succ]
          rw [hi i (by omega)]
          unfold lowB
          rw [show k + 1 - 1 - (i + 1) = k - 1 - i from by omega]
          have e : 2 ^ (8 * k) = 2 ^ (8 * i) * 256 * 2 ^ (8 * (k - 1 - i)) := by rw [show (256 : Nat) = 2 ^ 8 from rfl, ← Nat.pow_add, ← Nat.pow_add]; congr 1; omega
          rw [e, Nat.add_comm, ← Nat.mul_assoc, Nat.add_mul_div_right _ _ (Nat.pow_pos (by decide)), ← Nat.mul_assoc, Nat.add_mul_mod_self_right]
  obtain ⟨n, hn, hi⟩ := key 32 bs hl
  refine ⟨n, hn, ?_⟩
  rw [wcells, bv_wbytes, h]
  unfold tab bv
  congr 1
  apply List.ext_getElem?
  intro i
  by_cases c : i < 32
  · have := hi i c
    rw [List.getElem?_eq_getElem (by omega)] at this
    simp [c, show i < bs.length from by omega]
    simp at this
    omega
  · simp [c]
    omega
end Go.Mun
