/- A word's cells are those of a number. -/
import Derived.Test.YtpliedimdhilcaaWordBase
namespace Go.Mun
open Go Go.RowKit

/-- a word's cells that the form reads are those of a number -/
theorem word_of {cs : List Value} {bs : List UInt8} (hl : bs.length = 32) (h : cs = bv bs) : ∃ n, n < 2 ^ 256 ∧ cs.toArray = wcells n := by
  have key : ∀ (k : Nat) (l : List UInt8), l.length = k → ∃ n, n < 2 ^ (8 * k) ∧ ∀ i, i < k → (l[i]?.getD 0).toNat = lowB n (k - 1 - i) := by
    intro k
    induction k with
    | zero => intro l _; exact ⟨0, by simp, fun i hi => by omega⟩
    | succ k ih =>
      intro l hl
      obtain ⟨x, l', rfl⟩ : ∃ x l', l = x :: l' := by
        cases l with
        | nil => simp at hl
        | cons x l' => exact ⟨x, l', rfl⟩
      obtain ⟨n, hn, hi⟩ := ih l' (by simpa using hl)
      have hp : 0 < 2 ^ (8 * k) := Nat.pow_pos (by decide)
      have hx : x.toNat < 256 := x.toNat_lt
      refine ⟨x.toNat * 2 ^ (8 * k) + n, ?_, fun i hik => ?_⟩
      · rw [show 8 * (k + 1) = 8 + 8 * k from by omega, Nat.pow_add]
        have : (x.toNat + 1) * 2 ^ (8 * k) ≤ 2 ^ 8 * 2 ^ (8 * k) := Nat.mul_le_mul_right _ hx
        rw [Nat.add_mul] at this
        omega
      · cases i with
        | zero =>
          simp only [List.getElem?_cons_zero, Option.getD_some]
          unfold lowB
          rw [show k + 1 - 1 - 0 = k from by omega, Nat.add_comm, Nat.add_mul_div_right _ _ hp, Nat.div_eq_of_lt hn, Nat.zero_add, Nat.mod_eq_of_lt hx]
        | succ i =>
          simp only [List.getElem?_cons_succ]
          rw [hi i (by omega)]
          unfold lowB
          rw [show k + 1 - 1 - (i + 1) = k - 1 - i from by omega]
          have e : 2 ^ (8 * k) = 2 ^ (8 * i) * 256 * 2 ^ (8 * (k - 1 - i)) := by rw [show (256 : Nat) = 2 ^ 8 from rfl, ← Nat.pow_add, ← Nat.pow_add]; congr 1; omega
          rw [e, Nat.add_comm, ← Nat.mul_assoc, Nat.add_mul_div_right _ _ (Nat.pow_pos (by decide)), ← Nat.mul_assoc, Nat.add_mul_mod_self_right]
  obtain ⟨n, hn, hi⟩ := key 32 bs hl
  refine ⟨n, hn, ?_⟩
  rw [wcells, bv_wbytes, h]
  unfold tab bv
  congr 1
  apply List.ext_getElem?
  intro i
  by_cases c : i < 32
  · have := hi i c
    rw [List.getElem?_eq_getElem (by omega)] at this
    simp [c, show i < bs.length from by omega]
    simp at this
    omega
  · simp [c]
    omega
end Go.Mun
