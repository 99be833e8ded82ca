/- The plain laws of quotients and rests modulo 2^256. Over no program. -/
import Derived.Test.YtcmhbolonhhhoaaWordAll
namespace Go.Mun
open Go Go.RowKit

theorem absN_zero : absN 0 = 0 := by unfold absN; rw [if_neg (by decide)]
theorem pModZ (a : Nat) : modN a 0 = 0 := by unfold modN; rw [if_pos rfl]
theorem pSDivZ (a : Nat) : sdivN a 0 = 0 := by unfold sdivN; rw [absN_zero, if_pos rfl]
theorem pSModZ (a : Nat) : smodN a 0 = 0 := by unfold smodN; rw [absN_zero, if_pos rfl]
theorem pBack (a : Nat) {b : Nat} (ha : a < 2 ^ 256) (hb : b ≠ 0) : (a / b * b % 2 ^ 256 + modN a b) % 2 ^ 256 = a := by
  unfold modN
  rw [if_neg hb, Nat.mod_add_mod, Nat.mul_comm, Nat.div_add_mod, Nat.mod_eq_of_lt ha]
theorem pModLt (a : Nat) {b : Nat} (hb : b ≠ 0) : cmpN (modN a b) b = -1 := by
  unfold cmpN modN
  rw [if_neg hb, if_pos (Nat.mod_lt _ (by omega))]
/-- a number and its absolute value, with its sign -/
theorem absN_int {a : Nat} (ha : a < 2 ^ 256) : ∃ k : Int, (a : Int) = (if 2 ^ 255 ≤ a then -1 else 1) * (absN a : Int) + k * 2 ^ 256 := by
  unfold absN negN
  by_cases c : 2 ^ 255 ≤ a
  · rw [if_pos c, if_pos c]
    exact ⟨1, by omega⟩
  · rw [if_neg c, if_neg c]
    exact ⟨0, by omega⟩
theorem negN_int (n : Nat) (h : n < 2 ^ 256) : ∃ k : Int, (negN n : Int) = -1 * (n : Int) + k * 2 ^ 256 := by
  unfold negN
  by_cases c : n = 0
  · subst c
    exact ⟨0, by decide⟩
  · exact ⟨1, by omega⟩
theorem absN_pos {b : Nat} (hb : b < 2 ^ 256) (h : b ≠ 0) : absN b ≠ 0 := by
  unfold absN negN
  split <;> omega
theorem back_int {M q b r a : Int} (t : Int) (h : q * b + r = a + M * t) (h0 : 0 ≤ a) (h1 : a < M) : (q * b % M + r) % M = a := by
  rw [Int.emod_add_emod, h, Int.add_mul_emod_self_left, Int.emod_eq_of_lt h0 h1]
theorem back_nat {M q b r a : Nat} (t : Int) (h : (q : Int) * (b : Int) + (r : Int) = (a : Int) + (M : Int) * t) (ha : a < M) : (q * b % M + r) % M = a := by
  have := back_int t h (by omega) (by omega)
  apply Int.ofNat.inj
  show (((q * b % M + r) % M : Nat) : Int) = (a : Int)
  rw [← this]
  push_cast
  rfl
theorem pSBack {a b : Nat} (ha : a < 2 ^ 256) (hb : b < 2 ^ 256) (hb0 : b ≠ 0) : (sdivN a b * b % 2 ^ 256 + smodN a b) % 2 ^ 256 = a := by
  have hB := absN_pos hb hb0
  have hA' := absN_lt' ha
  obtain ⟨ka, ea⟩ := absN_int ha
  obtain ⟨kb, eb⟩ := absN_int hb
  unfold sdivN smodN
  rw [if_neg hB, if_neg hB]
  have hQR := Nat.div_add_mod (absN a) (absN b)
  have hQ : absN a / absN b < 2 ^ 256 := Nat.lt_of_le_of_lt (Nat.div_le_self _ _) hA'
  have hR : absN a % absN b < 2 ^ 256 := Nat.lt_of_le_of_lt (Nat.mod_le _ _) hA'
  rw [Nat.mod_eq_of_lt hQ]
  obtain ⟨kq, eq⟩ := negN_int _ hQ
  obtain ⟨kr, er⟩ := negN_int _ hR
  generalize absN a = A at *
  generalize absN b = B at *
  generalize A / B = Q at *
  generalize A % B = R at *
  generalize negN Q = NQ at *
  generalize negN R = NR at *
  have hQRi : (B : Int) * (Q : Int) + (R : Int) = (A : Int) := by rw [← hQR]; push_cast; rfl
  have fin : ∀ (q r : Nat) (t : Int), (q : Int) * (b : Int) + (r : Int) = (a : Int) + 2 ^ 256 * t → (q * b % 2 ^ 256 + r) % 2 ^ 256 = a := by
    intro q r t h
    exact back_nat (M := 2 ^ 256) t (h.trans (by rw [show ((2 ^ 256 : Nat) : Int) = 2 ^ 256 from by omega])) ha
  by_cases c : 2 ^ 255 ≤ a <;> by_cases d : 2 ^ 255 ≤ b
  · rw [if_pos c] at ea
    rw [if_pos d] at eb
    rw [decide_eq_true c, decide_eq_true d, if_neg (by decide), if_pos rfl]
    refine fin Q NR (Q * kb + kr - ka) ?_
    rw [eb, er, ea, ← hQRi]
    grind
  · rw [if_pos c] at ea
    rw [if_neg d] at eb
    rw [decide_eq_true c, decide_eq_false d, if_pos (by decide), if_pos rfl]
    refine fin NQ NR (-Q * kb + kq * B + kq * kb * 2 ^ 256 + kr - ka) ?_
    rw [eb, er, ea, eq, ← hQRi]
    grind
  · rw [if_neg c] at ea
    rw [if_pos d] at eb
    rw [decide_eq_false c, decide_eq_true d, if_pos (by decide), if_neg (by decide)]
    refine fin NQ R (-Q * kb - kq * B + kq * kb * 2 ^ 256 - ka) ?_
    rw [eb, ea, eq, ← hQRi]
    grind
  · rw [if_neg c] at ea
    rw [if_neg d] at eb
    rw [decide_eq_false c, decide_eq_false d, if_neg (by decide), if_neg (by decide)]
    refine fin Q R (Q * kb - ka) ?_
    rw [eb, ea, ← hQRi]
    grind
end Go.Mun
