/- What 'moved' makes of a word, in closed form. -/
import Derived.Test.YtcmhbolonhhhoaaRefSmall
import Derived.Test.YtcmhbolonhhhoaaWordSar
namespace Go.Mun
open Go Go.RowKit Go.Proofs

def FL (a n i : Nat) : Nat := if n ≤ i then a / 2 ^ (i - n) % 2 else 0
def FR (a k c i : Nat) : Nat := if i + k < 256 then a / 2 ^ (i + k) % 2 else c
theorem FL_le (a n i : Nat) : FL a n i ≤ 1 := by
  unfold FL
  split <;> omega
theorem FR_le (a k : Nat) {c : Nat} (hc : c ≤ 1) (i : Nat) : FR a k c i ≤ 1 := by
  unfold FR
  split <;> omega
theorem wN_FL (a n : Nat) : ∀ i, wN (FL a n) i = a * 2 ^ n % 2 ^ i
  | 0 => by simp [wN, Nat.mod_one]
  | i + 1 => by
    show wN (FL a n) i + FL a n i * 2 ^ i = _
    rw [wN_FL a n i, Nat.mod_pow_succ, Nat.mul_comm (2 ^ i)]
    congr 2
    unfold FL
    by_cases c : n ≤ i
    · rw [if_pos c]
      have e : 2 ^ i = 2 ^ (i - n) * 2 ^ n := by rw [← Nat.pow_add]; congr 1; omega
      rw [e, Nat.mul_div_mul_right _ _ (Nat.pow_pos (by decide))]
    · rw [if_neg c]
      have e : a * 2 ^ n = a * 2 ^ (n - i - 1) * 2 * 2 ^ i := by
        rw [Nat.mul_assoc, Nat.mul_assoc, ← Nat.pow_succ', ← Nat.pow_add]
        congr 2
        omega
      rw [e, Nat.mul_div_cancel _ (Nat.pow_pos (by decide)), Nat.mul_mod_left]
theorem wN_FR {a : Nat} (ha : a < 2 ^ 256) (k : Nat) : ∀ i, wN (FR a k 0) i = a / 2 ^ k % 2 ^ i
  | 0 => by simp [wN, Nat.mod_one]
  | i + 1 => by
    show wN (FR a k 0) i + FR a k 0 i * 2 ^ i = _
    rw [wN_FR ha k i, Nat.mod_pow_succ, Nat.mul_comm (2 ^ i)]
    congr 2
    unfold FR
    rw [Nat.div_div_eq_div_mul, ← Nat.pow_add, Nat.add_comm k i]
    by_cases c : i + k < 256
    · rw [if_pos c]
    · rw [if_neg c, Nat.div_eq_of_lt (Nat.lt_of_lt_of_le ha (Nat.pow_le_pow_right (by decide) (by omega)))]
theorem wN_compl {F : Nat → Nat} (h : ∀ i, F i ≤ 1) : ∀ i, wN F i + wN (fun j => 1 - F j) i = 2 ^ i - 1
  | 0 => rfl
  | i + 1 => by
    have ih := wN_compl h i
    have hi := h i
    show wN F i + F i * 2 ^ i + (wN (fun j => 1 - F j) i + (1 - F i) * 2 ^ i) = 2 ^ (i + 1) - 1
    have e : F i * 2 ^ i + (1 - F i) * 2 ^ i = 2 ^ i := by rw [← Nat.add_mul, show F i + (1 - F i) = 1 from by omega, Nat.one_mul]
    have hp : 0 < 2 ^ i := Nat.pow_pos (by decide)
    rw [Nat.pow_succ]
    omega
theorem notN_bit {a j : Nat} (ha : a < 2 ^ 256) (hj : j < 256) : notN a / 2 ^ j % 2 = 1 - a / 2 ^ j % 2 := by
  unfold notN
  have hp : 0 < 2 ^ j := Nat.pow_pos (by decide)
  have h1 := Nat.div_add_mod a (2 ^ j)
  have h2 : a % 2 ^ j < 2 ^ j := Nat.mod_lt _ hp
  have e : (2 : Nat) ^ 256 = 2 ^ (255 - j) * 2 * 2 ^ j := by rw [← Nat.pow_succ, ← Nat.pow_add]; congr 1; omega
  have hq : a / 2 ^ j < 2 ^ (255 - j) * 2 := by rw [Nat.div_lt_iff_lt_mul hp, ← e]; exact ha
  have e3 : 2 ^ 256 - 1 - a = (2 ^ (255 - j) * 2 - 1 - a / 2 ^ j) * 2 ^ j + (2 ^ j - 1 - a % 2 ^ j) := by
    generalize a / 2 ^ j = q at *
    generalize a % 2 ^ j = r at *
    rw [e, ← h1, Nat.sub_mul, Nat.sub_mul, Nat.one_mul, Nat.mul_comm (2 ^ j) q]
    have := Nat.mul_le_mul_right (2 ^ j) hq
    rw [Nat.succ_mul] at this
    generalize 2 ^ (255 - j) * 2 * 2 ^ j = z at *
    omega
  rw [e3, Nat.add_comm, Nat.add_mul_div_right _ _ hp, Nat.div_eq_of_lt (by omega), Nat.zero_add]
  generalize a / 2 ^ j = q at *
  generalize 2 ^ (255 - j) = y at *
  omega
theorem wN_congr {F G : Nat → Nat} (h : ∀ i, F i = G i) (n : Nat) : wN F n = wN G n := by
  have : F = G := funext h
  rw [this]
theorem wN_FR1 {a : Nat} (ha : a < 2 ^ 256) (k : Nat) : wN (FR a k 1) 256 = notN (notN a / 2 ^ k) := by
  have h := wN_compl (FR_le a k (Nat.le_refl 1)) 256
  have e : wN (fun j => 1 - FR a k 1 j) 256 = wN (FR (notN a) k 0) 256 := wN_congr (fun i => by
    unfold FR
    by_cases c : i + k < 256
    · rw [if_pos c, if_pos c, notN_bit ha c]
    · rw [if_neg c, if_neg c]) 256
  rw [e, wN_FR (notN_lt a)] at h
  have hl : notN a / 2 ^ k < 2 ^ 256 := Nat.lt_of_le_of_lt (Nat.div_le_self _ _) (notN_lt a)
  rw [Nat.mod_eq_of_lt hl] at h
  show _ = 2 ^ 256 - 1 - notN a / 2 ^ k
  omega

theorem moved_left (a k : Nat) (w : World) (hk : k < 256) (_ha : a < 2 ^ 256) : Calls Try.prog 60 #[.agg (wcells a), .int .i64 (k : Int), .int .u8 0] w fun e w' => e = .returned (.agg (wcells (a * 2 ^ k % 2 ^ 256))) ∧ Below w.heap.size w w' := by
  have := moved_any a 0 (k : Int) (FL a k) w (by decide) (by omega) (by omega) (FL_le a k) (fun i hi => ⟨fun h => by
    unfold FL
    rw [if_pos (by omega), show ((i : Int) - (k : Int)).toNat = i - k from by omega], fun h => by
    unfold FL
    rw [if_neg (by omega)]⟩)
  rw [wN_FL] at this
  exact this
theorem moved_right (a k c : Nat) (w : World) (hc : c ≤ 1) (hk : k ≤ 256) : Calls Try.prog 60 #[.agg (wcells a), .int .i64 (-(k : Int)), .int .u8 (c : Int)] w fun e w' => e = .returned (.agg (wcells (wN (FR a k c) 256))) ∧ Below w.heap.size w w' :=
  moved_any a c (-(k : Int)) (FR a k c) w hc (by omega) (by omega) (FR_le a k hc) (fun i hi => ⟨fun h => by
    unfold FR
    rw [if_pos (by omega), show ((i : Int) - -(k : Int)).toNat = i + k from by omega], fun h => by
    unfold FR
    rw [if_neg (by omega)]⟩)
theorem moved_right0 (a k : Nat) (w : World) (hk : k ≤ 256) (ha : a < 2 ^ 256) : Calls Try.prog 60 #[.agg (wcells a), .int .i64 (-(k : Int)), .int .u8 0] w fun e w' => e = .returned (.agg (wcells (a / 2 ^ k))) ∧ Below w.heap.size w w' := by
  have := moved_right a k 0 w (by decide) hk
  rw [wN_FR ha, Nat.mod_eq_of_lt (Nat.lt_of_le_of_lt (Nat.div_le_self _ _) ha)] at this
  exact this
theorem moved_right1 (a k : Nat) (w : World) (hk : k ≤ 256) (ha : a < 2 ^ 256) : Calls Try.prog 60 #[.agg (wcells a), .int .i64 (-(k : Int)), .int .u8 1] w fun e w' => e = .returned (.agg (wcells (notN (notN a / 2 ^ k)))) ∧ Below w.heap.size w w' := by
  have := moved_right a k 1 w (by decide) hk
  rw [wN_FR1 ha] at this
  exact this
theorem bit_top (a : Nat) (w : World) (ha : a < 2 ^ 256) (h : 2 ^ 255 ≤ a) : Calls Try.prog 62 #[.agg (wcells a), .int .i64 255] w fun e w' => e = .returned (.int .u8 1) ∧ Below w.heap.size w w' := by
  have := RefBit_any a 255 w (by decide)
  rw [show a / 2 ^ 255 % 2 = 1 from by omega] at this
  exact this
theorem bit_none (a : Nat) (w : World) (h : ¬ 2 ^ 255 ≤ a) : Calls Try.prog 62 #[.agg (wcells a), .int .i64 255] w fun e w' => e = .returned (.int .u8 0) ∧ Below w.heap.size w w' := by
  have := RefBit_any a 255 w (by decide)
  rw [show a / 2 ^ 255 % 2 = 0 from by omega] at this
  exact this
end Go.Mun
