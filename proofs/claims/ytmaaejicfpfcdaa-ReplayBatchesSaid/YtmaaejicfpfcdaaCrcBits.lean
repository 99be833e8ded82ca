/- The plain law of turned bits: bits side by side, not more than 32 of them, that are turned turn the sum. -/
import Derived.Test.YtmaaejicfpfcdaaCrcPlain
namespace Go.Mun
open Go

def bit1 (b : Bool) : UInt32 := if b then 1 else 0
/-- the register behind n bits -/
def crcB : Nat → UInt32 → (Nat → Bool) → UInt32
  | 0, c, _ => c
  | n + 1, c, f => crcB n (crcStep (c ^^^ bit1 (f 0))) (fun i => f (i + 1))
/-- n bits as a number -/
def wordOf : Nat → (Nat → Bool) → UInt32
  | 0, _ => 0
  | n + 1, f => bit1 (f 0) ^^^ (wordOf n (fun i => f (i + 1)) <<< 1)

theorem u32_xor_assoc (a b c : UInt32) : a ^^^ b ^^^ c = a ^^^ (b ^^^ c) := UInt32.xor_assoc a b c
theorem half_xor (a b : UInt32) : (a ^^^ b) >>> 1 = (a >>> 1) ^^^ (b >>> 1) := by
  apply UInt32.toBitVec_inj.1
  simp [BitVec.ushiftRight_xor_distrib]
theorem low_xor (a b : UInt32) : (a ^^^ b) &&& 1 = (a &&& 1) ^^^ (b &&& 1) := by
  apply UInt32.toBitVec_inj.1
  simp only [UInt32.toBitVec_and, UInt32.toBitVec_xor]
  apply BitVec.eq_of_getLsbD_eq
  intro i hi
  simp only [BitVec.getLsbD_and, BitVec.getLsbD_xor]
  cases a.toBitVec.getLsbD i <;> cases b.toBitVec.getLsbD i <;> cases (1 : UInt32).toBitVec.getLsbD i <;> rfl
theorem crcStep_xor (a b : UInt32) : crcStep (a ^^^ b) = crcStep a ^^^ crcStep b := by
  unfold crcStep
  rw [half_xor, low_xor]
  generalize a >>> 1 = x
  generalize b >>> 1 = y
  have swap : ∀ p q r s : UInt32, (p ^^^ q) ^^^ (r ^^^ s) = (p ^^^ r) ^^^ (q ^^^ s) := by
    intro p q r s
    rw [UInt32.xor_assoc, UInt32.xor_assoc, ← UInt32.xor_assoc q, ← UInt32.xor_assoc r, UInt32.xor_comm q r]
  rcases u32_low_01 a with e | e <;> rcases u32_low_01 b with e' | e' <;> rw [e, e', swap x] <;> rfl
theorem crcStep_zero {d : UInt32} (h : crcStep d = 0) : d = 0 := by
  unfold crcStep at h
  have hd : d.toNat = 2 * (d >>> 1).toNat + (d &&& 1).toNat := by
    have h1 : (d >>> 1).toNat = d.toNat / 2 := by
      have := u32_half d; omega
    have h2 : (d &&& 1).toNat = d.toNat % 2 := by
      rw [UInt32.toNat_and]; exact Nat.and_two_pow_sub_one_eq_mod d.toNat 1
    omega
  rcases u32_low_01 d with e | e
  · rw [e] at h hd
    have h' : d >>> 1 = 0 := by simpa using h
    rw [h'] at hd
    exact UInt32.toNat_inj.1 hd
  · rw [e] at h
    have h2 : d >>> 1 = 3988292384 := by
      have := congrArg (· ^^^ (3988292384 * 1 : UInt32)) h
      simp only [UInt32.xor_assoc, UInt32.xor_self] at this
      simpa using this
    have h3 : (d >>> 1).toNat = d.toNat / 2 := by have := u32_half d; omega
    rw [h2] at h3
    have := d.toNat_lt
    have h4 : (3988292384 : UInt32).toNat = 3988292384 := rfl
    omega
theorem crcStep_shift {y : UInt32} (h : y.toNat < 2147483648) : crcStep (y <<< 1) = y := by
  have hn : (y <<< 1).toNat = 2 * y.toNat := by
    rw [UInt32.toNat_shiftLeft]
    show (y.toNat <<< 1) % 4294967296 = _
    rw [Nat.shiftLeft_eq]; omega
  have h1 : (y <<< 1) &&& 1 = 0 := by
    apply UInt32.toNat_inj.1
    rw [UInt32.toNat_and, hn]
    show 2 * y.toNat &&& 1 = 0
    have := Nat.and_two_pow_sub_one_eq_mod (2 * y.toNat) 1
    simp at this ⊢
  unfold crcStep
  rw [h1]
  apply UInt32.toNat_inj.1
  have h2 : ((y <<< 1) >>> 1).toNat = (y <<< 1).toNat / 2 := by have := u32_half (y <<< 1); omega
  have h3 : ((y <<< 1) >>> 1) ^^^ (3988292384 * 0 : UInt32) = (y <<< 1) >>> 1 := by simp
  rw [h3, h2, hn]
  omega
theorem crcSteps_xor (n : Nat) (a b : UInt32) : crcSteps n (a ^^^ b) = crcSteps n a ^^^ crcSteps n b := by
  induction n with
  | zero => rfl
  | succ n ih => simp only [crcSteps]; rw [ih, crcStep_xor]
theorem crcSteps_zero (n : Nat) {d : UInt32} (h : crcSteps n d = 0) : d = 0 := by
  induction n with
  | zero => exact h
  | succ n ih => exact ih (crcStep_zero h)
theorem crcSteps_step (n : Nat) (c : UInt32) : crcSteps (n + 1) c = crcSteps n (crcStep c) := by
  induction n with
  | zero => rfl
  | succ n ih => rw [crcSteps, ih]; rfl

theorem bit1_le (b : Bool) : (bit1 b).toNat ≤ 1 := by cases b <;> decide
theorem wordOf_lt (n : Nat) : ∀ f, n ≤ 32 → (wordOf n f).toNat < 2 ^ n ∧ (n < 32 → ((wordOf n f) <<< 1).toNat = 2 * (wordOf n f).toNat) := by
  induction n with
  | zero => intro f _; exact ⟨by simp [wordOf], fun _ => by simp [wordOf]⟩
  | succ n ih =>
    intro f hn
    obtain ⟨h1, h2⟩ := ih (fun i => f (i + 1)) (by omega)
    have h2 := h2 (by omega)
    have h3 : (wordOf (n + 1) f).toNat < 2 ^ (n + 1) := by
      unfold wordOf
      rw [UInt32.toNat_xor]
      refine Nat.xor_lt_two_pow ?_ ?_
      · have := bit1_le (f 0)
        have : 2 ≤ 2 ^ (n + 1) := by rw [Nat.pow_succ]; have := Nat.one_le_two_pow (n := n); omega
        omega
      · rw [h2, Nat.pow_succ]; omega
    refine ⟨h3, fun hlt => ?_⟩
    have h4 : (2 : Nat) ^ (n + 1) ≤ 2 ^ 31 := Nat.pow_le_pow_right (by omega) (by omega)
    rw [UInt32.toNat_shiftLeft]
    show ((wordOf (n + 1) f).toNat <<< 1) % 4294967296 = _
    rw [Nat.shiftLeft_eq]
    omega
theorem crcB_steps (n : Nat) : ∀ c f, n ≤ 32 → crcB n c f = crcSteps n (c ^^^ wordOf n f) := by
  induction n with
  | zero => intro c f _; simp [crcB, crcSteps, wordOf]
  | succ n ih =>
    intro c f hn
    rw [crcSteps_step]
    unfold crcB wordOf
    rw [ih _ _ (by omega), ← UInt32.xor_assoc c, crcStep_xor (c ^^^ bit1 (f 0))]
    congr 2
    have h1 := (wordOf_lt n (fun i => f (i + 1)) (by omega)).1
    have h4 : (2 : Nat) ^ n ≤ 2 ^ 31 := Nat.pow_le_pow_right (by omega) (by omega)
    rw [crcStep_shift (by omega)]
theorem wordOf_zero (n : Nat) : ∀ f, n ≤ 32 → wordOf n f = 0 → ∀ i, i < n → f i = false := by
  induction n with
  | zero => intro f _ _ i hi; omega
  | succ n ih =>
    intro f hn h i hi
    have h1 := (wordOf_lt n (fun i => f (i + 1)) (by omega)).2 (by omega)
    have hx : (bit1 (f 0)).toNat ^^^ 2 * (wordOf n (fun i => f (i + 1))).toNat = 0 := by
      have := congrArg UInt32.toNat h
      unfold wordOf at this
      rw [UInt32.toNat_xor, h1] at this
      exact this
    have hx' : (bit1 (f 0)).toNat = 2 * (wordOf n (fun i => f (i + 1))).toNat := by
      have := congrArg (· ^^^ 2 * (wordOf n (fun i => f (i + 1))).toNat) hx
      simpa [Nat.xor_assoc] using this
    have hb := bit1_le (f 0)
    have h0 : (bit1 (f 0)).toNat = 0 := by omega
    have hw : (wordOf n (fun i => f (i + 1))).toNat = 0 := by omega
    cases i with
    | zero =>
      cases hf : f 0 with
      | false => rfl
      | true => rw [hf] at h0; exact absurd h0 (by decide)
    | succ i => exact ih (fun i => f (i + 1)) (by omega) (UInt32.toNat_inj.1 hw) i (by omega)
theorem crcB_xor (n : Nat) : ∀ (c d : UInt32) (f g : Nat → Bool), crcB n (c ^^^ d) (fun i => f i ^^ g i) = crcB n c f ^^^ crcB n d g := by
  induction n with
  | zero => intros; rfl
  | succ n ih =>
    intro c d f g
    unfold crcB
    have hb : bit1 (f 0 ^^ g 0) = bit1 (f 0) ^^^ bit1 (g 0) := by cases f 0 <;> cases g 0 <;> rfl
    have : c ^^^ d ^^^ bit1 (f 0 ^^ g 0) = (c ^^^ bit1 (f 0)) ^^^ (d ^^^ bit1 (g 0)) := by
      rw [hb, UInt32.xor_assoc, UInt32.xor_assoc, ← UInt32.xor_assoc d, ← UInt32.xor_assoc (bit1 (f 0)), UInt32.xor_comm d]
    rw [this, crcStep_xor]
    exact ih _ _ _ _
theorem crcB_add (m n : Nat) : ∀ c f, crcB (m + n) c f = crcB n (crcB m c f) (fun i => f (m + i)) := by
  induction m with
  | zero => intro c f; simp [crcB]
  | succ m ih =>
    intro c f
    rw [show m + 1 + n = (m + n) + 1 from by omega]
    simp only [crcB]
    rw [ih]
    congr 1
    funext i
    rw [show m + 1 + i = m + i + 1 from by omega]
theorem crcB_none (n : Nat) : ∀ c (f : Nat → Bool), (∀ i, i < n → f i = false) → crcB n c f = crcSteps n c := by
  induction n with
  | zero => intros; rfl
  | succ n ih =>
    intro c f h
    rw [crcSteps_step]
    simp only [crcB]
    rw [ih _ _ fun i hi => h (i + 1) (by omega), h 0 (by omega)]
    congr 1
    simp [bit1]
theorem crcSteps_nil (n : Nat) : crcSteps n 0 = 0 := by
  induction n with
  | zero => rfl
  | succ n ih => rw [crcSteps, ih]; rfl

/-- Up to 32 bits side by side, not all of them left alone: the register ends otherwise. -/
theorem burst (N k : Nat) (c : UInt32) (f g : Nat → Bool) (hk : k + 32 ≤ N) (hout : ∀ i, i < N → (i < k ∨ k + 32 ≤ i) → g i = false) (hin : ∃ i, i < 32 ∧ g (k + i) = true) :
    crcB N c (fun i => f i ^^ g i) ≠ crcB N c f := by
  intro h
  have h1 := crcB_xor N c 0 f g
  simp only [UInt32.xor_zero] at h1
  rw [h1] at h
  have h2 : crcB N 0 g = 0 := by
    have := congrArg (crcB N c f ^^^ ·) h
    simp only [← UInt32.xor_assoc, UInt32.xor_self, UInt32.zero_xor] at this
    exact this
  rw [show N = k + (32 + (N - k - 32)) from by omega, crcB_add, crcB_add, crcB_none k 0 g fun i hi => hout i (by omega) (.inl hi), crcSteps_nil,
    crcB_none (N - k - 32) _ _ fun i hi => hout _ (by omega) (.inr (by omega)), crcB_steps 32 _ _ (by omega)] at h2
  have h3 := crcSteps_zero _ (crcSteps_zero _ h2)
  simp only [UInt32.zero_xor] at h3
  obtain ⟨i, hi, hg⟩ := hin
  have := wordOf_zero 32 _ (by omega) h3 i hi
  rw [hg] at this
  cases this

/-! ### the bits of bytes -/
def bitOf (l : List UInt8) (p : Nat) : Bool := ((l[p / 8]?.getD 0).toNat).testBit (p % 8)
theorem wordOf_byte (x : UInt8) (f : Nat → Bool) (h : ∀ i, i < 8 → f i = x.toNat.testBit i) : wordOf 8 f = x.toUInt32 := by
  have e : ∀ n : Nat, n < 256 → wordOf 8 (fun i => n.testBit i) = UInt32.ofNat n := by decide +kernel
  have h2 : ∀ n g, (∀ i, i < n → f (i + g) = x.toNat.testBit (i + g)) → wordOf n (fun i => f (i + g)) = wordOf n (fun i => x.toNat.testBit (i + g)) := by
    intro n
    induction n with
    | zero => intros; rfl
    | succ n ih =>
      intro g h
      unfold wordOf
      simp only [Nat.zero_add]
      rw [show f g = x.toNat.testBit g from by simpa using h 0 (by omega)]
      have := ih (g + 1) fun i hi => by
        have := h (i + 1) (by omega)
        rw [show i + 1 + g = i + (g + 1) from by omega] at this
        exact this
      simp only [show ∀ i, i + 1 + g = i + (g + 1) from fun i => by omega]
      rw [this]
  have h3 := h2 8 0 fun i hi => h i hi
  simp only [Nat.add_zero] at h3
  show wordOf 8 (fun i => f i) = _
  rw [h3, e x.toNat x.toNat_lt]
  apply UInt32.toNat_inj.1
  have := x.toNat_lt
  simp
theorem crcRun_bits (l : List UInt8) : ∀ c, crcRun c l = crcB (8 * l.length) c (bitOf l) := by
  induction l with
  | nil => intro c; rfl
  | cons x l ih =>
    intro c
    rw [List.length_cons, show 8 * (l.length + 1) = 8 + 8 * l.length from by omega, crcB_add, crcB_steps 8 _ _ (by omega),
      wordOf_byte x (bitOf (x :: l)) fun i hi => by
        unfold bitOf
        rw [show i / 8 = 0 from by omega, show i % 8 = i from by omega]; rfl]
    show crcRun (crcByte c x) l = _
    rw [ih]
    unfold crcByte
    congr 1
    funext i
    unfold bitOf
    rw [show (8 + i) / 8 = i / 8 + 1 from by omega, show (8 + i) % 8 = i % 8 from by omega]; rfl
/-- The sums of two messages that differ in up to 32 bits side by side. -/
theorem crcSum_turned (l m : List UInt8) (k : Nat) (g : Nat → Bool) (hl : m.length = l.length) (hk : k + 32 ≤ 8 * l.length)
    (hout : ∀ i, (i < k ∨ k + 32 ≤ i) → g i = false) (hin : ∃ i, i < 32 ∧ g (k + i) = true) (hm : ∀ i, i < 8 * l.length → bitOf m i = (bitOf l i ^^ g i)) : crcSum m ≠ crcSum l := by
  have hne := burst (8 * l.length) k 4294967295 (bitOf l) g hk (fun i _ h => hout i h) hin
  have hcong : ∀ n c (f f' : Nat → Bool), (∀ i, i < n → f i = f' i) → crcB n c f = crcB n c f' := by
    intro n
    induction n with
    | zero => intros; rfl
    | succ n ih => intro c f f' h; simp only [crcB]; rw [h 0 (by omega)]; exact ih _ _ _ fun i hi => h (i + 1) (by omega)
  intro h
  apply hne
  rw [← hcong _ _ _ _ hm, ← crcRun_bits l, ← hl, ← crcRun_bits m]
  unfold crcSum at h
  have h2 : crcRun 4294967295 m ^^^ 4294967295 = crcRun 4294967295 l ^^^ 4294967295 := UInt32.toNat_inj.1 (by omega)
  have := congrArg (· ^^^ (4294967295 : UInt32)) h2
  simpa [UInt32.xor_assoc] using this
end Go.Mun
