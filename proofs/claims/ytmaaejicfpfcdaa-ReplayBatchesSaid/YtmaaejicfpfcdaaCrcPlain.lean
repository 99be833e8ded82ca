/- The plain law of the sums: one register of 32 bits, turned once for each bit. -/
import Derived.Test.YtmaaejicfpfcdaaLib
namespace Go.Mun
open Go Go.RowKit

theorem u32_wrap_lt (n : Nat) (h : n < 4294967296) : IntKind.u32.wrap (n : Int) = n := by rw [IntKind.wrap_u32']; omega
theorem u32_xor' (a b : UInt32) : bits .xor .u32 (a.toNat : Int) (b.toNat : Int) = ((a ^^^ b).toNat : Int) := by
  rw [u32_xor_nat _ _ a.toNat_lt b.toNat_lt]; simp
theorem u32_and' (a b : UInt32) : bits .and .u32 (a.toNat : Int) (b.toNat : Int) = ((a &&& b).toNat : Int) := by
  rw [u32_and_nat _ _ a.toNat_lt b.toNat_lt]; simp
theorem u32_of_byte (x : UInt8) : (x.toNat : Int) % 4294967296 = (x.toUInt32.toNat : Int) := by
  have := x.toNat_lt
  rw [UInt8.toNat_toUInt32]
  omega
theorem u32_xor_byte (s : UInt32) (x : UInt8) : bits .xor .u32 (s.toNat : Int) ((x.toNat : Int) % 4294967296) = ((s ^^^ x.toUInt32).toNat : Int) := by
  rw [u32_of_byte, u32_xor']

/-- one turn -/
def crcStep (c : UInt32) : UInt32 := (c >>> 1) ^^^ (3988292384 * (c &&& 1))
def crcSteps : Nat → UInt32 → UInt32
  | 0, c => c
  | k + 1, c => crcStep (crcSteps k c)
def crcByte (c : UInt32) (x : UInt8) : UInt32 := crcSteps 8 (c ^^^ x.toUInt32)
def crcRun (c : UInt32) (l : List UInt8) : UInt32 := l.foldl crcByte c
def crcSum (l : List UInt8) : Int := ((crcRun 4294967295 l ^^^ 4294967295).toNat : Int)

theorem u32_half (t : UInt32) : (t.toNat : Int) / (2 : Int) = ((t >>> 1).toNat : Int) := by
  rw [UInt32.toNat_shiftRight, show (1 : UInt32).toNat = 1 from rfl]
  show _ = ((t.toNat >>> 1 : Nat) : Int)
  rw [Nat.shiftRight_eq_div_pow]
  omega
theorem u32_low (t : UInt32) : bits .and .u32 (t.toNat : Int) 1 = ((t &&& 1).toNat : Int) := u32_and' t 1
theorem u32_low_01 (t : UInt32) : t &&& 1 = 0 ∨ t &&& 1 = 1 := by
  have h : (t &&& 1).toNat = t.toNat % 2 := by
    rw [UInt32.toNat_and]; exact Nat.and_two_pow_sub_one_eq_mod t.toNat 1
  rcases Nat.mod_two_eq_zero_or_one t.toNat with e | e
  · exact .inl (UInt32.toNat_inj.1 (by rw [h, e]; rfl))
  · exact .inr (UInt32.toNat_inj.1 (by rw [h, e]; rfl))
theorem crcStep_odd {t : UInt32} (h : (bits .and .u32 (t.toNat : Int) 1 == 1) = true) : bits .xor .u32 ((t.toNat : Int) / 2) 3988292384 = ((crcStep t).toNat : Int) := by
  rw [u32_low] at h
  have hb := beq_iff_eq.1 h
  have h1 : t &&& 1 = 1 := UInt32.toNat_inj.1 (by show _ = 1; omega)
  rw [u32_half]
  unfold crcStep
  rw [h1]
  exact u32_xor' (t >>> 1) 3988292384
theorem crcStep_even {t : UInt32} (h : (bits .and .u32 (t.toNat : Int) 1 == 1) = false) : (t.toNat : Int) / 2 = ((crcStep t).toNat : Int) := by
  rw [u32_low] at h
  have hb := beq_eq_false_iff_ne.1 h
  have h1 : t &&& 1 = 0 := by
    rcases u32_low_01 t with e | e
    · exact e
    · rw [e] at hb; exact absurd rfl hb
  rw [u32_half]
  unfold crcStep
  rw [h1]
  simp
theorem crcStep_mul (t : UInt32) : bits .xor .u32 ((t.toNat : Int) / 2) (3988292384 * bits .and .u32 (t.toNat : Int) 1 % 4294967296) = ((crcStep t).toNat : Int) := by
  rw [u32_low, u32_half]
  unfold crcStep
  rcases u32_low_01 t with e | e <;> rw [e]
  · exact u32_xor' (t >>> 1) 0
  · exact u32_xor' (t >>> 1) 3988292384
theorem u32_xor_all (t : UInt32) : bits .xor .u32 (t.toNat : Int) 4294967295 = ((t ^^^ 4294967295).toNat : Int) := u32_xor' t 4294967295

theorem crcRun_append (c : UInt32) (l m : List UInt8) : crcRun c (l ++ m) = crcRun (crcRun c l) m := by simp [crcRun]
theorem crcRun_snoc (c : UInt32) (l : List UInt8) (x : UInt8) : crcRun c (l ++ [x]) = crcByte (crcRun c l) x := by simp [crcRun]
theorem take_snoc {α : Type} (l : List α) {k : Nat} (h : k < l.length) : l.take (k + 1) = l.take k ++ [l[k]] := by
  rw [List.take_succ_eq_append_getElem h]
theorem crcRun_take (c : UInt32) (l : List UInt8) {k : Nat} (h : k < l.length) : crcRun c (l.take (k + 1)) = crcByte (crcRun c (l.take k)) l[k] := by
  rw [take_snoc l h, crcRun_snoc]
theorem crcSum_bd (l : List UInt8) : 0 ≤ crcSum l ∧ crcSum l < 4294967296 := by
  unfold crcSum
  have := (crcRun 4294967295 l ^^^ 4294967295).toNat_lt
  omega
theorem crcSum_wrap (l : List UInt8) : wrap64 (bits .xor .u32 ((crcRun 4294967295 l).toNat : Int) 4294967295) = crcSum l := by
  rw [u32_xor_all]
  have hb := crcSum_bd l
  unfold crcSum at hb ⊢
  exact IntWalk.wrap64_in _ (by omega)
end Go.Mun
