/- What Get and Put tell. -/
import Derived.Test.YtpliedimdhilcaaMe
import Derived.Test.YtpliedimdhilcaaMemGet
namespace Go.Mun
open Go Go.RowKit Go.Proofs

def putOk (l : List UInt8) (i : Int) (b : List UInt8) : Bool := decide (0 ≤ i) && (decide (b.length = 0) || decide (i + b.length ≤ l.length))
def putTo (l : List UInt8) (i : Int) (b : List UInt8) : List UInt8 := if putOk l i b = true then l.take i.toNat ++ b ++ l.drop (i.toNat + b.length) else l
theorem putTo_length (l : List UInt8) (i : Int) (b : List UInt8) : (putTo l i b).length = l.length := by
  unfold putTo
  split
  · rename_i h
    unfold putOk at h
    simp only [Bool.and_eq_true, Bool.or_eq_true, decide_eq_true_eq] at h
    rw [List.length_append, List.length_append, List.length_take, List.length_drop]
    omega
  · rfl
def getL (l : List UInt8) (i n : Int) : List UInt8 := if i < 0 ∨ n < 0 ∨ 1048576 < n then [] else (l.drop i.toNat).take n.toNat ++ List.replicate (n.toNat - (l.length - i.toNat)) 0
theorem getL_length (l : List UInt8) (i n : Int) : (getL l i n).length = if i < 0 ∨ n < 0 ∨ 1048576 < n then 0 else n.toNat := by
  unfold getL
  split
  · rfl
  · rw [List.length_append, List.length_take, List.length_drop, List.length_replicate]
    omega
theorem getL_all (l : List UInt8) (h : l.length ≤ 1048576) : getL l 0 l.length = l := by
  unfold getL
  rw [if_neg (by omega)]
  simp
theorem get_cut {l : List UInt8} {L at_ n k : Nat} (hl : l.length = L) (hk : k = Nat.min (L - at_) n) : (l.drop at_).take k ++ (List.replicate n (0 : UInt8)).drop k = (l.drop at_).take n ++ List.replicate (n - (L - at_)) 0 := by
  have h1 : Nat.min (L - at_) n = min (L - at_) n := rfl
  rw [List.drop_replicate]
  congr 1
  · by_cases h : L - at_ ≤ n
    · rw [List.take_of_length_le (by rw [List.length_drop]; omega), List.take_of_length_le (by rw [List.length_drop]; omega)]
    · rw [show k = n from by omega]
  · rw [show n - k = n - (L - at_) from by omega]
theorem get_far {l : List UInt8} {L at_ n : Nat} (hl : l.length = L) (h : L ≤ at_) : List.replicate n (0 : UInt8) = (l.drop at_).take n ++ List.replicate (n - (L - at_)) 0 := by
  rw [List.drop_eq_nil_of_le (by omega), show L - at_ = 0 from by omega]
  simp
theorem Bytes_len {w : World} {A : Option Addr} {m c : Nat} {b : List UInt8} (h : Bytes w (.slice A m c) b) : b.length = m := by
  obtain ⟨_, _, _, e, h1, _⟩ := h
  injection e with e1 e2 e3
  omega
theorem Bytes_cap {w : World} {A : Option Addr} {m c : Nat} {b : List UInt8} (h : Bytes w (.slice A m c) b) : m ≤ c ∧ c ≤ 9223372036854775807 := by
  obtain ⟨_, _, _, e, _, h2, h3, _⟩ := h
  injection e with e1 e2 e3
  subst e2 e3
  exact ⟨h2, h3⟩
end Go.Mun
