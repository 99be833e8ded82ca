/- The plain law of records: their bodies, their bytes. -/
import Derived.Test.YtmaaejicfpfcdaaCrcPlain
namespace Go.Mun
open Go Go.RowKit

/-- a number's four bytes, the highest first -/
def fourB (n : Nat) : List UInt8 := [UInt8.ofNat (n / 16777216), UInt8.ofNat (n / 65536), UInt8.ofNat (n / 256), UInt8.ofNat n]
theorem fourB_length (n : Nat) : (fourB n).length = 4 := rfl

/-- a record as data -/
structure Rec where
  kind : Int
  del : Bool
  key : List UInt8
  value : List UInt8
  n : Int

def Rec.isEnd (r : Rec) : Bool := decide (r.kind = 2 ∧ 0 ≤ r.n ∧ r.n ≤ 2147483647)
/-- why it has no bytes; 0: it has -/
def Rec.err (r : Rec) : Int :=
  if r.isEnd then 0 else if r.kind ≠ 1 then 1 else if 65536 < r.key.length ∨ (r.del = false ∧ 16777216 < r.value.length) then 3 else 0
/-- its body -/
def Rec.body (r : Rec) : List UInt8 :=
  if r.isEnd then 2 :: fourB r.n.toNat else [1, if r.del then 1 else 0] ++ fourB r.key.length ++ r.key ++ (if r.del then [] else r.value)
/-- its bytes -/
def frameB (b : List UInt8) : List UInt8 := fourB b.length ++ fourB (crcSum b).toNat ++ b
def Rec.bytes (r : Rec) : List UInt8 := frameB r.body

theorem err_not {r : Rec} (h : r.isEnd = false) : r.err = if r.kind ≠ 1 then 1 else if 65536 < r.key.length ∨ (r.del = false ∧ 16777216 < r.value.length) then 3 else 0 := by
  unfold Rec.err
  rw [h, if_neg (by simp)]
theorem err_kind {r : Rec} (h : r.isEnd = false) (hk : r.kind ≠ 1) : r.err = 1 := by rw [err_not h, if_pos hk]
theorem err_long {r : Rec} (h : r.isEnd = false) (hk : r.kind = 1) (hl : 65536 < r.key.length ∨ (r.del = false ∧ 16777216 < r.value.length)) : r.err = 3 := by
  rw [err_not h, if_neg (by simpa using hk), if_pos hl]
theorem err_fits {r : Rec} (h : r.isEnd = false) (hk : r.kind = 1) (hl : ¬ (65536 < r.key.length ∨ (r.del = false ∧ 16777216 < r.value.length))) : r.err = 0 := by
  rw [err_not h, if_neg (by simpa using hk), if_neg hl]
theorem body_change {key value : List UInt8} {n : Int} {del : Bool} (h : Rec.isEnd ⟨1, del, key, value, n⟩ = false) :
    Rec.body ⟨1, del, key, value, n⟩ = [1, if del then 1 else 0] ++ fourB key.length ++ key ++ (if del then [] else value) := by
  unfold Rec.body
  rw [h, if_neg (by simp)]
theorem body_set {key value : List UInt8} {n : Int} (h : Rec.isEnd ⟨1, false, key, value, n⟩ = false) : Rec.body ⟨1, false, key, value, n⟩ = [1, 0] ++ fourB key.length ++ key ++ value := body_change h
theorem body_del {key value : List UInt8} {n : Int} (h : Rec.isEnd ⟨1, true, key, value, n⟩ = false) : Rec.body ⟨1, true, key, value, n⟩ = [1, 1] ++ fourB key.length ++ key := by
  rw [body_change h]; simp
theorem body_bd {r : Rec} (h : r.err = 0) : r.body.length ≤ 16842758 := by
  obtain ⟨kind, del, key, value, n⟩ := r
  cases he : Rec.isEnd ⟨kind, del, key, value, n⟩ with
  | true => unfold Rec.body; rw [if_pos he]; simp [fourB]
  | false =>
    rw [err_not he] at h
    simp only at h
    have hk : kind = 1 := by
      rcases Classical.em (kind = 1) with e | e
      · exact e
      · rw [if_pos e] at h; cases h
    subst hk
    rw [if_neg (by simp)] at h
    have hl : ¬ (65536 < key.length ∨ (del = false ∧ 16777216 < value.length)) := fun e => by rw [if_pos e] at h; cases h
    rw [body_change he]
    cases del <;> simp [fourB_length] at hl ⊢ <;> omega
theorem fourB_cells (n : Nat) : bv (fourB n) = [.int .u8 ((n / 16777216 : Nat) % 256), .int .u8 ((n / 65536 : Nat) % 256), .int .u8 ((n / 256 : Nat) % 256), .int .u8 ((n : Nat) % 256)] := by
  unfold bv fourB
  simp
theorem bytes_length (r : Rec) : r.bytes.length = 8 + r.body.length := by
  unfold Rec.bytes frameB
  simp only [List.length_append, fourB_length]
theorem body_set_length {key value : List UInt8} {n : Int} (h : Rec.isEnd ⟨1, false, key, value, n⟩ = false) : (Rec.body ⟨1, false, key, value, n⟩).length = 6 + key.length + value.length := by
  rw [body_set h]; simp only [List.length_append, fourB_length]; simp
theorem body_del_length {key value : List UInt8} {n : Int} (h : Rec.isEnd ⟨1, true, key, value, n⟩ = false) : (Rec.body ⟨1, true, key, value, n⟩).length = 6 + key.length := by
  rw [body_del h]; simp only [List.length_append, fourB_length]; simp
theorem isEnd_one {del : Bool} {key value : List UInt8} {n : Int} : Rec.isEnd ⟨1, del, key, value, n⟩ = false := by
  unfold Rec.isEnd; exact decide_eq_false (by simp)
theorem isEnd_two {del : Bool} {key value : List UInt8} {n : Int} (h0 : 0 ≤ n) (h1 : n ≤ 2147483647) : Rec.isEnd ⟨2, del, key, value, n⟩ = true := by
  unfold Rec.isEnd; exact decide_eq_true ⟨rfl, h0, h1⟩
end Go.Mun
