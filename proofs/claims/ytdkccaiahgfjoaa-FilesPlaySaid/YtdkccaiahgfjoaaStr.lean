/- Bytes as a string, and strings that are compared. Over any program. -/
import Derived.Test.YtdkccaiahgfjoaaBlk
import Derived.Laws.IdiomStrings
import Derived.Laws.BytesArg
namespace Go.Mun
open Go Go.RowKit

theorem run_str {P : Program} {w : World} {v : Value} {l : List UInt8} (hb : Bytes w v l) {src dst e : TypeId} (hs : P.underlying src = some (.slice e)) (he : P.underlying e = some (.int .u8)) (hd : P.underlying dst = some .string) :
    (convert src dst v).run P w = .ok (.string ⟨l.toArray⟩) w := by
  obtain ⟨A, n, c, rfl, h1, h2, h3, h4⟩ := hb
  subst h1
  cases A with
  | none =>
    have e : l = [] := by
      cases l with
      | nil => rfl
      | cons x l => obtain ⟨_, e, _⟩ := h4.byte (j := 0) (by simp); cases e
    subst e
    exact run_convert_bytes_nil w src _ hs he _ _ dst hd
  | some ad =>
    refine run_convert_bytes_back w src dst _ ad c l hs he hd fun j hj => ?_
    obtain ⟨_, e, h⟩ := h4.byte hj
    cases e
    exact h
theorem str_eq (l m : List UInt8) : ((⟨l.toArray⟩ : ByteArray) == ⟨m.toArray⟩) = decide (l = m) := by
  have h : ((⟨l.toArray⟩ : ByteArray) == ⟨m.toArray⟩) = (l.toArray == m.toArray) := rfl
  rw [h, Bool.eq_iff_iff]
  simp
theorem list_beq (l m : List UInt8) : (l == m) = decide (l = m) := by
  rw [Bool.eq_iff_iff]
  simp
theorem str_ne (l m : List UInt8) : ((⟨l.toArray⟩ : ByteArray) != ⟨m.toArray⟩) = !decide (l = m) := by
  rw [bne, str_eq]
end Go.Mun
