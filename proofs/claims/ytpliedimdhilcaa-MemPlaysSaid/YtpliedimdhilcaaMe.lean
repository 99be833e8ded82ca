/- A memory of bytes with its row's block. -/
import Derived.Test.YtpliedimdhilcaaMemAlive
import Derived.Test.YtpliedimdhilcaaTurns
import Derived.Test.YtpliedimdhilcaaRefInt
import Derived.Test.YtpliedimdhilcaaGasRef
namespace Go.Mun
open Go Go.RowKit Go.Proofs

/-- a memory of the bytes l in block g; its row is block r -/
def MeR (ty : TypeId) (w : World) (g base : Nat) (l : List UInt8) (r : Option Nat) : Prop :=
  ∃ A c, Value.ownBlock (.slice A l.length c) = r ∧ Blk w g ty #[.slice A l.length c] ∧ w.ownsRow base 5 1 (.slice A l.length c) l.length (bv l)
theorem MeR.ext {ty : TypeId} {w w' : World} {g base : Nat} {l : List UInt8} {r : Option Nat} (h : MeR ty w g base l r) (hb : Below w.heap.size w w') : MeR ty w' g base l r := by
  obtain ⟨A, c, h0, h1, h2⟩ := h
  exact ⟨A, c, h0, h1.ext hb, own_ext h2 hb⟩
theorem MeR.row_lt {ty : TypeId} {w : World} {g base : Nat} {l : List UInt8} {r : Option Nat} (h : MeR ty w g base l r) : ∀ x, r = some x → base ≤ x ∧ x < w.heap.size := by
  obtain ⟨A, c, e, _, h2⟩ := h
  intro x hx
  exact h2.lt x (e.trans hx)
/-- may it grow so? -/
def growOk (a k : Nat) : Bool := decide (k = 0) || (decide (a ≤ 1048576) && decide (k ≤ 1048576 - a))
/-- how many words it has then -/
def growQ (l : List UInt8) (a k : Nat) : Nat := if k ≠ 0 ∧ a ≤ 1048576 ∧ k ≤ 1048576 - a then max (l.length / 32) ((a + k + 31) / 32) else l.length / 32
def grownTo (l : List UInt8) (a k : Nat) : List UInt8 := l ++ List.replicate (32 * (growQ l a k - l.length / 32)) 0
def growGas (l : List UInt8) (a k : Nat) : Int := memCost (growQ l a k) - memCost ((l.length / 32 : Nat) : Int)
theorem growQ_bd {l : List UInt8} {a k : Nat} (h : l.length ≤ 1048576) : l.length / 32 ≤ growQ l a k ∧ growQ l a k ≤ 32768 := by
  unfold growQ
  split <;> omega
theorem grownTo_length {l : List UInt8} {a k q : Nat} (hq : l.length = 32 * q) (h : l.length ≤ 1048576) : (grownTo l a k).length = 32 * growQ l a k := by
  have := growQ_bd (a := a) (k := k) h
  unfold grownTo
  rw [List.length_append, List.length_replicate]
  omega
theorem bv_zeros (n : Nat) : bv (List.replicate n 0) = List.replicate n (.int .u8 0) := by
  unfold bv
  rw [List.map_replicate]
  rfl
/-- what Int tells -/
def iw (a : Nat) : Nat := if a < 2 ^ 63 then a else 0
theorem iw_lt (a : Nat) : iw a < 2 ^ 63 := by unfold iw; split <;> omega
theorem Int_all (a : Nat) (w : World) (ha : a < 2 ^ 256) : Calls Try.prog 40 #[.agg (wcells a)] w fun e w' => e = .returned (.tuple #[.int .i64 (iw a : Nat), .bool (decide (a < 2 ^ 63))]) ∧ Below w.heap.size w w' := by
  by_cases h : a < 2 ^ 63
  · rw [decide_eq_true h, show iw a = a from if_pos h]
    exact Int_yes a w h
  · rw [decide_eq_false h, show iw a = 0 from if_neg h]
    exact Int_no a w ha h
theorem RefInt_all (a : Nat) (w : World) (ha : a < 2 ^ 256) : Calls Try.prog 53 #[.agg (wcells a)] w fun e w' => e = .returned (.tuple #[.int .i64 (iw a : Nat), .bool (decide (a < 2 ^ 63))]) ∧ Below w.heap.size w w' := by
  by_cases h : a < 2 ^ 63
  · rw [decide_eq_true h, show iw a = a from if_pos h]
    exact RefInt_yes a w h
  · rw [decide_eq_false h, show iw a = 0 from if_neg h]
    exact RefInt_no a w ha h
/-- why it may not -/
theorem grow_why {a k : Nat} (h : ¬(a ≤ 1048576 ∧ k ≤ 1048576 - a)) :
    decide (a < 2 ^ 63) = false ∨ (decide (a < 2 ^ 63) = true ∧ decide (k < 2 ^ 63) = false) ∨ (decide (a < 2 ^ 63) = true ∧ decide (k < 2 ^ 63) = true ∧ 1048576 < iw a) ∨
    (decide (a < 2 ^ 63) = true ∧ decide (k < 2 ^ 63) = true ∧ iw a ≤ 1048576 ∧ 1048576 < iw k) ∨ (decide (a < 2 ^ 63) = true ∧ decide (k < 2 ^ 63) = true ∧ iw a ≤ 1048576 ∧ iw k ≤ 1048576 ∧ 1048576 < iw a + iw k) := by
  by_cases h1 : a < 2 ^ 63
  · by_cases h2 : k < 2 ^ 63
    · have e1 : iw a = a := if_pos h1
      have e2 : iw k = k := if_pos h2
      rw [decide_eq_true h1, decide_eq_true h2, e1, e2]
      simp only [true_and]
      omega
    · rw [decide_eq_true h1, decide_eq_false h2]
      exact .inr (.inl ⟨rfl, rfl⟩)
  · rw [decide_eq_false h1]
    exact .inl rfl
end Go.Mun
