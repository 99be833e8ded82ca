/- Just so many operations go well: plainly. -/
import Derived.Test.YtdkccaiahgfjoaaFsPlain3
namespace Go.Mun
open Go Go.RowKit

abbrev cNone : Ky := [110, 111, 110, 101]
abbrev cB : Ky := [98]
/-- behind i operations, of which op go well -/
structure PlOk (op i : Nat) (M : FSs) : Prop where
  live : i ≤ op → M.dead = false ∧ M.op = (op : Int) - i ∧ M.ops = 1 + (i : Int) ∧ (getP M.now cA).isSome = true ∧ getP M.now cNone = none
  gone : op < i → M.dead = true ∧ M.ops = 1 + (op : Int)
theorem pl0 (op : Nat) : PlOk op 0 (planM (appM newM cA [120]) (op : Int) 0 []) := by
  refine ⟨fun _ => ⟨rfl, ?_, rfl, rfl, rfl⟩, fun h => absurd h (Nat.not_lt_zero _)⟩
  show max (-1) (op : Int) = (op : Int) - ((0 : Nat) : Int)
  omega
section
variable {op i : Nat} {M : FSs}
theorem PlOk.noneB (h : PlOk op i M) : isB M cNone = false := by
  unfold isB
  by_cases hi : i ≤ op
  · rw [(h.live hi).2.2.2.2]; simp
  · rw [(h.gone (by omega)).1]; rfl
theorem PlOk.empty (M : FSs) : appOk M [] = false := appOk_name (by decide)
theorem PlOk.isA (h : PlOk op i M) : isB M cA = !M.dead := by
  unfold isB
  by_cases hi : i ≤ op
  · rw [(h.live hi).2.2.2.1]; simp
  · rw [(h.gone (by omega)).1]; rfl
theorem PlOk.app (h : PlOk op i M) : appOk M cA = !M.dead := by
  by_cases hi : i ≤ op
  · obtain ⟨j, hj⟩ := Option.isSome_iff_exists.1 (h.live hi).2.2.2.1
    rw [appOk_old (h.live hi).1 (by decide) hj, (h.live hi).1]; rfl
  · rw [appOk_dead (h.gone (by omega)).1, (h.gone (by omega)).1]; rfl
theorem PlOk.ren (h : PlOk op i M) : (isB M cA && namedB cA) = !M.dead := by rw [h.isA, show namedB cA = true from by decide, Bool.and_true]
theorem PlOk.goes (h : PlOk op i M) {X : Bool} (hX : X = !M.dead) : goesB M X = decide (i < op) := by
  unfold goesB
  rw [hX]
  by_cases hi : i ≤ op
  · obtain ⟨h1, h2, _⟩ := h.live hi
    rw [h1]
    by_cases h3 : i = op
    · rw [failsB_yes (by rw [h2]; omega), decide_eq_false (by omega)]; rfl
    · rw [failsB_no (by rw [h2]; omega), decide_eq_true (by omega)]; rfl
  · rw [(h.gone (by omega)).1, decide_eq_false (by omega)]; rfl
theorem PlOk.next (h : PlOk op i M) {X : Bool} (hX : X = !M.dead) {g : FSs → FSs} (hg : ∀ M1 : FSs, (getP M1.now cA).isSome = true → getP M1.now cNone = none → (g M1).dead = M1.dead ∧ (g M1).op = M1.op ∧ (g M1).ops = M1.ops ∧ (g M1).now = M1.now) : PlOk op (i + 1) (thenM M X g) := by
  by_cases hi : i ≤ op
  · obtain ⟨h1, h2, h3, h4, h5⟩ := h.live hi
    by_cases h6 : i = op
    · rw [thenM_off (by rw [hX, h1]; rfl) (failsB_yes (by rw [h2]; omega)), show failsM M = crashM M from if_pos (by rw [h2]; omega)]
      exact ⟨fun h => absurd h (by omega), fun _ => ⟨rfl, by show M.ops = _; rw [h3, h6]⟩⟩
    · have hf : failsB M = false := failsB_no (by rw [h2]; omega)
      rw [thenM_go (by rw [hX, h1]; rfl) hf]
      obtain ⟨g1, g2, g3, g4⟩ := hg (failsM M) (by rw [goes_now hf]; exact h4) (by rw [goes_now hf]; exact h5)
      refine ⟨fun h7 => ⟨?_, ?_, ?_, ?_, ?_⟩, fun h => absurd h (by omega)⟩
      · rw [g1, failsM_no (of_decide_eq_false hf)]; exact h1
      · rw [g2, failsM_no (of_decide_eq_false hf)]
        show max (-1) (M.op - 1) = _
        rw [h2]; omega
      · rw [g3, failsM_no (of_decide_eq_false hf)]
        show M.ops + 1 = _
        rw [h3]; omega
      · rw [g4, goes_now hf]; exact h4
      · rw [g4, goes_now hf]; exact h5
  · rw [thenM_no (by rw [hX, (h.gone (by omega)).1]; rfl)]
    exact ⟨fun h => absurd h (by omega), fun _ => h.gone (by omega)⟩
theorem PlOk.appN (h : PlOk op i M) (b : List UInt8) : PlOk op (i + 1) (appM M cA b) := h.next h.app fun M1 h1 _ => by
  obtain ⟨j, hj⟩ := Option.isSome_iff_exists.1 h1
  unfold app1
  rw [hj]
  exact ⟨rfl, rfl, rfl, rfl⟩
theorem PlOk.syncN (h : PlOk op i M) : PlOk op (i + 1) (syncM M cA) := h.next h.isA fun M1 h1 _ => by
  obtain ⟨j, hj⟩ := Option.isSome_iff_exists.1 h1
  unfold sync1
  rw [hj]
  exact ⟨rfl, rfl, rfl, rfl⟩
theorem PlOk.dirN (h : PlOk op i M) : PlOk op (i + 1) (dirM M) := h.next rfl fun _ _ _ => ⟨rfl, rfl, rfl, rfl⟩
theorem PlOk.renN (h : PlOk op i M) : PlOk op (i + 1) (renM M cA cA) := h.next h.ren fun M1 _ _ => by
  unfold ren1
  rw [if_pos rfl]
  exact ⟨rfl, rfl, rfl, rfl⟩
theorem PlOk.sync0 (h : PlOk op i M) : syncM M cNone = M := thenM_no h.noneB
theorem PlOk.del0 (h : PlOk op i M) : delM M cNone = M := thenM_no h.noneB
theorem PlOk.ren0 (h : PlOk op i M) : renM M cNone cB = M := thenM_no (by rw [h.noneB]; rfl)
theorem PlOk.app0 (_h : PlOk op i M) : appM M [] [] = M := thenM_no (PlOk.empty M)
theorem goes_no {M : FSs} {X : Bool} (h : X = false) : goesB M X = false := by unfold goesB; rw [h]; rfl
end
end Go.Mun
