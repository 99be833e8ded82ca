/- For 'StackTurns': a stack and a row of ints beside it. -/
import Derived.Test.YtpliedimdhilcaaPop
namespace Go.Mun
open Go Go.RowKit Go.Proofs

def irow (l : List Nat) : List Value := l.map fun x => .int .i64 (x : Nat)
theorem irow_length (l : List Nat) : (irow l).length = l.length := by simp [irow]
theorem irow_append (l l' : List Nat) : irow (l ++ l') = irow l ++ irow l' := by simp [irow]
theorem irow_get {l : List Nat} {k x : Nat} (h : l[k]? = some x) : (irow l)[k]? = some (.int .i64 (x : Nat)) := by simp [irow, h]
theorem irow_set (l : List Nat) (k x : Nat) : irow (l.set k x) = (irow l).set k (.int .i64 (x : Nat)) := by simp [irow, List.map_set]
theorem intsTy : SliceTy Try.prog 33 3 (.int .i64 0) 1 8 := SliceTy.mk' Try.underlying33 (by kernel_rfl) rfl (by decide)

/-- the row v is not block r -/
def NotRow (r : Option Nat) (v : Value) : Prop := ∀ x, v.ownBlock = some x → r ≠ some x
theorem NotRow.nil (r : Option Nat) : NotRow r (.slice none 0 0) := fun x h => by cases h
theorem own_way2 {w w' : World} {base g size n : Nat} {e : TypeId} {v : Value} {xs : List Value} {r : Option Nat} (h : w.ownsRow base e size v n xs) (hw : Way2 g r w w') (hg : g < base) (hr : NotRow r v) : w'.ownsRow base e size v n xs := by
  refine ⟨h.1, ?_⟩
  rcases h.2 with hn | ⟨g', cap, cur, rfl, hb, hh, rest⟩
  · exact .inl hn
  · have hlt : g' < w.heap.size := (h.lt g' rfl).2
    exact .inr ⟨g', cap, cur, rfl, hb, (hw.block g' hlt (by omega) (fun e => hr g' rfl e.symm)).trans hh, rest⟩
theorem NotRow.moved {w : World} {base size n : Nat} {e : TypeId} {v : Value} {xs : List Value} {r r' : Option Nat} (h : NotRow r v) (ho : w.ownsRow base e size v n xs) (hm : Moved w r r') : NotRow r' v := by
  intro x hx e'
  rcases hm with e1 | ⟨b, e1, hb⟩
  · exact h x hx (e1 ▸ e')
  · rw [e1] at e'
    injection e' with e'
    have := (ho.lt x hx).2
    omega
theorem NotRow.ext {w w' : World} {base size n : Nat} {e : TypeId} {v : Value} {xs : List Value} {r r' : Option Nat} (h : NotRow r v) (ho : w.ownsRow base e size v n xs) (hb : w.heap.size ≤ w'.heap.size) (hm : Moved w' r r') : NotRow r' v := by
  intro x hx e'
  rcases hm with e1 | ⟨b, e1, hb'⟩
  · exact h x hx (e1 ▸ e')
  · rw [e1] at e'
    injection e' with e'
    have := (ho.lt x hx).2
    omega
theorem StR.row_lt {w : World} {g base : Nat} {l : List Nat} {r : Option Nat} (h : StR w g base l r) : ∀ x, r = some x → base ≤ x ∧ x < w.heap.size := by
  obtain ⟨A, c, e, _, h2⟩ := h
  intro x hx
  exact h2.lt x (e.trans hx)
/-- a stack beside a row that grows -/
theorem StR.beside {w w' : World} {g base : Nat} {l : List Nat} {r : Option Nat} {v : Value} (h : StR w g base l r) (hg : w.grownBy w' v.ownBlock) (hgb : v.ownBlock ≠ some g) (hn : NotRow r v) : StR w' g base l r := by
  obtain ⟨A, c, e, h1, h2⟩ := h
  refine ⟨A, c, e, h1.grown hg (fun e' => hgb e'.symm), h2.kept hg ?_⟩
  cases hv : v.ownBlock with
  | none =>
    cases ho : Value.ownBlock (.slice A l.length c) with
    | none => exact .inl rfl
    | some x => exact .inr (by simp)
  | some x =>
    refine .inr fun e' => ?_
    exact hn x hv (e.symm.trans e')
theorem NotRow.app {w : World} {g base : Nat} {l : List Nat} {r : Option Nat} {v v' : Value} (h : StR w g base l r) (hn : NotRow r v) (hat : v'.ownBlock = v.ownBlock ∨ v'.ownBlock = some w.heap.size) : NotRow r v' := by
  intro x hx e
  rcases hat with e1 | e1
  · exact hn x (e1 ▸ hx) e
  · rw [e1] at hx
    injection hx with hx
    have := (h.row_lt x e).2
    omega
theorem own_ne_low {w : World} {base g : Nat} {e : TypeId} {size n : Nat} {v : Value} {xs : List Value} (ho : w.ownsRow base e size v n xs) (hg : g < base) : v.ownBlock ≠ some g := fun e' => by
  have := (ho.lt g e').1
  omega
theorem pushed_range {k : Nat} (h : k < 1024) : pushed (List.range k) k = List.range (k + 1) := by
  unfold pushed
  rw [List.length_range, if_pos h, List.range_succ]
end Go.Mun
