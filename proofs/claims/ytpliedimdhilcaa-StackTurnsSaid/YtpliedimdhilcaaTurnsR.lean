/- For 'StackTurns': the two regions that draw their order. -/
import Derived.Test.YtpliedimdhilcaaTurns
import Derived.Test.YtpliedimdhilcaaRegion
import Derived.Laws.OwnMore
namespace Go.Mun
open Go Go.RowKit Go.Proofs

/-- what each operation of the region writes -/
def ST17 (h n c k j d x y : Nat) : Nat → Value → World → Prop
  | 0, v, _ => v = .slice (some ⟨h, 0, none⟩) n c
  | 1, v, _ => v = .int .i64 (k : Nat)
  | 2, v, _ => v = .slice (some ⟨h, 0, none⟩) n c
  | 3, v, _ => v = .int .i64 (k : Nat)
  | 4, v, _ => v = .int .i64 (d : Nat)
  | 5, v, _ => v = .int .i64 (j : Nat)
  | 6, v, _ => v = .slice (some ⟨h, 0, none⟩) n c
  | 7, v, _ => v = .int .i64 (k : Nat)
  | 8, v, _ => v = .int .i64 (d : Nat)
  | 9, v, _ => v = .int .i64 (j : Nat)
  | 10, v, _ => v = .pointer (some ⟨h, j, none⟩)
  | 11, v, _ => v = .int .i64 (y : Nat)
  | 12, v, _ => v = .slice (some ⟨h, 0, none⟩) n c
  | 13, v, _ => v = .int .i64 (k : Nat)
  | 14, v, _ => v = .pointer (some ⟨h, k, none⟩)
  | 15, v, _ => v = .int .i64 (x : Nat)
  | 16, v, _ => v = .pointer (some ⟨h, k, none⟩)
  | 17, _, _ => True
  | 18, v, _ => v = .pointer (some ⟨h, j, none⟩)
  | _, _, _ => True
theorem ST17_stays (h n c k j d x y : Nat) : ∀ i v (wa wb : World), wa.grownBy wb (some h) → ST17 h n c k j d x y i v wa → ST17 h n c k j d x y i v wb
  | 0, _, _, _, _, h => h
  | 1, _, _, _, _, h => h
  | 2, _, _, _, _, h => h
  | 3, _, _, _, _, h => h
  | 4, _, _, _, _, h => h
  | 5, _, _, _, _, h => h
  | 6, _, _, _, _, h => h
  | 7, _, _, _, _, h => h
  | 8, _, _, _, _, h => h
  | 9, _, _, _, _, h => h
  | 10, _, _, _, _, h => h
  | 11, _, _, _, _, h => h
  | 12, _, _, _, _, h => h
  | 13, _, _, _, _, h => h
  | 14, _, _, _, _, h => h
  | 15, _, _, _, _, h => h
  | 16, _, _, _, _, h => h
  | 17, _, _, _, _, h => h
  | 18, _, _, _, _, h => h
  | _ + 19, _, _, _, _, h => h
/-- how far the exchange has come -/
def JT17 (base h n c : Nat) (l0 l1 l2 : List Nat) (L : Nat → Bool) (_ : Nat → Value) (w : World) : Prop :=
  (L 17 = false → w.ownsRow base 3 1 (.slice (some ⟨h, 0, none⟩) n c) n (irow l0)) ∧ (L 17 = true → L 19 = false → w.ownsRow base 3 1 (.slice (some ⟨h, 0, none⟩) n c) n (irow l1)) ∧
  (L 19 = true → w.ownsRow base 3 1 (.slice (some ⟨h, 0, none⟩) n c) n (irow l2))
theorem JT17_far (base h n c : Nat) (l0 l1 l2 : List Nat) {L : Nat → Bool} {V : Nat → Value} {w : World} (hJ : JT17 base h n c l0 l1 l2 L V w) {k : Nat} {v : Value} (h17 : (17 : Nat) ≠ k) (h19 : (19 : Nat) ≠ k) : JT17 base h n c l0 l1 l2 (updL L k) (upd V k v) w := by
  unfold JT17 at hJ ⊢
  simp only [updL_ne h17, updL_ne h19]
  exact hJ

/-- what each operation of the region writes -/
def ST24 (h n c h3 c3 j x : Nat) : Nat → Value → World → Prop
  | 0, v, _ => v = .bool true
  | 1, v, _ => v = .bool false
  | 2, v, _ => v = .bool false
  | 3, v, _ => v = .slice (some ⟨h3, 0, none⟩) 1 c3
  | 4, v, _ => v = .int .i64 1
  | 5, v, _ => v = .bool false
  | 6, v, _ => v = .bool false
  | 7, v, _ => v = .bool false
  | 8, v, _ => v = .slice (some ⟨h3, 0, none⟩) 1 c3
  | 9, v, _ => v = .pointer (some ⟨h3, 0, none⟩)
  | 10, v, _ => v = .agg (wcells x)
  | 11, v, _ => v = .slice (some ⟨h, 0, none⟩) n c
  | 12, v, _ => v = .int .i64 (j : Nat)
  | 13, v, _ => v = .pointer (some ⟨h, j, none⟩)
  | 14, v, _ => v = .int .i64 (x : Nat)
  | 15, v, _ => v = .agg (wcells x)
  | 16, v, _ => v = .bool false
  | _, v, _ => v = .bool false
theorem ST24_stays (h n c h3 c3 j x : Nat) : ∀ i v (wa wb : World), Below wa.heap.size wa wb → ST24 h n c h3 c3 j x i v wa → ST24 h n c h3 c3 j x i v wb
  | 0, _, _, _, _, h => h
  | 1, _, _, _, _, h => h
  | 2, _, _, _, _, h => h
  | 3, _, _, _, _, h => h
  | 4, _, _, _, _, h => h
  | 5, _, _, _, _, h => h
  | 6, _, _, _, _, h => h
  | 7, _, _, _, _, h => h
  | 8, _, _, _, _, h => h
  | 9, _, _, _, _, h => h
  | 10, _, _, _, _, h => h
  | 11, _, _, _, _, h => h
  | 12, _, _, _, _, h => h
  | 13, _, _, _, _, h => h
  | 14, _, _, _, _, h => h
  | 15, _, _, _, _, h => h
  | 16, _, _, _, _, h => h
  | _ + 17, _, _, _, _, h => h

theorem drop_take_one {l : List Nat} {k x : Nat} (h : l[k]? = some x) : ((l.take (k + 1)).drop k).reverse = [x] := by
  obtain ⟨hk, hx⟩ := List.getElem?_eq_some_iff.1 h
  have : (l.take (k + 1)).drop k = [x] := by
    rw [List.drop_take, List.drop_eq_getElem_cons hk, hx, show k + 1 - k = 1 from by omega]
    simp
  rw [this]
  rfl
/-- a load out of the middle of a row, at an operation with a guard that is wanted -/
theorem wpList_load_mid_want {P : Program} {ops : Array Oper} {rest : List Oper} {op : Oper} {a : Act} {w : World} {Q : Exit → Act → World → Prop} (hw : Region.wanted op (yielded ops a.tmps) = true) (ty : TypeId) (x : Operand) (ho : op.op = .load ty x)
    (b o : Nat) (hx : a.eval x = .pointer (some ⟨b, o, none⟩)) (cs : List Value) (d : TypeDesc) (hc : w.rangeAt b o cs)
    (hu : P.underlying ty = some d) (hd : d.isRow = true) (hi : (P.info? ty).map (·.size) = some cs.length)
    (h : wpList P ops Q rest (a.put op.dst (.agg cs.toArray)) w) : wpList P ops Q (op :: rest) a w :=
  wpList_step fun K hK => by
    rw [if_pos hw]
    exact wp_load_mid ty x ho b o hx cs d hc hu hd hi (hK _ _ h)
end Go.Mun
