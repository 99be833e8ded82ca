/- '[]T{x}' of one element of many cells: a row of its own. Over any program. -/
import Derived.Test.YtdkccaiahgfjoaaBlk
namespace Go.Mun
open Go Go.RowKit

theorem foldl_fill (l : List Value) : ∀ (k : Nat) (Z : Array Value), k + l.length ≤ Z.size → ∀ j, ((l.zipIdx k).foldl (fun cs x => cs.setIfInBounds x.2 x.1) Z)[j]? = if k ≤ j ∧ j < k + l.length then l[j - k]? else Z[j]? := by
  induction l with
  | nil => intro k Z _ j; simp; omega
  | cons v l ih =>
    intro k Z hz j
    simp only [List.length_cons] at hz ⊢
    simp only [List.zipIdx_cons, List.foldl_cons]
    rw [ih (k + 1) _ (by simp; omega) j]
    by_cases h1 : k + 1 ≤ j ∧ j < k + 1 + l.length
    · rw [if_pos h1, if_pos (by omega), show j - k = (j - (k + 1)) + 1 from by omega]
      rfl
    · rw [if_neg h1, Array.getElem?_setIfInBounds]
      by_cases h2 : k = j
      · subst h2
        rw [if_pos rfl, if_pos (by omega), if_pos (by omega), Nat.sub_self]
        rfl
      · rw [if_neg h2, if_neg (by omega)]
theorem fold_fill (Z cs : Array Value) (h : Z.size = cs.size) : cs.zipIdx.foldl (fun cs x => cs.setIfInBounds (0 + x.2) x.1) Z = cs := by
  rw [← Array.foldl_toList]
  simp only [Nat.zero_add, Array.toList_zipIdx]
  apply Array.ext_getElem?
  intro j
  rw [foldl_fill cs.toList 0 Z (by simp [h]) j]
  by_cases hj : j < cs.size
  · rw [if_pos (by simpa using hj)]; simp
  · rw [if_neg (by simpa using hj), Array.getElem?_eq_none (by omega), Array.getElem?_eq_none (by omega)]

theorem run_row_one {P : Program} {t e : TypeId} {z : Value} {size bytes : Nat} (hT : SliceTy P t e z size bytes) (hs : size ≤ 16777216) (v : Value) (hv : v.cells.size = size) (w : World) :
    (Instr.buildSlice t 1 #[(0, v)]).run P w = .ok (.slice (some ⟨w.heap.size, 0, none⟩) 1 1) (w.alloc (.cells v.cells e)) := by
  obtain ⟨ht, i, hi, hz, hsz, hby, hzs, h0⟩ := hT
  have h1 : ¬ (1 * size > 2 ^ 24) := by omega
  have h2 : ¬ (1 * size = 0) := by omega
  have hf : Instr.fill (fun k => some (k * size, size)) ((Array.range (1 * size)).map (fun k => z.cells[k % z.cells.size]!)) [(0, v)] = some v.cells := by
    simp only [Instr.fill]
    rw [if_neg (by simp [hv])]
    congr 1
    simp only [Nat.zero_mul]
    exact fold_fill _ _ (by simp [hv])
  have h3 : size ≠ 0 := by omega
  have h4 : ¬ (16777216 < size) := by omega
  simp only [Nat.one_mul] at hf
  simp [Instr.buildSlice, run_underlying ht, sizeOf, typeInfo, hi, hsz, hz, zeroValue, h3, h4, newRow]
  rw [hf]
  rfl

/-- '[]T{x}' at an operation -/
theorem wpList_row_one {P : Program} {ops : Array Oper} {rest : List Oper} {o : Oper} {a : Act} {w : World} {Q : Exit → Act → World → Prop} (hgd : o.guard = none) {t e : TypeId} (x : Operand) (ho : o.op = .buildSlice t 1 #[(0, x)])
    {z : Value} {size bytes : Nat} (hT : SliceTy P t e z size bytes) (hs : size ≤ 16777216) {cs : Array Value} (hx : a.eval x = .agg cs) (hc : cs.size = size)
    (h : ∀ w', Blk w' w.heap.size e cs → Below w.heap.size w w' → w.heap.size < w'.heap.size → wpList P ops Q rest (a.put o.dst (.slice (some ⟨w.heap.size, 0, none⟩) 1 1)) w') : wpList P ops Q (o :: rest) a w := by
  refine wpList_plain hgd fun _ hK => ?_
  have hr := run_row_one hT hs (.agg cs) hc w
  unfold Oper.wp execOp
  simp only [ho, List.map_toArray, List.map_cons, List.map_nil, hx, Sem.run_bind, hr, Result.andThen_ok, Sem.run_pure]
  exact hK _ _ (h _ (Blk.new w e _) ((Below.refl _ _).alloc (Nat.le_refl _) _) (by simp))

/-- the same, whatever the element -/
theorem wpList_row_val {P : Program} {ops : Array Oper} {rest : List Oper} {o : Oper} {a : Act} {w : World} {Q : Exit → Act → World → Prop} (hgd : o.guard = none) {t e : TypeId} (x : Operand) (ho : o.op = .buildSlice t 1 #[(0, x)])
    {z : Value} {size bytes : Nat} (hT : SliceTy P t e z size bytes) (hs : size ≤ 16777216) {v : Value} (hx : a.eval x = v) (hc : v.cells.size = size)
    (h : ∀ w', Blk w' w.heap.size e v.cells → Below w.heap.size w w' → w.heap.size < w'.heap.size → wpList P ops Q rest (a.put o.dst (.slice (some ⟨w.heap.size, 0, none⟩) 1 1)) w') : wpList P ops Q (o :: rest) a w := by
  refine wpList_plain hgd fun _ hK => ?_
  have hr := run_row_one hT hs v hc w
  unfold Oper.wp execOp
  simp only [ho, List.map_toArray, List.map_cons, List.map_nil, hx, Sem.run_bind, hr, Result.andThen_ok, Sem.run_pure]
  exact hK _ _ (h _ (Blk.new w e _) ((Below.refl _ _).alloc (Nat.le_refl _) _) (by simp))

/-- '[]T{x, y}' of elements of one cell -/
theorem run_row_two {P : Program} {t e : TypeId} {z : Value} {bytes : Nat} (hT : SliceTy P t e z 1 bytes) (x y : Value) (hx : x.cells = #[x]) (hy : y.cells = #[y]) (w : World) :
    (Instr.buildSlice t 2 #[(0, x), (1, y)]).run P w = .ok (.slice (some ⟨w.heap.size, 0, none⟩) 2 2) (w.alloc (.cells #[x, y] e)) := by
  obtain ⟨ht, i, hi, hz, hsz, hby, hzs, h0⟩ := hT
  have hf : Instr.fill (fun k => some (k * 1, 1)) ((Array.range 2).map (fun k => z.cells[k % z.cells.size]!)) [(0, x), (1, y)] = some #[x, y] := by
    simp [Instr.fill, hx, hy, Array.range]
    apply Array.ext_getElem?
    intro j
    match j with
    | 0 => simp
    | 1 => simp
    | j + 2 => simp
  simp [Instr.buildSlice, run_underlying ht, sizeOf, typeInfo, hi, hsz, hz, zeroValue, newRow]
  simp only [Nat.mul_one] at hf
  rw [hf]
  rfl
theorem wpList_row_two {P : Program} {ops : Array Oper} {rest : List Oper} {o : Oper} {a : Act} {w : World} {Q : Exit → Act → World → Prop} (hgd : o.guard = none) {t e : TypeId} (x y : Operand) (ho : o.op = .buildSlice t 2 #[(0, x), (1, y)])
    {z : Value} {bytes : Nat} (hT : SliceTy P t e z 1 bytes) (_hs : 1 ≤ 16777216) {v u : Value} (hx : a.eval x = v) (hy : a.eval y = u) (hv : v.cells = #[v]) (hu : u.cells = #[u])
    (h : ∀ w', Blk w' w.heap.size e #[v, u] → Below w.heap.size w w' → w.heap.size < w'.heap.size → wpList P ops Q rest (a.put o.dst (.slice (some ⟨w.heap.size, 0, none⟩) 2 2)) w') : wpList P ops Q (o :: rest) a w := by
  refine wpList_plain hgd fun _ hK => ?_
  have hr := run_row_two hT v u hv hu w
  unfold Oper.wp execOp
  simp only [ho, List.map_toArray, List.map_cons, List.map_nil, hx, hy, Sem.run_bind, hr, Result.andThen_ok, Sem.run_pure]
  exact hK _ _ (h _ (Blk.new w e _) ((Below.refl _ _).alloc (Nat.le_refl _) _) (by simp))
end Go.Mun
