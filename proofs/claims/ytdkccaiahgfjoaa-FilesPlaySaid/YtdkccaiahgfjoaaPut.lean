/- Cells written into a row of the call's own. -/
import Derived.Test.YtdkccaiahgfjoaaBlk
import Derived.Deep.MidRow
namespace Go.Mun
open Go Go.RowKit

/-- cells written into an array from a place on -/
def putAt (cur : Array Value) : Nat → List Value → Array Value
  | _, [] => cur
  | o, v :: r => putAt (cur.setIfInBounds o v) (o + 1) r
theorem putAt_size (cs : List Value) : ∀ (cur : Array Value) (o : Nat), (putAt cur o cs).size = cur.size := by
  induction cs with
  | nil => intros; rfl
  | cons v r ih => intro cur o; show (putAt (cur.setIfInBounds o v) (o + 1) r).size = _; rw [ih]; simp
theorem putAt_get (cs : List Value) : ∀ (cur : Array Value) (o : Nat), o + cs.length ≤ cur.size → ∀ j, (putAt cur o cs)[j]? = if o ≤ j ∧ j < o + cs.length then cs[j - o]? else cur[j]? := by
  induction cs with
  | nil => intro cur o _ j; rw [if_neg (by simp only [List.length_nil]; omega)]; rfl
  | cons v r ih =>
    intro cur o h j
    simp only [List.length_cons] at h ⊢
    show (putAt (cur.setIfInBounds o v) (o + 1) r)[j]? = _
    rw [ih _ _ (by simp; omega)]
    by_cases h1 : o + 1 ≤ j ∧ j < o + 1 + r.length
    · rw [if_pos h1, if_pos (by omega), show j - o = (j - (o + 1)) + 1 from by omega]; rfl
    · rw [if_neg h1, Array.getElem?_setIfInBounds]
      by_cases h2 : o = j
      · subst h2
        rw [if_pos rfl, if_pos (by omega), if_pos (by omega), Nat.sub_self]; rfl
      · rw [if_neg h2, if_neg (by omega)]
theorem putAt_take (cur : Array Value) (o m : Nat) (cs : List Value) (h : o + cs.length ≤ m) (hm : m ≤ cur.size) : (putAt cur o cs).toList.take m = (cur.toList.take m).take o ++ cs ++ (cur.toList.take m).drop (o + cs.length) := by
  apply List.ext_getElem?
  intro j
  rw [List.getElem?_take]
  by_cases hj : j < m
  · rw [if_pos hj, Array.getElem?_toList, putAt_get cs cur o (by omega)]
    by_cases h1 : j < o
    · rw [if_neg (by omega), List.append_assoc, List.getElem?_append_left (by simp; omega), List.getElem?_take, if_pos h1, List.getElem?_take, if_pos hj, Array.getElem?_toList]
    · have ht : ((cur.toList.take m).take o).length = o := by simp; omega
      by_cases h2 : j < o + cs.length
      · rw [if_pos (by omega), List.append_assoc, List.getElem?_append_right (by rw [ht]; omega), ht, List.getElem?_append_left (by omega)]
      · rw [if_neg (by omega), List.getElem?_append_right (by rw [List.length_append, ht]; omega), List.length_append, ht, List.getElem?_drop, List.getElem?_take,
          show o + cs.length + (j - (o + cs.length)) = j from by omega, if_pos hj, Array.getElem?_toList]
  · rw [if_neg hj, List.getElem?_eq_none]
    simp
    omega
theorem heap_putAt (h : Nat) (e : TypeId) (cs : List Value) : ∀ (o : Nat) (w : World) (cur : Array Value), w.heap[h]? = some (.cells cur e (0, 0)) → (w.setCells h o cs).heap[h]? = some (.cells (putAt cur o cs) e (0, 0)) := by
  induction cs with
  | nil => intro o w cur hh; exact hh
  | cons v r ih =>
    intro o w cur hh
    exact ih (o + 1) _ _ (heap_setCell_same w h o cur e v hh)
theorem grown_setCells (h : Nat) (cs : List Value) : ∀ (o : Nat) (w : World), w.grownBy (w.setCells h o cs) (some h) := by
  induction cs with
  | nil => intro o w; exact World.grownBy.refl w _
  | cons v r ih =>
    intro o w
    exact World.grownBy.trans (grownBy_setCell w ⟨h, o, none⟩ v) (ih (o + 1) _)
/-- cells written into a row of the call's own -/
theorem own_put {w : World} {base h n c size : Nat} {e : TypeId} {xs : List Value} (ho : w.ownsRow base e size (.slice (some ⟨h, 0, none⟩) n c) n xs) (o : Nat) (cs : List Value) (hfit : o + cs.length ≤ n * size) :
    (w.setCells h o cs).ownsRow base e size (.slice (some ⟨h, 0, none⟩) n c) n (xs.take o ++ cs ++ xs.drop (o + cs.length)) ∧ w.there h o cs.length := by
  obtain ⟨h1, h2⟩ := ho
  rcases h2 with ⟨e1, _⟩ | ⟨g, cap, cur, e1, hb, hh, hc, hm, hs, ht⟩
  · cases e1
  · injection e1 with e1 e2 e3
    injection e1 with e1
    injection e1 with e1
    subst e1 e3
    have hle : n * size ≤ cur.size := by rw [hs]; exact Nat.mul_le_mul_right _ hc
    refine ⟨⟨?_, .inr ⟨h, c, putAt cur o cs, rfl, hb, heap_putAt h e cs o w cur hh, hc, hm, by rw [putAt_size, hs], ?_⟩⟩, ?_⟩
    · simp only [List.length_append, List.length_take, List.length_drop]; omega
    · rw [putAt_take cur o (n * size) cs hfit hle, ht]
    · intro j hj
      refine ⟨?_, frozen_of_row w h (o + j) cur e hh⟩
      rw [cell_of_row w h (o + j) cur e (0, 0) hh, Array.getElem?_eq_getElem (by omega)]
      rfl
/-- 'row[k] = x', of an element of several cells -/
theorem wpList_store_row {P : Program} {w : World} {ops : Array Oper} {rest : List Oper} {o : Oper} {a : Act} {Q : Exit → Act → World → Prop} (hgd : o.guard = none) (ty : TypeId) (x y : Operand) (ho : o.op = .store ty x y)
    {base h n c k size : Nat} {e : TypeId} {xs : List Value} {cells : Array Value} (hown : w.ownsRow base e size (.slice (some ⟨h, 0, none⟩) n c) n xs) (hk : k < n) (hsz : cells.size = size) (hx : a.eval x = .pointer (some ⟨h, k * size, none⟩)) (hy : a.eval y = .agg cells)
    (hi : (P.info? ty).map (·.size) = some cells.size) (h1 : oneAll cells.toList = true)
    (H : ∀ w', w'.ownsRow base e size (.slice (some ⟨h, 0, none⟩) n c) n (xs.take (k * size) ++ cells.toList ++ xs.drop ((k + 1) * size)) → w.grownBy w' (some h) → wpList P ops Q rest (a.put o.dst undef) w') : wpList P ops Q (o :: rest) a w := by
  have hle : (k + 1) * size ≤ n * size := Nat.mul_le_mul_right _ hk
  rw [Nat.add_mul, Nat.one_mul] at hle
  obtain ⟨g1, g2⟩ := own_put hown (k * size) cells.toList (by rw [Array.length_toList, hsz]; exact hle)
  rw [Array.length_toList, hsz, show k * size + size = (k + 1) * size from by rw [Nat.add_mul, Nat.one_mul]] at g1
  refine wpList_store_mid hgd _ x y ho h (k * size) cells hx hy (by rwa [Array.length_toList] at g2) hi (Array.all_eq_true_iff_forall_mem.2 fun u hu => oneAll_mem h1 u (by simpa using hu)) ?_
  exact H _ g1 (grown_setCells h _ _ _)
/-- 's.f = x', of a field of several cells -/
theorem wpList_store_part {P : Program} {w : World} {ops : Array Oper} {rest : List Oper} {op : Oper} {a : Act} {Q : Exit → Act → World → Prop} (hgd : op.guard = none) (ty : TypeId) (x y : Operand) (ho : op.op = .store ty x y)
    {g o : Nat} {t : TypeId} {cs cells : Array Value} (hb : Blk w g t cs) (hfit : o + cells.size ≤ cs.size) (hx : a.eval x = .pointer (some ⟨g, o, none⟩)) (hy : a.eval y = .agg cells)
    (hi : (P.info? ty).map (·.size) = some cells.size) (h1 : oneAll cells.toList = true)
    (H : ∀ w', Blk w' g t (putAt cs o cells.toList) → w.grownBy w' (some g) → wpList P ops Q rest (a.put op.dst undef) w') : wpList P ops Q (op :: rest) a w := by
  refine wpList_store_mid hgd ty x y ho g o cells hx hy (fun j hj => ⟨?_, hb.frozen (o + j)⟩) hi (Array.all_eq_true_iff_forall_mem.2 fun u hu => oneAll_mem h1 u (by simpa using hu)) (H _ (heap_putAt g t _ o w cs hb) (grown_setCells g _ _ _))
  rw [hb.cell, Array.getElem?_eq_getElem (by omega)]
  rfl
end Go.Mun
