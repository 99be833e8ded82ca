/- Words written into a row of words. -/
import Derived.Test.YtpliedimdhilcaaDup
namespace Go.Mun
open Go Go.RowKit Go.Proofs

/-- cells written into an array from a place on -/
def putAt (cur : Array Value) : Nat → List Value → Array Value
  | _, [] => cur
  | o, v :: r => putAt (cur.setIfInBounds o v) (o + 1) r
theorem putAt_size (cs : List Value) : ∀ (cur : Array Value) (o : Nat), (putAt cur o cs).size = cur.size := by
  induction cs with
  | nil => intros; rfl
  | cons v r ih => intro cur o; show (putAt (cur.setIfInBounds o v) (o + 1) r).size = _; rw [ih]; simp
theorem putAt_get (cs : List Value) : ∀ (cur : Array Value) (o : Nat), o + cs.length ≤ cur.size → ∀ j, (putAt cur o cs)[j]? = if o ≤ j ∧ j < o + cs.length then cs[j - o]? else cur[j]? := by
  induction cs with
  | nil => intro cur o _ j; rw [if_neg (by simp only [List.length_nil]; omega)]; rfl
  | cons v r ih =>
    intro cur o h j
    simp only [List.length_cons] at h ⊢
    show (putAt (cur.setIfInBounds o v) (o + 1) r)[j]? = _
    rw [ih _ _ (by simp; omega)]
    by_cases h1 : o + 1 ≤ j ∧ j < o + 1 + r.length
    · rw [if_pos h1, if_pos (by omega), show j - o = (j - (o + 1)) + 1 from by omega]; rfl
    · rw [if_neg h1, Array.getElem?_setIfInBounds]
      by_cases h2 : o = j
      · subst h2
        rw [if_pos rfl, if_pos (by omega), if_pos (by omega), Nat.sub_self]; rfl
      · rw [if_neg h2, if_neg (by omega)]
theorem putAt_take (cur : Array Value) (o m : Nat) (cs : List Value) (h : o + cs.length ≤ m) (hm : m ≤ cur.size) : (putAt cur o cs).toList.take m = (cur.toList.take m).take o ++ cs ++ (cur.toList.take m).drop (o + cs.length) := by
  apply List.ext_getElem?
  intro j
  rw [List.getElem?_take]
  by_cases hj : j < m
  · rw [if_pos hj, Array.getElem?_toList, putAt_get cs cur o (by omega)]
    by_cases h1 : j < o
    · rw [if_neg (by omega), List.append_assoc, List.getElem?_append_left (by simp; omega), List.getElem?_take, if_pos h1, List.getElem?_take, if_pos hj, Array.getElem?_toList]
    · have ht : ((cur.toList.take m).take o).length = o := by simp; omega
      by_cases h2 : j < o + cs.length
      · rw [if_pos (by omega), List.append_assoc, List.getElem?_append_right (by rw [ht]; omega), ht, List.getElem?_append_left (by omega)]
      · rw [if_neg (by omega), List.getElem?_append_right (by rw [List.length_append, ht]; omega), List.length_append, ht, List.getElem?_drop, List.getElem?_take,
          show o + cs.length + (j - (o + cs.length)) = j from by omega, if_pos hj, Array.getElem?_toList]
  · rw [if_neg hj, List.getElem?_eq_none]
    simp
    omega
theorem heap_putAt (h : Nat) (e : TypeId) (cs : List Value) : ∀ (o : Nat) (w : World) (cur : Array Value), w.heap[h]? = some (.cells cur e (0, 0)) → (w.setCells h o cs).heap[h]? = some (.cells (putAt cur o cs) e (0, 0)) := by
  induction cs with
  | nil => intro o w cur hh; exact hh
  | cons v r ih =>
    intro o w cur hh
    exact ih (o + 1) _ _ (heap_setCell_same w h o cur e v hh)
theorem grown_setCells (h : Nat) (cs : List Value) : ∀ (o : Nat) (w : World), w.grownBy (w.setCells h o cs) (some h) := by
  induction cs with
  | nil => intro o w; exact World.grownBy.refl w _
  | cons v r ih =>
    intro o w
    exact World.grownBy.trans (grownBy_setCell w ⟨h, o, none⟩ v) (ih (o + 1) _)
/-- cells written into a row of the call's own -/
theorem own_put {w : World} {base h n c size : Nat} {e : TypeId} {xs : List Value} (ho : w.ownsRow base e size (.slice (some ⟨h, 0, none⟩) n c) n xs) (o : Nat) (cs : List Value) (hfit : o + cs.length ≤ n * size) :
    (w.setCells h o cs).ownsRow base e size (.slice (some ⟨h, 0, none⟩) n c) n (xs.take o ++ cs ++ xs.drop (o + cs.length)) ∧ w.there h o cs.length := by
  obtain ⟨h1, h2⟩ := ho
  rcases h2 with ⟨e1, _⟩ | ⟨g, cap, cur, e1, hb, hh, hc, hm, hs, ht⟩
  · cases e1
  · injection e1 with e1 e2 e3
    injection e1 with e1
    injection e1 with e1
    subst e1 e3
    have hle : n * size ≤ cur.size := by rw [hs]; exact Nat.mul_le_mul_right _ hc
    refine ⟨⟨?_, .inr ⟨h, c, putAt cur o cs, rfl, hb, heap_putAt h e cs o w cur hh, hc, hm, by rw [putAt_size, hs], ?_⟩⟩, ?_⟩
    · simp only [List.length_append, List.length_take, List.length_drop]; omega
    · rw [putAt_take cur o (n * size) cs hfit hle, ht]
    · intro j hj
      refine ⟨?_, frozen_of_row w h (o + j) cur e hh⟩
      rw [cell_of_row w h (o + j) cur e (0, 0) hh, Array.getElem?_eq_getElem (by omega)]
      rfl
theorem wrow_set (l : List Nat) : ∀ {k : Nat} (x : Nat), k < l.length → (wrow l).take (k * 32) ++ (wcells x).toList ++ (wrow l).drop (k * 32 + 32) = wrow (l.set k x) := by
  induction l with
  | nil => intro k x h; simp at h
  | cons y l ih =>
    intro k x hk
    have e : wrow (y :: l) = (wcells y).toList ++ wrow l := rfl
    have hs : (wcells y).toList.length = 32 := by rw [Array.length_toList, wcells_size]
    cases k with
    | zero =>
      have e2 : wrow ((y :: l).set 0 x) = (wcells x).toList ++ wrow l := rfl
      rw [e, e2, Nat.zero_mul, List.take_zero, List.nil_append, Nat.zero_add, List.drop_left' hs]
    | succ k =>
      have e2 : wrow ((y :: l).set (k + 1) x) = (wcells y).toList ++ wrow (l.set k x) := rfl
      rw [e, e2, ← ih x (by simpa using hk), List.take_append, List.drop_append, hs, List.take_of_length_le (by rw [hs]; omega), show (k + 1) * 32 - 32 = k * 32 from by omega,
        List.drop_eq_nil_of_le (by rw [hs]; omega), show (k + 1) * 32 + 32 - 32 = k * 32 + 32 from by omega]
      simp
/-- a word stored into a row of words -/
theorem wpList_store_word {w : World} {ops : Array Oper} {rest : List Oper} {o : Oper} {a : Act} {Q : Exit → Act → World → Prop} (hgd : o.guard = none) (x y : Operand) (ho : o.op = .store 25 x y)
    {base h n c k v : Nat} {l : List Nat} (hown : w.ownsRow base 25 32 (.slice (some ⟨h, 0, none⟩) n c) n (wrow l)) (hk : k < n) (hx : a.eval x = .pointer (some ⟨h, k * 32, none⟩)) (hy : a.eval y = .agg (wcells v))
    (H : ∀ w', w'.ownsRow base 25 32 (.slice (some ⟨h, 0, none⟩) n c) n (wrow (l.set k v)) → w.grownBy w' (some h) → wpList Try.prog ops Q rest (a.put o.dst undef) w') : wpList Try.prog ops Q (o :: rest) a w := by
  have hl : l.length = n := by have := hown.1; rw [wrow_length] at this; omega
  have hcl : (wcells v).toList.length = 32 := by rw [Array.length_toList, wcells_size]
  obtain ⟨h1, h2⟩ := own_put hown (k * 32) (wcells v).toList (by omega)
  rw [hcl, wrow_set l v (by omega)] at h1
  refine wpList_store_mid hgd _ x y ho h (k * 32) (wcells v) hx hy (by rw [wcells_size]; rwa [hcl] at h2) (by rw [wcells_size]; kernel_rfl) (Array.all_eq_true_iff_forall_mem.2 fun u hu => oneAll_mem (wcells_one v) u (by simpa using hu)) ?_
  exact H _ h1 (grown_setCells h _ _ _)
end Go.Mun
