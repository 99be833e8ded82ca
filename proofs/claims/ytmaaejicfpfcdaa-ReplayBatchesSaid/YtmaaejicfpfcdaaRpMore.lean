/- More of batches in a row; operations with a guard that is wanted. -/
import Derived.Test.YtmaaejicfpfcdaaRpBatch
import Derived.Test.YtmaaejicfpfcdaaPhase
namespace Go.Mun
open Go Go.RowKit Go.Proofs

theorem cutw_h {P : Program} {t e : TypeId} {z : Value} {size bytes : Nat} (hT : SliceTy P t e z size bytes) (A : Option Addr) (n c : Nat) {kh : IntKind} {hi' : Int} {hi : Nat} (hhi : hi' = hi) (h2 : hi ≤ c) :
    ∀ w, (Instr.slice t (.slice A n c) none (some (.int kh hi')) none).run P w = .ok (.slice A hi c) w := by
  subst hhi
  intro w
  rw [run_slice_h w t A n c hT.under kh hi (by omega) (by omega), hT.sizeOf_elem]
  have e : ∀ A : Option Addr, A.map (·.add 0) = A := fun A => by cases A <;> simp [Addr.add]
  simp [Result.andThen, sliced, e]
theorem own_cap {w : World} {base size n c : Nat} {e : TypeId} {A : Option Addr} {xs : List Value} (h : w.ownsRow base e size (.slice A n c) n xs) : n ≤ c := by
  rcases h.2 with ⟨e1, e2⟩ | ⟨g, cap, cur, e1, _, _, hc, _⟩
  · omega
  · injection e1 with e1 e2 e3; omega
theorem bytes_head {w : World} {A : Option Addr} {n c m : Nat} {b : List UInt8} (h : Bytes w (.slice A n c) b) (hm : m ≤ n) : Bytes w (.slice A m c) (b.take m) := by
  obtain ⟨A', n', c', e, h1, h2, h3, h4⟩ := h
  injection e with e1 e2 e3
  subst e1 e2 e3
  refine ⟨A, m, c, rfl, by rw [List.length_take]; omega, by omega, h3, ?_⟩
  have := h4.take m
  simpa [bv, List.map_take] using this
theorem take_more' {LL : List (List Rec)} {k : Nat} {l : List Rec} (h : LL[k]? = some l) : LL.take (k + 1) = LL.take k ++ [l] := by
  obtain ⟨hk, hx⟩ := List.getElem?_eq_some_iff.1 h
  rw [List.take_succ_eq_append_getElem hk, hx]
theorem all_more {LL : List (List Rec)} {k : Nat} {l : List Rec} (h : LL[k]? = some l) : allBB (LL.take (k + 1)) = allBB (LL.take k) ++ batchB l := by rw [take_more' h, allBB_append]; simp [allBB]
theorem allBB_bd {LL : List (List Rec)} (h : ∀ l ∈ LL, SmallL l) : (allBB LL).length ≤ 42013 * LL.length := by
  induction LL with
  | nil => exact Nat.zero_le _
  | cons l LL ih =>
    have e : allBB (l :: LL) = batchB l ++ allBB LL := rfl
    rw [e, List.length_append, List.length_cons]
    have h1 := batchB_bd (h l (by simp))
    have h2 := ih fun y hy => h y (by simp [hy])
    omega
theorem same_map {LL : List (List Rec)} (h : ∀ l ∈ LL, SmallL l) : SameLL (LL.map normL) LL := by
  refine ⟨by simp, fun k x y hx hy => ?_⟩
  rw [List.getElem?_map, hy] at hx
  injection hx with hx
  subst hx
  exact normL_same (h y (List.mem_of_getElem? hy)).2
theorem tmod_nat {q N : Nat} : ((q : Int)).tmod ((N : Int) + 1) = ((q % (N + 1) : Nat) : Int) := by
  rw [Int.tmod_eq_emod_of_nonneg (by omega)]
  rfl


theorem read_whole {LL : List (List Rec)} (hs : ∀ l ∈ LL, SmallL l) : batches (allBB LL) = (LL.map normL, (allBB LL).length) := by
  obtain ⟨g1, g2, g3⟩ := bat_all (b := allBB LL) LL 0 [] [] hs (Nat.zero_le _) (by simp)
  show bat _ 0 0 [] [] = _
  rw [g1, bat_none g3]
  simp
theorem read_torn {LL : List (List Rec)} {t : List Rec} {c : Nat} (hs : ∀ l ∈ LL, SmallL l) (ht : SmallL t) (hc : c < (batchB t).length) : batches (allBB LL ++ (batchB t).take c) = (LL.map normL, (allBB LL).length) := by
  obtain ⟨g1, g2, g3⟩ := bat_all (b := allBB LL ++ (batchB t).take c) LL 0 [] _ hs (Nat.zero_le _) rfl
  show bat _ 0 0 [] [] = _
  rw [g1, bat_torn_ops _ _ t.length (by have := ht.1; omega) t _ [] c ht.2 g2 hc g3]
  simp
theorem batchB_pos (l : List Rec) (h : SmallL l) : 0 < (batchB l).length := by
  unfold batchB
  rw [List.length_append, endR_len (by have := h.1; omega)]
  omega
theorem tmod_nat' {q N : Nat} : ((q : Int)).tmod (N : Int) = ((q % N : Nat) : Int) := by
  rw [Int.tmod_eq_emod_of_nonneg (by omega)]
  rfl

section
variable {P : Program} {w : World}
/-- append, at an operation with a guard that is wanted -/
theorem wpList_append_rd_want {ops : Array Oper} {rest : List Oper} {o : Oper} {a : Act} {Q : Exit → Act → World → Prop} (hw : Region.wanted o (yielded ops a.tmps) = true) (s x : Operand) (t : TypeId)
    (ho : o.op = .call { callee := .builtin .append, args := #[s, x], argTypes := #[t, t] })
    (base : Nat) (e : TypeId) (z : Value) (size bytes : Nat) (hT : SliceTy P t e z size bytes)
    (v : Value) (n : Nat) (xs : List Value) (hs : a.eval s = v) (hown : w.ownsRow base e size v n xs)
    (A : Option Addr) (m c : Nat) (news : List Value) (hx : a.eval x = .slice A m c) (hl : news.length = m * size) (hr : Rd w A news) (h1 : ∀ u ∈ news, u.oneCell' = true)
    (h63 : n + m ≤ maxLen) (hbytes : (n + m) * bytes ≤ 140737488355328) (hbase : base ≤ w.heap.size)
    (h : ∀ v' w', w'.ownsRow base e size v' (n + m) (xs ++ news) → w.grownBy w' v.ownBlock → (v'.ownBlock = v.ownBlock ∨ v'.ownBlock = some w.heap.size) → wpList P ops Q rest (a.put o.dst v') w') : wpList P ops Q (o :: rest) a w :=
  wpList_step fun K hK => by
    rw [if_pos hw]
    exact wp_append_rd w s x t ho base e z size bytes hT v n xs hs hown A m c news hx hl hr h1 h63 hbytes hbase fun v' w' g1 g2 g3 => hK _ _ (h v' w' g1 g2 g3)
/-- a copy, at an operation with a guard that is wanted -/
theorem wpList_move_want {ops : Array Oper} {rest : List Oper} {o : Oper} {a : Act} {Q : Exit → Act → World → Prop} (hw : Region.wanted o (yielded ops a.tmps) = true) (x : Operand) (ho : o.op = .move x) (h : wpList P ops Q rest (a.put o.dst (a.eval x)) w) : wpList P ops Q (o :: rest) a w :=
  wpList_step fun K hK => by
    rw [if_pos hw]
    unfold Oper.wp execOp
    simp only [ho, Sem.run_pure]
    exact hK _ _ h
/-- whatever yields a value, at an operation with a guard that is wanted -/
theorem wpList_pure_want {ops : Array Oper} {rest : List Oper} {o : Oper} {a : Act} {Q : Exit → Act → World → Prop} (hw : Region.wanted o (yielded ops a.tmps) = true) (v : Value) (hv : ∀ K : Act → World → Prop, K (a.put o.dst v) w → Oper.wp P o a w K Q)
    (h : wpList P ops Q rest (a.put o.dst v) w) : wpList P ops Q (o :: rest) a w :=
  wpList_step fun K hK => by
    rw [if_pos hw]
    exact hv K (hK _ _ h)
/-- '[]T{x}', at an operation with a guard that is wanted -/
theorem wpList_row_val_want {ops : Array Oper} {rest : List Oper} {o : Oper} {a : Act} {Q : Exit → Act → World → Prop} (hw : Region.wanted o (yielded ops a.tmps) = true) {t e : TypeId} (x : Operand) (ho : o.op = .buildSlice t 1 #[(0, x)])
    {z : Value} {size bytes : Nat} (hT : SliceTy P t e z size bytes) (hs : size ≤ 16777216) {v : Value} (hx : a.eval x = v) (hc : v.cells.size = size)
    (h : ∀ w', Blk w' w.heap.size e v.cells → Below w.heap.size w w' → w.heap.size < w'.heap.size → wpList P ops Q rest (a.put o.dst (.slice (some ⟨w.heap.size, 0, none⟩) 1 1)) w') : wpList P ops Q (o :: rest) a w :=
  wpList_step fun K hK => by
    rw [if_pos hw]
    have hr := run_row_one hT hs v hc w
    unfold Oper.wp execOp
    simp only [ho, List.map_toArray, List.map_cons, List.map_nil, hx, Sem.run_bind, hr, Result.andThen_ok, Sem.run_pure]
    exact hK _ _ (h _ (Blk.new w e _) ((Below.refl _ _).alloc (Nat.le_refl _) _) (by simp))
end
end Go.Mun
