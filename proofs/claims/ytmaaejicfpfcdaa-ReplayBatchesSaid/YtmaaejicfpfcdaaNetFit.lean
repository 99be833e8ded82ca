/- Small batches fit the walks of Live and Net; '[]T{x, y}' at an operation with a guard. -/
import Derived.Test.YtmaaejicfpfcdaaNetRef
import Derived.Test.YtmaaejicfpfcdaaNetLive
import Derived.Test.YtmaaejicfpfcdaaRpMore
namespace Go.Mun
open Go Go.RowKit Go.Proofs

theorem SmallL.fit {l : List Rec} (h : SmallL l) : Fit l := fun o ho => by
  have := (h.2 o ho).key
  have := (h.2 o ho).value
  exact ⟨by omega, by omega⟩
theorem SmallL.vals {l : List Rec} (h : SmallL l) : ∀ o ∈ l, o.value.length ≤ 1000000 := fun o ho => (h.fit o ho).2
theorem net_fit {l : List Rec} (h : SmallL l) : (netL l).length ≤ 100 ∧ ∀ o ∈ netL l, o.value.length ≤ 1000000 := by
  refine ⟨?_, fun o ho => ?_⟩
  · unfold netL
    rw [List.length_map]
    have := length_net l
    have := h.1
    omega
  · unfold netL at ho
    obtain ⟨p, hp, rfl⟩ := List.mem_map.1 ho
    have h1 := h.vals _ (netP_mem hp).2
    unfold Rec.bare
    split
    · simp
    · exact h1
theorem live_net (f l : List Rec) : liveP [f, netL l] = liveP [f, l] := by
  show doneP (doneP [] f) (netL l) = doneP (doneP [] f) l
  exact done_net (doneP_rises _ List.Pairwise.nil) l
/-- '[]T{x, y}', at an operation with a guard that is wanted -/
theorem wpList_row_two_want {P : Program} {ops : Array Oper} {rest : List Oper} {o : Oper} {a : Act} {w : World} {Q : Exit → Act → World → Prop} (hw : Region.wanted o (yielded ops a.tmps) = true) {t e : TypeId} (x y : Operand) (ho : o.op = .buildSlice t 2 #[(0, x), (1, y)])
    {z : Value} {bytes : Nat} (hT : SliceTy P t e z 1 bytes) {v u : Value} (hx : a.eval x = v) (hy : a.eval y = u) (hv : v.cells = #[v]) (hu : u.cells = #[u])
    (h : ∀ w', Blk w' w.heap.size e #[v, u] → Below w.heap.size w w' → w.heap.size < w'.heap.size → wpList P ops Q rest (a.put o.dst (.slice (some ⟨w.heap.size, 0, none⟩) 2 2)) w') : wpList P ops Q (o :: rest) a w :=
  wpList_step fun K hK => by
    rw [if_pos hw]
    have hr := run_row_two hT v u hv hu w
    unfold Oper.wp execOp
    simp only [ho, List.map_toArray, List.map_cons, List.map_nil, hx, hy, Sem.run_bind, hr, Result.andThen_ok, Sem.run_pure]
    exact hK _ _ (h _ (Blk.new w e _) ((Below.refl _ _).alloc (Nat.le_refl _) _) (by simp))
end Go.Mun
