/- '[]byte("..")' of a constant: the law, with the world behind it under a name. Over any program. -/
import Derived.Test.YtdkccaiahgfjoaaBlk
import Derived.Lib.SlBytesConst
namespace Go.Mun
open Go Go.RowKit

theorem run_lit {P : Program} {w : World} {t e : TypeId} (ht : P.underlying t = some (.slice e)) (he : P.underlying e = some (.int .u8)) {g n c : Nat} {cs : Array Value} (hb : Blk w g e cs) :
    (convert t t (.slice (some ⟨g, 0, none⟩) n c)).run P w = .ok (.slice (some ⟨g, 0, none⟩) n c) (w.freeze ⟨g, cs.size, none⟩ 1) := by
  have hsh : w.shape? g = some (e, cs.size) := by unfold World.shape?; rw [show w.heap[g]? = _ from hb]
  simp [convert, run_underlying ht, run_underlying he, markStringish, hsh, Result.andThen]
theorem lit_block {w : World} {g : Nat} {e : TypeId} {cs : Array Value} (hb : Blk w g e cs) : (w.freeze ⟨g, cs.size, none⟩ 1).heap[g]? = some (.cells cs e (cs.size, cs.size + 1)) := by
  have h : w.heap[g]? = some (.cells cs e (0, 0)) := hb
  simp [World.freeze, Array.getElem?_modify, h]
theorem lit_grown (w : World) (g k : Nat) : w.grownBy (w.freeze ⟨g, k, none⟩ 1) (some g) := by
  refine ⟨rfl, rfl, rfl, by simp [World.freeze], fun b _ hne => ?_⟩
  have : g ≠ b := fun e => hne (by rw [e])
  simp [World.freeze, Array.getElem?_modify, this]
theorem lit_size (w : World) (g k : Nat) : (w.freeze ⟨g, k, none⟩ 1).heap.size = w.heap.size := by simp [World.freeze]
theorem wpList_lit {P : Program} {ops : Array Oper} {rest : List Oper} {o : Oper} {a : Act} {w : World} {Q : Exit → Act → World → Prop} (hgd : o.guard = none) {t e : TypeId} (x : Operand) (ho : o.op = .convert t t x) (ht : P.underlying t = some (.slice e)) (he : P.underlying e = some (.int .u8))
    {g n c : Nat} {cs : Array Value} {l : List UInt8} (hx : a.eval x = .slice (some ⟨g, 0, none⟩) n c) (hb : Blk w g e cs) (hcs : cs.toList = bv l) (hn : l.length = n) (hnc : n ≤ c) (hcm : c ≤ maxLen)
    (h : ∀ w', w.grownBy w' (some g) → w'.heap.size = w.heap.size → Bytes w' (.slice (some ⟨g, 0, none⟩) n c) l → wpList P ops Q rest (a.put o.dst (.slice (some ⟨g, 0, none⟩) n c)) w') : wpList P ops Q (o :: rest) a w := by
  refine wpList_plain hgd fun _ hK => ?_
  have hr := run_lit ht he (n := n) (c := c) hb
  unfold Oper.wp execOp
  simp only [ho, hx, Sem.run_bind, hr, Result.andThen_ok, Sem.run_pure]
  refine hK _ _ (h _ (lit_grown _ _ _) (lit_size _ _ _) ⟨_, _, _, rfl, hn, hnc, hcm, fun j u hj => ⟨_, rfl, ?_⟩⟩)
  have hj' : cs[j]? = some u := by rw [← Array.getElem?_toList, hcs]; exact hj
  have hb2 := lit_block hb
  have e : (⟨g, 0, none⟩ : Addr).add j = ⟨g, j, none⟩ := by unfold Addr.add; split <;> simp_all
  rw [e]
  simp [World.cell?, hb2, hj']
end Go.Mun
