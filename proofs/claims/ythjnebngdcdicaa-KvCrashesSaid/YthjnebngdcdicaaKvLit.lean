/- Rows that are written out. -/
import Derived.Test.YthjnebngdcdicaaKvAlive
namespace Go.Mun
open Go Go.RowKit Go.Proofs Go.Maps

theorem run_row_two3 {P : Program} {t e : TypeId} {z : Value} {bytes : Nat} (hT : SliceTy P t e z 3 bytes) (a b c a' b' c' : Value) (w : World) :
    (Instr.buildSlice t 2 #[(0, .agg #[a, b, c]), (1, .agg #[a', b', c'])]).run P w = .ok (.slice (some ⟨w.heap.size, 0, none⟩) 2 2) (w.alloc (.cells #[a, b, c, a', b', c'] e)) := by
  obtain ⟨ht, i, hi, hz, hsz, hby, hzs, h0⟩ := hT
  have hf : Instr.fill (fun k => some (k * 3, 3)) ((Array.range 6).map (fun k => z.cells[k % z.cells.size]!)) [(0, .agg #[a, b, c]), (1, .agg #[a', b', c'])] = some #[a, b, c, a', b', c'] := by
    simp [Instr.fill, Array.range, Value.cells]
    apply Array.ext_getElem?
    intro j
    match j with
    | 0 => simp
    | 1 => simp
    | 2 => simp
    | 3 => simp
    | 4 => simp
    | 5 => simp
    | j + 6 => simp
  simp [Instr.buildSlice, run_underlying ht, sizeOf, typeInfo, hi, hsz, hz, zeroValue, newRow]
  rw [hf]
  rfl
theorem wpList_row_two3 {P : Program} {ops : Array Oper} {rest : List Oper} {o : Oper} {a : Act} {w : World} {Q : Exit → Act → World → Prop} (hgd : o.guard = none) {t e : TypeId} (x y : Operand) (ho : o.op = .buildSlice t 2 #[(0, x), (1, y)])
    {z : Value} {bytes : Nat} (hT : SliceTy P t e z 3 bytes) {a1 b1 c1 a2 b2 c2 : Value} (hx : a.eval x = .agg #[a1, b1, c1]) (hy : a.eval y = .agg #[a2, b2, c2])
    (h : ∀ w', Blk w' w.heap.size e #[a1, b1, c1, a2, b2, c2] → Below w.heap.size w w' → w.heap.size < w'.heap.size → wpList P ops Q rest (a.put o.dst (.slice (some ⟨w.heap.size, 0, none⟩) 2 2)) w') : wpList P ops Q (o :: rest) a w := by
  refine wpList_plain hgd fun _ hK => ?_
  have hr := run_row_two3 hT a1 b1 c1 a2 b2 c2 w
  unfold Oper.wp execOp
  simp only [ho, List.map_toArray, List.map_cons, List.map_nil, hx, hy, Sem.run_bind, hr, Result.andThen_ok, Sem.run_pure]
  exact hK _ _ (h _ (Blk.new w e _) ((Below.refl _ _).alloc (Nat.le_refl _) _) (by simp))
theorem ops_two {w : World} {g : Nat} {t : TypeId} {k1 v1 k2 v2 : Value} {r s : Rec} (hx : Blk w g t #[.bool r.del, k1, v1, .bool s.del, k2, v2]) (h1 : Bytes w k1 r.key) (h2 : Bytes w v1 r.value) (h3 : Bytes w k2 s.key) (h4 : Bytes w v2 s.value) (e1 : r.kind = 1) (e2 : r.n = 0) (e3 : s.kind = 1) (e4 : s.n = 0) :
    SliceOf 3 rOp w (.slice (some ⟨g, 0, none⟩) 2 2) [r, s] := by
  refine ⟨_, _, _, _, rfl, rfl, rfl, Nat.le_refl _, by unfold maxLen; decide, hx.rd, fun i hi => ?_⟩
  match i, hi with
  | 0, _ => exact fun _ => ⟨k1, v1, rfl, e1, e2, h1, h2⟩
  | 1, _ => exact fun _ => ⟨k2, v2, rfl, e3, e4, h3, h4⟩
def notLooked : List UInt8 := [110, 111, 116, 32, 108, 111, 111, 107, 101, 100, 32, 97, 116]
theorem run_notLooked (w : World) : (Instr.buildSlice 22 13 #[(0, .int .u8 110), (1, .int .u8 111), (2, .int .u8 116), (3, .int .u8 32), (4, .int .u8 108), (5, .int .u8 111), (6, .int .u8 111), (7, .int .u8 107), (8, .int .u8 101), (9, .int .u8 100), (10, .int .u8 32), (11, .int .u8 97), (12, .int .u8 116)]).run Try.prog w = .ok (.slice (some ⟨w.heap.size, 0, none⟩) 13 13) (w.alloc (.cells (bv notLooked).toArray 5)) := by
  kernel_rfl
theorem wpList_notLooked {ops : Array Oper} {rest : List Oper} {o : Oper} {a : Act} {w : World} {Q : Exit → Act → World → Prop} (hgd : o.guard = none) (ho : o.op = .buildSlice 22 13 #[(0, .const (.int .u8 110)), (1, .const (.int .u8 111)), (2, .const (.int .u8 116)), (3, .const (.int .u8 32)), (4, .const (.int .u8 108)), (5, .const (.int .u8 111)), (6, .const (.int .u8 111)), (7, .const (.int .u8 107)), (8, .const (.int .u8 101)), (9, .const (.int .u8 100)), (10, .const (.int .u8 32)), (11, .const (.int .u8 97)), (12, .const (.int .u8 116))])
    (h : ∀ w', Blk w' w.heap.size 5 (bv notLooked).toArray → Below w.heap.size w w' → w.heap.size < w'.heap.size → wpList Try.prog ops Q rest (a.put o.dst (.slice (some ⟨w.heap.size, 0, none⟩) 13 13)) w') : wpList Try.prog ops Q (o :: rest) a w := by
  refine wpList_plain hgd fun _ hK => ?_
  have hr := run_notLooked w
  unfold Oper.wp execOp
  simp only [ho, List.map_toArray, List.map_cons, List.map_nil, Act.eval, Sem.run_bind, hr, Result.andThen_ok, Sem.run_pure]
  exact hK _ _ (h _ (Blk.new w _ _) ((Below.refl _ _).alloc (Nat.le_refl _) _) (by simp))
def neverWritten : List UInt8 := [110, 101, 118, 101, 114, 32, 119, 114, 105, 116, 116, 101, 110, 0]
theorem run_neverWritten (w : World) : (Instr.buildSlice 22 14 #[(0, .int .u8 110), (1, .int .u8 101), (2, .int .u8 118), (3, .int .u8 101), (4, .int .u8 114), (5, .int .u8 32), (6, .int .u8 119), (7, .int .u8 114), (8, .int .u8 105), (9, .int .u8 116), (10, .int .u8 116), (11, .int .u8 101), (12, .int .u8 110), (13, .int .u8 0)]).run Try.prog w = .ok (.slice (some ⟨w.heap.size, 0, none⟩) 14 14) (w.alloc (.cells (bv neverWritten).toArray 5)) := by
  kernel_rfl
theorem wpList_neverWritten {ops : Array Oper} {rest : List Oper} {o : Oper} {a : Act} {w : World} {Q : Exit → Act → World → Prop} (hgd : o.guard = none) (ho : o.op = .buildSlice 22 14 #[(0, .const (.int .u8 110)), (1, .const (.int .u8 101)), (2, .const (.int .u8 118)), (3, .const (.int .u8 101)), (4, .const (.int .u8 114)), (5, .const (.int .u8 32)), (6, .const (.int .u8 119)), (7, .const (.int .u8 114)), (8, .const (.int .u8 105)), (9, .const (.int .u8 116)), (10, .const (.int .u8 116)), (11, .const (.int .u8 101)), (12, .const (.int .u8 110)), (13, .const (.int .u8 0))])
    (h : ∀ w', Blk w' w.heap.size 5 (bv neverWritten).toArray → Below w.heap.size w w' → w.heap.size < w'.heap.size → wpList Try.prog ops Q rest (a.put o.dst (.slice (some ⟨w.heap.size, 0, none⟩) 14 14)) w') : wpList Try.prog ops Q (o :: rest) a w := by
  refine wpList_plain hgd fun _ hK => ?_
  have hr := run_neverWritten w
  unfold Oper.wp execOp
  simp only [ho, List.map_toArray, List.map_cons, List.map_nil, Act.eval, Sem.run_bind, hr, Result.andThen_ok, Sem.run_pure]
  exact hK _ _ (h _ (Blk.new w _ _) ((Below.refl _ _).alloc (Nat.le_refl _) _) (by simp))
/-- Get, whatever is told -/
theorem Get_opt {j q p N : Nat} {S : PLB} {clean dead : Bool} {o : Own} {w : World} (h : KvAt j q p S clean dead o N w) (kv : Value) (key : List UInt8) (x : Option (List UInt8)) (hk : Bytes w kv key) (hg : getP S key = x) :
    Calls Try.prog 14 #[.pointer (some ⟨q, 0, none⟩), kv] w fun e w' => ∃ v, e = .returned (.tuple #[v, .bool x.isSome]) ∧ w'.ownsRow w.heap.size 5 1 v (x.getD []).length (bv (x.getD [])) ∧ Below w.heap.size w w' := by
  subst hg
  exact Get_any h kv key hk
end Go.Mun
