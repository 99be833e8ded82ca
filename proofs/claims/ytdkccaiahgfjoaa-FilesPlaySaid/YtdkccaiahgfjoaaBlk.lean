/- Blocks of memory that are known whole (a local struct or array, whatever a pointer leads to): how operations read and write them, each with the world behind it under a name. Over any program. -/
import Derived.Test.YtdkccaiahgfjoaaLib
import Derived.Laws.Tables
import Derived.Deep.Draws
namespace Go.Mun
open Go Go.RowKit

/-- Block g is just these cells of type t, none frozen. -/
def Blk (w : World) (g : Nat) (t : TypeId) (cs : Array Value) : Prop := w.heap[g]? = some (.cells cs t (0, 0))

section
variable {w w' : World} {g g' : Nat} {t : TypeId} {cs : Array Value}
theorem Blk.lt (h : Blk w g t cs) : g < w.heap.size := by
  rcases Nat.lt_or_ge g w.heap.size with hlt | hge
  · exact hlt
  · unfold Blk at h; rw [Array.getElem?_eq_none hge] at h; cases h
theorem Blk.cell (h : Blk w g t cs) (i : Nat) : w.cell? ⟨g, i, none⟩ = cs[i]? := cell_of_row w g i cs t (0, 0) h
theorem Blk.cellv (h : Blk w g t cs) {i : Nat} {v : Value} (hv : cs[i]? = some v) : w.cell? ⟨g, i, none⟩ = some v := (h.cell i).trans hv
theorem Blk.frozen (h : Blk w g t cs) (i : Nat) : w.frozen? ⟨g, i, none⟩ = false := frozen_of_row w g i cs t h
theorem Blk.new (w : World) (t : TypeId) (cs : Array Value) : Blk (w.alloc (.cells cs t)) w.heap.size t cs := heap_alloc_new w _
theorem Blk.ext (h : Blk w g t cs) (hb : Below w.heap.size w w') : Blk w' g t cs := (hb.block g h.lt).trans h
theorem Blk.drew (h : Blk w g t cs) : Blk w.drew g t cs := h
theorem Blk.drewN (h : Blk w g t cs) (q : Nat) : Blk (w.drewN q) g t cs := h
theorem Rd_drewN {A : Option Addr} {xs : List Value} (h : Rd w A xs) (q : Nat) : Rd (w.drewN q) A xs := h
theorem Bytes_drewN {v : Value} {l : List UInt8} (h : Bytes w v l) (q : Nat) : Bytes (w.drewN q) v l := h
theorem below_drewN {B : Nat} {w0 : World} (h : Below B w0 w) (q : Nat) : Below B w0 (w.drewN q) := ⟨h.os, h.tape, h.output, h.size, h.block⟩
theorem Blk.alloc (h : Blk w g t cs) (o : Obj) : Blk (w.alloc o) g t cs := h.ext ((Below.refl _ _).alloc (Nat.le_refl _) o)
theorem Blk.grown {row : Option Nat} (h : Blk w g t cs) (hb : w.grownBy w' row) (hg : some g ≠ row) : Blk w' g t cs := (hb.block g h.lt hg).trans h
theorem Blk.below {B : Nat} (h : Blk w g t cs) (hb : Below B w w') (hg : g < B) : Blk w' g t cs := (hb.block g hg).trans h
theorem Blk.set_ (h : Blk w g t cs) (i : Nat) (u : Value) : Blk (w.setCell ⟨g, i, none⟩ u) g t (cs.setIfInBounds i u) := by
  exact heap_setCell_same w g i cs t u h
theorem Blk.far (h : Blk w g t cs) {p : Addr} (hp : g ≠ p.block) (u : Value) : Blk (w.setCell p u) g t cs := (Below.heap_setCell w p u g hp).trans h
theorem Blk.rd (h : Blk w g t cs) : Rd w (some ⟨g, 0, none⟩) cs.toList := Rd.of_cells fun j u hu => by
  have hadd : (⟨g, 0, none⟩ : Addr).add j = ⟨g, j, none⟩ := by unfold Addr.add; split <;> simp_all
  rw [hadd, h.cell j]
  simpa using hu
theorem grownBy_setCell (w : World) (p : Addr) (u : Value) : w.grownBy (w.setCell p u) (some p.block) :=
  ⟨rfl, rfl, rfl, by simp [World.setCell], fun k _ hk => Below.heap_setCell _ _ _ _ (fun e => hk (by rw [e]))⟩
theorem grownBy_setRow (w : World) (g : Nat) (cs : Array Value) : w.grownBy (w.setRow g cs) (some g) :=
  ⟨rfl, rfl, rfl, by simp, fun k _ hk => setRow_other w g k cs (fun e => hk (by rw [e]))⟩
end

/-- a row just made is the call's own -/
theorem own_new (w : World) (e : TypeId) (cs : Array Value) {n : Nat} (hn : cs.size = n) (hm : n ≤ maxLen) : (w.alloc (.cells cs e)).ownsRow w.heap.size e 1 (.slice (some ⟨w.heap.size, 0, none⟩) n n) n cs.toList :=
  ⟨by simp [hn], .inr ⟨w.heap.size, n, cs, rfl, Nat.le_refl _, heap_alloc_new w _, Nat.le_refl _, hm, by rw [hn, Nat.mul_one], by rw [Nat.mul_one, ← hn]; exact List.take_of_length_le (by simp)⟩⟩
theorem own_ext {w w' : World} {base : Nat} {e : TypeId} {size n : Nat} {v : Value} {xs : List Value} (h : w.ownsRow base e size v n xs) (hb : Below w.heap.size w w') : w'.ownsRow base e size v n xs :=
  h.kept (row := none) ⟨hb.os, hb.tape, hb.output, hb.size, fun k hk _ => hb.block k hk⟩ (by cases v.ownBlock <;> simp)
theorem own_base {w : World} {base base' : Nat} {e : TypeId} {size n : Nat} {v : Value} {xs : List Value} (h : w.ownsRow base e size v n xs) (hb : base' ≤ base) : w.ownsRow base' e size v n xs := by
  obtain ⟨h1, h2⟩ := h
  refine ⟨h1, ?_⟩
  rcases h2 with h2 | ⟨g, cap, cur, hv, hg, r⟩
  · exact .inl h2
  · exact .inr ⟨g, cap, cur, hv, Nat.le_trans hb hg, r⟩
theorem own_one {w : World} {base : Nat} {e : TypeId} {size n : Nat} {v : Value} {xs : List Value} (h : w.ownsRow base e size v n xs) : v.oneCell' = true := by
  rcases h.2 with ⟨rfl, _⟩ | ⟨g, cap, cur, rfl, _⟩ <;> rfl

theorem own_new_at {w : World} {base g : Nat} (hb : base ≤ w.heap.size) (hg : g = w.heap.size) (e : TypeId) (cs : Array Value) {n : Nat} (hn : cs.size = n) (hm : n ≤ maxLen) {xs : List Value} (hx : xs = cs.toList) :
    (w.alloc (.cells cs e)).ownsRow base e 1 (.slice (some ⟨g, 0, none⟩) n n) n xs := by
  subst hg
  subst hx
  exact own_base (own_new w e cs hn hm) hb

theorem own_far {w : World} {base g : Nat} {e : TypeId} {size n : Nat} {v : Value} {xs : List Value} (_h : g < w.heap.size) (ho : w.ownsRow base e size v n xs) (hg : g < base) : some g ≠ v.ownBlock := by
  intro e'
  have := (ho.lt g e'.symm).1
  omega

theorem own_drew {w : World} {base : Nat} {e : TypeId} {size n : Nat} {v : Value} {xs : List Value} (h : w.ownsRow base e size v n xs) : w.drew.ownsRow base e size v n xs := h
theorem own_drewN {w : World} {base : Nat} {e : TypeId} {size n : Nat} {v : Value} {xs : List Value} (h : w.ownsRow base e size v n xs) (q : Nat) : (w.drewN q).ownsRow base e size v n xs := h
theorem own_kept {w w' : World} {base g : Nat} {e : TypeId} {size n : Nat} {v : Value} {xs : List Value} (ho : w.ownsRow base e size v n xs) (hg : w.grownBy w' (some g)) (hlt : g < base) : w'.ownsRow base e size v n xs :=
  ho.kept hg (.inr fun e' => by
    have := (ho.lt g e').1
    omega)
/-- A struct or array type of so many cells. -/
def AggTy (P : Program) (t : TypeId) (n : Nat) : Prop :=
  (∃ d, P.underlying t = some d ∧ (match d with | .struct _ | .array _ _ => true | _ => false) = true) ∧ (P.info? t).map (·.size) = some n

/-- each value is one cell -/
def oneAll : List Value → Bool
  | [] => true
  | v :: vs => v.oneCell' && oneAll vs
theorem oneAll_mem : ∀ {l : List Value}, oneAll l = true → ∀ u ∈ l, u.oneCell' = true
  | [], _, u, hu => by simp at hu
  | v :: vs, h, u, hu => by
    simp only [oneAll, Bool.and_eq_true] at h
    rcases List.mem_cons.1 hu with rfl | hu
    · exact h.1
    · exact oneAll_mem h.2 u hu

section
variable {P : Program} {ops : Array Oper} {rest : List Oper} {o : Oper} {a : Act} {w : World} {Q : Exit → Act → World → Prop}

/-- 'x' where x is a whole struct or array in memory -/
theorem wpList_load_blk (hgd : o.guard = none) (ty : TypeId) (x : Operand) (ho : o.op = .load ty x) {g : Nat} {t : TypeId} {cs : Array Value} (hb : Blk w g t cs) (hT : AggTy P ty cs.size)
    (hx : a.eval x = .pointer (some ⟨g, 0, none⟩)) (h : wpList P ops Q rest (a.put o.dst (.agg cs)) w) : wpList P ops Q (o :: rest) a w := by
  obtain ⟨⟨d, hu, hd⟩, hi⟩ := hT
  exact wpList_load_row hgd ty x ho g hx t cs (0, 0) d hb hu (by cases d <;> first | exact hd | rfl | cases hd) hi h
/-- '*p = x', the whole struct or array -/
theorem wpList_store_blk (hgd : o.guard = none) (ty : TypeId) (x y : Operand) (ho : o.op = .store ty x y) {g : Nat} {t : TypeId} {old cells : Array Value} (hb : Blk w g t old) (hT : AggTy P ty cells.size)
    (hold : old.size = cells.size) (h1 : ∀ u ∈ cells, u.oneCell' = true) (hx : a.eval x = .pointer (some ⟨g, 0, none⟩)) (hy : a.eval y = .agg cells)
    (h : ∀ w', Blk w' g t cells → w.grownBy w' (some g) → wpList P ops Q rest (a.put o.dst undef) w') : wpList P ops Q (o :: rest) a w := by
  obtain ⟨_, hi⟩ := hT
  refine wpList_store_row hgd ty x y ho g cells hx hy t old hb hi hold (Array.all_eq_true_iff_forall_mem.2 h1) (h _ (setRow_heap w g old cells t (0, 0) hb) (grownBy_setRow w g cells))
theorem wpList_store_all (hgd : o.guard = none) (ty : TypeId) (x y : Operand) (ho : o.op = .store ty x y) {g : Nat} {t : TypeId} {old : Array Value} (cells : Array Value) (hb : Blk w g t old) (hT : AggTy P ty cells.size)
    (hold : old.size = cells.size) (h1 : oneAll cells.toList = true) (hx : a.eval x = .pointer (some ⟨g, 0, none⟩)) (hy : a.eval y = .agg cells)
    (h : ∀ w', Blk w' g t cells → w.grownBy w' (some g) → wpList P ops Q rest (a.put o.dst undef) w') : wpList P ops Q (o :: rest) a w :=
  wpList_store_blk hgd ty x y ho hb hT hold (fun u hu => oneAll_mem h1 u (by simpa using hu)) hx hy h
/-- a write into a block of the call's own -/
theorem below_blk {B : Nat} {w0 w w' : World} {g : Nat} (hb : Below B w0 w) (hs : B ≤ w.heap.size) (hg : w.grownBy w' (some g)) (hB : B ≤ g) : Below B w0 w' :=
  hb.grown hg hs (fun k hk => by cases hk; exact hB)
/-- 'p.f = v', one cell of a block -/
theorem wpList_store_cell (hgd : o.guard = none) (ty : TypeId) (x y : Operand) (ho : o.op = .store ty x y) {g i : Nat} {t : TypeId} {cs : Array Value} {v : Value} (hb : Blk w g t cs) (hi : i < cs.size)
    (hT : (P.info? ty).map (·.size) = some 1) (h1 : v.oneCell' = true) (hx : a.eval x = .pointer (some ⟨g, i, none⟩)) (hy : a.eval y = v)
    (h : ∀ w', Blk w' g t (cs.setIfInBounds i v) → w.grownBy w' (some g) → wpList P ops Q rest (a.put o.dst undef) w') : wpList P ops Q (o :: rest) a w := by
  refine wpList_plain hgd fun _ hK => ?_
  cases hq : P.info? ty with
  | none => rw [hq] at hT; cases hT
  | some inf =>
    have hsz : inf.size = 1 := by rw [hq] at hT; simpa using hT
    have hc : v.cells = #[v] := by cases v <;> first | rfl | cases h1
    have hcell : w.cell? ⟨g, i, none⟩ = some cs[i] := hb.cellv (Array.getElem?_eq_getElem hi)
    unfold Oper.wp execOp
    simp only [ho, Instr.storeAt, Instr.sureAddr, hx, hy, storeVar, sizeOf, typeInfo, hc]
    simp [hq, hsz, storeCells, run_store, h1, hcell, hb.frozen i, Addr.add]
    exact hK _ _ (h _ (hb.set_ i v) (grownBy_setCell w ⟨g, i, none⟩ v))
/-- 'x := v' where x is put into memory -/
theorem wpList_box_blk (hgd : o.guard = none) (ty : TypeId) (x : Operand) (ho : o.op = .box ty x) {cells : Array Value} (hx : (a.eval x).cells = cells)
    (h : ∀ w', Blk w' w.heap.size ty cells → Below w.heap.size w w' → w.heap.size < w'.heap.size → wpList P ops Q rest (a.put o.dst (.pointer (some ⟨w.heap.size, 0, none⟩))) w') : wpList P ops Q (o :: rest) a w := by
  refine wpList_plain hgd fun _ hK => ?_
  unfold Oper.wp execOp
  simp only [ho, Instr.box, newVar, newRow, hx]
  exact hK _ _ (h _ (Blk.new w ty cells) ((Below.refl _ _).alloc (Nat.le_refl _) _) (by simp))
theorem wpList_box_agg (hgd : o.guard = none) (ty : TypeId) (x : Operand) (ho : o.op = .box ty x) {cells : Array Value} (hx : a.eval x = .agg cells)
    (h : ∀ w', Blk w' w.heap.size ty cells → Below w.heap.size w w' → w.heap.size < w'.heap.size → wpList P ops Q rest (a.put o.dst (.pointer (some ⟨w.heap.size, 0, none⟩))) w') : wpList P ops Q (o :: rest) a w :=
  wpList_box_blk hgd ty x ho (by rw [hx]; rfl) h
/-- 'var x T' in memory -/
theorem wpList_alloc_blk (hgd : o.guard = none) (ty : TypeId) (ho : o.op = .alloc ty) {z : Value} (hz : (P.info? ty).bind (·.zero) = some z)
    (h : ∀ w', Blk w' w.heap.size ty z.cells → Below w.heap.size w w' → w.heap.size < w'.heap.size → wpList P ops Q rest (a.put o.dst (.pointer (some ⟨w.heap.size, 0, none⟩))) w') : wpList P ops Q (o :: rest) a w := by
  refine wpList_plain hgd fun _ hK => ?_
  cases hi : P.info? ty with
  | none => rw [hi] at hz; cases hz
  | some i =>
    rw [hi] at hz
    have hz' : i.zero = some z := hz
    unfold Oper.wp execOp
    simp only [ho, Instr.alloc, newVar, newRow, zeroValue, typeInfo]
    simp [hi, hz']
    exact hK _ _ (h _ (Blk.new w ty z.cells) ((Below.refl _ _).alloc (Nat.le_refl _) _) (by simp))
/-- '[]T{..}' of elements that are one cell each -/
theorem wpList_row_blk (hgd : o.guard = none) (t e : TypeId) (n : Nat) (parts : Array (Nat × Operand)) (ho : o.op = .buildSlice t n parts) {us : List Value}
    (hrun : ∀ w : World, (Instr.buildSlice t n (parts.map fun (i, x) => (i, a.eval x))).run P w = .ok (.slice (some ⟨w.heap.size, 0, none⟩) n n) (w.alloc (.cells us.toArray e))) (hn : us.length = n)
    (h : ∀ v w', IsRow w' v us → w'.ownsRow w.heap.size e 1 v n us → Below w.heap.size w w' → wpList P ops Q rest (a.put o.dst v) w') (hmax : n ≤ maxLen) : wpList P ops Q (o :: rest) a w := by
  refine wpList_plain hgd fun _ hK => ?_
  unfold Oper.wp execOp
  simp only [ho, Sem.run_bind, hrun w, Result.andThen_ok, Sem.run_pure]
  refine hK _ _ (h _ _ ⟨_, by rw [hn], Rd.new w us.toArray e (0, 0)⟩ ?_ ((Below.refl _ _).alloc (Nat.le_refl _) _))
  exact ⟨by omega, .inr ⟨w.heap.size, n, us.toArray, rfl, Nat.le_refl _, heap_alloc_new w _, Nat.le_refl _, hmax, by simpa using hn, by rw [Nat.mul_one, ← hn]; simp⟩⟩
/-- 'append(out, b...)', bytes onto bytes of the call's own -/
theorem wpList_append_bytes (hgd : o.guard = none) (s x : Operand) (t : TypeId) (ho : o.op = .call { callee := .builtin .append, args := #[s, x], argTypes := #[t, t] })
    (base : Nat) {e : TypeId} (hT : SliceTy P t e (.int .u8 0) 1 1) {v : Value} {n : Nat} {xs : List UInt8} (hs : a.eval s = v) (hown : w.ownsRow base e 1 v n (bv xs))
    {vx : Value} {l : List UInt8} (hx : a.eval x = vx) (hb : Bytes w vx l) (h47 : n + l.length ≤ 140737488355328) (hbase : base ≤ w.heap.size)
    (h : ∀ v' w', w'.ownsRow base e 1 v' (n + l.length) (bv (xs ++ l)) → w.grownBy w' v.ownBlock → (v'.ownBlock = v.ownBlock ∨ v'.ownBlock = some w.heap.size) → wpList P ops Q rest (a.put o.dst v') w') :
    wpList P ops Q (o :: rest) a w := by
  obtain ⟨A, m, c, rfl, h1, h2, h3, h4⟩ := hb
  refine wpList_append_rd w hgd s x t ho base e _ 1 1 hT v n (bv xs) hs hown A m c (bv l) hx (by rw [bv_length]; omega) h4 bv_one (by unfold maxLen; omega) (by omega) hbase fun v' w' g1 g2 g3 => ?_
  subst h1
  exact h v' w' (by rw [bv_append]; exact g1) g2 g3
/-- the same, at a step of a region that draws its order -/
theorem step_append_bytes {K : Act → World → Prop} {E : Prop} (hgd : o.guard = none) (s x : Operand) (t : TypeId) (ho : o.op = .call { callee := .builtin .append, args := #[s, x], argTypes := #[t, t] })
    (base : Nat) {e : TypeId} (hT : SliceTy P t e (.int .u8 0) 1 1) {v : Value} {n : Nat} {xs : List UInt8} (hs : a.eval s = v) (hown : w.ownsRow base e 1 v n (bv xs))
    {vx : Value} {l : List UInt8} (hx : a.eval x = vx) (hb : Bytes w vx l) (h47 : n + l.length ≤ 140737488355328) (hbase : base ≤ w.heap.size)
    (h : ∀ v' w', w'.ownsRow base e 1 v' (n + l.length) (bv (xs ++ l)) → w.grownBy w' v.ownBlock → (v'.ownBlock = v.ownBlock ∨ v'.ownBlock = some w.heap.size) → K (a.put o.dst v') w') :
    if Region.wanted o (yielded ops a.tmps) = true then Oper.wp P o a w K Q else E := by
  have hw : Region.wanted o (yielded ops a.tmps) = true := by simp [Region.wanted, hgd]
  rw [if_pos hw]
  obtain ⟨A, m, c, rfl, h1, h2, h3, h4⟩ := hb
  refine wp_append_rd w s x t ho base e _ 1 1 hT v n (bv xs) hs hown A m c (bv l) hx (by rw [bv_length]; omega) h4 bv_one (by unfold maxLen; omega) (by omega) hbase fun v' w' g1 g2 g3 => ?_
  subst h1
  exact h v' w' (by rw [bv_append]; exact g1) g2 g3
/-- the world behind an append onto a row of the call's own -/
theorem below_app {B : Nat} {w0 w w' : World} {base : Nat} {e : TypeId} {size n : Nat} {v : Value} {xs : List Value} (hb : Below B w0 w) (ho : w.ownsRow base e size v n xs) (hB : B ≤ base)
    (hg : w.grownBy w' v.ownBlock) (hs : B ≤ w.heap.size) : Below B w0 w' := below_own hb ho hB hg hs
/-- 'make([]byte, n)' -/
theorem wpList_make_bytes (hgd : o.guard = none) (x y : Operand) (t : TypeId) (ho : o.op = .makeSlice t x y) (base : Nat) {e : TypeId} (hT : SliceTy P t e (.int .u8 0) 1 1) {kl kc : IntKind} {n : Nat}
    (hx : a.eval x = .int kl (n : Int)) (hy : a.eval y = .int kc (n : Int)) (hn : n ≤ 140737488355328) (hbase : base ≤ w.heap.size)
    (h : ∀ v w', w'.ownsRow base e 1 v n (bv (List.replicate n 0)) → Below w.heap.size w w' → wpList P ops Q rest (a.put o.dst v) w') : wpList P ops Q (o :: rest) a w := by
  obtain ⟨ht, i, hi, hz, hsz, hby, _, _⟩ := hT
  refine wpList_make_full w hgd x y t ho base e i _ 1 ht hi hz hsz kl kc _ _ n hx hy rfl rfl (by rw [hby]; omega) (by unfold maxLen; omega) hbase fun w' h1 h2 => ?_
  refine h _ w' ?_ ((Below.refl _ _).grown h2 (Nat.le_refl _) (fun k hk => by cases hk))
  have e : (madeCells (Value.int .u8 0).cells (n * 1)).toList = bv (List.replicate n 0) := by
    unfold madeCells bv
    rw [List.map_replicate, Nat.mul_one]
    apply List.ext_getElem?
    intro j
    by_cases hj : j < n
    · simp [Value.cells, hj, Nat.mod_one]
    · simp [hj]
  rw [← e]
  exact h1
end

/-- the same load, of an operation with a guard that is wanted -/
theorem wpList_load_want {P : Program} {ops : Array Oper} {rest : List Oper} {o : Oper} {a : Act} {w : World} {Q : Exit → Act → World → Prop} (hw : Region.wanted o (yielded ops a.tmps) = true) (ty : TypeId) (x : Operand) (ho : o.op = .load ty x) {g : Nat} {t : TypeId} {cs : Array Value} (hb : Blk w g t cs) (hT : AggTy P ty cs.size)
    (hx : a.eval x = .pointer (some ⟨g, 0, none⟩)) (h : wpList P ops Q rest (a.put o.dst (.agg cs)) w) : wpList P ops Q (o :: rest) a w := by
  obtain ⟨⟨d, hu, hd⟩, hi⟩ := hT
  exact wpList_step fun K hK => by
    rw [if_pos hw]
    exact wp_load_row ty x ho g hx t cs (0, 0) d hb hu (by cases d <;> first | exact hd | rfl | cases hd) hi (hK _ _ h)

/-! ### guards: at an operation of this kind ('with_reducible refine gd_store ?_' fails at once elsewhere) -/
section
variable {P : Program} {ops : Array Oper} {rest : List Oper} {a : Act} {w : World} {Q : Exit → Act → World → Prop} {d : Option Tmp} {t : TypeId} {p : String} {af : Array Edge} {g : Option (Nat × Bool)} {ty ty' : TypeId} {x y : Operand}
theorem gd_box (h : wpList P ops Q (⟨d, .box ty x, t, p, af, g⟩ :: rest) a w) : wpList P ops Q (⟨d, .box ty x, t, p, af, g⟩ :: rest) a w := h
theorem gd_store (h : wpList P ops Q (⟨d, .store ty x y, t, p, af, g⟩ :: rest) a w) : wpList P ops Q (⟨d, .store ty x y, t, p, af, g⟩ :: rest) a w := h
theorem gd_load (h : wpList P ops Q (⟨d, .load ty x, t, p, af, g⟩ :: rest) a w) : wpList P ops Q (⟨d, .load ty x, t, p, af, g⟩ :: rest) a w := h
theorem gd_alloc (h : wpList P ops Q (⟨d, .alloc ty, t, p, af, g⟩ :: rest) a w) : wpList P ops Q (⟨d, .alloc ty, t, p, af, g⟩ :: rest) a w := h
theorem gd_convert (h : wpList P ops Q (⟨d, .convert ty ty' x, t, p, af, g⟩ :: rest) a w) : wpList P ops Q (⟨d, .convert ty ty' x, t, p, af, g⟩ :: rest) a w := h
theorem gd_make (h : wpList P ops Q (⟨d, .makeSlice ty x y, t, p, af, g⟩ :: rest) a w) : wpList P ops Q (⟨d, .makeSlice ty x y, t, p, af, g⟩ :: rest) a w := h
end

/-! ### results that lie in memory -/
section
variable {P : Program} {fn : Func} {w : World} {g : Nat} {t ty : TypeId} {cs tmps : Array Value} {p q r : Tmp}
theorem run_loadVar_blk (hT : AggTy P ty cs.size) (hb : Blk w g t cs) : (loadVar ty ⟨g, 0, none⟩).run P w = .ok (.agg cs) w := by
  obtain ⟨⟨d, hu, hd⟩, hi⟩ := hT
  exact run_loadVar_row w g t ty cs (0, 0) d hb hu (by cases d <;> first | exact hd | rfl | cases hd) hi
theorem results_blk1 (h : fn.results = #[.cell p ty]) (hT : AggTy P ty cs.size) (hb : Blk w g t cs) (hp : tmps.getD p undef = .pointer (some ⟨g, 0, none⟩)) :
    (results fn tmps).run P w = .ok (.agg cs) w := by
  have hp' : tmps[p]?.getD undef = .pointer (some ⟨g, 0, none⟩) := by simpa using hp
  simp [results, h, hp', asAddr, run_loadVar_blk hT hb]
theorem results_blk2 (h : fn.results = #[.cell p ty, .tmp q]) (hT : AggTy P ty cs.size) (hb : Blk w g t cs) (hp : tmps.getD p undef = .pointer (some ⟨g, 0, none⟩)) {v : Value} (hq : tmps.getD q undef = v) :
    (results fn tmps).run P w = .ok (.tuple #[.agg cs, v]) w := by
  have hp' : tmps[p]?.getD undef = .pointer (some ⟨g, 0, none⟩) := by simpa using hp
  have hq' : tmps[q]?.getD undef = v := by simpa using hq
  simp [results, h, hp', hq', asAddr, run_loadVar_blk hT hb]
theorem results_blk3 (h : fn.results = #[.cell p ty, .tmp q, .tmp r]) (hT : AggTy P ty cs.size) (hb : Blk w g t cs) (hp : tmps.getD p undef = .pointer (some ⟨g, 0, none⟩)) {v u : Value} (hq : tmps.getD q undef = v) (hr : tmps.getD r undef = u) :
    (results fn tmps).run P w = .ok (.tuple #[.agg cs, v, u]) w := by
  have hp' : tmps[p]?.getD undef = .pointer (some ⟨g, 0, none⟩) := by simpa using hp
  have hq' : tmps[q]?.getD undef = v := by simpa using hq
  have hr' : tmps[r]?.getD undef = u := by simpa using hr
  simp [results, h, hp', hq', hr', asAddr, run_loadVar_blk hT hb]
end
end Go.Mun
