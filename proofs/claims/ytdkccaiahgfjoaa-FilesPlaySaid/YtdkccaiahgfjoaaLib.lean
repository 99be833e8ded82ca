/- Small words for memory that all walks of this seat use: cells that read as a list, rows of bytes, append onto a row of the call's own. Plain lemmas over any program. -/
import Derived.WalkKit
import Derived.WalkSpells
import Derived.Lib.Hide
import Derived.Maps.AppendAt
import Derived.Laws.OwnMore
import Derived.Laws.Rows
import Derived.Deep.Slices
import Derived.Deep.AppendLies
namespace Go.Mun
open Go Go.RowKit

/-! ### cells that read as a list -/

theorem blk_add (a : Addr) (n : Nat) : (a.add n).block = a.block := by unfold Addr.add; split <;> rfl
theorem add_add (a : Addr) (i j : Nat) : (a.add i).add j = a.add (i + j) := by
  unfold Addr.add
  by_cases hi : i = 0 <;> by_cases hj : j = 0 <;> simp [hi, hj, Nat.add_assoc]

/-- The cells from an address on hold these values (there is an address where there is a value). -/
def Rd (w : World) (A : Option Addr) (xs : List Value) : Prop :=
  ∀ j u, xs[j]? = some u → ∃ ad, A = some ad ∧ w.cell? (ad.add j) = some u

section
variable {w w' : World} {A : Option Addr} {xs ys : List Value}
theorem Rd.nil (w : World) (A : Option Addr) : Rd w A [] := fun j u h => by simp at h
theorem Rd.of_cells {a : Addr} (h : ∀ j u, xs[j]? = some u → w.cell? (a.add j) = some u) : Rd w (some a) xs := fun j u hu => ⟨a, rfl, h j u hu⟩
theorem Rd.at_ (h : Rd w A xs) {j : Nat} (hj : j < xs.length) : ∃ ad, A = some ad ∧ w.cell? (ad.add j) = some xs[j] :=
  h j _ (List.getElem?_eq_getElem hj)
theorem Rd.cells {a : Addr} (h : Rd w (some a) xs) : ∀ j u, xs[j]? = some u → w.cell? (a.add j) = some u := fun j u hu => by
  obtain ⟨ad, e, hc⟩ := h j u hu
  injection e with e
  subst e
  exact hc
theorem Rd.some_ (h : Rd w A xs) (hx : 0 < xs.length) : ∃ ad, A = some ad ∧ ∀ j u, xs[j]? = some u → w.cell? (ad.add j) = some u := by
  obtain ⟨ad, rfl, _⟩ := h.at_ hx
  exact ⟨ad, rfl, h.cells⟩
theorem Rd.keep (h : Rd w A xs) (hk : ∀ p v, w.cell? p = some v → w'.cell? p = some v) : Rd w' A xs := fun j u hu => by
  obtain ⟨ad, e, hc⟩ := h j u hu
  exact ⟨ad, e, hk _ _ hc⟩
theorem cell_ext (hb : Below w.heap.size w w') {p : Addr} {v : Value} (h : w.cell? p = some v) : w'.cell? p = some v :=
  (hb.cell (World.block_lt_of_cell? w p h)).trans h
theorem Rd.ext (h : Rd w A xs) (hb : Below w.heap.size w w') : Rd w' A xs := h.keep fun _ _ hc => cell_ext hb hc
theorem Rd.alloc (h : Rd w A xs) (o : Obj) : Rd (w.alloc o) A xs := h.ext ((Below.refl _ _).alloc (Nat.le_refl _) o)
theorem Rd.drew (h : Rd w A xs) : Rd w.drew A xs := h
theorem Rd.grown {row : Option Nat} (h : Rd w A xs) (hg : w.grownBy w' row) (hne : ∀ ad, A = some ad → some ad.block ≠ row) : Rd w' A xs := fun j u hu => by
  obtain ⟨ad, e, hc⟩ := h j u hu
  exact ⟨ad, e, hg.cell hc (by rw [blk_add]; exact hne ad e)⟩
theorem Rd.take (h : Rd w A xs) (k : Nat) : Rd w A (xs.take k) := fun j u hu => by
  rw [List.getElem?_take] at hu
  split at hu
  · exact h j u hu
  · cases hu
theorem Rd.drop (h : Rd w A xs) (k : Nat) : Rd w (A.map (·.add k)) (xs.drop k) := fun j u hu => by
  rw [List.getElem?_drop] at hu
  obtain ⟨ad, rfl, hc⟩ := h _ _ hu
  exact ⟨ad.add k, rfl, by rw [add_add]; exact hc⟩
theorem Rd.drop_if (h : Rd w A xs) (k cap : Nat) (hk : k = cap → xs.length ≤ k) : Rd w (if cap = k then A else A.map (·.add k)) (xs.drop k) := by
  by_cases e : cap = k
  · rw [if_pos e, List.drop_eq_nil_of_le (hk e.symm)]
    exact Rd.nil _ _
  · rw [if_neg e]
    exact h.drop k
theorem Rd.append_left (h : Rd w A (xs ++ ys)) : Rd w A xs := by
  have := h.take xs.length
  simpa using this
theorem Rd.new (w : World) (cs : Array Value) (e : TypeId) (f : Nat × Nat) : Rd (w.alloc (.cells cs e f)) (some ⟨w.heap.size, 0, none⟩) cs.toList :=
  Rd.of_cells fun j u hu => by
    have hadd : (⟨w.heap.size, 0, none⟩ : Addr).add j = ⟨w.heap.size, j, none⟩ := by unfold Addr.add; split <;> simp_all
    rw [hadd, cell_of_row (w.alloc (.cells cs e f)) w.heap.size j cs e f (heap_alloc_new w _)]
    simpa using hu
theorem Rd.new_at {w : World} {g : Nat} (hg : g = w.heap.size) (cs : Array Value) (e : TypeId) (f : Nat × Nat) : Rd (w.alloc (.cells cs e f)) (some ⟨g, 0, none⟩) cs.toList := by
  subst hg
  exact Rd.new w cs e f
theorem Rd.own {base : Nat} {e : TypeId} {size n : Nat} {c : Nat} (h : w.ownsRow base e size (.slice A n c) n xs) : Rd w A xs := fun j u hu => by
  have hn : 0 < n := by
    rcases Nat.eq_zero_or_pos n with h0 | h0
    · subst h0
      have : xs = [] := List.eq_nil_of_length_eq_zero (by simpa using h.1)
      subst this
      simp at hu
    · exact h0
  obtain ⟨g, cap, hv, _, _⟩ := h.form hn
  have hA : A = some ⟨g, 0, none⟩ := by injection hv
  subst hA
  exact ⟨_, rfl, h.cells rfl j u hu⟩
end

/-! ### rows of bytes -/

/-- The cells of bytes. -/
def bv (l : List UInt8) : List Value := l.map fun b => .int .u8 (b.toNat : Int)
theorem bv_length (l : List UInt8) : (bv l).length = l.length := by simp [bv]
theorem bv_append (l m : List UInt8) : bv (l ++ m) = bv l ++ bv m := by simp [bv]
theorem bv_take (l : List UInt8) (k : Nat) : (bv l).take k = bv (l.take k) := by simp [bv]
theorem bv_drop (l : List UInt8) (k : Nat) : (bv l).drop k = bv (l.drop k) := by simp [bv]
theorem bv_one {l : List UInt8} : ∀ u ∈ bv l, u.oneCell' = true := by
  intro u hu
  simp only [bv, List.mem_map] at hu
  obtain ⟨b, _, rfl⟩ := hu
  rfl
theorem bv_get {l : List UInt8} {j : Nat} (hj : j < l.length) : (bv l)[j]? = some (.int .u8 (l[j].toNat : Int)) := by
  simp [bv, hj]
theorem bv_inj {l m : List UInt8} (h : bv l = bv m) : l = m := by
  have hi : ∀ a b : UInt8, (Value.int .u8 (a.toNat : Int)) = .int .u8 (b.toNat : Int) → a = b := by
    intro a b e
    injection e with _ e
    exact UInt8.toNat_inj.1 (by omega)
  exact (List.map_inj_right hi).1 h

theorem Rd.byte {w : World} {A : Option Addr} {l : List UInt8} (h : Rd w A (bv l)) {j : Nat} (hj : j < l.length) :
    ∃ ad, A = some ad ∧ w.cell? (ad.add j) = some (.int .u8 (l[j].toNat : Int)) := h j _ (bv_get hj)

/-- A value that is a slice of these bytes. -/
def Bytes (w : World) (v : Value) (l : List UInt8) : Prop :=
  ∃ A n c, v = .slice A n c ∧ l.length = n ∧ n ≤ c ∧ c ≤ maxLen ∧ Rd w A (bv l)

theorem Bytes.ext {w w' : World} {v : Value} {l : List UInt8} (h : Bytes w v l) (hb : Below w.heap.size w w') : Bytes w' v l := by
  obtain ⟨A, n, c, rfl, h1, h2, h3, h4⟩ := h
  exact ⟨A, n, c, rfl, h1, h2, h3, h4.ext hb⟩
theorem Bytes.grownB {w w' : World} {A : Option Addr} {n c : Nat} {l : List UInt8} {row : Option Nat} (h : Bytes w (.slice A n c) l) (hg : w.grownBy w' row) (hne : ∀ ad, A = some ad → some ad.block ≠ row) : Bytes w' (.slice A n c) l := by
  obtain ⟨A', n', c', e, h1, h2, h3, h4⟩ := h
  injection e with e1 e2 e3
  subst e1
  subst e2
  subst e3
  exact ⟨_, _, _, rfl, h1, h2, h3, h4.grown hg hne⟩
theorem Bytes.nil (w : World) : Bytes w (.slice none 0 0) [] := ⟨none, 0, 0, rfl, rfl, Nat.le_refl _, by simp [maxLen], Rd.nil _ _⟩
theorem Bytes.own {w : World} {base : Nat} {e : TypeId} {v : Value} {n : Nat} {l : List UInt8} (h : w.ownsRow base e 1 v n (bv l)) : Bytes w v l := by
  have hl : l.length = n := by have := h.1; rw [bv_length] at this; omega
  rcases h.2 with ⟨rfl, rfl⟩ | ⟨g, cap, cur, rfl, _, _, hnc, hcm, _⟩
  · exact ⟨none, 0, 0, rfl, hl, Nat.le_refl _, by simp [maxLen], by
      have : l = [] := List.eq_nil_of_length_eq_zero hl
      subst this
      exact Rd.nil _ _⟩
  · exact ⟨_, n, cap, rfl, hl, hnc, hcm, Rd.own h⟩

theorem bv_set (l : List UInt8) (i : Nat) (z : UInt8) : (bv l).set i (.int .u8 (z.toNat : Int)) = bv (l.set i z) := by
  unfold bv
  rw [List.map_set]

/-- 'b[lo:hi]' of bytes. -/
theorem Bytes.cut {w : World} {A : Option Addr} {n c : Nat} {l : List UInt8} (h : Bytes w (.slice A n c) l) {lo hi : Nat} (h1 : lo ≤ hi) (h2 : hi ≤ n) :
    Bytes w (.slice (if c = lo then A else A.map (·.add lo)) (hi - lo) (c - lo)) ((l.take hi).drop lo) := by
  obtain ⟨A', n', c', e, g1, g2, g3, g4⟩ := h
  injection e with e1 e2 e3
  subst e1
  subst e2
  subst e3
  refine ⟨_, _, _, rfl, by rw [List.length_drop, List.length_take]; omega, by omega, by omega, ?_⟩
  rw [← bv_drop, ← bv_take]
  exact (g4.take hi).drop_if lo c fun e => by rw [List.length_take, bv_length]; omega

/-- A slice value over a row of just these cells, of one cell each. -/
def IsRow (w : World) (v : Value) (us : List Value) : Prop := ∃ a, v = .slice (some a) us.length us.length ∧ Rd w (some a) us
theorem IsRow.ext {w w' : World} {v : Value} {us : List Value} (h : IsRow w v us) (hb : Below w.heap.size w w') : IsRow w' v us := by
  obtain ⟨a, e, h⟩ := h
  exact ⟨a, e, h.ext hb⟩

/-! ### what a slice type is, in one word -/

/-- 't' is a slice of 'e': its zero value, its cells, its bytes. -/
def SliceTy (P : Program) (t e : TypeId) (z : Value) (size bytes : Nat) : Prop :=
  P.underlying t = some (.slice e) ∧ ∃ i, P.info? e = some i ∧ i.zero = some z ∧ i.size = size ∧ i.bytes = bytes ∧ z.cells.size = size ∧ 0 < size

theorem SliceTy.mk' {P : Program} {t e : TypeId} {z : Value} {size bytes : Nat} (ht : P.underlying t = some (.slice e))
    (hi : (P.info? e).map (fun i => (i.zero, i.size, i.bytes)) = some (some z, size, bytes)) (hz : z.cells.size = size) (hs : 0 < size) : SliceTy P t e z size bytes := by
  obtain ⟨i, h1, h2, h3, h4⟩ := info_parts hi
  exact ⟨ht, i, h1, h2, h3, h4, hz, hs⟩

/-! ### append onto a row of the call's own, from whatever source -/
section
variable {P : Program} (w : World)

theorem run_append_none (base : Nat) (t ty e : TypeId) (i : TypeInfo) (size : Nat) (ht : P.underlying t = some (.slice e)) (hi : P.info? e = some i)
    (v : Value) (n : Nat) (xs : List Value) (hown : w.ownsRow base e size v n xs) (c : Nat) : (Builtin.append_ #[t, t] ty #[v, .slice none 0 c]).run P w = .ok v w := by
  rcases hown.2 with ⟨rfl, rfl⟩ | ⟨g, cap, cur, rfl, _, _, hnc, _⟩
  · simp [Builtin.append_, run_underlying ht, sizeOf, typeInfo, hi, Builtin.lenOf, Builtin.firstCells]
  · simp [Builtin.append_, run_underlying ht, sizeOf, typeInfo, hi, Builtin.lenOf, Builtin.firstCells, hnc, storeCells]

theorem run_append_rd (base : Nat) (t ty e : TypeId) (z : Value) (size bytes : Nat) (hT : SliceTy P t e z size bytes)
    (v : Value) (n : Nat) (xs : List Value) (hown : w.ownsRow base e size v n xs)
    (A : Option Addr) (m c : Nat) (news : List Value) (hl : news.length = m * size) (hr : Rd w A news) (h1 : ∀ u ∈ news, u.oneCell' = true)
    (h63 : n + m ≤ maxLen) (hbytes : (n + m) * bytes ≤ 140737488355328) (hbase : base ≤ w.heap.size) :
    ∃ v' w', (Builtin.append_ #[t, t] ty #[v, .slice A m c]).run P w = .ok v' w' ∧ w'.ownsRow base e size v' (n + m) (xs ++ news) ∧ w.grownBy w' v.ownBlock ∧
      (v'.ownBlock = v.ownBlock ∨ v'.ownBlock = some w.heap.size) := by
  obtain ⟨ht, i, hi, hz, hsize, hby, hzs, hsz⟩ := hT
  by_cases hm : m = 0
  · subst hm
    have hn : news = [] := List.eq_nil_of_length_eq_zero (by simpa using hl)
    subst hn
    rcases A with _ | ad
    · exact ⟨v, w, run_append_none w base t ty e i size ht hi v n xs hown c, by simpa using hown, World.grownBy.refl w _, .inl rfl⟩
    · obtain ⟨v', w', hrun, h2, h3, _, h5⟩ := run_append_own_at (P := P) w base t ty e i z size bytes ht hi hz hsize hby hzs hsz v n xs hown ad 0 c [] hl (by simp) h1 h63 hbytes hbase
      exact ⟨v', w', hrun, h2, h3, h5⟩
  · have hpos : 0 < news.length := by rw [hl]; exact Nat.mul_pos (by omega) hsz
    obtain ⟨ad, rfl, hc⟩ := hr.some_ hpos
    obtain ⟨v', w', hrun, h2, h3, _, h5⟩ := run_append_own_at (P := P) w base t ty e i z size bytes ht hi hz hsize hby hzs hsz v n xs hown ad m c news hl hc h1 h63 hbytes hbase
    exact ⟨v', w', hrun, h2, h3, h5⟩

theorem wp_append_rd {o : Oper} {a : Act} {K : Act → World → Prop} {Q : Exit → Act → World → Prop} (s x : Operand) (t : TypeId)
    (ho : o.op = .call { callee := .builtin .append, args := #[s, x], argTypes := #[t, t] })
    (base : Nat) (e : TypeId) (z : Value) (size bytes : Nat) (hT : SliceTy P t e z size bytes)
    (v : Value) (n : Nat) (xs : List Value) (hs : a.eval s = v) (hown : w.ownsRow base e size v n xs)
    (A : Option Addr) (m c : Nat) (news : List Value) (hx : a.eval x = .slice A m c) (hl : news.length = m * size) (hr : Rd w A news) (h1 : ∀ u ∈ news, u.oneCell' = true)
    (h63 : n + m ≤ maxLen) (hbytes : (n + m) * bytes ≤ 140737488355328) (hbase : base ≤ w.heap.size)
    (h : ∀ v' w', w'.ownsRow base e size v' (n + m) (xs ++ news) → w.grownBy w' v.ownBlock → (v'.ownBlock = v.ownBlock ∨ v'.ownBlock = some w.heap.size) → K (a.put o.dst v') w') : o.wp P a w K Q := by
  obtain ⟨v', w', hrun, h2, h3, h4⟩ := run_append_rd (P := P) w base t o.type e z size bytes hT v n xs hown A m c news hl hr h1 h63 hbytes hbase
  unfold Oper.wp execOp
  simp only [ho, resolve, invoke, builtin, Sem.run_bind, Sem.run_pure, Result.andThen_ok, List.map_toArray, List.map_cons, List.map_nil, hs, hx, hrun]
  exact h v' w' h2 h3 h4

theorem wpList_append_rd {ops : Array Oper} {rest : List Oper} {o : Oper} {a : Act} {Q : Exit → Act → World → Prop} (hgd : o.guard = none) (s x : Operand) (t : TypeId)
    (ho : o.op = .call { callee := .builtin .append, args := #[s, x], argTypes := #[t, t] })
    (base : Nat) (e : TypeId) (z : Value) (size bytes : Nat) (hT : SliceTy P t e z size bytes)
    (v : Value) (n : Nat) (xs : List Value) (hs : a.eval s = v) (hown : w.ownsRow base e size v n xs)
    (A : Option Addr) (m c : Nat) (news : List Value) (hx : a.eval x = .slice A m c) (hl : news.length = m * size) (hr : Rd w A news) (h1 : ∀ u ∈ news, u.oneCell' = true)
    (h63 : n + m ≤ maxLen) (hbytes : (n + m) * bytes ≤ 140737488355328) (hbase : base ≤ w.heap.size)
    (h : ∀ v' w', w'.ownsRow base e size v' (n + m) (xs ++ news) → w.grownBy w' v.ownBlock → (v'.ownBlock = v.ownBlock ∨ v'.ownBlock = some w.heap.size) → wpList P ops Q rest (a.put o.dst v') w') : wpList P ops Q (o :: rest) a w :=
  wpList_plain hgd fun _ hK => wp_append_rd w s x t ho base e z size bytes hT v n xs hs hown A m c news hx hl hr h1 h63 hbytes hbase fun v' w' h2 h3 h4 => hK _ _ (h v' w' h2 h3 h4)
end

theorem ret_e {k : IntKind} {v : Value} {a b : Int} (h : b = a) : Ending.returned (.tuple #[v, .int k a]) = .returned (.tuple #[v, .int k b]) := by rw [h]
theorem ret_i {k : IntKind} {a b : Int} (h : a = b) : Ending.returned (.int k a) = .returned (.int k b) := by rw [h]

/-! ### 'Below', carried on -/
theorem below_own {B : Nat} {w0 w w' : World} {base : Nat} {e : TypeId} {size n : Nat} {v : Value} {xs : List Value} (hb : Below B w0 w) (ho : w.ownsRow base e size v n xs) (hB : B ≤ base)
    (hg : w.grownBy w' v.ownBlock) (hs : B ≤ w.heap.size) : Below B w0 w' :=
  hb.grown hg hs fun k hk => by have := (ho.lt k hk).1; omega
theorem below_step {w0 w w' : World} (hb : Below w0.heap.size w0 w) (hb' : Below w.heap.size w w') : Below w0.heap.size w0 w' :=
  hb.trans (hb'.mono hb.size)

/-! ### a cut of a slice whose elements are one cell each, as a fact for the walk -/
section
variable {P : Program} {t e : TypeId} {z : Value} {bytes : Nat}
theorem SliceTy.sizeOf_elem {size : Nat} (hT : SliceTy P t e z size bytes) (w : World) : (sizeOf (P.elem t)).run P w = .ok size w := by
  obtain ⟨ht, i, hi, _, hs, _⟩ := hT
  have he : P.elem t = e := by unfold Program.elem; rw [ht]
  rw [he]
  simp [sizeOf, typeInfo, hi, hs]
theorem SliceTy.under {size : Nat} (hT : SliceTy P t e z size bytes) : P.underlying t = some (.slice (P.elem t)) := by
  have he : P.elem t = e := by unfold Program.elem; rw [hT.1]
  rw [he]; exact hT.1
/-- 'x[lo:hi]' -/
theorem cut_lh (hT : SliceTy P t e z 1 bytes) (A : Option Addr) (n c : Nat) {kl kh : IntKind} {lo' hi' : Int} {lo hi : Nat} (hlo : lo' = lo) (hhi : hi' = hi) (h1 : lo ≤ hi) (h2 : hi ≤ c) :
    ∃ A' : Option Addr, (∀ w, (Instr.slice t (.slice A n c) (some (.int kl lo')) (some (.int kh hi')) none).run P w = .ok (.slice A' (hi - lo) (c - lo)) w) ∧
      (∀ w l, Bytes w (.slice A n c) l → hi ≤ n → Bytes w (.slice A' (hi - lo) (c - lo)) ((l.take hi).drop lo)) := by
  subst hlo
  subst hhi
  refine ⟨if c = lo then A else A.map (·.add lo), fun w => ?_, fun w l h hn => h.cut h1 hn⟩
  rw [run_slice_lh w t A n c hT.under kl kh lo hi (by omega) (by omega) (by omega), hT.sizeOf_elem]
  simp [Result.andThen, sliced]
/-- 'x[:hi]' -/
theorem cut_h (hT : SliceTy P t e z 1 bytes) (A : Option Addr) (n c : Nat) {kh : IntKind} {hi' : Int} {hi : Nat} (hhi : hi' = hi) (h2 : hi ≤ c) :
    ∃ A' : Option Addr, (∀ w, (Instr.slice t (.slice A n c) none (some (.int kh hi')) none).run P w = .ok (.slice A' hi c) w) ∧
      (∀ w l, Bytes w (.slice A n c) l → hi ≤ n → Bytes w (.slice A' hi c) (l.take hi)) := by
  subst hhi
  refine ⟨if c = 0 then A else A.map (·.add 0), fun w => ?_, fun w l h hn => by simpa using h.cut (Nat.zero_le _) hn⟩
  rw [run_slice_h w t A n c hT.under kh hi (by omega) (by omega), hT.sizeOf_elem]
  simp [Result.andThen, sliced]
/-- 'x[lo:]' -/
theorem cut_l (hT : SliceTy P t e z 1 bytes) (A : Option Addr) (n c : Nat) {kl : IntKind} {lo' : Int} {lo : Nat} (hlo : lo' = lo) (h1 : lo ≤ n) :
    ∃ A' : Option Addr, (∀ w, (Instr.slice t (.slice A n c) (some (.int kl lo')) none none).run P w = .ok (.slice A' (n - lo) (c - lo)) w) ∧
      (∀ w l, Bytes w (.slice A n c) l → Bytes w (.slice A' (n - lo) (c - lo)) (l.drop lo)) := by
  subst hlo
  refine ⟨if c = lo then A else A.map (·.add lo), fun w => ?_, fun w l h => ?_⟩
  · rw [run_slice_l w t A n c hT.under kl lo (by omega) (by omega), hT.sizeOf_elem]
    simp [Result.andThen, sliced]
  · have hl : l.length = n := by obtain ⟨_, _, _, e, g1, _⟩ := h; injection e with e1 e2 e3; omega
    have := h.cut h1 (Nat.le_refl n)
    rwa [List.take_of_length_le (by omega)] at this
end
end Go.Mun
