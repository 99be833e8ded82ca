/- What the KV laws use of the parts that are shared, in one text (eseat.py). -/
import Derived.WalkKit
import Derived.WalkSpells
import Derived.Lib.Hide
import Derived.Maps.AppendAt
import Derived.Laws.OwnMore
import Derived.Laws.Rows
import Derived.Deep.Slices
import Derived.Deep.AppendLies
import Derived.WideShapes
import Derived.WideAt
import Derived.Laws.Tables
import Derived.Deep.Draws
import Derived.Test.YthjnebngdcdicaaProg
import Derived.Maps.OwnSet
import Derived.StringKeys
import Derived.Shelf.SlIter.Nil
import Derived.Shelf.SortM.Plain
import Derived.Deep.MidRow
import Derived.Laws.IdiomStrings
import Derived.Laws.BytesArg
import Derived.Deep.Cut
import Derived.Shelf.SortM.SortNone
import Derived.Ground.GgzProg
import Derived.Ground.SlgmProg
import Derived.Shelf.SlMaps.Clone
import Derived.Ground.SlmcProg
import Derived.ProofKit
import Derived.OpenShut
import Derived.ChangeOld
import Derived.Carry
import Derived.DataReads
-- Lib
namespace Go.Mun
open Go Go.RowKit

/-! ### cells that read as a list -/

theorem blk_add (a : Addr) (n : Nat) : (a.add n).block = a.block := by unfold Addr.add; split <;> rfl
theorem add_add (a : Addr) (i j : Nat) : (a.add i).add j = a.add (i + j) := by
  unfold Addr.add
  by_cases hi : i = 0 <;> by_cases hj : j = 0 <;> simp [hi, hj, Nat.add_assoc]

/-- The cells from an address on hold these values (there is an address where there is a value). -/
def Rd (w : World) (A : Option Addr) (xs : List Value) : Prop :=
  ∀ j u, xs[j]? = some u → ∃ ad, A = some ad ∧ w.cell? (ad.add j) = some u

section
variable {w w' : World} {A : Option Addr} {xs ys : List Value}
theorem Rd.nil (w : World) (A : Option Addr) : Rd w A [] := fun j u h => by simp at h
theorem Rd.of_cells {a : Addr} (h : ∀ j u, xs[j]? = some u → w.cell? (a.add j) = some u) : Rd w (some a) xs := fun j u hu => ⟨a, rfl, h j u hu⟩
theorem Rd.at_ (h : Rd w A xs) {j : Nat} (hj : j < xs.length) : ∃ ad, A = some ad ∧ w.cell? (ad.add j) = some xs[j] :=
  h j _ (List.getElem?_eq_getElem hj)
theorem Rd.cells {a : Addr} (h : Rd w (some a) xs) : ∀ j u, xs[j]? = some u → w.cell? (a.add j) = some u := fun j u hu => by
  obtain ⟨ad, e, hc⟩ := h j u hu
  injection e with e
  subst e
  exact hc
theorem Rd.some_ (h : Rd w A xs) (hx : 0 < xs.length) : ∃ ad, A = some ad ∧ ∀ j u, xs[j]? = some u → w.cell? (ad.add j) = some u := by
  obtain ⟨ad, rfl, _⟩ := h.at_ hx
  exact ⟨ad, rfl, h.cells⟩
theorem Rd.keep (h : Rd w A xs) (hk : ∀ p v, w.cell? p = some v → w'.cell? p = some v) : Rd w' A xs := fun j u hu => by
  obtain ⟨ad, e, hc⟩ := h j u hu
  exact ⟨ad, e, hk _ _ hc⟩
theorem cell_ext (hb : Below w.heap.size w w') {p : Addr} {v : Value} (h : w.cell? p = some v) : w'.cell? p = some v :=
  (hb.cell (World.block_lt_of_cell? w p h)).trans h
theorem Rd.ext (h : Rd w A xs) (hb : Below w.heap.size w w') : Rd w' A xs := h.keep fun _ _ hc => cell_ext hb hc
theorem Rd.alloc (h : Rd w A xs) (o : Obj) : Rd (w.alloc o) A xs := h.ext ((Below.refl _ _).alloc (Nat.le_refl _) o)
theorem Rd.drew (h : Rd w A xs) : Rd w.drew A xs := h
theorem Rd.grown {row : Option Nat} (h : Rd w A xs) (hg : w.grownBy w' row) (hne : ∀ ad, A = some ad → some ad.block ≠ row) : Rd w' A xs := fun j u hu => by
  obtain ⟨ad, e, hc⟩ := h j u hu
  exact ⟨ad, e, hg.cell hc (by rw [blk_add]; exact hne ad e)⟩
theorem Rd.take (h : Rd w A xs) (k : Nat) : Rd w A (xs.take k) := fun j u hu => by
  rw [List.getElem?_take] at hu
  split at hu
  · exact h j u hu
  · cases hu
theorem Rd.drop (h : Rd w A xs) (k : Nat) : Rd w (A.map (·.add k)) (xs.drop k) := fun j u hu => by
  rw [List.getElem?_drop] at hu
  obtain ⟨ad, rfl, hc⟩ := h _ _ hu
  exact ⟨ad.add k, rfl, by rw [add_add]; exact hc⟩
theorem Rd.drop_if (h : Rd w A xs) (k cap : Nat) (hk : k = cap → xs.length ≤ k) : Rd w (if cap = k then A else A.map (·.add k)) (xs.drop k) := by
  by_cases e : cap = k
  · rw [if_pos e, List.drop_eq_nil_of_le (hk e.symm)]
    exact Rd.nil _ _
  · rw [if_neg e]
    exact h.drop k
theorem Rd.append_left (h : Rd w A (xs ++ ys)) : Rd w A xs := by
  have := h.take xs.length
  simpa using this
theorem Rd.new (w : World) (cs : Array Value) (e : TypeId) (f : Nat × Nat) : Rd (w.alloc (.cells cs e f)) (some ⟨w.heap.size, 0, none⟩) cs.toList :=
  Rd.of_cells fun j u hu => by
    have hadd : (⟨w.heap.size, 0, none⟩ : Addr).add j = ⟨w.heap.size, j, none⟩ := by unfold Addr.add; split <;> simp_all
    rw [hadd, cell_of_row (w.alloc (.cells cs e f)) w.heap.size j cs e f (heap_alloc_new w _)]
    simpa using hu
theorem Rd.new_at {w : World} {g : Nat} (hg : g = w.heap.size) (cs : Array Value) (e : TypeId) (f : Nat × Nat) : Rd (w.alloc (.cells cs e f)) (some ⟨g, 0, none⟩) cs.toList := by
  subst hg
  exact Rd.new w cs e f
theorem Rd.own {base : Nat} {e : TypeId} {size n : Nat} {c : Nat} (h : w.ownsRow base e size (.slice A n c) n xs) : Rd w A xs := fun j u hu => by
  have hn : 0 < n := by
    rcases Nat.eq_zero_or_pos n with h0 | h0
    · subst h0
      have : xs = [] := List.eq_nil_of_length_eq_zero (by simpa using h.1)
      subst this
      simp at hu
    · exact h0
  obtain ⟨g, cap, hv, _, _⟩ := h.form hn
  have hA : A = some ⟨g, 0, none⟩ := by injection hv
  subst hA
  exact ⟨_, rfl, h.cells rfl j u hu⟩
end

/-! ### rows of bytes -/

/-- The cells of bytes. -/
def bv (l : List UInt8) : List Value := l.map fun b => .int .u8 (b.toNat : Int)
theorem bv_length (l : List UInt8) : (bv l).length = l.length := by simp [bv]
theorem bv_append (l m : List UInt8) : bv (l ++ m) = bv l ++ bv m := by simp [bv]
theorem bv_take (l : List UInt8) (k : Nat) : (bv l).take k = bv (l.take k) := by simp [bv]
theorem bv_drop (l : List UInt8) (k : Nat) : (bv l).drop k = bv (l.drop k) := by simp [bv]
theorem bv_one {l : List UInt8} : ∀ u ∈ bv l, u.oneCell' = true := by
  intro u hu
  simp only [bv, List.mem_map] at hu
  obtain ⟨b, _, rfl⟩ := hu
  rfl
theorem bv_get {l : List UInt8} {j : Nat} (hj : j < l.length) : (bv l)[j]? = some (.int .u8 (l[j].toNat : Int)) := by
  simp [bv, hj]
theorem bv_inj {l m : List UInt8} (h : bv l = bv m) : l = m := by
  have hi : ∀ a b : UInt8, (Value.int .u8 (a.toNat : Int)) = .int .u8 (b.toNat : Int) → a = b := by
    intro a b e
    injection e with _ e
    exact UInt8.toNat_inj.1 (by omega)
  exact (List.map_inj_right hi).1 h

theorem Rd.byte {w : World} {A : Option Addr} {l : List UInt8} (h : Rd w A (bv l)) {j : Nat} (hj : j < l.length) :
    ∃ ad, A = some ad ∧ w.cell? (ad.add j) = some (.int .u8 (l[j].toNat : Int)) := h j _ (bv_get hj)

/-- A value that is a slice of these bytes. -/
def Bytes (w : World) (v : Value) (l : List UInt8) : Prop :=
  ∃ A n c, v = .slice A n c ∧ l.length = n ∧ n ≤ c ∧ c ≤ maxLen ∧ Rd w A (bv l)

theorem Bytes.ext {w w' : World} {v : Value} {l : List UInt8} (h : Bytes w v l) (hb : Below w.heap.size w w') : Bytes w' v l := by
  obtain ⟨A, n, c, rfl, h1, h2, h3, h4⟩ := h
  exact ⟨A, n, c, rfl, h1, h2, h3, h4.ext hb⟩
theorem Bytes.grownB {w w' : World} {A : Option Addr} {n c : Nat} {l : List UInt8} {row : Option Nat} (h : Bytes w (.slice A n c) l) (hg : w.grownBy w' row) (hne : ∀ ad, A = some ad → some ad.block ≠ row) : Bytes w' (.slice A n c) l := by
  obtain ⟨A', n', c', e, h1, h2, h3, h4⟩ := h
  injection e with e1 e2 e3
  subst e1
  subst e2
  subst e3
  exact ⟨_, _, _, rfl, h1, h2, h3, h4.grown hg hne⟩
theorem Bytes.nil (w : World) : Bytes w (.slice none 0 0) [] := ⟨none, 0, 0, rfl, rfl, Nat.le_refl _, by simp [maxLen], Rd.nil _ _⟩
theorem Bytes.own {w : World} {base : Nat} {e : TypeId} {v : Value} {n : Nat} {l : List UInt8} (h : w.ownsRow base e 1 v n (bv l)) : Bytes w v l := by
  have hl : l.length = n := by have := h.1; rw [bv_length] at this; omega
  rcases h.2 with ⟨rfl, rfl⟩ | ⟨g, cap, cur, rfl, _, _, hnc, hcm, _⟩
  · exact ⟨none, 0, 0, rfl, hl, Nat.le_refl _, by simp [maxLen], by
      have : l = [] := List.eq_nil_of_length_eq_zero hl
      subst this
      exact Rd.nil _ _⟩
  · exact ⟨_, n, cap, rfl, hl, hnc, hcm, Rd.own h⟩

theorem bv_set (l : List UInt8) (i : Nat) (z : UInt8) : (bv l).set i (.int .u8 (z.toNat : Int)) = bv (l.set i z) := by
  unfold bv
  rw [List.map_set]

/-- 'b[lo:hi]' of bytes. -/
theorem Bytes.cut {w : World} {A : Option Addr} {n c : Nat} {l : List UInt8} (h : Bytes w (.slice A n c) l) {lo hi : Nat} (h1 : lo ≤ hi) (h2 : hi ≤ n) :
    Bytes w (.slice (if c = lo then A else A.map (·.add lo)) (hi - lo) (c - lo)) ((l.take hi).drop lo) := by
  obtain ⟨A', n', c', e, g1, g2, g3, g4⟩ := h
  injection e with e1 e2 e3
  subst e1
  subst e2
  subst e3
  refine ⟨_, _, _, rfl, by rw [List.length_drop, List.length_take]; omega, by omega, by omega, ?_⟩
  rw [← bv_drop, ← bv_take]
  exact (g4.take hi).drop_if lo c fun e => by rw [List.length_take, bv_length]; omega

/-- A slice value over a row of just these cells, of one cell each. -/
def IsRow (w : World) (v : Value) (us : List Value) : Prop := ∃ a, v = .slice (some a) us.length us.length ∧ Rd w (some a) us
theorem IsRow.ext {w w' : World} {v : Value} {us : List Value} (h : IsRow w v us) (hb : Below w.heap.size w w') : IsRow w' v us := by
  obtain ⟨a, e, h⟩ := h
  exact ⟨a, e, h.ext hb⟩

/-! ### what a slice type is, in one word -/

/-- 't' is a slice of 'e': its zero value, its cells, its bytes. -/
def SliceTy (P : Program) (t e : TypeId) (z : Value) (size bytes : Nat) : Prop :=
  P.underlying t = some (.slice e) ∧ ∃ i, P.info? e = some i ∧ i.zero = some z ∧ i.size = size ∧ i.bytes = bytes ∧ z.cells.size = size ∧ 0 < size

theorem SliceTy.mk' {P : Program} {t e : TypeId} {z : Value} {size bytes : Nat} (ht : P.underlying t = some (.slice e))
    (hi : (P.info? e).map (fun i => (i.zero, i.size, i.bytes)) = some (some z, size, bytes)) (hz : z.cells.size = size) (hs : 0 < size) : SliceTy P t e z size bytes := by
  obtain ⟨i, h1, h2, h3, h4⟩ := info_parts hi
  exact ⟨ht, i, h1, h2, h3, h4, hz, hs⟩

/-! ### append onto a row of the call's own, from whatever source -/
section
variable {P : Program} (w : World)

theorem run_append_none (base : Nat) (t ty e : TypeId) (i : TypeInfo) (size : Nat) (ht : P.underlying t = some (.slice e)) (hi : P.info? e = some i)
    (v : Value) (n : Nat) (xs : List Value) (hown : w.ownsRow base e size v n xs) (c : Nat) : (Builtin.append_ #[t, t] ty #[v, .slice none 0 c]).run P w = .ok v w := by
  rcases hown.2 with ⟨rfl, rfl⟩ | ⟨g, cap, cur, rfl, _, _, hnc, _⟩
  · simp [Builtin.append_, run_underlying ht, sizeOf, typeInfo, hi, Builtin.lenOf, Builtin.firstCells]
  · simp [Builtin.append_, run_underlying ht, sizeOf, typeInfo, hi, Builtin.lenOf, Builtin.firstCells, hnc, storeCells]

theorem run_append_rd (base : Nat) (t ty e : TypeId) (z : Value) (size bytes : Nat) (hT : SliceTy P t e z size bytes)
    (v : Value) (n : Nat) (xs : List Value) (hown : w.ownsRow base e size v n xs)
    (A : Option Addr) (m c : Nat) (news : List Value) (hl : news.length = m * size) (hr : Rd w A news) (h1 : ∀ u ∈ news, u.oneCell' = true)
    (h63 : n + m ≤ maxLen) (hbytes : (n + m) * bytes ≤ 140737488355328) (hbase : base ≤ w.heap.size) :
    ∃ v' w', (Builtin.append_ #[t, t] ty #[v, .slice A m c]).run P w = .ok v' w' ∧ w'.ownsRow base e size v' (n + m) (xs ++ news) ∧ w.grownBy w' v.ownBlock ∧
      (v'.ownBlock = v.ownBlock ∨ v'.ownBlock = some w.heap.size) := by
  obtain ⟨ht, i, hi, hz, hsize, hby, hzs, hsz⟩ := hT
  by_cases hm : m = 0
  · subst hm
    have hn : news = [] := List.eq_nil_of_length_eq_zero (by simpa using hl)
    subst hn
    rcases A with _ | ad
    · exact ⟨v, w, run_append_none w base t ty e i size ht hi v n xs hown c, by simpa using hown, World.grownBy.refl w _, .inl rfl⟩
    · obtain ⟨v', w', hrun, h2, h3, _, h5⟩ := run_append_own_at (P := P) w base t ty e i z size bytes ht hi hz hsize hby hzs hsz v n xs hown ad 0 c [] hl (by simp) h1 h63 hbytes hbase
      exact ⟨v', w', hrun, h2, h3, h5⟩
  · have hpos : 0 < news.length := by rw [hl]; exact Nat.mul_pos (by omega) hsz
    obtain ⟨ad, rfl, hc⟩ := hr.some_ hpos
    obtain ⟨v', w', hrun, h2, h3, _, h5⟩ := run_append_own_at (P := P) w base t ty e i z size bytes ht hi hz hsize hby hzs hsz v n xs hown ad m c news hl hc h1 h63 hbytes hbase
    exact ⟨v', w', hrun, h2, h3, h5⟩

theorem wp_append_rd {o : Oper} {a : Act} {K : Act → World → Prop} {Q : Exit → Act → World → Prop} (s x : Operand) (t : TypeId)
    (ho : o.op = .call { callee := .builtin .append, args := #[s, x], argTypes := #[t, t] })
    (base : Nat) (e : TypeId) (z : Value) (size bytes : Nat) (hT : SliceTy P t e z size bytes)
    (v : Value) (n : Nat) (xs : List Value) (hs : a.eval s = v) (hown : w.ownsRow base e size v n xs)
    (A : Option Addr) (m c : Nat) (news : List Value) (hx : a.eval x = .slice A m c) (hl : news.length = m * size) (hr : Rd w A news) (h1 : ∀ u ∈ news, u.oneCell' = true)
    (h63 : n + m ≤ maxLen) (hbytes : (n + m) * bytes ≤ 140737488355328) (hbase : base ≤ w.heap.size)
    (h : ∀ v' w', w'.ownsRow base e size v' (n + m) (xs ++ news) → w.grownBy w' v.ownBlock → (v'.ownBlock = v.ownBlock ∨ v'.ownBlock = some w.heap.size) → K (a.put o.dst v') w') : o.wp P a w K Q := by
  obtain ⟨v', w', hrun, h2, h3, h4⟩ := run_append_rd (P := P) w base t o.type e z size bytes hT v n xs hown A m c news hl hr h1 h63 hbytes hbase
  unfold Oper.wp execOp
  simp only [ho, resolve, invoke, builtin, Sem.run_bind, Sem.run_pure, Result.andThen_ok, List.map_toArray, List.map_cons, List.map_nil, hs, hx, hrun]
  exact h v' w' h2 h3 h4

theorem wpList_append_rd {ops : Array Oper} {rest : List Oper} {o : Oper} {a : Act} {Q : Exit → Act → World → Prop} (hgd : o.guard = none) (s x : Operand) (t : TypeId)
    (ho : o.op = .call { callee := .builtin .append, args := #[s, x], argTypes := #[t, t] })
    (base : Nat) (e : TypeId) (z : Value) (size bytes : Nat) (hT : SliceTy P t e z size bytes)
    (v : Value) (n : Nat) (xs : List Value) (hs : a.eval s = v) (hown : w.ownsRow base e size v n xs)
    (A : Option Addr) (m c : Nat) (news : List Value) (hx : a.eval x = .slice A m c) (hl : news.length = m * size) (hr : Rd w A news) (h1 : ∀ u ∈ news, u.oneCell' = true)
    (h63 : n + m ≤ maxLen) (hbytes : (n + m) * bytes ≤ 140737488355328) (hbase : base ≤ w.heap.size)
    (h : ∀ v' w', w'.ownsRow base e size v' (n + m) (xs ++ news) → w.grownBy w' v.ownBlock → (v'.ownBlock = v.ownBlock ∨ v'.ownBlock = some w.heap.size) → wpList P ops Q rest (a.put o.dst v') w') : wpList P ops Q (o :: rest) a w :=
  wpList_plain hgd fun _ hK => wp_append_rd w s x t ho base e z size bytes hT v n xs hs hown A m c news hx hl hr h1 h63 hbytes hbase fun v' w' h2 h3 h4 => hK _ _ (h v' w' h2 h3 h4)
end

theorem ret_e {k : IntKind} {v : Value} {a b : Int} (h : b = a) : Ending.returned (.tuple #[v, .int k a]) = .returned (.tuple #[v, .int k b]) := by rw [h]
theorem ret_i {k : IntKind} {a b : Int} (h : a = b) : Ending.returned (.int k a) = .returned (.int k b) := by rw [h]

/-! ### 'Below', carried on -/
theorem below_own {B : Nat} {w0 w w' : World} {base : Nat} {e : TypeId} {size n : Nat} {v : Value} {xs : List Value} (hb : Below B w0 w) (ho : w.ownsRow base e size v n xs) (hB : B ≤ base)
    (hg : w.grownBy w' v.ownBlock) (hs : B ≤ w.heap.size) : Below B w0 w' :=
  hb.grown hg hs fun k hk => by have := (ho.lt k hk).1; omega
theorem below_step {w0 w w' : World} (hb : Below w0.heap.size w0 w) (hb' : Below w.heap.size w w') : Below w0.heap.size w0 w' :=
  hb.trans (hb'.mono hb.size)

/-! ### a cut of a slice whose elements are one cell each, as a fact for the walk -/
section
variable {P : Program} {t e : TypeId} {z : Value} {bytes : Nat}
theorem SliceTy.sizeOf_elem {size : Nat} (hT : SliceTy P t e z size bytes) (w : World) : (sizeOf (P.elem t)).run P w = .ok size w := by
  obtain ⟨ht, i, hi, _, hs, _⟩ := hT
  have he : P.elem t = e := by unfold Program.elem; rw [ht]
  rw [he]
  simp [sizeOf, typeInfo, hi, hs]
theorem SliceTy.under {size : Nat} (hT : SliceTy P t e z size bytes) : P.underlying t = some (.slice (P.elem t)) := by
  have he : P.elem t = e := by unfold Program.elem; rw [hT.1]
  rw [he]; exact hT.1
/-- 'x[lo:hi]' -/
theorem cut_lh (hT : SliceTy P t e z 1 bytes) (A : Option Addr) (n c : Nat) {kl kh : IntKind} {lo' hi' : Int} {lo hi : Nat} (hlo : lo' = lo) (hhi : hi' = hi) (h1 : lo ≤ hi) (h2 : hi ≤ c) :
    ∃ A' : Option Addr, (∀ w, (Instr.slice t (.slice A n c) (some (.int kl lo')) (some (.int kh hi')) none).run P w = .ok (.slice A' (hi - lo) (c - lo)) w) ∧
      (∀ w l, Bytes w (.slice A n c) l → hi ≤ n → Bytes w (.slice A' (hi - lo) (c - lo)) ((l.take hi).drop lo)) := by
  subst hlo
  subst hhi
  refine ⟨if c = lo then A else A.map (·.add lo), fun w => ?_, fun w l h hn => h.cut h1 hn⟩
  rw [run_slice_lh w t A n c hT.under kl kh lo hi (by omega) (by omega) (by omega), hT.sizeOf_elem]
  simp [Result.andThen, sliced]
/-- 'x[:hi]' -/
theorem cut_h (hT : SliceTy P t e z 1 bytes) (A : Option Addr) (n c : Nat) {kh : IntKind} {hi' : Int} {hi : Nat} (hhi : hi' = hi) (h2 : hi ≤ c) :
    ∃ A' : Option Addr, (∀ w, (Instr.slice t (.slice A n c) none (some (.int kh hi')) none).run P w = .ok (.slice A' hi c) w) ∧
      (∀ w l, Bytes w (.slice A n c) l → hi ≤ n → Bytes w (.slice A' hi c) (l.take hi)) := by
  subst hhi
  refine ⟨if c = 0 then A else A.map (·.add 0), fun w => ?_, fun w l h hn => by simpa using h.cut (Nat.zero_le _) hn⟩
  rw [run_slice_h w t A n c hT.under kh hi (by omega) (by omega), hT.sizeOf_elem]
  simp [Result.andThen, sliced]
/-- 'x[lo:]' -/
theorem cut_l (hT : SliceTy P t e z 1 bytes) (A : Option Addr) (n c : Nat) {kl : IntKind} {lo' : Int} {lo : Nat} (hlo : lo' = lo) (h1 : lo ≤ n) :
    ∃ A' : Option Addr, (∀ w, (Instr.slice t (.slice A n c) (some (.int kl lo')) none none).run P w = .ok (.slice A' (n - lo) (c - lo)) w) ∧
      (∀ w l, Bytes w (.slice A n c) l → Bytes w (.slice A' (n - lo) (c - lo)) (l.drop lo)) := by
  subst hlo
  refine ⟨if c = lo then A else A.map (·.add lo), fun w => ?_, fun w l h => ?_⟩
  · rw [run_slice_l w t A n c hT.under kl lo (by omega) (by omega), hT.sizeOf_elem]
    simp [Result.andThen, sliced]
  · have hl : l.length = n := by obtain ⟨_, _, _, e, g1, _⟩ := h; injection e with e1 e2 e3; omega
    have := h.cut h1 (Nat.le_refl n)
    rwa [List.take_of_length_le (by omega)] at this
end
end Go.Mun

-- PairPlain
namespace Go.Mun
open Go Go.RowKit

abbrev Ky := List UInt8
def ltB (a b : Ky) : Bool := bytesBefore a b
theorem ltB_irrefl (a : Ky) : ltB a a = false := WideAt.bytes_irrefl a
theorem ltB_total (a b : Ky) (h : a ≠ b) : ltB a b = true ∨ ltB b a = true := WideAt.bytes_total a b h
theorem ltB_trans {a b c : Ky} (h : ltB a b = true) (k : ltB b c = true) : ltB a c = true := WideShapes.bytes_trans a b c h k
theorem ltB_ne {a b : Ky} (h : ltB a b = true) : a ≠ b := fun e => by subst e; rw [ltB_irrefl] at h; cases h
theorem ltB_asymm {a b : Ky} (h : ltB a b = true) : ltB b a = false := by
  cases hb : ltB b a with
  | false => rfl
  | true => have := ltB_trans h hb; rw [ltB_irrefl] at this; cases this
theorem less_eq : ∀ (a b : Ky), Op.bytesLess a b = ltB a b
  | [], [] => rfl
  | [], _ :: _ => rfl
  | _ :: _, [] => rfl
  | a :: x, b :: y => by
    have := less_eq x y
    unfold ltB at this
    unfold ltB Op.bytesLess bytesBefore
    rw [this]

section
variable {α β : Type}
abbrev PL (α : Type) := List (Ky × α)
def Rises (P : PL α) : Prop := P.Pairwise fun p q => ltB p.1 q.1 = true
def getP : PL α → Ky → Option α
  | [], _ => none
  | p :: P, k => if p.1 = k then some p.2 else getP P k
def insP (x : Ky × α) : PL α → PL α
  | [] => [x]
  | y :: r => if ltB x.1 y.1 = true then x :: y :: r else y :: insP x r
def dropP (P : PL α) (k : Ky) : PL α := P.filter fun p => decide (p.1 ≠ k)
def setP (P : PL α) (k : Ky) (o : Option α) : PL α :=
  match o with
  | some v => insP (k, v) (dropP P k)
  | none => dropP P k
theorem mem_insP {x y : Ky × α} {P : PL α} : y ∈ insP x P ↔ y = x ∨ y ∈ P := by
  induction P with
  | nil => simp [insP]
  | cons p P ih =>
    unfold insP
    split
    · simp
    · simp only [List.mem_cons, ih]
      constructor
      · rintro (h | h | h)
        · exact .inr (.inl h)
        · exact .inl h
        · exact .inr (.inr h)
      · rintro (h | h | h)
        · exact .inr (.inl h)
        · exact .inl h
        · exact .inr (.inr h)
theorem Rises.ins {x : Ky × α} {P : PL α} (h : Rises P) (hn : ∀ p ∈ P, p.1 ≠ x.1) : Rises (insP x P) := by
  induction P with
  | nil => exact List.pairwise_singleton _ _
  | cons p P ih =>
    unfold Rises at h
    rw [List.pairwise_cons] at h
    unfold insP
    split
    · rename_i hlt
      refine List.pairwise_cons.2 ⟨fun q hq => ?_, List.pairwise_cons.2 h⟩
      rcases List.mem_cons.1 hq with rfl | hq
      · exact hlt
      · exact ltB_trans hlt (h.1 q hq)
    · rename_i hlt
      refine List.pairwise_cons.2 ⟨fun q hq => ?_, ih h.2 (fun q hq => hn q (by simp [hq]))⟩
      rcases mem_insP.1 hq with rfl | hq
      · rcases ltB_total q.1 p.1 (fun e => hn p (by simp) e.symm) with h1 | h1
        · exact absurd h1 hlt
        · exact h1
      · exact h.1 q hq
theorem Rises.drop {P : PL α} (h : Rises P) (k : Ky) : Rises (dropP P k) := List.Pairwise.filter _ h
theorem Rises.set {P : PL α} (h : Rises P) (k : Ky) (o : Option α) : Rises (setP P k o) := by
  cases o with
  | none => exact h.drop k
  | some v => exact (h.drop k).ins fun p hp => by have := (List.mem_filter.1 hp).2; simpa using this
theorem getP_drop (P : PL α) (k k' : Ky) : getP (dropP P k) k' = if k' = k then none else getP P k' := by
  induction P with
  | nil => simp [dropP, getP]
  | cons p P ih =>
    by_cases hp : p.1 = k
    · have e : dropP (p :: P) k = dropP P k := by unfold dropP; rw [List.filter_cons_of_neg (by simpa using hp)]
      rw [e, ih]
      split
      · rfl
      · rename_i hk
        unfold getP
        rw [if_neg (fun e => hk (by rw [← e, hp]))]
        cases P <;> rfl
    · have e : dropP (p :: P) k = p :: dropP P k := by unfold dropP; rw [List.filter_cons_of_pos (by simpa using hp)]
      rw [e]
      unfold getP
      rw [ih]
      by_cases hk : p.1 = k'
      · rw [if_pos hk, if_pos hk, if_neg (fun e => hp (hk.trans e))]
      · rw [if_neg hk, if_neg hk]
theorem getP_ins (x : Ky × α) (P : PL α) (hn : ∀ p ∈ P, p.1 ≠ x.1) (k' : Ky) : getP (insP x P) k' = if x.1 = k' then some x.2 else getP P k' := by
  induction P with
  | nil => rfl
  | cons p P ih =>
    unfold insP
    split
    · rfl
    · have h1 : getP (p :: insP x P) k' = if p.1 = k' then some p.2 else getP (insP x P) k' := rfl
      have h2 : getP (p :: P) k' = if p.1 = k' then some p.2 else getP P k' := rfl
      rw [h1, h2, ih (fun q hq => hn q (by simp [hq]))]
      by_cases hx : x.1 = k'
      · rw [if_neg (fun e => hn p (by simp) (e.trans hx.symm)), if_pos hx, if_pos hx]
      · rw [if_neg hx, if_neg hx]
theorem getP_set (P : PL α) (k : Ky) (o : Option α) (k' : Ky) : getP (setP P k o) k' = if k' = k then o else getP P k' := by
  cases o with
  | none => exact getP_drop P k k'
  | some v =>
    have := getP_ins (k, v) (dropP P k) (fun p hp => by have := (List.mem_filter.1 hp).2; simpa using this) k'
    unfold setP
    rw [this, getP_drop]
    by_cases h : k' = k
    · subst h
      simp
    · rw [if_neg (fun e => h e.symm), if_neg h, if_neg h]
theorem getP_none {P : PL α} {k : Ky} (h : ∀ p ∈ P, p.1 ≠ k) : getP P k = none := by
  induction P with
  | nil => rfl
  | cons p P ih =>
    have : getP (p :: P) k = if p.1 = k then some p.2 else getP P k := rfl
    rw [this, if_neg (h p (by simp)), ih fun q hq => h q (by simp [hq])]
theorem getP_head (p : Ky × α) (P : PL α) : getP (p :: P) p.1 = some p.2 := by simp [getP]
theorem getP_tail {p : Ky × α} {P : PL α} {k : Ky} (h : p.1 ≠ k) : getP (p :: P) k = getP P k := by simp [getP, h]
/-- pairs by rising keys are told by what stands at each key -/
theorem rises_ext {P Q : PL α} (hP : Rises P) (hQ : Rises Q) (h : ∀ k, getP P k = getP Q k) : P = Q := by
  induction P generalizing Q with
  | nil =>
    cases Q with
    | nil => rfl
    | cons q Q =>
      have := h q.1
      rw [getP_head] at this
      cases this
  | cons p P ih =>
    cases Q with
    | nil =>
      have := h p.1
      rw [getP_head] at this
      cases this
    | cons q Q =>
      unfold Rises at hP hQ
      rw [List.pairwise_cons] at hP hQ
      have hpq : p.1 = q.1 := by
        refine Classical.byContradiction fun hne => ?_
        rcases ltB_total p.1 q.1 hne with h1 | h1
        · have := h p.1
          rw [getP_head, getP_none] at this
          · cases this
          · intro x hx
            rcases List.mem_cons.1 hx with rfl | hx
            · exact fun e => hne e.symm
            · exact fun e => ltB_ne (ltB_trans h1 (hQ.1 x hx)) e.symm
        · have := h q.1
          rw [getP_head, getP_none] at this
          · cases this
          · intro x hx
            rcases List.mem_cons.1 hx with rfl | hx
            · exact hne
            · exact fun e => ltB_ne (ltB_trans h1 (hP.1 x hx)) e.symm
      have hv : p.2 = q.2 := by
        have := h p.1
        rw [getP_head, hpq, getP_head] at this
        injection this
      have hrest : P = Q := ih hP.2 hQ.2 fun k => by
        by_cases hk : p.1 = k
        · subst hk
          rw [getP_none (fun x hx => (fun e => ltB_ne (hP.1 x hx) e.symm)), getP_none (fun x hx => (fun e => ltB_ne (hQ.1 x hx) (hpq.symm.trans e.symm)))]
        · have := h k
          rwa [getP_tail hk, getP_tail (by rwa [← hpq])] at this
      rw [hrest]
      congr 1
      exact Prod.ext hpq hv
theorem getP_mem {P : PL α} {k : Ky} {v : α} (h : getP P k = some v) : (k, v) ∈ P := by
  induction P with
  | nil => cases h
  | cons p P ih =>
    by_cases hp : p.1 = k
    · subst hp
      rw [getP_head] at h
      injection h with h
      subst h
      exact List.mem_cons_self
    · rw [getP_tail hp] at h
      exact List.mem_cons_of_mem _ (ih h)
theorem getP_at {P : PL α} (hP : Rises P) {p : Ky × α} (h : p ∈ P) : getP P p.1 = some p.2 := by
  induction P with
  | nil => cases h
  | cons q P ih =>
    unfold Rises at hP
    rw [List.pairwise_cons] at hP
    rcases List.mem_cons.1 h with rfl | h
    · exact getP_head _ _
    · rw [getP_tail (ltB_ne (hP.1 p h))]
      exact ih hP.2 h
def mapP (f : α → β) (P : PL α) : PL β := P.map fun p => (p.1, f p.2)
theorem mapP_ins (f : α → β) (x : Ky × α) (P : PL α) : mapP f (insP x P) = insP (x.1, f x.2) (mapP f P) := by
  induction P with
  | nil => rfl
  | cons p P ih =>
    unfold insP
    split
    · rename_i h
      show _ = insP (x.1, f x.2) ((p.1, f p.2) :: mapP f P)
      unfold insP
      rw [if_pos h]
      rfl
    · rename_i h
      show (p.1, f p.2) :: mapP f (insP x P) = insP (x.1, f x.2) ((p.1, f p.2) :: mapP f P)
      rw [ih]
      conv => rhs; unfold insP
      rw [if_neg h]
theorem mapP_drop (f : α → β) (P : PL α) (k : Ky) : mapP f (dropP P k) = dropP (mapP f P) k := by
  unfold mapP dropP
  rw [List.filter_map]
  rfl
theorem mapP_set (f : α → β) (P : PL α) (k : Ky) (o : Option α) : mapP f (setP P k o) = setP (mapP f P) k (o.map f) := by
  cases o with
  | none => exact mapP_drop f P k
  | some v =>
    show mapP f (insP (k, v) (dropP P k)) = insP (k, f v) (dropP (mapP f P) k)
    rw [mapP_ins, mapP_drop]
theorem length_insP (x : Ky × α) (P : PL α) : (insP x P).length = P.length + 1 := by
  induction P with
  | nil => rfl
  | cons p P ih =>
    unfold insP
    split
    · rfl
    · rw [List.length_cons, ih, List.length_cons]
theorem length_set (P : PL α) (k : Ky) (o : Option α) : (setP P k o).length ≤ P.length + 1 := by
  have h := List.length_filter_le (fun p : Ky × α => decide (p.1 ≠ k)) P
  cases o with
  | none => exact Nat.le_succ_of_le h
  | some v =>
    show (insP (k, v) (dropP P k)).length ≤ _
    rw [length_insP]
    exact Nat.succ_le_succ h
/-- the place of a key -/
theorem setP_split {A B : PL α} {k : Ky} {o : Option α} (hA : ∀ p ∈ A, ltB p.1 k = true) (hB : ∀ p ∈ B, ltB k p.1 = true) : setP (A ++ B) k o = A ++ ((o.map fun v => (k, v)).toList ++ B) := by
  have hd : dropP (A ++ B) k = A ++ B := by
    unfold dropP
    rw [List.filter_eq_self]
    intro p hp
    rcases List.mem_append.1 hp with h | h
    · simpa using ltB_ne (hA p h)
    · simpa using (ltB_ne (hB p h)).symm
  cases o with
  | none => exact hd
  | some v =>
    show insP (k, v) (dropP (A ++ B) k) = A ++ (k, v) :: B
    rw [hd]
    clear hd
    induction A with
    | nil =>
      cases B with
      | nil => rfl
      | cons q B =>
        show insP (k, v) (q :: B) = _
        unfold insP
        rw [if_pos (hB q (by simp))]
        rfl
    | cons a A ih =>
      show insP (k, v) (a :: (A ++ B)) = _
      unfold insP
      have h1 : ltB k a.1 = false := ltB_asymm (hA a (by simp))
      simp only [h1]
      rw [ih (fun p hp => hA p (by simp [hp]))]
      rfl
theorem setP_at {A B : PL α} {k : Ky} {u : α} {o : Option α} (hA : ∀ p ∈ A, ltB p.1 k = true) (hB : ∀ p ∈ B, ltB k p.1 = true) : setP (A ++ (k, u) :: B) k o = A ++ ((o.map fun v => (k, v)).toList ++ B) := by
  rw [← setP_split hA hB]
  have hd : dropP (A ++ (k, u) :: B) k = dropP (A ++ B) k := by
    unfold dropP
    rw [List.filter_append, List.filter_append, List.filter_cons_of_neg (by simp)]
  cases o with
  | none => exact hd
  | some v =>
    show insP (k, v) (dropP _ k) = insP (k, v) (dropP _ k)
    rw [hd]
end

end Go.Mun

-- FsPlain
namespace Go.Mun
open Go Go.RowKit

/-- a file's bytes, and how many of them are synced -/
structure FileS where
  b : List UInt8
  s : Nat
/-- a change of names: a file that is made, renamed, or deleted -/
inductive Chg where
  | made (name : Ky) (id : Nat)
  | ren (a b : Ky) (id : Nat)
  | del (a : Ky)
/-- all of it; files have numbers -/
structure FSs where
  now : PL Nat
  syn : PL Nat
  waits : List Chg
  op : Int
  cut : Int
  keep : List Bool
  dead : Bool
  ops : Int
  fs : Nat → FileS
  next : Nat
/-- what a change does to names -/
def doC (P : PL Nat) : Chg → PL Nat
  | .made n i => setP P n (some i)
  | .ren a b i => setP (setP P a none) b (some i)
  | .del a => setP P a none
def doL (P : PL Nat) (l : List Chg) : PL Nat := l.foldl doC P
theorem doC_rises {P : PL Nat} (h : Rises P) (c : Chg) : Rises (doC P c) := by
  cases c with
  | made n i => show Rises (setP P n (some i)); exact h.set _ _
  | ren a b i => show Rises (setP (setP P a none) b (some i)); exact (h.set _ _).set _ _
  | del a => show Rises (setP P a none); exact h.set _ _
theorem doL_rises {P : PL Nat} (h : Rises P) (l : List Chg) : Rises (doL P l) := by
  induction l generalizing P with
  | nil => exact h
  | cons c l ih => exact ih (doC_rises h c)
theorem doL_snoc (P : PL Nat) (l : List Chg) (c : Chg) : doL P (l ++ [c]) = doC (doL P l) c := by
  unfold doL
  rw [List.foldl_append]
  rfl
theorem doL_take {P : PL Nat} {l : List Chg} {k : Nat} {c : Chg} (h : l[k]? = some c) : doL P (l.take (k + 1)) = doC (doL P (l.take k)) c := by
  obtain ⟨hk, hx⟩ := List.getElem?_eq_some_iff.1 h
  rw [List.take_succ_eq_append_getElem hk, hx, doL_snoc]
/-- no two names have one file -/
def Once (P : PL Nat) : Prop := ∀ p ∈ P, ∀ q ∈ P, p.2 = q.2 → p.1 = q.1
theorem mem_set {P : PL Nat} {k : Ky} {o : Option Nat} {p : Ky × Nat} (h : p ∈ setP P k o) : (p ∈ P ∧ p.1 ≠ k) ∨ (p.1 = k ∧ o = some p.2) := by
  cases o with
  | none =>
    have := List.mem_filter.1 h
    exact .inl ⟨this.1, of_decide_eq_true this.2⟩
  | some v =>
    rcases mem_insP.1 h with rfl | h
    · exact .inr ⟨rfl, rfl⟩
    · have := List.mem_filter.1 h
      exact .inl ⟨this.1, of_decide_eq_true this.2⟩
theorem Once.del {P : PL Nat} (h : Once P) (k : Ky) : Once (setP P k none) := fun p hp q hq e => by
  rcases mem_set hp with ⟨hp, _⟩ | ⟨_, hp⟩
  · rcases mem_set hq with ⟨hq, _⟩ | ⟨_, hq⟩
    · exact h p hp q hq e
    · cases hq
  · cases hp
theorem Once.put {P : PL Nat} (h : Once P) {k : Ky} {i : Nat} (hi : ∀ p ∈ P, p.1 ≠ k → p.2 ≠ i) : Once (setP P k (some i)) := fun p hp q hq e => by
  rcases mem_set hp with ⟨hp, np⟩ | ⟨ep, hp⟩
  · rcases mem_set hq with ⟨hq, _⟩ | ⟨_, hq⟩
    · exact h p hp q hq e
    · injection hq with hq
      exact absurd (e.trans hq.symm) (hi p hp np)
  · rcases mem_set hq with ⟨hq, nq⟩ | ⟨eq, _⟩
    · injection hp with hp
      exact absurd (e.symm.trans hp.symm) (hi q hq nq)
    · rw [ep, eq]
theorem mem_made {P : PL Nat} {n : Ky} {i : Nat} {p : Ky × Nat} (h : p ∈ doC P (.made n i)) : p ∈ P ∨ (p.1 = n ∧ p.2 = i) := by
  rcases mem_set (P := P) (k := n) (o := some i) h with ⟨h, _⟩ | ⟨e, h⟩
  · exact .inl h
  · injection h with h; exact .inr ⟨e, h.symm⟩
theorem mem_del {P : PL Nat} {a : Ky} {p : Ky × Nat} (h : p ∈ doC P (.del a)) : p ∈ P := by
  rcases mem_set (P := P) (k := a) (o := none) h with ⟨h, _⟩ | ⟨_, h⟩
  · exact h
  · cases h
theorem mem_ren {P : PL Nat} {a b : Ky} {i : Nat} {p : Ky × Nat} (h : p ∈ doC P (.ren a b i)) : p ∈ P ∨ (p.1 = b ∧ p.2 = i) := by
  rcases mem_set (P := setP P a none) (k := b) (o := some i) h with ⟨h, _⟩ | ⟨e, h⟩
  · exact .inl (mem_del (a := a) h)
  · injection h with h; exact .inr ⟨e, h.symm⟩
/-- a name that a file may have -/
def NameOk (n : Ky) : Prop := n ≠ [] ∧ n.length ≤ 100
/-- a change that fits these names -/
def ChgOk (P : PL Nat) : Chg → Prop
  | .made n i => NameOk n ∧ ∀ p ∈ P, p.2 ≠ i
  | .ren a b i => NameOk a ∧ NameOk b ∧ a ≠ b ∧ getP P a = some i
  | .del a => NameOk a
/-- changes that fit, one behind the other -/
def ChgsOk : PL Nat → List Chg → Prop
  | _, [] => True
  | P, c :: l => ChgOk P c ∧ ChgsOk (doC P c) l
theorem ChgsOk.snoc {P : PL Nat} {l : List Chg} {c : Chg} (h : ChgsOk P l) (hc : ChgOk (doL P l) c) : ChgsOk P (l ++ [c]) := by
  induction l generalizing P with
  | nil => exact ⟨hc, trivial⟩
  | cons d l ih => exact ⟨h.1, ih h.2 hc⟩
theorem ChgsOk.at {P : PL Nat} {l : List Chg} (h : ChgsOk P l) {k : Nat} {c : Chg} (hk : l[k]? = some c) : ChgOk (doL P (l.take k)) c := by
  induction l generalizing P k with
  | nil => cases hk
  | cons d l ih =>
    cases k with
    | zero => injection hk with hk; subst hk; exact h.1
    | succ k => exact ih h.2 hk
theorem Once.doC {P : PL Nat} (h : Once P) {c : Chg} (_hr : Rises P) (hc : ChgOk P c) : Once (doC P c) := by
  cases c with
  | made n i => exact Once.put h fun p hp _ => hc.2 p hp
  | ren a b i =>
    refine Once.put (h.del a) fun p hp _ e => ?_
    rcases mem_set hp with ⟨hp, np⟩ | ⟨_, hp⟩
    · exact np (h p hp (a, i) (getP_mem hc.2.2.2) e)
    · cases hp
  | del a => exact h.del a
theorem Once.doL {P : PL Nat} {l : List Chg} (h : Once P) (hr : Rises P) (hc : ChgsOk P l) : Once (doL P l) := by
  induction l generalizing P with
  | nil => exact h
  | cons c l ih => exact ih (h.doC hr hc.1) (doC_rises hr c) hc.2
theorem ChgsOk.take {P : PL Nat} {l : List Chg} (h : ChgsOk P l) (k : Nat) : ChgsOk P (l.take k) := by
  induction l generalizing P k with
  | nil => rw [List.take_nil]; exact h
  | cons c l ih =>
    cases k with
    | zero => trivial
    | succ k => exact ⟨h.1, ih h.2 k⟩
/-- how many of the changes that wait are kept -/
def keptN (keep : List Bool) (n : Nat) : Nat → Nat
  | 0 => n
  | f + 1 => if keep.length = 0 ∨ keep.getD (n % keep.length) false = false then n else keptN keep (n + 1) f
def kept (M : FSs) : Nat := keptN M.keep 0 M.waits.length
theorem keptN_le (keep : List Bool) : ∀ (f n : Nat), n ≤ keptN keep n f ∧ keptN keep n f ≤ n + f
  | 0, n => ⟨Nat.le_refl _, Nat.le_refl _⟩
  | f + 1, n => by
    unfold keptN
    split
    · exact ⟨Nat.le_refl _, by omega⟩
    · have := keptN_le keep f (n + 1)
      omega
theorem kept_le (M : FSs) : kept M ≤ M.waits.length := by have := (keptN_le M.keep M.waits.length 0).2; unfold kept; omega
/-- the names that are found behind a loss of power -/
def left (M : FSs) : PL Nat := doL M.syn (M.waits.take (kept M))
/-- how many bytes of a file are kept -/
def cutAt (cut : Int) (f : FileS) : Nat := if 0 ≤ cut then f.s + cut.toNat % (f.b.length - f.s + 1) else f.s
def cutF (cut : Int) (f : FileS) : FileS := ⟨f.b.take (cutAt cut f), cutAt cut f⟩
theorem cutAt_le {cut : Int} {f : FileS} (h : f.s ≤ f.b.length) : f.s ≤ cutAt cut f ∧ cutAt cut f ≤ f.b.length := by
  unfold cutAt
  split
  · have := Nat.mod_lt cut.toNat (show 0 < f.b.length - f.s + 1 by omega)
    omega
  · omega
/-- is a file's number among names? -/
def hasId (P : PL Nat) (i : Nat) : Prop := ∃ p ∈ P, p.2 = i
open Classical in
/-- the power fails -/
noncomputable def crashM (M : FSs) : FSs := { M with now := left M, syn := left M, waits := [], op := -1, cut := 0, keep := [], dead := true, fs := fun i => if hasId (left M) i then cutF M.cut (M.fs i) else M.fs i }
/-- an operation begins: it counts, or the power fails -/
noncomputable def failsM (M : FSs) : FSs := if M.op = 0 then crashM M else { M with op := max (-1) (M.op - 1), ops := M.ops + 1 }
def failsB (M : FSs) : Bool := decide (M.op = 0)
/-- a change of names waits -/
def waitM (M : FSs) (c : Chg) : FSs := { M with now := doC M.now c, waits := M.waits ++ [c] }
def setF (M : FSs) (i : Nat) (f : FileS) : FSs := { M with fs := fun j => if j = i then f else M.fs j }
/-- what always holds -/
structure Fine (M : FSs) : Prop where
  rnow : Rises M.now
  rsyn : Rises M.syn
  repl : doL M.syn M.waits = M.now
  ok : ChgsOk M.syn M.waits
  names : ∀ p ∈ M.now, NameOk p.1
  snames : ∀ p ∈ M.syn, NameOk p.1
  fresh : ∀ p ∈ M.now, p.2 < M.next
  sfresh : ∀ p ∈ M.syn, p.2 < M.next
  made : ∀ n i, Chg.made n i ∈ M.waits → i < M.next
  sized : ∀ i, (M.fs i).s ≤ (M.fs i).b.length
  once : Once M.syn
  op : -1 ≤ M.op
theorem Fine.wait {M : FSs} (h : Fine M) {c : Chg} (hc : ChgOk M.now c) (hf : ∀ n i, c = .made n i → i < M.next) : Fine (waitM M c) := by
  refine ⟨doC_rises h.rnow c, h.rsyn, ?_, ?_, fun p hp => ?_, h.snames, fun p hp => ?_, h.sfresh, fun n i hn => ?_, h.sized, h.once, h.op⟩
  · show doL M.syn (M.waits ++ [c]) = doC M.now c
    rw [doL_snoc, h.repl]
  · exact h.ok.snoc (by rw [h.repl]; exact hc)
  · cases c with
    | made n i =>
      rcases mem_made (P := M.now) hp with hp | ⟨hp, _⟩
      · exact h.names p hp
      · rw [hp]; exact hc.1
    | ren a b i =>
      rcases mem_ren (P := M.now) hp with hp | ⟨hp, _⟩
      · exact h.names p hp
      · rw [hp]; exact hc.2.1
    | del a => exact h.names p (mem_del (P := M.now) hp)
  · cases c with
    | made n i =>
      rcases mem_made (P := M.now) hp with hp | ⟨_, hp⟩
      · exact h.fresh p hp
      · rw [hp]; exact hf n i rfl
    | ren a b i =>
      rcases mem_ren (P := M.now) hp with hp | ⟨_, hp⟩
      · exact h.fresh p hp
      · rw [hp]; exact h.fresh _ (getP_mem hc.2.2.2)
    | del a => exact h.fresh p (mem_del (P := M.now) hp)
  · rcases List.mem_append.1 hn with hn | hn
    · exact h.made n i hn
    · exact hf n i (List.mem_singleton.1 hn).symm
/-- the power is switched on -/
def startM (M : FSs) : FSs := { M with dead := false, op := -1, cut := 0, keep := [] }
def planM (M : FSs) (op cut : Int) (keep : List Bool) : FSs := { M with op := max (-1) op, cut := cut, keep := keep }
theorem Fine.start {M : FSs} (h : Fine M) : Fine (startM M) := ⟨h.rnow, h.rsyn, h.repl, h.ok, h.names, h.snames, h.fresh, h.sfresh, h.made, h.sized, h.once, Int.le_refl _⟩
theorem Fine.plan {M : FSs} (h : Fine M) (op cut : Int) (keep : List Bool) : Fine (planM M op cut keep) := ⟨h.rnow, h.rsyn, h.repl, h.ok, h.names, h.snames, h.fresh, h.sfresh, h.made, h.sized, h.once, by show -1 ≤ max (-1) op; omega⟩
/-- without files -/
def newM : FSs := ⟨[], [], [], -1, 0, [], false, 0, fun _ => ⟨[], 0⟩, 0⟩
theorem newM_fine : Fine newM := by
  refine ⟨List.Pairwise.nil, List.Pairwise.nil, rfl, trivial, ?_, ?_, ?_, ?_, ?_, fun _ => Nat.le_refl _, (fun p hp => absurd hp List.not_mem_nil), by decide⟩
  all_goals first | (intro n i h; exact absurd h List.not_mem_nil) | (intro p hp; exact absurd hp List.not_mem_nil)
end Go.Mun

-- Blk
namespace Go.Mun
open Go Go.RowKit

/-- Block g is just these cells of type t, none frozen. -/
def Blk (w : World) (g : Nat) (t : TypeId) (cs : Array Value) : Prop := w.heap[g]? = some (.cells cs t (0, 0))

section
variable {w w' : World} {g g' : Nat} {t : TypeId} {cs : Array Value}
theorem Blk.lt (h : Blk w g t cs) : g < w.heap.size := by
  rcases Nat.lt_or_ge g w.heap.size with hlt | hge
  · exact hlt
  · unfold Blk at h; rw [Array.getElem?_eq_none hge] at h; cases h
theorem Blk.cell (h : Blk w g t cs) (i : Nat) : w.cell? ⟨g, i, none⟩ = cs[i]? := cell_of_row w g i cs t (0, 0) h
theorem Blk.cellv (h : Blk w g t cs) {i : Nat} {v : Value} (hv : cs[i]? = some v) : w.cell? ⟨g, i, none⟩ = some v := (h.cell i).trans hv
theorem Blk.frozen (h : Blk w g t cs) (i : Nat) : w.frozen? ⟨g, i, none⟩ = false := frozen_of_row w g i cs t h
theorem Blk.new (w : World) (t : TypeId) (cs : Array Value) : Blk (w.alloc (.cells cs t)) w.heap.size t cs := heap_alloc_new w _
theorem Blk.ext (h : Blk w g t cs) (hb : Below w.heap.size w w') : Blk w' g t cs := (hb.block g h.lt).trans h
theorem Blk.drew (h : Blk w g t cs) : Blk w.drew g t cs := h
theorem Blk.drewN (h : Blk w g t cs) (q : Nat) : Blk (w.drewN q) g t cs := h
theorem Rd_drewN {A : Option Addr} {xs : List Value} (h : Rd w A xs) (q : Nat) : Rd (w.drewN q) A xs := h
theorem Bytes_drewN {v : Value} {l : List UInt8} (h : Bytes w v l) (q : Nat) : Bytes (w.drewN q) v l := h
theorem below_drewN {B : Nat} {w0 : World} (h : Below B w0 w) (q : Nat) : Below B w0 (w.drewN q) := ⟨h.os, h.tape, h.output, h.size, h.block⟩
theorem Blk.alloc (h : Blk w g t cs) (o : Obj) : Blk (w.alloc o) g t cs := h.ext ((Below.refl _ _).alloc (Nat.le_refl _) o)
theorem Blk.grown {row : Option Nat} (h : Blk w g t cs) (hb : w.grownBy w' row) (hg : some g ≠ row) : Blk w' g t cs := (hb.block g h.lt hg).trans h
theorem Blk.below {B : Nat} (h : Blk w g t cs) (hb : Below B w w') (hg : g < B) : Blk w' g t cs := (hb.block g hg).trans h
theorem Blk.set_ (h : Blk w g t cs) (i : Nat) (u : Value) : Blk (w.setCell ⟨g, i, none⟩ u) g t (cs.setIfInBounds i u) := by
  exact heap_setCell_same w g i cs t u h
theorem Blk.far (h : Blk w g t cs) {p : Addr} (hp : g ≠ p.block) (u : Value) : Blk (w.setCell p u) g t cs := (Below.heap_setCell w p u g hp).trans h
theorem Blk.rd (h : Blk w g t cs) : Rd w (some ⟨g, 0, none⟩) cs.toList := Rd.of_cells fun j u hu => by
  have hadd : (⟨g, 0, none⟩ : Addr).add j = ⟨g, j, none⟩ := by unfold Addr.add; split <;> simp_all
  rw [hadd, h.cell j]
  simpa using hu
theorem grownBy_setCell (w : World) (p : Addr) (u : Value) : w.grownBy (w.setCell p u) (some p.block) :=
  ⟨rfl, rfl, rfl, by simp [World.setCell], fun k _ hk => Below.heap_setCell _ _ _ _ (fun e => hk (by rw [e]))⟩
theorem grownBy_setRow (w : World) (g : Nat) (cs : Array Value) : w.grownBy (w.setRow g cs) (some g) :=
  ⟨rfl, rfl, rfl, by simp, fun k _ hk => setRow_other w g k cs (fun e => hk (by rw [e]))⟩
end

/-- a row just made is the call's own -/
theorem own_new (w : World) (e : TypeId) (cs : Array Value) {n : Nat} (hn : cs.size = n) (hm : n ≤ maxLen) : (w.alloc (.cells cs e)).ownsRow w.heap.size e 1 (.slice (some ⟨w.heap.size, 0, none⟩) n n) n cs.toList :=
  ⟨by simp [hn], .inr ⟨w.heap.size, n, cs, rfl, Nat.le_refl _, heap_alloc_new w _, Nat.le_refl _, hm, by rw [hn, Nat.mul_one], by rw [Nat.mul_one, ← hn]; exact List.take_of_length_le (by simp)⟩⟩
theorem own_ext {w w' : World} {base : Nat} {e : TypeId} {size n : Nat} {v : Value} {xs : List Value} (h : w.ownsRow base e size v n xs) (hb : Below w.heap.size w w') : w'.ownsRow base e size v n xs :=
  h.kept (row := none) ⟨hb.os, hb.tape, hb.output, hb.size, fun k hk _ => hb.block k hk⟩ (by cases v.ownBlock <;> simp)
theorem own_base {w : World} {base base' : Nat} {e : TypeId} {size n : Nat} {v : Value} {xs : List Value} (h : w.ownsRow base e size v n xs) (hb : base' ≤ base) : w.ownsRow base' e size v n xs := by
  obtain ⟨h1, h2⟩ := h
  refine ⟨h1, ?_⟩
  rcases h2 with h2 | ⟨g, cap, cur, hv, hg, r⟩
  · exact .inl h2
  · exact .inr ⟨g, cap, cur, hv, Nat.le_trans hb hg, r⟩
theorem own_one {w : World} {base : Nat} {e : TypeId} {size n : Nat} {v : Value} {xs : List Value} (h : w.ownsRow base e size v n xs) : v.oneCell' = true := by
  rcases h.2 with ⟨rfl, _⟩ | ⟨g, cap, cur, rfl, _⟩ <;> rfl

theorem own_new_at {w : World} {base g : Nat} (hb : base ≤ w.heap.size) (hg : g = w.heap.size) (e : TypeId) (cs : Array Value) {n : Nat} (hn : cs.size = n) (hm : n ≤ maxLen) {xs : List Value} (hx : xs = cs.toList) :
    (w.alloc (.cells cs e)).ownsRow base e 1 (.slice (some ⟨g, 0, none⟩) n n) n xs := by
  subst hg
  subst hx
  exact own_base (own_new w e cs hn hm) hb

theorem own_far {w : World} {base g : Nat} {e : TypeId} {size n : Nat} {v : Value} {xs : List Value} (_h : g < w.heap.size) (ho : w.ownsRow base e size v n xs) (hg : g < base) : some g ≠ v.ownBlock := by
  intro e'
  have := (ho.lt g e'.symm).1
  omega

theorem own_drew {w : World} {base : Nat} {e : TypeId} {size n : Nat} {v : Value} {xs : List Value} (h : w.ownsRow base e size v n xs) : w.drew.ownsRow base e size v n xs := h
theorem own_drewN {w : World} {base : Nat} {e : TypeId} {size n : Nat} {v : Value} {xs : List Value} (h : w.ownsRow base e size v n xs) (q : Nat) : (w.drewN q).ownsRow base e size v n xs := h
theorem own_kept {w w' : World} {base g : Nat} {e : TypeId} {size n : Nat} {v : Value} {xs : List Value} (ho : w.ownsRow base e size v n xs) (hg : w.grownBy w' (some g)) (hlt : g < base) : w'.ownsRow base e size v n xs :=
  ho.kept hg (.inr fun e' => by
    have := (ho.lt g e').1
    omega)
/-- A struct or array type of so many cells. -/
def AggTy (P : Program) (t : TypeId) (n : Nat) : Prop :=
  (∃ d, P.underlying t = some d ∧ (match d with | .struct _ | .array _ _ => true | _ => false) = true) ∧ (P.info? t).map (·.size) = some n

/-- each value is one cell -/
def oneAll : List Value → Bool
  | [] => true
  | v :: vs => v.oneCell' && oneAll vs
theorem oneAll_mem : ∀ {l : List Value}, oneAll l = true → ∀ u ∈ l, u.oneCell' = true
  | [], _, u, hu => by simp at hu
  | v :: vs, h, u, hu => by
    simp only [oneAll, Bool.and_eq_true] at h
    rcases List.mem_cons.1 hu with rfl | hu
    · exact h.1
    · exact oneAll_mem h.2 u hu

section
variable {P : Program} {ops : Array Oper} {rest : List Oper} {o : Oper} {a : Act} {w : World} {Q : Exit → Act → World → Prop}

/-- 'x' where x is a whole struct or array in memory -/
theorem wpList_load_blk (hgd : o.guard = none) (ty : TypeId) (x : Operand) (ho : o.op = .load ty x) {g : Nat} {t : TypeId} {cs : Array Value} (hb : Blk w g t cs) (hT : AggTy P ty cs.size)
    (hx : a.eval x = .pointer (some ⟨g, 0, none⟩)) (h : wpList P ops Q rest (a.put o.dst (.agg cs)) w) : wpList P ops Q (o :: rest) a w := by
  obtain ⟨⟨d, hu, hd⟩, hi⟩ := hT
  exact wpList_load_row hgd ty x ho g hx t cs (0, 0) d hb hu (by cases d <;> first | exact hd | rfl | cases hd) hi h
/-- '*p = x', the whole struct or array -/
theorem wpList_store_blk (hgd : o.guard = none) (ty : TypeId) (x y : Operand) (ho : o.op = .store ty x y) {g : Nat} {t : TypeId} {old cells : Array Value} (hb : Blk w g t old) (hT : AggTy P ty cells.size)
    (hold : old.size = cells.size) (h1 : ∀ u ∈ cells, u.oneCell' = true) (hx : a.eval x = .pointer (some ⟨g, 0, none⟩)) (hy : a.eval y = .agg cells)
    (h : ∀ w', Blk w' g t cells → w.grownBy w' (some g) → wpList P ops Q rest (a.put o.dst undef) w') : wpList P ops Q (o :: rest) a w := by
  obtain ⟨_, hi⟩ := hT
  refine wpList_store_row hgd ty x y ho g cells hx hy t old hb hi hold (Array.all_eq_true_iff_forall_mem.2 h1) (h _ (setRow_heap w g old cells t (0, 0) hb) (grownBy_setRow w g cells))
theorem wpList_store_all (hgd : o.guard = none) (ty : TypeId) (x y : Operand) (ho : o.op = .store ty x y) {g : Nat} {t : TypeId} {old : Array Value} (cells : Array Value) (hb : Blk w g t old) (hT : AggTy P ty cells.size)
    (hold : old.size = cells.size) (h1 : oneAll cells.toList = true) (hx : a.eval x = .pointer (some ⟨g, 0, none⟩)) (hy : a.eval y = .agg cells)
    (h : ∀ w', Blk w' g t cells → w.grownBy w' (some g) → wpList P ops Q rest (a.put o.dst undef) w') : wpList P ops Q (o :: rest) a w :=
  wpList_store_blk hgd ty x y ho hb hT hold (fun u hu => oneAll_mem h1 u (by simpa using hu)) hx hy h
/-- a write into a block of the call's own -/
theorem below_blk {B : Nat} {w0 w w' : World} {g : Nat} (hb : Below B w0 w) (hs : B ≤ w.heap.size) (hg : w.grownBy w' (some g)) (hB : B ≤ g) : Below B w0 w' :=
  hb.grown hg hs (fun k hk => by cases hk; exact hB)
/-- 'p.f = v', one cell of a block -/
theorem wpList_store_cell (hgd : o.guard = none) (ty : TypeId) (x y : Operand) (ho : o.op = .store ty x y) {g i : Nat} {t : TypeId} {cs : Array Value} {v : Value} (hb : Blk w g t cs) (hi : i < cs.size)
    (hT : (P.info? ty).map (·.size) = some 1) (h1 : v.oneCell' = true) (hx : a.eval x = .pointer (some ⟨g, i, none⟩)) (hy : a.eval y = v)
    (h : ∀ w', Blk w' g t (cs.setIfInBounds i v) → w.grownBy w' (some g) → wpList P ops Q rest (a.put o.dst undef) w') : wpList P ops Q (o :: rest) a w := by
  refine wpList_plain hgd fun _ hK => ?_
  cases hq : P.info? ty with
  | none => rw [hq] at hT; cases hT
  | some inf =>
    have hsz : inf.size = 1 := by rw [hq] at hT; simpa using hT
    have hc : v.cells = #[v] := by cases v <;> first | rfl | cases h1
    have hcell : w.cell? ⟨g, i, none⟩ = some cs[i] := hb.cellv (Array.getElem?_eq_getElem hi)
    unfold Oper.wp execOp
    simp only [ho, Instr.storeAt, Instr.sureAddr, hx, hy, storeVar, sizeOf, typeInfo, hc]
    simp [hq, hsz, storeCells, run_store, h1, hcell, hb.frozen i, Addr.add]
    exact hK _ _ (h _ (hb.set_ i v) (grownBy_setCell w ⟨g, i, none⟩ v))
/-- 'x := v' where x is put into memory -/
theorem wpList_box_blk (hgd : o.guard = none) (ty : TypeId) (x : Operand) (ho : o.op = .box ty x) {cells : Array Value} (hx : (a.eval x).cells = cells)
    (h : ∀ w', Blk w' w.heap.size ty cells → Below w.heap.size w w' → w.heap.size < w'.heap.size → wpList P ops Q rest (a.put o.dst (.pointer (some ⟨w.heap.size, 0, none⟩))) w') : wpList P ops Q (o :: rest) a w := by
  refine wpList_plain hgd fun _ hK => ?_
  unfold Oper.wp execOp
  simp only [ho, Instr.box, newVar, newRow, hx]
  exact hK _ _ (h _ (Blk.new w ty cells) ((Below.refl _ _).alloc (Nat.le_refl _) _) (by simp))
theorem wpList_box_agg (hgd : o.guard = none) (ty : TypeId) (x : Operand) (ho : o.op = .box ty x) {cells : Array Value} (hx : a.eval x = .agg cells)
    (h : ∀ w', Blk w' w.heap.size ty cells → Below w.heap.size w w' → w.heap.size < w'.heap.size → wpList P ops Q rest (a.put o.dst (.pointer (some ⟨w.heap.size, 0, none⟩))) w') : wpList P ops Q (o :: rest) a w :=
  wpList_box_blk hgd ty x ho (by rw [hx]; rfl) h
/-- 'var x T' in memory -/
theorem wpList_alloc_blk (hgd : o.guard = none) (ty : TypeId) (ho : o.op = .alloc ty) {z : Value} (hz : (P.info? ty).bind (·.zero) = some z)
    (h : ∀ w', Blk w' w.heap.size ty z.cells → Below w.heap.size w w' → w.heap.size < w'.heap.size → wpList P ops Q rest (a.put o.dst (.pointer (some ⟨w.heap.size, 0, none⟩))) w') : wpList P ops Q (o :: rest) a w := by
  refine wpList_plain hgd fun _ hK => ?_
  cases hi : P.info? ty with
  | none => rw [hi] at hz; cases hz
  | some i =>
    rw [hi] at hz
    have hz' : i.zero = some z := hz
    unfold Oper.wp execOp
    simp only [ho, Instr.alloc, newVar, newRow, zeroValue, typeInfo]
    simp [hi, hz']
    exact hK _ _ (h _ (Blk.new w ty z.cells) ((Below.refl _ _).alloc (Nat.le_refl _) _) (by simp))
/-- '[]T{..}' of elements that are one cell each -/
theorem wpList_row_blk (hgd : o.guard = none) (t e : TypeId) (n : Nat) (parts : Array (Nat × Operand)) (ho : o.op = .buildSlice t n parts) {us : List Value}
    (hrun : ∀ w : World, (Instr.buildSlice t n (parts.map fun (i, x) => (i, a.eval x))).run P w = .ok (.slice (some ⟨w.heap.size, 0, none⟩) n n) (w.alloc (.cells us.toArray e))) (hn : us.length = n)
    (h : ∀ v w', IsRow w' v us → w'.ownsRow w.heap.size e 1 v n us → Below w.heap.size w w' → wpList P ops Q rest (a.put o.dst v) w') (hmax : n ≤ maxLen) : wpList P ops Q (o :: rest) a w := by
  refine wpList_plain hgd fun _ hK => ?_
  unfold Oper.wp execOp
  simp only [ho, Sem.run_bind, hrun w, Result.andThen_ok, Sem.run_pure]
  refine hK _ _ (h _ _ ⟨_, by rw [hn], Rd.new w us.toArray e (0, 0)⟩ ?_ ((Below.refl _ _).alloc (Nat.le_refl _) _))
  exact ⟨by omega, .inr ⟨w.heap.size, n, us.toArray, rfl, Nat.le_refl _, heap_alloc_new w _, Nat.le_refl _, hmax, by simpa using hn, by rw [Nat.mul_one, ← hn]; simp⟩⟩
/-- 'append(out, b...)', bytes onto bytes of the call's own -/
theorem wpList_append_bytes (hgd : o.guard = none) (s x : Operand) (t : TypeId) (ho : o.op = .call { callee := .builtin .append, args := #[s, x], argTypes := #[t, t] })
    (base : Nat) {e : TypeId} (hT : SliceTy P t e (.int .u8 0) 1 1) {v : Value} {n : Nat} {xs : List UInt8} (hs : a.eval s = v) (hown : w.ownsRow base e 1 v n (bv xs))
    {vx : Value} {l : List UInt8} (hx : a.eval x = vx) (hb : Bytes w vx l) (h47 : n + l.length ≤ 140737488355328) (hbase : base ≤ w.heap.size)
    (h : ∀ v' w', w'.ownsRow base e 1 v' (n + l.length) (bv (xs ++ l)) → w.grownBy w' v.ownBlock → (v'.ownBlock = v.ownBlock ∨ v'.ownBlock = some w.heap.size) → wpList P ops Q rest (a.put o.dst v') w') :
    wpList P ops Q (o :: rest) a w := by
  obtain ⟨A, m, c, rfl, h1, h2, h3, h4⟩ := hb
  refine wpList_append_rd w hgd s x t ho base e _ 1 1 hT v n (bv xs) hs hown A m c (bv l) hx (by rw [bv_length]; omega) h4 bv_one (by unfold maxLen; omega) (by omega) hbase fun v' w' g1 g2 g3 => ?_
  subst h1
  exact h v' w' (by rw [bv_append]; exact g1) g2 g3
/-- the same, at a step of a region that draws its order -/
theorem step_append_bytes {K : Act → World → Prop} {E : Prop} (hgd : o.guard = none) (s x : Operand) (t : TypeId) (ho : o.op = .call { callee := .builtin .append, args := #[s, x], argTypes := #[t, t] })
    (base : Nat) {e : TypeId} (hT : SliceTy P t e (.int .u8 0) 1 1) {v : Value} {n : Nat} {xs : List UInt8} (hs : a.eval s = v) (hown : w.ownsRow base e 1 v n (bv xs))
    {vx : Value} {l : List UInt8} (hx : a.eval x = vx) (hb : Bytes w vx l) (h47 : n + l.length ≤ 140737488355328) (hbase : base ≤ w.heap.size)
    (h : ∀ v' w', w'.ownsRow base e 1 v' (n + l.length) (bv (xs ++ l)) → w.grownBy w' v.ownBlock → (v'.ownBlock = v.ownBlock ∨ v'.ownBlock = some w.heap.size) → K (a.put o.dst v') w') :
    if Region.wanted o (yielded ops a.tmps) = true then Oper.wp P o a w K Q else E := by
  have hw : Region.wanted o (yielded ops a.tmps) = true := by simp [Region.wanted, hgd]
  rw [if_pos hw]
  obtain ⟨A, m, c, rfl, h1, h2, h3, h4⟩ := hb
  refine wp_append_rd w s x t ho base e _ 1 1 hT v n (bv xs) hs hown A m c (bv l) hx (by rw [bv_length]; omega) h4 bv_one (by unfold maxLen; omega) (by omega) hbase fun v' w' g1 g2 g3 => ?_
  subst h1
  exact h v' w' (by rw [bv_append]; exact g1) g2 g3
/-- the world behind an append onto a row of the call's own -/
theorem below_app {B : Nat} {w0 w w' : World} {base : Nat} {e : TypeId} {size n : Nat} {v : Value} {xs : List Value} (hb : Below B w0 w) (ho : w.ownsRow base e size v n xs) (hB : B ≤ base)
    (hg : w.grownBy w' v.ownBlock) (hs : B ≤ w.heap.size) : Below B w0 w' := below_own hb ho hB hg hs
/-- 'make([]byte, n)' -/
theorem wpList_make_bytes (hgd : o.guard = none) (x y : Operand) (t : TypeId) (ho : o.op = .makeSlice t x y) (base : Nat) {e : TypeId} (hT : SliceTy P t e (.int .u8 0) 1 1) {kl kc : IntKind} {n : Nat}
    (hx : a.eval x = .int kl (n : Int)) (hy : a.eval y = .int kc (n : Int)) (hn : n ≤ 140737488355328) (hbase : base ≤ w.heap.size)
    (h : ∀ v w', w'.ownsRow base e 1 v n (bv (List.replicate n 0)) → Below w.heap.size w w' → wpList P ops Q rest (a.put o.dst v) w') : wpList P ops Q (o :: rest) a w := by
  obtain ⟨ht, i, hi, hz, hsz, hby, _, _⟩ := hT
  refine wpList_make_full w hgd x y t ho base e i _ 1 ht hi hz hsz kl kc _ _ n hx hy rfl rfl (by rw [hby]; omega) (by unfold maxLen; omega) hbase fun w' h1 h2 => ?_
  refine h _ w' ?_ ((Below.refl _ _).grown h2 (Nat.le_refl _) (fun k hk => by cases hk))
  have e : (madeCells (Value.int .u8 0).cells (n * 1)).toList = bv (List.replicate n 0) := by
    unfold madeCells bv
    rw [List.map_replicate, Nat.mul_one]
    apply List.ext_getElem?
    intro j
    by_cases hj : j < n
    · simp [Value.cells, hj, Nat.mod_one]
    · simp [hj]
  rw [← e]
  exact h1
end

/-- the same load, of an operation with a guard that is wanted -/
theorem wpList_load_want {P : Program} {ops : Array Oper} {rest : List Oper} {o : Oper} {a : Act} {w : World} {Q : Exit → Act → World → Prop} (hw : Region.wanted o (yielded ops a.tmps) = true) (ty : TypeId) (x : Operand) (ho : o.op = .load ty x) {g : Nat} {t : TypeId} {cs : Array Value} (hb : Blk w g t cs) (hT : AggTy P ty cs.size)
    (hx : a.eval x = .pointer (some ⟨g, 0, none⟩)) (h : wpList P ops Q rest (a.put o.dst (.agg cs)) w) : wpList P ops Q (o :: rest) a w := by
  obtain ⟨⟨d, hu, hd⟩, hi⟩ := hT
  exact wpList_step fun K hK => by
    rw [if_pos hw]
    exact wp_load_row ty x ho g hx t cs (0, 0) d hb hu (by cases d <;> first | exact hd | rfl | cases hd) hi (hK _ _ h)

/-! ### guards: at an operation of this kind ('with_reducible refine gd_store ?_' fails at once elsewhere) -/
section
variable {P : Program} {ops : Array Oper} {rest : List Oper} {a : Act} {w : World} {Q : Exit → Act → World → Prop} {d : Option Tmp} {t : TypeId} {p : String} {af : Array Edge} {g : Option (Nat × Bool)} {ty ty' : TypeId} {x y : Operand}
theorem gd_box (h : wpList P ops Q (⟨d, .box ty x, t, p, af, g⟩ :: rest) a w) : wpList P ops Q (⟨d, .box ty x, t, p, af, g⟩ :: rest) a w := h
theorem gd_store (h : wpList P ops Q (⟨d, .store ty x y, t, p, af, g⟩ :: rest) a w) : wpList P ops Q (⟨d, .store ty x y, t, p, af, g⟩ :: rest) a w := h
theorem gd_load (h : wpList P ops Q (⟨d, .load ty x, t, p, af, g⟩ :: rest) a w) : wpList P ops Q (⟨d, .load ty x, t, p, af, g⟩ :: rest) a w := h
theorem gd_alloc (h : wpList P ops Q (⟨d, .alloc ty, t, p, af, g⟩ :: rest) a w) : wpList P ops Q (⟨d, .alloc ty, t, p, af, g⟩ :: rest) a w := h
theorem gd_convert (h : wpList P ops Q (⟨d, .convert ty ty' x, t, p, af, g⟩ :: rest) a w) : wpList P ops Q (⟨d, .convert ty ty' x, t, p, af, g⟩ :: rest) a w := h
theorem gd_make (h : wpList P ops Q (⟨d, .makeSlice ty x y, t, p, af, g⟩ :: rest) a w) : wpList P ops Q (⟨d, .makeSlice ty x y, t, p, af, g⟩ :: rest) a w := h
end

/-! ### results that lie in memory -/
section
variable {P : Program} {fn : Func} {w : World} {g : Nat} {t ty : TypeId} {cs tmps : Array Value} {p q r : Tmp}
theorem run_loadVar_blk (hT : AggTy P ty cs.size) (hb : Blk w g t cs) : (loadVar ty ⟨g, 0, none⟩).run P w = .ok (.agg cs) w := by
  obtain ⟨⟨d, hu, hd⟩, hi⟩ := hT
  exact run_loadVar_row w g t ty cs (0, 0) d hb hu (by cases d <;> first | exact hd | rfl | cases hd) hi
theorem results_blk1 (h : fn.results = #[.cell p ty]) (hT : AggTy P ty cs.size) (hb : Blk w g t cs) (hp : tmps.getD p undef = .pointer (some ⟨g, 0, none⟩)) :
    (results fn tmps).run P w = .ok (.agg cs) w := by
  have hp' : tmps[p]?.getD undef = .pointer (some ⟨g, 0, none⟩) := by simpa using hp
  simp [results, h, hp', asAddr, run_loadVar_blk hT hb]
theorem results_blk2 (h : fn.results = #[.cell p ty, .tmp q]) (hT : AggTy P ty cs.size) (hb : Blk w g t cs) (hp : tmps.getD p undef = .pointer (some ⟨g, 0, none⟩)) {v : Value} (hq : tmps.getD q undef = v) :
    (results fn tmps).run P w = .ok (.tuple #[.agg cs, v]) w := by
  have hp' : tmps[p]?.getD undef = .pointer (some ⟨g, 0, none⟩) := by simpa using hp
  have hq' : tmps[q]?.getD undef = v := by simpa using hq
  simp [results, h, hp', hq', asAddr, run_loadVar_blk hT hb]
theorem results_blk3 (h : fn.results = #[.cell p ty, .tmp q, .tmp r]) (hT : AggTy P ty cs.size) (hb : Blk w g t cs) (hp : tmps.getD p undef = .pointer (some ⟨g, 0, none⟩)) {v u : Value} (hq : tmps.getD q undef = v) (hr : tmps.getD r undef = u) :
    (results fn tmps).run P w = .ok (.tuple #[.agg cs, v, u]) w := by
  have hp' : tmps[p]?.getD undef = .pointer (some ⟨g, 0, none⟩) := by simpa using hp
  have hq' : tmps[q]?.getD undef = v := by simpa using hq
  have hr' : tmps[r]?.getD undef = u := by simpa using hr
  simp [results, h, hp', hq', hr', asAddr, run_loadVar_blk hT hb]
end
end Go.Mun

-- FsTags
namespace Go.Mun
open Go Go.RowKit

/-- what a block of a file system is -/
inductive Tag where
  | fs | now | syn | waits | keep
  | file (i : Nat)
  | byt (i : Nat)
/-- whose a block is, and what -/
abbrev Own := Nat → Option (Nat × Tag)
/-- what a call on k does to memory: it writes to k's blocks, and to new ones, which are k's -/
structure Turn (k : Nat) (o o' : Own) (w w' : World) : Prop where
  os : w'.os = w.os
  tape : w'.tape = w.tape
  output : w'.output = w.output
  size : w.heap.size ≤ w'.heap.size
  block : ∀ b, b < w.heap.size → (∀ t, o b ≠ some (k, t)) → w'.heap[b]? = w.heap[b]?
  old : ∀ b, b < w.heap.size → o' b = o b
  new : ∀ b, w.heap.size ≤ b → o' b = none ∨ ∃ t, o' b = some (k, t)
/-- no block is anybody's before it is made -/
def OwnIn (o : Own) (w : World) : Prop := ∀ b, w.heap.size ≤ b → o b = none
theorem OwnIn.lt {o : Own} {w : World} (h : OwnIn o w) {b : Nat} {x : Nat × Tag} (e : o b = some x) : b < w.heap.size := by
  rcases Nat.lt_or_ge b w.heap.size with h1 | h1
  · exact h1
  · rw [h b h1] at e; cases e
theorem Turn.refl {k : Nat} {o : Own} {w : World} (h : OwnIn o w) : Turn k o o w w := ⟨rfl, rfl, rfl, Nat.le_refl _, fun _ _ _ => rfl, fun _ _ => rfl, fun b hb => .inl (h b hb)⟩
theorem Turn.trans {k : Nat} {o o1 o2 : Own} {w w1 w2 : World} (h : Turn k o o1 w w1) (h' : Turn k o1 o2 w1 w2) : Turn k o o2 w w2 := by
  refine ⟨h'.os.trans h.os, h'.tape.trans h.tape, h'.output.trans h.output, Nat.le_trans h.size h'.size, fun b hb hn => ?_, fun b hb => ?_, fun b hb => ?_⟩
  · rw [h'.block b (Nat.lt_of_lt_of_le hb h.size) (fun t => by rw [h.old b hb]; exact hn t), h.block b hb hn]
  · rw [h'.old b (Nat.lt_of_lt_of_le hb h.size), h.old b hb]
  · rcases Nat.lt_or_ge b w1.heap.size with h1 | h1
    · rw [h'.old b h1]; exact h.new b hb
    · exact h'.new b h1
/-- a new block gets an owner -/
def give (o : Own) (b : Nat) (x : Nat × Tag) : Own := fun c => if c = b then some x else o c
theorem give_same (o : Own) (b : Nat) (x : Nat × Tag) : give o b x b = some x := if_pos rfl
theorem give_ne {o : Own} {b c : Nat} {x : Nat × Tag} (h : c ≠ b) : give o b x c = o c := if_neg h
/-- memory was made, and nothing else -/
theorem Turn.below {k : Nat} {o : Own} {w w' : World} (ho : OwnIn o w) (hb : Below w.heap.size w w') : Turn k o o w w' :=
  ⟨hb.os, hb.tape, hb.output, hb.size, fun b h _ => hb.block b h, fun _ _ => rfl, fun b h => .inl (ho b h)⟩
theorem OwnIn.more {o : Own} {w w' : World} (ho : OwnIn o w) (hs : w.heap.size ≤ w'.heap.size) : OwnIn o w' := fun b hb => ho b (Nat.le_trans hs hb)
/-- a block of k's was written, and memory made -/
theorem Turn.wrote {k : Nat} {o : Own} {w w' : World} {g : Nat} {t : Tag} (ho : OwnIn o w) (hg : w.grownBy w' (some g)) (e : o g = some (k, t)) : Turn k o o w w' :=
  ⟨hg.os, hg.tape, hg.output, hg.size, fun b h hn => hg.block b h (fun e' => by injection e' with e'; subst e'; exact hn t e), fun _ _ => rfl, fun b h => .inl (ho b h)⟩
/-- a row of k's was written or made anew -/
theorem Turn.row {k : Nat} {o : Own} {w w' : World} {v : Value} {t : Tag} (ho : OwnIn o w) (hg : w.grownBy w' v.ownBlock) (e : ∀ g, v.ownBlock = some g → o g = some (k, t)) : Turn k o o w w' :=
  ⟨hg.os, hg.tape, hg.output, hg.size, fun b h hn => hg.block b h (fun e' => hn t (e b e'.symm)), fun _ _ => rfl, fun b h => .inl (ho b h)⟩
/-- a block that was made is k's from now on -/
theorem Turn.give {k : Nat} {o : Own} {w w' : World} {o' : Own} (h : Turn k o o' w w') {b : Nat} (hb : w.heap.size ≤ b) (t : Tag) : Turn k o (give o' b (k, t)) w w' := by
  refine ⟨h.os, h.tape, h.output, h.size, h.block, fun c hc => ?_, fun c hc => ?_⟩
  · rw [give_ne (by omega)]; exact h.old c hc
  · by_cases e : c = b
    · subst e; exact .inr ⟨t, give_same _ _ _⟩
    · rw [give_ne e]; exact h.new c hc
theorem OwnIn.give {o : Own} {w : World} (h : OwnIn o w) {b : Nat} (hb : b < w.heap.size) (x : Nat × Tag) : OwnIn (give o b x) w := fun c hc => by
  rw [give_ne (by omega)]
  exact h c hc
/-- who is not k is not touched -/
theorem Turn.other {k j : Nat} {o o' : Own} {w w' : World} (h : Turn k o o' w w') (hj : j ≠ k) {b : Nat} {t : Tag} (hb : b < w.heap.size) (e : o b = some (j, t)) : w'.heap[b]? = w.heap[b]? ∧ o' b = some (j, t) := by
  refine ⟨h.block b hb fun t' e' => ?_, by rw [h.old b hb]; exact e⟩
  rw [e] at e'
  injection e' with e'
  injection e' with e1 e2
  exact hj e1
theorem Turn.foreign {k : Nat} {o o' : Own} {w w' : World} (h : Turn k o o' w w') {b : Nat} (hb : b < w.heap.size) (e : ∀ t, o b ≠ some (k, t)) : w'.heap[b]? = w.heap[b]? := h.block b hb e
/-- what was there before all of it is as it was -/
theorem Turn.under {k B : Nat} {o o' : Own} {w w' : World} (h : Turn k o o' w w') (hs : B ≤ w.heap.size) (hB : ∀ b, b < B → o b = none) : Below B w w' :=
  ⟨h.os, h.tape, h.output, h.size, fun b hb => h.block b (Nat.lt_of_lt_of_le hb hs) fun t e => by rw [hB b hb] at e; cases e⟩
theorem Turn.base {k B : Nat} {o o' : Own} {w w' : World} (h : Turn k o o' w w') (hs : B ≤ w.heap.size) (hB : ∀ b, b < B → o b = none) : ∀ b, b < B → o' b = none := fun b hb => by rw [h.old b (Nat.lt_of_lt_of_le hb hs)]; exact hB b hb

/-- a block that is as it was -/
theorem Blk.same {w w' : World} {g : Nat} {t : TypeId} {cs : Array Value} (h : Blk w g t cs) (e : w'.heap[g]? = w.heap[g]?) : Blk w' g t cs := e.trans h
theorem own_same {w w' : World} {base size n : Nat} {e : TypeId} {v : Value} {xs : List Value} (h : w.ownsRow base e size v n xs) (hk : ∀ g, v.ownBlock = some g → w'.heap[g]? = w.heap[g]?) : w'.ownsRow base e size v n xs := by
  refine ⟨h.1, ?_⟩
  rcases h.2 with hn | ⟨g, cap, cur, rfl, hb, hgg, rest⟩
  · exact .inl hn
  · exact .inr ⟨g, cap, cur, rfl, hb, (hk g rfl).trans hgg, rest⟩
/-- two blocks of different owners are two -/
theorem own_ne {o : Own} {a b : Nat} {x y : Nat × Tag} (ha : o a = some x) (hb : o b = some y) (h : x ≠ y) : a ≠ b := fun e => by
  subst e
  rw [ha] at hb
  injection hb with hb
  exact h hb
end Go.Mun

-- MapS
namespace Go.Mun
open Go Go.RowKit Go.Proofs Go.Maps

/-- an element, as it lies -/
def RV (v : Value) : Option (DataW Value × List MemPlace) := some (.held v, [])
section
variable {α : Type}
def encE (p : Ky × (Value × α)) : Lit × DataW Value := (.string p.1, .held p.2.1)
def encM (T : PL (Value × α)) : DataW Value := .map (T.map encE)
theorem enc_ins (x : Ky × (Value × α)) (T : PL (Value × α)) : DataW.insert (encE x) (T.map encE) = (insP x T).map encE := by
  induction T with
  | nil => rfl
  | cons y T ih =>
    have hb : (encE x).1.before (encE y).1 = ltB x.1 y.1 := rfl
    show DataW.insert (encE x) (encE y :: T.map encE) = _
    unfold DataW.insert insP
    rw [hb]
    split
    · rfl
    · rw [ih]
      rfl
theorem enc_drop (T : PL (Value × α)) (k : Ky) : (T.map encE).filter (fun p => !p.1.sameKey (.string k)) = (dropP T k).map encE := by
  unfold dropP
  rw [List.filter_map]
  congr 1
  refine List.filter_congr fun p _ => ?_
  show (!(p.1 == k)) = decide (p.1 ≠ k)
  by_cases h : p.1 = k
  · simp [h]
  · simp [h]
theorem enc_put (T : PL (Value × α)) (k : Ky) (u : Value) (a : α) : (encM T).put (.string k) (.held u) = encM (setP T k (some (u, a))) := by
  show DataW.map (DataW.insert (Lit.string k, DataW.held u) ((T.map encE).filter fun p => !p.1.sameKey (.string k))) = _
  rw [enc_drop]
  exact congrArg _ (enc_ins (k, (u, a)) (dropP T k))
theorem enc_del (T : PL (Value × α)) (k : Ky) : (encM T).del (.string k) = encM (setP T k none) := congrArg DataW.map (enc_drop T k)
theorem enc_find {T : PL (Value × α)} {k : Ky} {u : Value} {a : α} (h : getP T k = some (u, a)) : ∃ q, (T.map encE).find? (fun p => p.1.sameKey (.string k)) = some q ∧ q.2 = .held u := by
  induction T with
  | nil => cases h
  | cons p T ih =>
    have hs : (encE p).1.sameKey (.string k) = (p.1 == k) := rfl
    rw [List.map_cons, List.find?_cons, hs]
    by_cases hp : p.1 = k
    · rw [getP, if_pos hp] at h
      injection h with h
      rw [beq_iff_eq.2 hp]
      exact ⟨_, rfl, by rw [encE, h]⟩
    · rw [getP, if_neg hp] at h
      rw [beq_eq_false_iff_ne.2 hp]
      exact ih h
theorem enc_at {T : PL (Value × α)} {k : Ky} {u : Value} {a : α} (h : getP T k = some (u, a)) (z : DataW Value) : (encM T).atKey (.string k) z = .held u := by
  obtain ⟨q, h1, h2⟩ := enc_find h
  simp only [encM, DataW.atKey, h1]
  exact h2
theorem enc_keys (T : PL (Value × α)) : strKeys (encM T) = T.map (·.1) := by
  show (T.map encE).map (fun p => strOf p.1) = _
  rw [List.map_map]
  rfl
theorem enc_size (T : PL (Value × α)) : Maps.size (encM T) = T.length := by
  show (T.map encE).length = _
  rw [List.length_map]
/-- block b is the map T; it has at most N entries -/
def MapV (w : World) (b : Nat) (T : PL (Value × α)) (N : Nat) : Prop := w.ownsMap Try.prog 9 RV b N (encM T)
theorem lawS : Keyed Try.prog 9 := string_keyed Try.underlying9
theorem key_of {k : Ky} (hk : k.length ≤ maxLen) : keyOf Try.prog 9 (.string ⟨k.toArray⟩) = some (.string k) := WideMaps.keyOf_string_mk (P := Try.prog) Try.underlying9 (by simpa [ByteArray.size] using hk)
theorem MapV.made (w : World) : MapV (α := α) (w.alloc (.map #[] 0)) w.heap.size [] 0 := World.ownsMap_made w _ _ _
theorem MapV.ext {w w' : World} {b N : Nat} {T : PL (Value × α)} (h : MapV w b T N) (hb : Below w.heap.size w w') : MapV w' b T N :=
  World.ownsMap.kept (row := none) h ⟨hb.os, hb.tape, hb.output, hb.size, fun k hk _ => hb.block k hk⟩ (by simp)
theorem MapV.kept {w w' : World} {b N : Nat} {r : Option Nat} {T : PL (Value × α)} (h : MapV w b T N) (hg : w.grownBy w' r) (hne : some b ≠ r) : MapV w' b T N := World.ownsMap.kept h hg hne
theorem MapV.lt {w : World} {b N : Nat} {T : PL (Value × α)} (h : MapV w b T N) : b < w.heap.size := World.ownsMap.lt h
theorem turned_grown {w w' : World} {b : Nat} (h : w.mapTurned w' b) : w.grownBy w' (some b) := by
  obtain ⟨es, clock, es', clock', hb, rfl⟩ := h
  exact ⟨rfl, rfl, rfl, by simp [ChangeMaps.setBlock], fun i _ hi => ChangeMaps.heap_setBlock_other hb _ (fun e => hi (by rw [e]))⟩
/-- 'm[k]' -/
theorem MapV.look {w : World} {b N : Nat} {T : PL (Value × α)} {t e : TypeId} (h : MapV w b T N) (ht : Try.prog.underlying t = some (.map 9 e)) {z : Value} (hz : (zeroValue e).run Try.prog w = .ok z w) {k : Ky} (hk : k.length ≤ maxLen) {u : Value} {a : α} (hg : getP T k = some (u, a)) :
    (Instr.lookup t (.map (some b)) (.string ⟨k.toArray⟩) false).run Try.prog w = .ok u w := by
  obtain ⟨v, ps, hr, hv⟩ := World.ownsMap.lookup h lawS ht hz (zd := .held z) (zp := []) rfl (key_of hk)
  rw [enc_at hg] at hv
  unfold RV at hv
  simp only [Option.some.injEq, Prod.mk.injEq, DataW.held.injEq] at hv
  rw [hr, hv.1]
section
variable {ops : Array Oper} {rest : List Oper} {o : Oper} {x : Act} {w : World} {Q : Exit → Act → World → Prop}
/-- 'm[k] = v' -/
theorem wpList_put_map (hg : o.guard = none) (m kx v : Operand) (t e : TypeId) (hop : o.op = Op.mapUpdate t m kx v) (ht : Try.prog.underlying t = some (.map 9 e)) {b N : Nat} {T : PL (Value × α)} (hm : x.eval m = .map (some b)) (h : MapV w b T N) (hn : N < maxLen)
    {k : Ky} (hk : k.length ≤ maxLen) {u : Value} (hx : x.eval kx = .string ⟨k.toArray⟩) (hv : x.eval v = u) (a : α) (hK : ∀ w', MapV w' b (setP T k (some (u, a))) (N + 1) → w.grownBy w' (some b) → wpList Try.prog ops Q rest (x.put o.dst undef) w') : wpList Try.prog ops Q (o :: rest) x w :=
  wpList_mapUpdate_own w hg m kx v t hop _ e lawS ht RV b N (encM T) hm h hn _ _ (.string k) hx hv (key_of hk) (.held u) [] rfl fun w' h1 h2 => hK w' (by rw [enc_put T k u a] at h1; exact h1) h2
/-- 'delete(m, k)' -/
theorem wpList_del_map (hg : o.guard = none) (m kx : Operand) (t e : TypeId) (hop : o.op = Op.call { callee := Callee.builtin Builtin.delete, args := #[m, kx], argTypes := #[t, 9] }) (ht : Try.prog.underlying t = some (.map 9 e)) {b N : Nat} {T : PL (Value × α)} (hm : x.eval m = .map (some b)) (h : MapV w b T N)
    {k : Ky} (hk : k.length ≤ maxLen) (hx : x.eval kx = .string ⟨k.toArray⟩) (hK : ∀ w', MapV w' b (setP T k none) N → w.grownBy w' (some b) → wpList Try.prog ops Q rest (x.put o.dst (.tuple #[])) w') : wpList Try.prog ops Q (o :: rest) x w :=
  wpList_delete_own w hg m kx t _ hop e lawS ht RV b N (encM T) hm h _ (.string k) hx (key_of hk) fun w' h1 h2 => hK w' (by rw [enc_del] at h1; exact h1) (turned_grown h2)
end
theorem rises_sorted {T : PL (Value × α)} (h : Rises T) : (T.map (·.1)).mergeSort leB = T.map (·.1) := by
  refine List.mergeSort_of_pairwise (List.pairwise_map.2 (List.Pairwise.imp ?_ h))
  intro p q hpq
  have h1 : p.1 < q.1 := by
    have := bytesLess_eq p.1 q.1
    rw [less_eq, hpq] at this
    exact of_decide_eq_true this.symm
  exact decide_eq_true (List.le_of_lt h1)
/-- a string value -/
def strV (k : Ky) : Value := .string ⟨k.toArray⟩
theorem sorted_keys {w : World} {base : Nat} {v : Value} {ss : List Ky} {T : PL (Value × α)} (hT : Rises T) (hp : ss.Perm (strKeys (encM T))) (ho : w.ownsRow base 9 1 v ss.length ((ss.mergeSort (fun x y => decide (x ≤ y))).map encStr)) :
    w.ownsRow base 9 1 v T.length (T.map fun p => strV p.1) := by
  rw [enc_keys] at hp
  have e1 : ss.mergeSort (fun x y => decide (x ≤ y)) = T.map (·.1) := (mergeSort_of_perm hp).trans (rises_sorted hT)
  have e2 : ss.length = T.length := by rw [hp.length_eq, List.length_map]
  rw [e1, e2, List.map_map] at ho
  exact ho
end
end Go.Mun

-- FsRel
namespace Go.Mun
open Go Go.RowKit Go.Proofs Go.Maps

abbrev ptr (g : Nat) : Value := .pointer (some ⟨g, 0, none⟩)
/-- names, with the pointers that lie at them -/
def idT (φ : Nat → Nat) (P : PL Nat) : PL (Value × Nat) := mapP (fun i => (ptr (φ i), i)) P
theorem idT_set (φ : Nat → Nat) (P : PL Nat) (k : Ky) (i : Nat) : idT φ (setP P k (some i)) = setP (idT φ P) k (some (ptr (φ i), i)) := mapP_set _ _ _ _
theorem idT_del (φ : Nat → Nat) (P : PL Nat) (k : Ky) : idT φ (setP P k none) = setP (idT φ P) k none := mapP_set _ _ _ _
theorem getP_map {α β : Type} (f : α → β) (P : PL α) (k : Ky) : getP (mapP f P) k = (getP P k).map f := by
  induction P with
  | nil => rfl
  | cons p P ih =>
    show (if p.1 = k then some (f p.2) else getP (mapP f P) k) = _
    by_cases h : p.1 = k
    · rw [if_pos h, getP, if_pos h]; rfl
    · rw [if_neg h, getP, if_neg h]; exact ih
theorem idT_get {φ : Nat → Nat} {P : PL Nat} {k : Ky} {i : Nat} (h : getP P k = some i) : getP (idT φ P) k = some (ptr (φ i), i) := by
  unfold idT
  rw [getP_map, h]
  rfl
/-- a change that waits, as it lies -/
def chgV (φ : Nat → Nat) : Chg → Value
  | .made n i => .iface 95 (.agg #[.string ⟨n.toArray⟩, ptr (φ i)])
  | .ren a b _ => .iface 122 (.agg #[.string ⟨a.toArray⟩, .string ⟨b.toArray⟩])
  | .del a => .iface 124 (.agg #[.string ⟨a.toArray⟩])
theorem chgV_one (φ : Nat → Nat) (c : Chg) : (chgV φ c).oneCell' = true := by cases c <;> rfl
/-- may a file still be asked for? -/
def Live (M : FSs) (i : Nat) : Prop := hasId M.now i ∨ hasId M.syn i ∨ ∃ n, Chg.made n i ∈ M.waits
theorem MapV.same {α : Type} {w w' : World} {b N : Nat} {T : PL (Value × α)} (h : MapV w b T N) (e : w'.heap[b]? = w.heap[b]?) : MapV w' b T N := by
  obtain ⟨es, clock, h1, h2⟩ := h
  exact ⟨es, clock, e.trans h1, h2⟩
/-- a file in memory -/
def FileAt (k : Nat) (φ : Nat → Nat) (o : Own) (w : World) (i : Nat) (f : FileS) : Prop :=
  ∃ v, Blk w (φ i) 92 #[v, .int .i64 f.s] ∧ o (φ i) = some (k, .file i) ∧ w.ownsRow 0 5 1 v f.b.length (bv f.b) ∧ ∀ g, v.ownBlock = some g → o g = some (k, .byt i)
/-- the head of it all: block p -/
structure Head (k p : Nat) (M : FSs) (φ : Nat → Nat) (o : Own) (K : Nat) (w : World) (bn bs : Nat) (vw vk : Value) : Prop where
  blk : Blk w p 68 #[.map (some bn), .map (some bs), vw, .int .i64 M.op, .int .i64 M.cut, vk, .bool M.dead, .int .i64 M.ops]
  op : o p = some (k, .fs)
  on : o bn = some (k, .now)
  os : o bs = some (k, .syn)
  now : ∃ N, MapV w bn (idT φ M.now) N ∧ N ≤ K
  syn : ∃ N, MapV w bs (idT φ M.syn) N ∧ N + M.waits.length ≤ K
  waits : w.ownsRow 0 110 1 vw M.waits.length (M.waits.map (chgV φ))
  ow : ∀ g, vw.ownBlock = some g → o g = some (k, .waits)
  keep : w.ownsRow 0 4 1 vk M.keep.length (M.keep.map .bool)
  ok : ∀ g, vk.ownBlock = some g → o g = some (k, .keep)
/-- files, in memory -/
structure RelP (k p : Nat) (M : FSs) (φ : Nat → Nat) (o : Own) (K L : Nat) (w : World) : Prop where
  fine : Fine M
  own : OwnIn o w
  head : ∃ bn bs vw vk, Head k p M φ o K w bn bs vw vk
  file : ∀ i, Live M i → FileAt k φ o w i (M.fs i) ∧ (M.fs i).b.length ≤ L
  ops : 0 ≤ M.ops ∧ M.ops ≤ K
  cut : -9223372036854775808 ≤ M.cut ∧ M.cut ≤ 9223372036854775807
  opb : M.op ≤ 9223372036854775807
  wl : M.waits.length ≤ K
/-- where only k's blocks and new ones are written, the files of others stay -/
theorem FileAt.stays {k j : Nat} {φ : Nat → Nat} {o o' : Own} {w w' : World} {i : Nat} {f : FileS} (h : FileAt j φ o w i f) (ho : OwnIn o w) (ht : Turn k o o' w w') (hj : j ≠ k) : FileAt j φ o' w' i f := by
  obtain ⟨v, h1, h2, h3, h4⟩ := h
  have e := ht.other hj (ho.lt h2) h2
  refine ⟨v, h1.same e.1, e.2, own_same h3 fun g hg => (ht.other hj (ho.lt (h4 g hg)) (h4 g hg)).1, fun g hg => (ht.other hj (ho.lt (h4 g hg)) (h4 g hg)).2⟩
theorem Head.stays {k j p : Nat} {M : FSs} {φ : Nat → Nat} {o o' : Own} {K : Nat} {w w' : World} {bn bs : Nat} {vw vk : Value} (h : Head j p M φ o K w bn bs vw vk) (ho : OwnIn o w) (ht : Turn k o o' w w') (hj : j ≠ k) : Head j p M φ o' K w' bn bs vw vk where
  blk := h.blk.same (ht.other hj (ho.lt h.op) h.op).1
  op := (ht.other hj (ho.lt h.op) h.op).2
  on := (ht.other hj (ho.lt h.on) h.on).2
  os := (ht.other hj (ho.lt h.os) h.os).2
  now := by obtain ⟨N, h1, h2⟩ := h.now; exact ⟨N, h1.same (ht.other hj (ho.lt h.on) h.on).1, h2⟩
  syn := by obtain ⟨N, h1, h2⟩ := h.syn; exact ⟨N, h1.same (ht.other hj (ho.lt h.os) h.os).1, h2⟩
  waits := own_same h.waits fun g hg => (ht.other hj (ho.lt (h.ow g hg)) (h.ow g hg)).1
  ow := fun g hg => (ht.other hj (ho.lt (h.ow g hg)) (h.ow g hg)).2
  keep := own_same h.keep fun g hg => (ht.other hj (ho.lt (h.ok g hg)) (h.ok g hg)).1
  ok := fun g hg => (ht.other hj (ho.lt (h.ok g hg)) (h.ok g hg)).2
theorem RelP.stays {k j p : Nat} {M : FSs} {φ : Nat → Nat} {o o' : Own} {K L : Nat} {w w' : World} (h : RelP j p M φ o K L w) (ho' : OwnIn o' w') (ht : Turn k o o' w w') (hj : j ≠ k) : RelP j p M φ o' K L w' where
  fine := h.fine
  own := ho'
  head := by obtain ⟨bn, bs, vw, vk, hh⟩ := h.head; exact ⟨bn, bs, vw, vk, hh.stays h.own ht hj⟩
  file := fun i hi => ⟨(h.file i hi).1.stays h.own ht hj, (h.file i hi).2⟩
  ops := h.ops
  cut := h.cut
  opb := h.opb
  wl := h.wl
end Go.Mun

-- FsNew
namespace Go.Mun
open Go Go.RowKit Go.Proofs Go.Maps

theorem fsTy : AggTy Try.prog 68 8 := ⟨⟨_, Try.underlying68, rfl⟩, by kernel_rfl⟩
theorem crashTy : AggTy Try.prog 58 3 := ⟨⟨_, Try.underlying58, rfl⟩, by kernel_rfl⟩
set_option maxRecDepth 100000 in
set_option maxHeartbeats 1000000 in
theorem New_any (k : Nat) (φ : Nat → Nat) (o : Own) (w : World) (ho : OwnIn o w) :
    Calls Try.prog 10 #[] w fun e w' => ∃ p o', e = .returned (ptr p) ∧ RelP k p newM φ o' 0 0 w' ∧ Turn k o o' w w' := by
  have hmm := @run_makeMap Try.prog
  go_enter Try.func10, Try.ntmps10
  go_wp2_with (first
    | ((with_reducible refine gd_box ?_); refine wpList_box_agg rfl _ (.tmp 4) rfl rfl ?_; intro w3 hx3 hb3 hl3)
    | fail)
  go_ret
  have h1 := MapV.made (α := Nat) w
  have h2 := MapV.made (α := Nat) (w.alloc (.map #[] 0))
  have hb2 : Below w.heap.size w ((w.alloc (.map #[] 0)).alloc (.map #[] 0)) := ((Below.refl _ _).alloc (Nat.le_refl _) _).alloc (by simp) _
  have s1 : (w.alloc (.map #[] 0)).heap.size = w.heap.size + 1 := by simp
  have s2 : ((w.alloc (.map #[] 0)).alloc (.map #[] 0)).heap.size = w.heap.size + 2 := by simp
  have h12 := (h1.ext ((Below.refl _ _).alloc (Nat.le_refl _) (.map #[] 0))).ext hb3
  have h22 := h2.ext hb3
  have hB3 := below_step hb2 hb3
  have g3 := hx3.lt
  have n1 : w.heap.size ≠ w.heap.size + 1 := by omega
  have n2 : w.heap.size ≠ w.heap.size + 2 := by omega
  have n3 : w.heap.size + 1 ≠ w.heap.size + 2 := by omega
  rw [s1] at h22
  rw [s2] at hx3 g3
  have e1 : give (give (give o w.heap.size (k, .now)) (w.heap.size + 1) (k, .syn)) (w.heap.size + 2) (k, .fs) w.heap.size = some (k, .now) := by rw [give_ne n2, give_ne n1, give_same]
  have e2 : give (give (give o w.heap.size (k, .now)) (w.heap.size + 1) (k, .syn)) (w.heap.size + 2) (k, .fs) (w.heap.size + 1) = some (k, .syn) := by rw [give_ne n3, give_same]
  refine ⟨w.heap.size + 2, give (give (give o w.heap.size (k, .now)) (w.heap.size + 1) (k, .syn)) (w.heap.size + 2) (k, .fs), rfl, ⟨newM_fine, ?_, ⟨w.heap.size, w.heap.size + 1, .slice none 0 0, .slice none 0 0, ⟨hx3, give_same _ _ _, e1, e2, ⟨0, h12, Nat.le_refl _⟩, ⟨0, h22, Nat.le_refl _⟩, World.ownsRow_nil _ _ _ _, fun g h => (by cases h), World.ownsRow_nil _ _ _ _, fun g h => (by cases h)⟩⟩, fun i hi => ?_, by decide, by decide, by decide, Nat.le_refl _⟩, ?_⟩
  · exact ((((ho.more hB3.size).give (by omega) _).give (by omega) _).give g3 _)
  · rcases hi with ⟨_, h, _⟩ | ⟨_, h, _⟩ | ⟨_, h⟩ <;> exact absurd h List.not_mem_nil
  · exact (((Turn.below ho hB3).give (Nat.le_refl _) _).give (by omega) _).give (by omega) _
end Go.Mun

-- Put
namespace Go.Mun
open Go Go.RowKit

/-- cells written into an array from a place on -/
def putAt (cur : Array Value) : Nat → List Value → Array Value
  | _, [] => cur
  | o, v :: r => putAt (cur.setIfInBounds o v) (o + 1) r
theorem putAt_size (cs : List Value) : ∀ (cur : Array Value) (o : Nat), (putAt cur o cs).size = cur.size := by
  induction cs with
  | nil => intros; rfl
  | cons v r ih => intro cur o; show (putAt (cur.setIfInBounds o v) (o + 1) r).size = _; rw [ih]; simp
theorem putAt_get (cs : List Value) : ∀ (cur : Array Value) (o : Nat), o + cs.length ≤ cur.size → ∀ j, (putAt cur o cs)[j]? = if o ≤ j ∧ j < o + cs.length then cs[j - o]? else cur[j]? := by
  induction cs with
  | nil => intro cur o _ j; rw [if_neg (by simp only [List.length_nil]; omega)]; rfl
  | cons v r ih =>
    intro cur o h j
    simp only [List.length_cons] at h ⊢
    show (putAt (cur.setIfInBounds o v) (o + 1) r)[j]? = _
    rw [ih _ _ (by simp; omega)]
    by_cases h1 : o + 1 ≤ j ∧ j < o + 1 + r.length
    · rw [if_pos h1, if_pos (by omega), show j - o = (j - (o + 1)) + 1 from by omega]; rfl
    · rw [if_neg h1, Array.getElem?_setIfInBounds]
      by_cases h2 : o = j
      · subst h2
        rw [if_pos rfl, if_pos (by omega), if_pos (by omega), Nat.sub_self]; rfl
      · rw [if_neg h2, if_neg (by omega)]
theorem putAt_take (cur : Array Value) (o m : Nat) (cs : List Value) (h : o + cs.length ≤ m) (hm : m ≤ cur.size) : (putAt cur o cs).toList.take m = (cur.toList.take m).take o ++ cs ++ (cur.toList.take m).drop (o + cs.length) := by
  apply List.ext_getElem?
  intro j
  rw [List.getElem?_take]
  by_cases hj : j < m
  · rw [if_pos hj, Array.getElem?_toList, putAt_get cs cur o (by omega)]
    by_cases h1 : j < o
    · rw [if_neg (by omega), List.append_assoc, List.getElem?_append_left (by simp; omega), List.getElem?_take, if_pos h1, List.getElem?_take, if_pos hj, Array.getElem?_toList]
    · have ht : ((cur.toList.take m).take o).length = o := by simp; omega
      by_cases h2 : j < o + cs.length
      · rw [if_pos (by omega), List.append_assoc, List.getElem?_append_right (by rw [ht]; omega), ht, List.getElem?_append_left (by omega)]
      · rw [if_neg (by omega), List.getElem?_append_right (by rw [List.length_append, ht]; omega), List.length_append, ht, List.getElem?_drop, List.getElem?_take,
          show o + cs.length + (j - (o + cs.length)) = j from by omega, if_pos hj, Array.getElem?_toList]
  · rw [if_neg hj, List.getElem?_eq_none]
    simp
    omega
theorem heap_putAt (h : Nat) (e : TypeId) (cs : List Value) : ∀ (o : Nat) (w : World) (cur : Array Value), w.heap[h]? = some (.cells cur e (0, 0)) → (w.setCells h o cs).heap[h]? = some (.cells (putAt cur o cs) e (0, 0)) := by
  induction cs with
  | nil => intro o w cur hh; exact hh
  | cons v r ih =>
    intro o w cur hh
    exact ih (o + 1) _ _ (heap_setCell_same w h o cur e v hh)
theorem grown_setCells (h : Nat) (cs : List Value) : ∀ (o : Nat) (w : World), w.grownBy (w.setCells h o cs) (some h) := by
  induction cs with
  | nil => intro o w; exact World.grownBy.refl w _
  | cons v r ih =>
    intro o w
    exact World.grownBy.trans (grownBy_setCell w ⟨h, o, none⟩ v) (ih (o + 1) _)
/-- cells written into a row of the call's own -/
theorem own_put {w : World} {base h n c size : Nat} {e : TypeId} {xs : List Value} (ho : w.ownsRow base e size (.slice (some ⟨h, 0, none⟩) n c) n xs) (o : Nat) (cs : List Value) (hfit : o + cs.length ≤ n * size) :
    (w.setCells h o cs).ownsRow base e size (.slice (some ⟨h, 0, none⟩) n c) n (xs.take o ++ cs ++ xs.drop (o + cs.length)) ∧ w.there h o cs.length := by
  obtain ⟨h1, h2⟩ := ho
  rcases h2 with ⟨e1, _⟩ | ⟨g, cap, cur, e1, hb, hh, hc, hm, hs, ht⟩
  · cases e1
  · injection e1 with e1 e2 e3
    injection e1 with e1
    injection e1 with e1
    subst e1 e3
    have hle : n * size ≤ cur.size := by rw [hs]; exact Nat.mul_le_mul_right _ hc
    refine ⟨⟨?_, .inr ⟨h, c, putAt cur o cs, rfl, hb, heap_putAt h e cs o w cur hh, hc, hm, by rw [putAt_size, hs], ?_⟩⟩, ?_⟩
    · simp only [List.length_append, List.length_take, List.length_drop]; omega
    · rw [putAt_take cur o (n * size) cs hfit hle, ht]
    · intro j hj
      refine ⟨?_, frozen_of_row w h (o + j) cur e hh⟩
      rw [cell_of_row w h (o + j) cur e (0, 0) hh, Array.getElem?_eq_getElem (by omega)]
      rfl
/-- 'row[k] = x', of an element of several cells -/
theorem wpList_store_row {P : Program} {w : World} {ops : Array Oper} {rest : List Oper} {o : Oper} {a : Act} {Q : Exit → Act → World → Prop} (hgd : o.guard = none) (ty : TypeId) (x y : Operand) (ho : o.op = .store ty x y)
    {base h n c k size : Nat} {e : TypeId} {xs : List Value} {cells : Array Value} (hown : w.ownsRow base e size (.slice (some ⟨h, 0, none⟩) n c) n xs) (hk : k < n) (hsz : cells.size = size) (hx : a.eval x = .pointer (some ⟨h, k * size, none⟩)) (hy : a.eval y = .agg cells)
    (hi : (P.info? ty).map (·.size) = some cells.size) (h1 : oneAll cells.toList = true)
    (H : ∀ w', w'.ownsRow base e size (.slice (some ⟨h, 0, none⟩) n c) n (xs.take (k * size) ++ cells.toList ++ xs.drop ((k + 1) * size)) → w.grownBy w' (some h) → wpList P ops Q rest (a.put o.dst undef) w') : wpList P ops Q (o :: rest) a w := by
  have hle : (k + 1) * size ≤ n * size := Nat.mul_le_mul_right _ hk
  rw [Nat.add_mul, Nat.one_mul] at hle
  obtain ⟨g1, g2⟩ := own_put hown (k * size) cells.toList (by rw [Array.length_toList, hsz]; exact hle)
  rw [Array.length_toList, hsz, show k * size + size = (k + 1) * size from by rw [Nat.add_mul, Nat.one_mul]] at g1
  refine wpList_store_mid hgd _ x y ho h (k * size) cells hx hy (by rwa [Array.length_toList] at g2) hi (Array.all_eq_true_iff_forall_mem.2 fun u hu => oneAll_mem h1 u (by simpa using hu)) ?_
  exact H _ g1 (grown_setCells h _ _ _)
/-- 's.f = x', of a field of several cells -/
theorem wpList_store_part {P : Program} {w : World} {ops : Array Oper} {rest : List Oper} {op : Oper} {a : Act} {Q : Exit → Act → World → Prop} (hgd : op.guard = none) (ty : TypeId) (x y : Operand) (ho : op.op = .store ty x y)
    {g o : Nat} {t : TypeId} {cs cells : Array Value} (hb : Blk w g t cs) (hfit : o + cells.size ≤ cs.size) (hx : a.eval x = .pointer (some ⟨g, o, none⟩)) (hy : a.eval y = .agg cells)
    (hi : (P.info? ty).map (·.size) = some cells.size) (h1 : oneAll cells.toList = true)
    (H : ∀ w', Blk w' g t (putAt cs o cells.toList) → w.grownBy w' (some g) → wpList P ops Q rest (a.put op.dst undef) w') : wpList P ops Q (op :: rest) a w := by
  refine wpList_store_mid hgd ty x y ho g o cells hx hy (fun j hj => ⟨?_, hb.frozen (o + j)⟩) hi (Array.all_eq_true_iff_forall_mem.2 fun u hu => oneAll_mem h1 u (by simpa using hu)) (H _ (heap_putAt g t _ o w cs hb) (grown_setCells g _ _ _))
  rw [hb.cell, Array.getElem?_eq_getElem (by omega)]
  rfl
end Go.Mun

-- FsHead
namespace Go.Mun
open Go Go.RowKit Go.Proofs Go.Maps

section
variable {k p : Nat} {M : FSs} {φ : Nat → Nat} {o : Own} {K L : Nat} {w : World}
theorem Dead_any (h : RelP k p M φ o K L w) : Calls Try.prog 25 #[.pointer (some ⟨p, 0, none⟩)] w fun e w' => e = .returned (.bool M.dead) ∧ w = w' := by
  obtain ⟨bn, bs, vw, vk, hh⟩ := h.head
  have y6 := hh.blk.cellv (i := 6) rfl
  clear hh h
  go_enter Try.func25, Try.ntmps25
  go_wp2
  go_ret
  exact ⟨rfl, rfl⟩
/-- only the head was written -/
theorem FileAt.head {w' : World} {i : Nat} {f : FileS} (h : FileAt k φ o w i f) (hg : w.grownBy w' (some p)) (ho : OwnIn o w) (hp : o p = some (k, .fs)) : FileAt k φ o w' i f := by
  obtain ⟨v, h1, h2, h3, h4⟩ := h
  have ne : ∀ {b t}, o b = some (k, t) → t ≠ .fs → w'.heap[b]? = w.heap[b]? := fun e ht => hg.block _ (ho.lt e) fun e' => by
    injection e' with e'
    subst e'
    rw [hp] at e
    injection e with e
    injection e with _ e
    exact ht e.symm
  exact ⟨v, h1.same (ne h2 (by simp)), h2, own_same h3 fun g hg => ne (h4 g hg) (by simp), h4⟩
/-- the head's own block was written -/
theorem RelP.head_set {w' : World} {M' : FSs} (h : RelP k p M φ o K L w) {bn bs : Nat} {vw vk vk' : Value} (hh : Head k p M φ o K w bn bs vw vk) (hg : w.grownBy w' (some p))
    (hx : Blk w' p 68 #[.map (some bn), .map (some bs), vw, .int .i64 M'.op, .int .i64 M'.cut, vk', .bool M'.dead, .int .i64 M'.ops])
    (hn : M'.now = M.now) (hs : M'.syn = M.syn) (hw : M'.waits = M.waits) (hf : M'.fs = M.fs) (hfine : Fine M') (hk : w'.ownsRow 0 4 1 vk' M'.keep.length (M'.keep.map .bool)) (hko : ∀ g, vk'.ownBlock = some g → o g = some (k, .keep))
    (hops : 0 ≤ M'.ops ∧ M'.ops ≤ K) (hcut : -9223372036854775808 ≤ M'.cut ∧ M'.cut ≤ 9223372036854775807) (hop : M'.op ≤ 9223372036854775807) : RelP k p M' φ o K L w' := by
  have ne : ∀ {b t}, o b = some (k, t) → t ≠ .fs → w'.heap[b]? = w.heap[b]? := fun e ht => hg.block _ (h.own.lt e) fun e' => by
    injection e' with e'
    subst e'
    rw [hh.op] at e
    injection e with e
    injection e with _ e
    exact ht e.symm
  refine ⟨hfine, h.own.more hg.size, ⟨bn, bs, vw, vk', ⟨hx, hh.op, hh.on, hh.os, ?_, ?_, ?_, hh.ow, hk, hko⟩⟩, fun i hi => ?_, hops, hcut, hop, by rw [hw]; exact h.wl⟩
  · obtain ⟨N, h1, h2⟩ := hh.now
    exact ⟨N, by rw [hn]; exact h1.same (ne hh.on (by simp)), h2⟩
  · obtain ⟨N, h1, h2⟩ := hh.syn
    exact ⟨N, by rw [hs]; exact h1.same (ne hh.os (by simp)), by rw [hw]; exact h2⟩
  · rw [hw]
    exact own_same hh.waits fun g hg => ne (hh.ow g hg) (by simp)
  · have hi' : Live M i := by unfold Live at hi ⊢; rw [hn, hs, hw] at hi; exact hi
    rw [hf]
    exact ⟨(h.file i hi').1.head hg h.own hh.op, (h.file i hi').2⟩
set_option maxRecDepth 100000 in
theorem Start_any (h : RelP k p M φ o K L w) : Calls Try.prog 26 #[.pointer (some ⟨p, 0, none⟩)] w fun e w' => e = .returned (.tuple #[]) ∧ RelP k p (startM M) φ o K L w' ∧ Turn k o o w w' := by
  obtain ⟨bn, bs, vw, vk, hh⟩ := h.head
  have hx := hh.blk
  have H := Lib.hid hh
  have HR := Lib.hid h
  clear hh h
  go_enter Try.func26, Try.ntmps26
  go_wp2_with (first
    | ((with_reducible refine gd_store ?_); refine wpList_store_cell rfl 4 (.tmp 4) (.const (.bool false)) rfl (i := 6) (v := .bool false) hx (show 6 < 8 by decide) (by kernel_rfl) rfl rfl rfl ?_; intro w1 hx1 hg1)
    | ((with_reducible refine gd_store ?_); refine wpList_store_part rfl 58 (.tmp 8) (.tmp 6) rfl (o := 3) (cells := #[.int .i64 (-1), .int .i64 0, .slice none 0 0]) hx1 (show 3 + 3 ≤ 8 by decide) rfl rfl (by kernel_rfl) rfl ?_; intro w2 hx2 hg2)
    | fail)
  have hg := hg1.trans hg2
  go_end0
  exact ⟨rfl, HR.out.head_set (M' := startM M) H.out hg hx2 rfl rfl rfl rfl HR.out.fine.start (World.ownsRow_nil _ _ _ _) (fun g h => by cases h) HR.out.ops ⟨by show (-9223372036854775808 : Int) ≤ 0; decide, by show (0 : Int) ≤ _; decide⟩ (by show (-1 : Int) ≤ _; decide), Turn.wrote HR.out.own hg H.out.op⟩
end
end Go.Mun

-- Str
namespace Go.Mun
open Go Go.RowKit

theorem run_str {P : Program} {w : World} {v : Value} {l : List UInt8} (hb : Bytes w v l) {src dst e : TypeId} (hs : P.underlying src = some (.slice e)) (he : P.underlying e = some (.int .u8)) (hd : P.underlying dst = some .string) :
    (convert src dst v).run P w = .ok (.string ⟨l.toArray⟩) w := by
  obtain ⟨A, n, c, rfl, h1, h2, h3, h4⟩ := hb
  subst h1
  cases A with
  | none =>
    have e : l = [] := by
      cases l with
      | nil => rfl
      | cons x l => obtain ⟨_, e, _⟩ := h4.byte (j := 0) (by simp); cases e
    subst e
    exact run_convert_bytes_nil w src _ hs he _ _ dst hd
  | some ad =>
    refine run_convert_bytes_back w src dst _ ad c l hs he hd fun j hj => ?_
    obtain ⟨_, e, h⟩ := h4.byte hj
    cases e
    exact h
theorem str_eq (l m : List UInt8) : ((⟨l.toArray⟩ : ByteArray) == ⟨m.toArray⟩) = decide (l = m) := by
  have h : ((⟨l.toArray⟩ : ByteArray) == ⟨m.toArray⟩) = (l.toArray == m.toArray) := rfl
  rw [h, Bool.eq_iff_iff]
  simp
theorem list_beq (l m : List UInt8) : (l == m) = decide (l = m) := by
  rw [Bool.eq_iff_iff]
  simp
theorem str_ne (l m : List UInt8) : ((⟨l.toArray⟩ : ByteArray) != ⟨m.toArray⟩) = !decide (l = m) := by
  rw [bne, str_eq]
end Go.Mun

-- FsAsk
namespace Go.Mun
open Go Go.RowKit Go.Proofs Go.Maps

theorem enc_none {α : Type} {T : PL (Value × α)} {k : Ky} (h : getP T k = none) (z : DataW Value) : (encM T).atKey (.string k) z = z := by
  have hf : (T.map encE).find? (fun p => p.1.sameKey (.string k)) = none := by
    induction T with
    | nil => rfl
    | cons p T ih =>
      have hs : (encE p).1.sameKey (.string k) = (p.1 == k) := rfl
      rw [List.map_cons, List.find?_cons, hs]
      by_cases hp : p.1 = k
      · rw [getP, if_pos hp] at h; cases h
      · rw [getP, if_neg hp] at h
        rw [beq_eq_false_iff_ne.2 hp]
        exact ih h
  simp only [encM, DataW.atKey, hf]
/-- 'm[k]', where nothing is -/
theorem MapV.look_none {α : Type} {w : World} {b N : Nat} {T : PL (Value × α)} {t e : TypeId} (h : MapV w b T N) (ht : Try.prog.underlying t = some (.map 9 e)) {z : Value} (hz : (zeroValue e).run Try.prog w = .ok z w) {k : Ky} (hk : k.length ≤ maxLen) (hg : getP T k = none) :
    (Instr.lookup t (.map (some b)) (.string ⟨k.toArray⟩) false).run Try.prog w = .ok z w := by
  obtain ⟨v, ps, hr, hv⟩ := World.ownsMap.lookup h lawS ht hz (zd := .held z) (zp := []) rfl (key_of hk)
  rw [enc_none hg] at hv
  unfold RV at hv
  simp only [Option.some.injEq, Prod.mk.injEq, DataW.held.injEq] at hv
  rw [hr, hv.1]
theorem namesTy : Try.prog.underlying 65 = some (.map 9 89) := Try.underlying65
theorem zFileP (w : World) : (zeroValue 89).run Try.prog w = .ok (.pointer none) w := by kernel_rfl
theorem idT_none {φ : Nat → Nat} {P : PL Nat} {k : Ky} (h : getP P k = none) : getP (idT φ P) k = none := by
  unfold idT
  rw [getP_map, h]
  rfl
theorem named_yes (n : Ky) (w : World) (h : NameOk n) : Calls Try.prog 41 #[.string ⟨n.toArray⟩] w fun e w' => e = .returned (.bool true) ∧ w = w' := by
  have q : n.isEmpty = false := by have := h.1; cases n <;> simp_all
  have hl := h.2
  have d : decide ((n.length : Int) ≤ 100) = true := decide_eq_true (by omega)
  clear h
  go_enter Try.func41, Try.ntmps41
  go_wp2
  go_ret
  exact ⟨rfl, rfl⟩
theorem named_no (n : Ky) (w : World) (h : ¬ NameOk n) (hn : n.length ≤ 1000000) : Calls Try.prog 41 #[.string ⟨n.toArray⟩] w fun e w' => e = .returned (.bool false) ∧ w = w' := by
  by_cases h0 : n = []
  · subst h0
    go_enter Try.func41, Try.ntmps41
    go_wp2
    go_ret
    exact ⟨rfl, rfl⟩
  · have q : n.isEmpty = false := by cases n <;> simp_all
    have hl : 100 < n.length := by
      rcases Nat.lt_or_ge 100 n.length with h1 | h1
      · exact h1
      · exact absurd ⟨h0, h1⟩ h
    have d : decide ((n.length : Int) ≤ 100) = false := decide_eq_false (by omega)
    clear h h0
    go_enter Try.func41, Try.ntmps41
    go_wp2
    go_ret
    exact ⟨rfl, rfl⟩
/-- is there power, and such a file? -/
def isB (M : FSs) (n : Ky) : Bool := !M.dead && (getP M.now n).isSome
section
variable {k p : Nat} {M : FSs} {φ : Nat → Nat} {o : Own} {K L : Nat} {w : World}
set_option maxRecDepth 100000 in
theorem is_any (h : RelP k p M φ o K L w) (n : Ky) (hn : n.length ≤ 1000000) : Calls Try.prog 44 #[.pointer (some ⟨p, 0, none⟩), .string ⟨n.toArray⟩] w fun e w' => e = .returned (.bool (isB M n)) ∧ w = w' := by
  obtain ⟨bn, bs, vw, vk, hh⟩ := h.head
  have y0 := hh.blk.cellv (i := 0) rfl
  have y6 := hh.blk.cellv (i := 6) rfl
  obtain ⟨N, hN, _⟩ := hh.now
  have hm : n.length ≤ maxLen := by unfold maxLen; omega
  cases hd : M.dead
  · rw [hd] at y6
    cases hg : getP M.now n with
    | none =>
      have q := hN.look_none namesTy (zFileP w) hm (idT_none hg)
      have e : isB M n = false := by unfold isB; rw [hd, hg]; rfl
      rw [e]
      clear e hg hN hm hd hh h
      go_enter Try.func44, Try.ntmps44
      go_wp2
      go_ret
      exact ⟨rfl, rfl⟩
    | some i =>
      have q := hN.look namesTy (zFileP w) hm (idT_get hg)
      have e : isB M n = true := by unfold isB; rw [hd, hg]; rfl
      rw [e]
      clear e hg hN hm hd hh h
      go_enter Try.func44, Try.ntmps44
      go_wp2
      go_ret
      exact ⟨rfl, rfl⟩
  · rw [hd] at y6
    have e : isB M n = false := by unfold isB; rw [hd]; rfl
    rw [e]
    clear e hN hm hd hh h
    go_enter Try.func44, Try.ntmps44
    go_wp2
    go_ret
    exact ⟨rfl, rfl⟩
end
end Go.Mun

-- Clone
namespace Go.Mun
open Go Go.RowKit Go.Proofs

theorem bytesTyC : SliceTy Try.prog 22 5 (.int .u8 0) 1 1 := SliceTy.mk' Try.underlying22 (by kernel_rfl) rfl (by omega)
theorem own_noneC (w : World) (base : Nat) (e : TypeId) (hb : base ≤ w.heap.size) : (w.alloc (.cells #[] e)).ownsRow base e 1 (.slice (some ⟨w.heap.size, 0, none⟩) 0 0) 0 (bv []) :=
  own_new_at hb rfl e #[] rfl (by simp [maxLen]) rfl

set_option maxRecDepth 100000 in
set_option maxHeartbeats 400000 in
theorem CloneB_any (v : Value) (l : List UInt8) (w : World) (hv : Bytes w v l) (hl : l.length ≤ 140737488355328) :
    Calls Try.prog 35 #[v] w fun e w' => ∃ v', e = .returned v' ∧ w'.ownsRow w.heap.size 5 1 v' l.length (bv l) ∧ Below w.heap.size w w' := by
  have hT := bytesTyC
  obtain ⟨A, n, c, rfl, h1, h2, h3, h4⟩ := hv
  have hq : ∀ (w : World) (a : Option Addr) (n c n' c' : Nat), (binOp .eql 22 (.slice a n c) (.slice none n' c')).run Try.prog w = .ok (.bool a.isNone) w := fun w a n c n' c' => Lib.run_eql_slice_nil w _ _ a n c n' c' Try.underlying22
  cases A with
  | none =>
    have e : l = [] := by
      cases l with
      | nil => rfl
      | cons x l => obtain ⟨_, e, _⟩ := h4.byte (j := 0) (by simp); cases e
    go_enter Try.func35, Try.ntmps35
    go_wp2
    go_ret
    exact ⟨_, rfl, by rw [e]; exact ⟨rfl, .inl ⟨rfl, rfl⟩⟩, Below.refl _ _⟩
  | some ad =>
    have hy : Bytes w (.slice (some ad) n c) l := ⟨_, n, c, rfl, h1, h2, h3, h4⟩
    have ho := own_noneC w w.heap.size 5 (Nat.le_refl _)
    have hB : Below w.heap.size w (w.alloc (.cells #[] 5)) := (Below.refl _ _).alloc (Nat.le_refl _) _
    go_enter Try.func35, Try.ntmps35
    go_wp2_with (at_builtin; refine wpList_append_bytes rfl (.tmp 5) (.tmp 6) _ rfl w.heap.size hT (xs := []) rfl ho rfl (hy.ext hB) (by omega) hB.size ?_; intro v3 w3 ho3 hg3 hat3)
    go_ret
    exact ⟨_, rfl, by simpa using ho3, below_own hB ho (Nat.le_refl _) hg3 hB.size⟩
end Go.Mun

-- FsRead
namespace Go.Mun
open Go Go.RowKit Go.Proofs Go.Maps

theorem row_slC {w : World} {base : Nat} {e : TypeId} {size n : Nat} {v : Value} {xs : List Value} (h : w.ownsRow base e size v n xs) : ∃ A c, v = .slice A n c := by
  rcases h.2 with ⟨e1, e2⟩ | ⟨g, cap, cur, e1, _⟩
  · exact ⟨none, 0, by rw [e1, e2]⟩
  · exact ⟨_, _, e1⟩
section
variable {k p : Nat} {M : FSs} {φ : Nat → Nat} {o : Own} {K L : Nat} {w : World}
/-- is there such a file now? -/
theorem isB_get {n : Ky} (h : isB M n = true) : ∃ i, getP M.now n = some i := by
  unfold isB at h
  rw [Bool.and_eq_true] at h
  exact Option.isSome_iff_exists.1 h.2
theorem Live.of_now {n : Ky} {i : Nat} (h : getP M.now n = some i) : Live M i := .inl ⟨_, getP_mem h, rfl⟩
set_option maxRecDepth 100000 in
theorem FsRead_no (h : RelP k p M φ o K L w) (n : Ky) (hn : n.length ≤ 1000000) (hb : isB M n = false) : Calls Try.prog 29 #[.pointer (some ⟨p, 0, none⟩), .string ⟨n.toArray⟩] w fun e w' => e = .returned (.tuple #[.slice none 0 0, .bool false]) ∧ w = w' := by
  have CI := Lib.hid (is_any h n hn)
  rw [hb] at CI
  clear hb h
  go_enter Try.func29, Try.ntmps29
  go_wp2_with (first
    | (go_at_call 44; (with_reducible refine CI.out.mono ?_); rintro e w1 ⟨rfl, rfl⟩)
    | fail)
  go_ret2
  exact ⟨rfl, rfl⟩
set_option maxRecDepth 100000 in
theorem FsRead_yes (h : RelP k p M φ o K L w) (n : Ky) (hn : n.length ≤ 1000000) (hb : isB M n = true) {i : Nat} (hg : getP M.now n = some i) (hL : L ≤ 140737488355328) : Calls Try.prog 29 #[.pointer (some ⟨p, 0, none⟩), .string ⟨n.toArray⟩] w fun e w' => ∃ v, e = .returned (.tuple #[v, .bool true]) ∧ w'.ownsRow w.heap.size 5 1 v (M.fs i).b.length (bv (M.fs i).b) ∧ Below w.heap.size w w' := by
  have CI := Lib.hid (is_any h n hn)
  rw [hb] at CI
  obtain ⟨bn, bs, vw, vk, hh⟩ := h.head
  obtain ⟨⟨v, f1, _, f3, _⟩, f5⟩ := h.file i (Live.of_now hg)
  have y0 := hh.blk.cellv (i := 0) rfl
  have z0 := f1.cellv (i := 0) rfl
  obtain ⟨N, hN, _⟩ := hh.now
  have q := hN.look namesTy (zFileP w) (by unfold maxLen; omega) (idT_get hg)
  have HB := Lib.hid (Bytes.own f3)
  have HL := Lib.hid (show (M.fs i).b.length ≤ 140737488355328 by omega)
  obtain ⟨A, c, rfl⟩ := row_slC f3
  clear hb h hh f1 f3 f5 hN hg
  go_enter Try.func29, Try.ntmps29
  go_wp2_with (first
    | (go_at_call 44; (with_reducible refine CI.out.mono ?_); rintro e w1 ⟨rfl, rfl⟩)
    | (go_at_call 35; (with_reducible refine (CloneB_any _ _ _ HB.out HL.out).mono ?_); rintro e w2 ⟨v2, rfl, ho2, hb2⟩)
    | fail)
  go_ret2
  exact ⟨_, rfl, ho2, hb2⟩
end
end Go.Mun

-- FsDo
namespace Go.Mun
open Go Go.RowKit Go.Proofs Go.Maps

theorem as_made_made (v : Value) (w : World) : (Instr.typeAssert (.iface 95 v) 110 95 true).run Try.prog w = .ok (.tuple #[v, .bool true]) w := by kernel_rfl
theorem as_made_renamed (v : Value) (w : World) : (Instr.typeAssert (.iface 95 v) 110 122 true).run Try.prog w = .ok (.tuple #[.agg #[.string ⟨#[]⟩, .string ⟨#[]⟩], .bool false]) w := by kernel_rfl
theorem as_made_deleted (v : Value) (w : World) : (Instr.typeAssert (.iface 95 v) 110 124 true).run Try.prog w = .ok (.tuple #[.agg #[.string ⟨#[]⟩], .bool false]) w := by kernel_rfl
theorem as_renamed_made (v : Value) (w : World) : (Instr.typeAssert (.iface 122 v) 110 95 true).run Try.prog w = .ok (.tuple #[.agg #[.string ⟨#[]⟩, .pointer none], .bool false]) w := by kernel_rfl
theorem as_renamed_renamed (v : Value) (w : World) : (Instr.typeAssert (.iface 122 v) 110 122 true).run Try.prog w = .ok (.tuple #[v, .bool true]) w := by kernel_rfl
theorem as_renamed_deleted (v : Value) (w : World) : (Instr.typeAssert (.iface 122 v) 110 124 true).run Try.prog w = .ok (.tuple #[.agg #[.string ⟨#[]⟩], .bool false]) w := by kernel_rfl
theorem as_deleted_made (v : Value) (w : World) : (Instr.typeAssert (.iface 124 v) 110 95 true).run Try.prog w = .ok (.tuple #[.agg #[.string ⟨#[]⟩, .pointer none], .bool false]) w := by kernel_rfl
theorem as_deleted_renamed (v : Value) (w : World) : (Instr.typeAssert (.iface 124 v) 110 122 true).run Try.prog w = .ok (.tuple #[.agg #[.string ⟨#[]⟩, .string ⟨#[]⟩], .bool false]) w := by kernel_rfl
theorem as_deleted_deleted (v : Value) (w : World) : (Instr.typeAssert (.iface 124 v) 110 124 true).run Try.prog w = .ok (.tuple #[v, .bool true]) w := by kernel_rfl

theorem grown_via {w w2 w3 : World} {r : Option Nat} (hb : Below w.heap.size w w2) (hg : w2.grownBy w3 r) : w.grownBy w3 r :=
  ⟨hg.os.trans hb.os, hg.tape.trans hb.tape, hg.output.trans hb.output, Nat.le_trans hb.size hg.size, fun k hk hn => (hg.block k (Nat.lt_of_lt_of_le hk hb.size) hn).trans (hb.block k hk)⟩
theorem madeTy : AggTy Try.prog 95 2 := ⟨⟨_, Try.underlying95, rfl⟩, by kernel_rfl⟩
theorem renTy : AggTy Try.prog 122 2 := ⟨⟨_, Try.underlying122, rfl⟩, by kernel_rfl⟩
theorem delTy : AggTy Try.prog 124 1 := ⟨⟨_, Try.underlying124, rfl⟩, by kernel_rfl⟩
theorem zMade : (Try.prog.info? 95).bind (·.zero) = some (.agg #[.string ⟨#[]⟩, .pointer none]) := by kernel_rfl
theorem zRen : (Try.prog.info? 122).bind (·.zero) = some (.agg #[.string ⟨#[]⟩, .string ⟨#[]⟩]) := by kernel_rfl
theorem zDel : (Try.prog.info? 124).bind (·.zero) = some (.agg #[.string ⟨#[]⟩]) := by kernel_rfl
section
variable {φ : Nat → Nat} {P : PL Nat} {b N : Nat} {w : World}
set_option maxRecDepth 100000 in
theorem do_made (h : MapV w b (idT φ P) N) (hN : N ≤ 1000000000) (n : Ky) (i : Nat) (hn : n.length ≤ 1000000) :
    Calls Try.prog 55 #[.map (some b), chgV φ (.made n i)] w fun e w' => e = .returned (.tuple #[]) ∧ MapV w' b (idT φ (doC P (.made n i))) (N + 1) ∧ w.grownBy w' (some b) := by
  have hm : n.length ≤ maxLen := by unfold maxLen; omega
  have a1 := as_made_made (.agg #[.string ⟨n.toArray⟩, .pointer (some ⟨φ i, 0, none⟩)])
  have hT := madeTy
  have zM := zMade
  unfold chgV
  go_enter Try.func55, Try.ntmps55
  go_wp2_with (first
    | ((with_reducible refine gd_alloc ?_); refine wpList_alloc_blk rfl 95 rfl zM ?_; intro w1 hx1 hb1 hl1; have hM1 := h.ext hb1)
    | ((with_reducible refine gd_store ?_); refine wpList_store_all rfl 95 (.tmp 4) (.tmp 11) rfl #[.string ⟨n.toArray⟩, .pointer (some ⟨φ i, 0, none⟩)] hx1 hT rfl rfl rfl rfl ?_; intro w2 hx2 hg2; have hb2 := below_blk hb1 hb1.size hg2 (Nat.le_refl _); have hM2 := h.ext hb2; have y0 := hx2.cellv (i := 0) rfl; have y1 := hx2.cellv (i := 1) rfl)
    | (at_mapUpdate; refine wpList_put_map rfl (.tmp 12) (.tmp 14) (.tmp 16) _ _ rfl namesTy rfl hM2 (by unfold maxLen; omega) hm rfl rfl i ?_; intro w3 hM3 hg3)
    | fail)
  go_end0
  refine ⟨rfl, ?_, grown_via hb2 hg3⟩
  show MapV w3 b (idT φ (setP P n (some i))) (N + 1)
  rw [idT_set]
  exact hM3
set_option maxRecDepth 100000 in
theorem do_del (h : MapV w b (idT φ P) N) (n : Ky) (hn : n.length ≤ 1000000) :
    Calls Try.prog 55 #[.map (some b), chgV φ (.del n)] w fun e w' => e = .returned (.tuple #[]) ∧ MapV w' b (idT φ (doC P (.del n))) N ∧ w.grownBy w' (some b) := by
  have hm : n.length ≤ maxLen := by unfold maxLen; omega
  have a1 := as_deleted_made (.agg #[.string ⟨n.toArray⟩])
  have a2 := as_deleted_renamed (.agg #[.string ⟨n.toArray⟩])
  have a3 := as_deleted_deleted (.agg #[.string ⟨n.toArray⟩])
  have hT := delTy
  have zM := zDel
  unfold chgV
  go_enter Try.func55, Try.ntmps55
  go_wp2_with (first
    | ((with_reducible refine gd_alloc ?_); refine wpList_alloc_blk rfl 124 rfl zM ?_; intro w1 hx1 hb1 hl1; have hM1 := h.ext hb1)
    | ((with_reducible refine gd_store ?_); refine wpList_store_all rfl 124 (.tmp 7) (.tmp 33) rfl #[.string ⟨n.toArray⟩] hx1 hT rfl rfl rfl rfl ?_; intro w2 hx2 hg2; have hb2 := below_blk hb1 hb1.size hg2 (Nat.le_refl _); have hM2 := h.ext hb2; have y0 := hx2.cellv (i := 0) rfl)
    | (at_delete; refine wpList_del_map rfl (.tmp 34) (.tmp 36) _ _ rfl namesTy rfl hM2 hm rfl ?_; intro w3 hM3 hg3)
    | fail)
  go_end0
  refine ⟨rfl, ?_, grown_via hb2 hg3⟩
  show MapV w3 b (idT φ (setP P n none)) N
  rw [idT_del]
  exact hM3
set_option maxRecDepth 100000 in
theorem do_ren (h : MapV w b (idT φ P) N) (hN : N ≤ 1000000000) (n m : Ky) (i : Nat) (hn : n.length ≤ 1000000) (hm : m.length ≤ 1000000) (hg : getP P n = some i) :
    Calls Try.prog 55 #[.map (some b), chgV φ (.ren n m i)] w fun e w' => e = .returned (.tuple #[]) ∧ MapV w' b (idT φ (doC P (.ren n m i))) (N + 1) ∧ w.grownBy w' (some b) := by
  have hm1 : n.length ≤ maxLen := by unfold maxLen; omega
  have hm2 : m.length ≤ maxLen := by unfold maxLen; omega
  have a1 := as_renamed_made (.agg #[.string ⟨n.toArray⟩, .string ⟨m.toArray⟩])
  have a2 := as_renamed_renamed (.agg #[.string ⟨n.toArray⟩, .string ⟨m.toArray⟩])
  have hT := renTy
  have zM := zRen
  have HG := Lib.hid hg
  clear hg
  unfold chgV
  go_enter Try.func55, Try.ntmps55
  go_wp2_with (first
    | ((with_reducible refine gd_alloc ?_); refine wpList_alloc_blk rfl 122 rfl zM ?_; intro w1 hx1 hb1 hl1; have hM1 := h.ext hb1)
    | ((with_reducible refine gd_store ?_); refine wpList_store_all rfl 122 (.tmp 5) (.tmp 19) rfl #[.string ⟨n.toArray⟩, .string ⟨m.toArray⟩] hx1 hT rfl rfl rfl rfl ?_; intro w2 hx2 hg2; have hb2 := below_blk hb1 hb1.size hg2 (Nat.le_refl _); have hM2 := h.ext hb2; have y0 := hx2.cellv (i := 0) rfl; have y1 := hx2.cellv (i := 1) rfl; have q := hM2.look namesTy (zFileP w2) hm1 (idT_get HG.out))
    | (at_delete; refine wpList_del_map rfl (.tmp 24) (.tmp 26) _ _ rfl namesTy rfl hM2 hm1 rfl ?_; intro w3 hM3 hg3; have hs2 := hx2.lt; have hx3 := hx2.grown hg3 (by intro e; injection e with e; have := h.lt; omega); have y1' := hx3.cellv (i := 1) rfl; have hM3' : MapV w3 b (idT φ (setP P n none)) N := by rw [idT_del]; exact hM3)
    | (at_mapUpdate; refine wpList_put_map rfl (.tmp 27) (.tmp 29) (.tmp 30) _ _ rfl namesTy rfl hM3' (by unfold maxLen; omega) hm2 rfl rfl i ?_; intro w4 hM4 hg4)
    | fail)
  go_end0
  refine ⟨rfl, ?_, (grown_via hb2 hg3).trans hg4⟩
  show MapV w4 b (idT φ (setP (setP P n none) m (some i))) (N + 1)
  rw [idT_set]
  exact hM4
end
end Go.Mun

-- RowOne
namespace Go.Mun
open Go Go.RowKit

theorem foldl_fill (l : List Value) : ∀ (k : Nat) (Z : Array Value), k + l.length ≤ Z.size → ∀ j, ((l.zipIdx k).foldl (fun cs x => cs.setIfInBounds x.2 x.1) Z)[j]? = if k ≤ j ∧ j < k + l.length then l[j - k]? else Z[j]? := by
  induction l with
  | nil => intro k Z _ j; simp; omega
  | cons v l ih =>
    intro k Z hz j
    simp only [List.length_cons] at hz ⊢
    simp only [List.zipIdx_cons, List.foldl_cons]
    rw [ih (k + 1) _ (by simp; omega) j]
    by_cases h1 : k + 1 ≤ j ∧ j < k + 1 + l.length
    · rw [if_pos h1, if_pos (by omega), show j - k = (j - (k + 1)) + 1 from by omega]
      rfl
    · rw [if_neg h1, Array.getElem?_setIfInBounds]
      by_cases h2 : k = j
      · subst h2
        rw [if_pos rfl, if_pos (by omega), if_pos (by omega), Nat.sub_self]
        rfl
      · rw [if_neg h2, if_neg (by omega)]
theorem fold_fill (Z cs : Array Value) (h : Z.size = cs.size) : cs.zipIdx.foldl (fun cs x => cs.setIfInBounds (0 + x.2) x.1) Z = cs := by
  rw [← Array.foldl_toList]
  simp only [Nat.zero_add, Array.toList_zipIdx]
  apply Array.ext_getElem?
  intro j
  rw [foldl_fill cs.toList 0 Z (by simp [h]) j]
  by_cases hj : j < cs.size
  · rw [if_pos (by simpa using hj)]; simp
  · rw [if_neg (by simpa using hj), Array.getElem?_eq_none (by omega), Array.getElem?_eq_none (by omega)]

theorem run_row_one {P : Program} {t e : TypeId} {z : Value} {size bytes : Nat} (hT : SliceTy P t e z size bytes) (hs : size ≤ 16777216) (v : Value) (hv : v.cells.size = size) (w : World) :
    (Instr.buildSlice t 1 #[(0, v)]).run P w = .ok (.slice (some ⟨w.heap.size, 0, none⟩) 1 1) (w.alloc (.cells v.cells e)) := by
  obtain ⟨ht, i, hi, hz, hsz, hby, hzs, h0⟩ := hT
  have h1 : ¬ (1 * size > 2 ^ 24) := by omega
  have h2 : ¬ (1 * size = 0) := by omega
  have hf : Instr.fill (fun k => some (k * size, size)) ((Array.range (1 * size)).map (fun k => z.cells[k % z.cells.size]!)) [(0, v)] = some v.cells := by
    simp only [Instr.fill]
    rw [if_neg (by simp [hv])]
    congr 1
    simp only [Nat.zero_mul]
    exact fold_fill _ _ (by simp [hv])
  have h3 : size ≠ 0 := by omega
  have h4 : ¬ (16777216 < size) := by omega
  simp only [Nat.one_mul] at hf
  simp [Instr.buildSlice, run_underlying ht, sizeOf, typeInfo, hi, hsz, hz, zeroValue, h3, h4, newRow]
  rw [hf]
  rfl

/-- '[]T{x}' at an operation -/
theorem wpList_row_one {P : Program} {ops : Array Oper} {rest : List Oper} {o : Oper} {a : Act} {w : World} {Q : Exit → Act → World → Prop} (hgd : o.guard = none) {t e : TypeId} (x : Operand) (ho : o.op = .buildSlice t 1 #[(0, x)])
    {z : Value} {size bytes : Nat} (hT : SliceTy P t e z size bytes) (hs : size ≤ 16777216) {cs : Array Value} (hx : a.eval x = .agg cs) (hc : cs.size = size)
    (h : ∀ w', Blk w' w.heap.size e cs → Below w.heap.size w w' → w.heap.size < w'.heap.size → wpList P ops Q rest (a.put o.dst (.slice (some ⟨w.heap.size, 0, none⟩) 1 1)) w') : wpList P ops Q (o :: rest) a w := by
  refine wpList_plain hgd fun _ hK => ?_
  have hr := run_row_one hT hs (.agg cs) hc w
  unfold Oper.wp execOp
  simp only [ho, List.map_toArray, List.map_cons, List.map_nil, hx, Sem.run_bind, hr, Result.andThen_ok, Sem.run_pure]
  exact hK _ _ (h _ (Blk.new w e _) ((Below.refl _ _).alloc (Nat.le_refl _) _) (by simp))

/-- the same, whatever the element -/
theorem wpList_row_val {P : Program} {ops : Array Oper} {rest : List Oper} {o : Oper} {a : Act} {w : World} {Q : Exit → Act → World → Prop} (hgd : o.guard = none) {t e : TypeId} (x : Operand) (ho : o.op = .buildSlice t 1 #[(0, x)])
    {z : Value} {size bytes : Nat} (hT : SliceTy P t e z size bytes) (hs : size ≤ 16777216) {v : Value} (hx : a.eval x = v) (hc : v.cells.size = size)
    (h : ∀ w', Blk w' w.heap.size e v.cells → Below w.heap.size w w' → w.heap.size < w'.heap.size → wpList P ops Q rest (a.put o.dst (.slice (some ⟨w.heap.size, 0, none⟩) 1 1)) w') : wpList P ops Q (o :: rest) a w := by
  refine wpList_plain hgd fun _ hK => ?_
  have hr := run_row_one hT hs v hc w
  unfold Oper.wp execOp
  simp only [ho, List.map_toArray, List.map_cons, List.map_nil, hx, Sem.run_bind, hr, Result.andThen_ok, Sem.run_pure]
  exact hK _ _ (h _ (Blk.new w e _) ((Below.refl _ _).alloc (Nat.le_refl _) _) (by simp))

/-- '[]T{x, y}' of elements of one cell -/
theorem run_row_two {P : Program} {t e : TypeId} {z : Value} {bytes : Nat} (hT : SliceTy P t e z 1 bytes) (x y : Value) (hx : x.cells = #[x]) (hy : y.cells = #[y]) (w : World) :
    (Instr.buildSlice t 2 #[(0, x), (1, y)]).run P w = .ok (.slice (some ⟨w.heap.size, 0, none⟩) 2 2) (w.alloc (.cells #[x, y] e)) := by
  obtain ⟨ht, i, hi, hz, hsz, hby, hzs, h0⟩ := hT
  have hf : Instr.fill (fun k => some (k * 1, 1)) ((Array.range 2).map (fun k => z.cells[k % z.cells.size]!)) [(0, x), (1, y)] = some #[x, y] := by
    simp [Instr.fill, hx, hy, Array.range]
    apply Array.ext_getElem?
    intro j
    match j with
    | 0 => simp
    | 1 => simp
    | j + 2 => simp
  simp [Instr.buildSlice, run_underlying ht, sizeOf, typeInfo, hi, hsz, hz, zeroValue, newRow]
  simp only [Nat.mul_one] at hf
  rw [hf]
  rfl
theorem wpList_row_two {P : Program} {ops : Array Oper} {rest : List Oper} {o : Oper} {a : Act} {w : World} {Q : Exit → Act → World → Prop} (hgd : o.guard = none) {t e : TypeId} (x y : Operand) (ho : o.op = .buildSlice t 2 #[(0, x), (1, y)])
    {z : Value} {bytes : Nat} (hT : SliceTy P t e z 1 bytes) (_hs : 1 ≤ 16777216) {v u : Value} (hx : a.eval x = v) (hy : a.eval y = u) (hv : v.cells = #[v]) (hu : u.cells = #[u])
    (h : ∀ w', Blk w' w.heap.size e #[v, u] → Below w.heap.size w w' → w.heap.size < w'.heap.size → wpList P ops Q rest (a.put o.dst (.slice (some ⟨w.heap.size, 0, none⟩) 2 2)) w') : wpList P ops Q (o :: rest) a w := by
  refine wpList_plain hgd fun _ hK => ?_
  have hr := run_row_two hT v u hv hu w
  unfold Oper.wp execOp
  simp only [ho, List.map_toArray, List.map_cons, List.map_nil, hx, hy, Sem.run_bind, hr, Result.andThen_ok, Sem.run_pure]
  exact hK _ _ (h _ (Blk.new w e _) ((Below.refl _ _).alloc (Nat.le_refl _) _) (by simp))
end Go.Mun

-- FsWait
namespace Go.Mun
open Go Go.RowKit Go.Proofs Go.Maps

/-- a block that a step did not write: whose it is says so -/
theorem same_of {o : Own} {k : Nat} {w w' : World} {r : Option Nat} {b : Nat} {t t' : Tag} (hg : w.grownBy w' r) (hb : b < w.heap.size) (e : o b = some (k, t)) (hr : ∀ g, r = some g → o g = some (k, t')) (ht : t ≠ t') : w'.heap[b]? = w.heap[b]? :=
  hg.block b hb fun e' => by
    have := hr b e'.symm
    rw [e] at this
    injection this with this
    injection this with _ this
    exact ht this
theorem one_some {g : Nat} {P : Nat → Prop} (h : P g) : ∀ x, some g = some x → P x := fun x e => by injection e with e; subst e; exact h
section
variable {φ : Nat → Nat} {P : PL Nat} {b N : Nat} {w : World}
theorem do_any (h : MapV w b (idT φ P) N) (hN : N ≤ 1000000000) (c : Chg) (hc : ChgOk P c) :
    Calls Try.prog 55 #[.map (some b), chgV φ c] w fun e w' => e = .returned (.tuple #[]) ∧ (∃ N', MapV w' b (idT φ (doC P c)) N' ∧ N' ≤ N + 1) ∧ w.grownBy w' (some b) := by
  cases c with
  | made n i => exact (do_made h hN n i (by have := hc.1.2; omega)).mono fun e w' ⟨h1, h2, h3⟩ => ⟨h1, ⟨_, h2, Nat.le_refl _⟩, h3⟩
  | ren n m i => exact (do_ren h hN n m i (by have := hc.1.2; omega) (by have := hc.2.1.2; omega) hc.2.2.2).mono fun e w' ⟨h1, h2, h3⟩ => ⟨h1, ⟨_, h2, Nat.le_refl _⟩, h3⟩
  | del n => exact (do_del h n (by have := hc.2; omega)).mono fun e w' ⟨h1, h2, h3⟩ => ⟨h1, ⟨_, h2, by omega⟩, h3⟩
end
/-- a guard: a row is built -/
theorem gd_rowC {P : Program} {ops : Array Oper} {Q : Exit → Act → World → Prop} {d : Option Tmp} {t : TypeId} {n : Nat} {parts : Array (Nat × Operand)} {ty : TypeId} {p : String} {af : Array Edge} {g : Option (Nat × Bool)} {rest : List Oper} {a : Act} {w : World}
    (h : wpList P ops Q (⟨d, .buildSlice t n parts, ty, p, af, g⟩ :: rest) a w) : wpList P ops Q (⟨d, .buildSlice t n parts, ty, p, af, g⟩ :: rest) a w := h
theorem chgsTy : SliceTy Try.prog 66 110 .nilIface 1 16 := SliceTy.mk' Try.underlying66 (by kernel_rfl) rfl (by decide)
theorem chgV_cells (φ : Nat → Nat) (c : Chg) : (chgV φ c).cells = #[chgV φ c] := by cases c <;> rfl
theorem live_wait {M : FSs} {c : Chg} {i : Nat} (hc : ChgOk M.now c) (h : Live (waitM M c) i) : Live M i ∨ ∃ n, c = .made n i := by
  rcases h with ⟨p, hp, e⟩ | h | ⟨n, hn⟩
  · cases c with
    | made n j =>
      rcases mem_made (P := M.now) hp with hp | ⟨_, hp⟩
      · exact .inl (.inl ⟨p, hp, e⟩)
      · exact .inr ⟨n, by rw [← e, hp]⟩
    | ren a b j =>
      rcases mem_ren (P := M.now) hp with hp | ⟨_, hp⟩
      · exact .inl (.inl ⟨p, hp, e⟩)
      · exact .inl (.inl ⟨_, getP_mem hc.2.2.2, by rw [← e, hp]⟩)
    | del a => exact .inl (.inl ⟨p, mem_del (P := M.now) hp, e⟩)
  · exact .inl (.inr (.inl h))
  · rcases List.mem_append.1 hn with hn | hn
    · exact .inl (.inr (.inr ⟨n, hn⟩))
    · exact .inr ⟨n, (List.mem_singleton.1 hn).symm⟩
section
variable {k p : Nat} {M : FSs} {φ : Nat → Nat} {o : Own} {K L : Nat} {w : World}
set_option maxRecDepth 100000 in
set_option maxHeartbeats 1000000 in
theorem wait_any (h : RelP k p M φ o K L w) (c : Chg) (hc : ChgOk M.now c) (hf : ∀ n i, c = .made n i → i < M.next ∧ FileAt k φ o w i (M.fs i) ∧ (M.fs i).b.length ≤ L) (hK : K ≤ 1000000000) :
    Calls Try.prog 43 #[.pointer (some ⟨p, 0, none⟩), chgV φ c] w fun e w' => e = .returned (.tuple #[]) ∧ ∃ o', RelP k p (waitM M c) φ o' (K + 1) L w' ∧ Turn k o o' w w' := by
  obtain ⟨bn, bs, vw, vk, hh⟩ := h.head
  obtain ⟨N, hN, hNK⟩ := hh.now
  have CD := Lib.hid (do_any hN (by omega) c hc)
  have hcc := chgV_cells φ c
  have hco := chgV_one φ c
  obtain ⟨cv, hcv⟩ : ∃ v, v = chgV φ c := ⟨_, rfl⟩
  rw [← hcv] at CD hcc hco ⊢
  have HCV := Lib.hid hcv
  have HCC := Lib.hid hcc
  have HCO := Lib.hid hco
  have hx := hh.blk
  have y0 := hx.cellv (i := 0) rfl
  have H := Lib.hid hh
  have HR := Lib.hid h
  have hT := chgsTy
  have hwl := h.wl
  have hpl := h.own.lt hh.op
  clear hcv hcc hco hN hh h
  go_enter Try.func43, Try.ntmps43
  go_upto_region 1 with (first
    | (go_at_call 55; (with_reducible refine CD.out.mono ?_); rintro e w1 ⟨rfl, hD1, hg1⟩; have hx1 := hx.same (same_of hg1 hpl H.out.op (one_some H.out.on) (by simp)); have y2 := hx1.cellv (i := 2) rfl)
    | fail)
  have ho1 := own_same H.out.waits fun g hg => same_of hg1 (HR.out.own.lt (H.out.ow g hg)) (H.out.ow g hg) (one_some H.out.on) (by simp)
  go_wp2_with (first
    | ((with_reducible refine gd_rowC ?_); refine wpList_row_val (v := cv) rfl (.tmp 15) rfl hT (by decide) rfl (by rw [HCC.out]; rfl) ?_; intro w2 hx2 hb2 hl2; rw [HCC.out] at hx2; have ho2 := own_ext ho1 hb2)
    | (at_builtin; refine wpList_append_rd _ rfl (.tmp 14) (.tmp 16) _ rfl 0 _ _ 1 16 hT _ _ _ rfl ho2 (some ⟨w1.heap.size, 0, none⟩) 1 1 [cv] rfl rfl hx2.rd (by intro u hu; rw [List.mem_singleton.1 hu]; exact HCO.out) (by unfold maxLen; omega) (by omega) (Nat.zero_le _) ?_; intro v3 w3 ho3 hg3 hat3; have hx3 := (hx1.ext hb2).grown hg3 (by intro e; have := H.out.ow p e.symm; rw [H.out.op] at this; cases this))
    | ((with_reducible refine gd_store ?_); refine wpList_store_cell rfl 66 (.tmp 19) (.tmp 17) rfl (i := 2) (v := v3) hx3 (show 2 < 8 by decide) (by kernel_rfl) (own_one ho3) rfl rfl ?_; intro w4 hx4 hg4)
    | fail)
  go_end0
  have ho := HR.out.own
  have s1 := hg1.size
  have s2 := hb2.size
  have s3 := hg3.size
  have s4 := hg4.size
  have T4 : Turn k o o w w4 := ((((Turn.wrote ho hg1 H.out.on).trans (Turn.below (ho.more s1) hb2)).trans (Turn.row (ho.more (by omega)) hg3 H.out.ow)).trans (Turn.wrote (ho.more (by omega)) hg4 H.out.op))
  -- from w1 on: what is neither the waiting row nor the head
  have st1 : ∀ {b t}, o b = some (k, t) → t ≠ .waits → t ≠ .fs → w4.heap[b]? = w1.heap[b]? := fun {b t} e n1 n2 => by
    have hb := ho.lt e
    rw [same_of hg4 (by omega) e (one_some H.out.op) n2, same_of hg3 (by omega) e H.out.ow n1, hb2.block b (by omega)]
  have st : ∀ {b t}, o b = some (k, t) → t ≠ .now → t ≠ .waits → t ≠ .fs → w4.heap[b]? = w.heap[b]? := fun {b t} e n0 n1 n2 => by
    rw [st1 e n1 n2, same_of hg1 (ho.lt e) e (one_some H.out.on) n0]
  have hv3 : w4.ownsRow 0 110 1 v3 (M.waits.length + 1) (M.waits.map (chgV φ) ++ [cv]) := own_same ho3 fun g hg => hg4.block g (ho3.lt g hg).2 fun e => by
    injection e with e
    subst e
    rcases hat3 with h3 | h3
    · have := H.out.ow g (h3 ▸ hg)
      rw [H.out.op] at this
      cases this
    · rw [h3] at hg
      injection hg with hg
      omega
  obtain ⟨o', q1, q2, q3, q4⟩ : ∃ o' : Own, (∀ b, b < w.heap.size → o' b = o b) ∧ OwnIn o' w4 ∧ (∀ g, v3.ownBlock = some g → o' g = some (k, .waits)) ∧ Turn k o o' w w4 := by
    rcases hat3 with h3 | h3
    · exact ⟨o, fun _ _ => rfl, ho.more T4.size, fun g hg => H.out.ow g (h3 ▸ hg), T4⟩
    · have hlt : w2.heap.size < w3.heap.size := (ho3.lt _ h3).2
      refine ⟨give o w2.heap.size (k, .waits), fun b hb => give_ne (by omega), (ho.more T4.size).give (by omega) _, fun g hg => ?_, T4.give (by omega) _⟩
      rw [h3] at hg
      injection hg with hg
      subst hg
      exact give_same _ _ _
  have ex : ∀ {b x}, o b = some x → o' b = some x := fun e => by rw [q1 _ (ho.lt e)]; exact e
  have hchg : (waitM M c).waits.map (chgV φ) = M.waits.map (chgV φ) ++ [cv] := by
    show (M.waits ++ [c]).map (chgV φ) = _
    rw [List.map_append, HCV.out]
    rfl
  have hlen : (waitM M c).waits.length = M.waits.length + 1 := by show (M.waits ++ [c]).length = _; simp
  refine ⟨rfl, o', ⟨HR.out.fine.wait hc fun n i e => (hf n i e).1, q2, ⟨bn, bs, v3, vk, ⟨hx4, ex H.out.op, ex H.out.on, ex H.out.os, ?_, ?_, ?_, q3, ?_, fun g hg => ex (H.out.ok g hg)⟩⟩, fun i hi => ?_, ⟨HR.out.ops.1, by have := HR.out.ops.2; show M.ops ≤ ((K + 1 : Nat) : Int); omega⟩, HR.out.cut, HR.out.opb, by rw [hlen]; omega⟩, q4⟩
  · obtain ⟨N', h1, h2⟩ := hD1
    exact ⟨N', h1.same (st1 H.out.on (by simp) (by simp)), by omega⟩
  · obtain ⟨N', h1, h2⟩ := H.out.syn
    exact ⟨N', h1.same (st H.out.os (by simp) (by simp) (by simp)), by rw [hlen]; omega⟩
  · rw [hchg, hlen]
    exact hv3
  · exact own_same H.out.keep fun g hg => st (H.out.ok g hg) (by simp) (by simp) (by simp)
  · have hF : FileAt k φ o w i (M.fs i) ∧ (M.fs i).b.length ≤ L := by
      rcases live_wait hc hi with h1 | ⟨n, e⟩
      · exact HR.out.file i h1
      · exact (hf n i e).2
    obtain ⟨⟨v, f1, f2, f3, f4⟩, f5⟩ := hF
    exact ⟨⟨v, f1.same (st f2 (by simp) (by simp) (by simp)), ex f2, own_same f3 fun g hg => st (f4 g hg) (by simp) (by simp) (by simp), fun g hg => ex (f4 g hg)⟩, f5⟩
end
end Go.Mun

-- IterE
namespace Go.Proofs
open Go.RowKit Go.Maps Go.Sort Go.Shelf
def Try.keys52_ren : Go.Shelf.Ren := ⟨fun | 7 => 52 | 10 => 69 | n => n, fun | 23 => 65 | 26 => 9 | 3 => 89 | 28 => 106 | 0 => 0 | 27 => 105 | 33 => 90 | 4 => 4 | n => n, fun | n => n⟩
theorem Try.keys52 : Go.Proofs.SlLaysZ.n7 Try.prog Try.keys52_ren := {
  mixed := by kernel_rfl
  f7 := ⟨Try.f52.name, by decide, Try.func52.trans (congrArg some (by kernel_rfl))⟩
  f10 := ⟨Try.f69.name, by decide, Try.func69.trans (congrArg some (by kernel_rfl))⟩
  t0 := Try.underlying0
  a0 := Try.isAgg0
  z0 := Try.sizeOf0
  v0 := Try.zeroValue0
  t4 := Try.underlying4
  a4 := Try.isAgg4
  z4 := Try.sizeOf4
  v4 := Try.zeroValue4
  t23 := Try.underlying65
  a23 := Try.isAgg65
  z23 := Try.sizeOf65
  v23 := Try.zeroValue65
  t26 := Try.underlying9
  a26 := Try.isAgg9
  z26 := Try.sizeOf9
  v26 := Try.zeroValue9
  t27 := Try.underlying105
  a27 := Try.isAgg105
  z27 := Try.sizeOf105
  v27 := Try.zeroValue105
  t28 := Try.underlying106
  a28 := Try.isAgg106
  z28 := Try.sizeOf106
  v28 := Try.zeroValue106
  t33 := Try.underlying90
  a33 := Try.isAgg90
  z33 := Try.sizeOf90
  v33 := Try.zeroValue90 }
def Try.keys54_ren : Go.Shelf.Ren := ⟨fun | 7 => 54 | 10 => 72 | n => n, fun | 23 => 69 | 26 => 9 | 3 => 22 | 28 => 106 | 0 => 0 | 27 => 105 | 33 => 90 | 4 => 4 | n => n, fun | n => n⟩
theorem Try.keys54 : Go.Proofs.SlLaysZ.n7 Try.prog Try.keys54_ren := {
  mixed := by kernel_rfl
  f7 := ⟨Try.f54.name, by decide, Try.func54.trans (congrArg some (by kernel_rfl))⟩
  f10 := ⟨Try.f72.name, by decide, Try.func72.trans (congrArg some (by kernel_rfl))⟩
  t0 := Try.underlying0
  a0 := Try.isAgg0
  z0 := Try.sizeOf0
  v0 := Try.zeroValue0
  t4 := Try.underlying4
  a4 := Try.isAgg4
  z4 := Try.sizeOf4
  v4 := Try.zeroValue4
  t23 := Try.underlying69
  a23 := Try.isAgg69
  z23 := Try.sizeOf69
  v23 := Try.zeroValue69
  t26 := Try.underlying9
  a26 := Try.isAgg9
  z26 := Try.sizeOf9
  v26 := Try.zeroValue9
  t27 := Try.underlying105
  a27 := Try.isAgg105
  z27 := Try.sizeOf105
  v27 := Try.zeroValue105
  t28 := Try.underlying106
  a28 := Try.isAgg106
  z28 := Try.sizeOf106
  v28 := Try.zeroValue106
  t33 := Try.underlying90
  a33 := Try.isAgg90
  z33 := Try.sizeOf90
  v33 := Try.zeroValue90 }
def Try.sorted51_ren : Go.Shelf.Ren := ⟨fun | 6 => 51 | 8 => 67 | 9 => 68 | 11 => 74 | 13 => 76 | 12 => 75 | 23 => 87 | 24 => 88 | 14 => 78 | 15 => 79 | 16 => 80 | 17 => 81 | 18 => 82 | 19 => 83 | 20 => 84 | 21 => 85 | 22 => 86 | 25 => 89 | 26 => 90 | 27 => 91 | 28 => 92 | 29 => 93 | 30 => 94 | 31 => 95 | n => n, fun | 26 => 9 | 28 => 106 | 24 => 82 | 0 => 0 | 3 => 3 | 37 => 126 | 48 => 125 | 50 => 145 | 4 => 4 | 40 => 137 | 39 => 136 | 45 => 141 | 5 => 5 | 9 => 9 | 51 => 146 | 55 => 150 | 57 => 152 | 58 => 153 | 33 => 90 | n => n, fun | n => n⟩
theorem Try.sorted51 : Go.Proofs.SlLaysZ.n6 Try.prog Try.sorted51_ren := {
  mixed := by kernel_rfl
  f6 := ⟨Try.f51.name, by decide, Try.func51.trans (congrArg some (by kernel_rfl))⟩
  f8 := ⟨Try.f67.name, by decide, Try.func67.trans (congrArg some (by kernel_rfl))⟩
  f11 := ⟨Try.f74.name, by decide, Try.func74.trans (congrArg some (by kernel_rfl))⟩
  t0 := Try.underlying0
  a0 := Try.isAgg0
  z0 := Try.sizeOf0
  v0 := Try.zeroValue0
  t24 := Try.underlying82
  a24 := Try.isAgg82
  z24 := Try.sizeOf82
  v24 := Try.zeroValue82
  t26 := Try.underlying9
  a26 := Try.isAgg9
  z26 := Try.sizeOf9
  v26 := Try.zeroValue9
  t28 := Try.underlying106
  a28 := Try.isAgg106
  z28 := Try.sizeOf106
  v28 := Try.zeroValue106
  i26 := by kernel_rfl }
def Try.sort68_ren : Go.Shelf.Ren := ⟨fun | 6 => 68 | 8 => 76 | 9 => 75 | 19 => 87 | 20 => 88 | 21 => 78 | 22 => 79 | 23 => 80 | 24 => 81 | 25 => 82 | 26 => 83 | 27 => 84 | 28 => 85 | 29 => 86 | 36 => 89 | 31 => 90 | 32 => 91 | 37 => 92 | 38 => 93 | 39 => 94 | 41 => 95 | n => n, fun | 27 => 82 | 29 => 9 | 3 => 3 | 32 => 126 | 26 => 82 | 0 => 0 | 44 => 125 | 46 => 145 | 4 => 4 | 36 => 137 | 35 => 136 | 41 => 141 | 5 => 5 | 9 => 9 | 53 => 146 | 57 => 150 | 63 => 152 | 64 => 153 | n => n, fun | n => n⟩
theorem Try.sort68 : Go.Proofs.SlLaysM.n6 Try.prog Try.sort68_ren := {
  mixed := by kernel_rfl
  f6 := ⟨Try.f68.name, by decide, Try.func68.trans (congrArg some (by kernel_rfl))⟩
  f8 := Try.func76.trans (congrArg some (by kernel_rfl))
  f9 := ⟨Try.f75.name, by decide, Try.func75.trans (congrArg some (by kernel_rfl))⟩
  f19 := Try.func87.trans (congrArg some (by kernel_rfl))
  f20 := Try.func88.trans (congrArg some (by kernel_rfl))
  f21 := ⟨Try.f78.name, by decide, Try.func78.trans (congrArg some (by kernel_rfl))⟩
  f22 := ⟨Try.f79.name, by decide, Try.func79.trans (congrArg some (by kernel_rfl))⟩
  f23 := ⟨Try.f80.name, by decide, Try.func80.trans (congrArg some (by kernel_rfl))⟩
  f24 := ⟨Try.f81.name, by decide, Try.func81.trans (congrArg some (by kernel_rfl))⟩
  f25 := ⟨Try.f82.name, by decide, Try.func82.trans (congrArg some (by kernel_rfl))⟩
  f26 := ⟨Try.f83.name, by decide, Try.func83.trans (congrArg some (by kernel_rfl))⟩
  f27 := ⟨Try.f84.name, by decide, Try.func84.trans (congrArg some (by kernel_rfl))⟩
  f28 := ⟨Try.f85.name, by decide, Try.func85.trans (congrArg some (by kernel_rfl))⟩
  f29 := ⟨Try.f86.name, by decide, Try.func86.trans (congrArg some (by kernel_rfl))⟩
  f31 := Try.func90.trans (congrArg some (by kernel_rfl))
  f32 := Try.func91.trans (congrArg some (by kernel_rfl))
  f36 := ⟨Try.f89.name, by decide, Try.func89.trans (congrArg some (by kernel_rfl))⟩
  f37 := ⟨Try.f92.name, by decide, Try.func92.trans (congrArg some (by kernel_rfl))⟩
  f38 := ⟨Try.f93.name, by decide, Try.func93.trans (congrArg some (by kernel_rfl))⟩
  f39 := ⟨Try.f94.name, by decide, Try.func94.trans (congrArg some (by kernel_rfl))⟩
  f41 := ⟨Try.f95.name, by decide, Try.func95.trans (congrArg some (by kernel_rfl))⟩
  t0 := Try.underlying0
  a0 := Try.isAgg0
  z0 := Try.sizeOf0
  v0 := Try.zeroValue0
  t3 := Try.underlying3
  a3 := Try.isAgg3
  z3 := Try.sizeOf3
  v3 := Try.zeroValue3
  t4 := Try.underlying4
  a4 := Try.isAgg4
  z4 := Try.sizeOf4
  v4 := Try.zeroValue4
  t5 := Try.underlying5
  a5 := Try.isAgg5
  z5 := Try.sizeOf5
  v5 := Try.zeroValue5
  t9 := Try.underlying9
  a9 := Try.isAgg9
  z9 := Try.sizeOf9
  v9 := Try.zeroValue9
  t26 := Try.underlying82
  a26 := Try.isAgg82
  z26 := Try.sizeOf82
  v26 := Try.zeroValue82
  t27 := Try.underlying82
  a27 := Try.isAgg82
  z27 := Try.sizeOf82
  v27 := Try.zeroValue82
  t29 := Try.underlying9
  a29 := Try.isAgg9
  z29 := Try.sizeOf9
  v29 := Try.zeroValue9
  t32 := Try.underlying126
  a32 := Try.isAgg126
  z32 := Try.sizeOf126
  v32 := Try.zeroValue126
  t35 := Try.underlying136
  a35 := Try.isAgg136
  z35 := Try.sizeOf136
  v35 := Try.zeroValue136
  t36 := Try.underlying137
  a36 := Try.isAgg137
  z36 := Try.sizeOf137
  v36 := Try.zeroValue137
  t41 := Try.underlying141
  a41 := Try.isAgg141
  z41 := Try.sizeOf141
  v41 := Try.zeroValue141
  t44 := Try.underlying125
  a44 := Try.isAgg125
  z44 := Try.sizeOf125
  v44 := Try.zeroValue125
  t46 := Try.underlying145
  a46 := Try.isAgg145
  z46 := Try.sizeOf145
  v46 := Try.zeroValue145
  t53 := Try.underlying146
  a53 := Try.isAgg146
  z53 := Try.sizeOf146
  v53 := Try.zeroValue146
  t57 := Try.underlying150
  a57 := Try.isAgg150
  z57 := Try.sizeOf150
  v57 := Try.zeroValue150
  t63 := Try.underlying152
  a63 := Try.isAgg152
  z63 := Try.sizeOf152
  v63 := Try.zeroValue152
  t64 := Try.underlying153
  a64 := Try.isAgg153
  z64 := Try.sizeOf153
  v64 := Try.zeroValue153 }
def Try.clone50_ren : Go.Shelf.Ren := ⟨fun | 5 => 50 | 7 => 66 | n => n, fun | 23 => 69 | 25 => 9 | 3 => 22 | 4 => 4 | 20 => 20 | n => n, fun | n => n⟩
theorem Try.clone50 : Go.Proofs.SlLaysW.n5 Try.prog Try.clone50_ren := {
  mixed := by kernel_rfl
  f5 := ⟨Try.f50.name, by decide, Try.func50.trans (congrArg some (by kernel_rfl))⟩
  f7 := Try.func66.trans (congrArg some (by kernel_rfl))
  t4 := Try.underlying4
  a4 := Try.isAgg4
  z4 := Try.sizeOf4
  v4 := Try.zeroValue4
  t20 := Try.underlying20
  a20 := Try.isAgg20
  z20 := Try.sizeOf20
  v20 := Try.zeroValue20
  t23 := Try.underlying69
  a23 := Try.isAgg69
  z23 := Try.sizeOf69
  v23 := Try.zeroValue69 }
def Try.clone56_ren : Go.Shelf.Ren := ⟨fun | 5 => 56 | 7 => 66 | n => n, fun | 23 => 65 | 25 => 9 | 3 => 89 | 4 => 4 | 20 => 20 | n => n, fun | n => n⟩
theorem Try.clone56 : Go.Proofs.SlLaysW.n5 Try.prog Try.clone56_ren := {
  mixed := by kernel_rfl
  f5 := ⟨Try.f56.name, by decide, Try.func56.trans (congrArg some (by kernel_rfl))⟩
  f7 := Try.func66.trans (congrArg some (by kernel_rfl))
  t4 := Try.underlying4
  a4 := Try.isAgg4
  z4 := Try.sizeOf4
  v4 := Try.zeroValue4
  t20 := Try.underlying20
  a20 := Try.isAgg20
  z20 := Try.sizeOf20
  v20 := Try.zeroValue20
  t23 := Try.underlying65
  a23 := Try.isAgg65
  z23 := Try.sizeOf65
  v23 := Try.zeroValue65 }
set_option maxHeartbeats 1000000 in
theorem Try.sorts51 (m : Nat) : AnyZ.SortsIn Try.prog Try.sorted51_ren Fence.wide m :=
  ⟨fun blk off cap ss W hH hblk hsz => callsIn_wide.2 (AnyM.slices_Sort_string Try.sort68 blk off cap ss W hH hblk hsz),
   fun p cap W => callsIn_wide.2 (AnyM.slices_Sort_string_none Try.sort68 p cap W)⟩
set_option maxHeartbeats 1000000 in
theorem Try.maps_Keys_52 (mb : Option Nat) (W : World) : CallsIn Fence.wide 5 Try.prog 52 #[.map mb] W fun e w' => e = .returned (.func (.func 69) #[] #[.pointer (some ⟨W.heap.size, 0, none⟩)]) ∧ w' = W.alloc (.cells #[.map mb] 65) :=
  AnyZ.keys_in Try.keys52 Fence.wide 5 trivial rfl mb W
set_option maxHeartbeats 1000000 in
theorem Try.slices_Sorted_keys_51_52 {H : Type} (b nn : Nat) (D0 : DataW H) (R : Value → Option (DataW H × List MemPlace)) (w : World) (hown : w.ownsMap Try.prog 9 R b nn D0) (hmax : Maps.size D0 ≤ maxLen) (hbytes : Maps.size D0 * 16 ≤ 140737488355328) :
    CallsIn Fence.wide 5 Try.prog 51 #[.func (.func 69) #[] #[.pointer (some ⟨w.heap.size, 0, none⟩)]] (w.alloc (.cells #[.map (some b)] 65)) fun e w' => ∃ (v : Value) (ss : List (List UInt8)), e = .returned v ∧ ss.Perm (strKeys D0) ∧
      w'.ownsRow (w.alloc (.cells #[.map (some b)] 65)).heap.size 9 1 v ss.length ((ss.mergeSort (fun x y => decide (x ≤ y))).map encStr) ∧ (v = .slice none 0 0 ↔ ss = []) ∧ Below (w.alloc (.cells #[.map (some b)] 65)).heap.size (w.alloc (.cells #[.map (some b)] 65)) w' := by
  have hbl := hown.lt
  have hseq : SeqGives Fence.wide 2 Try.prog 69 #[.pointer (some ⟨w.heap.size, 0, none⟩)] encStr (fun ss => ss.Perm (strKeys D0)) (Maps.size D0) (w.alloc (.cells #[.map (some b)] 65)) :=
    AnyZ.keys_gives (ρ := Try.keys52_ren) { Try.keys52 with } Fence.wide _ trivial rfl (by omega) w.heap.size b nn D0 _ (by simp) (by simp) (by
      obtain ⟨es, clock, hb, Ft, hs, hD⟩ := hown
      exact ⟨es, clock, (Below.heap_alloc _ _ b hbl).trans hb, Ft, hs, hD⟩)
  exact AnyZ.sorted_in Try.sorted51 Fence.wide 5 trivial trivial trivial trivial rfl (by omega) (Try.sorts51 _) (enters_of Try.func68 (by kernel_rfl) rfl) 69 #[.pointer (some ⟨w.heap.size, 0, none⟩)] trivial (enters_of Try.func69 (by kernel_rfl) rfl) _ _ hmax hbytes _ hseq
set_option maxHeartbeats 1000000 in
theorem Try.slices_Sorted_keys_nil_51_52 (w : World) :
    CallsIn Fence.wide 5 Try.prog 51 #[.func (.func 69) #[] #[.pointer (some ⟨w.heap.size, 0, none⟩)]] (w.alloc (.cells #[.map none] 65)) fun e w' => ∃ (v : Value) (ss : List (List UInt8)), e = .returned v ∧ ss = [] ∧
      w'.ownsRow (w.alloc (.cells #[.map none] 65)).heap.size 9 1 v ss.length ((ss.mergeSort (fun x y => decide (x ≤ y))).map encStr) ∧ (v = .slice none 0 0 ↔ ss = []) ∧ Below (w.alloc (.cells #[.map none] 65)).heap.size (w.alloc (.cells #[.map none] 65)) w' := by
  have hseq : SeqGives Fence.wide 2 Try.prog 69 #[.pointer (some ⟨w.heap.size, 0, none⟩)] encStr (fun ss : List (List UInt8) => ss = []) 0 (w.alloc (.cells #[.map none] 65)) :=
    AnyZ.keys_gives_nil (ρ := Try.keys52_ren) { Try.keys52 with } Fence.wide _ trivial rfl w.heap.size _ (by simp) (by simp)
  exact AnyZ.sorted_in Try.sorted51 Fence.wide 5 trivial trivial trivial trivial rfl (by omega) (Try.sorts51 _) (enters_of Try.func68 (by kernel_rfl) rfl) 69 #[.pointer (some ⟨w.heap.size, 0, none⟩)] trivial (enters_of Try.func69 (by kernel_rfl) rfl) _ 0 (Nat.zero_le _) (by omega) _ hseq
set_option maxHeartbeats 1000000 in
theorem Try.maps_Keys_54 (mb : Option Nat) (W : World) : CallsIn Fence.wide 5 Try.prog 54 #[.map mb] W fun e w' => e = .returned (.func (.func 72) #[] #[.pointer (some ⟨W.heap.size, 0, none⟩)]) ∧ w' = W.alloc (.cells #[.map mb] 69) :=
  AnyZ.keys_in Try.keys54 Fence.wide 5 trivial rfl mb W
set_option maxHeartbeats 1000000 in
theorem Try.slices_Sorted_keys_51_54 {H : Type} (b nn : Nat) (D0 : DataW H) (R : Value → Option (DataW H × List MemPlace)) (w : World) (hown : w.ownsMap Try.prog 9 R b nn D0) (hmax : Maps.size D0 ≤ maxLen) (hbytes : Maps.size D0 * 16 ≤ 140737488355328) :
    CallsIn Fence.wide 5 Try.prog 51 #[.func (.func 72) #[] #[.pointer (some ⟨w.heap.size, 0, none⟩)]] (w.alloc (.cells #[.map (some b)] 69)) fun e w' => ∃ (v : Value) (ss : List (List UInt8)), e = .returned v ∧ ss.Perm (strKeys D0) ∧
      w'.ownsRow (w.alloc (.cells #[.map (some b)] 69)).heap.size 9 1 v ss.length ((ss.mergeSort (fun x y => decide (x ≤ y))).map encStr) ∧ (v = .slice none 0 0 ↔ ss = []) ∧ Below (w.alloc (.cells #[.map (some b)] 69)).heap.size (w.alloc (.cells #[.map (some b)] 69)) w' := by
  have hbl := hown.lt
  have hseq : SeqGives Fence.wide 2 Try.prog 72 #[.pointer (some ⟨w.heap.size, 0, none⟩)] encStr (fun ss => ss.Perm (strKeys D0)) (Maps.size D0) (w.alloc (.cells #[.map (some b)] 69)) :=
    AnyZ.keys_gives (ρ := Try.keys54_ren) { Try.keys54 with } Fence.wide _ trivial rfl (by omega) w.heap.size b nn D0 _ (by simp) (by simp) (by
      obtain ⟨es, clock, hb, Ft, hs, hD⟩ := hown
      exact ⟨es, clock, (Below.heap_alloc _ _ b hbl).trans hb, Ft, hs, hD⟩)
  exact AnyZ.sorted_in Try.sorted51 Fence.wide 5 trivial trivial trivial trivial rfl (by omega) (Try.sorts51 _) (enters_of Try.func68 (by kernel_rfl) rfl) 72 #[.pointer (some ⟨w.heap.size, 0, none⟩)] trivial (enters_of Try.func72 (by kernel_rfl) rfl) _ _ hmax hbytes _ hseq
set_option maxHeartbeats 1000000 in
theorem Try.slices_Sorted_keys_nil_51_54 (w : World) :
    CallsIn Fence.wide 5 Try.prog 51 #[.func (.func 72) #[] #[.pointer (some ⟨w.heap.size, 0, none⟩)]] (w.alloc (.cells #[.map none] 69)) fun e w' => ∃ (v : Value) (ss : List (List UInt8)), e = .returned v ∧ ss = [] ∧
      w'.ownsRow (w.alloc (.cells #[.map none] 69)).heap.size 9 1 v ss.length ((ss.mergeSort (fun x y => decide (x ≤ y))).map encStr) ∧ (v = .slice none 0 0 ↔ ss = []) ∧ Below (w.alloc (.cells #[.map none] 69)).heap.size (w.alloc (.cells #[.map none] 69)) w' := by
  have hseq : SeqGives Fence.wide 2 Try.prog 72 #[.pointer (some ⟨w.heap.size, 0, none⟩)] encStr (fun ss : List (List UInt8) => ss = []) 0 (w.alloc (.cells #[.map none] 69)) :=
    AnyZ.keys_gives_nil (ρ := Try.keys54_ren) { Try.keys54 with } Fence.wide _ trivial rfl w.heap.size _ (by simp) (by simp)
  exact AnyZ.sorted_in Try.sorted51 Fence.wide 5 trivial trivial trivial trivial rfl (by omega) (Try.sorts51 _) (enters_of Try.func68 (by kernel_rfl) rfl) 72 #[.pointer (some ⟨w.heap.size, 0, none⟩)] trivial (enters_of Try.func72 (by kernel_rfl) rfl) _ 0 (Nat.zero_le _) (by omega) _ hseq
end Go.Proofs

-- Read
namespace Go.Mun
open Go Go.RowKit Go.ChangeShapes Go.WideShapes Go.ChangeAt Go.Deep

/-- A reader: these cells, in this world, are this datum. -/
abbrev Reader (α : Type) := World → List Value → α → Prop
/-- What is read stays read while what was there stays. -/
def Reader.Stays {α : Type} (R : Reader α) : Prop := ∀ (w w' : World) (cs : List Value) (a : α), Below w.heap.size w w' → R w cs a → R w' cs a

def rInt (k : IntKind) : Reader Int := fun _ cs n => cs = [.int k n] ∧ (Lit.int k n).wf = true
def rBool : Reader Bool := fun _ cs b => cs = [.bool b]
def rByte : Reader UInt8 := fun _ cs b => cs = [.int .u8 (b.toNat : Int)]
def rBytes : Reader (List UInt8) := fun w cs l => ∃ v, cs = [v] ∧ Bytes w v l

/-- The chunk of a row of cells that is its i-th element. -/
def chunk (xs : List Value) (size i : Nat) : List Value := (xs.drop (i * size)).take size

/-- A slice value whose elements, 'size' cells each, are these data. -/
def SliceOf {α : Type} (size : Nat) (R : Reader α) (w : World) (v : Value) (al : List α) : Prop :=
  ∃ A n c xs, v = .slice A n c ∧ al.length = n ∧ xs.length = n * size ∧ n ≤ c ∧ c ≤ maxLen ∧ Rd w A xs ∧ ∀ i (h : i < al.length), R w (chunk xs size i) al[i]
def rSlice {α : Type} (size : Nat) (R : Reader α) : Reader (List α) := fun w cs al => ∃ v, cs = [v] ∧ SliceOf size R w v al

theorem rInt_stays (k : IntKind) : (rInt k).Stays := fun _ _ _ _ _ h => h
theorem rBool_stays : rBool.Stays := fun _ _ _ _ _ h => h
theorem rByte_stays : rByte.Stays := fun _ _ _ _ _ h => h
theorem rBytes_stays : rBytes.Stays := fun _ _ _ _ hb ⟨v, e, h⟩ => ⟨v, e, h.ext hb⟩
theorem SliceOf.ext {α : Type} {size : Nat} {R : Reader α} (hR : R.Stays) {w w' : World} {v : Value} {al : List α} (h : SliceOf size R w v al) (hb : Below w.heap.size w w') : SliceOf size R w' v al := by
  obtain ⟨A, n, c, xs, rfl, h1, h2, h3, h4, h5, h6⟩ := h
  exact ⟨A, n, c, xs, rfl, h1, h2, h3, h4, h5.ext hb, fun i hi => hR _ _ _ _ hb (h6 i hi)⟩
theorem rSlice_stays {α : Type} {size : Nat} {R : Reader α} (hR : R.Stays) : (rSlice size R).Stays := fun _ _ _ _ hb ⟨v, e, h⟩ => ⟨v, e, h.ext hR hb⟩

/-! ### what the form reads, our readers read -/
section
variable {H : Type} (enc : TypeId × Value → H) (P : Program) (base : Nat) (spare : Nat → Bool) (held : Bool)
/-- Whatever the form reads as a datum of type t reads by R. -/
def Opens {α : Type} (t : TypeId) (R : Reader α) : Prop :=
  ∀ (w : World) (fuel : Nat) (cs : List Value) (x : DataW H × List MemPlace), DataW.trod enc P w base spare held fuel t cs = some x → ∃ a, R w cs a

variable {P}
theorem opens_int {t : TypeId} {k : IntKind} (ht : P.underlying t = some (.int k)) : Opens enc P base spare held t (rInt k) := fun w fuel cs x h => by
  cases fuel with
  | zero => simp [DataW.trod] at h
  | succ f =>
    unfold DataW.trod at h
    rw [ht] at h
    match cs, h with
    | [.int k' n], h =>
      simp only at h
      split at h
      · rename_i hk
        obtain ⟨rfl, hw⟩ := hk
        exact ⟨n, rfl, hw⟩
      · cases h
theorem opens_bool {t : TypeId} (ht : P.underlying t = some .bool) : Opens enc P base spare held t rBool := fun w fuel cs x h => by
  cases fuel with
  | zero => simp [DataW.trod] at h
  | succ f =>
    unfold DataW.trod at h
    rw [ht] at h
    match cs, h with
    | [.bool b], h => exact ⟨b, rfl⟩
theorem opens_byte {t : TypeId} (ht : P.underlying t = some (.int .u8)) : Opens enc P base spare held t rByte := fun w fuel cs x h => by
  obtain ⟨n, rfl, hw⟩ := opens_int enc base spare held ht w fuel cs x h
  have hb := bounds_u8 hw
  refine ⟨UInt8.ofNat n.toNat, ?_⟩
  unfold rByte
  rw [UInt8.toNat_ofNat_of_lt' (by show n.toNat < 256; omega), Int.toNat_of_nonneg (by omega)]
theorem opens_slice {α : Type} {t e : TypeId} {size : Nat} {R : Reader α} (ht : P.underlying t = some (.slice e)) (hc : P.cellsOf e = size)
    (hR : Opens enc P base spare held e R) : Opens enc P base spare held t (rSlice size R) := fun w fuel cs x h => by
  rcases open_slice ht h with ⟨rfl, _⟩ | ⟨a, len, cap, m, n, D, Pl, rfl, _, hl, hm, hmm, _, hx⟩
  · exact ⟨[], _, rfl, none, 0, 0, [], rfl, rfl, by simp, Nat.le_refl _, by simp [maxLen], Rd.nil _ _, fun i hi => absurd hi (by simp)⟩
  · rw [hc] at hx
    have hle : len ≤ m := by rw [hmm]; split <;> omega
    have hcs : ∀ i, i < len → ∃ cs', w.cells? base (a.add (i * size)) size = some cs' ∧ ∃ b, R w cs' b := fun i hi => by
      obtain ⟨cs', h1, h2⟩ := hx i (by omega)
      exact ⟨cs', h1, hR w n cs' _ h2⟩
    let xs : List Value := (List.range (len * size)).map fun j => (w.cell? (a.add j)).getD undef
    have hcell : ∀ i, i < len → ∀ j, j < size → ∀ cs', w.cells? base (a.add (i * size)) size = some cs' → w.cell? (a.add (i * size + j)) = cs'[j]? := fun i hi j hj cs' h1 => by
      obtain ⟨_, _, h2⟩ := World.cells?_some h1
      rw [← h2 j hj, add_add]
    have hlt : ∀ i j, i < len → j < size → i * size + j < len * size := fun i j hi hj => by
      have : (i + 1) * size ≤ len * size := Nat.mul_le_mul_right _ hi
      rw [Nat.add_mul] at this
      omega
    have hchunk : ∀ i, i < len → ∀ cs', w.cells? base (a.add (i * size)) size = some cs' → chunk xs size i = cs' := fun i hi cs' h1 => by
      obtain ⟨_, hlen, _⟩ := World.cells?_some h1
      apply List.ext_getElem?
      intro j
      unfold chunk
      rw [List.getElem?_take]
      split
      · rename_i hj
        have hj' := hlt i j hi hj
        rw [List.getElem?_drop]
        show ((List.range (len * size)).map _)[i * size + j]? = _
        rw [List.getElem?_map, List.getElem?_range hj']
        have := hcell i hi j hj cs' h1
        rw [List.getElem?_eq_getElem (by omega : j < cs'.length)] at this ⊢
        simp [this]
      · rename_i hj
        rw [List.getElem?_eq_none (by omega)]
    obtain ⟨f, hf⟩ := choose_lt (α := Option α) (p := fun i b => ∃ b', b = some b' ∧ R w (chunk xs size i) b') (n := len) (fun i hi => by
      obtain ⟨cs', h1, b, h2⟩ := hcs i hi
      exact ⟨some b, b, rfl, by rw [hchunk i hi cs' h1]; exact h2⟩)
    by_cases h0 : len = 0
    · subst h0
      exact ⟨[], _, rfl, some a, 0, cap, [], rfl, rfl, by simp, hl, hm, Rd.nil _ _, fun i hi => absurd hi (by simp)⟩
    · obtain ⟨b0, _, _⟩ := hf 0 (by omega)
      refine ⟨(List.range len).map fun i => (f i).getD b0, _, rfl, some a, len, cap, xs, rfl, by simp, by simp [xs], hl, hm, Rd.of_cells fun j u hu => ?_, fun i hi => ?_⟩
      · have hj : j < len * size := by
          have : j < xs.length := (List.getElem?_eq_some_iff.1 hu).1
          simpa [xs] using this
        have hs : 0 < size := Nat.pos_of_ne_zero fun e => by subst e; simp at hj
        have hdiv : j / size < len := Nat.div_lt_of_lt_mul (by rw [Nat.mul_comm]; exact hj)
        have hmod : j % size < size := Nat.mod_lt _ hs
        obtain ⟨cs', h1, _⟩ := hcs (j / size) hdiv
        obtain ⟨_, hlen, _⟩ := World.cells?_some h1
        have := hcell (j / size) hdiv (j % size) hmod cs' h1
        rw [show j / size * size + j % size = j from by rw [Nat.mul_comm]; exact Nat.div_add_mod j size, List.getElem?_eq_getElem (by omega : j % size < cs'.length)] at this
        have hu' : xs[j]? = some ((w.cell? (a.add j)).getD undef) := by
          show ((List.range (len * size)).map _)[j]? = _
          rw [List.getElem?_map, List.getElem?_range hj]; rfl
        rw [hu'] at hu
        rw [this] at hu ⊢
        simpa using hu
      · have hi' : i < len := by simpa using hi
        obtain ⟨b', e, hb⟩ := hf i hi'
        simp only [List.getElem_map, List.getElem_range, e]
        exact hb
theorem opens_bytes {t e : TypeId} (ht : P.underlying t = some (.slice e)) (he : P.underlying e = some (.int .u8)) (hc : P.cellsOf e = 1) : Opens enc P base spare held t rBytes := fun w fuel cs x h => by
  obtain ⟨al, v, rfl, A, n, c, xs, rfl, h1, h2, h3, h4, h5, h6⟩ := opens_slice enc base spare held ht hc (opens_byte enc base spare held he) w fuel cs x h
  have e : xs = bv al := by
    apply List.ext_getElem?
    intro j
    by_cases hj : j < al.length
    · have := h6 j hj
      unfold rByte chunk at this
      rw [Nat.mul_one] at this
      rw [bv_get hj]
      have h0 : ((xs.drop j).take 1)[0]? = xs[j]? := by simp
      rw [← h0, this]; rfl
    · rw [List.getElem?_eq_none (by omega), List.getElem?_eq_none (by rw [bv_length]; omega)]
  subst e
  exact ⟨al, _, rfl, A, n, c, rfl, h1, h3, h4, h5⟩
end
end Go.Mun

