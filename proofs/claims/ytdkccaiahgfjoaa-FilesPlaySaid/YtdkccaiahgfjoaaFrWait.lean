/- The reference: 'f.wait = append(f.wait, c)', a region that draws its order: what each operation writes, and how far it has come. -/
import Derived.Test.YtdkccaiahgfjoaaFrApp
import Derived.Test.YtdkccaiahgfjoaaPhase
namespace Go.Mun
open Go Go.RowKit Go.Proofs Go.Maps

/-- one block and one row may have been written -/
structure Wr2 (p : Nat) (r : Option Nat) (w w' : World) : Prop where
  os : w'.os = w.os
  tape : w'.tape = w.tape
  output : w'.output = w.output
  size : w.heap.size ≤ w'.heap.size
  block : ∀ b, b < w.heap.size → b ≠ p → some b ≠ r → w'.heap[b]? = w.heap[b]?
theorem Wr2.refl {p : Nat} {r : Option Nat} (w : World) : Wr2 p r w w := ⟨rfl, rfl, rfl, Nat.le_refl _, fun _ _ _ _ => rfl⟩
theorem Wr2.trans {p : Nat} {r : Option Nat} {x y z : World} (h : Wr2 p r x y) (k : Wr2 p r y z) : Wr2 p r x z :=
  ⟨k.os.trans h.os, k.tape.trans h.tape, k.output.trans h.output, Nat.le_trans h.size k.size, fun b hb h1 h2 => (k.block b (Nat.lt_of_lt_of_le hb h.size) h1 h2).trans (h.block b hb h1 h2)⟩
theorem Wr2.below {p : Nat} {r : Option Nat} {w w' : World} (h : Below w.heap.size w w') : Wr2 p r w w' := ⟨h.os, h.tape, h.output, h.size, fun b hb _ _ => h.block b hb⟩
theorem Wr2.row {p : Nat} {r : Option Nat} {w w' : World} (h : w.grownBy w' r) : Wr2 p r w w' := ⟨h.os, h.tape, h.output, h.size, fun b hb _ h2 => h.block b hb h2⟩
theorem Wr2.put {p : Nat} {r : Option Nat} {w w' : World} (h : w.grownBy w' (some p)) : Wr2 p r w w' := ⟨h.os, h.tape, h.output, h.size, fun b hb h1 _ => h.block b hb fun e => h1 (by injection e)⟩
theorem Blk.wr2 {p g : Nat} {r : Option Nat} {w w' : World} {t : TypeId} {cs : Array Value} (h : Blk w g t cs) (hw : Wr2 p r w w') (h1 : g ≠ p) (h2 : some g ≠ r) : Blk w' g t cs := (hw.block g h.lt h1 h2).trans h
/-- what each operation writes -/
def SWt (p q nW cW : Nat) (AW : Option Addr) (cs : List Value) : Nat → Value → World → Prop
  | 0, v, _ => v = .pointer (some ⟨p, 0, none⟩)
  | 1, v, _ => v = .pointer (some ⟨p, 0, none⟩)
  | 2, v, _ => v = .pointer (some ⟨p, 0, none⟩)
  | 3, v, _ => v = .pointer (some ⟨p, 2, none⟩)
  | 4, v, _ => v = .slice AW nW cW
  | 5, v, _ => v = .agg cs.toArray
  | 6, v, w => ∃ g, v = .slice (some ⟨g, 0, none⟩) 1 1 ∧ q ≤ g ∧ Blk w g 72 cs.toArray
  | 7, _, _ => True
  | 8, v, _ => v = .pointer (some ⟨p, 0, none⟩)
  | 9, v, _ => v = .pointer (some ⟨p, 2, none⟩)
  | _, _, _ => True
theorem SWt_stays (p q nW cW : Nat) (AW : Option Addr) (cs : List Value) (hpq : p < q) (hr : ∀ g, (Value.slice AW nW cW).ownBlock = some g → g < q) : ∀ i v (wa wb : World), Wr2 p (Value.slice AW nW cW).ownBlock wa wb → SWt p q nW cW AW cs i v wa → SWt p q nW cW AW cs i v wb
  | 0, _, _, _, _, h => h
  | 1, _, _, _, _, h => h
  | 2, _, _, _, _, h => h
  | 3, _, _, _, _, h => h
  | 4, _, _, _, _, h => h
  | 5, _, _, _, _, h => h
  | 6, _, _, _, hb, ⟨g, e, hg, hx⟩ => ⟨g, e, hg, hx.wr2 hb (by omega) (fun e2 => by have := hr g e2.symm; omega)⟩
  | 7, _, _, _, _, h => h
  | 8, _, _, _, _, h => h
  | 9, _, _, _, _, h => h
  | _ + 10, _, _, _, _, h => h
/-- the head's cells, with such a row of changes that wait -/
def headW (vn vs vw vk : Value) (pl : Bool) (c0 c1 lf : Int) (dead : Bool) (ops : Int) : Array Value := #[vn, vs, vw, .bool pl, .int .i64 c0, .int .i64 c1, vk, .int .i64 lf, .bool dead, .int .i64 ops]
/-- how far the region has come -/
structure JWt (p q nW cW : Nat) (AW : Option Addr) (cs xs : List Value) (hd : Value → Array Value) (L : Nat → Bool) (V : Nat → Value) (w : World) : Prop where
  head0 : L 10 = false → Blk w p 37 (hd (.slice AW nW cW))
  row0 : L 7 = false → w.ownsRow 0 72 3 (.slice AW nW cW) nW xs
  row1 : L 7 = true → w.ownsRow 0 72 3 (V 7) (nW + 1) (xs ++ cs) ∧ ((V 7).ownBlock = (Value.slice AW nW cW).ownBlock ∨ ∃ g, (V 7).ownBlock = some g ∧ q ≤ g)
  head1 : L 10 = true → Blk w p 37 (hd (V 7))
  low : q ≤ w.heap.size
section
variable {p q nW cW : Nat} {AW : Option Addr} {cs xs : List Value} {hd : Value → Array Value} {L : Nat → Bool} {V : Nat → Value} {w w' : World}
theorem JWt.far (h : JWt p q nW cW AW cs xs hd L V w) {k : Nat} {v : Value} (h7 : (7 : Nat) ≠ k) (h10 : (10 : Nat) ≠ k) : JWt p q nW cW AW cs xs hd (updL L k) (upd V k v) w := by
  refine ⟨fun e => h.head0 ?_, fun e => h.row0 ?_, fun e => ?_, fun e => ?_, h.low⟩
  · rwa [updL_ne h10] at e
  · rwa [updL_ne h7] at e
  · rw [upd_ne h7]; rw [updL_ne h7] at e; exact h.row1 e
  · rw [upd_ne h7]; rw [updL_ne h10] at e; exact h.head1 e
theorem JWt.ext (h : JWt p q nW cW AW cs xs hd L V w) (hb : Below w.heap.size w w') : JWt p q nW cW AW cs xs hd L V w' :=
  ⟨fun e => (h.head0 e).ext hb, fun e => own_ext (h.row0 e) hb, fun e => ⟨own_ext (h.row1 e).1 hb, (h.row1 e).2⟩, fun e => (h.head1 e).ext hb, Nat.le_trans h.low hb.size⟩
theorem JWt.app (h : JWt p q nW cW AW cs xs hd L V w) (h10 : L 10 = false) {v : Value} (ho : w'.ownsRow 0 72 3 v (nW + 1) (xs ++ cs)) (hg : w.grownBy w' (Value.slice AW nW cW).ownBlock) (hat : v.ownBlock = (Value.slice AW nW cW).ownBlock ∨ v.ownBlock = some w.heap.size) (hpr : some p ≠ (Value.slice AW nW cW).ownBlock) : JWt p q nW cW AW cs xs hd (updL L 7) (upd V 7 v) w' := by
  refine ⟨fun _ => (h.head0 h10).grown hg hpr, fun e => ?_, fun _ => ⟨by rw [upd_same]; exact ho, by rw [upd_same]; exact hat.imp id fun e => ⟨_, e, h.low⟩⟩, fun e => ?_, Nat.le_trans h.low hg.size⟩
  · rw [updL_same] at e; cases e
  · rw [updL_ne (by decide), h10] at e; cases e
theorem JWt.store (h : JWt p q nW cW AW cs xs hd L V w) (h7 : L 7 = true) {v : Value} (hx : Blk w' p 37 (hd (V 7))) (hg : w.grownBy w' (some p)) (hp7 : (V 7).ownBlock ≠ some p) : JWt p q nW cW AW cs xs hd (updL L 10) (upd V 10 v) w' := by
  refine ⟨fun e => ?_, fun e => ?_, fun _ => ?_, fun _ => ?_, Nat.le_trans h.low hg.size⟩
  · rw [updL_same] at e; cases e
  · rw [updL_ne (by decide), h7] at e; cases e
  · rw [upd_ne (by decide)]
    obtain ⟨h1, h2⟩ := h.row1 h7
    exact ⟨own_same h1 fun g hg' => hg.block g (h1.lt g hg').2 (fun e => hp7 (by rw [hg', e])), h2⟩
  · rw [upd_ne (by decide)]; exact hx
end
theorem chgTyR : SliceTy Try.prog 33 72 (.agg #[.string ⟨#[]⟩, .string ⟨#[]⟩, .pointer none]) 3 40 := SliceTy.mk' Try.underlying33 (by kernel_rfl) rfl (by decide)
theorem chgTyA : AggTy Try.prog 72 3 := ⟨⟨_, Try.underlying72, rfl⟩, by kernel_rfl⟩
/-- 'f.now = done(f.now, c)': what each operation writes -/
def SDn (p q nN cN : Nat) (AN : Option Addr) (cs : List Value) (φ : Nat → Nat) (P : PL Nat) : Nat → Value → World → Prop
  | 0, v, _ => v = .pointer (some ⟨p, 0, none⟩)
  | 1, v, _ => v = .pointer (some ⟨p, 0, none⟩)
  | 2, v, _ => v = .pointer (some ⟨p, 0, none⟩)
  | 3, v, _ => v = .pointer (some ⟨p, 0, none⟩)
  | 4, v, _ => v = .slice AN nN cN
  | 5, v, _ => v = .agg cs.toArray
  | 6, v, w => w.ownsRow q 75 2 v P.length (erow φ P)
  | 7, v, _ => v = .pointer (some ⟨p, 0, none⟩)
  | 8, v, _ => v = .pointer (some ⟨p, 0, none⟩)
  | _, _, _ => True
theorem SDn_stays (p q nN cN : Nat) (AN : Option Addr) (cs : List Value) (φ : Nat → Nat) (P : PL Nat) (hpq : p < q) : ∀ i v (wa wb : World), wa.grownBy wb (some p) → SDn p q nN cN AN cs φ P i v wa → SDn p q nN cN AN cs φ P i v wb
  | 0, _, _, _, _, h => h
  | 1, _, _, _, _, h => h
  | 2, _, _, _, _, h => h
  | 3, _, _, _, _, h => h
  | 4, _, _, _, _, h => h
  | 5, _, _, _, _, h => h
  | 6, _, _, _, hb, h => own_kept h hb hpq
  | 7, _, _, _, _, h => h
  | 8, _, _, _, _, h => h
  | _ + 9, _, _, _, _, h => h
structure JDn (p q nN cN : Nat) (AN : Option Addr) (φ : Nat → Nat) (P : PL Nat) (hd : Value → Array Value) (L : Nat → Bool) (_V : Nat → Value) (w : World) : Prop where
  head0 : L 9 = false → Blk w p 37 (hd (.slice AN nN cN))
  head1 : L 9 = true → ∃ v, Blk w p 37 (hd v) ∧ w.ownsRow q 75 2 v P.length (erow φ P)
  low : q ≤ w.heap.size
section
variable {p q nN cN : Nat} {AN : Option Addr} {φ : Nat → Nat} {P : PL Nat} {hd : Value → Array Value} {L : Nat → Bool} {V : Nat → Value} {w w' : World}
theorem JDn.far (h : JDn p q nN cN AN φ P hd L V w) {k : Nat} {v : Value} (h9 : (9 : Nat) ≠ k) : JDn p q nN cN AN φ P hd (updL L k) (upd V k v) w :=
  ⟨fun e => h.head0 (by rwa [updL_ne h9] at e), fun e => h.head1 (by rwa [updL_ne h9] at e), h.low⟩
theorem JDn.ext (h : JDn p q nN cN AN φ P hd L V w) (h9 : L 9 = false) (hb : Below w.heap.size w w') {v : Value} : JDn p q nN cN AN φ P hd (updL L 6) (upd V 6 v) w' :=
  ⟨fun _ => (h.head0 h9).ext hb, fun e => (by rw [updL_ne (by decide), h9] at e; cases e), Nat.le_trans h.low hb.size⟩
theorem JDn.store (h : JDn p q nN cN AN φ P hd L V w) {v u : Value} (hx : Blk w' p 37 (hd u)) (hg : w.grownBy w' (some p)) (ho : w'.ownsRow q 75 2 u P.length (erow φ P)) : JDn p q nN cN AN φ P hd (updL L 9) (upd V 9 v) w' :=
  ⟨fun e => (by rw [updL_same] at e; cases e), fun _ => ⟨u, hx, ho⟩, Nat.le_trans h.low hg.size⟩
end
end Go.Mun
