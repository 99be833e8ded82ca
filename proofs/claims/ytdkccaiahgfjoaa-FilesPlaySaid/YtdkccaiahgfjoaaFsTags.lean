/- Whose a block is: things in memory that are written in place, beside each other. Over any program. -/
import Derived.Test.YtdkccaiahgfjoaaBlk
namespace Go.Mun
open Go Go.RowKit

/-- what a block of a file system is -/
inductive Tag where
  | fs | now | syn | waits | keep
  | file (i : Nat)
  | byt (i : Nat)
/-- whose a block is, and what -/
abbrev Own := Nat → Option (Nat × Tag)
/-- what a call on k does to memory: it writes to k's blocks, and to new ones, which are k's -/
structure Turn (k : Nat) (o o' : Own) (w w' : World) : Prop where
  os : w'.os = w.os
  tape : w'.tape = w.tape
  output : w'.output = w.output
  size : w.heap.size ≤ w'.heap.size
  block : ∀ b, b < w.heap.size → (∀ t, o b ≠ some (k, t)) → w'.heap[b]? = w.heap[b]?
  old : ∀ b, b < w.heap.size → o' b = o b
  new : ∀ b, w.heap.size ≤ b → o' b = none ∨ ∃ t, o' b = some (k, t)
/-- no block is anybody's before it is made -/
def OwnIn (o : Own) (w : World) : Prop := ∀ b, w.heap.size ≤ b → o b = none
theorem OwnIn.lt {o : Own} {w : World} (h : OwnIn o w) {b : Nat} {x : Nat × Tag} (e : o b = some x) : b < w.heap.size := by
  rcases Nat.lt_or_ge b w.heap.size with h1 | h1
  · exact h1
  · rw [h b h1] at e; cases e
theorem Turn.refl {k : Nat} {o : Own} {w : World} (h : OwnIn o w) : Turn k o o w w := ⟨rfl, rfl, rfl, Nat.le_refl _, fun _ _ _ => rfl, fun _ _ => rfl, fun b hb => .inl (h b hb)⟩
theorem Turn.trans {k : Nat} {o o1 o2 : Own} {w w1 w2 : World} (h : Turn k o o1 w w1) (h' : Turn k o1 o2 w1 w2) : Turn k o o2 w w2 := by
  refine ⟨h'.os.trans h.os, h'.tape.trans h.tape, h'.output.trans h.output, Nat.le_trans h.size h'.size, fun b hb hn => ?_, fun b hb => ?_, fun b hb => ?_⟩
  · rw [h'.block b (Nat.lt_of_lt_of_le hb h.size) (fun t => by rw [h.old b hb]; exact hn t), h.block b hb hn]
  · rw [h'.old b (Nat.lt_of_lt_of_le hb h.size), h.old b hb]
  · rcases Nat.lt_or_ge b w1.heap.size with h1 | h1
    · rw [h'.old b h1]; exact h.new b hb
    · exact h'.new b h1
/-- a new block gets an owner -/
def give (o : Own) (b : Nat) (x : Nat × Tag) : Own := fun c => if c = b then some x else o c
theorem give_same (o : Own) (b : Nat) (x : Nat × Tag) : give o b x b = some x := if_pos rfl
theorem give_ne {o : Own} {b c : Nat} {x : Nat × Tag} (h : c ≠ b) : give o b x c = o c := if_neg h
/-- memory was made, and nothing else -/
theorem Turn.below {k : Nat} {o : Own} {w w' : World} (ho : OwnIn o w) (hb : Below w.heap.size w w') : Turn k o o w w' :=
  ⟨hb.os, hb.tape, hb.output, hb.size, fun b h _ => hb.block b h, fun _ _ => rfl, fun b h => .inl (ho b h)⟩
theorem OwnIn.more {o : Own} {w w' : World} (ho : OwnIn o w) (hs : w.heap.size ≤ w'.heap.size) : OwnIn o w' := fun b hb => ho b (Nat.le_trans hs hb)
/-- a block of k's was written, and memory made -/
theorem Turn.wrote {k : Nat} {o : Own} {w w' : World} {g : Nat} {t : Tag} (ho : OwnIn o w) (hg : w.grownBy w' (some g)) (e : o g = some (k, t)) : Turn k o o w w' :=
  ⟨hg.os, hg.tape, hg.output, hg.size, fun b h hn => hg.block b h (fun e' => by injection e' with e'; subst e'; exact hn t e), fun _ _ => rfl, fun b h => .inl (ho b h)⟩
/-- a row of k's was written or made anew -/
theorem Turn.row {k : Nat} {o : Own} {w w' : World} {v : Value} {t : Tag} (ho : OwnIn o w) (hg : w.grownBy w' v.ownBlock) (e : ∀ g, v.ownBlock = some g → o g = some (k, t)) : Turn k o o w w' :=
  ⟨hg.os, hg.tape, hg.output, hg.size, fun b h hn => hg.block b h (fun e' => hn t (e b e'.symm)), fun _ _ => rfl, fun b h => .inl (ho b h)⟩
/-- a block that was made is k's from now on -/
theorem Turn.give {k : Nat} {o : Own} {w w' : World} {o' : Own} (h : Turn k o o' w w') {b : Nat} (hb : w.heap.size ≤ b) (t : Tag) : Turn k o (give o' b (k, t)) w w' := by
  refine ⟨h.os, h.tape, h.output, h.size, h.block, fun c hc => ?_, fun c hc => ?_⟩
  · rw [give_ne (by omega)]; exact h.old c hc
  · by_cases e : c = b
    · subst e; exact .inr ⟨t, give_same _ _ _⟩
    · rw [give_ne e]; exact h.new c hc
theorem OwnIn.give {o : Own} {w : World} (h : OwnIn o w) {b : Nat} (hb : b < w.heap.size) (x : Nat × Tag) : OwnIn (give o b x) w := fun c hc => by
  rw [give_ne (by omega)]
  exact h c hc
/-- who is not k is not touched -/
theorem Turn.other {k j : Nat} {o o' : Own} {w w' : World} (h : Turn k o o' w w') (hj : j ≠ k) {b : Nat} {t : Tag} (hb : b < w.heap.size) (e : o b = some (j, t)) : w'.heap[b]? = w.heap[b]? ∧ o' b = some (j, t) := by
  refine ⟨h.block b hb fun t' e' => ?_, by rw [h.old b hb]; exact e⟩
  rw [e] at e'
  injection e' with e'
  injection e' with e1 e2
  exact hj e1
theorem Turn.foreign {k : Nat} {o o' : Own} {w w' : World} (h : Turn k o o' w w') {b : Nat} (hb : b < w.heap.size) (e : ∀ t, o b ≠ some (k, t)) : w'.heap[b]? = w.heap[b]? := h.block b hb e
/-- what was there before all of it is as it was -/
theorem Turn.under {k B : Nat} {o o' : Own} {w w' : World} (h : Turn k o o' w w') (hs : B ≤ w.heap.size) (hB : ∀ b, b < B → o b = none) : Below B w w' :=
  ⟨h.os, h.tape, h.output, h.size, fun b hb => h.block b (Nat.lt_of_lt_of_le hb hs) fun t e => by rw [hB b hb] at e; cases e⟩
theorem Turn.base {k B : Nat} {o o' : Own} {w w' : World} (h : Turn k o o' w w') (hs : B ≤ w.heap.size) (hB : ∀ b, b < B → o b = none) : ∀ b, b < B → o' b = none := fun b hb => by rw [h.old b (Nat.lt_of_lt_of_le hb hs)]; exact hB b hb

/-- a block that is as it was -/
theorem Blk.same {w w' : World} {g : Nat} {t : TypeId} {cs : Array Value} (h : Blk w g t cs) (e : w'.heap[g]? = w.heap[g]?) : Blk w' g t cs := e.trans h
theorem own_same {w w' : World} {base size n : Nat} {e : TypeId} {v : Value} {xs : List Value} (h : w.ownsRow base e size v n xs) (hk : ∀ g, v.ownBlock = some g → w'.heap[g]? = w.heap[g]?) : w'.ownsRow base e size v n xs := by
  refine ⟨h.1, ?_⟩
  rcases h.2 with hn | ⟨g, cap, cur, rfl, hb, hgg, rest⟩
  · exact .inl hn
  · exact .inr ⟨g, cap, cur, rfl, hb, (hk g rfl).trans hgg, rest⟩
/-- two blocks of different owners are two -/
theorem own_ne {o : Own} {a b : Nat} {x y : Nat × Tag} (ha : o a = some x) (hb : o b = some y) (h : x ≠ y) : a ≠ b := fun e => by
  subst e
  rw [ha] at hb
  injection hb with hb
  exact h hb
end Go.Mun
