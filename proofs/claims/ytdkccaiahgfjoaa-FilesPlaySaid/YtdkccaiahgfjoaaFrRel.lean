/- How the reference's files lie in memory. -/
import Derived.Test.YtdkccaiahgfjoaaFrDone
namespace Go.Mun
open Go Go.RowKit Go.Proofs Go.Maps

def crow (φ : Nat → Nat) (l : List Chg) : List Value := l.flatMap (chR φ)
theorem crow_length (φ : Nat → Nat) (l : List Chg) : (crow φ l).length = l.length * 3 := by
  induction l with
  | nil => rfl
  | cons c l ih => show (chR φ c ++ crow φ l).length = _; rw [List.length_append, ih, chR_length, List.length_cons]; omega
theorem crow_snoc (φ : Nat → Nat) (l : List Chg) (c : Chg) : crow φ (l ++ [c]) = crow φ l ++ chR φ c := by
  unfold crow
  rw [List.flatMap_append]
  show _ ++ (chR φ c ++ []) = _
  rw [List.append_nil]
/-- a file of the reference, in memory -/
def FileAtR (k : Nat) (φ : Nat → Nat) (o : Own) (w : World) (i : Nat) (f : FileS) : Prop :=
  ∃ v, Blk w (φ i) 70 #[v, .int .i64 f.s] ∧ o (φ i) = some (k, .file i) ∧ w.ownsRow 0 5 1 v f.b.length (bv f.b) ∧ ∀ g, v.ownBlock = some g → o g = some (k, .byt i)
structure HeadR (k p : Nat) (M : FSs) (φ : Nat → Nat) (o : Own) (w : World) (vn vs vw vk : Value) (pl : Bool) (c0 c1 lf : Int) : Prop where
  blk : Blk w p 37 #[vn, vs, vw, .bool pl, .int .i64 c0, .int .i64 c1, vk, .int .i64 lf, .bool M.dead, .int .i64 M.ops]
  op : o p = some (k, .fs)
  now : w.ownsRow 0 75 2 vn M.now.length (erow φ M.now)
  on : ∀ g, vn.ownBlock = some g → o g = some (k, .now)
  syn : w.ownsRow 0 75 2 vs M.syn.length (erow φ M.syn)
  os : ∀ g, vs.ownBlock = some g → o g = some (k, .now)
  waits : w.ownsRow 0 72 3 vw M.waits.length (crow φ M.waits)
  ow : ∀ g, vw.ownBlock = some g → o g = some (k, .waits)
  plan : pl = decide (0 ≤ M.op)
  left : 0 ≤ M.op → lf = M.op ∧ c1 = M.cut ∧ w.ownsRow 0 4 1 vk M.keep.length (M.keep.map .bool) ∧ ∀ g, vk.ownBlock = some g → o g = some (k, .keep)
structure RelR (k p : Nat) (M : FSs) (φ : Nat → Nat) (o : Own) (K L : Nat) (w : World) : Prop where
  fine : Fine M
  own : OwnIn o w
  head : ∃ vn vs vw vk pl c0 c1 lf, HeadR k p M φ o w vn vs vw vk pl c0 c1 lf
  file : ∀ i, Live M i → FileAtR k φ o w i (M.fs i) ∧ (M.fs i).b.length ≤ L
  ops : 0 ≤ M.ops ∧ M.ops ≤ K
  cut : -9223372036854775808 ≤ M.cut ∧ M.cut ≤ 9223372036854775807
  opb : M.op ≤ 9223372036854775807
  size : M.syn.length + M.waits.length ≤ K
section
variable {k p : Nat} {M : FSs} {φ : Nat → Nat} {o o' : Own} {K L : Nat} {w w' : World} {vn vs vw vk : Value} {pl : Bool} {c0 c1 lf : Int}
theorem length_doC (P : PL Nat) (c : Chg) : (doC P c).length ≤ P.length + 1 := by
  cases c with
  | made n i => exact length_set P n (some i)
  | ren a b i =>
    show (setP (setP P a none) b (some i)).length ≤ _
    have h1 := length_set (setP P a none) b (some i)
    have h2 : (setP P a none).length ≤ P.length := List.length_filter_le _ P
    omega
  | del a => exact Nat.le_succ_of_le (List.length_filter_le _ P)
theorem length_doL : ∀ (l : List Chg) (P : PL Nat), (doL P l).length ≤ P.length + l.length
  | [], P => Nat.le_refl _
  | c :: l, P => by
    have h1 := length_doL l (doC P c)
    have h2 := length_doC P c
    show (doL (doC P c) l).length ≤ P.length + (l.length + 1)
    omega
theorem RelR.nowlen (h : RelR k p M φ o K L w) : M.now.length ≤ K := by
  have h1 := length_doL M.waits M.syn
  rw [h.fine.repl] at h1
  exact Nat.le_trans h1 h.size
theorem RelR.more {K' L' : Nat} (h : RelR k p M φ o K L w) (hK : K ≤ K') (hL : L ≤ L') : RelR k p M φ o K' L' w :=
  ⟨h.fine, h.own, h.head, fun i hi => ⟨(h.file i hi).1, Nat.le_trans (h.file i hi).2 hL⟩, ⟨h.ops.1, by have := h.ops.2; omega⟩, h.cut, h.opb, Nat.le_trans h.size hK⟩
/-- a relation whose blocks, but for those of the tags that 'T' tells, are as they were -/
theorem FileAtR.mono {i : Nat} {f : FileS} (h : FileAtR k φ o w i f) (st : ∀ {b : Nat} {t : Tag}, o b = some (k, t) → t = .file i ∨ t = .byt i → w'.heap[b]? = w.heap[b]?) (ex : ∀ {b : Nat} {x : Nat × Tag}, o b = some x → o' b = some x) : FileAtR k φ o' w' i f := by
  obtain ⟨v, h1, h2, h3, h4⟩ := h
  exact ⟨v, h1.same (st h2 (.inl rfl)), ex h2, own_same h3 fun g hg => st (h4 g hg) (.inr rfl), fun g hg => ex (h4 g hg)⟩
theorem HeadR.mono (h : HeadR k p M φ o w vn vs vw vk pl c0 c1 lf) (st : ∀ {b : Nat} {t : Tag}, o b = some (k, t) → (∀ i, t ≠ .file i) → (∀ i, t ≠ .byt i) → w'.heap[b]? = w.heap[b]?) (ex : ∀ {b : Nat} {x : Nat × Tag}, o b = some x → o' b = some x) : HeadR k p M φ o' w' vn vs vw vk pl c0 c1 lf where
  blk := h.blk.same (st h.op (by simp) (by simp))
  op := ex h.op
  now := own_same h.now fun g hg => st (h.on g hg) (by simp) (by simp)
  on := fun g hg => ex (h.on g hg)
  syn := own_same h.syn fun g hg => st (h.os g hg) (by simp) (by simp)
  os := fun g hg => ex (h.os g hg)
  waits := own_same h.waits fun g hg => st (h.ow g hg) (by simp) (by simp)
  ow := fun g hg => ex (h.ow g hg)
  plan := h.plan
  left := fun h0 => by
    obtain ⟨h1, h2, h3, h4⟩ := h.left h0
    exact ⟨h1, h2, own_same h3 fun g hg => st (h4 g hg) (by simp) (by simp), fun g hg => ex (h4 g hg)⟩
theorem RelR.mono (h : RelR k p M φ o K L w) (st : ∀ {b : Nat} {t : Tag}, o b = some (k, t) → w'.heap[b]? = w.heap[b]?) (ex : ∀ {b : Nat} {x : Nat × Tag}, o b = some x → o' b = some x) (ho : OwnIn o' w') : RelR k p M φ o' K L w' := by
  obtain ⟨vn, vs, vw, vk, pl, c0, c1, lf, hh⟩ := h.head
  exact ⟨h.fine, ho, ⟨vn, vs, vw, vk, pl, c0, c1, lf, hh.mono (fun e _ _ => st e) ex⟩, fun i hi => ⟨(h.file i hi).1.mono (fun e _ => st e) ex, (h.file i hi).2⟩, h.ops, h.cut, h.opb, h.size⟩
theorem RelR.stays {j : Nat} (h : RelR j p M φ o K L w) (ho' : OwnIn o' w') (ht : Turn k o o' w w') (hj : j ≠ k) : RelR j p M φ o' K L w' :=
  h.mono (fun e => (ht.other hj (h.own.lt e) e).1) (fun e => by rw [ht.old _ (h.own.lt e)]; exact e) ho'
theorem RelR.ext (h : RelR k p M φ o K L w) (hb : Below w.heap.size w w') : RelR k p M φ o K L w' :=
  h.mono (fun e => hb.block _ (h.own.lt e)) id (h.own.more hb.size)
/-- a file's bytes are others -/
theorem RelR.file_set {L' : Nat} (h : RelR k p M φ o K L w) {i : Nat} {f : FileS} (st : ∀ {b : Nat} {t : Tag}, o b = some (k, t) → t ≠ .file i → t ≠ .byt i → w'.heap[b]? = w.heap[b]?) (ex : ∀ {b : Nat} {x : Nat × Tag}, o b = some x → o' b = some x) (ho : OwnIn o' w')
    (hf : FileAtR k φ o' w' i f) (hL : f.b.length ≤ L') (hLL : L ≤ L') (hs : f.s ≤ f.b.length) : RelR k p (setF M i f) φ o' K L' w' := by
  obtain ⟨vn, vs, vw, vk, pl, c0, c1, lf, hh⟩ := h.head
  have hh2 := hh.mono (w' := w') (o' := o') (fun e n1 n2 => st e (n1 i) (n2 i)) ex
  refine ⟨h.fine.setF i f hs, ho, ⟨vn, vs, vw, vk, pl, c0, c1, lf, ⟨hh2.blk, hh2.op, hh2.now, hh2.on, hh2.syn, hh2.os, hh2.waits, hh2.ow, hh2.plan, hh2.left⟩⟩, fun j hj => ?_, h.ops, h.cut, h.opb, h.size⟩
  show FileAtR k φ o' w' j (if j = i then f else M.fs j) ∧ (if j = i then f else M.fs j).b.length ≤ L'
  by_cases e : j = i
  · subst e
    rw [if_pos rfl]
    exact ⟨hf, hL⟩
  · rw [if_neg e]
    refine ⟨(h.file j hj).1.mono (fun {b t} e2 ht => ?_) ex, Nat.le_trans (h.file j hj).2 hLL⟩
    refine st e2 ?_ ?_
    · rcases ht with rfl | rfl
      · intro e3; injection e3 with e3; exact e e3
      · simp
    · rcases ht with rfl | rfl
      · simp
      · intro e3; injection e3 with e3; exact e e3
theorem RelR.made {w' : World} {g : Nat} (φ : Nat → Nat) (ho : OwnIn o w) (hg : g = w.heap.size) (hb : Below w.heap.size w w') (hx : Blk w' g 37 #[.slice none 0 0, .slice none 0 0, .slice none 0 0, .bool false, .int .i64 0, .int .i64 0, .slice none 0 0, .int .i64 0, .bool false, .int .i64 0]) :
    RelR k g newM φ (give o g (k, .fs)) 0 0 w' ∧ Turn k o (give o g (k, .fs)) w w' := by
  subst hg
  have hlt := hx.lt
  refine ⟨⟨newM_fine, (ho.more hb.size).give hlt _, ⟨_, _, _, _, _, _, _, _, ⟨hx, give_same _ _ _, World.ownsRow_nil _ _ _ _, (fun g h => by cases h), World.ownsRow_nil _ _ _ _, (fun g h => by cases h), World.ownsRow_nil _ _ _ _, (fun g h => by cases h), rfl, fun h => absurd h (by decide)⟩⟩, fun i hi => ?_, by decide, by decide, by decide, Nat.le_refl _⟩, (Turn.below ho hb).give (Nat.le_refl _) _⟩
  rcases hi with ⟨_, h, _⟩ | ⟨_, h, _⟩ | ⟨_, h⟩ <;> exact absurd h List.not_mem_nil
end
end Go.Mun
