/- How the program's files lie in memory. -/
import Derived.Test.YtdkccaiahgfjoaaFsPlain
import Derived.Test.YtdkccaiahgfjoaaFsTags
import Derived.Test.YtdkccaiahgfjoaaMapS
namespace Go.Mun
open Go Go.RowKit Go.Proofs Go.Maps

abbrev ptr (g : Nat) : Value := .pointer (some ⟨g, 0, none⟩)
/-- names, with the pointers that lie at them -/
def idT (φ : Nat → Nat) (P : PL Nat) : PL (Value × Nat) := mapP (fun i => (ptr (φ i), i)) P
theorem idT_set (φ : Nat → Nat) (P : PL Nat) (k : Ky) (i : Nat) : idT φ (setP P k (some i)) = setP (idT φ P) k (some (ptr (φ i), i)) := mapP_set _ _ _ _
theorem idT_del (φ : Nat → Nat) (P : PL Nat) (k : Ky) : idT φ (setP P k none) = setP (idT φ P) k none := mapP_set _ _ _ _
theorem getP_map {α β : Type} (f : α → β) (P : PL α) (k : Ky) : getP (mapP f P) k = (getP P k).map f := by
  induction P with
  | nil => rfl
  | cons p P ih =>
    show (if p.1 = k then some (f p.2) else getP (mapP f P) k) = _
    by_cases h : p.1 = k
    · rw [if_pos h, getP, if_pos h]; rfl
    · rw [if_neg h, getP, if_neg h]; exact ih
theorem idT_get {φ : Nat → Nat} {P : PL Nat} {k : Ky} {i : Nat} (h : getP P k = some i) : getP (idT φ P) k = some (ptr (φ i), i) := by
  unfold idT
  rw [getP_map, h]
  rfl
/-- a change that waits, as it lies -/
def chgV (φ : Nat → Nat) : Chg → Value
  | .made n i => .iface 65 (.agg #[.string ⟨n.toArray⟩, ptr (φ i)])
  | .ren a b _ => .iface 86 (.agg #[.string ⟨a.toArray⟩, .string ⟨b.toArray⟩])
  | .del a => .iface 84 (.agg #[.string ⟨a.toArray⟩])
theorem chgV_one (φ : Nat → Nat) (c : Chg) : (chgV φ c).oneCell' = true := by cases c <;> rfl
/-- may a file still be asked for? -/
def Live (M : FSs) (i : Nat) : Prop := hasId M.now i ∨ hasId M.syn i ∨ ∃ n, Chg.made n i ∈ M.waits
theorem MapV.same {α : Type} {w w' : World} {b N : Nat} {T : PL (Value × α)} (h : MapV w b T N) (e : w'.heap[b]? = w.heap[b]?) : MapV w' b T N := by
  obtain ⟨es, clock, h1, h2⟩ := h
  exact ⟨es, clock, e.trans h1, h2⟩
/-- a file in memory -/
def FileAt (k : Nat) (φ : Nat → Nat) (o : Own) (w : World) (i : Nat) (f : FileS) : Prop :=
  ∃ v, Blk w (φ i) 62 #[v, .int .i64 f.s] ∧ o (φ i) = some (k, .file i) ∧ w.ownsRow 0 5 1 v f.b.length (bv f.b) ∧ ∀ g, v.ownBlock = some g → o g = some (k, .byt i)
/-- the head of it all: block p -/
structure Head (k p : Nat) (M : FSs) (φ : Nat → Nat) (o : Own) (K : Nat) (w : World) (bn bs : Nat) (vw vk : Value) : Prop where
  blk : Blk w p 59 #[.map (some bn), .map (some bs), vw, .int .i64 M.op, .int .i64 M.cut, vk, .bool M.dead, .int .i64 M.ops]
  op : o p = some (k, .fs)
  on : o bn = some (k, .now)
  os : o bs = some (k, .syn)
  now : ∃ N, MapV w bn (idT φ M.now) N ∧ N ≤ K
  syn : ∃ N, MapV w bs (idT φ M.syn) N ∧ N + M.waits.length ≤ K
  waits : w.ownsRow 0 87 1 vw M.waits.length (M.waits.map (chgV φ))
  ow : ∀ g, vw.ownBlock = some g → o g = some (k, .waits)
  keep : w.ownsRow 0 4 1 vk M.keep.length (M.keep.map .bool)
  ok : ∀ g, vk.ownBlock = some g → o g = some (k, .keep)
/-- files, in memory -/
structure RelP (k p : Nat) (M : FSs) (φ : Nat → Nat) (o : Own) (K L : Nat) (w : World) : Prop where
  fine : Fine M
  own : OwnIn o w
  head : ∃ bn bs vw vk, Head k p M φ o K w bn bs vw vk
  file : ∀ i, Live M i → FileAt k φ o w i (M.fs i) ∧ (M.fs i).b.length ≤ L
  ops : 0 ≤ M.ops ∧ M.ops ≤ K
  cut : -9223372036854775808 ≤ M.cut ∧ M.cut ≤ 9223372036854775807
  opb : M.op ≤ 9223372036854775807
  wl : M.waits.length ≤ K
/-- where only k's blocks and new ones are written, the files of others stay -/
theorem FileAt.stays {k j : Nat} {φ : Nat → Nat} {o o' : Own} {w w' : World} {i : Nat} {f : FileS} (h : FileAt j φ o w i f) (ho : OwnIn o w) (ht : Turn k o o' w w') (hj : j ≠ k) : FileAt j φ o' w' i f := by
  obtain ⟨v, h1, h2, h3, h4⟩ := h
  have e := ht.other hj (ho.lt h2) h2
  refine ⟨v, h1.same e.1, e.2, own_same h3 fun g hg => (ht.other hj (ho.lt (h4 g hg)) (h4 g hg)).1, fun g hg => (ht.other hj (ho.lt (h4 g hg)) (h4 g hg)).2⟩
theorem Head.stays {k j p : Nat} {M : FSs} {φ : Nat → Nat} {o o' : Own} {K : Nat} {w w' : World} {bn bs : Nat} {vw vk : Value} (h : Head j p M φ o K w bn bs vw vk) (ho : OwnIn o w) (ht : Turn k o o' w w') (hj : j ≠ k) : Head j p M φ o' K w' bn bs vw vk where
  blk := h.blk.same (ht.other hj (ho.lt h.op) h.op).1
  op := (ht.other hj (ho.lt h.op) h.op).2
  on := (ht.other hj (ho.lt h.on) h.on).2
  os := (ht.other hj (ho.lt h.os) h.os).2
  now := by obtain ⟨N, h1, h2⟩ := h.now; exact ⟨N, h1.same (ht.other hj (ho.lt h.on) h.on).1, h2⟩
  syn := by obtain ⟨N, h1, h2⟩ := h.syn; exact ⟨N, h1.same (ht.other hj (ho.lt h.os) h.os).1, h2⟩
  waits := own_same h.waits fun g hg => (ht.other hj (ho.lt (h.ow g hg)) (h.ow g hg)).1
  ow := fun g hg => (ht.other hj (ho.lt (h.ow g hg)) (h.ow g hg)).2
  keep := own_same h.keep fun g hg => (ht.other hj (ho.lt (h.ok g hg)) (h.ok g hg)).1
  ok := fun g hg => (ht.other hj (ho.lt (h.ok g hg)) (h.ok g hg)).2
theorem RelP.stays {k j p : Nat} {M : FSs} {φ : Nat → Nat} {o o' : Own} {K L : Nat} {w w' : World} (h : RelP j p M φ o K L w) (ho' : OwnIn o' w') (ht : Turn k o o' w w') (hj : j ≠ k) : RelP j p M φ o' K L w' where
  fine := h.fine
  own := ho'
  head := by obtain ⟨bn, bs, vw, vk, hh⟩ := h.head; exact ⟨bn, bs, vw, vk, hh.stays h.own ht hj⟩
  file := fun i hi => ⟨(h.file i hi).1.stays h.own ht hj, (h.file i hi).2⟩
  ops := h.ops
  cut := h.cut
  opb := h.opb
  wl := h.wl
end Go.Mun
