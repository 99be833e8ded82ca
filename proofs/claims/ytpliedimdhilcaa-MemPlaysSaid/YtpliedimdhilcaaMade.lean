/- A region that draws its order and makes memory: values told ahead, blocks made and filled, blocks that lay there filled anew: one walk an operation, whatever the order. Over any program. -/
import Derived.Test.YtpliedimdhilcaaRegion
import Derived.Test.YtpliedimdhilcaaBlk
namespace Go.Mun
open Go Go.RowKit

/-- What an operation of such a region is: one whose value is known ahead (a load, a sum, a call), one that makes a block (zero cells z, cells cs in the end), one that fills the block that operation j makes, one that fills a block that lies there. -/
inductive Knd
  | val (v : Value)
  | new (t : TypeId) (z cs : Array Value)
  | putN (j : Nat)
  | putG (g : Nat) (t : TypeId) (old cs : Array Value)

namespace Knd
def value (G : Nat → Nat) (k : Nat) : Knd → Value
  | .val v => v
  | .new _ _ _ => .pointer (some ⟨G k, 0, none⟩)
  | _ => undef
def isPut (j : Nat) : Knd → Bool
  | .putN j' => j' == j
  | _ => false
def isNew : Knd → Bool
  | .new _ _ _ => true
  | _ => false
def blockOf : Knd → Option Nat
  | .putG g _ _ _ => some g
  | _ => none
def putOf : Knd → Option Nat
  | .putN j => some j
  | _ => none
end Knd

def kindAt (K : List Knd) (i : Nat) : Knd := (K[i]?).getD (.val undef)
/-- the values of all operations, the new blocks' places told -/
def vals (K : List Knd) (G : Nat → Nat) (i : Nat) : Value := (kindAt K i).value G i
/-- the places that are filled anew -/
def heldBy (K : List Knd) : List Nat := K.filterMap Knd.blockOf
/-- is the block of operation j filled? -/
def stored (K : List Knd) (L : Nat → Bool) (j : Nat) : Bool := K.zipIdx.any fun (k, i) => k.isPut j && L i

/-- what every world on the way has -/
def Way (K : List Knd) (base B : Nat) (w0 wB w : World) : Prop := base ≤ w.heap.size ∧ (∀ g, g < base → g ∉ heldBy K → w.heap[g]? = w0.heap[g]?) ∧ Below B wB w

/-- what an operation finds, besides -/
def KPre (K : List Knd) (G : Nat → Nat) (w : World) : Knd → Prop
  | .putN j => match kindAt K j with
    | .new t z _ => Blk w (G j) t z
    | _ => False
  | .putG g t old _ => Blk w g t old
  | _ => True
/-- what an operation leaves -/
def KPost (K : List Knd) (G : Nat → Nat) (d : Option Tmp) (w : World) (k : Knd) : Exit → Act → World → Prop := fun e a w' =>
  e = .normal ∧ a.defers = [] ∧ match k with
    | .val v => (d.map fun d => a.tmps.getD d undef).getD undef = v ∧ Below w.heap.size w w'
    | .new t z _ => (∃ d', d = some d' ∧ a.tmps.getD d' undef = .pointer (some ⟨w.heap.size, 0, none⟩)) ∧ Below w.heap.size w w' ∧ Blk w' w.heap.size t z
    | .putN j => d = none ∧ match kindAt K j with
      | .new t _ cs => Blk w' (G j) t cs ∧ w.grownBy w' (some (G j))
      | _ => False
    | .putG g t _ cs => d = none ∧ Blk w' g t cs ∧ w.grownBy w' (some g)

/-- every operation, to be walked -/
def MadeStep (P : Program) (l : List Oper) (K : List Knd) (base B : Nat) (w0 wB : World) (a : Act) : List Oper → Nat → Prop
  | [], _ => True
  | o :: rest, k => (∀ (G : Nat → Nat) (w : World) (b : Act), Way K base B w0 wB w → KPre K G w (kindAt K k) → SlotFacts b l (vals K G) a (o.looksAt l.toArray) → b.defers = [] →
      (o.dst.getD 0) < b.tmps.size → OneStep P l.toArray (KPost K G o.dst w (kindAt K k)) o b w) ∧ MadeStep P l K base B w0 wB a rest (k + 1)

/-- who fills a block waits for who made it -/
def putsB (l : List Oper) (K : List Knd) : Bool :=
  decide ((K.filterMap Knd.putOf).Nodup) && l.zipIdx.all fun (o, i) => match kindAt K i with
    | .putN j => (o.after.toList.any fun e => Region.binds .any e && e.on == j) && (kindAt K j).isNew
    | _ => true

/-- the values in the end -/
def ValFacts (V : Nat → Value) (G : Nat → Nat) : Nat → List Knd → Prop
  | _, [] => True
  | k, x :: r => V k = x.value G k ∧ ValFacts V G (k + 1) r
theorem valFacts_vals {K : List Knd} {G : Nat → Nat} : ∀ (r : List Knd) (k : Nat), (∀ i, K[k + i]? = r[i]?) → ValFacts (vals K G) G k r
  | [], _, _ => trivial
  | x :: r, k, hr => by
    refine ⟨?_, valFacts_vals r (k + 1) (fun i => by rw [show k + 1 + i = k + (i + 1) from by omega, hr (i + 1)]; rfl)⟩
    have hx : K[k]? = some x := by simpa using hr 0
    unfold vals kindAt
    rw [hx]
    rfl
/-- the blocks that are filled anew, as they lie -/
def HeldFacts (w : World) : List Knd → Prop
  | [] => True
  | .putG g t old _ :: r => Blk w g t old ∧ HeldFacts w r
  | _ :: r => HeldFacts w r
theorem heldFacts_get {w : World} : ∀ {r : List Knd}, HeldFacts w r → ∀ (i g : Nat) (t : TypeId) (old cs : Array Value), r[i]? = some (Knd.putG g t old cs) → Blk w g t old
  | [], _, i, _, _, _, _, h => by simp at h
  | x :: r, h, i, g, t, old, cs, hi => by
    cases i with
    | zero =>
      simp only [List.getElem?_cons_zero, Option.some.injEq] at hi
      subst hi
      exact h.1
    | succ i =>
      refine heldFacts_get ?_ i g t old cs (by simpa using hi)
      cases x with
      | putG => exact h.2
      | _ => exact h
/-- the blocks in the end -/
def MadeFacts (K : List Knd) (G : Nat → Nat) (base : Nat) (w : World) : Nat → List Knd → Prop
  | _, [] => True
  | k, .new t z cs :: r => (base ≤ G k ∧ G k < w.heap.size ∧ Blk w (G k) t (if stored K (fun _ => true) k then cs else z)) ∧ MadeFacts K G base w (k + 1) r
  | k, .putG g t _ cs :: r => Blk w g t cs ∧ MadeFacts K G base w (k + 1) r
  | k, _ :: r => MadeFacts K G base w (k + 1) r

section
variable {K : List Knd} {G : Nat → Nat} {base B : Nat} {w0 wB w w' : World}
theorem way_blk {g : Nat} {t : TypeId} {cs : Array Value} (h : Way K base B w0 wB w) (hb : Blk w0 g t cs) (hg : g < base) (hn : g ∉ heldBy K) : Blk w g t cs := (h.2.1 g hg hn).trans hb
theorem kp_val {d : Tmp} {b : Act} {v : Value} (hd : b.defers = []) (hs : d < b.tmps.size) (hb : Below w.heap.size w w') : KPost K G (some d) w (.val v) .normal (b.put (some d) v) w' := by
  refine ⟨rfl, by rw [put_def]; exact hd, ?_, hb⟩
  show (b.put (some d) v).tmps.getD d undef = v
  rw [Array.getD_eq_getD_getElem?, put_same, if_pos hs]; rfl
/-- the same, as the walk leaves it -/
theorem kp_post {d : Tmp} {tmps : Array Value} {v : Value} (hs : d < tmps.size) (hb : Below w.heap.size w w') : KPost K G (some d) w (.val v) .normal ⟨tmps.setIfInBounds d v, []⟩ w' := kp_val (b := ⟨tmps, []⟩) rfl hs hb
theorem kp_post' {d : Tmp} {tmps : Array Value} {v v' : Value} (hs : d < tmps.size) (hb : Below w.heap.size w w') (e : v' = v) : KPost K G (some d) w (.val v) .normal ⟨tmps.setIfInBounds d v', []⟩ w' := by subst e; exact kp_post hs hb
theorem kp_new {d : Tmp} {b : Act} {t : TypeId} {z cs : Array Value} (hd : b.defers = []) (hs : d < b.tmps.size) (hb : Below w.heap.size w w') (hx : Blk w' w.heap.size t z) :
    KPost K G (some d) w (.new t z cs) .normal (b.put (some d) (.pointer (some ⟨w.heap.size, 0, none⟩))) w' := by
  refine ⟨rfl, by rw [put_def]; exact hd, ⟨d, rfl, ?_⟩, hb, hx⟩
  rw [Array.getD_eq_getD_getElem?, put_same, if_pos hs]; rfl
end

theorem nodup_unique {α β : Type} {f : α → Option β} : ∀ {l : List α}, (l.filterMap f).Nodup → ∀ {i j : Nat} {x y : α} {b : β}, l[i]? = some x → l[j]? = some y → f x = some b → f y = some b → i = j
  | [], _, i, _, _, _, _, hi, _, _, _ => by simp at hi
  | a :: l, hn, i, j, x, y, b, hi, hj, h1, h2 => by
    have hmem : ∀ (k : Nat) (p : α), l[k]? = some p → f p = some b → b ∈ l.filterMap f := fun k p hk hp => List.mem_filterMap.2 ⟨p, List.mem_of_getElem? hk, hp⟩
    have hn' : (l.filterMap f).Nodup := by
      rw [List.filterMap_cons] at hn
      split at hn
      · exact hn
      · exact (List.nodup_cons.1 hn).2
    have hno : f a = some b → b ∉ l.filterMap f := fun e => by
      rw [List.filterMap_cons, e] at hn
      exact (List.nodup_cons.1 hn).1
    cases i with
    | zero =>
      simp only [List.getElem?_cons_zero, Option.some.injEq] at hi
      subst hi
      cases j with
      | zero => rfl
      | succ j => exact absurd (hmem j y (by simpa using hj) h2) (hno h1)
    | succ i =>
      cases j with
      | zero =>
        simp only [List.getElem?_cons_zero, Option.some.injEq] at hj
        subst hj
        exact absurd (hmem i x (by simpa using hi) h1) (hno h2)
      | succ j =>
        have := nodup_unique hn' (i := i) (j := j) (x := x) (y := y) (by simpa using hi) (by simpa using hj) h1 h2
        omega

theorem stored_iff {K : List Knd} {L : Nat → Bool} {j : Nat} : stored K L j = true ↔ ∃ i, K[i]? = some (.putN j) ∧ L i = true := by
  unfold stored
  rw [List.any_eq_true]
  constructor
  · rintro ⟨⟨k, i⟩, hm, h⟩
    have hk := List.mk_mem_zipIdx_iff_getElem?.1 hm
    simp only [Bool.and_eq_true] at h
    cases k with
    | putN j' =>
      simp only [Knd.isPut, beq_iff_eq] at h
      obtain ⟨rfl, hl⟩ := h
      exact ⟨i, hk, hl⟩
    | _ => simp [Knd.isPut] at h
  · rintro ⟨i, hk, hl⟩
    exact ⟨(.putN j, i), List.mk_mem_zipIdx_iff_getElem?.2 hk, by simp [Knd.isPut, hl]⟩
theorem kindAt_some {K : List Knd} {i : Nat} {k : Knd} (h : K[i]? = some k) : kindAt K i = k := by unfold kindAt; rw [h]; rfl
theorem kindAt_get {K : List Knd} {i : Nat} (h : i < K.length) : K[i]? = some (kindAt K i) := by
  unfold kindAt
  simp [List.getElem?_eq_getElem h]

section
variable {P : Program}
theorem madeStep_get {l : List Oper} {K : List Knd} {base B : Nat} {w0 wB : World} {a : Act} : ∀ {r : List Oper} {k : Nat}, MadeStep P l K base B w0 wB a r k → ∀ i o, r[i]? = some o →
    ∀ (G : Nat → Nat) (w : World) (b : Act), Way K base B w0 wB w → KPre K G w (kindAt K (k + i)) → SlotFacts b l (vals K G) a (o.looksAt l.toArray) → b.defers = [] →
      (o.dst.getD 0) < b.tmps.size → OneStep P l.toArray (KPost K G o.dst w (kindAt K (k + i))) o b w
  | [], _, _, i, o, h => by simp at h
  | o :: r, k, h, i, o', hi => by
    cases i with
    | zero =>
      simp only [List.getElem?_cons_zero, Option.some.injEq] at hi
      subst hi
      exact h.1
    | succ i =>
      have := madeStep_get h.2 i o' (by simpa using hi)
      rw [show k + (i + 1) = k + 1 + i from by omega]
      exact this

/-- the invariant of the memory -/
structure Mem (K : List Knd) (base B : Nat) (w0 wB : World) (L : Nat → Bool) (G : Nat → Nat) (w : World) : Prop where
  way : Way K base B w0 wB w
  made : ∀ i t z cs, K[i]? = some (.new t z cs) → L i = true → base ≤ G i ∧ G i < w.heap.size ∧ Blk w (G i) t (if stored K L i then cs else z)
  apart : ∀ i j t z cs t' z' cs', K[i]? = some (.new t z cs) → K[j]? = some (.new t' z' cs') → L i = true → L j = true → i ≠ j → G i ≠ G j
  held : ∀ i g t old cs, K[i]? = some (.putG g t old cs) → Blk w g t (if L i then cs else old)

section
variable {K : List Knd} {base B : Nat} {w0 wB w w' : World} {L L' : Nat → Bool} {G : Nat → Nat} {i : Nat}
theorem stored_same (hL' : ∀ k, L' k = true ↔ (k = i ∨ L k = true)) {j : Nat} (hk : K[i]? ≠ some (.putN j)) : stored K L' j = stored K L j := by
  rw [Bool.eq_iff_iff, stored_iff, stored_iff]
  constructor
  · rintro ⟨i', h1, h2⟩
    rcases (hL' i').1 h2 with rfl | h
    · exact absurd h1 hk
    · exact ⟨i', h1, h⟩
  · rintro ⟨i', h1, h2⟩
    exact ⟨i', h1, (hL' i').2 (.inr h2)⟩
theorem way_below (h : Way K base B w0 wB w) (hB : B ≤ base) (hb : Below w.heap.size w w') : Way K base B w0 wB w' :=
  ⟨Nat.le_trans h.1 hb.size, fun g hg hn => (hb.block g (by have := h.1; omega)).trans (h.2.1 g hg hn), h.2.2.trans (hb.mono (by have := h.1; omega))⟩
theorem way_grown (h : Way K base B w0 wB w) (hB : B ≤ base) {g : Nat} (hg : w.grownBy w' (some g)) (hgb : g ∈ heldBy K ∧ B ≤ g ∨ base ≤ g) : Way K base B w0 wB w' := by
  refine ⟨Nat.le_trans h.1 hg.size, fun k hk hn => ?_, h.2.2.grown hg (by have := h.1; omega) (fun k hk => by cases hk; rcases hgb with h | h <;> omega)⟩
  refine (hg.block k (by have := h.1; omega) (fun e => ?_)).trans (h.2.1 k hk hn)
  cases e
  rcases hgb with h | h
  · exact hn h.1
  · omega
theorem mem_val (h : Mem K base B w0 wB L G w) (hB : B ≤ base) (hL' : ∀ k, L' k = true ↔ (k = i ∨ L k = true)) (hk : ∃ v, K[i]? = some (.val v)) (hb : Below w.heap.size w w') : Mem K base B w0 wB L' G w' := by
  obtain ⟨v, hk⟩ := hk
  refine ⟨way_below h.way hB hb, fun j t z cs hj hl => ?_, fun j j' t z cs t' z' cs' hj hj' hl hl' hne => ?_, fun j g t old cs hj => ?_⟩
  · rcases (hL' j).1 hl with rfl | hl
    · rw [hk] at hj; cases hj
    · obtain ⟨h1, h2, h3⟩ := h.made j t z cs hj hl
      rw [stored_same hL' (by rw [hk]; intro e; cases e)]
      exact ⟨h1, Nat.lt_of_lt_of_le h2 hb.size, h3.ext hb⟩
  · rcases (hL' j).1 hl with rfl | hl
    · rw [hk] at hj; cases hj
    · rcases (hL' j').1 hl' with rfl | hl'
      · rw [hk] at hj'; cases hj'
      · exact h.apart j j' t z cs t' z' cs' hj hj' hl hl' hne
  · have := h.held j g t old cs hj
    have e : L' j = L j := by
      rw [Bool.eq_iff_iff, hL' j]
      constructor
      · rintro (rfl | h)
        · rw [hk] at hj; cases hj
        · exact h
      · exact .inr
    rw [e]
    exact this.ext hb
theorem mem_new (h : Mem K base B w0 wB L G w) (hB : B ≤ base) (hL' : ∀ k, L' k = true ↔ (k = i ∨ L k = true)) {t : TypeId} {z cs : Array Value} (hk : K[i]? = some (.new t z cs)) (hns : stored K L i = false)
    (hb : Below w.heap.size w w') (hblk : Blk w' w.heap.size t z) : Mem K base B w0 wB L' (fun k => if k = i then w.heap.size else G k) w' := by
  have hlt := hblk.lt
  refine ⟨way_below h.way hB hb, fun j t' z' cs' hj hl => ?_, fun j j' t z cs t' z' cs' hj hj' hl hl' hne => ?_, fun j g t' old cs' hj => ?_⟩
  · rw [stored_same hL' (by rw [hk]; intro e; cases e)]
    rcases (hL' j).1 hl with rfl | hl
    · rw [hk] at hj
      injection hj with e
      injection e with e1 e2 e3
      subst e1
      subst e2
      subst e3
      rw [if_pos rfl, hns]
      exact ⟨h.way.1, hlt, hblk⟩
    · obtain ⟨h1, h2, h3⟩ := h.made j t' z' cs' hj hl
      by_cases e : j = i
      · subst e
        rw [hk] at hj
        injection hj with e
        injection e with e1 e2 e3
        subst e1
        subst e2
        subst e3
        rw [if_pos rfl, hns]
        exact ⟨h.way.1, hlt, hblk⟩
      · rw [if_neg e]
        exact ⟨h1, Nat.lt_of_lt_of_le h2 hb.size, h3.ext hb⟩
  · by_cases e : j = i
    · by_cases e' : j' = i
      · omega
      · rw [if_pos e, if_neg e']
        rcases (hL' j').1 hl' with rfl | hl'
        · exact absurd rfl e'
        · have := (h.made j' t' z' cs' hj' hl').2.1
          omega
    · by_cases e' : j' = i
      · rw [if_neg e, if_pos e']
        rcases (hL' j).1 hl with rfl | hl
        · exact absurd rfl e
        · have := (h.made j t z cs hj hl).2.1
          omega
      · rw [if_neg e, if_neg e']
        rcases (hL' j).1 hl with rfl | hl
        · exact absurd rfl e
        · rcases (hL' j').1 hl' with rfl | hl'
          · exact absurd rfl e'
          · exact h.apart j j' t z cs t' z' cs' hj hj' hl hl' hne
  · have := h.held j g t' old cs' hj
    have e : L' j = L j := by
      rw [Bool.eq_iff_iff, hL' j]
      constructor
      · rintro (rfl | h)
        · rw [hk] at hj; cases hj
        · exact h
      · exact .inr
    rw [e]
    exact this.ext hb
theorem mem_putN (h : Mem K base B w0 wB L G w) (hB : B ≤ base) (hheld : ∀ g ∈ heldBy K, g < base) (hL' : ∀ k, L' k = true ↔ (k = i ∨ L k = true)) {j : Nat} (hk : K[i]? = some (.putN j)) {t : TypeId} {z cs : Array Value} (hj : K[j]? = some (.new t z cs)) (hlj : L j = true)
    (hblk : Blk w' (G j) t cs) (hg : w.grownBy w' (some (G j))) : Mem K base B w0 wB L' G w' := by
  have hm := h.made j t z cs hj hlj
  refine ⟨way_grown h.way hB hg (.inr hm.1), fun j' t' z' cs' hj' hl => ?_, fun j j' t z cs t' z' cs' hj hj' hl hl' hne => ?_, fun j' g t' old cs' hj' => ?_⟩
  · rcases (hL' j').1 hl with rfl | hl
    · rw [hk] at hj'; cases hj'
    · obtain ⟨h1, h2, h3⟩ := h.made j' t' z' cs' hj' hl
      refine ⟨h1, Nat.lt_of_lt_of_le h2 hg.size, ?_⟩
      by_cases e : j' = j
      · subst e
        rw [hj] at hj'
        injection hj' with e
        injection e with e1 e2 e3
        subst e1
        subst e2
        subst e3
        rw [if_pos (stored_iff.2 ⟨i, hk, (hL' i).2 (.inl rfl)⟩)]
        exact hblk
      · rw [stored_same hL' (by rw [hk]; intro e'; injection e' with e'; injection e' with e'; exact e e'.symm)]
        exact h3.grown hg (fun e' => h.apart j' j t' z' cs' t z cs hj' hj hl hlj e (by injection e'))
  · rcases (hL' j).1 hl with rfl | hl
    · rw [hk] at hj; cases hj
    · rcases (hL' j').1 hl' with rfl | hl'
      · rw [hk] at hj'; cases hj'
      · exact h.apart j j' t z cs t' z' cs' hj hj' hl hl' hne
  · have := h.held j' g t' old cs' hj'
    have e : L' j' = L j' := by
      rw [Bool.eq_iff_iff, hL' j']
      constructor
      · rintro (rfl | h)
        · rw [hk] at hj'; cases hj'
        · exact h
      · exact .inr
    rw [e]
    have hgb := hheld g (List.mem_filterMap.2 ⟨_, List.mem_of_getElem? hj', rfl⟩)
    exact this.grown hg (fun e' => by injection e' with e'; have := hm.1; omega)
theorem mem_putG (h : Mem K base B w0 wB L G w) (hB : B ≤ base) (hnd : (heldBy K).Nodup) (hheld : ∀ g ∈ heldBy K, B ≤ g ∧ g < base) (hL' : ∀ k, L' k = true ↔ (k = i ∨ L k = true)) {g : Nat} {t : TypeId} {old cs : Array Value} (hk : K[i]? = some (.putG g t old cs))
    (hblk : Blk w' g t cs) (hg : w.grownBy w' (some g)) : Mem K base B w0 wB L' G w' := by
  have hmem : g ∈ heldBy K := List.mem_filterMap.2 ⟨_, List.mem_of_getElem? hk, rfl⟩
  have hgb := hheld g hmem
  refine ⟨way_grown h.way hB hg (.inl ⟨hmem, hgb.1⟩), fun j' t' z' cs' hj' hl => ?_, fun j j' t z cs t' z' cs' hj hj' hl hl' hne => ?_, fun j' g' t' old' cs' hj' => ?_⟩
  · rw [stored_same hL' (by rw [hk]; intro e; cases e)]
    rcases (hL' j').1 hl with rfl | hl
    · rw [hk] at hj'; cases hj'
    · obtain ⟨h1, h2, h3⟩ := h.made j' t' z' cs' hj' hl
      exact ⟨h1, Nat.lt_of_lt_of_le h2 hg.size, h3.grown hg (fun e' => by injection e' with e'; omega)⟩
  · rcases (hL' j).1 hl with rfl | hl
    · rw [hk] at hj; cases hj
    · rcases (hL' j').1 hl' with rfl | hl'
      · rw [hk] at hj'; cases hj'
      · exact h.apart j j' t z cs t' z' cs' hj hj' hl hl' hne
  · by_cases e : j' = i
    · subst e
      rw [hk] at hj'
      injection hj' with e
      injection e with e1 e2 e3 e4
      subst e1
      subst e2
      subst e4
      rw [if_pos ((hL' j').2 (.inl rfl))]
      exact hblk
    · have := h.held j' g' t' old' cs' hj'
      have e2 : L' j' = L j' := by
        rw [Bool.eq_iff_iff, hL' j']
        constructor
        · rintro (h | h)
          · exact absurd h e
          · exact h
        · exact .inr
      rw [e2]
      exact this.grown hg (fun e' => by injection e' with e'; exact e (nodup_unique hnd hj' hk (b := g) (by rw [← e']; rfl) rfl))
end
theorem madeFacts_of {K : List Knd} {base B : Nat} {w0 wB w : World} {G : Nat → Nat} {L : Nat → Bool} (h : Mem K base B w0 wB L G w) (hL : ∀ i, i < K.length → L i = true) : ∀ (r : List Knd) (k : Nat), (∀ i, K[k + i]? = r[i]?) → MadeFacts K G base w k r
  | [], _, _ => trivial
  | x :: r, k, hr => by
    have hx : K[k]? = some x := by simpa using hr 0
    have hlt : k < K.length := (List.getElem?_eq_some_iff.1 hx).1
    have hrest := madeFacts_of h hL r (k + 1) (fun i => by rw [show k + 1 + i = k + (i + 1) from by omega, hr (i + 1)]; rfl)
    have hst : ∀ j, stored K L j = stored K (fun _ => true) j := fun j => by
      rw [Bool.eq_iff_iff, stored_iff, stored_iff]
      constructor
      · rintro ⟨i, h1, _⟩; exact ⟨i, h1, rfl⟩
      · rintro ⟨i, h1, _⟩; exact ⟨i, h1, hL i (List.getElem?_eq_some_iff.1 h1).1⟩
    cases x with
    | new t z cs =>
      have := h.made k t z cs hx (hL k hlt)
      rw [hst] at this
      exact ⟨this, hrest⟩
    | putG g t old cs =>
      have := h.held k g t old cs hx
      rw [if_pos (hL k hlt)] at this
      exact ⟨this, hrest⟩
    | val v => exact hrest
    | putN j => exact hrest

theorem wp_region_made {id : Nat} {l : List Oper} (K : List Knd) {Q : Exit → Act → World → Prop} {a : Act} {w : World} (hm : P.follows .mixedOrders = true) (hB : regionB l = true) (hPB : putsB l K = true) (hlen : K.length = l.length)
    (hin : (l.all fun o => (o.looksAt l.toArray).all (fun t => decide (t < a.tmps.size)) && match o.dst with | some d => decide (d < a.tmps.size) | none => decide (0 < a.tmps.size)) = true) (hdef : a.defers = [])
    {B : Nat} {wB : World} (hBs : B ≤ w.heap.size) (hbelow : Below B wB w) (hhn : (heldBy K).Nodup) (hhb : ∀ g ∈ heldBy K, B ≤ g ∧ g < w.heap.size) (hheld0 : HeldFacts w K)
    (hstep : MadeStep P l K w.heap.size B w wB a l 0)
    (hend : ∀ (G : Nat → Nat) (V : Nat → Value) (w' : World), ValFacts V G 0 K → Way K w.heap.size B w wB w' → MadeFacts K G w.heap.size w' 0 K → (∀ (i j : Nat) (t : TypeId) (z cs : Array Value) (t' : TypeId) (z' cs' : Array Value), K[i]? = some (Knd.new t z cs) → K[j]? = some (Knd.new t' z' cs') → i ≠ j → G i ≠ G j) → Q .normal (fill l 0 V a) w') : (Code.region id l.toArray true).wp P Q a w := by
  have hB' := hB
  have hheld := heldFacts_get hheld0
  simp only [regionB, Bool.and_eq_true] at hB
  obtain ⟨⟨hB1, hB2⟩, hB3⟩ := hB
  have hnd : (l.filterMap (·.dst)).Nodup := of_decide_eq_true hB1
  have hun := dsts_unique l hnd
  simp only [putsB, Bool.and_eq_true] at hPB
  obtain ⟨hPn, hPd⟩ := hPB
  have hPn' : (K.filterMap Knd.putOf).Nodup := of_decide_eq_true hPn
  have hdeps : ∀ (i : Nat) (o : Oper), l[i]? = some o → (∀ e ∈ o.after, Region.binds .any e = true → e.on < i) ∧
      ∀ (j : Nat) (p : Oper) (t : Tmp), l[j]? = some p → p.dst = some t → t ∈ o.looksAt l.toArray → ∃ e ∈ o.after, Region.binds .any e = true ∧ e.on = j := by
    intro i o hi
    have hmem : (o, i) ∈ l.zipIdx := List.mk_mem_zipIdx_iff_getElem?.2 hi
    have h1 := List.all_eq_true.1 hB2 _ hmem
    simp only [Bool.and_eq_true] at h1
    refine ⟨fun e he hb => ?_, fun j p t hj hp ht => ?_⟩
    · have := List.all_eq_true.1 h1.1 e (by simpa using he)
      simpa [hb] using this
    · have hmem' : (p, j) ∈ l.zipIdx := List.mk_mem_zipIdx_iff_getElem?.2 hj
      have := List.all_eq_true.1 h1.2 _ hmem'
      simp only [hp] at this
      rw [Bool.or_eq_true] at this
      rcases this with h | h
      · have hc : (o.looksAt l.toArray).contains t = true := by simpa using ht
        rw [hc] at h
        cases h
      · obtain ⟨e, he, hb⟩ := List.any_eq_true.1 h
        simp only [Bool.and_eq_true, beq_iff_eq] at hb
        exact ⟨e, by simpa using he, hb.1, hb.2⟩
  have hinp : ∀ (i : Nat) (o : Oper), l[i]? = some o → (∀ t ∈ o.looksAt l.toArray, t < a.tmps.size) ∧ (o.dst.getD 0) < a.tmps.size := by
    intro i o hi
    have := List.all_eq_true.1 hin o (List.mem_of_getElem? hi)
    simp only [Bool.and_eq_true] at this
    refine ⟨fun t ht => by simpa using List.all_eq_true.1 this.1 t ht, ?_⟩
    have h2 := this.2
    cases hd : o.dst with
    | some d => rw [hd] at h2; simpa using h2
    | none => rw [hd] at h2; simpa using h2
  have hops : ∀ i : Nat, l.toArray[i]? = l[i]? := fun i => by simp
  refine wp_region_any hm ?_
  let I : Array Bool → Act → World → Prop := fun listed a' w' => ∃ G : Nat → Nat, a' = fillP l 0 (fun i => listed.getD i false) (vals K G) a ∧ Mem K w.heap.size B w wB (fun i => listed.getD i false) G w' ∧
    ∀ (j : Nat) (o : Oper), l[j]? = some o → listed.getD j false = true → ∀ e ∈ o.after, Region.binds .any e = true → listed.getD e.on false = true
  refine wpAny_inv I (fun i o hi => (hdeps i o (by rw [← hops]; exact hi)).1) ?_ ?_ _ _ _ _ (by simp) ?_ ?_
  · intro listed a' w' i hsz hr hI
    obtain ⟨G, rfl, hM, hM'⟩ := hI
    obtain ⟨hun', o, ho, hall⟩ := mem_ready.1 hr
    have ho' : l[i]? = some o := by rw [← hops]; exact ho
    have hil : i < l.length := (List.getElem?_eq_some_iff.1 ho').1
    have hil' : i < listed.size := by rw [hsz]; simpa using hil
    have hki := kindAt_get (K := K) (i := i) (by omega)
    have hlf : listed.getD i false = false := by
      simp only [Array.getD, hil', dif_pos] at hun' ⊢
      exact hun'
    have hsame : ∀ t, t ∈ o.looksAt l.toArray → (fillP l 0 (fun i => listed.getD i false) (vals K G) a).tmps[t]? = (fill l 0 (vals K G) a).tmps[t]? := by
      intro t ht
      rw [fill_eq]
      refine fillP_congr l t 0 _ _ _ _ a a rfl rfl fun j p hj hp => ?_
      obtain ⟨e, he, hb, hej⟩ := (hdeps i o ho').2 j p t hj hp ht
      have := hall e he hb
      rw [hej] at this
      simp only [Nat.zero_add]
      exact ⟨this, trivial⟩
    have hev : ∀ x ∈ o.op.operands, (fillP l 0 (fun i => listed.getD i false) (vals K G) a).eval x = (fill l 0 (vals K G) a).eval x := by
      intro x hx
      cases x with
      | tmp t =>
        have := hsame t (by
          unfold Oper.looksAt
          exact List.mem_append.2 (.inl (List.mem_filterMap.2 ⟨.tmp t, by simpa using hx, rfl⟩)))
        show (fillP l 0 (fun i => listed.getD i false) (vals K G) a).tmps.getD t undef = (fill l 0 (vals K G) a).tmps.getD t undef
        rw [Array.getD_eq_getD_getElem?, Array.getD_eq_getD_getElem?, this]
      | _ => rfl
    have hex : execOp (fillP l 0 (fun i => listed.getD i false) (vals K G) a).eval o = execOp (fill l 0 (vals K G) a).eval o :=
      execOp_congr o (Region.noSelect_spec hB3 i o · · ho) hev
    have hwant : Region.wanted o (yielded l.toArray (fillP l 0 (fun i => listed.getD i false) (vals K G) a).tmps) = Region.wanted o (yielded l.toArray (fill l 0 (vals K G) a).tmps) := by
      unfold Region.wanted
      cases hg : o.guard with
      | none => rfl
      | some jw =>
        obtain ⟨j, want⟩ := jw
        simp only
        congr 1
        unfold yielded
        cases hj : (l.toArray[j]?).bind (·.dst) with
        | none => rfl
        | some t =>
          simp only [Option.bind_some]
          rw [hsame t (by
            unfold Oper.looksAt
            refine List.mem_append.2 (.inr ?_)
            rw [hg]
            show t ∈ ((l.toArray[j]?).bind (·.dst)).toList
            rw [hj]
            simp)]
    -- what it finds
    have hpre : KPre K G w' (kindAt K i) := by
      cases hk : kindAt K i with
      | val v => trivial
      | new t z cs => trivial
      | putG g t old cs =>
        rw [hk] at hki
        have := hM.held i g t old cs hki
        rw [if_neg (by rw [hlf]; decide)] at this
        exact this
      | putN j =>
        rw [hk] at hki
        have hdj := List.all_eq_true.1 hPd (o, i) (List.mk_mem_zipIdx_iff_getElem?.2 ho')
        simp only [hk, Bool.and_eq_true] at hdj
        obtain ⟨hdj, hnew⟩ := hdj
        obtain ⟨e, he, hb⟩ := List.any_eq_true.1 hdj
        simp only [Bool.and_eq_true, beq_iff_eq] at hb
        have hlj := hall e (by simpa using he) hb.1
        rw [hb.2] at hlj
        have hji : j < i := by
          have := (hdeps i o ho').1 e (by simpa using he) hb.1
          omega
        have hkj := kindAt_get (K := K) (i := j) (by omega)
        have hs : stored K (fun i => listed.getD i false) j = false := by
          cases h : stored K (fun i => listed.getD i false) j with
          | false => rfl
          | true =>
            obtain ⟨i', hi', hl'⟩ := stored_iff.1 h
            have := nodup_unique hPn' hi' hki (b := j) rfl rfl
            subst this
            rw [hlf] at hl'
            cases hl'
        show match kindAt K j with | .new t z _ => Blk w' (G j) t z | _ => False
        cases hkk : kindAt K j with
        | new t z cs =>
          rw [hkk] at hkj
          have := (hM.made j t z cs hkj hlj).2.2
          rw [hs] at this
          exact this
        | _ => rw [hkk] at hnew; cases hnew
    have hsf : SlotFacts (fill l 0 (vals K G) a) l (vals K G) a (o.looksAt l.toArray) := slotFacts_of fun t ht => fill_slot hnd ((hinp i o ho').1 t ht)
    have hone := (madeStep_get hstep i o ho' G w' (fill l 0 (vals K G) a) hM.way (by rw [Nat.zero_add]; exact hpre) hsf (by rw [fill_eq, fillP_def]; exact hdef) (by rw [fill_eq, fillP_size]; exact (hinp i o ho').2)).out
    rw [Nat.zero_add] at hone
    have hL' : ∀ k, (listed.setIfInBounds i true).getD k false = true ↔ (k = i ∨ listed.getD k false = true) := by
      intro k
      by_cases e : k = i
      · subst e
        simp [hil']
      · rw [getD_set_ne false (Ne.symm e)]
        simp [e]
    have hcl : ∀ (j : Nat) (o : Oper), l[j]? = some o → (listed.setIfInBounds i true).getD j false = true → ∀ e ∈ o.after, Region.binds .any e = true → (listed.setIfInBounds i true).getD e.on false = true := by
      intro j o2 hj hl e he hb
      rcases (hL' j).1 hl with rfl | hl
      · rw [ho'] at hj
        injection hj with hj
        subst hj
        exact (hL' _).2 (.inr (hall e he hb))
      · exact (hL' _).2 (.inr (hM' j o2 hj hl e he hb))
    -- what it leaves
    have hK : ∀ v w'', KPost K G o.dst w' (kindAt K i) .normal ((fill l 0 (vals K G) a).put o.dst v) w'' → I (listed.setIfInBounds i true) ((fillP l 0 (fun i => listed.getD i false) (vals K G) a).put o.dst v) w'' := by
      rintro v w'' ⟨_, _, hpost⟩
      have hval : ∀ x, ((o.dst.map fun d => ((fill l 0 (vals K G) a).put o.dst v).tmps.getD d undef).getD undef = x) → (match o.dst with | some _ => v | none => undef) = x := by
        intro x hx
        rw [← hx]
        cases hd : o.dst with
        | none => rfl
        | some d =>
          have hds := (hinp i o ho').2
          rw [hd] at hds
          have hds' : d < a.tmps.size := hds
          simp only [Option.map_some, Option.getD_some]
          rw [Array.getD_eq_getD_getElem?, put_same, fill_eq, fillP_size, if_pos hds']
          rfl
      have hframe : ∀ G', (∀ k, k ≠ i → listed.getD k false = true → vals K G' k = vals K G k) → vals K G' i = (match o.dst with | some _ => v | none => undef) →
          (fillP l 0 (fun i => listed.getD i false) (vals K G) a).put o.dst v = fillP l 0 (fun k => (listed.setIfInBounds i true).getD k false) (vals K G') a := by
        intro G' h1 h2
        refine act_ext ?_ ?_ ?_
        · rw [put_size, fillP_size, fillP_size]
        · intro t ht
          rw [put_size, fillP_size] at ht
          by_cases hot : o.dst = some t
          · have hput : ((fillP l 0 (fun i => listed.getD i false) (vals K G) a).put o.dst v).tmps[t]? = some v := by rw [hot, put_same, fillP_size, if_pos ht]
            rw [hput]
            have := fillP_get l t 0 (fun k => (listed.setIfInBounds i true).getD k false) (vals K G') a i o ho' hot (by simp [hil']) ht
              (fun j p hj hp => hun j i p o t hj ho' hp hot)
            rw [this, Nat.zero_add, h2, hot]
          · rw [put_other hot]
            by_cases hex2 : ∃ j p, l[j]? = some p ∧ p.dst = some t ∧ listed.getD j false = true
            · obtain ⟨j, p, hj, hp, hlj⟩ := hex2
              have hji : j ≠ i := fun e => by rw [e] at hlj; rw [hlf] at hlj; cases hlj
              rw [fillP_get l t 0 (fun i => listed.getD i false) (vals K G) a j p hj hp (by simpa using hlj) ht (fun j' p' hj' hp' => hun j' j p' p t hj' hj hp' hp),
                fillP_get l t 0 (fun k => (listed.setIfInBounds i true).getD k false) (vals K G') a j p hj hp (by rw [Nat.zero_add]; exact (hL' j).2 (.inr hlj)) ht (fun j' p' hj' hp' => hun j' j p' p t hj' hj hp' hp), Nat.zero_add, h1 j hji hlj]
            · have hno : ∀ (L : Nat → Bool) (V : Nat → Value), (∀ j p, l[j]? = some p → p.dst = some t → L j = false) → (fillP l 0 L V a).tmps[t]? = a.tmps[t]? := by
                intro L V hL
                have := fillP_congr l t 0 L (fun _ => false) V V a a rfl rfl (fun j p hj hp => ⟨by rw [Nat.zero_add]; exact hL j p hj hp, rfl⟩)
                rw [this]
                have hnone : ∀ (l : List Oper) (k : Nat) (a : Act), fillP l k (fun _ => false) V a = a := by
                  intro l
                  induction l with
                  | nil => intros; rfl
                  | cons o l ih => intro k a; simp only [fillP]; exact ih _ _
                rw [hnone]
              have hf : ∀ j p, l[j]? = some p → p.dst = some t → listed.getD j false = false := fun j p hj hp => by
                cases h : listed.getD j false with
                | false => rfl
                | true => exact (hex2 ⟨j, p, hj, hp, h⟩).elim
              rw [hno _ _ hf, hno _ _ (fun j p hj hp => by
                have hne : j ≠ i := fun e => by
                  subst e
                  rw [hj] at ho'
                  injection ho' with e
                  exact hot (e ▸ hp)
                rw [getD_set_ne false (Ne.symm hne)]
                exact hf j p hj hp)]
        · rw [put_def, fillP_def, fillP_def]
      have hheld' : ∀ g ∈ heldBy K, g < w.heap.size := fun g hg => (hhb g hg).2
      cases hk : kindAt K i with
      | val v0 =>
        rw [hk] at hpost hki
        refine ⟨G, hframe G (fun _ _ _ => rfl) ?_, mem_val hM hBs hL' ⟨v0, hki⟩ hpost.2, hcl⟩
        show (kindAt K i).value G i = _
        rw [hk]
        exact (hval v0 hpost.1).symm
      | new t z cs =>
        rw [hk] at hpost hki
        obtain ⟨⟨d', hd', hv'⟩, hb', hblk⟩ := hpost
        have hns : stored K (fun i => listed.getD i false) i = false := by
          cases h : stored K (fun i => listed.getD i false) i with
          | false => rfl
          | true =>
            exfalso
            obtain ⟨i', hi', hl'⟩ := stored_iff.1 h
            have hi'l : i' < l.length := by have := (List.getElem?_eq_some_iff.1 hi').1; omega
            have hdj := List.all_eq_true.1 hPd (l[i'], i') (List.mk_mem_zipIdx_iff_getElem?.2 (List.getElem?_eq_getElem hi'l))
            simp only [kindAt_some hi', Bool.and_eq_true] at hdj
            obtain ⟨e, he, hb⟩ := List.any_eq_true.1 hdj.1
            simp only [Bool.and_eq_true, beq_iff_eq] at hb
            have := hM' i' l[i'] (by rw [List.getElem?_eq_getElem hi'l]) hl' e (by simpa using he) hb.1
            rw [hb.2, hlf] at this
            cases this
        refine ⟨fun k => if k = i then w'.heap.size else G k, hframe _ (fun k hki' _ => ?_) ?_, mem_new hM hBs hL' hki hns hb' hblk, hcl⟩
        · show (kindAt K k).value _ k = (kindAt K k).value _ k
          cases kindAt K k with
          | new t z cs =>
            show Value.pointer (some ⟨if k = i then w'.heap.size else G k, 0, none⟩) = _
            rw [if_neg hki']
            rfl
          | _ => rfl
        · show (kindAt K i).value _ i = _
          rw [hk]
          show Value.pointer (some ⟨if i = i then w'.heap.size else G i, 0, none⟩) = _
          rw [if_pos rfl]
          refine (hval _ ?_).symm
          rw [hd'] at hv' ⊢
          exact hv'
      | putN j =>
        rw [hk] at hpost hki
        obtain ⟨hdn, hpost⟩ := hpost
        have hdj := List.all_eq_true.1 hPd (o, i) (List.mk_mem_zipIdx_iff_getElem?.2 ho')
        simp only [hk, Bool.and_eq_true] at hdj
        obtain ⟨hdj, hnew⟩ := hdj
        obtain ⟨e, he, hb⟩ := List.any_eq_true.1 hdj
        simp only [Bool.and_eq_true, beq_iff_eq] at hb
        have hlj := hall e (by simpa using he) hb.1
        rw [hb.2] at hlj
        have hji : j < i := by
          have := (hdeps i o ho').1 e (by simpa using he) hb.1
          omega
        have hkj := kindAt_get (K := K) (i := j) (by omega)
        cases hkk : kindAt K j with
        | new t z cs =>
          rw [hkk] at hkj hpost
          refine ⟨G, hframe G (fun _ _ _ => rfl) ?_, mem_putN hM hBs hheld' hL' hki hkj hlj hpost.1 hpost.2, hcl⟩
          show (kindAt K i).value G i = _
          rw [hk, hdn]
          rfl
        | _ => rw [hkk] at hnew; cases hnew
      | putG g t old cs =>
        rw [hk] at hpost hki
        refine ⟨G, hframe G (fun _ _ _ => rfl) ?_, mem_putG hM hBs hhn hhb hL' hki hpost.2.1 hpost.2.2, hcl⟩
        show (kindAt K i).value G i = _
        rw [hk, hpost.1]
        rfl
    unfold wpOp
    rw [ho]
    simp only
    rw [hwant]
    unfold wpList at hone
    split
    · rename_i hw
      rw [if_pos hw] at hone
      refine .inl (op_carry (Q' := KPost K G o.dst w' (kindAt K i)) hex (fun e x y h => ⟨h.1, h.2.1⟩) hK ?_)
      rcases hone with h | ⟨_, x, y, h⟩
      · exact h
      · cases h.1
    · rename_i hw
      rw [if_neg hw] at hone
      exact hK undef w' hone
  · intro listed a' w' hfull hI
    obtain ⟨G, rfl, hM, _⟩ := hI
    have : fillP l 0 (fun i => listed.getD i false) (vals K G) a = fill l 0 (vals K G) a := by
      rw [fill_eq]
      refine act_ext (by rw [fillP_size, fillP_size]) (fun t _ => ?_) (by rw [fillP_def, fillP_def])
      refine fillP_congr l t 0 _ _ _ _ a a rfl rfl fun j p hj hp => ?_
      have hjl : j < l.length := (List.getElem?_eq_some_iff.1 hj).1
      simp only [Nat.zero_add]
      exact ⟨hfull j (by simpa using hjl), trivial⟩
    rw [this]
    have hLf : ∀ i, i < K.length → listed.getD i false = true := fun i hi => hfull i (by simp; omega)
    exact hend G _ w' (valFacts_vals K 0 (fun i => by rw [Nat.zero_add])) hM.way (madeFacts_of hM hLf K 0 (fun i => by rw [Nat.zero_add])) (fun i j t z cs t' z' cs' hi hj hne => hM.apart i j t z cs t' z' cs' hi hj (hLf i (List.getElem?_eq_some_iff.1 hi).1) (hLf j (List.getElem?_eq_some_iff.1 hj).1) hne)
  · unfold leftOf
    have := List.countP_le_length (p := fun b : Bool => b == false) (l := (Array.replicate l.toArray.size false).toList)
    simpa using this
  · have hnl : ∀ i, (Array.replicate l.toArray.size false).getD i false = false := fun i => by
      simp [Array.getElem?_replicate]
      split <;> rfl
    refine ⟨fun _ => 0, ?_, ⟨⟨Nat.le_refl _, fun _ _ _ => rfl, hbelow.drew⟩, fun i t z cs hi h => ?_, fun i j t z cs t' z' cs' hi hj h => ?_, fun i g t old cs hi => ?_⟩, fun j o hj h => ?_⟩
    · have hnone : ∀ (l : List Oper) (k : Nat) (L : Nat → Bool) (V : Nat → Value) (a : Act), (∀ i, L i = false) → fillP l k L V a = a := by
        intro l
        induction l with
        | nil => intros; rfl
        | cons o l ih => intro k L V a hL; simp only [fillP, hL]; exact ih _ _ _ _ hL
      rw [hnone _ _ _ _ _ hnl]
    · rw [hnl] at h; cases h
    · rw [hnl] at h; cases h
    · rw [hnl, if_neg (by decide)]
      exact hheld i g t old cs hi
    · rw [hnl] at h; cases h
end
end Go.Mun
