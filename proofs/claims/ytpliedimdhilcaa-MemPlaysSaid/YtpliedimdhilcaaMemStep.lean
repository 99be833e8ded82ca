/- StackAny, Four, Act, MeGetS, MeGetR, Step0, Step1, Step2, Step3, Step4, Step5, Step6, StepD, StepAll, ActArg, in one text. -/
import Derived.Test.YtpliedimdhilcaaSwap
import Derived.Test.YtpliedimdhilcaaPop
import Derived.Test.YtpliedimdhilcaaRefSwap
import Derived.Test.YtpliedimdhilcaaRefPop
import Derived.Test.YtpliedimdhilcaaMeGP
import Derived.Test.YtpliedimdhilcaaStr
import Derived.Laws.OwnMore
import Derived.Deep.MidRow
import Derived.Test.YtpliedimdhilcaaMeGrow
import Derived.Test.YtpliedimdhilcaaMeGrowR
import Derived.Test.YtpliedimdhilcaaPhase
import Derived.Test.YtpliedimdhilcaaSameW
import Derived.Test.YtpliedimdhilcaaWordArg
import Derived.Test.YtpliedimdhilcaaLaw
namespace Go.Mun
open Go Go.RowKit Go.Proofs

def dupOk (l : List Nat) (i : Int) : Bool := decide (1 ≤ i ∧ i ≤ l.length) && decide (l.length < 1024)
def dupL (l : List Nat) (i : Int) : List Nat := if 1 ≤ i ∧ i ≤ l.length then pushed l (l.getD (l.length - i.toNat) 0) else l
def swapOk (l : List Nat) (i : Int) : Bool := decide (1 ≤ i ∧ i ≤ (l.length : Int) - 1)
def swapL (l : List Nat) (i : Int) : List Nat := if 1 ≤ i ∧ i ≤ (l.length : Int) - 1 then (l.set (l.length - 1) (l.getD (l.length - 1 - i.toNat) 0)).set (l.length - 1 - i.toNat) (l.getD (l.length - 1) 0) else l
def popOk (l : List Nat) (i : Int) : Bool := decide (0 ≤ i ∧ i ≤ l.length)
def popL (l : List Nat) (i : Int) : List Nat := if 0 ≤ i ∧ i ≤ l.length then l.take (l.length - i.toNat) else l
def popW (l : List Nat) (i : Int) : List Nat := if 0 ≤ i ∧ i ≤ l.length then (l.drop (l.length - i.toNat)).reverse else []
theorem pushed_length (l : List Nat) (x : Nat) (h : l.length ≤ 1024) : (pushed l x).length ≤ 1024 := by
  unfold pushed
  split
  · rw [List.length_append]
    simp only [List.length_cons, List.length_nil]
    omega
  · exact h
theorem dupL_length (l : List Nat) (i : Int) (h : l.length ≤ 1024) : (dupL l i).length ≤ 1024 := by
  unfold dupL
  split
  · exact pushed_length _ _ h
  · exact h
theorem swapL_length (l : List Nat) (i : Int) : (swapL l i).length = l.length := by
  unfold swapL
  split
  · simp
  · rfl
theorem popL_length (l : List Nat) (i : Int) : (popL l i).length ≤ l.length := by
  unfold popL
  split
  · simp
  · exact Nat.le_refl _
theorem popW_length (l : List Nat) (i : Int) : (popW l i).length ≤ l.length := by
  unfold popW
  split
  · simp
  · simp
theorem getD_at {l : List Nat} {k : Nat} (h : k < l.length) : l[k]? = some (l.getD k 0) := by
  rw [List.getD_eq_getElem?_getD, List.getElem?_eq_getElem h]
  rfl

theorem push_any (x : Nat) (w : World) (g base : Nat) (l : List Nat) (r : Option Nat) (h : StR w g base l r) (hg : g < base) (hbs : base ≤ w.heap.size) :
    Calls Try.prog 20 #[.pointer (some ⟨g, 0, none⟩), .agg (wcells x)] w fun e w' => e = .returned (.bool (decide (l.length < 1024))) ∧ ∃ r', StR w' g base (pushed l x) r' ∧ Way2 g r w w' ∧ Moved w r r' := by
  refine (Push_all x w g base l r h hg hbs).mono ?_
  rintro e w' ⟨rfl, r', k1, _, k2, k3⟩
  exact ⟨rfl, r', k1, k2, k3⟩
theorem Dup_any (i : Int) (w : World) (g base : Nat) (l : List Nat) (r : Option Nat) (h1 : -9223372036854775808 ≤ i) (h2 : i ≤ 9223372036854775807) (h : StR w g base l r) (hg : g < base) (hbs : base ≤ w.heap.size) (hl : l.length ≤ 100000) :
    Calls Try.prog 21 #[.pointer (some ⟨g, 0, none⟩), .int .i64 i] w fun e w' => e = .returned (.bool (dupOk l i)) ∧ ∃ r', StR w' g base (dupL l i) r' ∧ Way2 g r w w' ∧ Moved w r r' := by
  by_cases hi : 1 ≤ i ∧ i ≤ l.length
  · obtain ⟨d, rfl⟩ : ∃ d : Nat, i = d := ⟨i.toNat, by omega⟩
    have e1 : dupOk l (d : Int) = decide (l.length < 1024) := by unfold dupOk; rw [decide_eq_true hi]; rfl
    have e2 : dupL l (d : Int) = pushed l (l.getD (l.length - d) 0) := by unfold dupL; rw [if_pos hi, Int.toNat_natCast]
    rw [e1, e2]
    refine (Dup_all d (l.length - d) (l.getD (l.length - d) 0) w g base l r h hg hbs (by omega) (by omega) hl (getD_at (by omega))).mono ?_
    rintro e w' ⟨rfl, r', k1, _, k2, k3⟩
    exact ⟨rfl, r', k1, k2, k3⟩
  · have e1 : dupOk l i = false := by unfold dupOk; rw [decide_eq_false hi]; rfl
    have e2 : dupL l i = l := if_neg hi
    rw [e1, e2]
    obtain ⟨A, c, h0, hm, ho⟩ := h
    refine (Dup_no i w g l.length c A h1 h2 hm (by omega)).mono ?_
    rintro e w' ⟨rfl, rfl⟩
    exact ⟨rfl, r, ⟨A, c, h0, hm, ho⟩, Way2.refl _, .inl rfl⟩
theorem Swap_any (i : Int) (w : World) (g base : Nat) (l : List Nat) (r : Option Nat) (h1 : -9223372036854775808 ≤ i) (h2 : i ≤ 9223372036854775807) (h : StR w g base l r) (hg : g < base) (hbs : base ≤ w.heap.size) (hl : l.length ≤ 100000) :
    Calls Try.prog 35 #[.pointer (some ⟨g, 0, none⟩), .int .i64 i] w fun e w' => e = .returned (.bool (swapOk l i)) ∧ ∃ r', StR w' g base (swapL l i) r' ∧ Way2 g r w w' ∧ Moved w r r' := by
  by_cases hi : 1 ≤ i ∧ i ≤ (l.length : Int) - 1
  · obtain ⟨d, rfl⟩ : ∃ d : Nat, i = d := ⟨i.toNat, by omega⟩
    have e1 : swapOk l (d : Int) = true := decide_eq_true hi
    have e2 : swapL l (d : Int) = (l.set (l.length - 1) (l.getD (l.length - 1 - d) 0)).set (l.length - 1 - d) (l.getD (l.length - 1) 0) := by unfold swapL; rw [if_pos hi, Int.toNat_natCast]
    rw [e1, e2]
    refine (Swap_all d (l.length - 1) (l.length - 1 - d) (l.getD (l.length - 1) 0) (l.getD (l.length - 1 - d) 0) w g base l r h hg hbs (by omega) (by omega) (by omega) hl (getD_at (by omega)) (getD_at (by omega))).mono ?_
    rintro e w' ⟨rfl, k1, _, k2⟩
    exact ⟨rfl, r, k1, k2, .inl rfl⟩
  · have e1 : swapOk l i = false := decide_eq_false hi
    have e2 : swapL l i = l := if_neg hi
    rw [e1, e2]
    obtain ⟨A, c, h0, hm, ho⟩ := h
    refine (Swap_no i w g l.length c A h1 h2 (by omega) hm (by omega)).mono ?_
    rintro e w' ⟨rfl, rfl⟩
    exact ⟨rfl, r, ⟨A, c, h0, hm, ho⟩, Way2.refl _, .inl rfl⟩
theorem Pop_any (i : Int) (w : World) (g base : Nat) (l : List Nat) (r : Option Nat) (h1 : -9223372036854775808 ≤ i) (h2 : i ≤ 9223372036854775807) (h : StR w g base l r) (hg : g < base) (hbs : base ≤ w.heap.size) (hl : l.length ≤ 100000) :
    Calls Try.prog 36 #[.pointer (some ⟨g, 0, none⟩), .int .i64 i] w fun e w' => ∃ A' c', e = .returned (.tuple #[.slice A' (popW l i).length c', .bool (popOk l i)]) ∧ w'.ownsRow w.heap.size 25 32 (.slice A' (popW l i).length c') (popW l i).length (wrow (popW l i)) ∧ StR w' g base (popL l i) r ∧ Way2 g none w w' := by
  by_cases hi : 0 ≤ i ∧ i ≤ l.length
  · obtain ⟨d, rfl⟩ : ∃ d : Nat, i = d := ⟨i.toNat, by omega⟩
    have e1 : popOk l (d : Int) = true := decide_eq_true hi
    have e2 : popL l (d : Int) = l.take (l.length - d) := by unfold popL; rw [if_pos hi, Int.toNat_natCast]
    have e3 : popW l (d : Int) = (l.drop (l.length - d)).reverse := by unfold popW; rw [if_pos hi, Int.toNat_natCast]
    have e4 : (popW l (d : Int)).length = d := by rw [e3, List.length_reverse, List.length_drop]; omega
    rw [e4, e1, e2, e3]
    refine (Pop_all d (l.length - d) w g base l r h hg hbs (by omega) hl).mono ?_
    rintro e w' ⟨A', c', rfl, k1, k2, _, k3⟩
    exact ⟨A', c', rfl, k1, k2, k3⟩
  · have e1 : popOk l i = false := decide_eq_false hi
    have e2 : popL l i = l := if_neg hi
    have e3 : popW l i = [] := if_neg hi
    rw [e1, e2, e3]
    obtain ⟨A, c, h0, hm, ho⟩ := h
    refine (Pop_no i w g l.length c A h1 h2 hm (by omega)).mono ?_
    rintro e w' ⟨rfl, rfl⟩
    exact ⟨none, 0, rfl, World.ownsRow_nil _ _ _ _, ⟨A, c, h0, hm, ho⟩, Way2.refl _⟩
namespace RS

theorem push_any (x : Nat) (w : World) (g base : Nat) (l : List Nat) (r : Option Nat) (h : StR w g base l r) (hg : g < base) (hbs : base ≤ w.heap.size) :
    Calls Try.prog 48 #[.pointer (some ⟨g, 0, none⟩), .agg (wcells x)] w fun e w' => e = .returned (.bool (decide (l.length < 1024))) ∧ ∃ r', StR w' g base (pushed l x) r' ∧ Way2 g r w w' ∧ Moved w r r' := by
  refine (Push_all x w g base l r h hg hbs).mono ?_
  rintro e w' ⟨rfl, r', k1, _, k2, k3⟩
  exact ⟨rfl, r', k1, k2, k3⟩
theorem Dup_any (i : Int) (w : World) (g base : Nat) (l : List Nat) (r : Option Nat) (h1 : -9223372036854775808 ≤ i) (h2 : i ≤ 9223372036854775807) (h : StR w g base l r) (hg : g < base) (hbs : base ≤ w.heap.size) (hl : l.length ≤ 100000) :
    Calls Try.prog 49 #[.pointer (some ⟨g, 0, none⟩), .int .i64 i] w fun e w' => e = .returned (.bool (dupOk l i)) ∧ ∃ r', StR w' g base (dupL l i) r' ∧ Way2 g r w w' ∧ Moved w r r' := by
  by_cases hi : 1 ≤ i ∧ i ≤ l.length
  · obtain ⟨d, rfl⟩ : ∃ d : Nat, i = d := ⟨i.toNat, by omega⟩
    have e1 : dupOk l (d : Int) = decide (l.length < 1024) := by unfold dupOk; rw [decide_eq_true hi]; rfl
    have e2 : dupL l (d : Int) = pushed l (l.getD (l.length - d) 0) := by unfold dupL; rw [if_pos hi, Int.toNat_natCast]
    rw [e1, e2]
    refine (Dup_all d (l.length - d) (l.getD (l.length - d) 0) w g base l r h hg hbs (by omega) (by omega) hl (getD_at (by omega))).mono ?_
    rintro e w' ⟨rfl, r', k1, _, k2, k3⟩
    exact ⟨rfl, r', k1, k2, k3⟩
  · have e1 : dupOk l i = false := by unfold dupOk; rw [decide_eq_false hi]; rfl
    have e2 : dupL l i = l := if_neg hi
    rw [e1, e2]
    obtain ⟨A, c, h0, hm, ho⟩ := h
    refine (Dup_no i w g l.length c A h1 h2 hm (by omega)).mono ?_
    rintro e w' ⟨rfl, rfl⟩
    exact ⟨rfl, r, ⟨A, c, h0, hm, ho⟩, Way2.refl _, .inl rfl⟩
theorem Swap_any (i : Int) (w : World) (g base : Nat) (l : List Nat) (r : Option Nat) (h1 : -9223372036854775808 ≤ i) (h2 : i ≤ 9223372036854775807) (h : StR w g base l r) (hg : g < base) (hbs : base ≤ w.heap.size) (hl : l.length ≤ 100000) :
    Calls Try.prog 50 #[.pointer (some ⟨g, 0, none⟩), .int .i64 i] w fun e w' => e = .returned (.bool (swapOk l i)) ∧ ∃ r', StR w' g base (swapL l i) r' ∧ Way2 g r w w' ∧ Moved w r r' := by
  by_cases hi : 1 ≤ i ∧ i ≤ (l.length : Int) - 1
  · obtain ⟨d, rfl⟩ : ∃ d : Nat, i = d := ⟨i.toNat, by omega⟩
    have e1 : swapOk l (d : Int) = true := decide_eq_true hi
    have e2 : swapL l (d : Int) = (l.set (l.length - 1) (l.getD (l.length - 1 - d) 0)).set (l.length - 1 - d) (l.getD (l.length - 1) 0) := by unfold swapL; rw [if_pos hi, Int.toNat_natCast]
    rw [e1, e2]
    refine (Swap_all d (l.length - 1) (l.length - 1 - d) (l.getD (l.length - 1) 0) (l.getD (l.length - 1 - d) 0) w g base l r h hg hbs (by omega) (by omega) (by omega) hl (getD_at (by omega)) (getD_at (by omega))).mono ?_
    rintro e w' ⟨rfl, k1, _, k2⟩
    exact ⟨rfl, r, k1, k2, .inl rfl⟩
  · have e1 : swapOk l i = false := decide_eq_false hi
    have e2 : swapL l i = l := if_neg hi
    rw [e1, e2]
    obtain ⟨A, c, h0, hm, ho⟩ := h
    refine (Swap_no i w g l.length c A h1 h2 (by omega) hm (by omega)).mono ?_
    rintro e w' ⟨rfl, rfl⟩
    exact ⟨rfl, r, ⟨A, c, h0, hm, ho⟩, Way2.refl _, .inl rfl⟩
theorem Pop_any (i : Int) (w : World) (g base : Nat) (l : List Nat) (r : Option Nat) (h1 : -9223372036854775808 ≤ i) (h2 : i ≤ 9223372036854775807) (h : StR w g base l r) (hg : g < base) (hbs : base ≤ w.heap.size) (hl : l.length ≤ 100000) :
    Calls Try.prog 38 #[.pointer (some ⟨g, 0, none⟩), .int .i64 i] w fun e w' => ∃ A' c', e = .returned (.tuple #[.slice A' (popW l i).length c', .bool (popOk l i)]) ∧ w'.ownsRow w.heap.size 25 32 (.slice A' (popW l i).length c') (popW l i).length (wrow (popW l i)) ∧ StR w' g base (popL l i) r ∧ Way2 g none w w' := by
  by_cases hi : 0 ≤ i ∧ i ≤ l.length
  · obtain ⟨d, rfl⟩ : ∃ d : Nat, i = d := ⟨i.toNat, by omega⟩
    have e1 : popOk l (d : Int) = true := decide_eq_true hi
    have e2 : popL l (d : Int) = l.take (l.length - d) := by unfold popL; rw [if_pos hi, Int.toNat_natCast]
    have e3 : popW l (d : Int) = (l.drop (l.length - d)).reverse := by unfold popW; rw [if_pos hi, Int.toNat_natCast]
    have e4 : (popW l (d : Int)).length = d := by rw [e3, List.length_reverse, List.length_drop]; omega
    rw [e4, e1, e2, e3]
    refine (Pop_all d (l.length - d) w g base l r h hg hbs (by omega) hl).mono ?_
    rintro e w' ⟨A', c', rfl, k1, k2, _, k3⟩
    exact ⟨A', c', rfl, k1, k2, k3⟩
  · have e1 : popOk l i = false := decide_eq_false hi
    have e2 : popL l i = l := if_neg hi
    have e3 : popW l i = [] := if_neg hi
    rw [e1, e2, e3]
    obtain ⟨A, c, h0, hm, ho⟩ := h
    refine (Pop_no i w g l.length c A h1 h2 hm (by omega)).mono ?_
    rintro e w' ⟨rfl, rfl⟩
    exact ⟨none, 0, rfl, World.ownsRow_nil _ _ _ _, ⟨A, c, h0, hm, ho⟩, Way2.refl _⟩
end RS
end Go.Mun

namespace Go.Mun
open Go Go.RowKit Go.Proofs

/-- not the same block -/
def Ap (r r' : Option Nat) : Prop := ∀ x, r = some x → r' ≠ some x
theorem Ap.symm {r r' : Option Nat} (h : Ap r r') : Ap r' r := fun x h1 h2 => h x h2 h1
theorem Ap.nil (r : Option Nat) : Ap none r := fun x h => by cases h
theorem Ap.moved {w : World} {r r' q : Option Nat} (h : Ap r q) (hm : Moved w r r') (hq : ∀ x, q = some x → x < w.heap.size) : Ap r' q := by
  intro x hx hy
  rcases hm with e | ⟨b, e, hb⟩
  · exact h x (e ▸ hx) hy
  · rw [e] at hx
    injection hx with hx
    have := hq x hy
    omega
/-- nothing that was there is changed, but what X tells -/
structure Off (X : Nat → Prop) (w w' : World) : Prop where
  size : w.heap.size ≤ w'.heap.size
  block : ∀ k, k < w.heap.size → ¬ X k → w'.heap[k]? = w.heap[k]?
theorem Off.of_way2 {g : Nat} {r : Option Nat} {w w' : World} (h : Way2 g r w w') : Off (fun k => k = g ∨ r = some k) w w' :=
  ⟨h.size, fun k hk hx => h.block k hk (fun e => hx (.inl e)) (fun e => hx (.inr e.symm))⟩
theorem Off.of_grown {r : Option Nat} {w w' : World} (h : w.grownBy w' r) : Off (fun k => r = some k) w w' :=
  ⟨h.size, fun k hk hx => h.block k hk (fun e => hx e.symm)⟩
theorem Off.of_below {X : Nat → Prop} {n : Nat} {w w' : World} (h : Below n w w') (hn : w.heap.size ≤ n) : Off X w w' :=
  ⟨h.size, fun k hk _ => h.block k (Nat.lt_of_lt_of_le hk hn)⟩
theorem own_off {X : Nat → Prop} {w w' : World} {base size n : Nat} {e : TypeId} {v : Value} {xs : List Value} (h : w.ownsRow base e size v n xs) (hw : Off X w w') (hr : ∀ x, v.ownBlock = some x → ¬ X x) : w'.ownsRow base e size v n xs := by
  refine ⟨h.1, ?_⟩
  rcases h.2 with hn | ⟨g', cap, cur, rfl, hb, hh, rest⟩
  · exact .inl hn
  · have hlt : g' < w.heap.size := (h.lt g' rfl).2
    exact .inr ⟨g', cap, cur, rfl, hb, (hw.block g' hlt (hr g' rfl)).trans hh, rest⟩
theorem Blk.off {X : Nat → Prop} {w w' : World} {g : Nat} {t : TypeId} {cs : Array Value} (h : Blk w g t cs) (hw : Off X w w') (hg : ¬ X g) : Blk w' g t cs := (hw.block g h.lt hg).trans h
theorem MeR.off {X : Nat → Prop} {ty : TypeId} {w w' : World} {g base : Nat} {l : List UInt8} {r : Option Nat} (h : MeR ty w g base l r) (hw : Off X w w') (hg : ¬ X g) (hr : ∀ x, r = some x → ¬ X x) : MeR ty w' g base l r := by
  obtain ⟨A, c, h0, h1, h2⟩ := h
  exact ⟨A, c, h0, h1.off hw hg, own_off h2 hw (fun x hx => hr x (h0.symm.trans hx))⟩
theorem StR.off {X : Nat → Prop} {w w' : World} {g base : Nat} {l : List Nat} {r : Option Nat} (h : StR w g base l r) (hw : Off X w w') (hg : ¬ X g) (hr : ∀ x, r = some x → ¬ X x) : StR w' g base l r := by
  obtain ⟨A, c, h0, h1, h2⟩ := h
  exact ⟨A, c, h0, h1.off hw hg, own_off h2 hw (fun x hx => hr x (h0.symm.trans hx))⟩
theorem RS.StR.off {X : Nat → Prop} {w w' : World} {g base : Nat} {l : List Nat} {r : Option Nat} (h : RS.StR w g base l r) (hw : Off X w w') (hg : ¬ X g) (hr : ∀ x, r = some x → ¬ X x) : RS.StR w' g base l r := by
  obtain ⟨A, c, h0, h1, h2⟩ := h
  exact ⟨A, c, h0, h1.off hw hg, own_off h2 hw (fun x hx => hr x (h0.symm.trans hx))⟩
theorem RS.StR.row_lt {w : World} {g base : Nat} {l : List Nat} {r : Option Nat} (h : RS.StR w g base l r) : ∀ x, r = some x → base ≤ x ∧ x < w.heap.size := by
  obtain ⟨A, c, e, _, h2⟩ := h
  intro x hx
  exact h2.lt x (e.trans hx)

/-- the four: m in block g, s in g + 1, r in g + 2, t in g + 3 -/
structure FourR (w : World) (g : Nat) (bm : List UInt8) (ls : List Nat) (br : List UInt8) (lt : List Nat) (rm rs rr rt : Option Nat) : Prop where
  sz : g + 4 ≤ w.heap.size
  m : MeR 35 w g (g + 4) bm rm
  s : StR w (g + 1) (g + 4) ls rs
  r : MeR 60 w (g + 2) (g + 4) br rr
  t : RS.StR w (g + 3) (g + 4) lt rt
  ms : Ap rm rs
  mr : Ap rm rr
  mt : Ap rm rt
  sr : Ap rs rr
  st : Ap rs rt
  rt' : Ap rr rt
section
variable {w w' : World} {g : Nat} {bm br : List UInt8} {ls lt : List Nat} {rm rs rr rt : Option Nat}
theorem FourR.off {X : Nat → Prop} (h : FourR w g bm ls br lt rm rs rr rt) (hw : Off X w w') (hX : ∀ x, x < g + 4 → ¬ X x) (hr : ∀ x, rm = some x ∨ rs = some x ∨ rr = some x ∨ rt = some x → ¬ X x) : FourR w' g bm ls br lt rm rs rr rt :=
  ⟨Nat.le_trans h.sz hw.size, h.m.off hw (hX _ (by omega)) (fun x hx => hr x (.inl hx)), h.s.off hw (hX _ (by omega)) (fun x hx => hr x (.inr (.inl hx))), h.r.off hw (hX _ (by omega)) (fun x hx => hr x (.inr (.inr (.inl hx)))), h.t.off hw (hX _ (by omega)) (fun x hx => hr x (.inr (.inr (.inr hx)))), h.ms, h.mr, h.mt, h.sr, h.st, h.rt'⟩
theorem FourR.ext (h : FourR w g bm ls br lt rm rs rr rt) (hb : Below w.heap.size w w') : FourR w' g bm ls br lt rm rs rr rt :=
  h.off (X := fun _ => False) (Off.of_below hb (Nat.le_refl _)) (fun _ _ h => h) (fun _ _ h => h)
theorem FourR.lt_ (h : FourR w g bm ls br lt rm rs rr rt) : ∀ x, rm = some x ∨ rs = some x ∨ rr = some x ∨ rt = some x → g + 4 ≤ x ∧ x < w.heap.size := by
  intro x hx
  rcases hx with e | e | e | e
  · exact h.m.row_lt x e
  · exact h.s.row_lt x e
  · exact h.r.row_lt x e
  · exact h.t.row_lt x e
theorem FourR.setM {bm' : List UInt8} {rm' : Option Nat} (h : FourR w g bm ls br lt rm rs rr rt) (k1 : MeR 35 w' g (g + 4) bm' rm') (k2 : Way2 g rm w w') (k3 : Moved w rm rm') : FourR w' g bm' ls br lt rm' rs rr rt :=
  ⟨Nat.le_trans h.sz k2.size, k1,
   h.s.off (Off.of_way2 k2) (fun e => e.elim (by omega) (fun e => by have := (h.lt_ _ (.inl e)).1; omega)) (fun x hx e => e.elim (fun e => by have := (h.s.row_lt x hx).1; omega) (fun e => h.ms x e hx)),
   h.r.off (Off.of_way2 k2) (fun e => e.elim (by omega) (fun e => by have := (h.lt_ _ (.inl e)).1; omega)) (fun x hx e => e.elim (fun e => by have := (h.r.row_lt x hx).1; omega) (fun e => h.mr x e hx)),
   h.t.off (Off.of_way2 k2) (fun e => e.elim (by omega) (fun e => by have := (h.lt_ _ (.inl e)).1; omega)) (fun x hx e => e.elim (fun e => by have := (h.t.row_lt x hx).1; omega) (fun e => h.mt x e hx)),
   h.ms.moved k3 (fun x hx => (h.s.row_lt x hx).2),
   h.mr.moved k3 (fun x hx => (h.r.row_lt x hx).2),
   h.mt.moved k3 (fun x hx => (h.t.row_lt x hx).2),
   h.sr,
   h.st,
   h.rt'⟩
theorem FourR.setS {ls' : List Nat} {rs' : Option Nat} (h : FourR w g bm ls br lt rm rs rr rt) (k1 : StR w' (g + 1) (g + 4) ls' rs') (k2 : Way2 (g + 1) rs w w') (k3 : Moved w rs rs') : FourR w' g bm ls' br lt rm rs' rr rt :=
  ⟨Nat.le_trans h.sz k2.size, h.m.off (Off.of_way2 k2) (fun e => e.elim (by omega) (fun e => by have := (h.lt_ _ (.inr (.inl e))).1; omega)) (fun x hx e => e.elim (fun e => by have := (h.m.row_lt x hx).1; omega) (fun e => h.ms.symm x e hx)),
   k1,
   h.r.off (Off.of_way2 k2) (fun e => e.elim (by omega) (fun e => by have := (h.lt_ _ (.inr (.inl e))).1; omega)) (fun x hx e => e.elim (fun e => by have := (h.r.row_lt x hx).1; omega) (fun e => h.sr x e hx)),
   h.t.off (Off.of_way2 k2) (fun e => e.elim (by omega) (fun e => by have := (h.lt_ _ (.inr (.inl e))).1; omega)) (fun x hx e => e.elim (fun e => by have := (h.t.row_lt x hx).1; omega) (fun e => h.st x e hx)),
   (h.ms.symm.moved k3 (fun x hx => (h.m.row_lt x hx).2)).symm,
   h.mr,
   h.mt,
   h.sr.moved k3 (fun x hx => (h.r.row_lt x hx).2),
   h.st.moved k3 (fun x hx => (h.t.row_lt x hx).2),
   h.rt'⟩
theorem FourR.setR {br' : List UInt8} {rr' : Option Nat} (h : FourR w g bm ls br lt rm rs rr rt) (k1 : MeR 60 w' (g + 2) (g + 4) br' rr') (k2 : Way2 (g + 2) rr w w') (k3 : Moved w rr rr') : FourR w' g bm ls br' lt rm rs rr' rt :=
  ⟨Nat.le_trans h.sz k2.size, h.m.off (Off.of_way2 k2) (fun e => e.elim (by omega) (fun e => by have := (h.lt_ _ (.inr (.inr (.inl e)))).1; omega)) (fun x hx e => e.elim (fun e => by have := (h.m.row_lt x hx).1; omega) (fun e => h.mr.symm x e hx)),
   h.s.off (Off.of_way2 k2) (fun e => e.elim (by omega) (fun e => by have := (h.lt_ _ (.inr (.inr (.inl e)))).1; omega)) (fun x hx e => e.elim (fun e => by have := (h.s.row_lt x hx).1; omega) (fun e => h.sr.symm x e hx)),
   k1,
   h.t.off (Off.of_way2 k2) (fun e => e.elim (by omega) (fun e => by have := (h.lt_ _ (.inr (.inr (.inl e)))).1; omega)) (fun x hx e => e.elim (fun e => by have := (h.t.row_lt x hx).1; omega) (fun e => h.rt' x e hx)),
   h.ms,
   (h.mr.symm.moved k3 (fun x hx => (h.m.row_lt x hx).2)).symm,
   h.mt,
   (h.sr.symm.moved k3 (fun x hx => (h.s.row_lt x hx).2)).symm,
   h.st,
   h.rt'.moved k3 (fun x hx => (h.t.row_lt x hx).2)⟩
theorem FourR.setT {lt' : List Nat} {rt' : Option Nat} (h : FourR w g bm ls br lt rm rs rr rt) (k1 : RS.StR w' (g + 3) (g + 4) lt' rt') (k2 : Way2 (g + 3) rt w w') (k3 : Moved w rt rt') : FourR w' g bm ls br lt' rm rs rr rt' :=
  ⟨Nat.le_trans h.sz k2.size, h.m.off (Off.of_way2 k2) (fun e => e.elim (by omega) (fun e => by have := (h.lt_ _ (.inr (.inr (.inr e)))).1; omega)) (fun x hx e => e.elim (fun e => by have := (h.m.row_lt x hx).1; omega) (fun e => h.mt.symm x e hx)),
   h.s.off (Off.of_way2 k2) (fun e => e.elim (by omega) (fun e => by have := (h.lt_ _ (.inr (.inr (.inr e)))).1; omega)) (fun x hx e => e.elim (fun e => by have := (h.s.row_lt x hx).1; omega) (fun e => h.st.symm x e hx)),
   h.r.off (Off.of_way2 k2) (fun e => e.elim (by omega) (fun e => by have := (h.lt_ _ (.inr (.inr (.inr e)))).1; omega)) (fun x hx e => e.elim (fun e => by have := (h.r.row_lt x hx).1; omega) (fun e => h.rt'.symm x e hx)),
   k1,
   h.ms,
   h.mr,
   (h.mt.symm.moved k3 (fun x hx => (h.m.row_lt x hx).2)).symm,
   h.sr,
   (h.st.symm.moved k3 (fun x hx => (h.s.row_lt x hx).2)).symm,
   (h.rt'.symm.moved k3 (fun x hx => (h.r.row_lt x hx).2)).symm⟩
end
end Go.Mun

namespace Go.Mun
open Go Go.RowKit Go.Proofs

/-- an act's cells -/
def actL (way i j : Int) (at_ n : Nat) (v : Value) : List Value := [.int .i64 way, .int .i64 i, .int .i64 j] ++ ((wcells at_).toList ++ ((wcells n).toList ++ [v]))
theorem wl_length (x : Nat) : (wcells x).toList.length = 32 := by rw [Array.length_toList, wcells_size]
theorem actL_at (way i j : Int) (at_ n : Nat) (v : Value) {k : Nat} {u : Value} (h : (wcells at_).toList[k]? = some u) : (actL way i j at_ n v)[3 + k]? = some u := by
  unfold actL
  have hk := (List.getElem?_eq_some_iff.1 h).1
  rw [List.getElem?_append_right (by simp), show 3 + k - [Value.int .i64 way, .int .i64 i, .int .i64 j].length = k from by simp, List.getElem?_append_left hk]
  exact h
theorem actL_n (way i j : Int) (at_ n : Nat) (v : Value) {k : Nat} {u : Value} (h : (wcells n).toList[k]? = some u) : (actL way i j at_ n v)[35 + k]? = some u := by
  unfold actL
  have hk := (List.getElem?_eq_some_iff.1 h).1
  rw [List.getElem?_append_right (by simp; omega), List.getElem?_append_right (by rw [wl_length]; simp; omega), wl_length, show 35 + k - [Value.int .i64 way, .int .i64 i, .int .i64 j].length - 32 = k from by simp; omega, List.getElem?_append_left hk]
  exact h
theorem actL_b (way i j : Int) (at_ n : Nat) (v : Value) : (actL way i j at_ n v)[67]? = some v := by
  unfold actL
  rw [List.getElem?_append_right (by simp), List.getElem?_append_right (by rw [wl_length]; simp), List.getElem?_append_right (by rw [wl_length, wl_length]; simp), wl_length, wl_length]
  rfl
/-- how far a step has come: where the four and the act are; what lies below them is as it was -/
structure FiveR (w0 w : World) (g b : Nat) (cs : List Value) (bm : List UInt8) (ls : List Nat) (br : List UInt8) (lt : List Nat) (rm rs rr rt : Option Nat) : Prop where
  four : FourR w g bm ls br lt rm rs rr rt
  act : Blk w b 65 cs.toArray
  hb : g + 4 ≤ b
  nm : rm ≠ some b
  ns : rs ≠ some b
  nr : rr ≠ some b
  nt : rt ≠ some b
  below : Below g w0 w
/-- what a step makes of the four -/
def StepTo (w0 : World) (g : Nat) (bm : List UInt8) (ls : List Nat) (w : World) : Prop := ∃ rm rs rr rt, FourR w g bm ls bm ls rm rs rr rt ∧ Below g w0 w
section
variable {w0 w w' : World} {g b : Nat} {cs : List Value} {bm br : List UInt8} {ls lt : List Nat} {rm rs rr rt : Option Nat}
theorem FiveR.start (h : FourR w g bm ls br lt rm rs rr rt) (hx : Blk w' w.heap.size 65 cs.toArray) (hb : Below w.heap.size w w') : FiveR w w' g w.heap.size cs bm ls br lt rm rs rr rt :=
  ⟨h.ext hb, hx, h.sz, fun e => by have := (h.lt_ _ (.inl e)).2; omega, fun e => by have := (h.lt_ _ (.inr (.inl e))).2; omega, fun e => by have := (h.lt_ _ (.inr (.inr (.inl e)))).2; omega, fun e => by have := (h.lt_ _ (.inr (.inr (.inr e)))).2; omega, hb.mono (by have := h.sz; omega)⟩
theorem FiveR.done (h : FiveR w0 w g b cs bm ls bm ls rm rs rr rt) : StepTo w0 g bm ls w := ⟨rm, rs, rr, rt, h.four, h.below⟩
theorem FiveR.ext (h : FiveR w0 w g b cs bm ls br lt rm rs rr rt) (hb : Below w.heap.size w w') : FiveR w0 w' g b cs bm ls br lt rm rs rr rt :=
  ⟨h.four.ext hb, h.act.ext hb, h.hb, h.nm, h.ns, h.nr, h.nt, h.below.trans (hb.mono (by have := h.four.sz; omega))⟩
theorem FiveR.drew (h : FiveR w0 w g b cs bm ls br lt rm rs rr rt) : FiveR w0 w.drew g b cs bm ls br lt rm rs rr rt := h.ext (Below.refl _ _).drew
/-- a row beside them is written -/
theorem FiveR.beside {r : Option Nat} (h : FiveR w0 w g b cs bm ls br lt rm rs rr rt) (hg : w.grownBy w' r) (hr : ∀ x, r = some x → g + 4 ≤ x ∧ x ≠ b ∧ rm ≠ some x ∧ rs ≠ some x ∧ rr ≠ some x ∧ rt ≠ some x) : FiveR w0 w' g b cs bm ls br lt rm rs rr rt := by
  refine ⟨h.four.off (Off.of_grown hg) (fun x hx e => by have := (hr x e).1; omega) (fun x hx e => ?_), h.act.off (Off.of_grown hg) (fun e => (hr b e).2.1 rfl), h.hb, h.nm, h.ns, h.nr, h.nt, ?_⟩
  · obtain ⟨_, _, h1, h2, h3, h4⟩ := hr x e
    rcases hx with hx | hx | hx | hx
    · exact h1 hx
    · exact h2 hx
    · exact h3 hx
    · exact h4 hx
  · exact h.below.trans ⟨hg.os, hg.tape, hg.output, hg.size, fun k hk => hg.block k (by have := h.four.sz; omega) (fun e => by have := (hr k e.symm).1; omega)⟩
theorem Moved.ne {r r' : Option Nat} (h : Moved w r r') (hb : b < w.heap.size) (hr : r ≠ some b) : r' ≠ some b := by
  intro e
  rcases h with e' | ⟨x, e', hx⟩
  · exact hr (e' ▸ e)
  · rw [e'] at e
    injection e with e
    omega
theorem below_way2 {g' : Nat} {r : Option Nat} (h : Way2 g' r w w') (hg : g ≤ g') (hz : g ≤ w.heap.size) (hr : ∀ x, r = some x → g ≤ x) : Below g w w' :=
  ⟨h.os, h.tape, h.output, h.size, fun k hk => h.block k (by omega) (by omega) (fun e => by have := hr k e.symm; omega)⟩
theorem Way2.weaken {g' : Nat} {r : Option Nat} (h : Way2 g' none w w') : Way2 g' r w w' := ⟨h.os, h.tape, h.output, h.size, fun k hk h1 _ => h.block k hk h1 (by simp)⟩
theorem FiveR.setM {bm' : List UInt8} {rm' : Option Nat} (h : FiveR w0 w g b cs bm ls br lt rm rs rr rt) (k1 : MeR 35 w' g (g + 4) bm' rm') (k2 : Way2 g rm w w') (k3 : Moved w rm rm') : FiveR w0 w' g b cs bm' ls br lt rm' rs rr rt :=
  ⟨h.four.setM k1 k2 k3, h.act.off (Off.of_way2 k2) (fun e => e.elim (fun e => by have := h.hb; omega) (fun e => h.nm e)), h.hb, k3.ne h.act.lt h.nm, h.ns, h.nr, h.nt, h.below.trans (below_way2 k2 (by omega) (by have := h.four.sz; omega) (fun x hx => by have := (h.four.m.row_lt x hx).1; omega))⟩
theorem FiveR.setS {ls' : List Nat} {rs' : Option Nat} (h : FiveR w0 w g b cs bm ls br lt rm rs rr rt) (k1 : StR w' (g + 1) (g + 4) ls' rs') (k2 : Way2 (g + 1) rs w w') (k3 : Moved w rs rs') : FiveR w0 w' g b cs bm ls' br lt rm rs' rr rt :=
  ⟨h.four.setS k1 k2 k3, h.act.off (Off.of_way2 k2) (fun e => e.elim (fun e => by have := h.hb; omega) (fun e => h.ns e)), h.hb, h.nm, k3.ne h.act.lt h.ns, h.nr, h.nt, h.below.trans (below_way2 k2 (by omega) (by have := h.four.sz; omega) (fun x hx => by have := (h.four.s.row_lt x hx).1; omega))⟩
theorem FiveR.setR {br' : List UInt8} {rr' : Option Nat} (h : FiveR w0 w g b cs bm ls br lt rm rs rr rt) (k1 : MeR 60 w' (g + 2) (g + 4) br' rr') (k2 : Way2 (g + 2) rr w w') (k3 : Moved w rr rr') : FiveR w0 w' g b cs bm ls br' lt rm rs rr' rt :=
  ⟨h.four.setR k1 k2 k3, h.act.off (Off.of_way2 k2) (fun e => e.elim (fun e => by have := h.hb; omega) (fun e => h.nr e)), h.hb, h.nm, h.ns, k3.ne h.act.lt h.nr, h.nt, h.below.trans (below_way2 k2 (by omega) (by have := h.four.sz; omega) (fun x hx => by have := (h.four.r.row_lt x hx).1; omega))⟩
theorem FiveR.setT {lt' : List Nat} {rt' : Option Nat} (h : FiveR w0 w g b cs bm ls br lt rm rs rr rt) (k1 : RS.StR w' (g + 3) (g + 4) lt' rt') (k2 : Way2 (g + 3) rt w w') (k3 : Moved w rt rt') : FiveR w0 w' g b cs bm ls br lt' rm rs rr rt' :=
  ⟨h.four.setT k1 k2 k3, h.act.off (Off.of_way2 k2) (fun e => e.elim (fun e => by have := h.hb; omega) (fun e => h.nt e)), h.hb, h.nm, h.ns, h.nr, k3.ne h.act.lt h.nt, h.below.trans (below_way2 k2 (by omega) (by have := h.four.sz; omega) (fun x hx => by have := (h.four.t.row_lt x hx).1; omega))⟩
/-- a row that is none of theirs -/
def Besides (v : Value) (b : Nat) (rm rs rr rt : Option Nat) : Prop := ∀ x, v.ownBlock = some x → x ≠ b ∧ rm ≠ some x ∧ rs ≠ some x ∧ rr ≠ some x ∧ rt ≠ some x
theorem FiveR.fresh {e : TypeId} {size n : Nat} {v : Value} {xs : List Value} (h : FiveR w0 w g b cs bm ls br lt rm rs rr rt) (ho : w'.ownsRow w.heap.size e size v n xs) : Besides v b rm rs rr rt := by
  intro x hx
  have h1 := (ho.lt x hx).1
  refine ⟨fun e => ?_, fun e => ?_, fun e => ?_, fun e => ?_, fun e => ?_⟩
  · have := h.act.lt; omega
  · have := (h.four.lt_ x (.inl e)).2; omega
  · have := (h.four.lt_ x (.inr (.inl e))).2; omega
  · have := (h.four.lt_ x (.inr (.inr (.inl e)))).2; omega
  · have := (h.four.lt_ x (.inr (.inr (.inr e)))).2; omega
theorem row_slice {base : Nat} {e : TypeId} {n : Nat} {v : Value} {l : List UInt8} (h : w.ownsRow base e 1 v n (bv l)) : ∃ A c, v = .slice A n c ∧ Bytes w (.slice A n c) l := by
  obtain ⟨A, m, c, rfl, h1, h2⟩ := Bytes.own h
  have hn : l.length = n := by have := h.1; rw [bv_length] at this; omega
  obtain rfl : m = n := by omega
  exact ⟨A, c, rfl, A, m, c, rfl, h1, h2⟩
theorem str_self (l : List UInt8) : ((⟨l.toArray⟩ : ByteArray) == ⟨l.toArray⟩) = true := by rw [str_eq]; simp
/-- values that are bytes -/
def U8s (l : List Value) : Prop := ∀ (k : Nat) (u : Value), l[k]? = some u → ∃ z : Int, u = Value.int .u8 z
theorem U8s.bv (l : List UInt8) : U8s (bv l) := by
  intro k u h
  unfold Mun.bv at h
  rw [List.getElem?_map] at h
  cases hk : l[k]? with
  | none => rw [hk] at h; cases h
  | some x =>
    rw [hk] at h
    injection h with h
    exact ⟨_, h.symm⟩
theorem U8s.set {l : List Value} (h : U8s l) (k : Nat) (z : Int) : U8s (l.set k (.int .u8 z)) := by
  intro j u hj
  rw [List.getElem?_set] at hj
  split at hj
  · split at hj
    · injection hj with hj
      exact ⟨z, hj.symm⟩
    · cases hj
  · exact h j u hj
/-- a round of '^ 255' -/
theorem FiveR.round {g' : Nat} {base n c k : Nat} {u : Value} {e : TypeId} {ys : List Value} (h : FiveR w0 w g b cs bm ls br lt rm rs rr rt) (ho : w.ownsRow base e 1 (.slice (some ⟨g', 0, none⟩) n c) n ys) (hB : Besides (.slice (some ⟨g', 0, none⟩) n c) b rm rs rr rt) (hg : g + 4 ≤ base) :
    FiveR w0 (w.setCell ⟨g', k, none⟩ u) g b cs bm ls br lt rm rs rr rt ∧ (w.setCell ⟨g', k, none⟩ u).ownsRow base e 1 (.slice (some ⟨g', 0, none⟩) n c) n (ys.set k u) := by
  refine ⟨h.beside (grownBy_setCell w ⟨g', k, none⟩ u) (fun x hx => ?_), (ho.stored k u).1⟩
  have hx' : Value.ownBlock (.slice (some ⟨g', 0, none⟩) n c) = some x := hx
  exact ⟨by have := (ho.lt x hx').1; omega, hB x hx'⟩
theorem FiveR.at_ {way i j : Int} {at_ n : Nat} {v : Value} (h : FiveR w0 w g b (actL way i j at_ n v) bm ls br lt rm rs rr rt) : w.rangeAt b 3 (wcells at_).toList := fun k u hu => h.act.cellv (by rw [List.getElem?_toArray]; exact actL_at way i j at_ n v hu)
theorem FiveR.n_ {way i j : Int} {at_ n : Nat} {v : Value} (h : FiveR w0 w g b (actL way i j at_ n v) bm ls br lt rm rs rr rt) : w.rangeAt b 35 (wcells n).toList := fun k u hu => h.act.cellv (by rw [List.getElem?_toArray]; exact actL_n way i j at_ n v hu)
theorem FiveR.way {way i j : Int} {at_ n : Nat} {v : Value} (h : FiveR w0 w g b (actL way i j at_ n v) bm ls br lt rm rs rr rt) : w.cell? ⟨b, 0, none⟩ = some (.int .i64 way) := h.act.cellv rfl
theorem FiveR.i {way i j : Int} {at_ n : Nat} {v : Value} (h : FiveR w0 w g b (actL way i j at_ n v) bm ls br lt rm rs rr rt) : w.cell? ⟨b, 1, none⟩ = some (.int .i64 i) := h.act.cellv rfl
theorem FiveR.j {way i j : Int} {at_ n : Nat} {v : Value} (h : FiveR w0 w g b (actL way i j at_ n v) bm ls br lt rm rs rr rt) : w.cell? ⟨b, 2, none⟩ = some (.int .i64 j) := h.act.cellv rfl
theorem FiveR.b_ {way i j : Int} {at_ n : Nat} {v : Value} (h : FiveR w0 w g b (actL way i j at_ n v) bm ls br lt rm rs rr rt) : w.cell? ⟨b, 67, none⟩ = some v := h.act.cellv (by rw [List.getElem?_toArray]; exact actL_b way i j at_ n v)
end
end Go.Mun

namespace Go.Mun.MS
open Go Go.RowKit Go.Proofs Go.Mun

set_option maxRecDepth 100000 in
set_option maxHeartbeats 1000000 in
theorem Get_z (at_ : Nat) (w : World) (g L c : Nat) (A : Option Addr) (l : List UInt8) (ha : (at_ : Int) ≤ 9223372036854775807) (hm : Blk w g 35 #[.slice A L c]) (hl : Bytes w (.slice A L c) l) :
    Calls Try.prog 33 #[.pointer (some ⟨g, 0, none⟩), .int .i64 at_, .int .i64 0] w fun e w' => ∃ v, e = .returned v ∧ w'.ownsRow w.heap.size 5 1 v 0 (bv []) ∧ Below w.heap.size w w' := by
  have hT := bytesTyM
  have hu := hT.1
  have HS := Lib.hid u8size
  obtain ⟨h2, h3⟩ := Bytes_cap hl
  have hcell := hm.cellv (i := 0) rfl
  by_cases hlt : at_ < L
  · have d1 : decide ((at_ : Int) < L) = true := decide_eq_true (by omega)
    go_enter Try.func33, Try.ntmps33
    go_wp2_with (first
      | ((with_reducible refine gd_make ?_); refine wpList_make_bytes rfl (.tmp 18) (.tmp 18) _ rfl w.heap.size hT (n := 0) (by rfl) (by rfl) (by omega) (Nat.le_refl _) ?_; intro v1 w1 ho1 hb1; have hm1 := hm.ext hb1; have hcell1 := hm1.cellv (i := 0) rfl)
      | ((with_reducible refine gd_copy ?_); refine wpList_copy_nothing rfl (.tmp 27) (.tmp 33) _ _ rfl _ hu HS.out _ _ 0 _ (L - at_) (c - at_) (own_isSlice ho1).choose_spec.choose_spec (by rfl) (Nat.min_zero _) ?_)
      | fail)
    go_ret
    exact ⟨v1, rfl, ho1, hb1⟩
  · have d1 : decide ((at_ : Int) < L) = false := decide_eq_false (by omega)
    go_enter Try.func33, Try.ntmps33
    go_wp2_with (first
      | ((with_reducible refine gd_make ?_); refine wpList_make_bytes rfl (.tmp 18) (.tmp 18) _ rfl w.heap.size hT (n := 0) (by rfl) (by rfl) (by omega) (Nat.le_refl _) ?_; intro v1 w1 ho1 hb1; have hm1 := hm.ext hb1; have hcell1 := hm1.cellv (i := 0) rfl)
      | fail)
    go_ret
    exact ⟨v1, rfl, ho1, hb1⟩
set_option maxRecDepth 100000 in
set_option maxHeartbeats 1000000 in
theorem Get_go (at_ n : Nat) (w : World) (g L c : Nat) (A : Option Addr) (l : List UInt8) (ha : (at_ : Int) ≤ 9223372036854775807) (hn : n ≤ 1048576) (hn0 : 0 < n) (hm : Blk w g 35 #[.slice A L c]) (hl : Bytes w (.slice A L c) l) :
    Calls Try.prog 33 #[.pointer (some ⟨g, 0, none⟩), .int .i64 at_, .int .i64 n] w fun e w' => ∃ v, e = .returned v ∧ w'.ownsRow w.heap.size 5 1 v n (bv ((l.drop at_).take n ++ List.replicate (n - (L - at_)) 0)) ∧ Below w.heap.size w w' := by
  have hT := bytesTyM
  have hu := hT.1
  have HS := Lib.hid u8size
  obtain ⟨h2, h3⟩ := Bytes_cap hl
  have hn1 : (n : Int) ≤ 1048576 := by omega
  have hll := Lib.hid (Bytes_len hl)
  have hcell := hm.cellv (i := 0) rfl
  by_cases hlt : at_ < L
  · have d1 : decide ((at_ : Int) < L) = true := decide_eq_true (by omega)
    go_enter Try.func33, Try.ntmps33
    go_wp2_with (first
      | ((with_reducible refine gd_make ?_); refine wpList_make_bytes rfl (.tmp 18) (.tmp 18) _ rfl w.heap.size hT (n := n) (by rfl) (by rfl) (by omega) (Nat.le_refl _) ?_; intro v1 w1 ho1 hb1; have hm1 := hm.ext hb1; have hcell1 := hm1.cellv (i := 0) rfl; have HB := Bytes_from (hl.ext hb1) (k := at_) (by omega))
      | ((with_reducible refine gd_copy ?_); refine wpList_copy_into rfl (.tmp 27) (.tmp 33) _ _ rfl hu HS.out rfl (by rfl) hn0 ho1 HB (Nat.min (L - at_) n) rfl ?_; intro w2 ho2 hg2)
      | fail)
    have hb2 := below_own hb1 ho1 (Nat.le_refl _) hg2 hb1.size
    go_ret
    rw [get_cut hll.out rfl] at ho2
    exact ⟨v1, rfl, ho2, hb2⟩
  · have d1 : decide ((at_ : Int) < L) = false := decide_eq_false (by omega)
    go_enter Try.func33, Try.ntmps33
    go_wp2_with (first
      | ((with_reducible refine gd_make ?_); refine wpList_make_bytes rfl (.tmp 18) (.tmp 18) _ rfl w.heap.size hT (n := n) (by rfl) (by rfl) (by omega) (Nat.le_refl _) ?_; intro v1 w1 ho1 hb1; have hm1 := hm.ext hb1; have hcell1 := hm1.cellv (i := 0) rfl)
      | fail)
    go_ret
    rw [get_far (at_ := at_) hll.out (by omega)] at ho1
    exact ⟨v1, rfl, ho1, hb1⟩
theorem Get_nil (i n : Int) (w : World) (v : Value) (_h1 : -9223372036854775808 ≤ i) (_h2 : i ≤ 9223372036854775807) (_h3 : -9223372036854775808 ≤ n) (_h4 : n ≤ 9223372036854775807) (h : i < 0 ∨ n < 0 ∨ 1048576 < n) :
    Calls Try.prog 33 #[v, .int .i64 i, .int .i64 n] w fun e w' => e = .returned (.slice none 0 0) ∧ w = w' := by
  by_cases h1 : i < 0
  · have d1 : decide (i < 0) = true := decide_eq_true h1
    clear h
    go_enter Try.func33, Try.ntmps33
    go_wp2
    go_ret
    exact ⟨rfl, rfl⟩
  · have d1 : decide (i < 0) = false := decide_eq_false h1
    by_cases h2 : n < 0
    · have d2 : decide (n < 0) = true := decide_eq_true h2
      clear h
      go_enter Try.func33, Try.ntmps33
      go_wp2
      go_ret
      exact ⟨rfl, rfl⟩
    · have d2 : decide (n < 0) = false := decide_eq_false h2
      have d3 : decide (1048576 < n) = true := decide_eq_true (by omega)
      clear h
      go_enter Try.func33, Try.ntmps33
      go_wp2
      go_ret
      exact ⟨rfl, rfl⟩
theorem Get_any (i n : Int) (w : World) (g base : Nat) (l : List UInt8) (r : Option Nat) (h1 : -9223372036854775808 ≤ i) (h2 : i ≤ 9223372036854775807) (h3 : -9223372036854775808 ≤ n) (h4 : n ≤ 9223372036854775807) (h : MeR 35 w g base l r) :
    Calls Try.prog 33 #[.pointer (some ⟨g, 0, none⟩), .int .i64 i, .int .i64 n] w fun e w' => ∃ v, e = .returned v ∧ w'.ownsRow w.heap.size 5 1 v (getL l i n).length (bv (getL l i n)) ∧ Below w.heap.size w w' := by
  obtain ⟨A, c, _, hm, ho⟩ := h
  by_cases hn : i < 0 ∨ n < 0 ∨ 1048576 < n
  · have e : getL l i n = [] := by unfold getL; rw [if_pos hn]
    rw [e]
    refine (Get_nil i n w _ h1 h2 h3 h4 hn).mono ?_
    rintro e w' ⟨rfl, rfl⟩
    exact ⟨_, rfl, World.ownsRow_nil _ _ _ _, Below.refl _ _⟩
  · obtain ⟨at_, rfl⟩ : ∃ m : Nat, i = m := ⟨i.toNat, by omega⟩
    obtain ⟨m, rfl⟩ : ∃ m : Nat, n = m := ⟨n.toNat, by omega⟩
    have e : getL l at_ m = (l.drop at_).take m ++ List.replicate (m - (l.length - at_)) 0 := by unfold getL; rw [if_neg hn]; rfl
    have el : (getL l at_ m).length = m := by rw [getL_length, if_neg hn]; rfl
    rw [el, e]
    by_cases h0 : m = 0
    · subst h0
      simp only [List.take_zero, Nat.zero_sub, List.replicate_zero, List.append_nil]
      exact Get_z at_ w g _ c A l h2 hm (Bytes.own ho)
    · exact Get_go at_ m w g _ c A l h2 (by omega) (by omega) hm (Bytes.own ho)
theorem Put_any (i : Int) (w : World) (g base m c' : Nat) (B : Option Addr) (l b : List UInt8) (r : Option Nat) (h1 : -9223372036854775808 ≤ i) (h2 : i ≤ 9223372036854775807) (h : MeR 35 w g base l r) (hl : l.length ≤ 1048576) (hg : g < base) (hbs : base ≤ w.heap.size) (hb : Bytes w (.slice B m c') b) :
    Calls Try.prog 34 #[.pointer (some ⟨g, 0, none⟩), .int .i64 i, .slice B m c'] w fun e w' => e = .returned (.bool (putOk l i b)) ∧ MeR 35 w' g base (putTo l i b) r ∧ Way2 g r w w' := by
  have hbl := Bytes_len hb
  by_cases hi : i < 0
  · have e1 : putOk l i b = false := by unfold putOk; rw [decide_eq_false (by omega)]; rfl
    have e2 : putTo l i b = l := by unfold putTo; rw [e1]; rfl
    rw [e1, e2]
    refine (Put_neg i w g m c' B h1 hi).mono ?_
    rintro e w' ⟨rfl, rfl⟩
    exact ⟨rfl, h, Way2.refl _⟩
  · obtain ⟨at_, rfl⟩ : ∃ m : Nat, i = m := ⟨i.toNat, by omega⟩
    by_cases h0 : m = 0
    · subst h0
      have hb0 : b = [] := List.eq_nil_of_length_eq_zero hbl
      subst hb0
      have e1 : putOk l at_ [] = true := by unfold putOk; rw [decide_eq_true (by omega)]; rfl
      have e2 : putTo l at_ [] = l := by unfold putTo; rw [if_pos e1]; simp
      rw [e1, e2]
      refine (Put_nil at_ w g c' B h2).mono ?_
      rintro e w' ⟨rfl, rfl⟩
      exact ⟨rfl, h, Way2.refl _⟩
    · by_cases hf : at_ + m ≤ l.length
      · have e1 : putOk l at_ b = true := by unfold putOk; rw [decide_eq_true (by omega), decide_eq_true (show (at_ : Int) + b.length ≤ l.length by omega)]; simp
        have e2 : putTo l at_ b = l.take at_ ++ b ++ l.drop (at_ + m) := by unfold putTo; rw [if_pos e1, hbl]; rfl
        have e3 := putTo_length l at_ b
        obtain ⟨A, c, hro, hm, ho⟩ := h
        rw [e1]
        refine (Put_fit at_ w g base l.length c m c' A B l b hl (by omega) hf hm ho hg hbs hb).mono ?_
        rintro e w' ⟨rfl, k1, k2, _, hh, k3, k4⟩
        rw [← e2] at k2
        refine ⟨rfl, ⟨A, c, by rw [e3]; exact hro, by rw [e3]; exact k1, by rw [e3]; exact k2⟩, Way2.of_grown ?_⟩
        rw [← hro, k3]
        exact k4
      · have e1 : putOk l at_ b = false := by unfold putOk; rw [decide_eq_true (by omega), decide_eq_false (show ¬ b.length = 0 by omega), decide_eq_false (show ¬ (at_ : Int) + b.length ≤ l.length by omega)]; rfl
        have e2 : putTo l at_ b = l := by unfold putTo; rw [e1]; rfl
        rw [e1, e2]
        obtain ⟨A, c, hro, hm, ho⟩ := h
        refine (Put_no at_ w g l.length c m c' A B hl h2 (by omega) (by omega) hm).mono ?_
        rintro e w' ⟨rfl, rfl⟩
        exact ⟨rfl, ⟨A, c, hro, hm, ho⟩, Way2.refl _⟩
end Go.Mun.MS

namespace Go.Mun.RS
open Go Go.RowKit Go.Proofs Go.Mun

set_option maxRecDepth 100000 in
set_option maxHeartbeats 1000000 in
theorem Cut_z (at_ : Nat) (w : World) (L c : Nat) (A : Option Addr) (l : List UInt8) (ha : (at_ : Int) ≤ 9223372036854775807) (hl : Bytes w (.slice A L c) l) :
    Calls Try.prog 54 #[.slice A L c, .int .i64 at_, .int .i64 0] w fun e w' => ∃ v, e = .returned v ∧ w'.ownsRow w.heap.size 5 1 v 0 (bv []) ∧ Below w.heap.size w w' := by
  have hT := bytesTyM
  have hu := hT.1
  have HS := Lib.hid u8size
  obtain ⟨h2, h3⟩ := Bytes_cap hl
  by_cases hlt : at_ < L
  · have d1 : decide ((at_ : Int) < L) = true := decide_eq_true (by omega)
    go_enter Try.func54, Try.ntmps54
    go_wp2_with (first
      | ((with_reducible refine gd_make ?_); refine wpList_make_bytes rfl (.tmp 8) (.tmp 8) _ rfl w.heap.size hT (n := 0) (by rfl) (by rfl) (by omega) (Nat.le_refl _) ?_; intro v1 w1 ho1 hb1)
      | ((with_reducible refine gd_copy ?_); refine wpList_copy_nothing rfl (.tmp 14) (.tmp 17) _ _ rfl _ hu HS.out _ _ 0 _ (L - at_) (c - at_) (own_isSlice ho1).choose_spec.choose_spec (by rfl) (Nat.min_zero _) ?_)
      | fail)
    go_ret
    exact ⟨v1, rfl, ho1, hb1⟩
  · have d1 : decide ((at_ : Int) < L) = false := decide_eq_false (by omega)
    go_enter Try.func54, Try.ntmps54
    go_wp2_with (first
      | ((with_reducible refine gd_make ?_); refine wpList_make_bytes rfl (.tmp 8) (.tmp 8) _ rfl w.heap.size hT (n := 0) (by rfl) (by rfl) (by omega) (Nat.le_refl _) ?_; intro v1 w1 ho1 hb1)
      | fail)
    go_ret
    exact ⟨v1, rfl, ho1, hb1⟩
set_option maxRecDepth 100000 in
set_option maxHeartbeats 1000000 in
theorem Cut_go (at_ n : Nat) (w : World) (L c : Nat) (A : Option Addr) (l : List UInt8) (ha : (at_ : Int) ≤ 9223372036854775807) (hn : n ≤ 1048576) (hn0 : 0 < n) (hl : Bytes w (.slice A L c) l) :
    Calls Try.prog 54 #[.slice A L c, .int .i64 at_, .int .i64 n] w fun e w' => ∃ v, e = .returned v ∧ w'.ownsRow w.heap.size 5 1 v n (bv ((l.drop at_).take n ++ List.replicate (n - (L - at_)) 0)) ∧ Below w.heap.size w w' := by
  have hT := bytesTyM
  have hu := hT.1
  have HS := Lib.hid u8size
  obtain ⟨h2, h3⟩ := Bytes_cap hl
  have hn1 : (n : Int) ≤ 1048576 := by omega
  have hll := Lib.hid (Bytes_len hl)
  by_cases hlt : at_ < L
  · have d1 : decide ((at_ : Int) < L) = true := decide_eq_true (by omega)
    go_enter Try.func54, Try.ntmps54
    go_wp2_with (first
      | ((with_reducible refine gd_make ?_); refine wpList_make_bytes rfl (.tmp 8) (.tmp 8) _ rfl w.heap.size hT (n := n) (by rfl) (by rfl) (by omega) (Nat.le_refl _) ?_; intro v1 w1 ho1 hb1; have HB := Bytes_from (hl.ext hb1) (k := at_) (by omega))
      | ((with_reducible refine gd_copy ?_); refine wpList_copy_into rfl (.tmp 14) (.tmp 17) _ _ rfl hu HS.out rfl (by rfl) hn0 ho1 HB (Nat.min (L - at_) n) rfl ?_; intro w2 ho2 hg2)
      | fail)
    have hb2 := below_own hb1 ho1 (Nat.le_refl _) hg2 hb1.size
    go_ret
    rw [get_cut hll.out rfl] at ho2
    exact ⟨v1, rfl, ho2, hb2⟩
  · have d1 : decide ((at_ : Int) < L) = false := decide_eq_false (by omega)
    go_enter Try.func54, Try.ntmps54
    go_wp2_with (first
      | ((with_reducible refine gd_make ?_); refine wpList_make_bytes rfl (.tmp 8) (.tmp 8) _ rfl w.heap.size hT (n := n) (by rfl) (by rfl) (by omega) (Nat.le_refl _) ?_; intro v1 w1 ho1 hb1)
      | fail)
    go_ret
    rw [get_far (at_ := at_) hll.out (by omega)] at ho1
    exact ⟨v1, rfl, ho1, hb1⟩
theorem Get_z (at_ : Nat) (w : World) (g L c : Nat) (A : Option Addr) (l : List UInt8) (ha : (at_ : Int) ≤ 9223372036854775807) (hm : Blk w g 60 #[.slice A L c]) (hl : Bytes w (.slice A L c) l) :
    Calls Try.prog 47 #[.pointer (some ⟨g, 0, none⟩), .int .i64 at_, .int .i64 0] w fun e w' => ∃ v, e = .returned v ∧ w'.ownsRow w.heap.size 5 1 v 0 (bv []) ∧ Below w.heap.size w w' := by
  have HC := Lib.hid (Cut_z at_ w L c A l ha hl)
  have hcell := hm.cellv (i := 0) rfl
  go_enter Try.func47, Try.ntmps47
  go_wp2_with (first
    | (go_at_call 54; refine HC.out.mono ?_; rintro e w1 ⟨v1, rfl, ho1, hb1⟩)
    | fail)
  go_ret
  exact ⟨v1, rfl, ho1, hb1⟩
theorem Get_go (at_ n : Nat) (w : World) (g L c : Nat) (A : Option Addr) (l : List UInt8) (ha : (at_ : Int) ≤ 9223372036854775807) (hn : n ≤ 1048576) (hn0 : 0 < n) (hm : Blk w g 60 #[.slice A L c]) (hl : Bytes w (.slice A L c) l) :
    Calls Try.prog 47 #[.pointer (some ⟨g, 0, none⟩), .int .i64 at_, .int .i64 n] w fun e w' => ∃ v, e = .returned v ∧ w'.ownsRow w.heap.size 5 1 v n (bv ((l.drop at_).take n ++ List.replicate (n - (L - at_)) 0)) ∧ Below w.heap.size w w' := by
  have HC := Lib.hid (Cut_go at_ n w L c A l ha hn hn0 hl)
  have hcell := hm.cellv (i := 0) rfl
  have hn1 : (n : Int) ≤ 1048576 := by omega
  go_enter Try.func47, Try.ntmps47
  go_wp2_with (first
    | (go_at_call 54; refine HC.out.mono ?_; rintro e w1 ⟨v1, rfl, ho1, hb1⟩)
    | fail)
  go_ret
  exact ⟨v1, rfl, ho1, hb1⟩
theorem Get_nil (i n : Int) (w : World) (v : Value) (_h1 : -9223372036854775808 ≤ i) (_h2 : i ≤ 9223372036854775807) (_h3 : -9223372036854775808 ≤ n) (_h4 : n ≤ 9223372036854775807) (h : i < 0 ∨ n < 0 ∨ 1048576 < n) :
    Calls Try.prog 47 #[v, .int .i64 i, .int .i64 n] w fun e w' => e = .returned (.slice none 0 0) ∧ w = w' := by
  by_cases h1 : i < 0
  · have d1 : decide (i < 0) = true := decide_eq_true h1
    clear h
    go_enter Try.func47, Try.ntmps47
    go_wp2
    go_ret
    exact ⟨rfl, rfl⟩
  · have d1 : decide (i < 0) = false := decide_eq_false h1
    by_cases h2 : n < 0
    · have d2 : decide (n < 0) = true := decide_eq_true h2
      clear h
      go_enter Try.func47, Try.ntmps47
      go_wp2
      go_ret
      exact ⟨rfl, rfl⟩
    · have d2 : decide (n < 0) = false := decide_eq_false h2
      have d3 : decide (1048576 < n) = true := decide_eq_true (by omega)
      clear h
      go_enter Try.func47, Try.ntmps47
      go_wp2
      go_ret
      exact ⟨rfl, rfl⟩
theorem Get_any (i n : Int) (w : World) (g base : Nat) (l : List UInt8) (r : Option Nat) (h1 : -9223372036854775808 ≤ i) (h2 : i ≤ 9223372036854775807) (h3 : -9223372036854775808 ≤ n) (h4 : n ≤ 9223372036854775807) (h : MeR 60 w g base l r) :
    Calls Try.prog 47 #[.pointer (some ⟨g, 0, none⟩), .int .i64 i, .int .i64 n] w fun e w' => ∃ v, e = .returned v ∧ w'.ownsRow w.heap.size 5 1 v (getL l i n).length (bv (getL l i n)) ∧ Below w.heap.size w w' := by
  obtain ⟨A, c, _, hm, ho⟩ := h
  by_cases hn : i < 0 ∨ n < 0 ∨ 1048576 < n
  · have e : getL l i n = [] := by unfold getL; rw [if_pos hn]
    rw [e]
    refine (Get_nil i n w _ h1 h2 h3 h4 hn).mono ?_
    rintro e w' ⟨rfl, rfl⟩
    exact ⟨_, rfl, World.ownsRow_nil _ _ _ _, Below.refl _ _⟩
  · obtain ⟨at_, rfl⟩ : ∃ m : Nat, i = m := ⟨i.toNat, by omega⟩
    obtain ⟨m, rfl⟩ : ∃ m : Nat, n = m := ⟨n.toNat, by omega⟩
    have e : getL l at_ m = (l.drop at_).take m ++ List.replicate (m - (l.length - at_)) 0 := by unfold getL; rw [if_neg hn]; rfl
    have el : (getL l at_ m).length = m := by rw [getL_length, if_neg hn]; rfl
    rw [el, e]
    by_cases h0 : m = 0
    · subst h0
      simp only [List.take_zero, Nat.zero_sub, List.replicate_zero, List.append_nil]
      exact Get_z at_ w g _ c A l h2 hm (Bytes.own ho)
    · exact Get_go at_ m w g _ c A l h2 (by omega) (by omega) hm (Bytes.own ho)
theorem Put_neg (i : Int) (w : World) (g m c : Nat) (B : Option Addr) (_h1 : -9223372036854775808 ≤ i) (h2 : i < 0) :
    Calls Try.prog 46 #[.pointer (some ⟨g, 0, none⟩), .int .i64 i, .slice B m c] w fun e w' => e = .returned (.bool false) ∧ w = w' := by
  by_cases h0 : m = 0
  · subst h0
    have d1 : decide (0 ≤ i) = false := decide_eq_false (by omega)
    clear h2
    go_enter Try.func46, Try.ntmps46
    go_wp2
    go_ret
    exact ⟨rfl, rfl⟩
  · have d0 : ((m : Int) == 0) = false := beq_eq_false_iff_ne.2 (by omega)
    have d1 : decide (i < 0) = true := decide_eq_true h2
    clear h2 h0
    go_enter Try.func46, Try.ntmps46
    go_wp2
    go_ret
    exact ⟨rfl, rfl⟩
theorem Put_nil (at_ : Nat) (w : World) (g c : Nat) (B : Option Addr) (h2 : (at_ : Int) ≤ 9223372036854775807) :
    Calls Try.prog 46 #[.pointer (some ⟨g, 0, none⟩), .int .i64 at_, .slice B 0 c] w fun e w' => e = .returned (.bool true) ∧ w = w' := by
  have d1 : decide ((0 : Int) ≤ at_) = true := decide_eq_true (by omega)
  clear h2
  go_enter Try.func46, Try.ntmps46
  go_wp2
  go_ret
  exact ⟨rfl, rfl⟩
theorem Put_no (at_ : Nat) (w : World) (g L c m c' : Nat) (A B : Option Addr) (hL : L ≤ 1048576) (h2 : (at_ : Int) ≤ 9223372036854775807) (hm0 : 0 < m) (hno : L < at_ + m)
    (hm : Blk w g 60 #[.slice A L c]) :
    Calls Try.prog 46 #[.pointer (some ⟨g, 0, none⟩), .int .i64 at_, .slice B m c'] w fun e w' => e = .returned (.bool false) ∧ w = w' := by
  have d1 : decide ((at_ : Int) < 0) = false := decide_eq_false (by omega)
  have d2 : ((m : Int) == 0) = false := beq_eq_false_iff_ne.2 (by omega)
  have hcell := hm.cellv (i := 0) rfl
  by_cases h3 : L < at_
  · have d3 : decide ((L : Int) < at_) = true := decide_eq_true (by omega)
    go_enter Try.func46, Try.ntmps46
    go_wp2
    go_ret
    exact ⟨rfl, rfl⟩
  · have d3 : decide ((L : Int) < at_) = false := decide_eq_false (by omega)
    have d4 : decide ((L : Int) - at_ < m) = true := decide_eq_true (by omega)
    go_enter Try.func46, Try.ntmps46
    go_wp2
    go_ret
    exact ⟨rfl, rfl⟩
set_option maxRecDepth 100000 in
set_option maxHeartbeats 1000000 in
theorem Put_fit (at_ : Nat) (w : World) (g base L c m c' : Nat) (A B : Option Addr) (xs ls : List UInt8) (hL : L ≤ 1048576) (hm0 : 0 < m) (hfit : at_ + m ≤ L)
    (hm : Blk w g 60 #[.slice A L c]) (ho : w.ownsRow base 5 1 (.slice A L c) L (bv xs)) (hg : g < base) (hbs : base ≤ w.heap.size) (hb : Bytes w (.slice B m c') ls) :
    Calls Try.prog 46 #[.pointer (some ⟨g, 0, none⟩), .int .i64 at_, .slice B m c'] w fun e w' => e = .returned (.bool true) ∧
      Blk w' g 60 #[.slice A L c] ∧ w'.ownsRow base 5 1 (.slice A L c) L (bv (xs.take at_ ++ ls ++ xs.drop (at_ + m))) ∧ Below base w w' ∧ ∃ h, A = some ⟨h, 0, none⟩ ∧ w.grownBy w' (some h) := by
  obtain ⟨h, cap, e, hh1, hh2⟩ := own_pos ho (by omega)
  injection e with e1 _ e3
  subst e1 e3
  have hT := bytesTyM
  have hu := hT.1
  have HS := Lib.hid u8size
  have hLc : L ≤ c ∧ c ≤ 9223372036854775807 := by
    obtain ⟨_, _, _, e, _, h2, h3, _⟩ := Bytes.own ho
    injection e with e1 e2 e3
    subst e2 e3
    exact ⟨h2, h3⟩
  have hls : ls.length = m := by
    obtain ⟨_, _, _, e, h1, _⟩ := hb
    injection e with e1 e2 e3
    omega
  have HK := Lib.hid (show m = Nat.min m (L - at_) from (Nat.min_eq_left (by omega)).symm)
  have d1 : decide ((at_ : Int) < 0) = false := decide_eq_false (by omega)
  have d2 : ((m : Int) == 0) = false := beq_eq_false_iff_ne.2 (by omega)
  have d3 : decide ((L : Int) < at_) = false := decide_eq_false (by omega)
  have d4 : decide ((L : Int) - at_ < m) = false := decide_eq_false (by omega)
  have hcell := hm.cellv (i := 0) rfl
  go_enter Try.func46, Try.ntmps46
  go_wp2_with (first
    | ((with_reducible refine gd_copy ?_); refine wpList_copy_row rfl (.tmp 40) (.tmp 41) _ _ rfl hu HS.out (g := h) (off := at_) (by rfl) (by rfl) ho hb m HK.out hfit ?_; intro w2 ho2 hg2)
    | fail)
  go_ret
  rw [List.take_of_length_le (l := ls) (by omega), List.append_assoc] at ho2
  have hb2 : Below base w w2 := below_own (Below.refl base w) ho (Nat.le_refl _) hg2 hbs
  exact ⟨rfl, hm.below hb2 hg, ho2, hb2, hg2⟩
theorem Put_any (i : Int) (w : World) (g base m c' : Nat) (B : Option Addr) (l b : List UInt8) (r : Option Nat) (h1 : -9223372036854775808 ≤ i) (h2 : i ≤ 9223372036854775807) (h : MeR 60 w g base l r) (hl : l.length ≤ 1048576) (hg : g < base) (hbs : base ≤ w.heap.size) (hb : Bytes w (.slice B m c') b) :
    Calls Try.prog 46 #[.pointer (some ⟨g, 0, none⟩), .int .i64 i, .slice B m c'] w fun e w' => e = .returned (.bool (putOk l i b)) ∧ MeR 60 w' g base (putTo l i b) r ∧ Way2 g r w w' := by
  have hbl := Bytes_len hb
  by_cases hi : i < 0
  · have e1 : putOk l i b = false := by unfold putOk; rw [decide_eq_false (by omega)]; rfl
    have e2 : putTo l i b = l := by unfold putTo; rw [e1]; rfl
    rw [e1, e2]
    refine (Put_neg i w g m c' B h1 hi).mono ?_
    rintro e w' ⟨rfl, rfl⟩
    exact ⟨rfl, h, Way2.refl _⟩
  · obtain ⟨at_, rfl⟩ : ∃ m : Nat, i = m := ⟨i.toNat, by omega⟩
    by_cases h0 : m = 0
    · subst h0
      have hb0 : b = [] := List.eq_nil_of_length_eq_zero hbl
      subst hb0
      have e1 : putOk l at_ [] = true := by unfold putOk; rw [decide_eq_true (by omega)]; rfl
      have e2 : putTo l at_ [] = l := by unfold putTo; rw [if_pos e1]; simp
      rw [e1, e2]
      refine (Put_nil at_ w g c' B h2).mono ?_
      rintro e w' ⟨rfl, rfl⟩
      exact ⟨rfl, h, Way2.refl _⟩
    · by_cases hf : at_ + m ≤ l.length
      · have e1 : putOk l at_ b = true := by unfold putOk; rw [decide_eq_true (by omega), decide_eq_true (show (at_ : Int) + b.length ≤ l.length by omega)]; simp
        have e2 : putTo l at_ b = l.take at_ ++ b ++ l.drop (at_ + m) := by unfold putTo; rw [if_pos e1, hbl]; rfl
        have e3 := putTo_length l at_ b
        obtain ⟨A, c, hro, hm, ho⟩ := h
        rw [e1]
        refine (Put_fit at_ w g base l.length c m c' A B l b hl (by omega) hf hm ho hg hbs hb).mono ?_
        rintro e w' ⟨rfl, k1, k2, _, hh, k3, k4⟩
        rw [← e2] at k2
        refine ⟨rfl, ⟨A, c, by rw [e3]; exact hro, by rw [e3]; exact k1, by rw [e3]; exact k2⟩, Way2.of_grown ?_⟩
        rw [← hro, k3]
        exact k4
      · have e1 : putOk l at_ b = false := by unfold putOk; rw [decide_eq_true (by omega), decide_eq_false (show ¬ b.length = 0 by omega), decide_eq_false (show ¬ (at_ : Int) + b.length ≤ l.length by omega)]; rfl
        have e2 : putTo l at_ b = l := by unfold putTo; rw [e1]; rfl
        rw [e1, e2]
        obtain ⟨A, c, hro, hm, ho⟩ := h
        refine (Put_no at_ w g l.length c m c' A B hl h2 (by omega) (by omega) hm).mono ?_
        rintro e w' ⟨rfl, rfl⟩
        exact ⟨rfl, ⟨A, c, hro, hm, ho⟩, Way2.refl _⟩
end Go.Mun.RS

namespace Go.Mun
open Go Go.RowKit Go.Proofs

set_option maxRecDepth 100000 in
set_option maxHeartbeats 4000000 in
theorem step_grow (i j : Int) (at_ n q : Nat) (v : Value) (w : World) (g : Nat) (bm : List UInt8) (ls : List Nat) (rm rs rr rt : Option Nat) (h : FourR w g bm ls bm ls rm rs rr rt) (ha : at_ < 2 ^ 256) (hn : n < 2 ^ 256) (hq : bm.length = 32 * q) (hl : bm.length ≤ 1048576) :
    Calls Try.prog 37 #[.pointer (some ⟨g, 0, none⟩), .pointer (some ⟨g + 2, 0, none⟩), .pointer (some ⟨g + 1, 0, none⟩), .pointer (some ⟨g + 3, 0, none⟩), .agg (actL 0 i j at_ n v).toArray] w fun e w' => e = .returned (.bool true) ∧ StepTo w g (grownTo bm at_ n) ls w' := by
  have C1 := Lib.hid (fun w r hm hbs => MS.Grow_any at_ n q w g (g + 4) bm r ha hn hm hq hl (by omega) hbs)
  have C2 := Lib.hid (fun w r hm hbs => RS.Grow_any at_ n q w (g + 2) (g + 4) bm r ha hn hm hq hl (by omega) hbs)
  have hu := Try.underlying25
  have hi : ∀ x, (Try.prog.info? 25).map (·.size) = some (wcells x).toList.length := fun x => by rw [Array.length_toList, wcells_size]; kernel_rfl
  have e1 : (growGas bm at_ n == growGas bm at_ n) = true := by simp
  have e2 : (growOk at_ n == growOk at_ n) = true := by simp
  generalize growGas bm at_ n = zg at *
  generalize growOk at_ n = zo at *
  go_enter Try.func37, Try.ntmps37
  go_wp2_with (first
    | ((with_reducible refine gd_box ?_); refine wpList_box_agg rfl _ (.tmp 4) rfl rfl ?_; intro w1 hx1 hb1 hl1; have hF1 := FiveR.start h hx1 hb1; have hw1 := hF1.way; clear hx1 hb1 hl1)
    | ((with_reducible refine gd_load ?_); refine wpList_load_mid rfl 25 (.tmp 32) rfl w.heap.size 3 rfl (wcells at_).toList _ hF1.at_ hu rfl (hi _) ?_)
    | ((with_reducible refine gd_load ?_); refine wpList_load_mid rfl 25 (.tmp 34) rfl w.heap.size 35 rfl (wcells n).toList _ hF1.n_ hu rfl (hi _) ?_)
    | ((with_reducible refine gd_load ?_); refine wpList_load_mid rfl 25 (.tmp 41) rfl w.heap.size 3 rfl (wcells at_).toList _ hF2.at_ hu rfl (hi _) ?_)
    | ((with_reducible refine gd_load ?_); refine wpList_load_mid rfl 25 (.tmp 43) rfl w.heap.size 35 rfl (wcells n).toList _ hF2.n_ hu rfl (hi _) ?_)
    | (go_at_call 15; refine (C1.out _ _ hF1.four.m hF1.four.sz).mono ?_; rintro e w2 ⟨rfl, r2, hm2, hy2, hv2⟩; have hF2 := hF1.setM hm2 hy2 hv2; clear hm2 hy2 hv2)
    | (go_at_call 45; refine (C2.out _ _ hF2.four.r hF2.four.sz).mono ?_; rintro e w3 ⟨rfl, r3, hm3, hy3, hv3⟩; have hF3 := hF2.setR hm3 hy3 hv3; clear hm3 hy3 hv3)
    | fail)
  go_ret
  exact ⟨rfl, hF3.done⟩
end Go.Mun

namespace Go.Mun
open Go Go.RowKit Go.Proofs

set_option maxRecDepth 100000 in
set_option maxHeartbeats 4000000 in
theorem step_put (i j : Int) (at_ n m c : Nat) (B : Option Addr) (lb : List UInt8) (w : World) (g : Nat) (bm : List UInt8) (ls : List Nat) (rm rs rr rt : Option Nat) (h : FourR w g bm ls bm ls rm rs rr rt) (hl : bm.length ≤ 1048576) (hi1 : -9223372036854775808 ≤ i) (hi2 : i ≤ 9223372036854775807) (hB : ∀ w', Below g w w' → Bytes w' (.slice B m c) lb) (hm : m ≤ 100000) :
    Calls Try.prog 37 #[.pointer (some ⟨g, 0, none⟩), .pointer (some ⟨g + 2, 0, none⟩), .pointer (some ⟨g + 1, 0, none⟩), .pointer (some ⟨g + 3, 0, none⟩), .agg (actL 1 i j at_ n (.slice B m c)).toArray] w fun e w' => e = .returned (.bool true) ∧ StepTo w g (putTo bm i lb) ls w' := by
  have C1 := Lib.hid (fun w m c B b r hm hbs hb => MS.Put_any i w g (g + 4) m c B bm b r hi1 hi2 hm hl (by omega) hbs hb)
  have C2 := Lib.hid (fun w m c B b r hm hbs hb => RS.Put_any i w (g + 2) (g + 4) m c B bm b r hi1 hi2 hm hl (by omega) hbs hb)
  have hT := bytesTyM
  have hml := Bytes_len (hB w (Below.refl _ _))
  have HE := Lib.hid hml
  have e1 : (putOk bm i lb == putOk bm i lb) = true := by simp
  replace hB := Lib.hid hB
  clear hml
  go_enter Try.func37, Try.ntmps37
  go_wp2_with (first
    | ((with_reducible refine gd_box ?_); refine wpList_box_agg rfl _ (.tmp 4) rfl rfl ?_; intro w1 hx1 hb1 hl1; have hF1 := FiveR.start h hx1 hb1; have hw1 := hF1.way; have hcb := hF1.b_; have hB1 := hB.out _ hF1.below; clear hx1 hb1 hl1)
    | (at_builtin; refine wpList_append_bytes rfl (.const (.slice none 0 0)) (.tmp 59) _ rfl w1.heap.size hT (xs := []) rfl (World.ownsRow_nil _ _ _ _) rfl hB1 (by rw [HE.out]; omega) (Nat.le_refl _) ?_; intro v2 w2 ho2 hg2 hat2; rw [List.nil_append, Nat.zero_add, HE.out] at ho2; have hF2 := hF1.beside hg2 (fun x hx => by cases hx); have HB := hF1.fresh ho2; obtain ⟨A2, c2, rfl, hby2⟩ := row_slice ho2; have hi2' := hF2.i; have hz1 := hF1.four.sz; clear hg2 hat2)
    | (go_at_call 34; refine (C1.out _ _ _ _ _ _ hF2.four.m hF2.four.sz hby2).mono ?_; rintro e w3 ⟨rfl, hm3, hy3⟩; have hF3 := hF2.setM hm3 hy3 (.inl rfl); have ho3 := own_way2 ho2 hy3 (by omega) (fun x hx => (HB x hx).2.1); clear hm3 hy3)
    | fail)
  have HS0 := U8s.bv lb
  have HS1 := ho3
  have HS2 := hF3
  clear ho3 hF3
  have hg4 : g + 4 ≤ w1.heap.size := hz1
  go_loopw [17] (fun q wr => ∃ (k : Nat) (ys : List Value), k ≤ m ∧ q = .int .i64 k ∧ U8s ys ∧ wr.ownsRow w1.heap.size 5 1 (.slice A2 m c2) m ys ∧ (fun wr => FiveR w wr g w.heap.size (actL 1 i j at_ n (.slice B m c)) (putTo bm i lb) ls bm ls rm rs rr rt) wr) (fun q _ => m - (intOf q).toNat)
  case atStart => exact ⟨0, _, Nat.zero_le _, rfl, HS0, HS1, HS2⟩
  case round =>
    clear HS0 HS1 HS2
    obtain ⟨k, ys, hk, rfl, hu8, hoy, hFk⟩ := hrel
    by_cases hlt : k < m
    · obtain ⟨h', c9, e, _, _⟩ := own_pos hoy (by omega)
      injection e with e1 e2 e3
      subst e1 e3
      have hyl := hoy.1
      obtain ⟨z, hz⟩ : ∃ z : Int, ys[k]? = some (.int .u8 z) := by
        obtain ⟨z, hz⟩ := hu8 k _ (List.getElem?_eq_getElem (by omega))
        exact ⟨z, by rw [List.getElem?_eq_getElem (by omega), hz]⟩
      have hc1 := hoy.cellAt k (by omega)
      rw [hz] at hc1
      have hf1 := hoy.frozenAt k
      have d1 : decide ((k : Int) < m) = true := decide_eq_true (by omega)
      have b1 : (0 : Int) ≤ k := by omega
      have b2 : (k : Int) < m := by omega
      go_wp2
      have hrd := fun u => hFk.round (k := k) (u := u) hoy HB hg4
      have hset := fun z => hu8.set k z
      go_roundw
      case rel => exact ⟨k + 1, ys.set k (.int .u8 _), by omega, by go_num, hset _, (hrd _).2, (hrd _).1⟩
      case measure => simp [intOf]; omega
    · have d1 : decide ((k : Int) < m) = false := decide_eq_false (by omega)
      have hi9 := hFk.i
      have hb9 := hFk.b_
      have hB9 := hB.out _ hFk.below
      go_wp2_with (first
        | (go_at_call 46; refine (C2.out _ _ _ _ _ _ hFk.four.r hFk.four.sz hB9).mono ?_; rintro e w4 ⟨rfl, hm4, hy4⟩; have hF4 := hFk.setR hm4 hy4 (.inl rfl); clear hm4 hy4)
        | fail)
      go_ret
      exact ⟨rfl, hF4.done⟩
end Go.Mun

namespace Go.Mun
open Go Go.RowKit Go.Proofs

set_option maxRecDepth 100000 in
set_option maxHeartbeats 4000000 in
theorem step_get_far (i j : Int) (at_ n : Nat) (v : Value) (w : World) (g : Nat) (bm : List UInt8) (ls : List Nat) (rm rs rr rt : Option Nat) (h : FourR w g bm ls bm ls rm rs rr rt) (hj : 5000 < j) (hj' : j ≤ 1048576) :
    Calls Try.prog 37 #[.pointer (some ⟨g, 0, none⟩), .pointer (some ⟨g + 2, 0, none⟩), .pointer (some ⟨g + 1, 0, none⟩), .pointer (some ⟨g + 3, 0, none⟩), .agg (actL 2 i j at_ n v).toArray] w fun e w' => e = .returned (.bool true) ∧ StepTo w g bm ls w' := by
  have d1 : decide (5000 < j) = true := decide_eq_true hj
  have d2 : decide (j ≤ 1048576) = true := decide_eq_true hj'
  go_enter Try.func37, Try.ntmps37
  go_wp2_with (first
    | ((with_reducible refine gd_box ?_); refine wpList_box_agg rfl _ (.tmp 4) rfl rfl ?_; intro w1 hx1 hb1 hl1; have hF1 := FiveR.start h hx1 hb1; have hw1 := hF1.way; have hj1' := hF1.j; clear hx1 hb1 hl1)
    | fail)
  go_ret
  exact ⟨rfl, hF1.done⟩

set_option maxRecDepth 100000 in
set_option maxHeartbeats 4000000 in
theorem step_get_in (i j : Int) (at_ n : Nat) (v : Value) (w : World) (g : Nat) (bm : List UInt8) (ls : List Nat) (rm rs rr rt : Option Nat) (h : FourR w g bm ls bm ls rm rs rr rt) (hi1 : -9223372036854775808 ≤ i) (hi2 : i ≤ 9223372036854775807) (hj1 : -9223372036854775808 ≤ j) (hj2 : j ≤ 9223372036854775807) (hj : j ≤ 5000) :
    Calls Try.prog 37 #[.pointer (some ⟨g, 0, none⟩), .pointer (some ⟨g + 2, 0, none⟩), .pointer (some ⟨g + 1, 0, none⟩), .pointer (some ⟨g + 3, 0, none⟩), .agg (actL 2 i j at_ n v).toArray] w fun e w' => e = .returned (.bool true) ∧ StepTo w g bm ls w' := by
  have C1 := Lib.hid (fun w r hm => MS.Get_any i j w g (g + 4) bm r hi1 hi2 hj1 hj2 hm)
  have C2 := Lib.hid (fun w r hm => RS.Get_any i j w (g + 2) (g + 4) bm r hi1 hi2 hj1 hj2 hm)
  have HS := Lib.hid (fun (w : World) (A : Option Addr) (n c : Nat) (l : List UInt8) (h : Bytes w (.slice A n c) l) => run_str (P := Try.prog) (src := 26) (dst := 9) h Try.underlying26 Try.underlying5 Try.underlying9)
  have d1 : decide (5000 < j) = false := decide_eq_false (by omega)
  have hse := str_self (getL bm i j)
  have hm : (getL bm i j).length ≤ 1048576 := by rw [getL_length]; split <;> omega
  go_enter Try.func37, Try.ntmps37
  go_wp2_with (first
    | ((with_reducible refine gd_box ?_); refine wpList_box_agg rfl _ (.tmp 4) rfl rfl ?_; intro w1 hx1 hb1 hl1; have hF1 := FiveR.start h hx1 hb1; have hw1 := hF1.way; have hi1' := hF1.i; have hj1' := hF1.j; clear hx1 hb1 hl1)
    | (go_at_call 33; refine (C1.out _ _ hF1.four.m).mono ?_; rintro e w2 ⟨v2, rfl, ho2, hb2⟩; have hF2 := hF1.ext hb2; have HB := hF1.fresh ho2; obtain ⟨A2, c2, rfl, hby2⟩ := row_slice ho2; have hi2' := hF2.i; have hj2' := hF2.j; have hz1 := hF1.four.sz)
    | (go_at_call 47; refine (C2.out _ _ hF2.four.r).mono ?_; rintro e w3 ⟨v3, rfl, ho3, hb3⟩; have hF3 := hF2.ext hb3; obtain ⟨A3, c3, rfl, hby3⟩ := row_slice ho3; have ho23 := own_ext ho2 hb3; have hby23 := Bytes.own ho23; have q1 := HS.out _ _ _ _ _ hby23; have q2 := HS.out _ _ _ _ _ hby3)
    | fail)
  have HS0 := U8s.bv (getL bm i j)
  have HS1 := ho23
  have HS2 := hF3
  clear ho23 hF3 ho3 ho2 hby2 hby23 hby3 hb2 hb3
  have hg4 : g + 4 ≤ w1.heap.size := hz1
  generalize (getL bm i j).length = m at *
  go_loopw [21] (fun q wr => ∃ (k : Nat) (ys : List Value), k ≤ m ∧ q = .int .i64 k ∧ U8s ys ∧ wr.ownsRow w1.heap.size 5 1 (.slice A2 m c2) m ys ∧ (fun wr => FiveR w wr g w.heap.size (actL 2 i j at_ n v) bm ls bm ls rm rs rr rt) wr) (fun q _ => m - (intOf q).toNat)
  case atStart => exact ⟨0, _, Nat.zero_le _, rfl, HS0, HS1, HS2⟩
  case round =>
    clear HS0 HS1 HS2
    obtain ⟨k, ys, hk, rfl, hu8, hoy, hFk⟩ := hrel
    by_cases hlt : k < m
    · obtain ⟨h', c9, e, _, _⟩ := own_pos hoy (by omega)
      injection e with e1 e2 e3
      subst e1 e3
      have hyl := hoy.1
      obtain ⟨z, hz⟩ : ∃ z : Int, ys[k]? = some (.int .u8 z) := by
        obtain ⟨z, hz⟩ := hu8 k _ (List.getElem?_eq_getElem (by omega))
        exact ⟨z, by rw [List.getElem?_eq_getElem (by omega), hz]⟩
      have hc1 := hoy.cellAt k (by omega)
      rw [hz] at hc1
      have hf1 := hoy.frozenAt k
      have d1 : decide ((k : Int) < m) = true := decide_eq_true (by omega)
      have b1 : (0 : Int) ≤ k := by omega
      have b2 : (k : Int) < m := by omega
      go_wp2
      have hrd := fun u => hFk.round (k := k) (u := u) hoy HB hg4
      have hset := fun z => hu8.set k z
      go_roundw
      case rel => exact ⟨k + 1, ys.set k (.int .u8 _), by omega, by go_num, hset _, (hrd _).2, (hrd _).1⟩
      case measure => simp [intOf]; omega
    · have d1 : decide ((k : Int) < m) = false := decide_eq_false (by omega)
      go_wp2
      go_ret
      exact ⟨rfl, hFk.done⟩

set_option maxRecDepth 100000 in
set_option maxHeartbeats 4000000 in
theorem step_get_out (i j : Int) (at_ n : Nat) (v : Value) (w : World) (g : Nat) (bm : List UInt8) (ls : List Nat) (rm rs rr rt : Option Nat) (h : FourR w g bm ls bm ls rm rs rr rt) (hi1 : -9223372036854775808 ≤ i) (hi2 : i ≤ 9223372036854775807) (hj1 : -9223372036854775808 ≤ j) (hj2 : j ≤ 9223372036854775807) (hj : 1048576 < j) :
    Calls Try.prog 37 #[.pointer (some ⟨g, 0, none⟩), .pointer (some ⟨g + 2, 0, none⟩), .pointer (some ⟨g + 1, 0, none⟩), .pointer (some ⟨g + 3, 0, none⟩), .agg (actL 2 i j at_ n v).toArray] w fun e w' => e = .returned (.bool true) ∧ StepTo w g bm ls w' := by
  have C1 := Lib.hid (fun w r hm => MS.Get_any i j w g (g + 4) bm r hi1 hi2 hj1 hj2 hm)
  have C2 := Lib.hid (fun w r hm => RS.Get_any i j w (g + 2) (g + 4) bm r hi1 hi2 hj1 hj2 hm)
  have HS := Lib.hid (fun (w : World) (A : Option Addr) (n c : Nat) (l : List UInt8) (h : Bytes w (.slice A n c) l) => run_str (P := Try.prog) (src := 26) (dst := 9) h Try.underlying26 Try.underlying5 Try.underlying9)
  have d1 : decide (5000 < j) = true := decide_eq_true (by omega)
  have d2 : decide (j ≤ 1048576) = false := decide_eq_false (by omega)
  have hse := str_self (getL bm i j)
  have hm : (getL bm i j).length ≤ 1048576 := by rw [getL_length]; split <;> omega
  go_enter Try.func37, Try.ntmps37
  go_wp2_with (first
    | ((with_reducible refine gd_box ?_); refine wpList_box_agg rfl _ (.tmp 4) rfl rfl ?_; intro w1 hx1 hb1 hl1; have hF1 := FiveR.start h hx1 hb1; have hw1 := hF1.way; have hi1' := hF1.i; have hj1' := hF1.j; clear hx1 hb1 hl1)
    | (go_at_call 33; refine (C1.out _ _ hF1.four.m).mono ?_; rintro e w2 ⟨v2, rfl, ho2, hb2⟩; have hF2 := hF1.ext hb2; have HB := hF1.fresh ho2; obtain ⟨A2, c2, rfl, hby2⟩ := row_slice ho2; have hi2' := hF2.i; have hj2' := hF2.j; have hz1 := hF1.four.sz)
    | (go_at_call 47; refine (C2.out _ _ hF2.four.r).mono ?_; rintro e w3 ⟨v3, rfl, ho3, hb3⟩; have hF3 := hF2.ext hb3; obtain ⟨A3, c3, rfl, hby3⟩ := row_slice ho3; have ho23 := own_ext ho2 hb3; have hby23 := Bytes.own ho23; have q1 := HS.out _ _ _ _ _ hby23; have q2 := HS.out _ _ _ _ _ hby3)
    | fail)
  have HS0 := U8s.bv (getL bm i j)
  have HS1 := ho23
  have HS2 := hF3
  clear ho23 hF3 ho3 ho2 hby2 hby23 hby3 hb2 hb3
  have hg4 : g + 4 ≤ w1.heap.size := hz1
  generalize (getL bm i j).length = m at *
  go_loopw [21] (fun q wr => ∃ (k : Nat) (ys : List Value), k ≤ m ∧ q = .int .i64 k ∧ U8s ys ∧ wr.ownsRow w1.heap.size 5 1 (.slice A2 m c2) m ys ∧ (fun wr => FiveR w wr g w.heap.size (actL 2 i j at_ n v) bm ls bm ls rm rs rr rt) wr) (fun q _ => m - (intOf q).toNat)
  case atStart => exact ⟨0, _, Nat.zero_le _, rfl, HS0, HS1, HS2⟩
  case round =>
    clear HS0 HS1 HS2
    obtain ⟨k, ys, hk, rfl, hu8, hoy, hFk⟩ := hrel
    by_cases hlt : k < m
    · obtain ⟨h', c9, e, _, _⟩ := own_pos hoy (by omega)
      injection e with e1 e2 e3
      subst e1 e3
      have hyl := hoy.1
      obtain ⟨z, hz⟩ : ∃ z : Int, ys[k]? = some (.int .u8 z) := by
        obtain ⟨z, hz⟩ := hu8 k _ (List.getElem?_eq_getElem (by omega))
        exact ⟨z, by rw [List.getElem?_eq_getElem (by omega), hz]⟩
      have hc1 := hoy.cellAt k (by omega)
      rw [hz] at hc1
      have hf1 := hoy.frozenAt k
      have d1 : decide ((k : Int) < m) = true := decide_eq_true (by omega)
      have b1 : (0 : Int) ≤ k := by omega
      have b2 : (k : Int) < m := by omega
      go_wp2
      have hrd := fun u => hFk.round (k := k) (u := u) hoy HB hg4
      have hset := fun z => hu8.set k z
      go_roundw
      case rel => exact ⟨k + 1, ys.set k (.int .u8 _), by omega, by go_num, hset _, (hrd _).2, (hrd _).1⟩
      case measure => simp [intOf]; omega
    · have d1 : decide ((k : Int) < m) = false := decide_eq_false (by omega)
      go_wp2
      go_ret
      exact ⟨rfl, hFk.done⟩

theorem step_get (i j : Int) (at_ n : Nat) (v : Value) (w : World) (g : Nat) (bm : List UInt8) (ls : List Nat) (rm rs rr rt : Option Nat) (h : FourR w g bm ls bm ls rm rs rr rt) (hi1 : -9223372036854775808 ≤ i) (hi2 : i ≤ 9223372036854775807) (hj1 : -9223372036854775808 ≤ j) (hj2 : j ≤ 9223372036854775807) :
    Calls Try.prog 37 #[.pointer (some ⟨g, 0, none⟩), .pointer (some ⟨g + 2, 0, none⟩), .pointer (some ⟨g + 1, 0, none⟩), .pointer (some ⟨g + 3, 0, none⟩), .agg (actL 2 i j at_ n v).toArray] w fun e w' => e = .returned (.bool true) ∧ StepTo w g bm ls w' := by
  by_cases h1 : j ≤ 5000
  · exact step_get_in i j at_ n v w g bm ls rm rs rr rt h hi1 hi2 hj1 hj2 h1
  · by_cases h2 : j ≤ 1048576
    · exact step_get_far i j at_ n v w g bm ls rm rs rr rt h (by omega) h2
    · exact step_get_out i j at_ n v w g bm ls rm rs rr rt h hi1 hi2 hj1 hj2 (by omega)
end Go.Mun

namespace Go.Mun
open Go Go.RowKit Go.Proofs
/-- what each operation of the region writes -/
def SSt3 (g b : Nat) (x : Nat) (o : Bool) : Nat → Value → World → Prop
  | 0, v, _ => v = .pointer (some ⟨g + 1, 0, none⟩)
  | 1, v, _ => v = .pointer (some ⟨b, 3, none⟩)
  | 2, v, _ => v = .agg (wcells x)
  | 3, v, _ => v = .bool o
  | 4, v, _ => v = .pointer (some ⟨g + 3, 0, none⟩)
  | 5, v, _ => v = .pointer (some ⟨b, 3, none⟩)
  | 6, v, _ => v = .agg (wcells x)
  | 7, v, _ => v = .bool o
  | 8, v, _ => v = .bool true
  | _, v, _ => v = .bool true
theorem SSt3_stays (g b : Nat) (x : Nat) (o : Bool) : ∀ i v (wa wb : World), Below g wa wb → SSt3 g b x o i v wa → SSt3 g b x o i v wb
  | 0, _, _, _, _, h => h
  | 1, _, _, _, _, h => h
  | 2, _, _, _, _, h => h
  | 3, _, _, _, _, h => h
  | 4, _, _, _, _, h => h
  | 5, _, _, _, _, h => h
  | 6, _, _, _, _, h => h
  | 7, _, _, _, _, h => h
  | 8, _, _, _, _, h => h
  | _ + 9, _, _, _, _, h => h
/-- how far it has come -/
def JSt3 (w0 : World) (g b : Nat) (cs : List Value) (bm : List UInt8) (l l' : List Nat) (rm rr : Option Nat) (L : Nat → Bool) (_ : Nat → Value) (w : World) : Prop :=
  ∃ rs rt, FiveR w0 w g b cs bm (bif L 3 then l' else l) bm (bif L 7 then l' else l) rm rs rr rt
theorem JSt3_far (w0 : World) (g b : Nat) (cs : List Value) (bm : List UInt8) (l l' : List Nat) (rm rr : Option Nat) {L : Nat → Bool} {V : Nat → Value} {w : World} (hJ : JSt3 w0 g b cs bm l l' rm rr L V w) {k : Nat} {v : Value} (h3 : (3 : Nat) ≠ k) (h7 : (7 : Nat) ≠ k) : JSt3 w0 g b cs bm l l' rm rr (updL L k) (upd V k v) w := by
  unfold JSt3 at hJ ⊢
  simp only [updL_ne h3, updL_ne h7]
  exact hJ

set_option maxRecDepth 100000 in
set_option maxHeartbeats 4000000 in
theorem step_push (i j : Int) (at_ n : Nat) (v : Value) (w : World) (g : Nat) (bm : List UInt8) (ls : List Nat) (rm rs rr rt : Option Nat) (h : FourR w g bm ls bm ls rm rs rr rt) (_hl : ls.length ≤ 1024) :
    Calls Try.prog 37 #[.pointer (some ⟨g, 0, none⟩), .pointer (some ⟨g + 2, 0, none⟩), .pointer (some ⟨g + 1, 0, none⟩), .pointer (some ⟨g + 3, 0, none⟩), .agg (actL 3 i j at_ n v).toArray] w fun e w' => e = .returned (.bool true) ∧ StepTo w g bm (pushed ls at_) w' := by
  have C1 := Lib.hid (fun w r hs hbs => push_any at_ w (g + 1) (g + 4) ls r hs (by omega) hbs)
  have C2 := Lib.hid (fun w r hs hbs => RS.push_any at_ w (g + 3) (g + 4) ls r hs (by omega) hbs)
  have hu := Try.underlying25
  have hi : ∀ x, (Try.prog.info? 25).map (·.size) = some (wcells x).toList.length := fun x => by rw [Array.length_toList, wcells_size]; kernel_rfl
  obtain ⟨o, ho⟩ : ∃ o, o = decide (ls.length < 1024) := ⟨_, rfl⟩
  obtain ⟨l', hl'⟩ : ∃ l', l' = pushed ls at_ := ⟨_, rfl⟩
  rw [← ho, ← hl'] at C1 C2
  rw [← hl']
  clear ho hl'
  have eo : (o == o) = true := by simp
  go_enter Try.func37, Try.ntmps37
  go_upto_region 26 with (first
    | ((with_reducible refine gd_box ?_); refine wpList_box_agg rfl _ (.tmp 4) rfl rfl ?_; intro w1 hx1 hb1 hl1; have hF1 := FiveR.start h hx1 hb1; have hw1 := hF1.way; clear hx1 hb1 hl1)
    | fail)
  have hF1d := hF1.drew
  clear hF1 hw1
  obtain ⟨b, hb⟩ : ∃ b, b = w.heap.size := ⟨_, rfl⟩
  rw [← hb] at hF1d
  rw [← hb]
  clear hb
  refine wp_region_phase (by kernel_rfl) (by kernel_rfl) (by kernel_rfl) (fun w w' => Below g w w') (fun w => Below.refl _ _) (fun _ _ _ h k => h.trans k) (SSt3 g b at_ o) (SSt3_stays _ _ _ _) (JSt3 w g b (actL 3 i j at_ n v) bm ls l' rm rr)
    ⟨rs, rt, hF1d⟩ ?_ ?_
  · clear hF1d h
    simp only [PhStep]
    refine ⟨?_, ?_, ?_, ?_, ?_, ?_, ?_, ?_, ?_, ?_, trivial⟩
    · intro L V w' hb hj hl hdo hcl hd
      clear hdo hcl
      clear hd
      refine ⟨?_⟩
      simp only [fill]
      go_wp2
      exact ⟨⟨rfl, rfl, Below.refl _ _, rfl⟩, (JSt3_far _ _ _ _ _ _ _ _ _ hj (by decide) (by decide))⟩
    · intro L V w' hb hj hl hdo hcl hd
      clear hdo hcl
      clear hd
      refine ⟨?_⟩
      simp only [fill]
      go_wp2
      exact ⟨⟨rfl, rfl, Below.refl _ _, rfl⟩, (JSt3_far _ _ _ _ _ _ _ _ _ hj (by decide) (by decide))⟩
    · intro L V w' hb hj hl hdo hcl hd
      obtain ⟨rs', rt', hF⟩ := hj
      have hr1 := hF.at_
      clear hdo hcl
      simp only [DepFacts, SSt3, Region.binds, forall_const, and_true] at hd
      refine ⟨?_⟩
      simp only [fill, hd]
      clear hd
      simp only [Act.put, List.setIfInBounds_toArray, List.set_cons_zero, List.set_cons_succ]
      go_wp2_with (first | ((with_reducible refine gd_load ?_); refine wpList_load_mid rfl 25 (.tmp 133) rfl b 3 rfl (wcells at_).toList _ hr1 hu rfl (hi _) ?_) | fail)
      exact ⟨⟨rfl, rfl, Below.refl _ _, rfl⟩, JSt3_far _ _ _ _ _ _ _ _ _ ⟨rs', rt', hF⟩ (by decide) (by decide)⟩
    · intro L V w' hb hj hl hdo hcl hd
      obtain ⟨rs', rt', hF⟩ := hj
      rw [hl] at hF
      clear hdo hcl
      simp only [DepFacts, SSt3, Region.binds, forall_const, and_true] at hd
      refine ⟨?_⟩
      simp only [fill, hd]
      clear hd
      go_wp2_with (first | (go_at_call 20; refine (C1.out _ _ hF.four.s hF.four.sz).mono ?_; rintro e w3 ⟨rfl, r3, hs3, hy3, hv3⟩) | fail)
      have hF3 := hF.setS hs3 hy3 hv3
      refine ⟨⟨rfl, rfl, below_way2 hy3 (by omega) (by have := hF.four.sz; omega) (fun x hx => by have := (hF.four.s.row_lt x hx).1; omega), rfl⟩, r3, rt', ?_⟩
      rw [updL_same, updL_ne (by decide)]
      exact hF3
    · intro L V w' hb hj hl hdo hcl hd
      clear hdo hcl
      clear hd
      refine ⟨?_⟩
      simp only [fill]
      go_wp2
      exact ⟨⟨rfl, rfl, Below.refl _ _, rfl⟩, (JSt3_far _ _ _ _ _ _ _ _ _ hj (by decide) (by decide))⟩
    · intro L V w' hb hj hl hdo hcl hd
      clear hdo hcl
      clear hd
      refine ⟨?_⟩
      simp only [fill]
      go_wp2
      exact ⟨⟨rfl, rfl, Below.refl _ _, rfl⟩, (JSt3_far _ _ _ _ _ _ _ _ _ hj (by decide) (by decide))⟩
    · intro L V w' hb hj hl hdo hcl hd
      obtain ⟨rs', rt', hF⟩ := hj
      have hr1 := hF.at_
      clear hdo hcl
      simp only [DepFacts, SSt3, Region.binds, forall_const, and_true] at hd
      refine ⟨?_⟩
      simp only [fill, hd]
      clear hd
      simp only [Act.put, List.setIfInBounds_toArray, List.set_cons_zero, List.set_cons_succ]
      go_wp2_with (first | ((with_reducible refine gd_load ?_); refine wpList_load_mid rfl 25 (.tmp 137) rfl b 3 rfl (wcells at_).toList _ hr1 hu rfl (hi _) ?_) | fail)
      exact ⟨⟨rfl, rfl, Below.refl _ _, rfl⟩, JSt3_far _ _ _ _ _ _ _ _ _ ⟨rs', rt', hF⟩ (by decide) (by decide)⟩
    · intro L V w' hb hj hl hdo hcl hd
      obtain ⟨rs', rt', hF⟩ := hj
      rw [hl] at hF
      clear hdo hcl
      simp only [DepFacts, SSt3, Region.binds, forall_const, and_true] at hd
      refine ⟨?_⟩
      simp only [fill, hd]
      clear hd
      go_wp2_with (first | (go_at_call 48; refine (C2.out _ _ hF.four.t hF.four.sz).mono ?_; rintro e w3 ⟨rfl, r3, hs3, hy3, hv3⟩) | fail)
      have hF3 := hF.setT hs3 hy3 hv3
      refine ⟨⟨rfl, rfl, below_way2 hy3 (by omega) (by have := hF.four.sz; omega) (fun x hx => by have := (hF.four.t.row_lt x hx).1; omega), rfl⟩, rs', r3, ?_⟩
      rw [updL_same, updL_ne (by decide)]
      exact hF3
    · intro L V w' hb hj hl hdo hcl hd
      clear hdo hcl
      simp only [DepFacts, SSt3, Region.binds, forall_const, and_true] at hd
      refine ⟨?_⟩
      simp only [fill, hd]
      clear hd
      go_wp2
      exact ⟨⟨rfl, rfl, Below.refl _ _, rfl⟩, JSt3_far _ _ _ _ _ _ _ _ _ hj (by decide) (by decide)⟩
    · intro L V w' hb hj hl hdo hcl hd
      clear hdo hcl
      simp only [DepFacts, SSt3, Region.binds, forall_const, and_true] at hd
      refine ⟨?_⟩
      simp only [fill, hd]
      clear hd
      go_wp2
      exact ⟨⟨rfl, rfl, Below.refl _ _, rfl⟩, (JSt3_far _ _ _ _ _ _ _ _ _ hj (by decide) (by decide))⟩
  · intro L V w' hL hb hs hj
    obtain ⟨rs', rt', hF⟩ := hj
    rw [hL 3 (by decide), hL 7 (by decide)] at hF
    have hF : FiveR w w' g b (actL 3 i j at_ n v) bm l' bm l' rm rs' rr rt' := hF
    clear hL
    simp only [SFacts, SSt3, and_true] at hs
    simp only [fill, hs]
    try simp only [Exit.then]
    clear hs
    try go_simp
    go_wp2
    go_ret
    exact ⟨rfl, hF.done⟩
end Go.Mun

namespace Go.Mun
open Go Go.RowKit Go.Proofs

set_option maxRecDepth 100000 in
set_option maxHeartbeats 4000000 in
theorem step_pop (i j : Int) (at_ n : Nat) (v : Value) (w : World) (g : Nat) (bm : List UInt8) (ls : List Nat) (rm rs rr rt : Option Nat) (h : FourR w g bm ls bm ls rm rs rr rt) (hl : ls.length ≤ 1024) (hi1 : -9223372036854775808 ≤ i) (hi2 : i ≤ 9223372036854775807) :
    Calls Try.prog 37 #[.pointer (some ⟨g, 0, none⟩), .pointer (some ⟨g + 2, 0, none⟩), .pointer (some ⟨g + 1, 0, none⟩), .pointer (some ⟨g + 3, 0, none⟩), .agg (actL 4 i j at_ n v).toArray] w fun e w' => e = .returned (.bool true) ∧ StepTo w g bm (popL ls i) w' := by
  have C1 := Lib.hid (fun w r hs hbs => Pop_any i w (g + 1) (g + 4) ls r hi1 hi2 hs (by omega) hbs (by omega))
  have C2 := Lib.hid (fun w r hs hbs => RS.Pop_any i w (g + 3) (g + 4) ls r hi1 hi2 hs (by omega) hbs (by omega))
  have hpw : (popW ls i).length ≤ 100000 := by have := popW_length ls i; omega
  have e1 : (popOk ls i == popOk ls i) = true := by simp
  go_enter Try.func37, Try.ntmps37
  go_wp2_with (first
    | (with_reducible refine gd_box ?_; refine wpList_box_agg rfl _ (.tmp 4) rfl rfl ?_; intro w1 hx1 hb1 hl1; have hF1 := FiveR.start h hx1 hb1; have hw1 := hF1.way; have hi1' := hF1.i; clear hx1 hb1 hl1)
    | (go_at_call 36; refine (C1.out _ _ hF1.four.s hF1.four.sz).mono ?_; rintro e w2 ⟨A2, c2, rfl, ho2, hs2, hy2⟩; have hF2 := hF1.setS hs2 hy2.weaken (.inl rfl); have hi2' := hF2.i; have hz2 := hF1.four.sz; clear hs2 hy2)
    | (go_at_call 38; refine (C2.out _ _ hF2.four.t hF2.four.sz).mono ?_; rintro e w3 ⟨A3, c3, rfl, ho3, hs3, hy3⟩; have hF3 := hF2.setT hs3 hy3.weaken (.inl rfl); have ho23 := own_way2 ho2 hy3 (by omega) (fun x _ e => by cases e); clear hs3 hy3)
    | (go_at_call 39; refine (SameWords_self _ _ _ _ _ _ _ _ _ rfl hpw ho23 ho3).mono ?_; rintro e w4 ⟨rfl, hb4⟩; have hF4 := hF3.ext hb4)
    | fail)
  go_ret
  exact ⟨rfl, hF4.done⟩
end Go.Mun

namespace Go.Mun
open Go Go.RowKit Go.Proofs
/-- what each operation of the region writes -/
def SSt5 (g b : Nat) (x : Int) (o : Bool) : Nat → Value → World → Prop
  | 0, v, _ => v = .pointer (some ⟨g + 1, 0, none⟩)
  | 1, v, _ => v = .pointer (some ⟨b, 1, none⟩)
  | 2, v, _ => v = .int .i64 x
  | 3, v, _ => v = .bool o
  | 4, v, _ => v = .pointer (some ⟨g + 3, 0, none⟩)
  | 5, v, _ => v = .pointer (some ⟨b, 1, none⟩)
  | 6, v, _ => v = .int .i64 x
  | 7, v, _ => v = .bool o
  | 8, v, _ => v = .bool true
  | _, v, _ => v = .bool true
theorem SSt5_stays (g b : Nat) (x : Int) (o : Bool) : ∀ i v (wa wb : World), Below g wa wb → SSt5 g b x o i v wa → SSt5 g b x o i v wb
  | 0, _, _, _, _, h => h
  | 1, _, _, _, _, h => h
  | 2, _, _, _, _, h => h
  | 3, _, _, _, _, h => h
  | 4, _, _, _, _, h => h
  | 5, _, _, _, _, h => h
  | 6, _, _, _, _, h => h
  | 7, _, _, _, _, h => h
  | 8, _, _, _, _, h => h
  | _ + 9, _, _, _, _, h => h
/-- how far it has come -/
def JSt5 (w0 : World) (g b : Nat) (cs : List Value) (bm : List UInt8) (l l' : List Nat) (rm rr : Option Nat) (L : Nat → Bool) (_ : Nat → Value) (w : World) : Prop :=
  ∃ rs rt, FiveR w0 w g b cs bm (bif L 3 then l' else l) bm (bif L 7 then l' else l) rm rs rr rt
theorem JSt5_far (w0 : World) (g b : Nat) (cs : List Value) (bm : List UInt8) (l l' : List Nat) (rm rr : Option Nat) {L : Nat → Bool} {V : Nat → Value} {w : World} (hJ : JSt5 w0 g b cs bm l l' rm rr L V w) {k : Nat} {v : Value} (h3 : (3 : Nat) ≠ k) (h7 : (7 : Nat) ≠ k) : JSt5 w0 g b cs bm l l' rm rr (updL L k) (upd V k v) w := by
  unfold JSt5 at hJ ⊢
  simp only [updL_ne h3, updL_ne h7]
  exact hJ

set_option maxRecDepth 100000 in
set_option maxHeartbeats 4000000 in
theorem step_dup (i j : Int) (at_ n : Nat) (v : Value) (w : World) (g : Nat) (bm : List UInt8) (ls : List Nat) (rm rs rr rt : Option Nat) (h : FourR w g bm ls bm ls rm rs rr rt) (hl : ls.length ≤ 1024) (hi1 : -9223372036854775808 ≤ i) (hi2 : i ≤ 9223372036854775807) :
    Calls Try.prog 37 #[.pointer (some ⟨g, 0, none⟩), .pointer (some ⟨g + 2, 0, none⟩), .pointer (some ⟨g + 1, 0, none⟩), .pointer (some ⟨g + 3, 0, none⟩), .agg (actL 5 i j at_ n v).toArray] w fun e w' => e = .returned (.bool true) ∧ StepTo w g bm (dupL ls i) w' := by
  have C1 := Lib.hid (fun w r hs hbs => Dup_any i w (g + 1) (g + 4) ls r hi1 hi2 hs (by omega) hbs (by omega))
  have C2 := Lib.hid (fun w r hs hbs => RS.Dup_any i w (g + 3) (g + 4) ls r hi1 hi2 hs (by omega) hbs (by omega))
  have hu := Try.underlying25
  have hi : ∀ x, (Try.prog.info? 25).map (·.size) = some (wcells x).toList.length := fun x => by rw [Array.length_toList, wcells_size]; kernel_rfl
  obtain ⟨o, ho⟩ : ∃ o, o = dupOk ls i := ⟨_, rfl⟩
  obtain ⟨l', hl'⟩ : ∃ l', l' = dupL ls i := ⟨_, rfl⟩
  rw [← ho, ← hl'] at C1 C2
  rw [← hl']
  clear ho hl'
  have eo : (o == o) = true := by simp
  go_enter Try.func37, Try.ntmps37
  go_upto_region 32 with (first
    | ((with_reducible refine gd_box ?_); refine wpList_box_agg rfl _ (.tmp 4) rfl rfl ?_; intro w1 hx1 hb1 hl1; have hF1 := FiveR.start h hx1 hb1; have hw1 := hF1.way; clear hx1 hb1 hl1)
    | fail)
  have hF1d := hF1.drew
  clear hF1 hw1
  obtain ⟨b, hb⟩ : ∃ b, b = w.heap.size := ⟨_, rfl⟩
  rw [← hb] at hF1d
  rw [← hb]
  clear hb
  refine wp_region_phase (by kernel_rfl) (by kernel_rfl) (by kernel_rfl) (fun w w' => Below g w w') (fun w => Below.refl _ _) (fun _ _ _ h k => h.trans k) (SSt5 g b i o) (SSt5_stays _ _ _ _) (JSt5 w g b (actL 5 i j at_ n v) bm ls l' rm rr)
    ⟨rs, rt, hF1d⟩ ?_ ?_
  · clear hF1d h
    simp only [PhStep]
    refine ⟨?_, ?_, ?_, ?_, ?_, ?_, ?_, ?_, ?_, ?_, trivial⟩
    · intro L V w' hb hj hl hdo hcl hd
      clear hdo hcl
      clear hd
      refine ⟨?_⟩
      simp only [fill]
      go_wp2
      exact ⟨⟨rfl, rfl, Below.refl _ _, rfl⟩, (JSt5_far _ _ _ _ _ _ _ _ _ hj (by decide) (by decide))⟩
    · intro L V w' hb hj hl hdo hcl hd
      clear hdo hcl
      clear hd
      refine ⟨?_⟩
      simp only [fill]
      go_wp2
      exact ⟨⟨rfl, rfl, Below.refl _ _, rfl⟩, (JSt5_far _ _ _ _ _ _ _ _ _ hj (by decide) (by decide))⟩
    · intro L V w' hb hj hl hdo hcl hd
      obtain ⟨rs', rt', hF⟩ := hj
      have hc1 := hF.i
      clear hdo hcl
      simp only [DepFacts, SSt5, Region.binds, forall_const, and_true] at hd
      refine ⟨?_⟩
      simp only [fill, hd]
      clear hd
      go_wp2
      exact ⟨⟨rfl, rfl, Below.refl _ _, rfl⟩, JSt5_far _ _ _ _ _ _ _ _ _ ⟨rs', rt', hF⟩ (by decide) (by decide)⟩
    · intro L V w' hb hj hl hdo hcl hd
      obtain ⟨rs', rt', hF⟩ := hj
      rw [hl] at hF
      clear hdo hcl
      simp only [DepFacts, SSt5, Region.binds, forall_const, and_true] at hd
      refine ⟨?_⟩
      simp only [fill, hd]
      clear hd
      go_wp2_with (first | (go_at_call 21; refine (C1.out _ _ hF.four.s hF.four.sz).mono ?_; rintro e w3 ⟨rfl, r3, hs3, hy3, hv3⟩) | fail)
      have hF3 := hF.setS hs3 hy3 hv3
      refine ⟨⟨rfl, rfl, below_way2 hy3 (by omega) (by have := hF.four.sz; omega) (fun x hx => by have := (hF.four.s.row_lt x hx).1; omega), rfl⟩, r3, rt', ?_⟩
      rw [updL_same, updL_ne (by decide)]
      exact hF3
    · intro L V w' hb hj hl hdo hcl hd
      clear hdo hcl
      clear hd
      refine ⟨?_⟩
      simp only [fill]
      go_wp2
      exact ⟨⟨rfl, rfl, Below.refl _ _, rfl⟩, (JSt5_far _ _ _ _ _ _ _ _ _ hj (by decide) (by decide))⟩
    · intro L V w' hb hj hl hdo hcl hd
      clear hdo hcl
      clear hd
      refine ⟨?_⟩
      simp only [fill]
      go_wp2
      exact ⟨⟨rfl, rfl, Below.refl _ _, rfl⟩, (JSt5_far _ _ _ _ _ _ _ _ _ hj (by decide) (by decide))⟩
    · intro L V w' hb hj hl hdo hcl hd
      obtain ⟨rs', rt', hF⟩ := hj
      have hc1 := hF.i
      clear hdo hcl
      simp only [DepFacts, SSt5, Region.binds, forall_const, and_true] at hd
      refine ⟨?_⟩
      simp only [fill, hd]
      clear hd
      go_wp2
      exact ⟨⟨rfl, rfl, Below.refl _ _, rfl⟩, JSt5_far _ _ _ _ _ _ _ _ _ ⟨rs', rt', hF⟩ (by decide) (by decide)⟩
    · intro L V w' hb hj hl hdo hcl hd
      obtain ⟨rs', rt', hF⟩ := hj
      rw [hl] at hF
      clear hdo hcl
      simp only [DepFacts, SSt5, Region.binds, forall_const, and_true] at hd
      refine ⟨?_⟩
      simp only [fill, hd]
      clear hd
      go_wp2_with (first | (go_at_call 49; refine (C2.out _ _ hF.four.t hF.four.sz).mono ?_; rintro e w3 ⟨rfl, r3, hs3, hy3, hv3⟩) | fail)
      have hF3 := hF.setT hs3 hy3 hv3
      refine ⟨⟨rfl, rfl, below_way2 hy3 (by omega) (by have := hF.four.sz; omega) (fun x hx => by have := (hF.four.t.row_lt x hx).1; omega), rfl⟩, rs', r3, ?_⟩
      rw [updL_same, updL_ne (by decide)]
      exact hF3
    · intro L V w' hb hj hl hdo hcl hd
      clear hdo hcl
      simp only [DepFacts, SSt5, Region.binds, forall_const, and_true] at hd
      refine ⟨?_⟩
      simp only [fill, hd]
      clear hd
      go_wp2
      exact ⟨⟨rfl, rfl, Below.refl _ _, rfl⟩, JSt5_far _ _ _ _ _ _ _ _ _ hj (by decide) (by decide)⟩
    · intro L V w' hb hj hl hdo hcl hd
      clear hdo hcl
      simp only [DepFacts, SSt5, Region.binds, forall_const, and_true] at hd
      refine ⟨?_⟩
      simp only [fill, hd]
      clear hd
      go_wp2
      exact ⟨⟨rfl, rfl, Below.refl _ _, rfl⟩, (JSt5_far _ _ _ _ _ _ _ _ _ hj (by decide) (by decide))⟩
  · intro L V w' hL hb hs hj
    obtain ⟨rs', rt', hF⟩ := hj
    rw [hL 3 (by decide), hL 7 (by decide)] at hF
    have hF : FiveR w w' g b (actL 5 i j at_ n v) bm l' bm l' rm rs' rr rt' := hF
    clear hL
    simp only [SFacts, SSt5, and_true] at hs
    simp only [fill, hs]
    try simp only [Exit.then]
    clear hs
    try go_simp
    go_wp2
    go_ret
    exact ⟨rfl, hF.done⟩
end Go.Mun

namespace Go.Mun
open Go Go.RowKit Go.Proofs
/-- what each operation of the region writes -/
def SSt6 (g b : Nat) (x : Int) (o : Bool) : Nat → Value → World → Prop
  | 0, v, _ => v = .pointer (some ⟨g + 1, 0, none⟩)
  | 1, v, _ => v = .pointer (some ⟨b, 1, none⟩)
  | 2, v, _ => v = .int .i64 x
  | 3, v, _ => v = .bool o
  | 4, v, _ => v = .pointer (some ⟨g + 3, 0, none⟩)
  | 5, v, _ => v = .pointer (some ⟨b, 1, none⟩)
  | 6, v, _ => v = .int .i64 x
  | 7, v, _ => v = .bool o
  | 8, v, _ => v = .bool true
  | _, v, _ => v = .bool true
theorem SSt6_stays (g b : Nat) (x : Int) (o : Bool) : ∀ i v (wa wb : World), Below g wa wb → SSt6 g b x o i v wa → SSt6 g b x o i v wb
  | 0, _, _, _, _, h => h
  | 1, _, _, _, _, h => h
  | 2, _, _, _, _, h => h
  | 3, _, _, _, _, h => h
  | 4, _, _, _, _, h => h
  | 5, _, _, _, _, h => h
  | 6, _, _, _, _, h => h
  | 7, _, _, _, _, h => h
  | 8, _, _, _, _, h => h
  | _ + 9, _, _, _, _, h => h
/-- how far it has come -/
def JSt6 (w0 : World) (g b : Nat) (cs : List Value) (bm : List UInt8) (l l' : List Nat) (rm rr : Option Nat) (L : Nat → Bool) (_ : Nat → Value) (w : World) : Prop :=
  ∃ rs rt, FiveR w0 w g b cs bm (bif L 3 then l' else l) bm (bif L 7 then l' else l) rm rs rr rt
theorem JSt6_far (w0 : World) (g b : Nat) (cs : List Value) (bm : List UInt8) (l l' : List Nat) (rm rr : Option Nat) {L : Nat → Bool} {V : Nat → Value} {w : World} (hJ : JSt6 w0 g b cs bm l l' rm rr L V w) {k : Nat} {v : Value} (h3 : (3 : Nat) ≠ k) (h7 : (7 : Nat) ≠ k) : JSt6 w0 g b cs bm l l' rm rr (updL L k) (upd V k v) w := by
  unfold JSt6 at hJ ⊢
  simp only [updL_ne h3, updL_ne h7]
  exact hJ

set_option maxRecDepth 100000 in
set_option maxHeartbeats 4000000 in
theorem step_swap (i j : Int) (at_ n : Nat) (v : Value) (w : World) (g : Nat) (bm : List UInt8) (ls : List Nat) (rm rs rr rt : Option Nat) (h : FourR w g bm ls bm ls rm rs rr rt) (hl : ls.length ≤ 1024) (hi1 : -9223372036854775808 ≤ i) (hi2 : i ≤ 9223372036854775807) :
    Calls Try.prog 37 #[.pointer (some ⟨g, 0, none⟩), .pointer (some ⟨g + 2, 0, none⟩), .pointer (some ⟨g + 1, 0, none⟩), .pointer (some ⟨g + 3, 0, none⟩), .agg (actL 6 i j at_ n v).toArray] w fun e w' => e = .returned (.bool true) ∧ StepTo w g bm (swapL ls i) w' := by
  have C1 := Lib.hid (fun w r hs hbs => Swap_any i w (g + 1) (g + 4) ls r hi1 hi2 hs (by omega) hbs (by omega))
  have C2 := Lib.hid (fun w r hs hbs => RS.Swap_any i w (g + 3) (g + 4) ls r hi1 hi2 hs (by omega) hbs (by omega))
  have hu := Try.underlying25
  have hi : ∀ x, (Try.prog.info? 25).map (·.size) = some (wcells x).toList.length := fun x => by rw [Array.length_toList, wcells_size]; kernel_rfl
  obtain ⟨o, ho⟩ : ∃ o, o = swapOk ls i := ⟨_, rfl⟩
  obtain ⟨l', hl'⟩ : ∃ l', l' = swapL ls i := ⟨_, rfl⟩
  rw [← ho, ← hl'] at C1 C2
  rw [← hl']
  clear ho hl'
  have eo : (o == o) = true := by simp
  go_enter Try.func37, Try.ntmps37
  go_upto_region 34 with (first
    | ((with_reducible refine gd_box ?_); refine wpList_box_agg rfl _ (.tmp 4) rfl rfl ?_; intro w1 hx1 hb1 hl1; have hF1 := FiveR.start h hx1 hb1; have hw1 := hF1.way; clear hx1 hb1 hl1)
    | fail)
  have hF1d := hF1.drew
  clear hF1 hw1
  obtain ⟨b, hb⟩ : ∃ b, b = w.heap.size := ⟨_, rfl⟩
  rw [← hb] at hF1d
  rw [← hb]
  clear hb
  refine wp_region_phase (by kernel_rfl) (by kernel_rfl) (by kernel_rfl) (fun w w' => Below g w w') (fun w => Below.refl _ _) (fun _ _ _ h k => h.trans k) (SSt6 g b i o) (SSt6_stays _ _ _ _) (JSt6 w g b (actL 6 i j at_ n v) bm ls l' rm rr)
    ⟨rs, rt, hF1d⟩ ?_ ?_
  · clear hF1d h
    simp only [PhStep]
    refine ⟨?_, ?_, ?_, ?_, ?_, ?_, ?_, ?_, ?_, ?_, trivial⟩
    · intro L V w' hb hj hl hdo hcl hd
      clear hdo hcl
      clear hd
      refine ⟨?_⟩
      simp only [fill]
      go_wp2
      exact ⟨⟨rfl, rfl, Below.refl _ _, rfl⟩, (JSt6_far _ _ _ _ _ _ _ _ _ hj (by decide) (by decide))⟩
    · intro L V w' hb hj hl hdo hcl hd
      clear hdo hcl
      clear hd
      refine ⟨?_⟩
      simp only [fill]
      go_wp2
      exact ⟨⟨rfl, rfl, Below.refl _ _, rfl⟩, (JSt6_far _ _ _ _ _ _ _ _ _ hj (by decide) (by decide))⟩
    · intro L V w' hb hj hl hdo hcl hd
      obtain ⟨rs', rt', hF⟩ := hj
      have hc1 := hF.i
      clear hdo hcl
      simp only [DepFacts, SSt6, Region.binds, forall_const, and_true] at hd
      refine ⟨?_⟩
      simp only [fill, hd]
      clear hd
      go_wp2
      exact ⟨⟨rfl, rfl, Below.refl _ _, rfl⟩, JSt6_far _ _ _ _ _ _ _ _ _ ⟨rs', rt', hF⟩ (by decide) (by decide)⟩
    · intro L V w' hb hj hl hdo hcl hd
      obtain ⟨rs', rt', hF⟩ := hj
      rw [hl] at hF
      clear hdo hcl
      simp only [DepFacts, SSt6, Region.binds, forall_const, and_true] at hd
      refine ⟨?_⟩
      simp only [fill, hd]
      clear hd
      go_wp2_with (first | (go_at_call 35; refine (C1.out _ _ hF.four.s hF.four.sz).mono ?_; rintro e w3 ⟨rfl, r3, hs3, hy3, hv3⟩) | fail)
      have hF3 := hF.setS hs3 hy3 hv3
      refine ⟨⟨rfl, rfl, below_way2 hy3 (by omega) (by have := hF.four.sz; omega) (fun x hx => by have := (hF.four.s.row_lt x hx).1; omega), rfl⟩, r3, rt', ?_⟩
      rw [updL_same, updL_ne (by decide)]
      exact hF3
    · intro L V w' hb hj hl hdo hcl hd
      clear hdo hcl
      clear hd
      refine ⟨?_⟩
      simp only [fill]
      go_wp2
      exact ⟨⟨rfl, rfl, Below.refl _ _, rfl⟩, (JSt6_far _ _ _ _ _ _ _ _ _ hj (by decide) (by decide))⟩
    · intro L V w' hb hj hl hdo hcl hd
      clear hdo hcl
      clear hd
      refine ⟨?_⟩
      simp only [fill]
      go_wp2
      exact ⟨⟨rfl, rfl, Below.refl _ _, rfl⟩, (JSt6_far _ _ _ _ _ _ _ _ _ hj (by decide) (by decide))⟩
    · intro L V w' hb hj hl hdo hcl hd
      obtain ⟨rs', rt', hF⟩ := hj
      have hc1 := hF.i
      clear hdo hcl
      simp only [DepFacts, SSt6, Region.binds, forall_const, and_true] at hd
      refine ⟨?_⟩
      simp only [fill, hd]
      clear hd
      go_wp2
      exact ⟨⟨rfl, rfl, Below.refl _ _, rfl⟩, JSt6_far _ _ _ _ _ _ _ _ _ ⟨rs', rt', hF⟩ (by decide) (by decide)⟩
    · intro L V w' hb hj hl hdo hcl hd
      obtain ⟨rs', rt', hF⟩ := hj
      rw [hl] at hF
      clear hdo hcl
      simp only [DepFacts, SSt6, Region.binds, forall_const, and_true] at hd
      refine ⟨?_⟩
      simp only [fill, hd]
      clear hd
      go_wp2_with (first | (go_at_call 50; refine (C2.out _ _ hF.four.t hF.four.sz).mono ?_; rintro e w3 ⟨rfl, r3, hs3, hy3, hv3⟩) | fail)
      have hF3 := hF.setT hs3 hy3 hv3
      refine ⟨⟨rfl, rfl, below_way2 hy3 (by omega) (by have := hF.four.sz; omega) (fun x hx => by have := (hF.four.t.row_lt x hx).1; omega), rfl⟩, rs', r3, ?_⟩
      rw [updL_same, updL_ne (by decide)]
      exact hF3
    · intro L V w' hb hj hl hdo hcl hd
      clear hdo hcl
      simp only [DepFacts, SSt6, Region.binds, forall_const, and_true] at hd
      refine ⟨?_⟩
      simp only [fill, hd]
      clear hd
      go_wp2
      exact ⟨⟨rfl, rfl, Below.refl _ _, rfl⟩, JSt6_far _ _ _ _ _ _ _ _ _ hj (by decide) (by decide)⟩
    · intro L V w' hb hj hl hdo hcl hd
      clear hdo hcl
      simp only [DepFacts, SSt6, Region.binds, forall_const, and_true] at hd
      refine ⟨?_⟩
      simp only [fill, hd]
      clear hd
      go_wp2
      exact ⟨⟨rfl, rfl, Below.refl _ _, rfl⟩, (JSt6_far _ _ _ _ _ _ _ _ _ hj (by decide) (by decide))⟩
  · intro L V w' hL hb hs hj
    obtain ⟨rs', rt', hF⟩ := hj
    rw [hL 3 (by decide), hL 7 (by decide)] at hF
    have hF : FiveR w w' g b (actL 6 i j at_ n v) bm l' bm l' rm rs' rr rt' := hF
    clear hL
    simp only [SFacts, SSt6, and_true] at hs
    simp only [fill, hs]
    try simp only [Exit.then]
    clear hs
    try go_simp
    go_wp2
    go_ret
    exact ⟨rfl, hF.done⟩
end Go.Mun

namespace Go.Mun
open Go Go.RowKit Go.Proofs

set_option maxRecDepth 100000 in
set_option maxHeartbeats 4000000 in
theorem step_none (way i j : Int) (at_ n : Nat) (v : Value) (w : World) (g : Nat) (bm : List UInt8) (ls : List Nat) (rm rs rr rt : Option Nat) (h : FourR w g bm ls bm ls rm rs rr rt) (hw : way < 0 ∨ 6 < way) :
    Calls Try.prog 37 #[.pointer (some ⟨g, 0, none⟩), .pointer (some ⟨g + 2, 0, none⟩), .pointer (some ⟨g + 1, 0, none⟩), .pointer (some ⟨g + 3, 0, none⟩), .agg (actL way i j at_ n v).toArray] w fun e w' => e = .returned (.bool true) ∧ StepTo w g bm ls w' := by
  have d0 : (way == 0) = false := by simp; omega
  have d1 : (way == 1) = false := by simp; omega
  have d2 : (way == 2) = false := by simp; omega
  have d3 : (way == 3) = false := by simp; omega
  have d4 : (way == 4) = false := by simp; omega
  have d5 : (way == 5) = false := by simp; omega
  have d6 : (way == 6) = false := by simp; omega
  go_enter Try.func37, Try.ntmps37
  go_wp2_with (first
    | ((with_reducible refine gd_box ?_); refine wpList_box_agg rfl _ (.tmp 4) rfl rfl ?_; intro w1 hx1 hb1 hl1; have hF1 := FiveR.start h hx1 hb1; have hw1 := hF1.way; clear hx1 hb1 hl1)
    | fail)
  go_ret
  exact ⟨rfl, hF1.done⟩
end Go.Mun

namespace Go.Mun
open Go Go.RowKit Go.Proofs

structure ActD where
  way : Int
  i : Int
  j : Int
  at_ : Nat
  n : Nat
  b : List UInt8
structure ActD.ok (a : ActD) : Prop where
  i1 : -9223372036854775808 ≤ a.i
  i2 : a.i ≤ 9223372036854775807
  j1 : -9223372036854775808 ≤ a.j
  j2 : a.j ≤ 9223372036854775807
  at_ : a.at_ < 2 ^ 256
  n : a.n < 2 ^ 256
theorem step_any (a : ActD) (v : Value) (q : Nat) (w : World) (g : Nat) (bm : List UInt8) (ls : List Nat) (rm rs rr rt : Option Nat) (h : FourR w g bm ls bm ls rm rs rr rt) (hq : bm.length = 32 * q) (hl : bm.length ≤ 20000) (hs : ls.length ≤ 1024) (ha : a.ok)
    (hv : ∀ w', Below g w w' → Bytes w' v a.b) (hm : a.b.length ≤ 500) :
    Calls Try.prog 37 #[.pointer (some ⟨g, 0, none⟩), .pointer (some ⟨g + 2, 0, none⟩), .pointer (some ⟨g + 1, 0, none⟩), .pointer (some ⟨g + 3, 0, none⟩), .agg (actL a.way a.i a.j a.at_ a.n v).toArray] w fun e w' => e = .returned (.bool true) ∧ ∃ bm' ls' q', StepTo w g bm' ls' w' ∧ bm'.length = 32 * q' ∧ ls'.length ≤ 1024 := by
  obtain ⟨way, i, j, at_, n, b⟩ := a
  obtain ⟨h1, h2, h3, h4, h5, h6⟩ := ha
  simp only at h1 h2 h3 h4 h5 h6 hv hm ⊢
  have hl' : bm.length ≤ 1048576 := by omega
  by_cases c0 : way = 0
  · subst c0
    refine (step_grow i j at_ n q v w g bm ls rm rs rr rt h h5 h6 hq hl').mono ?_
    rintro e w' ⟨rfl, hw⟩
    exact ⟨rfl, _, _, _, hw, grownTo_length hq hl', hs⟩
  by_cases c1 : way = 1
  · subst c1
    obtain ⟨B, m, c, rfl, _⟩ := hv w (Below.refl _ _)
    have hbl := Bytes_len (hv w (Below.refl _ _))
    refine (step_put i j at_ n m c B b w g bm ls rm rs rr rt h hl' h1 h2 hv (by omega)).mono ?_
    rintro e w' ⟨rfl, hw⟩
    exact ⟨rfl, _, _, q, hw, (putTo_length _ _ _).trans hq, hs⟩
  by_cases c2 : way = 2
  · subst c2
    refine (step_get i j at_ n v w g bm ls rm rs rr rt h h1 h2 h3 h4).mono ?_
    rintro e w' ⟨rfl, hw⟩
    exact ⟨rfl, _, _, q, hw, hq, hs⟩
  by_cases c3 : way = 3
  · subst c3
    refine (step_push i j at_ n v w g bm ls rm rs rr rt h hs).mono ?_
    rintro e w' ⟨rfl, hw⟩
    exact ⟨rfl, _, _, q, hw, hq, pushed_length _ _ hs⟩
  by_cases c4 : way = 4
  · subst c4
    refine (step_pop i j at_ n v w g bm ls rm rs rr rt h hs h1 h2).mono ?_
    rintro e w' ⟨rfl, hw⟩
    exact ⟨rfl, _, _, q, hw, hq, Nat.le_trans (popL_length _ _) hs⟩
  by_cases c5 : way = 5
  · subst c5
    refine (step_dup i j at_ n v w g bm ls rm rs rr rt h hs h1 h2).mono ?_
    rintro e w' ⟨rfl, hw⟩
    exact ⟨rfl, _, _, q, hw, hq, dupL_length _ _ hs⟩
  by_cases c6 : way = 6
  · subst c6
    refine (step_swap i j at_ n v w g bm ls rm rs rr rt h hs h1 h2).mono ?_
    rintro e w' ⟨rfl, hw⟩
    exact ⟨rfl, _, _, q, hw, hq, by rw [swapL_length]; exact hs⟩
  refine (step_none way i j at_ n v w g bm ls rm rs rr rt h (by omega)).mono ?_
  rintro e w' ⟨rfl, hw⟩
  exact ⟨rfl, _, _, q, hw, hq, hs⟩
theorem Size_me {w : World} {g base : Nat} {l : List UInt8} {r : Option Nat} (h : MeR 35 w g base l r) :
    Calls Try.prog 19 #[.pointer (some ⟨g, 0, none⟩)] w fun e w' => e = .returned (.int .i64 l.length) ∧ w = w' := by
  obtain ⟨A, c, _, h1, _⟩ := h
  exact Size_any w g _ c A h1
theorem Len_st {w : World} {g base : Nat} {l : List Nat} {r : Option Nat} (h : StR w g base l r) :
    Calls Try.prog 22 #[.pointer (some ⟨g, 0, none⟩)] w fun e w' => e = .returned (.int .i64 l.length) ∧ w = w' := by
  obtain ⟨A, c, _, h1, _⟩ := h
  exact Len_any w g _ c A h1
theorem MeR.cell {ty : TypeId} {w : World} {g base : Nat} {l : List UInt8} {r : Option Nat} (h : MeR ty w g base l r) : ∃ A c, w.cell? ⟨g, 0, none⟩ = some (.slice A l.length c) ∧ Bytes w (.slice A l.length c) l := by
  obtain ⟨A, c, _, h1, h2⟩ := h
  exact ⟨A, c, h1.cellv rfl, Bytes.own h2⟩
theorem RS.StR.cell {w : World} {g base : Nat} {l : List Nat} {r : Option Nat} (h : RS.StR w g base l r) : ∃ A c, w.cell? ⟨g, 0, none⟩ = some (.slice A l.length c) := by
  obtain ⟨A, c, _, h1, _⟩ := h
  exact ⟨A, c, h1.cellv rfl⟩
/-- four that are new -/
theorem FourR.new {w : World} {g : Nat} (hz : g + 4 ≤ w.heap.size) (h1 : Blk w g 35 #[.slice none 0 0]) (h2 : Blk w (g + 1) 43 #[.slice none 0 0]) (h3 : Blk w (g + 2) 60 #[.slice none 0 0])
    (h4 : Blk w (g + 3) 63 #[.slice none 0 0]) : FourR w g [] [] [] [] none none none none :=
  ⟨hz, ⟨none, 0, rfl, h1, World.ownsRow_nil _ _ _ _⟩, ⟨none, 0, rfl, h2, World.ownsRow_nil _ _ _ _⟩, ⟨none, 0, rfl, h3, World.ownsRow_nil _ _ _ _⟩, ⟨none, 0, rfl, h4, World.ownsRow_nil _ _ _ _⟩, Ap.nil _, Ap.nil _, Ap.nil _, Ap.nil _, Ap.nil _, Ap.nil _⟩
section
variable {P : Program} {ops : Array Oper} {rest : List Oper} {o : Oper} {a : Act} {w : World} {Q : Exit → Act → World → Prop}
/-- 'x := v' where x is put into memory, and how many blocks there are then -/
theorem wpList_box_one (hgd : o.guard = none) (ty : TypeId) (x : Operand) (ho : o.op = .box ty x) {cells : Array Value} (hx : (a.eval x).cells = cells)
    (h : ∀ w', Blk w' w.heap.size ty cells → Below w.heap.size w w' → w'.heap.size = w.heap.size + 1 → wpList P ops Q rest (a.put o.dst (.pointer (some ⟨w.heap.size, 0, none⟩))) w') : wpList P ops Q (o :: rest) a w := by
  refine wpList_plain hgd fun _ hK => ?_
  unfold Oper.wp execOp
  simp only [ho, Instr.box, newVar, newRow, hx]
  exact hK _ _ (h _ (Blk.new w ty cells) ((Below.refl _ _).alloc (Nat.le_refl _) _) (by simp))
theorem wpList_alloc_one (hgd : o.guard = none) (ty : TypeId) (ho : o.op = .alloc ty) {z : Value} (hz : (P.info? ty).bind (·.zero) = some z)
    (h : ∀ w', Blk w' w.heap.size ty z.cells → Below w.heap.size w w' → w'.heap.size = w.heap.size + 1 → wpList P ops Q rest (a.put o.dst (.pointer (some ⟨w.heap.size, 0, none⟩))) w') : wpList P ops Q (o :: rest) a w := by
  refine wpList_plain hgd fun _ hK => ?_
  cases hi : P.info? ty with
  | none => rw [hi] at hz; cases hz
  | some i =>
    rw [hi] at hz
    have hz' : i.zero = some z := hz
    unfold Oper.wp execOp
    simp only [ho, Instr.alloc, newVar, newRow, zeroValue, typeInfo]
    simp [hi, hz']
    exact hK _ _ (h _ (Blk.new w ty z.cells) ((Below.refl _ _).alloc (Nat.le_refl _) _) (by simp))
/-- a whole struct out of a row, wherever it lies -/
theorem wpList_load_at (hgd : o.guard = none) (ty : TypeId) (x : Operand) (ho : o.op = .load ty x) (ad : Addr) (hx : a.eval x = .pointer (some ad)) (cs : List Value) (d : TypeDesc) (hc : ∀ j v, cs[j]? = some v → w.cell? (ad.add j) = some v)
    (hu : P.underlying ty = some d) (hd : d.isRow = true) (hi : (P.info? ty).map (·.size) = some cs.length) (h : wpList P ops Q rest (a.put o.dst (.agg cs.toArray)) w) : wpList P ops Q (o :: rest) a w := by
  refine wpList_plain hgd fun _ hK => ?_
  have hl : (loadCells ad cs.length).run P w = .ok cs.toArray w := run_loadCells_list (P := P) w ad cs hc
  have hv : (loadVar ty ad).run P w = .ok (.agg cs.toArray) w := by
    cases hq : P.info? ty with
    | none => rw [hq] at hi; cases hi
    | some i =>
      have hs : i.size = cs.length := by rw [hq] at hi; simpa using hi
      have hagg : (isAgg ty).run P w = .ok true w := by
        unfold isAgg
        rw [Sem.run_bind, run_underlying hu w]
        cases d <;> simp_all
      simp [loadVar, Sem.run_bind, hagg, sizeOf, typeInfo, hq, hs, hl]
  unfold Oper.wp execOp
  simp only [ho, hx, Instr.loadAt, Instr.sureAddr, Sem.run_bind, Sem.run_pure, Result.andThen_ok, hv]
  exact hK _ _ h
end
end Go.Mun

namespace Go.Mun
open Go Go.RowKit Go.ChangeShapes Go.WideShapes Go.ChangeAt Go.Deep Go.Proofs

theorem word_cells {H : Type} {enc : TypeId × Value → H} {W : World} {fuel : Nat} {cs : List Value} {x : DataW H × List MemPlace} (hx : DataW.trod enc Try.prog W 0 (fun _ => true) true fuel 25 cs = some x) : ∃ n, n < 2 ^ 256 ∧ cs = (wcells n).toList := by
  have ht : Try.prog.underlying 25 = some (.array 32 5) := Try.underlying25
  obtain ⟨xs, m, _, _, hlen, hxl, hi⟩ := DataW.trod_array ht hx
  have hc1 : Try.prog.cellsOf 5 = 1 := by kernel_rfl
  have hc32 : Try.prog.cellsOf 25 = 32 := by kernel_rfl
  rw [hc32] at hlen
  have hbyte : ∀ i, i < 32 → ∃ b : UInt8, cs[i]? = some (.int .u8 (b.toNat : Int)) := fun i h => by
    have h1 := hi i h
    rw [hc1, Nat.mul_one, List.getElem?_eq_getElem (by omega)] at h1
    obtain ⟨b, hb⟩ := opens_byte enc 0 (fun _ => true) true Try.underlying5 W m _ _ h1
    exact ⟨b, cell_of_field hb⟩
  obtain ⟨f, hf⟩ := choose_lt (α := UInt8) (p := fun i b => cs[i]? = some (.int .u8 (b.toNat : Int))) (n := 32) hbyte
  obtain ⟨n, hn, he⟩ := word_of (cs := cs) (bs := (List.range 32).map f) (by simp) (by
    apply List.ext_getElem?
    intro i
    by_cases c : i < 32
    · rw [hf i c]
      simp [bv, c]
    · rw [List.getElem?_eq_none (by omega), List.getElem?_eq_none (by simp [bv]; omega)])
  refine ⟨n, hn, ?_⟩
  rw [← he]
theorem cut_at {α : Type} (l : List α) (n m : Nat) : (l.drop m).take n ++ l.drop (m + n) = l.drop m := by
  rw [← List.drop_drop]
  exact List.take_append_drop n _
/-- an act, as it lies in 68 cells -/
def rAct : Reader ActD := fun w cs a => cs.length = 68 → a.ok ∧ ∃ v, cs = actL a.way a.i a.j a.at_ a.n v ∧ Bytes w v a.b
theorem rAct_stays : rAct.Stays := fun w w' cs a hb h hl => by
  obtain ⟨h1, v, h2, h3⟩ := h hl
  exact ⟨h1, v, h2, h3.ext hb⟩
set_option maxRecDepth 100000 in
theorem opens_act {H : Type} (enc : TypeId × Value → H) : Opens enc Try.prog 0 (fun _ => true) true 65 rAct := by
  intro w fuel cs x hx
  obtain ⟨n0, y0, h0⟩ := trod_at Try.underlying65 hx 0 rfl (e := 3) (off := 0) (size := 1) rfl rfl (by kernel_rfl)
  obtain ⟨n1, y1, h1⟩ := trod_at Try.underlying65 hx 1 rfl (e := 3) (off := 1) (size := 1) rfl rfl (by kernel_rfl)
  obtain ⟨n2, y2, h2⟩ := trod_at Try.underlying65 hx 2 rfl (e := 3) (off := 2) (size := 1) rfl rfl (by kernel_rfl)
  obtain ⟨n3, y3, h3⟩ := trod_at Try.underlying65 hx 3 rfl (e := 25) (off := 3) (size := 32) rfl rfl (by kernel_rfl)
  obtain ⟨n4, y4, h4⟩ := trod_at Try.underlying65 hx 4 rfl (e := 25) (off := 35) (size := 32) rfl rfl (by kernel_rfl)
  obtain ⟨n5, y5, h5⟩ := trod_at Try.underlying65 hx 5 rfl (e := 26) (off := 67) (size := 1) rfl rfl (by kernel_rfl)
  obtain ⟨way, e0, _⟩ := opens_int enc 0 (fun _ => true) true Try.underlying3 w n0 _ y0 h0
  obtain ⟨i, e1, b1⟩ := opens_int enc 0 (fun _ => true) true Try.underlying3 w n1 _ y1 h1
  obtain ⟨j, e2, b2⟩ := opens_int enc 0 (fun _ => true) true Try.underlying3 w n2 _ y2 h2
  obtain ⟨at_, ha, e3⟩ := word_cells h3
  obtain ⟨n, hn, e4⟩ := word_cells h4
  obtain ⟨b, v, e5, hvb⟩ := opens_bytes enc 0 (fun _ => true) true Try.underlying26 Try.underlying5 (by kernel_rfl) w n5 _ y5 h5
  have w1 := bounds_i64 b1
  have w2 := bounds_i64 b2
  refine ⟨⟨way, i, j, at_, n, b⟩, fun hl => ⟨⟨w1.1, w1.2, w2.1, w2.2, ha, hn⟩, v, ?_, hvb⟩⟩
  have c0 := cut_at cs 1 0
  have c1 := cut_at cs 1 1
  have c2 := cut_at cs 1 2
  have c3 := cut_at cs 32 3
  have c4 := cut_at cs 32 35
  have c5 := cut_at cs 1 67
  rw [e0] at c0
  rw [e1] at c1
  rw [e2] at c2
  rw [e3] at c3
  rw [e4] at c4
  rw [e5] at c5
  have c6 : cs.drop (67 + 1) = [] := List.drop_eq_nil_of_le (by omega)
  rw [c6, List.append_nil] at c5
  have d0 : cs.drop 0 = cs := rfl
  rw [← d0, ← c0, ← c1, ← c2, ← c3, ← c4, ← c5]
  rfl
theorem act_at {w w' : World} {A : Option Addr} {n : Nat} {xs : List Value} {acts : List ActD} (hr : Rd w' A xs) (hl : acts.length = n) (hx : xs.length = n * 68) (hb : ∀ i (h : i < acts.length), rAct w (chunk xs 68 i) acts[i]) {k : Nat} (hk : k < n) :
    ∃ (ad : Addr) (a : ActD) (v : Value), A = some ad ∧ a.ok ∧ (∀ j u, (actL a.way a.i a.j a.at_ a.n v)[j]? = some u → w'.cell? ((ad.add (k * 68)).add j) = some u) ∧ w'.cell? ⟨(ad.add (k * 68)).block, (ad.add (k * 68)).off + 67, none⟩ = some v ∧ Bytes w v a.b := by
  have hc : (chunk xs 68 k).length = 68 := by unfold chunk; rw [List.length_take, List.length_drop]; omega
  obtain ⟨h1, v, e, h2⟩ := hb k (by omega) hc
  have hg : ∀ j u, (actL acts[k].way acts[k].i acts[k].j acts[k].at_ acts[k].n v)[j]? = some u → xs[k * 68 + j]? = some u := fun j u hj => by
    rw [← e] at hj
    have hj68 := (List.getElem?_eq_some_iff.1 hj).1
    unfold chunk at hj
    rw [List.getElem?_take, if_pos (by omega), List.getElem?_drop] at hj
    exact hj
  obtain ⟨ad, rfl, _⟩ := hr (k * 68 + 67) v (hg 67 v (actL_b _ _ _ _ _ _))
  have hall : ∀ j u, (actL acts[k].way acts[k].i acts[k].j acts[k].at_ acts[k].n v)[j]? = some u → w'.cell? ((ad.add (k * 68)).add j) = some u := fun j u hj => by
    obtain ⟨ad', e', c⟩ := hr (k * 68 + j) u (hg j u hj)
    injection e' with e'
    subst e'
    rw [Mun.add_add]
    exact c
  refine ⟨ad, acts[k], v, rfl, h1, hall, ?_, h2⟩
  have := hall 67 v (actL_b _ _ _ _ _ _)
  rw [show (ad.add (k * 68)).add 67 = ⟨(ad.add (k * 68)).block, (ad.add (k * 68)).off + 67, none⟩ from by unfold Addr.add; rw [if_neg (by decide : ¬ (67 = 0))]] at this
  exact this
theorem act_length (way i j : Int) (at_ n : Nat) (v : Value) : (actL way i j at_ n v).length = 68 := by
  unfold actL
  simp only [List.length_append, wl_length, List.length_cons, List.length_nil]
end Go.Mun

