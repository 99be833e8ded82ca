/- Regions that draw their order, make rows of digits and at last fill one block. -/
import Derived.Test.YtegnfklehgbooaaMade
import Derived.Test.YtegnfklehgbooaaDig
namespace Go.Mun
open Go Go.RowKit Go.Proofs

theorem below_grown {w w' : World} (h : Below w.heap.size w w') (row : Option Nat) : w.grownBy w' row := ((World.grownBy.refl w row).trans (by
  refine ⟨h.os, h.tape, h.output, h.size, fun g hg _ => h.block g hg⟩))

/-- how the worlds on the way go on -/
structure RelW (wB : World) (row : Option Nat) (t : TypeId) (n : Nat) (r : Array Value) (x y : World) : Prop where
  gr : x.grownBy y row
  bel : Below wB.heap.size wB x → Below wB.heap.size wB y
  has : ∀ g, row = some g → (∃ cs : Array Value, cs.size = n ∧ Blk x g t cs) → ∃ cs : Array Value, cs.size = n ∧ Blk y g t cs
  put : ∀ g, row = some g → Blk x g t r → Blk y g t r
section
variable {wB : World} {row : Option Nat} {t : TypeId} {n : Nat} {r : Array Value} {x y z : World}
theorem relW_refl (x : World) : RelW wB row t n r x x := ⟨World.grownBy.refl x row, fun h => h, fun _ _ h => h, fun _ _ h => h⟩
theorem relW_trans (x y z : World) (h1 : RelW wB row t n r x y) (h2 : RelW wB row t n r y z) : RelW wB row t n r x z :=
  ⟨h1.gr.trans h2.gr, fun h => h2.bel (h1.bel h), fun g e h => h2.has g e (h1.has g e h), fun g e h => h2.put g e (h1.put g e h)⟩
theorem relW_below (h : Below x.heap.size x y) : RelW wB row t n r x y :=
  ⟨below_grown h row, fun hb => below_step hb h, fun _ _ ⟨cs, e, hc⟩ => ⟨cs, e, hc.ext h⟩, fun _ _ hc => hc.ext h⟩
theorem relW_store {g : Nat} (hn : r.size = n) (hb : Blk y g t r) (hg : x.grownBy y (some g)) (hB : wB.heap.size ≤ g) : RelW wB (some g) t n r x y :=
  ⟨hg, fun h => below_blk h h.size hg hB, fun _ e _ => by cases e; exact ⟨r, hn, hb⟩, fun _ e _ => by cases e; exact hb⟩
end
/-- what an operation leaves -/
inductive DK
  | val (v : Value)
  | dig (m N : Nat)
  | pair (m N n R : Nat)
  | put
  | any
def DK.is (base : Nat) (row : Option Nat) (t : TypeId) (r : Array Value) : DK → Value → World → Prop
  | .val x, v, _ => v = x
  | .dig m N, v, w => ∃ g c, v = .slice (some ⟨g, 0, none⟩) m c ∧ base ≤ g ∧ Rd w (some ⟨g, 0, none⟩) (dtab m N).toList
  | .pair m N n R, v, w => ∃ g h c d, v = .tuple #[.slice (some ⟨g, 0, none⟩) m c, .slice (some ⟨h, 0, none⟩) n d] ∧ base ≤ g ∧ base ≤ h ∧ Rd w (some ⟨g, 0, none⟩) (dtab m N).toList ∧ Rd w (some ⟨h, 0, none⟩) (dtab n R).toList
  | .put, _, w => ∀ g, row = some g → Blk w g t r
  | .any, _, _ => True
def DKs (K : List DK) (base : Nat) (row : Option Nat) (t : TypeId) (r : Array Value) (i : Nat) (v : Value) (w : World) : Prop := ((K[i]?).getD .any).is base row t r v w
theorem rd_row {w w' : World} {g : Nat} {l : List Value} {row : Option Nat} (h : Rd w (some ⟨g, 0, none⟩) l) (hg : w.grownBy w' row) (hne : row ≠ some g) : Rd w' (some ⟨g, 0, none⟩) l := h.grown hg fun a e => by
  injection e with e
  subst e
  exact fun e => hne e.symm
theorem DKs_stays {K : List DK} {base : Nat} {wB : World} {row : Option Nat} {t : TypeId} {n : Nat} {r : Array Value} (hrow : ∀ g, row = some g → g < base) (i : Nat) (v : Value) (x y : World) (h : RelW wB row t n r x y) (hs : DKs K base row t r i v x) : DKs K base row t r i v y := by
  have hne : ∀ g, base ≤ g → row ≠ some g := fun g hg e => by have := hrow g e; omega
  unfold DKs at *
  cases hk : (K[i]?).getD .any with
  | val u => rw [hk] at hs; exact hs
  | dig m N =>
    rw [hk] at hs
    obtain ⟨g, c, e, hg, hr⟩ := hs
    exact ⟨g, c, e, hg, rd_row hr h.gr (hne g hg)⟩
  | pair m N n R =>
    rw [hk] at hs
    obtain ⟨g, k, c, d, e, hg, hh, hr, hq⟩ := hs
    exact ⟨g, k, c, d, e, hg, hh, rd_row hr h.gr (hne g hg), rd_row hq h.gr (hne k hh)⟩
  | put => rw [hk] at hs; exact fun g e => h.put g e (hs g e)
  | any => trivial
theorem Blk.row {w w' : World} {g : Nat} {t : TypeId} {cs : Array Value} {row : Option Nat} (h : Blk w g t cs) (hg : w.grownBy w' row) (hne : some g ≠ row) : Blk w' g t cs := h.grown hg hne
end Go.Mun
