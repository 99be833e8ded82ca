/- What stays read while rows of the call's own grow. -/
import Derived.Test.YtmaaejicfpfcdaaRpPlain
namespace Go.Mun
open Go Go.RowKit Go.Proofs

/-- two rows of the call's own that are not one -/
def Apart (a b : Value) : Prop := ∀ g, a.ownBlock = some g → b.ownBlock ≠ some g
theorem Apart.nil (b : Value) : Apart (.slice none 0 0) b := fun g h => by cases h
theorem Apart.symm {a b : Value} (h : Apart a b) : Apart b a := fun g h1 h2 => h g h2 h1
theorem far_row {w w' : World} {base : Nat} {e : TypeId} {size n : Nat} {a b : Value} {ys : List Value} (hb : w.ownsRow base e size b n ys) (hg : w.grownBy w' a.ownBlock) (h : Apart a b) : w'.ownsRow base e size b n ys :=
  hb.kept hg (by
    cases hbb : b.ownBlock with
    | none => exact .inl rfl
    | some g => exact .inr fun e' => h g e'.symm hbb)
theorem apart_new {w : World} {base : Nat} {e : TypeId} {size n : Nat} {a a' b : Value} {ys : List Value} (hb : w.ownsRow base e size b n ys) (h : Apart a b) (hat : a'.ownBlock = a.ownBlock ∨ a'.ownBlock = some w.heap.size) : Apart a' b := by
  intro g hg hb'
  rcases hat with h1 | h1
  · exact h g (h1 ▸ hg) hb'
  · rw [h1] at hg
    injection hg with hg
    have := (hb.lt g hb').2
    omega
/-- a row that was made later is none that lay there -/
theorem apart_late {w w1 : World} {base : Nat} {e e' : TypeId} {size size' n n' : Nat} {a v : Value} {xs ys : List Value} (ha : w.ownsRow base e size a n xs) (hv : w1.ownsRow w.heap.size e' size' v n' ys) : Apart a v := fun g h1 h2 => by
  have := (ha.lt g h1).2
  have := (hv.lt g h2).1
  omega

section
variable {wr w1 w2 : World} {B s n : Nat} {e : TypeId} {a a' c : Value} {xs : List Value}
/-- row a grows: what was read stays -/
theorem stay_app (ha : wr.ownsRow B e s a n xs) (hb : Below wr.heap.size wr w1) (hg : w1.grownBy w2 a.ownBlock) (hat : a'.ownBlock = a.ownBlock ∨ a'.ownBlock = some w1.heap.size)
    {bad bad1 : Nat → Prop} (h0 : ∀ k, a.ownBlock = some k ∨ c.ownBlock = some k → bad k) (h1 : ∀ k, bad1 k → a'.ownBlock = some k ∨ c.ownBlock = some k) {P : World → Prop} (h : Stays wr bad P) : Stays w2 bad1 P := by
  have _ := ha
  refine h.step (Nat.le_trans hb.size hg.size) (fun k hk hn => ?_) (fun k hk hb1 => ?_)
  · exact (hg.block k (Nat.lt_of_lt_of_le hk hb.size) (fun e' => hn (h0 k (.inl e'.symm)))).trans (hb.block k hk)
  · rcases h1 k hb1 with h2 | h2
    · rcases hat with e1 | e1
      · exact h0 k (.inl (e1 ▸ h2))
      · rw [e1] at h2
        injection h2 with h2
        have := hb.size
        omega
    · exact h0 k (.inr h2)
/-- row a grows: a row that was made meanwhile stays -/
theorem stay_new (ha : wr.ownsRow B e s a n xs) {B' s' m : Nat} {e' : TypeId} {ys : List Value} (hc : wr.ownsRow B' e' s' c m ys) (hb : Below wr.heap.size wr w1) (hg : w1.grownBy w2 a.ownBlock) (hat : a'.ownBlock = a.ownBlock ∨ a'.ownBlock = some w1.heap.size)
    {bad1 : Nat → Prop} (h1 : ∀ k, bad1 k → a'.ownBlock = some k ∨ c.ownBlock = some k) {e2 : TypeId} {s2 n2 : Nat} {v : Value} {zs : List Value} (hv : w1.ownsRow wr.heap.size e2 s2 v n2 zs) : Stays w2 bad1 fun w' => w'.ownsRow wr.heap.size e2 s2 v n2 zs := by
  have _ := hb
  refine Stays.own (far_row hv hg (apart_late ha hv)) fun k hk hbk => ?_
  have hv' := hv.lt k hk
  rcases h1 k hbk with h2 | h2
  · rcases hat with e1 | e1
    · have := (ha.lt k (e1 ▸ h2)).2
      omega
    · rw [e1] at h2
      injection h2 with h2
      omega
  · have := (hc.lt k h2).2
    omega
end
theorem ret_out {wr w' : World} {B m : Nat} {vo : Value} {co : List Value} {out : List (List Rec)} {bad : Nat → Prop} {e : TypeId} (hco : wr.ownsRow B e 1 vo m co) (hso : Stays wr bad fun w' => OutC w' co out) (hb : Below wr.heap.size wr w') : SliceOf 1 (rSlice 3 rOp) w' vo out := by
  have h := hso w' hb.size (fun k hk _ => hb.block k hk)
  exact slice_of_own (own_ext hco hb) (by have := hco.1; have := h.1; omega) h.2
theorem own_zero (w : World) (base : Nat) : w.ownsRow base 5 1 (.slice none 0 0) 0 (bv []) := ⟨rfl, .inl ⟨rfl, rfl⟩⟩
end Go.Mun
