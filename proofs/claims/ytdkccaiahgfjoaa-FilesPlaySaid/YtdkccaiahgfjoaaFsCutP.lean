/- The files while the power fails: those whose names have come up are cut. Plain. -/
import Derived.Test.YtdkccaiahgfjoaaFsGoes
import Derived.Maps.RangeWalk
namespace Go.Mun
open Go Go.RowKit Go.Proofs Go.Maps

open Classical in
/-- the files where the names for which 'lf' says yes are still to come -/
noncomputable def cutFs (cut : Int) (fs : Nat → FileS) (P : PL Nat) (lf : Lit → Bool) : Nat → FileS := fun i => if ∃ p ∈ P, p.2 = i ∧ lf (.string p.1) = false then cutF cut (fs i) else fs i
theorem cutFs_start {cut : Int} {fs : Nat → FileS} {P : PL Nat} {lf : Lit → Bool} (h : ∀ p ∈ P, lf (.string p.1) = true) : cutFs cut fs P lf = fs := by
  funext i
  unfold cutFs
  rw [if_neg]
  rintro ⟨p, hp, _, e⟩
  rw [h p hp] at e
  cases e
theorem cutFs_end {M : FSs} {P : PL Nat} {lf : Lit → Bool} (h : ∀ kl, lf kl = false) (i : Nat) : cutFs M.cut M.fs P lf i = (open Classical in if hasId P i then cutF M.cut (M.fs i) else M.fs i) := by
  unfold cutFs hasId
  by_cases hi : ∃ p ∈ P, p.2 = i
  · rw [if_pos hi, if_pos]
    obtain ⟨p, hp, e⟩ := hi
    exact ⟨p, hp, e, h _⟩
  · rw [if_neg hi, if_neg]
    rintro ⟨p, hp, e, _⟩
    exact hi ⟨p, hp, e⟩
theorem cutFs_step {cut : Int} {fs : Nat → FileS} {P : PL Nat} {lf : Lit → Bool} (hr : Rises P) (ho : Once P) {n : Ky} {i : Nat} (hp : (n, i) ∈ P) (hl : lf (.string n) = true) :
    (cutFs cut fs P lf i = fs i) ∧ cutFs cut fs P (fun z => lf z && !z.sameKey (.string n)) = fun j => if j = i then cutF cut (fs i) else cutFs cut fs P lf j := by
  have hs : ∀ a : Ky, (Lit.string a).sameKey (.string n) = (a == n) := fun a => rfl
  refine ⟨?_, ?_⟩
  · unfold cutFs
    rw [if_neg]
    rintro ⟨q, hq, e, h⟩
    have := ho q hq (n, i) hp e
    rw [this, hl] at h
    cases h
  · funext j
    by_cases hj : j = i
    · subst hj
      rw [if_pos rfl]
      unfold cutFs
      rw [if_pos]
      exact ⟨(n, j), hp, rfl, by show (lf (.string n) && !(Lit.string n).sameKey (.string n)) = false; rw [hs]; simp⟩
    · rw [if_neg hj]
      unfold cutFs
      by_cases h : ∃ p ∈ P, p.2 = j ∧ lf (.string p.1) = false
      · rw [if_pos h, if_pos]
        obtain ⟨q, hq, e, h⟩ := h
        exact ⟨q, hq, e, by show (lf (.string q.1) && _) = false; rw [h]; rfl⟩
      · rw [if_neg h, if_neg]
        rintro ⟨q, hq, e, h'⟩
        refine h ⟨q, hq, e, ?_⟩
        have hne : q.1 ≠ n := fun e2 => hj (by
          have h1 := getP_at hr hq
          have h2 := getP_at hr hp
          rw [e2] at h1
          rw [h1] at h2
          injection h2 with h2
          exact e.symm.trans h2)
        replace h' : (lf (.string q.1) && !(Lit.string q.1).sameKey (.string n)) = false := h'
        rw [hs, beq_eq_false_iff_ne.2 hne] at h'
        simpa using h'
end Go.Mun
