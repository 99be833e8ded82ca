/- Pairs by rising keys: plain laws. -/
import Derived.Test.YtdkccaiahgfjoaaLib
import Derived.WideShapes
import Derived.WideAt
namespace Go.Mun
open Go Go.RowKit

abbrev Ky := List UInt8
def ltB (a b : Ky) : Bool := bytesBefore a b
theorem ltB_irrefl (a : Ky) : ltB a a = false := WideAt.bytes_irrefl a
theorem ltB_total (a b : Ky) (h : a ≠ b) : ltB a b = true ∨ ltB b a = true := WideAt.bytes_total a b h
theorem ltB_trans {a b c : Ky} (h : ltB a b = true) (k : ltB b c = true) : ltB a c = true := WideShapes.bytes_trans a b c h k
theorem ltB_ne {a b : Ky} (h : ltB a b = true) : a ≠ b := fun e => by subst e; rw [ltB_irrefl] at h; cases h
theorem ltB_asymm {a b : Ky} (h : ltB a b = true) : ltB b a = false := by
  cases hb : ltB b a with
  | false => rfl
  | true => have := ltB_trans h hb; rw [ltB_irrefl] at this; cases this
theorem less_eq : ∀ (a b : Ky), Op.bytesLess a b = ltB a b
  | [], [] => rfl
  | [], _ :: _ => rfl
  | _ :: _, [] => rfl
  | a :: x, b :: y => by
    have := less_eq x y
    unfold ltB at this
    unfold ltB Op.bytesLess bytesBefore
    rw [this]

section
variable {α β : Type}
abbrev PL (α : Type) := List (Ky × α)
def Rises (P : PL α) : Prop := P.Pairwise fun p q => ltB p.1 q.1 = true
def getP : PL α → Ky → Option α
  | [], _ => none
  | p :: P, k => if p.1 = k then some p.2 else getP P k
def insP (x : Ky × α) : PL α → PL α
  | [] => [x]
  | y :: r => if ltB x.1 y.1 = true then x :: y :: r else y :: insP x r
def dropP (P : PL α) (k : Ky) : PL α := P.filter fun p => decide (p.1 ≠ k)
def setP (P : PL α) (k : Ky) (o : Option α) : PL α :=
  match o with
  | some v => insP (k, v) (dropP P k)
  | none => dropP P k
theorem mem_insP {x y : Ky × α} {P : PL α} : y ∈ insP x P ↔ y = x ∨ y ∈ P := by
  induction P with
  | nil => simp [insP]
  | cons p P ih =>
    unfold insP
    split
    · simp
    · simp only [List.mem_cons, ih]
      constructor
      · rintro (h | h | h)
        · exact .inr (.inl h)
        · exact .inl h
        · exact .inr (.inr h)
      · rintro (h | h | h)
        · exact .inr (.inl h)
        · exact .inl h
        · exact .inr (.inr h)
theorem Rises.ins {x : Ky × α} {P : PL α} (h : Rises P) (hn : ∀ p ∈ P, p.1 ≠ x.1) : Rises (insP x P) := by
  induction P with
  | nil => exact List.pairwise_singleton _ _
  | cons p P ih =>
    unfold Rises at h
    rw [List.pairwise_cons] at h
    unfold insP
    split
    · rename_i hlt
      refine List.pairwise_cons.2 ⟨fun q hq => ?_, List.pairwise_cons.2 h⟩
      rcases List.mem_cons.1 hq with rfl | hq
      · exact hlt
      · exact ltB_trans hlt (h.1 q hq)
    · rename_i hlt
      refine List.pairwise_cons.2 ⟨fun q hq => ?_, ih h.2 (fun q hq => hn q (by simp [hq]))⟩
      rcases mem_insP.1 hq with rfl | hq
      · rcases ltB_total q.1 p.1 (fun e => hn p (by simp) e.symm) with h1 | h1
        · exact absurd h1 hlt
        · exact h1
      · exact h.1 q hq
theorem Rises.drop {P : PL α} (h : Rises P) (k : Ky) : Rises (dropP P k) := List.Pairwise.filter _ h
theorem Rises.set {P : PL α} (h : Rises P) (k : Ky) (o : Option α) : Rises (setP P k o) := by
  cases o with
  | none => exact h.drop k
  | some v => exact (h.drop k).ins fun p hp => by have := (List.mem_filter.1 hp).2; simpa using this
theorem getP_drop (P : PL α) (k k' : Ky) : getP (dropP P k) k' = if k' = k then none else getP P k' := by
  induction P with
  | nil => simp [dropP, getP]
  | cons p P ih =>
    by_cases hp : p.1 = k
    · have e : dropP (p :: P) k = dropP P k := by unfold dropP; rw [List.filter_cons_of_neg (by simpa using hp)]
      rw [e, ih]
      split
      · rfl
      · rename_i hk
        unfold getP
        rw [if_neg (fun e => hk (by rw [← e, hp]))]
        cases P <;> rfl
    · have e : dropP (p :: P) k = p :: dropP P k := by unfold dropP; rw [List.filter_cons_of_pos (by simpa using hp)]
      rw [e]
      unfold getP
      rw [ih]
      by_cases hk : p.1 = k'
      · rw [if_pos hk, if_pos hk, if_neg (fun e => hp (hk.trans e))]
      · rw [if_neg hk, if_neg hk]
theorem getP_ins (x : Ky × α) (P : PL α) (hn : ∀ p ∈ P, p.1 ≠ x.1) (k' : Ky) : getP (insP x P) k' = if x.1 = k' then some x.2 else getP P k' := by
  induction P with
  | nil => rfl
  | cons p P ih =>
    unfold insP
    split
    · rfl
    · have h1 : getP (p :: insP x P) k' = if p.1 = k' then some p.2 else getP (insP x P) k' := rfl
      have h2 : getP (p :: P) k' = if p.1 = k' then some p.2 else getP P k' := rfl
      rw [h1, h2, ih (fun q hq => hn q (by simp [hq]))]
      by_cases hx : x.1 = k'
      · rw [if_neg (fun e => hn p (by simp) (e.trans hx.symm)), if_pos hx, if_pos hx]
      · rw [if_neg hx, if_neg hx]
theorem getP_set (P : PL α) (k : Ky) (o : Option α) (k' : Ky) : getP (setP P k o) k' = if k' = k then o else getP P k' := by
  cases o with
  | none => exact getP_drop P k k'
  | some v =>
    have := getP_ins (k, v) (dropP P k) (fun p hp => by have := (List.mem_filter.1 hp).2; simpa using this) k'
    unfold setP
    rw [this, getP_drop]
    by_cases h : k' = k
    · subst h
      simp
    · rw [if_neg (fun e => h e.symm), if_neg h, if_neg h]
theorem getP_none {P : PL α} {k : Ky} (h : ∀ p ∈ P, p.1 ≠ k) : getP P k = none := by
  induction P with
  | nil => rfl
  | cons p P ih =>
    have : getP (p :: P) k = if p.1 = k then some p.2 else getP P k := rfl
    rw [this, if_neg (h p (by simp)), ih fun q hq => h q (by simp [hq])]
theorem getP_head (p : Ky × α) (P : PL α) : getP (p :: P) p.1 = some p.2 := by simp [getP]
theorem getP_tail {p : Ky × α} {P : PL α} {k : Ky} (h : p.1 ≠ k) : getP (p :: P) k = getP P k := by simp [getP, h]
/-- pairs by rising keys are told by what stands at each key -/
theorem rises_ext {P Q : PL α} (hP : Rises P) (hQ : Rises Q) (h : ∀ k, getP P k = getP Q k) : P = Q := by
  induction P generalizing Q with
  | nil =>
    cases Q with
    | nil => rfl
    | cons q Q =>
      have := h q.1
      rw [getP_head] at this
      cases this
  | cons p P ih =>
    cases Q with
    | nil =>
      have := h p.1
      rw [getP_head] at this
      cases this
    | cons q Q =>
      unfold Rises at hP hQ
      rw [List.pairwise_cons] at hP hQ
      have hpq : p.1 = q.1 := by
        refine Classical.byContradiction fun hne => ?_
        rcases ltB_total p.1 q.1 hne with h1 | h1
        · have := h p.1
          rw [getP_head, getP_none] at this
          · cases this
          · intro x hx
            rcases List.mem_cons.1 hx with rfl | hx
            · exact fun e => hne e.symm
            · exact fun e => ltB_ne (ltB_trans h1 (hQ.1 x hx)) e.symm
        · have := h q.1
          rw [getP_head, getP_none] at this
          · cases this
          · intro x hx
            rcases List.mem_cons.1 hx with rfl | hx
            · exact hne
            · exact fun e => ltB_ne (ltB_trans h1 (hP.1 x hx)) e.symm
      have hv : p.2 = q.2 := by
        have := h p.1
        rw [getP_head, hpq, getP_head] at this
        injection this
      have hrest : P = Q := ih hP.2 hQ.2 fun k => by
        by_cases hk : p.1 = k
        · subst hk
          rw [getP_none (fun x hx => (fun e => ltB_ne (hP.1 x hx) e.symm)), getP_none (fun x hx => (fun e => ltB_ne (hQ.1 x hx) (hpq.symm.trans e.symm)))]
        · have := h k
          rwa [getP_tail hk, getP_tail (by rwa [← hpq])] at this
      rw [hrest]
      congr 1
      exact Prod.ext hpq hv
theorem getP_mem {P : PL α} {k : Ky} {v : α} (h : getP P k = some v) : (k, v) ∈ P := by
  induction P with
  | nil => cases h
  | cons p P ih =>
    by_cases hp : p.1 = k
    · subst hp
      rw [getP_head] at h
      injection h with h
      subst h
      exact List.mem_cons_self
    · rw [getP_tail hp] at h
      exact List.mem_cons_of_mem _ (ih h)
theorem getP_at {P : PL α} (hP : Rises P) {p : Ky × α} (h : p ∈ P) : getP P p.1 = some p.2 := by
  induction P with
  | nil => cases h
  | cons q P ih =>
    unfold Rises at hP
    rw [List.pairwise_cons] at hP
    rcases List.mem_cons.1 h with rfl | h
    · exact getP_head _ _
    · rw [getP_tail (ltB_ne (hP.1 p h))]
      exact ih hP.2 h
def mapP (f : α → β) (P : PL α) : PL β := P.map fun p => (p.1, f p.2)
theorem mapP_ins (f : α → β) (x : Ky × α) (P : PL α) : mapP f (insP x P) = insP (x.1, f x.2) (mapP f P) := by
  induction P with
  | nil => rfl
  | cons p P ih =>
    unfold insP
    split
    · rename_i h
      show _ = insP (x.1, f x.2) ((p.1, f p.2) :: mapP f P)
      unfold insP
      rw [if_pos h]
      rfl
    · rename_i h
      show (p.1, f p.2) :: mapP f (insP x P) = insP (x.1, f x.2) ((p.1, f p.2) :: mapP f P)
      rw [ih]
      conv => rhs; unfold insP
      rw [if_neg h]
theorem mapP_drop (f : α → β) (P : PL α) (k : Ky) : mapP f (dropP P k) = dropP (mapP f P) k := by
  unfold mapP dropP
  rw [List.filter_map]
  rfl
theorem mapP_set (f : α → β) (P : PL α) (k : Ky) (o : Option α) : mapP f (setP P k o) = setP (mapP f P) k (o.map f) := by
  cases o with
  | none => exact mapP_drop f P k
  | some v =>
    show mapP f (insP (k, v) (dropP P k)) = insP (k, f v) (dropP (mapP f P) k)
    rw [mapP_ins, mapP_drop]
theorem length_insP (x : Ky × α) (P : PL α) : (insP x P).length = P.length + 1 := by
  induction P with
  | nil => rfl
  | cons p P ih =>
    unfold insP
    split
    · rfl
    · rw [List.length_cons, ih, List.length_cons]
theorem length_set (P : PL α) (k : Ky) (o : Option α) : (setP P k o).length ≤ P.length + 1 := by
  have h := List.length_filter_le (fun p : Ky × α => decide (p.1 ≠ k)) P
  cases o with
  | none => exact Nat.le_succ_of_le h
  | some v =>
    show (insP (k, v) (dropP P k)).length ≤ _
    rw [length_insP]
    exact Nat.succ_le_succ h
/-- the place of a key -/
theorem setP_split {A B : PL α} {k : Ky} {o : Option α} (hA : ∀ p ∈ A, ltB p.1 k = true) (hB : ∀ p ∈ B, ltB k p.1 = true) : setP (A ++ B) k o = A ++ ((o.map fun v => (k, v)).toList ++ B) := by
  have hd : dropP (A ++ B) k = A ++ B := by
    unfold dropP
    rw [List.filter_eq_self]
    intro p hp
    rcases List.mem_append.1 hp with h | h
    · simpa using ltB_ne (hA p h)
    · simpa using (ltB_ne (hB p h)).symm
  cases o with
  | none => exact hd
  | some v =>
    show insP (k, v) (dropP (A ++ B) k) = A ++ (k, v) :: B
    rw [hd]
    clear hd
    induction A with
    | nil =>
      cases B with
      | nil => rfl
      | cons q B =>
        show insP (k, v) (q :: B) = _
        unfold insP
        rw [if_pos (hB q (by simp))]
        rfl
    | cons a A ih =>
      show insP (k, v) (a :: (A ++ B)) = _
      unfold insP
      have h1 : ltB k a.1 = false := ltB_asymm (hA a (by simp))
      simp only [h1]
      rw [ih (fun p hp => hA p (by simp [hp]))]
      rfl
theorem setP_at {A B : PL α} {k : Ky} {u : α} {o : Option α} (hA : ∀ p ∈ A, ltB p.1 k = true) (hB : ∀ p ∈ B, ltB k p.1 = true) : setP (A ++ (k, u) :: B) k o = A ++ ((o.map fun v => (k, v)).toList ++ B) := by
  rw [← setP_split hA hB]
  have hd : dropP (A ++ (k, u) :: B) k = dropP (A ++ B) k := by
    unfold dropP
    rw [List.filter_append, List.filter_append, List.filter_cons_of_neg (by simp)]
  cases o with
  | none => exact hd
  | some v =>
    show insP (k, v) (dropP _ k) = insP (k, v) (dropP _ k)
    rw [hd]
end

end Go.Mun
