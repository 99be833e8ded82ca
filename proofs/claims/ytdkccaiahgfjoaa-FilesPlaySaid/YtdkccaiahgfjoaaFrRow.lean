/- The reference's files: names in a row, as they lie; find. -/
import Derived.Test.YtdkccaiahgfjoaaFsIn
import Derived.Deep.QuietTactic
import Derived.BigQuiet
namespace Go.Mun
open Go Go.RowKit Go.Proofs Go.Maps

theorem cutw_lB {P : Program} {t e : TypeId} {z : Value} {size bytes : Nat} (hT : SliceTy P t e z size bytes) (A : Option Addr) (n c : Nat) {kl : IntKind} {lo' : Int} {lo : Nat} (hlo : lo' = lo) (h1 : lo ≤ n) (hc : n ≤ c) :
    ∃ A' : Option Addr, (∀ w, (Instr.slice t (.slice A n c) (some (.int kl lo')) none none).run P w = .ok (.slice A' (n - lo) (c - lo)) w) ∧ (A = none → A' = none) ∧
      (∀ w xs, xs.length = n * size → Rd w A xs → Rd w A' (xs.drop (lo * size))) := by
  subst hlo
  refine ⟨if c = lo then A else A.map (·.add (lo * size)), fun w => ?_, fun e => ?_, fun w xs hx h => ?_⟩
  · rw [run_slice_l w t A n c hT.under kl lo (by omega) (by omega), hT.sizeOf_elem]
    simp [Result.andThen, sliced]
  · subst e; simp
  · by_cases h0 : c = lo
    · rw [if_pos h0, List.drop_eq_nil_of_le (by rw [hx]; exact Nat.mul_le_mul_right _ (by omega))]
      exact Rd.nil _ _
    · rw [if_neg h0]
      exact h.drop _
/-- a name and its file, in two cells -/
def ent (φ : Nat → Nat) (p : Ky × Nat) : List Value := [.string ⟨p.1.toArray⟩, ptr (φ p.2)]
def erow (φ : Nat → Nat) (P : PL Nat) : List Value := P.flatMap (ent φ)
theorem erow_nil (φ : Nat → Nat) : erow φ [] = [] := rfl
theorem erow_cons (φ : Nat → Nat) (p : Ky × Nat) (P : PL Nat) : erow φ (p :: P) = ent φ p ++ erow φ P := rfl
theorem erow_append (φ : Nat → Nat) (P Q : PL Nat) : erow φ (P ++ Q) = erow φ P ++ erow φ Q := List.flatMap_append
theorem erow_length (φ : Nat → Nat) (P : PL Nat) : (erow φ P).length = P.length * 2 := by
  induction P with
  | nil => rfl
  | cons p P ih => rw [erow_cons, List.length_append, ih, List.length_cons, show (ent φ p).length = 2 from rfl]; omega
theorem erow_at (φ : Nat → Nat) {P : PL Nat} {k : Nat} {p : Ky × Nat} (h : P[k]? = some p) : (erow φ P)[k * 2]? = some (.string ⟨p.1.toArray⟩) ∧ (erow φ P)[k * 2 + 1]? = some (ptr (φ p.2)) := by
  induction P generalizing k with
  | nil => cases h
  | cons q P ih =>
    cases k with
    | zero => injection h with h; subst h; exact ⟨rfl, rfl⟩
    | succ k =>
      have := ih (k := k) h
      rw [erow_cons]
      rw [show (k + 1) * 2 = (ent φ q).length + k * 2 from by show _ = 2 + _; omega, List.getElem?_append_right (by omega), show (ent φ q).length + k * 2 + 1 = (ent φ q).length + (k * 2 + 1) from by omega, List.getElem?_append_right (by omega)]
      simpa using this
theorem erow_take (φ : Nat → Nat) (A B : PL Nat) : (erow φ (A ++ B)).take (A.length * 2) = erow φ A := by
  rw [erow_append, List.take_left' (erow_length φ A)]
theorem erow_drop (φ : Nat → Nat) (A B : PL Nat) : (erow φ (A ++ B)).drop (A.length * 2) = erow φ B := by
  rw [erow_append, List.drop_left' (erow_length φ A)]
theorem erow_one (φ : Nat → Nat) (P : PL Nat) : ∀ u ∈ erow φ P, u.oneCell' = true := by
  intro u hu
  obtain ⟨p, _, hp⟩ := List.mem_flatMap.1 hu
  rcases List.mem_cons.1 hp with rfl | hp
  · rfl
  · rw [List.mem_singleton.1 hp]; rfl
theorem ent_one (φ : Nat → Nat) (p : Ky × Nat) : ∀ u ∈ ent φ p, u.oneCell' = true := fun u hu => erow_one φ [p] u (by rw [erow_cons, erow_nil, List.append_nil]; exact hu)
theorem entsTy : SliceTy Try.prog 32 75 (.agg #[.string ⟨#[]⟩, .pointer none]) 2 24 := SliceTy.mk' Try.underlying32 (by kernel_rfl) rfl (by decide)
/-- names that may be read -/
structure Ents (φ : Nat → Nat) (w : World) (v : Value) (P : PL Nat) : Prop where
  at_ : ∃ A c, v = .slice A P.length c ∧ P.length ≤ c ∧ c ≤ maxLen ∧ Rd w A (erow φ P)
theorem Ents.ext {φ : Nat → Nat} {w w' : World} {v : Value} {P : PL Nat} (h : Ents φ w v P) (hb : Below w.heap.size w w') : Ents φ w' v P := by
  obtain ⟨A, c, e, h1, h2, h3⟩ := h.at_
  exact ⟨A, c, e, h1, h2, h3.ext hb⟩
theorem Ents.own {φ : Nat → Nat} {w : World} {base : Nat} {v : Value} {P : PL Nat} (h : w.ownsRow base 75 2 v P.length (erow φ P)) : Ents φ w v P := by
  obtain ⟨A, c, rfl⟩ := row_slC h
  have hc : P.length ≤ c ∧ c ≤ maxLen := by
    rcases h.2 with ⟨e1, e2⟩ | ⟨g, cap, cur, e1, _, _, h1, h2, _⟩
    · injection e1 with _ _ e3; unfold maxLen; omega
    · injection e1 with _ _ e3; exact ⟨by omega, by omega⟩
  exact ⟨A, c, rfl, hc.1, hc.2, Rd.own h⟩
/-- where a name is, or would be -/
def Place (P : PL Nat) (n : Ky) (k : Nat) : Prop :=
  ∃ A B, P = A ++ B ∧ k = A.length ∧ (∀ p ∈ A, ltB p.1 n = true) ∧ ((∃ i B', B = (n, i) :: B' ∧ getP P n = some i ∧ ∀ p ∈ B', ltB n p.1 = true) ∨ (getP P n = none ∧ ∀ p ∈ B, ltB n p.1 = true))
theorem place_of {P : PL Nat} (hP : Rises P) {n : Ky} {k : Nat} (hk : k ≤ P.length) (h1 : ∀ j p, j < k → P[j]? = some p → ltB p.1 n = true) (h2 : ∀ p, P[k]? = some p → ltB p.1 n = false) : Place P n k := by
  refine ⟨P.take k, P.drop k, (List.take_append_drop k P).symm, by rw [List.length_take]; omega, fun p hp => ?_, ?_⟩
  · obtain ⟨j, hj, rfl⟩ := List.getElem_of_mem hp
    rw [List.length_take] at hj
    exact h1 j _ (by omega) (by rw [List.getElem_take, List.getElem?_eq_getElem (by omega)])
  · have hd : Rises (P.drop k) := List.Pairwise.sublist (List.drop_sublist k P) hP
    have hA : ∀ p ∈ P.take k, ltB p.1 n = true := fun p hp => by
      obtain ⟨j, hj, rfl⟩ := List.getElem_of_mem hp
      rw [List.length_take] at hj
      exact h1 j _ (by omega) (by rw [List.getElem_take, List.getElem?_eq_getElem (by omega)])
    have hnone : (∀ p ∈ P.drop k, p.1 ≠ n) → getP P n = none := fun h => getP_none fun p hp => by
      rw [← List.take_append_drop k P] at hp
      rcases List.mem_append.1 hp with hp | hp
      · exact ltB_ne (hA p hp)
      · exact h p hp
    cases hD : P.drop k with
    | nil =>
      rw [hD] at hnone
      exact .inr ⟨hnone (fun p hp => by cases hp), fun p hp => by cases hp⟩
    | cons q B' =>
      rw [hD] at hd hnone
      have hq : P[k]? = some q := by
        have := congrArg (fun l => l[0]?) hD
        simpa using this
      have hql := h2 q hq
      have hall : ∀ p ∈ B', ltB q.1 p.1 = true := fun p hp => (List.pairwise_cons.1 hd).1 p hp
      by_cases he : q.1 = n
      · refine .inl ⟨q.2, B', by rw [← he], ?_, fun p hp => by rw [← he]; exact hall p hp⟩
        rw [← he]
        exact getP_at hP (List.mem_of_getElem? hq)
      · have hlt : ltB n q.1 = true := by
          rcases ltB_total q.1 n he with h | h
          · rw [hql] at h; cases h
          · exact h
        have hall2 : ∀ p ∈ q :: B', ltB n p.1 = true := fun p hp => by
          rcases List.mem_cons.1 hp with rfl | hp
          · exact hlt
          · exact ltB_trans hlt (hall p hp)
        exact .inr ⟨hnone fun p hp => (ltB_ne (hall2 p hp)).symm, hall2⟩
theorem place_found {P : PL Nat} {n : Ky} {k : Nat} {p : Ky × Nat} (hP : Rises P) (h : Place P n k) (hp : P[k]? = some p) : (p.1 == n) = (getP P n).isSome := by
  obtain ⟨A, B, rfl, rfl, hA, hB⟩ := h
  rw [List.getElem?_append_right (Nat.le_refl _), Nat.sub_self] at hp
  rcases hB with ⟨i, B', rfl, hg, _⟩ | ⟨hg, hB⟩
  · injection hp with hp
    subst hp
    rw [hg]
    simp
  · rw [hg]
    have hm := List.mem_of_getElem? hp
    have := ltB_ne (hB p hm)
    simpa using fun e => this e.symm
theorem place_end {P : PL Nat} {n : Ky} (h : Place P n P.length) : (getP P n).isSome = false := by
  obtain ⟨A, B, rfl, hk, hA, hB⟩ := h
  rw [List.length_append] at hk
  have hb : B = [] := List.eq_nil_of_length_eq_zero (by omega)
  subst hb
  rcases hB with ⟨i, B', e, _⟩ | ⟨hg, _⟩
  · cases e
  · rw [hg]; rfl
end Go.Mun
