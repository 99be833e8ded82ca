/- A row of ints that came in. Over any program. -/
import Derived.Test.YtdkccaiahgfjoaaRead
namespace Go.Mun
open Go Go.RowKit

def Ints (w : World) (v : Value) (l : List Int) : Prop := ∃ A n c, v = .slice A n c ∧ l.length = n ∧ n ≤ c ∧ c ≤ maxLen ∧ Rd w A (l.map (.int .i64)) ∧ ∀ x ∈ l, -9223372036854775808 ≤ x ∧ x ≤ 9223372036854775807
theorem Ints.ext {w w' : World} {v : Value} {l : List Int} (h : Ints w v l) (hb : Below w.heap.size w w') : Ints w' v l := by
  obtain ⟨A, n, c, e, h1, h2, h3, h4, h5⟩ := h
  exact ⟨A, n, c, e, h1, h2, h3, h4.ext hb, h5⟩
theorem Ints.of_slice {w : World} {v : Value} {l : List Int} (h : SliceOf 1 (rInt .i64) w v l) : Ints w v l := by
  obtain ⟨A, n, c, xs, rfl, g1, g2, g3, g4, g5, g6⟩ := h
  have hx : ∀ i (hi : i < l.length), xs[i]? = some (.int .i64 l[i]) ∧ (Lit.int .i64 l[i]).wf = true := fun i hi => by
    have h := g6 i hi
    have hlt : i < xs.length := by omega
    have hc : chunk xs 1 i = [xs[i]] := by
      unfold chunk
      rw [Nat.mul_one]
      apply List.ext_getElem?
      intro j
      rcases j with _ | j
      · simp [hlt]
      · simp; omega
    rw [hc] at h
    obtain ⟨h1, h2⟩ := h
    injection h1 with h1 _
    exact ⟨by rw [List.getElem?_eq_getElem hlt, h1], h2⟩
  refine ⟨A, n, c, rfl, g1, g3, g4, ?_, fun x hm => ?_⟩
  · have e : l.map (Value.int .i64) = xs := by
      apply List.ext_getElem?
      intro j
      by_cases hj : j < l.length
      · rw [(hx j hj).1, List.getElem?_map, List.getElem?_eq_getElem hj]; rfl
      · rw [List.getElem?_eq_none (by rw [List.length_map]; omega), List.getElem?_eq_none (by omega)]
    rw [e]
    exact g5
  · obtain ⟨j, hj, rfl⟩ := List.getElem_of_mem hm
    have h2 := (hx j hj).2
    unfold Lit.wf at h2
    exact ⟨of_decide_eq_true (Bool.and_eq_true_iff.1 h2).1, of_decide_eq_true (Bool.and_eq_true_iff.1 h2).2⟩
theorem Ints.at_ {w : World} {A : Option Addr} {n c : Nat} {l : List Int} (h : Ints w (.slice A n c) l) {i : Nat} (hi : i < n) : ∃ ad x, A = some ad ∧ l[i]? = some x ∧ w.cell? (ad.add i) = some (.int .i64 x) ∧ -9223372036854775808 ≤ x ∧ x ≤ 9223372036854775807 := by
  obtain ⟨A', n', c', e, h1, h2, h3, h4, h5⟩ := h
  injection e with e1 e2 e3
  subst e1 e2 e3
  have hl : i < l.length := by omega
  have hx : (l.map (Value.int .i64))[i]? = some (.int .i64 l[i]) := by rw [List.getElem?_map, List.getElem?_eq_getElem hl]; rfl
  obtain ⟨ad, e, hc⟩ := h4 i _ hx
  exact ⟨ad, l[i], e, List.getElem?_eq_getElem hl, hc, h5 _ (List.getElem_mem hl)⟩
theorem Ints.len {w : World} {A : Option Addr} {n c : Nat} {l : List Int} (h : Ints w (.slice A n c) l) : l.length = n ∧ n ≤ c ∧ c ≤ maxLen := by
  obtain ⟨A', n', c', e, h1, h2, h3, h4, h5⟩ := h
  injection e with e1 e2 e3
  subst e1 e2 e3
  exact ⟨h1, h2, h3⟩
end Go.Mun
