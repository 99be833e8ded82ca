/- copy into a row of the call's own: bytes. -/
import Derived.Laws.CopyOwn
import Derived.Test.YtpliedimdhilcaaBlk
namespace Go.Mun
open Go Go.RowKit

theorem own_pos {w : World} {base : Nat} {e : TypeId} {size n : Nat} {v : Value} {xs : List Value} (h : w.ownsRow base e size v n xs) (hn : 0 < n) : ∃ g cap, v = .slice (some ⟨g, 0, none⟩) n cap ∧ base ≤ g ∧ g < w.heap.size := by
  have h' := h.lt
  rcases h.2 with ⟨rfl, rfl⟩ | ⟨g, cap, cur, rfl, _⟩
  · omega
  · exact ⟨g, cap, rfl, h' g rfl⟩

theorem Bytes_from {w : World} {A : Option Addr} {L c : Nat} {l : List UInt8} (h : Bytes w (.slice A L c) l) {k : Nat} (hk : k ≤ L) : Bytes w (.slice (A.map (·.add k)) (L - k) (c - k)) (l.drop k) := by
  obtain ⟨A', L', c', e, h1, h2, h3, h4⟩ := h
  injection e with e1 e2 e3
  subst e1 e2 e3
  refine ⟨_, _, _, rfl, by rw [List.length_drop, h1], by omega, by omega, ?_⟩
  have := h4.drop k
  simpa [bv] using this

section
variable {P : Program} {w : World} {ops : Array Oper} {rest : List Oper} {o : Oper} {a : Act} {Q : Exit → Act → World → Prop}
theorem wpList_copy_row (hgd : o.guard = none) (d s : Operand) (dT sT : TypeId) (ho : o.op = .call { callee := .builtin .copy, args := #[d, s], argTypes := #[dT, sT] }) {e : TypeId} (hu : P.underlying dT = some (.slice e)) (hsz : (P.info? e).map (·.size) = some 1)
    {g off dLen dCap sLen sCap : Nat} {sp : Option Addr} (hd : a.eval d = .slice (some ⟨g, off, none⟩) dLen dCap) (hs : a.eval s = .slice sp sLen sCap)
    {base n cap : Nat} {xs : List UInt8} (hown : w.ownsRow base e 1 (.slice (some ⟨g, 0, none⟩) n cap) n (bv xs)) {ls : List UInt8} (hl : Bytes w (.slice sp sLen sCap) ls) (k : Nat) (hk : k = Nat.min sLen dLen) (hfit : off + k ≤ n)
    (h : ∀ w', w'.ownsRow base e 1 (.slice (some ⟨g, 0, none⟩) n cap) n (bv (xs.take off ++ ls.take k ++ xs.drop (off + k))) → w.grownBy w' (some g) → wpList P ops Q rest (a.put o.dst (goInt k)) w') : wpList P ops Q (o :: rest) a w := by
  obtain ⟨A, m, c, e1, hm, _, _, hr⟩ := hl
  injection e1 with e1 e2 e3
  subst e1 e2 e3
  by_cases h0 : k = 0
  · subst h0
    refine wpList_copy_nothing hgd d s dT sT ho e hu hsz _ _ dLen dCap sLen sCap hd hs hk.symm ?_
    refine h w (by simpa using hown) ⟨rfl, rfl, rfl, Nat.le_refl _, fun _ _ _ => rfl⟩
  · have hkl : k ≤ ls.length := by rw [hk, ← hm]; exact Nat.min_le_left _ _
    obtain ⟨ad, e, hcells⟩ := hr.some_ (by rw [bv_length]; omega)
    subst e
    have hown' := hown
    rcases hown'.2 with ⟨e, _⟩ | ⟨g', cap', cur, e, hbg, hg, hnc, hcm, hcs, htake⟩
    · cases e
    · injection e with e1 _ e3
      injection e1 with e1
      injection e1 with e1 _ _
      subst e1 e3
      have hxl : xs.length = n := by have := hown.1; rw [bv_length] at this; omega
      have hbl : (bv (ls.take k)).length = k := by rw [bv_length, List.length_take]; omega
      refine wpList_copy_own hgd d s dT sT ho _ hu hsz g off dLen dCap ad sLen sCap hd hs cur _ hg (bv (ls.take k)) (by rw [hbl, hk]) ?_ (by rw [hbl, hcs]; omega) bv_one ?_
      · intro j v hv
        refine hcells j v ?_
        have hj : j < k := by
          have := (List.getElem?_eq_some_iff.1 hv).1
          omega
        rw [← hv]
        simp [bv, hj]
      · rw [hbl]
        refine h _ ⟨by rw [bv_length]; simp; omega, .inr ⟨g, cap, _, rfl, hbg, setRow_heap w g cur _ _ _ hg, hnc, hcm, ?_, ?_⟩⟩ (grownBy_setRow w g _)
        · simp only [List.size_toArray, List.length_append, List.length_take, List.length_drop, Array.length_toList, hbl]
          omega
        · have e : cur.toList = bv xs ++ cur.toList.drop n := by
            rw [← Nat.mul_one n, ← htake, List.take_append_drop]
          simp only []
          rw [e]
          have hb : (bv xs).length = n := by rw [bv_length, hxl]
          generalize cur.toList.drop n = R
          have t1 : (bv xs ++ R).take off = (bv xs).take off := List.take_append_of_le_length (by omega)
          have t2 : (bv xs ++ R).drop (off + k) = (bv xs).drop (off + k) ++ R := List.drop_append_of_le_length (by omega)
          have t3 : (bv xs).take off ++ (bv (ls.take k) ++ ((bv xs).drop (off + k) ++ R)) = ((bv xs).take off ++ bv (ls.take k) ++ (bv xs).drop (off + k)) ++ R := by simp only [List.append_assoc]
          rw [t1, t2, t3, List.take_left' (by simp only [List.length_append, List.length_take, List.length_drop, hb, hbl]; omega)]
          simp [bv]

omit o in
theorem gd_copy {d : Option Tmp} {as : Array Operand} {ts : Array TypeId} {t p af g} (h : wpList P ops Q (⟨d, .call { callee := .builtin .copy, args := as, argTypes := ts }, t, p, af, g⟩ :: rest) a w) :
    wpList P ops Q (⟨d, .call { callee := .builtin .copy, args := as, argTypes := ts }, t, p, af, g⟩ :: rest) a w := h
/-- copy over a whole row of the call's own -/
theorem wpList_copy_into (hgd : o.guard = none) (d s : Operand) (dT sT : TypeId) (ho : o.op = .call { callee := .builtin .copy, args := #[d, s], argTypes := #[dT, sT] }) {e : TypeId} (hu : P.underlying dT = some (.slice e)) (hsz : (P.info? e).map (·.size) = some 1)
    {sLen sCap : Nat} {sp : Option Addr} {v : Value} (hd : a.eval d = v) (hs : a.eval s = .slice sp sLen sCap)
    {base n : Nat} (hn : 0 < n) {xs : List UInt8} (hown : w.ownsRow base e 1 v n (bv xs)) {ls : List UInt8} (hl : Bytes w (.slice sp sLen sCap) ls) (k : Nat) (hk : k = Nat.min sLen n)
    (h : ∀ w', w'.ownsRow base e 1 v n (bv (ls.take k ++ xs.drop k)) → w.grownBy w' v.ownBlock → wpList P ops Q rest (a.put o.dst (goInt k)) w') : wpList P ops Q (o :: rest) a w := by
  obtain ⟨g, cap, rfl, _⟩ := own_pos hown hn
  refine wpList_copy_row hgd d s dT sT ho hu hsz hd hs hown hl k hk (by rw [hk, Nat.zero_add]; exact Nat.min_le_right _ _) fun w' h1 h2 => h w' (by simpa using h1) h2
end
end Go.Mun
