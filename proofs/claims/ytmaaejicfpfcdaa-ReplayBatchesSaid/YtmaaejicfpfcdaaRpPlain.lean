/- What a segment's bytes are read as, and what is read of memory that is written on. -/
import Derived.Test.YtmaaejicfpfcdaaRecRow
namespace Go.Mun
open Go Go.RowKit Go.Proofs Go.ChangeShapes Go.WideShapes Go.ChangeAt

/-- the batches that bytes begin with, and how many bytes they have: from a place on, with what was read ahead of it -/
def batB (b : List UInt8) : Nat → Nat → Nat → List Rec → List (List Rec) → List (List Rec) × Nat
  | 0, _, wh, _, out => (out, wh)
  | F + 1, at_, wh, l, out =>
    if (nextB (b.drop at_)).2.2 ≠ 0 then (out, wh)
    else if (nextB (b.drop at_)).1.kind = 1 then batB b F (at_ + (nextB (b.drop at_)).2.1) wh (l ++ [(nextB (b.drop at_)).1]) out
    else if (nextB (b.drop at_)).1.n ≠ (l.length : Int) then (out, wh)
    else batB b F (at_ + (nextB (b.drop at_)).2.1) (at_ + (nextB (b.drop at_)).2.1) [] (out ++ [l])
/-- all of it -/
def batches (b : List UInt8) : List (List Rec) × Nat := batB b (b.length + 1) 0 0 [] []

theorem readB_some {b : List UInt8} {r : Rec} (h : readB b = some r) : (r.kind = 1 ∧ r.n = 0) ∨ (r.kind = 2 ∧ 0 ≤ r.n ∧ r.n ≤ 2147483647) := by
  unfold readB at h
  split at h
  · split at h
    · cases h
    · injection h with h
      subst h
      exact .inr ⟨rfl, by simp only; omega, by simp only; omega⟩
  · split at h
    · cases h
    · split at h
      · cases h
      · split at h
        · cases h
        · injection h with h
          subst h
          exact .inl ⟨rfl, rfl⟩
/-- what is known of a record that was read -/
theorem next_ok {b : List UInt8} (h : (nextB b).2.2 = 0) : 9 ≤ (nextB b).2.1 ∧ (nextB b).2.1 ≤ b.length ∧
    (((nextB b).1.kind = 1 ∧ (nextB b).1.n = 0) ∨ ((nextB b).1.kind = 2 ∧ 0 ≤ (nextB b).1.n ∧ (nextB b).1.n ≤ 2147483647)) := by
  unfold nextB at h ⊢
  split at h
  · exact absurd h (by decide)
  · split at h
    · exact absurd h (by decide)
    · split at h
      · exact absurd h (by decide)
      · split at h
        · exact absurd h (by decide)
        · rename_i h1 h2 h3 h4
          rw [if_neg h1, if_neg h2, if_neg h3, if_neg h4]
          cases hr : readB ((b.take (8 + numB b)).drop 8) with
          | none => rw [hr] at h; simp [readT] at h
          | some r =>
            have := readB_some hr
            refine ⟨?_, ?_, this⟩
            · show 9 ≤ 8 + numB b
              omega
            · show 8 + numB b ≤ b.length
              omega

/-- Whatever is written into new blocks, or into those that are bad, it stays. -/
def Stays (w : World) (bad : Nat → Prop) (P : World → Prop) : Prop := ∀ w' : World, w.heap.size ≤ w'.heap.size → (∀ k, k < w.heap.size → ¬ bad k → w'.heap[k]? = w.heap[k]?) → P w'
theorem Stays.now {w : World} {bad : Nat → Prop} {P : World → Prop} (h : Stays w bad P) : P w := h w (Nat.le_refl _) fun _ _ _ => rfl
theorem Stays.step {w w1 : World} {bad bad1 : Nat → Prop} {P : World → Prop} (h : Stays w bad P) (hs : w.heap.size ≤ w1.heap.size) (hk : ∀ k, k < w.heap.size → ¬ bad k → w1.heap[k]? = w.heap[k]?) (hb : ∀ k, k < w.heap.size → bad1 k → bad k) : Stays w1 bad1 P :=
  fun w' h1 h2 => h w' (Nat.le_trans hs h1) fun k hlt hn => (h2 k (Nat.lt_of_lt_of_le hlt hs) (fun hb1 => hn (hb k hlt hb1))).trans (hk k hlt hn)
theorem Stays.and {w : World} {bad : Nat → Prop} {P Q : World → Prop} (h : Stays w bad P) (k : Stays w bad Q) : Stays w bad fun w' => P w' ∧ Q w' := fun w' h1 h2 => ⟨h w' h1 h2, k w' h1 h2⟩
theorem Stays.imp {w : World} {bad : Nat → Prop} {P Q : World → Prop} (h : Stays w bad P) (hi : ∀ w', P w' → Q w') : Stays w bad Q := fun w' h1 h2 => hi w' (h w' h1 h2)
theorem Stays.own {w : World} {bad : Nat → Prop} {base size n : Nat} {e : TypeId} {v : Value} {xs : List Value} (h : w.ownsRow base e size v n xs) (hb : ∀ k, v.ownBlock = some k → ¬ bad k) : Stays w bad fun w' => w'.ownsRow base e size v n xs := by
  intro w' h1 h2
  refine ⟨h.1, ?_⟩
  rcases h.2 with hn | ⟨g, cap, cur, rfl, hg, hh, rest⟩
  · exact .inl hn
  · exact .inr ⟨g, cap, cur, rfl, hg, (h2 g (h.lt g rfl).2 (hb g rfl)).trans hh, rest⟩
/-- the blocks of two rows -/
def Rows2 (a b : Value) : Nat → Prop := fun k => a.ownBlock = some k ∨ b.ownBlock = some k

/-- the cells of the change that a record tells -/
def opC (r : Rec) (kv vv : Value) : List Value := [.bool r.del, kv, vv]
/-- changes in a row -/
def OpsC (w : World) (cl : List Value) (l : List Rec) : Prop := cl.length = l.length * 3 ∧ ∀ i (h : i < l.length), rOp w (chunk cl 3 i) l[i]
theorem OpsC.nil (w : World) : OpsC w [] [] := ⟨rfl, fun i h => by simp at h⟩
theorem chunk_left {a b : List Value} {s i : Nat} (h : (i + 1) * s ≤ a.length) : chunk (a ++ b) s i = chunk a s i := by
  have h' : i * s + s ≤ a.length := by rw [Nat.add_mul, Nat.one_mul] at h; exact h
  unfold chunk
  rw [List.drop_append_of_le_length (by omega), List.take_append_of_le_length (by rw [List.length_drop]; omega)]
theorem chunk_last {a b : List Value} {s i : Nat} (h : a.length = i * s) (hb : b.length = s) : chunk (a ++ b) s i = b := by
  unfold chunk
  rw [← h, List.drop_left, List.take_of_length_le (by omega)]
theorem OpsC.more {w : World} {cl : List Value} {l : List Rec} {r : Rec} {kv vv : Value} (h : OpsC w cl l) (h1 : r.kind = 1) (h2 : r.n = 0) (hk : Bytes w kv r.key) (hv : Bytes w vv r.value) : OpsC w (cl ++ opC r kv vv) (l ++ [r]) := by
  refine ⟨by simp [opC, h.1]; omega, fun i hi => ?_⟩
  by_cases hlt : i < l.length
  · rw [chunk_left (by rw [h.1]; exact Nat.mul_le_mul_right _ hlt), List.getElem_append_left hlt]
    exact h.2 i hlt
  · obtain rfl : i = l.length := by simp at hi; omega
    rw [chunk_last (s := 3) h.1 rfl]
    rw [List.getElem_append_right (Nat.le_refl _)]
    intro _
    refine ⟨kv, vv, ?_, ?_, ?_, ?_, ?_⟩
    · simp [opC]
    · simpa using h1
    · simpa using h2
    · simpa using hk
    · simpa using hv
/-- batches in a row -/
def OutC (w : World) (co : List Value) (out : List (List Rec)) : Prop := co.length = out.length * 1 ∧ ∀ i (h : i < out.length), rSlice 3 rOp w (chunk co 1 i) out[i]
theorem OutC.nil (w : World) : OutC w [] [] := ⟨rfl, fun i h => by simp at h⟩
theorem OutC.more {w : World} {co : List Value} {out : List (List Rec)} {v : Value} {l : List Rec} (h : OutC w co out) (hv : SliceOf 3 rOp w v l) : OutC w (co ++ [v]) (out ++ [l]) := by
  refine ⟨by simp [h.1], fun i hi => ?_⟩
  by_cases hlt : i < out.length
  · rw [chunk_left (by rw [h.1]; omega), List.getElem_append_left hlt]
    exact h.2 i hlt
  · obtain rfl : i = out.length := by simp at hi; omega
    rw [chunk_last (s := 1) h.1 rfl, List.getElem_append_right (Nat.le_refl _)]
    exact ⟨v, rfl, by simpa using hv⟩
theorem slice_of_own {α : Type} {w : World} {base size n : Nat} {e : TypeId} {v : Value} {xs : List Value} {R : Reader α} {ds : List α} (h : w.ownsRow base e size v n xs) (hl : ds.length = n) (hr : ∀ i (h : i < ds.length), R w (chunk xs size i) ds[i]) : SliceOf size R w v ds := by
  have h' := h
  rcases h.2 with ⟨rfl, rfl⟩ | ⟨g, cap, cur, rfl, _, _, hc, hm, _⟩
  · exact ⟨none, 0, 0, xs, rfl, hl, h.1, Nat.le_refl _, Nat.zero_le _, Rd.own h', hr⟩
  · exact ⟨_, n, cap, xs, rfl, hl, h.1, hc, hm, Rd.own h', hr⟩
theorem opsTy : SliceTy Try.prog 49 34 (.agg #[.bool false, .slice none 0 0, .slice none 0 0]) 3 56 := SliceTy.mk' Try.underlying49 (by kernel_rfl) rfl (by decide)
theorem outTy : SliceTy Try.prog 53 49 (.slice none 0 0) 1 24 := SliceTy.mk' Try.underlying53 (by kernel_rfl) rfl (by decide)
end Go.Mun
