/- A KV, plainly: the bytes of a log, and what they are read as. -/
import Derived.Test.YthjnebngdcdicaaKvFn
namespace Go.Mun
open Go Go.RowKit

abbrev cLog : Ky := [108, 111, 103]
abbrev cAnew : Ky := [97, 110, 101, 119]
def opOf (e : Ky × List UInt8) : Rec := ⟨1, false, e.1, e.2, 0⟩
def opsOf (S : PLB) : List Rec := S.map opOf
def chunkK (l : List Rec) (k : Nat) : List Rec := (l.drop (k * 1000)).take 1000
def chunkN (m : Nat) : Nat := (m + 999) / 1000
def chunksOf (S : PLB) : List (List Rec) := (List.range (chunkN S.length)).map (chunkK (opsOf S))
/-- the bytes of a log of pairs alone -/
def wholeB (S : PLB) : List UInt8 := allBB (chunksOf S)
theorem opsOf_length (S : PLB) : (opsOf S).length = S.length := by unfold opsOf; rw [List.length_map]
theorem chunks_take (l : List Rec) : ∀ m, (List.range m).flatMap (chunkK l) = l.take (m * 1000)
  | 0 => by simp
  | m + 1 => by
    rw [List.range_succ, List.flatMap_append, chunks_take l m]
    show _ ++ (chunkK l m ++ []) = _
    rw [List.append_nil, show (m + 1) * 1000 = m * 1000 + 1000 by omega, List.take_add]
    rfl
theorem chunks_flat (S : PLB) : (chunksOf S).flatten = opsOf S := by
  unfold chunksOf
  rw [← List.flatMap_def, chunks_take, List.take_of_length_le]
  rw [opsOf_length]
  unfold chunkN
  omega
theorem liveP_flat (LL : List (List Rec)) (S0 : PLB) : LL.foldl doneP S0 = doneP S0 LL.flatten := by
  induction LL generalizing S0 with
  | nil => rfl
  | cons l LL ih => rw [List.foldl_cons, ih, List.flatten_cons, doneP_append]
theorem done_ops : ∀ (B A : PLB), Rises (A ++ B) → doneP A (opsOf B) = A ++ B
  | [], A, _ => by rw [List.append_nil]; rfl
  | e :: B, A, h => by
    have hA : ∀ p ∈ A, ltB p.1 e.1 = true := fun p hp => (List.pairwise_append.1 h).2.2 p hp e List.mem_cons_self
    have h1 : setP A e.1 (some e.2) = A ++ [e] := by
      have := setP_split (A := A) (B := []) (k := e.1) (o := some e.2) hA (fun p hp => absurd hp List.not_mem_nil)
      rw [List.append_nil] at this
      rw [this]
      rfl
    have h2 := done_ops B (A ++ [e]) (by rw [List.append_assoc]; exact h)
    show doneP (setP A e.1 (some e.2)) (opsOf B) = _
    rw [h1, h2, List.append_assoc]
    rfl
theorem live_chunks {S : PLB} (h : Rises S) : liveP (chunksOf S) = S := by
  unfold liveP
  rw [liveP_flat, chunks_flat]
  exact done_ops S [] h
theorem opsOf_ok {S : PLB} (h : FitS S) : ∀ r ∈ opsOf S, OpW r := fun r hr => by
  obtain ⟨e, he, rfl⟩ := List.mem_map.1 hr
  exact ⟨rfl, rfl, (h.each e he).1, (h.each e he).2⟩
theorem chunk_wide {S : PLB} (h : FitS S) (k : Nat) : WideL (chunkK (opsOf S) k) :=
  ⟨by unfold chunkK; rw [List.length_take]; omega, fun r hr => opsOf_ok h r (List.mem_of_mem_drop (List.mem_of_mem_take hr))⟩
theorem chunks_wide {S : PLB} (h : FitS S) : ∀ l ∈ chunksOf S, WideL l := fun l hl => by
  obtain ⟨k, _, rfl⟩ := List.mem_map.1 hl
  exact chunk_wide h k
theorem chunks_len {S : PLB} (h : FitS S) : (chunksOf S).length ≤ 2 := by
  unfold chunksOf
  rw [List.length_map, List.length_range]
  have := h.len
  unfold chunkN
  omega
/-- bytes that are a log of these pairs, behind which a batch may be torn -/
def LogOk (b : List UInt8) (S : PLB) (n : Nat) : Prop := ∃ LL t c, (∀ l ∈ LL, WideL l) ∧ WideL t ∧ LL.length ≤ n ∧ c < (batchB t).length ∧ b = allBB LL ++ (batchB t).take c ∧ liveP LL = S
/-- bytes that are a log, and nothing behind it -/
def LogAll (b : List UInt8) (S : PLB) (n : Nat) : Prop := ∃ LL, (∀ l ∈ LL, WideL l) ∧ LL.length ≤ n ∧ b = allBB LL ∧ liveP LL = S
theorem wide_nil : WideL [] := ⟨Nat.zero_le _, fun _ h => absurd h List.not_mem_nil⟩
theorem LogAll.ok {b : List UInt8} {S : PLB} {n : Nat} (h : LogAll b S n) : LogOk b S n := by
  obtain ⟨LL, h1, h2, h3, h4⟩ := h
  exact ⟨LL, [], 0, h1, wide_nil, h2, batchB_posW [] wide_nil, by rw [List.take_zero, List.append_nil]; exact h3, h4⟩
theorem LogAll.nil (n : Nat) : LogAll [] [] n := ⟨[], fun _ h => absurd h List.not_mem_nil, Nat.zero_le _, rfl, rfl⟩
theorem LogAll.whole {S : PLB} (h : FitS S) : LogAll (wholeB S) S 2 := ⟨chunksOf S, chunks_wide h, chunks_len h, rfl, live_chunks h.rises⟩
theorem LogAll.more {b : List UInt8} {S : PLB} {n : Nat} (h : LogAll b S n) {l : List Rec} (hl : WideL l) : LogAll (b ++ batchB l) (doneP S l) (n + 1) := by
  obtain ⟨LL, h1, h2, h3, h4⟩ := h
  refine ⟨LL ++ [l], fun x hx => ?_, by rw [List.length_append]; exact Nat.succ_le_succ h2, ?_, ?_⟩
  · rcases List.mem_append.1 hx with hx | hx
    · exact h1 x hx
    · rw [List.mem_singleton.1 hx]; exact hl
  · rw [allBB_append, h3]
    simp [allBB]
  · unfold liveP
    rw [List.foldl_append]
    show doneP (liveP LL) l = _
    rw [h4]
/-- a batch that is torn, or whole -/
theorem LogAll.torn {b : List UInt8} {S : PLB} {n : Nat} (h : LogAll b S n) {l : List Rec} (hl : WideL l) (c : Nat) : LogOk (b ++ (batchB l).take c) S (n + 1) ∨ LogOk (b ++ (batchB l).take c) (doneP S l) (n + 1) := by
  by_cases hc : c < (batchB l).length
  · obtain ⟨LL, h1, h2, h3, h4⟩ := h
    exact .inl ⟨LL, l, c, h1, hl, by omega, hc, by rw [h3], h4⟩
  · rw [List.take_of_length_le (by omega)]
    exact .inr (h.more hl).ok
/-- what such bytes are read as -/
theorem LogOk.read {b : List UInt8} {S : PLB} {n : Nat} (h : LogOk b S n) : ∃ LL, batches b = (LL.map normL, (allBB LL).length) ∧ (∀ l ∈ LL, WideL l) ∧ LL.length ≤ n ∧ liveP (LL.map normL) = S ∧ (allBB LL).length ≤ b.length ∧ ((allBB LL).length = b.length → LogAll b S n) := by
  obtain ⟨LL, t, c, h1, h2, h3, h4, h5, h6⟩ := h
  refine ⟨LL, by rw [h5]; exact read_tornW h1 h2 h4, h1, h3, by rw [live_normW h1, h6], by rw [h5, List.length_append]; omega, fun e => ?_⟩
  rw [h5, List.length_append, List.length_take] at e
  have hc : c = 0 := by omega
  subst hc
  rw [List.take_zero, List.append_nil] at h5
  exact ⟨LL, h1, h3, h5, h6⟩
theorem LogOk.mono {b : List UInt8} {S : PLB} {n m : Nat} (h : LogOk b S n) (hm : n ≤ m) : LogOk b S m := by
  obtain ⟨LL, t, c, h1, h2, h3, h4, h5, h6⟩ := h
  exact ⟨LL, t, c, h1, h2, Nat.le_trans h3 hm, h4, h5, h6⟩
theorem LogAll.mono {b : List UInt8} {S : PLB} {n m : Nat} (h : LogAll b S n) (hm : n ≤ m) : LogAll b S m := by
  obtain ⟨LL, h1, h2, h3, h4⟩ := h
  exact ⟨LL, h1, Nat.le_trans h2 hm, h3, h4⟩
end Go.Mun
