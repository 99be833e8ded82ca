/- How long logs are. Plain. -/
import Derived.Test.YthjnebngdcdicaaKvUp
namespace Go.Mun
open Go Go.RowKit

theorem OpW.len_le {r : Rec} (h : OpW r) : r.bytes.length ≤ 14 + r.key.length + r.value.length := by
  have h3 := h.isEnd
  have h4 := h.kind
  obtain ⟨kind, del, key, value, n⟩ := r
  simp only at h4
  subst h4
  rw [bytes_length, body_change h3]
  simp only [List.length_append, fourB_length]
  cases del <;> simp <;> omega
theorem opsB_le {c : Nat} {l : List Rec} (h : ∀ r ∈ l, OpW r ∧ 14 + r.key.length + r.value.length ≤ c) : (opsB l).length ≤ c * l.length := by
  induction l with
  | nil => exact Nat.zero_le _
  | cons r l ih =>
    rw [opsB_cons, List.length_append, List.length_cons, Nat.mul_succ]
    obtain ⟨h1, h3⟩ := h r (by simp)
    have h1 := h1.len_le
    have h2 := ih fun y hy => h y (by simp [hy])
    omega
theorem batch_len {l : List Rec} (h : WideL l) : (batchB l).length = (opsB l).length + 13 := by
  unfold batchB
  rw [List.length_append, endR_len (by have := h.1; omega)]
theorem allB_ops {LL : List (List Rec)} (h : ∀ l ∈ LL, WideL l) : (allBB LL).length = (opsB LL.flatten).length + 13 * LL.length := by
  unfold allBB
  induction LL with
  | nil => rfl
  | cons x LL ih =>
    rw [List.flatMap_cons, List.length_append, List.length_cons, List.flatten_cons, opsB_append, List.length_append, batch_len (h x List.mem_cons_self), ih fun l hl => h l (List.mem_cons_of_mem _ hl)]
    omega
theorem whole_ops {S : PLB} (h : FitS S) : (wholeB S).length ≤ (opsB (opsOf S)).length + 26 := by
  have h1 := allB_ops (chunks_wide h)
  rw [chunks_flat] at h1
  have h2 := chunks_len h
  unfold wholeB
  omega
theorem whole_le {c : Nat} {S : PLB} (h : FitS S) (hc : ∀ e ∈ S, 14 + e.1.length + e.2.length ≤ c) : (wholeB S).length ≤ c * S.length + 26 := by
  have h1 := opsB_le (c := c) (l := opsOf S) fun r hr => ⟨opsOf_ok h r hr, by
    obtain ⟨e, he, rfl⟩ := List.mem_map.1 hr
    exact hc e he⟩
  rw [opsOf_length] at h1
  have h2 := whole_ops h
  omega
theorem done_mem {l : List Rec} : ∀ {S : PLB} {e : Ky × List UInt8}, e ∈ doneP S l → e ∈ S ∨ ∃ r ∈ l, e.1 = r.key ∧ e.2 = r.value ∧ r.del = false := by
  induction l with
  | nil => exact fun h => .inl h
  | cons r l ih =>
    intro S e h
    rcases ih (S := setP S r.key r.left) h with h1 | ⟨r', h1, h2⟩
    · rcases mem_setP h1 with h1 | ⟨x, e1, e2⟩
      · exact .inl h1
      · refine .inr ⟨r, List.mem_cons_self, ?_⟩
        unfold Rec.left at e1
        split at e1
        · cases e1
        · rename_i hd
          injection e1 with e1
          rw [e2, ← e1]
          exact ⟨rfl, rfl, by simpa using hd⟩
    · exact .inr ⟨r', List.mem_cons_of_mem _ h1, h2⟩
/-- pairs that stem from t writes of small changes -/
structure Small (t : Nat) (S : PLB) : Prop where
  rises : Rises S
  len : S.length ≤ 60 * t
  each : ∀ e ∈ S, e.1.length ≤ 300 ∧ e.2.length ≤ 300
theorem Small.fit {t : Nat} {S : PLB} (h : Small t S) (ht : t ≤ 31) : FitS S := ⟨h.rises, by have := h.len; omega, fun e he => by have := h.each e he; omega⟩
theorem Small.whole {t : Nat} {S : PLB} (h : Small t S) (ht : t ≤ 31) : (wholeB S).length ≤ 36853 * t + 26 := by
  have h1 := whole_le (c := 614) (h.fit ht) fun e he => by have := h.each e he; omega
  have h2 := h.len
  omega
theorem Small.nil (t : Nat) : Small t [] := ⟨List.Pairwise.nil, Nat.zero_le _, fun _ he => absurd he List.not_mem_nil⟩
theorem Small.mono {t t' : Nat} {S : PLB} (h : Small t S) (ht : t ≤ t') : Small t' S := ⟨h.rises, by have := h.len; omega, h.each⟩
theorem whole_1000 {S : PLB} (h : FitS S) : (wholeB S).length ≤ 1000 * S.length + 26 := whole_le h fun e he => by have := h.each e he; omega
theorem batch_1000 {l : List Rec} (h : WideL l) : (batchB l).length ≤ 1000 * l.length + 13 := by
  have := batch_len h
  have := opsB_bdW h.2
  omega
/-- '[]T{op}' in memory -/
theorem ops_one {w : World} {g : Nat} {t : TypeId} {kv vv : Value} {r : Rec} (hx : Blk w g t #[.bool r.del, kv, vv]) (hk : Bytes w kv r.key) (hv : Bytes w vv r.value) (h1 : r.kind = 1) (h2 : r.n = 0) : SliceOf 3 rOp w (.slice (some ⟨g, 0, none⟩) 1 1) [r] := by
  refine ⟨_, _, _, _, rfl, rfl, rfl, Nat.le_refl _, by unfold maxLen; decide, hx.rd, fun i hi => ?_⟩
  obtain rfl : i = 0 := by simpa using hi
  exact fun _ => ⟨kv, vv, rfl, h1, h2, hk, hv⟩
theorem fit_one {l : List Rec} (hl : l.length ≤ 1900) (h : ∀ r ∈ l, OpW r) : FitS (doneP [] l) := by
  refine ⟨doneP_rises _ List.Pairwise.nil, ?_, fun e he => ?_⟩
  · have := length_done [] l
    simp only [List.length_nil] at this
    omega
  · rcases done_mem he with h' | ⟨r, hr, h1, h2, _⟩
    · exact absurd h' List.not_mem_nil
    · rw [h1, h2]
      exact ⟨(h r hr).key, (h r hr).value⟩
end Go.Mun
