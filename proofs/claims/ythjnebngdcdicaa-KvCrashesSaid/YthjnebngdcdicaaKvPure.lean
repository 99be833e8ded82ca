/- Batches of many changes: what they are read as. Plain. -/
import Derived.Test.YthjnebngdcdicaaKb6
namespace Go.Mun
open Go Go.RowKit

/-- changes that may be packed -/
structure OpW (r : Rec) : Prop where
  kind : r.kind = 1
  n : r.n = 0
  key : r.key.length ≤ 300
  value : r.value.length ≤ 600
theorem OpW.isEnd {r : Rec} (h : OpW r) : r.isEnd = false := by unfold Rec.isEnd; rw [h.kind]; simp
theorem OpW.err {r : Rec} (h : OpW r) : r.err = 0 := err_fits h.isEnd h.kind (by have := h.key; have := h.value; omega)
theorem OpW.len {r : Rec} (h : OpW r) : r.bytes.length ≤ 1000 := by
  have h1 := h.key
  have h2 := h.value
  have h3 := h.isEnd
  have h4 := h.kind
  obtain ⟨kind, del, key, value, n⟩ := r
  simp only at h1 h2 h4
  subst h4
  rw [bytes_length, body_change h3]
  simp only [List.length_append, fourB_length]
  cases del <;> simp <;> omega
theorem OpW.norm {r : Rec} (h : OpW r) : r.norm = ⟨1, r.del, r.key, if r.del then [] else r.value, 0⟩ := by unfold Rec.norm; rw [h.isEnd]; rfl
theorem OpW.same {r : Rec} (h : OpW r) : sameOp r.norm r = true := by
  rw [h.norm]
  unfold sameOp
  cases r.del <;> simp
def WideL (l : List Rec) : Prop := l.length ≤ 2000 ∧ ∀ r ∈ l, OpW r
theorem opsB_bdW {l : List Rec} (h : ∀ r ∈ l, OpW r) : (opsB l).length ≤ 1000 * l.length := by
  induction l with
  | nil => exact Nat.zero_le _
  | cons r l ih =>
    rw [opsB_cons, List.length_append, List.length_cons]
    have h1 := (h r (by simp)).len
    have h2 := ih fun y hy => h y (by simp [hy])
    omega
theorem batchB_bdW {l : List Rec} (h : WideL l) : (batchB l).length ≤ 2000013 := by
  unfold batchB
  rw [List.length_append, endR_len (by have := h.1; omega)]
  have := opsB_bdW h.2
  have := h.1
  omega
theorem normL_sameW {l : List Rec} (h : ∀ r ∈ l, OpW r) : SameL (normL l) l := by
  refine ⟨by simp [normL], fun k x y h1 h2 => ?_⟩
  unfold normL at h1
  rw [List.getElem?_map, h2] at h1
  injection h1 with h1
  subst h1
  exact (h y (List.mem_of_getElem? h2)).same

theorem bat_opsW {b : List UInt8} (wh : Nat) (out : List (List Rec)) : ∀ (l : List Rec) (at_ : Nat) (acc : List Rec) (rest : List UInt8), (∀ r ∈ l, OpW r) → at_ ≤ b.length → b.drop at_ = opsB l ++ rest →
    bat b at_ wh acc out = bat b (at_ + (opsB l).length) wh (acc ++ normL l) out ∧ at_ + (opsB l).length ≤ b.length ∧ b.drop (at_ + (opsB l).length) = rest := by
  intro l
  induction l with
  | nil => intro at_ acc rest _ hat h; simp [opsB, normL] at h ⊢; exact ⟨hat, h⟩
  | cons r l ih =>
    intro at_ acc rest hok hat h
    rw [opsB_cons, List.append_assoc] at h
    have hr := hok r (by simp)
    have hn : nextB (b.drop at_) = (r.norm, r.bytes.length, 0) := by rw [h]; exact next_pack hr.err _
    have hlen : at_ + r.bytes.length ≤ b.length := by
      have := congrArg List.length h
      rw [List.length_drop, List.length_append] at this
      omega
    have hd : b.drop (at_ + r.bytes.length) = opsB l ++ rest := by rw [← List.drop_drop, h, List.drop_left]
    obtain ⟨h1, h2, h3⟩ := ih (at_ + r.bytes.length) (acc ++ [r.norm]) rest (fun y hy => hok y (by simp [hy])) hlen hd
    rw [bat_op hat hn (by rw [hr.norm]), h1, opsB_cons, List.length_append, ← Nat.add_assoc]
    refine ⟨by simp [normL], h2, h3⟩
theorem bat_batchW {b : List UInt8} (wh : Nat) (out : List (List Rec)) (l : List Rec) (at_ : Nat) (rest : List UInt8) (hl : WideL l) (hat : at_ ≤ b.length) (h : b.drop at_ = batchB l ++ rest) :
    bat b at_ wh [] out = bat b (at_ + (batchB l).length) (at_ + (batchB l).length) [] (out ++ [normL l]) ∧ at_ + (batchB l).length ≤ b.length ∧ b.drop (at_ + (batchB l).length) = rest := by
  unfold batchB at h
  rw [List.append_assoc] at h
  have h60 := hl.1
  obtain ⟨h1, h2, h3⟩ := bat_opsW wh out l at_ [] _ hl.2 hat h
  have hn : nextB (b.drop (at_ + (opsB l).length)) = (endR l.length, (endR l.length).bytes.length, 0) := by
    rw [h3, next_pack (endR_err (by omega)) _, endR_norm (by omega)]
  have hlen : at_ + (opsB l).length + (endR l.length).bytes.length ≤ b.length := by
    have := congrArg List.length h3
    rw [List.length_drop, List.length_append] at this
    omega
  rw [h1, List.nil_append, bat_end h2 hn (by decide : (2 : Int) ≠ 1) (by simp [normL, endR])]
  unfold batchB
  rw [List.length_append, ← Nat.add_assoc]
  exact ⟨rfl, hlen, by rw [← List.drop_drop, h3, List.drop_left]⟩
theorem bat_allW {b : List UInt8} : ∀ (LL : List (List Rec)) (at_ : Nat) (out : List (List Rec)) (rest : List UInt8), (∀ l ∈ LL, WideL l) → at_ ≤ b.length → b.drop at_ = allBB LL ++ rest →
    bat b at_ at_ [] out = bat b (at_ + (allBB LL).length) (at_ + (allBB LL).length) [] (out ++ LL.map normL) ∧ at_ + (allBB LL).length ≤ b.length ∧ b.drop (at_ + (allBB LL).length) = rest := by
  intro LL
  induction LL with
  | nil => intro at_ out rest _ hat h; simp [allBB] at h ⊢; exact ⟨hat, h⟩
  | cons l LL ih =>
    intro at_ out rest hs hat h
    have e : allBB (l :: LL) = batchB l ++ allBB LL := rfl
    rw [e, List.append_assoc] at h
    obtain ⟨h1, h2, h3⟩ := bat_batchW at_ out l at_ _ (hs l (by simp)) hat h
    obtain ⟨h4, h5, h6⟩ := ih (at_ + (batchB l).length) (out ++ [normL l]) rest (fun y hy => hs y (by simp [hy])) h2 h3
    rw [h1, h4, e, List.length_append, ← Nat.add_assoc]
    exact ⟨by simp, h5, h6⟩
/-- a batch that is torn is none -/
theorem bat_torn_opsW {b : List UInt8} (wh : Nat) (out : List (List Rec)) (n : Nat) (hn : n ≤ 2147483647) : ∀ (l : List Rec) (at_ : Nat) (acc : List Rec) (c : Nat), (∀ r ∈ l, OpW r) → at_ ≤ b.length → c < (opsB l ++ (endR n).bytes).length →
    b.drop at_ = (opsB l ++ (endR n).bytes).take c → bat b at_ wh acc out = (out, wh) := by
  intro l
  induction l with
  | nil =>
    intro at_ acc c _ hat hc h
    have e : opsB [] ++ (endR n).bytes = (endR n).bytes := rfl
    rw [e] at hc h
    refine bat_err (x := .zero) (k := 0) (E := 6) ?_ (by decide)
    rw [h]
    exact next_short (endR_err hn) hc
  | cons r l ih =>
    intro at_ acc c hok hat hc h
    have hr := hok r (by simp)
    rw [opsB_cons, List.append_assoc] at hc h
    by_cases hlt : c < r.bytes.length
    · refine bat_err (x := .zero) (k := 0) (E := 6) ?_ (by decide)
      rw [h, List.take_append_of_le_length (by omega)]
      exact next_short hr.err hlt
    · have h' : b.drop at_ = r.bytes ++ (opsB l ++ (endR n).bytes).take (c - r.bytes.length) := by
        rw [h, List.take_append, List.take_of_length_le (by omega)]
      have hnx : nextB (b.drop at_) = (r.norm, r.bytes.length, 0) := by rw [h']; exact next_pack hr.err _
      have hlen : at_ + r.bytes.length ≤ b.length := by
        have := congrArg List.length h'
        rw [List.length_drop, List.length_append] at this
        omega
      rw [bat_op hat hnx (by rw [hr.norm])]
      refine ih (at_ + r.bytes.length) _ (c - r.bytes.length) (fun y hy => hok y (by simp [hy])) hlen (by rw [List.length_append] at hc; omega) ?_
      rw [← List.drop_drop, h', List.drop_left]
theorem read_wholeW {LL : List (List Rec)} (hs : ∀ l ∈ LL, WideL l) : batches (allBB LL) = (LL.map normL, (allBB LL).length) := by
  obtain ⟨g1, g2, g3⟩ := bat_allW (b := allBB LL) LL 0 [] [] hs (Nat.zero_le _) (by simp)
  show bat _ 0 0 [] [] = _
  rw [g1, bat_none g3]
  simp
theorem read_tornW {LL : List (List Rec)} {t : List Rec} {c : Nat} (hs : ∀ l ∈ LL, WideL l) (ht : WideL t) (hc : c < (batchB t).length) : batches (allBB LL ++ (batchB t).take c) = (LL.map normL, (allBB LL).length) := by
  obtain ⟨g1, g2, g3⟩ := bat_allW (b := allBB LL ++ (batchB t).take c) LL 0 [] _ hs (Nat.zero_le _) rfl
  show bat _ 0 0 [] [] = _
  rw [g1, bat_torn_opsW _ _ t.length (by have := ht.1; omega) t _ [] c ht.2 g2 hc g3]
  simp
theorem batchB_posW (l : List Rec) (h : WideL l) : 0 < (batchB l).length := by
  unfold batchB
  rw [List.length_append, endR_len (by have := h.1; omega)]
  omega
theorem done_normW {l : List Rec} (h : WideL l) (S : PL (List UInt8)) : doneP S (normL l) = doneP S l := by
  have hk : ∀ o ∈ l, o.kind = 1 := fun o ho => (h.2 o ho).kind
  clear h
  induction l generalizing S with
  | nil => rfl
  | cons o l ih =>
    obtain ⟨h1, h2, _⟩ := norm_left (hk o (by simp))
    show doneP (setP S o.norm.key o.norm.left) (normL l) = doneP (setP S o.key o.left) l
    rw [h1, h2]
    exact ih _ fun x hx => hk x (by simp [hx])
theorem live_normW {LL : List (List Rec)} (h : ∀ l ∈ LL, WideL l) : liveP (LL.map normL) = liveP LL := by
  unfold liveP
  generalize ([] : PL (List UInt8)) = S
  induction LL generalizing S with
  | nil => rfl
  | cons l LL ih =>
    show (LL.map normL).foldl doneP (doneP S (normL l)) = LL.foldl doneP (doneP S l)
    rw [done_normW (h l (by simp))]
    exact ih (fun x hx => h x (by simp [hx])) _
theorem OpW.of {r : Rec} (h : OpOk r) : OpW r := ⟨h.kind, h.n, h.key, by have := h.value; omega⟩
theorem WideL.of {l : List Rec} (h : SmallL l) : WideL l := ⟨by have := h.1; omega, fun r hr => OpW.of (h.2 r hr)⟩
theorem readB_six {b : List UInt8} {r : Rec} (h : readB b = some r) (hk : r.kind = 1) : 6 ≤ b.length := by
  unfold readB at h
  split at h
  · split at h
    · cases h
    · injection h with h
      subst h
      exact absurd (show (2 : Int) = 1 from hk) (by decide)
  · split at h
    · cases h
    · rename_i h1
      omega
/-- a change takes fourteen bytes and more -/
theorem next_op {b : List UInt8} (h : (nextB b).2.2 = 0) (hk : (nextB b).1.kind = 1) : 14 ≤ (nextB b).2.1 := by
  unfold nextB at h hk ⊢
  split at h
  · exact absurd h (by decide)
  · split at h
    · exact absurd h (by decide)
    · split at h
      · exact absurd h (by decide)
      · split at h
        · exact absurd h (by decide)
        · rename_i h1 h2 h3 h4
          rw [if_neg h1, if_neg h2, if_neg h3, if_neg h4] at hk ⊢
          cases hr : readB ((b.take (8 + numB b)).drop 8) with
          | none => rw [hr] at h; simp [readT] at h
          | some r =>
            rw [hr] at hk
            have h6 := readB_six hr hk
            rw [List.length_drop, List.length_take] at h6
            show 14 ≤ 8 + numB b
            omega
end Go.Mun
