/- What the bytes of batches, one behind the other, are read as. -/
import Derived.Test.YtmaaejicfpfcdaaRpSame
namespace Go.Mun
open Go Go.RowKit Go.Proofs

/-- the reading without a bound on its rounds -/
def bat (b : List UInt8) (at_ wh : Nat) (l : List Rec) (out : List (List Rec)) : List (List Rec) × Nat := batB b (b.length + 1) at_ wh l out
theorem batB_fuel (b : List UInt8) : ∀ (F F' at_ wh : Nat) (l : List Rec) (out : List (List Rec)), b.length < F + at_ → b.length < F' + at_ → at_ ≤ b.length → batB b F at_ wh l out = batB b F' at_ wh l out := by
  intro F
  induction F with
  | zero => intro F' at_ wh l out h _ h2; omega
  | succ F ih =>
    intro F' at_ wh l out h1 h2 h3
    cases F' with
    | zero => omega
    | succ F' =>
      unfold batB
      by_cases hE : (nextB (b.drop at_)).2.2 = 0
      · have hok := next_ok hE
        rw [List.length_drop] at hok
        have hE' : ¬ (nextB (b.drop at_)).2.2 ≠ 0 := by simpa using hE
        rw [if_neg hE', if_neg hE']
        by_cases hk : (nextB (b.drop at_)).1.kind = 1
        · rw [if_pos hk, if_pos hk]
          exact ih _ _ _ _ _ (by omega) (by omega) (by omega)
        · rw [if_neg hk, if_neg hk]
          by_cases hn : (nextB (b.drop at_)).1.n = (l.length : Int)
          · have hn' : ¬ (nextB (b.drop at_)).1.n ≠ (l.length : Int) := by simpa using hn
            rw [if_neg hn', if_neg hn']
            exact ih _ _ _ _ _ (by omega) (by omega) (by omega)
          · rw [if_pos hn, if_pos hn]
      · rw [if_pos hE, if_pos hE]
theorem bat_err {b : List UInt8} {at_ wh : Nat} {l : List Rec} {out : List (List Rec)} {x : Rec} {k : Nat} {E : Int} (h : nextB (b.drop at_) = (x, k, E)) (hE : E ≠ 0) : bat b at_ wh l out = (out, wh) := by
  unfold bat batB
  rw [h, if_pos hE]
theorem bat_op {b : List UInt8} {at_ wh : Nat} {l : List Rec} {out : List (List Rec)} {x : Rec} {k : Nat} (hat : at_ ≤ b.length) (h : nextB (b.drop at_) = (x, k, 0)) (hk : x.kind = 1) : bat b at_ wh l out = bat b (at_ + k) wh (l ++ [x]) out := by
  have hok := next_ok (b := b.drop at_) (by rw [h])
  rw [h, List.length_drop] at hok
  simp only at hok
  unfold bat
  conv => lhs; unfold batB
  rw [h, if_neg (by simp), if_pos hk]
  show batB b b.length (at_ + k) wh (l ++ [x]) out = _
  exact batB_fuel b _ _ _ _ _ _ (by omega) (by omega) (by omega)
theorem bat_end {b : List UInt8} {at_ wh : Nat} {l : List Rec} {out : List (List Rec)} {x : Rec} {k : Nat} (hat : at_ ≤ b.length) (h : nextB (b.drop at_) = (x, k, 0)) (hk : x.kind ≠ 1) (hn : x.n = (l.length : Int)) : bat b at_ wh l out = bat b (at_ + k) (at_ + k) [] (out ++ [l]) := by
  have hok := next_ok (b := b.drop at_) (by rw [h])
  rw [h, List.length_drop] at hok
  simp only at hok
  unfold bat
  conv => lhs; unfold batB
  rw [h, if_neg (by simp), if_neg hk, if_neg (by simpa using hn)]
  show batB b b.length (at_ + k) (at_ + k) [] (out ++ [l]) = _
  exact batB_fuel b _ _ _ _ _ _ (by omega) (by omega) (by omega)
theorem bat_odd {b : List UInt8} {at_ wh : Nat} {l : List Rec} {out : List (List Rec)} {x : Rec} {k : Nat} (h : nextB (b.drop at_) = (x, k, 0)) (hk : x.kind ≠ 1) (hn : x.n ≠ (l.length : Int)) : bat b at_ wh l out = (out, wh) := by
  unfold bat batB
  rw [h, if_neg (by simp), if_neg hk, if_pos hn]

/-- changes that may be packed -/
structure OpOk (r : Rec) : Prop where
  kind : r.kind = 1
  n : r.n = 0
  key : r.key.length ≤ 300
  value : r.value.length ≤ 300
theorem OpOk.isEnd {r : Rec} (h : OpOk r) : r.isEnd = false := by unfold Rec.isEnd; rw [h.kind]; simp
theorem OpOk.err {r : Rec} (h : OpOk r) : r.err = 0 := err_fits h.isEnd h.kind (by have := h.key; have := h.value; omega)
theorem OpOk.len {r : Rec} (h : OpOk r) : r.bytes.length ≤ 700 := by
  have h1 := h.key
  have h2 := h.value
  have h3 := h.isEnd
  have h4 := h.kind
  obtain ⟨kind, del, key, value, n⟩ := r
  simp only at h1 h2 h4
  subst h4
  rw [bytes_length, body_change h3]
  simp only [List.length_append, fourB_length]
  cases del <;> simp <;> omega
theorem OpOk.norm {r : Rec} (h : OpOk r) : r.norm = ⟨1, r.del, r.key, if r.del then [] else r.value, 0⟩ := by unfold Rec.norm; rw [h.isEnd]; rfl
theorem OpOk.same {r : Rec} (h : OpOk r) : sameOp r.norm r = true := by
  rw [h.norm]
  unfold sameOp
  cases r.del <;> simp
def SmallL (l : List Rec) : Prop := l.length ≤ 60 ∧ ∀ r ∈ l, OpOk r
def opsB (l : List Rec) : List UInt8 := l.flatMap fun r => r.bytes
def endR (n : Nat) : Rec := ⟨2, false, [], [], n⟩
def batchB (l : List Rec) : List UInt8 := opsB l ++ (endR l.length).bytes
def normL (l : List Rec) : List Rec := l.map Rec.norm
theorem opsB_append (l m : List Rec) : opsB (l ++ m) = opsB l ++ opsB m := by simp [opsB]
theorem opsB_cons (r : Rec) (l : List Rec) : opsB (r :: l) = r.bytes ++ opsB l := rfl
theorem opsB_bd {l : List Rec} (h : ∀ r ∈ l, OpOk r) : (opsB l).length ≤ 700 * l.length := by
  induction l with
  | nil => exact Nat.zero_le _
  | cons r l ih =>
    rw [opsB_cons, List.length_append, List.length_cons]
    have h1 := (h r (by simp)).len
    have h2 := ih fun y hy => h y (by simp [hy])
    omega
theorem endR_err {n : Nat} (h : n ≤ 2147483647) : (endR n).err = 0 := err_end _ _ _ _ (by omega) (by omega)
theorem endR_norm {n : Nat} (h : n ≤ 2147483647) : (endR n).norm = endR n := by
  have he : (endR n).isEnd = true := by unfold Rec.isEnd endR; simp; omega
  unfold Rec.norm
  rw [he, if_pos rfl]
  rfl
theorem endR_len {n : Nat} (h : n ≤ 2147483647) : (endR n).bytes.length = 13 := by
  rw [bytes_length, show (endR n).body = _ from body_end _ _ _ _ (by omega) (by omega)]
  simp [fourB_length]
theorem batchB_bd {l : List Rec} (h : SmallL l) : (batchB l).length ≤ 42013 := by
  unfold batchB
  rw [List.length_append, endR_len (by have := h.1; omega)]
  have := opsB_bd h.2
  have := h.1
  omega
theorem normL_same {l : List Rec} (h : ∀ r ∈ l, OpOk r) : SameL (normL l) l := by
  refine ⟨by simp [normL], fun k x y h1 h2 => ?_⟩
  unfold normL at h1
  rw [List.getElem?_map, h2] at h1
  injection h1 with h1
  subst h1
  exact (h y (List.mem_of_getElem? h2)).same

theorem bat_ops {b : List UInt8} (wh : Nat) (out : List (List Rec)) : ∀ (l : List Rec) (at_ : Nat) (acc : List Rec) (rest : List UInt8), (∀ r ∈ l, OpOk r) → at_ ≤ b.length → b.drop at_ = opsB l ++ rest →
    bat b at_ wh acc out = bat b (at_ + (opsB l).length) wh (acc ++ normL l) out ∧ at_ + (opsB l).length ≤ b.length ∧ b.drop (at_ + (opsB l).length) = rest := by
  intro l
  induction l with
  | nil => intro at_ acc rest _ hat h; simp [opsB, normL] at h ⊢; exact ⟨hat, h⟩
  | cons r l ih =>
    intro at_ acc rest hok hat h
    rw [opsB_cons, List.append_assoc] at h
    have hr := hok r (by simp)
    have hn : nextB (b.drop at_) = (r.norm, r.bytes.length, 0) := by rw [h]; exact next_pack hr.err _
    have hlen : at_ + r.bytes.length ≤ b.length := by
      have := congrArg List.length h
      rw [List.length_drop, List.length_append] at this
      omega
    have hd : b.drop (at_ + r.bytes.length) = opsB l ++ rest := by rw [← List.drop_drop, h, List.drop_left]
    obtain ⟨h1, h2, h3⟩ := ih (at_ + r.bytes.length) (acc ++ [r.norm]) rest (fun y hy => hok y (by simp [hy])) hlen hd
    rw [bat_op hat hn (by rw [hr.norm]), h1, opsB_cons, List.length_append, ← Nat.add_assoc]
    refine ⟨by simp [normL], h2, h3⟩
theorem bat_batch {b : List UInt8} (wh : Nat) (out : List (List Rec)) (l : List Rec) (at_ : Nat) (rest : List UInt8) (hl : SmallL l) (hat : at_ ≤ b.length) (h : b.drop at_ = batchB l ++ rest) :
    bat b at_ wh [] out = bat b (at_ + (batchB l).length) (at_ + (batchB l).length) [] (out ++ [normL l]) ∧ at_ + (batchB l).length ≤ b.length ∧ b.drop (at_ + (batchB l).length) = rest := by
  unfold batchB at h
  rw [List.append_assoc] at h
  have h60 := hl.1
  obtain ⟨h1, h2, h3⟩ := bat_ops wh out l at_ [] _ hl.2 hat h
  have hn : nextB (b.drop (at_ + (opsB l).length)) = (endR l.length, (endR l.length).bytes.length, 0) := by
    rw [h3, next_pack (endR_err (by omega)) _, endR_norm (by omega)]
  have hlen : at_ + (opsB l).length + (endR l.length).bytes.length ≤ b.length := by
    have := congrArg List.length h3
    rw [List.length_drop, List.length_append] at this
    omega
  rw [h1, List.nil_append, bat_end h2 hn (by decide : (2 : Int) ≠ 1) (by simp [normL, endR])]
  unfold batchB
  rw [List.length_append, ← Nat.add_assoc]
  exact ⟨rfl, hlen, by rw [← List.drop_drop, h3, List.drop_left]⟩
def allBB (LL : List (List Rec)) : List UInt8 := LL.flatMap batchB
theorem allBB_append (L M : List (List Rec)) : allBB (L ++ M) = allBB L ++ allBB M := by simp [allBB]
theorem bat_all {b : List UInt8} : ∀ (LL : List (List Rec)) (at_ : Nat) (out : List (List Rec)) (rest : List UInt8), (∀ l ∈ LL, SmallL l) → at_ ≤ b.length → b.drop at_ = allBB LL ++ rest →
    bat b at_ at_ [] out = bat b (at_ + (allBB LL).length) (at_ + (allBB LL).length) [] (out ++ LL.map normL) ∧ at_ + (allBB LL).length ≤ b.length ∧ b.drop (at_ + (allBB LL).length) = rest := by
  intro LL
  induction LL with
  | nil => intro at_ out rest _ hat h; simp [allBB] at h ⊢; exact ⟨hat, h⟩
  | cons l LL ih =>
    intro at_ out rest hs hat h
    have e : allBB (l :: LL) = batchB l ++ allBB LL := rfl
    rw [e, List.append_assoc] at h
    obtain ⟨h1, h2, h3⟩ := bat_batch at_ out l at_ _ (hs l (by simp)) hat h
    obtain ⟨h4, h5, h6⟩ := ih (at_ + (batchB l).length) (out ++ [normL l]) rest (fun y hy => hs y (by simp [hy])) h2 h3
    rw [h1, h4, e, List.length_append, ← Nat.add_assoc]
    exact ⟨by simp, h5, h6⟩
/-- a batch that is torn is none -/
theorem bat_torn_ops {b : List UInt8} (wh : Nat) (out : List (List Rec)) (n : Nat) (hn : n ≤ 2147483647) : ∀ (l : List Rec) (at_ : Nat) (acc : List Rec) (c : Nat), (∀ r ∈ l, OpOk r) → at_ ≤ b.length → c < (opsB l ++ (endR n).bytes).length →
    b.drop at_ = (opsB l ++ (endR n).bytes).take c → bat b at_ wh acc out = (out, wh) := by
  intro l
  induction l with
  | nil =>
    intro at_ acc c _ hat hc h
    have e : opsB [] ++ (endR n).bytes = (endR n).bytes := rfl
    rw [e] at hc h
    refine bat_err (x := .zero) (k := 0) (E := 6) ?_ (by decide)
    rw [h]
    exact next_short (endR_err hn) hc
  | cons r l ih =>
    intro at_ acc c hok hat hc h
    have hr := hok r (by simp)
    rw [opsB_cons, List.append_assoc] at hc h
    by_cases hlt : c < r.bytes.length
    · refine bat_err (x := .zero) (k := 0) (E := 6) ?_ (by decide)
      rw [h, List.take_append_of_le_length (by omega)]
      exact next_short hr.err hlt
    · have h' : b.drop at_ = r.bytes ++ (opsB l ++ (endR n).bytes).take (c - r.bytes.length) := by
        rw [h, List.take_append, List.take_of_length_le (by omega)]
      have hnx : nextB (b.drop at_) = (r.norm, r.bytes.length, 0) := by rw [h']; exact next_pack hr.err _
      have hlen : at_ + r.bytes.length ≤ b.length := by
        have := congrArg List.length h'
        rw [List.length_drop, List.length_append] at this
        omega
      rw [bat_op hat hnx (by rw [hr.norm])]
      refine ih (at_ + r.bytes.length) _ (c - r.bytes.length) (fun y hy => hok y (by simp [hy])) hlen (by rw [List.length_append] at hc; omega) ?_
      rw [← List.drop_drop, h', List.drop_left]
theorem bat_none {b : List UInt8} {at_ wh : Nat} {l : List Rec} {out : List (List Rec)} (h : b.drop at_ = []) : bat b at_ wh l out = (out, wh) := bat_err (x := .zero) (k := 0) (E := 6) (by rw [h]; exact next_nil) (by decide)
end Go.Mun
