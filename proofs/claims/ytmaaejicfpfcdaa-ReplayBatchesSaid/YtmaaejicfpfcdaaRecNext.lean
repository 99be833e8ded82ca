/- The plain law of records that are read: what bytes begin with, that packed records are read as they were, that a turned byte is seen. -/
import Derived.Test.YtmaaejicfpfcdaaRecPlain
import Derived.Test.YtmaaejicfpfcdaaCrcBits
namespace Go.Mun
open Go Go.RowKit

/-- the number of the first four bytes -/
def numB (l : List UInt8) : Nat := (l.getD 0 0).toNat * 16777216 + (l.getD 1 0).toNat * 65536 + (l.getD 2 0).toNat * 256 + (l.getD 3 0).toNat
theorem numB_lt (l : List UInt8) : numB l < 4294967296 := by
  unfold numB
  have h0 := (l.getD 0 0).toNat_lt
  have h1 := (l.getD 1 0).toNat_lt
  have h2 := (l.getD 2 0).toNat_lt
  have h3 := (l.getD 3 0).toNat_lt
  omega
theorem ofNat_toNat (n : Nat) : (UInt8.ofNat n).toNat = n % 256 := by simp
theorem numB_four {n : Nat} (h : n < 4294967296) (m : List UInt8) : numB (fourB n ++ m) = n := by
  unfold numB fourB
  simp only [List.cons_append, List.nil_append, List.getD_cons_zero, List.getD_cons_succ, ofNat_toNat]
  omega
theorem numB_four' {n : Nat} (h : n < 4294967296) : numB (fourB n) = n := by
  have := numB_four h []
  simpa using this
theorem four_cons (a b c d : UInt8) (m : List UInt8) : fourB (numB (a :: b :: c :: d :: m)) = [a, b, c, d] := by
  have ha := a.toNat_lt
  have hb := b.toNat_lt
  have hc := c.toNat_lt
  have hd := d.toNat_lt
  unfold numB fourB
  simp only [List.getD_cons_zero, List.getD_cons_succ]
  have e : ∀ (n : Nat) (x : UInt8), n % 256 = x.toNat → UInt8.ofNat n = x := fun n x h => UInt8.toNat_inj.1 (by rw [ofNat_toNat]; exact h)
  rw [e _ a (by omega), e _ b (by omega), e _ c (by omega), e _ d (by omega)]
theorem four_numB {l : List UInt8} (h : 4 ≤ l.length) : fourB (numB l) = l.take 4 := by
  match l, h with
  | a :: b :: c :: d :: m, _ => rw [four_cons]; rfl
theorem numB_take {l : List UInt8} {k : Nat} (h : 4 ≤ k) : numB (l.take k) = numB l := by
  unfold numB
  simp only [List.getD_eq_getElem?_getD, List.getElem?_take]
  rw [if_pos (by omega), if_pos (by omega), if_pos (by omega), if_pos (by omega)]

def Rec.zero : Rec := ⟨0, false, [], [], 0⟩
/-- the record of a body -/
def readB (b : List UInt8) : Option Rec :=
  if b.getD 0 0 = 2 then
    if b.length ≠ 5 ∨ 2147483647 < numB (b.drop 1) then none else some ⟨2, false, [], [], (numB (b.drop 1) : Nat)⟩
  else if b.getD 0 0 ≠ 1 ∨ b.length < 6 ∨ 1 < (b.getD 1 0).toNat then none
  else if 65536 < numB (b.drop 2) ∨ b.length < numB (b.drop 2) + 6 then none
  else if (b.getD 1 0 = 1 ∧ 6 + numB (b.drop 2) < b.length) ∨ 16777216 + 6 + numB (b.drop 2) < b.length then none
  else some ⟨1, b.getD 1 0 = 1, (b.take (6 + numB (b.drop 2))).drop 6, b.drop (6 + numB (b.drop 2)), 0⟩
/-- what is told of a body that has been read -/
def readT (o : Option Rec) (k : Nat) : Rec × Nat × Int :=
  match o with
  | none => (.zero, 0, 4)
  | some r => (r, 8 + k, 0)
/-- what bytes begin with: the record, how many bytes it has, why it is none (0: it is one) -/
def nextB (b : List UInt8) : Rec × Nat × Int :=
  if b.length < 4 then (.zero, 0, 6)
  else if numB b = 0 ∨ 16842758 < numB b then (.zero, 0, 4)
  else if b.length < 8 + numB b then (.zero, 0, 6)
  else if (numB (b.drop 4) : Int) ≠ crcSum ((b.take (8 + numB b)).drop 8) then (.zero, 0, 5)
  else readT (readB ((b.take (8 + numB b)).drop 8)) (numB b)

/-- the same record, as the document compares them -/
def Rec.sameB (a b : Rec) : Bool :=
  decide (a.kind = b.kind) && ((decide (a.kind = 2) && decide (a.n = b.n)) || (decide (a.kind ≠ 2) && (a.del == b.del && decide (a.key = b.key) && (a.del || decide (a.value = b.value)))))
/-- a record as it is read -/
def Rec.norm (r : Rec) : Rec := if r.isEnd then ⟨2, false, [], [], r.n⟩ else ⟨1, r.del, r.key, if r.del then [] else r.value, 0⟩

theorem crcSum_toNat (l : List UInt8) : ((crcSum l).toNat : Int) = crcSum l ∧ (crcSum l).toNat < 4294967296 := by
  have := crcSum_bd l
  omega

theorem frame_parts (body more : List UInt8) (h : body.length < 4294967296) :
    numB (frameB body ++ more) = body.length ∧ (frameB body ++ more).length = 8 + body.length + more.length ∧ (numB ((frameB body ++ more).drop 4) : Int) = crcSum body ∧
      ((frameB body ++ more).take (8 + body.length)).drop 8 = body := by
  obtain ⟨h1, h2⟩ := crcSum_toNat body
  have e : frameB body ++ more = fourB body.length ++ (fourB (crcSum body).toNat ++ (body ++ more)) := by unfold frameB; simp
  refine ⟨?_, ?_, ?_, ?_⟩
  · rw [e]; exact numB_four h _
  · rw [e]; simp only [List.length_append, fourB_length]; omega
  · rw [e, List.drop_left' (fourB_length _), numB_four h2, h1]
  · have e' : frameB body ++ more = (fourB body.length ++ fourB (crcSum body).toNat ++ body) ++ more := rfl
    rw [e', List.take_left' (by simp only [List.length_append, fourB_length]), List.drop_left' (by simp only [List.length_append, fourB_length])]

theorem readB_end {n : Nat} (h : n ≤ 2147483647) : readB (2 :: fourB n) = some ⟨2, false, [], [], (n : Int)⟩ := by
  unfold readB
  rw [if_pos (by rfl), if_neg (by
    show ¬ ((2 :: fourB n).length ≠ 5 ∨ 2147483647 < numB (fourB n))
    rw [numB_four' (by omega)]
    simp [fourB_length]; omega)]
  show some (Rec.mk 2 false [] [] ((numB (fourB n) : Nat) : Int)) = _
  rw [numB_four' (by omega)]
theorem readB_change {key value : List UInt8} {del : Bool} (hk : key.length ≤ 65536) (hv : value.length ≤ 16777216) (hd : del = true → value = []) :
    readB ([1, if del then 1 else 0] ++ fourB key.length ++ key ++ value) = some ⟨1, del, key, value, 0⟩ := by
  have hlen : ([1, if del then 1 else 0] ++ fourB key.length ++ key ++ value : List UInt8).length = 6 + key.length + value.length := by
    simp only [List.length_append, fourB_length]; simp
  have hdrop : ([1, if del then 1 else 0] ++ fourB key.length ++ key ++ value : List UInt8).drop 2 = fourB key.length ++ (key ++ value) := by simp
  have hn : numB (([1, if del then 1 else 0] ++ fourB key.length ++ key ++ value : List UInt8).drop 2) = key.length := by rw [hdrop]; exact numB_four (by omega) _
  have h0 : ([1, if del then 1 else 0] ++ fourB key.length ++ key ++ value : List UInt8).getD 0 0 = 1 := rfl
  have h1 : ([1, if del then 1 else 0] ++ fourB key.length ++ key ++ value : List UInt8).getD 1 0 = if del then 1 else 0 := rfl
  have ht : (([1, if del then 1 else 0] ++ fourB key.length ++ key ++ value : List UInt8).take (6 + key.length)).drop 6 = key := by
    rw [List.take_left' (by simp only [List.length_append, fourB_length]; simp), List.drop_left' (by simp only [List.length_append, fourB_length]; simp)]
  have hr : ([1, if del then 1 else 0] ++ fourB key.length ++ key ++ value : List UInt8).drop (6 + key.length) = value := by
    rw [List.drop_left' (by simp only [List.length_append, fourB_length]; simp)]
  unfold readB
  rw [hn, hlen, h0, h1, ht, hr]
  rw [if_neg (by decide), if_neg (by cases del <;> simp <;> omega), if_neg (by omega), if_neg ?_]
  · cases del <;> simp
  · rintro (⟨e, h⟩ | h)
    · cases del
      · exact absurd e (by decide)
      · rw [hd rfl] at h; simp at h
    · omega

theorem readB_body {r : Rec} (h : r.err = 0) : readB r.body = some r.norm := by
  obtain ⟨kind, del, key, value, n⟩ := r
  cases he : Rec.isEnd ⟨kind, del, key, value, n⟩ with
  | true =>
    have hb : Rec.body ⟨kind, del, key, value, n⟩ = 2 :: fourB n.toNat := by unfold Rec.body; rw [if_pos he]
    have hn : Rec.norm ⟨kind, del, key, value, n⟩ = ⟨2, false, [], [], n⟩ := by unfold Rec.norm; rw [if_pos he]
    have hi := of_decide_eq_true he
    rw [hb, hn, readB_end (by have := hi.2; simp only at this; omega)]
    have : ((n.toNat : Nat) : Int) = n := by have := hi.2.1; simp only at this; omega
    rw [this]
  | false =>
    have hn : Rec.norm ⟨kind, del, key, value, n⟩ = ⟨1, del, key, if del then [] else value, 0⟩ := by unfold Rec.norm; rw [he, if_neg (by simp)]
    rw [err_not he] at h
    simp only at h
    have hk : kind = 1 := by
      rcases Classical.em (kind = 1) with e | e
      · exact e
      · rw [if_pos e] at h; cases h
    subst hk
    rw [if_neg (by simp)] at h
    have hl : ¬ (65536 < key.length ∨ (del = false ∧ 16777216 < value.length)) := fun e => by rw [if_pos e] at h; cases h
    rw [body_change he, hn]
    refine readB_change (by omega) ?_ ?_
    · cases del
      · simp at hl ⊢; omega
      · simp
    · intro e; rw [e]; rfl

theorem body_pos (r : Rec) : 0 < r.body.length := by
  unfold Rec.body
  split <;> simp <;> omega

/-- A packed record, with anything behind it, is read as it. -/
theorem next_pack {r : Rec} (h : r.err = 0) (more : List UInt8) : nextB (r.bytes ++ more) = (r.norm, r.bytes.length, 0) := by
  have hbd := body_bd h
  have hpos := body_pos r
  obtain ⟨h1, h2, h3, h4⟩ := frame_parts r.body more (by omega)
  have hb : r.bytes ++ more = frameB r.body ++ more := rfl
  unfold nextB
  rw [hb, h1, h2, h3, h4, if_neg (by omega), if_neg (by omega), if_neg (by omega), if_neg (by simp), readB_body h]
  simp only [bytes_length, readT]

theorem same_norm {r : Rec} (h : r.err = 0) : r.sameB r.norm = true := by
  obtain ⟨kind, del, key, value, n⟩ := r
  cases he : Rec.isEnd ⟨kind, del, key, value, n⟩ with
  | true =>
    have hi := of_decide_eq_true he
    unfold Rec.norm
    rw [if_pos he]
    unfold Rec.sameB
    simp only at hi ⊢
    rw [hi.1]
    simp
  | false =>
    unfold Rec.norm
    rw [he, if_neg (by simp)]
    rw [err_not he] at h
    simp only at h
    have hk : kind = 1 := by
      rcases Classical.em (kind = 1) with e | e
      · exact e
      · rw [if_pos e] at h; cases h
    subst hk
    unfold Rec.sameB
    cases del <;> simp

/-- A record that is cut short is none. -/
theorem next_short {r : Rec} (h : r.err = 0) {k : Nat} (hk : k < r.bytes.length) : nextB (r.bytes.take k) = (.zero, 0, 6) := by
  have hbd := body_bd h
  have hpos := body_pos r
  obtain ⟨h1, h2, _, _⟩ := frame_parts r.body [] (by omega)
  simp only [List.append_nil, List.length_nil] at h1 h2
  have hb : r.bytes = frameB r.body := rfl
  rw [hb] at hk ⊢
  unfold nextB
  by_cases h4 : k < 4
  · rw [if_pos (by rw [List.length_take]; omega)]
  · rw [numB_take (by omega), h1, if_neg (by rw [List.length_take]; omega), if_neg (by omega), if_pos (by rw [List.length_take]; omega)]

/-! ### a turned byte -/
theorem crcSteps_inj {n : Nat} {a b : UInt32} (h : crcSteps n a = crcSteps n b) : a = b := by
  have := crcSteps_xor n a b
  rw [h, UInt32.xor_self] at this
  have := crcSteps_zero n this
  exact UInt32.xor_eq_zero_iff.1 this
theorem byte_u32_inj {x y : UInt8} (h : x.toUInt32 = y.toUInt32) : x = y := by
  have := congrArg UInt32.toNat h
  rw [UInt8.toNat_toUInt32, UInt8.toNat_toUInt32] at this
  exact UInt8.toNat_inj.1 this
theorem crcByte_inj {c d : UInt32} {x : UInt8} (h : crcByte c x = crcByte d x) : c = d := by
  have := crcSteps_inj h
  have h2 := congrArg (· ^^^ x.toUInt32) this
  simpa [UInt32.xor_assoc] using h2
theorem crcByte_inj' {c : UInt32} {x y : UInt8} (h : crcByte c x = crcByte c y) : x = y := by
  have := crcSteps_inj h
  have h2 := congrArg (c ^^^ ·) this
  simp only [← UInt32.xor_assoc, UInt32.xor_self, UInt32.zero_xor] at h2
  exact byte_u32_inj h2
theorem crcRun_inj (l : List UInt8) : ∀ {c d : UInt32}, crcRun c l = crcRun d l → c = d := by
  induction l with
  | nil => intro c d h; exact h
  | cons x l ih => intro c d h; exact crcByte_inj (ih h)
theorem crcSum_set {l : List UInt8} {i : Nat} (hi : i < l.length) {y : UInt8} (hy : y ≠ l[i]) : crcSum (l.set i y) ≠ crcSum l := by
  intro h
  unfold crcSum at h
  have h1 : crcRun 4294967295 (l.set i y) ^^^ 4294967295 = crcRun 4294967295 l ^^^ 4294967295 := UInt32.toNat_inj.1 (by omega)
  have h2 : crcRun 4294967295 (l.set i y) = crcRun 4294967295 l := by
    have := congrArg (· ^^^ (4294967295 : UInt32)) h1
    simpa [UInt32.xor_assoc] using this
  have e1 : l.set i y = l.take i ++ ([y] ++ l.drop (i + 1)) := by rw [List.set_eq_take_append_cons_drop, if_pos hi]; rfl
  have e2 : l = l.take i ++ ([l[i]] ++ l.drop (i + 1)) := by
    conv => lhs; rw [← List.take_append_drop i l]
    rw [List.drop_eq_getElem_cons hi]; rfl
  rw [e1] at h2
  conv at h2 => rhs; rw [e2]
  rw [crcRun_append, crcRun_append, crcRun_append, crcRun_append] at h2
  exact hy (crcByte_inj' (crcRun_inj _ h2))
theorem xor_ne {x y : UInt8} (h : y ≠ 0) : x ^^^ y ≠ x := by
  intro e
  have := congrArg (x ^^^ ·) e
  simp only [← UInt8.xor_assoc, UInt8.xor_self, UInt8.zero_xor] at this
  exact h this

theorem numB_set_ne {l : List UInt8} {i : Nat} (hi : i < 4) (hl : 4 ≤ l.length) {y : UInt8} (hy : y ≠ l.getD i 0) : numB (l.set i y) ≠ numB l := by
  match l, hl with
  | a :: b :: c :: d :: m, _ =>
    have ha := a.toNat_lt
    have hb := b.toNat_lt
    have hc := c.toNat_lt
    have hd := d.toNat_lt
    have hyl := y.toNat_lt
    have hne : y.toNat ≠ ((a :: b :: c :: d :: m).getD i 0).toNat := fun e => hy (UInt8.toNat_inj.1 e)
    match i, hi with
    | 0, _ => simp only [numB, List.set_cons_zero, List.getD_cons_zero, List.getD_cons_succ] at hne ⊢; omega
    | 1, _ => simp only [numB, List.set_cons_succ, List.set_cons_zero, List.getD_cons_zero, List.getD_cons_succ] at hne ⊢; omega
    | 2, _ => simp only [numB, List.set_cons_succ, List.set_cons_zero, List.getD_cons_zero, List.getD_cons_succ] at hne ⊢; omega
    | 3, _ => simp only [numB, List.set_cons_succ, List.set_cons_zero, List.getD_cons_zero, List.getD_cons_succ] at hne ⊢; omega

/-- A record with another byte, but of its length, is none. -/
theorem next_turned {r : Rec} (h : r.err = 0) {k : Nat} (hk : k < r.bytes.length) (h4 : 4 ≤ k) {y : UInt8} (hy : y ≠ r.bytes[k]) : nextB (r.bytes.set k y) = (.zero, 0, 5) := by
  have hbd := body_bd h
  have hpos := body_pos r
  obtain ⟨h1, h2, h3, h5⟩ := frame_parts r.body [] (by omega)
  simp only [List.append_nil, List.length_nil, Nat.add_zero] at h1 h2 h3 h5
  have hb : r.bytes = frameB r.body := rfl
  have hlen : (r.bytes.set k y).length = 8 + r.body.length := by rw [List.length_set, hb, h2]
  have hnum : numB (r.bytes.set k y) = r.body.length := by
    have := numB_take (l := r.bytes.set k y) (k := 4) (Nat.le_refl 4)
    rw [← this, List.take_set_of_le h4, numB_take (Nat.le_refl 4), hb, h1]
  have hfull : (r.bytes.set k y).take (8 + r.body.length) = r.bytes.set k y := List.take_of_length_le (by omega)
  have hfull' : (frameB r.body).take (8 + r.body.length) = frameB r.body := List.take_of_length_le (by omega)
  rw [hfull'] at h5
  unfold nextB
  rw [hnum, hlen, if_neg (by omega), if_neg (by omega), if_neg (by omega), if_pos]
  rw [hfull]
  rw [bytes_length] at hk
  by_cases h8 : k < 8
  · rw [List.drop_set_of_lt h8, hb, h5, ← h3, List.drop_set, if_neg (by omega)]
    have hd : ((frameB r.body).drop 4).getD (k - 4) 0 = r.bytes[k] := by
      rw [List.getD_eq_getElem?_getD, List.getElem?_drop, show 4 + (k - 4) = k from by omega, ← hb, List.getElem?_eq_getElem]; rfl
    have := numB_set_ne (l := (frameB r.body).drop 4) (i := k - 4) (by omega) (by rw [List.length_drop]; omega) (y := y) (by rw [hd]; exact hy)
    omega
  · rw [List.drop_set, if_neg (by omega), List.drop_set, if_neg (by omega)]
    have e4 : numB ((r.bytes.drop 4).set (k - 4) y) = numB (r.bytes.drop 4) := by
      have := numB_take (l := (r.bytes.drop 4).set (k - 4) y) (k := 4) (Nat.le_refl 4)
      rw [← this, List.take_set_of_le (by omega), numB_take (Nat.le_refl 4)]
    rw [e4, hb, h3, h5]
    have hi : k - 8 < r.body.length := by omega
    have hd : r.body[k - 8] = r.bytes[k] := by
      have : r.body[k - 8]? = r.bytes[k]? := by
        rw [← h5, List.getElem?_drop, show 8 + (k - 8) = k from by omega, ← hb]
      rw [List.getElem?_eq_getElem hi, List.getElem?_eq_getElem (by rw [bytes_length]; exact hk)] at this
      injection this
    exact (crcSum_set hi (by rw [hd]; exact hy)).symm

/-! ### the document's own reading -/
/-- the record that the document tries -/
def refRec (x : List UInt8) : Rec :=
  if x.getD 0 0 = 2 ∧ x.length = 5 then ⟨2, false, [], [], (numB (x.drop 1) : Nat)⟩
  else if x.getD 0 0 = 1 ∧ 6 ≤ x.length ∧ (x.getD 1 0).toNat < 2 then ⟨1, x.getD 1 0 = 1, (x.take (6 + numB (x.drop 2))).drop 6, x.drop (6 + numB (x.drop 2)), 0⟩
  else ⟨((x.getD 0 0).toNat : Int), false, [], [], 0⟩
theorem take_frame {b : List UInt8} (h : 8 + numB b ≤ b.length) (hc : (numB (b.drop 4) : Int) = crcSum ((b.take (8 + numB b)).drop 8)) : b.take (8 + numB b) = frameB ((b.take (8 + numB b)).drop 8) := by
  have hl : ((b.take (8 + numB b)).drop 8).length = numB b := by rw [List.length_drop, List.length_take]; omega
  unfold frameB
  rw [hl, ← hc, Int.toNat_natCast, four_numB (by omega), four_numB (by rw [List.length_drop]; omega)]
  have e1 : b.take (8 + numB b) = (b.take (8 + numB b)).take 4 ++ ((b.take (8 + numB b)).drop 4) := (List.take_append_drop _ _).symm
  have e2 : (b.take (8 + numB b)).drop 4 = ((b.take (8 + numB b)).drop 4).take 4 ++ ((b.take (8 + numB b)).drop 4).drop 4 := (List.take_append_drop _ _).symm
  rw [List.drop_drop] at e2
  conv => lhs; rw [e1, e2]
  rw [List.take_take, Nat.min_eq_left (by omega), ← List.append_assoc]
  congr 2
  rw [List.drop_take, List.take_take, Nat.min_eq_left (by omega)]
theorem frameB_inj {x y : List UInt8} (hx : x.length < 4294967296) (hy : y.length < 4294967296) (h : frameB x = frameB y) : x = y := by
  obtain ⟨h1, _, _, h4⟩ := frame_parts x [] hx
  obtain ⟨g1, _, _, g4⟩ := frame_parts y [] hy
  rw [h] at h1 h4
  have e : x.length = y.length := by rw [← h1, ← g1]
  rw [e] at h4
  exact h4.symm.trans g4
theorem getD_drop (l : List UInt8) (k j : Nat) : (l.drop k).getD j 0 = l.getD (k + j) 0 := by
  simp [List.getD_eq_getElem?_getD, List.getElem?_drop]
theorem cons_getD {l : List UInt8} {k : Nat} (h : k < l.length) : l.drop k = l.getD k 0 :: l.drop (k + 1) := by
  rw [List.drop_eq_getElem_cons h, List.getD_eq_getElem?_getD, List.getElem?_eq_getElem h]; rfl
theorem read_ref {x : List UInt8} {r : Rec} (h : readB x = some r) : refRec x = r ∧ r.err = 0 ∧ r.body = x := by
  unfold readB at h
  by_cases h2 : x.getD 0 0 = 2
  · rw [if_pos h2] at h
    by_cases hc : x.length ≠ 5 ∨ 2147483647 < numB (x.drop 1)
    · rw [if_pos hc] at h; cases h
    · rw [if_neg hc] at h
      injection h with h
      subst h
      have hl : x.length = 5 := by omega
      have hn : numB (x.drop 1) ≤ 2147483647 := by omega
      refine ⟨by unfold refRec; rw [if_pos ⟨h2, hl⟩], ?_, ?_⟩
      · unfold Rec.err; rw [if_pos (isEnd_two (by omega) (by omega))]
      · unfold Rec.body
        rw [if_pos (isEnd_two (by omega) (by omega))]
        have e : x = x.getD 0 0 :: x.drop 1 := by
          have := cons_getD (l := x) (k := 0) (by omega)
          simpa using this
        show 2 :: fourB ((numB (x.drop 1) : Nat) : Int).toNat = x
        rw [Int.toNat_natCast, four_numB (by rw [List.length_drop]; omega), List.take_of_length_le (by rw [List.length_drop]; omega)]
        conv => rhs; rw [e, h2]
  · rw [if_neg h2] at h
    by_cases h1 : x.getD 0 0 ≠ 1 ∨ x.length < 6 ∨ 1 < (x.getD 1 0).toNat
    · rw [if_pos h1] at h; cases h
    · rw [if_neg h1] at h
      by_cases hk : 65536 < numB (x.drop 2) ∨ x.length < numB (x.drop 2) + 6
      · rw [if_pos hk] at h; cases h
      · rw [if_neg hk] at h
        by_cases hv : (x.getD 1 0 = 1 ∧ 6 + numB (x.drop 2) < x.length) ∨ 16777216 + 6 + numB (x.drop 2) < x.length
        · rw [if_pos hv] at h; cases h
        · rw [if_neg hv] at h
          injection h with h
          subst h
          have e1 : x.getD 0 0 = 1 := Classical.byContradiction fun e => h1 (.inl e)
          have e2 : 6 ≤ x.length := by omega
          have e3 : (x.getD 1 0).toNat < 2 := by omega
          have hkl : ((x.take (6 + numB (x.drop 2))).drop 6).length = numB (x.drop 2) := by rw [List.length_drop, List.length_take]; omega
          have hvl : (x.drop (6 + numB (x.drop 2))).length = x.length - (6 + numB (x.drop 2)) := by rw [List.length_drop]
          refine ⟨?_, ?_, ?_⟩
          · unfold refRec
            rw [if_neg (fun e => h2 e.1), if_pos ⟨e1, e2, e3⟩]
          · refine err_fits isEnd_one rfl ?_
            simp only [hkl, hvl]
            omega
          · rw [body_change isEnd_one, hkl, four_numB (by rw [List.length_drop]; omega)]
            have hx : x = [x.getD 0 0, x.getD 1 0] ++ x.drop 2 := by
              have a := cons_getD (l := x) (k := 0) (by omega)
              have b := cons_getD (l := x) (k := 1) (by omega)
              simp only [List.drop_zero, Nat.zero_add] at a
              rw [b] at a
              exact a
            have hd : (if decide (x.getD 1 0 = 1) = true then (1 : UInt8) else 0) = x.getD 1 0 := by
              by_cases e : x.getD 1 0 = 1
              · rw [if_pos (by simpa using e), e]
              · rw [if_neg (by simpa using e)]
                refine UInt8.toNat_inj.1 ?_
                have : (x.getD 1 0).toNat ≠ 1 := fun e' => e (UInt8.toNat_inj.1 e')
                show 0 = _
                omega
            have hval : (if decide (x.getD 1 0 = 1) = true then [] else x.drop (6 + numB (x.drop 2))) = x.drop (6 + numB (x.drop 2)) := by
              by_cases e : x.getD 1 0 = 1
              · rw [if_pos (by simpa using e)]
                refine (List.drop_eq_nil_of_le ?_).symm
                have : ¬ 6 + numB (x.drop 2) < x.length := fun e' => hv (.inl ⟨e, e'⟩)
                omega
              · rw [if_neg (by simpa using e)]
            rw [hd, hval]
            generalize numB (x.drop 2) = k at *
            conv => rhs; rw [hx, e1]
            have a : x.drop 2 = (x.drop 2).take 4 ++ ((x.take (6 + k)).drop 6 ++ x.drop (6 + k)) := by
              have h6 : (x.take (6 + k)).drop 6 ++ x.drop (6 + k) = x.drop 6 := by
                rw [List.drop_take, show 6 + k - 6 = k from by omega, show 6 + k = 6 + k from rfl, ← List.drop_drop]
                exact List.take_append_drop _ _
              rw [h6]
              have := List.take_append_drop 4 (x.drop 2)
              rw [List.drop_drop] at this
              exact this.symm
            conv => rhs; rw [a]
            simp only [List.append_assoc]
theorem next_read {b : List UInt8} (h4 : 4 ≤ b.length) (hn : ¬ (numB b = 0 ∨ 16842758 < numB b)) (hl : 8 + numB b ≤ b.length) (hc : (numB (b.drop 4) : Int) = crcSum ((b.take (8 + numB b)).drop 8)) :
    nextB b = readT (readB ((b.take (8 + numB b)).drop 8)) (numB b) := by
  unfold nextB
  rw [if_neg (by omega), if_neg hn, if_neg (by omega), if_neg (by simpa using hc)]
/-- The document reads what is read here. -/
theorem ref_next {b : List UInt8} (h4 : 4 ≤ b.length) (hn : ¬ (numB b = 0 ∨ 16842758 < numB b)) (hl : 8 + numB b ≤ b.length) (hc : (numB (b.drop 4) : Int) = crcSum ((b.take (8 + numB b)).drop 8)) :
    ((refRec ((b.take (8 + numB b)).drop 8)).err = 0 ∧ (refRec ((b.take (8 + numB b)).drop 8)).bytes = b.take (8 + numB b) → nextB b = (refRec ((b.take (8 + numB b)).drop 8), 8 + numB b, 0)) ∧
    (¬ ((refRec ((b.take (8 + numB b)).drop 8)).err = 0 ∧ (refRec ((b.take (8 + numB b)).drop 8)).bytes = b.take (8 + numB b)) → nextB b = (.zero, 0, 4)) := by
  have hf := take_frame hl hc
  have hxl : ((b.take (8 + numB b)).drop 8).length = numB b := by rw [List.length_drop, List.length_take]; omega
  have hb : nextB b = readT (readB ((b.take (8 + numB b)).drop 8)) (numB b) := by
    unfold nextB
    rw [if_neg (by omega), if_neg hn, if_neg (by omega), if_neg (by simpa using hc)]
  generalize (b.take (8 + numB b)).drop 8 = x at *
  rw [hb, hf]
  cases hr : readB x with
  | some r =>
    obtain ⟨g1, g2, g3⟩ := read_ref hr
    have hbytes : r.bytes = frameB x := by unfold Rec.bytes; rw [g3]
    rw [g1]
    exact ⟨fun _ => rfl, fun h => absurd ⟨g2, hbytes⟩ h⟩
  | none =>
    refine ⟨fun ⟨e1, e2⟩ => ?_, fun _ => rfl⟩
    have hbd := body_bd e1
    have e3 : (refRec x).body = x := frameB_inj (by omega) (by omega) e2
    have := readB_body e1
    rw [e3, hr] at this
    cases this
end Go.Mun
