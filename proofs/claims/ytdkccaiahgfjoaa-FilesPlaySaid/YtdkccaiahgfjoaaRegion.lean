/- A region that draws its order, taken operation by operation: each operation is walked once, over the frame in which all others have already written,
   in whatever world the others may have left; what it writes is said by a word of one's own, which later steps keep. Over any program. -/
import Derived.Test.YtdkccaiahgfjoaaLib
import Derived.Orders
namespace Go.Mun
open Go Go.RowKit

/-- The frame behind the operations that are listed. -/
def fillP : List Oper → Nat → (Nat → Bool) → (Nat → Value) → Act → Act
  | [], _, _, _, a => a
  | o :: l, k, L, V, a => fillP l (k + 1) L V (if L k then a.put o.dst (V k) else a)
/-- The frame behind all of them. -/
def fill : List Oper → Nat → (Nat → Value) → Act → Act
  | [], _, _, a => a
  | o :: l, k, V, a => fill l (k + 1) V (a.put o.dst (V k))

theorem put_size (a : Act) (d : Option Tmp) (v : Value) : (a.put d v).tmps.size = a.tmps.size := by cases d <;> simp [Act.put]
theorem put_def (a : Act) (d : Option Tmp) (v : Value) : (a.put d v).defers = a.defers := by cases d <;> rfl
theorem put_other {a : Act} {d : Option Tmp} {v : Value} {t : Nat} (h : d ≠ some t) : (a.put d v).tmps[t]? = a.tmps[t]? := by
  cases d with
  | none => rfl
  | some d => exact Array.getElem?_setIfInBounds_ne (fun e => h (by rw [e]))
theorem put_same {a : Act} {t : Nat} {v : Value} : (a.put (some t) v).tmps[t]? = if t < a.tmps.size then some v else none := by
  simp [Act.put, Array.getElem?_setIfInBounds]

theorem fillP_size (l : List Oper) : ∀ (k : Nat) (L : Nat → Bool) (V : Nat → Value) (a : Act), (fillP l k L V a).tmps.size = a.tmps.size := by
  induction l with
  | nil => intros; rfl
  | cons o l ih => intro k L V a; simp only [fillP]; rw [ih]; split <;> simp [put_size]
theorem fillP_def (l : List Oper) : ∀ (k : Nat) (L : Nat → Bool) (V : Nat → Value) (a : Act), (fillP l k L V a).defers = a.defers := by
  induction l with
  | nil => intros; rfl
  | cons o l ih => intro k L V a; simp only [fillP]; rw [ih]; split <;> simp [put_def]
theorem fill_eq (l : List Oper) : ∀ (k : Nat) (V : Nat → Value) (a : Act), fill l k V a = fillP l k (fun _ => true) V a := by
  induction l with
  | nil => intros; rfl
  | cons o l ih => intro k V a; simp only [fill, fillP, if_true]; exact ih _ _ _

theorem fillP_congr (l : List Oper) (t : Nat) : ∀ (k : Nat) (L L' : Nat → Bool) (V V' : Nat → Value) (a a' : Act), a.tmps.size = a'.tmps.size → a.tmps[t]? = a'.tmps[t]? →
    (∀ j o, l[j]? = some o → o.dst = some t → L (k + j) = L' (k + j) ∧ V (k + j) = V' (k + j)) → (fillP l k L V a).tmps[t]? = (fillP l k L' V' a').tmps[t]? := by
  induction l with
  | nil => intro k L L' V V' a a' _ h _; exact h
  | cons o l ih =>
    intro k L L' V V' a a' hs h hd
    simp only [fillP]
    refine ih (k + 1) L L' V V' _ _ ?_ ?_ fun j o' hj ho => ?_
    · split <;> split <;> simp [put_size, hs]
    · by_cases ho : o.dst = some t
      · obtain ⟨h1, h2⟩ := hd 0 o rfl ho
        simp only [Nat.add_zero] at h1 h2
        rw [h1, h2, ho]
        split
        · rw [put_same, put_same, hs]
        · exact h
      · have e : ∀ (b : Bool) (x : Act) (v : Value), (if b then x.put o.dst v else x).tmps[t]? = x.tmps[t]? := by
          intro b x v
          cases b
          · rfl
          · exact put_other ho
        rw [e, e, h]
    · have := hd (j + 1) o' (by simpa using hj) ho
      rw [show k + 1 + j = k + (j + 1) from by omega]
      exact this
/-- What the one operation that writes slot t has written is there. -/
theorem fillP_get (l : List Oper) (t : Nat) : ∀ (k : Nat) (L : Nat → Bool) (V : Nat → Value) (a : Act) (i : Nat) (o : Oper), l[i]? = some o → o.dst = some t → L (k + i) = true → t < a.tmps.size →
    (∀ j o', l[j]? = some o' → o'.dst = some t → j = i) → (fillP l k L V a).tmps[t]? = some (V (k + i)) := by
  induction l with
  | nil => intro k L V a i o hi; simp at hi
  | cons o l ih =>
    intro k L V a i o' hi ho hL ht hu
    simp only [fillP]
    cases i with
    | zero =>
      simp only [List.getElem?_cons_zero, Option.some.injEq] at hi
      subst hi
      simp only [Nat.add_zero] at hL ⊢
      rw [hL, if_pos rfl, ho]
      have h0 : (fillP l (k + 1) L V (a.put (some t) (V k))).tmps[t]? = (fillP [] (k + 1) L V (a.put (some t) (V k))).tmps[t]? := by
        have := fillP_congr l t (k + 1) L (fun _ => false) V V (a.put (some t) (V k)) (a.put (some t) (V k)) rfl rfl (fun j o' hj hd => by
          have := hu (j + 1) o' (by simpa using hj) hd
          omega)
        rw [this]
        have hnone : ∀ (l : List Oper) (k : Nat) (a : Act), fillP l k (fun _ => false) V a = a := by
          intro l
          induction l with
          | nil => intros; rfl
          | cons o l ih => intro k a; simp only [fillP]; exact ih _ _
        rw [hnone]; rfl
      rw [h0]
      show (a.put (some t) (V k)).tmps[t]? = _
      rw [put_same, if_pos ht]
    | succ i =>
      rw [show k + (i + 1) = k + 1 + i from by omega] at hL ⊢
      refine ih (k + 1) L V _ i o' (by simpa using hi) ho hL (by split <;> simp [put_size, ht]) fun j o'' hj hd => ?_
      have := hu (j + 1) o'' (by simpa using hj) hd
      omega

theorem act_ext {a b : Act} (hs : a.tmps.size = b.tmps.size) (ht : ∀ t, t < a.tmps.size → a.tmps[t]? = b.tmps[t]?) (hd : a.defers = b.defers) : a = b := by
  obtain ⟨ta, da⟩ := a
  obtain ⟨tb, db⟩ := b
  simp only at hs ht hd
  subst hd
  have : ta = tb := Array.ext hs fun i h1 h2 => by
    have := ht i h1
    rw [Array.getElem?_eq_getElem h1, Array.getElem?_eq_getElem h2] at this
    simpa using this
  rw [this]

/-- No two operations write one slot. -/
def dstsB (l : List Oper) : Bool := decide ((l.filterMap (·.dst)).Nodup)
/-- Each operation waits, by an edge of its own that binds, for whoever writes a slot that it looks at; edges lead to earlier ones. -/
def depsB (l : List Oper) : Bool :=
  l.zipIdx.all fun (o, i) => (o.after.toList.all fun e => !Region.binds .any e || decide (e.on < i)) &&
    l.zipIdx.all fun (p, j) => match p.dst with
      | some d => !(o.looksAt l.toArray).contains d || o.after.toList.any (fun e => Region.binds .any e && e.on == j)
      | none => true
def regionB (l : List Oper) : Bool := dstsB l && depsB l && Region.noSelect l.toArray

theorem dsts_unique : ∀ (l : List Oper), (l.filterMap (·.dst)).Nodup → ∀ (i j : Nat) (o p : Oper) (t : Nat), l[i]? = some o → l[j]? = some p → o.dst = some t → p.dst = some t → i = j
  | [], _, i, _, _, _, _, hi, _, _, _ => by simp at hi
  | o :: l, hn, i, j, o1, o2, t, hi, hj, h1, h2 => by
    have hmem : ∀ (k : Nat) (p : Oper), l[k]? = some p → p.dst = some t → t ∈ l.filterMap (·.dst) := fun k p hk hp =>
      List.mem_filterMap.2 ⟨p, List.mem_of_getElem? hk, hp⟩
    have hn' : (l.filterMap (·.dst)).Nodup := by
      rw [List.filterMap_cons] at hn
      split at hn
      · exact hn
      · exact (List.nodup_cons.1 hn).2
    have hno : o.dst = some t → t ∉ l.filterMap (·.dst) := fun e => by
      rw [List.filterMap_cons, e] at hn
      exact (List.nodup_cons.1 hn).1
    cases i with
    | zero =>
      simp only [List.getElem?_cons_zero, Option.some.injEq] at hi
      subst hi
      cases j with
      | zero => rfl
      | succ j => exact absurd (hmem j o2 (by simpa using hj) h2) (hno h1)
    | succ i =>
      cases j with
      | zero =>
        simp only [List.getElem?_cons_zero, Option.some.injEq] at hj
        subst hj
        exact absurd (hmem i o1 (by simpa using hi) h1) (hno h2)
      | succ j => rw [dsts_unique l hn' i j o1 o2 t (by simpa using hi) (by simpa using hj) h1 h2]

section
variable {P : Program} {ops : Array Oper}

theorem ready_nil {listed : Array Bool} (hs : listed.size = ops.size) (hd : ∀ i o, ops[i]? = some o → ∀ e ∈ o.after, Region.binds .any e = true → e.on < i)
    (h : Region.ready .any ops listed = []) : ∀ n i, i < n → i < ops.size → listed.getD i false = true := by
  intro n
  induction n with
  | zero => intro i h; omega
  | succ n ih =>
    intro i hi hlt
    by_cases hin : i < n
    · exact ih i hin hlt
    · obtain rfl : i = n := by omega
      cases hl : listed.getD i false with
      | true => rfl
      | false =>
        exfalso
        have hmem : i ∈ Region.ready .any ops listed := by
          rw [mem_ready]
          refine ⟨?_, ops[i], Array.getElem?_eq_getElem hlt, fun e he hb => ?_⟩
          · have hlt' : i < listed.size := by omega
            simp only [Array.getD, hlt', dif_pos] at hl ⊢
            exact hl
          · have := hd i _ (Array.getElem?_eq_getElem hlt) e he hb
            exact ih e.on (by omega) (by omega)
        rw [h] at hmem
        cases hmem

def leftOf (listed : Array Bool) : Nat := listed.toList.countP (· == false)

theorem leftOf_set {listed : Array Bool} {i : Nat} (h : listed.getD i true = false) : leftOf (listed.setIfInBounds i true) + 1 = leftOf listed := by
  have hlt : i < listed.size := by
    rcases Nat.lt_or_ge i listed.size with h' | h'
    · exact h'
    · simp [Array.getElem?_eq_none h'] at h
  have hv : listed[i] = false := by simpa [Array.getD, hlt] using h
  unfold leftOf
  rw [Array.toList_setIfInBounds]
  have hl : i < listed.toList.length := by simpa using hlt
  have e : listed.toList = listed.toList.take i ++ (false :: listed.toList.drop (i + 1)) := by
    have := List.take_append_drop i listed.toList
    rw [List.drop_eq_getElem_cons hl] at this
    have h2 : listed.toList[i] = false := by simpa using hv
    rw [h2] at this
    exact this.symm
  have e2 : listed.toList.set i true = listed.toList.take i ++ (true :: listed.toList.drop (i + 1)) := by
    rw [List.set_eq_take_append_cons_drop, if_pos hl]
  rw [e2]
  conv => rhs; rw [e]
  simp only [List.countP_append, List.countP_cons]
  simp
  omega

theorem wpAny_inv {Q : Exit → Act → World → Prop} (I : Array Bool → Act → World → Prop)
    (hd : ∀ i o, ops[i]? = some o → ∀ e ∈ o.after, Region.binds .any e = true → e.on < i)
    (hstep : ∀ listed a w i, listed.size = ops.size → i ∈ Region.ready .any ops listed → I listed a w → wpOp P ops Q i (fun a' w' => I (listed.setIfInBounds i true) a' w') a w)
    (hend : ∀ listed a w, (∀ i, i < ops.size → listed.getD i false = true) → I listed a w → Q .normal a w) :
    ∀ (fuel : Nat) (listed : Array Bool) (a : Act) (w : World), listed.size = ops.size → leftOf listed ≤ fuel → I listed a w → wpAny P .any ops Q fuel listed a w := by
  have hfin : ∀ listed a w, listed.size = ops.size → Region.ready .any ops listed = [] → I listed a w → Q .normal a w := fun listed a w hs hr hI =>
    hend listed a w (fun i hi => ready_nil hs hd hr (i + 1) i (by omega) hi) hI
  intro fuel
  induction fuel with
  | zero =>
    intro listed a w hs hc hI
    have hr : Region.ready .any ops listed = [] := by
      cases h : Region.ready .any ops listed with
      | nil => rfl
      | cons i rs =>
        have hm : i ∈ Region.ready .any ops listed := by rw [h]; simp
        have := leftOf_set (mem_ready.1 hm).1
        omega
    exact ⟨hr, hfin listed a w hs hr hI⟩
  | succ fuel ih =>
    intro listed a w hs hc hI
    refine ⟨fun hr => hfin listed a w hs hr hI, fun i hi => ?_⟩
    refine wpOp_mono (fun a' w' h => ih _ a' w' (by simpa using hs) ?_ h) (hstep listed a w i hs hi hI)
    have := leftOf_set (mem_ready.1 hi).1
    omega

/-- The word in which one operation of such a region is walked: it ends as it should, the world has gone on as it may, what it wrote is as it is said to be. -/
def OpPost (Rel : World → World → Prop) (S : Nat → Value → World → Prop) (i : Nat) (d : Option Tmp) (w : World) : Exit → Act → World → Prop :=
  fun e a' w' => e = .normal ∧ a'.defers = [] ∧ Rel w w' ∧ S i ((d.map fun d => a'.tmps.getD d undef).getD undef) w'

theorem op_carry {o : Oper} {a b : Act} {w : World} {Q Q' : Exit → Act → World → Prop} {K : Act → World → Prop}
    (he : execOp a.eval o = execOp b.eval o) (hQ' : ∀ e x y, Q' e x y → e = .normal ∧ x.defers = [])
    (hK : ∀ v w', Q' .normal (b.put o.dst v) w' → K (a.put o.dst v) w')
    (h : o.wp P b w (Q' .normal) Q') : o.wp P a w K Q := by
  unfold Oper.wp at h ⊢
  rw [he]
  generalize (execOp b.eval o).run P w = r at h ⊢
  cases r with
  | ok n w' =>
    cases n <;> simp only [Oper.upon] at h ⊢
    case value v => exact hK v w' h
    case skip => exact hK undef w' h
    case defer d =>
      have := (hQ' _ _ _ h).2
      rw [put_def] at this
      cases this
    case enter f args =>
      exact Calls.mono h fun e w'' he => by
        cases e with
        | returned v => exact hK v w'' he
        | panicked chain => have := (hQ' _ _ _ he).1; cases this
        | outgrown => obtain ⟨x, y, hxy⟩ := he; have := (hQ' _ _ _ hxy).1; cases this
    case row row args => exact Rows.mono h fun v w'' hv => hK v w'' hv
  | halt x w' =>
    cases x <;> simp only [Oper.upon] at h ⊢
    have := (hQ' _ _ _ h).1
    cases this

/-- What an operation may lean on: the words of those that it waits for. -/
def DepFacts (S : Nat → Value → World → Prop) (V : Nat → Value) (w : World) : List Edge → Prop
  | [] => True
  | e :: es => (Region.binds .any e = true → S e.on (V e.on) w) ∧ DepFacts S V w es
theorem depFacts_of {S : Nat → Value → World → Prop} {V : Nat → Value} {w : World} : ∀ {es : List Edge}, (∀ e ∈ es, Region.binds .any e = true → S e.on (V e.on) w) → DepFacts S V w es
  | [], _ => trivial
  | e :: es, h => ⟨h e (by simp), depFacts_of fun e' he' => h e' (by simp [he'])⟩

/-- One operation to be walked; a structure, so that no tactic looks behind it before it is opened ('refine ⟨?_⟩'). -/
structure OneStep (P : Program) (ops : Array Oper) (Q : Exit → Act → World → Prop) (o : Oper) (a : Act) (w : World) : Prop where
  out : wpList P ops Q [o] a w

/-- Every operation, one behind the other, each in a world and over values of which nothing more is known than what was said. -/
def EachStep (P : Program) (ops : Array Oper) (Rel : World → World → Prop) (S : Nat → Value → World → Prop) (w0 : World) (F : (Nat → Value) → Act) : List Oper → Nat → Prop
  | [], _ => True
  | o :: l, k => (∀ (V : Nat → Value) (w : World), Rel w0 w → DepFacts S V w o.after.toList → OneStep P ops (OpPost Rel S k o.dst w) o (F V) w) ∧ EachStep P ops Rel S w0 F l (k + 1)
theorem eachStep_get {Rel : World → World → Prop} {S : Nat → Value → World → Prop} {w0 : World} {F : (Nat → Value) → Act} : ∀ {l : List Oper} {k : Nat}, EachStep P ops Rel S w0 F l k →
    ∀ i o, l[i]? = some o → ∀ (V : Nat → Value) (w : World), Rel w0 w → DepFacts S V w o.after.toList → OneStep P ops (OpPost Rel S (k + i) o.dst w) o (F V) w
  | [], _, _, i, o, h => by simp at h
  | o :: l, k, h, i, o', hi => by
    cases i with
    | zero =>
      simp only [List.getElem?_cons_zero, Option.some.injEq] at hi
      subst hi
      exact h.1
    | succ i =>
      have := eachStep_get h.2 i o' (by simpa using hi)
      rw [show k + (i + 1) = k + 1 + i from by omega]
      exact this

def SFacts (S : Nat → Value → World → Prop) (V : Nat → Value) (w : World) : List Oper → Nat → Prop
  | [], _ => True
  | _ :: l, k => S k (V k) w ∧ SFacts S V w l (k + 1)
theorem sFacts_of {S : Nat → Value → World → Prop} {V : Nat → Value} {w : World} : ∀ {l : List Oper} {k : Nat}, (∀ i, i < l.length → S (k + i) (V (k + i)) w) → SFacts S V w l k
  | [], _, _ => trivial
  | _ :: l, k, h => ⟨by simpa using h 0 (by simp), sFacts_of fun i hi => by rw [show k + 1 + i = k + (i + 1) from by omega]; exact h (i + 1) (by simpa using hi)⟩

theorem wp_region_each {id : Nat} {l : List Oper} {Q : Exit → Act → World → Prop} {a : Act} {w : World} (hm : P.follows .mixedOrders = true) (hB : regionB l = true)
    (hin : (l.all fun o => match o.dst with | some d => decide (d < a.tmps.size) | none => true) = true)
    (Rel : World → World → Prop) (hrefl : ∀ w, Rel w w) (htrans : ∀ x y z, Rel x y → Rel y z → Rel x z)
    (S : Nat → Value → World → Prop) (hS : ∀ i v x y, Rel x y → S i v x → S i v y)
    (hstep : EachStep P l.toArray Rel S w.drew (fun V => fill l 0 V a) l 0)
    (hend : ∀ (V : Nat → Value) (w' : World), Rel w.drew w' → SFacts S V w' l 0 → Q .normal (fill l 0 V a) w') : (Code.region id l.toArray true).wp P Q a w := by
  simp only [regionB, Bool.and_eq_true] at hB
  obtain ⟨⟨hB1, hB2⟩, hB3⟩ := hB
  have hnd : (l.filterMap (·.dst)).Nodup := of_decide_eq_true hB1
  have hun := dsts_unique l hnd
  have hdeps : ∀ (i : Nat) (o : Oper), l[i]? = some o → (∀ e ∈ o.after, Region.binds .any e = true → e.on < i) ∧
      ∀ (j : Nat) (p : Oper) (t : Tmp), l[j]? = some p → p.dst = some t → t ∈ o.looksAt l.toArray → ∃ e ∈ o.after, Region.binds .any e = true ∧ e.on = j := by
    intro i o hi
    have hmem : (o, i) ∈ l.zipIdx := List.mk_mem_zipIdx_iff_getElem?.2 hi
    have h1 := List.all_eq_true.1 hB2 _ hmem
    simp only [Bool.and_eq_true] at h1
    refine ⟨fun e he hb => ?_, fun j p t hj hp ht => ?_⟩
    · have := List.all_eq_true.1 h1.1 e (by simpa using he)
      simpa [hb] using this
    · have hmem' : (p, j) ∈ l.zipIdx := List.mk_mem_zipIdx_iff_getElem?.2 hj
      have := List.all_eq_true.1 h1.2 _ hmem'
      simp only [hp] at this
      rw [Bool.or_eq_true] at this
      rcases this with h | h
      · have hc : (o.looksAt l.toArray).contains t = true := by simpa using ht
        rw [hc] at h
        cases h
      · obtain ⟨e, he, hb⟩ := List.any_eq_true.1 h
        simp only [Bool.and_eq_true, beq_iff_eq] at hb
        exact ⟨e, by simpa using he, hb.1, hb.2⟩
  have hlt : ∀ (i : Nat) (o : Oper) (t : Tmp), l[i]? = some o → o.dst = some t → t < a.tmps.size := by
    intro i o t hi ho
    have := List.all_eq_true.1 hin o (List.mem_of_getElem? hi)
    simpa [ho] using this
  have hops : ∀ i : Nat, l.toArray[i]? = l[i]? := fun i => by simp
  refine wp_region_any hm ?_
  let I : Array Bool → Act → World → Prop := fun listed a' w' => ∃ V : Nat → Value, a' = fillP l 0 (fun i => listed.getD i false) V a ∧ Rel w.drew w' ∧
    ∀ i, i < l.length → listed.getD i false = true → S i (V i) w'
  refine wpAny_inv I (fun i o hi => (hdeps i o (by rw [← hops]; exact hi)).1) ?_ ?_ _ _ _ _ (by simp) ?_ ?_
  · intro listed a' w' i hsz hr hI
    obtain ⟨V, rfl, hrel, hSV⟩ := hI
    obtain ⟨hun', o, ho, hall⟩ := mem_ready.1 hr
    have ho' : l[i]? = some o := by rw [← hops]; exact ho
    have hil : i < l.length := (List.getElem?_eq_some_iff.1 ho').1
    have hil' : i < listed.size := by rw [hsz]; simpa using hil
    have hlf : listed.getD i false = false := by
      simp only [Array.getD, hil', dif_pos] at hun' ⊢
      exact hun'
    -- slots that it looks at: as in the full frame
    have hsame : ∀ t, t ∈ o.looksAt l.toArray → (fillP l 0 (fun i => listed.getD i false) V a).tmps[t]? = (fill l 0 V a).tmps[t]? := by
      intro t ht
      rw [fill_eq]
      refine fillP_congr l t 0 _ _ V V a a rfl rfl fun j p hj hp => ?_
      obtain ⟨e, he, hb, hej⟩ := (hdeps i o ho').2 j p t hj hp ht
      have := hall e he hb
      rw [hej] at this
      simp only [Nat.zero_add]
      exact ⟨this, trivial⟩
    have hev : ∀ x ∈ o.op.operands, (fillP l 0 (fun i => listed.getD i false) V a).eval x = (fill l 0 V a).eval x := by
      intro x hx
      cases x with
      | tmp t =>
        have := hsame t (by
          unfold Oper.looksAt
          exact List.mem_append.2 (.inl (List.mem_filterMap.2 ⟨.tmp t, by simpa using hx, rfl⟩)))
        show (fillP l 0 (fun i => listed.getD i false) V a).tmps.getD t undef = (fill l 0 V a).tmps.getD t undef
        rw [Array.getD_eq_getD_getElem?, Array.getD_eq_getD_getElem?, this]
      | _ => rfl
    have hex : execOp (fillP l 0 (fun i => listed.getD i false) V a).eval o = execOp (fill l 0 V a).eval o :=
      execOp_congr o (Region.noSelect_spec hB3 i o · · ho) hev
    have hwant : Region.wanted o (yielded l.toArray (fillP l 0 (fun i => listed.getD i false) V a).tmps) = Region.wanted o (yielded l.toArray (fill l 0 V a).tmps) := by
      unfold Region.wanted
      cases hg : o.guard with
      | none => rfl
      | some jw =>
        obtain ⟨j, want⟩ := jw
        simp only
        congr 1
        unfold yielded
        cases hj : (l.toArray[j]?).bind (·.dst) with
        | none => rfl
        | some t =>
          simp only [Option.bind_some]
          rw [hsame t (by
            unfold Oper.looksAt
            refine List.mem_append.2 (.inr ?_)
            rw [hg]
            show t ∈ ((l.toArray[j]?).bind (·.dst)).toList
            rw [hj]
            simp)]
    have hdf : DepFacts S V w' o.after.toList := depFacts_of fun e he hb => by
      have hlt' := (hdeps i o ho').1 e (by simpa using he) hb
      exact hSV e.on (by omega) (hall e (by simpa using he) hb)
    have hone := (eachStep_get hstep i o ho' V w' hrel hdf).out
    rw [Nat.zero_add] at hone
    -- what it leaves
    have hK : ∀ v w'', OpPost Rel S i o.dst w' .normal ((fill l 0 V a).put o.dst v) w'' → I (listed.setIfInBounds i true) ((fillP l 0 (fun i => listed.getD i false) V a).put o.dst v) w'' := by
      rintro v w'' ⟨_, _, hrel', hv⟩
      refine ⟨fun k => if k = i then (match o.dst with | some _ => v | none => undef) else V k, ?_, htrans _ _ _ hrel hrel', ?_⟩
      · refine act_ext ?_ ?_ ?_
        · rw [put_size, fillP_size, fillP_size]
        · intro t ht
          rw [put_size, fillP_size] at ht
          by_cases hot : o.dst = some t
          · have hput : ((fillP l 0 (fun i => listed.getD i false) V a).put o.dst v).tmps[t]? = some v := by rw [hot, put_same, fillP_size, if_pos ht]
            rw [hput]
            have := fillP_get l t 0 (fun k => (listed.setIfInBounds i true).getD k false) (fun k => if k = i then (match o.dst with | some _ => v | none => undef) else V k) a i o ho' hot (by simp [hil']) ht
              (fun j p hj hp => hun j i p o t hj ho' hp hot)
            rw [this]
            simp [hot]
          · rw [put_other hot]
            refine fillP_congr l t 0 _ _ _ _ a a rfl rfl fun j p hj hp => ?_
            have hne : j ≠ i := fun e => by
              subst e
              rw [hj] at ho'
              injection ho' with e
              exact hot (e ▸ hp)
            simp only [Nat.zero_add, if_neg hne]
            exact ⟨(getD_set_ne false (Ne.symm hne)).symm, trivial⟩
        · rw [put_def, fillP_def, fillP_def]
      · intro k hk hl
        by_cases hki : k = i
        · subst hki
          simp only [if_pos]
          have hval : (o.dst.map fun d => ((fill l 0 V a).put o.dst v).tmps.getD d undef).getD undef = match o.dst with | some _ => v | none => undef := by
            cases hd : o.dst with
            | none => rfl
            | some d =>
              have hds := hlt k o d ho' hd
              simp only [Option.map_some, Option.getD_some]
              rw [Array.getD_eq_getD_getElem?, put_same, fill_eq, fillP_size, if_pos hds]
              rfl
          rw [hval] at hv
          exact hv
        · simp only [if_neg hki]
          rw [getD_set_ne false (Ne.symm hki)] at hl
          exact hS k _ _ _ hrel' (hSV k hk hl)
    unfold wpOp
    rw [ho]
    simp only
    rw [hwant]
    unfold wpList at hone
    split
    · rename_i hw
      rw [if_pos hw] at hone
      refine .inl (op_carry (Q' := OpPost Rel S i o.dst w') hex (fun e x y h => ⟨h.1, h.2.1⟩) hK ?_)
      rcases hone with h | ⟨_, x, y, h⟩
      · exact h
      · cases h.1
    · rename_i hw
      rw [if_neg hw] at hone
      exact hK undef w' hone
  · intro listed a' w' hfull hI
    obtain ⟨V, rfl, hrel, hSV⟩ := hI
    have : fillP l 0 (fun i => listed.getD i false) V a = fill l 0 V a := by
      rw [fill_eq]
      refine act_ext (by rw [fillP_size, fillP_size]) (fun t _ => ?_) (by rw [fillP_def, fillP_def])
      refine fillP_congr l t 0 _ _ V V a a rfl rfl fun j p hj hp => ?_
      have hjl : j < l.length := (List.getElem?_eq_some_iff.1 hj).1
      simp only [Nat.zero_add]
      exact ⟨hfull j (by simpa using hjl), trivial⟩
    rw [this]
    exact hend V w' hrel (sFacts_of fun i hi => by rw [Nat.zero_add]; exact hSV i hi (hfull i (by simpa using hi)))
  · unfold leftOf
    have := List.countP_le_length (p := fun b : Bool => b == false) (l := (Array.replicate l.toArray.size false).toList)
    simpa using this
  · refine ⟨fun _ => undef, ?_, hrefl _, fun i _ h => ?_⟩
    · have hnone : ∀ (l : List Oper) (k : Nat) (L : Nat → Bool) (V : Nat → Value) (a : Act), (∀ i, L i = false) → fillP l k L V a = a := by
        intro l
        induction l with
        | nil => intros; rfl
        | cons o l ih => intro k L V a hL; simp only [fillP, hL]; exact ih _ _ _ _ hL
      rw [hnone _ _ _ _ _ fun i => by simp [Array.getElem?_replicate]; split <;> rfl]
    · simp [Array.getElem?_replicate] at h
      split at h <;> simp at h

/-! ### the same, over a frame of which nothing is known but the slots that the operation looks at -/

/-- What stands in a slot behind all operations. -/
def slotVal (l : List Oper) (V : Nat → Value) (a : Act) (t : Tmp) : Option Value :=
  match l.findIdx? (fun p => p.dst == some t) with
  | some j => some (V j)
  | none => a.tmps[t]?
def SlotFacts (b : Act) (l : List Oper) (V : Nat → Value) (a : Act) : List Tmp → Prop
  | [] => True
  | t :: ts => b.tmps[t]? = slotVal l V a t ∧ SlotFacts b l V a ts
def LooseStep (P : Program) (l : List Oper) (Rel : World → World → Prop) (S : Nat → Value → World → Prop) (w0 : World) (a : Act) : List Oper → Nat → Prop
  | [], _ => True
  | o :: rest, k => (∀ (V : Nat → Value) (w : World) (b : Act), Rel w0 w → DepFacts S V w o.after.toList → SlotFacts b l V a (o.looksAt l.toArray) → b.defers = [] →
      (o.dst.getD 0) < b.tmps.size → OneStep P l.toArray (OpPost Rel S k o.dst w) o b w) ∧ LooseStep P l Rel S w0 a rest (k + 1)

theorem op_put {Rel : World → World → Prop} {S : Nat → Value → World → Prop} {k : Nat} {d : Tmp} {b : Act} {v : Value} {w w' : World} (hd : b.defers = []) (hs : d < b.tmps.size) (hr : Rel w w') (hv : S k v w') :
    OpPost Rel S k (some d) w .normal (b.put (some d) v) w' := by
  refine ⟨rfl, by rw [put_def]; exact hd, hr, ?_⟩
  have : (b.put (some d) v).tmps.getD d undef = v := by
    rw [Array.getD_eq_getD_getElem?, put_same, if_pos hs]; rfl
  show S k ((b.put (some d) v).tmps.getD d undef) w'
  rw [this]
  exact hv
/-- the same, as the walk leaves it -/
theorem op_post {Rel : World → World → Prop} {S : Nat → Value → World → Prop} {k : Nat} {d : Tmp} {tmps : Array Value} {v : Value} {w w' : World} (hs : d < tmps.size) (hr : Rel w w') (hv : S k v w') :
    OpPost Rel S k (some d) w .normal ⟨tmps.setIfInBounds d v, []⟩ w' := op_put (b := ⟨tmps, []⟩) rfl hs hr hv

theorem slotFacts_of {b : Act} {l : List Oper} {V : Nat → Value} {a : Act} : ∀ {ts : List Tmp}, (∀ t ∈ ts, b.tmps[t]? = slotVal l V a t) → SlotFacts b l V a ts
  | [], _ => trivial
  | t :: ts, h => ⟨h t (by simp), slotFacts_of fun t' ht => h t' (by simp [ht])⟩

theorem fill_slot {l : List Oper} (hnd : (l.filterMap (·.dst)).Nodup) {V : Nat → Value} {a : Act} {t : Tmp} (ht : t < a.tmps.size) : (fill l 0 V a).tmps[t]? = slotVal l V a t := by
  unfold slotVal
  cases hf : l.findIdx? (fun p => p.dst == some t) with
  | some j =>
    obtain ⟨hj, hp, _⟩ := List.findIdx?_eq_some_iff_getElem.1 hf
    have hp' : l[j].dst = some t := by simpa using hp
    rw [fill_eq, fillP_get l t 0 _ V a j l[j] (List.getElem?_eq_getElem hj) hp' rfl ht
      (fun i o hi ho => dsts_unique l hnd i j o l[j] t hi (List.getElem?_eq_getElem hj) ho hp')]
    simp
  | none =>
    have hn := List.findIdx?_eq_none_iff.1 hf
    rw [fill_eq]
    have hnone : ∀ (l : List Oper) (k : Nat) (a : Act), fillP l k (fun _ => false) V a = a := by
      intro l
      induction l with
      | nil => intros; rfl
      | cons o l ih => intro k a; simp only [fillP]; exact ih _ _
    have := fillP_congr l t 0 (fun _ => true) (fun _ => false) V V a a rfl rfl (fun j o hj ho => by
      have := hn o (List.mem_of_getElem? hj)
      simp [ho] at this)
    rw [this, hnone]

theorem looseStep_each {Rel : World → World → Prop} {S : Nat → Value → World → Prop} {w0 : World} {a : Act} {l : List Oper} (hnd : (l.filterMap (·.dst)).Nodup)
    (hdef : a.defers = []) : ∀ {rest : List Oper} {k : Nat}, (rest.all fun o => (o.looksAt l.toArray).all (fun t => decide (t < a.tmps.size)) && match o.dst with | some d => decide (d < a.tmps.size) | none => decide (0 < a.tmps.size)) = true →
    LooseStep P l Rel S w0 a rest k → EachStep P l.toArray Rel S w0 (fun V => fill l 0 V a) rest k
  | [], _, _, _ => trivial
  | o :: rest, k, hin, h => by
    have hin' := List.all_eq_true.1 hin
    refine ⟨fun V w hr hd => ?_, looseStep_each hnd hdef (List.all_eq_true.2 fun o' ho' => hin' o' (by simp [ho'])) h.2⟩
    have ho := hin' o (by simp)
    simp only [Bool.and_eq_true] at ho
    refine h.1 V w (fill l 0 V a) hr hd (slotFacts_of fun t ht => ?_) ?_ ?_
    · exact fill_slot hnd (by simpa using List.all_eq_true.1 ho.1 t ht)
    · rw [fill_eq, fillP_def]; exact hdef
    · rw [fill_eq, fillP_size]
      have := ho.2
      cases hd : o.dst with
      | some d => rw [hd] at this; simpa using this
      | none => rw [hd] at this; simpa using this

theorem wp_region_loose {id : Nat} {l : List Oper} {Q : Exit → Act → World → Prop} {a : Act} {w : World} (hm : P.follows .mixedOrders = true) (hB : regionB l = true)
    (hin : (l.all fun o => (o.looksAt l.toArray).all (fun t => decide (t < a.tmps.size)) && match o.dst with | some d => decide (d < a.tmps.size) | none => decide (0 < a.tmps.size)) = true) (hdef : a.defers = [])
    (Rel : World → World → Prop) (hrefl : ∀ w, Rel w w) (htrans : ∀ x y z, Rel x y → Rel y z → Rel x z)
    (S : Nat → Value → World → Prop) (hS : ∀ i v x y, Rel x y → S i v x → S i v y)
    (hstep : LooseStep P l Rel S w.drew a l 0)
    (hend : ∀ (V : Nat → Value) (w' : World), Rel w.drew w' → SFacts S V w' l 0 → Q .normal (fill l 0 V a) w') : (Code.region id l.toArray true).wp P Q a w := by
  have hnd : (l.filterMap (·.dst)).Nodup := by
    simp only [regionB, Bool.and_eq_true] at hB
    exact of_decide_eq_true hB.1.1
  refine wp_region_each hm hB (List.all_eq_true.2 fun o ho => ?_) Rel hrefl htrans S hS (looseStep_each hnd hdef hin hstep) hend
  have := List.all_eq_true.1 hin o ho
  simp only [Bool.and_eq_true] at this
  have h2 := this.2
  cases hd : o.dst with
  | some d => rw [hd] at h2; exact h2
  | none => rfl
end

/-- The region of that number in a function's code. -/
def regionAt (k : Nat) : Code → Option Code
  | .region id ops d => if id == k then some (.region id ops d) else none
  | .seq a b => match regionAt k a with
    | some c => some c
    | none => regionAt k b
  | .cond _ a b => match regionAt k a with
    | some c => some c
    | none => regionAt k b
  | .block _ c => regionAt k c
  | .loop c => regionAt k c
  | .scope c => regionAt k c
  | _ => none
def regionOf (f : Func) (k : Nat) : Code := (f.body.bind (regionAt k)).getD .skip
theorem fill_keep {l : List Oper} {V : Nat → Value} {a : Act} : (fill l 0 V a).tmps.size = a.tmps.size ∧ (fill l 0 V a).defers = a.defers := by
  rw [fill_eq]
  exact ⟨fillP_size _ _ _ _ _, fillP_def _ _ _ _ _⟩
end Go.Mun
