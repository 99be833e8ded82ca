/- A region that draws its order, where an operation writes what was there before: as 'wp_region_each', with a condition on the world besides that says how far the region has come. Over any program. -/
import Derived.Test.YtdkccaiahgfjoaaRegion
namespace Go.Mun
open Go Go.RowKit

section
variable {P : Program} {ops : Array Oper}

def upd (V : Nat → Value) (i : Nat) (x : Value) : Nat → Value := fun k => if k = i then x else V k
def updL (L : Nat → Bool) (i : Nat) : Nat → Bool := fun k => if k = i then true else L k
theorem upd_same {V : Nat → Value} {i : Nat} {x : Value} : upd V i x i = x := if_pos rfl
theorem upd_ne {V : Nat → Value} {i j : Nat} {x : Value} (h : j ≠ i) : upd V i x j = V j := if_neg h
theorem updL_same {L : Nat → Bool} {i : Nat} : updL L i i = true := if_pos rfl
theorem updL_ne {L : Nat → Bool} {i j : Nat} (h : j ≠ i) : updL L i j = L j := if_neg h

theorem updL_up {L : Nat → Bool} {i j : Nat} (h : L j = true) : updL L i j = true := by unfold updL; split <;> first | rfl | exact h

/-- The word in which one operation is walked. -/
def PhPost (Rel : World → World → Prop) (S : Nat → Value → World → Prop) (J : (Nat → Bool) → (Nat → Value) → World → Prop) (L : Nat → Bool) (V : Nat → Value) (i : Nat) (d : Option Tmp) (w : World) : Exit → Act → World → Prop :=
  fun e a' w' => OpPost Rel S i d w e a' w' ∧ J (updL L i) (upd V i ((d.map fun d => a'.tmps.getD d undef).getD undef)) w'

/-- Does j wait for i? -/
def waitsB (ops : Array Oper) (j i : Nat) : Bool := match ops[j]? with
  | some o => o.after.any fun e => Region.binds .any e && e.on == i
  | none => false
theorem waitsB_spec {ops : Array Oper} {j i : Nat} (h : waitsB ops j i = true) : ∃ o, ops[j]? = some o ∧ ∃ e ∈ o.after, Region.binds .any e = true ∧ e.on = i := by
  unfold waitsB at h
  split at h
  · rename_i o ho
    obtain ⟨e, he, hb⟩ := Array.any_eq_true'.1 h
    simp only [Bool.and_eq_true, beq_iff_eq] at hb
    exact ⟨o, ho, e, he, hb.1, hb.2⟩
  · cases h
/-- what is listed waits for nothing that is not -/
def ClosedL (ops : Array Oper) (L : Nat → Bool) : Prop := ∀ j i, waitsB ops j i = true → L j = true → L i = true

def PhStep (P : Program) (ops : Array Oper) (Rel : World → World → Prop) (S : Nat → Value → World → Prop) (J : (Nat → Bool) → (Nat → Value) → World → Prop) (w0 : World) (F : (Nat → Value) → Act) : List Oper → Nat → Prop
  | [], _ => True
  | o :: l, k => (∀ (L : Nat → Bool) (V : Nat → Value) (w : World), Rel w0 w → J L V w → L k = false → (∀ i, waitsB ops k i = true → L i = true) → ClosedL ops L → DepFacts S V w o.after.toList → OneStep P ops (PhPost Rel S J L V k o.dst w) o (F V) w) ∧ PhStep P ops Rel S J w0 F l (k + 1)
theorem phStep_get {Rel : World → World → Prop} {S : Nat → Value → World → Prop} {J : (Nat → Bool) → (Nat → Value) → World → Prop} {w0 : World} {F : (Nat → Value) → Act} : ∀ {l : List Oper} {k : Nat}, PhStep P ops Rel S J w0 F l k →
    ∀ i o, l[i]? = some o → ∀ (L : Nat → Bool) (V : Nat → Value) (w : World), Rel w0 w → J L V w → L (k + i) = false → (∀ j, waitsB ops (k + i) j = true → L j = true) → ClosedL ops L → DepFacts S V w o.after.toList → OneStep P ops (PhPost Rel S J L V (k + i) o.dst w) o (F V) w
  | [], _, _, i, o, h => by simp at h
  | o :: l, k, h, i, o', hi => by
    cases i with
    | zero =>
      simp only [List.getElem?_cons_zero, Option.some.injEq] at hi
      subst hi
      exact h.1
    | succ i =>
      have := phStep_get h.2 i o' (by simpa using hi)
      rw [show k + 1 + i = k + (i + 1) from by omega] at this
      exact this

theorem wp_region_phase {id : Nat} {l : List Oper} {Q : Exit → Act → World → Prop} {a : Act} {w : World} (hm : P.follows .mixedOrders = true) (hB : regionB l = true)
    (hin : (l.all fun o => match o.dst with | some d => decide (d < a.tmps.size) | none => true) = true)
    (Rel : World → World → Prop) (hrefl : ∀ w, Rel w w) (htrans : ∀ x y z, Rel x y → Rel y z → Rel x z)
    (S : Nat → Value → World → Prop) (hS : ∀ i v x y, Rel x y → S i v x → S i v y)
    (J : (Nat → Bool) → (Nat → Value) → World → Prop) (hJ0 : J (fun _ => false) (fun _ => undef) w.drew)
    (hstep : PhStep P l.toArray Rel S J w.drew (fun V => fill l 0 V a) l 0)
    (hend : ∀ (L : Nat → Bool) (V : Nat → Value) (w' : World), (∀ i, i < l.length → L i = true) → Rel w.drew w' → SFacts S V w' l 0 → J L V w' → Q .normal (fill l 0 V a) w') : (Code.region id l.toArray true).wp P Q a w := by
  simp only [regionB, Bool.and_eq_true] at hB
  obtain ⟨⟨hB1, hB2⟩, hB3⟩ := hB
  have hnd : (l.filterMap (·.dst)).Nodup := of_decide_eq_true hB1
  have hun := dsts_unique l hnd
  have hdeps : ∀ (i : Nat) (o : Oper), l[i]? = some o → (∀ e ∈ o.after, Region.binds .any e = true → e.on < i) ∧
      ∀ (j : Nat) (p : Oper) (t : Tmp), l[j]? = some p → p.dst = some t → t ∈ o.looksAt l.toArray → ∃ e ∈ o.after, Region.binds .any e = true ∧ e.on = j := by
    intro i o hi
    have hmem : (o, i) ∈ l.zipIdx := List.mk_mem_zipIdx_iff_getElem?.2 hi
    have h1 := List.all_eq_true.1 hB2 _ hmem
    simp only [Bool.and_eq_true] at h1
    refine ⟨fun e he hb => ?_, fun j p t hj hp ht => ?_⟩
    · have := List.all_eq_true.1 h1.1 e (by simpa using he)
      simpa [hb] using this
    · have hmem' : (p, j) ∈ l.zipIdx := List.mk_mem_zipIdx_iff_getElem?.2 hj
      have := List.all_eq_true.1 h1.2 _ hmem'
      simp only [hp] at this
      rw [Bool.or_eq_true] at this
      rcases this with h | h
      · have hc : (o.looksAt l.toArray).contains t = true := by simpa using ht
        rw [hc] at h
        cases h
      · obtain ⟨e, he, hb⟩ := List.any_eq_true.1 h
        simp only [Bool.and_eq_true, beq_iff_eq] at hb
        exact ⟨e, by simpa using he, hb.1, hb.2⟩
  have hlt : ∀ (i : Nat) (o : Oper) (t : Tmp), l[i]? = some o → o.dst = some t → t < a.tmps.size := by
    intro i o t hi ho
    have := List.all_eq_true.1 hin o (List.mem_of_getElem? hi)
    simpa [ho] using this
  have hops : ∀ i : Nat, l.toArray[i]? = l[i]? := fun i => by simp
  refine wp_region_any hm ?_
  let I : Array Bool → Act → World → Prop := fun listed a' w' => ∃ V : Nat → Value, a' = fillP l 0 (fun i => listed.getD i false) V a ∧ Rel w.drew w' ∧
    (∀ i, i < l.length → listed.getD i false = true → S i (V i) w') ∧ J (fun i => listed.getD i false) V w' ∧ ClosedL l.toArray (fun i => listed.getD i false)
  refine wpAny_inv I (fun i o hi => (hdeps i o (by rw [← hops]; exact hi)).1) ?_ ?_ _ _ _ _ (by simp) ?_ ?_
  · intro listed a' w' i hsz hr hI
    obtain ⟨V, rfl, hrel, hSV, hJV, hcl⟩ := hI
    obtain ⟨hun', o, ho, hall⟩ := mem_ready.1 hr
    have ho' : l[i]? = some o := by rw [← hops]; exact ho
    have hil : i < l.length := (List.getElem?_eq_some_iff.1 ho').1
    have hil' : i < listed.size := by rw [hsz]; simpa using hil
    have hlf : listed.getD i false = false := by
      simp only [Array.getD, hil', dif_pos] at hun' ⊢
      exact hun'
    -- slots that it looks at: as in the full frame
    have hsame : ∀ t, t ∈ o.looksAt l.toArray → (fillP l 0 (fun i => listed.getD i false) V a).tmps[t]? = (fill l 0 V a).tmps[t]? := by
      intro t ht
      rw [fill_eq]
      refine fillP_congr l t 0 _ _ V V a a rfl rfl fun j p hj hp => ?_
      obtain ⟨e, he, hb, hej⟩ := (hdeps i o ho').2 j p t hj hp ht
      have := hall e he hb
      rw [hej] at this
      simp only [Nat.zero_add]
      exact ⟨this, trivial⟩
    have hev : ∀ x ∈ o.op.operands, (fillP l 0 (fun i => listed.getD i false) V a).eval x = (fill l 0 V a).eval x := by
      intro x hx
      cases x with
      | tmp t =>
        have := hsame t (by
          unfold Oper.looksAt
          exact List.mem_append.2 (.inl (List.mem_filterMap.2 ⟨.tmp t, by simpa using hx, rfl⟩)))
        show (fillP l 0 (fun i => listed.getD i false) V a).tmps.getD t undef = (fill l 0 V a).tmps.getD t undef
        rw [Array.getD_eq_getD_getElem?, Array.getD_eq_getD_getElem?, this]
      | _ => rfl
    have hex : execOp (fillP l 0 (fun i => listed.getD i false) V a).eval o = execOp (fill l 0 V a).eval o :=
      execOp_congr o (Region.noSelect_spec hB3 i o · · ho) hev
    have hwant : Region.wanted o (yielded l.toArray (fillP l 0 (fun i => listed.getD i false) V a).tmps) = Region.wanted o (yielded l.toArray (fill l 0 V a).tmps) := by
      unfold Region.wanted
      cases hg : o.guard with
      | none => rfl
      | some jw =>
        obtain ⟨j, want⟩ := jw
        simp only
        congr 1
        unfold yielded
        cases hj : (l.toArray[j]?).bind (·.dst) with
        | none => rfl
        | some t =>
          simp only [Option.bind_some]
          rw [hsame t (by
            unfold Oper.looksAt
            refine List.mem_append.2 (.inr ?_)
            rw [hg]
            show t ∈ ((l.toArray[j]?).bind (·.dst)).toList
            rw [hj]
            simp)]
    have hdf : DepFacts S V w' o.after.toList := depFacts_of fun e he hb => by
      have hlt' := (hdeps i o ho').1 e (by simpa using he) hb
      exact hSV e.on (by omega) (hall e (by simpa using he) hb)
    have hdo : ∀ j, waitsB l.toArray i j = true → (fun i => listed.getD i false) j = true := fun j hw => by
      obtain ⟨o2, ho2, e, he, hb, rfl⟩ := waitsB_spec hw
      have : o2 = o := Option.some.inj (ho2.symm.trans ho)
      subst this
      exact hall e he hb
    have hone := (phStep_get hstep i o ho' (fun i => listed.getD i false) V w' hrel hJV (by rw [Nat.zero_add]; exact hlf) (by rw [Nat.zero_add]; exact hdo) hcl hdf).out
    rw [Nat.zero_add] at hone
    -- what it leaves
    have hK : ∀ v w'', PhPost Rel S J (fun i => listed.getD i false) V i o.dst w' .normal ((fill l 0 V a).put o.dst v) w'' → I (listed.setIfInBounds i true) ((fillP l 0 (fun i => listed.getD i false) V a).put o.dst v) w'' := by
      rintro v w'' ⟨⟨_, _, hrel', hv⟩, hJw⟩
      have hval : (o.dst.map fun d => ((fill l 0 V a).put o.dst v).tmps.getD d undef).getD undef = match o.dst with | some _ => v | none => undef := by
        cases hd : o.dst with
        | none => rfl
        | some d =>
          have hds := hlt i o d ho' hd
          simp only [Option.map_some, Option.getD_some]
          rw [Array.getD_eq_getD_getElem?, put_same, fill_eq, fillP_size, if_pos hds]
          rfl
      rw [hval] at hv hJw
      have hL : (fun k => (listed.setIfInBounds i true).getD k false) = updL (fun k => listed.getD k false) i := by
        funext k
        unfold updL
        by_cases hk : k = i
        · subst hk
          simp [hil']
        · rw [if_neg hk, getD_set_ne false (Ne.symm hk)]
      refine ⟨fun k => if k = i then (match o.dst with | some _ => v | none => undef) else V k, ?_, htrans _ _ _ hrel hrel', ?_, by rw [hL]; exact hJw, ?_⟩
      · refine act_ext ?_ ?_ ?_
        · rw [put_size, fillP_size, fillP_size]
        · intro t ht
          rw [put_size, fillP_size] at ht
          by_cases hot : o.dst = some t
          · have hput : ((fillP l 0 (fun i => listed.getD i false) V a).put o.dst v).tmps[t]? = some v := by rw [hot, put_same, fillP_size, if_pos ht]
            rw [hput]
            have := fillP_get l t 0 (fun k => (listed.setIfInBounds i true).getD k false) (fun k => if k = i then (match o.dst with | some _ => v | none => undef) else V k) a i o ho' hot (by simp [hil']) ht
              (fun j p hj hp => hun j i p o t hj ho' hp hot)
            rw [this]
            simp [hot]
          · rw [put_other hot]
            refine fillP_congr l t 0 _ _ _ _ a a rfl rfl fun j p hj hp => ?_
            have hne : j ≠ i := fun e => by
              subst e
              rw [hj] at ho'
              injection ho' with e
              exact hot (e ▸ hp)
            simp only [Nat.zero_add, if_neg hne]
            exact ⟨(getD_set_ne false (Ne.symm hne)).symm, trivial⟩
        · rw [put_def, fillP_def, fillP_def]
      · intro k hk hl
        by_cases hki : k = i
        · subst hki
          simp only [if_pos]
          exact hv
        · simp only [if_neg hki]
          rw [getD_set_ne false (Ne.symm hki)] at hl
          exact hS k _ _ _ hrel' (hSV k hk hl)
      · rw [hL]
        intro j k hw hj
        by_cases hji : j = i
        · subst hji
          exact updL_up (hdo k hw)
        · rw [updL_ne hji] at hj
          exact updL_up (hcl j k hw hj)
    unfold wpOp
    rw [ho]
    simp only
    rw [hwant]
    unfold wpList at hone
    split
    · rename_i hw
      rw [if_pos hw] at hone
      refine .inl (op_carry (Q' := PhPost Rel S J (fun i => listed.getD i false) V i o.dst w') hex (fun e x y h => ⟨h.1.1, h.1.2.1⟩) hK ?_)
      rcases hone with h | ⟨_, x, y, h⟩
      · exact h
      · cases h.1.1
    · rename_i hw
      rw [if_neg hw] at hone
      exact hK undef w' hone
  · intro listed a' w' hfull hI
    obtain ⟨V, rfl, hrel, hSV, hJV, hcl⟩ := hI
    have : fillP l 0 (fun i => listed.getD i false) V a = fill l 0 V a := by
      rw [fill_eq]
      refine act_ext (by rw [fillP_size, fillP_size]) (fun t _ => ?_) (by rw [fillP_def, fillP_def])
      refine fillP_congr l t 0 _ _ V V a a rfl rfl fun j p hj hp => ?_
      have hjl : j < l.length := (List.getElem?_eq_some_iff.1 hj).1
      simp only [Nat.zero_add]
      exact ⟨hfull j (by simpa using hjl), trivial⟩
    rw [this]
    exact hend (fun i => listed.getD i false) V w' (fun i hi => hfull i (by simpa using hi)) hrel (sFacts_of fun i hi => by rw [Nat.zero_add]; exact hSV i hi (hfull i (by simpa using hi))) hJV
  · unfold leftOf
    have := List.countP_le_length (p := fun b : Bool => b == false) (l := (Array.replicate l.toArray.size false).toList)
    simpa using this
  · refine ⟨fun _ => undef, ?_, hrefl _, fun i _ h => ?_, ?_, ?_⟩
    · have hnone : ∀ (l : List Oper) (k : Nat) (L : Nat → Bool) (V : Nat → Value) (a : Act), (∀ i, L i = false) → fillP l k L V a = a := by
        intro l
        induction l with
        | nil => intros; rfl
        | cons o l ih => intro k L V a hL; simp only [fillP, hL]; exact ih _ _ _ _ hL
      rw [hnone _ _ _ _ _ fun i => by simp [Array.getElem?_replicate]; split <;> rfl]
    · simp [Array.getElem?_replicate] at h
      split at h <;> simp at h
    · have e : (fun i => (Array.replicate l.toArray.size false).getD i false) = fun _ => false := by
        funext i
        simp [Array.getElem?_replicate]
        split <;> rfl
      rw [e]
      exact hJ0
    · intro j k _ h
      simp [Array.getElem?_replicate] at h
      split at h <;> simp at h

/-- what such a region's worlds have in common: but blocks g and r nothing that was there is changed -/
structure Way2 (g : Nat) (r : Option Nat) (w w' : World) : Prop where
  os : w'.os = w.os
  tape : w'.tape = w.tape
  output : w'.output = w.output
  size : w.heap.size ≤ w'.heap.size
  block : ∀ k, k < w.heap.size → k ≠ g → some k ≠ r → w'.heap[k]? = w.heap[k]?
theorem Way2.refl {g : Nat} {r : Option Nat} (w : World) : Way2 g r w w := ⟨rfl, rfl, rfl, Nat.le_refl _, fun _ _ _ _ => rfl⟩
theorem Way2.trans {g : Nat} {r : Option Nat} {x y z : World} (h : Way2 g r x y) (k : Way2 g r y z) : Way2 g r x z :=
  ⟨k.os.trans h.os, k.tape.trans h.tape, k.output.trans h.output, Nat.le_trans h.size k.size, fun i hi h1 h2 => (k.block i (Nat.lt_of_lt_of_le hi h.size) h1 h2).trans (h.block i hi h1 h2)⟩
theorem Way2.of_grown {g : Nat} {r : Option Nat} {w w' : World} (h : w.grownBy w' r) : Way2 g r w w' := ⟨h.os, h.tape, h.output, h.size, fun k hk _ hr => h.block k hk hr⟩
theorem Way2.of_put {g : Nat} {r : Option Nat} {w w' : World} (h : w.grownBy w' (some g)) : Way2 g r w w' := ⟨h.os, h.tape, h.output, h.size, fun k hk hg _ => h.block k hk (fun e => hg (by injection e))⟩
theorem Way2.of_below {g : Nat} {r : Option Nat} {w w' : World} (h : Below w.heap.size w w') : Way2 g r w w' := ⟨h.os, h.tape, h.output, h.size, fun k hk _ _ => h.block k hk⟩
end
end Go.Mun
