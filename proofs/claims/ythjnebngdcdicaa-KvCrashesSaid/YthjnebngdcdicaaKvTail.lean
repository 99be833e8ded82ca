/- A region whose first operations draw their order, and of which the others follow in a row. Over any program. -/
import Derived.Test.YthjnebngdcdicaaKvFn
import Derived.StillTail
namespace Go.Mun
open Go Go.RowKit

/-- as depsB, for the first operations -/
def depsH (l : List Oper) (n : Nat) : Bool :=
  (l.take n).zipIdx.all fun (o, i) => (o.after.toList.all fun e => !Region.binds .any e || decide (e.on < i)) &&
    (l.take n).zipIdx.all fun (p, j) => match p.dst with
      | some d => !(o.looksAt l.toArray).contains d || o.after.toList.any (fun e => Region.binds .any e && e.on == j)
      | none => true
def edgesB (l : List Oper) : Bool := l.zipIdx.all fun (o, i) => o.after.toList.all fun e => !Region.binds .any e || decide (e.on < i)
def headArr (n m : Nat) : Array Bool := (List.replicate n true ++ List.replicate m false).toArray
def headB (l : List Oper) (n : Nat) : Bool := dstsB (l.take n) && depsH l n && Region.noSelect l.toArray && edgesB l && decide (n < l.toArray.size) && Region.sinkB .any l.toArray n && Region.chainB .any l.toArray n &&
  Region.seqB .any l.toArray (l.toArray.size - n) n (headArr n (l.toArray.size - n))
theorem headArr_eq {ops : Array Oper} {n : Nat} {listed : Array Bool} (inv : HeadInv .any ops n listed) (hn : n < ops.size) (h : ∀ i, i < n → listed.getD i false = true) : listed = headArr n (ops.size - n) := by
  refine Array.ext (by simp [headArr, inv.size]; omega) fun i h1 h2 => ?_
  have hs := inv.size
  by_cases hi : i < n
  · have h3 := h i hi
    simp only [Array.getD, h1, dif_pos] at h3
    have h4 : listed[i] = true := h3
    rw [h4]
    simp [headArr, hi]
  · have h3 := inv.tail i (by omega) (by omega)
    simp only [Array.getD, h1, dif_pos] at h3
    have h4 : listed[i] = false := h3
    rw [h4]
    simp [headArr, List.getElem_append, hi]
theorem wpAny_inv_head {P : Program} {ops : Array Oper} {Q : Exit → Act → World → Prop} {n : Nat} (I : Array Bool → Act → World → Prop)
    (hd : ∀ i o, ops[i]? = some o → ∀ e ∈ o.after, Region.binds .any e = true → e.on < i)
    (hs : Region.sinkB .any ops n = true) (hc : Region.chainB .any ops n = true) (hn : n < ops.size)
    (hstep : ∀ listed a w i, i < n → listed.size = ops.size → i ∈ Region.ready .any ops listed → I listed a w → wpOp P ops Q i (fun a' w' => I (listed.setIfInBounds i true) a' w') a w)
    (hend : ∀ a w, (∀ i, i < n → (headArr n (ops.size - n)).getD i false = true) → I (headArr n (ops.size - n)) a w → wpAny P .any ops Q (ops.size - n) (headArr n (ops.size - n)) a w) :
    ∀ (fuel : Nat) (listed : Array Bool) (a : Act) (w : World), HeadInv .any ops n listed → leftOf listed = fuel → I listed a w → wpAny P .any ops Q fuel listed a w := by
  intro fuel
  induction fuel with
  | zero =>
    intro listed a w inv hf _
    exfalso
    have h1 := inv.tail n (Nat.le_refl _) hn
    have := leftOf_set h1
    omega
  | succ fuel ih =>
    intro listed a w inv hf hI
    by_cases hall : ∀ i, i < n → listed.getD i false = true
    · have e := headArr_eq inv hn hall
      have hl : leftOf listed = ops.size - n := by
        rw [e]
        unfold leftOf headArr
        simp [List.countP_replicate]
      rw [← hf, hl, e]
      rw [e] at hI hall
      exact hend a w hall hI
    · obtain ⟨i0, hi0⟩ : ∃ i, ¬ (i < n → listed.getD i false = true) := Classical.not_forall.1 hall
      have hi1 : i0 < n := Classical.byContradiction fun h => hi0 fun h' => absurd h' h
      have hi2 : listed.getD i0 true = false := getD_in (by rw [inv.size]; omega) (by
        cases h : listed.getD i0 false with
        | false => rfl
        | true => exact absurd (fun _ => h) hi0)
      refine ⟨fun hr => ?_, fun i hi => ?_⟩
      · have := ready_nil inv.size hd hr (i0 + 1) i0 (by omega) (by omega)
        exact absurd (fun _ => this) hi0
      · have hin : i < n := by
          rcases Nat.lt_or_ge i n with h | h
          · exact h
          · exact absurd hi (tail_waits hs hc hn inv _ i0 rfl hi1 hi2 i h)
        refine wpOp_mono (fun a' w' h => ih _ a' w' (inv.set hi hin) ?_ h) (hstep listed a w i hin inv.size hi hI)
        have := leftOf_set (mem_ready.1 hi).1
        omega

theorem wp_region_head {P : Program} {id : Nat} {l : List Oper} {Q : Exit → Act → World → Prop} {a : Act} {w : World} (n : Nat) (hm : P.follows .mixedOrders = true) (hB : headB l n = true)
    (hin : ((l.take n).all fun o => match o.dst with | some d => decide (d < a.tmps.size) | none => true) = true)
    (Rel : World → World → Prop) (hrefl : ∀ w, Rel w w) (htrans : ∀ x y z, Rel x y → Rel y z → Rel x z)
    (S : Nat → Value → World → Prop) (hS : ∀ i v x y, Rel x y → S i v x → S i v y)
    (hstep : EachStep P l.toArray Rel S w.drew (fun V => fill (l.take n) 0 V a) (l.take n) 0)
    (hend : ∀ (V : Nat → Value) (w' : World), Rel w.drew w' → SFacts S V w' (l.take n) 0 → wpList P l.toArray Q (l.drop n) (fill (l.take n) 0 V a) w') : (Code.region id l.toArray true).wp P Q a w := by
  simp only [headB, Bool.and_eq_true, decide_eq_true_eq] at hB
  obtain ⟨⟨⟨⟨⟨⟨⟨hB1, hB2⟩, hB3⟩, hB4⟩, hn⟩, hB5⟩, hB6⟩, hB7⟩ := hB
  have hn' : n < l.length := by simpa using hn
  have hnd : ((l.take n).filterMap (·.dst)).Nodup := of_decide_eq_true hB1
  have hun := dsts_unique (l.take n) hnd
  have hops : ∀ i : Nat, l.toArray[i]? = l[i]? := fun i => by simp
  have hedge : ∀ i o, l.toArray[i]? = some o → ∀ e ∈ o.after, Region.binds .any e = true → e.on < i := fun i o hi e he hb => by
    have hmem : (o, i) ∈ l.zipIdx := List.mk_mem_zipIdx_iff_getElem?.2 (by rw [← hops]; exact hi)
    have h1 := List.all_eq_true.1 hB4 _ hmem
    have := List.all_eq_true.1 h1 e (by simpa using he)
    simpa [hb] using this
  have hdeps : ∀ (i : Nat) (o : Oper), (l.take n)[i]? = some o → (∀ e ∈ o.after, Region.binds .any e = true → e.on < i) ∧
      ∀ (j : Nat) (p : Oper) (t : Tmp), (l.take n)[j]? = some p → p.dst = some t → t ∈ o.looksAt l.toArray → ∃ e ∈ o.after, Region.binds .any e = true ∧ e.on = j := by
    intro i o hi
    have hmem : (o, i) ∈ (l.take n).zipIdx := List.mk_mem_zipIdx_iff_getElem?.2 hi
    have h1 := List.all_eq_true.1 hB2 _ hmem
    simp only [Bool.and_eq_true] at h1
    refine ⟨fun e he hb => ?_, fun j p t hj hp ht => ?_⟩
    · have := List.all_eq_true.1 h1.1 e (by simpa using he)
      simpa [hb] using this
    · have hmem' : (p, j) ∈ (l.take n).zipIdx := List.mk_mem_zipIdx_iff_getElem?.2 hj
      have := List.all_eq_true.1 h1.2 _ hmem'
      simp only [hp] at this
      rw [Bool.or_eq_true] at this
      rcases this with h | h
      · have hc : (o.looksAt l.toArray).contains t = true := by simpa using ht
        rw [hc] at h
        cases h
      · obtain ⟨e, he, hb⟩ := List.any_eq_true.1 h
        simp only [Bool.and_eq_true, beq_iff_eq] at hb
        exact ⟨e, by simpa using he, hb.1, hb.2⟩
  have hlt : ∀ (i : Nat) (o : Oper) (t : Tmp), (l.take n)[i]? = some o → o.dst = some t → t < a.tmps.size := by
    intro i o t hi ho
    have := List.all_eq_true.1 hin o (List.mem_of_getElem? hi)
    simpa [ho] using this
  refine wp_region_any hm ?_
  let I : Array Bool → Act → World → Prop := fun listed a' w' => ∃ V : Nat → Value, a' = fillP (l.take n) 0 (fun i => listed.getD i false) V a ∧ Rel w.drew w' ∧
    ∀ i, i < (l.take n).length → listed.getD i false = true → S i (V i) w'
  refine wpAny_inv_head (n := n) I hedge hB5 hB6 hn ?_ ?_ _ _ _ _ ?_ ?_ ?_
  · intro listed a' w' i hin' hsz hr hI
    obtain ⟨V, rfl, hrel, hSV⟩ := hI
    obtain ⟨hun', o, ho, hall⟩ := mem_ready.1 hr
    have ho' : (l.take n)[i]? = some o := by rw [List.getElem?_take, if_pos hin', ← hops]; exact ho
    have hil : i < (l.take n).length := (List.getElem?_eq_some_iff.1 ho').1
    have hil' : i < listed.size := by rw [hsz]; exact (Array.getElem?_eq_some_iff.1 ho).1
    have hlf : listed.getD i false = false := by
      simp only [Array.getD, hil', dif_pos] at hun' ⊢
      exact hun'
    -- slots that it looks at: as in the full frame
    have hsame : ∀ t, t ∈ o.looksAt l.toArray → (fillP (l.take n) 0 (fun i => listed.getD i false) V a).tmps[t]? = (fill (l.take n) 0 V a).tmps[t]? := by
      intro t ht
      rw [fill_eq]
      refine fillP_congr (l.take n) t 0 _ _ V V a a rfl rfl fun j p hj hp => ?_
      obtain ⟨e, he, hb, hej⟩ := (hdeps i o ho').2 j p t hj hp ht
      have := hall e he hb
      rw [hej] at this
      simp only [Nat.zero_add]
      exact ⟨this, trivial⟩
    have hev : ∀ x ∈ o.op.operands, (fillP (l.take n) 0 (fun i => listed.getD i false) V a).eval x = (fill (l.take n) 0 V a).eval x := by
      intro x hx
      cases x with
      | tmp t =>
        have := hsame t (by
          unfold Oper.looksAt
          exact List.mem_append.2 (.inl (List.mem_filterMap.2 ⟨.tmp t, by simpa using hx, rfl⟩)))
        show (fillP (l.take n) 0 (fun i => listed.getD i false) V a).tmps.getD t undef = (fill (l.take n) 0 V a).tmps.getD t undef
        rw [Array.getD_eq_getD_getElem?, Array.getD_eq_getD_getElem?, this]
      | _ => rfl
    have hex : execOp (fillP (l.take n) 0 (fun i => listed.getD i false) V a).eval o = execOp (fill (l.take n) 0 V a).eval o :=
      execOp_congr o (Region.noSelect_spec hB3 i o · · ho) hev
    have hwant : Region.wanted o (yielded l.toArray (fillP (l.take n) 0 (fun i => listed.getD i false) V a).tmps) = Region.wanted o (yielded l.toArray (fill (l.take n) 0 V a).tmps) := by
      unfold Region.wanted
      cases hg : o.guard with
      | none => rfl
      | some jw =>
        obtain ⟨j, want⟩ := jw
        simp only
        congr 1
        unfold yielded
        cases hj : (l.toArray[j]?).bind (·.dst) with
        | none => rfl
        | some t =>
          simp only [Option.bind_some]
          rw [hsame t (by
            unfold Oper.looksAt
            refine List.mem_append.2 (.inr ?_)
            rw [hg]
            show t ∈ ((l.toArray[j]?).bind (·.dst)).toList
            rw [hj]
            simp)]
    have hdf : DepFacts S V w' o.after.toList := depFacts_of fun e he hb => by
      have hlt' := (hdeps i o ho').1 e (by simpa using he) hb
      exact hSV e.on (by omega) (hall e (by simpa using he) hb)
    have hone := (eachStep_get hstep i o ho' V w' hrel hdf).out
    rw [Nat.zero_add] at hone
    -- what it leaves
    have hK : ∀ v w'', OpPost Rel S i o.dst w' .normal ((fill (l.take n) 0 V a).put o.dst v) w'' → I (listed.setIfInBounds i true) ((fillP (l.take n) 0 (fun i => listed.getD i false) V a).put o.dst v) w'' := by
      rintro v w'' ⟨_, _, hrel', hv⟩
      refine ⟨fun k => if k = i then (match o.dst with | some _ => v | none => undef) else V k, ?_, htrans _ _ _ hrel hrel', ?_⟩
      · refine act_ext ?_ ?_ ?_
        · rw [put_size, fillP_size, fillP_size]
        · intro t ht
          rw [put_size, fillP_size] at ht
          by_cases hot : o.dst = some t
          · have hput : ((fillP (l.take n) 0 (fun i => listed.getD i false) V a).put o.dst v).tmps[t]? = some v := by rw [hot, put_same, fillP_size, if_pos ht]
            rw [hput]
            have := fillP_get (l.take n) t 0 (fun k => (listed.setIfInBounds i true).getD k false) (fun k => if k = i then (match o.dst with | some _ => v | none => undef) else V k) a i o ho' hot (by simp [hil']) ht
              (fun j p hj hp => hun j i p o t hj ho' hp hot)
            rw [this]
            simp [hot]
          · rw [put_other hot]
            refine fillP_congr (l.take n) t 0 _ _ _ _ a a rfl rfl fun j p hj hp => ?_
            have hne : j ≠ i := fun e => by
              subst e
              rw [hj] at ho'
              injection ho' with e
              exact hot (e ▸ hp)
            simp only [Nat.zero_add, if_neg hne]
            exact ⟨(getD_set_ne false (Ne.symm hne)).symm, trivial⟩
        · rw [put_def, fillP_def, fillP_def]
      · intro k hk hl
        by_cases hki : k = i
        · subst hki
          simp only [if_pos]
          have hval : (o.dst.map fun d => ((fill (l.take n) 0 V a).put o.dst v).tmps.getD d undef).getD undef = match o.dst with | some _ => v | none => undef := by
            cases hd : o.dst with
            | none => rfl
            | some d =>
              have hds := hlt k o d ho' hd
              simp only [Option.map_some, Option.getD_some]
              rw [Array.getD_eq_getD_getElem?, put_same, fill_eq, fillP_size, if_pos hds]
              rfl
          rw [hval] at hv
          exact hv
        · simp only [if_neg hki]
          rw [getD_set_ne false (Ne.symm hki)] at hl
          exact hS k _ _ _ hrel' (hSV k hk hl)
    unfold wpOp
    rw [ho]
    simp only
    rw [hwant]
    unfold wpList at hone
    split
    · rename_i hw
      rw [if_pos hw] at hone
      refine .inl (op_carry (Q' := OpPost Rel S i o.dst w') hex (fun e x y h => ⟨h.1, h.2.1⟩) hK ?_)
      rcases hone with h | ⟨_, x, y, h⟩
      · exact h
      · cases h.1
    · rename_i hw
      rw [if_neg hw] at hone
      exact hK undef w' hone
  · intro a' w' hfull hI
    obtain ⟨V, rfl, hrel, hSV⟩ := hI
    have : fillP (l.take n) 0 (fun i => (headArr n (l.toArray.size - n)).getD i false) V a = fill (l.take n) 0 V a := by
      rw [fill_eq]
      refine act_ext (by rw [fillP_size, fillP_size]) (fun t _ => ?_) (by rw [fillP_def, fillP_def])
      refine fillP_congr (l.take n) t 0 _ _ V V a a rfl rfl fun j p hj hp => ?_
      have hjl : j < (l.take n).length := (List.getElem?_eq_some_iff.1 hj).1
      simp only [Nat.zero_add]
      exact ⟨hfull j (by rw [List.length_take] at hjl; omega), trivial⟩
    rw [this]
    have hw := hend V w' hrel (sFacts_of fun i hi => by rw [Nat.zero_add]; exact hSV i hi (hfull i (by rw [List.length_take] at hi; omega)))
    have h5 := wpAny_of_seq (md := .any) (ops := l.toArray) (Q' := Q) (l.drop n) n (headArr n (l.toArray.size - n)) _ w' (fun j => by simp [List.getElem?_drop]) (by rw [List.length_drop]; simpa using hB7) hw
    rw [List.length_drop] at h5
    simpa using h5
  · exact ⟨by simp, fun j oj _ hl => (by rw [getD_replicate_false] at hl; cases hl), fun t _ ht => getD_in (by simpa using ht) (getD_replicate_false _ _)⟩
  · unfold leftOf
    simp [List.countP_replicate]
  · refine ⟨fun _ => undef, ?_, hrefl _, fun i _ h => ?_⟩
    · have hnone : ∀ (l : List Oper) (k : Nat) (L : Nat → Bool) (V : Nat → Value) (a : Act), (∀ i, L i = false) → fillP l k L V a = a := by
        intro l
        induction l with
        | nil => intros; rfl
        | cons o l ih => intro k L V a hL; simp only [fillP, hL]; exact ih _ _ _ _ hL
      rw [hnone _ _ _ _ _ fun i => by simp [Array.getElem?_replicate]; split <;> rfl]
    · simp [Array.getElem?_replicate] at h
      split at h <;> simp at h
end Go.Mun
