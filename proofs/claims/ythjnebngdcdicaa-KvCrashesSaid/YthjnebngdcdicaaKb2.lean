/- What the KV laws use of the parts that are shared, in one text (eseat.py). -/
import Derived.Test.YthjnebngdcdicaaKb1
import Derived.Orders
import Derived.Maps.RangeWalk
import Derived.Deep.DeepCutAuto
import Derived.Deep.CutBlock
import Derived.Outline
import Derived.StillTailTactics
-- FsNames
namespace Go.Mun
open Go Go.RowKit Go.Proofs Go.Maps

theorem idT_names (φ : Nat → Nat) (P : PL Nat) : (idT φ P).map (fun p => strV p.1) = P.map fun p => strV p.1 := by
  unfold idT mapP
  rw [List.map_map]
  rfl
theorem idT_rises {φ : Nat → Nat} {P : PL Nat} (h : Rises P) : Rises (idT φ P) := by
  unfold idT mapP Rises
  rw [List.pairwise_map]
  exact h
theorem idT_len (φ : Nat → Nat) (P : PL Nat) : (idT φ P).length = P.length := by
  unfold idT mapP
  rw [List.length_map]
section
variable {k p : Nat} {M : FSs} {φ : Nat → Nat} {o : Own} {K L : Nat} {w : World}
set_option maxRecDepth 100000 in
theorem Names_dead (h : RelP k p M φ o K L w) (hd : M.dead = true) : Calls Try.prog 36 #[.pointer (some ⟨p, 0, none⟩)] w fun e w' => e = .returned (.slice none 0 0) ∧ w = w' := by
  obtain ⟨bn, bs, vw, vk, hh⟩ := h.head
  have y6 := hh.blk.cellv (i := 6) rfl
  rw [hd] at y6
  clear hh h hd
  go_enter Try.func36, Try.ntmps36
  go_wp2
  go_ret
  exact ⟨rfl, rfl⟩
set_option maxRecDepth 100000 in
set_option maxHeartbeats 1000000 in
theorem Names_any (h : RelP k p M φ o K L w) (hd : M.dead = false) (hn : M.now.length ≤ 100000) : Calls Try.prog 36 #[.pointer (some ⟨p, 0, none⟩)] w fun e w' => ∃ v, e = .returned v ∧ w'.ownsRow w.heap.size 9 1 v M.now.length (M.now.map fun p => strV p.1) ∧ Below w.heap.size w w' := by
  obtain ⟨bn, bs, vw, vk, hh⟩ := h.head
  obtain ⟨N, hN, _⟩ := hh.now
  have y0 := hh.blk.cellv (i := 0) rfl
  have y6 := hh.blk.cellv (i := 6) rfl
  rw [hd] at y6
  have CK := Lib.hid (fun mb W => callsIn_wide.1 (Try.maps_Keys_52 mb W))
  have CS := Lib.hid (callsIn_wide.1 (Try.slices_Sorted_keys_51_52 bn N (encM (idT φ M.now)) RV w hN (by rw [enc_size, idT_len]; unfold maxLen; omega) (by rw [enc_size, idT_len]; omega)))
  have HT := Lib.hid (idT_rises (φ := φ) h.fine.rnow)
  have hz : w.heap.size < (w.alloc (.cells #[.map (some bn)] 65)).heap.size := by simp
  clear hh h hN hd
  go_enter Try.func36, Try.ntmps36
  go_wp2_with (first
    | (go_at_call 52; refine (CK.out _ _).mono ?_; rintro e w1 ⟨rfl, rfl⟩)
    | (go_at_call 51; refine CS.out.mono ?_; rintro e w2 ⟨v2, ss, rfl, hp2, ho2, _, hb2⟩)
    | fail)
  go_ret
  refine ⟨_, rfl, ?_, ((Below.refl _ w).alloc (Nat.le_refl _) _).trans (hb2.mono (Nat.le_of_lt hz))⟩
  have := own_base (sorted_keys HT.out hp2 ho2) (Nat.le_of_lt hz)
  rw [idT_names, idT_len] at this
  exact this
end
/-- bools in memory -/
def Bools (w : World) (v : Value) (l : List Bool) : Prop := ∃ A n c, v = .slice A n c ∧ l.length = n ∧ n ≤ c ∧ c ≤ maxLen ∧ Rd w A (l.map .bool)
theorem Bools.of_slice {w : World} {v : Value} {l : List Bool} (h : SliceOf 1 rBool w v l) : Bools w v l := by
  obtain ⟨A, n, c, xs, rfl, g1, g2, g3, g4, g5, g6⟩ := h
  refine ⟨A, n, c, rfl, g1, g3, g4, ?_⟩
  have e : l.map Value.bool = xs := by
    apply List.ext_getElem
    · rw [List.length_map]; omega
    · intro i h1 h2
      rw [List.length_map] at h1
      have := g6 i h1
      have e2 : (chunk xs 1 i)[0]? = some (.bool l[i]) := by rw [this]; rfl
      unfold chunk at e2
      rw [List.getElem?_take, if_pos (by omega), List.getElem?_drop, Nat.mul_one, Nat.add_zero, List.getElem?_eq_getElem h2] at e2
      injection e2 with e2
      rw [List.getElem_map]
      exact e2.symm
  rw [e]
  exact g5
theorem boolsTy : SliceTy Try.prog 56 4 (.bool false) 1 1 := SliceTy.mk' Try.underlying56 (by kernel_rfl) rfl (by decide)
theorem bools_one {l : List Bool} : ∀ u ∈ l.map Value.bool, u.oneCell' = true := by
  intro u hu
  obtain ⟨b, _, rfl⟩ := List.mem_map.1 hu
  rfl
set_option maxRecDepth 100000 in
set_option maxHeartbeats 400000 in
theorem BoolClone_any (v : Value) (l : List Bool) (w : World) (hv : Bools w v l) (hl : l.length ≤ 140737488355328) :
    Calls Try.prog 40 #[v] w fun e w' => ∃ v', e = .returned v' ∧ w'.ownsRow w.heap.size 4 1 v' l.length (l.map .bool) ∧ Below w.heap.size w w' := by
  have hT := boolsTy
  obtain ⟨A, n, c, rfl, h1, h2, h3, h4⟩ := hv
  have hq : ∀ (w : World) (a : Option Addr) (n c n' c' : Nat), (binOp .eql 56 (.slice a n c) (.slice none n' c')).run Try.prog w = .ok (.bool a.isNone) w := fun w a n c n' c' => Lib.run_eql_slice_nil w _ _ a n c n' c' Try.underlying56
  cases A with
  | none =>
    have e : l = [] := by
      cases l with
      | nil => rfl
      | cons x l => obtain ⟨_, e, _⟩ := h4 0 (.bool x) rfl; cases e
    go_enter Try.func40, Try.ntmps40
    go_wp2
    go_ret
    exact ⟨_, rfl, by rw [e]; exact ⟨rfl, .inl ⟨rfl, rfl⟩⟩, Below.refl _ _⟩
  | some ad =>
    have ho : (w.alloc (.cells #[] 4)).ownsRow w.heap.size 4 1 (.slice (some ⟨w.heap.size, 0, none⟩) 0 0) 0 [] := own_new_at (Nat.le_refl _) rfl 4 #[] rfl (by simp [maxLen]) rfl
    have hB : Below w.heap.size w (w.alloc (.cells #[] 4)) := (Below.refl _ _).alloc (Nat.le_refl _) _
    have hr := h4.ext hB
    have hln : (l.map Value.bool).length = n * 1 := by rw [List.length_map]; omega
    subst h1
    go_enter Try.func40, Try.ntmps40
    go_wp2_with (first
      | (at_builtin; refine wpList_append_rd _ rfl (.tmp 5) (.tmp 6) _ rfl w.heap.size _ _ 1 1 hT _ _ _ rfl ho (some ad) l.length c (l.map .bool) rfl hln hr bools_one (by unfold maxLen; omega) (by omega) hB.size ?_; intro v3 w3 ho3 hg3 hat3)
      | fail)
    go_ret
    exact ⟨_, rfl, by simpa using ho3, below_own hB ho (Nat.le_refl _) hg3 hB.size⟩
end Go.Mun

-- Region
namespace Go.Mun
open Go Go.RowKit

/-- The frame behind the operations that are listed. -/
def fillP : List Oper → Nat → (Nat → Bool) → (Nat → Value) → Act → Act
  | [], _, _, _, a => a
  | o :: l, k, L, V, a => fillP l (k + 1) L V (if L k then a.put o.dst (V k) else a)
/-- The frame behind all of them. -/
def fill : List Oper → Nat → (Nat → Value) → Act → Act
  | [], _, _, a => a
  | o :: l, k, V, a => fill l (k + 1) V (a.put o.dst (V k))

theorem put_size (a : Act) (d : Option Tmp) (v : Value) : (a.put d v).tmps.size = a.tmps.size := by cases d <;> simp [Act.put]
theorem put_def (a : Act) (d : Option Tmp) (v : Value) : (a.put d v).defers = a.defers := by cases d <;> rfl
theorem put_other {a : Act} {d : Option Tmp} {v : Value} {t : Nat} (h : d ≠ some t) : (a.put d v).tmps[t]? = a.tmps[t]? := by
  cases d with
  | none => rfl
  | some d => exact Array.getElem?_setIfInBounds_ne (fun e => h (by rw [e]))
theorem put_same {a : Act} {t : Nat} {v : Value} : (a.put (some t) v).tmps[t]? = if t < a.tmps.size then some v else none := by
  simp [Act.put, Array.getElem?_setIfInBounds]

theorem fillP_size (l : List Oper) : ∀ (k : Nat) (L : Nat → Bool) (V : Nat → Value) (a : Act), (fillP l k L V a).tmps.size = a.tmps.size := by
  induction l with
  | nil => intros; rfl
  | cons o l ih => intro k L V a; simp only [fillP]; rw [ih]; split <;> simp [put_size]
theorem fillP_def (l : List Oper) : ∀ (k : Nat) (L : Nat → Bool) (V : Nat → Value) (a : Act), (fillP l k L V a).defers = a.defers := by
  induction l with
  | nil => intros; rfl
  | cons o l ih => intro k L V a; simp only [fillP]; rw [ih]; split <;> simp [put_def]
theorem fill_eq (l : List Oper) : ∀ (k : Nat) (V : Nat → Value) (a : Act), fill l k V a = fillP l k (fun _ => true) V a := by
  induction l with
  | nil => intros; rfl
  | cons o l ih => intro k V a; simp only [fill, fillP, if_true]; exact ih _ _ _

theorem fillP_congr (l : List Oper) (t : Nat) : ∀ (k : Nat) (L L' : Nat → Bool) (V V' : Nat → Value) (a a' : Act), a.tmps.size = a'.tmps.size → a.tmps[t]? = a'.tmps[t]? →
    (∀ j o, l[j]? = some o → o.dst = some t → L (k + j) = L' (k + j) ∧ V (k + j) = V' (k + j)) → (fillP l k L V a).tmps[t]? = (fillP l k L' V' a').tmps[t]? := by
  induction l with
  | nil => intro k L L' V V' a a' _ h _; exact h
  | cons o l ih =>
    intro k L L' V V' a a' hs h hd
    simp only [fillP]
    refine ih (k + 1) L L' V V' _ _ ?_ ?_ fun j o' hj ho => ?_
    · split <;> split <;> simp [put_size, hs]
    · by_cases ho : o.dst = some t
      · obtain ⟨h1, h2⟩ := hd 0 o rfl ho
        simp only [Nat.add_zero] at h1 h2
        rw [h1, h2, ho]
        split
        · rw [put_same, put_same, hs]
        · exact h
      · have e : ∀ (b : Bool) (x : Act) (v : Value), (if b then x.put o.dst v else x).tmps[t]? = x.tmps[t]? := by
          intro b x v
          cases b
          · rfl
          · exact put_other ho
        rw [e, e, h]
    · have := hd (j + 1) o' (by simpa using hj) ho
      rw [show k + 1 + j = k + (j + 1) from by omega]
      exact this
/-- What the one operation that writes slot t has written is there. -/
theorem fillP_get (l : List Oper) (t : Nat) : ∀ (k : Nat) (L : Nat → Bool) (V : Nat → Value) (a : Act) (i : Nat) (o : Oper), l[i]? = some o → o.dst = some t → L (k + i) = true → t < a.tmps.size →
    (∀ j o', l[j]? = some o' → o'.dst = some t → j = i) → (fillP l k L V a).tmps[t]? = some (V (k + i)) := by
  induction l with
  | nil => intro k L V a i o hi; simp at hi
  | cons o l ih =>
    intro k L V a i o' hi ho hL ht hu
    simp only [fillP]
    cases i with
    | zero =>
      simp only [List.getElem?_cons_zero, Option.some.injEq] at hi
      subst hi
      simp only [Nat.add_zero] at hL ⊢
      rw [hL, if_pos rfl, ho]
      have h0 : (fillP l (k + 1) L V (a.put (some t) (V k))).tmps[t]? = (fillP [] (k + 1) L V (a.put (some t) (V k))).tmps[t]? := by
        have := fillP_congr l t (k + 1) L (fun _ => false) V V (a.put (some t) (V k)) (a.put (some t) (V k)) rfl rfl (fun j o' hj hd => by
          have := hu (j + 1) o' (by simpa using hj) hd
          omega)
        rw [this]
        have hnone : ∀ (l : List Oper) (k : Nat) (a : Act), fillP l k (fun _ => false) V a = a := by
          intro l
          induction l with
          | nil => intros; rfl
          | cons o l ih => intro k a; simp only [fillP]; exact ih _ _
        rw [hnone]; rfl
      rw [h0]
      show (a.put (some t) (V k)).tmps[t]? = _
      rw [put_same, if_pos ht]
    | succ i =>
      rw [show k + (i + 1) = k + 1 + i from by omega] at hL ⊢
      refine ih (k + 1) L V _ i o' (by simpa using hi) ho hL (by split <;> simp [put_size, ht]) fun j o'' hj hd => ?_
      have := hu (j + 1) o'' (by simpa using hj) hd
      omega

theorem act_ext {a b : Act} (hs : a.tmps.size = b.tmps.size) (ht : ∀ t, t < a.tmps.size → a.tmps[t]? = b.tmps[t]?) (hd : a.defers = b.defers) : a = b := by
  obtain ⟨ta, da⟩ := a
  obtain ⟨tb, db⟩ := b
  simp only at hs ht hd
  subst hd
  have : ta = tb := Array.ext hs fun i h1 h2 => by
    have := ht i h1
    rw [Array.getElem?_eq_getElem h1, Array.getElem?_eq_getElem h2] at this
    simpa using this
  rw [this]

/-- No two operations write one slot. -/
def dstsB (l : List Oper) : Bool := decide ((l.filterMap (·.dst)).Nodup)
/-- Each operation waits, by an edge of its own that binds, for whoever writes a slot that it looks at; edges lead to earlier ones. -/
def depsB (l : List Oper) : Bool :=
  l.zipIdx.all fun (o, i) => (o.after.toList.all fun e => !Region.binds .any e || decide (e.on < i)) &&
    l.zipIdx.all fun (p, j) => match p.dst with
      | some d => !(o.looksAt l.toArray).contains d || o.after.toList.any (fun e => Region.binds .any e && e.on == j)
      | none => true
def regionB (l : List Oper) : Bool := dstsB l && depsB l && Region.noSelect l.toArray

theorem dsts_unique : ∀ (l : List Oper), (l.filterMap (·.dst)).Nodup → ∀ (i j : Nat) (o p : Oper) (t : Nat), l[i]? = some o → l[j]? = some p → o.dst = some t → p.dst = some t → i = j
  | [], _, i, _, _, _, _, hi, _, _, _ => by simp at hi
  | o :: l, hn, i, j, o1, o2, t, hi, hj, h1, h2 => by
    have hmem : ∀ (k : Nat) (p : Oper), l[k]? = some p → p.dst = some t → t ∈ l.filterMap (·.dst) := fun k p hk hp =>
      List.mem_filterMap.2 ⟨p, List.mem_of_getElem? hk, hp⟩
    have hn' : (l.filterMap (·.dst)).Nodup := by
      rw [List.filterMap_cons] at hn
      split at hn
      · exact hn
      · exact (List.nodup_cons.1 hn).2
    have hno : o.dst = some t → t ∉ l.filterMap (·.dst) := fun e => by
      rw [List.filterMap_cons, e] at hn
      exact (List.nodup_cons.1 hn).1
    cases i with
    | zero =>
      simp only [List.getElem?_cons_zero, Option.some.injEq] at hi
      subst hi
      cases j with
      | zero => rfl
      | succ j => exact absurd (hmem j o2 (by simpa using hj) h2) (hno h1)
    | succ i =>
      cases j with
      | zero =>
        simp only [List.getElem?_cons_zero, Option.some.injEq] at hj
        subst hj
        exact absurd (hmem i o1 (by simpa using hi) h1) (hno h2)
      | succ j => rw [dsts_unique l hn' i j o1 o2 t (by simpa using hi) (by simpa using hj) h1 h2]

section
variable {P : Program} {ops : Array Oper}

theorem ready_nil {listed : Array Bool} (hs : listed.size = ops.size) (hd : ∀ i o, ops[i]? = some o → ∀ e ∈ o.after, Region.binds .any e = true → e.on < i)
    (h : Region.ready .any ops listed = []) : ∀ n i, i < n → i < ops.size → listed.getD i false = true := by
  intro n
  induction n with
  | zero => intro i h; omega
  | succ n ih =>
    intro i hi hlt
    by_cases hin : i < n
    · exact ih i hin hlt
    · obtain rfl : i = n := by omega
      cases hl : listed.getD i false with
      | true => rfl
      | false =>
        exfalso
        have hmem : i ∈ Region.ready .any ops listed := by
          rw [mem_ready]
          refine ⟨?_, ops[i], Array.getElem?_eq_getElem hlt, fun e he hb => ?_⟩
          · have hlt' : i < listed.size := by omega
            simp only [Array.getD, hlt', dif_pos] at hl ⊢
            exact hl
          · have := hd i _ (Array.getElem?_eq_getElem hlt) e he hb
            exact ih e.on (by omega) (by omega)
        rw [h] at hmem
        cases hmem

def leftOf (listed : Array Bool) : Nat := listed.toList.countP (· == false)

theorem leftOf_set {listed : Array Bool} {i : Nat} (h : listed.getD i true = false) : leftOf (listed.setIfInBounds i true) + 1 = leftOf listed := by
  have hlt : i < listed.size := by
    rcases Nat.lt_or_ge i listed.size with h' | h'
    · exact h'
    · simp [Array.getElem?_eq_none h'] at h
  have hv : listed[i] = false := by simpa [Array.getD, hlt] using h
  unfold leftOf
  rw [Array.toList_setIfInBounds]
  have hl : i < listed.toList.length := by simpa using hlt
  have e : listed.toList = listed.toList.take i ++ (false :: listed.toList.drop (i + 1)) := by
    have := List.take_append_drop i listed.toList
    rw [List.drop_eq_getElem_cons hl] at this
    have h2 : listed.toList[i] = false := by simpa using hv
    rw [h2] at this
    exact this.symm
  have e2 : listed.toList.set i true = listed.toList.take i ++ (true :: listed.toList.drop (i + 1)) := by
    rw [List.set_eq_take_append_cons_drop, if_pos hl]
  rw [e2]
  conv => rhs; rw [e]
  simp only [List.countP_append, List.countP_cons]
  simp
  omega

theorem wpAny_inv {Q : Exit → Act → World → Prop} (I : Array Bool → Act → World → Prop)
    (hd : ∀ i o, ops[i]? = some o → ∀ e ∈ o.after, Region.binds .any e = true → e.on < i)
    (hstep : ∀ listed a w i, listed.size = ops.size → i ∈ Region.ready .any ops listed → I listed a w → wpOp P ops Q i (fun a' w' => I (listed.setIfInBounds i true) a' w') a w)
    (hend : ∀ listed a w, (∀ i, i < ops.size → listed.getD i false = true) → I listed a w → Q .normal a w) :
    ∀ (fuel : Nat) (listed : Array Bool) (a : Act) (w : World), listed.size = ops.size → leftOf listed ≤ fuel → I listed a w → wpAny P .any ops Q fuel listed a w := by
  have hfin : ∀ listed a w, listed.size = ops.size → Region.ready .any ops listed = [] → I listed a w → Q .normal a w := fun listed a w hs hr hI =>
    hend listed a w (fun i hi => ready_nil hs hd hr (i + 1) i (by omega) hi) hI
  intro fuel
  induction fuel with
  | zero =>
    intro listed a w hs hc hI
    have hr : Region.ready .any ops listed = [] := by
      cases h : Region.ready .any ops listed with
      | nil => rfl
      | cons i rs =>
        have hm : i ∈ Region.ready .any ops listed := by rw [h]; simp
        have := leftOf_set (mem_ready.1 hm).1
        omega
    exact ⟨hr, hfin listed a w hs hr hI⟩
  | succ fuel ih =>
    intro listed a w hs hc hI
    refine ⟨fun hr => hfin listed a w hs hr hI, fun i hi => ?_⟩
    refine wpOp_mono (fun a' w' h => ih _ a' w' (by simpa using hs) ?_ h) (hstep listed a w i hs hi hI)
    have := leftOf_set (mem_ready.1 hi).1
    omega

/-- The word in which one operation of such a region is walked: it ends as it should, the world has gone on as it may, what it wrote is as it is said to be. -/
def OpPost (Rel : World → World → Prop) (S : Nat → Value → World → Prop) (i : Nat) (d : Option Tmp) (w : World) : Exit → Act → World → Prop :=
  fun e a' w' => e = .normal ∧ a'.defers = [] ∧ Rel w w' ∧ S i ((d.map fun d => a'.tmps.getD d undef).getD undef) w'

theorem op_carry {o : Oper} {a b : Act} {w : World} {Q Q' : Exit → Act → World → Prop} {K : Act → World → Prop}
    (he : execOp a.eval o = execOp b.eval o) (hQ' : ∀ e x y, Q' e x y → e = .normal ∧ x.defers = [])
    (hK : ∀ v w', Q' .normal (b.put o.dst v) w' → K (a.put o.dst v) w')
    (h : o.wp P b w (Q' .normal) Q') : o.wp P a w K Q := by
  unfold Oper.wp at h ⊢
  rw [he]
  generalize (execOp b.eval o).run P w = r at h ⊢
  cases r with
  | ok n w' =>
    cases n <;> simp only [Oper.upon] at h ⊢
    case value v => exact hK v w' h
    case skip => exact hK undef w' h
    case defer d =>
      have := (hQ' _ _ _ h).2
      rw [put_def] at this
      cases this
    case enter f args =>
      exact Calls.mono h fun e w'' he => by
        cases e with
        | returned v => exact hK v w'' he
        | panicked chain => have := (hQ' _ _ _ he).1; cases this
        | outgrown => obtain ⟨x, y, hxy⟩ := he; have := (hQ' _ _ _ hxy).1; cases this
    case row row args => exact Rows.mono h fun v w'' hv => hK v w'' hv
  | halt x w' =>
    cases x <;> simp only [Oper.upon] at h ⊢
    have := (hQ' _ _ _ h).1
    cases this

/-- What an operation may lean on: the words of those that it waits for. -/
def DepFacts (S : Nat → Value → World → Prop) (V : Nat → Value) (w : World) : List Edge → Prop
  | [] => True
  | e :: es => (Region.binds .any e = true → S e.on (V e.on) w) ∧ DepFacts S V w es
theorem depFacts_of {S : Nat → Value → World → Prop} {V : Nat → Value} {w : World} : ∀ {es : List Edge}, (∀ e ∈ es, Region.binds .any e = true → S e.on (V e.on) w) → DepFacts S V w es
  | [], _ => trivial
  | e :: es, h => ⟨h e (by simp), depFacts_of fun e' he' => h e' (by simp [he'])⟩

/-- One operation to be walked; a structure, so that no tactic looks behind it before it is opened ('refine ⟨?_⟩'). -/
structure OneStep (P : Program) (ops : Array Oper) (Q : Exit → Act → World → Prop) (o : Oper) (a : Act) (w : World) : Prop where
  out : wpList P ops Q [o] a w

/-- Every operation, one behind the other, each in a world and over values of which nothing more is known than what was said. -/
def EachStep (P : Program) (ops : Array Oper) (Rel : World → World → Prop) (S : Nat → Value → World → Prop) (w0 : World) (F : (Nat → Value) → Act) : List Oper → Nat → Prop
  | [], _ => True
  | o :: l, k => (∀ (V : Nat → Value) (w : World), Rel w0 w → DepFacts S V w o.after.toList → OneStep P ops (OpPost Rel S k o.dst w) o (F V) w) ∧ EachStep P ops Rel S w0 F l (k + 1)
theorem eachStep_get {Rel : World → World → Prop} {S : Nat → Value → World → Prop} {w0 : World} {F : (Nat → Value) → Act} : ∀ {l : List Oper} {k : Nat}, EachStep P ops Rel S w0 F l k →
    ∀ i o, l[i]? = some o → ∀ (V : Nat → Value) (w : World), Rel w0 w → DepFacts S V w o.after.toList → OneStep P ops (OpPost Rel S (k + i) o.dst w) o (F V) w
  | [], _, _, i, o, h => by simp at h
  | o :: l, k, h, i, o', hi => by
    cases i with
    | zero =>
      simp only [List.getElem?_cons_zero, Option.some.injEq] at hi
      subst hi
      exact h.1
    | succ i =>
      have := eachStep_get h.2 i o' (by simpa using hi)
      rw [show k + (i + 1) = k + 1 + i from by omega]
      exact this

def SFacts (S : Nat → Value → World → Prop) (V : Nat → Value) (w : World) : List Oper → Nat → Prop
  | [], _ => True
  | _ :: l, k => S k (V k) w ∧ SFacts S V w l (k + 1)
theorem sFacts_of {S : Nat → Value → World → Prop} {V : Nat → Value} {w : World} : ∀ {l : List Oper} {k : Nat}, (∀ i, i < l.length → S (k + i) (V (k + i)) w) → SFacts S V w l k
  | [], _, _ => trivial
  | _ :: l, k, h => ⟨by simpa using h 0 (by simp), sFacts_of fun i hi => by rw [show k + 1 + i = k + (i + 1) from by omega]; exact h (i + 1) (by simpa using hi)⟩

theorem wp_region_each {id : Nat} {l : List Oper} {Q : Exit → Act → World → Prop} {a : Act} {w : World} (hm : P.follows .mixedOrders = true) (hB : regionB l = true)
    (hin : (l.all fun o => match o.dst with | some d => decide (d < a.tmps.size) | none => true) = true)
    (Rel : World → World → Prop) (hrefl : ∀ w, Rel w w) (htrans : ∀ x y z, Rel x y → Rel y z → Rel x z)
    (S : Nat → Value → World → Prop) (hS : ∀ i v x y, Rel x y → S i v x → S i v y)
    (hstep : EachStep P l.toArray Rel S w.drew (fun V => fill l 0 V a) l 0)
    (hend : ∀ (V : Nat → Value) (w' : World), Rel w.drew w' → SFacts S V w' l 0 → Q .normal (fill l 0 V a) w') : (Code.region id l.toArray true).wp P Q a w := by
  simp only [regionB, Bool.and_eq_true] at hB
  obtain ⟨⟨hB1, hB2⟩, hB3⟩ := hB
  have hnd : (l.filterMap (·.dst)).Nodup := of_decide_eq_true hB1
  have hun := dsts_unique l hnd
  have hdeps : ∀ (i : Nat) (o : Oper), l[i]? = some o → (∀ e ∈ o.after, Region.binds .any e = true → e.on < i) ∧
      ∀ (j : Nat) (p : Oper) (t : Tmp), l[j]? = some p → p.dst = some t → t ∈ o.looksAt l.toArray → ∃ e ∈ o.after, Region.binds .any e = true ∧ e.on = j := by
    intro i o hi
    have hmem : (o, i) ∈ l.zipIdx := List.mk_mem_zipIdx_iff_getElem?.2 hi
    have h1 := List.all_eq_true.1 hB2 _ hmem
    simp only [Bool.and_eq_true] at h1
    refine ⟨fun e he hb => ?_, fun j p t hj hp ht => ?_⟩
    · have := List.all_eq_true.1 h1.1 e (by simpa using he)
      simpa [hb] using this
    · have hmem' : (p, j) ∈ l.zipIdx := List.mk_mem_zipIdx_iff_getElem?.2 hj
      have := List.all_eq_true.1 h1.2 _ hmem'
      simp only [hp] at this
      rw [Bool.or_eq_true] at this
      rcases this with h | h
      · have hc : (o.looksAt l.toArray).contains t = true := by simpa using ht
        rw [hc] at h
        cases h
      · obtain ⟨e, he, hb⟩ := List.any_eq_true.1 h
        simp only [Bool.and_eq_true, beq_iff_eq] at hb
        exact ⟨e, by simpa using he, hb.1, hb.2⟩
  have hlt : ∀ (i : Nat) (o : Oper) (t : Tmp), l[i]? = some o → o.dst = some t → t < a.tmps.size := by
    intro i o t hi ho
    have := List.all_eq_true.1 hin o (List.mem_of_getElem? hi)
    simpa [ho] using this
  have hops : ∀ i : Nat, l.toArray[i]? = l[i]? := fun i => by simp
  refine wp_region_any hm ?_
  let I : Array Bool → Act → World → Prop := fun listed a' w' => ∃ V : Nat → Value, a' = fillP l 0 (fun i => listed.getD i false) V a ∧ Rel w.drew w' ∧
    ∀ i, i < l.length → listed.getD i false = true → S i (V i) w'
  refine wpAny_inv I (fun i o hi => (hdeps i o (by rw [← hops]; exact hi)).1) ?_ ?_ _ _ _ _ (by simp) ?_ ?_
  · intro listed a' w' i hsz hr hI
    obtain ⟨V, rfl, hrel, hSV⟩ := hI
    obtain ⟨hun', o, ho, hall⟩ := mem_ready.1 hr
    have ho' : l[i]? = some o := by rw [← hops]; exact ho
    have hil : i < l.length := (List.getElem?_eq_some_iff.1 ho').1
    have hil' : i < listed.size := by rw [hsz]; simpa using hil
    have hlf : listed.getD i false = false := by
      simp only [Array.getD, hil', dif_pos] at hun' ⊢
      exact hun'
    -- slots that it looks at: al in the full frame
    have hsame : ∀ t, t ∈ o.looksAt l.toArray → (fillP l 0 (fun i => listed.getD i false) V a).tmps[t]? = (fill l 0 V a).tmps[t]? := by
      intro t ht
      rw [fill_eq]
      refine fillP_congr l t 0 _ _ V V a a rfl rfl fun j p hj hp => ?_
      obtain ⟨e, he, hb, hej⟩ := (hdeps i o ho').2 j p t hj hp ht
      have := hall e he hb
      rw [hej] at this
      simp only [Nat.zero_add]
      exact ⟨this, trivial⟩
    have hev : ∀ x ∈ o.op.operands, (fillP l 0 (fun i => listed.getD i false) V a).eval x = (fill l 0 V a).eval x := by
      intro x hx
      cases x with
      | tmp t =>
        have := hsame t (by
          unfold Oper.looksAt
          exact List.mem_append.2 (.inl (List.mem_filterMap.2 ⟨.tmp t, by simpa using hx, rfl⟩)))
        show (fillP l 0 (fun i => listed.getD i false) V a).tmps.getD t undef = (fill l 0 V a).tmps.getD t undef
        rw [Array.getD_eq_getD_getElem?, Array.getD_eq_getD_getElem?, this]
      | _ => rfl
    have hex : execOp (fillP l 0 (fun i => listed.getD i false) V a).eval o = execOp (fill l 0 V a).eval o :=
      execOp_congr o (Region.noSelect_spec hB3 i o · · ho) hev
    have hwant : Region.wanted o (yielded l.toArray (fillP l 0 (fun i => listed.getD i false) V a).tmps) = Region.wanted o (yielded l.toArray (fill l 0 V a).tmps) := by
      unfold Region.wanted
      cases hg : o.guard with
      | none => rfl
      | some jw =>
        obtain ⟨j, want⟩ := jw
        simp only
        congr 1
        unfold yielded
        cases hj : (l.toArray[j]?).bind (·.dst) with
        | none => rfl
        | some t =>
          simp only [Option.bind_some]
          rw [hsame t (by
            unfold Oper.looksAt
            refine List.mem_append.2 (.inr ?_)
            rw [hg]
            show t ∈ ((l.toArray[j]?).bind (·.dst)).toList
            rw [hj]
            simp)]
    have hdf : DepFacts S V w' o.after.toList := depFacts_of fun e he hb => by
      have hlt' := (hdeps i o ho').1 e (by simpa using he) hb
      exact hSV e.on (by omega) (hall e (by simpa using he) hb)
    have hone := (eachStep_get hstep i o ho' V w' hrel hdf).out
    rw [Nat.zero_add] at hone
    -- what it leaves
    have hK : ∀ v w'', OpPost Rel S i o.dst w' .normal ((fill l 0 V a).put o.dst v) w'' → I (listed.setIfInBounds i true) ((fillP l 0 (fun i => listed.getD i false) V a).put o.dst v) w'' := by
      rintro v w'' ⟨_, _, hrel', hv⟩
      refine ⟨fun k => if k = i then (match o.dst with | some _ => v | none => undef) else V k, ?_, htrans _ _ _ hrel hrel', ?_⟩
      · refine act_ext ?_ ?_ ?_
        · rw [put_size, fillP_size, fillP_size]
        · intro t ht
          rw [put_size, fillP_size] at ht
          by_cases hot : o.dst = some t
          · have hput : ((fillP l 0 (fun i => listed.getD i false) V a).put o.dst v).tmps[t]? = some v := by rw [hot, put_same, fillP_size, if_pos ht]
            rw [hput]
            have := fillP_get l t 0 (fun k => (listed.setIfInBounds i true).getD k false) (fun k => if k = i then (match o.dst with | some _ => v | none => undef) else V k) a i o ho' hot (by simp [hil']) ht
              (fun j p hj hp => hun j i p o t hj ho' hp hot)
            rw [this]
            simp [hot]
          · rw [put_other hot]
            refine fillP_congr l t 0 _ _ _ _ a a rfl rfl fun j p hj hp => ?_
            have hne : j ≠ i := fun e => by
              subst e
              rw [hj] at ho'
              injection ho' with e
              exact hot (e ▸ hp)
            simp only [Nat.zero_add, if_neg hne]
            exact ⟨(getD_set_ne false (Ne.symm hne)).symm, trivial⟩
        · rw [put_def, fillP_def, fillP_def]
      · intro k hk hl
        by_cases hki : k = i
        · subst hki
          simp only [if_pos]
          have hval : (o.dst.map fun d => ((fill l 0 V a).put o.dst v).tmps.getD d undef).getD undef = match o.dst with | some _ => v | none => undef := by
            cases hd : o.dst with
            | none => rfl
            | some d =>
              have hds := hlt k o d ho' hd
              simp only [Option.map_some, Option.getD_some]
              rw [Array.getD_eq_getD_getElem?, put_same, fill_eq, fillP_size, if_pos hds]
              rfl
          rw [hval] at hv
          exact hv
        · simp only [if_neg hki]
          rw [getD_set_ne false (Ne.symm hki)] at hl
          exact hS k _ _ _ hrel' (hSV k hk hl)
    unfold wpOp
    rw [ho]
    simp only
    rw [hwant]
    unfold wpList at hone
    split
    · rename_i hw
      rw [if_pos hw] at hone
      refine .inl (op_carry (Q' := OpPost Rel S i o.dst w') hex (fun e x y h => ⟨h.1, h.2.1⟩) hK ?_)
      rcases hone with h | ⟨_, x, y, h⟩
      · exact h
      · cases h.1
    · rename_i hw
      rw [if_neg hw] at hone
      exact hK undef w' hone
  · intro listed a' w' hfull hI
    obtain ⟨V, rfl, hrel, hSV⟩ := hI
    have : fillP l 0 (fun i => listed.getD i false) V a = fill l 0 V a := by
      rw [fill_eq]
      refine act_ext (by rw [fillP_size, fillP_size]) (fun t _ => ?_) (by rw [fillP_def, fillP_def])
      refine fillP_congr l t 0 _ _ V V a a rfl rfl fun j p hj hp => ?_
      have hjl : j < l.length := (List.getElem?_eq_some_iff.1 hj).1
      simp only [Nat.zero_add]
      exact ⟨hfull j (by simpa using hjl), trivial⟩
    rw [this]
    exact hend V w' hrel (sFacts_of fun i hi => by rw [Nat.zero_add]; exact hSV i hi (hfull i (by simpa using hi)))
  · unfold leftOf
    have := List.countP_le_length (p := fun b : Bool => b == false) (l := (Array.replicate l.toArray.size false).toList)
    simpa using this
  · refine ⟨fun _ => undef, ?_, hrefl _, fun i _ h => ?_⟩
    · have hnone : ∀ (l : List Oper) (k : Nat) (L : Nat → Bool) (V : Nat → Value) (a : Act), (∀ i, L i = false) → fillP l k L V a = a := by
        intro l
        induction l with
        | nil => intros; rfl
        | cons o l ih => intro k L V a hL; simp only [fillP, hL]; exact ih _ _ _ _ hL
      rw [hnone _ _ _ _ _ fun i => by simp [Array.getElem?_replicate]; split <;> rfl]
    · simp [Array.getElem?_replicate] at h
      split at h <;> simp at h

/-! ### the same, over a frame of which nothing is known but the slots that the operation looks at -/

/-- What stands in a slot behind all operations. -/
def slotVal (l : List Oper) (V : Nat → Value) (a : Act) (t : Tmp) : Option Value :=
  match l.findIdx? (fun p => p.dst == some t) with
  | some j => some (V j)
  | none => a.tmps[t]?
def SlotFacts (b : Act) (l : List Oper) (V : Nat → Value) (a : Act) : List Tmp → Prop
  | [] => True
  | t :: ts => b.tmps[t]? = slotVal l V a t ∧ SlotFacts b l V a ts
def LooseStep (P : Program) (l : List Oper) (Rel : World → World → Prop) (S : Nat → Value → World → Prop) (w0 : World) (a : Act) : List Oper → Nat → Prop
  | [], _ => True
  | o :: rest, k => (∀ (V : Nat → Value) (w : World) (b : Act), Rel w0 w → DepFacts S V w o.after.toList → SlotFacts b l V a (o.looksAt l.toArray) → b.defers = [] →
      (o.dst.getD 0) < b.tmps.size → OneStep P l.toArray (OpPost Rel S k o.dst w) o b w) ∧ LooseStep P l Rel S w0 a rest (k + 1)

theorem op_put {Rel : World → World → Prop} {S : Nat → Value → World → Prop} {k : Nat} {d : Tmp} {b : Act} {v : Value} {w w' : World} (hd : b.defers = []) (hs : d < b.tmps.size) (hr : Rel w w') (hv : S k v w') :
    OpPost Rel S k (some d) w .normal (b.put (some d) v) w' := by
  refine ⟨rfl, by rw [put_def]; exact hd, hr, ?_⟩
  have : (b.put (some d) v).tmps.getD d undef = v := by
    rw [Array.getD_eq_getD_getElem?, put_same, if_pos hs]; rfl
  show S k ((b.put (some d) v).tmps.getD d undef) w'
  rw [this]
  exact hv
/-- the same, as the walk leaves it -/
theorem op_post {Rel : World → World → Prop} {S : Nat → Value → World → Prop} {k : Nat} {d : Tmp} {tmps : Array Value} {v : Value} {w w' : World} (hs : d < tmps.size) (hr : Rel w w') (hv : S k v w') :
    OpPost Rel S k (some d) w .normal ⟨tmps.setIfInBounds d v, []⟩ w' := op_put (b := ⟨tmps, []⟩) rfl hs hr hv

theorem slotFacts_of {b : Act} {l : List Oper} {V : Nat → Value} {a : Act} : ∀ {ts : List Tmp}, (∀ t ∈ ts, b.tmps[t]? = slotVal l V a t) → SlotFacts b l V a ts
  | [], _ => trivial
  | t :: ts, h => ⟨h t (by simp), slotFacts_of fun t' ht => h t' (by simp [ht])⟩

theorem fill_slot {l : List Oper} (hnd : (l.filterMap (·.dst)).Nodup) {V : Nat → Value} {a : Act} {t : Tmp} (ht : t < a.tmps.size) : (fill l 0 V a).tmps[t]? = slotVal l V a t := by
  unfold slotVal
  cases hf : l.findIdx? (fun p => p.dst == some t) with
  | some j =>
    obtain ⟨hj, hp, _⟩ := List.findIdx?_eq_some_iff_getElem.1 hf
    have hp' : l[j].dst = some t := by simpa using hp
    rw [fill_eq, fillP_get l t 0 _ V a j l[j] (List.getElem?_eq_getElem hj) hp' rfl ht
      (fun i o hi ho => dsts_unique l hnd i j o l[j] t hi (List.getElem?_eq_getElem hj) ho hp')]
    simp
  | none =>
    have hn := List.findIdx?_eq_none_iff.1 hf
    rw [fill_eq]
    have hnone : ∀ (l : List Oper) (k : Nat) (a : Act), fillP l k (fun _ => false) V a = a := by
      intro l
      induction l with
      | nil => intros; rfl
      | cons o l ih => intro k a; simp only [fillP]; exact ih _ _
    have := fillP_congr l t 0 (fun _ => true) (fun _ => false) V V a a rfl rfl (fun j o hj ho => by
      have := hn o (List.mem_of_getElem? hj)
      simp [ho] at this)
    rw [this, hnone]

theorem looseStep_each {Rel : World → World → Prop} {S : Nat → Value → World → Prop} {w0 : World} {a : Act} {l : List Oper} (hnd : (l.filterMap (·.dst)).Nodup)
    (hdef : a.defers = []) : ∀ {rest : List Oper} {k : Nat}, (rest.all fun o => (o.looksAt l.toArray).all (fun t => decide (t < a.tmps.size)) && match o.dst with | some d => decide (d < a.tmps.size) | none => decide (0 < a.tmps.size)) = true →
    LooseStep P l Rel S w0 a rest k → EachStep P l.toArray Rel S w0 (fun V => fill l 0 V a) rest k
  | [], _, _, _ => trivial
  | o :: rest, k, hin, h => by
    have hin' := List.all_eq_true.1 hin
    refine ⟨fun V w hr hd => ?_, looseStep_each hnd hdef (List.all_eq_true.2 fun o' ho' => hin' o' (by simp [ho'])) h.2⟩
    have ho := hin' o (by simp)
    simp only [Bool.and_eq_true] at ho
    refine h.1 V w (fill l 0 V a) hr hd (slotFacts_of fun t ht => ?_) ?_ ?_
    · exact fill_slot hnd (by simpa using List.all_eq_true.1 ho.1 t ht)
    · rw [fill_eq, fillP_def]; exact hdef
    · rw [fill_eq, fillP_size]
      have := ho.2
      cases hd : o.dst with
      | some d => rw [hd] at this; simpa using this
      | none => rw [hd] at this; simpa using this

theorem wp_region_loose {id : Nat} {l : List Oper} {Q : Exit → Act → World → Prop} {a : Act} {w : World} (hm : P.follows .mixedOrders = true) (hB : regionB l = true)
    (hin : (l.all fun o => (o.looksAt l.toArray).all (fun t => decide (t < a.tmps.size)) && match o.dst with | some d => decide (d < a.tmps.size) | none => decide (0 < a.tmps.size)) = true) (hdef : a.defers = [])
    (Rel : World → World → Prop) (hrefl : ∀ w, Rel w w) (htrans : ∀ x y z, Rel x y → Rel y z → Rel x z)
    (S : Nat → Value → World → Prop) (hS : ∀ i v x y, Rel x y → S i v x → S i v y)
    (hstep : LooseStep P l Rel S w.drew a l 0)
    (hend : ∀ (V : Nat → Value) (w' : World), Rel w.drew w' → SFacts S V w' l 0 → Q .normal (fill l 0 V a) w') : (Code.region id l.toArray true).wp P Q a w := by
  have hnd : (l.filterMap (·.dst)).Nodup := by
    simp only [regionB, Bool.and_eq_true] at hB
    exact of_decide_eq_true hB.1.1
  refine wp_region_each hm hB (List.all_eq_true.2 fun o ho => ?_) Rel hrefl htrans S hS (looseStep_each hnd hdef hin hstep) hend
  have := List.all_eq_true.1 hin o ho
  simp only [Bool.and_eq_true] at this
  have h2 := this.2
  cases hd : o.dst with
  | some d => rw [hd] at h2; exact h2
  | none => rfl
end

/-- The region of that number in a function's code. -/
def regionAt (k : Nat) : Code → Option Code
  | .region id ops d => if id == k then some (.region id ops d) else none
  | .seq a b => match regionAt k a with
    | some c => some c
    | none => regionAt k b
  | .cond _ a b => match regionAt k a with
    | some c => some c
    | none => regionAt k b
  | .block _ c => regionAt k c
  | .loop c => regionAt k c
  | .scope c => regionAt k c
  | _ => none
def regionOf (f : Func) (k : Nat) : Code := (f.body.bind (regionAt k)).getD .skip
theorem fill_keep {l : List Oper} {V : Nat → Value} {a : Act} : (fill l 0 V a).tmps.size = a.tmps.size ∧ (fill l 0 V a).defers = a.defers := by
  rw [fill_eq]
  exact ⟨fillP_size _ _ _ _ _, fillP_def _ _ _ _ _⟩
end Go.Mun

-- Phase
namespace Go.Mun
open Go Go.RowKit

section
variable {P : Program} {ops : Array Oper}

def upd (V : Nat → Value) (i : Nat) (x : Value) : Nat → Value := fun k => if k = i then x else V k
def updL (L : Nat → Bool) (i : Nat) : Nat → Bool := fun k => if k = i then true else L k
theorem upd_same {V : Nat → Value} {i : Nat} {x : Value} : upd V i x i = x := if_pos rfl
theorem upd_ne {V : Nat → Value} {i j : Nat} {x : Value} (h : j ≠ i) : upd V i x j = V j := if_neg h
theorem updL_same {L : Nat → Bool} {i : Nat} : updL L i i = true := if_pos rfl
theorem updL_ne {L : Nat → Bool} {i j : Nat} (h : j ≠ i) : updL L i j = L j := if_neg h

theorem updL_up {L : Nat → Bool} {i j : Nat} (h : L j = true) : updL L i j = true := by unfold updL; split <;> first | rfl | exact h

/-- The word in which one operation is walked. -/
def PhPost (Rel : World → World → Prop) (S : Nat → Value → World → Prop) (J : (Nat → Bool) → (Nat → Value) → World → Prop) (L : Nat → Bool) (V : Nat → Value) (i : Nat) (d : Option Tmp) (w : World) : Exit → Act → World → Prop :=
  fun e a' w' => OpPost Rel S i d w e a' w' ∧ J (updL L i) (upd V i ((d.map fun d => a'.tmps.getD d undef).getD undef)) w'

/-- Does j wait for i? -/
def waitsB (ops : Array Oper) (j i : Nat) : Bool := match ops[j]? with
  | some o => o.after.any fun e => Region.binds .any e && e.on == i
  | none => false
theorem waitsB_spec {ops : Array Oper} {j i : Nat} (h : waitsB ops j i = true) : ∃ o, ops[j]? = some o ∧ ∃ e ∈ o.after, Region.binds .any e = true ∧ e.on = i := by
  unfold waitsB at h
  split at h
  · rename_i o ho
    obtain ⟨e, he, hb⟩ := Array.any_eq_true'.1 h
    simp only [Bool.and_eq_true, beq_iff_eq] at hb
    exact ⟨o, ho, e, he, hb.1, hb.2⟩
  · cases h
/-- what is listed waits for nothing that is not -/
def ClosedL (ops : Array Oper) (L : Nat → Bool) : Prop := ∀ j i, waitsB ops j i = true → L j = true → L i = true

def PhStep (P : Program) (ops : Array Oper) (Rel : World → World → Prop) (S : Nat → Value → World → Prop) (J : (Nat → Bool) → (Nat → Value) → World → Prop) (w0 : World) (F : (Nat → Value) → Act) : List Oper → Nat → Prop
  | [], _ => True
  | o :: l, k => (∀ (L : Nat → Bool) (V : Nat → Value) (w : World), Rel w0 w → J L V w → L k = false → (∀ i, waitsB ops k i = true → L i = true) → ClosedL ops L → DepFacts S V w o.after.toList → OneStep P ops (PhPost Rel S J L V k o.dst w) o (F V) w) ∧ PhStep P ops Rel S J w0 F l (k + 1)
theorem phStep_get {Rel : World → World → Prop} {S : Nat → Value → World → Prop} {J : (Nat → Bool) → (Nat → Value) → World → Prop} {w0 : World} {F : (Nat → Value) → Act} : ∀ {l : List Oper} {k : Nat}, PhStep P ops Rel S J w0 F l k →
    ∀ i o, l[i]? = some o → ∀ (L : Nat → Bool) (V : Nat → Value) (w : World), Rel w0 w → J L V w → L (k + i) = false → (∀ j, waitsB ops (k + i) j = true → L j = true) → ClosedL ops L → DepFacts S V w o.after.toList → OneStep P ops (PhPost Rel S J L V (k + i) o.dst w) o (F V) w
  | [], _, _, i, o, h => by simp at h
  | o :: l, k, h, i, o', hi => by
    cases i with
    | zero =>
      simp only [List.getElem?_cons_zero, Option.some.injEq] at hi
      subst hi
      exact h.1
    | succ i =>
      have := phStep_get h.2 i o' (by simpa using hi)
      rw [show k + 1 + i = k + (i + 1) from by omega] at this
      exact this

theorem wp_region_phase {id : Nat} {l : List Oper} {Q : Exit → Act → World → Prop} {a : Act} {w : World} (hm : P.follows .mixedOrders = true) (hB : regionB l = true)
    (hin : (l.all fun o => match o.dst with | some d => decide (d < a.tmps.size) | none => true) = true)
    (Rel : World → World → Prop) (hrefl : ∀ w, Rel w w) (htrans : ∀ x y z, Rel x y → Rel y z → Rel x z)
    (S : Nat → Value → World → Prop) (hS : ∀ i v x y, Rel x y → S i v x → S i v y)
    (J : (Nat → Bool) → (Nat → Value) → World → Prop) (hJ0 : J (fun _ => false) (fun _ => undef) w.drew)
    (hstep : PhStep P l.toArray Rel S J w.drew (fun V => fill l 0 V a) l 0)
    (hend : ∀ (L : Nat → Bool) (V : Nat → Value) (w' : World), (∀ i, i < l.length → L i = true) → Rel w.drew w' → SFacts S V w' l 0 → J L V w' → Q .normal (fill l 0 V a) w') : (Code.region id l.toArray true).wp P Q a w := by
  simp only [regionB, Bool.and_eq_true] at hB
  obtain ⟨⟨hB1, hB2⟩, hB3⟩ := hB
  have hnd : (l.filterMap (·.dst)).Nodup := of_decide_eq_true hB1
  have hun := dsts_unique l hnd
  have hdeps : ∀ (i : Nat) (o : Oper), l[i]? = some o → (∀ e ∈ o.after, Region.binds .any e = true → e.on < i) ∧
      ∀ (j : Nat) (p : Oper) (t : Tmp), l[j]? = some p → p.dst = some t → t ∈ o.looksAt l.toArray → ∃ e ∈ o.after, Region.binds .any e = true ∧ e.on = j := by
    intro i o hi
    have hmem : (o, i) ∈ l.zipIdx := List.mk_mem_zipIdx_iff_getElem?.2 hi
    have h1 := List.all_eq_true.1 hB2 _ hmem
    simp only [Bool.and_eq_true] at h1
    refine ⟨fun e he hb => ?_, fun j p t hj hp ht => ?_⟩
    · have := List.all_eq_true.1 h1.1 e (by simpa using he)
      simpa [hb] using this
    · have hmem' : (p, j) ∈ l.zipIdx := List.mk_mem_zipIdx_iff_getElem?.2 hj
      have := List.all_eq_true.1 h1.2 _ hmem'
      simp only [hp] at this
      rw [Bool.or_eq_true] at this
      rcases this with h | h
      · have hc : (o.looksAt l.toArray).contains t = true := by simpa using ht
        rw [hc] at h
        cases h
      · obtain ⟨e, he, hb⟩ := List.any_eq_true.1 h
        simp only [Bool.and_eq_true, beq_iff_eq] at hb
        exact ⟨e, by simpa using he, hb.1, hb.2⟩
  have hlt : ∀ (i : Nat) (o : Oper) (t : Tmp), l[i]? = some o → o.dst = some t → t < a.tmps.size := by
    intro i o t hi ho
    have := List.all_eq_true.1 hin o (List.mem_of_getElem? hi)
    simpa [ho] using this
  have hops : ∀ i : Nat, l.toArray[i]? = l[i]? := fun i => by simp
  refine wp_region_any hm ?_
  let I : Array Bool → Act → World → Prop := fun listed a' w' => ∃ V : Nat → Value, a' = fillP l 0 (fun i => listed.getD i false) V a ∧ Rel w.drew w' ∧
    (∀ i, i < l.length → listed.getD i false = true → S i (V i) w') ∧ J (fun i => listed.getD i false) V w' ∧ ClosedL l.toArray (fun i => listed.getD i false)
  refine wpAny_inv I (fun i o hi => (hdeps i o (by rw [← hops]; exact hi)).1) ?_ ?_ _ _ _ _ (by simp) ?_ ?_
  · intro listed a' w' i hsz hr hI
    obtain ⟨V, rfl, hrel, hSV, hJV, hcl⟩ := hI
    obtain ⟨hun', o, ho, hall⟩ := mem_ready.1 hr
    have ho' : l[i]? = some o := by rw [← hops]; exact ho
    have hil : i < l.length := (List.getElem?_eq_some_iff.1 ho').1
    have hil' : i < listed.size := by rw [hsz]; simpa using hil
    have hlf : listed.getD i false = false := by
      simp only [Array.getD, hil', dif_pos] at hun' ⊢
      exact hun'
    -- slots that it looks at: al in the full frame
    have hsame : ∀ t, t ∈ o.looksAt l.toArray → (fillP l 0 (fun i => listed.getD i false) V a).tmps[t]? = (fill l 0 V a).tmps[t]? := by
      intro t ht
      rw [fill_eq]
      refine fillP_congr l t 0 _ _ V V a a rfl rfl fun j p hj hp => ?_
      obtain ⟨e, he, hb, hej⟩ := (hdeps i o ho').2 j p t hj hp ht
      have := hall e he hb
      rw [hej] at this
      simp only [Nat.zero_add]
      exact ⟨this, trivial⟩
    have hev : ∀ x ∈ o.op.operands, (fillP l 0 (fun i => listed.getD i false) V a).eval x = (fill l 0 V a).eval x := by
      intro x hx
      cases x with
      | tmp t =>
        have := hsame t (by
          unfold Oper.looksAt
          exact List.mem_append.2 (.inl (List.mem_filterMap.2 ⟨.tmp t, by simpa using hx, rfl⟩)))
        show (fillP l 0 (fun i => listed.getD i false) V a).tmps.getD t undef = (fill l 0 V a).tmps.getD t undef
        rw [Array.getD_eq_getD_getElem?, Array.getD_eq_getD_getElem?, this]
      | _ => rfl
    have hex : execOp (fillP l 0 (fun i => listed.getD i false) V a).eval o = execOp (fill l 0 V a).eval o :=
      execOp_congr o (Region.noSelect_spec hB3 i o · · ho) hev
    have hwant : Region.wanted o (yielded l.toArray (fillP l 0 (fun i => listed.getD i false) V a).tmps) = Region.wanted o (yielded l.toArray (fill l 0 V a).tmps) := by
      unfold Region.wanted
      cases hg : o.guard with
      | none => rfl
      | some jw =>
        obtain ⟨j, want⟩ := jw
        simp only
        congr 1
        unfold yielded
        cases hj : (l.toArray[j]?).bind (·.dst) with
        | none => rfl
        | some t =>
          simp only [Option.bind_some]
          rw [hsame t (by
            unfold Oper.looksAt
            refine List.mem_append.2 (.inr ?_)
            rw [hg]
            show t ∈ ((l.toArray[j]?).bind (·.dst)).toList
            rw [hj]
            simp)]
    have hdf : DepFacts S V w' o.after.toList := depFacts_of fun e he hb => by
      have hlt' := (hdeps i o ho').1 e (by simpa using he) hb
      exact hSV e.on (by omega) (hall e (by simpa using he) hb)
    have hdo : ∀ j, waitsB l.toArray i j = true → (fun i => listed.getD i false) j = true := fun j hw => by
      obtain ⟨o2, ho2, e, he, hb, rfl⟩ := waitsB_spec hw
      have : o2 = o := Option.some.inj (ho2.symm.trans ho)
      subst this
      exact hall e he hb
    have hone := (phStep_get hstep i o ho' (fun i => listed.getD i false) V w' hrel hJV (by rw [Nat.zero_add]; exact hlf) (by rw [Nat.zero_add]; exact hdo) hcl hdf).out
    rw [Nat.zero_add] at hone
    -- what it leaves
    have hK : ∀ v w'', PhPost Rel S J (fun i => listed.getD i false) V i o.dst w' .normal ((fill l 0 V a).put o.dst v) w'' → I (listed.setIfInBounds i true) ((fillP l 0 (fun i => listed.getD i false) V a).put o.dst v) w'' := by
      rintro v w'' ⟨⟨_, _, hrel', hv⟩, hJw⟩
      have hval : (o.dst.map fun d => ((fill l 0 V a).put o.dst v).tmps.getD d undef).getD undef = match o.dst with | some _ => v | none => undef := by
        cases hd : o.dst with
        | none => rfl
        | some d =>
          have hds := hlt i o d ho' hd
          simp only [Option.map_some, Option.getD_some]
          rw [Array.getD_eq_getD_getElem?, put_same, fill_eq, fillP_size, if_pos hds]
          rfl
      rw [hval] at hv hJw
      have hL : (fun k => (listed.setIfInBounds i true).getD k false) = updL (fun k => listed.getD k false) i := by
        funext k
        unfold updL
        by_cases hk : k = i
        · subst hk
          simp [hil']
        · rw [if_neg hk, getD_set_ne false (Ne.symm hk)]
      refine ⟨fun k => if k = i then (match o.dst with | some _ => v | none => undef) else V k, ?_, htrans _ _ _ hrel hrel', ?_, by rw [hL]; exact hJw, ?_⟩
      · refine act_ext ?_ ?_ ?_
        · rw [put_size, fillP_size, fillP_size]
        · intro t ht
          rw [put_size, fillP_size] at ht
          by_cases hot : o.dst = some t
          · have hput : ((fillP l 0 (fun i => listed.getD i false) V a).put o.dst v).tmps[t]? = some v := by rw [hot, put_same, fillP_size, if_pos ht]
            rw [hput]
            have := fillP_get l t 0 (fun k => (listed.setIfInBounds i true).getD k false) (fun k => if k = i then (match o.dst with | some _ => v | none => undef) else V k) a i o ho' hot (by simp [hil']) ht
              (fun j p hj hp => hun j i p o t hj ho' hp hot)
            rw [this]
            simp [hot]
          · rw [put_other hot]
            refine fillP_congr l t 0 _ _ _ _ a a rfl rfl fun j p hj hp => ?_
            have hne : j ≠ i := fun e => by
              subst e
              rw [hj] at ho'
              injection ho' with e
              exact hot (e ▸ hp)
            simp only [Nat.zero_add, if_neg hne]
            exact ⟨(getD_set_ne false (Ne.symm hne)).symm, trivial⟩
        · rw [put_def, fillP_def, fillP_def]
      · intro k hk hl
        by_cases hki : k = i
        · subst hki
          simp only [if_pos]
          exact hv
        · simp only [if_neg hki]
          rw [getD_set_ne false (Ne.symm hki)] at hl
          exact hS k _ _ _ hrel' (hSV k hk hl)
      · rw [hL]
        intro j k hw hj
        by_cases hji : j = i
        · subst hji
          exact updL_up (hdo k hw)
        · rw [updL_ne hji] at hj
          exact updL_up (hcl j k hw hj)
    unfold wpOp
    rw [ho]
    simp only
    rw [hwant]
    unfold wpList at hone
    split
    · rename_i hw
      rw [if_pos hw] at hone
      refine .inl (op_carry (Q' := PhPost Rel S J (fun i => listed.getD i false) V i o.dst w') hex (fun e x y h => ⟨h.1.1, h.1.2.1⟩) hK ?_)
      rcases hone with h | ⟨_, x, y, h⟩
      · exact h
      · cases h.1.1
    · rename_i hw
      rw [if_neg hw] at hone
      exact hK undef w' hone
  · intro listed a' w' hfull hI
    obtain ⟨V, rfl, hrel, hSV, hJV, hcl⟩ := hI
    have : fillP l 0 (fun i => listed.getD i false) V a = fill l 0 V a := by
      rw [fill_eq]
      refine act_ext (by rw [fillP_size, fillP_size]) (fun t _ => ?_) (by rw [fillP_def, fillP_def])
      refine fillP_congr l t 0 _ _ V V a a rfl rfl fun j p hj hp => ?_
      have hjl : j < l.length := (List.getElem?_eq_some_iff.1 hj).1
      simp only [Nat.zero_add]
      exact ⟨hfull j (by simpa using hjl), trivial⟩
    rw [this]
    exact hend (fun i => listed.getD i false) V w' (fun i hi => hfull i (by simpa using hi)) hrel (sFacts_of fun i hi => by rw [Nat.zero_add]; exact hSV i hi (hfull i (by simpa using hi))) hJV
  · unfold leftOf
    have := List.countP_le_length (p := fun b : Bool => b == false) (l := (Array.replicate l.toArray.size false).toList)
    simpa using this
  · refine ⟨fun _ => undef, ?_, hrefl _, fun i _ h => ?_, ?_, ?_⟩
    · have hnone : ∀ (l : List Oper) (k : Nat) (L : Nat → Bool) (V : Nat → Value) (a : Act), (∀ i, L i = false) → fillP l k L V a = a := by
        intro l
        induction l with
        | nil => intros; rfl
        | cons o l ih => intro k L V a hL; simp only [fillP, hL]; exact ih _ _ _ _ hL
      rw [hnone _ _ _ _ _ fun i => by simp [Array.getElem?_replicate]; split <;> rfl]
    · simp [Array.getElem?_replicate] at h
      split at h <;> simp at h
    · have e : (fun i => (Array.replicate l.toArray.size false).getD i false) = fun _ => false := by
        funext i
        simp [Array.getElem?_replicate]
        split <;> rfl
      rw [e]
      exact hJ0
    · intro j k _ h
      simp [Array.getElem?_replicate] at h
      split at h <;> simp at h

/-- what such a region's worlds have in common: but blocks g and r nothing that was there is changed -/
structure Way2 (g : Nat) (r : Option Nat) (w w' : World) : Prop where
  os : w'.os = w.os
  tape : w'.tape = w.tape
  output : w'.output = w.output
  size : w.heap.size ≤ w'.heap.size
  block : ∀ k, k < w.heap.size → k ≠ g → some k ≠ r → w'.heap[k]? = w.heap[k]?
theorem Way2.refl {g : Nat} {r : Option Nat} (w : World) : Way2 g r w w := ⟨rfl, rfl, rfl, Nat.le_refl _, fun _ _ _ _ => rfl⟩
theorem Way2.trans {g : Nat} {r : Option Nat} {x y z : World} (h : Way2 g r x y) (k : Way2 g r y z) : Way2 g r x z :=
  ⟨k.os.trans h.os, k.tape.trans h.tape, k.output.trans h.output, Nat.le_trans h.size k.size, fun i hi h1 h2 => (k.block i (Nat.lt_of_lt_of_le hi h.size) h1 h2).trans (h.block i hi h1 h2)⟩
theorem Way2.of_grown {g : Nat} {r : Option Nat} {w w' : World} (h : w.grownBy w' r) : Way2 g r w w' := ⟨h.os, h.tape, h.output, h.size, fun k hk _ hr => h.block k hk hr⟩
theorem Way2.of_put {g : Nat} {r : Option Nat} {w w' : World} (h : w.grownBy w' (some g)) : Way2 g r w w' := ⟨h.os, h.tape, h.output, h.size, fun k hk hg _ => h.block k hk (fun e => hg (by injection e))⟩
theorem Way2.of_below {g : Nat} {r : Option Nat} {w w' : World} (h : Below w.heap.size w w') : Way2 g r w w' := ⟨h.os, h.tape, h.output, h.size, fun k hk _ _ => h.block k hk⟩
end
end Go.Mun

-- FsPlan
namespace Go.Mun
open Go Go.RowKit Go.Proofs Go.Maps

/-- what each operation of the region writes -/
def SPl (p b3 q : Nat) (op cut : Int) (kv : Value) (keep : List Bool) : Nat → Value → World → Prop
  | 0, v, _ => v = .pointer (some ⟨p, 0, none⟩)
  | 1, v, _ => v = .pointer (some ⟨b3, 0, none⟩)
  | 2, v, _ => v = .int .i64 op
  | 3, v, _ => v = .int .i64 (max (-1) op)
  | 4, v, _ => v = .pointer (some ⟨b3, 1, none⟩)
  | 5, v, _ => v = .int .i64 cut
  | 6, v, _ => v = .pointer (some ⟨b3, 2, none⟩)
  | 7, v, _ => v = kv
  | 8, v, w => w.ownsRow q 4 1 v keep.length (keep.map .bool)
  | 9, v, w => ∃ v8, v = .agg #[.int .i64 (max (-1) op), .int .i64 cut, v8] ∧ w.ownsRow q 4 1 v8 keep.length (keep.map .bool)
  | 10, v, _ => v = .pointer (some ⟨p, 0, none⟩)
  | 11, v, _ => v = .pointer (some ⟨p, 3, none⟩)
  | _, _, _ => True
theorem SPl_stays (p b3 q : Nat) (op cut : Int) (kv : Value) (keep : List Bool) (hpq : p < q) : ∀ i v (wa wb : World), wa.grownBy wb (some p) → SPl p b3 q op cut kv keep i v wa → SPl p b3 q op cut kv keep i v wb
  | 0, _, _, _, _, h => h
  | 1, _, _, _, _, h => h
  | 2, _, _, _, _, h => h
  | 3, _, _, _, _, h => h
  | 4, _, _, _, _, h => h
  | 5, _, _, _, _, h => h
  | 6, _, _, _, _, h => h
  | 7, _, _, _, _, h => h
  | 8, _, _, _, hb, h => own_kept h hb hpq
  | 9, _, _, _, hb, ⟨v8, e, h⟩ => ⟨v8, e, own_kept h hb hpq⟩
  | 10, _, _, _, _, h => h
  | 11, _, _, _, _, h => h
  | _ + 12, _, _, _, _, h => h
/-- the head, before it is written and behind that -/
def JPl (p q : Nat) (op cut : Int) (keep : List Bool) (bn bs : Nat) (vw : Value) (op0 cut0 : Int) (vk0 : Value) (dead : Bool) (ops : Int) (L : Nat → Bool) (_V : Nat → Value) (w : World) : Prop :=
  (L 12 = false → Blk w p 68 #[.map (some bn), .map (some bs), vw, .int .i64 op0, .int .i64 cut0, vk0, .bool dead, .int .i64 ops]) ∧ (L 12 = true → ∃ v8, Blk w p 68 #[.map (some bn), .map (some bs), vw, .int .i64 (max (-1) op), .int .i64 cut, v8, .bool dead, .int .i64 ops] ∧ w.ownsRow q 4 1 v8 keep.length (keep.map .bool)) ∧ q ≤ w.heap.size
theorem JPl_new (p q : Nat) (op cut : Int) (keep : List Bool) (bn bs : Nat) (vw : Value) (op0 cut0 : Int) (vk0 : Value) (dead : Bool) (ops : Int) {L : Nat → Bool} {V : Nat → Value} {w : World} {i : Nat} {v : Value} (h12 : L 12 = false) (hi : (12 : Nat) ≠ i) (hx : Blk w p 68 #[.map (some bn), .map (some bs), vw, .int .i64 op0, .int .i64 cut0, vk0, .bool dead, .int .i64 ops]) (hq : q ≤ w.heap.size) : JPl p q op cut keep bn bs vw op0 cut0 vk0 dead ops (updL L i) (upd V i v) w := by
  unfold JPl
  rw [updL_ne hi, h12]
  exact ⟨fun _ => hx, fun e => (by cases e), hq⟩
theorem JPl_last (p q : Nat) (op cut : Int) (keep : List Bool) (bn bs : Nat) (vw : Value) (op0 cut0 : Int) (vk0 : Value) (dead : Bool) (ops : Int) {L : Nat → Bool} {V : Nat → Value} {w : World} {v : Value} (hx : ∃ v8, Blk w p 68 #[.map (some bn), .map (some bs), vw, .int .i64 (max (-1) op), .int .i64 cut, v8, .bool dead, .int .i64 ops] ∧ w.ownsRow q 4 1 v8 keep.length (keep.map .bool)) (hq : q ≤ w.heap.size) : JPl p q op cut keep bn bs vw op0 cut0 vk0 dead ops (updL L 12) (upd V 12 v) w := by
  unfold JPl
  rw [updL_same]
  exact ⟨fun e => (by cases e), fun _ => hx, hq⟩
theorem JPl_far (p q : Nat) (op cut : Int) (keep : List Bool) (bn bs : Nat) (vw : Value) (op0 cut0 : Int) (vk0 : Value) (dead : Bool) (ops : Int) {L : Nat → Bool} {V : Nat → Value} {w : World} (hJ : JPl p q op cut keep bn bs vw op0 cut0 vk0 dead ops L V w) {k : Nat} {v : Value} (h12 : (12 : Nat) ≠ k) : JPl p q op cut keep bn bs vw op0 cut0 vk0 dead ops (updL L k) (upd V k v) w := by
  unfold JPl at hJ ⊢
  simp only [updL_ne h12]
  exact hJ

theorem Bools.ext {w w' : World} {v : Value} {l : List Bool} (h : Bools w v l) (hb : Below w.heap.size w w') : Bools w' v l := by
  obtain ⟨A, n, c, e, h1, h2, h3, h4⟩ := h
  exact ⟨A, n, c, e, h1, h2, h3, h4.ext hb⟩
theorem Bools.grown {w w' : World} {A : Option Addr} {n c : Nat} {l : List Bool} {row : Option Nat} (h : Bools w (.slice A n c) l) (hg : w.grownBy w' row) (hne : ∀ ad, A = some ad → 0 < n → some ad.block ≠ row) : Bools w' (.slice A n c) l := by
  obtain ⟨A', n', c', e, h1, h2, h3, h4⟩ := h
  injection e with e1 e2 e3
  subst e1 e2 e3
  refine ⟨_, _, _, rfl, h1, h2, h3, ?_⟩
  by_cases hn : 0 < n
  · exact h4.grown hg fun ad e => hne ad e hn
  · have e0 : l = [] := List.eq_nil_of_length_eq_zero (by omega)
    subst e0
    exact Rd.nil _ _
/-- the head's own block was written; a row of its own is new -/
theorem RelP.head_new {k p : Nat} {M M' : FSs} {φ : Nat → Nat} {o o' : Own} {K L : Nat} {w w' : World} (h : RelP k p M φ o K L w) {bn bs : Nat} {vw vk vk' : Value} (hh : Head k p M φ o K w bn bs vw vk) (hg : w.grownBy w' (some p))
    (hx : Blk w' p 68 #[.map (some bn), .map (some bs), vw, .int .i64 M'.op, .int .i64 M'.cut, vk', .bool M'.dead, .int .i64 M'.ops])
    (hn : M'.now = M.now) (hs : M'.syn = M.syn) (hw : M'.waits = M.waits) (hf : M'.fs = M.fs) (hfine : Fine M') (hk : w'.ownsRow 0 4 1 vk' M'.keep.length (M'.keep.map .bool)) (h1 : ∀ b, b < w.heap.size → o' b = o b) (h2 : OwnIn o' w') (hko : ∀ g, vk'.ownBlock = some g → o' g = some (k, .keep))
    (hops : 0 ≤ M'.ops ∧ M'.ops ≤ K) (hcut : -9223372036854775808 ≤ M'.cut ∧ M'.cut ≤ 9223372036854775807) (hop : M'.op ≤ 9223372036854775807) : RelP k p M' φ o' K L w' := by
  have ne : ∀ {b t}, o b = some (k, t) → t ≠ .fs → w'.heap[b]? = w.heap[b]? := fun e ht => same_of hg (h.own.lt e) e (one_some hh.op) ht
  have ex : ∀ {b x}, o b = some x → o' b = some x := fun e => by rw [h1 _ (h.own.lt e)]; exact e
  refine ⟨hfine, h2, ⟨bn, bs, vw, vk', ⟨hx, ex hh.op, ex hh.on, ex hh.os, ?_, ?_, ?_, fun g hg => ex (hh.ow g hg), hk, hko⟩⟩, fun i hi => ?_, hops, hcut, hop, by rw [hw]; exact h.wl⟩
  · obtain ⟨N, h1, h2⟩ := hh.now
    exact ⟨N, by rw [hn]; exact h1.same (ne hh.on (by simp)), h2⟩
  · obtain ⟨N, h1, h2⟩ := hh.syn
    exact ⟨N, by rw [hs]; exact h1.same (ne hh.os (by simp)), by rw [hw]; exact h2⟩
  · rw [hw]
    exact own_same hh.waits fun g hg => ne (hh.ow g hg) (by simp)
  · have hi' : Live M i := by unfold Live at hi ⊢; rw [hn, hs, hw] at hi; exact hi
    rw [hf]
    obtain ⟨⟨v, f1, f2, f3, f4⟩, f5⟩ := h.file i hi'
    exact ⟨⟨v, f1.same (ne f2 (by simp)), ex f2, own_same f3 fun g hg => ne (f4 g hg) (by simp), fun g hg => ex (f4 g hg)⟩, f5⟩
section
variable {k p : Nat} {M : FSs} {φ : Nat → Nat} {o : Own} {K L : Nat} {w : World}
set_option maxRecDepth 100000 in
set_option maxHeartbeats 2000000 in
theorem Plan_any (h : RelP k p M φ o K L w) (op cut : Int) (kv : Value) (keep : List Bool) (hop : -9223372036854775808 ≤ op ∧ op ≤ 9223372036854775807) (hcut : -9223372036854775808 ≤ cut ∧ cut ≤ 9223372036854775807) (hk : Bools w kv keep) (hko : ∀ ad n c, kv = .slice (some ad) n c → 0 < n → ∀ t, o ad.block ≠ some (k, t)) (hl : keep.length ≤ 140737488355328) :
    Calls Try.prog 24 #[.pointer (some ⟨p, 0, none⟩), .agg #[.int .i64 op, .int .i64 cut, kv]] w fun e w' => e = .returned (.tuple #[]) ∧ ∃ o', RelP k p (planM M op cut keep) φ o' K L w' ∧ Turn k o o' w w' := by
  obtain ⟨bn, bs, vw, vk, hh⟩ := h.head
  have hx := hh.blk
  have H := Lib.hid hh
  have HR := Lib.hid h
  have HK := Lib.hid hk
  have HKL := Lib.hid hl
  have HKO0 := Lib.hid hko
  have hpl := h.own.lt hh.op
  obtain ⟨A, n, c, e1⟩ : ∃ A n c, kv = .slice A n c := by obtain ⟨A, n, c, e, _⟩ := hk; exact ⟨A, n, c, e⟩
  clear hh h hk hl hko
  subst e1
  have HKO := Lib.hid (show ∀ ad, A = some ad → 0 < n → some ad.block ≠ some p from fun ad e hn e2 => by injection e2 with e2; exact HKO0.out ad n c (by rw [e]) hn .fs (by rw [e2]; exact H.out.op))
  obtain ⟨o1, o2⟩ := hop
  go_enter Try.func24, Try.ntmps24
  go_wp2_with (first
    | ((with_reducible refine gd_box ?_); refine wpList_box_agg rfl _ (.tmp 1) rfl rfl ?_; intro w3 hx3 hb3 hl3)
    | fail)
  have hp3 := hx.ext hb3
  have HPB := Lib.hid (show p ≠ w.heap.size by omega)
  have HPQ := Lib.hid (show p < w3.heap.size by omega)
  have HY0 := Lib.hid (fun (w' : World) (hb : w3.drew.grownBy w' (some p)) => ((show Blk w3.drew _ _ _ from hx3).grown hb (fun e => by injection e with e; exact HPB.out e.symm)).cellv (i := 0) rfl)
  have HY1 := Lib.hid (fun (w' : World) (hb : w3.drew.grownBy w' (some p)) => ((show Blk w3.drew _ _ _ from hx3).grown hb (fun e => by injection e with e; exact HPB.out e.symm)).cellv (i := 1) rfl)
  have HY2 := Lib.hid (fun (w' : World) (hb : w3.drew.grownBy w' (some p)) => ((show Blk w3.drew _ _ _ from hx3).grown hb (fun e => by injection e with e; exact HPB.out e.symm)).cellv (i := 2) rfl)
  have HKV := Lib.hid (fun (w' : World) (hb : w3.drew.grownBy w' (some p)) => (show Bools w3.drew _ _ from (show Bools w3 _ _ from HK.out.ext hb3)).grown hb HKO.out)
  have hq0 : w3.heap.size ≤ w3.drew.heap.size := Nat.le_refl _
  have hp3' : Blk w3.drew p 68 #[.map (some bn), .map (some bs), vw, .int .i64 M.op, .int .i64 M.cut, vk, .bool M.dead, .int .i64 M.ops] := hp3
  have HP3 := Lib.hid hp3'
  clear hp3' hx hx3 hp3
  obtain ⟨q, hqq⟩ : ∃ q, q = w3.heap.size := ⟨_, rfl⟩
  rw [← hqq] at hq0 HPQ
  have HQQ := Lib.hid hqq
  clear hqq
  refine wp_region_phase (by kernel_rfl) (by kernel_rfl) (by kernel_rfl) (fun w w' => w.grownBy w' (some p)) (fun _ => World.grownBy.refl _ _) (fun _ _ _ h k => h.trans k) (SPl p w.heap.size q op cut (.slice A n c) keep) (SPl_stays p w.heap.size q op cut (.slice A n c) keep HPQ.out) (JPl p q op cut keep bn bs vw M.op M.cut vk M.dead M.ops)
    ⟨fun _ => HP3.out, fun e => (by cases e), hq0⟩ ?_ ?_
  · simp only [PhStep]
    refine ⟨?_, ?_, ?_, ?_, ?_, ?_, ?_, ?_, ?_, ?_, ?_, ?_, ?_, trivial⟩
    · intro L V w' hb hj hl hdo hcl hd
      clear hdo hcl
      clear hd
      refine ⟨?_⟩
      simp only [fill]
      go_wp2
      exact ⟨⟨rfl, rfl, World.grownBy.refl _ _, rfl⟩, (JPl_far _ _ _ _ _ _ _ _ _ _ _ _ _ hj (by decide))⟩
    · intro L V w' hb hj hl hdo hcl hd
      clear hdo hcl
      clear hd
      refine ⟨?_⟩
      simp only [fill]
      go_wp2
      exact ⟨⟨rfl, rfl, World.grownBy.refl _ _, rfl⟩, (JPl_far _ _ _ _ _ _ _ _ _ _ _ _ _ hj (by decide))⟩
    · intro L V w' hb hj hl hdo hcl hd
      have y := HY0.out _ hb
      clear hdo hcl
      simp only [DepFacts, SPl, Region.binds, forall_const, and_true] at hd
      refine ⟨?_⟩
      simp only [fill, hd]
      clear hd
      go_wp2
      exact ⟨⟨rfl, rfl, World.grownBy.refl _ _, rfl⟩, (JPl_far _ _ _ _ _ _ _ _ _ _ _ _ _  hj (by decide))⟩
    · intro L V w' hb hj hl hdo hcl hd
      clear hdo hcl
      simp only [DepFacts, SPl, Region.binds, forall_const, and_true] at hd
      refine ⟨?_⟩
      simp only [fill, hd]
      clear hd
      go_wp2
      exact ⟨⟨rfl, rfl, World.grownBy.refl _ _, rfl⟩, (JPl_far _ _ _ _ _ _ _ _ _ _ _ _ _ hj (by decide))⟩
    · intro L V w' hb hj hl hdo hcl hd
      clear hdo hcl
      clear hd
      refine ⟨?_⟩
      simp only [fill]
      go_wp2
      exact ⟨⟨rfl, rfl, World.grownBy.refl _ _, rfl⟩, (JPl_far _ _ _ _ _ _ _ _ _ _ _ _ _ hj (by decide))⟩
    · intro L V w' hb hj hl hdo hcl hd
      have y := HY1.out _ hb
      clear hdo hcl
      simp only [DepFacts, SPl, Region.binds, forall_const, and_true] at hd
      refine ⟨?_⟩
      simp only [fill, hd]
      clear hd
      go_wp2
      exact ⟨⟨rfl, rfl, World.grownBy.refl _ _, rfl⟩, (JPl_far _ _ _ _ _ _ _ _ _ _ _ _ _  hj (by decide))⟩
    · intro L V w' hb hj hl hdo hcl hd
      clear hdo hcl
      clear hd
      refine ⟨?_⟩
      simp only [fill]
      go_wp2
      exact ⟨⟨rfl, rfl, World.grownBy.refl _ _, rfl⟩, (JPl_far _ _ _ _ _ _ _ _ _ _ _ _ _ hj (by decide))⟩
    · intro L V w' hb hj hl hdo hcl hd
      have y := HY2.out _ hb
      clear hdo hcl
      simp only [DepFacts, SPl, Region.binds, forall_const, and_true] at hd
      refine ⟨?_⟩
      simp only [fill, hd]
      clear hd
      go_wp2
      exact ⟨⟨rfl, rfl, World.grownBy.refl _ _, rfl⟩, (JPl_far _ _ _ _ _ _ _ _ _ _ _ _ _  hj (by decide))⟩
    · intro L V w' hb hj hl hdo hcl hd
      have hby := HKV.out _ hb
      have hq8 := hj.2.2
      have h12 : L 12 = false := Bool.eq_false_iff.2 fun e => by have := hcl 12 8 (by kernel_rfl) e; rw [this] at hl; cases hl
      have hx8 := hj.1 h12
      clear hdo hcl
      simp only [DepFacts, SPl, Region.binds, forall_const, and_true] at hd
      refine ⟨?_⟩
      simp only [fill, hd]
      clear hd
      simp only [Act.put, List.setIfInBounds_toArray, List.set_cons_zero, List.set_cons_succ]
      go_wp2_with (first | (go_at_call 40; (with_reducible refine (BoolClone_any _ _ _ hby HKL.out).mono ?_); rintro e w2 ⟨v2, rfl, ho2, hb2⟩) | fail)
      exact ⟨⟨rfl, rfl, ⟨hb2.os, hb2.tape, hb2.output, hb2.size, fun k hk _ => hb2.block k hk⟩, own_base ho2 hq8⟩, JPl_new _ _ _ _ _ _ _ _ _ _ _ _ _  h12 (by decide) (hx8.ext hb2) (Nat.le_trans hq8 hb2.size)⟩
    · intro L V w' hb hj hl hdo hcl hd
      clear hdo hcl
      simp only [DepFacts, SPl, Region.binds, forall_const, and_true] at hd
      obtain ⟨d3, d5, d8⟩ := hd
      obtain ⟨A8, c8, e8⟩ := row_slC d8
      rw [e8] at d8
      refine ⟨?_⟩
      simp only [fill, d3, d5, e8]
      clear d3 d5 e8
      go_wp2
      exact ⟨⟨rfl, rfl, World.grownBy.refl _ _, _, rfl, d8⟩, (JPl_far _ _ _ _ _ _ _ _ _ _ _ _ _  hj (by decide))⟩
    · intro L V w' hb hj hl hdo hcl hd
      clear hcl
      have d0 : V 0 = .pointer (some ⟨p, 0, none⟩) := by
        simp only [DepFacts, SPl, Region.binds, forall_const, and_true] at hd
        first | exact hd.1 | exact hd
      clear hdo hd
      refine ⟨?_⟩
      simp only [fill, d0]
      clear d0
      go_wp2
      exact ⟨⟨rfl, rfl, World.grownBy.refl _ _, rfl⟩, (JPl_far _ _ _ _ _ _ _ _ _ _ _ _ _  hj (by decide))⟩
    · intro L V w' hb hj hl hdo hcl hd
      clear hcl
      have d0 : V 10 = .pointer (some ⟨p, 0, none⟩) := by
        simp only [DepFacts, SPl, Region.binds, forall_const, and_true] at hd
        first | exact hd.1 | exact hd
      clear hdo hd
      refine ⟨?_⟩
      simp only [fill, d0]
      clear d0
      go_wp2
      exact ⟨⟨rfl, rfl, World.grownBy.refl _ _, rfl⟩, (JPl_far _ _ _ _ _ _ _ _ _ _ _ _ _  hj (by decide))⟩
    · intro L V w' hb hj hl hdo hcl hd
      have hx := hj.1 hl
      have hq := hj.2.2
      clear hdo hcl
      have d11 : V 11 = .pointer (some ⟨p, 3, none⟩) := by
        simp only [DepFacts, SPl, Region.binds, forall_const, and_true] at hd
        exact hd.1
      obtain ⟨v8, d9, d8⟩ : SPl p w.heap.size q op cut (.slice A n c) keep 9 (V 9) w' := by
        simp only [DepFacts, Region.binds, forall_const, and_true] at hd
        exact hd.2.1
      obtain ⟨A8, c8, rfl⟩ := row_slC d8
      clear hd
      refine ⟨?_⟩
      simp only [fill, d9, d11]
      clear d9 d11
      simp only [Act.put, List.setIfInBounds_toArray, List.set_cons_zero, List.set_cons_succ]
      go_wp2_with (first | ((with_reducible refine gd_store ?_); refine wpList_store_part rfl 58 (.tmp 15) (.tmp 13) rfl (o := 3) (cells := #[.int .i64 (max (-1) op), .int .i64 cut, .slice A8 keep.length c8]) hx (show 3 + 3 ≤ 8 by decide) rfl rfl (by kernel_rfl) rfl ?_; intro w2 hx2 hg2) | fail)
      exact ⟨⟨rfl, rfl, hg2, trivial⟩, JPl_last _ _ _ _ _ _ _ _ _ _ _ _ _  ⟨_, hx2, own_kept d8 hg2 HPQ.out⟩ (Nat.le_trans hq hg2.size)⟩
  · intro L V w9 hL hb9 hs hj
    obtain ⟨v8, hx9, ho9⟩ := hj.2.1 (hL 12 (by decide))
    clear hs hj hL
    simp only [fill]
    try simp only [Exit.then]
    try go_simp
    go_end0
    have hg39 : w3.grownBy w9 (some p) := ⟨hb9.os, hb9.tape, hb9.output, hb9.size, hb9.block⟩
    have hg09 := grown_via hb3 hg39
    have hpo := H.out.op
    have hqs : w.heap.size ≤ q := by rw [HQQ.out]; omega
    obtain ⟨o', q1, q2, q3, q4⟩ : ∃ o' : Own, (∀ b, b < w.heap.size → o' b = o b) ∧ OwnIn o' w9 ∧ (∀ g, v8.ownBlock = some g → o' g = some (k, .keep)) ∧ Turn k o o' w w9 := by
      have T := Turn.wrote HR.out.own hg09 hpo
      cases hv : v8.ownBlock with
      | none => exact ⟨o, fun _ _ => rfl, HR.out.own.more hg09.size, fun g hg => (by cases hg), T⟩
      | some g =>
        have hlt := ho9.lt g hv
        refine ⟨give o g (k, .keep), fun b hb => give_ne (by omega), (HR.out.own.more hg09.size).give hlt.2 _, fun g' hg => ?_, T.give (by omega) _⟩
        injection hg with hg
        subst hg
        exact give_same _ _ _
    exact ⟨rfl, o', RelP.head_new (M' := planM M op cut keep) HR.out H.out hg09 hx9 rfl rfl rfl rfl (HR.out.fine.plan op cut keep) (own_base ho9 (Nat.zero_le _)) q1 q2 q3 HR.out.ops hcut (by show max (-1) op ≤ _; omega), q4⟩
end
end Go.Mun

-- FsGoes
namespace Go.Mun
open Go Go.RowKit Go.Proofs Go.Maps Go.Shelf

/-- maps.Clone of names -/
theorem CloneN_any {φ : Nat → Nat} {P : PL Nat} {b N : Nat} {w : World} (h : MapV w b (idT φ P) N) :
    Calls Try.prog 56 #[.map (some b)] w fun e w' => e = .returned (.map (some w.heap.size)) ∧ MapV w' w.heap.size (idT φ P) N ∧ Below w.heap.size w w' := by
  have := AnyW.maps_Clone_owns Try.clone56 9 RV b N (encM (idT φ P)) w h
  change Calls Try.prog 56 _ _ _ at this
  exact this.mono fun e w' ⟨h1, h2, _, h4⟩ => ⟨h1, h2, h4⟩
section
variable {k p : Nat} {M : FSs} {φ : Nat → Nat} {o : Own} {K L : Nat} {w : World}
theorem failsM_no (h : M.op ≠ 0) : failsM M = { M with op := max (-1) (M.op - 1), ops := M.ops + 1 } := if_neg h
theorem Fine.goes (h : Fine M) : Fine { M with op := max (-1) (M.op - 1), ops := M.ops + 1 } := ⟨h.rnow, h.rsyn, h.repl, h.ok, h.names, h.snames, h.fresh, h.sfresh, h.made, h.sized, h.once, by show -1 ≤ max (-1) (M.op - 1); omega⟩
theorem Head.more {bn bs : Nat} {vw vk : Value} (hh : Head k p M φ o K w bn bs vw vk) {K' : Nat} (hK : K ≤ K' := by omega) : Head k p M φ o K' w bn bs vw vk := by
  refine ⟨hh.blk, hh.op, hh.on, hh.os, ?_, ?_, hh.waits, hh.ow, hh.keep, hh.ok⟩
  · obtain ⟨N, h1, h2⟩ := hh.now
    exact ⟨N, h1, by omega⟩
  · obtain ⟨N, h1, h2⟩ := hh.syn
    exact ⟨N, h1, by omega⟩
theorem RelP.more (h : RelP k p M φ o K L w) {K' L' : Nat} (hK : K ≤ K') (hL : L ≤ L') : RelP k p M φ o K' L' w := by
  obtain ⟨bn, bs, vw, vk, hh⟩ := h.head
  exact ⟨h.fine, h.own, ⟨bn, bs, vw, vk, hh.more hK⟩, fun i hi => ⟨(h.file i hi).1, Nat.le_trans (h.file i hi).2 hL⟩, ⟨h.ops.1, by have := h.ops.2; omega⟩, h.cut, h.opb, Nat.le_trans h.wl hK⟩
set_option maxRecDepth 100000 in
set_option maxHeartbeats 1000000 in
theorem fails_no (h : RelP k p M φ o K L w) (hop : M.op ≠ 0) (hK : K ≤ 1000000000) :
    Calls Try.prog 42 #[.pointer (some ⟨p, 0, none⟩)] w fun e w' => e = .returned (.bool false) ∧ RelP k p (failsM M) φ o (K + 1) L w' ∧ Turn k o o w w' := by
  obtain ⟨bn, bs, vw, vk, hh⟩ := h.head
  have hx := hh.blk
  have H := Lib.hid hh
  have HR := Lib.hid h
  have o1 := h.fine.op
  have o2 := h.opb
  have p1 := h.ops.1
  have p2 := h.ops.2
  have e1 : (M.op != 0) = true := by simp [hop]
  have e2 : decide (M.op = 0) = false := decide_eq_false hop
  have y3 := hx.cellv (i := 3) rfl
  have HO := Lib.hid hop
  clear hh h
  go_enter Try.func42, Try.ntmps42
  go_wp2_with (first
    | ((with_reducible refine gd_store ?_); refine wpList_store_cell rfl 3 (.tmp 25) (.tmp 22) rfl (i := 3) (v := .int .i64 (max (-1) (M.op - 1))) hx (show 3 < 8 by decide) (by kernel_rfl) rfl rfl rfl ?_; intro w1 hx1 hg1; have y7 := hx1.cellv (i := 7) rfl)
    | ((with_reducible refine gd_store ?_); refine wpList_store_cell rfl 3 (.tmp 32) (.tmp 30) rfl (i := 7) (v := .int .i64 (M.ops + 1)) hx1 (show 7 < 8 by decide) (by kernel_rfl) rfl rfl rfl ?_; intro w2 hx2 hg2)
    | fail)
  have hg := hg1.trans hg2
  go_ret
  rw [failsM_no HO.out]
  exact ⟨rfl, RelP.head_set (M' := { M with op := max (-1) (M.op - 1), ops := M.ops + 1 }) (HR.out.more (Nat.le_succ K) (Nat.le_refl L)) (Head.more H.out) hg hx2 rfl rfl rfl rfl HR.out.fine.goes (own_same H.out.keep fun g hg' => same_of hg (HR.out.own.lt (H.out.ok g hg')) (H.out.ok g hg') (one_some H.out.op) (by simp)) H.out.ok ⟨by show 0 ≤ M.ops + 1; omega, by show M.ops + 1 ≤ ((K + 1 : Nat) : Int); omega⟩ HR.out.cut (by show max (-1) (M.op - 1) ≤ _; omega), Turn.wrote HR.out.own hg H.out.op⟩
end
end Go.Mun

-- FsCutP
namespace Go.Mun
open Go Go.RowKit Go.Proofs Go.Maps

open Classical in
/-- the files where the names for which 'lf' says yes are still to come -/
noncomputable def cutFs (cut : Int) (fs : Nat → FileS) (P : PL Nat) (lf : Lit → Bool) : Nat → FileS := fun i => if ∃ p ∈ P, p.2 = i ∧ lf (.string p.1) = false then cutF cut (fs i) else fs i
theorem cutFs_start {cut : Int} {fs : Nat → FileS} {P : PL Nat} {lf : Lit → Bool} (h : ∀ p ∈ P, lf (.string p.1) = true) : cutFs cut fs P lf = fs := by
  funext i
  unfold cutFs
  rw [if_neg]
  rintro ⟨p, hp, _, e⟩
  rw [h p hp] at e
  cases e
theorem cutFs_end {M : FSs} {P : PL Nat} {lf : Lit → Bool} (h : ∀ kl, lf kl = false) (i : Nat) : cutFs M.cut M.fs P lf i = (open Classical in if hasId P i then cutF M.cut (M.fs i) else M.fs i) := by
  unfold cutFs hasId
  by_cases hi : ∃ p ∈ P, p.2 = i
  · rw [if_pos hi, if_pos]
    obtain ⟨p, hp, e⟩ := hi
    exact ⟨p, hp, e, h _⟩
  · rw [if_neg hi, if_neg]
    rintro ⟨p, hp, e, _⟩
    exact hi ⟨p, hp, e⟩
theorem cutFs_step {cut : Int} {fs : Nat → FileS} {P : PL Nat} {lf : Lit → Bool} (hr : Rises P) (ho : Once P) {n : Ky} {i : Nat} (hp : (n, i) ∈ P) (hl : lf (.string n) = true) :
    (cutFs cut fs P lf i = fs i) ∧ cutFs cut fs P (fun z => lf z && !z.sameKey (.string n)) = fun j => if j = i then cutF cut (fs i) else cutFs cut fs P lf j := by
  have hs : ∀ a : Ky, (Lit.string a).sameKey (.string n) = (a == n) := fun a => rfl
  refine ⟨?_, ?_⟩
  · unfold cutFs
    rw [if_neg]
    rintro ⟨q, hq, e, h⟩
    have := ho q hq (n, i) hp e
    rw [this, hl] at h
    cases h
  · funext j
    by_cases hj : j = i
    · subst hj
      rw [if_pos rfl]
      unfold cutFs
      rw [if_pos]
      exact ⟨(n, j), hp, rfl, by show (lf (.string n) && !(Lit.string n).sameKey (.string n)) = false; rw [hs]; simp⟩
    · rw [if_neg hj]
      unfold cutFs
      by_cases h : ∃ p ∈ P, p.2 = j ∧ lf (.string p.1) = false
      · rw [if_pos h, if_pos]
        obtain ⟨q, hq, e, h⟩ := h
        exact ⟨q, hq, e, by show (lf (.string q.1) && _) = false; rw [h]; rfl⟩
      · rw [if_neg h, if_neg]
        rintro ⟨q, hq, e, h'⟩
        refine h ⟨q, hq, e, ?_⟩
        have hne : q.1 ≠ n := fun e2 => hj (by
          have h1 := getP_at hr hq
          have h2 := getP_at hr hp
          rw [e2] at h1
          rw [h1] at h2
          injection h2 with h2
          exact e.symm.trans h2)
        replace h' : (lf (.string q.1) && !(Lit.string q.1).sameKey (.string n)) = false := h'
        rw [hs, beq_eq_false_iff_ne.2 hne] at h'
        simpa using h'
end Go.Mun

-- FsNext
namespace Go.Mun
open Go Go.RowKit Go.Proofs Go.Maps

theorem wpList_next_names {w : World} {ops : Array Oper} {rest : List Oper} {op : Oper} {a : Act} {Q : Exit → Act → World → Prop} (hg : op.guard = none) (it : Operand) (hop : op.op = Op.next it false) {bs r N : Nat} {P : PL Nat} {φ : Nat → Nat} {lf : Lit → Bool} {cnt : Nat}
    (hit : a.eval it = .pointer (some ⟨r, 0, none⟩)) (h : w.ranges Try.prog 9 RV bs r N (encM (idT φ P)) lf cnt)
    (hDone : cnt = 0 → (∀ kl, lf kl = false) → wpList Try.prog ops Q rest (a.put op.dst (.tuple #[.bool false])) w)
    (hMore : ∀ (n : Ky) (i : Nat) (w' : World) (cnt' : Nat), getP P n = some i → lf (.string n) = true → w'.ranges Try.prog 9 RV bs r N (encM (idT φ P)) (fun z => lf z && !z.sameKey (.string n)) cnt' → cnt' < cnt →
      w.grownBy w' (some r) → w'.heap.size = w.heap.size → (Instr.entry (.pointer (some ⟨r, 0, none⟩))).run Try.prog w' = .ok (.tuple #[.string ⟨n.toArray⟩, .pointer (some ⟨φ i, 0, none⟩)]) w' →
      wpList Try.prog ops Q rest (a.put op.dst (.tuple #[.bool true, .string ⟨n.toArray⟩, .pointer (some ⟨φ i, 0, none⟩)])) w') : wpList Try.prog ops Q (op :: rest) a w := by
  refine wpList_next_ranges w hg it hop 9 lawS RV (fun s : ByteArray => Value.string s) (fun v : Value => v) (fun key kl hk => ?_) (fun v y _ => ⟨v, rfl⟩) bs r N _ lf cnt hit h hDone ?_
  · obtain ⟨s, e, _⟩ := Go.WideMaps.string_of_keyOf Try.underlying9 hk
    exact ⟨s, e⟩
  · intro x c kl y w' cnt' hkey hl hv hat hrg hlt hgr hsz hen
    obtain ⟨s, e1, e2, _⟩ := Go.WideMaps.string_of_keyOf Try.underlying9 hkey
    injection e1 with e1
    subst e1 e2
    have hx : x = ⟨x.data.toList.toArray⟩ := by cases x; simp
    unfold RV at hv
    injection hv with hv
    subst hv
    generalize hn : x.data.toList = n at *
    cases hp : getP P n with
    | none =>
      have h1 := hat (.map [])
      rw [enc_none (idT_none hp)] at h1
      cases h1
    | some i =>
      have h1 := hat (.map [])
      rw [enc_at (idT_get hp)] at h1
      injection h1 with h1
      subst h1
      rw [hx] at hen ⊢
      exact hMore n i w' cnt' hp hl hrg hlt hgr hsz hen
theorem has_enc {α : Type} {T : PL (Value × α)} {n : Ky} {u : Value} {x : α} (h : getP T n = some (u, x)) : Maps.has (encM T) (.string n) = true := by
  obtain ⟨q, h1, _⟩ := enc_find h
  have h2 := List.find?_some h1
  have h3 := List.mem_of_find?_eq_some h1
  unfold encM Maps.has
  exact List.any_eq_true.2 ⟨q, h3, h2⟩
end Go.Mun

-- FsCutR
namespace Go.Mun
open Go Go.RowKit Go.Proofs Go.Maps

theorem cutw_hB {P : Program} {t e : TypeId} {z : Value} {size bytes : Nat} (hT : SliceTy P t e z size bytes) (A : Option Addr) (n c : Nat) {kh : IntKind} {hi' : Int} {hi : Nat} (hhi : hi' = hi) (h2 : hi ≤ c) :
    ∀ w, (Instr.slice t (.slice A n c) none (some (.int kh hi')) none).run P w = .ok (.slice A hi c) w := by
  subst hhi
  intro w
  rw [run_slice_h w t A n c hT.under kh hi (by omega) (by omega), hT.sizeOf_elem]
  have e : ∀ A : Option Addr, A.map (·.add 0) = A := fun A => by cases A <;> simp [Addr.add]
  simp [Result.andThen, sliced, e]
theorem row_cap {w : World} {base n c size : Nat} {e : TypeId} {A : Option Addr} {xs : List Value} (ho : w.ownsRow base e size (.slice A n c) n xs) : n ≤ c := by
  rcases ho.2 with ⟨e1, e2⟩ | ⟨g, cap, cur, e1, hb, hh, hc, hm, hs, ht⟩
  · omega
  · injection e1 with e1 e3 e4
    omega
theorem own_headB {w : World} {base n c size at_ : Nat} {e : TypeId} {A : Option Addr} {xs : List Value} (ho : w.ownsRow base e size (.slice A n c) n xs) (h : at_ ≤ n) : w.ownsRow base e size (.slice A at_ c) at_ (xs.take (at_ * size)) := by
  obtain ⟨h1, h2⟩ := ho
  have hle : at_ * size ≤ n * size := Nat.mul_le_mul_right _ h
  refine ⟨by rw [List.length_take]; omega, ?_⟩
  rcases h2 with ⟨e1, e2⟩ | ⟨g, cap, cur, e1, hb, hh, hc, hm, hs, ht⟩
  · injection e1 with e1 e3 e4
    subst e1 e4
    exact .inl ⟨by rw [show at_ = 0 from by omega], by omega⟩
  · injection e1 with e1 e3 e4
    subst e1 e4
    exact .inr ⟨g, c, cur, rfl, hb, hh, by omega, hm, hs, by rw [← ht, List.take_take, Nat.min_eq_left hle]⟩
theorem Turn.beyond {k r : Nat} {o o' : Own} {w w' w'' : World} (h : Turn k o o' w w') (hg : w'.grownBy w'' (some r)) (hr : w.heap.size ≤ r) : Turn k o o' w w'' :=
  ⟨hg.os.trans h.os, hg.tape.trans h.tape, hg.output.trans h.output, Nat.le_trans h.size hg.size, fun b hb hn => (hg.block b (Nat.lt_of_lt_of_le hb h.size) (by intro e; injection e with e; omega)).trans (h.block b hb hn), h.old, h.new⟩
theorem Turn.wrote2 {k g : Nat} {t : Tag} {o o' : Own} {w w' w'' : World} (h : Turn k o o' w w') (hg : w'.grownBy w'' (some g)) (e : o g = some (k, t)) : Turn k o o' w w'' :=
  ⟨hg.os.trans h.os, hg.tape.trans h.tape, hg.output.trans h.output, Nat.le_trans h.size hg.size, fun b hb hn => (hg.block b (Nat.lt_of_lt_of_le hb h.size) (by intro e2; injection e2 with e2; subst e2; exact hn t e)).trans (h.block b hb hn), h.old, h.new⟩
theorem Turn.below2 {k : Nat} {o o' : Own} {w w' w'' : World} (h : Turn k o o' w w') (hb : Below w'.heap.size w' w'') : Turn k o o' w w'' :=
  ⟨hb.os.trans h.os, hb.tape.trans h.tape, hb.output.trans h.output, Nat.le_trans h.size hb.size, fun b hb' hn => (hb.block b (Nat.lt_of_lt_of_le hb' h.size)).trans (h.block b hb' hn), h.old, h.new⟩
/-- which files are found behind changes -/
theorem doL_ids : ∀ {l : List Chg} {P : PL Nat} {i : Nat}, ChgsOk P l → hasId (doL P l) i → hasId P i ∨ ∃ n, Chg.made n i ∈ l
  | [], _, _, _, h => .inl h
  | c :: l, P, i, hc, h => by
    rcases doL_ids (l := l) (P := doC P c) hc.2 h with ⟨p, hp, e⟩ | ⟨n, hn⟩
    · cases c with
      | made n j =>
        rcases mem_made (P := P) hp with hp | ⟨_, hp⟩
        · exact .inl ⟨p, hp, e⟩
        · exact .inr ⟨n, by rw [← e, hp]; exact List.mem_cons_self⟩
      | ren a b j =>
        rcases mem_ren (P := P) hp with hp | ⟨_, hp⟩
        · exact .inl ⟨p, hp, e⟩
        · exact .inl ⟨_, getP_mem hc.1.2.2.2, by rw [← e, hp]⟩
      | del a => exact .inl ⟨p, mem_del (P := P) hp, e⟩
    · exact .inr ⟨n, List.mem_cons_of_mem _ hn⟩
theorem doL_names : ∀ {l : List Chg} {P : PL Nat}, ChgsOk P l → (∀ p ∈ P, NameOk p.1) → ∀ p ∈ doL P l, NameOk p.1
  | [], _, _, h, p, hp => h p hp
  | c :: l, P, hc, h, p, hp => doL_names (l := l) (P := doC P c) hc.2 (fun q hq => by
      cases c with
      | made n j =>
        rcases mem_made (P := P) hq with hq | ⟨e, _⟩
        · exact h q hq
        · rw [e]; exact hc.1.1
      | ren a b j =>
        rcases mem_ren (P := P) hq with hq | ⟨e, _⟩
        · exact h q hq
        · rw [e]; exact hc.1.2.1
      | del a => exact h q (mem_del (P := P) hq)) p hp
theorem left_live {M : FSs} (h : Fine M) {i : Nat} (hi : hasId (left M) i) : Live M i := by
  rcases doL_ids (h.ok.take _) hi with h1 | ⟨n, h1⟩
  · exact .inr (.inl h1)
  · exact .inr (.inr ⟨n, List.mem_of_mem_take h1⟩)
theorem live_lt {M : FSs} (h : Fine M) {i : Nat} (hi : Live M i) : i < M.next := by
  rcases hi with ⟨p, hp, e⟩ | ⟨p, hp, e⟩ | ⟨n, hn⟩
  · rw [← e]; exact h.fresh p hp
  · rw [← e]; exact h.sfresh p hp
  · exact h.made n i hn
open Classical in
theorem Fine.crash {M : FSs} (h : Fine M) : Fine (crashM M) := by
  have hl : Rises (left M) := doL_rises h.rsyn _
  have hn : ∀ p ∈ left M, NameOk p.1 := doL_names (h.ok.take _) h.snames
  have hi : ∀ p ∈ left M, p.2 < M.next := fun p hp => live_lt h (left_live h ⟨p, hp, rfl⟩)
  refine ⟨hl, hl, rfl, trivial, hn, hn, hi, hi, fun n i h => absurd h List.not_mem_nil, fun i => ?_, h.once.doL h.rsyn (h.ok.take _), Int.le_refl _⟩
  show ((if hasId (left M) i then cutF M.cut (M.fs i) else M.fs i) : FileS).s ≤ ((if hasId (left M) i then cutF M.cut (M.fs i) else M.fs i) : FileS).b.length
  have hs := h.sized i
  split
  · have := cutAt_le (cut := M.cut) hs
    show cutAt M.cut (M.fs i) ≤ ((M.fs i).b.take (cutAt M.cut (M.fs i))).length
    rw [List.length_take]
    omega
  · exact hs
end Go.Mun

-- FsFails
namespace Go.Mun
open Go Go.RowKit Go.Proofs Go.Maps

theorem row_atC {w : World} {base : Nat} {e : TypeId} {size n c : Nat} {A : Option Addr} {xs : List Value} (h : w.ownsRow base e size (.slice A n c) n xs) (hn : 0 < n) : ∃ g, A = some ⟨g, 0, none⟩ := by
  rcases h.2 with ⟨e1, _⟩ | ⟨g, cap, cur, e1, _⟩
  · injection e1 with e1 e2 e3; omega
  · injection e1 with e1 e2 e3; exact ⟨g, e1⟩
/-- what each operation of the region writes -/
def SFe (n : Nat) : Nat → Value → World → Prop
  | 0, v, _ => v = .int .i64 (n : Nat)
  | 1, v, _ => v = .bool true
  | 2, v, _ => v = .bool true
  | 3, _, _ => True
  | 4, _, _ => True
  | 5, _, _ => True
  | 6, _, _ => True
  | 7, _, _ => True
  | 8, _, _ => True
  | 9, _, _ => True
  | 10, _, _ => True
  | 11, _, _ => True
  | 12, _, _ => True
  | 13, _, _ => True
  | _, v, _ => v = .bool true
theorem SFe_stays (n : Nat) : ∀ i v (wa wb : World), Below wa.heap.size wa wb → SFe n i v wa → SFe n i v wb
  | 0, _, _, _, _, h => h
  | 1, _, _, _, _, h => h
  | 2, _, _, _, _, h => h
  | 3, _, _, _, _, h => h
  | 4, _, _, _, _, h => h
  | 5, _, _, _, _, h => h
  | 6, _, _, _, _, h => h
  | 7, _, _, _, _, h => h
  | 8, _, _, _, _, h => h
  | 9, _, _, _, _, h => h
  | 10, _, _, _, _, h => h
  | 11, _, _, _, _, h => h
  | 12, _, _, _, _, h => h
  | 13, _, _, _, _, h => h
  | _ + 14, _, _, _, _, h => h
/-- what each operation of the region writes -/
def SFf (p g n c j r : Nat) (b : Bool) : Nat → Value → World → Prop
  | 0, v, _ => v = .int .i64 (n : Nat)
  | 1, v, _ => v = .bool false
  | 2, v, _ => v = .bool false
  | 3, v, _ => v = .pointer (some ⟨p, 0, none⟩)
  | 4, v, _ => v = .pointer (some ⟨p, 0, none⟩)
  | 5, v, _ => v = .pointer (some ⟨p, 3, none⟩)
  | 6, v, _ => v = .pointer (some ⟨p, 5, none⟩)
  | 7, v, _ => v = .slice (some ⟨g, 0, none⟩) n c
  | 8, v, _ => v = .int .i64 (j : Nat)
  | 9, v, _ => v = .int .i64 (n : Nat)
  | 10, v, _ => v = .int .i64 (r : Nat)
  | 11, v, _ => v = .pointer (some ⟨g, r, none⟩)
  | 12, v, _ => v = .bool b
  | 13, v, _ => v = .bool !b
  | _, v, _ => v = .bool !b
theorem SFf_stays (p g n c j r : Nat) (b : Bool) : ∀ i v (wa wb : World), Below wa.heap.size wa wb → SFf p g n c j r b i v wa → SFf p g n c j r b i v wb
  | 0, _, _, _, _, h => h
  | 1, _, _, _, _, h => h
  | 2, _, _, _, _, h => h
  | 3, _, _, _, _, h => h
  | 4, _, _, _, _, h => h
  | 5, _, _, _, _, h => h
  | 6, _, _, _, _, h => h
  | 7, _, _, _, _, h => h
  | 8, _, _, _, _, h => h
  | 9, _, _, _, _, h => h
  | 10, _, _, _, _, h => h
  | 11, _, _, _, _, h => h
  | 12, _, _, _, _, h => h
  | 13, _, _, _, _, h => h
  | _ + 14, _, _, _, _, h => h
section
variable {k p : Nat} {M : FSs} {φ : Nat → Nat} {o : Own} {K L : Nat} {w : World}
set_option maxRecDepth 100000 in
set_option maxHeartbeats 4000000 in
theorem fails_yes (h : RelP k p M φ o K L w) (hop : M.op = 0) (hK : K ≤ 1000000000) (hL : L ≤ 1000000000) :
    Calls Try.prog 42 #[.pointer (some ⟨p, 0, none⟩)] w fun e w' => e = .returned (.bool true) ∧ ∃ o', RelP k p (failsM M) φ o' K L w' ∧ Turn k o o' w w' := by
  obtain ⟨bn, bs, vw, vk, hh⟩ := h.head
  have hx := hh.blk
  have H := Lib.hid hh
  have HR := Lib.hid h
  have y3 := hx.cellv (i := 3) rfl
  rw [hop] at y3
  have HO := Lib.hid hop
  obtain ⟨AW, cw, evw⟩ := row_slC hh.waits
  obtain ⟨AK, ck, evk⟩ := row_slC hh.keep
  subst evw evk
  have y2 := hx.cellv (i := 2) rfl
  clear hh h hop
  go_enter Try.func42, Try.ntmps42
  go_upto_block 0 with (fail)
  go_cut [2] (fun s2 wx => ∃ N, s2 = .bool false ∧ MapV wx bs (idT φ (left M)) N ∧ N ≤ K ∧ w.grownBy wx (some bs))
  case first =>
    obtain ⟨N0, hN0, hK0⟩ := H.out.syn
    have HW := Lib.hid (fun (wr : World) (hg : w.grownBy wr (some bs)) => hx.same (same_of hg (HR.out.own.lt H.out.op) H.out.op (one_some H.out.os) (by simp)))
    have HWR := Lib.hid (fun (wr : World) (hg : w.grownBy wr (some bs)) => own_same H.out.waits fun g hg' => same_of hg (HR.out.own.lt (H.out.ow g hg')) (H.out.ow g hg') (one_some H.out.os) (by simp))
    have HKR := Lib.hid (fun (wr : World) (hg : w.grownBy wr (some bs)) => own_same H.out.keep fun g hg' => same_of hg (HR.out.own.lt (H.out.ok g hg')) (H.out.ok g hg') (one_some H.out.os) (by simp))
    have HOK := Lib.hid HR.out.fine.ok
    have hml := HR.out.wl
    have HKE := Lib.hid (show ∀ j, keptN M.keep j 0 = j from fun j => rfl)
    go_wp2_with fail
    go_loopw [38] (fun iv wr => ∃ (j N : Nat), j ≤ M.waits.length ∧ iv = .int .i64 j ∧ MapV wr bs (idT φ (doL M.syn (M.waits.take j))) N ∧ N + (M.waits.length - j) ≤ K ∧ keptN M.keep j (M.waits.length - j) = kept M ∧ w.grownBy wr (some bs)) (fun iv _ => M.waits.length - (RowKit.intOf iv).toNat)
    case atStart => exact ⟨0, N0, Nat.zero_le _, rfl, hN0, hK0, rfl, World.grownBy.refl _ _⟩
    case round =>
      obtain ⟨j, N, hj, rfl, hM, hNK, hkp, hgr⟩ := hrel
      have HM := Lib.hid hM
      have HKP := Lib.hid hkp
      have HGR := Lib.hid hgr
      clear hM hkp hgr
      by_cases hlt : j < M.waits.length
      · have f1 : decide ((j : Int) < M.waits.length) = true := decide_eq_true (by omega)
        have b1 : (0 : Int) ≤ j := by omega
        have b2 : (j : Int) < M.waits.length := by omega
        obtain ⟨c, hc⟩ : ∃ c, M.waits[j]? = some c := ⟨_, List.getElem?_eq_getElem hlt⟩
        have hoW := HWR.out wr HGR.out
        obtain ⟨gW, rfl⟩ := row_atC hoW (by omega)
        have hc1 := hoW.cellAt j (by omega)
        rw [List.getElem?_map, hc] at hc1
        simp only [Option.map_some] at hc1
        have HC := Lib.hid hc
        have y5 := (HW.out wr HGR.out).cellv (i := 5) rfl
        obtain ⟨cv, hcv⟩ : ∃ v, v = chgV φ c := ⟨_, rfl⟩
        rw [← hcv] at hc1
        have HCV := Lib.hid hcv
        clear hc hoW hcv
        go_upto_region 9 with (fail)
        by_cases h0 : M.keep.length = 0
        · have HE := Lib.hid (show ((M.keep.length : Int) == 0) = true by rw [h0]; rfl)
          have H0 := Lib.hid h0
          clear h0
          refine wp_region_each (by kernel_rfl) (by kernel_rfl) (by kernel_rfl) (fun w w' => Below w.heap.size w w') (fun w => Below.refl _ _) (fun x y z h1 h2 => below_step h1 h2) (SFe M.keep.length) (SFe_stays _) ?_ ?_
          · simp only [EachStep]
            refine ⟨?_, ?_, ?_, ?_, ?_, ?_, ?_, ?_, ?_, ?_, ?_, ?_, ?_, ?_, ?_, trivial⟩
            · intro V w' hb hd
              clear hd
              refine ⟨?_⟩
              simp only [fill]
              go_wp2
              exact ⟨rfl, rfl, Below.refl _ _, rfl⟩
            · intro V w' hb hd
              have q := HE.out
              simp only [DepFacts, SFe, Region.binds, forall_const, and_true] at hd
              refine ⟨?_⟩
              simp only [fill, hd]
              clear hd
              go_wp2
              exact ⟨rfl, rfl, Below.refl _ _, rfl⟩
            · intro V w' hb hd
              simp only [DepFacts, SFe, Region.binds, forall_const, and_true] at hd
              refine ⟨?_⟩
              simp only [fill, hd]
              clear hd
              go_wp2
              exact ⟨rfl, rfl, Below.refl _ _, rfl⟩
            · intro V w' hb hd
              simp only [DepFacts, SFe, Region.binds, forall_const, and_true] at hd
              refine ⟨?_⟩
              simp only [fill, hd]
              clear hd
              go_wp2
              exact ⟨rfl, rfl, Below.refl _ _, trivial⟩
            · intro V w' hb hd
              simp only [DepFacts, SFe, Region.binds, forall_const, and_true, true_and] at hd
              refine ⟨?_⟩
              simp only [fill, hd]
              clear hd
              go_wp2
              exact ⟨rfl, rfl, Below.refl _ _, trivial⟩
            · intro V w' hb hd
              simp only [DepFacts, SFe, Region.binds, forall_const, and_true, true_and] at hd
              refine ⟨?_⟩
              simp only [fill, hd]
              clear hd
              go_wp2
              exact ⟨rfl, rfl, Below.refl _ _, trivial⟩
            · intro V w' hb hd
              simp only [DepFacts, SFe, Region.binds, forall_const, and_true, true_and] at hd
              refine ⟨?_⟩
              simp only [fill, hd]
              clear hd
              go_wp2
              exact ⟨rfl, rfl, Below.refl _ _, trivial⟩
            · intro V w' hb hd
              simp only [DepFacts, SFe, Region.binds, forall_const, and_true, true_and] at hd
              refine ⟨?_⟩
              simp only [fill, hd]
              clear hd
              go_wp2
              exact ⟨rfl, rfl, Below.refl _ _, trivial⟩
            · intro V w' hb hd
              simp only [DepFacts, SFe, Region.binds, forall_const, and_true] at hd
              refine ⟨?_⟩
              simp only [fill, hd]
              clear hd
              go_wp2
              exact ⟨rfl, rfl, Below.refl _ _, trivial⟩
            · intro V w' hb hd
              simp only [DepFacts, SFe, Region.binds, forall_const, and_true] at hd
              refine ⟨?_⟩
              simp only [fill, hd]
              clear hd
              go_wp2
              exact ⟨rfl, rfl, Below.refl _ _, trivial⟩
            · intro V w' hb hd
              simp only [DepFacts, SFe, Region.binds, forall_const, and_true, true_and] at hd
              refine ⟨?_⟩
              simp only [fill, hd]
              clear hd
              go_wp2
              exact ⟨rfl, rfl, Below.refl _ _, trivial⟩
            · intro V w' hb hd
              simp only [DepFacts, SFe, Region.binds, forall_const, and_true, true_and] at hd
              refine ⟨?_⟩
              simp only [fill, hd]
              clear hd
              go_wp2
              exact ⟨rfl, rfl, Below.refl _ _, trivial⟩
            · intro V w' hb hd
              simp only [DepFacts, SFe, Region.binds, forall_const, and_true, true_and] at hd
              refine ⟨?_⟩
              simp only [fill, hd]
              clear hd
              go_wp2
              exact ⟨rfl, rfl, Below.refl _ _, trivial⟩
            · intro V w' hb hd
              simp only [DepFacts, SFe, Region.binds, forall_const, and_true, true_and] at hd
              refine ⟨?_⟩
              simp only [fill, hd]
              clear hd
              go_wp2
              exact ⟨rfl, rfl, Below.refl _ _, trivial⟩
            · intro V w' hb hd
              simp only [DepFacts, SFe, Region.binds, forall_const, and_true] at hd
              refine ⟨?_⟩
              simp only [fill, hd]
              clear hd
              go_wp2
              exact ⟨rfl, rfl, Below.refl _ _, rfl⟩
          · intro V w12 hb12 hV
            simp only [SFacts, SFe] at hV
            have h14 := hV.2.2.2.2.2.2.2.2.2.2.2.2.2.2.1
            clear hV
            simp only [fill, h14]
            clear h14
            try simp only [Exit.then]
            try go_simp
            have hgr2 : w.grownBy w12 (some bs) := HGR.out.trans ⟨hb12.os, hb12.tape, hb12.output, hb12.size, fun k hk _ => hb12.block k hk⟩
            have hM2 := (show MapV wr.drew bs _ _ from HM.out).ext hb12
            go_wp2
            go_meet
            refine ⟨N, rfl, ?_, by omega, hgr2⟩
            rw [show left M = doL M.syn (M.waits.take j) from by unfold left; rw [← HKP.out, show M.waits.length - j = (M.waits.length - j - 1) + 1 by omega, keptN, if_pos (.inl H0.out)]]
            exact hM2
        · have hoK := HKR.out wr HGR.out
          obtain ⟨gK, rfl⟩ := row_atC hoK (by omega)
          obtain ⟨n, hn⟩ : ∃ n, n = M.keep.length := ⟨_, rfl⟩
          have hr := Nat.mod_lt j (show 0 < M.keep.length by omega)
          obtain ⟨r, hrr⟩ : ∃ r, r = j % M.keep.length := ⟨_, rfl⟩
          obtain ⟨b, hb⟩ : ∃ b, b = M.keep.getD (j % M.keep.length) false := ⟨_, rfl⟩
          have hkc := hoK.cellAt r (by rw [hrr]; omega)
          have HKD := Lib.hid (show M.keep[r]? = some b by rw [hrr, hb, List.getD_eq_getElem?_getD, List.getElem?_eq_getElem hr]; rfl)
          rw [List.getElem?_map, HKD.out] at hkc
          simp only [Option.map_some] at hkc
          have HB := Lib.hid hb
          have hr0 : r < n := by rw [hrr, hn]; exact hr
          have hnp : 0 < n := by omega
          have HRM := Lib.hid (show ((j : Int)).tmod ((n : Nat) : Int) = ((r : Nat) : Int) by rw [Int.tmod_eq_emod_of_nonneg (by omega), hrr, hn]; rfl)
          have HR1 := Lib.hid (show (0 : Int) ≤ (r : Nat) by omega)
          have HR2 := Lib.hid (show ((r : Nat) : Int) < (n : Nat) by omega)
          have HE := Lib.hid (show ((n : Int) == 0) = false by rw [beq_eq_false_iff_ne]; omega)
          have HKC := Lib.hid (fun (w' : World) (hb : Below wr.drew.heap.size wr.drew w') => cell_ext hb (show wr.drew.cell? _ = _ from hkc))
          have HY5 := Lib.hid (fun (w' : World) (hb : Below wr.drew.heap.size wr.drew w') => cell_ext hb (show wr.drew.cell? _ = _ from y5))
          rw [← hn] at HY5 ⊢
          replace hrr := Lib.hid hrr
          replace hn := Lib.hid hn
          clear hb hkc hoK hr y5
          refine wp_region_each (by kernel_rfl) (by kernel_rfl) (by kernel_rfl) (fun w w' => Below w.heap.size w w') (fun w => Below.refl _ _) (fun x y z h1 h2 => below_step h1 h2) (SFf p gK n ck j r b) (SFf_stays _ _ _ _ _ _ _) ?_ ?_
          · simp only [EachStep]
            refine ⟨?_, ?_, ?_, ?_, ?_, ?_, ?_, ?_, ?_, ?_, ?_, ?_, ?_, ?_, ?_, trivial⟩
            · intro V w' hb hd
              clear hd
              refine ⟨?_⟩
              simp only [fill]
              go_wp2
              exact ⟨rfl, rfl, Below.refl _ _, rfl⟩
            · intro V w' hb hd
              have q := HE.out
              simp only [DepFacts, SFf, Region.binds, forall_const, and_true] at hd
              refine ⟨?_⟩
              simp only [fill, hd]
              clear hd
              go_wp2
              exact ⟨rfl, rfl, Below.refl _ _, rfl⟩
            · intro V w' hb hd
              simp only [DepFacts, SFf, Region.binds, forall_const, and_true] at hd
              refine ⟨?_⟩
              simp only [fill, hd]
              clear hd
              go_wp2
              exact ⟨rfl, rfl, Below.refl _ _, rfl⟩
            · intro V w' hb hd
              simp only [DepFacts, SFf, Region.binds, forall_const, and_true] at hd
              refine ⟨?_⟩
              simp only [fill, hd]
              clear hd
              go_wp2
              exact ⟨rfl, rfl, Below.refl _ _, rfl⟩
            · intro V w' hb hd
              simp only [DepFacts, SFf, Region.binds, forall_const, and_true] at hd
              refine ⟨?_⟩
              simp only [fill, hd]
              clear hd
              go_wp2
              exact ⟨rfl, rfl, Below.refl _ _, rfl⟩
            · intro V w' hb hd
              simp only [DepFacts, SFf, Region.binds, forall_const, and_true] at hd
              refine ⟨?_⟩
              simp only [fill, hd]
              clear hd
              go_wp2
              exact ⟨rfl, rfl, Below.refl _ _, rfl⟩
            · intro V w' hb hd
              simp only [DepFacts, SFf, Region.binds, forall_const, and_true] at hd
              refine ⟨?_⟩
              simp only [fill, hd]
              clear hd
              go_wp2
              exact ⟨rfl, rfl, Below.refl _ _, rfl⟩
            · intro V w' hb hd
              have q := HY5.out _ hb
              simp only [DepFacts, SFf, Region.binds, forall_const, and_true] at hd
              refine ⟨?_⟩
              simp only [fill, hd]
              clear hd
              go_wp2
              exact ⟨rfl, rfl, Below.refl _ _, rfl⟩
            · intro V w' hb hd
              simp only [DepFacts, SFf, Region.binds, forall_const, and_true] at hd
              refine ⟨?_⟩
              simp only [fill, hd]
              clear hd
              go_wp2
              exact ⟨rfl, rfl, Below.refl _ _, rfl⟩
            · intro V w' hb hd
              simp only [DepFacts, SFf, Region.binds, forall_const, and_true] at hd
              refine ⟨?_⟩
              simp only [fill, hd]
              clear hd
              go_wp2
              exact ⟨rfl, rfl, Below.refl _ _, rfl⟩
            · intro V w' hb hd
              have q := HRM.out
              simp only [DepFacts, SFf, Region.binds, forall_const, and_true] at hd
              refine ⟨?_⟩
              simp only [fill, hd]
              clear hd
              go_wp2
              exact ⟨rfl, rfl, Below.refl _ _, rfl⟩
            · intro V w' hb hd
              have q1 := HR1.out
              have q2 := HR2.out
              simp only [DepFacts, SFf, Region.binds, forall_const, and_true] at hd
              refine ⟨?_⟩
              simp only [fill, hd]
              clear hd
              go_wp2
              exact ⟨rfl, rfl, Below.refl _ _, rfl⟩
            · intro V w' hb hd
              have q := HKC.out _ hb
              simp only [DepFacts, SFf, Region.binds, forall_const, and_true] at hd
              refine ⟨?_⟩
              simp only [fill, hd]
              clear hd
              go_wp2
              exact ⟨rfl, rfl, Below.refl _ _, rfl⟩
            · intro V w' hb hd
              simp only [DepFacts, SFf, Region.binds, forall_const, and_true] at hd
              refine ⟨?_⟩
              simp only [fill, hd]
              clear hd
              go_wp2
              exact ⟨rfl, rfl, Below.refl _ _, rfl⟩
            · intro V w' hb hd
              simp only [DepFacts, SFf, Region.binds, forall_const, and_true] at hd
              refine ⟨?_⟩
              simp only [fill, hd]
              clear hd
              go_wp2
              exact ⟨rfl, rfl, Below.refl _ _, rfl⟩
          · intro V w12 hb12 hV
            simp only [SFacts, SFf] at hV
            have h14 := hV.2.2.2.2.2.2.2.2.2.2.2.2.2.2.1
            clear hV
            simp only [fill, h14]
            clear h14
            try simp only [Exit.then]
            try go_simp
            have hgr2 : w.grownBy w12 (some bs) := HGR.out.trans ⟨hb12.os, hb12.tape, hb12.output, hb12.size, fun k hk _ => hb12.block k hk⟩
            have hM2 := (show MapV wr.drew bs _ _ from HM.out).ext hb12
            cases b
            · -- not kept
              go_wp2
              go_meet
              refine ⟨N, rfl, ?_, by omega, hgr2⟩
              rw [show left M = doL M.syn (M.waits.take j) from by unfold left; rw [← HKP.out, show M.waits.length - j = (M.waits.length - j - 1) + 1 by omega, keptN, if_pos (.inr (by rw [← HB.out]))]]
              exact hM2
            · -- kept
              have y1 := (HW.out w12 hgr2).cellv (i := 1) rfl
              have CD := Lib.hid (do_any hM2 (by omega) c (HOK.out.at HC.out))
              rw [← HCV.out] at CD
              have HKN := Lib.hid (show keptN M.keep (j + 1) (M.waits.length - (j + 1)) = kept M by
                have h1 := HKP.out
                rw [show M.waits.length - j = (M.waits.length - (j + 1)) + 1 by omega, keptN, if_neg] at h1
                · exact h1
                · rintro (h2 | h2)
                  · rw [← hn.out] at h2; omega
                  · rw [← HB.out] at h2; cases h2)
              have HTK := Lib.hid (doL_take (P := M.syn) HC.out)
              go_wp2_with (first
                | (go_at_call 55; (with_reducible refine CD.out.mono ?_); rintro e w13 ⟨rfl, ⟨N', hM13, hN13⟩, hg13⟩)
                | fail)
              go_roundw
              case rel => exact ⟨j + 1, N', by omega, by go_num, by rw [HTK.out]; exact hM13, by omega, HKN.out, hgr2.trans hg13⟩
              case measure => simp [RowKit.intOf]; omega
      · have ej : j = M.waits.length := by omega
        have f1 : decide ((j : Int) < M.waits.length) = false := decide_eq_false (by omega)
        go_wp2
        go_meet
        refine ⟨N, rfl, ?_, by omega, HGR.out⟩
        have e1 := HKP.out
        rw [ej, Nat.sub_self] at e1
        have e2 : left M = doL M.syn (M.waits.take j) := by unfold left; rw [← e1, ej]; rfl
        rw [e2]
        exact HM.out
  case rest =>
    obtain ⟨N, rfl, hM, hNK, hgr⟩ := hcut
    have _hz := wc.heap.size
    have hx1 := hx.same (same_of hgr (HR.out.own.lt H.out.op) H.out.op (one_some H.out.os) (by simp))
    have y1 := hx1.cellv (i := 1) rfl
    go_wp2_with (first
      | (at_range; refine wpList_range_own _ rfl _ 65 rfl 9 89 lawS namesTy RV bs N _ rfl hM ?_; intro w0 hrg0 hg0 hs0)
      | fail)
    go_frame
    have hgw0 : w.grownBy w0 (some bs) := hgr.trans ⟨hg0.os, hg0.tape, hg0.output, hg0.size, fun k hk _ => hg0.block k hk (by simp)⟩
    have T0 : Turn k o o w w0 := Turn.wrote HR.out.own hgw0 H.out.os
    have hwb : Below wc.heap.size wc w0 := ⟨hg0.os, hg0.tape, hg0.output, hg0.size, fun k hk => hg0.block k hk (by simp)⟩
    have hpc : p < wc.heap.size := Nat.lt_of_lt_of_le (HR.out.own.lt H.out.op) hgr.size
    have hrl : Rises (left M) := doL_rises HR.out.fine.rsyn _
    have hF0 : ∀ i, Live M i → FileAt k φ o w0 i (cutFs M.cut M.fs (left M) (Maps.has (encM (idT φ (left M)))) i) := fun i hi => by
      rw [cutFs_start fun p hp => has_enc (idT_get (getP_at hrl hp))]
      obtain ⟨v, f1, f2, f3, f4⟩ := (HR.out.file i hi).1
      exact ⟨v, f1.same (same_of hgw0 (HR.out.own.lt f2) f2 (one_some H.out.os) (by simp)), f2, own_same f3 fun g hg' => same_of hgw0 (HR.out.own.lt (f4 g hg')) (f4 g hg') (one_some H.out.os) (by simp), f4⟩
    go_loopw [7] (fun _ wr => ∃ (lf : Lit → Bool) (cnt : Nat), wr.ranges Try.prog 9 RV bs wc.heap.size N (encM (idT φ (left M))) lf cnt ∧ (∀ i, Live M i → FileAt k φ o wr i (cutFs M.cut M.fs (left M) lf i)) ∧ (∀ b t, o b = some (k, t) → (∀ i, t ≠ .file i) → wr.heap[b]? = w0.heap[b]?) ∧ Turn k o o w wr) (fun _ wr => wr.rangeLeft bs wc.heap.size)
    case atStart => exact ⟨_, _, hrg0, hF0, fun _ _ _ _ => rfl, T0⟩
    case round =>
      obtain ⟨lf, cnt, hrg, hF, hst, hT⟩ := hrel
      have HF := Lib.hid hF
      have HST := Lib.hid hst
      have HT := Lib.hid hT
      clear hF hst hT
      go_wp2_with (first
        | (at_next; refine wpList_next_names rfl (.tmp 75) rfl rfl hrg ?_ ?_)
        | fail)
      · intro hc0 hl0
        have hxr : Blk wr p 68 _ := (hx1.ext hwb).same (HST.out p _ H.out.op (by simp))
        have y1 := hxr.cellv (i := 1) rfl
        have hMr : MapV wr bs (idT φ (left M)) N := (hM.ext hwb).same (HST.out bs _ H.out.os (by simp))
        have HL0 := Lib.hid hl0
        have hpr : p < wr.heap.size := hxr.lt
        clear hl0
        go_wp2_with (first
          | (go_at_call 56; (with_reducible refine (CloneN_any hMr).mono ?_); rintro e w2 ⟨rfl, hM2, hb2⟩; have hx2 := hxr.ext hb2)
          | ((with_reducible refine gd_store ?_); refine wpList_store_cell rfl 65 (.tmp 133) (.tmp 131) rfl (i := 0) (v := .map (some wr.heap.size)) hx2 (show 0 < 8 by decide) (by kernel_rfl) rfl rfl rfl ?_; intro w3 hx3 hg3)
          | ((with_reducible refine gd_store ?_); refine wpList_store_cell rfl 66 (.tmp 135) (.const (.slice none 0 0)) rfl (i := 2) (v := .slice none 0 0) hx3 (show 2 < 8 by decide) (by kernel_rfl) rfl rfl rfl ?_; intro w4 hx4 hg4)
          | ((with_reducible refine gd_store ?_); refine wpList_store_cell rfl 4 (.tmp 138) (.const (.bool true)) rfl (i := 6) (v := .bool true) hx4 (show 6 < 8 by decide) (by kernel_rfl) rfl rfl rfl ?_; intro w5 hx5 hg5)
          | ((with_reducible refine gd_store ?_); refine wpList_store_part rfl 58 (.tmp 142) (.tmp 140) rfl (o := 3) (cells := #[.int .i64 (-1), .int .i64 0, .slice none 0 0]) hx5 (show 3 + 3 ≤ 8 by decide) rfl rfl (by kernel_rfl) rfl ?_; intro w6 hx6 hg6)
          | fail)
        go_ret
        rw [show failsM M = crashM M from if_pos HO.out]
        have hg26 := ((hg3.trans hg4).trans hg5).trans hg6
        have T6 : Turn k o o w w6 := (HT.out.below2 hb2).wrote2 hg26 H.out.op
        have hrw : w.heap.size ≤ wr.heap.size := HT.out.size
        have hlt2 := hM2.lt
        have ho := HR.out.own
        have hne : wr.heap.size ≠ p := by omega
        have hs6 : w2.heap.size ≤ w6.heap.size := hg26.size
        have st : ∀ {b t}, o b = some (k, t) → t ≠ .fs → w6.heap[b]? = wr.heap[b]? := fun {b t} e n1 => by
          have hb := ho.lt e
          rw [same_of hg26 (by omega) e (one_some H.out.op) n1, hb2.block b (by omega)]
        have q1 : ∀ {b x}, o b = some x → give o wr.heap.size (k, .now) b = some x := fun e => by rw [give_ne (by have := ho.lt e; omega)]; exact e
        refine ⟨rfl, give o wr.heap.size (k, .now), ⟨HR.out.fine.crash, (ho.more T6.size).give (by omega) _, ⟨wr.heap.size, bs, .slice none 0 0, .slice none 0 0, ⟨hx6, q1 H.out.op, give_same _ _ _, q1 H.out.os, ⟨N, hM2.same (hg26.block _ hlt2 (by intro e; injection e with e; omega)), hNK⟩, ⟨N, hMr.same (st H.out.os (by simp)), hNK⟩, World.ownsRow_nil _ _ _ _, (fun g h => by cases h), World.ownsRow_nil _ _ _ _, (fun g h => by cases h)⟩⟩, fun i hi => ?_, HR.out.ops, ⟨by show (-9223372036854775808 : Int) ≤ 0; decide, by show (0 : Int) ≤ _; decide⟩, by show (-1 : Int) ≤ _; decide, Nat.zero_le _⟩, T6.give hrw _⟩
        have hid : hasId (left M) i := by
          rcases hi with h | h | ⟨n, h⟩
          · exact h
          · exact h
          · exact absurd h List.not_mem_nil
        have hli := left_live HR.out.fine hid
        obtain ⟨v, f1, f2, f3, f4⟩ := HF.out i hli
        have hfi : (crashM M).fs i = cutFs M.cut M.fs (left M) lf i := (cutFs_end HL0.out i).symm
        rw [hfi]
        refine ⟨⟨v, f1.same (st f2 (by simp)), q1 f2, own_same f3 fun g hg => st (f4 g hg) (by simp), fun g hg => q1 (f4 g hg)⟩, ?_⟩
        rw [cutFs_end HL0.out i, if_pos hid]
        show ((M.fs i).b.take _).length ≤ L
        rw [List.length_take]
        have := (HR.out.file i hli).2
        omega
      · intro n i w1 cnt1 hgt hln hrg1 hlt1 hg1 hs1 hen1
        have hxp : Blk w1 p 68 _ := ((hx1.ext hwb).same (HST.out p _ H.out.op (by simp))).grown hg1 (by intro e; injection e with e; omega)
        have y4 := hxp.cellv (i := 4) rfl
        have hlo : ∀ {b x}, o b = some x → b < wc.heap.size := fun e => Nat.lt_of_lt_of_le (HR.out.own.lt e) hgr.size
        have hid : hasId (left M) i := ⟨_, getP_mem hgt, rfl⟩
        have hli := left_live HR.out.fine hid
        obtain ⟨v, f1, f2, f3, f4⟩ := HF.out i hli
        obtain ⟨s1, s2⟩ := cutFs_step (cut := M.cut) (fs := M.fs) hrl (HR.out.fine.once.doL HR.out.fine.rsyn (HR.out.fine.ok.take _)) (getP_mem hgt) hln
        rw [s1] at f1 f3
        have S2 := Lib.hid s2
        obtain ⟨A, c, rfl⟩ := row_slC f3
        have hcap := row_cap f3
        have hsz := HR.out.fine.sized i
        have hbl := (HR.out.file i hli).2
        have hat := cutAt_le (cut := M.cut) hsz
        have hrs : wc.heap.size ≤ wr.heap.size := by have := hrg.lt; omega
        have st1 : ∀ {b x}, o b = some x → w1.heap[b]? = wr.heap[b]? := fun {b x} e => hg1.block b (Nat.lt_of_lt_of_le (hlo e) hrs) (by intro e2; injection e2 with e2; have := hlo e; omega)
        have hz := f1.same (st1 f2)
        have z0 := hz.cellv (i := 0) rfl
        have z1 := hz.cellv (i := 1) rfl
        have F3 := Lib.hid f3
        have F2 := Lib.hid f2
        have F4 := Lib.hid f4
        have ST1 := Lib.hid (fun (b : Nat) (x : Nat × Tag) (e : o b = some x) => st1 e)
        have HRG := Lib.hid hrg
        have HRG1 := Lib.hid hrg1
        have HG1 := Lib.hid hg1
        obtain ⟨l0, hl0⟩ : ∃ x, x = (M.fs i).b.length := ⟨_, rfl⟩
        obtain ⟨s0, hs0⟩ : ∃ x, x = (M.fs i).s := ⟨_, rfl⟩
        obtain ⟨at0, hat0⟩ : ∃ x, x = cutAt M.cut (M.fs i) := ⟨_, rfl⟩
        have hcd : at0 = if 0 ≤ M.cut then s0 + M.cut.toNat % (l0 - s0 + 1) else s0 := by rw [hat0, hs0, hl0]; rfl
        rw [← hl0] at z0 hz hcap hsz hbl hat
        rw [← hs0] at z1 hz hsz hat
        rw [← hat0] at hat
        have HLS := Lib.hid (show l0 = (M.fs i).b.length ∧ s0 = (M.fs i).s ∧ at0 = cutAt M.cut (M.fs i) from ⟨hl0, hs0, hat0⟩)
        clear f1 f2 f3 f4 st1 s1 s2 hl0 hs0 hat0 hrg hrg1 hg1 hxp
        have hcb := HR.out.cut
        have hbT := bytesTyC
        by_cases hcut : 0 ≤ M.cut
        · have f1 : decide (0 ≤ M.cut) = true := decide_eq_true hcut
          rw [if_pos hcut] at hcd
          have hmod := Nat.mod_lt M.cut.toNat (show 0 < l0 - s0 + 1 by omega)
          obtain ⟨kp, hkp⟩ : ∃ x, x = M.cut.toNat % (l0 - s0 + 1) := ⟨_, rfl⟩
          have QM := Lib.hid (show M.cut.tmod ((l0 : Int) - (s0 : Int) + 1) = (kp : Int) by
            rw [Int.tmod_eq_emod_of_nonneg hcut, hkp, Int.natCast_emod, Int.toNat_of_nonneg hcut]
            congr 1
            omega)
          rw [← hkp] at hcd hmod
          clear hkp
          have q0 : (((l0 : Int) - (s0 : Int) + 1) == 0) = false := by rw [beq_eq_false_iff_ne]; omega
          have qw : IntKind.i64.wrap ((l0 : Int) - (s0 : Int) + 1) = (l0 : Int) - (s0 : Int) + 1 := IntWalk.i64_in _ (by omega)
          have qw0 : IntKind.i64.wrap ((l0 : Int) - (s0 : Int)) = (l0 : Int) - (s0 : Int) := IntWalk.i64_in _ (by omega)
          have qk : IntKind.i64.wrap (kp : Int) = (kp : Int) := IntWalk.i64_in _ (by omega)
          go_upto_region 17 with (fail)
          have qm := QM.out
          go_quiet (fail)
          have HBn := below_drewN (Below.refl w1.heap.size w1) nq
          replace hz := hz.drewN nq
          have z0 := hz.cellv (i := 0) rfl
          have z1 := hz.cellv (i := 1) rfl
          have hwn0 : (w1.drewN nq).heap.size = w1.heap.size := rfl
          generalize w1.drewN nq = wn at HBn hz z0 z1 hwn0 ⊢
          try simp only [Exit.then]
          try go_simp
          have qs : IntKind.i64.wrap ((s0 : Int) + (kp : Int)) = (s0 : Int) + (kp : Int) := IntWalk.i64_in _ (by omega)
          subst at0
          have qc := cutw_hB hbT A l0 c (kh := .i64) (hi' := (s0 : Int) + (kp : Int)) (hi := s0 + kp) (by omega) (by omega)
          have HBN := Lib.hid HBn
          have hpw : wn.heap.size = wr.heap.size := hwn0.trans hs1
          have HPW := Lib.hid hpw
          clear hpw HBn
          go_upto_region 18 with (fail)
          go_still_tail 14, (by kernel_rfl)
          refine wpList_store_cell rfl 22 (.tmp 116) (.tmp 114) rfl (w := wn.drew) hz.drew (i := 0) (v := .slice A (s0 + kp) c) (show 0 < 2 by decide) (by kernel_rfl) rfl rfl rfl ?_
          intro w5 hx5 hg5
          have y0 := hx5.cellv (i := 0) rfl
          go_wp2_with (first
            | ((with_reducible refine gd_store ?_); refine wpList_store_cell rfl 3 (.tmp 124) (.tmp 122) rfl (i := 1) (v := .int .i64 (s0 + kp : Nat)) hx5 (show 1 < 2 by decide) (by kernel_rfl) rfl rfl rfl ?_; intro w6 hx6 hg6)
            | fail)
          have hg16 : w1.grownBy w6 (some (φ i)) := by
            have h1 : wn.grownBy w6 (some (φ i)) := (show wn.grownBy w5 (some (φ i)) from ⟨hg5.os, hg5.tape, hg5.output, hg5.size, hg5.block⟩).trans hg6
            exact grown_via HBN.out h1
          have nbi : bs ≠ φ i := own_ne H.out.os F2.out (by simp)
          have nri : wc.heap.size ≠ φ i := by have := hlo F2.out; omega
          have hrg6 := HRG1.out.kept hg16 (by intro e; injection e with e; exact nbi e) (by intro e; injection e with e; exact nri e)
          have w1s : w1.heap.size = wr.heap.size := hs1
          have st6 : ∀ {b : Nat} {t : Tag}, o b = some (k, t) → t ≠ .file i → w6.heap[b]? = wr.heap[b]? := fun {b t} e ht => (same_of hg16 (by have := hlo e; omega) e (one_some F2.out) ht).trans (ST1.out b _ e)
          have hrel6 : ∃ (lf : Lit → Bool) (cnt : Nat), w6.ranges Try.prog 9 RV bs wc.heap.size N (encM (idT φ (left M))) lf cnt ∧ (∀ i, Live M i → FileAt k φ o w6 i (cutFs M.cut M.fs (left M) lf i)) ∧ (∀ b t, o b = some (k, t) → (∀ i, t ≠ .file i) → w6.heap[b]? = w0.heap[b]?) ∧ Turn k o o w w6 := by
            refine ⟨_, _, hrg6, fun j hj => ?_, fun b t e ht => (st6 e (ht i)).trans (HST.out b t e ht), (HT.out.beyond HG1.out hgr.size).wrote2 hg16 F2.out⟩
            rw [S2.out]
            show FileAt k φ o w6 j (if j = i then cutF M.cut (M.fs i) else cutFs M.cut M.fs (left M) lf j)
            by_cases hji : j = i
            · subst hji
              rw [if_pos rfl]
              obtain ⟨e1, e2, e3⟩ := HLS.out
              have F4' : ∀ n g, (Value.slice A n c).ownBlock = some g → o g = some (k, .byt j) := by
                intro n g hg
                cases A with
                | none => cases hg
                | some a => exact F4.out g hg
              have hle : s0 + kp ≤ (M.fs j).b.length := by omega
              have r6 := own_same (own_headB F3.out hle) (w' := w6) fun g hg => st6 (F4' _ g hg) (by simp)
              have el : (cutF M.cut (M.fs j)).b.length = s0 + kp := by
                show ((M.fs j).b.take (cutAt M.cut (M.fs j))).length = _
                rw [List.length_take, ← e3]
                omega
              refine ⟨.slice A (s0 + kp) c, ?_, F2.out, ?_, F4' _⟩
              · show Blk w6 (φ j) _ #[.slice A (s0 + kp) c, .int .i64 ((cutAt M.cut (M.fs j) : Nat) : Int)]
                rw [← e3]
                exact hx6
              · rw [el]
                show w6.ownsRow 0 _ 1 _ _ (bv ((M.fs j).b.take (cutAt M.cut (M.fs j))))
                rw [← e3, ← bv_take]
                rw [Nat.mul_one] at r6
                exact r6
            · rw [if_neg hji]
              obtain ⟨v, g1, g2, g3, g4⟩ := HF.out j hj
              exact ⟨v, g1.same (st6 g2 (by intro e; injection e with e; exact hji e)), g2, own_same g3 fun g hg => st6 (g4 g hg) (by simp), g4⟩
          go_roundw
          case measure =>
            show World.rangeLeft w6 bs wc.heap.size < World.rangeLeft wr bs wc.heap.size
            rw [hrg6.left_eq, HRG.out.left_eq]
            exact hlt1
          case rel => first | exact hrel6 | (obtain ⟨lf', c', h1, h2⟩ := hrel6; exact ⟨lf', ⟨c', h1⟩, h2⟩) | exact ⟨_, _, _, _, _, _, _, _, _, _, _, _, _, _, _, _, _, _, _, _, _, _, _, _, _, _, _, _, _, _, _, _, _, _, _, _, _, _, _, _, _, _, _, _, _, _, _, _, _, _, _, hrel6, rfl⟩
        · have f1 : decide (0 ≤ M.cut) = false := decide_eq_false hcut
          rw [if_neg hcut] at hcd
          obtain ⟨kp, hkp⟩ : ∃ x : Nat, x = 0 := ⟨_, rfl⟩
          have HBn : Below w1.heap.size w1 w1 := Below.refl w1.heap.size w1
          have qs : IntKind.i64.wrap ((s0 : Int)) = (s0 : Int) := IntWalk.i64_in _ (by omega)
          subst at0
          have qc := cutw_hB hbT A l0 c (kh := .i64) (hi' := (s0 : Int)) (hi := s0) (by omega) (by omega)
          have HBN := Lib.hid HBn
          have hpw : w1.heap.size = wr.heap.size := hs1
          have HPW := Lib.hid hpw
          clear hpw HBn
          go_upto_region 18 with (fail)
          go_still_tail 14, (by kernel_rfl)
          refine wpList_store_cell rfl 22 (.tmp 116) (.tmp 114) rfl (w := w1.drew) hz.drew (i := 0) (v := .slice A (s0) c) (show 0 < 2 by decide) (by kernel_rfl) rfl rfl rfl ?_
          intro w5 hx5 hg5
          have y0 := hx5.cellv (i := 0) rfl
          go_wp2_with (first
            | ((with_reducible refine gd_store ?_); refine wpList_store_cell rfl 3 (.tmp 124) (.tmp 122) rfl (i := 1) (v := .int .i64 (s0 : Nat)) hx5 (show 1 < 2 by decide) (by kernel_rfl) rfl rfl rfl ?_; intro w6 hx6 hg6)
            | fail)
          have hg16 : w1.grownBy w6 (some (φ i)) := by
            have h1 : w1.grownBy w6 (some (φ i)) := (show w1.grownBy w5 (some (φ i)) from ⟨hg5.os, hg5.tape, hg5.output, hg5.size, hg5.block⟩).trans hg6
            exact grown_via HBN.out h1
          have nbi : bs ≠ φ i := own_ne H.out.os F2.out (by simp)
          have nri : wc.heap.size ≠ φ i := by have := hlo F2.out; omega
          have hrg6 := HRG1.out.kept hg16 (by intro e; injection e with e; exact nbi e) (by intro e; injection e with e; exact nri e)
          have w1s : w1.heap.size = wr.heap.size := hs1
          have st6 : ∀ {b : Nat} {t : Tag}, o b = some (k, t) → t ≠ .file i → w6.heap[b]? = wr.heap[b]? := fun {b t} e ht => (same_of hg16 (by have := hlo e; omega) e (one_some F2.out) ht).trans (ST1.out b _ e)
          have hrel6 : ∃ (lf : Lit → Bool) (cnt : Nat), w6.ranges Try.prog 9 RV bs wc.heap.size N (encM (idT φ (left M))) lf cnt ∧ (∀ i, Live M i → FileAt k φ o w6 i (cutFs M.cut M.fs (left M) lf i)) ∧ (∀ b t, o b = some (k, t) → (∀ i, t ≠ .file i) → w6.heap[b]? = w0.heap[b]?) ∧ Turn k o o w w6 := by
            refine ⟨_, _, hrg6, fun j hj => ?_, fun b t e ht => (st6 e (ht i)).trans (HST.out b t e ht), (HT.out.beyond HG1.out hgr.size).wrote2 hg16 F2.out⟩
            rw [S2.out]
            show FileAt k φ o w6 j (if j = i then cutF M.cut (M.fs i) else cutFs M.cut M.fs (left M) lf j)
            by_cases hji : j = i
            · subst hji
              rw [if_pos rfl]
              obtain ⟨e1, e2, e3⟩ := HLS.out
              have F4' : ∀ n g, (Value.slice A n c).ownBlock = some g → o g = some (k, .byt j) := by
                intro n g hg
                cases A with
                | none => cases hg
                | some a => exact F4.out g hg
              have hle : s0 ≤ (M.fs j).b.length := by omega
              have r6 := own_same (own_headB F3.out hle) (w' := w6) fun g hg => st6 (F4' _ g hg) (by simp)
              have el : (cutF M.cut (M.fs j)).b.length = s0 := by
                show ((M.fs j).b.take (cutAt M.cut (M.fs j))).length = _
                rw [List.length_take, ← e3]
                omega
              refine ⟨.slice A (s0) c, ?_, F2.out, ?_, F4' _⟩
              · show Blk w6 (φ j) _ #[.slice A (s0) c, .int .i64 ((cutAt M.cut (M.fs j) : Nat) : Int)]
                rw [← e3]
                exact hx6
              · rw [el]
                show w6.ownsRow 0 _ 1 _ _ (bv ((M.fs j).b.take (cutAt M.cut (M.fs j))))
                rw [← e3, ← bv_take]
                rw [Nat.mul_one] at r6
                exact r6
            · rw [if_neg hji]
              obtain ⟨v, g1, g2, g3, g4⟩ := HF.out j hj
              exact ⟨v, g1.same (st6 g2 (by intro e; injection e with e; exact hji e)), g2, own_same g3 fun g hg => st6 (g4 g hg) (by simp), g4⟩
          go_roundw
          case measure =>
            show World.rangeLeft w6 bs wc.heap.size < World.rangeLeft wr bs wc.heap.size
            rw [hrg6.left_eq, HRG.out.left_eq]
            exact hlt1
          case rel => first | exact hrel6 | (obtain ⟨lf', c', h1, h2⟩ := hrel6; exact ⟨lf', ⟨c', h1⟩, h2⟩) | exact ⟨_, _, _, _, _, _, _, _, _, _, _, _, _, _, _, _, _, _, _, _, _, _, _, _, _, _, _, _, _, _, _, _, _, _, _, _, _, _, _, _, _, _, _, _, _, _, _, _, _, _, _, hrel6, rfl⟩
end
end Go.Mun

-- FsOps
namespace Go.Mun
open Go Go.RowKit Go.Proofs Go.Maps

/-- an operation that may be done begins; if the power does not fail, it goes on -/
noncomputable def thenM (M : FSs) (ok : Bool) (g : FSs → FSs) : FSs := if ok = true then (if failsB M = true then failsM M else g (failsM M)) else M
def goesB (M : FSs) (ok : Bool) : Bool := ok && !failsB M
/-- a file's bytes are synced -/
def sync1 (n : Ky) (M : FSs) : FSs := match getP M.now n with | some i => setF M i ⟨(M.fs i).b, (M.fs i).b.length⟩ | none => M
noncomputable def syncM (M : FSs) (n : Ky) : FSs := thenM M (isB M n) (sync1 n)
def dir1 (M : FSs) : FSs := { M with syn := M.now, waits := [] }
noncomputable def dirM (M : FSs) : FSs := thenM M (!M.dead) dir1
def namedB (n : Ky) : Bool := decide (n ≠ [] ∧ n.length ≤ 100)
def ren1 (a b : Ky) (M : FSs) : FSs := if a = b then M else match getP M.now a with | some i => waitM M (.ren a b i) | none => M
noncomputable def renM (M : FSs) (a b : Ky) : FSs := thenM M (isB M a && namedB b) (ren1 a b)
noncomputable def delM (M : FSs) (a : Ky) : FSs := thenM M (isB M a) fun M => waitM M (.del a)
theorem failsB_yes {M : FSs} (h : M.op = 0) : failsB M = true := decide_eq_true h
theorem failsB_no {M : FSs} (h : M.op ≠ 0) : failsB M = false := decide_eq_false h
theorem thenM_no {M : FSs} {ok : Bool} {g : FSs → FSs} (h : ok = false) : thenM M ok g = M := by unfold thenM; rw [h]; rfl
theorem thenM_off {M : FSs} {ok : Bool} {g : FSs → FSs} (h : ok = true) (hf : failsB M = true) : thenM M ok g = failsM M := by unfold thenM; rw [h, hf]; rfl
theorem thenM_go {M : FSs} {ok : Bool} {g : FSs → FSs} (h : ok = true) (hf : failsB M = false) : thenM M ok g = g (failsM M) := by unfold thenM; rw [h, hf]; rfl
theorem goes_now {M : FSs} (h : failsB M = false) : (failsM M).now = M.now := by rw [failsM_no (of_decide_eq_false h)]
theorem goes_fs {M : FSs} (h : failsB M = false) : (failsM M).fs = M.fs := by rw [failsM_no (of_decide_eq_false h)]
theorem goes_next {M : FSs} (h : failsB M = false) : (failsM M).next = M.next := by rw [failsM_no (of_decide_eq_false h)]
section
variable {k p : Nat} {M : FSs} {φ : Nat → Nat} {o : Own} {K L : Nat} {w : World}
theorem fails_any (h : RelP k p M φ o K L w) (hK : K ≤ 1000000000) (hL : L ≤ 1000000000) :
    Calls Try.prog 42 #[.pointer (some ⟨p, 0, none⟩)] w fun e w' => e = .returned (.bool (failsB M)) ∧ ∃ o', RelP k p (failsM M) φ o' (K + 1) L w' ∧ Turn k o o' w w' := by
  by_cases ho : M.op = 0
  · rw [failsB_yes ho]
    exact (fails_yes h ho hK hL).mono fun e w' ⟨h1, o', h2, h3⟩ => ⟨h1, o', h2.more (Nat.le_succ _) (Nat.le_refl _), h3⟩
  · rw [failsB_no ho]
    exact (fails_no h ho hK).mono fun e w' ⟨h1, h2, h3⟩ => ⟨h1, o, h2, h3⟩
/-- a file's bytes are others -/
theorem Fine.setF {M : FSs} (h : Fine M) (i : Nat) (f : FileS) (hf : f.s ≤ f.b.length) : Fine (setF M i f) :=
  ⟨h.rnow, h.rsyn, h.repl, h.ok, h.names, h.snames, h.fresh, h.sfresh, h.made, fun j => by
    show (if j = i then f else M.fs j).s ≤ (if j = i then f else M.fs j).b.length
    by_cases e : j = i
    · rw [if_pos e]; exact hf
    · rw [if_neg e]; exact h.sized j, h.once, h.op⟩
theorem RelP.file_set {w' : World} {o' : Own} {L' : Nat} (h : RelP k p M φ o K L w) {i : Nat} {f : FileS} (st : ∀ {b : Nat} {t : Tag}, o b = some (k, t) → t ≠ .file i → t ≠ .byt i → w'.heap[b]? = w.heap[b]?) (ex : ∀ {b : Nat} {x : Nat × Tag}, o b = some x → o' b = some x) (ho : OwnIn o' w')
    (hf : FileAt k φ o' w' i f) (hL : f.b.length ≤ L') (hLL : L ≤ L') (hs : f.s ≤ f.b.length) : RelP k p (setF M i f) φ o' K L' w' := by
  obtain ⟨bn, bs, vw, vk, hh⟩ := h.head
  refine ⟨h.fine.setF i f hs, ho, ⟨bn, bs, vw, vk, ⟨hh.blk.same (st hh.op (by simp) (by simp)), ex hh.op, ex hh.on, ex hh.os, ?_, ?_, own_same hh.waits fun g hg => st (hh.ow g hg) (by simp) (by simp), fun g hg => ex (hh.ow g hg), own_same hh.keep fun g hg => st (hh.ok g hg) (by simp) (by simp), fun g hg => ex (hh.ok g hg)⟩⟩, fun j hj => ?_, h.ops, h.cut, h.opb, h.wl⟩
  · obtain ⟨N, h1, h2⟩ := hh.now
    exact ⟨N, h1.same (st hh.on (by simp) (by simp)), h2⟩
  · obtain ⟨N, h1, h2⟩ := hh.syn
    exact ⟨N, h1.same (st hh.os (by simp) (by simp)), h2⟩
  · show FileAt k φ o' w' j (if j = i then f else M.fs j) ∧ (if j = i then f else M.fs j).b.length ≤ L'
    by_cases e : j = i
    · subst e
      rw [if_pos rfl]
      exact ⟨hf, hL⟩
    · rw [if_neg e]
      obtain ⟨⟨v, g1, g2, g3, g4⟩, g5⟩ := h.file j hj
      have ne1 : ∀ t, t = Tag.file j ∨ t = Tag.byt j → t ≠ .file i ∧ t ≠ .byt i := by
        rintro t (rfl | rfl)
        · exact ⟨by intro e2; injection e2 with e2; exact e e2, by simp⟩
        · exact ⟨by simp, by intro e2; injection e2 with e2; exact e e2⟩
      exact ⟨⟨v, g1.same (st g2 (ne1 _ (.inl rfl)).1 (ne1 _ (.inl rfl)).2), ex g2, own_same g3 fun g hg => st (g4 g hg) (ne1 _ (.inr rfl)).1 (ne1 _ (.inr rfl)).2, fun g hg => ex (g4 g hg)⟩, Nat.le_trans g5 hLL⟩
set_option maxRecDepth 100000 in
set_option maxHeartbeats 1000000 in
theorem Sync_any (h : RelP k p M φ o K L w) (n : Ky) (hn : n.length ≤ 1000000) (hK : K ≤ 1000000000) (hL : L ≤ 1000000000) :
    Calls Try.prog 48 #[.pointer (some ⟨p, 0, none⟩), .string ⟨n.toArray⟩] w fun e w' => e = .returned (.bool (goesB M (isB M n))) ∧ ∃ o' φ', RelP k p (syncM M n) φ' o' (K + 2) L w' ∧ Turn k o o' w w' := by
  have CI := Lib.hid (is_any h n hn)
  have HR := Lib.hid h
  cases hb : isB M n
  · rw [hb] at CI
    unfold syncM
    rw [thenM_no hb]
    clear hb h
    go_enter Try.func48, Try.ntmps48
    go_wp2_with (first
      | (go_at_call 44; (with_reducible refine CI.out.mono ?_); rintro e w1 ⟨rfl, rfl⟩)
      | fail)
    go_ret
    exact ⟨rfl, o, φ, HR.out.more (by omega) (Nat.le_refl _), Turn.refl HR.out.own⟩
  · have HB := Lib.hid hb
    rw [hb] at CI
    have CF := Lib.hid (fails_any h hK hL)
    cases hf : failsB M
    · have HF := Lib.hid hf
      rw [hf] at CF
      obtain ⟨i, hg⟩ := isB_get hb
      have HG := Lib.hid hg
      clear hb h hf hg
      go_enter Try.func48, Try.ntmps48
      go_upto_region 3 with (first
        | (go_at_call 44; (with_reducible refine CI.out.mono ?_); rintro e w1 ⟨rfl, rfl⟩)
        | (go_at_call 42; (with_reducible refine CF.out.mono ?_); rintro e w1 ⟨rfl, o1, h1, T1⟩)
        | fail)
      have R1 := Lib.hid h1
      have T1' := Lib.hid T1
      have hg1 : getP (failsM M).now n = some i := by rw [goes_now HF.out]; exact HG.out
      obtain ⟨bn, bs, vw, vk, hh⟩ := h1.head
      obtain ⟨⟨v, f1, f2, f3, f4⟩, f5⟩ := h1.file i (Live.of_now hg1)
      have y0 := hh.blk.cellv (i := 0) rfl
      have z0 := f1.cellv (i := 0) rfl
      obtain ⟨N, hN, _⟩ := hh.now
      have q := (show MapV w1.drew bn _ _ from hN).look namesTy (zFileP w1.drew) (by unfold maxLen; omega) (idT_get hg1)
      obtain ⟨A, c, rfl⟩ := row_slC f3
      have F2 := Lib.hid f2
      have F3 := Lib.hid f3
      have F4 := Lib.hid f4
      have HG1 := Lib.hid hg1
      generalize hl0 : (((failsM M).fs i).b.length) = l0 at f1 z0
      have HL0 := Lib.hid hl0
      clear f2 f3 f4 f5 hN hh h1 T1 hg1 hl0
      go_still_tail 18, (by kernel_rfl)
      refine wpList_store_cell rfl 3 (.tmp 30) (.tmp 28) rfl (w := w1.drew) f1.drew (i := 1) (v := .int .i64 (l0 : Nat)) (show 1 < 2 by decide) (by kernel_rfl) rfl rfl rfl ?_
      intro w5 hx5 hg5
      go_wp2
      go_ret
      have hg15 : w1.grownBy w5 (some (φ i)) := ⟨hg5.os, hg5.tape, hg5.output, hg5.size, hg5.block⟩
      have ho := R1.out.own
      have st : ∀ {b : Nat} {t : Tag}, o1 b = some (k, t) → t ≠ .file i → w5.heap[b]? = w1.heap[b]? := fun {b t} e ht => same_of hg15 (ho.lt e) e (one_some F2.out) ht
      refine ⟨by unfold goesB; rw [HF.out]; rfl, o1, φ, ?_, T1'.out.trans (Turn.wrote ho hg15 F2.out)⟩
      unfold syncM
      rw [thenM_go HB.out HF.out, sync1, HG1.out]
      refine RelP.file_set (R1.out.more (Nat.le_succ _) (Nat.le_refl _)) (fun e h1 _ => st e h1) id (ho.more hg15.size) ⟨.slice A l0 c, ?_, F2.out, ?_, ?_⟩ (R1.out.file i (Live.of_now HG1.out)).2 (Nat.le_refl _) (Nat.le_refl _)
      · show Blk w5 (φ i) _ #[_, .int .i64 (((failsM M).fs i).b.length : Nat)]
        rw [HL0.out]
        exact hx5
      · rw [← HL0.out]
        exact own_same F3.out fun g hg => st (F4.out g hg) (by simp)
      · rw [← HL0.out]
        exact F4.out
    · have HF := Lib.hid hf
      rw [hf] at CF
      clear hb h hf
      go_enter Try.func48, Try.ntmps48
      go_wp2_with (first
        | (go_at_call 44; (with_reducible refine CI.out.mono ?_); rintro e w1 ⟨rfl, rfl⟩)
        | (go_at_call 42; (with_reducible refine CF.out.mono ?_); rintro e w1 ⟨rfl, o1, h1, T1⟩)
        | fail)
      go_ret
      unfold syncM
      rw [thenM_off HB.out HF.out]
      exact ⟨by unfold goesB; rw [HF.out]; rfl, o1, φ, h1.more (by omega) (Nat.le_refl _), T1⟩
end
end Go.Mun

-- FsOps2
namespace Go.Mun
open Go Go.RowKit Go.Proofs Go.Maps

section
variable {k p : Nat} {M : FSs} {φ : Nat → Nat} {o : Own} {K L : Nat} {w : World}
theorem Fine.dir {M : FSs} (h : Fine M) : Fine (dir1 M) :=
  ⟨h.rnow, h.rnow, rfl, trivial, h.names, h.names, h.fresh, h.fresh, fun n i hn => absurd hn List.not_mem_nil, h.sized, by have := h.once.doL h.rsyn h.ok; rw [h.repl] at this; exact this, h.op⟩
set_option maxRecDepth 100000 in
set_option maxHeartbeats 1000000 in
theorem SyncDir_any (h : RelP k p M φ o K L w) (hK : K ≤ 1000000000) (hL : L ≤ 1000000000) :
    Calls Try.prog 65 #[.pointer (some ⟨p, 0, none⟩)] w fun e w' => e = .returned (.bool (goesB M (!M.dead))) ∧ ∃ o' φ', RelP k p (dirM M) φ' o' (K + 2) L w' ∧ Turn k o o' w w' := by
  have HR := Lib.hid h
  obtain ⟨bn, bs, vw, vk, hh⟩ := h.head
  have y6 := hh.blk.cellv (i := 6) rfl
  clear hh
  cases hd : M.dead
  · rw [hd] at y6
    have HD := Lib.hid (show (!M.dead) = true by rw [hd]; rfl)
    have CF := Lib.hid (fails_any h hK hL)
    cases hf : failsB M
    · have HF := Lib.hid hf
      rw [hf] at CF
      clear h hf hd
      go_enter Try.func65, Try.ntmps65
      go_upto_region 3 with (first
        | (go_at_call 42; (with_reducible refine CF.out.mono ?_); rintro e w1 ⟨rfl, o1, h1, T1⟩)
        | fail)
      obtain ⟨bn, bs, vw, vk, hh⟩ := h1.head
      have R1 := Lib.hid h1
      have T1' := Lib.hid T1
      have H := Lib.hid hh
      obtain ⟨N, hN, hNK⟩ := hh.now
      have hx1 := hh.blk
      have y0 := hx1.cellv (i := 0) rfl
      clear hh h1 T1
      go_wp2_with (first
        | (go_at_call 56; (with_reducible refine (CloneN_any hN).mono ?_); rintro e w2 ⟨rfl, hM2, hb2⟩; have hx2 := hx1.ext hb2)
        | ((with_reducible refine gd_store ?_); refine wpList_store_cell rfl 65 (.tmp 19) (.tmp 17) rfl (i := 1) (v := .map (some w1.heap.size)) hx2 (show 1 < 8 by decide) (by kernel_rfl) rfl rfl rfl ?_; intro w3 hx3 hg3)
        | ((with_reducible refine gd_store ?_); refine wpList_store_cell rfl 66 (.tmp 21) (.const (.slice none 0 0)) rfl (i := 2) (v := .slice none 0 0) hx3 (show 2 < 8 by decide) (by kernel_rfl) rfl rfl rfl ?_; intro w4 hx4 hg4)
        | fail)
      go_ret
      have ho := R1.out.own
      have hg24 := hg3.trans hg4
      have hp1 : p < w1.heap.size := ho.lt H.out.op
      have hlt2 := hM2.lt
      have T4 : Turn k o1 o1 w1 w4 := (Turn.below ho hb2).trans (Turn.wrote (ho.more hb2.size) hg24 H.out.op)
      have st : ∀ {b t}, o1 b = some (k, t) → t ≠ .fs → w4.heap[b]? = w1.heap[b]? := fun {b t} e n1 => by
        have hb := ho.lt e
        rw [same_of hg24 (by have := hb2.size; omega) e (one_some H.out.op) n1, hb2.block b hb]
      have q1 : ∀ {b x}, o1 b = some x → give o1 w1.heap.size (k, .syn) b = some x := fun e => by rw [give_ne (by have := ho.lt e; omega)]; exact e
      have hs24 := hg24.size
      refine ⟨by unfold goesB; rw [HF.out]; rfl, give o1 w1.heap.size (k, .syn), φ, ?_, T1'.out.trans (T4.give (Nat.le_refl _) _)⟩
      unfold dirM
      rw [thenM_go HD.out HF.out]
      refine ⟨R1.out.fine.dir, (ho.more T4.size).give (by omega) _, ⟨bn, w1.heap.size, .slice none 0 0, vk, ⟨hx4, q1 H.out.op, q1 H.out.on, give_same _ _ _, ⟨N, hN.same (st H.out.on (by simp)), by omega⟩, ⟨N, hM2.same (hg24.block _ hlt2 (by intro e; injection e with e; omega)), by show N + 0 ≤ K + 2; omega⟩, World.ownsRow_nil _ _ _ _, (fun g h => by cases h), own_same H.out.keep fun g hg => st (H.out.ok g hg) (by simp), fun g hg => q1 (H.out.ok g hg)⟩⟩, fun i hi => ?_, ⟨R1.out.ops.1, by have := R1.out.ops.2; show (failsM M).ops ≤ ((K + 2 : Nat) : Int); omega⟩, R1.out.cut, R1.out.opb, Nat.zero_le _⟩
      have hli : Live (failsM M) i := by
        rcases hi with h | h | ⟨n, h⟩
        · exact .inl h
        · exact .inl h
        · exact absurd h List.not_mem_nil
      obtain ⟨⟨v, f1, f2, f3, f4⟩, f5⟩ := R1.out.file i hli
      exact ⟨⟨v, f1.same (st f2 (by simp)), q1 f2, own_same f3 fun g hg => st (f4 g hg) (by simp), fun g hg => q1 (f4 g hg)⟩, f5⟩
    · have HF := Lib.hid hf
      rw [hf] at CF
      clear h hf hd
      go_enter Try.func65, Try.ntmps65
      go_wp2_with (first
        | (go_at_call 42; (with_reducible refine CF.out.mono ?_); rintro e w1 ⟨rfl, o1, h1, T1⟩)
        | fail)
      go_ret
      unfold dirM
      rw [thenM_off HD.out HF.out]
      exact ⟨by unfold goesB; rw [HF.out]; rfl, o1, φ, h1.more (by omega) (Nat.le_refl _), T1⟩
  · rw [hd] at y6
    have HD := Lib.hid (show (!M.dead) = false by rw [hd]; rfl)
    unfold dirM
    rw [thenM_no HD.out]
    clear h hd
    go_enter Try.func65, Try.ntmps65
    go_wp2
    go_ret
    exact ⟨rfl, o, φ, HR.out.more (by omega) (Nat.le_refl _), Turn.refl HR.out.own⟩
set_option maxRecDepth 100000 in
set_option maxHeartbeats 1000000 in
theorem Delete_any (h : RelP k p M φ o K L w) (n : Ky) (hn : n.length ≤ 1000000) (hK : K < 1000000000) (hL : L ≤ 1000000000) :
    Calls Try.prog 62 #[.pointer (some ⟨p, 0, none⟩), .string ⟨n.toArray⟩] w fun e w' => e = .returned (.bool (goesB M (isB M n))) ∧ ∃ o' φ', RelP k p (delM M n) φ' o' (K + 2) L w' ∧ Turn k o o' w w' := by
  have CI := Lib.hid (is_any h n hn)
  have HR := Lib.hid h
  cases hb : isB M n
  · rw [hb] at CI
    unfold delM
    rw [thenM_no hb]
    clear hb h
    go_enter Try.func62, Try.ntmps62
    go_wp2_with (first
      | (go_at_call 44; (with_reducible refine CI.out.mono ?_); rintro e w1 ⟨rfl, rfl⟩)
      | fail)
    go_ret
    exact ⟨rfl, o, φ, HR.out.more (by omega) (Nat.le_refl _), Turn.refl HR.out.own⟩
  · have HB := Lib.hid hb
    rw [hb] at CI
    have CF := Lib.hid (fails_any h (by omega) hL)
    cases hf : failsB M
    · have HF := Lib.hid hf
      rw [hf] at CF
      obtain ⟨i, hg⟩ := isB_get hb
      have HN := Lib.hid (h.fine.names _ (getP_mem hg))
      clear hb h hf hg
      go_enter Try.func62, Try.ntmps62
      go_wp2_with (first
        | (go_at_call 44; (with_reducible refine CI.out.mono ?_); rintro e w1 ⟨rfl, rfl⟩)
        | (go_at_call 42; (with_reducible refine CF.out.mono ?_); rintro e w1 ⟨rfl, o1, h1, T1⟩)
        | (go_at_call 43; have CW := wait_any h1 (.del n) HN.out (fun _ _ e => by cases e) (by omega); unfold chgV at CW; (with_reducible refine CW.mono ?_); rintro e w2 ⟨rfl, o2, h2, T2⟩)
        | fail)
      go_ret
      refine ⟨by unfold goesB; rw [HF.out]; rfl, o2, φ, ?_, T1.trans T2⟩
      unfold delM
      rw [thenM_go HB.out HF.out]
      exact h2
    · have HF := Lib.hid hf
      rw [hf] at CF
      clear hb h hf
      go_enter Try.func62, Try.ntmps62
      go_wp2_with (first
        | (go_at_call 44; (with_reducible refine CI.out.mono ?_); rintro e w1 ⟨rfl, rfl⟩)
        | (go_at_call 42; (with_reducible refine CF.out.mono ?_); rintro e w1 ⟨rfl, o1, h1, T1⟩)
        | fail)
      go_ret
      unfold delM
      rw [thenM_off HB.out HF.out]
      exact ⟨by unfold goesB; rw [HF.out]; rfl, o1, φ, h1.more (by omega) (Nat.le_refl _), T1⟩
end
end Go.Mun

-- FsRen
namespace Go.Mun
open Go Go.RowKit Go.Proofs Go.Maps

theorem namedB_ok {n : Ky} (h : namedB n = true) : NameOk n := of_decide_eq_true (p := n ≠ [] ∧ n.length ≤ 100) h
theorem named_any (n : Ky) (w : World) (hn : n.length ≤ 1000000) : Calls Try.prog 41 #[.string ⟨n.toArray⟩] w fun e w' => e = .returned (.bool (namedB n)) ∧ w = w' := by
  by_cases h : NameOk n
  · rw [show namedB n = true from decide_eq_true h]
    exact named_yes n w h
  · rw [show namedB n = false from decide_eq_false h]
    exact named_no n w h hn
section
variable {k p : Nat} {M : FSs} {φ : Nat → Nat} {o : Own} {K L : Nat} {w : World}
set_option maxRecDepth 100000 in
set_option maxHeartbeats 1000000 in
theorem Rename_any (h : RelP k p M φ o K L w) (a b : Ky) (ha : a.length ≤ 1000000) (hb : b.length ≤ 1000000) (hK : K < 1000000000) (hL : L ≤ 1000000000) :
    Calls Try.prog 64 #[.pointer (some ⟨p, 0, none⟩), .string ⟨a.toArray⟩, .string ⟨b.toArray⟩] w fun e w' => e = .returned (.bool (goesB M (isB M a && namedB b))) ∧ ∃ o' φ', RelP k p (renM M a b) φ' o' (K + 2) L w' ∧ Turn k o o' w w' := by
  have CI := Lib.hid (is_any h a ha)
  have CN := Lib.hid (fun w => named_any b w hb)
  have HR := Lib.hid h
  have CF := Lib.hid (fails_any h (by omega) hL)
  cases hi : isB M a
  · rw [hi] at CI
    unfold renM
    rw [thenM_no (show (isB M a && namedB b) = false by rw [hi]; rfl)]
    clear hi h
    go_enter Try.func64, Try.ntmps64
    go_wp2_with (first
      | (go_at_call 44; (with_reducible refine CI.out.mono ?_); rintro e w1 ⟨rfl, rfl⟩)
      | fail)
    go_ret
    exact ⟨rfl, o, φ, HR.out.more (by omega) (Nat.le_refl _), Turn.refl HR.out.own⟩
  · have HI := Lib.hid hi
    rw [hi] at CI
    cases hn : namedB b
    · rw [hn] at CN
      unfold renM
      rw [thenM_no (show (isB M a && namedB b) = false by rw [hn, Bool.and_false])]
      clear hi h hn
      go_enter Try.func64, Try.ntmps64
      go_wp2_with (first
        | (go_at_call 44; (with_reducible refine CI.out.mono ?_); rintro e w1 ⟨rfl, rfl⟩)
        | (go_at_call 41; (with_reducible refine (CN.out _).mono ?_); rintro e w1 ⟨rfl, rfl⟩)
        | fail)
      go_ret
      exact ⟨rfl, o, φ, HR.out.more (by omega) (Nat.le_refl _), Turn.refl HR.out.own⟩
    · have HN := Lib.hid hn
      rw [hn] at CN
      have HO := Lib.hid (show (isB M a && namedB b) = true by rw [hi, hn]; rfl)
      cases hf : failsB M
      · have HF := Lib.hid hf
        rw [hf] at CF
        obtain ⟨i, hg⟩ := isB_get hi
        have HG := Lib.hid hg
        have HNa := Lib.hid (h.fine.names _ (getP_mem hg))
        by_cases hab : a = b
        · have q1 : (a == b) = true := beq_iff_eq.2 hab
          have q2 : ((⟨a.toArray⟩ : ByteArray) != ⟨b.toArray⟩) = false := by rw [str_ne, decide_eq_true hab]; rfl
          have HAB := Lib.hid hab
          clear hi h hn hf hg hab
          go_enter Try.func64, Try.ntmps64
          go_wp2_with (first
            | (go_at_call 44; (with_reducible refine CI.out.mono ?_); rintro e w1 ⟨rfl, rfl⟩)
            | (go_at_call 41; (with_reducible refine (CN.out _).mono ?_); rintro e w1 ⟨rfl, rfl⟩)
            | (go_at_call 42; (with_reducible refine CF.out.mono ?_); rintro e w1 ⟨rfl, o1, h1, T1⟩)
            | fail)
          go_ret
          refine ⟨by unfold goesB; rw [HF.out]; rfl, o1, φ, ?_, T1⟩
          unfold renM
          rw [thenM_go HO.out HF.out, ren1, if_pos HAB.out]
          exact h1.more (by omega) (Nat.le_refl _)
        · have q1 : (a == b) = false := beq_eq_false_iff_ne.2 hab
          have q2 : ((⟨a.toArray⟩ : ByteArray) != ⟨b.toArray⟩) = true := by rw [str_ne, decide_eq_false hab]; rfl
          have HAB := Lib.hid hab
          clear hi h hn hf hg hab
          go_enter Try.func64, Try.ntmps64
          go_wp2_with (first
            | (go_at_call 44; (with_reducible refine CI.out.mono ?_); rintro e w1 ⟨rfl, rfl⟩)
            | (go_at_call 41; (with_reducible refine (CN.out _).mono ?_); rintro e w1 ⟨rfl, rfl⟩)
            | (go_at_call 42; (with_reducible refine CF.out.mono ?_); rintro e w1 ⟨rfl, o1, h1, T1⟩)
            | (go_at_call 43; have hg1 : getP (failsM M).now a = some i := (by rw [goes_now HF.out]; exact HG.out); have CW := wait_any h1 (.ren a b i) (show NameOk a ∧ NameOk b ∧ a ≠ b ∧ getP (failsM M).now a = some i from ⟨HNa.out, namedB_ok HN.out, HAB.out, hg1⟩) (fun _ _ e => by cases e) (by omega); unfold chgV at CW; (with_reducible refine CW.mono ?_); rintro e w2 ⟨rfl, o2, h2, T2⟩)
            | fail)
          go_ret
          refine ⟨by unfold goesB; rw [HF.out]; rfl, o2, φ, ?_, T1.trans T2⟩
          unfold renM
          rw [thenM_go HO.out HF.out, ren1, if_neg HAB.out, goes_now HF.out, HG.out]
          exact h2
      · have HF := Lib.hid hf
        rw [hf] at CF
        clear hi h hn hf
        go_enter Try.func64, Try.ntmps64
        go_wp2_with (first
          | (go_at_call 44; (with_reducible refine CI.out.mono ?_); rintro e w1 ⟨rfl, rfl⟩)
          | (go_at_call 41; (with_reducible refine (CN.out _).mono ?_); rintro e w1 ⟨rfl, rfl⟩)
          | (go_at_call 42; (with_reducible refine CF.out.mono ?_); rintro e w1 ⟨rfl, o1, h1, T1⟩)
          | fail)
        go_ret
        unfold renM
        rw [thenM_off HO.out HF.out]
        exact ⟨by unfold goesB; rw [HF.out]; rfl, o1, φ, h1.more (by omega) (Nat.le_refl _), T1⟩
end
end Go.Mun

-- FsApp
namespace Go.Mun
open Go Go.RowKit Go.Proofs Go.Maps

def app0 (i : Nat) (b : List UInt8) (M : FSs) : FSs := setF M i ⟨(M.fs i).b ++ b, (M.fs i).s⟩
def newF (M : FSs) : FSs := { M with next := M.next + 1, fs := fun j => if j = M.next then ⟨[], 0⟩ else M.fs j }
def app1 (n : Ky) (b : List UInt8) (M : FSs) : FSs := match getP M.now n with | some i => app0 i b M | none => app0 M.next b (waitM (newF M) (.made n M.next))
def appOk (M : FSs) (n : Ky) : Bool := !M.dead && namedB n && ((getP M.now n).isSome || decide (M.now.length < 200))
noncomputable def appM (M : FSs) (n : Ky) (b : List UInt8) : FSs := thenM M (appOk M n) (app1 n b)
theorem cell_of_block {w w' : World} {p : Addr} (h : w'.heap[p.block]? = w.heap[p.block]?) : w'.cell? p = w.cell? p := by
  unfold World.cell?
  rw [h]
theorem add_block (ad : Addr) (j : Nat) : (ad.add j).block = ad.block := by unfold Addr.add; split <;> rfl
/-- bytes that are nobody's of k's stay while k's files are called -/
def Free (o : Own) (k : Nat) (v : Value) : Prop := ∀ ad n c, v = .slice (some ad) n c → 0 < n → ∀ t, o ad.block ≠ some (k, t)
theorem Bytes.turn {k : Nat} {o o' : Own} {w w' : World} {v : Value} {l : List UInt8} (h : Bytes w v l) (hT : Turn k o o' w w') (hf : Free o k v) : Bytes w' v l := by
  obtain ⟨A, n, c, rfl, h1, h2, h3, h4⟩ := h
  refine ⟨A, n, c, rfl, h1, h2, h3, fun j u hj => ?_⟩
  have hn : 0 < n := by have := (List.getElem?_eq_some_iff.1 hj).1; rw [bv_length] at this; omega
  obtain ⟨ad, rfl, hc⟩ := h4 j u hj
  exact ⟨ad, rfl, (cell_of_block (p := ad.add j) (hT.block _ (World.block_lt_of_cell? w _ hc) fun t => by rw [add_block]; exact hf ad n c rfl hn t)).trans hc⟩
theorem idT_congr {φ φ' : Nat → Nat} {P : PL Nat} (h : ∀ p ∈ P, φ' p.2 = φ p.2) : idT φ' P = idT φ P := by
  unfold idT mapP
  refine List.map_congr_left fun p hp => ?_
  show (p.1, (ptr (φ' p.2), p.2)) = (p.1, (ptr (φ p.2), p.2))
  rw [h p hp]
theorem Fine.newF {M : FSs} (h : Fine M) : Fine (newF M) :=
  ⟨h.rnow, h.rsyn, h.repl, h.ok, h.names, h.snames, fun p hp => Nat.lt_succ_of_lt (h.fresh p hp), fun p hp => Nat.lt_succ_of_lt (h.sfresh p hp), fun n i hn => Nat.lt_succ_of_lt (h.made n i hn), fun j => by
    show (if j = M.next then (⟨[], 0⟩ : FileS) else M.fs j).s ≤ (if j = M.next then (⟨[], 0⟩ : FileS) else M.fs j).b.length
    by_cases e : j = M.next
    · rw [if_pos e]; exact Nat.le_refl _
    · rw [if_neg e]; exact h.sized j, h.once, h.op⟩
theorem RelP.newF {k p : Nat} {M : FSs} {φ φ' : Nat → Nat} {o : Own} {K L : Nat} {w w' : World} (h : RelP k p M φ o K L w) (hb : Below w.heap.size w w') (hx : Blk w' w.heap.size 92 #[.slice none 0 0, .int .i64 0])
    (h1 : φ' M.next = w.heap.size) (h2 : ∀ j, j ≠ M.next → φ' j = φ j) : RelP k p (newF M) φ' (give o w.heap.size (k, .file M.next)) K L w' ∧ FileAt k φ' (give o w.heap.size (k, .file M.next)) w' M.next ⟨[], 0⟩ := by
  obtain ⟨bn, bs, vw, vk, hh⟩ := h.head
  have ho := h.own
  have ex : ∀ {b x}, o b = some x → give o w.heap.size (k, .file M.next) b = some x := fun e => by rw [give_ne (by have := ho.lt e; omega)]; exact e
  have st : ∀ {b x}, o b = some x → w'.heap[b]? = w.heap[b]? := fun e => hb.block _ (ho.lt e)
  have hlt := hx.lt
  have i1 : idT φ' M.now = idT φ M.now := idT_congr fun p hp => h2 _ (by have := h.fine.fresh p hp; omega)
  have i2 : idT φ' M.syn = idT φ M.syn := idT_congr fun p hp => h2 _ (by have := h.fine.sfresh p hp; omega)
  have i3 : M.waits.map (chgV φ') = M.waits.map (chgV φ) := List.map_congr_left fun c hc => by
    cases c with
    | made n i => show Value.iface _ _ = Value.iface _ _; rw [h2 i (by have := h.fine.made n i hc; omega)]
    | ren a b i => rfl
    | del a => rfl
  refine ⟨⟨h.fine.newF, (ho.more hb.size).give hlt _, ⟨bn, bs, vw, vk, ⟨hh.blk.same (st hh.op), ex hh.op, ex hh.on, ex hh.os, ?_, ?_, ?_, fun g hg => ex (hh.ow g hg), own_same hh.keep fun g hg => st (hh.ok g hg), fun g hg => ex (hh.ok g hg)⟩⟩, fun i hi => ?_, h.ops, h.cut, h.opb, h.wl⟩, ?_⟩
  · obtain ⟨N, h1, h2⟩ := hh.now
    exact ⟨N, by show MapV w' bn (idT φ' M.now) N; rw [i1]; exact h1.same (st hh.on), h2⟩
  · obtain ⟨N, h1, h2⟩ := hh.syn
    exact ⟨N, by show MapV w' bs (idT φ' M.syn) N; rw [i2]; exact h1.same (st hh.os), h2⟩
  · show w'.ownsRow 0 _ 1 vw M.waits.length (M.waits.map (chgV φ'))
    rw [i3]
    exact own_same hh.waits fun g hg => st (hh.ow g hg)
  · have hi' : Live M i := hi
    have hlt := live_lt h.fine hi'
    have hne : i ≠ M.next := by omega
    show FileAt k φ' _ w' i (if i = M.next then (⟨[], 0⟩ : FileS) else M.fs i) ∧ (if i = M.next then (⟨[], 0⟩ : FileS) else M.fs i).b.length ≤ L
    rw [if_neg hne]
    obtain ⟨⟨v, g1, g2, g3, g4⟩, g5⟩ := h.file i hi'
    exact ⟨⟨v, by rw [h2 i hne]; exact g1.same (st g2), by rw [h2 i hne]; exact ex g2, own_same g3 fun g hg => st (g4 g hg), fun g hg => ex (g4 g hg)⟩, g5⟩
  · exact ⟨.slice none 0 0, by rw [h1]; exact hx, by rw [h1]; exact give_same _ _ _, World.ownsRow_nil _ _ _ _, fun g hg => by cases hg⟩
/-- a file that is there, as it lies -/
theorem RelP.at_file {k p : Nat} {M : FSs} {φ : Nat → Nat} {o : Own} {K L : Nat} {w : World} (h : RelP k p M φ o K L w) {i : Nat} (hl : Live M i) : ∃ A c s0 l0, (M.fs i).s = s0 ∧ (M.fs i).b = l0 ∧ Blk w (φ i) 92 #[.slice A l0.length c, .int .i64 (s0 : Nat)] ∧ o (φ i) = some (k, .file i) ∧ w.ownsRow 0 5 1 (.slice A l0.length c) l0.length (bv l0) ∧ (∀ g, (Value.slice A l0.length c).ownBlock = some g → o g = some (k, .byt i)) ∧ l0.length ≤ L ∧ s0 ≤ l0.length := by
  obtain ⟨⟨v, f1, f2, f3, f4⟩, f5⟩ := h.file i hl
  obtain ⟨A, c, rfl⟩ := row_slC f3
  exact ⟨A, c, _, _, rfl, rfl, f1, f2, f3, f4, f5, h.fine.sized i⟩
theorem appOk_dead {M : FSs} {n : Ky} (h : M.dead = true) : appOk M n = false := by unfold appOk; rw [h]; rfl
theorem appOk_name {M : FSs} {n : Ky} (h : namedB n = false) : appOk M n = false := by unfold appOk; rw [h, Bool.and_false]; rfl
theorem appOk_full {M : FSs} {n : Ky} (h : getP M.now n = none) (h2 : ¬ M.now.length < 200) : appOk M n = false := by unfold appOk; rw [h, decide_eq_false h2]; simp
theorem appOk_old {M : FSs} {n : Ky} {i : Nat} (h0 : M.dead = false) (h1 : namedB n = true) (h : getP M.now n = some i) : appOk M n = true := by unfold appOk; rw [h0, h1, h]; rfl
theorem appOk_new {M : FSs} {n : Ky} (h0 : M.dead = false) (h1 : namedB n = true) (h : getP M.now n = none) (h2 : M.now.length < 200) : appOk M n = true := by unfold appOk; rw [h0, h1, h, decide_eq_true h2]; rfl
end Go.Mun

