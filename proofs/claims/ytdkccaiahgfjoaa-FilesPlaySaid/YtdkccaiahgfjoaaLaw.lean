/- From the walk of a law ('it answers true and turns nothing that was there') to its row. Over any program. -/
import Derived.Test.YtdkccaiahgfjoaaRead
import Derived.ShutString
import Derived.JoinedOf
import Derived.JoinedAt
namespace Go.Mun
open Go Go.RowKit Go.ChangeShapes Go.WideShapes Go.ChangeAt Go.Deep

section
variable {H : Type} {enc : TypeId × Value → H} {P : Program}

theorem trodAll_each {w : World} {base : Nat} {sp : Nat → Bool} {held : Bool} : ∀ {ts : List TypeId} {vs : List Value} {ds : List (DataW H)} {ps : List MemPlace}, DataW.TrodAll enc P w base sp held ts vs ds ps →
    vs.length = ts.length ∧ ds.length = ts.length ∧ ∀ (j : Nat) t v, ts[j]? = some t → vs[j]? = some v → ∃ fuel x, DataW.trod enc P w base sp held fuel t v.cells.toList = some x
  | [], [], [], _, _ => ⟨rfl, rfl, fun j t v h => by simp at h⟩
  | t :: ts, v :: vs, d :: ds, ps, h => by
    obtain ⟨p, q, ⟨fuel, hf⟩, hr, _⟩ := h
    obtain ⟨h1, h2, h3⟩ := trodAll_each hr
    refine ⟨by simp [h1], by simp [h2], fun j t' v' ht hv => ?_⟩
    cases j with
    | zero =>
      simp only [List.getElem?_cons_zero, Option.some.injEq] at ht hv
      subst ht
      subst hv
      exact ⟨fuel, _, hf⟩
    | succ j => exact h3 j t' v' (by simpa using ht) (by simpa using hv)
  | [], _ :: _, _, _, h => h.elim
  | [], [], _ :: _, _, h => h.elim
  | _ :: _, [], _, _, h => h.elim
  | _ :: _, _ :: _, [], _, h => h.elim

theorem below_trodAll (hl : laidOutB P = true) {W W' : World} (hb : Below W.heap.size W W') : ∀ {ts : List TypeId} {vs : List Value} {ds : List (DataW H)} {ps : List MemPlace},
    (∀ t ∈ ts, P.readableRec t = true ∧ t < P.types.size) → DataW.TrodAll enc P W 0 (fun _ => true) true ts vs ds ps →
    DataW.TrodAll enc P W' 0 (fun b => decide (b < W.heap.size)) true ts vs ds ps
  | [], [], [], _, _, h => h
  | t :: ts, v :: vs, d :: ds, ps, hts, h => by
    obtain ⟨p, q, h1, h2, e⟩ := h
    have lt : ∀ x ∈ p, x.block < W.heap.size := by obtain ⟨m, hm⟩ := h1; exact DataW.trod_lt m _ _ _ hm
    obtain ⟨r1, r2⟩ := hts t (by simp)
    exact ⟨p, q, Below.trod hl r1 r2 h1 hb lt, below_trodAll hl hb (fun t ht => hts t (by simp [ht])) h2, e⟩
  | [], _ :: _, _, _, _, h => h.elim
  | [], [], _ :: _, _, _, h => h.elim
  | _ :: _, [], _, _, _, h => h.elim
  | _ :: _, _ :: _, [], _, _, h => h.elim

/-- What the walk of a law is told of an argument: it fits its type, and the form can read it. -/
def ArgOk (enc : TypeId × Value → H) (P : Program) (W : World) (t : TypeId) (v : Value) : Prop :=
  (∃ base, Value.okWide P W .any base t v) ∧ ∃ fuel x, DataW.trod enc P W 0 (fun _ => true) true fuel t v.cells.toList = some x

/-- THE ROW OF A LAW out of its walk. -/
theorem law_lift {C : Checked} {os : Os} {f : FuncId} {fn : Func} {s : ChangeSpec}
    (own : ownKnob C.prog.godebug = none) (started : os.Started) (noInit : C.prog.inits.idxOf? f = none) (hfn : C.prog.funcs[f]? = some fn)
    (witness : ∃ (w : World) (tape : Tape) (i : Input), w.os = os ∧ (w.forCall tape i).Shaped C.prog ∧ i.vars = [] ∧ Input.okWide C.prog (w.forCall tape i) .any w.heap.size f i ∧
      s.pre6 enc C.prog fn [] false (w.forCall tape i).memory i.args ∧ (({} : Assume)).holds C.prog (lone (Frame.enter C.prog f i.args .normal) [] (w.forCall tape i)))
    (laid : laidOutB C.prog = true) {ts : List TypeId} (hp : fn.params.toList = ts) (hts : (ts.all fun t => C.prog.readableRec t && decide (t < C.prog.types.size)) = true)
    {tb : TypeId} (hr : fn.resultTypes = #[tb]) (htb : C.prog.underlying tb = some .bool) (hv : s.vars = [])
    (hs : ∀ ds : List (DataW H), ds.length = ts.length → s.fn H ds = { results := [.lit (.bool true)], args := ds })
    (walk : ∀ (W : World) (vs : List Value), vs.length = ts.length → (∀ (j : Nat) t v, ts[j]? = some t → vs[j]? = some v → ArgOk enc C.prog W t v) →
      Calls C.prog f vs.toArray W fun e W' => e = .returned (.bool true) ∧ Below W.heap.size W W') :
    ReturnsInHanded {} C os f .any (s.pre6 enc C.prog fn [] false) (s.post enc C.prog fn false true false false) := by
  refine returnsInHanded_of_change (C := C) own started noInit hfn witness ?_
  intro W base args ds gs before hval hW _ _
  have hW' := hW
  obtain ⟨p, q, hA, hV, rfl, _, _⟩ := hW
  rw [hv] at hV
  have hg : gs = [] ∧ q = [] := by
    cases gs with
    | nil => exact ⟨rfl, hV⟩
    | cons g gs => exact hV.elim
  obtain ⟨rfl, rfl⟩ := hg
  rw [hp] at hA
  obtain ⟨h1, h2, h3⟩ := trodAll_each hA
  have hts' : ∀ t ∈ ts, C.prog.readableRec t = true ∧ t < C.prog.types.size := fun t ht => by
    have := List.all_eq_true.1 hts t ht
    simpa using this
  have hwalk := walk W args.toList h1 fun j t v ht hv => ⟨⟨base, hval j t v (by rw [← Array.getElem?_toList, hp]; exact ht) (by rw [← Array.getElem?_toList]; exact hv)⟩, h3 j t v ht hv⟩
  rw [Array.toArray_toList] at hwalk
  refine hwalk.mono fun e W' ⟨he, bel⟩ => ?_
  subst he
  have hfn' := hs ds h2
  refine ⟨_, rfl, ds, [], _, [], p, [], hW', ?_, ?_, ?_, bel.frame _, fun h => by cases h⟩
  · rw [hr, List.append_nil, hfn']
    exact trodAll_mk1 (shut_bool htb _)
  · rw [hp, List.append_nil, hfn']
    exact below_trodAll laid bel hts' hA
  · rw [hv, List.append_nil, hfn']
    rfl

/-! ### an argument's shape -/
variable {W : World} {t : TypeId} {v : Value}
theorem arg_int {k : IntKind} (ht : P.underlying t = some (.int k)) (h : ArgOk enc P W t v) : ∃ n, v = .int k n ∧ (Lit.int k n).wf = true := by
  obtain ⟨⟨b, hok⟩, fuel, x, hx⟩ := h
  obtain ⟨n, rfl⟩ := okWide_int ht hok
  obtain ⟨m, e, hw⟩ := opens_int enc 0 (fun _ => true) true ht W fuel _ x hx
  simp [Value.cells] at e
  subst e
  exact ⟨n, rfl, hw⟩
theorem arg_bool (ht : P.underlying t = some .bool) (h : ArgOk enc P W t v) : ∃ b, v = .bool b := by
  obtain ⟨⟨b, hok⟩, _⟩ := h
  exact okWide_bool ht hok
theorem arg_byte (ht : P.underlying t = some (.int .u8)) (h : ArgOk enc P W t v) : ∃ b : UInt8, v = .int .u8 (b.toNat : Int) := by
  obtain ⟨⟨b, hok⟩, fuel, x, hx⟩ := h
  obtain ⟨n, rfl⟩ := okWide_int ht hok
  obtain ⟨m, e⟩ := opens_byte enc 0 (fun _ => true) true ht W fuel _ x hx
  unfold rByte at e
  simp [Value.cells] at e
  exact ⟨m, by rw [e]⟩
theorem arg_bytes {e : TypeId} (ht : P.underlying t = some (.slice e)) (he : P.underlying e = some (.int .u8)) (hc : P.cellsOf e = 1) (h : ArgOk enc P W t v) : ∃ l, Bytes W v l := by
  obtain ⟨⟨b, hok⟩, fuel, x, hx⟩ := h
  obtain ⟨a, n, c, rfl⟩ := okWide_slice ht hok
  obtain ⟨l, v', e', hb⟩ := opens_bytes enc 0 (fun _ => true) true ht he hc W fuel _ x hx
  simp [Value.cells] at e'
  subst e'
  exact ⟨l, hb⟩
theorem arg_slice {α : Type} {e : TypeId} {size : Nat} {R : Reader α} (ht : P.underlying t = some (.slice e)) (hc : P.cellsOf e = size) (hR : Opens enc P 0 (fun _ => true) true e R) (h : ArgOk enc P W t v) :
    ∃ as, SliceOf size R W v as := by
  obtain ⟨⟨b, hok⟩, fuel, x, hx⟩ := h
  obtain ⟨a, n, c, rfl⟩ := okWide_slice ht hok
  obtain ⟨l, v', e', hb⟩ := opens_slice enc 0 (fun _ => true) true ht hc hR W fuel _ x hx
  simp [Value.cells] at e'
  subst e'
  exact ⟨l, hb⟩
theorem arg_agg {α : Type} {fs : Array Field} {R : Reader α} (ht : P.underlying t = some (.struct fs)) (hR : Opens enc P 0 (fun _ => true) true t R) (h : ArgOk enc P W t v) : ∃ cs a, v = .agg cs ∧ R W cs.toList a := by
  obtain ⟨⟨b, hok⟩, fuel, x, hx⟩ := h
  obtain ⟨cs, rfl, _⟩ := okWide_struct ht hok
  obtain ⟨a, ha⟩ := hR W fuel _ x hx
  exact ⟨cs, a, rfl, ha⟩
theorem arg_array {α : Type} {n : Nat} {e : TypeId} {R : Reader α} (ht : P.underlying t = some (.array n e)) (hR : Opens enc P 0 (fun _ => true) true t R) (h : ArgOk enc P W t v) : ∃ cs a, v = .agg cs ∧ R W cs.toList a := by
  obtain ⟨⟨b, hok⟩, fuel, x, hx⟩ := h
  simp only [Value.okWide, ht] at hok
  obtain ⟨cs, rfl, _⟩ := hok
  obtain ⟨a, ha⟩ := hR W fuel _ x hx
  exact ⟨cs, a, rfl, ha⟩
theorem oneCell_okWide {r : Reach} {base : Nat} {u : Value} (h : Cell.okWide P W r base t u) : u.oneCell' = true := by
  cases u with
  | agg cs =>
    unfold Cell.okWide at h
    split at h <;> first | contradiction | (rename_i e; cases e; done) | (unfold Cell.ok at h; split at h <;> first | exact h.elim | contradiction | (rename_i e; cases e))
  | tuple vs =>
    unfold Cell.okWide at h
    split at h <;> first | contradiction | (rename_i e; cases e; done) | (unfold Cell.ok at h; split at h <;> first | exact h.elim | contradiction | (rename_i e; cases e))
  | _ => rfl
/-- A struct or array argument: its cells, each one value, and that the form reads them. -/
theorem arg_cells {d : TypeDesc} (ht : P.underlying t = some d) (hd : (match d with | .struct _ | .array _ _ => true | _ => false) = true) (h : ArgOk enc P W t v) :
    ∃ cs, v = .agg cs ∧ cs.size = P.cellsOf t ∧ (∀ u ∈ cs, u.oneCell' = true) ∧ ∃ fuel x, DataW.trod enc P W 0 (fun _ => true) true fuel t cs.toList = some x := by
  obtain ⟨⟨b, hok⟩, fuel, x, hx⟩ := h
  have : ∃ cs, v = .agg cs ∧ cs.size = P.cellsOf t ∧ Row.okWide P W .any b t cs := by
    unfold Value.okWide at hok
    rw [ht] at hok
    cases d <;> first | exact hok | cases hd
  obtain ⟨cs, rfl, hs, ts, _, _, hc⟩ := this
  refine ⟨cs, rfl, hs, fun u hu => ?_, fuel, x, hx⟩
  obtain ⟨i, hi, rfl⟩ := Array.mem_iff_getElem.1 hu
  obtain ⟨ty, _, hk⟩ := hc i _ (Array.getElem?_eq_getElem hi)
  exact oneCell_okWide hk
/-- A field of a struct that the form reads, it reads by itself. -/
theorem trod_field {fs : Array Field} (ht : P.underlying t = some (.struct fs)) {w : World} {base : Nat} {sp : Nat → Bool} {held : Bool} {fuel : Nat} {cs : List Value} {x : DataW H × List MemPlace}
    (h : DataW.trod enc P w base sp held fuel t cs = some x) {f : Field} (hf : f ∈ fs.toList) : ∃ n y, DataW.trod enc P w base sp held n f.type ((cs.drop f.offset).take (P.cellsOf f.type)) = some y := by
  cases fuel with
  | zero => simp [DataW.trod] at h
  | succ m =>
    unfold DataW.trod at h
    rw [ht] at h
    simp only at h
    split at h
    · cases hm : fs.toList.mapM (fun f => DataW.trod enc P w base sp held m f.type ((cs.drop f.offset).take (P.cellsOf f.type))) with
      | none => rw [hm] at h; cases h
      | some ys =>
        obtain ⟨i, hi, rfl⟩ := List.mem_iff_getElem.1 hf
        have hl := mapM_some_length hm
        have := mapM_some_get hm i _ (List.getElem?_eq_getElem hi)
        exact ⟨m, ys[i]'(by omega), by rw [this, List.getElem?_eq_getElem (by omega)]⟩
    · cases h
theorem trod_at {fs : Array Field} (ht : P.underlying t = some (.struct fs)) {w : World} {base : Nat} {sp : Nat → Bool} {held : Bool} {fuel : Nat} {cs : List Value} {x : DataW H × List MemPlace}
    (h : DataW.trod enc P w base sp held fuel t cs = some x) (i : Nat) {f : Field} (hf : fs[i]? = some f) {e off size : Nat} (he : f.type = e) (ho : f.offset = off) (hc : P.cellsOf e = size) :
    ∃ n y, DataW.trod enc P w base sp held n e ((cs.drop off).take size) = some y := by
  subst he
  subst ho
  subst hc
  exact trod_field ht h (by
    have := Array.mem_of_getElem? hf
    simpa using this)
theorem cell_of_field {cs : List Value} {off : Nat} {v : Value} (h : (cs.drop off).take 1 = [v]) : cs[off]? = some v := by
  have := congrArg (fun l : List Value => l[0]?) h
  simpa using this
end
end Go.Mun
