/- What the KV laws use of the parts that are shared, in one text (eseat.py). -/
import Derived.Test.YthjnebngdcdicaaKb3
import Derived.ShutString
import Derived.JoinedOf
import Derived.JoinedAt
import Derived.Deep.MidRow
import Derived.Deep.Cut
import Derived.Laws.IdiomStrings
-- Law
namespace Go.Mun
open Go Go.RowKit Go.ChangeShapes Go.WideShapes Go.ChangeAt Go.Deep

section
variable {H : Type} {enc : TypeId × Value → H} {P : Program}

theorem trodAll_each {w : World} {base : Nat} {sp : Nat → Bool} {held : Bool} : ∀ {ts : List TypeId} {vs : List Value} {ds : List (DataW H)} {ps : List MemPlace}, DataW.TrodAll enc P w base sp held ts vs ds ps →
    vs.length = ts.length ∧ ds.length = ts.length ∧ ∀ (j : Nat) t v, ts[j]? = some t → vs[j]? = some v → ∃ fuel x, DataW.trod enc P w base sp held fuel t v.cells.toList = some x
  | [], [], [], _, _ => ⟨rfl, rfl, fun j t v h => by simp at h⟩
  | t :: ts, v :: vs, d :: ds, ps, h => by
    obtain ⟨p, q, ⟨fuel, hf⟩, hr, _⟩ := h
    obtain ⟨h1, h2, h3⟩ := trodAll_each hr
    refine ⟨by simp [h1], by simp [h2], fun j t' v' ht hv => ?_⟩
    cases j with
    | zero =>
      simp only [List.getElem?_cons_zero, Option.some.injEq] at ht hv
      subst ht
      subst hv
      exact ⟨fuel, _, hf⟩
    | succ j => exact h3 j t' v' (by simpa using ht) (by simpa using hv)
  | [], _ :: _, _, _, h => h.elim
  | [], [], _ :: _, _, h => h.elim
  | _ :: _, [], _, _, h => h.elim
  | _ :: _, _ :: _, [], _, h => h.elim

theorem below_trodAll (hl : laidOutB P = true) {W W' : World} (hb : Below W.heap.size W W') : ∀ {ts : List TypeId} {vs : List Value} {ds : List (DataW H)} {ps : List MemPlace},
    (∀ t ∈ ts, P.readableRec t = true ∧ t < P.types.size) → DataW.TrodAll enc P W 0 (fun _ => true) true ts vs ds ps →
    DataW.TrodAll enc P W' 0 (fun b => decide (b < W.heap.size)) true ts vs ds ps
  | [], [], [], _, _, h => h
  | t :: ts, v :: vs, d :: ds, ps, hts, h => by
    obtain ⟨p, q, h1, h2, e⟩ := h
    have lt : ∀ x ∈ p, x.block < W.heap.size := by obtain ⟨m, hm⟩ := h1; exact DataW.trod_lt m _ _ _ hm
    obtain ⟨r1, r2⟩ := hts t (by simp)
    exact ⟨p, q, Below.trod hl r1 r2 h1 hb lt, below_trodAll hl hb (fun t ht => hts t (by simp [ht])) h2, e⟩
  | [], _ :: _, _, _, _, h => h.elim
  | [], [], _ :: _, _, _, h => h.elim
  | _ :: _, [], _, _, _, h => h.elim
  | _ :: _, _ :: _, [], _, _, h => h.elim

/-- What the walk of a law is told of an argument: it fits its type, and the form can read it. -/
def ArgOk (enc : TypeId × Value → H) (P : Program) (W : World) (t : TypeId) (v : Value) : Prop :=
  (∃ base, Value.okWide P W .any base t v) ∧ ∃ fuel x, DataW.trod enc P W 0 (fun _ => true) true fuel t v.cells.toList = some x

/-- THE ROW OF A LAW out of its walk. -/
theorem law_lift {C : Checked} {os : Os} {f : FuncId} {fn : Func} {s : ChangeSpec}
    (own : ownKnob C.prog.godebug = none) (started : os.Started) (noInit : C.prog.inits.idxOf? f = none) (hfn : C.prog.funcs[f]? = some fn)
    (witness : ∃ (w : World) (tape : Tape) (i : Input), w.os = os ∧ (w.forCall tape i).Shaped C.prog ∧ i.vars = [] ∧ Input.okWide C.prog (w.forCall tape i) .any w.heap.size f i ∧
      s.pre6 enc C.prog fn [] false (w.forCall tape i).memory i.args ∧ (({} : Assume)).holds C.prog (lone (Frame.enter C.prog f i.args .normal) [] (w.forCall tape i)))
    (laid : laidOutB C.prog = true) {ts : List TypeId} (hp : fn.params.toList = ts) (hts : (ts.all fun t => C.prog.readableRec t && decide (t < C.prog.types.size)) = true)
    {tb : TypeId} (hr : fn.resultTypes = #[tb]) (htb : C.prog.underlying tb = some .bool) (hv : s.vars = [])
    (hs : ∀ ds : List (DataW H), ds.length = ts.length → s.fn H ds = { results := [.lit (.bool true)], args := ds })
    (walk : ∀ (W : World) (vs : List Value), vs.length = ts.length → (∀ (j : Nat) t v, ts[j]? = some t → vs[j]? = some v → ArgOk enc C.prog W t v) →
      Calls C.prog f vs.toArray W fun e W' => e = .returned (.bool true) ∧ Below W.heap.size W W') :
    ReturnsInHanded {} C os f .any (s.pre6 enc C.prog fn [] false) (s.post enc C.prog fn false true false false) := by
  refine returnsInHanded_of_change (C := C) own started noInit hfn witness ?_
  intro W base args ds gs before hval hW _ _
  have hW' := hW
  obtain ⟨p, q, hA, hV, rfl, _, _⟩ := hW
  rw [hv] at hV
  have hg : gs = [] ∧ q = [] := by
    cases gs with
    | nil => exact ⟨rfl, hV⟩
    | cons g gs => exact hV.elim
  obtain ⟨rfl, rfl⟩ := hg
  rw [hp] at hA
  obtain ⟨h1, h2, h3⟩ := trodAll_each hA
  have hts' : ∀ t ∈ ts, C.prog.readableRec t = true ∧ t < C.prog.types.size := fun t ht => by
    have := List.all_eq_true.1 hts t ht
    simpa using this
  have hwalk := walk W args.toList h1 fun j t v ht hv => ⟨⟨base, hval j t v (by rw [← Array.getElem?_toList, hp]; exact ht) (by rw [← Array.getElem?_toList]; exact hv)⟩, h3 j t v ht hv⟩
  rw [Array.toArray_toList] at hwalk
  refine hwalk.mono fun e W' ⟨he, bel⟩ => ?_
  subst he
  have hfn' := hs ds h2
  refine ⟨_, rfl, ds, [], _, [], p, [], hW', ?_, ?_, ?_, bel.frame _, fun h => by cases h⟩
  · rw [hr, List.append_nil, hfn']
    exact trodAll_mk1 (shut_bool htb _)
  · rw [hp, List.append_nil, hfn']
    exact below_trodAll laid bel hts' hA
  · rw [hv, List.append_nil, hfn']
    rfl

/-! ### an argument's shape -/
variable {W : World} {t : TypeId} {v : Value}
theorem arg_int {k : IntKind} (ht : P.underlying t = some (.int k)) (h : ArgOk enc P W t v) : ∃ n, v = .int k n ∧ (Lit.int k n).wf = true := by
  obtain ⟨⟨b, hok⟩, fuel, x, hx⟩ := h
  obtain ⟨n, rfl⟩ := okWide_int ht hok
  obtain ⟨m, e, hw⟩ := opens_int enc 0 (fun _ => true) true ht W fuel _ x hx
  simp [Value.cells] at e
  subst e
  exact ⟨n, rfl, hw⟩
theorem arg_bool (ht : P.underlying t = some .bool) (h : ArgOk enc P W t v) : ∃ b, v = .bool b := by
  obtain ⟨⟨b, hok⟩, _⟩ := h
  exact okWide_bool ht hok
theorem arg_byte (ht : P.underlying t = some (.int .u8)) (h : ArgOk enc P W t v) : ∃ b : UInt8, v = .int .u8 (b.toNat : Int) := by
  obtain ⟨⟨b, hok⟩, fuel, x, hx⟩ := h
  obtain ⟨n, rfl⟩ := okWide_int ht hok
  obtain ⟨m, e⟩ := opens_byte enc 0 (fun _ => true) true ht W fuel _ x hx
  unfold rByte at e
  simp [Value.cells] at e
  exact ⟨m, by rw [e]⟩
theorem arg_bytes {e : TypeId} (ht : P.underlying t = some (.slice e)) (he : P.underlying e = some (.int .u8)) (hc : P.cellsOf e = 1) (h : ArgOk enc P W t v) : ∃ l, Bytes W v l := by
  obtain ⟨⟨b, hok⟩, fuel, x, hx⟩ := h
  obtain ⟨a, n, c, rfl⟩ := okWide_slice ht hok
  obtain ⟨l, v', e', hb⟩ := opens_bytes enc 0 (fun _ => true) true ht he hc W fuel _ x hx
  simp [Value.cells] at e'
  subst e'
  exact ⟨l, hb⟩
theorem arg_slice {α : Type} {e : TypeId} {size : Nat} {R : Reader α} (ht : P.underlying t = some (.slice e)) (hc : P.cellsOf e = size) (hR : Opens enc P 0 (fun _ => true) true e R) (h : ArgOk enc P W t v) :
    ∃ al, SliceOf size R W v al := by
  obtain ⟨⟨b, hok⟩, fuel, x, hx⟩ := h
  obtain ⟨a, n, c, rfl⟩ := okWide_slice ht hok
  obtain ⟨l, v', e', hb⟩ := opens_slice enc 0 (fun _ => true) true ht hc hR W fuel _ x hx
  simp [Value.cells] at e'
  subst e'
  exact ⟨l, hb⟩
theorem arg_agg {α : Type} {fs : Array Field} {R : Reader α} (ht : P.underlying t = some (.struct fs)) (hR : Opens enc P 0 (fun _ => true) true t R) (h : ArgOk enc P W t v) : ∃ cs a, v = .agg cs ∧ R W cs.toList a := by
  obtain ⟨⟨b, hok⟩, fuel, x, hx⟩ := h
  obtain ⟨cs, rfl, _⟩ := okWide_struct ht hok
  obtain ⟨a, ha⟩ := hR W fuel _ x hx
  exact ⟨cs, a, rfl, ha⟩
theorem arg_array {α : Type} {n : Nat} {e : TypeId} {R : Reader α} (ht : P.underlying t = some (.array n e)) (hR : Opens enc P 0 (fun _ => true) true t R) (h : ArgOk enc P W t v) : ∃ cs a, v = .agg cs ∧ R W cs.toList a := by
  obtain ⟨⟨b, hok⟩, fuel, x, hx⟩ := h
  simp only [Value.okWide, ht] at hok
  obtain ⟨cs, rfl, _⟩ := hok
  obtain ⟨a, ha⟩ := hR W fuel _ x hx
  exact ⟨cs, a, rfl, ha⟩
theorem oneCell_okWide {r : Reach} {base : Nat} {u : Value} (h : Cell.okWide P W r base t u) : u.oneCell' = true := by
  cases u with
  | agg cs =>
    unfold Cell.okWide at h
    split at h <;> first | contradiction | (rename_i e; cases e; done) | (unfold Cell.ok at h; split at h <;> first | exact h.elim | contradiction | (rename_i e; cases e))
  | tuple vs =>
    unfold Cell.okWide at h
    split at h <;> first | contradiction | (rename_i e; cases e; done) | (unfold Cell.ok at h; split at h <;> first | exact h.elim | contradiction | (rename_i e; cases e))
  | _ => rfl
/-- A struct or array argument: its cells, each one value, and that the form reads them. -/
theorem arg_cells {d : TypeDesc} (ht : P.underlying t = some d) (hd : (match d with | .struct _ | .array _ _ => true | _ => false) = true) (h : ArgOk enc P W t v) :
    ∃ cs, v = .agg cs ∧ cs.size = P.cellsOf t ∧ (∀ u ∈ cs, u.oneCell' = true) ∧ ∃ fuel x, DataW.trod enc P W 0 (fun _ => true) true fuel t cs.toList = some x := by
  obtain ⟨⟨b, hok⟩, fuel, x, hx⟩ := h
  have : ∃ cs, v = .agg cs ∧ cs.size = P.cellsOf t ∧ Row.okWide P W .any b t cs := by
    unfold Value.okWide at hok
    rw [ht] at hok
    cases d <;> first | exact hok | cases hd
  obtain ⟨cs, rfl, hs, ts, _, _, hc⟩ := this
  refine ⟨cs, rfl, hs, fun u hu => ?_, fuel, x, hx⟩
  obtain ⟨i, hi, rfl⟩ := Array.mem_iff_getElem.1 hu
  obtain ⟨ty, _, hk⟩ := hc i _ (Array.getElem?_eq_getElem hi)
  exact oneCell_okWide hk
/-- A field of a struct that the form reads, it reads by itself. -/
theorem trod_field {fs : Array Field} (ht : P.underlying t = some (.struct fs)) {w : World} {base : Nat} {sp : Nat → Bool} {held : Bool} {fuel : Nat} {cs : List Value} {x : DataW H × List MemPlace}
    (h : DataW.trod enc P w base sp held fuel t cs = some x) {f : Field} (hf : f ∈ fs.toList) : ∃ n y, DataW.trod enc P w base sp held n f.type ((cs.drop f.offset).take (P.cellsOf f.type)) = some y := by
  cases fuel with
  | zero => simp [DataW.trod] at h
  | succ m =>
    unfold DataW.trod at h
    rw [ht] at h
    simp only at h
    split at h
    · cases hm : fs.toList.mapM (fun f => DataW.trod enc P w base sp held m f.type ((cs.drop f.offset).take (P.cellsOf f.type))) with
      | none => rw [hm] at h; cases h
      | some ys =>
        obtain ⟨i, hi, rfl⟩ := List.mem_iff_getElem.1 hf
        have hl := mapM_some_length hm
        have := mapM_some_get hm i _ (List.getElem?_eq_getElem hi)
        exact ⟨m, ys[i]'(by omega), by rw [this, List.getElem?_eq_getElem (by omega)]⟩
    · cases h
theorem trod_at {fs : Array Field} (ht : P.underlying t = some (.struct fs)) {w : World} {base : Nat} {sp : Nat → Bool} {held : Bool} {fuel : Nat} {cs : List Value} {x : DataW H × List MemPlace}
    (h : DataW.trod enc P w base sp held fuel t cs = some x) (i : Nat) {f : Field} (hf : fs[i]? = some f) {e off size : Nat} (he : f.type = e) (ho : f.offset = off) (hc : P.cellsOf e = size) :
    ∃ n y, DataW.trod enc P w base sp held n e ((cs.drop off).take size) = some y := by
  subst he
  subst ho
  subst hc
  exact trod_field ht h (by
    have := Array.mem_of_getElem? hf
    simpa using this)
theorem cell_of_field {cs : List Value} {off : Nat} {v : Value} (h : (cs.drop off).take 1 = [v]) : cs[off]? = some v := by
  have := congrArg (fun l : List Value => l[0]?) h
  simpa using this
end
end Go.Mun

-- RecArg
namespace Go.Mun
open Go Go.RowKit Go.Proofs Go.ChangeShapes Go.WideShapes Go.ChangeAt

set_option maxRecDepth 100000 in
theorem rec_of {H : Type} {enc : TypeId × Value → H} {W : World} {v : Value} (h : ArgOk enc Try.prog W 97 v) :
    ∃ (r : Rec) (kv vv : Value), v = .agg #[.int .i64 r.kind, .bool r.del, kv, vv, .int .i64 r.n] ∧ Bytes W kv r.key ∧ Bytes W vv r.value ∧ -9223372036854775808 ≤ r.n ∧ r.n ≤ 9223372036854775807 := by
  obtain ⟨cs, rfl, hsz, hone, fuel, x, hx⟩ := arg_cells Try.underlying97 rfl h
  have hsz' : cs.size = 5 := hsz.trans (by kernel_rfl)
  obtain ⟨n0, y0, h0⟩ := trod_at Try.underlying97 hx 0 rfl (e := 3) (off := 0) (size := 1) rfl rfl (by kernel_rfl)
  obtain ⟨n1, y1, h1⟩ := trod_at Try.underlying97 hx 1 rfl (e := 32) (off := 1) (size := 3) rfl rfl (by kernel_rfl)
  obtain ⟨n2, y2, h2⟩ := trod_at Try.underlying97 hx 2 rfl (e := 3) (off := 4) (size := 1) rfl rfl (by kernel_rfl)
  obtain ⟨n3, y3, h3⟩ := trod_at Try.underlying32 h1 0 rfl (e := 4) (off := 0) (size := 1) rfl rfl (by kernel_rfl)
  obtain ⟨n4, y4, h4⟩ := trod_at Try.underlying32 h1 1 rfl (e := 22) (off := 1) (size := 1) rfl rfl (by kernel_rfl)
  obtain ⟨n5, y5, h5⟩ := trod_at Try.underlying32 h1 2 rfl (e := 22) (off := 2) (size := 1) rfl rfl (by kernel_rfl)
  obtain ⟨kind, hk, _⟩ := opens_int enc 0 (fun _ => true) true Try.underlying3 W n0 _ y0 h0
  obtain ⟨n, hn, hnw⟩ := opens_int enc 0 (fun _ => true) true Try.underlying3 W n2 _ y2 h2
  obtain ⟨del, hd⟩ := opens_bool enc 0 (fun _ => true) true Try.underlying4 W n3 _ y3 h3
  obtain ⟨key, kv, hkv, hkb⟩ := opens_bytes enc 0 (fun _ => true) true Try.underlying22 Try.underlying5 (by kernel_rfl) W n4 _ y4 h4
  obtain ⟨value, vv, hvv, hvb⟩ := opens_bytes enc 0 (fun _ => true) true Try.underlying22 Try.underlying5 (by kernel_rfl) W n5 _ y5 h5
  have hnb := bounds_i64 hnw
  obtain ⟨l, rfl⟩ : ∃ l : List Value, cs = l.toArray := ⟨cs.toList, by simp⟩
  simp only [List.size_toArray] at hsz'
  match l, hsz' with
  | [a0, a1, a2, a3, a4], _ =>
    unfold rBool at hd
    simp at hk hn hd hkv hvv
    subst hk
    subst hn
    subst hd
    subst hkv
    subst hvv
    exact ⟨⟨kind, del, key, value, n⟩, _, _, rfl, hkb, hvb, hnb.1, hnb.2⟩

theorem body_five (r : Rec) : 5 ≤ r.body.length := by
  unfold Rec.body
  split <;> simp [fourB] <;> omega
theorem err_small (r : Rec) : 0 ≤ r.err ∧ r.err ≤ 3 := by
  unfold Rec.err
  split
  · omega
  · split
    · omega
    · split <;> omega
end Go.Mun

-- RecRow
namespace Go.Mun
open Go Go.RowKit Go.Proofs Go.ChangeShapes Go.WideShapes Go.ChangeAt

/-- a change, as it lies in three cells -/
def rOp : Reader Rec := fun w cs r => cs.length = 3 → ∃ kv vv, cs = [.bool r.del, kv, vv] ∧ r.kind = 1 ∧ r.n = 0 ∧ Bytes w kv r.key ∧ Bytes w vv r.value
theorem opens_op {H : Type} (enc : TypeId × Value → H) : Opens enc Try.prog 0 (fun _ => true) true 32 rOp := by
  intro w fuel cs x hx
  obtain ⟨n3, y3, h3⟩ := trod_at Try.underlying32 hx 0 rfl (e := 4) (off := 0) (size := 1) rfl rfl (by kernel_rfl)
  obtain ⟨n4, y4, h4⟩ := trod_at Try.underlying32 hx 1 rfl (e := 22) (off := 1) (size := 1) rfl rfl (by kernel_rfl)
  obtain ⟨n5, y5, h5⟩ := trod_at Try.underlying32 hx 2 rfl (e := 22) (off := 2) (size := 1) rfl rfl (by kernel_rfl)
  obtain ⟨del, hd⟩ := opens_bool enc 0 (fun _ => true) true Try.underlying4 w n3 _ y3 h3
  obtain ⟨key, kv, hkv, hkb⟩ := opens_bytes enc 0 (fun _ => true) true Try.underlying22 Try.underlying5 (by kernel_rfl) w n4 _ y4 h4
  obtain ⟨value, vv, hvv, hvb⟩ := opens_bytes enc 0 (fun _ => true) true Try.underlying22 Try.underlying5 (by kernel_rfl) w n5 _ y5 h5
  refine ⟨⟨1, del, key, value, 0⟩, fun hl => ?_⟩
  match cs, hl with
  | [a1, a2, a3], _ =>
    unfold rBool at hd
    simp at hd hkv hvv
    subst hd
    subst hkv
    subst hvv
    exact ⟨_, _, rfl, rfl, rfl, hkb, hvb⟩

/-- a record with the slices in which its bytes lie -/
abbrev RItem := Rec × Value × Value
def itC (x : RItem) : List Value := [.int .i64 x.1.kind, .bool x.1.del, x.2.1, x.2.2, .int .i64 x.1.n]
def allC (L : List RItem) : List Value := L.flatMap itC
def allB (L : List RItem) : List UInt8 := L.flatMap fun x => x.1.bytes
theorem allC_length (L : List RItem) : (allC L).length = L.length * 5 := by
  induction L with
  | nil => rfl
  | cons x L ih =>
    have : allC (x :: L) = itC x ++ allC L := rfl
    rw [this, List.length_append, ih, List.length_cons]
    show 5 + _ = _
    omega
theorem allC_append (L M : List RItem) : allC (L ++ M) = allC L ++ allC M := by simp [allC]
theorem allB_append (L M : List RItem) : allB (L ++ M) = allB L ++ allB M := by simp [allB]
theorem allC_one (x : RItem) : allC [x] = itC x := by simp [allC]
theorem allB_one (x : RItem) : allB [x] = x.1.bytes := by simp [allB]
structure ItOk (w : World) (x : RItem) : Prop where
  err : x.1.err = 0
  key : Bytes w x.2.1 x.1.key
  value : Bytes w x.2.2 x.1.value
  len : x.1.bytes.length ≤ 500
theorem ItOk.one {w : World} {x : RItem} (h : ItOk w x) : ∀ u ∈ itC x, u.oneCell' = true := by
  obtain ⟨_, _, _, e1, _⟩ := h.key
  obtain ⟨_, _, _, e2, _⟩ := h.value
  intro u hu
  simp only [itC, List.mem_cons, List.not_mem_nil, or_false] at hu
  rcases hu with rfl | rfl | rfl | rfl | rfl
  · rfl
  · rfl
  · rw [e1]; rfl
  · rw [e2]; rfl
  · rfl
theorem allB_bd {w : World} {L : List RItem} (h : ∀ x ∈ L, ItOk w x) : (allB L).length ≤ 500 * L.length := by
  induction L with
  | nil => exact Nat.zero_le _
  | cons x L ih =>
    have : allB (x :: L) = x.1.bytes ++ allB L := rfl
    rw [this, List.length_append, List.length_cons]
    have h1 := (h x (by simp)).len
    have h2 := ih fun y hy => h y (by simp [hy])
    omega
theorem allC_get (L : List RItem) : ∀ {k j : Nat} {x : RItem}, L[k]? = some x → j < 5 → (allC L)[k * 5 + j]? = (itC x)[j]? := by
  induction L with
  | nil => intro k j x h; simp at h
  | cons y L ih =>
    intro k j x h hj
    have e : allC (y :: L) = itC y ++ allC L := rfl
    have hs : (itC y).length = 5 := rfl
    rw [e]
    cases k with
    | zero =>
      simp only [List.getElem?_cons_zero, Option.some.injEq] at h
      subst h
      rw [List.getElem?_append_left (by rw [hs]; omega), Nat.zero_mul, Nat.zero_add]
    | succ k =>
      rw [List.getElem?_append_right (by rw [hs]; omega), hs, show (k + 1) * 5 + j - 5 = k * 5 + j from by omega]
      exact ih (by simpa using h) hj
theorem allB_drop {L : List RItem} {k : Nat} {x : RItem} (h : L[k]? = some x) : allB (L.drop k) = x.1.bytes ++ allB (L.drop (k + 1)) := by
  obtain ⟨hk, hx⟩ := List.getElem?_eq_some_iff.1 h
  rw [List.drop_eq_getElem_cons hk, hx]
  rfl
theorem norm_same {r : Rec} (h : r.err = 0) : r.norm.sameB r = true := by
  obtain ⟨kind, del, key, value, n⟩ := r
  cases he : Rec.isEnd ⟨kind, del, key, value, n⟩ with
  | true =>
    have hi := of_decide_eq_true he
    unfold Rec.norm
    rw [if_pos he]
    unfold Rec.sameB
    simp only at hi ⊢
    rw [hi.1]
    simp
  | false =>
    unfold Rec.norm
    rw [he, if_neg (by simp)]
    rw [err_not he] at h
    simp only at h
    have hk : kind = 1 := by
      rcases Classical.em (kind = 1) with e | e
      · exact e
      · rw [if_pos e] at h; cases h
    subst hk
    unfold Rec.sameB
    cases del <;> simp
theorem next_nil : nextB [] = (.zero, 0, 6) := by unfold nextB; rw [if_pos (by decide)]

theorem add_beside (ad : Addr) (k : Nat) {j : Nat} (hj : 0 < j) : ad.add (k + j) = ⟨(ad.add k).block, (ad.add k).off + j, none⟩ := by
  unfold Addr.add
  rw [if_neg (by omega)]
  by_cases h : k = 0
  · subst h
    simp
  · rw [if_neg h]
    simp [Nat.add_assoc]
/-- the cells of one change of a row -/
theorem op_at {w w' : World} {A : Option Addr} {n : Nat} {xs : List Value} {rs : List Rec} (hr : Rd w' A xs) (hl : rs.length = n) (hx : xs.length = n * 3) (hb : ∀ i (h : i < rs.length), rOp w (chunk xs 3 i) rs[i]) {k : Nat} (hk : k < n) :
    ∃ (ad : Addr) (r : Rec) (kv vv : Value), A = some ad ∧ w'.cell? (ad.add (k * 3)) = some (.bool r.del) ∧ w'.cell? ⟨(ad.add (k * 3)).block, (ad.add (k * 3)).off + 1, none⟩ = some kv ∧ w'.cell? ⟨(ad.add (k * 3)).block, (ad.add (k * 3)).off + 2, none⟩ = some vv ∧
      r.kind = 1 ∧ r.n = 0 ∧ Bytes w kv r.key ∧ Bytes w vv r.value := by
  have hc : (chunk xs 3 k).length = 3 := by unfold chunk; rw [List.length_take, List.length_drop]; omega
  obtain ⟨kv, vv, e, h1, h2, h3, h4⟩ := hb k (by omega) hc
  have hg : ∀ j, j < 3 → xs[k * 3 + j]? = (chunk xs 3 k)[j]? := fun j hj => by
    unfold chunk
    rw [List.getElem?_take, if_pos hj, List.getElem?_drop]
  obtain ⟨ad, rfl, c0⟩ := hr (k * 3) _ (by have := hg 0 (by omega); rw [Nat.add_zero] at this; rw [this, e]; rfl)
  obtain ⟨ad', e1, c1⟩ := hr (k * 3 + 1) kv (by rw [hg 1 (by omega), e]; rfl)
  obtain ⟨ad'', e2, c2⟩ := hr (k * 3 + 2) vv (by rw [hg 2 (by omega), e]; rfl)
  injection e1 with e1
  injection e2 with e2
  subst e1 e2
  rw [add_beside _ _ (by omega)] at c1 c2
  exact ⟨_, rs[k], kv, vv, rfl, c0, c1, c2, h1, h2, h3, h4⟩
/-- 'Pack' of a record that has bytes -/
theorem Pack_ok (r : Rec) (kv vv : Value) (w : World) (hk : Bytes w kv r.key) (hv : Bytes w vv r.value) (hn1 : -9223372036854775808 ≤ r.n) (hn2 : r.n ≤ 9223372036854775807) (he : r.err = 0) :
    Calls Try.prog 47 #[.agg #[.int .i64 r.kind, .bool r.del, kv, vv, .int .i64 r.n]] w fun e w' => ∃ v, e = .returned (.tuple #[v, .int .i64 0]) ∧ Below w.heap.size w w' ∧
      w'.ownsRow w.heap.size 5 1 v r.bytes.length (bv r.bytes) := by
  refine (Pack_any r kv vv w hk hv hn1 hn2).mono ?_
  rintro e w' ⟨hb, ⟨h0, _⟩ | ⟨_, v, rfl, ho⟩⟩
  · exact absurd he h0
  · exact ⟨v, rfl, hb, ho⟩
theorem change_ok {del : Bool} {key value : List UInt8} (hk : key.length ≤ 200) (hv : value.length ≤ 200) : (⟨1, del, key, value, 0⟩ : Rec).err = 0 ∧ (⟨1, del, key, value, 0⟩ : Rec).bytes.length ≤ 500 := by
  refine ⟨err_fits isEnd_one rfl (by simp only; omega), ?_⟩
  rw [bytes_length, body_change isEnd_one]
  simp only [List.length_append, fourB_length]
  cases del <;> simp <;> omega
theorem end_ok {z : Nat} (hz : z < 1024) : (⟨2, false, [], [], z⟩ : Rec).err = 0 ∧ (⟨2, false, [], [], z⟩ : Rec).bytes.length ≤ 500 := by
  refine ⟨err_end _ _ _ _ (by omega) (by omega), ?_⟩
  rw [bytes_length, body_end _ _ _ _ (by omega) (by omega)]
  simp [fourB_length]
/-- a load out of the middle of a row, at an operation with a guard that is wanted -/
theorem wpList_load_mid_want {P : Program} {ops : Array Oper} {rest : List Oper} {op : Oper} {a : Act} {w : World} {Q : Exit → Act → World → Prop} (hw : Region.wanted op (yielded ops a.tmps) = true) (ty : TypeId) (x : Operand) (ho : op.op = .load ty x)
    (b o : Nat) (hx : a.eval x = .pointer (some ⟨b, o, none⟩)) (cs : List Value) (d : TypeDesc) (hc : w.rangeAt b o cs)
    (hu : P.underlying ty = some d) (hd : d.isRow = true) (hi : (P.info? ty).map (·.size) = some cs.length)
    (h : wpList P ops Q rest (a.put op.dst (.agg cs.toArray)) w) : wpList P ops Q (op :: rest) a w :=
  wpList_step fun K hK => by
    rw [if_pos hw]
    exact wp_load_mid ty x ho b o hx cs d hc hu hd hi (hK _ _ h)
theorem own_sl {w : World} {base : Nat} {e : TypeId} {size n : Nat} {v : Value} {xs : List Value} (h : w.ownsRow base e size v n xs) : ∃ A c, v = .slice A n c := by
  rcases h.2 with ⟨rfl, rfl⟩ | ⟨g, cap, cur, rfl, _⟩
  · exact ⟨_, _, rfl⟩
  · exact ⟨_, _, rfl⟩
theorem own_at {w : World} {base : Nat} {e : TypeId} {size n c : Nat} {A : Option Addr} {xs : List Value} (h : w.ownsRow base e size (.slice A n c) n xs) (hn : 0 < n) : ∃ g, A = some ⟨g, 0, none⟩ := by
  rcases h.2 with ⟨e1, e2⟩ | ⟨g, cap, cur, e1, _⟩
  · omega
  · injection e1 with e1; exact ⟨g, e1⟩
/-- one record of a row of records -/
theorem row_item {w : World} {base h n c : Nat} {e : TypeId} {L : List RItem} (ho : w.ownsRow base e 5 (.slice (some ⟨h, 0, none⟩) n c) n (allC L)) {k : Nat} {x : RItem} (hx : L[k]? = some x) : w.rangeAt h (k * 5) (itC x) := by
  intro j v hv
  have hj : j < 5 := (List.getElem?_eq_some_iff.1 hv).1
  have := ho.cells (g := h) rfl (k * 5 + j) v ((allC_get L hx hj).trans hv)
  rwa [Addr.add_mid, Nat.zero_add] at this
end Go.Mun

-- RpPlain
namespace Go.Mun
open Go Go.RowKit Go.Proofs Go.ChangeShapes Go.WideShapes Go.ChangeAt

/-- the batches that bytes begin with, and how many bytes they have: from a place on, with what was read ahead of it -/
def batB (b : List UInt8) : Nat → Nat → Nat → List Rec → List (List Rec) → List (List Rec) × Nat
  | 0, _, wh, _, out => (out, wh)
  | F + 1, at_, wh, l, out =>
    if (nextB (b.drop at_)).2.2 ≠ 0 then (out, wh)
    else if (nextB (b.drop at_)).1.kind = 1 then batB b F (at_ + (nextB (b.drop at_)).2.1) wh (l ++ [(nextB (b.drop at_)).1]) out
    else if (nextB (b.drop at_)).1.n ≠ (l.length : Int) then (out, wh)
    else batB b F (at_ + (nextB (b.drop at_)).2.1) (at_ + (nextB (b.drop at_)).2.1) [] (out ++ [l])
/-- all of it -/
def batches (b : List UInt8) : List (List Rec) × Nat := batB b (b.length + 1) 0 0 [] []

theorem readB_some {b : List UInt8} {r : Rec} (h : readB b = some r) : (r.kind = 1 ∧ r.n = 0) ∨ (r.kind = 2 ∧ 0 ≤ r.n ∧ r.n ≤ 2147483647) := by
  unfold readB at h
  split at h
  · split at h
    · cases h
    · injection h with h
      subst h
      exact .inr ⟨rfl, by simp only; omega, by simp only; omega⟩
  · split at h
    · cases h
    · split at h
      · cases h
      · split at h
        · cases h
        · injection h with h
          subst h
          exact .inl ⟨rfl, rfl⟩
/-- what is known of a record that was read -/
theorem next_ok {b : List UInt8} (h : (nextB b).2.2 = 0) : 9 ≤ (nextB b).2.1 ∧ (nextB b).2.1 ≤ b.length ∧
    (((nextB b).1.kind = 1 ∧ (nextB b).1.n = 0) ∨ ((nextB b).1.kind = 2 ∧ 0 ≤ (nextB b).1.n ∧ (nextB b).1.n ≤ 2147483647)) := by
  unfold nextB at h ⊢
  split at h
  · exact absurd h (by decide)
  · split at h
    · exact absurd h (by decide)
    · split at h
      · exact absurd h (by decide)
      · split at h
        · exact absurd h (by decide)
        · rename_i h1 h2 h3 h4
          rw [if_neg h1, if_neg h2, if_neg h3, if_neg h4]
          cases hr : readB ((b.take (8 + numB b)).drop 8) with
          | none => rw [hr] at h; simp [readT] at h
          | some r =>
            have := readB_some hr
            refine ⟨?_, ?_, this⟩
            · show 9 ≤ 8 + numB b
              omega
            · show 8 + numB b ≤ b.length
              omega

/-- Whatever is written into new blocks, or into those that are bad, it stays. -/
def Stays (w : World) (bad : Nat → Prop) (P : World → Prop) : Prop := ∀ w' : World, w.heap.size ≤ w'.heap.size → (∀ k, k < w.heap.size → ¬ bad k → w'.heap[k]? = w.heap[k]?) → P w'
theorem Stays.now {w : World} {bad : Nat → Prop} {P : World → Prop} (h : Stays w bad P) : P w := h w (Nat.le_refl _) fun _ _ _ => rfl
theorem Stays.step {w w1 : World} {bad bad1 : Nat → Prop} {P : World → Prop} (h : Stays w bad P) (hs : w.heap.size ≤ w1.heap.size) (hk : ∀ k, k < w.heap.size → ¬ bad k → w1.heap[k]? = w.heap[k]?) (hb : ∀ k, k < w.heap.size → bad1 k → bad k) : Stays w1 bad1 P :=
  fun w' h1 h2 => h w' (Nat.le_trans hs h1) fun k hlt hn => (h2 k (Nat.lt_of_lt_of_le hlt hs) (fun hb1 => hn (hb k hlt hb1))).trans (hk k hlt hn)
theorem Stays.and {w : World} {bad : Nat → Prop} {P Q : World → Prop} (h : Stays w bad P) (k : Stays w bad Q) : Stays w bad fun w' => P w' ∧ Q w' := fun w' h1 h2 => ⟨h w' h1 h2, k w' h1 h2⟩
theorem Stays.imp {w : World} {bad : Nat → Prop} {P Q : World → Prop} (h : Stays w bad P) (hi : ∀ w', P w' → Q w') : Stays w bad Q := fun w' h1 h2 => hi w' (h w' h1 h2)
theorem Stays.own {w : World} {bad : Nat → Prop} {base size n : Nat} {e : TypeId} {v : Value} {xs : List Value} (h : w.ownsRow base e size v n xs) (hb : ∀ k, v.ownBlock = some k → ¬ bad k) : Stays w bad fun w' => w'.ownsRow base e size v n xs := by
  intro w' h1 h2
  refine ⟨h.1, ?_⟩
  rcases h.2 with hn | ⟨g, cap, cur, rfl, hg, hh, rest⟩
  · exact .inl hn
  · exact .inr ⟨g, cap, cur, rfl, hg, (h2 g (h.lt g rfl).2 (hb g rfl)).trans hh, rest⟩
/-- the blocks of two rows -/
def Rows2 (a b : Value) : Nat → Prop := fun k => a.ownBlock = some k ∨ b.ownBlock = some k

/-- the cells of the change that a record tells -/
def opC (r : Rec) (kv vv : Value) : List Value := [.bool r.del, kv, vv]
/-- changes in a row -/
def OpsC (w : World) (cl : List Value) (l : List Rec) : Prop := cl.length = l.length * 3 ∧ ∀ i (h : i < l.length), rOp w (chunk cl 3 i) l[i]
theorem OpsC.nil (w : World) : OpsC w [] [] := ⟨rfl, fun i h => by simp at h⟩
theorem chunk_left {a b : List Value} {s i : Nat} (h : (i + 1) * s ≤ a.length) : chunk (a ++ b) s i = chunk a s i := by
  have h' : i * s + s ≤ a.length := by rw [Nat.add_mul, Nat.one_mul] at h; exact h
  unfold chunk
  rw [List.drop_append_of_le_length (by omega), List.take_append_of_le_length (by rw [List.length_drop]; omega)]
theorem chunk_last {a b : List Value} {s i : Nat} (h : a.length = i * s) (hb : b.length = s) : chunk (a ++ b) s i = b := by
  unfold chunk
  rw [← h, List.drop_left, List.take_of_length_le (by omega)]
theorem OpsC.more {w : World} {cl : List Value} {l : List Rec} {r : Rec} {kv vv : Value} (h : OpsC w cl l) (h1 : r.kind = 1) (h2 : r.n = 0) (hk : Bytes w kv r.key) (hv : Bytes w vv r.value) : OpsC w (cl ++ opC r kv vv) (l ++ [r]) := by
  refine ⟨by simp [opC, h.1]; omega, fun i hi => ?_⟩
  by_cases hlt : i < l.length
  · rw [chunk_left (by rw [h.1]; exact Nat.mul_le_mul_right _ hlt), List.getElem_append_left hlt]
    exact h.2 i hlt
  · obtain rfl : i = l.length := by simp at hi; omega
    rw [chunk_last (s := 3) h.1 rfl]
    rw [List.getElem_append_right (Nat.le_refl _)]
    intro _
    refine ⟨kv, vv, ?_, ?_, ?_, ?_, ?_⟩
    · simp [opC]
    · simpa using h1
    · simpa using h2
    · simpa using hk
    · simpa using hv
/-- batches in a row -/
def OutC (w : World) (co : List Value) (out : List (List Rec)) : Prop := co.length = out.length * 1 ∧ ∀ i (h : i < out.length), rSlice 3 rOp w (chunk co 1 i) out[i]
theorem OutC.nil (w : World) : OutC w [] [] := ⟨rfl, fun i h => by simp at h⟩
theorem OutC.more {w : World} {co : List Value} {out : List (List Rec)} {v : Value} {l : List Rec} (h : OutC w co out) (hv : SliceOf 3 rOp w v l) : OutC w (co ++ [v]) (out ++ [l]) := by
  refine ⟨by simp [h.1], fun i hi => ?_⟩
  by_cases hlt : i < out.length
  · rw [chunk_left (by rw [h.1]; omega), List.getElem_append_left hlt]
    exact h.2 i hlt
  · obtain rfl : i = out.length := by simp at hi; omega
    rw [chunk_last (s := 1) h.1 rfl, List.getElem_append_right (Nat.le_refl _)]
    exact ⟨v, rfl, by simpa using hv⟩
theorem slice_of_own {α : Type} {w : World} {base size n : Nat} {e : TypeId} {v : Value} {xs : List Value} {R : Reader α} {ds : List α} (h : w.ownsRow base e size v n xs) (hl : ds.length = n) (hr : ∀ i (h : i < ds.length), R w (chunk xs size i) ds[i]) : SliceOf size R w v ds := by
  have h' := h
  rcases h.2 with ⟨rfl, rfl⟩ | ⟨g, cap, cur, rfl, _, _, hc, hm, _⟩
  · exact ⟨none, 0, 0, xs, rfl, hl, h.1, Nat.le_refl _, Nat.zero_le _, Rd.own h', hr⟩
  · exact ⟨_, n, cap, xs, rfl, hl, h.1, hc, hm, Rd.own h', hr⟩
theorem opsTy : SliceTy Try.prog 33 32 (.agg #[.bool false, .slice none 0 0, .slice none 0 0]) 3 56 := SliceTy.mk' Try.underlying33 (by kernel_rfl) rfl (by decide)
theorem outTy : SliceTy Try.prog 73 33 (.slice none 0 0) 1 24 := SliceTy.mk' Try.underlying73 (by kernel_rfl) rfl (by decide)
end Go.Mun

-- RpStays
namespace Go.Mun
open Go Go.RowKit Go.Proofs

/-- two rows of the call's own that are not one -/
def Apart (a b : Value) : Prop := ∀ g, a.ownBlock = some g → b.ownBlock ≠ some g
theorem Apart.nil (b : Value) : Apart (.slice none 0 0) b := fun g h => by cases h
theorem Apart.symm {a b : Value} (h : Apart a b) : Apart b a := fun g h1 h2 => h g h2 h1
theorem far_row {w w' : World} {base : Nat} {e : TypeId} {size n : Nat} {a b : Value} {ys : List Value} (hb : w.ownsRow base e size b n ys) (hg : w.grownBy w' a.ownBlock) (h : Apart a b) : w'.ownsRow base e size b n ys :=
  hb.kept hg (by
    cases hbb : b.ownBlock with
    | none => exact .inl rfl
    | some g => exact .inr fun e' => h g e'.symm hbb)
theorem apart_new {w : World} {base : Nat} {e : TypeId} {size n : Nat} {a a' b : Value} {ys : List Value} (hb : w.ownsRow base e size b n ys) (h : Apart a b) (hat : a'.ownBlock = a.ownBlock ∨ a'.ownBlock = some w.heap.size) : Apart a' b := by
  intro g hg hb'
  rcases hat with h1 | h1
  · exact h g (h1 ▸ hg) hb'
  · rw [h1] at hg
    injection hg with hg
    have := (hb.lt g hb').2
    omega
/-- a row that was made later is none that lay there -/
theorem apart_late {w w1 : World} {base : Nat} {e e' : TypeId} {size size' n n' : Nat} {a v : Value} {xs ys : List Value} (ha : w.ownsRow base e size a n xs) (hv : w1.ownsRow w.heap.size e' size' v n' ys) : Apart a v := fun g h1 h2 => by
  have := (ha.lt g h1).2
  have := (hv.lt g h2).1
  omega

section
variable {wr w1 w2 : World} {B s n : Nat} {e : TypeId} {a a' c : Value} {xs : List Value}
/-- row a grows: what was read stays -/
theorem stay_app (ha : wr.ownsRow B e s a n xs) (hb : Below wr.heap.size wr w1) (hg : w1.grownBy w2 a.ownBlock) (hat : a'.ownBlock = a.ownBlock ∨ a'.ownBlock = some w1.heap.size)
    {bad bad1 : Nat → Prop} (h0 : ∀ k, a.ownBlock = some k ∨ c.ownBlock = some k → bad k) (h1 : ∀ k, bad1 k → a'.ownBlock = some k ∨ c.ownBlock = some k) {P : World → Prop} (h : Stays wr bad P) : Stays w2 bad1 P := by
  have _ := ha
  refine h.step (Nat.le_trans hb.size hg.size) (fun k hk hn => ?_) (fun k hk hb1 => ?_)
  · exact (hg.block k (Nat.lt_of_lt_of_le hk hb.size) (fun e' => hn (h0 k (.inl e'.symm)))).trans (hb.block k hk)
  · rcases h1 k hb1 with h2 | h2
    · rcases hat with e1 | e1
      · exact h0 k (.inl (e1 ▸ h2))
      · rw [e1] at h2
        injection h2 with h2
        have := hb.size
        omega
    · exact h0 k (.inr h2)
/-- row a grows: a row that was made meanwhile stays -/
theorem stay_new (ha : wr.ownsRow B e s a n xs) {B' s' m : Nat} {e' : TypeId} {ys : List Value} (hc : wr.ownsRow B' e' s' c m ys) (hb : Below wr.heap.size wr w1) (hg : w1.grownBy w2 a.ownBlock) (hat : a'.ownBlock = a.ownBlock ∨ a'.ownBlock = some w1.heap.size)
    {bad1 : Nat → Prop} (h1 : ∀ k, bad1 k → a'.ownBlock = some k ∨ c.ownBlock = some k) {e2 : TypeId} {s2 n2 : Nat} {v : Value} {zs : List Value} (hv : w1.ownsRow wr.heap.size e2 s2 v n2 zs) : Stays w2 bad1 fun w' => w'.ownsRow wr.heap.size e2 s2 v n2 zs := by
  have _ := hb
  refine Stays.own (far_row hv hg (apart_late ha hv)) fun k hk hbk => ?_
  have hv' := hv.lt k hk
  rcases h1 k hbk with h2 | h2
  · rcases hat with e1 | e1
    · have := (ha.lt k (e1 ▸ h2)).2
      omega
    · rw [e1] at h2
      injection h2 with h2
      omega
  · have := (hc.lt k h2).2
    omega
end
theorem ret_out {wr w' : World} {B m : Nat} {vo : Value} {co : List Value} {out : List (List Rec)} {bad : Nat → Prop} {e : TypeId} (hco : wr.ownsRow B e 1 vo m co) (hso : Stays wr bad fun w' => OutC w' co out) (hb : Below wr.heap.size wr w') : SliceOf 1 (rSlice 3 rOp) w' vo out := by
  have h := hso w' hb.size (fun k hk _ => hb.block k hk)
  exact slice_of_own (own_ext hco hb) (by have := hco.1; have := h.1; omega) h.2
theorem own_zero (w : World) (base : Nat) : w.ownsRow base 5 1 (.slice none 0 0) 0 (bv []) := ⟨rfl, .inl ⟨rfl, rfl⟩⟩
end Go.Mun

-- RpRead
namespace Go.Mun
open Go Go.RowKit Go.Proofs

set_option maxRecDepth 100000 in
set_option maxHeartbeats 4000000 in
theorem Read_big (v : Value) (b : List UInt8) (w : World) (hbb : Bytes w v b) (hlen : b.length ≤ 890000) :
    Calls Try.prog 30 #[v] w fun e w' => ∃ v', e = .returned (.tuple #[v', .int .i64 ((batches b).2 : Nat)]) ∧ SliceOf 1 (rSlice 3 rOp) w' v' (batches b).1 ∧ Below w.heap.size w w' := by
  obtain ⟨A, n, c, rfl, h1, h2, h3, h4⟩ := id hbb
  obtain ⟨RES, hRES⟩ : ∃ R, R = batches b := ⟨_, rfl⟩
  rw [← hRES]
  have HRES := Lib.hid (show batB b (b.length + 1) 0 0 [] [] = RES from hRES.symm)
  have HBB := Lib.hid hbb
  have HL := Lib.hid h1
  clear hRES h4 hbb
  unfold maxLen at h3
  rw [h1] at hlen
  have hT := bytesTyR
  have hTO := opsTy
  have hTU := outTy
  have hR := recTy
  have zR := zRec_info
  clear h1
  go_enter Try.func30, Try.ntmps30
  go_wp2
  go_loopw [4, 5, 6, 7] (fun vo vl sw sa wr => ∃ (F at_ wh : Nat) (l : List Rec) (out : List (List Rec)) (cl co : List Value), sw = .int .i64 wh ∧ sa = .int .i64 at_ ∧ at_ ≤ n ∧ n < F + at_ ∧ batB b F at_ wh l out = RES ∧ Below w.heap.size w wr ∧
      9 * l.length ≤ at_ ∧ out.length ≤ at_ ∧ wr.ownsRow w.heap.size 32 3 vl l.length cl ∧ Stays wr (Rows2 vl vo) (fun w' => OpsC w' cl l) ∧ wr.ownsRow w.heap.size 33 1 vo out.length co ∧ Stays wr (Rows2 vl vo) (fun w' => OutC w' co out) ∧ Apart vl vo) (fun _ _ _ s _ => n - (RowKit.intOf s).toNat)
  case atStart => exact ⟨n + 1, 0, 0, [], [], [], [], rfl, rfl, Nat.zero_le _, by omega, by rw [← HL.out]; exact HRES.out, Below.refl _ _, Nat.zero_le _, Nat.zero_le _, World.ownsRow_nil _ _ _ _, (fun w' _ _ => OpsC.nil w'), World.ownsRow_nil _ _ _ _, (fun w' _ _ => OutC.nil w'), Apart.nil _⟩
  case round =>
    obtain ⟨F, at_, wh, l, out, cl, co, rfl, rfl, hat, hF, hbat, hBr, hll, hol, hcl, hsl, hco, hso, hap⟩ := hrel
    obtain ⟨F, rfl⟩ : ∃ F', F = F' + 1 := ⟨F - 1, by omega⟩
    have HSL := Lib.hid hsl
    have HSO := Lib.hid hso
    have HAP := Lib.hid hap
    clear hsl hso hap
    obtain ⟨A1, hrun1, hcut1⟩ := cut_l hT A n c (kl := .i64) (lo' := (at_ : Nat)) (lo := at_) rfl hat
    have hby := hcut1 _ _ (HBB.out.ext hBr)
    clear hcut1
    have hok := next_ok (b := b.drop at_)
    unfold batB at hbat
    obtain ⟨⟨x, k, E⟩, hxe⟩ : ∃ x, x = nextB (b.drop at_) := ⟨_, rfl⟩
    have HN := Lib.hid (show nextB (b.drop at_) = (x, k, E) from hxe.symm)
    rw [HN.out] at hbat hok
    simp only at hbat hok
    clear hxe
    rw [List.length_drop, HL.out] at hok
    have tk1 : True := trivial
    go_wp2_with fail
    refine (Next_any _ _ _ hby).mono ?_
    rintro e w8 ⟨hb8, cs8, rfl, hcs8⟩
    rw [HN.out] at hcs8 ⊢
    have hB8 := below_step hBr hb8
    obtain ⟨kv, vv, rfl, hk8, hv8⟩ : RecO _ w8 x cs8 := hcs8
    obtain ⟨AK, cK, rfl⟩ := own_sl hk8
    obtain ⟨AV, cV, rfl⟩ := own_sl hv8
    have arm : True := trivial
    by_cases hE : E = 0
    · subst hE
      obtain ⟨hk9, hkn, hkind⟩ := hok rfl
      rw [if_neg (by decide)] at hbat
      obtain ⟨kind, del, key, value, nn⟩ := x
      simp only at hkind hbat hk8 hv8
      rcases hkind with ⟨rfl, rfl⟩ | ⟨rfl, hn0, hn1⟩
      · rw [if_pos rfl] at hbat
        go_wp2_with (first
          | ((with_reducible refine gd_alloc ?_); have _t := tk1; refine wpList_alloc_blk rfl 97 rfl zR ?_; clear tk1; intro w9 hx9 hb9 hl9)
          | ((with_reducible refine gd_store ?_); refine wpList_store_all rfl 97 (.tmp 8) (.tmp 16) rfl #[.int .i64 1, .bool del, .slice AK key.length cK, .slice AV value.length cV, .int .i64 0] hx9 hR rfl rfl rfl rfl ?_; intro w10 hx10 hg10; have hb10 := below_blk hb9 hb9.size hg10 (Nat.le_refl _); have y0 := hx10.cellv (i := 0) rfl; have y1 := hx10.cellv (i := 1) rfl; have y2 := hx10.cellv (i := 2) rfl; have y3 := hx10.cellv (i := 3) rfl)
          | (refine wpList_row_one rfl (.tmp 31) rfl hTO (by decide) (cs := #[.bool del, .slice AK key.length cK, .slice AV value.length cV]) rfl rfl ?_; intro w11 hx11 hb11 hl11; have hb811 := below_step hb10 hb11; have hbr := below_step hb8 hb811; have hcl11 := own_ext hcl hbr; have hB11 := below_step hBr hbr)
          | (at_builtin; refine wpList_append_rd _ rfl (.tmp 29) (.tmp 32) _ rfl w.heap.size _ _ 3 56 hTO _ _ _ rfl hcl11 (some ⟨w10.heap.size, 0, none⟩) 1 1 (opC ⟨1, del, key, value, 0⟩ (.slice AK key.length cK) (.slice AV value.length cV)) rfl rfl hx11.rd (by intro u hu; simp only [opC, List.mem_cons, List.not_mem_nil, or_false] at hu; rcases hu with rfl | rfl | rfl <;> rfl) (by unfold maxLen; omega) (by omega) hB11.size ?_; intro vl12 w12 hcl12 hg12 hat12)
          | fail)
        have hB12 := below_own hB11 hcl11 (Nat.le_refl _) hg12 hB11.size
        have hco12 := far_row (own_ext hco hbr) hg12 HAP.out
        have hap12 := apart_new (own_ext hco hbr) HAP.out hat12
        have sl := stay_app (c := u4) hcl hbr hg12 hat12 (bad := Rows2 u5 u4) (bad1 := Rows2 vl12 u4) (fun _ h => h) (fun _ h => h) HSL.out
        have so := stay_app (c := u4) hcl hbr hg12 hat12 (bad := Rows2 u5 u4) (bad1 := Rows2 vl12 u4) (fun _ h => h) (fun _ h => h) HSO.out
        have sk := stay_new hcl hco hbr hg12 hat12 (bad1 := Rows2 vl12 u4) (fun _ h => h) (own_ext hk8 hb811)
        have sv := stay_new hcl hco hbr hg12 hat12 (bad1 := Rows2 vl12 u4) (fun _ h => h) (own_ext hv8 hb811)
        have sl2 := ((sl.and sk).and sv).imp (Q := fun w' => OpsC w' (cl ++ opC ⟨1, del, key, value, 0⟩ (.slice AK key.length cK) (.slice AV value.length cV)) (l ++ [⟨1, del, key, value, 0⟩])) fun w' h => h.1.1.more rfl rfl (Bytes.own h.1.2) (Bytes.own h.2)
        go_roundw
        case rel =>
          refine ⟨F, at_ + k, wh, l ++ [⟨1, del, key, value, 0⟩], out, _, co, ?_, ?_, by omega, by omega, hbat, hB12, by simp; omega, by omega, by simpa using hcl12, sl2, hco12, so, hap12⟩ <;> go_num
        case measure => simp [RowKit.intOf]; omega
      · rw [if_neg (by decide)] at hbat
        by_cases hnl : nn = (l.length : Int)
        · rw [if_neg (by rw [hnl]; simp)] at hbat
          obtain ⟨AL, cL, hvl⟩ := own_sl hcl
          subst hvl
          have HAP2 := HAP.out
          have d1 : ((nn : Int) != (l.length : Int)) = false := by rw [bne_eq_false_iff_eq]; exact hnl
          have d2 : decide ((100000 : Int) < (l.length : Int)) = false := decide_eq_false (by omega)
          have d3 : decide (nn = (l.length : Int)) = true := decide_eq_true hnl
          clear hnl
          go_wp2_with (first
            | ((with_reducible refine gd_alloc ?_); have _t := tk1; refine wpList_alloc_blk rfl 97 rfl zR ?_; clear tk1; intro w9 hx9 hb9 hl9)
            | ((with_reducible refine gd_store ?_); refine wpList_store_all rfl 97 (.tmp 8) (.tmp 16) rfl #[.int .i64 2, .bool del, .slice AK key.length cK, .slice AV value.length cV, .int .i64 nn] hx9 hR rfl rfl rfl rfl ?_; intro w10 hx10 hg10; have hb10 := below_blk hb9 hb9.size hg10 (Nat.le_refl _); have y0 := hx10.cellv (i := 0) rfl; have y4 := hx10.cellv (i := 4) rfl)
            | (refine wpList_row_val rfl (.tmp 47) rfl hTU (by decide) rfl rfl ?_; intro w11 hx11 hb11 hl11; have hb811 := below_step hb10 hb11; have hbr := below_step hb8 hb811; have hcl11 := own_ext hcl hbr; have hco11 := own_ext hco hbr; have hB11 := below_step hBr hbr)
            | (at_builtin; refine wpList_append_rd _ rfl (.tmp 46) (.tmp 48) _ rfl w.heap.size _ _ 1 24 hTU _ _ _ rfl hco11 (some ⟨w10.heap.size, 0, none⟩) 1 1 [.slice AL l.length cL] rfl rfl hx11.rd (by intro u hu; rw [List.mem_singleton.1 hu]; rfl) (by unfold maxLen; omega) (by omega) hB11.size ?_; intro vo12 w12 hco12 hg12 hat12)
            | fail)
          have hB12 := below_own hB11 hco11 (Nat.le_refl _) hg12 hB11.size
          have hcl12 := far_row hcl11 hg12 HAP2.symm
          have hap12 := apart_new hcl11 HAP2.symm hat12
          have so := stay_app (c := .slice AL l.length cL) hco hbr hg12 hat12 (bad := Rows2 (.slice AL l.length cL) u4) (bad1 := Rows2 (.slice none 0 0) vo12) (fun _ h => h.symm) (fun _ h => h.elim (fun e => by cases e) .inl) HSO.out
          have sl := stay_app (c := .slice AL l.length cL) hco hbr hg12 hat12 (bad := Rows2 (.slice AL l.length cL) u4) (bad1 := Rows2 (.slice none 0 0) vo12) (fun _ h => h.symm) (fun _ h => h.elim (fun e => by cases e) .inl) HSL.out
          have sr := Stays.own (bad := Rows2 (.slice none 0 0) vo12) hcl12 (fun k hk hb => hb.elim (fun e => by cases e) (fun e => hap12 k e hk))
          have so2 := ((so.and sl).and sr).imp (Q := fun w' => OutC w' (co ++ [.slice AL l.length cL]) (out ++ [l])) fun w' h => h.1.1.more (slice_of_own h.2 rfl h.1.2.2)
          go_roundw
          case rel =>
            refine ⟨F, at_ + k, at_ + k, [], out ++ [l], [], _, ?_, ?_, by omega, by omega, hbat, hB12, by simp, by simp; omega, World.ownsRow_nil _ _ _ _, (fun w' _ _ => OpsC.nil w'), by simpa using hco12, so2, Apart.nil _⟩ <;> go_num
          case measure => simp [RowKit.intOf]; omega
        · rw [if_pos hnl] at hbat
          obtain ⟨AL, cL, hvl⟩ := own_sl hcl
          subst hvl
          have d1 : ((nn : Int) != (l.length : Int)) = true := by rw [bne_iff_ne]; exact hnl
          have d3 : decide (nn = (l.length : Int)) = false := decide_eq_false hnl
          go_wp2_with (first
            | ((with_reducible refine gd_alloc ?_); have _t := tk1; refine wpList_alloc_blk rfl 97 rfl zR ?_; clear tk1; intro w9 hx9 hb9 hl9)
            | ((with_reducible refine gd_store ?_); refine wpList_store_all rfl 97 (.tmp 8) (.tmp 16) rfl #[.int .i64 2, .bool del, .slice AK key.length cK, .slice AV value.length cV, .int .i64 nn] hx9 hR rfl rfl rfl rfl ?_; intro w10 hx10 hg10; have hb10 := below_blk hb9 hb9.size hg10 (Nat.le_refl _); have y0 := hx10.cellv (i := 0) rfl; have y4 := hx10.cellv (i := 4) rfl)
            | fail)
          subst hbat
          go_ret2
          have hbr := below_step hb8 hb10
          exact ⟨_, rfl, ret_out hco HSO.out hbr, below_step hBr hbr⟩
    · have hEb : (E != 0) = true := by rw [bne_iff_ne]; exact hE
      have hEd : decide (E = 0) = false := decide_eq_false hE
      rw [if_pos hE] at hbat
      go_wp2_with (first
          | ((with_reducible refine gd_alloc ?_); have _t := tk1; refine wpList_alloc_blk rfl 97 rfl zR ?_; clear tk1; intro w9 hx9 hb9 hl9)
          | ((with_reducible refine gd_store ?_); refine wpList_store_all rfl 97 (.tmp 8) (.tmp 16) rfl #[.int .i64 x.kind, .bool x.del, .slice AK x.key.length cK, .slice AV x.value.length cV, .int .i64 x.n] hx9 hR rfl rfl rfl rfl ?_; intro w10 hx10 hg10; have hb10 := below_blk hb9 hb9.size hg10 (Nat.le_refl _))
          | fail)
      subst hbat
      go_ret2
      have hbr := below_step hb8 hb10
      exact ⟨_, rfl, ret_out hco HSO.out hbr, below_step hBr hbr⟩
theorem Read_any (v : Value) (b : List UInt8) (w : World) (hbb : Bytes w v b) (hlen : b.length ≤ 800000) :
    Calls Try.prog 30 #[v] w fun e w' => ∃ v', e = .returned (.tuple #[v', .int .i64 ((batches b).2 : Nat)]) ∧ SliceOf 1 (rSlice 3 rOp) w' v' (batches b).1 ∧ Below w.heap.size w w' := Read_big v b w hbb (by omega)
end Go.Mun

-- RpSame
namespace Go.Mun
open Go Go.RowKit Go.Proofs

theorem below_drew {B : Nat} {w0 w : World} (h : Below B w0 w) : Below B w0 w.drew := h.drew
theorem cell_drew {w : World} {a : Addr} {v : Value} (h : w.cell? a = some v) : w.drew.cell? a = some v := h
/-- the same changes, as the document compares them -/
def sameOp (x y : Rec) : Bool := x.del == y.del && (decide (x.key = y.key) && (x.del || decide (x.value = y.value)))
def SameL (l m : List Rec) : Prop := l.length = m.length ∧ ∀ (k : Nat) (x y : Rec), l[k]? = some x → m[k]? = some y → sameOp x y = true
def SameLL (l m : List (List Rec)) : Prop := l.length = m.length ∧ ∀ (k : Nat) (x y : List Rec), l[k]? = some x → m[k]? = some y → SameL x y
theorem sameOp_self (x : Rec) : sameOp x x = true := by simp [sameOp]
theorem SameL.refl (l : List Rec) : SameL l l := ⟨rfl, fun k x y h1 h2 => by rw [h1] at h2; injection h2 with h2; rw [h2]; exact sameOp_self y⟩
theorem SameLL.refl (l : List (List Rec)) : SameLL l l := ⟨rfl, fun k x y h1 h2 => by rw [h1] at h2; injection h2 with h2; rw [h2]; exact SameL.refl y⟩
theorem rOp_stays : rOp.Stays := fun w w' cs r hb h hl => by
  obtain ⟨kv, vv, h1, h2, h3, h4, h5⟩ := h hl
  exact ⟨kv, vv, h1, h2, h3, h4.ext hb, h5.ext hb⟩
/-- the same, with the change itself -/
theorem op_at' {w w' : World} {A : Option Addr} {n : Nat} {xs : List Value} {rs : List Rec} (hr : Rd w' A xs) (hl : rs.length = n) (hx : xs.length = n * 3) (hb : ∀ i (h : i < rs.length), rOp w (chunk xs 3 i) rs[i]) {k : Nat} (hk : k < n) :
    ∃ (ad : Addr) (r : Rec) (kv vv : Value), A = some ad ∧ w'.cell? (ad.add (k * 3)) = some (.bool r.del) ∧ w'.cell? ⟨(ad.add (k * 3)).block, (ad.add (k * 3)).off + 1, none⟩ = some kv ∧ w'.cell? ⟨(ad.add (k * 3)).block, (ad.add (k * 3)).off + 2, none⟩ = some vv ∧
      rs[k]? = some r ∧ Bytes w kv r.key ∧ Bytes w vv r.value := by
  have hc : (chunk xs 3 k).length = 3 := by unfold chunk; rw [List.length_take, List.length_drop]; omega
  obtain ⟨kv, vv, e, h1, h2, h3, h4⟩ := hb k (by omega) hc
  have hg : ∀ j, j < 3 → xs[k * 3 + j]? = (chunk xs 3 k)[j]? := fun j hj => by
    unfold chunk
    rw [List.getElem?_take, if_pos hj, List.getElem?_drop]
  obtain ⟨ad, rfl, c0⟩ := hr (k * 3) _ (by have := hg 0 (by omega); rw [Nat.add_zero] at this; rw [this, e]; rfl)
  obtain ⟨ad', e1, c1⟩ := hr (k * 3 + 1) kv (by rw [hg 1 (by omega), e]; rfl)
  obtain ⟨ad'', e2, c2⟩ := hr (k * 3 + 2) vv (by rw [hg 2 (by omega), e]; rfl)
  injection e1 with e1
  injection e2 with e2
  subst e1 e2
  rw [add_beside _ _ (by omega)] at c1 c2
  exact ⟨_, rs[k], kv, vv, rfl, c0, c1, c2, List.getElem?_eq_getElem (by omega), h3, h4⟩
theorem out_at {w w' : World} {A : Option Addr} {n : Nat} {xs : List Value} {ls : List (List Rec)} (hr : Rd w' A xs) (hl : ls.length = n) (hx : xs.length = n * 1) (hb : ∀ i (h : i < ls.length), rSlice 3 rOp w (chunk xs 1 i) ls[i]) {k : Nat} (hk : k < n) :
    ∃ (ad : Addr) (v : Value) (l : List Rec), A = some ad ∧ w'.cell? (ad.add k) = some v ∧ ls[k]? = some l ∧ SliceOf 3 rOp w v l := by
  obtain ⟨v, e, h⟩ := hb k (by omega)
  have hg : xs[k]? = some v := by
    have : (chunk xs 1 k)[0]? = some v := by rw [e]; rfl
    unfold chunk at this
    rwa [List.getElem?_take, if_pos (by omega), List.getElem?_drop, Nat.mul_one, Nat.add_zero] at this
  obtain ⟨ad, rfl, c0⟩ := hr k v hg
  exact ⟨ad, v, ls[k], rfl, c0, List.getElem?_eq_getElem (by omega), h⟩

/-- what each operation of the region writes -/
def SSO (ad1 ad2 : Addr) (n c1 c2 k : Nat) (x1 x2 : Value) : Nat → Value → World → Prop
  | 0, v, _ => v = .slice (some ad1) n c1
  | 1, v, _ => v = .int .i64 (k : Nat)
  | 2, v, _ => v = .pointer (some (ad1.add (k * 3)))
  | 3, v, _ => v = x1
  | 4, v, _ => v = .slice (some ad2) n c2
  | 5, v, _ => v = .int .i64 (k : Nat)
  | 6, v, _ => v = .pointer (some (ad2.add (k * 3)))
  | 7, v, _ => v = x2
  | 8, v, _ => v = .bool true
  | _, v, _ => v = .bool false
theorem SSO_stays (ad1 ad2 : Addr) (n c1 c2 k : Nat) (x1 x2 : Value) : ∀ i v (wa wb : World), Below wa.heap.size wa wb → SSO ad1 ad2 n c1 c2 k x1 x2 i v wa → SSO ad1 ad2 n c1 c2 k x1 x2 i v wb
  | 0, _, _, _, _, h => h
  | 1, _, _, _, _, h => h
  | 2, _, _, _, _, h => h
  | 3, _, _, _, _, h => h
  | 4, _, _, _, _, h => h
  | 5, _, _, _, _, h => h
  | 6, _, _, _, _, h => h
  | 7, _, _, _, _, h => h
  | 8, _, _, _, _, h => h
  | _ + 9, _, _, _, _, h => h
/-- what each operation of the region writes -/
def SBA (ad1 ad2 : Addr) (n c1 c2 k : Nat) (x1 x2 : Value) : Nat → Value → World → Prop
  | 0, v, _ => v = .slice (some ad1) n c1
  | 1, v, _ => v = .int .i64 (k : Nat)
  | 2, v, _ => v = .pointer (some (ad1.add k))
  | 3, v, _ => v = x1
  | 4, v, _ => v = .slice (some ad2) n c2
  | 5, v, _ => v = .int .i64 (k : Nat)
  | 6, v, _ => v = .pointer (some (ad2.add k))
  | 7, v, _ => v = x2
  | 8, v, _ => v = .bool true
  | _, v, _ => v = .bool false
theorem SBA_stays (ad1 ad2 : Addr) (n c1 c2 k : Nat) (x1 x2 : Value) : ∀ i v (wa wb : World), Below wa.heap.size wa wb → SBA ad1 ad2 n c1 c2 k x1 x2 i v wa → SBA ad1 ad2 n c1 c2 k x1 x2 i v wb
  | 0, _, _, _, _, h => h
  | 1, _, _, _, _, h => h
  | 2, _, _, _, _, h => h
  | 3, _, _, _, _, h => h
  | 4, _, _, _, _, h => h
  | 5, _, _, _, _, h => h
  | 6, _, _, _, _, h => h
  | 7, _, _, _, _, h => h
  | 8, _, _, _, _, h => h
  | _ + 9, _, _, _, _, h => h

end Go.Mun

-- RpPure
namespace Go.Mun
open Go Go.RowKit Go.Proofs

/-- the reading without a bound on its rounds -/
def bat (b : List UInt8) (at_ wh : Nat) (l : List Rec) (out : List (List Rec)) : List (List Rec) × Nat := batB b (b.length + 1) at_ wh l out
theorem batB_fuel (b : List UInt8) : ∀ (F F' at_ wh : Nat) (l : List Rec) (out : List (List Rec)), b.length < F + at_ → b.length < F' + at_ → at_ ≤ b.length → batB b F at_ wh l out = batB b F' at_ wh l out := by
  intro F
  induction F with
  | zero => intro F' at_ wh l out h _ h2; omega
  | succ F ih =>
    intro F' at_ wh l out h1 h2 h3
    cases F' with
    | zero => omega
    | succ F' =>
      unfold batB
      by_cases hE : (nextB (b.drop at_)).2.2 = 0
      · have hok := next_ok hE
        rw [List.length_drop] at hok
        have hE' : ¬ (nextB (b.drop at_)).2.2 ≠ 0 := by simpa using hE
        rw [if_neg hE', if_neg hE']
        by_cases hk : (nextB (b.drop at_)).1.kind = 1
        · rw [if_pos hk, if_pos hk]
          exact ih _ _ _ _ _ (by omega) (by omega) (by omega)
        · rw [if_neg hk, if_neg hk]
          by_cases hn : (nextB (b.drop at_)).1.n = (l.length : Int)
          · have hn' : ¬ (nextB (b.drop at_)).1.n ≠ (l.length : Int) := by simpa using hn
            rw [if_neg hn', if_neg hn']
            exact ih _ _ _ _ _ (by omega) (by omega) (by omega)
          · rw [if_pos hn, if_pos hn]
      · rw [if_pos hE, if_pos hE]
theorem bat_err {b : List UInt8} {at_ wh : Nat} {l : List Rec} {out : List (List Rec)} {x : Rec} {k : Nat} {E : Int} (h : nextB (b.drop at_) = (x, k, E)) (hE : E ≠ 0) : bat b at_ wh l out = (out, wh) := by
  unfold bat batB
  rw [h, if_pos hE]
theorem bat_op {b : List UInt8} {at_ wh : Nat} {l : List Rec} {out : List (List Rec)} {x : Rec} {k : Nat} (hat : at_ ≤ b.length) (h : nextB (b.drop at_) = (x, k, 0)) (hk : x.kind = 1) : bat b at_ wh l out = bat b (at_ + k) wh (l ++ [x]) out := by
  have hok := next_ok (b := b.drop at_) (by rw [h])
  rw [h, List.length_drop] at hok
  simp only at hok
  unfold bat
  conv => lhs; unfold batB
  rw [h, if_neg (by simp), if_pos hk]
  show batB b b.length (at_ + k) wh (l ++ [x]) out = _
  exact batB_fuel b _ _ _ _ _ _ (by omega) (by omega) (by omega)
theorem bat_end {b : List UInt8} {at_ wh : Nat} {l : List Rec} {out : List (List Rec)} {x : Rec} {k : Nat} (hat : at_ ≤ b.length) (h : nextB (b.drop at_) = (x, k, 0)) (hk : x.kind ≠ 1) (hn : x.n = (l.length : Int)) : bat b at_ wh l out = bat b (at_ + k) (at_ + k) [] (out ++ [l]) := by
  have hok := next_ok (b := b.drop at_) (by rw [h])
  rw [h, List.length_drop] at hok
  simp only at hok
  unfold bat
  conv => lhs; unfold batB
  rw [h, if_neg (by simp), if_neg hk, if_neg (by simpa using hn)]
  show batB b b.length (at_ + k) (at_ + k) [] (out ++ [l]) = _
  exact batB_fuel b _ _ _ _ _ _ (by omega) (by omega) (by omega)
theorem bat_odd {b : List UInt8} {at_ wh : Nat} {l : List Rec} {out : List (List Rec)} {x : Rec} {k : Nat} (h : nextB (b.drop at_) = (x, k, 0)) (hk : x.kind ≠ 1) (hn : x.n ≠ (l.length : Int)) : bat b at_ wh l out = (out, wh) := by
  unfold bat batB
  rw [h, if_neg (by simp), if_neg hk, if_pos hn]

/-- changes that may be packed -/
structure OpOk (r : Rec) : Prop where
  kind : r.kind = 1
  n : r.n = 0
  key : r.key.length ≤ 300
  value : r.value.length ≤ 300
theorem OpOk.isEnd {r : Rec} (h : OpOk r) : r.isEnd = false := by unfold Rec.isEnd; rw [h.kind]; simp
theorem OpOk.err {r : Rec} (h : OpOk r) : r.err = 0 := err_fits h.isEnd h.kind (by have := h.key; have := h.value; omega)
theorem OpOk.len {r : Rec} (h : OpOk r) : r.bytes.length ≤ 700 := by
  have h1 := h.key
  have h2 := h.value
  have h3 := h.isEnd
  have h4 := h.kind
  obtain ⟨kind, del, key, value, n⟩ := r
  simp only at h1 h2 h4
  subst h4
  rw [bytes_length, body_change h3]
  simp only [List.length_append, fourB_length]
  cases del <;> simp <;> omega
theorem OpOk.norm {r : Rec} (h : OpOk r) : r.norm = ⟨1, r.del, r.key, if r.del then [] else r.value, 0⟩ := by unfold Rec.norm; rw [h.isEnd]; rfl
theorem OpOk.same {r : Rec} (h : OpOk r) : sameOp r.norm r = true := by
  rw [h.norm]
  unfold sameOp
  cases r.del <;> simp
def SmallL (l : List Rec) : Prop := l.length ≤ 60 ∧ ∀ r ∈ l, OpOk r
def opsB (l : List Rec) : List UInt8 := l.flatMap fun r => r.bytes
def endR (n : Nat) : Rec := ⟨2, false, [], [], n⟩
def batchB (l : List Rec) : List UInt8 := opsB l ++ (endR l.length).bytes
def normL (l : List Rec) : List Rec := l.map Rec.norm
theorem opsB_append (l m : List Rec) : opsB (l ++ m) = opsB l ++ opsB m := by simp [opsB]
theorem opsB_cons (r : Rec) (l : List Rec) : opsB (r :: l) = r.bytes ++ opsB l := rfl
theorem opsB_bd {l : List Rec} (h : ∀ r ∈ l, OpOk r) : (opsB l).length ≤ 700 * l.length := by
  induction l with
  | nil => exact Nat.zero_le _
  | cons r l ih =>
    rw [opsB_cons, List.length_append, List.length_cons]
    have h1 := (h r (by simp)).len
    have h2 := ih fun y hy => h y (by simp [hy])
    omega
theorem endR_err {n : Nat} (h : n ≤ 2147483647) : (endR n).err = 0 := err_end _ _ _ _ (by omega) (by omega)
theorem endR_norm {n : Nat} (h : n ≤ 2147483647) : (endR n).norm = endR n := by
  have he : (endR n).isEnd = true := by unfold Rec.isEnd endR; simp; omega
  unfold Rec.norm
  rw [he, if_pos rfl]
  rfl
theorem endR_len {n : Nat} (h : n ≤ 2147483647) : (endR n).bytes.length = 13 := by
  rw [bytes_length, show (endR n).body = _ from body_end _ _ _ _ (by omega) (by omega)]
  simp [fourB_length]
theorem batchB_bd {l : List Rec} (h : SmallL l) : (batchB l).length ≤ 42013 := by
  unfold batchB
  rw [List.length_append, endR_len (by have := h.1; omega)]
  have := opsB_bd h.2
  have := h.1
  omega
theorem normL_same {l : List Rec} (h : ∀ r ∈ l, OpOk r) : SameL (normL l) l := by
  refine ⟨by simp [normL], fun k x y h1 h2 => ?_⟩
  unfold normL at h1
  rw [List.getElem?_map, h2] at h1
  injection h1 with h1
  subst h1
  exact (h y (List.mem_of_getElem? h2)).same

theorem bat_ops {b : List UInt8} (wh : Nat) (out : List (List Rec)) : ∀ (l : List Rec) (at_ : Nat) (acc : List Rec) (rest : List UInt8), (∀ r ∈ l, OpOk r) → at_ ≤ b.length → b.drop at_ = opsB l ++ rest →
    bat b at_ wh acc out = bat b (at_ + (opsB l).length) wh (acc ++ normL l) out ∧ at_ + (opsB l).length ≤ b.length ∧ b.drop (at_ + (opsB l).length) = rest := by
  intro l
  induction l with
  | nil => intro at_ acc rest _ hat h; simp [opsB, normL] at h ⊢; exact ⟨hat, h⟩
  | cons r l ih =>
    intro at_ acc rest hok hat h
    rw [opsB_cons, List.append_assoc] at h
    have hr := hok r (by simp)
    have hn : nextB (b.drop at_) = (r.norm, r.bytes.length, 0) := by rw [h]; exact next_pack hr.err _
    have hlen : at_ + r.bytes.length ≤ b.length := by
      have := congrArg List.length h
      rw [List.length_drop, List.length_append] at this
      omega
    have hd : b.drop (at_ + r.bytes.length) = opsB l ++ rest := by rw [← List.drop_drop, h, List.drop_left]
    obtain ⟨h1, h2, h3⟩ := ih (at_ + r.bytes.length) (acc ++ [r.norm]) rest (fun y hy => hok y (by simp [hy])) hlen hd
    rw [bat_op hat hn (by rw [hr.norm]), h1, opsB_cons, List.length_append, ← Nat.add_assoc]
    refine ⟨by simp [normL], h2, h3⟩
theorem bat_batch {b : List UInt8} (wh : Nat) (out : List (List Rec)) (l : List Rec) (at_ : Nat) (rest : List UInt8) (hl : SmallL l) (hat : at_ ≤ b.length) (h : b.drop at_ = batchB l ++ rest) :
    bat b at_ wh [] out = bat b (at_ + (batchB l).length) (at_ + (batchB l).length) [] (out ++ [normL l]) ∧ at_ + (batchB l).length ≤ b.length ∧ b.drop (at_ + (batchB l).length) = rest := by
  unfold batchB at h
  rw [List.append_assoc] at h
  have h60 := hl.1
  obtain ⟨h1, h2, h3⟩ := bat_ops wh out l at_ [] _ hl.2 hat h
  have hn : nextB (b.drop (at_ + (opsB l).length)) = (endR l.length, (endR l.length).bytes.length, 0) := by
    rw [h3, next_pack (endR_err (by omega)) _, endR_norm (by omega)]
  have hlen : at_ + (opsB l).length + (endR l.length).bytes.length ≤ b.length := by
    have := congrArg List.length h3
    rw [List.length_drop, List.length_append] at this
    omega
  rw [h1, List.nil_append, bat_end h2 hn (by decide : (2 : Int) ≠ 1) (by simp [normL, endR])]
  unfold batchB
  rw [List.length_append, ← Nat.add_assoc]
  exact ⟨rfl, hlen, by rw [← List.drop_drop, h3, List.drop_left]⟩
def allBB (LL : List (List Rec)) : List UInt8 := LL.flatMap batchB
theorem allBB_append (L M : List (List Rec)) : allBB (L ++ M) = allBB L ++ allBB M := by simp [allBB]
theorem bat_all {b : List UInt8} : ∀ (LL : List (List Rec)) (at_ : Nat) (out : List (List Rec)) (rest : List UInt8), (∀ l ∈ LL, SmallL l) → at_ ≤ b.length → b.drop at_ = allBB LL ++ rest →
    bat b at_ at_ [] out = bat b (at_ + (allBB LL).length) (at_ + (allBB LL).length) [] (out ++ LL.map normL) ∧ at_ + (allBB LL).length ≤ b.length ∧ b.drop (at_ + (allBB LL).length) = rest := by
  intro LL
  induction LL with
  | nil => intro at_ out rest _ hat h; simp [allBB] at h ⊢; exact ⟨hat, h⟩
  | cons l LL ih =>
    intro at_ out rest hs hat h
    have e : allBB (l :: LL) = batchB l ++ allBB LL := rfl
    rw [e, List.append_assoc] at h
    obtain ⟨h1, h2, h3⟩ := bat_batch at_ out l at_ _ (hs l (by simp)) hat h
    obtain ⟨h4, h5, h6⟩ := ih (at_ + (batchB l).length) (out ++ [normL l]) rest (fun y hy => hs y (by simp [hy])) h2 h3
    rw [h1, h4, e, List.length_append, ← Nat.add_assoc]
    exact ⟨by simp, h5, h6⟩
/-- a batch that is torn is none -/
theorem bat_torn_ops {b : List UInt8} (wh : Nat) (out : List (List Rec)) (n : Nat) (hn : n ≤ 2147483647) : ∀ (l : List Rec) (at_ : Nat) (acc : List Rec) (c : Nat), (∀ r ∈ l, OpOk r) → at_ ≤ b.length → c < (opsB l ++ (endR n).bytes).length →
    b.drop at_ = (opsB l ++ (endR n).bytes).take c → bat b at_ wh acc out = (out, wh) := by
  intro l
  induction l with
  | nil =>
    intro at_ acc c _ hat hc h
    have e : opsB [] ++ (endR n).bytes = (endR n).bytes := rfl
    rw [e] at hc h
    refine bat_err (x := .zero) (k := 0) (E := 6) ?_ (by decide)
    rw [h]
    exact next_short (endR_err hn) hc
  | cons r l ih =>
    intro at_ acc c hok hat hc h
    have hr := hok r (by simp)
    rw [opsB_cons, List.append_assoc] at hc h
    by_cases hlt : c < r.bytes.length
    · refine bat_err (x := .zero) (k := 0) (E := 6) ?_ (by decide)
      rw [h, List.take_append_of_le_length (by omega)]
      exact next_short hr.err hlt
    · have h' : b.drop at_ = r.bytes ++ (opsB l ++ (endR n).bytes).take (c - r.bytes.length) := by
        rw [h, List.take_append, List.take_of_length_le (by omega)]
      have hnx : nextB (b.drop at_) = (r.norm, r.bytes.length, 0) := by rw [h']; exact next_pack hr.err _
      have hlen : at_ + r.bytes.length ≤ b.length := by
        have := congrArg List.length h'
        rw [List.length_drop, List.length_append] at this
        omega
      rw [bat_op hat hnx (by rw [hr.norm])]
      refine ih (at_ + r.bytes.length) _ (c - r.bytes.length) (fun y hy => hok y (by simp [hy])) hlen (by rw [List.length_append] at hc; omega) ?_
      rw [← List.drop_drop, h', List.drop_left]
theorem bat_none {b : List UInt8} {at_ wh : Nat} {l : List Rec} {out : List (List Rec)} (h : b.drop at_ = []) : bat b at_ wh l out = (out, wh) := bat_err (x := .zero) (k := 0) (E := 6) (by rw [h]; exact next_nil) (by decide)
end Go.Mun

-- NetPlain
namespace Go.Mun
open Go Go.RowKit Go.Proofs

/-- what a change leaves at its key -/
def Rec.left (o : Rec) : Option (List UInt8) := if o.del = true then none else some o.value
/-- what changes make of pairs -/
def doneP (S : PL (List UInt8)) (l : List Rec) : PL (List UInt8) := l.foldl (fun P o => setP P o.key o.left) S
def liveP (LL : List (List Rec)) : PL (List UInt8) := LL.foldl doneP []
/-- the last change of each key -/
def netP (l : List Rec) : PL Rec := l.foldl (fun P o => setP P o.key (some o)) []
/-- as 'Net' tells it -/
def Rec.bare (o : Rec) : Rec := ⟨1, o.del, o.key, if o.del = true then [] else o.value, 0⟩
def netL (l : List Rec) : List Rec := (netP l).map fun p => p.2.bare
theorem bare_left (o : Rec) : o.bare.left = o.left := by
  unfold Rec.bare Rec.left
  cases h : o.del <;> simp
theorem bare_key (o : Rec) : o.bare.key = o.key := rfl
theorem doneP_rises {S : PL (List UInt8)} (l : List Rec) (h : Rises S) : Rises (doneP S l) := by
  unfold doneP
  induction l generalizing S with
  | nil => exact h
  | cons o l ih => exact ih (h.set _ _)
theorem doneP_append (S : PL (List UInt8)) (l m : List Rec) : doneP S (l ++ m) = doneP (doneP S l) m := by unfold doneP; rw [List.foldl_append]
theorem liveP_rises (LL : List (List Rec)) : Rises (liveP LL) := by
  have : ∀ (S : PL (List UInt8)), Rises S → Rises (LL.foldl doneP S) := by
    induction LL with
    | nil => exact fun S h => h
    | cons l LL ih => exact fun S h => ih _ (doneP_rises l h)
  exact this [] List.Pairwise.nil
/-- the last change at a key -/
def lastR (l : List Rec) (k : Ky) : Option Rec := l.foldl (fun a o => if o.key = k then some o else a) none
theorem lastR_from (l : List Rec) (k : Ky) (a : Option Rec) : l.foldl (fun a o => if o.key = k then some o else a) a = (lastR l k).or a := by
  unfold lastR
  induction l generalizing a with
  | nil => rfl
  | cons o l ih =>
    rw [List.foldl_cons, List.foldl_cons, ih]
    rw [ih (if o.key = k then some o else none)]
    by_cases h : o.key = k
    · rw [if_pos h, if_pos h]
      cases List.foldl (fun a o => if o.key = k then some o else a) none l <;> rfl
    · rw [if_neg h, if_neg h]
      cases List.foldl (fun a o => if o.key = k then some o else a) none l <;> rfl
theorem lastR_cons (o : Rec) (l : List Rec) (k : Ky) : lastR (o :: l) k = (lastR l k).or (if o.key = k then some o else none) := lastR_from l k _
theorem getP_done (S : PL (List UInt8)) (l : List Rec) (k : Ky) : getP (doneP S l) k = match lastR l k with | some o => o.left | none => getP S k := by
  induction l generalizing S with
  | nil => rfl
  | cons o l ih =>
    show getP (doneP (setP S o.key o.left) l) k = _
    rw [ih, lastR_cons, getP_set]
    cases lastR l k with
    | some x => rfl
    | none =>
      by_cases h : o.key = k
      · rw [if_pos h, if_pos h.symm]
        rfl
      · rw [if_neg h, if_neg (fun e => h e.symm)]
        rfl
theorem getP_netFrom (S : PL Rec) (l : List Rec) (k : Ky) : getP (l.foldl (fun P o => setP P o.key (some o)) S) k = (lastR l k).or (getP S k) := by
  induction l generalizing S with
  | nil => rfl
  | cons o l ih =>
    rw [List.foldl_cons, ih, lastR_cons, getP_set]
    by_cases h : o.key = k
    · rw [if_pos h, if_pos h.symm]
      cases lastR l k <;> rfl
    · rw [if_neg h, if_neg (fun e => h e.symm)]
      cases lastR l k <;> rfl
theorem getP_net (l : List Rec) (k : Ky) : getP (netP l) k = lastR l k := by
  unfold netP
  rw [getP_netFrom]
  cases lastR l k <;> rfl
theorem netP_rises (l : List Rec) : Rises (netP l) := by
  have : ∀ (S : PL Rec), Rises S → Rises (l.foldl (fun P o => setP P o.key (some o)) S) := by
    induction l with
    | nil => exact fun S h => h
    | cons o l ih => exact fun S h => ih _ (h.set _ _)
  exact this [] List.Pairwise.nil
theorem lastR_key {l : List Rec} {k : Ky} {o : Rec} (h : lastR l k = some o) : o.key = k ∧ o ∈ l := by
  induction l with
  | nil => cases h
  | cons x l ih =>
    rw [lastR_cons] at h
    cases hl : lastR l k with
    | some y =>
      rw [hl] at h
      have := ih (hl.trans h)
      exact ⟨this.1, List.mem_cons_of_mem _ this.2⟩
    | none =>
      rw [hl] at h
      by_cases hx : x.key = k
      · rw [if_pos hx] at h
        injection h with h
        subst h
        exact ⟨hx, List.mem_cons_self⟩
      · rw [if_neg hx] at h
        cases h
theorem netP_mem {l : List Rec} {p : Ky × Rec} (h : p ∈ netP l) : p.2.key = p.1 ∧ p.2 ∈ l := by
  have h1 := getP_at (netP_rises l) h
  rw [getP_net] at h1
  exact lastR_key h1
/-- of pairs that rise: the change at a key -/
theorem lastR_of {P : PL Rec} (hP : Rises P) (hk : ∀ p ∈ P, p.2.key = p.1) (k : Ky) : lastR (P.map fun p => p.2.bare) k = (getP P k).map Rec.bare := by
  induction P with
  | nil => rfl
  | cons p P ih =>
    unfold Rises at hP
    rw [List.pairwise_cons] at hP
    rw [List.map_cons, lastR_cons, ih hP.2 (fun q hq => hk q (by simp [hq])), bare_key, hk p (by simp)]
    by_cases h : p.1 = k
    · subst h
      rw [if_pos rfl, getP_head, getP_none (fun q hq e => ltB_ne (hP.1 q hq) e.symm)]
      rfl
    · rw [if_neg h, getP_tail h]
      cases getP P k <;> rfl
/-- of changes those that are left come to the same pairs -/
theorem done_net {S : PL (List UInt8)} (hS : Rises S) (l : List Rec) : doneP S (netL l) = doneP S l := by
  refine rises_ext (doneP_rises _ hS) (doneP_rises _ hS) fun k => ?_
  rw [getP_done, getP_done]
  have e : lastR (netL l) k = (lastR l k).map Rec.bare := by
    unfold netL
    rw [lastR_of (netP_rises l) (fun p hp => (netP_mem hp).1), getP_net]
  rw [e]
  cases lastR l k with
  | none => rfl
  | some o => exact bare_left o
end Go.Mun

-- MapV
namespace Go.Mun
open Go Go.RowKit Go.Proofs Go.Maps

section
variable {α : Type}
set_option maxRecDepth 100000 in
set_option maxHeartbeats 1000000 in
theorem rising_any (w : World) (b N : Nat) (T : PL (Value × α)) (h : MapV w b T N) (hT : Rises T) (hn : T.length ≤ 100000) :
    Calls Try.prog 46 #[.map (some b)] w fun e w' => ∃ v, e = .returned v ∧ w'.ownsRow w.heap.size 9 1 v T.length (T.map fun p => strV p.1) ∧ Below w.heap.size w w' := by
  have CK := Lib.hid (fun mb W => callsIn_wide.1 (Try.maps_Keys_54 mb W))
  have CS := Lib.hid (callsIn_wide.1 (Try.slices_Sorted_keys_51_54 b N (encM T) RV w h (by rw [enc_size]; unfold maxLen; omega) (by rw [enc_size]; omega)))
  have hz : w.heap.size < (w.alloc (.cells #[.map (some b)] 69)).heap.size := by simp
  go_enter Try.func46, Try.ntmps46
  go_wp2_with (first
    | (go_at_call 54; refine (CK.out _ _).mono ?_; rintro e w1 ⟨rfl, rfl⟩)
    | (go_at_call 51; refine CS.out.mono ?_; rintro e w2 ⟨v2, ss, rfl, hp2, ho2, _, hb2⟩)
    | fail)
  go_ret
  exact ⟨_, rfl, own_base (sorted_keys hT hp2 ho2) (Nat.le_of_lt hz), ((Below.refl _ w).alloc (Nat.le_refl _) _).trans (hb2.mono (Nat.le_of_lt hz))⟩
end
end Go.Mun

-- PairRow
namespace Go.Mun
open Go Go.RowKit Go.Proofs

/-- '[]byte(s)' -/
theorem wpList_str_bytes {ops : Array Oper} {rest : List Oper} {o : Oper} {a : Act} {w : World} {Q : Exit → Act → World → Prop} (hgd : o.guard = none) (x : Operand) (ho : o.op = .convert 9 22 x) {l : List UInt8} (hx : a.eval x = .string ⟨l.toArray⟩) (hl : l.length ≤ maxLen)
    (h : ∀ c w', Bytes w' (.slice (some ⟨w.heap.size, 0, none⟩) l.length c) l → Below w.heap.size w w' → w.heap.size < w'.heap.size → wpList Try.prog ops Q rest (a.put o.dst (.slice (some ⟨w.heap.size, 0, none⟩) l.length c)) w') : wpList Try.prog ops Q (o :: rest) a w := by
  refine wpList_plain hgd fun _ hK => ?_
  have hr := run_bytes_of_string (P := Try.prog) w 9 22 5 ⟨l.toArray⟩ Try.underlying9 Try.underlying22 Try.underlying5
  have hs : (⟨l.toArray⟩ : ByteArray).size = l.length := by simp [ByteArray.size]
  rw [hs] at hr
  have hge := grownCap_ge w l.length 0 5
  have hle := grownCap_le_maxLen w l.length 0 5 hl
  generalize grownCap w l.length 0 5 = c at hr hge hle
  unfold Oper.wp execOp
  simp only [ho, hx, Sem.run_bind, hr, Result.andThen_ok, Sem.run_pure]
  refine hK _ _ (h c _ ⟨_, _, _, rfl, rfl, hge, hle, ?_⟩ ((Below.refl _ _).drew.alloc (Nat.le_refl _) _) (by simp))
  refine Rd.of_cells fun j v hj => ?_
  have hjl : j < l.length := by
    have := (List.getElem?_eq_some_iff.1 hj).1
    rwa [bv_length] at this
  have hb := heap_alloc_new w.drew (.cells (bytesRow ⟨l.toArray⟩ c) 5 ((bytesRow ⟨l.toArray⟩ c).size, (bytesRow ⟨l.toArray⟩ c).size + 1))
  have hadd : (⟨w.heap.size, 0, none⟩ : Addr).add j = ⟨w.heap.size, j, none⟩ := by rw [Addr.add_mid, Nat.zero_add]
  rw [hadd]
  have hc := cell_of_row _ w.heap.size j _ _ _ hb
  rw [hc, bytesRow_at _ _ _ (by simpa using hjl)]
  unfold bv at hj
  rw [List.getElem?_map, List.getElem?_eq_getElem hjl] at hj
  simpa using hj
/-- bytes that lie in no bad block stay -/
theorem Stays.bytes {w : World} {bad : Nat → Prop} {A : Option Addr} {n c : Nat} {l : List UInt8} (h : Bytes w (.slice A n c) l) (hb : ∀ ad, A = some ad → ¬ bad ad.block) : Stays w bad fun w' => Bytes w' (.slice A n c) l := by
  intro w' hs hk
  obtain ⟨A', n', c', e, h1, h2, h3, h4⟩ := h
  injection e with e1 e2 e3
  subst e1 e2 e3
  refine ⟨_, _, _, rfl, h1, h2, h3, fun j v hj => ?_⟩
  obtain ⟨ad, e, hc⟩ := h4 j v hj
  refine ⟨ad, e, ?_⟩
  have hblk : (ad.add j).block = ad.block := by unfold Addr.add; split <;> rfl
  have hlt : (ad.add j).block < w.heap.size := by
    rcases Nat.lt_or_ge (ad.add j).block w.heap.size with h' | h'
    · exact h'
    · unfold World.cell? at hc
      rw [Array.getElem?_eq_none h'] at hc
      cases hc
  exact (World.cell?_of_block (hk _ hlt (by rw [hblk]; exact hb ad e))).trans hc
/-- what is old stays where only new blocks are bad -/
theorem Stays.old {w0 w : World} {bad : Nat → Prop} {P : World → Prop} (hb : Below w0.heap.size w0 w) (hn : ∀ k, bad k → w0.heap.size ≤ k) (h : ∀ w' : World, w0.heap.size ≤ w'.heap.size → (∀ k, k < w0.heap.size → w'.heap[k]? = w0.heap[k]?) → P w') : Stays w bad P := fun w' h1 h2 =>
  h w' (Nat.le_trans hb.size h1) fun k hk => (h2 k (Nat.lt_of_lt_of_le hk hb.size) (fun hbk => by have := hn k hbk; omega)).trans (hb.block k hk)
/-- data in a row of cells -/
def RowC {α : Type} (size : Nat) (R : Reader α) (w : World) (cs : List Value) (l : List α) : Prop := cs.length = l.length * size ∧ ∀ i (h : i < l.length), R w (chunk cs size i) l[i]
theorem RowC.nil {α : Type} (size : Nat) (R : Reader α) (w : World) : RowC size R w [] [] := ⟨by simp, fun i h => by simp at h⟩
theorem RowC.more {α : Type} {size : Nat} {R : Reader α} {w : World} {cs ds : List Value} {l : List α} {x : α} (h : RowC size R w cs l) (hd : ds.length = size) (hx : R w ds x) : RowC size R w (cs ++ ds) (l ++ [x]) := by
  refine ⟨by rw [List.length_append, List.length_append, h.1, hd, List.length_singleton, Nat.add_mul, Nat.one_mul], fun i hi => ?_⟩
  by_cases hlt : i < l.length
  · rw [chunk_left (by rw [h.1]; exact Nat.mul_le_mul_right _ hlt), List.getElem_append_left hlt]
    exact h.2 i hlt
  · obtain rfl : i = l.length := by simp at hi; omega
    rw [chunk_last (s := size) h.1 hd, List.getElem_append_right (Nat.le_refl _)]
    simpa using hx
/-- a pair, as it lies in two cells -/
abbrev PairB := List UInt8 × List UInt8
def rPair : Reader PairB := fun w cs p => ∃ kv vv, cs = [kv, vv] ∧ Bytes w kv p.1 ∧ Bytes w vv p.2
theorem rPair_stays : rPair.Stays := fun _ _ _ _ hb ⟨kv, vv, e, h1, h2⟩ => ⟨kv, vv, e, h1.ext hb, h2.ext hb⟩
theorem pairsTy : SliceTy Try.prog 40 51 (.agg #[.slice none 0 0, .slice none 0 0]) 2 48 := SliceTy.mk' Try.underlying40 (by kernel_rfl) rfl (by decide)
theorem opTy : AggTy Try.prog 32 3 := ⟨⟨_, Try.underlying32, rfl⟩, by kernel_rfl⟩
theorem zOp : (Try.prog.info? 32).bind (·.zero) = some (.agg #[.bool false, .slice none 0 0, .slice none 0 0]) := by kernel_rfl
theorem mapTy : Try.prog.underlying 69 = some (.map 9 22) := Try.underlying69
theorem zBytesV (w : World) : (zeroValue 22).run Try.prog w = .ok (.slice none 0 0) w := by kernel_rfl
theorem zOpV (w : World) : (zeroValue 32).run Try.prog w = .ok (.agg #[.bool false, .slice none 0 0, .slice none 0 0]) w := by kernel_rfl
/-- the values of a map are bytes that lay there -/
def TOk (w : World) (T : PL (Value × List UInt8)) (S : PL (List UInt8)) : Prop := mapP (·.2) T = S ∧ ∀ p ∈ T, Bytes w p.2.1 p.2.2 ∧ p.1.length ≤ maxLen ∧ p.2.2.length ≤ 1000000
theorem TOk.nil (w : World) : TOk w [] [] := ⟨rfl, fun p h => by cases h⟩
theorem mem_setP {α : Type} {P : PL α} {k : Ky} {o : Option α} {p : Ky × α} (h : p ∈ setP P k o) : p ∈ P ∨ ∃ v, o = some v ∧ p = (k, v) := by
  cases o with
  | none => exact .inl (List.mem_filter.1 h).1
  | some v =>
    rcases mem_insP.1 h with rfl | h
    · exact .inr ⟨v, rfl, rfl⟩
    · exact .inl (List.mem_filter.1 h).1
theorem TOk.put {w : World} {T : PL (Value × List UInt8)} {S : PL (List UInt8)} (h : TOk w T S) {o : Rec} {u : Value} (hd : o.del = false) (hu : Bytes w u o.value) (hk : o.key.length ≤ maxLen) (hv : o.value.length ≤ 1000000) : TOk w (setP T o.key (some (u, o.value))) (setP S o.key o.left) := by
  refine ⟨?_, fun p hp => ?_⟩
  · rw [mapP_set, h.1]
    unfold Rec.left
    rw [hd]
    rfl
  · rcases mem_setP hp with h' | ⟨v, e, rfl⟩
    · exact h.2 p h'
    · injection e with e
      subst e
      exact ⟨hu, hk, hv⟩
theorem TOk.del {w : World} {T : PL (Value × List UInt8)} {S : PL (List UInt8)} (h : TOk w T S) {o : Rec} (hd : o.del = true) : TOk w (setP T o.key none) (setP S o.key o.left) := by
  refine ⟨?_, fun p hp => ?_⟩
  · rw [mapP_set, h.1]
    unfold Rec.left
    rw [hd]
    rfl
  · rcases mem_setP hp with h' | ⟨v, e, _⟩
    · exact h.2 p h'
    · cases e
theorem rises_of_map {α β : Type} {f : α → β} {T : PL α} (h : Rises (mapP f T)) : Rises T := (List.pairwise_map.1 h)
theorem TOk.rises {w : World} {T : PL (Value × List UInt8)} {S : PL (List UInt8)} (h : TOk w T S) (hS : Rises S) : Rises T := rises_of_map (by rw [h.1]; exact hS)
theorem doneP_snoc (S : PL (List UInt8)) {l : List Rec} {k : Nat} {o : Rec} (h : l[k]? = some o) : doneP S (l.take (k + 1)) = setP (doneP S (l.take k)) o.key o.left := by
  obtain ⟨hk, hx⟩ := List.getElem?_eq_some_iff.1 h
  rw [List.take_succ_eq_append_getElem hk, hx, doneP_append]
  rfl
theorem liveP_snoc {LL : List (List Rec)} {k : Nat} {l : List Rec} (h : LL[k]? = some l) : liveP (LL.take (k + 1)) = doneP (liveP (LL.take k)) l := by
  obtain ⟨hk, hx⟩ := List.getElem?_eq_some_iff.1 h
  rw [List.take_succ_eq_append_getElem hk, hx]
  unfold liveP
  rw [List.foldl_append]
  rfl
theorem Bytes_max {w : World} {v : Value} {l : List UInt8} (h : Bytes w v l) : l.length ≤ maxLen := by
  obtain ⟨_, _, _, _, h1, h2, h3, _⟩ := h
  omega
theorem MapV.len {α : Type} {w : World} {b N : Nat} {T : PL (Value × α)} (h : MapV w b T N) : T.length ≤ N := by
  obtain ⟨es, clock, _, _, hs, hD⟩ := h
  have e : T.map encE = (es.toList.map (Go.WideElems.rg Try.prog 9 RV)).foldr DataW.insert [] := DataW.map.inj hD
  have := congrArg List.length e
  simp only [List.length_map, length_sorted, Array.length_toList] at this
  omega
theorem MapV.below {α : Type} {w w' : World} {b N n : Nat} {T : PL (Value × α)} (h : MapV w b T N) (hb : Below n w w') (hn : b < n) : MapV w' b T N := by
  obtain ⟨es, clock, h1, h2⟩ := h
  exact ⟨es, clock, (hb.block b hn).trans h1, h2⟩
end Go.Mun

-- NetLive
namespace Go.Mun
open Go Go.RowKit Go.Proofs

set_option maxRecDepth 100000 in
set_option maxHeartbeats 8000000 in
theorem Live_any (v : Value) (LL : List (List Rec)) (w : World) (h : SliceOf 1 (rSlice 3 rOp) w v LL) (hn1 : LL.length ≤ 100) (hn2 : ∀ l ∈ LL, l.length ≤ 100) (hn3 : ∀ l ∈ LL, ∀ o ∈ l, o.value.length ≤ 1000000) :
    Calls Try.prog 31 #[v] w fun e w' => ∃ v', e = .returned v' ∧ SliceOf 2 rPair w' v' (liveP LL) ∧ Below w.heap.size w w' := by
  obtain ⟨A, n, c, xs, rfl, g1, g2, g3, g4, g5, g6⟩ := h
  unfold maxLen at g4
  have hmm := @run_makeMap Try.prog
  have zO := zOp
  have hTO := opTy
  have hTP := pairsTy
  have HN2 := Lib.hid hn2
  have HN3 := Lib.hid hn3
  have HLA := Lib.hid (fun (j : Nat) (hj : j < n) (w' : World) (hb : Below w.heap.size w w') => out_at (g5.ext hb) g1 g2 g6 hj)
  have HLL := Lib.hid g1
  have hR0 := Lib.hid (liveP_rises LL)
  have HRS := Lib.hid (fun j => liveP_rises (LL.take j))
  have hnn : n ≤ 100 := by omega
  have HTK := Lib.hid (show LL.take n = LL by rw [← g1]; exact List.take_length)
  clear hn2 hn3 g1 g2 g5 g6 hn1
  go_enter Try.func31, Try.ntmps31
  go_wp2
  have hB0 := (Below.refl w.heap.size w).alloc (Nat.le_refl _) (.map #[] 0)
  have hM0 := MapV.made (α := List UInt8) w
  generalize w.alloc (.map #[] 0) = w1 at hB0 hM0 ⊢
  go_loopw [14] (fun iv wr => ∃ (j : Nat) (T : PL (Value × List UInt8)) (N : Nat), j ≤ n ∧ iv = .int .i64 j ∧ MapV wr w.heap.size T N ∧ TOk w T (liveP (LL.take j)) ∧ N ≤ 100 * j ∧ Below w.heap.size w wr) (fun iv _ => n - (RowKit.intOf iv).toNat)
  case atStart => exact ⟨0, [], 0, Nat.zero_le _, rfl, hM0, TOk.nil w, Nat.zero_le _, hB0⟩
  case round =>
    clear hM0 hB0
    obtain ⟨j, T, N, hj, rfl, hM, hT, hN, hBr⟩ := hrel
    by_cases hlt : j < n
    · obtain ⟨ad1, v1, l, rfl, p0, hlj, hsl⟩ := HLA.out j hlt wr hBr
      obtain ⟨A2, m, c2, ys, rfl, k1, k2, k3, k4, k5, k6⟩ := hsl
      unfold maxLen at k4
      have hm : m ≤ 100 := by
        rw [← k1]
        exact HN2.out l (List.mem_of_getElem? hlj)
      have HV2 := Lib.hid (HN3.out l (List.mem_of_getElem? hlj))
      have HOP := Lib.hid (fun (i : Nat) (hi : i < m) (w' : World) (hb : Below w.heap.size w w') => op_at' (k5.ext hb) k1 k2 k6 hi)
      have HS1 := Lib.hid (show liveP (LL.take (j + 1)) = doneP (liveP (LL.take j)) l from liveP_snoc hlj)
      have HL1 := Lib.hid (show l.take m = l by rw [← k1]; exact List.take_length)
      have HT0 := Lib.hid (show TOk w T (doneP (liveP (LL.take j)) (l.take 0)) from hT)
      have f1 : decide ((j : Int) < n) = true := decide_eq_true (by omega)
      have b1 : (0 : Int) ≤ j := by omega
      have b2 : (j : Int) < n := by omega
      clear k1 k2 k5 k6 hlj hT
      go_wp2
      go_loopw [20] (fun iv wr => ∃ (i : Nat) (T : PL (Value × List UInt8)) (N : Nat), i ≤ m ∧ iv = .int .i64 i ∧ MapV wr w.heap.size T N ∧ TOk w T (doneP (liveP (LL.take j)) (l.take i)) ∧ N ≤ 100 * j + i ∧ Below w.heap.size w wr) (fun iv _ => m - (RowKit.intOf iv).toNat)
      case atStart => exact ⟨0, T, N, Nat.zero_le _, rfl, hM, HT0.out, by omega, hBr⟩
      case round =>
        clear hM hBr
        obtain ⟨i, T, N, hi, rfl, hM, hT, hN, hBr⟩ := hrel
        by_cases hlt : i < m
        · obtain ⟨ad2, o, kv, vv, rfl, r0, r1, r2, hoi, hkb, hvb⟩ := HOP.out i hlt _ hBr
          have f2 : decide ((i : Int) < m) = true := decide_eq_true (by omega)
          have b3 : (0 : Int) ≤ i := by omega
          have b4 : (i : Int) < m := by omega
          have HKL := Lib.hid (Bytes_max hkb)
          have HVL := Lib.hid (HV2.out o (List.mem_of_getElem? hoi))
          have HOB := Lib.hid (And.intro hkb hvb)
          obtain ⟨AK, nk, cK, hkv, _⟩ := id hkb
          subst hkv
          obtain ⟨AV, nv, cV, hvv, _⟩ := id hvb
          subst hvv
          clear hkb hvb
          cases hdel : o.del
          all_goals rw [hdel] at r0
          all_goals go_upto_region 8 with (first
            | ((with_reducible refine gd_alloc ?_); refine wpList_alloc_blk rfl 32 rfl zO ?_; intro w9 hx9 hb9 hl9; have hM9 := hM.ext hb9)
            | ((with_reducible refine gd_store ?_); refine wpList_store_all rfl 32 (.tmp 7) (.tmp 23) rfl #[.bool o.del, .slice AK nk cK, .slice AV nv cV] hx9 hTO rfl rfl rfl (by rw [hdel]; rfl) ?_; intro w10 hx10 hg10)
            | fail)
          all_goals
            have hb10 := below_blk hb9 hb9.size hg10 (Nat.le_refl _)
            have hB10 := below_step hBr hb10
            have hM10 := hM.ext hb10
            have hkb10 := HOB.out.1.ext hB10
            clear hx9 hb9 hg10 hM hM9
          · -- put
            have hd9 : o.del = false := hdel
            have y0 := hx10.cellv (i := 0) rfl
            have y1 := hx10.cellv (i := 1) rfl
            have y2 := hx10.cellv (i := 2) rfl
            rw [hd9] at y0
            have q := run_str (P := Try.prog) (src := 22) (dst := 9) hkb10 Try.underlying22 Try.underlying5 Try.underlying9
            go_wp2_with (first
              | (at_mapUpdate; refine wpList_put_map rfl (.tmp 30) (.tmp 33) (.tmp 35) _ _ rfl mapTy rfl hM10 (by unfold maxLen; omega) HKL.out rfl rfl o.value ?_; intro w11 hM11 hg11)
              | fail)
            have hB11 := below_blk hB10 (Nat.le_trans (Nat.le_refl _) hB10.size) hg11 (Nat.le_refl _)
            go_roundw
            case rel => exact ⟨i + 1, _, N + 1, by omega, by go_num, hM11, by rw [doneP_snoc _ hoi]; exact hT.put hd9 HOB.out.2 HKL.out HVL.out, by omega, hB11⟩
            case measure => simp [RowKit.intOf]; omega
          · -- delete
            have hd9 : o.del = true := hdel
            have y0 := hx10.cellv (i := 0) rfl
            have y1 := hx10.cellv (i := 1) rfl
            have y2 := hx10.cellv (i := 2) rfl
            rw [hd9] at y0
            have q := run_str (P := Try.prog) (src := 22) (dst := 9) hkb10 Try.underlying22 Try.underlying5 Try.underlying9
            go_wp2_with (first
              | (at_delete; refine wpList_del_map rfl (.tmp 26) (.tmp 29) _ _ rfl mapTy rfl hM10 HKL.out rfl ?_; intro w11 hM11 hg11)
              | fail)
            have hB11 := below_blk hB10 (Nat.le_trans (Nat.le_refl _) hB10.size) hg11 (Nat.le_refl _)
            go_roundw
            case rel => exact ⟨i + 1, _, N, by omega, by go_num, hM11, by rw [doneP_snoc _ hoi]; exact hT.del hd9, by omega, hB11⟩
            case measure => simp [RowKit.intOf]; omega
        · obtain rfl : i = m := by omega
          have f2 : decide ((i : Int) < i) = false := decide_eq_false (by omega)
          rw [HL1.out, ← HS1.out] at hT
          go_wp2
          go_roundw
          case rel => exact ⟨j + 1, T, N, by omega, by go_num, hM, hT, by omega, hBr⟩
          case measure => simp [RowKit.intOf]; omega
    · obtain rfl : j = n := by omega
      have f1 : decide ((j : Int) < j) = false := decide_eq_false (by omega)
      rw [HTK.out] at hT
      have hTR := hT.rises hR0.out
      have hTN : T.length ≤ 100000 := by have := hM.len; omega
      go_wp2_with (first
        | (go_at_call 46; refine (rising_any _ _ _ T hM hTR hTN).mono ?_; rintro e w4 ⟨v4, rfl, ho4, hb4⟩; obtain ⟨A4, c4, rfl⟩ := own_sl ho4)
        | fail)
      have hM4 := hM.ext hb4
      have hB4 := below_step hBr hb4
      clear hM hBr hb4
      have hml4 := hM4.lt
      have HT := Lib.hid hT
      go_loopw [8, 41] (fun vo iv wr => ∃ (k : Nat) (co : List Value), k ≤ T.length ∧ iv = .int .i64 k ∧ wr.ownsRow w4.heap.size 51 2 vo k co ∧ Stays wr (Rows2 vo (.slice none 0 0)) (fun w' => RowC 2 rPair w' co ((liveP LL).take k)) ∧ Below w4.heap.size w4 wr) (fun _ iv _ => T.length - (RowKit.intOf iv).toNat)
      case atStart => exact ⟨0, [], Nat.zero_le _, rfl, World.ownsRow_nil _ _ _ _, fun w' _ _ => RowC.nil _ _ _, Below.refl _ _⟩
      case round =>
        obtain ⟨k, co, hk, rfl, hco, hso, hBr⟩ := hrel
        have HSO := Lib.hid hso
        clear hso
        by_cases hlt : k < T.length
        · obtain ⟨h4, rfl⟩ := own_at ho4 (by omega)
          obtain ⟨⟨key, u, val⟩, hp⟩ : ∃ p, T[k]? = some p := ⟨_, List.getElem?_eq_getElem hlt⟩
          have hmem := List.mem_of_getElem? hp
          have hget : getP T key = some (u, val) := getP_at hTR hmem
          obtain ⟨hub, hkl, hvl⟩ := HT.out.2 _ hmem
          simp only at hub hkl hvl
          have hSk : (liveP LL).take (k + 1) = (liveP LL).take k ++ [(key, val)] := by
            have h1 : (liveP LL)[k]? = some (key, val) := by rw [← HT.out.1]; unfold mapP; rw [List.getElem?_map, hp]; rfl
            obtain ⟨h2, h3⟩ := List.getElem?_eq_some_iff.1 h1
            rw [List.take_succ_eq_append_getElem h2, h3]
          have hok := own_ext ho4 hBr
          have hc1 := hok.cellAt k (by omega)
          rw [List.getElem?_map, hp] at hc1
          simp only [Option.map_some, strV] at hc1
          have HKL := Lib.hid hkl
          have HSK := Lib.hid hSk
          have HBY := Lib.hid (fun (w' : World) (hb : Below w4.heap.size w4 w') => hub.ext (hB4.trans (hb.mono hB4.size)))
          have HLK := Lib.hid (fun (w' : World) (hb : Below w4.heap.size w4 w') => (hM4.below hb hml4).look mapTy (zBytesV w') hkl hget)
          have hW := hBr.size
          have f2 : decide ((k : Int) < T.length) = true := decide_eq_true (by omega)
          have b3 : (0 : Int) ≤ k := by omega
          have b4 : (k : Int) < T.length := by omega
          clear hp hmem hget hub hkl hSk
          go_wp2_with (first
            | ((with_reducible refine gd_convert ?_); refine wpList_str_bytes rfl (.tmp 46) rfl rfl HKL.out ?_; intro c5 w5 hk5 hb5 hl5; have hB5 := below_step hBr hb5; have q5 := HLK.out _ hB5)
            | (go_at_call 35; refine (Clone_any _ val _ (HBY.out _ hB5) (by omega)).mono ?_; rintro e w6 ⟨v6, rfl, ho6, hb6⟩; obtain ⟨A6, c6, rfl⟩ := own_sl ho6; have hB6 := below_step hB5 hb6)
            | (refine wpList_row_one rfl (.tmp 52) rfl hTP (by decide) (cs := #[.slice (some ⟨wr.heap.size, 0, none⟩) key.length c5, .slice A6 val.length c6]) rfl rfl ?_; intro w7 hx7 hb7 hl7; have hbr := below_step (below_step hb5 hb6) hb7; have hB7 := below_step hBr hbr; have hco7 := own_ext hco hbr)
            | (at_builtin; refine wpList_append_rd _ rfl (.tmp 45) (.tmp 53) _ rfl w4.heap.size _ _ 2 48 hTP _ _ _ rfl hco7 (some ⟨w6.heap.size, 0, none⟩) 1 1 [.slice (some ⟨wr.heap.size, 0, none⟩) key.length c5, .slice A6 val.length c6] rfl rfl hx7.rd (by intro u hu; simp only [List.mem_cons, List.not_mem_nil, or_false] at hu; rcases hu with rfl | rfl <;> rfl) (by unfold maxLen; omega) (by omega) hB7.size ?_; intro vo8 w8 hco8 hg8 hat8)
            | fail)
          have hB8 := below_own hB7 hco7 (Nat.le_refl _) hg8 hB7.size
          have hnil := World.ownsRow_nil wr w4.heap.size 5 1
          have sl := stay_app (c := .slice none 0 0) hco hbr hg8 hat8 (bad := Rows2 _ (.slice none 0 0)) (bad1 := Rows2 vo8 (.slice none 0 0)) (fun _ h => h) (fun _ h => h) HSO.out
          have sv := stay_new hco hnil hbr hg8 hat8 (bad1 := Rows2 vo8 (.slice none 0 0)) (fun _ h => h) (own_ext (own_base ho6 hb5.size) hb7)
          have hlo : ∀ x, Value.ownBlock _ = some x → x < wr.heap.size := fun x hx => (hco.lt x hx).2
          have hk8 := ((hk5.ext hb6).ext hb7).grownB hg8 (fun ad e => by injection e with e; subst e; intro e'; have := hlo _ e'.symm; simp only at this; omega)
          have sk := Stays.bytes (bad := Rows2 vo8 (.slice none 0 0)) hk8 (fun ad e hb => by
            injection e with e
            subst e
            rcases hb with hb | hb
            · rcases hat8 with e1 | e1
              · have := hlo _ (e1 ▸ hb)
                simp only at this
                omega
              · rw [e1] at hb
                injection hb with hb
                have := hb5.size
                have := hb6.size
                simp only at hb
                omega
            · cases hb)
          have sl2 := ((sl.and sk).and sv).imp (Q := fun w' => RowC 2 rPair w' (co ++ [.slice (some ⟨wr.heap.size, 0, none⟩) key.length c5, .slice A6 val.length c6]) ((liveP LL).take (k + 1))) fun w' h => by
            rw [HSK.out]
            exact h.1.1.more rfl ⟨_, _, rfl, h.1.2, Bytes.own h.2⟩
          go_roundw
          case rel => exact ⟨k + 1, _, by omega, by go_num, by simpa using hco8, sl2, hB8⟩
          case measure => simp [RowKit.intOf]; omega
        · obtain rfl : k = T.length := by omega
          have f2 : decide ((T.length : Int) < T.length) = false := decide_eq_false (by omega)
          have hSl : (liveP LL).take T.length = liveP LL := by rw [← HT.out.1]; unfold mapP; rw [show T.length = (T.map fun p => (p.1, p.2.2)).length from by rw [List.length_map], List.take_length]
          have hfin := HSO.out.now
          rw [hSl] at hfin
          go_wp2
          go_ret
          exact ⟨_, rfl, slice_of_own hco (by have := hfin.1; have := hco.1; omega) hfin.2, hB4.trans (hBr.mono hB4.size)⟩
end Go.Mun

-- NetPairs
namespace Go.Mun
open Go Go.RowKit Go.Proofs

theorem str_nes (l : List UInt8) : ((⟨l.toArray⟩ : ByteArray) != ⟨l.toArray⟩) = false := by rw [str_ne]; simp
theorem pair_at {w w' : World} {A : Option Addr} {n : Nat} {xs : List Value} {P : PL (List UInt8)} (hr : Rd w' A xs) (hl : P.length = n) (_hx : xs.length = n * 2) (hb : ∀ i (h : i < P.length), rPair w (chunk xs 2 i) P[i]) {k : Nat} (hk : k < n) :
    ∃ (ad : Addr) (p : PairB) (kv vv : Value), A = some ad ∧ w'.cell? (ad.add (k * 2)) = some kv ∧ w'.cell? ⟨(ad.add (k * 2)).block, (ad.add (k * 2)).off + 1, none⟩ = some vv ∧ P[k]? = some p ∧ Bytes w kv p.1 ∧ Bytes w vv p.2 := by
  obtain ⟨kv, vv, e, h1, h2⟩ := hb k (by omega)
  have hg : ∀ j, j < 2 → xs[k * 2 + j]? = (chunk xs 2 k)[j]? := fun j hj => by
    unfold chunk
    rw [List.getElem?_take, if_pos hj, List.getElem?_drop]
  obtain ⟨ad, rfl, c0⟩ := hr (k * 2) kv (by have := hg 0 (by omega); rw [Nat.add_zero] at this; rw [this, e]; rfl)
  obtain ⟨ad', e1, c1⟩ := hr (k * 2 + 1) vv (by rw [hg 1 (by omega), e]; rfl)
  injection e1 with e1
  subst e1
  rw [add_beside _ _ (by omega)] at c1
  exact ⟨_, P[k], kv, vv, rfl, c0, c1, List.getElem?_eq_getElem (by omega), h1, h2⟩
/-- what each operation of the region writes -/
def SSP (ad1 ad2 : Addr) (n c1 c2 k : Nat) (x1 x2 y1 y2 : Value) (key val : List UInt8) : Nat → Value → World → Prop
  | 0, v, _ => v = .slice (some ad1) n c1
  | 1, v, _ => v = .int .i64 (k : Nat)
  | 2, v, _ => v = .pointer (some (ad1.add (k * 2)))
  | 3, v, _ => v = .pointer (some (ad1.add (k * 2)))
  | 4, v, _ => v = x1
  | 5, v, _ => v = .string ⟨key.toArray⟩
  | 6, v, _ => v = .slice (some ad2) n c2
  | 7, v, _ => v = .int .i64 (k : Nat)
  | 8, v, _ => v = .pointer (some (ad2.add (k * 2)))
  | 9, v, _ => v = .pointer (some (ad2.add (k * 2)))
  | 10, v, _ => v = x2
  | 11, v, _ => v = .string ⟨key.toArray⟩
  | 12, v, _ => v = .bool false
  | 13, v, _ => v = .bool false
  | 14, v, _ => v = .slice (some ad1) n c1
  | 15, v, _ => v = .int .i64 (k : Nat)
  | 16, v, _ => v = .pointer (some (ad1.add (k * 2)))
  | 17, v, _ => v = .pointer (some ⟨(ad1.add (k * 2)).block, (ad1.add (k * 2)).off + 1, none⟩)
  | 18, v, _ => v = y1
  | 19, v, _ => v = .string ⟨val.toArray⟩
  | 20, v, _ => v = .slice (some ad2) n c2
  | 21, v, _ => v = .int .i64 (k : Nat)
  | 22, v, _ => v = .pointer (some (ad2.add (k * 2)))
  | 23, v, _ => v = .pointer (some ⟨(ad2.add (k * 2)).block, (ad2.add (k * 2)).off + 1, none⟩)
  | 24, v, _ => v = y2
  | 25, v, _ => v = .string ⟨val.toArray⟩
  | 26, v, _ => v = .bool false
  | _, v, _ => v = .bool false
theorem SSP_stays (ad1 ad2 : Addr) (n c1 c2 k : Nat) (x1 x2 y1 y2 : Value) (key val : List UInt8) : ∀ i v (wa wb : World), Below wa.heap.size wa wb → SSP ad1 ad2 n c1 c2 k x1 x2 y1 y2 key val i v wa → SSP ad1 ad2 n c1 c2 k x1 x2 y1 y2 key val i v wb
  | 0, _, _, _, _, h => h
  | 1, _, _, _, _, h => h
  | 2, _, _, _, _, h => h
  | 3, _, _, _, _, h => h
  | 4, _, _, _, _, h => h
  | 5, _, _, _, _, h => h
  | 6, _, _, _, _, h => h
  | 7, _, _, _, _, h => h
  | 8, _, _, _, _, h => h
  | 9, _, _, _, _, h => h
  | 10, _, _, _, _, h => h
  | 11, _, _, _, _, h => h
  | 12, _, _, _, _, h => h
  | 13, _, _, _, _, h => h
  | 14, _, _, _, _, h => h
  | 15, _, _, _, _, h => h
  | 16, _, _, _, _, h => h
  | 17, _, _, _, _, h => h
  | 18, _, _, _, _, h => h
  | 19, _, _, _, _, h => h
  | 20, _, _, _, _, h => h
  | 21, _, _, _, _, h => h
  | 22, _, _, _, _, h => h
  | 23, _, _, _, _, h => h
  | 24, _, _, _, _, h => h
  | 25, _, _, _, _, h => h
  | 26, _, _, _, _, h => h
  | _ + 27, _, _, _, _, h => h

set_option maxRecDepth 100000 in
set_option maxHeartbeats 4000000 in
theorem SamePairs_true (va vb : Value) (P : PL (List UInt8)) (w : World) (ha : SliceOf 2 rPair w va P) (hb : SliceOf 2 rPair w vb P) :
    Calls Try.prog 23 #[va, vb] w fun e w' => e = .returned (.bool true) ∧ Below w.heap.size w w' := by
  obtain ⟨A1, n, c1, xs, rfl, g1, g2, g3, g4, g5, g6⟩ := ha
  obtain ⟨A2, n', c2, ys, rfl, i1, i2, i3, i4, i5, i6⟩ := hb
  have hnn : n' = n := by omega
  subst hnn
  unfold maxLen at g4 i4
  have HS := Lib.hid (fun (w : World) (A : Option Addr) (n c : Nat) (l : List UInt8) (h : Bytes w (.slice A n c) l) => run_str (P := Try.prog) (src := 22) (dst := 9) h Try.underlying22 Try.underlying5 Try.underlying9)
  have dn : ((n' : Int) != n') = false := by simp
  go_enter Try.func23, Try.ntmps23
  go_wp2
  go_loopw [5] (fun i wr => ∃ k : Nat, k ≤ n' ∧ i = .int .i64 k ∧ Below w.heap.size w wr) (fun i _ => n' - (RowKit.intOf i).toNat)
  case atStart => exact ⟨0, Nat.zero_le _, rfl, Below.refl _ _⟩
  case round =>
    obtain ⟨k, hk, rfl, hBr⟩ := hrel
    by_cases hlt : k < n'
    · clear hk
      obtain ⟨ad1, p, kv1, vv1, rfl, p0, p1, hp, b1, b2⟩ := pair_at (g5.ext hBr) g1 g2 g6 hlt
      obtain ⟨ad2, p', kv2, vv2, rfl, r0, r1, hp', b3, b4⟩ := pair_at (i5.ext hBr) i1 i2 i6 hlt
      have epp : p' = p := by rw [hp] at hp'; injection hp' with hp'; exact hp'.symm
      subst epp
      obtain ⟨key, val⟩ := p'
      simp only at b1 b2 b3 b4
      obtain ⟨AK1, nk1, cK1, h1, _⟩ := id b1
      subst h1
      obtain ⟨AV1, nv1, cV1, h1, _⟩ := id b2
      subst h1
      obtain ⟨AK2, nk2, cK2, h1, _⟩ := id b3
      subst h1
      obtain ⟨AV2, nv2, cV2, h1, _⟩ := id b4
      subst h1
      have HB1 := Lib.hid (And.intro b1 b2)
      have HB2 := Lib.hid (And.intro b3 b4)
      clear hp hp' b1 b2 b3 b4
      have f1 : decide ((k : Int) < n') = true := decide_eq_true (by omega)
      have z1 : (0 : Int) ≤ k := by omega
      have z2 : (k : Int) < n' := by omega
      go_upto_region 6 with (fail)
      replace p0 := cell_drew p0
      replace r0 := cell_drew r0
      replace p1 := cell_drew p1
      replace r1 := cell_drew r1
      refine wp_region_each (by kernel_rfl) (by kernel_rfl) (by kernel_rfl) (fun w w' => Below w.heap.size w w') (fun w => Below.refl _ _) (fun x y z h1 h2 => below_step h1 h2) (SSP ad1 ad2 n' c1 c2 k (.slice AK1 nk1 cK1) (.slice AK2 nk2 cK2) (.slice AV1 nv1 cV1) (.slice AV2 nv2 cV2) key val) (SSP_stays _ _ _ _ _ _ _ _ _ _ _ _) ?_ ?_
      · simp only [EachStep]
        refine ⟨?_, ?_, ?_, ?_, ?_, ?_, ?_, ?_, ?_, ?_, ?_, ?_, ?_, ?_, ?_, ?_, ?_, ?_, ?_, ?_, ?_, ?_, ?_, ?_, ?_, ?_, ?_, ?_, trivial⟩
        · intro V w' hb hd
          clear hd
          refine ⟨?_⟩
          simp only [fill]
          go_wp2
          exact ⟨rfl, rfl, Below.refl _ _, rfl⟩
        · intro V w' hb hd
          clear hd
          refine ⟨?_⟩
          simp only [fill]
          go_wp2
          exact ⟨rfl, rfl, Below.refl _ _, rfl⟩
        · intro V w' hb hd
          simp only [DepFacts, SSP, Region.binds, forall_const, and_true] at hd
          refine ⟨?_⟩
          simp only [fill, hd]
          clear hd
          go_wp2
          exact ⟨rfl, rfl, Below.refl _ _, rfl⟩
        · intro V w' hb hd
          simp only [DepFacts, SSP, Region.binds, forall_const, and_true] at hd
          refine ⟨?_⟩
          simp only [fill, hd]
          clear hd
          go_wp2
          exact ⟨rfl, rfl, Below.refl _ _, rfl⟩
        · intro V w' hb hd
          have q := cell_ext hb p0
          simp only [DepFacts, SSP, Region.binds, forall_const, and_true] at hd
          refine ⟨?_⟩
          simp only [fill, hd]
          clear hd
          go_wp2
          exact ⟨rfl, rfl, Below.refl _ _, rfl⟩
        · intro V w' hb hd
          have q := HS.out _ _ _ _ _ (HB1.out.1.ext (below_step (below_drew hBr) hb))
          simp only [DepFacts, SSP, Region.binds, forall_const, and_true] at hd
          refine ⟨?_⟩
          simp only [fill, hd]
          clear hd
          go_wp2
          exact ⟨rfl, rfl, Below.refl _ _, rfl⟩
        · intro V w' hb hd
          clear hd
          refine ⟨?_⟩
          simp only [fill]
          go_wp2
          exact ⟨rfl, rfl, Below.refl _ _, rfl⟩
        · intro V w' hb hd
          clear hd
          refine ⟨?_⟩
          simp only [fill]
          go_wp2
          exact ⟨rfl, rfl, Below.refl _ _, rfl⟩
        · intro V w' hb hd
          simp only [DepFacts, SSP, Region.binds, forall_const, and_true] at hd
          refine ⟨?_⟩
          simp only [fill, hd]
          clear hd
          go_wp2
          exact ⟨rfl, rfl, Below.refl _ _, rfl⟩
        · intro V w' hb hd
          simp only [DepFacts, SSP, Region.binds, forall_const, and_true] at hd
          refine ⟨?_⟩
          simp only [fill, hd]
          clear hd
          go_wp2
          exact ⟨rfl, rfl, Below.refl _ _, rfl⟩
        · intro V w' hb hd
          have q := cell_ext hb r0
          simp only [DepFacts, SSP, Region.binds, forall_const, and_true] at hd
          refine ⟨?_⟩
          simp only [fill, hd]
          clear hd
          go_wp2
          exact ⟨rfl, rfl, Below.refl _ _, rfl⟩
        · intro V w' hb hd
          have q := HS.out _ _ _ _ _ (HB2.out.1.ext (below_step (below_drew hBr) hb))
          simp only [DepFacts, SSP, Region.binds, forall_const, and_true] at hd
          refine ⟨?_⟩
          simp only [fill, hd]
          clear hd
          go_wp2
          exact ⟨rfl, rfl, Below.refl _ _, rfl⟩
        · intro V w' hb hd
          have q := str_nes key
          simp only [DepFacts, SSP, Region.binds, forall_const, and_true] at hd
          refine ⟨?_⟩
          simp only [fill, hd]
          clear hd
          go_wp2
          exact ⟨rfl, rfl, Below.refl _ _, rfl⟩
        · intro V w' hb hd
          simp only [DepFacts, SSP, Region.binds, forall_const, and_true] at hd
          refine ⟨?_⟩
          simp only [fill, hd]
          clear hd
          go_wp2
          exact ⟨rfl, rfl, Below.refl _ _, rfl⟩
        · intro V w' hb hd
          simp only [DepFacts, SSP, Region.binds, forall_const, and_true] at hd
          refine ⟨?_⟩
          simp only [fill, hd]
          clear hd
          go_wp2
          exact ⟨rfl, rfl, Below.refl _ _, rfl⟩
        · intro V w' hb hd
          simp only [DepFacts, SSP, Region.binds, forall_const, and_true] at hd
          refine ⟨?_⟩
          simp only [fill, hd]
          clear hd
          go_wp2
          exact ⟨rfl, rfl, Below.refl _ _, rfl⟩
        · intro V w' hb hd
          simp only [DepFacts, SSP, Region.binds, forall_const, and_true] at hd
          refine ⟨?_⟩
          simp only [fill, hd]
          clear hd
          go_wp2
          exact ⟨rfl, rfl, Below.refl _ _, rfl⟩
        · intro V w' hb hd
          simp only [DepFacts, SSP, Region.binds, forall_const, and_true] at hd
          refine ⟨?_⟩
          simp only [fill, hd]
          clear hd
          go_wp2
          exact ⟨rfl, rfl, Below.refl _ _, rfl⟩
        · intro V w' hb hd
          have q := cell_ext hb p1
          simp only [DepFacts, SSP, Region.binds, forall_const, and_true] at hd
          refine ⟨?_⟩
          simp only [fill, hd]
          clear hd
          go_wp2
          exact ⟨rfl, rfl, Below.refl _ _, rfl⟩
        · intro V w' hb hd
          have q := HS.out _ _ _ _ _ (HB1.out.2.ext (below_step (below_drew hBr) hb))
          simp only [DepFacts, SSP, Region.binds, forall_const, and_true] at hd
          refine ⟨?_⟩
          simp only [fill, hd]
          clear hd
          go_wp2
          exact ⟨rfl, rfl, Below.refl _ _, rfl⟩
        · intro V w' hb hd
          simp only [DepFacts, SSP, Region.binds, forall_const, and_true] at hd
          refine ⟨?_⟩
          simp only [fill, hd]
          clear hd
          go_wp2
          exact ⟨rfl, rfl, Below.refl _ _, rfl⟩
        · intro V w' hb hd
          simp only [DepFacts, SSP, Region.binds, forall_const, and_true] at hd
          refine ⟨?_⟩
          simp only [fill, hd]
          clear hd
          go_wp2
          exact ⟨rfl, rfl, Below.refl _ _, rfl⟩
        · intro V w' hb hd
          simp only [DepFacts, SSP, Region.binds, forall_const, and_true] at hd
          refine ⟨?_⟩
          simp only [fill, hd]
          clear hd
          go_wp2
          exact ⟨rfl, rfl, Below.refl _ _, rfl⟩
        · intro V w' hb hd
          simp only [DepFacts, SSP, Region.binds, forall_const, and_true] at hd
          refine ⟨?_⟩
          simp only [fill, hd]
          clear hd
          go_wp2
          exact ⟨rfl, rfl, Below.refl _ _, rfl⟩
        · intro V w' hb hd
          have q := cell_ext hb r1
          simp only [DepFacts, SSP, Region.binds, forall_const, and_true] at hd
          refine ⟨?_⟩
          simp only [fill, hd]
          clear hd
          go_wp2
          exact ⟨rfl, rfl, Below.refl _ _, rfl⟩
        · intro V w' hb hd
          have q := HS.out _ _ _ _ _ (HB2.out.2.ext (below_step (below_drew hBr) hb))
          simp only [DepFacts, SSP, Region.binds, forall_const, and_true] at hd
          refine ⟨?_⟩
          simp only [fill, hd]
          clear hd
          go_wp2
          exact ⟨rfl, rfl, Below.refl _ _, rfl⟩
        · intro V w' hb hd
          have q := str_nes val
          simp only [DepFacts, SSP, Region.binds, forall_const, and_true] at hd
          refine ⟨?_⟩
          simp only [fill, hd]
          clear hd
          go_wp2
          exact ⟨rfl, rfl, Below.refl _ _, rfl⟩
        · intro V w' hb hd
          simp only [DepFacts, SSP, Region.binds, forall_const, and_true] at hd
          refine ⟨?_⟩
          simp only [fill, hd]
          clear hd
          go_wp2
          exact ⟨rfl, rfl, Below.refl _ _, rfl⟩
      · intro V w12 hb12 hV
        simp only [SFacts, SSP] at hV
        have h27 := hV.2.2.2.2.2.2.2.2.2.2.2.2.2.2.2.2.2.2.2.2.2.2.2.2.2.2.2.1
        clear hV
        have hB12 := below_step (below_drew hBr) hb12
        simp only [fill, h27]
        try simp only [Exit.then]
        try go_simp
        go_wp2
        go_roundw
        case rel => exact ⟨k + 1, by omega, by go_num, hB12⟩
        case measure => simp [RowKit.intOf]; omega
    · obtain rfl : k = n' := by omega
      have f1 : decide ((k : Int) < k) = false := decide_eq_false (by omega)
      go_wp2
      go_ret
      exact ⟨rfl, hBr⟩
end Go.Mun

-- Late
namespace Go.Mun
open Go Go.RowKit

section
variable {P : Program} {ops : Array Oper}
/-- The frame behind all of them but the one. -/
def fillX : List Oper → Nat → Nat → (Nat → Value) → Act → Act
  | [], _, _, _, a => a
  | o :: l, k, q, V, a => fillX l (k + 1) q V (if k ≠ q then a.put o.dst (V k) else a)
theorem fillX_eq (l : List Oper) (q : Nat) : ∀ (k : Nat) (V : Nat → Value) (a : Act), fillX l k q V a = fillP l k (fun i => decide (i ≠ q)) V a := by
  induction l with
  | nil => intros; rfl
  | cons o l ih => intro k V a; simp only [fillX, fillP, decide_eq_true_eq]; exact ih _ _ _
/-- Does j wait for i, through a chain of at most n between? -/
def reaches (ops : Array Oper) : Nat → Nat → Nat → Bool
  | 0, j, i => waitsB ops j i
  | n + 1, j, i => waitsB ops j i || (List.range j).any fun k => waitsB ops j k && reaches ops n k i
theorem reaches_closed {L : Nat → Bool} (h : ClosedL ops L) : ∀ (n j i : Nat), reaches ops n j i = true → L j = true → L i = true
  | 0, j, i, hr, hj => h j i hr hj
  | n + 1, j, i, hr, hj => by
    unfold reaches at hr
    rw [Bool.or_eq_true] at hr
    rcases hr with hr | hr
    · exact h j i hr hj
    · obtain ⟨k, _, hk⟩ := List.any_eq_true.1 hr
      rw [Bool.and_eq_true] at hk
      exact reaches_closed h n k i hk.2 (h j k hk.1 hj)
/-- as 'regionB', but who looks at the slot that q writes is waited for by q -/
def lateB (l : List Oper) (q n : Nat) : Bool := dstsB l && (l.zipIdx.all fun (o, i) => (o.after.toList.all fun e => !Region.binds .any e || decide (e.on < i)) &&
    l.zipIdx.all fun (p, j) => match p.dst with
      | some d => !(o.looksAt l.toArray).contains d || (if j = q then reaches l.toArray n q i else o.after.toList.any (fun e => Region.binds .any e && e.on == j))
      | none => true) && Region.noSelect l.toArray

theorem wp_region_late {id : Nat} {l : List Oper} (q n : Nat) {Q : Exit → Act → World → Prop} {a : Act} {w : World} (hm : P.follows .mixedOrders = true) (hB : lateB l q n = true)
    (hin : (l.all fun o => match o.dst with | some d => decide (d < a.tmps.size) | none => true) = true)
    (Rel : World → World → Prop) (hrefl : ∀ w, Rel w w) (htrans : ∀ x y z, Rel x y → Rel y z → Rel x z)
    (S : Nat → Value → World → Prop) (hS : ∀ i v x y, Rel x y → S i v x → S i v y)
    (J : (Nat → Bool) → (Nat → Value) → World → Prop) (hJ0 : J (fun _ => false) (fun _ => undef) w.drew)
    (hstep : PhStep P l.toArray Rel S J w.drew (fun V => fillX l 0 q V a) l 0)
    (hend : ∀ (L : Nat → Bool) (V : Nat → Value) (w' : World), (∀ i, i < l.length → L i = true) → Rel w.drew w' → SFacts S V w' l 0 → J L V w' → Q .normal (fill l 0 V a) w') : (Code.region id l.toArray true).wp P Q a w := by
  simp only [lateB, Bool.and_eq_true] at hB
  obtain ⟨⟨hB1, hB2⟩, hB3⟩ := hB
  have hnd : (l.filterMap (·.dst)).Nodup := of_decide_eq_true hB1
  have hun := dsts_unique l hnd
  have hdeps : ∀ (i : Nat) (o : Oper), l[i]? = some o → (∀ e ∈ o.after, Region.binds .any e = true → e.on < i) ∧
      ∀ (j : Nat) (p : Oper) (t : Tmp), l[j]? = some p → p.dst = some t → t ∈ o.looksAt l.toArray → (j ≠ q ∧ ∃ e ∈ o.after, Region.binds .any e = true ∧ e.on = j) ∨ (j = q ∧ reaches l.toArray n q i = true) := by
    intro i o hi
    have hmem : (o, i) ∈ l.zipIdx := List.mk_mem_zipIdx_iff_getElem?.2 hi
    have h1 := List.all_eq_true.1 hB2 _ hmem
    simp only [Bool.and_eq_true] at h1
    refine ⟨fun e he hb => ?_, fun j p t hj hp ht => ?_⟩
    · have := List.all_eq_true.1 h1.1 e (by simpa using he)
      simpa [hb] using this
    · have hmem' : (p, j) ∈ l.zipIdx := List.mk_mem_zipIdx_iff_getElem?.2 hj
      have := List.all_eq_true.1 h1.2 _ hmem'
      simp only [hp] at this
      rw [Bool.or_eq_true] at this
      rcases this with h | h
      · have hc : (o.looksAt l.toArray).contains t = true := by simpa using ht
        rw [hc] at h
        cases h
      · split at h
        · rename_i hq
          exact .inr ⟨hq, h⟩
        · rename_i hq
          obtain ⟨e, he, hb⟩ := List.any_eq_true.1 h
          simp only [Bool.and_eq_true, beq_iff_eq] at hb
          exact .inl ⟨hq, e, by simpa using he, hb.1, hb.2⟩
  have hlt : ∀ (i : Nat) (o : Oper) (t : Tmp), l[i]? = some o → o.dst = some t → t < a.tmps.size := by
    intro i o t hi ho
    have := List.all_eq_true.1 hin o (List.mem_of_getElem? hi)
    simpa [ho] using this
  have hops : ∀ i : Nat, l.toArray[i]? = l[i]? := fun i => by simp
  refine wp_region_any hm ?_
  let I : Array Bool → Act → World → Prop := fun listed a' w' => ∃ V : Nat → Value, a' = fillP l 0 (fun i => listed.getD i false) V a ∧ Rel w.drew w' ∧
    (∀ i, i < l.length → listed.getD i false = true → S i (V i) w') ∧ J (fun i => listed.getD i false) V w' ∧ ClosedL l.toArray (fun i => listed.getD i false)
  refine wpAny_inv I (fun i o hi => (hdeps i o (by rw [← hops]; exact hi)).1) ?_ ?_ _ _ _ _ (by simp) ?_ ?_
  · intro listed a' w' i hsz hr hI
    obtain ⟨V, rfl, hrel, hSV, hJV, hcl⟩ := hI
    obtain ⟨hun', o, ho, hall⟩ := mem_ready.1 hr
    have ho' : l[i]? = some o := by rw [← hops]; exact ho
    have hil : i < l.length := (List.getElem?_eq_some_iff.1 ho').1
    have hil' : i < listed.size := by rw [hsz]; simpa using hil
    have hlf : listed.getD i false = false := by
      simp only [Array.getD, hil', dif_pos] at hun' ⊢
      exact hun'
    have hsame : ∀ t, t ∈ o.looksAt l.toArray → (fillP l 0 (fun i => listed.getD i false) V a).tmps[t]? = (fillP l 0 (fun i => decide (i ≠ q)) V a).tmps[t]? := by
      intro t ht
      refine fillP_congr l t 0 _ _ V V a a rfl rfl fun j p hj hp => ?_
      simp only [Nat.zero_add]
      refine ⟨?_, trivial⟩
      rcases (hdeps i o ho').2 j p t hj hp ht with ⟨hq, e, he, hb, hej⟩ | ⟨rfl, hr⟩
      · have := hall e he hb
        rw [hej] at this
        rw [this, decide_eq_true hq]
      · rw [decide_eq_false (by simp)]
        exact Bool.eq_false_iff.2 fun e => by rw [reaches_closed hcl n _ _ hr e] at hlf; cases hlf
    have hev : ∀ x ∈ o.op.operands, (fillP l 0 (fun i => listed.getD i false) V a).eval x = (fillP l 0 (fun i => decide (i ≠ q)) V a).eval x := by
      intro x hx
      cases x with
      | tmp t =>
        have := hsame t (by
          unfold Oper.looksAt
          exact List.mem_append.2 (.inl (List.mem_filterMap.2 ⟨.tmp t, by simpa using hx, rfl⟩)))
        show (fillP l 0 (fun i => listed.getD i false) V a).tmps.getD t undef = (fillP l 0 (fun i => decide (i ≠ q)) V a).tmps.getD t undef
        rw [Array.getD_eq_getD_getElem?, Array.getD_eq_getD_getElem?, this]
      | _ => rfl
    have hex : execOp (fillP l 0 (fun i => listed.getD i false) V a).eval o = execOp (fillP l 0 (fun i => decide (i ≠ q)) V a).eval o :=
      execOp_congr o (Region.noSelect_spec hB3 i o · · ho) hev
    have hwant : Region.wanted o (yielded l.toArray (fillP l 0 (fun i => listed.getD i false) V a).tmps) = Region.wanted o (yielded l.toArray (fillP l 0 (fun i => decide (i ≠ q)) V a).tmps) := by
      unfold Region.wanted
      cases hg : o.guard with
      | none => rfl
      | some jw =>
        obtain ⟨j, want⟩ := jw
        simp only
        congr 1
        unfold yielded
        cases hj : (l.toArray[j]?).bind (·.dst) with
        | none => rfl
        | some t =>
          simp only [Option.bind_some]
          rw [hsame t (by
            unfold Oper.looksAt
            refine List.mem_append.2 (.inr ?_)
            rw [hg]
            show t ∈ ((l.toArray[j]?).bind (·.dst)).toList
            rw [hj]
            simp)]
    have hdf : DepFacts S V w' o.after.toList := depFacts_of fun e he hb => by
      have hlt' := (hdeps i o ho').1 e (by simpa using he) hb
      exact hSV e.on (by omega) (hall e (by simpa using he) hb)
    have hdo : ∀ j, waitsB l.toArray i j = true → (fun i => listed.getD i false) j = true := fun j hw => by
      obtain ⟨o2, ho2, e, he, hb, rfl⟩ := waitsB_spec hw
      have : o2 = o := Option.some.inj (ho2.symm.trans ho)
      subst this
      exact hall e he hb
    have hone := (phStep_get hstep i o ho' (fun i => listed.getD i false) V w' hrel hJV (by rw [Nat.zero_add]; exact hlf) (by rw [Nat.zero_add]; exact hdo) hcl hdf).out
    rw [Nat.zero_add] at hone
    simp only [fillX_eq] at hone
    -- what it leaves
    have hK : ∀ v w'', PhPost Rel S J (fun i => listed.getD i false) V i o.dst w' .normal ((fillP l 0 (fun i => decide (i ≠ q)) V a).put o.dst v) w'' → I (listed.setIfInBounds i true) ((fillP l 0 (fun i => listed.getD i false) V a).put o.dst v) w'' := by
      rintro v w'' ⟨⟨_, _, hrel', hv⟩, hJw⟩
      have hval : (o.dst.map fun d => ((fillP l 0 (fun i => decide (i ≠ q)) V a).put o.dst v).tmps.getD d undef).getD undef = match o.dst with | some _ => v | none => undef := by
        cases hd : o.dst with
        | none => rfl
        | some d =>
          have hds := hlt i o d ho' hd
          simp only [Option.map_some, Option.getD_some]
          rw [Array.getD_eq_getD_getElem?, put_same, fillP_size, if_pos hds]
          rfl
      rw [hval] at hv hJw
      have hL : (fun k => (listed.setIfInBounds i true).getD k false) = updL (fun k => listed.getD k false) i := by
        funext k
        unfold updL
        by_cases hk : k = i
        · subst hk
          simp [hil']
        · rw [if_neg hk, getD_set_ne false (Ne.symm hk)]
      refine ⟨fun k => if k = i then (match o.dst with | some _ => v | none => undef) else V k, ?_, htrans _ _ _ hrel hrel', ?_, by rw [hL]; exact hJw, ?_⟩
      · refine act_ext ?_ ?_ ?_
        · rw [put_size, fillP_size, fillP_size]
        · intro t ht
          rw [put_size, fillP_size] at ht
          by_cases hot : o.dst = some t
          · have hput : ((fillP l 0 (fun i => listed.getD i false) V a).put o.dst v).tmps[t]? = some v := by rw [hot, put_same, fillP_size, if_pos ht]
            rw [hput]
            have := fillP_get l t 0 (fun k => (listed.setIfInBounds i true).getD k false) (fun k => if k = i then (match o.dst with | some _ => v | none => undef) else V k) a i o ho' hot (by simp [hil']) ht
              (fun j p hj hp => hun j i p o t hj ho' hp hot)
            rw [this]
            simp [hot]
          · rw [put_other hot]
            refine fillP_congr l t 0 _ _ _ _ a a rfl rfl fun j p hj hp => ?_
            have hne : j ≠ i := fun e => by
              subst e
              rw [hj] at ho'
              injection ho' with e
              exact hot (e ▸ hp)
            simp only [Nat.zero_add, if_neg hne]
            exact ⟨(getD_set_ne false (Ne.symm hne)).symm, trivial⟩
        · rw [put_def, fillP_def, fillP_def]
      · intro k hk hl
        by_cases hki : k = i
        · subst hki
          simp only [if_pos]
          exact hv
        · simp only [if_neg hki]
          rw [getD_set_ne false (Ne.symm hki)] at hl
          exact hS k _ _ _ hrel' (hSV k hk hl)
      · rw [hL]
        intro j k hw hj
        by_cases hji : j = i
        · subst hji
          exact updL_up (hdo k hw)
        · rw [updL_ne hji] at hj
          exact updL_up (hcl j k hw hj)
    unfold wpOp
    rw [ho]
    simp only
    rw [hwant]
    unfold wpList at hone
    split
    · rename_i hw
      rw [if_pos hw] at hone
      refine .inl (op_carry (Q' := PhPost Rel S J (fun i => listed.getD i false) V i o.dst w') hex (fun e x y h => ⟨h.1.1, h.1.2.1⟩) hK ?_)
      rcases hone with h | ⟨_, x, y, h⟩
      · exact h
      · cases h.1.1
    · rename_i hw
      rw [if_neg hw] at hone
      exact hK undef w' hone
  · intro listed a' w' hfull hI
    obtain ⟨V, rfl, hrel, hSV, hJV, hcl⟩ := hI
    have : fillP l 0 (fun i => listed.getD i false) V a = fill l 0 V a := by
      rw [fill_eq]
      refine act_ext (by rw [fillP_size, fillP_size]) (fun t _ => ?_) (by rw [fillP_def, fillP_def])
      refine fillP_congr l t 0 _ _ V V a a rfl rfl fun j p hj hp => ?_
      have hjl : j < l.length := (List.getElem?_eq_some_iff.1 hj).1
      simp only [Nat.zero_add]
      exact ⟨hfull j (by simpa using hjl), trivial⟩
    rw [this]
    exact hend (fun i => listed.getD i false) V w' (fun i hi => hfull i (by simpa using hi)) hrel (sFacts_of fun i hi => by rw [Nat.zero_add]; exact hSV i hi (hfull i (by simpa using hi))) hJV
  · unfold leftOf
    have := List.countP_le_length (p := fun b : Bool => b == false) (l := (Array.replicate l.toArray.size false).toList)
    simpa using this
  · refine ⟨fun _ => undef, ?_, hrefl _, fun i _ h => ?_, ?_, ?_⟩
    · have hnone : ∀ (l : List Oper) (k : Nat) (L : Nat → Bool) (V : Nat → Value) (a : Act), (∀ i, L i = false) → fillP l k L V a = a := by
        intro l
        induction l with
        | nil => intros; rfl
        | cons o l ih => intro k L V a hL; simp only [fillP, hL]; exact ih _ _ _ _ hL
      rw [hnone _ _ _ _ _ fun i => by simp [Array.getElem?_replicate]; split <;> rfl]
    · simp [Array.getElem?_replicate] at h
      split at h <;> simp at h
    · have e : (fun i => (Array.replicate l.toArray.size false).getD i false) = fun _ => false := by
        funext i
        simp [Array.getElem?_replicate]
        split <;> rfl
      rw [e]
      exact hJ0
    · intro j k _ h
      simp [Array.getElem?_replicate] at h
      split at h <;> simp at h

end
end Go.Mun

