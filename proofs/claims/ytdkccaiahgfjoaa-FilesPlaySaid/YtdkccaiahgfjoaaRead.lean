/- How arguments that came in read as lists: readers, and that what the form reads is read by them. Over any program. -/
import Derived.Test.YtdkccaiahgfjoaaLib
import Derived.ProofKit
import Derived.OpenShut
import Derived.ChangeOld
import Derived.Carry
import Derived.DataReads
namespace Go.Mun
open Go Go.RowKit Go.ChangeShapes Go.WideShapes Go.ChangeAt Go.Deep

/-- A reader: these cells, in this world, are this datum. -/
abbrev Reader (α : Type) := World → List Value → α → Prop
/-- What is read stays read while what was there stays. -/
def Reader.Stays {α : Type} (R : Reader α) : Prop := ∀ (w w' : World) (cs : List Value) (a : α), Below w.heap.size w w' → R w cs a → R w' cs a

def rInt (k : IntKind) : Reader Int := fun _ cs n => cs = [.int k n] ∧ (Lit.int k n).wf = true
def rBool : Reader Bool := fun _ cs b => cs = [.bool b]
def rByte : Reader UInt8 := fun _ cs b => cs = [.int .u8 (b.toNat : Int)]
def rBytes : Reader (List UInt8) := fun w cs l => ∃ v, cs = [v] ∧ Bytes w v l

/-- The chunk of a row of cells that is its i-th element. -/
def chunk (xs : List Value) (size i : Nat) : List Value := (xs.drop (i * size)).take size

/-- A slice value whose elements, 'size' cells each, are these data. -/
def SliceOf {α : Type} (size : Nat) (R : Reader α) (w : World) (v : Value) (as : List α) : Prop :=
  ∃ A n c xs, v = .slice A n c ∧ as.length = n ∧ xs.length = n * size ∧ n ≤ c ∧ c ≤ maxLen ∧ Rd w A xs ∧ ∀ i (h : i < as.length), R w (chunk xs size i) as[i]
def rSlice {α : Type} (size : Nat) (R : Reader α) : Reader (List α) := fun w cs as => ∃ v, cs = [v] ∧ SliceOf size R w v as

theorem rInt_stays (k : IntKind) : (rInt k).Stays := fun _ _ _ _ _ h => h
theorem rBool_stays : rBool.Stays := fun _ _ _ _ _ h => h
theorem rByte_stays : rByte.Stays := fun _ _ _ _ _ h => h
theorem rBytes_stays : rBytes.Stays := fun _ _ _ _ hb ⟨v, e, h⟩ => ⟨v, e, h.ext hb⟩
theorem SliceOf.ext {α : Type} {size : Nat} {R : Reader α} (hR : R.Stays) {w w' : World} {v : Value} {as : List α} (h : SliceOf size R w v as) (hb : Below w.heap.size w w') : SliceOf size R w' v as := by
  obtain ⟨A, n, c, xs, rfl, h1, h2, h3, h4, h5, h6⟩ := h
  exact ⟨A, n, c, xs, rfl, h1, h2, h3, h4, h5.ext hb, fun i hi => hR _ _ _ _ hb (h6 i hi)⟩
theorem rSlice_stays {α : Type} {size : Nat} {R : Reader α} (hR : R.Stays) : (rSlice size R).Stays := fun _ _ _ _ hb ⟨v, e, h⟩ => ⟨v, e, h.ext hR hb⟩

/-! ### what the form reads, our readers read -/
section
variable {H : Type} (enc : TypeId × Value → H) (P : Program) (base : Nat) (spare : Nat → Bool) (held : Bool)
/-- Whatever the form reads as a datum of type t reads by R. -/
def Opens {α : Type} (t : TypeId) (R : Reader α) : Prop :=
  ∀ (w : World) (fuel : Nat) (cs : List Value) (x : DataW H × List MemPlace), DataW.trod enc P w base spare held fuel t cs = some x → ∃ a, R w cs a

variable {P}
theorem opens_int {t : TypeId} {k : IntKind} (ht : P.underlying t = some (.int k)) : Opens enc P base spare held t (rInt k) := fun w fuel cs x h => by
  cases fuel with
  | zero => simp [DataW.trod] at h
  | succ f =>
    unfold DataW.trod at h
    rw [ht] at h
    match cs, h with
    | [.int k' n], h =>
      simp only at h
      split at h
      · rename_i hk
        obtain ⟨rfl, hw⟩ := hk
        exact ⟨n, rfl, hw⟩
      · cases h
theorem opens_bool {t : TypeId} (ht : P.underlying t = some .bool) : Opens enc P base spare held t rBool := fun w fuel cs x h => by
  cases fuel with
  | zero => simp [DataW.trod] at h
  | succ f =>
    unfold DataW.trod at h
    rw [ht] at h
    match cs, h with
    | [.bool b], h => exact ⟨b, rfl⟩
theorem opens_byte {t : TypeId} (ht : P.underlying t = some (.int .u8)) : Opens enc P base spare held t rByte := fun w fuel cs x h => by
  obtain ⟨n, rfl, hw⟩ := opens_int enc base spare held ht w fuel cs x h
  have hb := bounds_u8 hw
  refine ⟨UInt8.ofNat n.toNat, ?_⟩
  unfold rByte
  rw [UInt8.toNat_ofNat_of_lt' (by show n.toNat < 256; omega), Int.toNat_of_nonneg (by omega)]
theorem opens_slice {α : Type} {t e : TypeId} {size : Nat} {R : Reader α} (ht : P.underlying t = some (.slice e)) (hc : P.cellsOf e = size)
    (hR : Opens enc P base spare held e R) : Opens enc P base spare held t (rSlice size R) := fun w fuel cs x h => by
  rcases open_slice ht h with ⟨rfl, _⟩ | ⟨a, len, cap, m, n, D, Pl, rfl, _, hl, hm, hmm, _, hx⟩
  · exact ⟨[], _, rfl, none, 0, 0, [], rfl, rfl, by simp, Nat.le_refl _, by simp [maxLen], Rd.nil _ _, fun i hi => absurd hi (by simp)⟩
  · rw [hc] at hx
    have hle : len ≤ m := by rw [hmm]; split <;> omega
    have hcs : ∀ i, i < len → ∃ cs', w.cells? base (a.add (i * size)) size = some cs' ∧ ∃ b, R w cs' b := fun i hi => by
      obtain ⟨cs', h1, h2⟩ := hx i (by omega)
      exact ⟨cs', h1, hR w n cs' _ h2⟩
    let xs : List Value := (List.range (len * size)).map fun j => (w.cell? (a.add j)).getD undef
    have hcell : ∀ i, i < len → ∀ j, j < size → ∀ cs', w.cells? base (a.add (i * size)) size = some cs' → w.cell? (a.add (i * size + j)) = cs'[j]? := fun i hi j hj cs' h1 => by
      obtain ⟨_, _, h2⟩ := World.cells?_some h1
      rw [← h2 j hj, add_add]
    have hlt : ∀ i j, i < len → j < size → i * size + j < len * size := fun i j hi hj => by
      have : (i + 1) * size ≤ len * size := Nat.mul_le_mul_right _ hi
      rw [Nat.add_mul] at this
      omega
    have hchunk : ∀ i, i < len → ∀ cs', w.cells? base (a.add (i * size)) size = some cs' → chunk xs size i = cs' := fun i hi cs' h1 => by
      obtain ⟨_, hlen, _⟩ := World.cells?_some h1
      apply List.ext_getElem?
      intro j
      unfold chunk
      rw [List.getElem?_take]
      split
      · rename_i hj
        have hj' := hlt i j hi hj
        rw [List.getElem?_drop]
        show ((List.range (len * size)).map _)[i * size + j]? = _
        rw [List.getElem?_map, List.getElem?_range hj']
        have := hcell i hi j hj cs' h1
        rw [List.getElem?_eq_getElem (by omega : j < cs'.length)] at this ⊢
        simp [this]
      · rename_i hj
        rw [List.getElem?_eq_none (by omega)]
    obtain ⟨f, hf⟩ := choose_lt (α := Option α) (p := fun i b => ∃ b', b = some b' ∧ R w (chunk xs size i) b') (n := len) (fun i hi => by
      obtain ⟨cs', h1, b, h2⟩ := hcs i hi
      exact ⟨some b, b, rfl, by rw [hchunk i hi cs' h1]; exact h2⟩)
    by_cases h0 : len = 0
    · subst h0
      exact ⟨[], _, rfl, some a, 0, cap, [], rfl, rfl, by simp, hl, hm, Rd.nil _ _, fun i hi => absurd hi (by simp)⟩
    · obtain ⟨b0, _, _⟩ := hf 0 (by omega)
      refine ⟨(List.range len).map fun i => (f i).getD b0, _, rfl, some a, len, cap, xs, rfl, by simp, by simp [xs], hl, hm, Rd.of_cells fun j u hu => ?_, fun i hi => ?_⟩
      · have hj : j < len * size := by
          have : j < xs.length := (List.getElem?_eq_some_iff.1 hu).1
          simpa [xs] using this
        have hs : 0 < size := Nat.pos_of_ne_zero fun e => by subst e; simp at hj
        have hdiv : j / size < len := Nat.div_lt_of_lt_mul (by rw [Nat.mul_comm]; exact hj)
        have hmod : j % size < size := Nat.mod_lt _ hs
        obtain ⟨cs', h1, _⟩ := hcs (j / size) hdiv
        obtain ⟨_, hlen, _⟩ := World.cells?_some h1
        have := hcell (j / size) hdiv (j % size) hmod cs' h1
        rw [show j / size * size + j % size = j from by rw [Nat.mul_comm]; exact Nat.div_add_mod j size, List.getElem?_eq_getElem (by omega : j % size < cs'.length)] at this
        have hu' : xs[j]? = some ((w.cell? (a.add j)).getD undef) := by
          show ((List.range (len * size)).map _)[j]? = _
          rw [List.getElem?_map, List.getElem?_range hj]; rfl
        rw [hu'] at hu
        rw [this] at hu ⊢
        simpa using hu
      · have hi' : i < len := by simpa using hi
        obtain ⟨b', e, hb⟩ := hf i hi'
        simp only [List.getElem_map, List.getElem_range, e]
        exact hb
theorem opens_bytes {t e : TypeId} (ht : P.underlying t = some (.slice e)) (he : P.underlying e = some (.int .u8)) (hc : P.cellsOf e = 1) : Opens enc P base spare held t rBytes := fun w fuel cs x h => by
  obtain ⟨as, v, rfl, A, n, c, xs, rfl, h1, h2, h3, h4, h5, h6⟩ := opens_slice enc base spare held ht hc (opens_byte enc base spare held he) w fuel cs x h
  have e : xs = bv as := by
    apply List.ext_getElem?
    intro j
    by_cases hj : j < as.length
    · have := h6 j hj
      unfold rByte chunk at this
      rw [Nat.mul_one] at this
      rw [bv_get hj]
      have h0 : ((xs.drop j).take 1)[0]? = xs[j]? := by simp
      rw [← h0, this]; rfl
    · rw [List.getElem?_eq_none (by omega), List.getElem?_eq_none (by rw [bv_length]; omega)]
  subst e
  exact ⟨as, _, rfl, A, n, c, rfl, h1, h3, h4, h5⟩
end
end Go.Mun
