/- The calls on files, as a law meets them: what was there before the law began is as it was. -/
import Derived.Test.YtdkccaiahgfjoaaFsAppend
namespace Go.Mun
open Go Go.RowKit Go.Proofs Go.Maps

/-- the files at p, k's, in a world that began as w0 -/
structure FsIn (k p : Nat) (M : FSs) (o : Own) (K L : Nat) (w0 w : World) : Prop where
  rel : ∃ φ, RelP k p M φ o K L w
  below : Below w0.heap.size w0 w
  base : ∀ b, b < w0.heap.size → o b = none
def readM (M : FSs) (n : Ky) : List UInt8 := if isB M n = true then (match getP M.now n with | some i => (M.fs i).b | none => []) else []
def namesM (M : FSs) : List Ky := if M.dead = true then [] else M.now.map (·.1)
section
variable {k p : Nat} {M : FSs} {o o' : Own} {K L : Nat} {w0 w w' : World}
theorem FsIn.own (h : FsIn k p M o K L w0 w) : OwnIn o w := by obtain ⟨φ, h⟩ := h.rel; exact h.own
theorem FsIn.to {M' : FSs} {K' L' : Nat} (h : FsIn k p M o K L w0 w) (hr : ∃ φ, RelP k p M' φ o' K' L' w') (hT : Turn k o o' w w') : FsIn k p M' o' K' L' w0 w' :=
  ⟨hr, h.below.trans (hT.under h.below.size h.base), hT.base h.below.size h.base⟩
theorem FsIn.turn {j q : Nat} {M : FSs} (h : FsIn j q M o K L w0 w) (ho : OwnIn o' w') (hT : Turn k o o' w w') (hj : j ≠ k) : FsIn j q M o' K L w0 w' := by
  obtain ⟨φ, hr⟩ := h.rel
  exact ⟨⟨φ, hr.stays ho hT hj⟩, h.below.trans (hT.under h.below.size h.base), hT.base h.below.size h.base⟩
theorem FsIn.ext (h : FsIn k p M o K L w0 w) (hb : Below w.heap.size w w') : FsIn k p M o K L w0 w' :=
  h.turn (k := k + 1) (h.own.more hb.size) (Turn.below h.own hb) (by omega)
theorem FsIn.more {K' L' : Nat} (h : FsIn k p M o K L w0 w) (hK : K ≤ K') (hL : L ≤ L') : FsIn k p M o K' L' w0 w := by
  obtain ⟨φ, hr⟩ := h.rel
  exact ⟨⟨φ, hr.more hK hL⟩, h.below, h.base⟩
theorem FsIn.fine (h : FsIn k p M o K L w0 w) : Fine M := by obtain ⟨φ, h⟩ := h.rel; exact h.fine
/-- bytes in a block that is nobody's -/
theorem Free.of {v : Value} (h : ∀ ad n c, v = .slice (some ad) n c → o ad.block = none) : Free o k v := fun ad n c e _ t => by rw [h ad n c e]; simp
theorem Free.nil {n c : Nat} : Free o k (.slice none n c) := fun ad n c e t => by cases e
theorem Free.new (ho : OwnIn o w) {A : Option Addr} {n c : Nat} (h : ∀ ad, A = some ad → w.heap.size ≤ ad.block) : Free o k (.slice A n c) := fun ad n' c' e _ t => by
  injection e with e
  rw [ho _ (h ad e)]
  simp
theorem Free.arg {v : Value} {l : List UInt8} (hb : ∀ b, b < w0.heap.size → o b = none) (h : Bytes w0 v l) : Free o k v := fun ad n c e hn t => by
  obtain ⟨A, n', c', e', h1, _, _, h4⟩ := h
  rw [e] at e'
  injection e' with e1 e2 e3
  subst e1 e2
  have hx : ∃ u, (bv l)[0]? = some u := ⟨_, List.getElem?_eq_getElem (by rw [bv_length]; omega)⟩
  obtain ⟨u, hu⟩ := hx
  obtain ⟨ad', e5, hc⟩ := h4 0 u hu
  injection e5 with e5
  subst e5
  have := World.block_lt_of_cell? w0 _ hc
  rw [add_block] at this
  rw [hb _ this]
  simp
theorem New_in (k : Nat) (ho : OwnIn o w) (hb : Below w0.heap.size w0 w) (hn : ∀ b, b < w0.heap.size → o b = none) :
    Calls Try.prog 10 #[] w fun e w' => ∃ p o', e = .returned (.pointer (some ⟨p, 0, none⟩)) ∧ FsIn k p newM o' 0 0 w0 w' ∧ Turn k o o' w w' :=
  (New_any k (fun _ => 0) o w ho).mono fun _ _ ⟨p, o', h1, h2, h3⟩ => ⟨p, o', h1, ⟨⟨_, h2⟩, hb.trans (h3.under hb.size hn), h3.base hb.size hn⟩, h3⟩
theorem App_in (h : FsIn k p M o K L w0 w) (n : Ky) (hn : n.length ≤ 1000000) (va : Value) (l : List UInt8) (hv : Bytes w va l) (hvf : Free o k va) (hl : l.length ≤ 1000000000) (hK : K < 1000000000) (hL : L ≤ 1000000000) :
    Calls Try.prog 11 #[.pointer (some ⟨p, 0, none⟩), .string ⟨n.toArray⟩, va] w fun e w' => e = .returned (.bool (goesB M (appOk M n))) ∧ ∃ o', FsIn k p (appM M n l) o' (K + 2) (L + l.length) w0 w' ∧ Turn k o o' w w' := by
  obtain ⟨φ, hr⟩ := h.rel
  exact (Append_any hr n hn va l hv hvf hl hK hL).mono fun _ w' ⟨h1, o', φ', h2, h3⟩ => ⟨h1, o', h.to ⟨φ', h2⟩ h3, h3⟩
theorem Sync_in (h : FsIn k p M o K L w0 w) (n : Ky) (hn : n.length ≤ 1000000) (hK : K < 1000000000) (hL : L ≤ 1000000000) :
    Calls Try.prog 13 #[.pointer (some ⟨p, 0, none⟩), .string ⟨n.toArray⟩] w fun e w' => e = .returned (.bool (goesB M (isB M n))) ∧ ∃ o', FsIn k p (syncM M n) o' (K + 2) L w0 w' ∧ Turn k o o' w w' := by
  obtain ⟨φ, hr⟩ := h.rel
  exact (Sync_any hr n hn (by omega) hL).mono fun _ w' ⟨h1, o', φ', h2, h3⟩ => ⟨h1, o', h.to ⟨φ', h2⟩ h3, h3⟩
theorem Dir_in (h : FsIn k p M o K L w0 w) (hK : K < 1000000000) (hL : L ≤ 1000000000) :
    Calls Try.prog 15 #[.pointer (some ⟨p, 0, none⟩)] w fun e w' => e = .returned (.bool (goesB M (!M.dead))) ∧ ∃ o', FsIn k p (dirM M) o' (K + 2) L w0 w' ∧ Turn k o o' w w' := by
  obtain ⟨φ, hr⟩ := h.rel
  exact (SyncDir_any hr (by omega) hL).mono fun _ w' ⟨h1, o', φ', h2, h3⟩ => ⟨h1, o', h.to ⟨φ', h2⟩ h3, h3⟩
theorem Ren_in (h : FsIn k p M o K L w0 w) (a b : Ky) (ha : a.length ≤ 1000000) (hb : b.length ≤ 1000000) (hK : K < 1000000000) (hL : L ≤ 1000000000) :
    Calls Try.prog 25 #[.pointer (some ⟨p, 0, none⟩), .string ⟨a.toArray⟩, .string ⟨b.toArray⟩] w fun e w' => e = .returned (.bool (goesB M (isB M a && namedB b))) ∧ ∃ o', FsIn k p (renM M a b) o' (K + 2) L w0 w' ∧ Turn k o o' w w' := by
  obtain ⟨φ, hr⟩ := h.rel
  exact (Rename_any hr a b ha hb hK hL).mono fun _ w' ⟨h1, o', φ', h2, h3⟩ => ⟨h1, o', h.to ⟨φ', h2⟩ h3, h3⟩
theorem Del_in (h : FsIn k p M o K L w0 w) (n : Ky) (hn : n.length ≤ 1000000) (hK : K < 1000000000) (hL : L ≤ 1000000000) :
    Calls Try.prog 24 #[.pointer (some ⟨p, 0, none⟩), .string ⟨n.toArray⟩] w fun e w' => e = .returned (.bool (goesB M (isB M n))) ∧ ∃ o', FsIn k p (delM M n) o' (K + 2) L w0 w' ∧ Turn k o o' w w' := by
  obtain ⟨φ, hr⟩ := h.rel
  exact (Delete_any hr n hn hK hL).mono fun _ w' ⟨h1, o', φ', h2, h3⟩ => ⟨h1, o', h.to ⟨φ', h2⟩ h3, h3⟩
theorem Plan_in (h : FsIn k p M o K L w0 w) (op cut : Int) (kv : Value) (keep : List Bool) (hop : -9223372036854775808 ≤ op ∧ op ≤ 9223372036854775807) (hcut : -9223372036854775808 ≤ cut ∧ cut ≤ 9223372036854775807) (hk : Bools w kv keep) (hko : Free o k kv) (hl : keep.length ≤ 140737488355328) :
    Calls Try.prog 19 #[.pointer (some ⟨p, 0, none⟩), .agg #[.int .i64 op, .int .i64 cut, kv]] w fun e w' => e = .returned (.tuple #[]) ∧ ∃ o', FsIn k p (planM M op cut keep) o' K L w0 w' ∧ Turn k o o' w w' := by
  obtain ⟨φ, hr⟩ := h.rel
  exact (Plan_any hr op cut kv keep hop hcut hk hko hl).mono fun _ w' ⟨h1, o', h2, h3⟩ => ⟨h1, o', h.to ⟨φ, h2⟩ h3, h3⟩
theorem Start_in (h : FsIn k p M o K L w0 w) :
    Calls Try.prog 20 #[.pointer (some ⟨p, 0, none⟩)] w fun e w' => e = .returned (.tuple #[]) ∧ FsIn k p (startM M) o K L w0 w' ∧ Turn k o o w w' := by
  obtain ⟨φ, hr⟩ := h.rel
  exact (Start_any hr).mono fun _ w' ⟨h1, h2, h3⟩ => ⟨h1, h.to ⟨φ, h2⟩ h3, h3⟩
theorem Dead_in (h : FsIn k p M o K L w0 w) : Calls Try.prog 26 #[.pointer (some ⟨p, 0, none⟩)] w fun e w' => e = .returned (.bool M.dead) ∧ w = w' := by
  obtain ⟨φ, hr⟩ := h.rel
  exact Dead_any hr
theorem Ops_in (h : FsIn k p M o K L w0 w) : Calls Try.prog 23 #[.pointer (some ⟨p, 0, none⟩)] w fun e w' => e = .returned (.int .i64 M.ops) ∧ w = w' := by
  obtain ⟨φ, hr⟩ := h.rel
  exact Ops_any hr
theorem Names_in (h : FsIn k p M o K L w0 w) (hn : M.now.length ≤ 100000) : Calls Try.prog 22 #[.pointer (some ⟨p, 0, none⟩)] w fun e w' => ∃ v, e = .returned v ∧ w'.ownsRow w.heap.size 9 1 v (namesM M).length ((namesM M).map strV) ∧ Below w.heap.size w w' ∧ FsIn k p M o K L w0 w' := by
  obtain ⟨φ, hr⟩ := h.rel
  cases hd : M.dead
  · have e : namesM M = M.now.map (·.1) := by unfold namesM; rw [hd]; rfl
    rw [e, List.length_map, List.map_map]
    exact (Names_any hr hd hn).mono fun _ w' ⟨v, h1, h2, h3⟩ => ⟨v, h1, h2, h3, h.ext h3⟩
  · have e : namesM M = [] := by unfold namesM; rw [hd]; rfl
    rw [e]
    exact (Names_dead hr hd).mono fun _ w' ⟨h1, h2⟩ => ⟨_, h1, by subst h2; exact ⟨World.ownsRow_nil _ _ _ _, Below.refl _ _, h⟩⟩
theorem Read_in (h : FsIn k p M o K L w0 w) (n : Ky) (hn : n.length ≤ 1000000) (hL : L ≤ 140737488355328) : Calls Try.prog 21 #[.pointer (some ⟨p, 0, none⟩), .string ⟨n.toArray⟩] w fun e w' => ∃ v, e = .returned (.tuple #[v, .bool (isB M n)]) ∧ w'.ownsRow w.heap.size 5 1 v (readM M n).length (bv (readM M n)) ∧ Below w.heap.size w w' ∧ FsIn k p M o K L w0 w' := by
  obtain ⟨φ, hr⟩ := h.rel
  cases hb : isB M n
  · have e : readM M n = [] := by unfold readM; rw [hb]; rfl
    rw [e]
    exact (FsRead_no hr n hn hb).mono fun _ w' ⟨h1, h2⟩ => ⟨_, h1, by subst h2; exact ⟨World.ownsRow_nil _ _ _ _, Below.refl _ _, h⟩⟩
  · obtain ⟨i, hg⟩ := isB_get hb
    have e : readM M n = (M.fs i).b := by unfold readM; rw [hb, hg]; rfl
    rw [e]
    exact (FsRead_yes hr n hn hb hg hL).mono fun _ w' ⟨v, h1, h2, h3⟩ => ⟨v, h1, h2, h3, h.ext h3⟩
end
end Go.Mun
