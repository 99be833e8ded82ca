/- The reference's calls, as a law meets them. -/
import Derived.Test.YtdkccaiahgfjoaaFrNew
namespace Go.Mun
open Go Go.RowKit Go.Proofs Go.Maps

section
variable {k p : Nat} {M : FSs} {φ : Nat → Nat} {o : Own} {K L : Nat} {w : World}
theorem AppendR_any (h : RelR k p M φ o K L w) (n : Ky) (va : Value) (l : List UInt8) (hv : Bytes w va l) (hvf : Free o k va) (hl : l.length ≤ 1000000000) (hL : L ≤ 1000000000) (hK : K ≤ 100000) (CO : OpAny k p M o K L w) :
    Calls Try.prog 12 #[.pointer (some ⟨p, 0, none⟩), .string ⟨n.toArray⟩, va] w fun e w' => e = .returned (.bool (goesB M (appOk M n))) ∧ ∃ o' φ', RelR k p (appM M n l) φ' o' (K + 2) (L + l.length) w' ∧ Turn k o o' w w' := by
  cases hd : M.dead
  · cases hg : getP M.now n with
    | some i =>
      cases hf : failsB M
      · exact AppR_old h n va l hv hvf hl hL hd hg hf CO
      · exact AppR_oldoff h n va l hd hg hf CO
    | none =>
      by_cases hno : n = [] ∨ 100 < n.length ∨ ¬ M.now.length < 200
      · exact AppR_none h n va l hd hg hno
      · have h1 : NameOk n := ⟨fun e => hno (.inl e), Nat.le_of_not_lt fun e => hno (.inr (.inl e))⟩
        have h2 : M.now.length < 200 := Classical.byContradiction fun e => hno (.inr (.inr e))
        cases hf : failsB M
        · exact AppR_new h n va l hv hvf hl hL hK hd hg h1 h2 hf CO
        · exact AppR_newoff h n va l hd hg h1 h2 hf CO
  · exact AppR_dead h n va l hd
end
/-- the reference's files at p, k's, in a world that began as w0 -/
structure RfIn (k p : Nat) (M : FSs) (o : Own) (K L : Nat) (w0 w : World) : Prop where
  rel : ∃ φ, RelR k p M φ o K L w
  below : Below w0.heap.size w0 w
  base : ∀ b, b < w0.heap.size → o b = none
section
variable {k p : Nat} {M : FSs} {o o' : Own} {K L : Nat} {w0 w w' : World}
theorem RfIn.own (h : RfIn k p M o K L w0 w) : OwnIn o w := by obtain ⟨φ, h⟩ := h.rel; exact h.own
theorem RfIn.to {M' : FSs} {K' L' : Nat} (h : RfIn k p M o K L w0 w) (hr : ∃ φ, RelR k p M' φ o' K' L' w') (hT : Turn k o o' w w') : RfIn k p M' o' K' L' w0 w' :=
  ⟨hr, h.below.trans (hT.under h.below.size h.base), hT.base h.below.size h.base⟩
theorem RfIn.turn {j q : Nat} {M : FSs} (h : RfIn j q M o K L w0 w) (ho : OwnIn o' w') (hT : Turn k o o' w w') (hj : j ≠ k) : RfIn j q M o' K L w0 w' := by
  obtain ⟨φ, hr⟩ := h.rel
  exact ⟨⟨φ, hr.stays ho hT hj⟩, h.below.trans (hT.under h.below.size h.base), hT.base h.below.size h.base⟩
theorem RfIn.ext (h : RfIn k p M o K L w0 w) (hb : Below w.heap.size w w') : RfIn k p M o K L w0 w' :=
  h.turn (k := k + 1) (h.own.more hb.size) (Turn.below h.own hb) (by omega)
theorem RfIn.more {K' L' : Nat} (h : RfIn k p M o K L w0 w) (hK : K ≤ K') (hL : L ≤ L') : RfIn k p M o K' L' w0 w := by
  obtain ⟨φ, hr⟩ := h.rel
  exact ⟨⟨φ, hr.more hK hL⟩, h.below, h.base⟩
theorem RfIn.fine (h : RfIn k p M o K L w0 w) : Fine M := by obtain ⟨φ, h⟩ := h.rel; exact h.fine
theorem RfIn.made {g : Nat} (ho : OwnIn o w) (hb0 : Below w0.heap.size w0 w) (hn : ∀ b, b < w0.heap.size → o b = none) (hg : g = w.heap.size) (hb : Below w.heap.size w w') (hx : Blk w' g 37 #[.slice none 0 0, .slice none 0 0, .slice none 0 0, .bool false, .int .i64 0, .int .i64 0, .slice none 0 0, .int .i64 0, .bool false, .int .i64 0]) :
    ∃ o', RfIn k g newM o' 0 0 w0 w' ∧ Turn k o o' w w' := by
  obtain ⟨h1, h2⟩ := RelR.made (k := k) (fun _ => 0) ho hg hb hx
  exact ⟨_, ⟨⟨_, h1⟩, hb0.trans (h2.under hb0.size hn), h2.base hb0.size hn⟩, h2⟩
/-- while no loss of power is planned -/
theorem RfApp_in (h : RfIn k p M o K L w0 w) (hop : M.op ≠ 0) (n : Ky) (va : Value) (l : List UInt8) (hv : Bytes w va l) (hvf : Free o k va) (hl : l.length ≤ 1000000000) (hK : K ≤ 100000) (hL : L ≤ 1000000000) :
    Calls Try.prog 12 #[.pointer (some ⟨p, 0, none⟩), .string ⟨n.toArray⟩, va] w fun e w' => e = .returned (.bool (goesB M (appOk M n))) ∧ ∃ o', RfIn k p (appM M n l) o' (K + 2) (L + l.length) w0 w' ∧ Turn k o o' w w' := by
  obtain ⟨φ, hr⟩ := h.rel
  exact (AppendR_any hr n va l hv hvf hl hL hK (OpAny.go hr hop (by omega))).mono fun e w' ⟨h1, o', φ', h2, h3⟩ => ⟨h1, o', h.to ⟨φ', h2⟩ h3, h3⟩
theorem RfSync_in (h : RfIn k p M o K L w0 w) (hop : M.op ≠ 0) (n : Ky) (hK : K ≤ 100000) :
    Calls Try.prog 14 #[.pointer (some ⟨p, 0, none⟩), .string ⟨n.toArray⟩] w fun e w' => e = .returned (.bool (goesB M (isB M n))) ∧ ∃ o', RfIn k p (syncM M n) o' (K + 2) L w0 w' ∧ Turn k o o' w w' := by
  obtain ⟨φ, hr⟩ := h.rel
  exact (SyncR_any hr n (OpAny.go hr hop (by omega))).mono fun e w' ⟨h1, o', φ', h2, h3⟩ => ⟨h1, o', h.to ⟨φ', h2⟩ h3, h3⟩
theorem RfDir_in (h : RfIn k p M o K L w0 w) (hop : M.op ≠ 0) (hK : K ≤ 100000) :
    Calls Try.prog 16 #[.pointer (some ⟨p, 0, none⟩)] w fun e w' => e = .returned (.bool (goesB M (!M.dead))) ∧ ∃ o', RfIn k p (dirM M) o' (K + 2) L w0 w' ∧ Turn k o o' w w' := by
  obtain ⟨φ, hr⟩ := h.rel
  exact (SyncDirR_any hr (OpAny.go hr hop (by omega))).mono fun e w' ⟨h1, o', φ', h2, h3⟩ => ⟨h1, o', h.to ⟨φ', h2⟩ h3, h3⟩
theorem RfNames_in (h : RfIn k p M o K L w0 w) (hK : K ≤ 100000) : Calls Try.prog 17 #[.pointer (some ⟨p, 0, none⟩)] w fun e w' => ∃ v, e = .returned v ∧ w'.ownsRow w.heap.size 9 1 v (namesM M).length ((namesM M).map strV) ∧ Below w.heap.size w w' ∧ RfIn k p M o K L w0 w' := by
  obtain ⟨φ, hr⟩ := h.rel
  exact (NamesR_any hr (by omega)).mono fun e w' ⟨v, h1, h2, h3⟩ => ⟨v, h1, h2, h3, h.ext h3⟩
theorem RfRead_in (h : RfIn k p M o K L w0 w) (n : Ky) (hL : L ≤ 140737488355328) : Calls Try.prog 18 #[.pointer (some ⟨p, 0, none⟩), .string ⟨n.toArray⟩] w fun e w' => ∃ v, e = .returned (.tuple #[v, .bool (isB M n)]) ∧ w'.ownsRow w.heap.size 5 1 v (readM M n).length (bv (readM M n)) ∧ Below w.heap.size w w' ∧ RfIn k p M o K L w0 w' := by
  obtain ⟨φ, hr⟩ := h.rel
  cases hb : isB M n
  · have e : readM M n = [] := by unfold readM; rw [hb]; rfl
    rw [e]
    exact (ReadR_no hr n hb).mono fun e w' ⟨h1, h2⟩ => ⟨_, h1, World.ownsRow_nil _ _ _ _, h2, h.ext h2⟩
  · obtain ⟨i, hg⟩ := isB_get hb
    have e : readM M n = (M.fs i).b := by unfold readM; rw [hb, hg]; rfl
    rw [e]
    exact (ReadR_yes hr n hb hg hL).mono fun e w' ⟨v, h1, h2, h3⟩ => ⟨v, h1, h2, h3, h.ext h3⟩
end
end Go.Mun
