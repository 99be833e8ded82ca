/- A KV while the power is off, and behind it. -/
import Derived.Test.YthjnebngdcdicaaKvT
namespace Go.Mun
open Go Go.RowKit Go.Proofs Go.Maps

abbrev someOther : List UInt8 := [115, 111, 109, 101, 32, 111, 116, 104, 101, 114, 32, 102, 105, 108, 101]
/-- files, a KV that may have seen the power fail, and a row of its pairs -/
structure Dk (p q : Nat) (M : FSs) (S : PLB) (t : Nat) (dead : Bool) (v : Value) (o : Own) (w0 w : World) : Prop where
  ft : FT 0 p M S t o w0 w
  kv : ∃ N clean, N ≤ 60 * t ∧ KvAt 1 q p S clean dead o N w
  ps : PairsF o w v S
section
variable {p q t : Nat} {M : FSs} {S : PLB} {clean dead : Bool} {v : Value} {o o' : Own} {w0 w w' : World}
theorem Dk.below (h : Dk p q M S t dead v o w0 w) : Below w0.heap.size w0 w := h.ft.fs.below
theorem Dk.ext (h : Dk p q M S t dead v o w0 w) (hb : Below w.heap.size w w') : Dk p q M S t dead v o w0 w' := by
  obtain ⟨N, c, hN, hk⟩ := h.kv
  exact ⟨h.ft.ext hb, ⟨N, c, hN, hk.ext hb⟩, h.ps.ext h.ft.own hb⟩
/-- the files turn -/
theorem Dk.files {M' : FSs} {t' : Nat} (h : Dk p q M S t dead v o w0 w) (hf : FT 0 p M' S t' o' w0 w') (hT : Turn 0 o o' w w') (ht : t ≤ t') : Dk p q M' S t' dead v o' w0 w' := by
  obtain ⟨N, c, hN, hk⟩ := h.kv
  exact ⟨hf, ⟨N, c, by omega, hk.turn hT (by decide)⟩, h.ps.turn hT⟩
theorem Dk.of {clean : Bool} (h : KT 0 1 p q M S clean t o w0 w) (hp : PairsF o w v S) : Dk p q M S t false v o w0 w := by
  obtain ⟨N, hN, hk⟩ := h.kv
  exact ⟨h.ft, ⟨N, _, hN, hk⟩, hp⟩
theorem Dk_plan (h : Dk p q M S t dead v o w0 w) :
    Calls Try.prog 24 #[.pointer (some ⟨p, 0, none⟩), .agg #[.int .i64 0, .int .i64 0, .slice none 0 0]] w fun e w' => e = .returned (.tuple #[]) ∧ ∃ o', Dk p q (planM M 0 0 []) S t dead v o' w0 w' :=
  (Plan_t h.ft 0 0 _ [] (by decide) (by decide) (Bools.nil _) Free.nil (by decide)).mono fun _ _ ⟨h1, o', h2, h3⟩ => ⟨h1, o', h.files h2 h3 (Nat.le_refl _)⟩
/-- the power fails at an Append -/
theorem Dk_crash (h : Dk p q M S t dead v o w0 w) (hd : M.dead = false) (hop : M.op = 0) (ht : t ≤ 31) :
    Calls Try.prog 28 #[.pointer (some ⟨p, 0, none⟩), .string ⟨someOther.toArray⟩, .slice none 0 0] w fun e w' => e = .returned (.bool false) ∧ ∃ o', Dk p q (crashM M) S (t + 1) dead v o' w0 w' := by
  obtain ⟨there, b, hR, _⟩ := h.ft.st.ex
  rw [hd] at hR
  have hn : getP M.now someOther = none := by
    cases hg : getP M.now someOther with
    | none => rfl
    | some i =>
      have h1 := hR.log.two _ (getP_mem hg)
      exact absurd (show someOther = cLog ∨ someOther = cAnew from h1) (by decide)
  have hok := appOk_new hd (n := someOther) (by decide) hn (two_len hR.rises hR.log.two)
  have e1 : goesB M (appOk M someOther) = false := by unfold goesB; rw [failsB_yes hop]; simp
  refine (App_in h.ft.fs someOther (by decide) _ [] (Bytes.nil _) Free.nil (by decide) (by omega) (by omega)).mono ?_
  rintro e w' ⟨h1, o', h2, h3⟩
  rw [e1] at h1
  rw [app_off hok hop] at h2
  exact ⟨h1, o', h.files ⟨h2.le (by omega) (by simp only [List.length_nil]; omega), (h.ft.st.off hd rfl).mono (by omega) (by unfold Bt; omega), h.ft.small.mono (by omega)⟩ h3 (by omega)⟩
theorem Dk_woff {vl : Value} {l : List Rec} (h : Dk p q M S t dead v o w0 w) (ht : t ≤ 31) (hd : dead = true ∨ M.dead = true) (hl : SliceOf 3 rOp w vl l) (hw : SmallL l) :
    Calls Try.prog 12 #[.pointer (some ⟨q, 0, none⟩), vl] w fun e w' => e = .returned (.int .i64 8) ∧ Dk p q M S t true v o w0 w' := by
  obtain ⟨N, c, hN, hk⟩ := h.kv
  refine (Write_off hk h.ft.fs (by decide) hd hl hw.wide (by omega)).mono ?_
  rintro e w' ⟨he, h1, h2, h3⟩
  exact ⟨he, ⟨h2, h.ft.st, h.ft.small⟩, ⟨_, _, hN, h3⟩, h.ps.turn h1⟩
theorem Dk_coff (h : Dk p q M S t dead v o w0 w) (hd : dead = true ∨ M.dead = true) :
    Calls Try.prog 16 #[.pointer (some ⟨q, 0, none⟩)] w fun e w' => e = .returned (.int .i64 8) ∧ Dk p q M S t true v o w0 w' := by
  obtain ⟨N, c, hN, hk⟩ := h.kv
  refine (Compact_off hk h.ft.fs (by decide) hd).mono ?_
  rintro e w' ⟨he, h1, h2, h3⟩
  exact ⟨he, ⟨h2, h.ft.st, h.ft.small⟩, ⟨_, _, hN, h3⟩, h.ps.turn h1⟩
theorem Dk_start (h : Dk p q M S t dead v o w0 w) :
    Calls Try.prog 26 #[.pointer (some ⟨p, 0, none⟩)] w fun e w' => e = .returned (.tuple #[]) ∧ Dk p q (startM M) S t dead v o w0 w' :=
  (Start_t h.ft).mono fun _ _ ⟨h1, h2, h3⟩ => ⟨h1, h.files h2 h3 (Nat.le_refl _)⟩
theorem Dk_dead (h : Dk p q M S t dead v o w0 w) (x : Bool) (hx : M.dead = x) : Calls Try.prog 25 #[.pointer (some ⟨p, 0, none⟩)] w fun e w' => e = .returned (.bool x) ∧ w = w' := by
  rw [← hx]
  exact Dead_t h.ft
theorem Dk_open (h : Dk p q M S t dead v o w0 w) (hd : M.dead = false) (ht : t ≤ 31) :
    Calls Try.prog 11 #[.pointer (some ⟨p, 0, none⟩)] w fun e w' => ∃ q2, e = .returned (.tuple #[.pointer (some ⟨q2, 0, none⟩), .int .i64 0]) ∧ ∃ clean o', KT 0 2 p q2 M S clean t o' w0 w' ∧ Dk p q M S t dead v o' w0 w' := by
  obtain ⟨N, c, hN, hk⟩ := h.kv
  refine (Open_t h.ft hd (j := 2) (by decide) ht).mono ?_
  rintro e w' ⟨q2, clean, o', he, h1, h2⟩
  exact ⟨q2, he, clean, o', h1, ⟨h.ft.turn h1.fs.own h2 (by decide), ⟨_, _, hN, hk.turn h2 (by decide)⟩, h.ps.turn h2⟩⟩
theorem Dk_pairs (h : Dk p q M S t dead v o w0 w) :
    Calls Try.prog 22 #[.pointer (some ⟨q, 0, none⟩)] w fun e w' => ∃ v', e = .returned v' ∧ SliceOf 2 rPair w' v' S ∧ Below w.heap.size w w' := by
  obtain ⟨N, c, hN, hk⟩ := h.kv
  exact (Pairs_any hk).mono fun _ _ ⟨v, h1, h2, h3⟩ => ⟨v, h1, h2.slice, h3⟩
end
end Go.Mun
