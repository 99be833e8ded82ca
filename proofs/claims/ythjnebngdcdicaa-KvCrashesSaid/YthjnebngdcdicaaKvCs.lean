/- Losses of power as often as they come: the states between the calls. -/
import Derived.Test.YthjnebngdcdicaaKvCr
namespace Go.Mun
open Go Go.RowKit Go.Proofs Go.Maps

/-- between two losses of power -/
structure Co (p : Nat) (vp : Value) (t : Nat) (M : FSs) (S : PLB) (o : Own) (w0 w : World) : Prop where
  ft : FT 0 p M S t o w0 w
  on : M.dead = false
  ps : PairsF o w vp S
/-- a KV while there is power: what it holds, and another row of pairs -/
structure Ia (p q : Nat) (vp vw : Value) (t : Nat) (M : FSs) (S Sw : PLB) (clean : Bool) (o : Own) (w0 w : World) : Prop where
  kt : KT 0 1 p q M S clean t o w0 w
  pp : PairsF o w vp S
  pw : PairsF o w vw Sw
  sw : Small t Sw
/-- and the pairs that are to be -/
structure Ib (p q : Nat) (vp vw vn : Value) (t : Nat) (M : FSs) (S Sw Sn : PLB) (clean : Bool) (o : Own) (w0 w : World) : Prop where
  ia : Ia p q vp vw t M S Sw clean o w0 w
  pn : PairsF o w vn Sn
/-- while the power is off -/
structure Id (p q : Nat) (vp vw : Value) (t : Nat) (M : FSs) (S Sw : PLB) (o : Own) (w0 w : World) : Prop where
  dt : DT 0 1 p q M S Sw t o w0 w
  pp : PairsF o w vp S
  pw : PairsF o w vw Sw
/-- either -/
def In (p q : Nat) (vp vw : Value) (t : Nat) (S Sw : PLB) (w0 w : World) : Prop := (∃ M clean o, Ia p q vp vw t M S Sw clean o w0 w) ∨ (∃ M o, Id p q vp vw t M S Sw o w0 w)
/-- what a call tells -/
def Told (p q : Nat) (va vp vw : Value) (t : Nat) (Sa S Sw : PLB) (x : Int) (w0 w : World) : Prop := (x = 0 ∧ ∃ M clean o, Ia p q va vw t M Sa Sw clean o w0 w) ∨ (x = 8 ∧ ∃ M o, Id p q vp vw t M S Sw o w0 w)
section
variable {p q t : Nat} {vp vw vn : Value} {M : FSs} {S Sw Sn : PLB} {clean : Bool} {o : Own} {w0 w w' : World}
theorem Co.below (h : Co p vp t M S o w0 w) : Below w0.heap.size w0 w := h.ft.fs.below
theorem Co.ext (h : Co p vp t M S o w0 w) (hb : Below w.heap.size w w') : Co p vp t M S o w0 w' := ⟨h.ft.ext hb, h.on, h.ps.ext h.ft.own hb⟩
theorem Ia.below (h : Ia p q vp vw t M S Sw clean o w0 w) : Below w0.heap.size w0 w := h.kt.fs.below
theorem Ia.ext (h : Ia p q vp vw t M S Sw clean o w0 w) (hb : Below w.heap.size w w') : Ia p q vp vw t M S Sw clean o w0 w' := ⟨h.kt.ext hb, h.pp.ext h.kt.fs.own hb, h.pw.ext h.kt.fs.own hb, h.sw⟩
theorem Ib.below (h : Ib p q vp vw vn t M S Sw Sn clean o w0 w) : Below w0.heap.size w0 w := h.ia.below
theorem Id.below (h : Id p q vp vw t M S Sw o w0 w) : Below w0.heap.size w0 w := h.dt.fs.below
theorem Id.ext (h : Id p q vp vw t M S Sw o w0 w) (hb : Below w.heap.size w w') : Id p q vp vw t M S Sw o w0 w' := ⟨h.dt.ext hb, h.pp.ext h.dt.fs.own hb, h.pw.ext h.dt.fs.own hb⟩
theorem In.below (h : In p q vp vw t S Sw w0 w) : Below w0.heap.size w0 w := by
  rcases h with ⟨M, c, o, h⟩ | ⟨M, o, h⟩
  · exact h.below
  · exact h.below
theorem Co_plan (h : Co p vp t M S o w0 w) (op cut : Int) (kv : Value) (keep : List Bool) (hop : -9223372036854775808 ≤ op ∧ op ≤ 9223372036854775807) (hcut : -9223372036854775808 ≤ cut ∧ cut ≤ 9223372036854775807) (hk : Bools w0 kv keep) (hl : keep.length ≤ 100) :
    Calls Try.prog 24 #[.pointer (some ⟨p, 0, none⟩), .agg #[.int .i64 op, .int .i64 cut, kv]] w fun e w' => e = .returned (.tuple #[]) ∧ ∃ o', Co p vp t (planM M op cut keep) S o' w0 w' := by
  refine (Plan_t h.ft op cut kv keep hop hcut (hk.ext h.below) (Free.argB h.ft.fs.base hk) (by omega)).mono ?_
  rintro e w' ⟨he, o', h1, h2⟩
  exact ⟨he, o', h1, h.on, h.ps.turn h2⟩
theorem Co_noplan (h : Co p vp t M S o w0 w) :
    Calls Try.prog 24 #[.pointer (some ⟨p, 0, none⟩), .agg #[.int .i64 (-1), .int .i64 0, .slice none 0 0]] w fun e w' => e = .returned (.tuple #[]) ∧ ∃ o', Co p vp t (planM M (-1) 0 []) S o' w0 w' :=
  Co_plan h (-1) 0 _ [] (by decide) (by decide) (Bools.nil _) (by decide)
theorem Co_open (h : Co p vp t M S o w0 w) (ht : t ≤ 31) :
    Calls Try.prog 11 #[.pointer (some ⟨p, 0, none⟩)] w fun e w' => ∃ q, e = .returned (.tuple #[.pointer (some ⟨q, 0, none⟩), .int .i64 0]) ∧ ∃ clean o', Ia p q vp vp t M S S clean o' w0 w' := by
  refine (Open_t h.ft h.on (j := 1) (by decide) ht).mono ?_
  rintro e w' ⟨q, clean, o', he, h1, h2⟩
  exact ⟨q, he, clean, o', h1, h.ps.turn h2, h.ps.turn h2, h.ft.small⟩
theorem Ia_dead (h : Ia p q vp vw t M S Sw clean o w0 w) : Calls Try.prog 25 #[.pointer (some ⟨p, 0, none⟩)] w fun e w' => e = .returned (.bool false) ∧ w = w' := by
  have := Dead_t h.kt.ft
  rw [h.kt.on] at this
  exact this
theorem Id_dead (h : Id p q vp vw t M S Sw o w0 w) : Calls Try.prog 25 #[.pointer (some ⟨p, 0, none⟩)] w fun e w' => e = .returned (.bool true) ∧ w = w' := by
  have := Dead_in h.dt.fs
  rw [h.dt.off] at this
  exact this
theorem Ia_compact (h : Ia p q vp vw t M S Sw clean o w0 w) (ht : t ≤ 30) :
    Calls Try.prog 16 #[.pointer (some ⟨q, 0, none⟩)] w fun e w' => ∃ x, e = .returned (.int .i64 x) ∧ Told p q vp vp vw (t + 1) S S Sw x w0 w' := by
  refine (Compact_t h.kt (by decide) ht).mono ?_
  rintro e w' (⟨he, M', o1, o', w1, h1, h2, h3, h4⟩ | ⟨he, M', o1, o', w1, h1, h2, h3, h4⟩)
  · exact ⟨0, he, .inl ⟨rfl, M', _, o', h1, (h.pp.turn h3).turn h4, (h.pw.turn h3).turn h4, h.sw.mono (by omega)⟩⟩
  · exact ⟨8, he, .inr ⟨rfl, M', o', ⟨h1.fs, h1.kv, .inl (h1.st.elim id id), h1.off, h1.small, h.sw.mono (by omega)⟩, (h.pp.turn h3).turn h4, (h.pw.turn h3).turn h4⟩⟩
theorem Ia_done {vl : Value} {l : List Rec} (h : Ia p q vp vw t M S Sw clean o w0 w) (ht : t ≤ 30) (hl : SliceOf 3 rOp w vl l) (hw : SmallL l) :
    Calls Try.prog 19 #[vp, vl] w fun e w' => ∃ v', e = .returned v' ∧ Ib p q vp vw v' t M S Sw (doneP S l) clean o w0 w' ∧ Below w.heap.size w w' := by
  refine (Done_t vp vl h.pp h.kt.fs.own hl h.kt.small (by omega) hw).mono ?_
  rintro e w' ⟨v', he, g1, g2⟩
  exact ⟨v', he, ⟨h.ext g2, g1⟩, g2⟩
theorem Ib_write {vl : Value} {l : List Rec} (h : Ib p q vp vw vn t M S Sw (doneP S l) clean o w0 w) (ht : t ≤ 30) (hl : SliceOf 3 rOp w vl l) (hw : SmallL l) :
    Calls Try.prog 12 #[.pointer (some ⟨q, 0, none⟩), vl] w fun e w' => ∃ x, e = .returned (.int .i64 x) ∧ Told p q vn vp vn (t + 1) (doneP S l) S (doneP S l) x w0 w' := by
  refine (Write_t h.ia.kt (by decide) ht hl hw).mono ?_
  rintro e w' (⟨he, M', o1, o', w1, h1, h2, h3, h4⟩ | ⟨he, M', o1, o', w1, h1, h2, h3, h4⟩)
  · exact ⟨0, he, .inl ⟨rfl, M', _, o', h1, (h.pn.turn h3).turn h4, (h.pn.turn h3).turn h4, h1.small⟩⟩
  · exact ⟨8, he, .inr ⟨rfl, M', o', h1, (h.ia.pp.turn h3).turn h4, (h.pn.turn h3).turn h4⟩⟩
theorem Ia_pairs (h : Ia p q vp vw t M S Sw clean o w0 w) :
    Calls Try.prog 22 #[.pointer (some ⟨q, 0, none⟩)] w fun e w' => ∃ v, e = .returned v ∧ SliceOf 2 rPair w' v S ∧ Below w.heap.size w w' :=
  (PairsK_t h.kt).mono fun _ _ ⟨v, h1, h2, h3⟩ => ⟨v, h1, h2.slice, h3⟩
theorem Id_pairs (h : Id p q vp vw t M S Sw o w0 w) :
    Calls Try.prog 22 #[.pointer (some ⟨q, 0, none⟩)] w fun e w' => ∃ v, e = .returned v ∧ SliceOf 2 rPair w' v S ∧ Below w.heap.size w w' :=
  (PairsD_t h.dt).mono fun _ _ ⟨v, h1, h2, h3⟩ => ⟨v, h1, h2.slice, h3⟩
theorem Id_write (h : Id p q vp vw t M S Sw o w0 w) (ht : t ≤ 31) :
    Calls Try.prog 12 #[.pointer (some ⟨q, 0, none⟩), .slice none 0 0] w fun e w' => e = .returned (.int .i64 8) ∧ Id p q vp vw t M S Sw o w0 w' := by
  refine (WriteOff_t h.dt (by decide) ht (vl := .slice none 0 0) (l := []) ⟨none, 0, 0, [], rfl, rfl, rfl, Nat.le_refl _, by unfold maxLen; decide, Rd.nil _ _, fun i hi => absurd hi (Nat.not_lt_zero _)⟩ smallL_nil).mono ?_
  rintro e w' ⟨he, h1, h2⟩
  exact ⟨he, h1, h.pp.turn h2, h.pw.turn h2⟩
/-- what is found behind it -/
theorem Ia.of (h : Ia p q vp vw t M S Sw clean o w0 w) : Of p M S S Sw t vp vw o w0 w := ⟨h.kt.ft, h.pp, h.pw⟩
theorem Id.of (h : Id p q vp vw t M S Sw o w0 w) : Of p M S S Sw t vp vw o w0 w ∨ Of p M Sw S Sw t vp vw o w0 w := h.dt.ft.imp (fun e => ⟨e, h.pp, h.pw⟩) (fun e => ⟨e, h.pp, h.pw⟩)
end
end Go.Mun
