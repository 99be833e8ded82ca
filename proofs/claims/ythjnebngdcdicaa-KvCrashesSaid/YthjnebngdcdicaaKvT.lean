/- A KV and its files behind t calls: while there is power, and while it is off. -/
import Derived.Test.YthjnebngdcdicaaKvSame
namespace Go.Mun
open Go Go.RowKit Go.Proofs Go.Maps

theorem OpOk.wide {r : Rec} (h : OpOk r) : OpW r := ⟨h.kind, h.n, h.key, Nat.le_trans h.value (by decide)⟩
theorem SmallL.wide {l : List Rec} (h : SmallL l) : WideL l := ⟨Nat.le_trans h.1 (by decide), fun r hr => (h.2 r hr).wide⟩
theorem smallL_nil : SmallL [] := ⟨by decide, fun r hr => absurd hr List.not_mem_nil⟩
theorem SmallL.batch {l : List Rec} (h : SmallL l) : (batchB l).length ≤ 36853 := by
  have h1 := batch_len h.wide
  have h2 := opsB_le (c := 614) (l := l) fun r hr => ⟨(h.2 r hr).wide, by have := (h.2 r hr).key; have := (h.2 r hr).value; omega⟩
  have := h.1
  omega
theorem Small.done {t : Nat} {S : PLB} {l : List Rec} (h : Small t S) (hl : SmallL l) : Small (t + 1) (doneP S l) := by
  refine ⟨doneP_rises l h.rises, ?_, fun e he => ?_⟩
  · have h1 := length_done S l
    have h2 := h.len
    have h3 := hl.1
    omega
  · rcases done_mem he with h' | ⟨r, hr, h1, h2, _⟩
    · exact h.each e h'
    · rw [h1, h2]
      exact ⟨(hl.2 r hr).key, (hl.2 r hr).value⟩
/-- how long the log may be behind t calls -/
def Bt (t : Nat) : Nat := 36853 * t + 26
theorem LogSt.off {M M' : FSs} {S : PLB} {clean : Bool} {n B : Nat} (h : LogSt M S clean n B) (ho : M.dead = false) (hM : M' = crashM M) : LogSt M' S false n B := by
  subst hM
  obtain ⟨t, b, h1, h2, h3, _⟩ := h.ex
  rw [ho] at h1
  exact ⟨t, b, h1.disk.crash, h2, h3, fun e => by cases e⟩
/-- files, and what their log tells -/
structure FT (k p : Nat) (M : FSs) (S : PLB) (t : Nat) (o : Own) (w0 w : World) : Prop where
  fs : FsIn k p M o (10 * t) (1200000 * t) w0 w
  st : LogSt M S false (t + 1) (Bt t)
  small : Small t S
/-- a KV over them, while there is power -/
structure KT (k j p q : Nat) (M : FSs) (S : PLB) (clean : Bool) (t : Nat) (o : Own) (w0 w : World) : Prop where
  fs : FsIn k p M o (10 * t) (1200000 * t) w0 w
  kv : ∃ N, N ≤ 60 * t ∧ KvAt j q p S clean false o N w
  st : LogSt M S clean (t + 1) (Bt t)
  on : M.dead = false
  small : Small t S
/-- while it is off: the log tells S, or S' -/
structure DT (k j p q : Nat) (M : FSs) (S S' : PLB) (t : Nat) (o : Own) (w0 w : World) : Prop where
  fs : FsIn k p M o (10 * t) (1200000 * t) w0 w
  kv : ∃ N clean dead, N ≤ 60 * t ∧ KvAt j q p S clean dead o N w
  st : LogSt M S false (t + 1) (Bt t) ∨ LogSt M S' false (t + 1) (Bt t)
  off : M.dead = true
  small : Small t S
  small' : Small t S'
section
variable {k j p q t : Nat} {M : FSs} {S S' : PLB} {clean : Bool} {o o' : Own} {w0 w w' : World}
theorem FT.own (h : FT k p M S t o w0 w) : OwnIn o w := h.fs.own
theorem FT.ext (h : FT k p M S t o w0 w) (hb : Below w.heap.size w w') : FT k p M S t o w0 w' := ⟨h.fs.ext hb, h.st, h.small⟩
theorem FT.turn {i : Nat} (h : FT k p M S t o w0 w) (ho : OwnIn o' w') (hT : Turn i o o' w w') (hi : k ≠ i) : FT k p M S t o' w0 w' := ⟨h.fs.turn ho hT hi, h.st, h.small⟩
theorem KT.ft (h : KT k j p q M S clean t o w0 w) : FT k p M S t o w0 w := ⟨h.fs, h.st.weak, h.small⟩
theorem KT.ext (h : KT k j p q M S clean t o w0 w) (hb : Below w.heap.size w w') : KT k j p q M S clean t o w0 w' := by
  obtain ⟨N, hN, hk⟩ := h.kv
  exact ⟨h.fs.ext hb, ⟨N, hN, hk.ext hb⟩, h.st, h.on, h.small⟩
theorem KT.turn {i : Nat} (h : KT k j p q M S clean t o w0 w) (ho : OwnIn o' w') (hT : Turn i o o' w w') (hi : k ≠ i) (hj : j ≠ i) : KT k j p q M S clean t o' w0 w' := by
  obtain ⟨N, hN, hk⟩ := h.kv
  exact ⟨h.fs.turn ho hT hi, ⟨N, hN, hk.turn hT hj⟩, h.st, h.on, h.small⟩
theorem DT.ext (h : DT k j p q M S S' t o w0 w) (hb : Below w.heap.size w w') : DT k j p q M S S' t o w0 w' := by
  obtain ⟨N, c, d, hN, hk⟩ := h.kv
  exact ⟨h.fs.ext hb, ⟨N, c, d, hN, hk.ext hb⟩, h.st, h.off, h.small, h.small'⟩
theorem DT.turn {i : Nat} (h : DT k j p q M S S' t o w0 w) (ho : OwnIn o' w') (hT : Turn i o o' w w') (hi : k ≠ i) (hj : j ≠ i) : DT k j p q M S S' t o' w0 w' := by
  obtain ⟨N, c, d, hN, hk⟩ := h.kv
  exact ⟨h.fs.turn ho hT hi, ⟨N, c, d, hN, hk.turn hT hj⟩, h.st, h.off, h.small, h.small'⟩
theorem DT.ft (h : DT k j p q M S S' t o w0 w) : FT k p M S t o w0 w ∨ FT k p M S' t o w0 w := h.st.imp (fun e => ⟨h.fs, e, h.small⟩) (fun e => ⟨h.fs, e, h.small'⟩)
/-- files that were made just now -/
theorem New_t (k : Nat) (ho : OwnIn o w) (hb : Below w0.heap.size w0 w) (hn : ∀ b, b < w0.heap.size → o b = none) :
    Calls Try.prog 10 #[] w fun e w' => ∃ p o', e = .returned (.pointer (some ⟨p, 0, none⟩)) ∧ FT k p newM [] 0 o' w0 w' ∧ Turn k o o' w w' :=
  (New_in k ho hb hn).mono fun _ _ ⟨p, o', h1, h2, h3⟩ => ⟨p, o', h1, ⟨h2, logSt_new.mono (Nat.zero_le _) (Nat.zero_le _), Small.nil 0⟩, h3⟩
theorem Plan_t (h : FT k p M S t o w0 w) (op cut : Int) (kv : Value) (keep : List Bool) (hop : -9223372036854775808 ≤ op ∧ op ≤ 9223372036854775807) (hcut : -9223372036854775808 ≤ cut ∧ cut ≤ 9223372036854775807) (hk : Bools w kv keep) (hko : Free o k kv) (hl : keep.length ≤ 140737488355328) :
    Calls Try.prog 24 #[.pointer (some ⟨p, 0, none⟩), .agg #[.int .i64 op, .int .i64 cut, kv]] w fun e w' => e = .returned (.tuple #[]) ∧ ∃ o', FT k p (planM M op cut keep) S t o' w0 w' ∧ Turn k o o' w w' :=
  (Plan_in h.fs op cut kv keep hop hcut hk hko hl).mono fun _ _ ⟨h1, o', h2, h3⟩ => ⟨h1, o', ⟨h2, h.st.plan _ _ _, h.small⟩, h3⟩
theorem Start_t (h : FT k p M S t o w0 w) :
    Calls Try.prog 26 #[.pointer (some ⟨p, 0, none⟩)] w fun e w' => e = .returned (.tuple #[]) ∧ FT k p (startM M) S t o w0 w' ∧ Turn k o o w w' :=
  (Start_in h.fs).mono fun _ _ ⟨h1, h2, h3⟩ => ⟨h1, ⟨h2, h.st.start, h.small⟩, h3⟩
theorem Open_t (h : FT k p M S t o w0 w) (hd : M.dead = false) (hj : k ≠ j) (ht : t ≤ 31) :
    Calls Try.prog 11 #[.pointer (some ⟨p, 0, none⟩)] w fun e w' => ∃ q clean o', e = .returned (.tuple #[.pointer (some ⟨q, 0, none⟩), .int .i64 0]) ∧ KT k j p q M S clean t o' w0 w' ∧ Turn j o o' w w' := by
  obtain ⟨there, b, hR, hLO, hb, _⟩ := h.st.ex
  rw [hd] at hR
  unfold Bt at hb
  refine (Open_any (j := j) h.fs hR hLO (h.small.fit ht) (by omega) (by omega) (by omega) hj).mono ?_
  rintro e w' ⟨q, he, clean, o', h1, h2, h3, h4, h5⟩
  exact ⟨q, clean, o', he, ⟨h2, ⟨_, h.small.len, h1⟩, ⟨there, b, by rw [hd]; exact hR, hLO, hb, h5⟩, hd, h.small⟩, h3⟩
/-- what a call leaves that goes well -/
def GoT (k j p q : Nat) (M : FSs) (S : PLB) (t : Nat) (o : Own) (w0 w w' : World) : Prop := ∃ M' o1 o' w1, KT k j p q M' S true (t + 1) o' w0 w' ∧ OpOn M M' ∧ Turn k o o1 w w1 ∧ Turn j o1 o' w1 w'
/-- what it leaves where the power fails -/
def NoT (k j p q : Nat) (M : FSs) (S S' : PLB) (t : Nat) (o : Own) (w0 w w' : World) : Prop := ∃ M' o1 o' w1, DT k j p q M' S S' (t + 1) o' w0 w' ∧ M.op ≠ -1 ∧ Turn k o o1 w w1 ∧ Turn j o1 o' w1 w'
theorem FsIn.le {K L K' L' : Nat} (h : FsIn k p M o K L w0 w) (hK : K ≤ K') (hL : L ≤ L') : FsIn k p M o K' L' w0 w := h.more hK hL
theorem Write_t {vl : Value} {l : List Rec} (h : KT k j p q M S clean t o w0 w) (hj : j ≠ k) (ht : t ≤ 30) (hl : SliceOf 3 rOp w vl l) (hw : SmallL l) :
    Calls Try.prog 12 #[.pointer (some ⟨q, 0, none⟩), vl] w fun e w' => (e = .returned (.int .i64 0) ∧ GoT k j p q M (doneP S l) t o w0 w w') ∨ (e = .returned (.int .i64 8) ∧ NoT k j p q M S (doneP S l) t o w0 w w') := by
  obtain ⟨N, hN, hk⟩ := h.kv
  have hs' := h.small.done hw
  have hwl := hs'.whole (by omega)
  have hbl := hw.batch
  have hl6 := hw.1
  refine (Write_on hk h.fs hj h.st h.on hl hw.wide (hs'.fit (by omega)) (by omega) (by omega) (by omega) (by omega) (B' := Bt (t + 1)) (by unfold Bt; omega) (by unfold Bt; omega)).mono ?_
  rintro e w' (⟨he, M', o1, o', w1, h1, h2, h3, h4, h5, h6, h7, h8⟩ | ⟨he, M', o1, o', w1, h1, h2, h3, h4, h5, h6, h7⟩)
  · exact .inl ⟨he, M', o1, o', w1, ⟨h3.le (by omega) (by unfold Bt; omega), ⟨_, by omega, h4⟩, h7, h6, hs'⟩, h5, h1, h2⟩
  · exact .inr ⟨he, M', o1, o', w1, ⟨h3.le (by omega) (by unfold Bt; omega), ⟨_, _, _, by omega, h4⟩, h7, h6, h.small.mono (by omega), hs'⟩, h5, h1, h2⟩
theorem Compact_t (h : KT k j p q M S clean t o w0 w) (hj : j ≠ k) (ht : t ≤ 30) :
    Calls Try.prog 16 #[.pointer (some ⟨q, 0, none⟩)] w fun e w' => (e = .returned (.int .i64 0) ∧ GoT k j p q M S t o w0 w w') ∨ (e = .returned (.int .i64 8) ∧ NoT k j p q M S S t o w0 w w') := by
  obtain ⟨N, hN, hk⟩ := h.kv
  have hwl := h.small.whole (by omega)
  refine (Compact_on hk h.fs hj h.st h.on (by omega) (by omega) (by omega) (B' := Bt (t + 1)) (by unfold Bt; omega) (by unfold Bt; omega)).mono ?_
  rintro e w' (⟨he, h1⟩ | ⟨he, M', o1, o', w1, h1, h2, h3, h4, h5, h6, h7⟩)
  · obtain ⟨M', o1, o', w1, h1, h2, h3, h4, h5, h6, h7, h8⟩ := wrOk_of (n := t + 1) (B := Bt (t + 1)) h1 h.fs.own (Below.refl _ _) (by unfold Bt; omega) (by unfold Bt; omega) ((LogAll.whole hk.fit).mono (by omega))
    exact .inl ⟨he, M', o1, o', w1, ⟨h3.le (by omega) (by unfold Bt; omega), ⟨_, by omega, h4⟩, h7, h6, h.small.mono (by omega)⟩, h5, h1, h2⟩
  · exact .inr ⟨he, M', o1, o', w1, ⟨h3.le (by omega) (by unfold Bt; omega), ⟨_, _, _, by omega, h4⟩, h7, h6, h.small.mono (by omega), h.small.mono (by omega)⟩, h5, h1, h2⟩
/-- while no loss of power is planned -/
theorem Write_go {vl : Value} {l : List Rec} (h : KT k j p q M S clean t o w0 w) (hop : M.op = -1) (hj : j ≠ k) (ht : t ≤ 30) (hl : SliceOf 3 rOp w vl l) (hw : SmallL l) :
    Calls Try.prog 12 #[.pointer (some ⟨q, 0, none⟩), vl] w fun e w' => e = .returned (.int .i64 0) ∧ GoT k j p q M (doneP S l) t o w0 w w' := by
  refine (Write_t h hj ht hl hw).mono ?_
  rintro e w' (h1 | ⟨_, M', o1, o', w1, _, h2, _⟩)
  · exact h1
  · exact absurd hop h2
theorem Compact_go (h : KT k j p q M S clean t o w0 w) (hop : M.op = -1) (hj : j ≠ k) (ht : t ≤ 30) :
    Calls Try.prog 16 #[.pointer (some ⟨q, 0, none⟩)] w fun e w' => e = .returned (.int .i64 0) ∧ GoT k j p q M S t o w0 w w' := by
  refine (Compact_t h hj ht).mono ?_
  rintro e w' (h1 | ⟨_, M', o1, o', w1, _, h2, _⟩)
  · exact h1
  · exact absurd hop h2
theorem WriteOff_t {vl : Value} {l : List Rec} (h : DT k j p q M S S' t o w0 w) (hj : j ≠ k) (ht : t ≤ 31) (hl : SliceOf 3 rOp w vl l) (hw : SmallL l) :
    Calls Try.prog 12 #[.pointer (some ⟨q, 0, none⟩), vl] w fun e w' => e = .returned (.int .i64 8) ∧ DT k j p q M S S' t o w0 w' ∧ Turn j o o w w' := by
  obtain ⟨N, c, d, hN, hk⟩ := h.kv
  refine (Write_off hk h.fs hj (.inr h.off) hl hw.wide (by omega)).mono ?_
  rintro e w' ⟨he, h1, h2, h3⟩
  exact ⟨he, ⟨h2, ⟨_, _, _, hN, h3⟩, h.st, h.off, h.small, h.small'⟩, h1⟩
theorem PairsK_t (h : KT k j p q M S clean t o w0 w) :
    Calls Try.prog 22 #[.pointer (some ⟨q, 0, none⟩)] w fun e w' => ∃ v, e = .returned v ∧ PairsF o w' v S ∧ Below w.heap.size w w' := by
  obtain ⟨N, hN, hk⟩ := h.kv
  exact (Pairs_any hk).mono fun _ _ ⟨v, h1, h2, h3⟩ => ⟨v, h1, h2.free h.fs.own (Nat.le_refl _), h3⟩
theorem PairsD_t (h : DT k j p q M S S' t o w0 w) :
    Calls Try.prog 22 #[.pointer (some ⟨q, 0, none⟩)] w fun e w' => ∃ v, e = .returned v ∧ PairsF o w' v S ∧ Below w.heap.size w w' := by
  obtain ⟨N, c, d, hN, hk⟩ := h.kv
  exact (Pairs_any hk).mono fun _ _ ⟨v, h1, h2, h3⟩ => ⟨v, h1, h2.free h.fs.own (Nat.le_refl _), h3⟩
theorem Dead_t (h : FT k p M S t o w0 w) : Calls Try.prog 25 #[.pointer (some ⟨p, 0, none⟩)] w fun e w' => e = .returned (.bool M.dead) ∧ w = w' := Dead_in h.fs
theorem Done_t (va vl : Value) {l : List Rec} (h : PairsF o w va S) (ho : OwnIn o w) (hl : SliceOf 3 rOp w vl l) (hs : Small t S) (ht : t ≤ 31) (hw : SmallL l) :
    Calls Try.prog 19 #[va, vl] w fun e w' => ∃ v', e = .returned v' ∧ PairsF o w' v' (doneP S l) ∧ Below w.heap.size w w' :=
  Done_free o va vl S l w h ho hl hs.rises (by have := hs.len; have := hw.1; omega) hw.fit
end
end Go.Mun
