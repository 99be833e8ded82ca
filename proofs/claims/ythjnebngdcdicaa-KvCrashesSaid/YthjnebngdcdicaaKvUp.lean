/- A KV while there is power; the example of chapter 23. -/
import Derived.Test.YthjnebngdcdicaaKvWrite
namespace Go.Mun
open Go Go.RowKit Go.Proofs Go.Maps

/-- files while there is power, and no loss of it is planned -/
structure Up (k p : Nat) (M : FSs) (S : PLB) (n B K L : Nat) (o : Own) (w0 w : World) : Prop where
  fs : FsIn k p M o K L w0 w
  st : LogSt M S false n B
  dead : M.dead = false
  op : M.op = -1
  only : getP M.now cAnew = none
/-- and a KV over them -/
structure UpK (k j p q : Nat) (M : FSs) (S : PLB) (clean : Bool) (n B N K L : Nat) (o : Own) (w0 w : World) : Prop where
  fs : FsIn k p M o K L w0 w
  kv : KvAt j q p S clean false o N w
  st : LogSt M S clean n B
  dead : M.dead = false
  op : M.op = -1
  only : getP M.now cAnew = none
theorem UpK.up {k j p q n B N K L : Nat} {M : FSs} {S : PLB} {clean : Bool} {o : Own} {w0 w : World} (h : UpK k j p q M S clean n B N K L o w0 w) : Up k p M S n B K L o w0 w := ⟨h.fs, h.st.weak, h.dead, h.op, h.only⟩
theorem UpK.ext {k j p q n B N K L : Nat} {M : FSs} {S : PLB} {clean : Bool} {o : Own} {w0 w w' : World} (h : UpK k j p q M S clean n B N K L o w0 w) (hb : Below w.heap.size w w') : UpK k j p q M S clean n B N K L o w0 w' := ⟨h.fs.ext hb, h.kv.ext hb, h.st, h.dead, h.op, h.only⟩
theorem Up.ext {k p n B K L : Nat} {M : FSs} {S : PLB} {o : Own} {w0 w w' : World} (h : Up k p M S n B K L o w0 w) (hb : Below w.heap.size w w') : Up k p M S n B K L o w0 w' := ⟨h.fs.ext hb, h.st, h.dead, h.op, h.only⟩
def OpenUp (k j p q : Nat) (M : FSs) (S : PLB) (n B K L : Nat) (o : Own) (w0 w w' : World) : Prop := ∃ clean o', UpK k j p q M S clean n B S.length K L o' w0 w' ∧ Turn j o o' w w' ∧ w.heap.size ≤ q
def WriteUp (k j p q : Nat) (S : PLB) (n B N K L : Nat) (o : Own) (w0 w w' : World) : Prop := ∃ M' o1 o' w1, UpK k j p q M' S true n B N K L o' w0 w' ∧ Turn k o o1 w w1 ∧ Turn j o1 o' w1 w'
section
variable {k j p q n B N K L : Nat} {M : FSs} {S : PLB} {clean : Bool} {o : Own} {w0 w : World}
theorem New_up (k : Nat) (ho : OwnIn o w) (hb : Below w0.heap.size w0 w) (hn : ∀ b, b < w0.heap.size → o b = none) :
    Calls Try.prog 10 #[] w fun e w' => ∃ p o', e = .returned (.pointer (some ⟨p, 0, none⟩)) ∧ Up k p newM [] 1 0 0 0 o' w0 w' ∧ Turn k o o' w w' :=
  (New_in k ho hb hn).mono fun _ _ ⟨p, o', h1, h2, h3⟩ => ⟨p, o', h1, ⟨h2, logSt_new.mono (Nat.zero_le _) (Nat.le_refl _), rfl, rfl, rfl⟩, h3⟩
theorem Open_up (h : Up k p M S n B K L o w0 w) (hS : FitS S) (hj : k ≠ j) (hB : B ≤ 1390000) (hn : n ≤ 200) (hL : L ≤ 140737488355328) :
    Calls Try.prog 11 #[.pointer (some ⟨p, 0, none⟩)] w fun e w' => ∃ q, e = .returned (.tuple #[.pointer (some ⟨q, 0, none⟩), .int .i64 0]) ∧ OpenUp k j p q M S n B K L o w0 w w' := by
  obtain ⟨there, b, hR, hLO, hb, _⟩ := h.st.ex
  rw [h.dead] at hR
  refine (Open_any (j := j) h.fs hR hLO hS (by omega) hn hL hj).mono ?_
  rintro e w' ⟨q, he, clean, o', h1, h2, h3, h4, h5⟩
  exact ⟨q, he, clean, o', ⟨h2, h1, ⟨there, b, by rw [h.dead]; exact hR, hLO, hb, h5⟩, h.dead, h.op, h.only⟩, h3, h4⟩
theorem Write_up {vl : Value} {l : List Rec} (h : UpK k j p q M S clean n B N K L o w0 w) (hj : j ≠ k) (hl : SliceOf 3 rOp w vl l) (hw : WideL l) (hS' : FitS (doneP S l)) (hN : N ≤ 1000000) (hK : K ≤ 100000000) (hL : L ≤ 500000000) (hn : 1 ≤ n) {B' : Nat} (hB1 : B + (batchB l).length ≤ B') (hB2 : (wholeB (doneP S l)).length ≤ B') :
    Calls Try.prog 12 #[.pointer (some ⟨q, 0, none⟩), vl] w fun e w' => e = .returned (.int .i64 0) ∧ WriteUp k j p q (doneP S l) (n + 1) B' (N + l.length) (K + 10) (L + B') o w0 w w' := by
  refine (Write_on h.kv h.fs hj h.st h.dead hl hw hS' hN hK hL hn hB1 hB2).mono ?_
  rintro e w' (⟨he, M', o1, o', w1, h1, h2, h3, h4, h5, h6, h7, h8⟩ | ⟨_, M', o1, o', w1, _, _, _, _, h5, _⟩)
  · exact ⟨he, M', o1, o', w1, ⟨h3, h4, h7, h6, h5 h.op, h8 h.only⟩, h1, h2⟩
  · exact absurd h.op h5
theorem Compact_up (h : UpK k j p q M S clean n B N K L o w0 w) (hj : j ≠ k) (hK : K ≤ 100000000) (hL : L ≤ 500000000) (hn : 1 ≤ n) :
    Calls Try.prog 16 #[.pointer (some ⟨q, 0, none⟩)] w fun e w' => e = .returned (.int .i64 0) ∧ WriteUp k j p q S (n + 1) (wholeB S).length N (K + 10) (L + (wholeB S).length) o w0 w w' := by
  refine (Compact_on h.kv h.fs hj h.st h.dead hK hL hn (B' := B + (wholeB S).length) (by omega) (by omega)).mono ?_
  rintro e w' (⟨he, M', o1, o', w1, h1, h2, h3, h4, h5, h6, h7⟩ | ⟨_, M', o1, o', w1, _, _, _, _, h5, _⟩)
  · have hA : LogAll (wholeB S) S (n + 1) := (LogAll.whole h.kv.fit).mono (by omega)
    exact ⟨he, M', o1, o', w1, ⟨h3, h4, ⟨true, wholeB S, by rw [h6.dead]; exact h6, hA.ok, Nat.le_refl _, fun _ => ⟨rfl, hA⟩⟩, h6.dead, h5 h.op, h7 h.only⟩, h1, h2⟩
  · exact absurd h.op h5
/-- the log is the only file -/
theorem Up.now (h : Up k p M S n B K L o w0 w) : (M.now = [] ∧ readM M cLog = []) ∨ ∃ i, M.now = [(cLog, i)] := by
  obtain ⟨there, b, hR, _⟩ := h.st.ex
  have h1 : ∀ e ∈ M.now, e.1 = cLog := fun e he => (hR.log.two e he).resolve_right fun e2 => by
    have := getP_at hR.rises he
    rw [e2, h.only] at this
    cases this
  match hm : M.now with
  | [] => exact .inl ⟨rfl, by unfold readM isB; rw [hm]; simp [getP]⟩
  | [(a, i)] =>
    rw [hm] at h1
    have e : a = cLog := h1 (a, i) (by simp)
    exact .inr ⟨i, by rw [e]⟩
  | x :: y :: R =>
    exfalso
    have hr := hR.rises
    rw [hm] at h1 hr
    have := (List.pairwise_cons.1 hr).1 y (by simp)
    rw [h1 x (by simp), h1 y (by simp), ltB_irrefl] at this
    cases this
theorem Up.read (h : Up k p M S n B K L o w0 w) : (readM M cLog).length ≤ B := by
  obtain ⟨there, b, hR, _, hb, _⟩ := h.st.ex
  rw [h.dead] at hR
  rw [(rest_read hR rfl).1]
  exact hb
end
set_option maxRecDepth 100000 in
theorem num_any (x : Int) (w : World) : Calls Try.prog 13 #[.int .i64 x] w fun e w' => e = .returned (.int .i64 x) ∧ w = w' := by
  go_enter Try.func13, Try.ntmps13
  go_wp2
  go_ret
  exact ⟨rfl, rfl⟩
end Go.Mun
