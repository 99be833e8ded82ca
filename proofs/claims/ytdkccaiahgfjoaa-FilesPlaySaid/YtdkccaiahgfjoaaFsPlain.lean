/- The files of chapter 19, as plain data: names, what is synced, what waits, when the power fails. No program in sight. -/
import Derived.Test.YtdkccaiahgfjoaaPairPlain
namespace Go.Mun
open Go Go.RowKit

/-- a file's bytes, and how many of them are synced -/
structure FileS where
  b : List UInt8
  s : Nat
/-- a change of names: a file that is made, renamed, or deleted -/
inductive Chg where
  | made (name : Ky) (id : Nat)
  | ren (a b : Ky) (id : Nat)
  | del (a : Ky)
/-- all of it; files have numbers -/
structure FSs where
  now : PL Nat
  syn : PL Nat
  waits : List Chg
  op : Int
  cut : Int
  keep : List Bool
  dead : Bool
  ops : Int
  fs : Nat → FileS
  next : Nat
/-- what a change does to names -/
def doC (P : PL Nat) : Chg → PL Nat
  | .made n i => setP P n (some i)
  | .ren a b i => setP (setP P a none) b (some i)
  | .del a => setP P a none
def doL (P : PL Nat) (l : List Chg) : PL Nat := l.foldl doC P
theorem doC_rises {P : PL Nat} (h : Rises P) (c : Chg) : Rises (doC P c) := by
  cases c with
  | made n i => show Rises (setP P n (some i)); exact h.set _ _
  | ren a b i => show Rises (setP (setP P a none) b (some i)); exact (h.set _ _).set _ _
  | del a => show Rises (setP P a none); exact h.set _ _
theorem doL_rises {P : PL Nat} (h : Rises P) (l : List Chg) : Rises (doL P l) := by
  induction l generalizing P with
  | nil => exact h
  | cons c l ih => exact ih (doC_rises h c)
theorem doL_snoc (P : PL Nat) (l : List Chg) (c : Chg) : doL P (l ++ [c]) = doC (doL P l) c := by
  unfold doL
  rw [List.foldl_append]
  rfl
theorem doL_take {P : PL Nat} {l : List Chg} {k : Nat} {c : Chg} (h : l[k]? = some c) : doL P (l.take (k + 1)) = doC (doL P (l.take k)) c := by
  obtain ⟨hk, hx⟩ := List.getElem?_eq_some_iff.1 h
  rw [List.take_succ_eq_append_getElem hk, hx, doL_snoc]
/-- no two names have one file -/
def Once (P : PL Nat) : Prop := ∀ p ∈ P, ∀ q ∈ P, p.2 = q.2 → p.1 = q.1
theorem mem_set {P : PL Nat} {k : Ky} {o : Option Nat} {p : Ky × Nat} (h : p ∈ setP P k o) : (p ∈ P ∧ p.1 ≠ k) ∨ (p.1 = k ∧ o = some p.2) := by
  cases o with
  | none =>
    have := List.mem_filter.1 h
    exact .inl ⟨this.1, of_decide_eq_true this.2⟩
  | some v =>
    rcases mem_insP.1 h with rfl | h
    · exact .inr ⟨rfl, rfl⟩
    · have := List.mem_filter.1 h
      exact .inl ⟨this.1, of_decide_eq_true this.2⟩
theorem Once.del {P : PL Nat} (h : Once P) (k : Ky) : Once (setP P k none) := fun p hp q hq e => by
  rcases mem_set hp with ⟨hp, _⟩ | ⟨_, hp⟩
  · rcases mem_set hq with ⟨hq, _⟩ | ⟨_, hq⟩
    · exact h p hp q hq e
    · cases hq
  · cases hp
theorem Once.put {P : PL Nat} (h : Once P) {k : Ky} {i : Nat} (hi : ∀ p ∈ P, p.1 ≠ k → p.2 ≠ i) : Once (setP P k (some i)) := fun p hp q hq e => by
  rcases mem_set hp with ⟨hp, np⟩ | ⟨ep, hp⟩
  · rcases mem_set hq with ⟨hq, _⟩ | ⟨_, hq⟩
    · exact h p hp q hq e
    · injection hq with hq
      exact absurd (e.trans hq.symm) (hi p hp np)
  · rcases mem_set hq with ⟨hq, nq⟩ | ⟨eq, _⟩
    · injection hp with hp
      exact absurd (e.symm.trans hp.symm) (hi q hq nq)
    · rw [ep, eq]
theorem mem_made {P : PL Nat} {n : Ky} {i : Nat} {p : Ky × Nat} (h : p ∈ doC P (.made n i)) : p ∈ P ∨ (p.1 = n ∧ p.2 = i) := by
  rcases mem_set (P := P) (k := n) (o := some i) h with ⟨h, _⟩ | ⟨e, h⟩
  · exact .inl h
  · injection h with h; exact .inr ⟨e, h.symm⟩
theorem mem_del {P : PL Nat} {a : Ky} {p : Ky × Nat} (h : p ∈ doC P (.del a)) : p ∈ P := by
  rcases mem_set (P := P) (k := a) (o := none) h with ⟨h, _⟩ | ⟨_, h⟩
  · exact h
  · cases h
theorem mem_ren {P : PL Nat} {a b : Ky} {i : Nat} {p : Ky × Nat} (h : p ∈ doC P (.ren a b i)) : p ∈ P ∨ (p.1 = b ∧ p.2 = i) := by
  rcases mem_set (P := setP P a none) (k := b) (o := some i) h with ⟨h, _⟩ | ⟨e, h⟩
  · exact .inl (mem_del (a := a) h)
  · injection h with h; exact .inr ⟨e, h.symm⟩
/-- a name that a file may have -/
def NameOk (n : Ky) : Prop := n ≠ [] ∧ n.length ≤ 100
/-- a change that fits these names -/
def ChgOk (P : PL Nat) : Chg → Prop
  | .made n i => NameOk n ∧ ∀ p ∈ P, p.2 ≠ i
  | .ren a b i => NameOk a ∧ NameOk b ∧ a ≠ b ∧ getP P a = some i
  | .del a => NameOk a
/-- changes that fit, one behind the other -/
def ChgsOk : PL Nat → List Chg → Prop
  | _, [] => True
  | P, c :: l => ChgOk P c ∧ ChgsOk (doC P c) l
theorem ChgsOk.snoc {P : PL Nat} {l : List Chg} {c : Chg} (h : ChgsOk P l) (hc : ChgOk (doL P l) c) : ChgsOk P (l ++ [c]) := by
  induction l generalizing P with
  | nil => exact ⟨hc, trivial⟩
  | cons d l ih => exact ⟨h.1, ih h.2 hc⟩
theorem ChgsOk.at {P : PL Nat} {l : List Chg} (h : ChgsOk P l) {k : Nat} {c : Chg} (hk : l[k]? = some c) : ChgOk (doL P (l.take k)) c := by
  induction l generalizing P k with
  | nil => cases hk
  | cons d l ih =>
    cases k with
    | zero => injection hk with hk; subst hk; exact h.1
    | succ k => exact ih h.2 hk
theorem Once.doC {P : PL Nat} (h : Once P) {c : Chg} (_hr : Rises P) (hc : ChgOk P c) : Once (doC P c) := by
  cases c with
  | made n i => exact Once.put h fun p hp _ => hc.2 p hp
  | ren a b i =>
    refine Once.put (h.del a) fun p hp _ e => ?_
    rcases mem_set hp with ⟨hp, np⟩ | ⟨_, hp⟩
    · exact np (h p hp (a, i) (getP_mem hc.2.2.2) e)
    · cases hp
  | del a => exact h.del a
theorem Once.doL {P : PL Nat} {l : List Chg} (h : Once P) (hr : Rises P) (hc : ChgsOk P l) : Once (doL P l) := by
  induction l generalizing P with
  | nil => exact h
  | cons c l ih => exact ih (h.doC hr hc.1) (doC_rises hr c) hc.2
theorem ChgsOk.take {P : PL Nat} {l : List Chg} (h : ChgsOk P l) (k : Nat) : ChgsOk P (l.take k) := by
  induction l generalizing P k with
  | nil => rw [List.take_nil]; exact h
  | cons c l ih =>
    cases k with
    | zero => trivial
    | succ k => exact ⟨h.1, ih h.2 k⟩
/-- how many of the changes that wait are kept -/
def keptN (keep : List Bool) (n : Nat) : Nat → Nat
  | 0 => n
  | f + 1 => if keep.length = 0 ∨ keep.getD (n % keep.length) false = false then n else keptN keep (n + 1) f
def kept (M : FSs) : Nat := keptN M.keep 0 M.waits.length
theorem keptN_le (keep : List Bool) : ∀ (f n : Nat), n ≤ keptN keep n f ∧ keptN keep n f ≤ n + f
  | 0, n => ⟨Nat.le_refl _, Nat.le_refl _⟩
  | f + 1, n => by
    unfold keptN
    split
    · exact ⟨Nat.le_refl _, by omega⟩
    · have := keptN_le keep f (n + 1)
      omega
theorem kept_le (M : FSs) : kept M ≤ M.waits.length := by have := (keptN_le M.keep M.waits.length 0).2; unfold kept; omega
/-- the names that are found behind a loss of power -/
def left (M : FSs) : PL Nat := doL M.syn (M.waits.take (kept M))
/-- how many bytes of a file are kept -/
def cutAt (cut : Int) (f : FileS) : Nat := if 0 ≤ cut then f.s + cut.toNat % (f.b.length - f.s + 1) else f.s
def cutF (cut : Int) (f : FileS) : FileS := ⟨f.b.take (cutAt cut f), cutAt cut f⟩
theorem cutAt_le {cut : Int} {f : FileS} (h : f.s ≤ f.b.length) : f.s ≤ cutAt cut f ∧ cutAt cut f ≤ f.b.length := by
  unfold cutAt
  split
  · have := Nat.mod_lt cut.toNat (show 0 < f.b.length - f.s + 1 by omega)
    omega
  · omega
/-- is a file's number among names? -/
def hasId (P : PL Nat) (i : Nat) : Prop := ∃ p ∈ P, p.2 = i
open Classical in
/-- the power fails -/
noncomputable def crashM (M : FSs) : FSs := { M with now := left M, syn := left M, waits := [], op := -1, cut := 0, keep := [], dead := true, fs := fun i => if hasId (left M) i then cutF M.cut (M.fs i) else M.fs i }
/-- an operation begins: it counts, or the power fails -/
noncomputable def failsM (M : FSs) : FSs := if M.op = 0 then crashM M else { M with op := max (-1) (M.op - 1), ops := M.ops + 1 }
def failsB (M : FSs) : Bool := decide (M.op = 0)
/-- a change of names waits -/
def waitM (M : FSs) (c : Chg) : FSs := { M with now := doC M.now c, waits := M.waits ++ [c] }
def setF (M : FSs) (i : Nat) (f : FileS) : FSs := { M with fs := fun j => if j = i then f else M.fs j }
/-- what always holds -/
structure Fine (M : FSs) : Prop where
  rnow : Rises M.now
  rsyn : Rises M.syn
  repl : doL M.syn M.waits = M.now
  ok : ChgsOk M.syn M.waits
  names : ∀ p ∈ M.now, NameOk p.1
  snames : ∀ p ∈ M.syn, NameOk p.1
  fresh : ∀ p ∈ M.now, p.2 < M.next
  sfresh : ∀ p ∈ M.syn, p.2 < M.next
  made : ∀ n i, Chg.made n i ∈ M.waits → i < M.next
  sized : ∀ i, (M.fs i).s ≤ (M.fs i).b.length
  once : Once M.syn
  op : -1 ≤ M.op
theorem Fine.wait {M : FSs} (h : Fine M) {c : Chg} (hc : ChgOk M.now c) (hf : ∀ n i, c = .made n i → i < M.next) : Fine (waitM M c) := by
  refine ⟨doC_rises h.rnow c, h.rsyn, ?_, ?_, fun p hp => ?_, h.snames, fun p hp => ?_, h.sfresh, fun n i hn => ?_, h.sized, h.once, h.op⟩
  · show doL M.syn (M.waits ++ [c]) = doC M.now c
    rw [doL_snoc, h.repl]
  · exact h.ok.snoc (by rw [h.repl]; exact hc)
  · cases c with
    | made n i =>
      rcases mem_made (P := M.now) hp with hp | ⟨hp, _⟩
      · exact h.names p hp
      · rw [hp]; exact hc.1
    | ren a b i =>
      rcases mem_ren (P := M.now) hp with hp | ⟨hp, _⟩
      · exact h.names p hp
      · rw [hp]; exact hc.2.1
    | del a => exact h.names p (mem_del (P := M.now) hp)
  · cases c with
    | made n i =>
      rcases mem_made (P := M.now) hp with hp | ⟨_, hp⟩
      · exact h.fresh p hp
      · rw [hp]; exact hf n i rfl
    | ren a b i =>
      rcases mem_ren (P := M.now) hp with hp | ⟨_, hp⟩
      · exact h.fresh p hp
      · rw [hp]; exact h.fresh _ (getP_mem hc.2.2.2)
    | del a => exact h.fresh p (mem_del (P := M.now) hp)
  · rcases List.mem_append.1 hn with hn | hn
    · exact h.made n i hn
    · exact hf n i (List.mem_singleton.1 hn).symm
/-- the power is switched on -/
def startM (M : FSs) : FSs := { M with dead := false, op := -1, cut := 0, keep := [] }
def planM (M : FSs) (op cut : Int) (keep : List Bool) : FSs := { M with op := max (-1) op, cut := cut, keep := keep }
theorem Fine.start {M : FSs} (h : Fine M) : Fine (startM M) := ⟨h.rnow, h.rsyn, h.repl, h.ok, h.names, h.snames, h.fresh, h.sfresh, h.made, h.sized, h.once, Int.le_refl _⟩
theorem Fine.plan {M : FSs} (h : Fine M) (op cut : Int) (keep : List Bool) : Fine (planM M op cut keep) := ⟨h.rnow, h.rsyn, h.repl, h.ok, h.names, h.snames, h.fresh, h.sfresh, h.made, h.sized, h.once, by show -1 ≤ max (-1) op; omega⟩
/-- without files -/
def newM : FSs := ⟨[], [], [], -1, 0, [], false, 0, fun _ => ⟨[], 0⟩, 0⟩
theorem newM_fine : Fine newM := by
  refine ⟨List.Pairwise.nil, List.Pairwise.nil, rfl, trivial, ?_, ?_, ?_, ?_, ?_, fun _ => Nat.le_refl _, (fun p hp => absurd hp List.not_mem_nil), by decide⟩
  all_goals first | (intro n i h; exact absurd h List.not_mem_nil) | (intro p hp; exact absurd hp List.not_mem_nil)
end Go.Mun
