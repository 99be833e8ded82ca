/- The disk under a KV, plainly: the log, beside it perhaps another file; what is found where the power fails. -/
import Derived.Test.YthjnebngdcdicaaKvPlain
namespace Go.Mun
open Go Go.RowKit

/-- what names say of the log -/
structure LogAt (N : Nat) (fs : Nat → FileS) (P : PL Nat) (there : Bool) (b : List UInt8) : Prop where
  two : ∀ p ∈ P, p.1 = cLog ∨ p.1 = cAnew
  log : (there = true ∧ ∃ i, i < N ∧ getP P cLog = some i ∧ fs i = ⟨b, b.length⟩) ∨ (there = false ∧ getP P cLog = none ∧ b = [])
/-- on the way -/
structure Disk (N : Nat) (M : FSs) (there : Bool) (b : List UInt8) : Prop where
  live : M.dead = false
  repl : doL M.syn M.waits = M.now
  rsyn : Rises M.syn
  low : N ≤ M.next
  all : ∀ j, LogAt N M.fs (doL M.syn (M.waits.take j)) there b
/-- between calls -/
structure Rest (dead : Bool) (M : FSs) (there : Bool) (b : List UInt8) : Prop where
  dead : M.dead = dead
  waits : M.waits = []
  syn : M.syn = M.now
  rises : Rises M.now
  log : LogAt M.next M.fs M.now there b
theorem cut_full (c : Int) (l : List UInt8) : cutF c ⟨l, l.length⟩ = ⟨l, l.length⟩ := by
  have h := cutAt_le (cut := c) (f := ⟨l, l.length⟩) (Nat.le_refl _)
  have e : cutAt c ⟨l, l.length⟩ = l.length := Nat.le_antisymm h.2 h.1
  unfold cutF
  rw [e, List.take_length]
theorem crash_file {M : FSs} {n : Ky} {i : Nat} (h : getP (left M) n = some i) : (crashM M).fs i = cutF M.cut (M.fs i) := crash_fs (hasId_get h)
theorem LogAt.crash {N : Nat} {M : FSs} {there : Bool} {b : List UInt8} (h : LogAt N M.fs (left M) there b) (hN : N ≤ M.next) (hr : Rises M.syn) : Rest true (crashM M) there b := by
  refine ⟨rfl, rfl, rfl, doL_rises hr _, h.two, ?_⟩
  rcases h.log with ⟨e, i, h1, h2, h3⟩ | ⟨e, h2, h3⟩
  · exact .inl ⟨e, i, Nat.lt_of_lt_of_le h1 hN, h2, by rw [crash_file h2, h3, cut_full]⟩
  · exact .inr ⟨e, h2, h3⟩
theorem Disk.crash {N : Nat} {M : FSs} {there : Bool} {b : List UInt8} (h : Disk N M there b) : Rest true (crashM M) there b := (h.all (kept M)).crash h.low h.rsyn
theorem Rest.disk {M : FSs} {there : Bool} {b : List UInt8} (h : Rest false M there b) : Disk M.next M there b := by
  refine ⟨h.dead, by rw [h.waits, h.syn]; rfl, by rw [h.syn]; exact h.rises, Nat.le_refl _, fun j => ?_⟩
  rw [h.waits, List.take_nil, h.syn]
  exact h.log
theorem Rest.start {d : Bool} {M : FSs} {there : Bool} {b : List UInt8} (h : Rest d M there b) : Rest false (startM M) there b := ⟨rfl, h.waits, h.syn, h.rises, h.log⟩
theorem Rest.plan {d : Bool} {M : FSs} {there : Bool} {b : List UInt8} (h : Rest d M there b) (op cut : Int) (keep : List Bool) : Rest d (planM M op cut keep) there b := ⟨h.dead, h.waits, h.syn, h.rises, h.log⟩
theorem rest_new : Rest false newM false [] := ⟨rfl, rfl, rfl, List.Pairwise.nil, fun _ hp => absurd hp List.not_mem_nil, .inr ⟨rfl, rfl, rfl⟩⟩
theorem Disk.goes {N : Nat} {M : FSs} {there : Bool} {b : List UInt8} (h : Disk N M there b) (ho : M.op ≠ 0) : Disk N (failsM M) there b := by
  rw [failsM_no ho]
  exact ⟨h.live, h.repl, h.rsyn, h.low, h.all⟩
theorem goes_op {M : FSs} (ho : M.op ≠ 0) : (failsM M).op = max (-1) (M.op - 1) := by rw [failsM_no ho]
theorem Disk.now {N : Nat} {M : FSs} {there : Bool} {b : List UInt8} (h : Disk N M there b) : LogAt N M.fs M.now there b := by
  have := h.all M.waits.length
  rwa [List.take_length, h.repl] at this
theorem Disk.rnow {N : Nat} {M : FSs} {there : Bool} {b : List UInt8} (h : Disk N M there b) : Rises M.now := by
  rw [← h.repl]
  exact doL_rises h.rsyn _
theorem two_len {P : PL Nat} (hr : Rises P) (h : ∀ p ∈ P, p.1 = cLog ∨ p.1 = cAnew) : P.length < 200 := by
  match P, hr, h with
  | [], _, _ => exact Nat.zero_lt_succ _
  | [_], _, _ => exact (by decide : 1 < 200)
  | [_, _], _, _ => exact (by decide : 2 < 200)
  | x :: y :: z :: R, hr, h =>
    exfalso
    have h1 := List.pairwise_cons.1 hr
    have h2 := List.pairwise_cons.1 h1.2
    have xy := ltB_ne (h1.1 y (by simp))
    have xz := ltB_ne (h1.1 z (by simp))
    have yz := ltB_ne (h2.1 z (by simp))
    rcases h x (by simp) with a | a <;> rcases h y (by simp) with b | b <;> rcases h z (by simp) with c | c
    · exact xy (a.trans b.symm)
    · exact xy (a.trans b.symm)
    · exact xz (a.trans c.symm)
    · exact yz (b.trans c.symm)
    · exact yz (b.trans c.symm)
    · exact xz (a.trans c.symm)
    · exact xy (a.trans b.symm)
    · exact xy (a.trans b.symm)
/-- a change of names that is none of the log's -/
theorem LogAt.change {N : Nat} {fs : Nat → FileS} {P : PL Nat} {there : Bool} {b : List UInt8} (h : LogAt N fs P there b) (o : Option Nat) : LogAt N fs (setP P cAnew o) there b := by
  have e : getP (setP P cAnew o) cLog = getP P cLog := by rw [getP_set, if_neg (by decide)]
  refine ⟨fun p hp => ?_, by rw [e]; exact h.log⟩
  rcases mem_set hp with ⟨hp, _⟩ | ⟨hp, _⟩
  · exact h.two p hp
  · exact .inr hp
theorem take_one_more {α : Type} (l : List α) (x : α) (j : Nat) : (l ++ [x]).take j = if j ≤ l.length then l.take j else l ++ [x] := by
  split
  · rw [List.take_append_of_le_length (by assumption)]
  · rw [List.take_of_length_le (by rw [List.length_append, List.length_singleton]; omega)]
theorem Disk.change {N : Nat} {M : FSs} {there : Bool} {b : List UInt8} (h : Disk N M there b) {c : Chg} {o : Option Nat} (hc : ∀ P, doC P c = setP P cAnew o) : Disk N (waitM M c) there b := by
  refine ⟨h.live, ?_, h.rsyn, h.low, fun j => ?_⟩
  · show doL M.syn (M.waits ++ [c]) = doC M.now c
    rw [doL_snoc, h.repl]
  · show LogAt N M.fs (doL M.syn ((M.waits ++ [c]).take j)) there b
    rw [take_one_more]
    split
    · exact h.all j
    · rw [doL_snoc, h.repl, hc]
      exact h.now.change o
/-- a file that is not the log's -/
theorem Disk.file {N : Nat} {M : FSs} {there : Bool} {b : List UInt8} (h : Disk N M there b) {fs : Nat → FileS} (hf : ∀ i, i < N → fs i = M.fs i) {next : Nat} (hn : N ≤ next) : Disk N { M with fs := fs, next := next } there b :=
  ⟨h.live, h.repl, h.rsyn, hn, fun j => ⟨(h.all j).two, (h.all j).log.imp (fun ⟨e, i, h1, h2, h3⟩ => ⟨e, i, h1, h2, (hf i h1).trans h3⟩) id⟩⟩
section
variable {N : Nat} {M : FSs} {there : Bool} {b : List UInt8}
/-- is there power behind a call? -/
def OpOn (M M' : FSs) : Prop := M.op = -1 → M'.op = -1
theorem opOn_goes (ho : M.op ≠ 0) : OpOn M (failsM M) := fun h => by rw [goes_op ho, h]; rfl
/-- Delete of what lies beside the log -/
theorem disk_del (h : Disk N M there b) (hi : isB M cAnew = true) :
    (goesB M (isB M cAnew) = false ∧ M.op = 0 ∧ Rest true (delM M cAnew) there b) ∨ (goesB M (isB M cAnew) = true ∧ OpOn M (delM M cAnew) ∧ Disk N (delM M cAnew) there b ∧ getP (delM M cAnew).now cAnew = none) := by
  by_cases ho : M.op = 0
  · refine .inl ⟨by unfold goesB; rw [failsB_yes ho]; simp, ho, ?_⟩
    have : delM M cAnew = crashM M := by unfold delM; rw [thenM_off hi (failsB_yes ho)]; exact if_pos ho
    rw [this]
    exact h.crash
  · refine .inr ⟨by unfold goesB; rw [failsB_no ho, hi]; rfl, ?_⟩
    have : delM M cAnew = waitM (failsM M) (.del cAnew) := by unfold delM; rw [thenM_go hi (failsB_no ho)]
    rw [this]
    refine ⟨opOn_goes ho, (h.goes ho).change (o := none) (fun P => rfl), ?_⟩
    show getP (setP (failsM M).now cAnew none) cAnew = none
    rw [getP_set, if_pos rfl]
/-- Append to a new file beside the log -/
theorem disk_app (h : Disk N M there b) (hg : getP M.now cAnew = none) (W : List UInt8) :
    (goesB M (appOk M cAnew) = false ∧ M.op = 0 ∧ Rest true (appM M cAnew W) there b) ∨ (goesB M (appOk M cAnew) = true ∧ OpOn M (appM M cAnew W) ∧ ∃ i, Disk i (appM M cAnew W) there b ∧ i < (appM M cAnew W).next ∧ getP (appM M cAnew W).now cAnew = some i ∧ (appM M cAnew W).fs i = ⟨W, 0⟩) := by
  have hok : appOk M cAnew = true := appOk_new h.live (by decide) hg (two_len h.rnow h.now.two)
  by_cases ho : M.op = 0
  · refine .inl ⟨by unfold goesB; rw [failsB_yes ho]; simp, ho, ?_⟩
    rw [app_off hok ho]
    exact h.crash
  · refine .inr ⟨by unfold goesB; rw [failsB_no ho, hok]; rfl, ?_⟩
    have hgo := h.goes ho
    have e : appM M cAnew W = app0 M.next W (waitM (newF (failsM M)) (.made cAnew M.next)) := by
      unfold appM
      rw [thenM_go hok (failsB_no ho)]
      unfold app1
      rw [goes_now (failsB_no ho), hg, goes_next (failsB_no ho)]
    rw [e]
    have hne : (failsM M).next = M.next := goes_next (failsB_no ho)
    have hD : Disk M.next (failsM M) there b := ⟨hgo.live, hgo.repl, hgo.rsyn, by rw [hne]; exact Nat.le_refl _, fun j => ⟨(hgo.all j).two, (hgo.all j).log.imp (fun ⟨e, i, h1, h2, h3⟩ => ⟨e, i, Nat.lt_of_lt_of_le h1 h.low, h2, h3⟩) id⟩⟩
    have hD2 := (hD.file (fs := fun j => if j = M.next then ⟨W, 0⟩ else (failsM M).fs j) (fun i hi => by rw [if_neg (by omega)]) (next := M.next + 1) (by omega)).change (c := .made cAnew M.next) (o := some M.next) (fun P => rfl)
    have e2 : app0 M.next W (waitM (newF (failsM M)) (.made cAnew M.next)) = waitM { failsM M with fs := fun j => if j = M.next then ⟨W, 0⟩ else (failsM M).fs j, next := M.next + 1 } (.made cAnew M.next) := by
      unfold app0 waitM newF setF
      simp only [hne, if_true, List.nil_append]
      congr 1
      funext j
      by_cases hj : j = M.next
      · rw [if_pos hj, if_pos hj]
      · rw [if_neg hj, if_neg hj, if_neg hj]
    rw [e2]
    refine ⟨opOn_goes ho, M.next, hD2, Nat.lt_succ_self _, ?_, ?_⟩
    · show getP (setP (failsM M).now cAnew (some M.next)) cAnew = _
      rw [getP_set, if_pos rfl]
    · show (if M.next = M.next then _ else _ : FileS) = _
      rw [if_pos rfl]
/-- Sync of it -/
theorem disk_sync {i : Nat} {W : List UInt8} (h : Disk i M there b) (hi : i < M.next) (hg : getP M.now cAnew = some i) (hf : M.fs i = ⟨W, 0⟩) :
    (goesB M (isB M cAnew) = false ∧ M.op = 0 ∧ Rest true (syncM M cAnew) there b) ∨ (goesB M (isB M cAnew) = true ∧ OpOn M (syncM M cAnew) ∧ Disk i (syncM M cAnew) there b ∧ i < (syncM M cAnew).next ∧ getP (syncM M cAnew).now cAnew = some i ∧ (syncM M cAnew).fs i = ⟨W, W.length⟩) := by
  have hok : isB M cAnew = true := by unfold isB; rw [h.live, hg]; rfl
  by_cases ho : M.op = 0
  · refine .inl ⟨by unfold goesB; rw [failsB_yes ho]; simp, ho, ?_⟩
    have : syncM M cAnew = crashM M := by unfold syncM; rw [thenM_off hok (failsB_yes ho)]; exact if_pos ho
    rw [this]
    exact h.crash
  · refine .inr ⟨by unfold goesB; rw [failsB_no ho, hok]; rfl, ?_⟩
    have hgo := h.goes ho
    have hfs := goes_fs (failsB_no ho)
    have e : syncM M cAnew = setF (failsM M) i ⟨W, W.length⟩ := by
      unfold syncM
      rw [thenM_go hok (failsB_no ho)]
      unfold sync1
      rw [goes_now (failsB_no ho), hg, hfs]
      simp only [hf]
    rw [e]
    refine ⟨opOn_goes ho, hgo.file (fun j hj => if_neg (by omega)) hgo.low, ?_, ?_, if_pos rfl⟩
    · show i < (failsM M).next
      rw [goes_next (failsB_no ho)]
      exact hi
    · show getP (failsM M).now cAnew = _
      rw [goes_now (failsB_no ho)]
      exact hg
/-- Rename of it to the log, and SyncDir -/
structure Both (M : FSs) (there : Bool) (b W : List UInt8) : Prop where
  live : M.dead = false
  rnow : Rises M.now
  rsyn : Rises M.syn
  now : LogAt M.next M.fs M.now true W
  gone : getP M.now cAnew = none
  all : ∀ j, LogAt M.next M.fs (doL M.syn (M.waits.take j)) there b ∨ LogAt M.next M.fs (doL M.syn (M.waits.take j)) true W
theorem disk_ren {i : Nat} {W : List UInt8} (h : Disk i M there b) (hi : i < M.next) (hg : getP M.now cAnew = some i) (hf : M.fs i = ⟨W, W.length⟩) :
    (goesB M (isB M cAnew && namedB cLog) = false ∧ M.op = 0 ∧ Rest true (renM M cAnew cLog) there b) ∨ (goesB M (isB M cAnew && namedB cLog) = true ∧ OpOn M (renM M cAnew cLog) ∧ Both (renM M cAnew cLog) there b W) := by
  have hok : (isB M cAnew && namedB cLog) = true := by unfold isB; rw [h.live, hg]; rfl
  by_cases ho : M.op = 0
  · refine .inl ⟨by unfold goesB; rw [failsB_yes ho]; simp, ho, ?_⟩
    have : renM M cAnew cLog = crashM M := by unfold renM; rw [thenM_off hok (failsB_yes ho)]; exact if_pos ho
    rw [this]
    exact h.crash
  · refine .inr ⟨by unfold goesB; rw [failsB_no ho, hok]; rfl, ?_⟩
    have hgo := h.goes ho
    have hnow := goes_now (failsB_no ho)
    have hfs := goes_fs (failsB_no ho)
    have hnx := goes_next (failsB_no ho)
    have e : renM M cAnew cLog = waitM (failsM M) (.ren cAnew cLog i) := by
      unfold renM
      rw [thenM_go hok (failsB_no ho)]
      unfold ren1
      rw [if_neg (by decide), hnow, hg]
    rw [e]
    have hL : LogAt (failsM M).next (failsM M).fs (doC (failsM M).now (.ren cAnew cLog i)) true W := by
      refine ⟨fun p hp => ?_, .inl ⟨rfl, i, by rw [hnx]; exact hi, ?_, by rw [hfs]; exact hf⟩⟩
      · rcases mem_ren (P := (failsM M).now) hp with hp | ⟨hp, _⟩
        · exact hgo.now.two p hp
        · exact .inl hp
      · show getP (setP (setP (failsM M).now cAnew none) cLog (some i)) cLog = _
        rw [getP_set, if_pos rfl]
    refine ⟨opOn_goes ho, hgo.live, ?_, hgo.rsyn, hL, ?_, fun j => ?_⟩
    · exact doC_rises hgo.rnow (.ren cAnew cLog i)
    · show getP (setP (setP (failsM M).now cAnew none) cLog (some i)) cAnew = none
      rw [getP_set, if_neg (by decide), getP_set, if_pos rfl]
    · show LogAt (failsM M).next (failsM M).fs (doL (failsM M).syn (((failsM M).waits ++ [Chg.ren cAnew cLog i]).take j)) there b ∨ LogAt (failsM M).next (failsM M).fs (doL (failsM M).syn (((failsM M).waits ++ [Chg.ren cAnew cLog i]).take j)) true W
      rw [take_one_more]
      split
      · have := hgo.all j
        exact .inl ⟨this.two, this.log.imp (fun ⟨e, i', h1, h2, h3⟩ => ⟨e, i', by rw [hnx]; omega, h2, h3⟩) id⟩
      · rw [doL_snoc, hgo.repl]
        exact .inr hL
theorem disk_dir {W : List UInt8} (h : Both M there b W) :
    (goesB M (!M.dead) = false ∧ M.op = 0 ∧ (Rest true (dirM M) there b ∨ Rest true (dirM M) true W)) ∨ (goesB M (!M.dead) = true ∧ OpOn M (dirM M) ∧ Rest false (dirM M) true W ∧ getP (dirM M).now cAnew = none) := by
  have hok : (!M.dead) = true := by rw [h.live]; rfl
  by_cases ho : M.op = 0
  · refine .inl ⟨by unfold goesB; rw [failsB_yes ho]; simp, ho, ?_⟩
    rw [dir_off h.live ho]
    exact (h.all (kept M)).imp (fun k => k.crash (Nat.le_refl _) h.rsyn) (fun k => k.crash (Nat.le_refl _) h.rsyn)
  · refine .inr ⟨by unfold goesB; rw [failsB_no ho, hok]; rfl, ?_⟩
    have e : dirM M = dir1 (failsM M) := by unfold dirM; rw [thenM_go hok (failsB_no ho)]
    rw [e]
    have hnow := goes_now (failsB_no ho)
    refine ⟨opOn_goes ho, ⟨?_, rfl, rfl, ?_, ?_⟩, by show getP (failsM M).now cAnew = none; rw [hnow]; exact h.gone⟩
    · show (failsM M).dead = false
      rw [failsM_no ho]
      exact h.live
    · show Rises (failsM M).now
      rw [hnow]
      exact h.rnow
    · show LogAt (failsM M).next (failsM M).fs (failsM M).now true W
      rw [goes_next (failsB_no ho), goes_fs (failsB_no ho), hnow]
      exact h.now
/-- Append to the log -/
structure LogIn (M : FSs) (b l : List UInt8) : Prop where
  live : M.dead = false
  waits : M.waits = []
  syn : M.syn = M.now
  rises : Rises M.now
  two : ∀ p ∈ M.now, p.1 = cLog ∨ p.1 = cAnew
  log : ∃ i, i < M.next ∧ getP M.now cLog = some i ∧ M.fs i = ⟨b ++ l, b.length⟩
theorem rest_app (h : Rest false M true b) (l : List UInt8) :
    (goesB M (appOk M cLog) = false ∧ M.op = 0 ∧ Rest true (appM M cLog l) true b) ∨ (goesB M (appOk M cLog) = true ∧ OpOn M (appM M cLog l) ∧ LogIn (appM M cLog l) b l ∧ (appM M cLog l).now = M.now) := by
  obtain ⟨i, h1, h2, h3⟩ : ∃ i, i < M.next ∧ getP M.now cLog = some i ∧ M.fs i = ⟨b, b.length⟩ := by
    rcases h.log.log with ⟨_, h⟩ | ⟨e, _⟩
    · exact h
    · cases e
  have hok : appOk M cLog = true := appOk_old h.dead (by decide) h2
  by_cases ho : M.op = 0
  · refine .inl ⟨by unfold goesB; rw [failsB_yes ho]; simp, ho, ?_⟩
    rw [app_off hok ho]
    exact h.disk.crash
  · refine .inr ⟨by unfold goesB; rw [failsB_no ho, hok]; rfl, ?_⟩
    have e : appM M cLog l = app0 i l (failsM M) := by
      unfold appM
      rw [thenM_go hok (failsB_no ho)]
      unfold app1
      rw [goes_now (failsB_no ho), h2]
    rw [e]
    have hf := failsM_no ho
    have hs : (app0 i l (failsM M)).fs i = ⟨b ++ l, b.length⟩ := by
      show (if i = i then _ else _ : FileS) = _
      rw [if_pos rfl, goes_fs (failsB_no ho), h3]
    rw [hf] at hs ⊢
    refine ⟨fun hh => ?_, ⟨h.dead, h.waits, h.syn, h.rises, h.log.two, i, h1, h2, hs⟩, rfl⟩
    show max (-1) (M.op - 1) = -1
    rw [hh]
    rfl
theorem logIn_sync {l : List UInt8} (h : LogIn M b l) :
    (goesB M (isB M cLog) = false ∧ M.op = 0 ∧ ∃ c, Rest true (syncM M cLog) true (b ++ l.take c)) ∨ (goesB M (isB M cLog) = true ∧ OpOn M (syncM M cLog) ∧ Rest false (syncM M cLog) true (b ++ l) ∧ (syncM M cLog).now = M.now) := by
  obtain ⟨i, h1, h2, h3⟩ := h.log
  have hok : isB M cLog = true := by unfold isB; rw [h.live, h2]; rfl
  by_cases ho : M.op = 0
  · refine .inl ⟨by unfold goesB; rw [failsB_yes ho]; simp, ho, ?_⟩
    have e : syncM M cLog = crashM M := by unfold syncM; rw [thenM_off hok (failsB_yes ho)]; exact if_pos ho
    have hl : left M = M.now := by unfold left; rw [h.waits, List.take_nil, h.syn]; rfl
    rw [e]
    have hc := cutAt_le (cut := M.cut) (f := ⟨b ++ l, b.length⟩) (by show b.length ≤ (b ++ l).length; rw [List.length_append]; omega)
    obtain ⟨c, hc2⟩ : ∃ c, cutAt M.cut ⟨b ++ l, b.length⟩ = b.length + c := ⟨_, (Nat.add_sub_cancel' hc.1).symm⟩
    have hcl : c ≤ l.length := by
      have := hc.2
      rw [hc2, List.length_append] at this
      omega
    refine ⟨c, rfl, rfl, rfl, by show Rises (left M); rw [hl]; exact h.rises, ?_, .inl ⟨rfl, i, h1, ?_, ?_⟩⟩
    · show ∀ p ∈ left M, _
      rw [hl]
      exact h.two
    · show getP (left M) cLog = _
      rw [hl]
      exact h2
    · rw [crash_file (n := cLog) (by rw [hl]; exact h2), h3]
      unfold cutF
      rw [hc2]
      have e2 : (b ++ l).take (b.length + c) = b ++ l.take c := by rw [List.take_append, List.take_of_length_le (by omega), Nat.add_sub_cancel_left]
      show (⟨(b ++ l).take (b.length + c), b.length + c⟩ : FileS) = _
      rw [e2, List.length_append, List.length_take, Nat.min_eq_left hcl]
  · refine .inr ⟨by unfold goesB; rw [failsB_no ho, hok]; rfl, ?_⟩
    have e : syncM M cLog = setF (failsM M) i ⟨b ++ l, (b ++ l).length⟩ := by
      unfold syncM
      rw [thenM_go hok (failsB_no ho)]
      unfold sync1
      rw [goes_now (failsB_no ho), h2, goes_fs (failsB_no ho)]
      simp only [h3]
    rw [e, failsM_no ho]
    refine ⟨fun hh => ?_, ⟨h.live, h.waits, h.syn, h.rises, h.two, .inl ⟨rfl, i, h1, h2, if_pos rfl⟩⟩, rfl⟩
    show max (-1) (M.op - 1) = -1
    rw [hh]
    rfl
end
end Go.Mun
