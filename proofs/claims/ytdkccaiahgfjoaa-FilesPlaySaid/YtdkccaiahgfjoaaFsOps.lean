/- Operations on files: what they do to the plain files; Sync, Delete, SyncDir, Rename. -/
import Derived.Test.YtdkccaiahgfjoaaFsFails
namespace Go.Mun
open Go Go.RowKit Go.Proofs Go.Maps

/-- an operation that may be done begins; if the power does not fail, it goes on -/
noncomputable def thenM (M : FSs) (ok : Bool) (g : FSs → FSs) : FSs := if ok = true then (if failsB M = true then failsM M else g (failsM M)) else M
def goesB (M : FSs) (ok : Bool) : Bool := ok && !failsB M
/-- a file's bytes are synced -/
def sync1 (n : Ky) (M : FSs) : FSs := match getP M.now n with | some i => setF M i ⟨(M.fs i).b, (M.fs i).b.length⟩ | none => M
noncomputable def syncM (M : FSs) (n : Ky) : FSs := thenM M (isB M n) (sync1 n)
def dir1 (M : FSs) : FSs := { M with syn := M.now, waits := [] }
noncomputable def dirM (M : FSs) : FSs := thenM M (!M.dead) dir1
def namedB (n : Ky) : Bool := decide (n ≠ [] ∧ n.length ≤ 100)
def ren1 (a b : Ky) (M : FSs) : FSs := if a = b then M else match getP M.now a with | some i => waitM M (.ren a b i) | none => M
noncomputable def renM (M : FSs) (a b : Ky) : FSs := thenM M (isB M a && namedB b) (ren1 a b)
noncomputable def delM (M : FSs) (a : Ky) : FSs := thenM M (isB M a) fun M => waitM M (.del a)
theorem failsB_yes {M : FSs} (h : M.op = 0) : failsB M = true := decide_eq_true h
theorem failsB_no {M : FSs} (h : M.op ≠ 0) : failsB M = false := decide_eq_false h
theorem thenM_no {M : FSs} {ok : Bool} {g : FSs → FSs} (h : ok = false) : thenM M ok g = M := by unfold thenM; rw [h]; rfl
theorem thenM_off {M : FSs} {ok : Bool} {g : FSs → FSs} (h : ok = true) (hf : failsB M = true) : thenM M ok g = failsM M := by unfold thenM; rw [h, hf]; rfl
theorem thenM_go {M : FSs} {ok : Bool} {g : FSs → FSs} (h : ok = true) (hf : failsB M = false) : thenM M ok g = g (failsM M) := by unfold thenM; rw [h, hf]; rfl
theorem goes_now {M : FSs} (h : failsB M = false) : (failsM M).now = M.now := by rw [failsM_no (of_decide_eq_false h)]
theorem goes_fs {M : FSs} (h : failsB M = false) : (failsM M).fs = M.fs := by rw [failsM_no (of_decide_eq_false h)]
theorem goes_next {M : FSs} (h : failsB M = false) : (failsM M).next = M.next := by rw [failsM_no (of_decide_eq_false h)]
section
variable {k p : Nat} {M : FSs} {φ : Nat → Nat} {o : Own} {K L : Nat} {w : World}
theorem fails_any (h : RelP k p M φ o K L w) (hK : K ≤ 1000000000) (hL : L ≤ 1000000000) :
    Calls Try.prog 30 #[.pointer (some ⟨p, 0, none⟩)] w fun e w' => e = .returned (.bool (failsB M)) ∧ ∃ o', RelP k p (failsM M) φ o' (K + 1) L w' ∧ Turn k o o' w w' := by
  by_cases ho : M.op = 0
  · rw [failsB_yes ho]
    exact (fails_yes h ho hK hL).mono fun e w' ⟨h1, o', h2, h3⟩ => ⟨h1, o', h2.more (Nat.le_succ _) (Nat.le_refl _), h3⟩
  · rw [failsB_no ho]
    exact (fails_no h ho hK).mono fun e w' ⟨h1, h2, h3⟩ => ⟨h1, o, h2, h3⟩
/-- a file's bytes are others -/
theorem Fine.setF {M : FSs} (h : Fine M) (i : Nat) (f : FileS) (hf : f.s ≤ f.b.length) : Fine (setF M i f) :=
  ⟨h.rnow, h.rsyn, h.repl, h.ok, h.names, h.snames, h.fresh, h.sfresh, h.made, fun j => by
    show (if j = i then f else M.fs j).s ≤ (if j = i then f else M.fs j).b.length
    by_cases e : j = i
    · rw [if_pos e]; exact hf
    · rw [if_neg e]; exact h.sized j, h.once, h.op⟩
theorem RelP.file_set {w' : World} {o' : Own} {L' : Nat} (h : RelP k p M φ o K L w) {i : Nat} {f : FileS} (st : ∀ {b : Nat} {t : Tag}, o b = some (k, t) → t ≠ .file i → t ≠ .byt i → w'.heap[b]? = w.heap[b]?) (ex : ∀ {b : Nat} {x : Nat × Tag}, o b = some x → o' b = some x) (ho : OwnIn o' w')
    (hf : FileAt k φ o' w' i f) (hL : f.b.length ≤ L') (hLL : L ≤ L') (hs : f.s ≤ f.b.length) : RelP k p (setF M i f) φ o' K L' w' := by
  obtain ⟨bn, bs, vw, vk, hh⟩ := h.head
  refine ⟨h.fine.setF i f hs, ho, ⟨bn, bs, vw, vk, ⟨hh.blk.same (st hh.op (by simp) (by simp)), ex hh.op, ex hh.on, ex hh.os, ?_, ?_, own_same hh.waits fun g hg => st (hh.ow g hg) (by simp) (by simp), fun g hg => ex (hh.ow g hg), own_same hh.keep fun g hg => st (hh.ok g hg) (by simp) (by simp), fun g hg => ex (hh.ok g hg)⟩⟩, fun j hj => ?_, h.ops, h.cut, h.opb, h.wl⟩
  · obtain ⟨N, h1, h2⟩ := hh.now
    exact ⟨N, h1.same (st hh.on (by simp) (by simp)), h2⟩
  · obtain ⟨N, h1, h2⟩ := hh.syn
    exact ⟨N, h1.same (st hh.os (by simp) (by simp)), h2⟩
  · show FileAt k φ o' w' j (if j = i then f else M.fs j) ∧ (if j = i then f else M.fs j).b.length ≤ L'
    by_cases e : j = i
    · subst e
      rw [if_pos rfl]
      exact ⟨hf, hL⟩
    · rw [if_neg e]
      obtain ⟨⟨v, g1, g2, g3, g4⟩, g5⟩ := h.file j hj
      have ne1 : ∀ t, t = Tag.file j ∨ t = Tag.byt j → t ≠ .file i ∧ t ≠ .byt i := by
        rintro t (rfl | rfl)
        · exact ⟨by intro e2; injection e2 with e2; exact e e2, by simp⟩
        · exact ⟨by simp, by intro e2; injection e2 with e2; exact e e2⟩
      exact ⟨⟨v, g1.same (st g2 (ne1 _ (.inl rfl)).1 (ne1 _ (.inl rfl)).2), ex g2, own_same g3 fun g hg => st (g4 g hg) (ne1 _ (.inr rfl)).1 (ne1 _ (.inr rfl)).2, fun g hg => ex (g4 g hg)⟩, Nat.le_trans g5 hLL⟩
set_option maxRecDepth 100000 in
set_option maxHeartbeats 1000000 in
theorem Sync_any (h : RelP k p M φ o K L w) (n : Ky) (hn : n.length ≤ 1000000) (hK : K ≤ 1000000000) (hL : L ≤ 1000000000) :
    Calls Try.prog 13 #[.pointer (some ⟨p, 0, none⟩), .string ⟨n.toArray⟩] w fun e w' => e = .returned (.bool (goesB M (isB M n))) ∧ ∃ o' φ', RelP k p (syncM M n) φ' o' (K + 2) L w' ∧ Turn k o o' w w' := by
  have CI := Lib.hid (is_any h n hn)
  have HR := Lib.hid h
  cases hb : isB M n
  · rw [hb] at CI
    unfold syncM
    rw [thenM_no hb]
    clear hb h
    go_enter Try.func13, Try.ntmps13
    go_wp2_with (first
      | (go_at_call 35; (with_reducible refine CI.out.mono ?_); rintro e w1 ⟨rfl, rfl⟩)
      | fail)
    go_ret
    exact ⟨rfl, o, φ, HR.out.more (by omega) (Nat.le_refl _), Turn.refl HR.out.own⟩
  · have HB := Lib.hid hb
    rw [hb] at CI
    have CF := Lib.hid (fails_any h hK hL)
    cases hf : failsB M
    · have HF := Lib.hid hf
      rw [hf] at CF
      obtain ⟨i, hg⟩ := isB_get hb
      have HG := Lib.hid hg
      clear hb h hf hg
      go_enter Try.func13, Try.ntmps13
      go_upto_region 3 with (first
        | (go_at_call 35; (with_reducible refine CI.out.mono ?_); rintro e w1 ⟨rfl, rfl⟩)
        | (go_at_call 30; (with_reducible refine CF.out.mono ?_); rintro e w1 ⟨rfl, o1, h1, T1⟩)
        | fail)
      have R1 := Lib.hid h1
      have T1' := Lib.hid T1
      have hg1 : getP (failsM M).now n = some i := by rw [goes_now HF.out]; exact HG.out
      obtain ⟨bn, bs, vw, vk, hh⟩ := h1.head
      obtain ⟨⟨v, f1, f2, f3, f4⟩, f5⟩ := h1.file i (Live.of_now hg1)
      have y0 := hh.blk.cellv (i := 0) rfl
      have z0 := f1.cellv (i := 0) rfl
      obtain ⟨N, hN, _⟩ := hh.now
      have q := (show MapV w1.drew bn _ _ from hN).look namesTy (zFileP w1.drew) (by unfold maxLen; omega) (idT_get hg1)
      obtain ⟨A, c, rfl⟩ := row_slC f3
      have F2 := Lib.hid f2
      have F3 := Lib.hid f3
      have F4 := Lib.hid f4
      have HG1 := Lib.hid hg1
      generalize hl0 : (((failsM M).fs i).b.length) = l0 at f1 z0
      have HL0 := Lib.hid hl0
      clear f2 f3 f4 f5 hN hh h1 T1 hg1 hl0
      go_still_tail 18, (by kernel_rfl)
      refine wpList_store_cell rfl 3 (.tmp 30) (.tmp 28) rfl (w := w1.drew) f1.drew (i := 1) (v := .int .i64 (l0 : Nat)) (show 1 < 2 by decide) (by kernel_rfl) rfl rfl rfl ?_
      intro w5 hx5 hg5
      go_wp2
      go_ret
      have hg15 : w1.grownBy w5 (some (φ i)) := ⟨hg5.os, hg5.tape, hg5.output, hg5.size, hg5.block⟩
      have ho := R1.out.own
      have st : ∀ {b : Nat} {t : Tag}, o1 b = some (k, t) → t ≠ .file i → w5.heap[b]? = w1.heap[b]? := fun {b t} e ht => same_of hg15 (ho.lt e) e (one_some F2.out) ht
      refine ⟨by unfold goesB; rw [HF.out]; rfl, o1, φ, ?_, T1'.out.trans (Turn.wrote ho hg15 F2.out)⟩
      unfold syncM
      rw [thenM_go HB.out HF.out, sync1, HG1.out]
      refine RelP.file_set (R1.out.more (Nat.le_succ _) (Nat.le_refl _)) (fun e h1 _ => st e h1) id (ho.more hg15.size) ⟨.slice A l0 c, ?_, F2.out, ?_, ?_⟩ (R1.out.file i (Live.of_now HG1.out)).2 (Nat.le_refl _) (Nat.le_refl _)
      · show Blk w5 (φ i) _ #[_, .int .i64 (((failsM M).fs i).b.length : Nat)]
        rw [HL0.out]
        exact hx5
      · rw [← HL0.out]
        exact own_same F3.out fun g hg => st (F4.out g hg) (by simp)
      · rw [← HL0.out]
        exact F4.out
    · have HF := Lib.hid hf
      rw [hf] at CF
      clear hb h hf
      go_enter Try.func13, Try.ntmps13
      go_wp2_with (first
        | (go_at_call 35; (with_reducible refine CI.out.mono ?_); rintro e w1 ⟨rfl, rfl⟩)
        | (go_at_call 30; (with_reducible refine CF.out.mono ?_); rintro e w1 ⟨rfl, o1, h1, T1⟩)
        | fail)
      go_ret
      unfold syncM
      rw [thenM_off HB.out HF.out]
      exact ⟨by unfold goesB; rw [HF.out]; rfl, o1, φ, h1.more (by omega) (Nat.le_refl _), T1⟩
end
end Go.Mun
