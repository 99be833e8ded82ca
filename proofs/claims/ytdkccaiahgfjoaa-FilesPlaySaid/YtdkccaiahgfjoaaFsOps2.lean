/- Operations on files: SyncDir, Delete. -/
import Derived.Test.YtdkccaiahgfjoaaFsOps
namespace Go.Mun
open Go Go.RowKit Go.Proofs Go.Maps

section
variable {k p : Nat} {M : FSs} {φ : Nat → Nat} {o : Own} {K L : Nat} {w : World}
theorem Fine.dir {M : FSs} (h : Fine M) : Fine (dir1 M) :=
  ⟨h.rnow, h.rnow, rfl, trivial, h.names, h.names, h.fresh, h.fresh, fun n i hn => absurd hn List.not_mem_nil, h.sized, by have := h.once.doL h.rsyn h.ok; rw [h.repl] at this; exact this, h.op⟩
set_option maxRecDepth 100000 in
set_option maxHeartbeats 1000000 in
theorem SyncDir_any (h : RelP k p M φ o K L w) (hK : K ≤ 1000000000) (hL : L ≤ 1000000000) :
    Calls Try.prog 15 #[.pointer (some ⟨p, 0, none⟩)] w fun e w' => e = .returned (.bool (goesB M (!M.dead))) ∧ ∃ o' φ', RelP k p (dirM M) φ' o' (K + 2) L w' ∧ Turn k o o' w w' := by
  have HR := Lib.hid h
  obtain ⟨bn, bs, vw, vk, hh⟩ := h.head
  have y6 := hh.blk.cellv (i := 6) rfl
  clear hh
  cases hd : M.dead
  · rw [hd] at y6
    have HD := Lib.hid (show (!M.dead) = true by rw [hd]; rfl)
    have CF := Lib.hid (fails_any h hK hL)
    cases hf : failsB M
    · have HF := Lib.hid hf
      rw [hf] at CF
      clear h hf hd
      go_enter Try.func15, Try.ntmps15
      go_upto_region 3 with (first
        | (go_at_call 30; (with_reducible refine CF.out.mono ?_); rintro e w1 ⟨rfl, o1, h1, T1⟩)
        | fail)
      obtain ⟨bn, bs, vw, vk, hh⟩ := h1.head
      have R1 := Lib.hid h1
      have T1' := Lib.hid T1
      have H := Lib.hid hh
      obtain ⟨N, hN, hNK⟩ := hh.now
      have hx1 := hh.blk
      have y0 := hx1.cellv (i := 0) rfl
      clear hh h1 T1
      go_wp2_with (first
        | (go_at_call 36; (with_reducible refine (CloneN_any hN).mono ?_); rintro e w2 ⟨rfl, hM2, hb2⟩; have hx2 := hx1.ext hb2)
        | ((with_reducible refine gd_store ?_); refine wpList_store_cell rfl 56 (.tmp 19) (.tmp 17) rfl (i := 1) (v := .map (some w1.heap.size)) hx2 (show 1 < 8 by decide) (by kernel_rfl) rfl rfl rfl ?_; intro w3 hx3 hg3)
        | ((with_reducible refine gd_store ?_); refine wpList_store_cell rfl 57 (.tmp 21) (.const (.slice none 0 0)) rfl (i := 2) (v := .slice none 0 0) hx3 (show 2 < 8 by decide) (by kernel_rfl) rfl rfl rfl ?_; intro w4 hx4 hg4)
        | fail)
      go_ret
      have ho := R1.out.own
      have hg24 := hg3.trans hg4
      have hp1 : p < w1.heap.size := ho.lt H.out.op
      have hlt2 := hM2.lt
      have T4 : Turn k o1 o1 w1 w4 := (Turn.below ho hb2).trans (Turn.wrote (ho.more hb2.size) hg24 H.out.op)
      have st : ∀ {b t}, o1 b = some (k, t) → t ≠ .fs → w4.heap[b]? = w1.heap[b]? := fun {b t} e n1 => by
        have hb := ho.lt e
        rw [same_of hg24 (by have := hb2.size; omega) e (one_some H.out.op) n1, hb2.block b hb]
      have q1 : ∀ {b x}, o1 b = some x → give o1 w1.heap.size (k, .syn) b = some x := fun e => by rw [give_ne (by have := ho.lt e; omega)]; exact e
      have hs24 := hg24.size
      refine ⟨by unfold goesB; rw [HF.out]; rfl, give o1 w1.heap.size (k, .syn), φ, ?_, T1'.out.trans (T4.give (Nat.le_refl _) _)⟩
      unfold dirM
      rw [thenM_go HD.out HF.out]
      refine ⟨R1.out.fine.dir, (ho.more T4.size).give (by omega) _, ⟨bn, w1.heap.size, .slice none 0 0, vk, ⟨hx4, q1 H.out.op, q1 H.out.on, give_same _ _ _, ⟨N, hN.same (st H.out.on (by simp)), by omega⟩, ⟨N, hM2.same (hg24.block _ hlt2 (by intro e; injection e with e; omega)), by show N + 0 ≤ K + 2; omega⟩, World.ownsRow_nil _ _ _ _, (fun g h => by cases h), own_same H.out.keep fun g hg => st (H.out.ok g hg) (by simp), fun g hg => q1 (H.out.ok g hg)⟩⟩, fun i hi => ?_, ⟨R1.out.ops.1, by have := R1.out.ops.2; show (failsM M).ops ≤ ((K + 2 : Nat) : Int); omega⟩, R1.out.cut, R1.out.opb, Nat.zero_le _⟩
      have hli : Live (failsM M) i := by
        rcases hi with h | h | ⟨n, h⟩
        · exact .inl h
        · exact .inl h
        · exact absurd h List.not_mem_nil
      obtain ⟨⟨v, f1, f2, f3, f4⟩, f5⟩ := R1.out.file i hli
      exact ⟨⟨v, f1.same (st f2 (by simp)), q1 f2, own_same f3 fun g hg => st (f4 g hg) (by simp), fun g hg => q1 (f4 g hg)⟩, f5⟩
    · have HF := Lib.hid hf
      rw [hf] at CF
      clear h hf hd
      go_enter Try.func15, Try.ntmps15
      go_wp2_with (first
        | (go_at_call 30; (with_reducible refine CF.out.mono ?_); rintro e w1 ⟨rfl, o1, h1, T1⟩)
        | fail)
      go_ret
      unfold dirM
      rw [thenM_off HD.out HF.out]
      exact ⟨by unfold goesB; rw [HF.out]; rfl, o1, φ, h1.more (by omega) (Nat.le_refl _), T1⟩
  · rw [hd] at y6
    have HD := Lib.hid (show (!M.dead) = false by rw [hd]; rfl)
    unfold dirM
    rw [thenM_no HD.out]
    clear h hd
    go_enter Try.func15, Try.ntmps15
    go_wp2
    go_ret
    exact ⟨rfl, o, φ, HR.out.more (by omega) (Nat.le_refl _), Turn.refl HR.out.own⟩
set_option maxRecDepth 100000 in
set_option maxHeartbeats 1000000 in
theorem Delete_any (h : RelP k p M φ o K L w) (n : Ky) (hn : n.length ≤ 1000000) (hK : K < 1000000000) (hL : L ≤ 1000000000) :
    Calls Try.prog 24 #[.pointer (some ⟨p, 0, none⟩), .string ⟨n.toArray⟩] w fun e w' => e = .returned (.bool (goesB M (isB M n))) ∧ ∃ o' φ', RelP k p (delM M n) φ' o' (K + 2) L w' ∧ Turn k o o' w w' := by
  have CI := Lib.hid (is_any h n hn)
  have HR := Lib.hid h
  cases hb : isB M n
  · rw [hb] at CI
    unfold delM
    rw [thenM_no hb]
    clear hb h
    go_enter Try.func24, Try.ntmps24
    go_wp2_with (first
      | (go_at_call 35; (with_reducible refine CI.out.mono ?_); rintro e w1 ⟨rfl, rfl⟩)
      | fail)
    go_ret
    exact ⟨rfl, o, φ, HR.out.more (by omega) (Nat.le_refl _), Turn.refl HR.out.own⟩
  · have HB := Lib.hid hb
    rw [hb] at CI
    have CF := Lib.hid (fails_any h (by omega) hL)
    cases hf : failsB M
    · have HF := Lib.hid hf
      rw [hf] at CF
      obtain ⟨i, hg⟩ := isB_get hb
      have HN := Lib.hid (h.fine.names _ (getP_mem hg))
      clear hb h hf hg
      go_enter Try.func24, Try.ntmps24
      go_wp2_with (first
        | (go_at_call 35; (with_reducible refine CI.out.mono ?_); rintro e w1 ⟨rfl, rfl⟩)
        | (go_at_call 30; (with_reducible refine CF.out.mono ?_); rintro e w1 ⟨rfl, o1, h1, T1⟩)
        | (go_at_call 31; have CW := wait_any h1 (.del n) HN.out (fun _ _ e => by cases e) (by omega); unfold chgV at CW; (with_reducible refine CW.mono ?_); rintro e w2 ⟨rfl, o2, h2, T2⟩)
        | fail)
      go_ret
      refine ⟨by unfold goesB; rw [HF.out]; rfl, o2, φ, ?_, T1.trans T2⟩
      unfold delM
      rw [thenM_go HB.out HF.out]
      exact h2
    · have HF := Lib.hid hf
      rw [hf] at CF
      clear hb h hf
      go_enter Try.func24, Try.ntmps24
      go_wp2_with (first
        | (go_at_call 35; (with_reducible refine CI.out.mono ?_); rintro e w1 ⟨rfl, rfl⟩)
        | (go_at_call 30; (with_reducible refine CF.out.mono ?_); rintro e w1 ⟨rfl, o1, h1, T1⟩)
        | fail)
      go_ret
      unfold delM
      rw [thenM_off HB.out HF.out]
      exact ⟨by unfold goesB; rw [HF.out]; rfl, o1, φ, h1.more (by omega) (Nat.le_refl _), T1⟩
end
end Go.Mun
