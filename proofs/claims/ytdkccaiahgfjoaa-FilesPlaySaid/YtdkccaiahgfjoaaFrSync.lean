/- The reference: Sync, SyncDir. -/
import Derived.Test.YtdkccaiahgfjoaaFrRead
import Derived.StillTailTactics
namespace Go.Mun
open Go Go.RowKit Go.Proofs Go.Maps

/-- an operation begins, in whatever world that only has more memory -/
def OpAny (k p : Nat) (M : FSs) (o : Own) (K L : Nat) (w : World) : Prop := ∀ w1, Below w.heap.size w w1 → Calls Try.prog 33 #[.pointer (some ⟨p, 0, none⟩)] w1 fun e w' => e = .returned (.bool (!failsB M)) ∧ ∃ o' φ', RelR k p (failsM M) φ' o' (K + 1) L w' ∧ Turn k o o' w1 w'
theorem OpAny.at_ {k p : Nat} {M : FSs} {o : Own} {K L : Nat} {w : World} (h : OpAny k p M o K L w) (w1 : World) (hb : Below w.heap.size w w1) : Calls Try.prog 33 #[.pointer (some ⟨p, 0, none⟩)] w1 fun e w' => e = .returned (.bool (!failsB M)) ∧ ∃ o' φ', RelR k p (failsM M) φ' o' (K + 1) L w' ∧ Turn k o o' w1 w' := h w1 hb
theorem OpAny.go {k p : Nat} {M : FSs} {φ : Nat → Nat} {o : Own} {K L : Nat} {w : World} (h : RelR k p M φ o K L w) (hop : M.op ≠ 0) (hK : K ≤ 1000000000) : OpAny k p M o K L w := fun _ hb => op_go (h.ext hb) hop hK
theorem isB_no {M : FSs} {n : Ky} (h : isB M n = false) (hd : M.dead = false) : getP M.now n = none := by unfold isB at h; rw [hd] at h; simpa using h
theorem isB_live {M : FSs} {n : Ky} (h : isB M n = true) : M.dead = false := by unfold isB at h; cases hd : M.dead <;> simp_all
section
variable {k p : Nat} {M : FSs} {φ : Nat → Nat} {o : Own} {K L : Nat} {w : World}
set_option maxRecDepth 100000 in
set_option maxHeartbeats 2000000 in
theorem SyncR_any (h : RelR k p M φ o K L w) (n : Ky) (CO0 : OpAny k p M o K L w) :
    Calls Try.prog 14 #[.pointer (some ⟨p, 0, none⟩), .string ⟨n.toArray⟩] w fun e w' => e = .returned (.bool (goesB M (isB M n))) ∧ ∃ o' φ', RelR k p (syncM M n) φ' o' (K + 2) L w' ∧ Turn k o o' w w' := by
  have CO := Lib.hid CO0
  obtain ⟨vn, vs, vw, vk, pl, c0, c1, lf, hh⟩ := h.head
  have CF := Lib.hid (find_any φ vn M.now n w (Ents.own hh.now) h.fine.rnow)
  have HR := Lib.hid h
  have hx := hh.blk
  obtain ⟨An, cn, rfl⟩ := row_slC hh.now
  have y0 := hx.cellv (i := 0) rfl
  cases hb : isB M n
  · unfold syncM
    rw [thenM_no hb]
    cases hd : M.dead
    · have HG := Lib.hid (isB_no hb hd)
      rw [hd] at hx
      clear hb hh h hd CO0
      go_enter Try.func14, Try.ntmps14
      go_wp2_with (first
        | (go_at_call 32; (with_reducible refine CF.out.mono ?_); rintro e w1 ⟨kx, he, PL, hb1⟩; rw [HG.out] at he; have he2 : e = .returned (.tuple #[.int .i64 (kx : Nat), .bool false]) := he; clear he; subst he2; have HB1 := hb1; have hx1 := hx.ext hb1; have y8 := hx1.cellv (i := 8) rfl)
        | fail)
      go_ret
      exact ⟨rfl, o, φ, (HR.out.ext hb1).more (by omega) (Nat.le_refl _), Turn.below HR.out.own hb1⟩
    · rw [hd] at hx
      clear hb hh h hd CO0
      go_enter Try.func14, Try.ntmps14
      go_wp2_with (first
        | (go_at_call 32; (with_reducible refine CF.out.mono ?_); rintro e w1 ⟨kx, rfl, PL, hb1⟩; have hx1 := hx.ext hb1; have y8 := hx1.cellv (i := 8) rfl)
        | fail)
      go_ret
      exact ⟨rfl, o, φ, (HR.out.ext hb1).more (by omega) (Nat.le_refl _), Turn.below HR.out.own hb1⟩
  · have HB := Lib.hid hb
    obtain ⟨i, hg⟩ := isB_get hb
    have HG := Lib.hid hg
    rw [isB_live hb] at hx
    cases hf : failsB M
    · have HF := Lib.hid hf
      clear hb hh h hg hf CO0
      go_enter Try.func14, Try.ntmps14
      go_upto_region 6 with (first
        | (go_at_call 32; (with_reducible refine CF.out.mono ?_); rintro e w1 ⟨kx, he, PL, hb1⟩; rw [HG.out] at he; have he2 : e = .returned (.tuple #[.int .i64 (kx : Nat), .bool true]) := he; clear he; subst he2; have HB1 := hb1; have hx1 := hx.ext hb1; have y8 := hx1.cellv (i := 8) rfl)
        | (go_at_call 33; (with_reducible refine (CO.out.at_ _ HB1).mono ?_); rintro e w2 ⟨he, o2, φ2, h2, T2⟩; rw [HF.out] at he; have he3 : e = .returned (.bool true) := he; clear he; subst he3)
        | fail)
      have hg1 : getP (failsM M).now n = some i := by rw [goes_now HF.out]; exact HG.out
      obtain ⟨vn2, vs2, vw2, vk2, pl2, d0, d1, lf2, hh2⟩ := h2.head
      obtain ⟨A2, cn2, rfl⟩ := row_slC hh2.now
      obtain ⟨i2, ad, ea, hc⟩ := RelR.found2 hh2 hg1 (by rw [goes_now HF.out]; exact PL)
      subst ea
      have i1 := Int.natCast_nonneg kx
      obtain ⟨A, c, s0, l0, hs0, hl0, f1, f2, f3, f4, f5, f6⟩ := h2.at_file (Live.of_now hg1)
      have R2 := Lib.hid h2
      have T2' := Lib.hid T2
      have hx2 := hh2.blk
      have y0' := hx2.cellv (i := 0) rfl
      have z0 := f1.cellv (i := 0) rfl
      have F2 := Lib.hid f2
      have F3 := Lib.hid f3
      have F4 := Lib.hid f4
      have HG1 := Lib.hid hg1
      have HL0 := Lib.hid hl0
      have HS0 := Lib.hid hs0
      clear h2 T2 hh2 f2 f3 f4 f5 f6 hg1 hl0 hs0 PL y0 y8 hx1 hx
      go_still_tail 22, (by kernel_rfl)
      refine wpList_store_cell rfl 3 (.tmp 49) (.tmp 47) rfl (w := w2.drew) f1.drew (i := 1) (v := .int .i64 (l0.length : Nat)) (show 1 < 2 by decide) (by kernel_rfl) rfl rfl rfl ?_
      intro w5 hx5 hg5
      go_wp2
      go_ret
      have hg25 : w2.grownBy w5 (some (φ2 i)) := ⟨hg5.os, hg5.tape, hg5.output, hg5.size, hg5.block⟩
      have ho := R2.out.own
      have st : ∀ {b : Nat} {t : Tag}, o2 b = some (k, t) → t ≠ .file i → w5.heap[b]? = w2.heap[b]? := fun {b t} e ht => same_of hg25 (ho.lt e) e (one_some F2.out) ht
      refine ⟨by unfold goesB; rw [HF.out]; rfl, o2, φ2, ?_, ((Turn.below HR.out.own HB1).trans T2'.out).trans (Turn.wrote ho hg25 F2.out)⟩
      unfold syncM
      rw [thenM_go HB.out HF.out, sync1, HG1.out]
      refine RelR.file_set (R2.out.more (Nat.le_succ _) (Nat.le_refl _)) (fun e h1 _ => st e h1) id (ho.more hg25.size) ⟨.slice A l0.length c, ?_, F2.out, ?_, ?_⟩ (R2.out.file i (Live.of_now HG1.out)).2 (Nat.le_refl _) (Nat.le_refl _)
      · show Blk w5 (φ2 i) _ #[_, .int .i64 (((failsM M).fs i).b.length : Nat)]
        rw [HL0.out]
        exact hx5
      · show w5.ownsRow 0 _ 1 _ ((failsM M).fs i).b.length (bv ((failsM M).fs i).b)
        rw [HL0.out]
        exact own_same F3.out fun g hg => st (F4.out g hg) (by simp)
      · exact F4.out
    · have HF := Lib.hid hf
      clear hb hh h hg hf CO0
      go_enter Try.func14, Try.ntmps14
      go_wp2_with (first
        | (go_at_call 32; (with_reducible refine CF.out.mono ?_); rintro e w1 ⟨kx, he, PL, hb1⟩; rw [HG.out] at he; have he2 : e = .returned (.tuple #[.int .i64 (kx : Nat), .bool true]) := he; clear he; subst he2; have HB1 := hb1; have hx1 := hx.ext hb1; have y8 := hx1.cellv (i := 8) rfl)
        | (go_at_call 33; (with_reducible refine (CO.out.at_ _ HB1).mono ?_); rintro e w2 ⟨he, o2, φ2, h2, T2⟩; rw [HF.out] at he; have he3 : e = .returned (.bool false) := he; clear he; subst he3)
        | fail)
      go_ret
      unfold syncM
      rw [thenM_off HB.out HF.out]
      exact ⟨by unfold goesB; rw [HF.out]; rfl, o2, φ2, h2.more (by omega) (Nat.le_refl _), (Turn.below HR.out.own HB1).trans T2⟩
set_option maxRecDepth 100000 in
set_option maxHeartbeats 2000000 in
theorem SyncDirR_any (h : RelR k p M φ o K L w) (CO0 : OpAny k p M o K L w) :
    Calls Try.prog 16 #[.pointer (some ⟨p, 0, none⟩)] w fun e w' => e = .returned (.bool (goesB M (!M.dead))) ∧ ∃ o' φ', RelR k p (dirM M) φ' o' (K + 2) L w' ∧ Turn k o o' w w' := by
  have CO := Lib.hid (CO0 w (Below.refl _ _))
  obtain ⟨vn, vs, vw, vk, pl, c0, c1, lf, hh⟩ := h.head
  have HR := Lib.hid h
  have hx := hh.blk
  cases hd : M.dead
  · have HD := Lib.hid (show (!M.dead) = true by rw [hd]; rfl)
    rw [hd] at hx
    have y8 := hx.cellv (i := 8) rfl
    cases hf : failsB M
    · have HF := Lib.hid hf
      clear hh h hd hf CO0
      go_enter Try.func16, Try.ntmps16
      go_upto_region 5 with (first
        | (go_at_call 33; (with_reducible refine CO.out.mono ?_); rintro e w2 ⟨he, o2, φ2, h2, T2⟩; rw [HF.out] at he; have he3 : e = .returned (.bool true) := he; clear he; subst he3)
        | fail)
      obtain ⟨vn2, vs2, vw2, vk2, pl2, d0, d1, lf2, hh2⟩ := h2.head
      obtain ⟨A2, cn2, rfl⟩ := row_slC hh2.now
      have H := Lib.hid hh2
      have R2 := Lib.hid h2
      have T2' := Lib.hid T2
      have hx2 := hh2.blk
      have y0 := hx2.cellv (i := 0) rfl
      clear hh2 h2 T2 hx y8
      go_wp2_with (first
        | ((with_reducible refine gd_store ?_); refine wpList_store_cell rfl 32 (.tmp 17) (.tmp 15) rfl (i := 1) (v := .slice A2 (failsM M).now.length cn2) hx2 (show 1 < 10 by decide) (by kernel_rfl) rfl rfl rfl ?_; intro w3 hx3 hg3)
        | ((with_reducible refine gd_store ?_); refine wpList_store_cell rfl 33 (.tmp 20) (.const (.slice none 0 0)) rfl (i := 2) (v := .slice none 0 0) hx3 (show 2 < 10 by decide) (by kernel_rfl) rfl rfl rfl ?_; intro w4 hx4 hg4)
        | fail)
      go_ret
      have ho := R2.out.own
      have hg24 := hg3.trans hg4
      have st : ∀ {b t}, o2 b = some (k, t) → t ≠ .fs → w4.heap[b]? = w2.heap[b]? := fun {b t} e n1 => same_of hg24 (ho.lt e) e (one_some H.out.op) n1
      refine ⟨by unfold goesB; rw [HF.out]; rfl, o2, φ2, ?_, T2'.out.trans (Turn.wrote ho hg24 H.out.op)⟩
      unfold dirM
      rw [thenM_go HD.out HF.out]
      have hnl := R2.out.nowlen
      refine ⟨R2.out.fine.dir, ho.more hg24.size, ⟨_, _, _, _, _, _, _, _, ⟨hx4, H.out.op, own_same H.out.now fun g hg => st (H.out.on g hg) (by simp), H.out.on, own_same H.out.now fun g hg => st (H.out.on g hg) (by simp), H.out.on, World.ownsRow_nil _ _ _ _, (fun g h => by cases h), H.out.plan, fun h0 => ?_⟩⟩, fun i hi => ?_, ⟨R2.out.ops.1, by have := R2.out.ops.2; show (failsM M).ops ≤ ((K + 2 : Nat) : Int); omega⟩, R2.out.cut, R2.out.opb, by show (failsM M).now.length + 0 ≤ K + 2; omega⟩
      · obtain ⟨a1, a2, a3, a4⟩ := H.out.left h0
        exact ⟨a1, a2, own_same a3 fun g hg => st (a4 g hg) (by simp), a4⟩
      · have hli : Live (failsM M) i := by
          rcases hi with h | h | ⟨n, h⟩
          · exact .inl h
          · exact .inl h
          · exact absurd h List.not_mem_nil
        exact ⟨(R2.out.file i hli).1.mono (fun e ht => st e (by rcases ht with rfl | rfl <;> simp)) id, (R2.out.file i hli).2⟩
    · have HF := Lib.hid hf
      clear hh h hd hf CO0
      go_enter Try.func16, Try.ntmps16
      go_wp2_with (first
        | (go_at_call 33; (with_reducible refine CO.out.mono ?_); rintro e w2 ⟨he, o2, φ2, h2, T2⟩; rw [HF.out] at he; have he3 : e = .returned (.bool false) := he; clear he; subst he3)
        | fail)
      go_ret
      unfold dirM
      rw [thenM_off HD.out HF.out]
      exact ⟨by unfold goesB; rw [HF.out]; rfl, o2, φ2, h2.more (by omega) (Nat.le_refl _), T2⟩
  · have HD := Lib.hid (show (!M.dead) = false by rw [hd]; rfl)
    rw [hd] at hx
    have y8 := hx.cellv (i := 8) rfl
    unfold dirM
    rw [thenM_no HD.out]
    clear hh h hd CO0
    go_enter Try.func16, Try.ntmps16
    go_wp2
    go_ret
    exact ⟨rfl, o, φ, HR.out.more (by omega) (Nat.le_refl _), Turn.refl HR.out.own⟩
end
end Go.Mun
