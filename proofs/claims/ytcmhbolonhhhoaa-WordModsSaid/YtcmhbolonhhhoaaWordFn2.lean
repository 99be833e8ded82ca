/- The walks of word's functions of two words: Mul. -/
import Derived.Test.YtcmhbolonhhhoaaWordInt
import Derived.Test.YtcmhbolonhhhoaaWordOf
import Derived.Laws.Cover3
import Derived.Deep.MidRow
namespace Go.Mun
open Go Go.RowKit Go.Proofs

set_option maxRecDepth 100000 in
set_option maxHeartbeats 400000 in
theorem Mul_any (a b : Nat) (w : World) (ha : a < 2 ^ 256) (hb : b < 2 ^ 256) : Calls Try.prog 38 #[.agg (wcells a), .agg (wcells b)] w fun e w' => e = .returned (.agg (wcells (a * b % 2 ^ 256))) ∧ Below w.heap.size w w' := by
  have hW := wordTy
  have hN := numTy
  have zW := zWordL
  have zN := zNumL
  have HSN := Lib.hid limbsV_size
  have H1N := Lib.hid limbsV_one
  have HSW := Lib.hid wcells_size
  have H1W := Lib.hid wcells_one
  have HFr := Lib.hid from_any
  have HWd := Lib.hid word_any
  have hA8 := arrTy8
  have z8 : (Try.prog.info? 54).bind (·.zero) = some (.agg (tab .u64 8 fun _ => 0)) := by kernel_rfl
  have CProd := Lib.hid (fun w => product_any a b w ha hb)
  have HLT := Lib.hid (show a * b % 2 ^ 256 < 2 ^ 256 from Nat.mod_lt _ (by decide))
  generalize hs : a * b % 2 ^ 256 = s at *
  have HS := Lib.hid (show a * b % 2 ^ (64 * 4) = s from hs)
  clear hs
  have tokE : True := trivial
  go_enter Try.func38, Try.ntmps38
  go_wp2_with (first
    | ((with_reducible refine gd_box ?_); have _t := tokE; refine wpList_box_agg rfl _ (.tmp 0) rfl rfl ?_; clear tokE; intro w1 hx1 hb1 hl1)
    | ((with_reducible refine gd_box ?_); refine wpList_box_agg rfl _ (.tmp 1) rfl rfl ?_; intro w2 hx2 hb2 hl2)
    | ((with_reducible refine gd_alloc ?_); refine wpList_alloc_blk rfl 23 rfl zW ?_; intro w3 hx3 hb3 hl3)
    | fail)
  replace hx3 : Blk w3 w2.heap.size 23 (wcells 0) := hx3
  have hx1' := (hx1.ext hb2).ext hb3
  have hx2' := hx2.ext hb3
  have hB3 := below_step (below_step hb1 hb2) hb3
  have hg1 := hx1.lt
  have hg2 := hx2.lt
  have hg3 := hx3.lt
  refine wp_region_made (w := w3) (B := w.heap.size) (wB := w) [.val (.agg (wcells a)), .val (.agg (limbsV a)), .val (.agg (wcells b)), .val (.agg (limbsV b)), .val (.agg (tab .u64 8 (limb (a * b)))), .new 54 (tab .u64 8 fun _ => 0) (tab .u64 8 (limb (a * b))), .putN 5] (by kernel_rfl) (by kernel_rfl) (by kernel_rfl) rfl (by kernel_rfl) rfl hB3.size hB3 List.nodup_nil (fun g hg => nomatch hg) trivial ?_ ?_
  · refine ⟨?_, ?_, ?_, ?_, ?_, ?_, ?_, trivial⟩
    · intro G wx fr hway _ hs hdef hsz
      have s2 : fr.tmps[2]? = some (.pointer (some ⟨w.heap.size, 0, none⟩)) := hs.1
      clear hs
      refine ⟨?_⟩
      refine wpList_load_blk rfl 23 (.tmp 2) rfl (way_blk hway hx1' (by first | exact hx1'.lt | omega) (by simp [heldBy, Knd.blockOf])) (by rw [HSW.out]; exact hW) (by simp [Act.eval, s2]) ?_
      refine wpList_nil ?_
      exact kp_val hdef hsz (Below.refl _ _)
    · intro G wx fr hway _ hs hdef hsz
      have s6 : fr.tmps[6]? = some (.agg (wcells a)) := hs.1
      clear hs
      refine ⟨?_⟩
      go_wp2_with fail
      refine (HFr.out a wx ha).mono ?_
      rintro e w2 ⟨rfl, hb2⟩
      go_wp2
      exact kp_post hsz hb2
    · intro G wx fr hway _ hs hdef hsz
      have s3 : fr.tmps[3]? = some (.pointer (some ⟨w1.heap.size, 0, none⟩)) := hs.1
      clear hs
      refine ⟨?_⟩
      refine wpList_load_blk rfl 23 (.tmp 3) rfl (way_blk hway hx2' (by first | exact hx2'.lt | omega) (by simp [heldBy, Knd.blockOf])) (by rw [HSW.out]; exact hW) (by simp [Act.eval, s3]) ?_
      refine wpList_nil ?_
      exact kp_val hdef hsz (Below.refl _ _)
    · intro G wx fr hway _ hs hdef hsz
      have s8 : fr.tmps[8]? = some (.agg (wcells b)) := hs.1
      clear hs
      refine ⟨?_⟩
      go_wp2_with fail
      refine (HFr.out b wx hb).mono ?_
      rintro e w2 ⟨rfl, hb2⟩
      go_wp2
      exact kp_post hsz hb2
    · intro G wx fr hway _ hs hdef hsz
      have s7 : fr.tmps[7]? = some (.agg (limbsV a)) := hs.1
      have s9 : fr.tmps[9]? = some (.agg (limbsV b)) := hs.2.1
      clear hs
      refine ⟨?_⟩
      go_wp2_with fail
      refine (CProd.out wx).mono ?_
      rintro e w2 ⟨rfl, hb2⟩
      go_wp2
      exact kp_post hsz hb2
    · intro G wx fr hway _ hs hdef hsz
      clear hs
      refine ⟨?_⟩
      refine wpList_alloc_blk rfl 54 rfl z8 ?_
      intro wy hxy hby _
      refine wpList_nil ?_
      exact kp_new hdef hsz hby hxy
    · intro G wx fr hway hpre hs hdef hsz
      have s5 : fr.tmps[5]? = some (.pointer (some ⟨G 5, 0, none⟩)) := hs.1
      have s10 : fr.tmps[10]? = some (.agg (tab .u64 8 (limb (a * b)))) := hs.2.1
      clear hs
      have hpre' : Blk wx (G 5) 54 (tab .u64 8 fun _ => 0) := hpre
      refine ⟨?_⟩
      refine wpList_store_all rfl 54 (.tmp 5) (.tmp 10) rfl (tab .u64 8 (limb (a * b))) hpre' (by rw [tab_size]; exact hA8) (by rw [tab_size, tab_size]) tab_one (by simp [Act.eval, s5]) (by simp [Act.eval, s10]) ?_
      intro wy hxy hgy
      refine wpList_nil ?_
      exact ⟨rfl, hdef, rfl, hxy, hgy⟩
  · intro G V wz hval hway hmade hap
    replace hval : V 0 = .agg (wcells a) ∧ V 1 = .agg (limbsV a) ∧ V 2 = .agg (wcells b) ∧ V 3 = .agg (limbsV b) ∧ V 4 = .agg (tab .u64 8 (limb (a * b))) ∧ V 5 = .pointer (some ⟨G 5, 0, none⟩) ∧ V 6 = undef ∧ True := hval
    replace hmade : (w3.heap.size ≤ G 5 ∧ G 5 < wz.heap.size ∧ Blk wz (G 5) 54 (tab .u64 8 (limb (a * b)))) ∧ True := hmade
    obtain ⟨e0, e1, e2, e3, e4, e5, e6, -⟩ := hval
    obtain ⟨⟨hg5, hl5, hx_5⟩, -⟩ := hmade
    clear hap
    simp only [fill, Act.put, e0, e1, e2, e3, e4, e5]
    clear e0 e1 e2 e3 e4 e5 e6
    simp only [Exit.then]
    go_simp
    generalize G 5 = g5 at *
    clear G V
    replace hx3 := way_blk hway hx3 hg3 (by simp [heldBy, Knd.blockOf])
    have hBz := hway.2.2
    clear hway
    have HRA := Lib.hid (show wz.rangeAt g5 0 (limbsV s).toList from by
      intro j v hj
      rw [Nat.zero_add, hx_5.cell j]
      rw [Array.getElem?_toList] at hj
      have hj4 : j < 4 := by
        rcases Nat.lt_or_ge j 4 with h | h
        · exact h
        · rw [Array.getElem?_eq_none (by rw [HSN.out]; exact h)] at hj; cases hj
      rw [limbsV_get _ hj4] at hj
      rw [tab_get (by omega), ← hj, ← HS.out, limb_low (k := 4) _ hj4])
    have hat := run_arrayAt (P := Try.prog) wz 39 37 4 (some ⟨g5, 0, none⟩) 4 8 Try.underlying39 (Nat.le_refl _)
    go_wp2_with (first
      | ((with_reducible refine gd_load ?_); refine wpList_load_mid rfl 39 (.tmp 12) rfl g5 0 rfl (limbsV s).toList _ HRA.out Try.underlying39 rfl (by rw [Array.length_toList]; exact hN.2.trans (by rw [HSN.out])) ?_; rw [Array.toArray_toList])
      | (go_at_call 46; refine (HWd.out s _ HLT.out).mono ?_; rintro e w6 ⟨rfl, hb6⟩)
      | ((with_reducible refine gd_store ?_); refine wpList_store_all rfl 23 (.tmp 4) (.tmp 14) rfl (wcells s) (hx3.ext hb6) (by rw [HSW.out]; exact hW) (by rw [HSW.out, HSW.out]) (H1W.out _) (by rfl) (by rfl) ?_; intro w9 hx9 hg9)
      | fail)
    have hB6 := below_step hBz hb6
    have hB9 := below_blk hB6 hB6.size hg9 (by omega)
    exact bodyPost_ret (results_blk1 (cs := wcells s) rfl (by rw [HSW.out]; exact hW) hx9 rfl) rfl ⟨rfl, hB9⟩
end Go.Mun
