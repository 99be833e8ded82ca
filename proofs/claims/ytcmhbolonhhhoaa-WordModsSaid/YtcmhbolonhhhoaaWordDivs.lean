/- The walks of word's functions of two words: Div, Mod. -/
import Derived.Test.YtcmhbolonhhhoaaWordFn2
namespace Go.Mun
open Go Go.RowKit Go.Proofs

set_option maxRecDepth 100000 in
set_option maxHeartbeats 400000 in
theorem Div_zero (a b : Nat) (w : World) (ha : a < 2 ^ 256) (hb : b < 2 ^ 256) (hb0 : b = 0) : Calls Try.prog 40 #[.agg (wcells a), .agg (wcells b)] w fun e w' => e = .returned (.agg (wcells 0)) ∧ Below w.heap.size w w' := by
  have hW := wordTy
  have hN := numTy
  have zW := zWordL
  have zN := zNumL
  have HSN := Lib.hid limbsV_size
  have H1N := Lib.hid limbsV_one
  have HSW := Lib.hid wcells_size
  have H1W := Lib.hid wcells_one
  have HFr := Lib.hid from_any
  have HWd := Lib.hid word_any
  have hEq := fun w => eq_num0 b hb w
  rw [decide_eq_true hb0] at hEq
  clear hb0
  have tokE : True := trivial
  go_enter Try.func40, Try.ntmps40
  go_wp2_with (first
    | ((with_reducible refine gd_box ?_); have _t := tokE; refine wpList_box_agg rfl _ (.tmp 0) rfl rfl ?_; clear tokE; intro w1 hx1 hb1 hl1)
    | ((with_reducible refine gd_box ?_); refine wpList_box_agg rfl _ (.tmp 1) rfl rfl ?_; intro w2 hx2 hb2 hl2)
    | ((with_reducible refine gd_alloc ?_); refine wpList_alloc_blk rfl 23 rfl zW ?_; intro w3 hx3 hb3 hl3)
    | fail)
  replace hx3 : Blk w3 w2.heap.size 23 (wcells 0) := hx3
  have hx1' := (hx1.ext hb2).ext hb3
  have hx2' := hx2.ext hb3
  have hB3 := below_step (below_step hb1 hb2) hb3
  have hg1 := hx1.lt
  have hg2 := hx2.lt
  have hg3 := hx3.lt
  refine wp_region_made (w := w3) (B := w.heap.size) (wB := w) [.val (.agg (wcells a)), .val (.agg (limbsV a)), .val (.agg (wcells b)), .val (.agg (limbsV b)), .new 39 (limbsV 0) (limbsV a), .new 39 (limbsV 0) (limbsV b), .putN 4, .putN 5] (by kernel_rfl) (by kernel_rfl) (by kernel_rfl) rfl (by kernel_rfl) rfl hB3.size hB3 List.nodup_nil (fun g hg => nomatch hg) trivial ?_ ?_
  · refine ⟨?_, ?_, ?_, ?_, ?_, ?_, ?_, ?_, trivial⟩
    · intro G wx fr hway _ hs hdef hsz
      have s2 : fr.tmps[2]? = some (.pointer (some ⟨w.heap.size, 0, none⟩)) := hs.1
      clear hs
      refine ⟨?_⟩
      refine wpList_load_blk rfl 23 (.tmp 2) rfl (way_blk hway hx1' (by first | exact hx1'.lt | omega) (by simp [heldBy, Knd.blockOf])) (by rw [HSW.out]; exact hW) (by simp [Act.eval, s2]) ?_
      refine wpList_nil ?_
      exact kp_val hdef hsz (Below.refl _ _)
    · intro G wx fr hway _ hs hdef hsz
      have s9 : fr.tmps[9]? = some (.agg (wcells a)) := hs.1
      clear hs
      refine ⟨?_⟩
      go_wp2_with fail
      refine (HFr.out a wx ha).mono ?_
      rintro e w2 ⟨rfl, hb2⟩
      go_wp2
      exact kp_post hsz hb2
    · intro G wx fr hway _ hs hdef hsz
      have s3 : fr.tmps[3]? = some (.pointer (some ⟨w1.heap.size, 0, none⟩)) := hs.1
      clear hs
      refine ⟨?_⟩
      refine wpList_load_blk rfl 23 (.tmp 3) rfl (way_blk hway hx2' (by first | exact hx2'.lt | omega) (by simp [heldBy, Knd.blockOf])) (by rw [HSW.out]; exact hW) (by simp [Act.eval, s3]) ?_
      refine wpList_nil ?_
      exact kp_val hdef hsz (Below.refl _ _)
    · intro G wx fr hway _ hs hdef hsz
      have s11 : fr.tmps[11]? = some (.agg (wcells b)) := hs.1
      clear hs
      refine ⟨?_⟩
      go_wp2_with fail
      refine (HFr.out b wx hb).mono ?_
      rintro e w2 ⟨rfl, hb2⟩
      go_wp2
      exact kp_post hsz hb2
    · intro G wx fr hway _ hs hdef hsz
      clear hs
      refine ⟨?_⟩
      refine wpList_alloc_blk rfl 39 rfl zN ?_
      intro wy hxy hby _
      refine wpList_nil ?_
      exact kp_new hdef hsz hby hxy
    · intro G wx fr hway _ hs hdef hsz
      clear hs
      refine ⟨?_⟩
      refine wpList_alloc_blk rfl 39 rfl zN ?_
      intro wy hxy hby _
      refine wpList_nil ?_
      exact kp_new hdef hsz hby hxy
    · intro G wx fr hway hpre hs hdef hsz
      have s5 : fr.tmps[5]? = some (.pointer (some ⟨G 4, 0, none⟩)) := hs.1
      have s10 : fr.tmps[10]? = some (.agg (limbsV a)) := hs.2.1
      clear hs
      have hpre' : Blk wx (G 4) 39 (limbsV 0) := hpre
      refine ⟨?_⟩
      refine wpList_store_all rfl 39 (.tmp 5) (.tmp 10) rfl (limbsV a) hpre' (by rw [HSN.out]; exact hN) (by rw [HSN.out, HSN.out]) (H1N.out _) (by simp [Act.eval, s5]) (by simp [Act.eval, s10]) ?_
      intro wy hxy hgy
      refine wpList_nil ?_
      exact ⟨rfl, hdef, rfl, hxy, hgy⟩
    · intro G wx fr hway hpre hs hdef hsz
      have s6 : fr.tmps[6]? = some (.pointer (some ⟨G 5, 0, none⟩)) := hs.1
      have s12 : fr.tmps[12]? = some (.agg (limbsV b)) := hs.2.1
      clear hs
      have hpre' : Blk wx (G 5) 39 (limbsV 0) := hpre
      refine ⟨?_⟩
      refine wpList_store_all rfl 39 (.tmp 6) (.tmp 12) rfl (limbsV b) hpre' (by rw [HSN.out]; exact hN) (by rw [HSN.out, HSN.out]) (H1N.out _) (by simp [Act.eval, s6]) (by simp [Act.eval, s12]) ?_
      intro wy hxy hgy
      refine wpList_nil ?_
      exact ⟨rfl, hdef, rfl, hxy, hgy⟩
  · intro G V wz hval hway hmade hap
    replace hval : V 0 = .agg (wcells a) ∧ V 1 = .agg (limbsV a) ∧ V 2 = .agg (wcells b) ∧ V 3 = .agg (limbsV b) ∧ V 4 = .pointer (some ⟨G 4, 0, none⟩) ∧ V 5 = .pointer (some ⟨G 5, 0, none⟩) ∧ V 6 = undef ∧ V 7 = undef ∧ True := hval
    replace hmade : (w3.heap.size ≤ G 4 ∧ G 4 < wz.heap.size ∧ Blk wz (G 4) 39 (limbsV a)) ∧ (w3.heap.size ≤ G 5 ∧ G 5 < wz.heap.size ∧ Blk wz (G 5) 39 (limbsV b)) ∧ True := hmade
    obtain ⟨e0, e1, e2, e3, e4, e5, e6, e7, -⟩ := hval
    obtain ⟨⟨hg4, hl4, hx_4⟩, ⟨hg5, hl5, hx_5⟩, -⟩ := hmade
    have ha4_5 : G 4 ≠ G 5 := hap 4 5 _ _ _ _ _ _ rfl rfl (by decide)
    clear hap
    simp only [fill, Act.put, e0, e1, e2, e3, e4, e5]
    clear e0 e1 e2 e3 e4 e5 e6 e7
    simp only [Exit.then]
    go_simp
    generalize G 4 = g4 at *
    generalize G 5 = g5 at *
    clear G V
    replace hx3 := way_blk hway hx3 hg3 (by simp [heldBy, Knd.blockOf])
    have hBz := hway.2.2
    have hszz := hway.1
    clear hway
    go_wp2_with (first
      | ((with_reducible refine gd_load ?_); refine wpList_load_blk rfl 39 (.tmp 6) rfl hx_5 (by rw [HSN.out]; exact hN) rfl ?_)
      | ((with_reducible refine gd_store ?_); refine wpList_store_all rfl 23 (.tmp 4) (.tmp 16) rfl (wcells 0) hx3 (by rw [HSW.out]; exact hW) (by rw [HSW.out]) (H1W.out _) (by rfl) (by rfl) ?_; intro w9 hx9 hg9)
      | fail)
    have hB9 := below_blk hBz hBz.size hg9 (by omega)
    exact bodyPost_ret (results_blk1 (cs := wcells 0) rfl (by rw [HSW.out]; exact hW) hx9 rfl) rfl ⟨rfl, hB9⟩
set_option maxRecDepth 100000 in
set_option maxHeartbeats 1000000 in
theorem Div_pos (a b : Nat) (w : World) (ha : a < 2 ^ 256) (hb : b < 2 ^ 256) (hb0 : b ≠ 0) : Calls Try.prog 40 #[.agg (wcells a), .agg (wcells b)] w fun e w' => e = .returned (.agg (wcells (a / b % 2 ^ 256))) ∧ Below w.heap.size w w' := by
  have hW := wordTy
  have hN := numTy
  have zW := zWordL
  have zN := zNumL
  have HSN := Lib.hid limbsV_size
  have H1N := Lib.hid limbsV_one
  have HSW := Lib.hid wcells_size
  have H1W := Lib.hid wcells_one
  have HFr := Lib.hid from_any
  have HWd := Lib.hid word_any
  have CDiv := Lib.hid (fun (w : World) (g : Nat) (hx : Blk w g 39 (limbsV a)) => divide_any a b 4 4 ⟨g, 0, none⟩ w (Nat.pos_of_ne_zero hb0) hb (by decide) (by decide) ha (by rw [limbsV_tab] at hx; exact hx.rd))
  have hEq := fun w => eq_num0 b hb w
  rw [decide_eq_false hb0] at hEq
  have HLT := Lib.hid (show a / b % 2 ^ 256 < 2 ^ 256 from Nat.mod_lt _ (by decide))
  generalize a / b % 2 ^ 256 = q at *
  generalize a % b = r at *
  clear hb0
  have tokE : True := trivial
  go_enter Try.func40, Try.ntmps40
  go_wp2_with (first
    | ((with_reducible refine gd_box ?_); have _t := tokE; refine wpList_box_agg rfl _ (.tmp 0) rfl rfl ?_; clear tokE; intro w1 hx1 hb1 hl1)
    | ((with_reducible refine gd_box ?_); refine wpList_box_agg rfl _ (.tmp 1) rfl rfl ?_; intro w2 hx2 hb2 hl2)
    | ((with_reducible refine gd_alloc ?_); refine wpList_alloc_blk rfl 23 rfl zW ?_; intro w3 hx3 hb3 hl3)
    | fail)
  replace hx3 : Blk w3 w2.heap.size 23 (wcells 0) := hx3
  have hx1' := (hx1.ext hb2).ext hb3
  have hx2' := hx2.ext hb3
  have hB3 := below_step (below_step hb1 hb2) hb3
  have hg1 := hx1.lt
  have hg2 := hx2.lt
  have hg3 := hx3.lt
  refine wp_region_made (w := w3) (B := w.heap.size) (wB := w) [.val (.agg (wcells a)), .val (.agg (limbsV a)), .val (.agg (wcells b)), .val (.agg (limbsV b)), .new 39 (limbsV 0) (limbsV a), .new 39 (limbsV 0) (limbsV b), .putN 4, .putN 5] (by kernel_rfl) (by kernel_rfl) (by kernel_rfl) rfl (by kernel_rfl) rfl hB3.size hB3 List.nodup_nil (fun g hg => nomatch hg) trivial ?_ ?_
  · refine ⟨?_, ?_, ?_, ?_, ?_, ?_, ?_, ?_, trivial⟩
    · intro G wx fr hway _ hs hdef hsz
      have s2 : fr.tmps[2]? = some (.pointer (some ⟨w.heap.size, 0, none⟩)) := hs.1
      clear hs
      refine ⟨?_⟩
      refine wpList_load_blk rfl 23 (.tmp 2) rfl (way_blk hway hx1' (by first | exact hx1'.lt | omega) (by simp [heldBy, Knd.blockOf])) (by rw [HSW.out]; exact hW) (by simp [Act.eval, s2]) ?_
      refine wpList_nil ?_
      exact kp_val hdef hsz (Below.refl _ _)
    · intro G wx fr hway _ hs hdef hsz
      have s9 : fr.tmps[9]? = some (.agg (wcells a)) := hs.1
      clear hs
      refine ⟨?_⟩
      go_wp2_with fail
      refine (HFr.out a wx ha).mono ?_
      rintro e w2 ⟨rfl, hb2⟩
      go_wp2
      exact kp_post hsz hb2
    · intro G wx fr hway _ hs hdef hsz
      have s3 : fr.tmps[3]? = some (.pointer (some ⟨w1.heap.size, 0, none⟩)) := hs.1
      clear hs
      refine ⟨?_⟩
      refine wpList_load_blk rfl 23 (.tmp 3) rfl (way_blk hway hx2' (by first | exact hx2'.lt | omega) (by simp [heldBy, Knd.blockOf])) (by rw [HSW.out]; exact hW) (by simp [Act.eval, s3]) ?_
      refine wpList_nil ?_
      exact kp_val hdef hsz (Below.refl _ _)
    · intro G wx fr hway _ hs hdef hsz
      have s11 : fr.tmps[11]? = some (.agg (wcells b)) := hs.1
      clear hs
      refine ⟨?_⟩
      go_wp2_with fail
      refine (HFr.out b wx hb).mono ?_
      rintro e w2 ⟨rfl, hb2⟩
      go_wp2
      exact kp_post hsz hb2
    · intro G wx fr hway _ hs hdef hsz
      clear hs
      refine ⟨?_⟩
      refine wpList_alloc_blk rfl 39 rfl zN ?_
      intro wy hxy hby _
      refine wpList_nil ?_
      exact kp_new hdef hsz hby hxy
    · intro G wx fr hway _ hs hdef hsz
      clear hs
      refine ⟨?_⟩
      refine wpList_alloc_blk rfl 39 rfl zN ?_
      intro wy hxy hby _
      refine wpList_nil ?_
      exact kp_new hdef hsz hby hxy
    · intro G wx fr hway hpre hs hdef hsz
      have s5 : fr.tmps[5]? = some (.pointer (some ⟨G 4, 0, none⟩)) := hs.1
      have s10 : fr.tmps[10]? = some (.agg (limbsV a)) := hs.2.1
      clear hs
      have hpre' : Blk wx (G 4) 39 (limbsV 0) := hpre
      refine ⟨?_⟩
      refine wpList_store_all rfl 39 (.tmp 5) (.tmp 10) rfl (limbsV a) hpre' (by rw [HSN.out]; exact hN) (by rw [HSN.out, HSN.out]) (H1N.out _) (by simp [Act.eval, s5]) (by simp [Act.eval, s10]) ?_
      intro wy hxy hgy
      refine wpList_nil ?_
      exact ⟨rfl, hdef, rfl, hxy, hgy⟩
    · intro G wx fr hway hpre hs hdef hsz
      have s6 : fr.tmps[6]? = some (.pointer (some ⟨G 5, 0, none⟩)) := hs.1
      have s12 : fr.tmps[12]? = some (.agg (limbsV b)) := hs.2.1
      clear hs
      have hpre' : Blk wx (G 5) 39 (limbsV 0) := hpre
      refine ⟨?_⟩
      refine wpList_store_all rfl 39 (.tmp 6) (.tmp 12) rfl (limbsV b) hpre' (by rw [HSN.out]; exact hN) (by rw [HSN.out, HSN.out]) (H1N.out _) (by simp [Act.eval, s6]) (by simp [Act.eval, s12]) ?_
      intro wy hxy hgy
      refine wpList_nil ?_
      exact ⟨rfl, hdef, rfl, hxy, hgy⟩
  · intro G V wz hval hway hmade hap
    replace hval : V 0 = .agg (wcells a) ∧ V 1 = .agg (limbsV a) ∧ V 2 = .agg (wcells b) ∧ V 3 = .agg (limbsV b) ∧ V 4 = .pointer (some ⟨G 4, 0, none⟩) ∧ V 5 = .pointer (some ⟨G 5, 0, none⟩) ∧ V 6 = undef ∧ V 7 = undef ∧ True := hval
    replace hmade : (w3.heap.size ≤ G 4 ∧ G 4 < wz.heap.size ∧ Blk wz (G 4) 39 (limbsV a)) ∧ (w3.heap.size ≤ G 5 ∧ G 5 < wz.heap.size ∧ Blk wz (G 5) 39 (limbsV b)) ∧ True := hmade
    obtain ⟨e0, e1, e2, e3, e4, e5, e6, e7, -⟩ := hval
    obtain ⟨⟨hg4, hl4, hx_4⟩, ⟨hg5, hl5, hx_5⟩, -⟩ := hmade
    have ha4_5 : G 4 ≠ G 5 := hap 4 5 _ _ _ _ _ _ rfl rfl (by decide)
    clear hap
    simp only [fill, Act.put, e0, e1, e2, e3, e4, e5]
    clear e0 e1 e2 e3 e4 e5 e6 e7
    simp only [Exit.then]
    go_simp
    generalize G 4 = g4 at *
    generalize G 5 = g5 at *
    clear G V
    replace hx3 := way_blk hway hx3 hg3 (by simp [heldBy, Knd.blockOf])
    have hBz := hway.2.2
    have hszz := hway.1
    clear hway
    go_wp2_with (first
      | ((with_reducible refine gd_load ?_); refine wpList_load_blk rfl 39 (.tmp 6) rfl hx_5 (by rw [HSN.out]; exact hN) rfl ?_)
      | fail)
    refine wp_region_made (w := wz) (B := w.heap.size) (wB := w) [.val (.slice (some ⟨g4, 0, none⟩) 4 4), .val (.agg (limbsV b)), .val (.tuple #[.agg (limbsV q), .agg (limbsV r)]), .val (.tuple #[.agg (limbsV q), .agg (limbsV r)]), .val (.agg (limbsV q)), .val (.agg (limbsV r)), .new 39 (limbsV 0) (limbsV q), .new 39 (limbsV 0) (limbsV r), .putN 6, .putN 7] (by kernel_rfl) (by kernel_rfl) (by kernel_rfl) rfl (by kernel_rfl) rfl hBz.size hBz List.nodup_nil (fun g hg => nomatch hg) trivial ?_ ?_
    · refine ⟨?_, ?_, ?_, ?_, ?_, ?_, ?_, ?_, ?_, ?_, trivial⟩
      · intro G wx fr hway _ hs hdef hsz
        have s5 : fr.tmps[5]? = some (.pointer (some ⟨g4, 0, none⟩)) := hs.1
        clear hs
        refine ⟨?_⟩
        go_wp2
        exact kp_post hsz (Below.refl _ _)
      · intro G wx fr hway _ hs hdef hsz
        have s6 : fr.tmps[6]? = some (.pointer (some ⟨g5, 0, none⟩)) := hs.1
        clear hs
        refine ⟨?_⟩
        refine wpList_load_blk rfl 39 (.tmp 6) rfl (way_blk hway hx_5 (by first | exact hx_5.lt | omega) (by simp [heldBy, Knd.blockOf])) (by rw [HSN.out]; exact hN) (by simp [Act.eval, s6]) ?_
        refine wpList_nil ?_
        exact kp_val hdef hsz (Below.refl _ _)
      · intro G wx fr hway _ hs hdef hsz
        have s18 : fr.tmps[18]? = some (.slice (some ⟨g4, 0, none⟩) 4 4) := hs.1
        have s19 : fr.tmps[19]? = some (.agg (limbsV b)) := hs.2.1
        clear hs
        refine ⟨?_⟩
        go_wp2_with fail
        refine (CDiv.out wx g4 ((way_blk hway hx_4 hx_4.lt (by simp [heldBy, Knd.blockOf])))).mono ?_
        rintro e w2 ⟨rfl, hb2⟩
        go_wp2
        exact kp_post hsz hb2
      · intro G wx fr hway _ hs hdef hsz
        have s20 : fr.tmps[20]? = some (.tuple #[.agg (limbsV q), .agg (limbsV r)]) := hs.1
        clear hs
        refine ⟨?_⟩
        go_wp2
        exact kp_post hsz (Below.refl _ _)
      · intro G wx fr hway _ hs hdef hsz
        have s17 : fr.tmps[17]? = some (.tuple #[.agg (limbsV q), .agg (limbsV r)]) := hs.1
        clear hs
        refine ⟨?_⟩
        go_wp2
        exact kp_post hsz (Below.refl _ _)
      · intro G wx fr hway _ hs hdef hsz
        have s17 : fr.tmps[17]? = some (.tuple #[.agg (limbsV q), .agg (limbsV r)]) := hs.1
        clear hs
        refine ⟨?_⟩
        go_wp2
        exact kp_post hsz (Below.refl _ _)
      · intro G wx fr hway _ hs hdef hsz
        clear hs
        refine ⟨?_⟩
        refine wpList_alloc_blk rfl 39 rfl zN ?_
        intro wy hxy hby _
        refine wpList_nil ?_
        exact kp_new hdef hsz hby hxy
      · intro G wx fr hway _ hs hdef hsz
        clear hs
        refine ⟨?_⟩
        refine wpList_alloc_blk rfl 39 rfl zN ?_
        intro wy hxy hby _
        refine wpList_nil ?_
        exact kp_new hdef hsz hby hxy
      · intro G wx fr hway hpre hs hdef hsz
        have s7 : fr.tmps[7]? = some (.pointer (some ⟨G 6, 0, none⟩)) := hs.1
        have s21 : fr.tmps[21]? = some (.agg (limbsV q)) := hs.2.1
        clear hs
        have hpre' : Blk wx (G 6) 39 (limbsV 0) := hpre
        refine ⟨?_⟩
        refine wpList_store_all rfl 39 (.tmp 7) (.tmp 21) rfl (limbsV q) hpre' (by rw [HSN.out]; exact hN) (by rw [HSN.out, HSN.out]) (H1N.out _) (by simp [Act.eval, s7]) (by simp [Act.eval, s21]) ?_
        intro wy hxy hgy
        refine wpList_nil ?_
        exact ⟨rfl, hdef, rfl, hxy, hgy⟩
      · intro G wx fr hway hpre hs hdef hsz
        have s8 : fr.tmps[8]? = some (.pointer (some ⟨G 7, 0, none⟩)) := hs.1
        have s22 : fr.tmps[22]? = some (.agg (limbsV r)) := hs.2.1
        clear hs
        have hpre' : Blk wx (G 7) 39 (limbsV 0) := hpre
        refine ⟨?_⟩
        refine wpList_store_all rfl 39 (.tmp 8) (.tmp 22) rfl (limbsV r) hpre' (by rw [HSN.out]; exact hN) (by rw [HSN.out, HSN.out]) (H1N.out _) (by simp [Act.eval, s8]) (by simp [Act.eval, s22]) ?_
        intro wy hxy hgy
        refine wpList_nil ?_
        exact ⟨rfl, hdef, rfl, hxy, hgy⟩
    · intro G V wy hval hway hmade hap
      replace hval : V 0 = .slice (some ⟨g4, 0, none⟩) 4 4 ∧ V 1 = .agg (limbsV b) ∧ V 2 = .tuple #[.agg (limbsV q), .agg (limbsV r)] ∧ V 3 = .tuple #[.agg (limbsV q), .agg (limbsV r)] ∧ V 4 = .agg (limbsV q) ∧ V 5 = .agg (limbsV r) ∧ V 6 = .pointer (some ⟨G 6, 0, none⟩) ∧ V 7 = .pointer (some ⟨G 7, 0, none⟩) ∧ V 8 = undef ∧ V 9 = undef ∧ True := hval
      replace hmade : (wz.heap.size ≤ G 6 ∧ G 6 < wy.heap.size ∧ Blk wy (G 6) 39 (limbsV q)) ∧ (wz.heap.size ≤ G 7 ∧ G 7 < wy.heap.size ∧ Blk wy (G 7) 39 (limbsV r)) ∧ True := hmade
      obtain ⟨e0, e1, e2, e3, e4, e5, e6, e7, e8, e9, -⟩ := hval
      obtain ⟨⟨hg6, hl6, hx_6⟩, ⟨hg7, hl7, hx_7⟩, -⟩ := hmade
      have ha6_7 : G 6 ≠ G 7 := hap 6 7 _ _ _ _ _ _ rfl rfl (by decide)
      clear hap
      simp only [fill, Act.put, e0, e1, e2, e3, e4, e5, e6, e7]
      clear e0 e1 e2 e3 e4 e5 e6 e7 e8 e9
      simp only [Exit.then]
      go_simp
      generalize G 6 = g6 at *
      generalize G 7 = g7 at *
      clear G V
      replace hx3 := way_blk hway hx3 (Nat.lt_of_lt_of_le hg3 hszz) (by simp [heldBy, Knd.blockOf])
      have hBy := hway.2.2
      have hszy := hway.1
      clear hway
      go_wp2_with (first
        | ((with_reducible refine gd_load ?_); refine wpList_load_blk rfl 39 (.tmp 7) rfl hx_6 (by rw [HSN.out]; exact hN) rfl ?_)
        | (go_at_call 46; refine (HWd.out q _ HLT.out).mono ?_; rintro e w6 ⟨rfl, hb6⟩)
        | ((with_reducible refine gd_store ?_); refine wpList_store_all rfl 23 (.tmp 4) (.tmp 24) rfl (wcells q) (hx3.ext hb6) (by rw [HSW.out]; exact hW) (by rw [HSW.out, HSW.out]) (H1W.out _) (by rfl) (by rfl) ?_; intro w9 hx9 hg9)
        | fail)
      have hB6 := below_step hBy hb6
      have hB9 := below_blk hB6 hB6.size hg9 (by omega)
      exact bodyPost_ret (results_blk1 (cs := wcells q) rfl (by rw [HSW.out]; exact hW) hx9 rfl) rfl ⟨rfl, hB9⟩
    
set_option maxRecDepth 100000 in
set_option maxHeartbeats 400000 in
theorem Mod_zero (a b : Nat) (w : World) (ha : a < 2 ^ 256) (hb : b < 2 ^ 256) (hb0 : b = 0) : Calls Try.prog 41 #[.agg (wcells a), .agg (wcells b)] w fun e w' => e = .returned (.agg (wcells 0)) ∧ Below w.heap.size w w' := by
  have hW := wordTy
  have hN := numTy
  have zW := zWordL
  have zN := zNumL
  have HSN := Lib.hid limbsV_size
  have H1N := Lib.hid limbsV_one
  have HSW := Lib.hid wcells_size
  have H1W := Lib.hid wcells_one
  have HFr := Lib.hid from_any
  have HWd := Lib.hid word_any
  have hEq := fun w => eq_num0 b hb w
  rw [decide_eq_true hb0] at hEq
  clear hb0
  have tokE : True := trivial
  go_enter Try.func41, Try.ntmps41
  go_wp2_with (first
    | ((with_reducible refine gd_box ?_); have _t := tokE; refine wpList_box_agg rfl _ (.tmp 0) rfl rfl ?_; clear tokE; intro w1 hx1 hb1 hl1)
    | ((with_reducible refine gd_box ?_); refine wpList_box_agg rfl _ (.tmp 1) rfl rfl ?_; intro w2 hx2 hb2 hl2)
    | ((with_reducible refine gd_alloc ?_); refine wpList_alloc_blk rfl 23 rfl zW ?_; intro w3 hx3 hb3 hl3)
    | fail)
  replace hx3 : Blk w3 w2.heap.size 23 (wcells 0) := hx3
  have hx1' := (hx1.ext hb2).ext hb3
  have hx2' := hx2.ext hb3
  have hB3 := below_step (below_step hb1 hb2) hb3
  have hg1 := hx1.lt
  have hg2 := hx2.lt
  have hg3 := hx3.lt
  refine wp_region_made (w := w3) (B := w.heap.size) (wB := w) [.val (.agg (wcells a)), .val (.agg (limbsV a)), .val (.agg (wcells b)), .val (.agg (limbsV b)), .new 39 (limbsV 0) (limbsV a), .new 39 (limbsV 0) (limbsV b), .putN 4, .putN 5] (by kernel_rfl) (by kernel_rfl) (by kernel_rfl) rfl (by kernel_rfl) rfl hB3.size hB3 List.nodup_nil (fun g hg => nomatch hg) trivial ?_ ?_
  · refine ⟨?_, ?_, ?_, ?_, ?_, ?_, ?_, ?_, trivial⟩
    · intro G wx fr hway _ hs hdef hsz
      have s2 : fr.tmps[2]? = some (.pointer (some ⟨w.heap.size, 0, none⟩)) := hs.1
      clear hs
      refine ⟨?_⟩
      refine wpList_load_blk rfl 23 (.tmp 2) rfl (way_blk hway hx1' (by first | exact hx1'.lt | omega) (by simp [heldBy, Knd.blockOf])) (by rw [HSW.out]; exact hW) (by simp [Act.eval, s2]) ?_
      refine wpList_nil ?_
      exact kp_val hdef hsz (Below.refl _ _)
    · intro G wx fr hway _ hs hdef hsz
      have s9 : fr.tmps[9]? = some (.agg (wcells a)) := hs.1
      clear hs
      refine ⟨?_⟩
      go_wp2_with fail
      refine (HFr.out a wx ha).mono ?_
      rintro e w2 ⟨rfl, hb2⟩
      go_wp2
      exact kp_post hsz hb2
    · intro G wx fr hway _ hs hdef hsz
      have s3 : fr.tmps[3]? = some (.pointer (some ⟨w1.heap.size, 0, none⟩)) := hs.1
      clear hs
      refine ⟨?_⟩
      refine wpList_load_blk rfl 23 (.tmp 3) rfl (way_blk hway hx2' (by first | exact hx2'.lt | omega) (by simp [heldBy, Knd.blockOf])) (by rw [HSW.out]; exact hW) (by simp [Act.eval, s3]) ?_
      refine wpList_nil ?_
      exact kp_val hdef hsz (Below.refl _ _)
    · intro G wx fr hway _ hs hdef hsz
      have s11 : fr.tmps[11]? = some (.agg (wcells b)) := hs.1
      clear hs
      refine ⟨?_⟩
      go_wp2_with fail
      refine (HFr.out b wx hb).mono ?_
      rintro e w2 ⟨rfl, hb2⟩
      go_wp2
      exact kp_post hsz hb2
    · intro G wx fr hway _ hs hdef hsz
      clear hs
      refine ⟨?_⟩
      refine wpList_alloc_blk rfl 39 rfl zN ?_
      intro wy hxy hby _
      refine wpList_nil ?_
      exact kp_new hdef hsz hby hxy
    · intro G wx fr hway _ hs hdef hsz
      clear hs
      refine ⟨?_⟩
      refine wpList_alloc_blk rfl 39 rfl zN ?_
      intro wy hxy hby _
      refine wpList_nil ?_
      exact kp_new hdef hsz hby hxy
    · intro G wx fr hway hpre hs hdef hsz
      have s5 : fr.tmps[5]? = some (.pointer (some ⟨G 4, 0, none⟩)) := hs.1
      have s10 : fr.tmps[10]? = some (.agg (limbsV a)) := hs.2.1
      clear hs
      have hpre' : Blk wx (G 4) 39 (limbsV 0) := hpre
      refine ⟨?_⟩
      refine wpList_store_all rfl 39 (.tmp 5) (.tmp 10) rfl (limbsV a) hpre' (by rw [HSN.out]; exact hN) (by rw [HSN.out, HSN.out]) (H1N.out _) (by simp [Act.eval, s5]) (by simp [Act.eval, s10]) ?_
      intro wy hxy hgy
      refine wpList_nil ?_
      exact ⟨rfl, hdef, rfl, hxy, hgy⟩
    · intro G wx fr hway hpre hs hdef hsz
      have s6 : fr.tmps[6]? = some (.pointer (some ⟨G 5, 0, none⟩)) := hs.1
      have s12 : fr.tmps[12]? = some (.agg (limbsV b)) := hs.2.1
      clear hs
      have hpre' : Blk wx (G 5) 39 (limbsV 0) := hpre
      refine ⟨?_⟩
      refine wpList_store_all rfl 39 (.tmp 6) (.tmp 12) rfl (limbsV b) hpre' (by rw [HSN.out]; exact hN) (by rw [HSN.out, HSN.out]) (H1N.out _) (by simp [Act.eval, s6]) (by simp [Act.eval, s12]) ?_
      intro wy hxy hgy
      refine wpList_nil ?_
      exact ⟨rfl, hdef, rfl, hxy, hgy⟩
  · intro G V wz hval hway hmade hap
    replace hval : V 0 = .agg (wcells a) ∧ V 1 = .agg (limbsV a) ∧ V 2 = .agg (wcells b) ∧ V 3 = .agg (limbsV b) ∧ V 4 = .pointer (some ⟨G 4, 0, none⟩) ∧ V 5 = .pointer (some ⟨G 5, 0, none⟩) ∧ V 6 = undef ∧ V 7 = undef ∧ True := hval
    replace hmade : (w3.heap.size ≤ G 4 ∧ G 4 < wz.heap.size ∧ Blk wz (G 4) 39 (limbsV a)) ∧ (w3.heap.size ≤ G 5 ∧ G 5 < wz.heap.size ∧ Blk wz (G 5) 39 (limbsV b)) ∧ True := hmade
    obtain ⟨e0, e1, e2, e3, e4, e5, e6, e7, -⟩ := hval
    obtain ⟨⟨hg4, hl4, hx_4⟩, ⟨hg5, hl5, hx_5⟩, -⟩ := hmade
    have ha4_5 : G 4 ≠ G 5 := hap 4 5 _ _ _ _ _ _ rfl rfl (by decide)
    clear hap
    simp only [fill, Act.put, e0, e1, e2, e3, e4, e5]
    clear e0 e1 e2 e3 e4 e5 e6 e7
    simp only [Exit.then]
    go_simp
    generalize G 4 = g4 at *
    generalize G 5 = g5 at *
    clear G V
    replace hx3 := way_blk hway hx3 hg3 (by simp [heldBy, Knd.blockOf])
    have hBz := hway.2.2
    have hszz := hway.1
    clear hway
    go_wp2_with (first
      | ((with_reducible refine gd_load ?_); refine wpList_load_blk rfl 39 (.tmp 6) rfl hx_5 (by rw [HSN.out]; exact hN) rfl ?_)
      | ((with_reducible refine gd_store ?_); refine wpList_store_all rfl 23 (.tmp 4) (.tmp 16) rfl (wcells 0) hx3 (by rw [HSW.out]; exact hW) (by rw [HSW.out]) (H1W.out _) (by rfl) (by rfl) ?_; intro w9 hx9 hg9)
      | fail)
    have hB9 := below_blk hBz hBz.size hg9 (by omega)
    exact bodyPost_ret (results_blk1 (cs := wcells 0) rfl (by rw [HSW.out]; exact hW) hx9 rfl) rfl ⟨rfl, hB9⟩
set_option maxRecDepth 100000 in
set_option maxHeartbeats 1000000 in
theorem Mod_pos (a b : Nat) (w : World) (ha : a < 2 ^ 256) (hb : b < 2 ^ 256) (hb0 : b ≠ 0) : Calls Try.prog 41 #[.agg (wcells a), .agg (wcells b)] w fun e w' => e = .returned (.agg (wcells (a % b))) ∧ Below w.heap.size w w' := by
  have hW := wordTy
  have hN := numTy
  have zW := zWordL
  have zN := zNumL
  have HSN := Lib.hid limbsV_size
  have H1N := Lib.hid limbsV_one
  have HSW := Lib.hid wcells_size
  have H1W := Lib.hid wcells_one
  have HFr := Lib.hid from_any
  have HWd := Lib.hid word_any
  have CDiv := Lib.hid (fun (w : World) (g : Nat) (hx : Blk w g 39 (limbsV a)) => divide_any a b 4 4 ⟨g, 0, none⟩ w (Nat.pos_of_ne_zero hb0) hb (by decide) (by decide) ha (by rw [limbsV_tab] at hx; exact hx.rd))
  have hEq := fun w => eq_num0 b hb w
  rw [decide_eq_false hb0] at hEq
  have HLT := Lib.hid (show a % b < 2 ^ 256 from Nat.lt_trans (Nat.mod_lt _ (Nat.pos_of_ne_zero hb0)) hb)
  generalize a / b % 2 ^ 256 = q at *
  generalize a % b = r at *
  clear hb0
  have tokE : True := trivial
  go_enter Try.func41, Try.ntmps41
  go_wp2_with (first
    | ((with_reducible refine gd_box ?_); have _t := tokE; refine wpList_box_agg rfl _ (.tmp 0) rfl rfl ?_; clear tokE; intro w1 hx1 hb1 hl1)
    | ((with_reducible refine gd_box ?_); refine wpList_box_agg rfl _ (.tmp 1) rfl rfl ?_; intro w2 hx2 hb2 hl2)
    | ((with_reducible refine gd_alloc ?_); refine wpList_alloc_blk rfl 23 rfl zW ?_; intro w3 hx3 hb3 hl3)
    | fail)
  replace hx3 : Blk w3 w2.heap.size 23 (wcells 0) := hx3
  have hx1' := (hx1.ext hb2).ext hb3
  have hx2' := hx2.ext hb3
  have hB3 := below_step (below_step hb1 hb2) hb3
  have hg1 := hx1.lt
  have hg2 := hx2.lt
  have hg3 := hx3.lt
  refine wp_region_made (w := w3) (B := w.heap.size) (wB := w) [.val (.agg (wcells a)), .val (.agg (limbsV a)), .val (.agg (wcells b)), .val (.agg (limbsV b)), .new 39 (limbsV 0) (limbsV a), .new 39 (limbsV 0) (limbsV b), .putN 4, .putN 5] (by kernel_rfl) (by kernel_rfl) (by kernel_rfl) rfl (by kernel_rfl) rfl hB3.size hB3 List.nodup_nil (fun g hg => nomatch hg) trivial ?_ ?_
  · refine ⟨?_, ?_, ?_, ?_, ?_, ?_, ?_, ?_, trivial⟩
    · intro G wx fr hway _ hs hdef hsz
      have s2 : fr.tmps[2]? = some (.pointer (some ⟨w.heap.size, 0, none⟩)) := hs.1
      clear hs
      refine ⟨?_⟩
      refine wpList_load_blk rfl 23 (.tmp 2) rfl (way_blk hway hx1' (by first | exact hx1'.lt | omega) (by simp [heldBy, Knd.blockOf])) (by rw [HSW.out]; exact hW) (by simp [Act.eval, s2]) ?_
      refine wpList_nil ?_
      exact kp_val hdef hsz (Below.refl _ _)
    · intro G wx fr hway _ hs hdef hsz
      have s9 : fr.tmps[9]? = some (.agg (wcells a)) := hs.1
      clear hs
      refine ⟨?_⟩
      go_wp2_with fail
      refine (HFr.out a wx ha).mono ?_
      rintro e w2 ⟨rfl, hb2⟩
      go_wp2
      exact kp_post hsz hb2
    · intro G wx fr hway _ hs hdef hsz
      have s3 : fr.tmps[3]? = some (.pointer (some ⟨w1.heap.size, 0, none⟩)) := hs.1
      clear hs
      refine ⟨?_⟩
      refine wpList_load_blk rfl 23 (.tmp 3) rfl (way_blk hway hx2' (by first | exact hx2'.lt | omega) (by simp [heldBy, Knd.blockOf])) (by rw [HSW.out]; exact hW) (by simp [Act.eval, s3]) ?_
      refine wpList_nil ?_
      exact kp_val hdef hsz (Below.refl _ _)
    · intro G wx fr hway _ hs hdef hsz
      have s11 : fr.tmps[11]? = some (.agg (wcells b)) := hs.1
      clear hs
      refine ⟨?_⟩
      go_wp2_with fail
      refine (HFr.out b wx hb).mono ?_
      rintro e w2 ⟨rfl, hb2⟩
      go_wp2
      exact kp_post hsz hb2
    · intro G wx fr hway _ hs hdef hsz
      clear hs
      refine ⟨?_⟩
      refine wpList_alloc_blk rfl 39 rfl zN ?_
      intro wy hxy hby _
      refine wpList_nil ?_
      exact kp_new hdef hsz hby hxy
    · intro G wx fr hway _ hs hdef hsz
      clear hs
      refine ⟨?_⟩
      refine wpList_alloc_blk rfl 39 rfl zN ?_
      intro wy hxy hby _
      refine wpList_nil ?_
      exact kp_new hdef hsz hby hxy
    · intro G wx fr hway hpre hs hdef hsz
      have s5 : fr.tmps[5]? = some (.pointer (some ⟨G 4, 0, none⟩)) := hs.1
      have s10 : fr.tmps[10]? = some (.agg (limbsV a)) := hs.2.1
      clear hs
      have hpre' : Blk wx (G 4) 39 (limbsV 0) := hpre
      refine ⟨?_⟩
      refine wpList_store_all rfl 39 (.tmp 5) (.tmp 10) rfl (limbsV a) hpre' (by rw [HSN.out]; exact hN) (by rw [HSN.out, HSN.out]) (H1N.out _) (by simp [Act.eval, s5]) (by simp [Act.eval, s10]) ?_
      intro wy hxy hgy
      refine wpList_nil ?_
      exact ⟨rfl, hdef, rfl, hxy, hgy⟩
    · intro G wx fr hway hpre hs hdef hsz
      have s6 : fr.tmps[6]? = some (.pointer (some ⟨G 5, 0, none⟩)) := hs.1
      have s12 : fr.tmps[12]? = some (.agg (limbsV b)) := hs.2.1
      clear hs
      have hpre' : Blk wx (G 5) 39 (limbsV 0) := hpre
      refine ⟨?_⟩
      refine wpList_store_all rfl 39 (.tmp 6) (.tmp 12) rfl (limbsV b) hpre' (by rw [HSN.out]; exact hN) (by rw [HSN.out, HSN.out]) (H1N.out _) (by simp [Act.eval, s6]) (by simp [Act.eval, s12]) ?_
      intro wy hxy hgy
      refine wpList_nil ?_
      exact ⟨rfl, hdef, rfl, hxy, hgy⟩
  · intro G V wz hval hway hmade hap
    replace hval : V 0 = .agg (wcells a) ∧ V 1 = .agg (limbsV a) ∧ V 2 = .agg (wcells b) ∧ V 3 = .agg (limbsV b) ∧ V 4 = .pointer (some ⟨G 4, 0, none⟩) ∧ V 5 = .pointer (some ⟨G 5, 0, none⟩) ∧ V 6 = undef ∧ V 7 = undef ∧ True := hval
    replace hmade : (w3.heap.size ≤ G 4 ∧ G 4 < wz.heap.size ∧ Blk wz (G 4) 39 (limbsV a)) ∧ (w3.heap.size ≤ G 5 ∧ G 5 < wz.heap.size ∧ Blk wz (G 5) 39 (limbsV b)) ∧ True := hmade
    obtain ⟨e0, e1, e2, e3, e4, e5, e6, e7, -⟩ := hval
    obtain ⟨⟨hg4, hl4, hx_4⟩, ⟨hg5, hl5, hx_5⟩, -⟩ := hmade
    have ha4_5 : G 4 ≠ G 5 := hap 4 5 _ _ _ _ _ _ rfl rfl (by decide)
    clear hap
    simp only [fill, Act.put, e0, e1, e2, e3, e4, e5]
    clear e0 e1 e2 e3 e4 e5 e6 e7
    simp only [Exit.then]
    go_simp
    generalize G 4 = g4 at *
    generalize G 5 = g5 at *
    clear G V
    replace hx3 := way_blk hway hx3 hg3 (by simp [heldBy, Knd.blockOf])
    have hBz := hway.2.2
    have hszz := hway.1
    clear hway
    go_wp2_with (first
      | ((with_reducible refine gd_load ?_); refine wpList_load_blk rfl 39 (.tmp 6) rfl hx_5 (by rw [HSN.out]; exact hN) rfl ?_)
      | fail)
    refine wp_region_made (w := wz) (B := w.heap.size) (wB := w) [.val (.slice (some ⟨g4, 0, none⟩) 4 4), .val (.agg (limbsV b)), .val (.tuple #[.agg (limbsV q), .agg (limbsV r)]), .val (.tuple #[.agg (limbsV q), .agg (limbsV r)]), .val (.agg (limbsV q)), .val (.agg (limbsV r)), .new 39 (limbsV 0) (limbsV q), .new 39 (limbsV 0) (limbsV r), .putN 6, .putN 7] (by kernel_rfl) (by kernel_rfl) (by kernel_rfl) rfl (by kernel_rfl) rfl hBz.size hBz List.nodup_nil (fun g hg => nomatch hg) trivial ?_ ?_
    · refine ⟨?_, ?_, ?_, ?_, ?_, ?_, ?_, ?_, ?_, ?_, trivial⟩
      · intro G wx fr hway _ hs hdef hsz
        have s5 : fr.tmps[5]? = some (.pointer (some ⟨g4, 0, none⟩)) := hs.1
        clear hs
        refine ⟨?_⟩
        go_wp2
        exact kp_post hsz (Below.refl _ _)
      · intro G wx fr hway _ hs hdef hsz
        have s6 : fr.tmps[6]? = some (.pointer (some ⟨g5, 0, none⟩)) := hs.1
        clear hs
        refine ⟨?_⟩
        refine wpList_load_blk rfl 39 (.tmp 6) rfl (way_blk hway hx_5 (by first | exact hx_5.lt | omega) (by simp [heldBy, Knd.blockOf])) (by rw [HSN.out]; exact hN) (by simp [Act.eval, s6]) ?_
        refine wpList_nil ?_
        exact kp_val hdef hsz (Below.refl _ _)
      · intro G wx fr hway _ hs hdef hsz
        have s18 : fr.tmps[18]? = some (.slice (some ⟨g4, 0, none⟩) 4 4) := hs.1
        have s19 : fr.tmps[19]? = some (.agg (limbsV b)) := hs.2.1
        clear hs
        refine ⟨?_⟩
        go_wp2_with fail
        refine (CDiv.out wx g4 ((way_blk hway hx_4 hx_4.lt (by simp [heldBy, Knd.blockOf])))).mono ?_
        rintro e w2 ⟨rfl, hb2⟩
        go_wp2
        exact kp_post hsz hb2
      · intro G wx fr hway _ hs hdef hsz
        have s20 : fr.tmps[20]? = some (.tuple #[.agg (limbsV q), .agg (limbsV r)]) := hs.1
        clear hs
        refine ⟨?_⟩
        go_wp2
        exact kp_post hsz (Below.refl _ _)
      · intro G wx fr hway _ hs hdef hsz
        have s17 : fr.tmps[17]? = some (.tuple #[.agg (limbsV q), .agg (limbsV r)]) := hs.1
        clear hs
        refine ⟨?_⟩
        go_wp2
        exact kp_post hsz (Below.refl _ _)
      · intro G wx fr hway _ hs hdef hsz
        have s17 : fr.tmps[17]? = some (.tuple #[.agg (limbsV q), .agg (limbsV r)]) := hs.1
        clear hs
        refine ⟨?_⟩
        go_wp2
        exact kp_post hsz (Below.refl _ _)
      · intro G wx fr hway _ hs hdef hsz
        clear hs
        refine ⟨?_⟩
        refine wpList_alloc_blk rfl 39 rfl zN ?_
        intro wy hxy hby _
        refine wpList_nil ?_
        exact kp_new hdef hsz hby hxy
      · intro G wx fr hway _ hs hdef hsz
        clear hs
        refine ⟨?_⟩
        refine wpList_alloc_blk rfl 39 rfl zN ?_
        intro wy hxy hby _
        refine wpList_nil ?_
        exact kp_new hdef hsz hby hxy
      · intro G wx fr hway hpre hs hdef hsz
        have s7 : fr.tmps[7]? = some (.pointer (some ⟨G 6, 0, none⟩)) := hs.1
        have s21 : fr.tmps[21]? = some (.agg (limbsV q)) := hs.2.1
        clear hs
        have hpre' : Blk wx (G 6) 39 (limbsV 0) := hpre
        refine ⟨?_⟩
        refine wpList_store_all rfl 39 (.tmp 7) (.tmp 21) rfl (limbsV q) hpre' (by rw [HSN.out]; exact hN) (by rw [HSN.out, HSN.out]) (H1N.out _) (by simp [Act.eval, s7]) (by simp [Act.eval, s21]) ?_
        intro wy hxy hgy
        refine wpList_nil ?_
        exact ⟨rfl, hdef, rfl, hxy, hgy⟩
      · intro G wx fr hway hpre hs hdef hsz
        have s8 : fr.tmps[8]? = some (.pointer (some ⟨G 7, 0, none⟩)) := hs.1
        have s22 : fr.tmps[22]? = some (.agg (limbsV r)) := hs.2.1
        clear hs
        have hpre' : Blk wx (G 7) 39 (limbsV 0) := hpre
        refine ⟨?_⟩
        refine wpList_store_all rfl 39 (.tmp 8) (.tmp 22) rfl (limbsV r) hpre' (by rw [HSN.out]; exact hN) (by rw [HSN.out, HSN.out]) (H1N.out _) (by simp [Act.eval, s8]) (by simp [Act.eval, s22]) ?_
        intro wy hxy hgy
        refine wpList_nil ?_
        exact ⟨rfl, hdef, rfl, hxy, hgy⟩
    · intro G V wy hval hway hmade hap
      replace hval : V 0 = .slice (some ⟨g4, 0, none⟩) 4 4 ∧ V 1 = .agg (limbsV b) ∧ V 2 = .tuple #[.agg (limbsV q), .agg (limbsV r)] ∧ V 3 = .tuple #[.agg (limbsV q), .agg (limbsV r)] ∧ V 4 = .agg (limbsV q) ∧ V 5 = .agg (limbsV r) ∧ V 6 = .pointer (some ⟨G 6, 0, none⟩) ∧ V 7 = .pointer (some ⟨G 7, 0, none⟩) ∧ V 8 = undef ∧ V 9 = undef ∧ True := hval
      replace hmade : (wz.heap.size ≤ G 6 ∧ G 6 < wy.heap.size ∧ Blk wy (G 6) 39 (limbsV q)) ∧ (wz.heap.size ≤ G 7 ∧ G 7 < wy.heap.size ∧ Blk wy (G 7) 39 (limbsV r)) ∧ True := hmade
      obtain ⟨e0, e1, e2, e3, e4, e5, e6, e7, e8, e9, -⟩ := hval
      obtain ⟨⟨hg6, hl6, hx_6⟩, ⟨hg7, hl7, hx_7⟩, -⟩ := hmade
      have ha6_7 : G 6 ≠ G 7 := hap 6 7 _ _ _ _ _ _ rfl rfl (by decide)
      clear hap
      simp only [fill, Act.put, e0, e1, e2, e3, e4, e5, e6, e7]
      clear e0 e1 e2 e3 e4 e5 e6 e7 e8 e9
      simp only [Exit.then]
      go_simp
      generalize G 6 = g6 at *
      generalize G 7 = g7 at *
      clear G V
      replace hx3 := way_blk hway hx3 (Nat.lt_of_lt_of_le hg3 hszz) (by simp [heldBy, Knd.blockOf])
      have hBy := hway.2.2
      have hszy := hway.1
      clear hway
      go_wp2_with (first
        | ((with_reducible refine gd_load ?_); refine wpList_load_blk rfl 39 (.tmp 8) rfl hx_7 (by rw [HSN.out]; exact hN) rfl ?_)
        | (go_at_call 46; refine (HWd.out r _ HLT.out).mono ?_; rintro e w6 ⟨rfl, hb6⟩)
        | ((with_reducible refine gd_store ?_); refine wpList_store_all rfl 23 (.tmp 4) (.tmp 24) rfl (wcells r) (hx3.ext hb6) (by rw [HSW.out]; exact hW) (by rw [HSW.out, HSW.out]) (H1W.out _) (by rfl) (by rfl) ?_; intro w9 hx9 hg9)
        | fail)
      have hB6 := below_step hBy hb6
      have hB9 := below_blk hB6 hB6.size hg9 (by omega)
      exact bodyPost_ret (results_blk1 (cs := wcells r) rfl (by rw [HSW.out]; exact hW) hx9 rfl) rfl ⟨rfl, hB9⟩
    
end Go.Mun
