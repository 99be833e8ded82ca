/- The walks of word's functions of two words: Add, Sub, Cmp. -/
import Derived.Test.YtcmhbolonhhhoaaWordMem
namespace Go.Mun
open Go Go.RowKit Go.Proofs

set_option maxRecDepth 100000 in
set_option maxHeartbeats 400000 in
theorem Add_any (a b : Nat) (w : World) (ha : a < 2 ^ 256) (hb : b < 2 ^ 256) : Calls Try.prog 37 #[.agg (wcells a), .agg (wcells b)] w fun e w' => e = .returned (.agg (wcells ((a + b) % 2 ^ 256))) ∧ Below w.heap.size w w' := by
  have hW := wordTy
  have hN := numTy
  have zW := zWordL
  have zN := zNumL
  have HSN := Lib.hid limbsV_size
  have H1N := Lib.hid limbsV_one
  have HSW := Lib.hid wcells_size
  have H1W := Lib.hid wcells_one
  have HFr := Lib.hid from_any
  have HWd := Lib.hid word_any
  have CAdd := Lib.hid (fun w => add_any a b w ha hb)
  have HLT := Lib.hid (show (a + b) % 2 ^ 256 < 2 ^ 256 from Nat.mod_lt _ (by decide))
  generalize (a + b) % 2 ^ 256 = s at *
  generalize (a + b) / 2 ^ 256 = o at *
  have tokE : True := trivial
  go_enter Try.func37, Try.ntmps37
  go_wp2_with (first
    | ((with_reducible refine gd_box ?_); have _t := tokE; refine wpList_box_agg rfl _ (.tmp 0) rfl rfl ?_; clear tokE; intro w1 hx1 hb1 hl1)
    | ((with_reducible refine gd_box ?_); refine wpList_box_agg rfl _ (.tmp 1) rfl rfl ?_; intro w2 hx2 hb2 hl2)
    | ((with_reducible refine gd_alloc ?_); refine wpList_alloc_blk rfl 23 rfl zW ?_; intro w3 hx3 hb3 hl3)
    | fail)
  replace hx3 : Blk w3 w2.heap.size 23 (wcells 0) := hx3
  have hx1' := (hx1.ext hb2).ext hb3
  have hx2' := hx2.ext hb3
  have hB3 := below_step (below_step hb1 hb2) hb3
  have hg1 := hx1.lt
  have hg2 := hx2.lt
  have hg3 := hx3.lt
  refine wp_region_made (w := w3) (B := w.heap.size) (wB := w) [.val (.agg (wcells a)), .val (.agg (limbsV a)), .val (.agg (wcells b)), .val (.agg (limbsV b)), .val (.tuple #[.agg (limbsV s), .int .u64 (o : Nat)]), .val (.tuple #[.agg (limbsV s), .int .u64 (o : Nat)]), .val (.agg (limbsV s)), .val (.int .u64 (o : Nat)), .new 39 (limbsV 0) (limbsV s), .putN 8, .val (.int .u64 (o : Nat))] (by kernel_rfl) (by kernel_rfl) (by kernel_rfl) rfl (by kernel_rfl) rfl hB3.size hB3 List.nodup_nil (fun g hg => nomatch hg) trivial ?_ ?_
  · refine ⟨?_, ?_, ?_, ?_, ?_, ?_, ?_, ?_, ?_, ?_, ?_, trivial⟩
    · intro G wx fr hway _ hs hdef hsz
      have s2 : fr.tmps[2]? = some (.pointer (some ⟨w.heap.size, 0, none⟩)) := hs.1
      clear hs
      refine ⟨?_⟩
      refine wpList_load_blk rfl 23 (.tmp 2) rfl (way_blk hway hx1' (by first | exact hx1'.lt | omega) (by simp [heldBy, Knd.blockOf])) (by rw [HSW.out]; exact hW) (by simp [Act.eval, s2]) ?_
      refine wpList_nil ?_
      exact kp_val hdef hsz (Below.refl _ _)
    · intro G wx fr hway _ hs hdef hsz
      have s8 : fr.tmps[8]? = some (.agg (wcells a)) := hs.1
      clear hs
      refine ⟨?_⟩
      go_wp2_with fail
      refine (HFr.out a wx ha).mono ?_
      rintro e w2 ⟨rfl, hb2⟩
      go_wp2
      exact kp_post hsz hb2
    · intro G wx fr hway _ hs hdef hsz
      have s3 : fr.tmps[3]? = some (.pointer (some ⟨w1.heap.size, 0, none⟩)) := hs.1
      clear hs
      refine ⟨?_⟩
      refine wpList_load_blk rfl 23 (.tmp 3) rfl (way_blk hway hx2' (by first | exact hx2'.lt | omega) (by simp [heldBy, Knd.blockOf])) (by rw [HSW.out]; exact hW) (by simp [Act.eval, s3]) ?_
      refine wpList_nil ?_
      exact kp_val hdef hsz (Below.refl _ _)
    · intro G wx fr hway _ hs hdef hsz
      have s10 : fr.tmps[10]? = some (.agg (wcells b)) := hs.1
      clear hs
      refine ⟨?_⟩
      go_wp2_with fail
      refine (HFr.out b wx hb).mono ?_
      rintro e w2 ⟨rfl, hb2⟩
      go_wp2
      exact kp_post hsz hb2
    · intro G wx fr hway _ hs hdef hsz
      have s9 : fr.tmps[9]? = some (.agg (limbsV a)) := hs.1
      have s11 : fr.tmps[11]? = some (.agg (limbsV b)) := hs.2.1
      clear hs
      refine ⟨?_⟩
      go_wp2_with fail
      refine (CAdd.out wx).mono ?_
      rintro e w2 ⟨rfl, hb2⟩
      go_wp2
      exact kp_post hsz hb2
    · intro G wx fr hway _ hs hdef hsz
      have s12 : fr.tmps[12]? = some (.tuple #[.agg (limbsV s), .int .u64 (o : Nat)]) := hs.1
      clear hs
      refine ⟨?_⟩
      go_wp2
      exact kp_post hsz (Below.refl _ _)
    · intro G wx fr hway _ hs hdef hsz
      have s7 : fr.tmps[7]? = some (.tuple #[.agg (limbsV s), .int .u64 (o : Nat)]) := hs.1
      clear hs
      refine ⟨?_⟩
      go_wp2
      exact kp_post hsz (Below.refl _ _)
    · intro G wx fr hway _ hs hdef hsz
      have s7 : fr.tmps[7]? = some (.tuple #[.agg (limbsV s), .int .u64 (o : Nat)]) := hs.1
      clear hs
      refine ⟨?_⟩
      go_wp2
      exact kp_post hsz (Below.refl _ _)
    · intro G wx fr hway _ hs hdef hsz
      clear hs
      refine ⟨?_⟩
      refine wpList_alloc_blk rfl 39 rfl zN ?_
      intro wy hxy hby _
      refine wpList_nil ?_
      exact kp_new hdef hsz hby hxy
    · intro G wx fr hway hpre hs hdef hsz
      have s5 : fr.tmps[5]? = some (.pointer (some ⟨G 8, 0, none⟩)) := hs.1
      have s13 : fr.tmps[13]? = some (.agg (limbsV s)) := hs.2.1
      clear hs
      have hpre' : Blk wx (G 8) 39 (limbsV 0) := hpre
      refine ⟨?_⟩
      refine wpList_store_all rfl 39 (.tmp 5) (.tmp 13) rfl (limbsV s) hpre' (by rw [HSN.out]; exact hN) (by rw [HSN.out, HSN.out]) (H1N.out _) (by simp [Act.eval, s5]) (by simp [Act.eval, s13]) ?_
      intro wy hxy hgy
      refine wpList_nil ?_
      exact ⟨rfl, hdef, rfl, hxy, hgy⟩
    · intro G wx fr hway _ hs hdef hsz
      have s14 : fr.tmps[14]? = some (.int .u64 (o : Nat)) := hs.1
      clear hs
      refine ⟨?_⟩
      go_wp2
      exact kp_post hsz (Below.refl _ _)
  · intro G V wz hval hway hmade hap
    replace hval : V 0 = .agg (wcells a) ∧ V 1 = .agg (limbsV a) ∧ V 2 = .agg (wcells b) ∧ V 3 = .agg (limbsV b) ∧ V 4 = .tuple #[.agg (limbsV s), .int .u64 (o : Nat)] ∧ V 5 = .tuple #[.agg (limbsV s), .int .u64 (o : Nat)] ∧ V 6 = .agg (limbsV s) ∧ V 7 = .int .u64 (o : Nat) ∧ V 8 = .pointer (some ⟨G 8, 0, none⟩) ∧ V 9 = undef ∧ V 10 = .int .u64 (o : Nat) ∧ True := hval
    replace hmade : (w3.heap.size ≤ G 8 ∧ G 8 < wz.heap.size ∧ Blk wz (G 8) 39 (limbsV s)) ∧ True := hmade
    obtain ⟨e0, e1, e2, e3, e4, e5, e6, e7, e8, e9, e10, -⟩ := hval
    obtain ⟨⟨hg8, hl8, hx_8⟩, -⟩ := hmade
    clear hap
    simp only [fill, Act.put, e0, e1, e2, e3, e4, e5, e6, e7, e8, e10]
    clear e0 e1 e2 e3 e4 e5 e6 e7 e8 e9 e10
    simp only [Exit.then]
    go_simp
    generalize G 8 = g8 at *
    clear G V
    replace hx3 := way_blk hway hx3 hg3 (by simp [heldBy, Knd.blockOf])
    have hBz := hway.2.2
    clear hway
    go_wp2_with (first
      | ((with_reducible refine gd_load ?_); refine wpList_load_blk rfl 39 (.tmp 5) rfl hx_8 (by rw [HSN.out]; exact hN) rfl ?_)
      | (go_at_call 46; refine (HWd.out s _ HLT.out).mono ?_; rintro e w6 ⟨rfl, hb6⟩)
      | ((with_reducible refine gd_store ?_); refine wpList_store_all rfl 23 (.tmp 4) (.tmp 16) rfl (wcells s) (hx3.ext hb6) (by rw [HSW.out]; exact hW) (by rw [HSW.out, HSW.out]) (H1W.out _) (by rfl) (by rfl) ?_; intro w9 hx9 hg9)
      | fail)
    have hB6 := below_step hBz hb6
    have hB9 := below_blk hB6 hB6.size hg9 (by omega)
    exact bodyPost_ret (results_blk1 (cs := wcells s) rfl (by rw [HSW.out]; exact hW) hx9 rfl) rfl ⟨rfl, hB9⟩
set_option maxRecDepth 100000 in
set_option maxHeartbeats 400000 in
theorem Sub_any (a b : Nat) (w : World) (ha : a < 2 ^ 256) (hb : b < 2 ^ 256) : Calls Try.prog 35 #[.agg (wcells a), .agg (wcells b)] w fun e w' => e = .returned (.agg (wcells ((a + 2 ^ 256 - b) % 2 ^ 256))) ∧ Below w.heap.size w w' := by
  have hW := wordTy
  have hN := numTy
  have zW := zWordL
  have zN := zNumL
  have HSN := Lib.hid limbsV_size
  have H1N := Lib.hid limbsV_one
  have HSW := Lib.hid wcells_size
  have H1W := Lib.hid wcells_one
  have HFr := Lib.hid from_any
  have HWd := Lib.hid word_any
  have CSub := Lib.hid (fun w => sub_any a b w ha hb)
  have HLT := Lib.hid (show (a + 2 ^ 256 - b) % 2 ^ 256 < 2 ^ 256 from Nat.mod_lt _ (by decide))
  generalize (a + 2 ^ 256 - b) % 2 ^ 256 = s at *
  have tokE : True := trivial
  go_enter Try.func35, Try.ntmps35
  go_wp2_with (first
    | ((with_reducible refine gd_box ?_); have _t := tokE; refine wpList_box_agg rfl _ (.tmp 0) rfl rfl ?_; clear tokE; intro w1 hx1 hb1 hl1)
    | ((with_reducible refine gd_box ?_); refine wpList_box_agg rfl _ (.tmp 1) rfl rfl ?_; intro w2 hx2 hb2 hl2)
    | ((with_reducible refine gd_alloc ?_); refine wpList_alloc_blk rfl 23 rfl zW ?_; intro w3 hx3 hb3 hl3)
    | fail)
  replace hx3 : Blk w3 w2.heap.size 23 (wcells 0) := hx3
  have hx1' := (hx1.ext hb2).ext hb3
  have hx2' := hx2.ext hb3
  have hB3 := below_step (below_step hb1 hb2) hb3
  have hg1 := hx1.lt
  have hg2 := hx2.lt
  have hg3 := hx3.lt
  refine wp_region_made (w := w3) (B := w.heap.size) (wB := w) [.val (.agg (wcells a)), .val (.agg (limbsV a)), .val (.agg (wcells b)), .val (.agg (limbsV b)), .val (.agg (limbsV s)), .val (.agg (wcells s)), .putG w2.heap.size 23 (wcells 0) (wcells s)] (by kernel_rfl) (by kernel_rfl) (by kernel_rfl) rfl (by kernel_rfl) rfl hB3.size hB3 (List.nodup_cons.2 ⟨List.not_mem_nil, List.nodup_nil⟩) (by intro g hg; simp [heldBy, Knd.blockOf] at hg; subst hg; exact ⟨by omega, hx3.lt⟩) ⟨hx3, trivial⟩ ?_ ?_
  · refine ⟨?_, ?_, ?_, ?_, ?_, ?_, ?_, trivial⟩
    · intro G wx fr hway _ hs hdef hsz
      have s2 : fr.tmps[2]? = some (.pointer (some ⟨w.heap.size, 0, none⟩)) := hs.1
      clear hs
      refine ⟨?_⟩
      refine wpList_load_blk rfl 23 (.tmp 2) rfl (way_blk hway hx1' (by first | exact hx1'.lt | omega) (by simp [heldBy, Knd.blockOf]; omega)) (by rw [HSW.out]; exact hW) (by simp [Act.eval, s2]) ?_
      refine wpList_nil ?_
      exact kp_val hdef hsz (Below.refl _ _)
    · intro G wx fr hway _ hs hdef hsz
      have s5 : fr.tmps[5]? = some (.agg (wcells a)) := hs.1
      clear hs
      refine ⟨?_⟩
      go_wp2_with fail
      refine (HFr.out a wx ha).mono ?_
      rintro e w2 ⟨rfl, hb2⟩
      go_wp2
      exact kp_post hsz hb2
    · intro G wx fr hway _ hs hdef hsz
      have s3 : fr.tmps[3]? = some (.pointer (some ⟨w1.heap.size, 0, none⟩)) := hs.1
      clear hs
      refine ⟨?_⟩
      refine wpList_load_blk rfl 23 (.tmp 3) rfl (way_blk hway hx2' (by first | exact hx2'.lt | omega) (by simp [heldBy, Knd.blockOf]; omega)) (by rw [HSW.out]; exact hW) (by simp [Act.eval, s3]) ?_
      refine wpList_nil ?_
      exact kp_val hdef hsz (Below.refl _ _)
    · intro G wx fr hway _ hs hdef hsz
      have s7 : fr.tmps[7]? = some (.agg (wcells b)) := hs.1
      clear hs
      refine ⟨?_⟩
      go_wp2_with fail
      refine (HFr.out b wx hb).mono ?_
      rintro e w2 ⟨rfl, hb2⟩
      go_wp2
      exact kp_post hsz hb2
    · intro G wx fr hway _ hs hdef hsz
      have s6 : fr.tmps[6]? = some (.agg (limbsV a)) := hs.1
      have s8 : fr.tmps[8]? = some (.agg (limbsV b)) := hs.2.1
      clear hs
      refine ⟨?_⟩
      go_wp2_with fail
      refine (CSub.out wx).mono ?_
      rintro e w2 ⟨rfl, hb2⟩
      go_wp2
      exact kp_post hsz hb2
    · intro G wx fr hway _ hs hdef hsz
      have s9 : fr.tmps[9]? = some (.agg (limbsV s)) := hs.1
      clear hs
      refine ⟨?_⟩
      go_wp2_with fail
      refine (HWd.out s wx HLT.out).mono ?_
      rintro e w2 ⟨rfl, hb2⟩
      go_wp2
      exact kp_post hsz hb2
    · intro G wx fr hway hpre hs hdef hsz
      have s4 : fr.tmps[4]? = some (.pointer (some ⟨w2.heap.size, 0, none⟩)) := hs.1
      have s10 : fr.tmps[10]? = some (.agg (wcells s)) := hs.2.1
      clear hs
      have hpre' : Blk wx w2.heap.size 23 (wcells 0) := hpre
      refine ⟨?_⟩
      refine wpList_store_all rfl 23 (.tmp 4) (.tmp 10) rfl (wcells s) hpre' (by rw [HSW.out]; exact hW) (by rw [HSW.out, HSW.out]) (H1W.out _) (by simp [Act.eval, s4]) (by simp [Act.eval, s10]) ?_
      intro wy hxy hgy
      refine wpList_nil ?_
      exact ⟨rfl, hdef, rfl, hxy, hgy⟩
  · intro G V wz hval hway hmade hap
    replace hval : V 0 = .agg (wcells a) ∧ V 1 = .agg (limbsV a) ∧ V 2 = .agg (wcells b) ∧ V 3 = .agg (limbsV b) ∧ V 4 = .agg (limbsV s) ∧ V 5 = .agg (wcells s) ∧ V 6 = undef ∧ True := hval
    replace hmade : Blk wz w2.heap.size 23 (wcells s) ∧ True := hmade
    obtain ⟨e0, e1, e2, e3, e4, e5, e6, -⟩ := hval
    obtain ⟨hx_6, -⟩ := hmade
    clear hap
    simp only [fill, Act.put, e0, e1, e2, e3, e4, e5]
    clear e0 e1 e2 e3 e4 e5 e6
    simp only [Exit.then]
    go_simp
    clear G V
    have hBz := hway.2.2
    clear hway
    go_wp2
    exact bodyPost_ret (results_blk1 (cs := wcells s) rfl (by rw [HSW.out]; exact hW) hx_6 rfl) rfl ⟨rfl, hBz⟩
set_option maxRecDepth 100000 in
set_option maxHeartbeats 400000 in
theorem Cmp_any (a b : Nat) (w : World) (ha : a < 2 ^ 256) (hb : b < 2 ^ 256) : Calls Try.prog 39 #[.agg (wcells a), .agg (wcells b)] w fun e w' => e = .returned (.int .i64 (cmpN a b)) ∧ Below w.heap.size w w' := by
  have hW := wordTy
  have hN := numTy
  have zW := zWordL
  have zN := zNumL
  have HSN := Lib.hid limbsV_size
  have H1N := Lib.hid limbsV_one
  have HSW := Lib.hid wcells_size
  have H1W := Lib.hid wcells_one
  have HFr := Lib.hid from_any
  have HWd := Lib.hid word_any
  have CCmp := Lib.hid (fun w => cmp_any a b w ha hb)
  generalize cmpN a b = z at *
  have tokE : True := trivial
  go_enter Try.func39, Try.ntmps39
  go_wp2_with (first
    | ((with_reducible refine gd_box ?_); have _t := tokE; refine wpList_box_agg rfl _ (.tmp 0) rfl rfl ?_; clear tokE; intro w1 hx1 hb1 hl1)
    | ((with_reducible refine gd_box ?_); refine wpList_box_agg rfl _ (.tmp 1) rfl rfl ?_; intro w2 hx2 hb2 hl2)
    | fail)
  have hx1' := hx1.ext hb2
  have hB2 := below_step hb1 hb2
  have hg1 := hx1.lt
  have hg2 := hx2.lt
  refine wp_region_made (w := w2) (B := w.heap.size) (wB := w) [.val (.agg (wcells a)), .val (.agg (limbsV a)), .val (.agg (wcells b)), .val (.agg (limbsV b)), .val (.int .i64 z), .val (.int .i64 z)] (by kernel_rfl) (by kernel_rfl) (by kernel_rfl) rfl (by kernel_rfl) rfl hB2.size hB2 List.nodup_nil (fun g hg => nomatch hg) trivial ?_ ?_
  · refine ⟨?_, ?_, ?_, ?_, ?_, ?_, trivial⟩
    · intro G wx fr hway _ hs hdef hsz
      have s2 : fr.tmps[2]? = some (.pointer (some ⟨w.heap.size, 0, none⟩)) := hs.1
      clear hs
      refine ⟨?_⟩
      refine wpList_load_blk rfl 23 (.tmp 2) rfl (way_blk hway hx1' (by first | exact hx1'.lt | omega) (by simp [heldBy, Knd.blockOf])) (by rw [HSW.out]; exact hW) (by simp [Act.eval, s2]) ?_
      refine wpList_nil ?_
      exact kp_val hdef hsz (Below.refl _ _)
    · intro G wx fr hway _ hs hdef hsz
      have s5 : fr.tmps[5]? = some (.agg (wcells a)) := hs.1
      clear hs
      refine ⟨?_⟩
      go_wp2_with fail
      refine (HFr.out a wx ha).mono ?_
      rintro e w2 ⟨rfl, hb2⟩
      go_wp2
      exact kp_post hsz hb2
    · intro G wx fr hway _ hs hdef hsz
      have s3 : fr.tmps[3]? = some (.pointer (some ⟨w1.heap.size, 0, none⟩)) := hs.1
      clear hs
      refine ⟨?_⟩
      refine wpList_load_blk rfl 23 (.tmp 3) rfl (way_blk hway hx2 (by first | exact hx2.lt | omega) (by simp [heldBy, Knd.blockOf])) (by rw [HSW.out]; exact hW) (by simp [Act.eval, s3]) ?_
      refine wpList_nil ?_
      exact kp_val hdef hsz (Below.refl _ _)
    · intro G wx fr hway _ hs hdef hsz
      have s7 : fr.tmps[7]? = some (.agg (wcells b)) := hs.1
      clear hs
      refine ⟨?_⟩
      go_wp2_with fail
      refine (HFr.out b wx hb).mono ?_
      rintro e w2 ⟨rfl, hb2⟩
      go_wp2
      exact kp_post hsz hb2
    · intro G wx fr hway _ hs hdef hsz
      have s6 : fr.tmps[6]? = some (.agg (limbsV a)) := hs.1
      have s8 : fr.tmps[8]? = some (.agg (limbsV b)) := hs.2.1
      clear hs
      refine ⟨?_⟩
      go_wp2_with fail
      refine (CCmp.out wx).mono ?_
      rintro e w2 ⟨rfl, hb2⟩
      go_wp2
      exact kp_post hsz hb2
    · intro G wx fr hway _ hs hdef hsz
      have s9 : fr.tmps[9]? = some (.int .i64 z) := hs.1
      clear hs
      refine ⟨?_⟩
      go_wp2
      exact kp_post hsz (Below.refl _ _)
  · intro G V wz hval hway hmade hap
    replace hval : V 0 = .agg (wcells a) ∧ V 1 = .agg (limbsV a) ∧ V 2 = .agg (wcells b) ∧ V 3 = .agg (limbsV b) ∧ V 4 = .int .i64 z ∧ V 5 = .int .i64 z ∧ True := hval
    replace hmade : True := hmade
    obtain ⟨e0, e1, e2, e3, e4, e5, -⟩ := hval
    obtain ⟨-⟩ := hmade
    clear hap
    simp only [fill, Act.put, e0, e1, e2, e3, e4, e5]
    clear e0 e1 e2 e3 e4 e5
    simp only [Exit.then]
    go_simp
    clear G V
    have hBz := hway.2.2
    clear hway
    go_wp2
    go_ret
    exact ⟨rfl, hBz⟩
end Go.Mun
