/- 'WordExtends' answers true at every input, and leaves what it was given. No condition. -/
import Derived.Test.YtcmhbolonhhhoaaWordAlive
import Derived.Test.YtcmhbolonhhhoaaWordArg
import Derived.Test.YtcmhbolonhhhoaaWordExtendsP
import Derived.Test.YtcmhbolonhhhoaaLaw
import Derived.Test.YtcmhbolonhhhoaaRows
namespace Go.Proofs.Ytcmhbolonhhhoaa.WordExtends
open Go Go.RowKit Go.Mun Go.Proofs

set_option maxRecDepth 100000 in
set_option maxHeartbeats 8000000 in
theorem walk_no (a : Nat) (k : Int) (w : World) (hk : k < 0 ∨ (0 ≤ k ∧ 40 < k)) : Calls Try.prog 3 #[.agg (wcells a), .int .i64 k] w fun e w' => e = .returned (.bool true) ∧ Below w.heap.size w w' := by
  rcases hk with h | ⟨h0, h⟩
  all_goals
    have hW := wordTy
    have zW := zWordL
    have HSW := Lib.hid wcells_size
    have H1W := Lib.hid wcells_one
    have HZW := Lib.hid wcells_lit0
    have C1 := Lib.hid (fun w => alive1 w)
    go_enter Try.func3, Try.ntmps3
    have tk0_0 : True := trivial
    have tk0_1 : True := trivial
    go_wp2_with (first
      | ((with_reducible refine gd_box ?_); have _t := tk0_0; refine wpList_box_agg rfl _ (.tmp 0) rfl rfl ?_; clear tk0_0; intro w1 hx1 hb1 hl1; have hz1 := hx1.lt; have hs1 := hb1.size)
      | (go_at_call 10; have _t := tk0_1; refine (C1.out _).mono ?_; clear tk0_1; rintro e w2 ⟨rfl, hb2⟩; have hs2 := hb2.size)
      | fail)
    have hy1_1 := (hx1.ext hb2)
    have hB1_1 := hb1
    have hB1_2 := below_step hB1_1 hb2
    clear hb1 hl1 hz1 hs1 hb2 hs2 hx1 hB1_1
    go_ret
    exact ⟨rfl, hB1_2⟩
set_option maxRecDepth 100000 in
set_option maxHeartbeats 8000000 in
theorem walk_far (a : Nat) (k : Int) (w : World) (ha : a < 2 ^ 256) (hk1 : 30 < k) (hk2 : k ≤ 40) : Calls Try.prog 3 #[.agg (wcells a), .int .i64 k] w fun e w' => e = .returned (.bool true) ∧ Below w.heap.size w w' := by
  have hW := wordTy
  have zW := zWordL
  have HSW := Lib.hid wcells_size
  have H1W := Lib.hid wcells_one
  have HZW := Lib.hid wcells_lit0
  have C1 := Lib.hid (fun w => alive1 w)
  obtain ⟨z3, Ez3⟩ : ∃ z, z = ofN k := ⟨_, rfl⟩
  have hz3 : z3 < 2 ^ 256 := by rw [Ez3]; exact (ofN_lt _)
  have C2 := Lib.hid (fun w => Of_any k w (by omega) (by omega))
  rw [← Ez3] at C2
  obtain ⟨z5, Ez5⟩ : ∃ z, z = extN z3 a := ⟨_, rfl⟩
  have hz5 : z5 < 2 ^ 256 := by rw [Ez5]; exact (extN_lt ha)
  have C4 := Lib.hid (fun w => Extend_all z3 a w hz3)
  rw [← Ez5] at C4
  have Q6 := Lib.hid (fun w => eq_word z5 a hz5 ha w)
  rw [decide_eq_true (by subst_vars; exact pExt1 a hk1 hk2)] at Q6
  clear Ez3 Ez5 hz3 hz5
  go_enter Try.func3, Try.ntmps3
  have tk0_0 : True := trivial
  have tk0_1 : True := trivial
  go_wp2_with (first
    | ((with_reducible refine gd_box ?_); have _t := tk0_0; refine wpList_box_agg rfl _ (.tmp 0) rfl rfl ?_; clear tk0_0; intro w1 hx1 hb1 hl1; have hz1 := hx1.lt; have hs1 := hb1.size)
    | (go_at_call 10; have _t := tk0_1; refine (C1.out _).mono ?_; clear tk0_1; rintro e w2 ⟨rfl, hb2⟩; have hs2 := hb2.size)
    | fail)
  have hy1_1 := (hx1.ext hb2)
  have hB1_1 := hb1
  have hB1_2 := below_step hB1_1 hb2
  have hge_1 : w.heap.size ≤ w.heap.size := by omega
  clear hb1 hl1 hz1 hs1 hb2 hs2 hx1 hB1_1
  have hlw3_1 := hy1_1.lt
  refine wp_region_made (w := w2) (B := w.heap.size) (wB := w) [.val (.int .i64 k), .val (.agg (wcells z3)), .val (.agg (wcells a)), .val (.agg (wcells z5)), .new 23 (wcells 0) (wcells z5), .putN 4] (by kernel_rfl) (by kernel_rfl) (by kernel_rfl) rfl (by kernel_rfl) rfl hB1_2.size hB1_2 (by exact List.nodup_nil) (by intro g hg; exact nomatch hg) trivial ?_ ?_
  · refine ⟨?_, ?_, ?_, ?_, ?_, ?_, trivial⟩
    · intro G wx fr hway _ hs hdef hsz
      have s1 : fr.tmps[1]? = some (.int .i64 k) := hs.1
      clear hs
      refine ⟨?_⟩
      go_wp2
      exact kp_post hsz (Below.refl _ _)
    · intro G wx fr hway _ hs hdef hsz
      have s20 : fr.tmps[20]? = some (.int .i64 k) := hs.1
      clear hs
      refine ⟨?_⟩
      go_wp2_with fail
      refine (C2.out wx).mono ?_
      rintro e w2 ⟨rfl, hb2⟩
      go_wp2
      exact kp_post hsz hb2
    · intro G wx fr hway _ hs hdef hsz
      have s2 : fr.tmps[2]? = some (.pointer (some ⟨w.heap.size, 0, none⟩)) := hs.1
      clear hs
      refine ⟨?_⟩
      refine wpList_load_blk rfl 23 (.tmp 2) rfl (way_blk hway hy1_1 (by first | exact hy1_1.lt | omega) (by simp [heldBy, Knd.blockOf])) (by rw [HSW.out]; exact hW) (by simp [Act.eval, s2]) ?_
      refine wpList_nil ?_
      exact kp_val hdef hsz (Below.refl _ _)
    · intro G wx fr hway _ hs hdef hsz
      have s21 : fr.tmps[21]? = some (.agg (wcells z3)) := hs.1
      have s22 : fr.tmps[22]? = some (.agg (wcells a)) := hs.2.1
      clear hs
      refine ⟨?_⟩
      go_wp2_with fail
      refine (C4.out wx).mono ?_
      rintro e w2 ⟨rfl, hb2⟩
      go_wp2
      exact kp_post hsz hb2
    · intro G wx fr hway _ hs hdef hsz
      clear hs
      refine ⟨?_⟩
      refine wpList_alloc_blk rfl 23 rfl zW ?_
      intro wy hxy hby _
      refine wpList_nil ?_
      exact kp_new hdef hsz hby hxy
    · intro G wx fr hway hpre hs hdef hsz
      have s6 : fr.tmps[6]? = some (.pointer (some ⟨G 4, 0, none⟩)) := hs.1
      have s23 : fr.tmps[23]? = some (.agg (wcells z5)) := hs.2.1
      clear hs
      have hpre' : Blk wx (G 4) 23 (wcells 0) := hpre
      refine ⟨?_⟩
      refine wpList_store_all rfl 23 (.tmp 6) (.tmp 23) rfl (wcells z5) hpre' (by rw [HSW.out]; exact hW) (by rw [HSW.out, HSW.out]) (H1W.out _) (by simp [Act.eval, s6]) (by simp [Act.eval, s23]) ?_
      intro wy hxy hgy
      refine wpList_nil ?_
      exact ⟨rfl, hdef, rfl, hxy, hgy⟩
  · intro G V wr3 hval hway hmade hap
    replace hval : V 0 = .int .i64 k ∧ V 1 = .agg (wcells z3) ∧ V 2 = .agg (wcells a) ∧ V 3 = .agg (wcells z5) ∧ V 4 = .pointer (some ⟨G 4, 0, none⟩) ∧ V 5 = undef ∧ True := hval
    replace hmade : (w2.heap.size ≤ G 4 ∧ G 4 < wr3.heap.size ∧ Blk wr3 (G 4) 23 (wcells z5)) ∧ True := hmade
    obtain ⟨e3_0, e3_1, e3_2, e3_3, e3_4, e3_5, -⟩ := hval
    obtain ⟨⟨hg3_4, hl3_4, hx_3_4⟩, -⟩ := hmade
    clear hap
    simp only [fill, Act.put, e3_0, e3_1, e3_2, e3_3, e3_4]
    clear e3_0 e3_1 e3_2 e3_3 e3_4 e3_5
    simp only [Exit.then]
    go_simp
    generalize G 4 = g3_4 at *
    clear G V
    replace hy1_1 := way_blk hway hy1_1 hy1_1.lt (by simp [heldBy, Knd.blockOf])
    replace hB1_2 := hway.2.2
    clear hway
    go_simp
    have tk3_0 : True := trivial
    have tk3_1 : True := trivial
    have hlt_3_1 := hy1_1.lt
    have hlt_3_2 := hx_3_4.lt
    have hBs_3 := hB1_2.size
    have hqQ6 := Q6.out
    go_wp2_with (first
      | ((with_reducible refine gd_load ?_); have _t := tk3_0; refine wpList_load_blk rfl 23 (.tmp 6) rfl hx_3_4 (by rw [HSW.out]; exact hW) rfl ?_; clear tk3_0)
      | ((with_reducible refine gd_load ?_); have _t := tk3_1; refine wpList_load_blk rfl 23 (.tmp 2) rfl hy1_1 (by rw [HSW.out]; exact hW) rfl ?_; clear tk3_1)
      | fail)
    clear hqQ6
    clear hlt_3_1 hlt_3_2 hBs_3
    go_ret
    exact ⟨rfl, hB1_2⟩
set_option maxRecDepth 100000 in
set_option maxHeartbeats 8000000 in
theorem walk (a k : Nat) (w : World) (ha : a < 2 ^ 256) (hk : Hid (k ≤ 30)) (hk1 : (k : Int) ≤ 30) : Calls Try.prog 3 #[.agg (wcells a), .int .i64 (k : Int)] w fun e w' => e = .returned (.bool true) ∧ Below w.heap.size w w' := by
  have hW := wordTy
  have zW := zWordL
  have HSW := Lib.hid wcells_size
  have H1W := Lib.hid wcells_one
  have HZW := Lib.hid wcells_lit0
  have C1 := Lib.hid (fun w => alive1 w)
  obtain ⟨z3, Ez3⟩ : ∃ z, z = ofN ((k : Int)) := ⟨_, rfl⟩
  have hz3 : z3 < 2 ^ 256 := by rw [Ez3]; exact (ofN_lt _)
  have C2 := Lib.hid (fun w => Of_any ((k : Int)) w (by omega) (by omega))
  rw [← Ez3] at C2
  obtain ⟨z5, Ez5⟩ : ∃ z, z = extN z3 a := ⟨_, rfl⟩
  have hz5 : z5 < 2 ^ 256 := by rw [Ez5]; exact (extN_lt ha)
  have C4 := Lib.hid (fun w => Extend_all z3 a w hz3)
  rw [← Ez5] at C4
  obtain ⟨z7, Ez7⟩ : ∃ z, z = ofN (8 * (31 - ((k : Int)))) := ⟨_, rfl⟩
  have hz7 : z7 < 2 ^ 256 := by rw [Ez7]; exact (ofN_lt _)
  have C6 := Lib.hid (fun w => Of_any (8 * (31 - ((k : Int)))) w (by omega) (by omega))
  rw [← Ez7] at C6
  obtain ⟨z9, Ez9⟩ : ∃ z, z = shlN z7 a := ⟨_, rfl⟩
  have hz9 : z9 < 2 ^ 256 := by rw [Ez9]; exact (shlN_lt _ _)
  have C8 := Lib.hid (fun w => Shl_all z7 a w hz7 ha)
  rw [← Ez9] at C8
  obtain ⟨z11, Ez11⟩ : ∃ z, z = sarN z7 z9 := ⟨_, rfl⟩
  have hz11 : z11 < 2 ^ 256 := by rw [Ez11]; exact (sarN_lt hz9)
  have C10 := Lib.hid (fun w => Sar_all z7 z9 w hz7 hz9)
  rw [← Ez11] at C10
  have Q12 := Lib.hid (fun w => eq_word z5 z11 hz5 hz11 w)
  rw [decide_eq_true (by subst_vars; exact pExt2 a hk.out)] at Q12
  obtain ⟨z14, Ez14⟩ : ∃ z, z = extN z3 z5 := ⟨_, rfl⟩
  have hz14 : z14 < 2 ^ 256 := by rw [Ez14]; exact (extN_lt hz5)
  have C13 := Lib.hid (fun w => Extend_all z3 z5 w hz3)
  rw [← Ez14] at C13
  have Q15 := Lib.hid (fun w => eq_word z14 z5 hz14 hz5 w)
  rw [decide_eq_true (by subst_vars; exact pExt3 ha hk.out)] at Q15
  clear Ez3 Ez5 Ez7 Ez9 Ez11 Ez14 hz3 hz5 hz7 hz9 hz11 hz14
  go_enter Try.func3, Try.ntmps3
  have tk0_0 : True := trivial
  have tk0_1 : True := trivial
  go_wp2_with (first
    | ((with_reducible refine gd_box ?_); have _t := tk0_0; refine wpList_box_agg rfl _ (.tmp 0) rfl rfl ?_; clear tk0_0; intro w1 hx1 hb1 hl1; have hz1 := hx1.lt; have hs1 := hb1.size)
    | (go_at_call 10; have _t := tk0_1; refine (C1.out _).mono ?_; clear tk0_1; rintro e w2 ⟨rfl, hb2⟩; have hs2 := hb2.size)
    | fail)
  have hy1_1 := (hx1.ext hb2)
  have hB1_1 := hb1
  have hB1_2 := below_step hB1_1 hb2
  have hge_1 : w.heap.size ≤ w.heap.size := by omega
  clear hb1 hl1 hz1 hs1 hb2 hs2 hx1 hB1_1
  have hlw3_1 := hy1_1.lt
  refine wp_region_made (w := w2) (B := w.heap.size) (wB := w) [.val (.int .i64 ((k : Int))), .val (.agg (wcells z3)), .val (.agg (wcells a)), .val (.agg (wcells z5)), .new 23 (wcells 0) (wcells z5), .putN 4] (by kernel_rfl) (by kernel_rfl) (by kernel_rfl) rfl (by kernel_rfl) rfl hB1_2.size hB1_2 (by exact List.nodup_nil) (by intro g hg; exact nomatch hg) trivial ?_ ?_
  · refine ⟨?_, ?_, ?_, ?_, ?_, ?_, trivial⟩
    · intro G wx fr hway _ hs hdef hsz
      have s1 : fr.tmps[1]? = some (.int .i64 ((k : Int))) := hs.1
      clear hs
      refine ⟨?_⟩
      go_wp2
      exact kp_post hsz (Below.refl _ _)
    · intro G wx fr hway _ hs hdef hsz
      have s20 : fr.tmps[20]? = some (.int .i64 ((k : Int))) := hs.1
      clear hs
      refine ⟨?_⟩
      go_wp2_with fail
      refine (C2.out wx).mono ?_
      rintro e w2 ⟨rfl, hb2⟩
      go_wp2
      exact kp_post hsz hb2
    · intro G wx fr hway _ hs hdef hsz
      have s2 : fr.tmps[2]? = some (.pointer (some ⟨w.heap.size, 0, none⟩)) := hs.1
      clear hs
      refine ⟨?_⟩
      refine wpList_load_blk rfl 23 (.tmp 2) rfl (way_blk hway hy1_1 (by first | exact hy1_1.lt | omega) (by simp [heldBy, Knd.blockOf])) (by rw [HSW.out]; exact hW) (by simp [Act.eval, s2]) ?_
      refine wpList_nil ?_
      exact kp_val hdef hsz (Below.refl _ _)
    · intro G wx fr hway _ hs hdef hsz
      have s21 : fr.tmps[21]? = some (.agg (wcells z3)) := hs.1
      have s22 : fr.tmps[22]? = some (.agg (wcells a)) := hs.2.1
      clear hs
      refine ⟨?_⟩
      go_wp2_with fail
      refine (C4.out wx).mono ?_
      rintro e w2 ⟨rfl, hb2⟩
      go_wp2
      exact kp_post hsz hb2
    · intro G wx fr hway _ hs hdef hsz
      clear hs
      refine ⟨?_⟩
      refine wpList_alloc_blk rfl 23 rfl zW ?_
      intro wy hxy hby _
      refine wpList_nil ?_
      exact kp_new hdef hsz hby hxy
    · intro G wx fr hway hpre hs hdef hsz
      have s6 : fr.tmps[6]? = some (.pointer (some ⟨G 4, 0, none⟩)) := hs.1
      have s23 : fr.tmps[23]? = some (.agg (wcells z5)) := hs.2.1
      clear hs
      have hpre' : Blk wx (G 4) 23 (wcells 0) := hpre
      refine ⟨?_⟩
      refine wpList_store_all rfl 23 (.tmp 6) (.tmp 23) rfl (wcells z5) hpre' (by rw [HSW.out]; exact hW) (by rw [HSW.out, HSW.out]) (H1W.out _) (by simp [Act.eval, s6]) (by simp [Act.eval, s23]) ?_
      intro wy hxy hgy
      refine wpList_nil ?_
      exact ⟨rfl, hdef, rfl, hxy, hgy⟩
  · intro G V wr3 hval hway hmade hap
    replace hval : V 0 = .int .i64 ((k : Int)) ∧ V 1 = .agg (wcells z3) ∧ V 2 = .agg (wcells a) ∧ V 3 = .agg (wcells z5) ∧ V 4 = .pointer (some ⟨G 4, 0, none⟩) ∧ V 5 = undef ∧ True := hval
    replace hmade : (w2.heap.size ≤ G 4 ∧ G 4 < wr3.heap.size ∧ Blk wr3 (G 4) 23 (wcells z5)) ∧ True := hmade
    obtain ⟨e3_0, e3_1, e3_2, e3_3, e3_4, e3_5, -⟩ := hval
    obtain ⟨⟨hg3_4, hl3_4, hx_3_4⟩, -⟩ := hmade
    clear hap
    simp only [fill, Act.put, e3_0, e3_1, e3_2, e3_3, e3_4]
    clear e3_0 e3_1 e3_2 e3_3 e3_4 e3_5
    simp only [Exit.then]
    go_simp
    generalize G 4 = g3_4 at *
    clear G V
    replace hy1_1 := way_blk hway hy1_1 hy1_1.lt (by simp [heldBy, Knd.blockOf])
    replace hB1_2 := hway.2.2
    clear hway
    go_simp
    have tk3_0 : True := trivial
    have tk3_1 : True := trivial
    have tk3_2 : True := trivial
    have hlt_3_1 := hy1_1.lt
    have hlt_3_2 := hx_3_4.lt
    have hBs_3 := hB1_2.size
    go_wp2_with (first
      | (go_at_call 12; have _t := tk3_0; refine (C6.out _).mono ?_; clear tk3_0; rintro e w3 ⟨rfl, hb3⟩; have hs3 := hb3.size)
      | ((with_reducible refine gd_alloc ?_); have _t := tk3_1; refine wpList_alloc_blk rfl 23 rfl zW ?_; clear tk3_1; intro w4 hx4 hb4 hl4; have hz4 := hx4.lt; have hs4 := hb4.size)
      | ((with_reducible refine gd_store ?_); have _t := tk3_2; refine wpList_store_all rfl 23 (.tmp 7) (.tmp 32) rfl (wcells z7) hx4 (by rw [HSW.out]; exact hW) (by rw [HSW.out]; exact HSW.out 0) (H1W.out _) (by rfl) (by rfl) ?_; clear tk3_2; intro w5 hx5 hg5; have hs5 := hg5.size)
      | fail)
    have hy4_1 := (((hy1_1.ext hb3).ext hb4).grown hg5 (by simp; omega))
    have hy4_2 := (((hx_3_4.ext hb3).ext hb4).grown hg5 (by simp; omega))
    have hy4_3 := hx5
    have hB4_1 := below_step hB1_2 hb3
    have hB4_2 := below_step hB4_1 hb4
    have hB4_3 := below_blk hB4_2 hB4_2.size hg5 (by first | omega | (simp; omega))
    have hge_2 : w.heap.size ≤ g3_4 := by omega
    have hlo_1_2 : w.heap.size < g3_4 := by omega
    have hge_3 : w.heap.size ≤ w3.heap.size := by omega
    have hlo_1_3 : w.heap.size < w3.heap.size := by omega
    have hlo_2_3 : g3_4 < w3.heap.size := by omega
    clear hlt_3_1 hlt_3_2 hBs_3 hb3 hs3 hx4 hb4 hl4 hz4 hs4 hg5 hs5 hx5 hx_3_4 hy1_1 hB4_1 hB4_2 hB1_2
    refine wp_region_made (w := w5) (B := w.heap.size) (wB := w) [.val (.agg (wcells z5)), .val (.agg (wcells z7)), .val (.agg (wcells z7)), .val (.agg (wcells a)), .val (.agg (wcells z9)), .val (.agg (wcells z11)), .val (.bool true), .val (.bool true), .val (.int .i64 ((k : Int))), .val (.agg (wcells z3)), .val (.agg (wcells z5)), .val (.agg (wcells z14)), .val (.agg (wcells z5)), .val (.bool true), .val (.bool true), .val (.bool true)] (by kernel_rfl) (by kernel_rfl) (by kernel_rfl) rfl (by kernel_rfl) rfl hB4_3.size hB4_3 (by exact List.nodup_nil) (by intro g hg; exact nomatch hg) trivial ?_ ?_
    · refine ⟨?_, ?_, ?_, ?_, ?_, ?_, ?_, ?_, ?_, ?_, ?_, ?_, ?_, ?_, ?_, ?_, trivial⟩
      · intro G wx fr hway _ hs hdef hsz
        have s6 : fr.tmps[6]? = some (.pointer (some ⟨g3_4, 0, none⟩)) := hs.1
        clear hs
        refine ⟨?_⟩
        refine wpList_load_blk rfl 23 (.tmp 6) rfl (way_blk hway hy4_2 (by first | exact hy4_2.lt | omega) (by simp [heldBy, Knd.blockOf])) (by rw [HSW.out]; exact hW) (by simp [Act.eval, s6]) ?_
        refine wpList_nil ?_
        exact kp_val hdef hsz (Below.refl _ _)
      · intro G wx fr hway _ hs hdef hsz
        have s7 : fr.tmps[7]? = some (.pointer (some ⟨w3.heap.size, 0, none⟩)) := hs.1
        clear hs
        refine ⟨?_⟩
        refine wpList_load_blk rfl 23 (.tmp 7) rfl (way_blk hway hy4_3 (by first | exact hy4_3.lt | omega) (by simp [heldBy, Knd.blockOf])) (by rw [HSW.out]; exact hW) (by simp [Act.eval, s7]) ?_
        refine wpList_nil ?_
        exact kp_val hdef hsz (Below.refl _ _)
      · intro G wx fr hway _ hs hdef hsz
        have s7 : fr.tmps[7]? = some (.pointer (some ⟨w3.heap.size, 0, none⟩)) := hs.1
        clear hs
        refine ⟨?_⟩
        refine wpList_load_blk rfl 23 (.tmp 7) rfl (way_blk hway hy4_3 (by first | exact hy4_3.lt | omega) (by simp [heldBy, Knd.blockOf])) (by rw [HSW.out]; exact hW) (by simp [Act.eval, s7]) ?_
        refine wpList_nil ?_
        exact kp_val hdef hsz (Below.refl _ _)
      · intro G wx fr hway _ hs hdef hsz
        have s2 : fr.tmps[2]? = some (.pointer (some ⟨w.heap.size, 0, none⟩)) := hs.1
        clear hs
        refine ⟨?_⟩
        refine wpList_load_blk rfl 23 (.tmp 2) rfl (way_blk hway hy4_1 (by first | exact hy4_1.lt | omega) (by simp [heldBy, Knd.blockOf])) (by rw [HSW.out]; exact hW) (by simp [Act.eval, s2]) ?_
        refine wpList_nil ?_
        exact kp_val hdef hsz (Below.refl _ _)
      · intro G wx fr hway _ hs hdef hsz
        have s35 : fr.tmps[35]? = some (.agg (wcells z7)) := hs.1
        have s36 : fr.tmps[36]? = some (.agg (wcells a)) := hs.2.1
        clear hs
        refine ⟨?_⟩
        go_wp2_with fail
        refine (C8.out wx).mono ?_
        rintro e w2 ⟨rfl, hb2⟩
        go_wp2
        exact kp_post hsz hb2
      · intro G wx fr hway _ hs hdef hsz
        have s34 : fr.tmps[34]? = some (.agg (wcells z7)) := hs.1
        have s37 : fr.tmps[37]? = some (.agg (wcells z9)) := hs.2.1
        clear hs
        refine ⟨?_⟩
        go_wp2_with fail
        refine (C10.out wx).mono ?_
        rintro e w2 ⟨rfl, hb2⟩
        go_wp2
        exact kp_post hsz hb2
      · intro G wx fr hway _ hs hdef hsz
        have s33 : fr.tmps[33]? = some (.agg (wcells z5)) := hs.1
        have s38 : fr.tmps[38]? = some (.agg (wcells z11)) := hs.2.1
        clear hs
        have hq := Q12.out
        refine ⟨?_⟩
        go_wp2
        exact kp_post hsz (Below.refl _ _)
      · intro G wx fr hway _ hs hdef hsz
        have s39 : fr.tmps[39]? = some (.bool true) := hs.1
        clear hs
        refine ⟨?_⟩
        go_wp2
        exact kp_post hsz (Below.refl _ _)
      · intro G wx fr hway _ hs hdef hsz
        have s1 : fr.tmps[1]? = some (.int .i64 ((k : Int))) := hs.1
        have s40 : fr.tmps[40]? = some (.bool true) := hs.2.1
        clear hs
        refine ⟨?_⟩
        go_wp2
        exact kp_post hsz (Below.refl _ _)
      · intro G wx fr hway _ hs hdef hsz
        have s41 : fr.tmps[41]? = some (.int .i64 ((k : Int))) := hs.1
        have s40 : fr.tmps[40]? = some (.bool true) := hs.2.1
        clear hs
        refine ⟨?_⟩
        go_wp2_with fail
        refine (C2.out wx).mono ?_
        rintro e w2 ⟨rfl, hb2⟩
        go_wp2
        exact kp_post hsz hb2
      · intro G wx fr hway _ hs hdef hsz
        have s6 : fr.tmps[6]? = some (.pointer (some ⟨g3_4, 0, none⟩)) := hs.1
        have s40 : fr.tmps[40]? = some (.bool true) := hs.2.1
        clear hs
        refine ⟨?_⟩
        refine wpList_load_want (by simp [Region.wanted, yielded, *]) 23 (.tmp 6) rfl (way_blk hway hy4_2 (by first | exact hy4_2.lt | omega) (by simp [heldBy, Knd.blockOf])) (by rw [HSW.out]; exact hW) (by simp [Act.eval, s6]) ?_
        refine wpList_nil ?_
        exact kp_val hdef hsz (Below.refl _ _)
      · intro G wx fr hway _ hs hdef hsz
        have s42 : fr.tmps[42]? = some (.agg (wcells z3)) := hs.1
        have s43 : fr.tmps[43]? = some (.agg (wcells z5)) := hs.2.1
        have s40 : fr.tmps[40]? = some (.bool true) := hs.2.2.1
        clear hs
        refine ⟨?_⟩
        go_wp2_with fail
        refine (C13.out wx).mono ?_
        rintro e w2 ⟨rfl, hb2⟩
        go_wp2
        exact kp_post hsz hb2
      · intro G wx fr hway _ hs hdef hsz
        have s6 : fr.tmps[6]? = some (.pointer (some ⟨g3_4, 0, none⟩)) := hs.1
        have s40 : fr.tmps[40]? = some (.bool true) := hs.2.1
        clear hs
        refine ⟨?_⟩
        refine wpList_load_want (by simp [Region.wanted, yielded, *]) 23 (.tmp 6) rfl (way_blk hway hy4_2 (by first | exact hy4_2.lt | omega) (by simp [heldBy, Knd.blockOf])) (by rw [HSW.out]; exact hW) (by simp [Act.eval, s6]) ?_
        refine wpList_nil ?_
        exact kp_val hdef hsz (Below.refl _ _)
      · intro G wx fr hway _ hs hdef hsz
        have s44 : fr.tmps[44]? = some (.agg (wcells z14)) := hs.1
        have s45 : fr.tmps[45]? = some (.agg (wcells z5)) := hs.2.1
        have s40 : fr.tmps[40]? = some (.bool true) := hs.2.2.1
        clear hs
        have hq := Q15.out
        refine ⟨?_⟩
        go_wp2
        exact kp_post hsz (Below.refl _ _)
      · intro G wx fr hway _ hs hdef hsz
        have s40 : fr.tmps[40]? = some (.bool true) := hs.1
        have s46 : fr.tmps[46]? = some (.bool true) := hs.2.1
        clear hs
        refine ⟨?_⟩
        go_wp2
        exact kp_post hsz (Below.refl _ _)
      · intro G wx fr hway _ hs hdef hsz
        have s47 : fr.tmps[47]? = some (.bool true) := hs.1
        clear hs
        refine ⟨?_⟩
        go_wp2
        exact kp_post hsz (Below.refl _ _)
    · intro G V wr6 hval hway hmade hap
      replace hval : V 0 = .agg (wcells z5) ∧ V 1 = .agg (wcells z7) ∧ V 2 = .agg (wcells z7) ∧ V 3 = .agg (wcells a) ∧ V 4 = .agg (wcells z9) ∧ V 5 = .agg (wcells z11) ∧ V 6 = .bool true ∧ V 7 = .bool true ∧ V 8 = .int .i64 ((k : Int)) ∧ V 9 = .agg (wcells z3) ∧ V 10 = .agg (wcells z5) ∧ V 11 = .agg (wcells z14) ∧ V 12 = .agg (wcells z5) ∧ V 13 = .bool true ∧ V 14 = .bool true ∧ V 15 = .bool true ∧ True := hval
      replace hmade : True := hmade
      obtain ⟨e6_0, e6_1, e6_2, e6_3, e6_4, e6_5, e6_6, e6_7, e6_8, e6_9, e6_10, e6_11, e6_12, e6_13, e6_14, e6_15, -⟩ := hval
      obtain ⟨-⟩ := hmade
      clear hap
      simp only [fill, Act.put, e6_0, e6_1, e6_2, e6_3, e6_4, e6_5, e6_6, e6_7, e6_8, e6_9, e6_10, e6_11, e6_12, e6_13, e6_14, e6_15]
      clear e6_0 e6_1 e6_2 e6_3 e6_4 e6_5 e6_6 e6_7 e6_8 e6_9 e6_10 e6_11 e6_12 e6_13 e6_14 e6_15
      simp only [Exit.then]
      go_simp
      clear G V
      replace hy4_1 := way_blk hway hy4_1 hy4_1.lt (by simp [heldBy, Knd.blockOf])
      replace hy4_2 := way_blk hway hy4_2 hy4_2.lt (by simp [heldBy, Knd.blockOf])
      replace hy4_3 := way_blk hway hy4_3 hy4_3.lt (by simp [heldBy, Knd.blockOf])
      replace hB4_3 := hway.2.2
      clear hway
      go_wp2
      go_ret
      exact ⟨rfl, hB4_3⟩
open Go.ChangeShapes Go.WideShapes Go.ChangeAt

set_option maxRecDepth 100000 in
theorem lifted (os : Os) (started : os.Started) (H : Type) (enc : TypeId × Value → H) :
    ReturnsInHanded {} Try.checked os 3 .any (Rows.wordExtendsSpec.pre6 enc Try.prog Try.f3 Rows.wordExtendsRow.domain false) (Rows.wordExtendsSpec.post enc Try.prog Try.f3 false true false false) := by
  refine law_lift (C := Try.checked) (ts := [23, 3]) (tb := 4) (by kernel_rfl) started (by kernel_rfl) Try.func3
    (ChangeSpec.witness6 (enc := enc) (C := Try.checked) false ⟨#[], #[.agg (Array.replicate 32 (.int .u8 0)), .int .i64 0], []⟩ 8 (by kernel_rfl) (by kernel_rfl) (by kernel_rfl) (by kernel_rfl))
    (by kernel_rfl) (by kernel_rfl) (by kernel_rfl) (by kernel_rfl) Try.underlying4 rfl (fun ds h => by match ds, h with | [_, _], _ => rfl) ?_
  intro W vs hl h
  match vs, hl with
  | [v0, v1], _ =>
    have ha := h 0 _ v0 rfl rfl
    obtain ⟨k, rfl, hk⟩ := arg_int Try.underlying3 (h 1 _ v1 rfl rfl)
    obtain ⟨a, ha', rfl⟩ := arg_word ha
    by_cases c0 : k < 0
    · exact walk_no a k W (.inl c0)
    by_cases c1 : 40 < k
    · exact walk_no a k W (.inr ⟨by omega, c1⟩)
    by_cases c2 : 30 < k
    · exact walk_far a k W ha' c2 (by omega)
    obtain ⟨n, rfl⟩ := Int.eq_ofNat_of_zero_le (show 0 ≤ k by omega)
    exact walk a n W ha' (Lib.hid (by omega)) (by omega)

theorem over : Rows.wordExtendsRow.holds Try.pinned (OpenSpec.ofChange Rows.wordExtendsSpec) :=
  OpenClaim.holds_of_wide 3 Try.f3 rfl rfl rfl rfl rfl rfl rfl ⟨rfl, rfl, rfl, rfl, rfl⟩ rfl rfl rfl rfl rfl (by kernel_rfl) Try.func3 (by kernel_rfl)
    (of_decide_eq_true (by kernel_rfl)) (by unfold Func.isWrapper; first | (rw [if_pos (by decide +kernel)]; kernel_rfl) | (rw [if_neg (by decide +kernel)]; exact ⟨rfl, rfl⟩))
    (fun os started H enc _ => lifted os started H enc)
end Go.Proofs.Ytcmhbolonhhhoaa.WordExtends
namespace Go.Proofs.Ytcmhbolonhhhoaa
theorem wordExtends_holds : Rows.WordExtendsSaid := WordExtends.over
#print axioms wordExtends_holds
end Go.Proofs.Ytcmhbolonhhhoaa
