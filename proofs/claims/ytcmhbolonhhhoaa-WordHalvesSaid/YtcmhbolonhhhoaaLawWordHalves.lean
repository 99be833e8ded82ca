/- 'WordHalves' answers true at every input, and leaves what it was given. No condition. -/
import Derived.Test.YtcmhbolonhhhoaaWordAlive
import Derived.Test.YtcmhbolonhhhoaaWordArg
import Derived.Test.YtcmhbolonhhhoaaWordSignsP
import Derived.Test.YtcmhbolonhhhoaaLaw
import Derived.Test.YtcmhbolonhhhoaaRows
namespace Go.Proofs.Ytcmhbolonhhhoaa.WordHalves
open Go Go.RowKit Go.Mun Go.Proofs

set_option maxRecDepth 100000 in
set_option maxHeartbeats 8000000 in
theorem walk_no (a : Nat) (k : Int) (w : World) (hk : k < 0 ∨ (0 ≤ k ∧ 255 < k)) : Calls Try.prog 9 #[.agg (wcells a), .int .i64 k] w fun e w' => e = .returned (.bool true) ∧ Below w.heap.size w w' := by
  rcases hk with h | ⟨h0, h⟩
  all_goals
    have hW := wordTy
    have zW := zWordL
    have HSW := Lib.hid wcells_size
    have H1W := Lib.hid wcells_one
    have HZW := Lib.hid wcells_lit0
    have C1 := Lib.hid (fun w => alive1 w)
    go_enter Try.func9, Try.ntmps9
    have tk0_0 : True := trivial
    have tk0_1 : True := trivial
    go_wp2_with (first
      | ((with_reducible refine gd_box ?_); have _t := tk0_0; refine wpList_box_agg rfl _ (.tmp 0) rfl rfl ?_; clear tk0_0; intro w1 hx1 hb1 hl1; have hz1 := hx1.lt; have hs1 := hb1.size)
      | (go_at_call 10; have _t := tk0_1; refine (C1.out _).mono ?_; clear tk0_1; rintro e w2 ⟨rfl, hb2⟩; have hs2 := hb2.size)
      | fail)
    have hy1_1 := (hx1.ext hb2)
    have hB1_1 := hb1
    have hB1_2 := below_step hB1_1 hb2
    clear hb1 hl1 hz1 hs1 hb2 hs2 hx1 hB1_1
    go_ret
    exact ⟨rfl, hB1_2⟩
set_option maxRecDepth 100000 in
set_option maxHeartbeats 8000000 in
theorem walk (a k : Nat) (w : World) (ha : a < 2 ^ 256) (hk : Kept (k ≤ 255)) (hk1 : (k : Int) ≤ 255) : Calls Try.prog 9 #[.agg (wcells a), .int .i64 (k : Int)] w fun e w' => e = .returned (.bool true) ∧ Below w.heap.size w w' := by
  have hW := wordTy
  have zW := zWordL
  have HSW := Lib.hid wcells_size
  have H1W := Lib.hid wcells_one
  have HZW := Lib.hid wcells_lit0
  have C1 := Lib.hid (fun w => alive1 w)
  obtain ⟨z3, Ez3⟩ : ∃ z, z = ofN ((k : Int)) := ⟨_, rfl⟩
  have hz3 : z3 < 2 ^ 256 := by rw [Ez3]; exact (ofN_lt _)
  have C2 := Lib.hid (fun w => Of_any ((k : Int)) w (by omega) (by omega))
  rw [← Ez3] at C2
  obtain ⟨z5, Ez5⟩ : ∃ z, z = ofN 2 := ⟨_, rfl⟩
  have hz5 : z5 < 2 ^ 256 := by rw [Ez5]; exact (ofN_lt _)
  have C4 := Lib.hid (fun w => Of_any 2 w (by decide) (by decide))
  rw [← Ez5] at C4
  obtain ⟨z7, Ez7⟩ : ∃ z, z = powN z5 z3 := ⟨_, rfl⟩
  have hz7 : z7 < 2 ^ 256 := by rw [Ez7]; exact (powN_lt _ _)
  have C6 := Lib.hid (fun w => Exp_any z5 z3 w hz5 hz3)
  rw [← Ez7] at C6
  obtain ⟨z9, Ez9⟩ : ∃ z, z = shrN z3 a := ⟨_, rfl⟩
  have hz9 : z9 < 2 ^ 256 := by rw [Ez9]; exact (shrN_lt ha)
  have C8 := Lib.hid (fun w => Shr_all z3 a w hz3 ha)
  rw [← Ez9] at C8
  obtain ⟨z11, Ez11⟩ : ∃ z, z = shlN z3 z9 := ⟨_, rfl⟩
  have hz11 : z11 < 2 ^ 256 := by rw [Ez11]; exact (shlN_lt _ _)
  have C10 := Lib.hid (fun w => Shl_all z3 z9 w hz3 hz9)
  rw [← Ez11] at C10
  obtain ⟨z13, Ez13⟩ : ∃ z, z = modN a z7 := ⟨_, rfl⟩
  have hz13 : z13 < 2 ^ 256 := by rw [Ez13]; exact (modN_lt _ ha)
  have C12 := Lib.hid (fun w => Mod_all a z7 w ha hz7)
  rw [← Ez13] at C12
  obtain ⟨z15, Ez15⟩ : ∃ z, z = (z11 + z13) % 2 ^ 256 := ⟨_, rfl⟩
  have hz15 : z15 < 2 ^ 256 := by rw [Ez15]; exact (Nat.mod_lt _ (by decide))
  have C14 := Lib.hid (fun w => Add_any z11 z13 w hz11 hz13)
  rw [← Ez15] at C14
  have Q16 := Lib.hid (fun w => eq_word z15 a hz15 ha w)
  rw [decide_eq_true (by subst_vars; exact pHalf1 ha hk.out)] at Q16
  obtain ⟨z18, Ez18⟩ : ∃ z, z = shlN z3 a := ⟨_, rfl⟩
  have hz18 : z18 < 2 ^ 256 := by rw [Ez18]; exact (shlN_lt _ _)
  have C17 := Lib.hid (fun w => Shl_all z3 a w hz3 ha)
  rw [← Ez18] at C17
  obtain ⟨z20, Ez20⟩ : ∃ z, z = a * z7 % 2 ^ 256 := ⟨_, rfl⟩
  have hz20 : z20 < 2 ^ 256 := by rw [Ez20]; exact (Nat.mod_lt _ (by decide))
  have C19 := Lib.hid (fun w => Mul_any a z7 w ha hz7)
  rw [← Ez20] at C19
  have Q21 := Lib.hid (fun w => eq_word z18 z20 hz18 hz20 w)
  rw [decide_eq_true (by subst_vars; exact pHalf2 hk.out)] at Q21
  obtain ⟨z23, Ez23⟩ : ∃ z, z = a / z7 := ⟨_, rfl⟩
  have hz23 : z23 < 2 ^ 256 := by rw [Ez23]; exact (divN_lt _ ha)
  have C22 := Lib.hid (fun w => Div_all a z7 w ha hz7)
  rw [← Ez23] at C22
  have Q24 := Lib.hid (fun w => eq_word z9 z23 hz9 hz23 w)
  rw [decide_eq_true (by subst_vars; exact pHalf3 hk.out)] at Q24
  clear Ez3 Ez5 Ez7 Ez9 Ez11 Ez13 Ez15 Ez18 Ez20 Ez23 hz3 hz5 hz7 hz9 hz11 hz13 hz15 hz18 hz20 hz23
  go_enter Try.func9, Try.ntmps9
  have tk0_0 : True := trivial
  have tk0_1 : True := trivial
  have tk0_2 : True := trivial
  have tk0_3 : True := trivial
  have tk0_4 : True := trivial
  go_wp2_with (first
    | ((with_reducible refine gd_box ?_); have _t := tk0_0; refine wpList_box_agg rfl _ (.tmp 0) rfl rfl ?_; clear tk0_0; intro w1 hx1 hb1 hl1; have hz1 := hx1.lt; have hs1 := hb1.size)
    | (go_at_call 10; have _t := tk0_1; refine (C1.out _).mono ?_; clear tk0_1; rintro e w2 ⟨rfl, hb2⟩; have hs2 := hb2.size)
    | (go_at_call 12; have _t := tk0_2; refine (C2.out _).mono ?_; clear tk0_2; rintro e w3 ⟨rfl, hb3⟩; have hs3 := hb3.size)
    | ((with_reducible refine gd_alloc ?_); have _t := tk0_3; refine wpList_alloc_blk rfl 23 rfl zW ?_; clear tk0_3; intro w4 hx4 hb4 hl4; have hz4 := hx4.lt; have hs4 := hb4.size)
    | ((with_reducible refine gd_store ?_); have _t := tk0_4; refine wpList_store_all rfl 23 (.tmp 6) (.tmp 23) rfl (wcells z3) hx4 (by rw [HSW.out]; exact hW) (by rw [HSW.out]; exact HSW.out 0) (H1W.out _) (by rfl) (by rfl) ?_; clear tk0_4; intro w5 hx5 hg5; have hs5 := hg5.size)
    | fail)
  have hy1_1 := ((((hx1.ext hb2).ext hb3).ext hb4).grown hg5 (by simp; omega))
  have hy1_2 := hx5
  have hB1_1 := hb1
  have hB1_2 := below_step hB1_1 hb2
  have hB1_3 := below_step hB1_2 hb3
  have hB1_4 := below_step hB1_3 hb4
  have hB1_5 := below_blk hB1_4 hB1_4.size hg5 (by omega)
  clear hb1 hl1 hz1 hs1 hb2 hs2 hb3 hs3 hx4 hb4 hl4 hz4 hs4 hg5 hs5 hx1 hx5 hB1_1 hB1_2 hB1_3 hB1_4
  refine wp_region_made (w := w5) (B := w.heap.size) (wB := w) [.val (.agg (wcells z5)), .val (.agg (wcells z3)), .val (.agg (wcells z7)), .new 23 (wcells 0) (wcells z7), .putN 3] (by kernel_rfl) (by kernel_rfl) (by kernel_rfl) rfl (by kernel_rfl) rfl hB1_5.size hB1_5 (by exact List.nodup_nil) (by intro g hg; exact nomatch hg) trivial ?_ ?_
  · refine ⟨?_, ?_, ?_, ?_, ?_, trivial⟩
    · intro G wx fr hway _ hs hdef hsz
      clear hs
      refine ⟨?_⟩
      go_wp2_with fail
      refine (C4.out wx).mono ?_
      rintro e w2 ⟨rfl, hb2⟩
      go_wp2
      exact kp_post hsz hb2
    · intro G wx fr hway _ hs hdef hsz
      have s6 : fr.tmps[6]? = some (.pointer (some ⟨w3.heap.size, 0, none⟩)) := hs.1
      clear hs
      refine ⟨?_⟩
      refine wpList_load_blk rfl 23 (.tmp 6) rfl (way_blk hway hy1_2 (by first | exact hy1_2.lt | omega) (by simp [heldBy, Knd.blockOf])) (by rw [HSW.out]; exact hW) (by simp [Act.eval, s6]) ?_
      refine wpList_nil ?_
      exact kp_val hdef hsz (Below.refl _ _)
    · intro G wx fr hway _ hs hdef hsz
      have s24 : fr.tmps[24]? = some (.agg (wcells z5)) := hs.1
      have s25 : fr.tmps[25]? = some (.agg (wcells z3)) := hs.2.1
      clear hs
      refine ⟨?_⟩
      go_wp2_with fail
      refine (C6.out wx).mono ?_
      rintro e w2 ⟨rfl, hb2⟩
      go_wp2
      exact kp_post hsz hb2
    · intro G wx fr hway _ hs hdef hsz
      clear hs
      refine ⟨?_⟩
      refine wpList_alloc_blk rfl 23 rfl zW ?_
      intro wy hxy hby _
      refine wpList_nil ?_
      exact kp_new hdef hsz hby hxy
    · intro G wx fr hway hpre hs hdef hsz
      have s7 : fr.tmps[7]? = some (.pointer (some ⟨G 3, 0, none⟩)) := hs.1
      have s26 : fr.tmps[26]? = some (.agg (wcells z7)) := hs.2.1
      clear hs
      have hpre' : Blk wx (G 3) 23 (wcells 0) := hpre
      refine ⟨?_⟩
      refine wpList_store_all rfl 23 (.tmp 7) (.tmp 26) rfl (wcells z7) hpre' (by rw [HSW.out]; exact hW) (by rw [HSW.out, HSW.out]) (H1W.out _) (by simp [Act.eval, s7]) (by simp [Act.eval, s26]) ?_
      intro wy hxy hgy
      refine wpList_nil ?_
      exact ⟨rfl, hdef, rfl, hxy, hgy⟩
  · intro G V wr3 hval hway hmade hap
    replace hval : V 0 = .agg (wcells z5) ∧ V 1 = .agg (wcells z3) ∧ V 2 = .agg (wcells z7) ∧ V 3 = .pointer (some ⟨G 3, 0, none⟩) ∧ V 4 = undef ∧ True := hval
    replace hmade : (w5.heap.size ≤ G 3 ∧ G 3 < wr3.heap.size ∧ Blk wr3 (G 3) 23 (wcells z7)) ∧ True := hmade
    obtain ⟨e3_0, e3_1, e3_2, e3_3, e3_4, -⟩ := hval
    obtain ⟨⟨hg3_3, hl3_3, hx_3_3⟩, -⟩ := hmade
    clear hap
    simp only [fill, Act.put, e3_0, e3_1, e3_2, e3_3]
    clear e3_0 e3_1 e3_2 e3_3 e3_4
    simp only [Exit.then]
    go_simp
    generalize G 3 = g3_3 at *
    clear G V
    replace hy1_1 := way_blk hway hy1_1 hy1_1.lt (by simp [heldBy, Knd.blockOf])
    replace hy1_2 := way_blk hway hy1_2 hy1_2.lt (by simp [heldBy, Knd.blockOf])
    replace hB1_5 := hway.2.2
    clear hway
    go_wp2
    refine wp_region_made (w := wr3) (B := w.heap.size) (wB := w) [.val (.agg (wcells z3)), .val (.agg (wcells z3)), .val (.agg (wcells a)), .val (.agg (wcells z9)), .val (.agg (wcells z11)), .new 23 (wcells 0) (wcells z11), .putN 5] (by kernel_rfl) (by kernel_rfl) (by kernel_rfl) rfl (by kernel_rfl) rfl hB1_5.size hB1_5 (by exact List.nodup_nil) (by intro g hg; exact nomatch hg) trivial ?_ ?_
    · refine ⟨?_, ?_, ?_, ?_, ?_, ?_, ?_, trivial⟩
      · intro G wx fr hway _ hs hdef hsz
        have s6 : fr.tmps[6]? = some (.pointer (some ⟨w3.heap.size, 0, none⟩)) := hs.1
        clear hs
        refine ⟨?_⟩
        refine wpList_load_blk rfl 23 (.tmp 6) rfl (way_blk hway hy1_2 (by first | exact hy1_2.lt | omega) (by simp [heldBy, Knd.blockOf])) (by rw [HSW.out]; exact hW) (by simp [Act.eval, s6]) ?_
        refine wpList_nil ?_
        exact kp_val hdef hsz (Below.refl _ _)
      · intro G wx fr hway _ hs hdef hsz
        have s6 : fr.tmps[6]? = some (.pointer (some ⟨w3.heap.size, 0, none⟩)) := hs.1
        clear hs
        refine ⟨?_⟩
        refine wpList_load_blk rfl 23 (.tmp 6) rfl (way_blk hway hy1_2 (by first | exact hy1_2.lt | omega) (by simp [heldBy, Knd.blockOf])) (by rw [HSW.out]; exact hW) (by simp [Act.eval, s6]) ?_
        refine wpList_nil ?_
        exact kp_val hdef hsz (Below.refl _ _)
      · intro G wx fr hway _ hs hdef hsz
        have s2 : fr.tmps[2]? = some (.pointer (some ⟨w.heap.size, 0, none⟩)) := hs.1
        clear hs
        refine ⟨?_⟩
        refine wpList_load_blk rfl 23 (.tmp 2) rfl (way_blk hway hy1_1 (by first | exact hy1_1.lt | omega) (by simp [heldBy, Knd.blockOf])) (by rw [HSW.out]; exact hW) (by simp [Act.eval, s2]) ?_
        refine wpList_nil ?_
        exact kp_val hdef hsz (Below.refl _ _)
      · intro G wx fr hway _ hs hdef hsz
        have s28 : fr.tmps[28]? = some (.agg (wcells z3)) := hs.1
        have s29 : fr.tmps[29]? = some (.agg (wcells a)) := hs.2.1
        clear hs
        refine ⟨?_⟩
        go_wp2_with fail
        refine (C8.out wx).mono ?_
        rintro e w2 ⟨rfl, hb2⟩
        go_wp2
        exact kp_post hsz hb2
      · intro G wx fr hway _ hs hdef hsz
        have s27 : fr.tmps[27]? = some (.agg (wcells z3)) := hs.1
        have s30 : fr.tmps[30]? = some (.agg (wcells z9)) := hs.2.1
        clear hs
        refine ⟨?_⟩
        go_wp2_with fail
        refine (C10.out wx).mono ?_
        rintro e w2 ⟨rfl, hb2⟩
        go_wp2
        exact kp_post hsz hb2
      · intro G wx fr hway _ hs hdef hsz
        clear hs
        refine ⟨?_⟩
        refine wpList_alloc_blk rfl 23 rfl zW ?_
        intro wy hxy hby _
        refine wpList_nil ?_
        exact kp_new hdef hsz hby hxy
      · intro G wx fr hway hpre hs hdef hsz
        have s8 : fr.tmps[8]? = some (.pointer (some ⟨G 5, 0, none⟩)) := hs.1
        have s31 : fr.tmps[31]? = some (.agg (wcells z11)) := hs.2.1
        clear hs
        have hpre' : Blk wx (G 5) 23 (wcells 0) := hpre
        refine ⟨?_⟩
        refine wpList_store_all rfl 23 (.tmp 8) (.tmp 31) rfl (wcells z11) hpre' (by rw [HSW.out]; exact hW) (by rw [HSW.out, HSW.out]) (H1W.out _) (by simp [Act.eval, s8]) (by simp [Act.eval, s31]) ?_
        intro wy hxy hgy
        refine wpList_nil ?_
        exact ⟨rfl, hdef, rfl, hxy, hgy⟩
    · intro G V wr4 hval hway hmade hap
      replace hval : V 0 = .agg (wcells z3) ∧ V 1 = .agg (wcells z3) ∧ V 2 = .agg (wcells a) ∧ V 3 = .agg (wcells z9) ∧ V 4 = .agg (wcells z11) ∧ V 5 = .pointer (some ⟨G 5, 0, none⟩) ∧ V 6 = undef ∧ True := hval
      replace hmade : (wr3.heap.size ≤ G 5 ∧ G 5 < wr4.heap.size ∧ Blk wr4 (G 5) 23 (wcells z11)) ∧ True := hmade
      obtain ⟨e4_0, e4_1, e4_2, e4_3, e4_4, e4_5, e4_6, -⟩ := hval
      obtain ⟨⟨hg4_5, hl4_5, hx_4_5⟩, -⟩ := hmade
      clear hap
      simp only [fill, Act.put, e4_0, e4_1, e4_2, e4_3, e4_4, e4_5]
      clear e4_0 e4_1 e4_2 e4_3 e4_4 e4_5 e4_6
      simp only [Exit.then]
      go_simp
      generalize G 5 = g4_5 at *
      clear G V
      replace hy1_1 := way_blk hway hy1_1 hy1_1.lt (by simp [heldBy, Knd.blockOf])
      replace hy1_2 := way_blk hway hy1_2 hy1_2.lt (by simp [heldBy, Knd.blockOf])
      replace hx_3_3 := way_blk hway hx_3_3 hx_3_3.lt (by simp [heldBy, Knd.blockOf])
      replace hB1_5 := hway.2.2
      clear hway
      go_simp
      have tk4_0 : True := trivial
      have tk4_1 : True := trivial
      have tk4_2 : True := trivial
      have tk4_3 : True := trivial
      have tk4_4 : True := trivial
      have hlt_4_1 := hy1_1.lt
      have hlt_4_2 := hy1_2.lt
      have hlt_4_3 := hx_3_3.lt
      have hlt_4_4 := hx_4_5.lt
      have hBs_4 := hB1_5.size
      go_wp2_with (first
        | ((with_reducible refine gd_load ?_); have _t := tk4_0; refine wpList_load_blk rfl 23 (.tmp 2) rfl hy1_1 (by rw [HSW.out]; exact hW) rfl ?_; clear tk4_0)
        | ((with_reducible refine gd_load ?_); have _t := tk4_1; refine wpList_load_blk rfl 23 (.tmp 7) rfl hx_3_3 (by rw [HSW.out]; exact hW) rfl ?_; clear tk4_1)
        | (go_at_call 41; have _t := tk4_2; refine (C12.out _).mono ?_; clear tk4_2; rintro e w6 ⟨rfl, hb6⟩; have hs6 := hb6.size)
        | ((with_reducible refine gd_alloc ?_); have _t := tk4_3; refine wpList_alloc_blk rfl 23 rfl zW ?_; clear tk4_3; intro w7 hx7 hb7 hl7; have hz7 := hx7.lt; have hs7 := hb7.size)
        | ((with_reducible refine gd_store ?_); have _t := tk4_4; refine wpList_store_all rfl 23 (.tmp 9) (.tmp 34) rfl (wcells z13) hx7 (by rw [HSW.out]; exact hW) (by rw [HSW.out]; exact HSW.out 0) (H1W.out _) (by rfl) (by rfl) ?_; clear tk4_4; intro w8 hx8 hg8; have hs8 := hg8.size)
        | fail)
      have hy5_1 := (((hy1_1.ext hb6).ext hb7).grown hg8 (by simp; omega))
      have hy5_2 := (((hy1_2.ext hb6).ext hb7).grown hg8 (by simp; omega))
      have hy5_3 := (((hx_3_3.ext hb6).ext hb7).grown hg8 (by simp; omega))
      have hy5_4 := (((hx_4_5.ext hb6).ext hb7).grown hg8 (by simp; omega))
      have hy5_5 := hx8
      have hB5_1 := below_step hB1_5 hb6
      have hB5_2 := below_step hB5_1 hb7
      have hB5_3 := below_blk hB5_2 hB5_2.size hg8 (by omega)
      clear hlt_4_1 hlt_4_2 hlt_4_3 hlt_4_4 hBs_4 hb6 hs6 hx7 hb7 hl7 hz7 hs7 hg8 hs8 hx8 hx_3_3 hx_4_5 hy1_1 hy1_2 hB5_1 hB5_2 hB1_5
      refine wp_region_made (w := w8) (B := w.heap.size) (wB := w) [.val (.agg (wcells z11)), .val (.agg (wcells z13)), .val (.agg (wcells z15)), .val (.agg (wcells a)), .val (.bool true), .val (.bool true), .val (.agg (wcells z3)), .val (.agg (wcells a)), .val (.agg (wcells z18)), .val (.agg (wcells a)), .val (.agg (wcells z7)), .val (.agg (wcells z20)), .val (.bool true), .val (.bool true), .val (.bool true), .val (.agg (wcells z3)), .val (.agg (wcells a)), .val (.agg (wcells z9)), .val (.agg (wcells a)), .val (.agg (wcells z7)), .val (.agg (wcells z23)), .val (.bool true), .val (.bool true), .val (.bool true)] (by kernel_rfl) (by kernel_rfl) (by kernel_rfl) rfl (by kernel_rfl) rfl hB5_3.size hB5_3 (by exact List.nodup_nil) (by intro g hg; exact nomatch hg) trivial ?_ ?_
      · refine ⟨?_, ?_, ?_, ?_, ?_, ?_, ?_, ?_, ?_, ?_, ?_, ?_, ?_, ?_, ?_, ?_, ?_, ?_, ?_, ?_, ?_, ?_, ?_, ?_, trivial⟩
        · intro G wx fr hway _ hs hdef hsz
          have s8 : fr.tmps[8]? = some (.pointer (some ⟨g4_5, 0, none⟩)) := hs.1
          clear hs
          refine ⟨?_⟩
          refine wpList_load_blk rfl 23 (.tmp 8) rfl (way_blk hway hy5_4 (by first | exact hy5_4.lt | omega) (by simp [heldBy, Knd.blockOf])) (by rw [HSW.out]; exact hW) (by simp [Act.eval, s8]) ?_
          refine wpList_nil ?_
          exact kp_val hdef hsz (Below.refl _ _)
        · intro G wx fr hway _ hs hdef hsz
          have s9 : fr.tmps[9]? = some (.pointer (some ⟨w6.heap.size, 0, none⟩)) := hs.1
          clear hs
          refine ⟨?_⟩
          refine wpList_load_blk rfl 23 (.tmp 9) rfl (way_blk hway hy5_5 (by first | exact hy5_5.lt | omega) (by simp [heldBy, Knd.blockOf])) (by rw [HSW.out]; exact hW) (by simp [Act.eval, s9]) ?_
          refine wpList_nil ?_
          exact kp_val hdef hsz (Below.refl _ _)
        · intro G wx fr hway _ hs hdef hsz
          have s35 : fr.tmps[35]? = some (.agg (wcells z11)) := hs.1
          have s36 : fr.tmps[36]? = some (.agg (wcells z13)) := hs.2.1
          clear hs
          refine ⟨?_⟩
          go_wp2_with fail
          refine (C14.out wx).mono ?_
          rintro e w2 ⟨rfl, hb2⟩
          go_wp2
          exact kp_post hsz hb2
        · intro G wx fr hway _ hs hdef hsz
          have s2 : fr.tmps[2]? = some (.pointer (some ⟨w.heap.size, 0, none⟩)) := hs.1
          clear hs
          refine ⟨?_⟩
          refine wpList_load_blk rfl 23 (.tmp 2) rfl (way_blk hway hy5_1 (by first | exact hy5_1.lt | omega) (by simp [heldBy, Knd.blockOf])) (by rw [HSW.out]; exact hW) (by simp [Act.eval, s2]) ?_
          refine wpList_nil ?_
          exact kp_val hdef hsz (Below.refl _ _)
        · intro G wx fr hway _ hs hdef hsz
          have s37 : fr.tmps[37]? = some (.agg (wcells z15)) := hs.1
          have s38 : fr.tmps[38]? = some (.agg (wcells a)) := hs.2.1
          clear hs
          have hq := Q16.out
          refine ⟨?_⟩
          go_wp2
          exact kp_post hsz (Below.refl _ _)
        · intro G wx fr hway _ hs hdef hsz
          have s39 : fr.tmps[39]? = some (.bool true) := hs.1
          clear hs
          refine ⟨?_⟩
          go_wp2
          exact kp_post hsz (Below.refl _ _)
        · intro G wx fr hway _ hs hdef hsz
          have s6 : fr.tmps[6]? = some (.pointer (some ⟨w3.heap.size, 0, none⟩)) := hs.1
          have s40 : fr.tmps[40]? = some (.bool true) := hs.2.1
          clear hs
          refine ⟨?_⟩
          refine wpList_load_want (by simp [Region.wanted, yielded, *]) 23 (.tmp 6) rfl (way_blk hway hy5_2 (by first | exact hy5_2.lt | omega) (by simp [heldBy, Knd.blockOf])) (by rw [HSW.out]; exact hW) (by simp [Act.eval, s6]) ?_
          refine wpList_nil ?_
          exact kp_val hdef hsz (Below.refl _ _)
        · intro G wx fr hway _ hs hdef hsz
          have s2 : fr.tmps[2]? = some (.pointer (some ⟨w.heap.size, 0, none⟩)) := hs.1
          have s40 : fr.tmps[40]? = some (.bool true) := hs.2.1
          clear hs
          refine ⟨?_⟩
          refine wpList_load_want (by simp [Region.wanted, yielded, *]) 23 (.tmp 2) rfl (way_blk hway hy5_1 (by first | exact hy5_1.lt | omega) (by simp [heldBy, Knd.blockOf])) (by rw [HSW.out]; exact hW) (by simp [Act.eval, s2]) ?_
          refine wpList_nil ?_
          exact kp_val hdef hsz (Below.refl _ _)
        · intro G wx fr hway _ hs hdef hsz
          have s41 : fr.tmps[41]? = some (.agg (wcells z3)) := hs.1
          have s42 : fr.tmps[42]? = some (.agg (wcells a)) := hs.2.1
          have s40 : fr.tmps[40]? = some (.bool true) := hs.2.2.1
          clear hs
          refine ⟨?_⟩
          go_wp2_with fail
          refine (C17.out wx).mono ?_
          rintro e w2 ⟨rfl, hb2⟩
          go_wp2
          exact kp_post hsz hb2
        · intro G wx fr hway _ hs hdef hsz
          have s2 : fr.tmps[2]? = some (.pointer (some ⟨w.heap.size, 0, none⟩)) := hs.1
          have s40 : fr.tmps[40]? = some (.bool true) := hs.2.1
          clear hs
          refine ⟨?_⟩
          refine wpList_load_want (by simp [Region.wanted, yielded, *]) 23 (.tmp 2) rfl (way_blk hway hy5_1 (by first | exact hy5_1.lt | omega) (by simp [heldBy, Knd.blockOf])) (by rw [HSW.out]; exact hW) (by simp [Act.eval, s2]) ?_
          refine wpList_nil ?_
          exact kp_val hdef hsz (Below.refl _ _)
        · intro G wx fr hway _ hs hdef hsz
          have s7 : fr.tmps[7]? = some (.pointer (some ⟨g3_3, 0, none⟩)) := hs.1
          have s40 : fr.tmps[40]? = some (.bool true) := hs.2.1
          clear hs
          refine ⟨?_⟩
          refine wpList_load_want (by simp [Region.wanted, yielded, *]) 23 (.tmp 7) rfl (way_blk hway hy5_3 (by first | exact hy5_3.lt | omega) (by simp [heldBy, Knd.blockOf])) (by rw [HSW.out]; exact hW) (by simp [Act.eval, s7]) ?_
          refine wpList_nil ?_
          exact kp_val hdef hsz (Below.refl _ _)
        · intro G wx fr hway _ hs hdef hsz
          have s44 : fr.tmps[44]? = some (.agg (wcells a)) := hs.1
          have s45 : fr.tmps[45]? = some (.agg (wcells z7)) := hs.2.1
          have s40 : fr.tmps[40]? = some (.bool true) := hs.2.2.1
          clear hs
          refine ⟨?_⟩
          go_wp2_with fail
          refine (C19.out wx).mono ?_
          rintro e w2 ⟨rfl, hb2⟩
          go_wp2
          exact kp_post hsz hb2
        · intro G wx fr hway _ hs hdef hsz
          have s43 : fr.tmps[43]? = some (.agg (wcells z18)) := hs.1
          have s46 : fr.tmps[46]? = some (.agg (wcells z20)) := hs.2.1
          have s40 : fr.tmps[40]? = some (.bool true) := hs.2.2.1
          clear hs
          have hq := Q21.out
          refine ⟨?_⟩
          go_wp2
          exact kp_post hsz (Below.refl _ _)
        · intro G wx fr hway _ hs hdef hsz
          have s40 : fr.tmps[40]? = some (.bool true) := hs.1
          have s47 : fr.tmps[47]? = some (.bool true) := hs.2.1
          clear hs
          refine ⟨?_⟩
          go_wp2
          exact kp_post hsz (Below.refl _ _)
        · intro G wx fr hway _ hs hdef hsz
          have s48 : fr.tmps[48]? = some (.bool true) := hs.1
          clear hs
          refine ⟨?_⟩
          go_wp2
          exact kp_post hsz (Below.refl _ _)
        · intro G wx fr hway _ hs hdef hsz
          have s6 : fr.tmps[6]? = some (.pointer (some ⟨w3.heap.size, 0, none⟩)) := hs.1
          have s49 : fr.tmps[49]? = some (.bool true) := hs.2.1
          clear hs
          refine ⟨?_⟩
          refine wpList_load_want (by simp [Region.wanted, yielded, *]) 23 (.tmp 6) rfl (way_blk hway hy5_2 (by first | exact hy5_2.lt | omega) (by simp [heldBy, Knd.blockOf])) (by rw [HSW.out]; exact hW) (by simp [Act.eval, s6]) ?_
          refine wpList_nil ?_
          exact kp_val hdef hsz (Below.refl _ _)
        · intro G wx fr hway _ hs hdef hsz
          have s2 : fr.tmps[2]? = some (.pointer (some ⟨w.heap.size, 0, none⟩)) := hs.1
          have s49 : fr.tmps[49]? = some (.bool true) := hs.2.1
          clear hs
          refine ⟨?_⟩
          refine wpList_load_want (by simp [Region.wanted, yielded, *]) 23 (.tmp 2) rfl (way_blk hway hy5_1 (by first | exact hy5_1.lt | omega) (by simp [heldBy, Knd.blockOf])) (by rw [HSW.out]; exact hW) (by simp [Act.eval, s2]) ?_
          refine wpList_nil ?_
          exact kp_val hdef hsz (Below.refl _ _)
        · intro G wx fr hway _ hs hdef hsz
          have s50 : fr.tmps[50]? = some (.agg (wcells z3)) := hs.1
          have s51 : fr.tmps[51]? = some (.agg (wcells a)) := hs.2.1
          have s49 : fr.tmps[49]? = some (.bool true) := hs.2.2.1
          clear hs
          refine ⟨?_⟩
          go_wp2_with fail
          refine (C8.out wx).mono ?_
          rintro e w2 ⟨rfl, hb2⟩
          go_wp2
          exact kp_post hsz hb2
        · intro G wx fr hway _ hs hdef hsz
          have s2 : fr.tmps[2]? = some (.pointer (some ⟨w.heap.size, 0, none⟩)) := hs.1
          have s49 : fr.tmps[49]? = some (.bool true) := hs.2.1
          clear hs
          refine ⟨?_⟩
          refine wpList_load_want (by simp [Region.wanted, yielded, *]) 23 (.tmp 2) rfl (way_blk hway hy5_1 (by first | exact hy5_1.lt | omega) (by simp [heldBy, Knd.blockOf])) (by rw [HSW.out]; exact hW) (by simp [Act.eval, s2]) ?_
          refine wpList_nil ?_
          exact kp_val hdef hsz (Below.refl _ _)
        · intro G wx fr hway _ hs hdef hsz
          have s7 : fr.tmps[7]? = some (.pointer (some ⟨g3_3, 0, none⟩)) := hs.1
          have s49 : fr.tmps[49]? = some (.bool true) := hs.2.1
          clear hs
          refine ⟨?_⟩
          refine wpList_load_want (by simp [Region.wanted, yielded, *]) 23 (.tmp 7) rfl (way_blk hway hy5_3 (by first | exact hy5_3.lt | omega) (by simp [heldBy, Knd.blockOf])) (by rw [HSW.out]; exact hW) (by simp [Act.eval, s7]) ?_
          refine wpList_nil ?_
          exact kp_val hdef hsz (Below.refl _ _)
        · intro G wx fr hway _ hs hdef hsz
          have s53 : fr.tmps[53]? = some (.agg (wcells a)) := hs.1
          have s54 : fr.tmps[54]? = some (.agg (wcells z7)) := hs.2.1
          have s49 : fr.tmps[49]? = some (.bool true) := hs.2.2.1
          clear hs
          refine ⟨?_⟩
          go_wp2_with fail
          refine (C22.out wx).mono ?_
          rintro e w2 ⟨rfl, hb2⟩
          go_wp2
          exact kp_post hsz hb2
        · intro G wx fr hway _ hs hdef hsz
          have s52 : fr.tmps[52]? = some (.agg (wcells z9)) := hs.1
          have s55 : fr.tmps[55]? = some (.agg (wcells z23)) := hs.2.1
          have s49 : fr.tmps[49]? = some (.bool true) := hs.2.2.1
          clear hs
          have hq := Q24.out
          refine ⟨?_⟩
          go_wp2
          exact kp_post hsz (Below.refl _ _)
        · intro G wx fr hway _ hs hdef hsz
          have s49 : fr.tmps[49]? = some (.bool true) := hs.1
          have s56 : fr.tmps[56]? = some (.bool true) := hs.2.1
          clear hs
          refine ⟨?_⟩
          go_wp2
          exact kp_post hsz (Below.refl _ _)
        · intro G wx fr hway _ hs hdef hsz
          have s57 : fr.tmps[57]? = some (.bool true) := hs.1
          clear hs
          refine ⟨?_⟩
          go_wp2
          exact kp_post hsz (Below.refl _ _)
      · intro G V wr7 hval hway hmade hap
        replace hval : V 0 = .agg (wcells z11) ∧ V 1 = .agg (wcells z13) ∧ V 2 = .agg (wcells z15) ∧ V 3 = .agg (wcells a) ∧ V 4 = .bool true ∧ V 5 = .bool true ∧ V 6 = .agg (wcells z3) ∧ V 7 = .agg (wcells a) ∧ V 8 = .agg (wcells z18) ∧ V 9 = .agg (wcells a) ∧ V 10 = .agg (wcells z7) ∧ V 11 = .agg (wcells z20) ∧ V 12 = .bool true ∧ V 13 = .bool true ∧ V 14 = .bool true ∧ V 15 = .agg (wcells z3) ∧ V 16 = .agg (wcells a) ∧ V 17 = .agg (wcells z9) ∧ V 18 = .agg (wcells a) ∧ V 19 = .agg (wcells z7) ∧ V 20 = .agg (wcells z23) ∧ V 21 = .bool true ∧ V 22 = .bool true ∧ V 23 = .bool true ∧ True := hval
        replace hmade : True := hmade
        obtain ⟨e7_0, e7_1, e7_2, e7_3, e7_4, e7_5, e7_6, e7_7, e7_8, e7_9, e7_10, e7_11, e7_12, e7_13, e7_14, e7_15, e7_16, e7_17, e7_18, e7_19, e7_20, e7_21, e7_22, e7_23, -⟩ := hval
        obtain ⟨-⟩ := hmade
        clear hap
        simp only [fill, Act.put, e7_0, e7_1, e7_2, e7_3, e7_4, e7_5, e7_6, e7_7, e7_8, e7_9, e7_10, e7_11, e7_12, e7_13, e7_14, e7_15, e7_16, e7_17, e7_18, e7_19, e7_20, e7_21, e7_22, e7_23]
        clear e7_0 e7_1 e7_2 e7_3 e7_4 e7_5 e7_6 e7_7 e7_8 e7_9 e7_10 e7_11 e7_12 e7_13 e7_14 e7_15 e7_16 e7_17 e7_18 e7_19 e7_20 e7_21 e7_22 e7_23
        simp only [Exit.then]
        go_simp
        clear G V
        replace hy5_1 := way_blk hway hy5_1 hy5_1.lt (by simp [heldBy, Knd.blockOf])
        replace hy5_2 := way_blk hway hy5_2 hy5_2.lt (by simp [heldBy, Knd.blockOf])
        replace hy5_3 := way_blk hway hy5_3 hy5_3.lt (by simp [heldBy, Knd.blockOf])
        replace hy5_4 := way_blk hway hy5_4 hy5_4.lt (by simp [heldBy, Knd.blockOf])
        replace hy5_5 := way_blk hway hy5_5 hy5_5.lt (by simp [heldBy, Knd.blockOf])
        replace hB5_3 := hway.2.2
        clear hway
        go_wp2
        go_ret
        exact ⟨rfl, hB5_3⟩
open Go.ChangeShapes Go.WideShapes Go.ChangeAt

set_option maxRecDepth 100000 in
theorem lifted (os : Os) (started : os.Started) (H : Type) (enc : TypeId × Value → H) :
    ReturnsInHanded {} Try.checked os 9 .any (Rows.wordHalvesSpec.pre6 enc Try.prog Try.f9 Rows.wordHalvesRow.domain false) (Rows.wordHalvesSpec.post enc Try.prog Try.f9 false true false false) := by
  refine law_lift (C := Try.checked) (ts := [23, 3]) (tb := 4) (by kernel_rfl) started (by kernel_rfl) Try.func9
    (ChangeSpec.witness6 (enc := enc) (C := Try.checked) false ⟨#[], #[.agg (Array.replicate 32 (.int .u8 0)), .int .i64 0], []⟩ 8 (by kernel_rfl) (by kernel_rfl) (by kernel_rfl) (by kernel_rfl))
    (by kernel_rfl) (by kernel_rfl) (by kernel_rfl) (by kernel_rfl) Try.underlying4 rfl (fun ds h => by match ds, h with | [_, _], _ => rfl) ?_
  intro W vs hl h
  match vs, hl with
  | [v0, v1], _ =>
    have ha := h 0 _ v0 rfl rfl
    obtain ⟨k, rfl, hk⟩ := arg_int Try.underlying3 (h 1 _ v1 rfl rfl)
    obtain ⟨a, ha', rfl⟩ := arg_word ha
    by_cases c0 : k < 0
    · exact walk_no a k W (.inl c0)
    by_cases c1 : 255 < k
    · exact walk_no a k W (.inr ⟨by omega, c1⟩)
    obtain ⟨n, rfl⟩ := Int.eq_ofNat_of_zero_le (show 0 ≤ k by omega)
    exact walk a n W ha' ⟨by omega⟩ (by omega)

theorem over : Rows.wordHalvesRow.holds Try.pinned (OpenSpec.ofChange Rows.wordHalvesSpec) :=
  OpenClaim.holds_of_wide 9 Try.f9 rfl rfl rfl rfl rfl rfl rfl ⟨rfl, rfl, rfl, rfl, rfl⟩ rfl rfl rfl rfl rfl (by kernel_rfl) Try.func9 (by kernel_rfl)
    (of_decide_eq_true (by kernel_rfl)) (by unfold Func.isWrapper; first | (rw [if_pos (by decide +kernel)]; kernel_rfl) | (rw [if_neg (by decide +kernel)]; exact ⟨rfl, rfl⟩))
    (fun os started H enc _ => lifted os started H enc)
end Go.Proofs.Ytcmhbolonhhhoaa.WordHalves
namespace Go.Proofs.Ytcmhbolonhhhoaa
theorem wordHalves_holds : Rows.WordHalvesSaid := WordHalves.over
#print axioms wordHalves_holds
end Go.Proofs.Ytcmhbolonhhhoaa
