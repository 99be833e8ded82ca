/- 'WordBack' answers true at every input, and leaves what it was given. No condition. -/
import Derived.Test.YtcmhbolonhhhoaaWordAlive
import Derived.Test.YtcmhbolonhhhoaaWordArg
import Derived.Test.YtcmhbolonhhhoaaWordBackP
import Derived.Test.YtcmhbolonhhhoaaLaw
import Derived.Test.YtcmhbolonhhhoaaRows
namespace Go.Proofs.Ytcmhbolonhhhoaa.WordBack
open Go Go.RowKit Go.Mun Go.Proofs

set_option maxRecDepth 100000 in
set_option maxHeartbeats 8000000 in
theorem walk_zero (a b : Nat) (w : World) (ha : a < 2 ^ 256) (hb : b < 2 ^ 256) (hb0 : b = 0) : Calls Try.prog 8 #[.agg (wcells a), .agg (wcells b)] w fun e w' => e = .returned (.bool true) ∧ Below w.heap.size w w' := by
  have hW := wordTy
  have zW := zWordL
  have HSW := Lib.hid wcells_size
  have H1W := Lib.hid wcells_one
  have HZW := Lib.hid wcells_lit0
  have C1 := Lib.hid (fun w => alive1 w)
  have Q2 := Lib.hid (fun w => eq_word b 0 hb (by decide) w)
  rw [decide_eq_true hb0] at Q2
  obtain ⟨z4, Ez4⟩ : ∃ z, z = a / b := ⟨_, rfl⟩
  have hz4 : z4 < 2 ^ 256 := by rw [Ez4]; exact (divN_lt _ ha)
  have C3 := Lib.hid (fun w => Div_all a b w ha hb)
  rw [← Ez4] at C3
  have Q5 := Lib.hid (fun w => eq_word z4 0 hz4 (by decide) w)
  rw [decide_eq_true (by subst_vars; exact (Nat.div_zero a))] at Q5
  obtain ⟨z7, Ez7⟩ : ∃ z, z = modN a b := ⟨_, rfl⟩
  have hz7 : z7 < 2 ^ 256 := by rw [Ez7]; exact (modN_lt _ ha)
  have C6 := Lib.hid (fun w => Mod_all a b w ha hb)
  rw [← Ez7] at C6
  have Q8 := Lib.hid (fun w => eq_word z7 0 hz7 (by decide) w)
  rw [decide_eq_true (by subst_vars; exact (pModZ a))] at Q8
  obtain ⟨z10, Ez10⟩ : ∃ z, z = sdivN a b := ⟨_, rfl⟩
  have hz10 : z10 < 2 ^ 256 := by rw [Ez10]; exact (sdivN_lt _ _)
  have C9 := Lib.hid (fun w => SDiv_all a b w ha hb)
  rw [← Ez10] at C9
  have Q11 := Lib.hid (fun w => eq_word z10 0 hz10 (by decide) w)
  rw [decide_eq_true (by subst_vars; exact (pSDivZ a))] at Q11
  obtain ⟨z13, Ez13⟩ : ∃ z, z = smodN a b := ⟨_, rfl⟩
  have hz13 : z13 < 2 ^ 256 := by rw [Ez13]; exact (smodN_lt _ ha)
  have C12 := Lib.hid (fun w => SMod_all a b w ha hb)
  rw [← Ez13] at C12
  have Q14 := Lib.hid (fun w => eq_word z13 0 hz13 (by decide) w)
  rw [decide_eq_true (by subst_vars; exact (pSModZ a))] at Q14
  clear Ez4 Ez7 Ez10 Ez13 hz4 hz7 hz10 hz13 hb0
  go_enter Try.func8, Try.ntmps8
  have tk0_0 : True := trivial
  have tk0_1 : True := trivial
  have tk0_2 : True := trivial
  have tk0_3 : True := trivial
  have tk0_4 : True := trivial
  have tk0_5 : True := trivial
  have hqQ2 := Q2.out
  rw [← HZW.out] at hqQ2
  go_wp2_with (first
    | ((with_reducible refine gd_box ?_); have _t := tk0_0; refine wpList_box_agg rfl _ (.tmp 0) rfl rfl ?_; clear tk0_0; intro w1 hx1 hb1 hl1; have hz1 := hx1.lt; have hs1 := hb1.size)
    | ((with_reducible refine gd_box ?_); have _t := tk0_1; refine wpList_box_agg rfl _ (.tmp 1) rfl rfl ?_; clear tk0_1; intro w2 hx2 hb2 hl2; have hz2 := hx2.lt; have hs2 := hb2.size)
    | (go_at_call 10; have _t := tk0_2; refine (C1.out _).mono ?_; clear tk0_2; rintro e w3 ⟨rfl, hb3⟩; have hs3 := hb3.size)
    | ((with_reducible refine gd_load ?_); have _t := tk0_3; refine wpList_load_blk rfl 23 (.tmp 3) rfl (hx2.ext hb3) (by rw [HSW.out]; exact hW) rfl ?_; clear tk0_3)
    | ((with_reducible refine gd_alloc ?_); have _t := tk0_4; refine wpList_alloc_blk rfl 23 rfl zW ?_; clear tk0_4; intro w4 hx4 hb4 hl4; have hz4 := hx4.lt; have hs4 := hb4.size)
    | ((with_reducible refine gd_store ?_); have _t := tk0_5; refine wpList_store_all rfl 23 (.tmp 6) (.tmp 15) rfl (wcells 0) hx4 (by rw [HSW.out]; exact hW) (by rw [HSW.out]; exact HSW.out 0) (H1W.out _) (by rfl) (congrArg Value.agg HZW.out) ?_; clear tk0_5; intro w5 hx5 hg5; have hs5 := hg5.size)
    | fail)
  clear hqQ2
  have hy1_1 := ((((hx1.ext hb2).ext hb3).ext hb4).grown hg5 (by simp; omega))
  have hy1_2 := (((hx2.ext hb3).ext hb4).grown hg5 (by simp; omega))
  have hy1_3 := hx5
  have hB1_1 := hb1
  have hB1_2 := below_step hB1_1 hb2
  have hB1_3 := below_step hB1_2 hb3
  have hB1_4 := below_step hB1_3 hb4
  have hB1_5 := below_blk hB1_4 hB1_4.size hg5 (by omega)
  clear hb1 hl1 hz1 hs1 hb2 hl2 hz2 hs2 hb3 hs3 hx4 hb4 hl4 hz4 hs4 hg5 hs5 hx1 hx2 hx5 hB1_1 hB1_2 hB1_3 hB1_4
  refine wp_region_made (w := w5) (B := w.heap.size) (wB := w) [.val (.bool true), .val (.bool true), .val (.agg (wcells a)), .val (.agg (wcells b)), .val (.agg (wcells z4)), .val (.agg (wcells 0)), .val (.bool true), .val (.bool true), .val (.bool true), .val (.agg (wcells a)), .val (.agg (wcells b)), .val (.agg (wcells z7)), .val (.agg (wcells 0)), .val (.bool true), .val (.bool true), .val (.bool true), .val (.agg (wcells a)), .val (.agg (wcells b)), .val (.agg (wcells z10)), .val (.agg (wcells 0)), .val (.bool true), .val (.bool true), .val (.bool true), .val (.agg (wcells a)), .val (.agg (wcells b)), .val (.agg (wcells z13)), .val (.agg (wcells 0)), .val (.bool true), .val (.bool true), .val (.bool true)] (by kernel_rfl) (by kernel_rfl) (by kernel_rfl) rfl (by kernel_rfl) rfl hB1_5.size hB1_5 List.nodup_nil (fun g hg => nomatch hg) trivial ?_ ?_
  · refine ⟨?_, ?_, ?_, ?_, ?_, ?_, ?_, ?_, ?_, ?_, ?_, ?_, ?_, ?_, ?_, ?_, ?_, ?_, ?_, ?_, ?_, ?_, ?_, ?_, ?_, ?_, ?_, ?_, ?_, ?_, trivial⟩
    · intro G wx fr hway _ hs hdef hsz
      have s5 : fr.tmps[5]? = some (.bool true) := hs.1
      clear hs
      refine ⟨?_⟩
      go_wp2
      exact kp_post hsz (Below.refl _ _)
    · intro G wx fr hway _ hs hdef hsz
      have s16 : fr.tmps[16]? = some (.bool true) := hs.1
      clear hs
      refine ⟨?_⟩
      go_wp2
      exact kp_post hsz (Below.refl _ _)
    · intro G wx fr hway _ hs hdef hsz
      have s2 : fr.tmps[2]? = some (.pointer (some ⟨w.heap.size, 0, none⟩)) := hs.1
      have s17 : fr.tmps[17]? = some (.bool true) := hs.2.1
      clear hs
      refine ⟨?_⟩
      refine wpList_load_want (by simp [Region.wanted, yielded, *]) 23 (.tmp 2) rfl (way_blk hway hy1_1 (by first | exact hy1_1.lt | omega) (by simp [heldBy, Knd.blockOf])) (by rw [HSW.out]; exact hW) (by simp [Act.eval, s2]) ?_
      refine wpList_nil ?_
      exact kp_val hdef hsz (Below.refl _ _)
    · intro G wx fr hway _ hs hdef hsz
      have s3 : fr.tmps[3]? = some (.pointer (some ⟨w1.heap.size, 0, none⟩)) := hs.1
      have s17 : fr.tmps[17]? = some (.bool true) := hs.2.1
      clear hs
      refine ⟨?_⟩
      refine wpList_load_want (by simp [Region.wanted, yielded, *]) 23 (.tmp 3) rfl (way_blk hway hy1_2 (by first | exact hy1_2.lt | omega) (by simp [heldBy, Knd.blockOf])) (by rw [HSW.out]; exact hW) (by simp [Act.eval, s3]) ?_
      refine wpList_nil ?_
      exact kp_val hdef hsz (Below.refl _ _)
    · intro G wx fr hway _ hs hdef hsz
      have s18 : fr.tmps[18]? = some (.agg (wcells a)) := hs.1
      have s19 : fr.tmps[19]? = some (.agg (wcells b)) := hs.2.1
      have s17 : fr.tmps[17]? = some (.bool true) := hs.2.2.1
      clear hs
      refine ⟨?_⟩
      go_wp2_with fail
      refine (C3.out wx).mono ?_
      rintro e w2 ⟨rfl, hb2⟩
      go_wp2
      exact kp_post hsz hb2
    · intro G wx fr hway _ hs hdef hsz
      have s6 : fr.tmps[6]? = some (.pointer (some ⟨w3.heap.size, 0, none⟩)) := hs.1
      have s17 : fr.tmps[17]? = some (.bool true) := hs.2.1
      clear hs
      refine ⟨?_⟩
      refine wpList_load_want (by simp [Region.wanted, yielded, *]) 23 (.tmp 6) rfl (way_blk hway hy1_3 (by first | exact hy1_3.lt | omega) (by simp [heldBy, Knd.blockOf])) (by rw [HSW.out]; exact hW) (by simp [Act.eval, s6]) ?_
      refine wpList_nil ?_
      exact kp_val hdef hsz (Below.refl _ _)
    · intro G wx fr hway _ hs hdef hsz
      have s20 : fr.tmps[20]? = some (.agg (wcells z4)) := hs.1
      have s21 : fr.tmps[21]? = some (.agg (wcells 0)) := hs.2.1
      have s17 : fr.tmps[17]? = some (.bool true) := hs.2.2.1
      clear hs
      have hq := Q5.out
      refine ⟨?_⟩
      go_wp2
      exact kp_post hsz (Below.refl _ _)
    · intro G wx fr hway _ hs hdef hsz
      have s17 : fr.tmps[17]? = some (.bool true) := hs.1
      have s22 : fr.tmps[22]? = some (.bool true) := hs.2.1
      clear hs
      refine ⟨?_⟩
      go_wp2
      exact kp_post hsz (Below.refl _ _)
    · intro G wx fr hway _ hs hdef hsz
      have s23 : fr.tmps[23]? = some (.bool true) := hs.1
      clear hs
      refine ⟨?_⟩
      go_wp2
      exact kp_post hsz (Below.refl _ _)
    · intro G wx fr hway _ hs hdef hsz
      have s2 : fr.tmps[2]? = some (.pointer (some ⟨w.heap.size, 0, none⟩)) := hs.1
      have s24 : fr.tmps[24]? = some (.bool true) := hs.2.1
      clear hs
      refine ⟨?_⟩
      refine wpList_load_want (by simp [Region.wanted, yielded, *]) 23 (.tmp 2) rfl (way_blk hway hy1_1 (by first | exact hy1_1.lt | omega) (by simp [heldBy, Knd.blockOf])) (by rw [HSW.out]; exact hW) (by simp [Act.eval, s2]) ?_
      refine wpList_nil ?_
      exact kp_val hdef hsz (Below.refl _ _)
    · intro G wx fr hway _ hs hdef hsz
      have s3 : fr.tmps[3]? = some (.pointer (some ⟨w1.heap.size, 0, none⟩)) := hs.1
      have s24 : fr.tmps[24]? = some (.bool true) := hs.2.1
      clear hs
      refine ⟨?_⟩
      refine wpList_load_want (by simp [Region.wanted, yielded, *]) 23 (.tmp 3) rfl (way_blk hway hy1_2 (by first | exact hy1_2.lt | omega) (by simp [heldBy, Knd.blockOf])) (by rw [HSW.out]; exact hW) (by simp [Act.eval, s3]) ?_
      refine wpList_nil ?_
      exact kp_val hdef hsz (Below.refl _ _)
    · intro G wx fr hway _ hs hdef hsz
      have s25 : fr.tmps[25]? = some (.agg (wcells a)) := hs.1
      have s26 : fr.tmps[26]? = some (.agg (wcells b)) := hs.2.1
      have s24 : fr.tmps[24]? = some (.bool true) := hs.2.2.1
      clear hs
      refine ⟨?_⟩
      go_wp2_with fail
      refine (C6.out wx).mono ?_
      rintro e w2 ⟨rfl, hb2⟩
      go_wp2
      exact kp_post hsz hb2
    · intro G wx fr hway _ hs hdef hsz
      have s6 : fr.tmps[6]? = some (.pointer (some ⟨w3.heap.size, 0, none⟩)) := hs.1
      have s24 : fr.tmps[24]? = some (.bool true) := hs.2.1
      clear hs
      refine ⟨?_⟩
      refine wpList_load_want (by simp [Region.wanted, yielded, *]) 23 (.tmp 6) rfl (way_blk hway hy1_3 (by first | exact hy1_3.lt | omega) (by simp [heldBy, Knd.blockOf])) (by rw [HSW.out]; exact hW) (by simp [Act.eval, s6]) ?_
      refine wpList_nil ?_
      exact kp_val hdef hsz (Below.refl _ _)
    · intro G wx fr hway _ hs hdef hsz
      have s27 : fr.tmps[27]? = some (.agg (wcells z7)) := hs.1
      have s28 : fr.tmps[28]? = some (.agg (wcells 0)) := hs.2.1
      have s24 : fr.tmps[24]? = some (.bool true) := hs.2.2.1
      clear hs
      have hq := Q8.out
      refine ⟨?_⟩
      go_wp2
      exact kp_post hsz (Below.refl _ _)
    · intro G wx fr hway _ hs hdef hsz
      have s24 : fr.tmps[24]? = some (.bool true) := hs.1
      have s29 : fr.tmps[29]? = some (.bool true) := hs.2.1
      clear hs
      refine ⟨?_⟩
      go_wp2
      exact kp_post hsz (Below.refl _ _)
    · intro G wx fr hway _ hs hdef hsz
      have s30 : fr.tmps[30]? = some (.bool true) := hs.1
      clear hs
      refine ⟨?_⟩
      go_wp2
      exact kp_post hsz (Below.refl _ _)
    · intro G wx fr hway _ hs hdef hsz
      have s2 : fr.tmps[2]? = some (.pointer (some ⟨w.heap.size, 0, none⟩)) := hs.1
      have s31 : fr.tmps[31]? = some (.bool true) := hs.2.1
      clear hs
      refine ⟨?_⟩
      refine wpList_load_want (by simp [Region.wanted, yielded, *]) 23 (.tmp 2) rfl (way_blk hway hy1_1 (by first | exact hy1_1.lt | omega) (by simp [heldBy, Knd.blockOf])) (by rw [HSW.out]; exact hW) (by simp [Act.eval, s2]) ?_
      refine wpList_nil ?_
      exact kp_val hdef hsz (Below.refl _ _)
    · intro G wx fr hway _ hs hdef hsz
      have s3 : fr.tmps[3]? = some (.pointer (some ⟨w1.heap.size, 0, none⟩)) := hs.1
      have s31 : fr.tmps[31]? = some (.bool true) := hs.2.1
      clear hs
      refine ⟨?_⟩
      refine wpList_load_want (by simp [Region.wanted, yielded, *]) 23 (.tmp 3) rfl (way_blk hway hy1_2 (by first | exact hy1_2.lt | omega) (by simp [heldBy, Knd.blockOf])) (by rw [HSW.out]; exact hW) (by simp [Act.eval, s3]) ?_
      refine wpList_nil ?_
      exact kp_val hdef hsz (Below.refl _ _)
    · intro G wx fr hway _ hs hdef hsz
      have s32 : fr.tmps[32]? = some (.agg (wcells a)) := hs.1
      have s33 : fr.tmps[33]? = some (.agg (wcells b)) := hs.2.1
      have s31 : fr.tmps[31]? = some (.bool true) := hs.2.2.1
      clear hs
      refine ⟨?_⟩
      go_wp2_with fail
      refine (C9.out wx).mono ?_
      rintro e w2 ⟨rfl, hb2⟩
      go_wp2
      exact kp_post hsz hb2
    · intro G wx fr hway _ hs hdef hsz
      have s6 : fr.tmps[6]? = some (.pointer (some ⟨w3.heap.size, 0, none⟩)) := hs.1
      have s31 : fr.tmps[31]? = some (.bool true) := hs.2.1
      clear hs
      refine ⟨?_⟩
      refine wpList_load_want (by simp [Region.wanted, yielded, *]) 23 (.tmp 6) rfl (way_blk hway hy1_3 (by first | exact hy1_3.lt | omega) (by simp [heldBy, Knd.blockOf])) (by rw [HSW.out]; exact hW) (by simp [Act.eval, s6]) ?_
      refine wpList_nil ?_
      exact kp_val hdef hsz (Below.refl _ _)
    · intro G wx fr hway _ hs hdef hsz
      have s34 : fr.tmps[34]? = some (.agg (wcells z10)) := hs.1
      have s35 : fr.tmps[35]? = some (.agg (wcells 0)) := hs.2.1
      have s31 : fr.tmps[31]? = some (.bool true) := hs.2.2.1
      clear hs
      have hq := Q11.out
      refine ⟨?_⟩
      go_wp2
      exact kp_post hsz (Below.refl _ _)
    · intro G wx fr hway _ hs hdef hsz
      have s31 : fr.tmps[31]? = some (.bool true) := hs.1
      have s36 : fr.tmps[36]? = some (.bool true) := hs.2.1
      clear hs
      refine ⟨?_⟩
      go_wp2
      exact kp_post hsz (Below.refl _ _)
    · intro G wx fr hway _ hs hdef hsz
      have s37 : fr.tmps[37]? = some (.bool true) := hs.1
      clear hs
      refine ⟨?_⟩
      go_wp2
      exact kp_post hsz (Below.refl _ _)
    · intro G wx fr hway _ hs hdef hsz
      have s2 : fr.tmps[2]? = some (.pointer (some ⟨w.heap.size, 0, none⟩)) := hs.1
      have s38 : fr.tmps[38]? = some (.bool true) := hs.2.1
      clear hs
      refine ⟨?_⟩
      refine wpList_load_want (by simp [Region.wanted, yielded, *]) 23 (.tmp 2) rfl (way_blk hway hy1_1 (by first | exact hy1_1.lt | omega) (by simp [heldBy, Knd.blockOf])) (by rw [HSW.out]; exact hW) (by simp [Act.eval, s2]) ?_
      refine wpList_nil ?_
      exact kp_val hdef hsz (Below.refl _ _)
    · intro G wx fr hway _ hs hdef hsz
      have s3 : fr.tmps[3]? = some (.pointer (some ⟨w1.heap.size, 0, none⟩)) := hs.1
      have s38 : fr.tmps[38]? = some (.bool true) := hs.2.1
      clear hs
      refine ⟨?_⟩
      refine wpList_load_want (by simp [Region.wanted, yielded, *]) 23 (.tmp 3) rfl (way_blk hway hy1_2 (by first | exact hy1_2.lt | omega) (by simp [heldBy, Knd.blockOf])) (by rw [HSW.out]; exact hW) (by simp [Act.eval, s3]) ?_
      refine wpList_nil ?_
      exact kp_val hdef hsz (Below.refl _ _)
    · intro G wx fr hway _ hs hdef hsz
      have s39 : fr.tmps[39]? = some (.agg (wcells a)) := hs.1
      have s40 : fr.tmps[40]? = some (.agg (wcells b)) := hs.2.1
      have s38 : fr.tmps[38]? = some (.bool true) := hs.2.2.1
      clear hs
      refine ⟨?_⟩
      go_wp2_with fail
      refine (C12.out wx).mono ?_
      rintro e w2 ⟨rfl, hb2⟩
      go_wp2
      exact kp_post hsz hb2
    · intro G wx fr hway _ hs hdef hsz
      have s6 : fr.tmps[6]? = some (.pointer (some ⟨w3.heap.size, 0, none⟩)) := hs.1
      have s38 : fr.tmps[38]? = some (.bool true) := hs.2.1
      clear hs
      refine ⟨?_⟩
      refine wpList_load_want (by simp [Region.wanted, yielded, *]) 23 (.tmp 6) rfl (way_blk hway hy1_3 (by first | exact hy1_3.lt | omega) (by simp [heldBy, Knd.blockOf])) (by rw [HSW.out]; exact hW) (by simp [Act.eval, s6]) ?_
      refine wpList_nil ?_
      exact kp_val hdef hsz (Below.refl _ _)
    · intro G wx fr hway _ hs hdef hsz
      have s41 : fr.tmps[41]? = some (.agg (wcells z13)) := hs.1
      have s42 : fr.tmps[42]? = some (.agg (wcells 0)) := hs.2.1
      have s38 : fr.tmps[38]? = some (.bool true) := hs.2.2.1
      clear hs
      have hq := Q14.out
      refine ⟨?_⟩
      go_wp2
      exact kp_post hsz (Below.refl _ _)
    · intro G wx fr hway _ hs hdef hsz
      have s38 : fr.tmps[38]? = some (.bool true) := hs.1
      have s43 : fr.tmps[43]? = some (.bool true) := hs.2.1
      clear hs
      refine ⟨?_⟩
      go_wp2
      exact kp_post hsz (Below.refl _ _)
    · intro G wx fr hway _ hs hdef hsz
      have s44 : fr.tmps[44]? = some (.bool true) := hs.1
      clear hs
      refine ⟨?_⟩
      go_wp2
      exact kp_post hsz (Below.refl _ _)
  · intro G V wr3 hval hway hmade hap
    replace hval : V 0 = .bool true ∧ V 1 = .bool true ∧ V 2 = .agg (wcells a) ∧ V 3 = .agg (wcells b) ∧ V 4 = .agg (wcells z4) ∧ V 5 = .agg (wcells 0) ∧ V 6 = .bool true ∧ V 7 = .bool true ∧ V 8 = .bool true ∧ V 9 = .agg (wcells a) ∧ V 10 = .agg (wcells b) ∧ V 11 = .agg (wcells z7) ∧ V 12 = .agg (wcells 0) ∧ V 13 = .bool true ∧ V 14 = .bool true ∧ V 15 = .bool true ∧ V 16 = .agg (wcells a) ∧ V 17 = .agg (wcells b) ∧ V 18 = .agg (wcells z10) ∧ V 19 = .agg (wcells 0) ∧ V 20 = .bool true ∧ V 21 = .bool true ∧ V 22 = .bool true ∧ V 23 = .agg (wcells a) ∧ V 24 = .agg (wcells b) ∧ V 25 = .agg (wcells z13) ∧ V 26 = .agg (wcells 0) ∧ V 27 = .bool true ∧ V 28 = .bool true ∧ V 29 = .bool true ∧ True := hval
    replace hmade : True := hmade
    obtain ⟨e3_0, e3_1, e3_2, e3_3, e3_4, e3_5, e3_6, e3_7, e3_8, e3_9, e3_10, e3_11, e3_12, e3_13, e3_14, e3_15, e3_16, e3_17, e3_18, e3_19, e3_20, e3_21, e3_22, e3_23, e3_24, e3_25, e3_26, e3_27, e3_28, e3_29, -⟩ := hval
    obtain ⟨-⟩ := hmade
    clear hap
    simp only [fill, Act.put, e3_0, e3_1, e3_2, e3_3, e3_4, e3_5, e3_6, e3_7, e3_8, e3_9, e3_10, e3_11, e3_12, e3_13, e3_14, e3_15, e3_16, e3_17, e3_18, e3_19, e3_20, e3_21, e3_22, e3_23, e3_24, e3_25, e3_26, e3_27, e3_28, e3_29]
    clear e3_0 e3_1 e3_2 e3_3 e3_4 e3_5 e3_6 e3_7 e3_8 e3_9 e3_10 e3_11 e3_12 e3_13 e3_14 e3_15 e3_16 e3_17 e3_18 e3_19 e3_20 e3_21 e3_22 e3_23 e3_24 e3_25 e3_26 e3_27 e3_28 e3_29
    simp only [Exit.then]
    go_simp
    clear G V
    replace hy1_1 := way_blk hway hy1_1 hy1_1.lt (by simp [heldBy, Knd.blockOf])
    replace hy1_2 := way_blk hway hy1_2 hy1_2.lt (by simp [heldBy, Knd.blockOf])
    replace hy1_3 := way_blk hway hy1_3 hy1_3.lt (by simp [heldBy, Knd.blockOf])
    replace hB1_5 := hway.2.2
    clear hway
    go_wp2
    go_ret
    exact ⟨rfl, hB1_5⟩
set_option maxRecDepth 100000 in
set_option maxHeartbeats 8000000 in
theorem walk (a b : Nat) (w : World) (ha : a < 2 ^ 256) (hb : b < 2 ^ 256) (hb0 : b ≠ 0) : Calls Try.prog 8 #[.agg (wcells a), .agg (wcells b)] w fun e w' => e = .returned (.bool true) ∧ Below w.heap.size w w' := by
  have hW := wordTy
  have zW := zWordL
  have HSW := Lib.hid wcells_size
  have H1W := Lib.hid wcells_one
  have HZW := Lib.hid wcells_lit0
  have C1 := Lib.hid (fun w => alive1 w)
  have Q2 := Lib.hid (fun w => eq_word b 0 hb (by decide) w)
  rw [decide_eq_false hb0] at Q2
  obtain ⟨z4, Ez4⟩ : ∃ z, z = a / b := ⟨_, rfl⟩
  have hz4 : z4 < 2 ^ 256 := by rw [Ez4]; exact (divN_lt _ ha)
  have C3 := Lib.hid (fun w => Div_all a b w ha hb)
  rw [← Ez4] at C3
  obtain ⟨z6, Ez6⟩ : ∃ z, z = modN a b := ⟨_, rfl⟩
  have hz6 : z6 < 2 ^ 256 := by rw [Ez6]; exact (modN_lt _ ha)
  have C5 := Lib.hid (fun w => Mod_all a b w ha hb)
  rw [← Ez6] at C5
  obtain ⟨z8, Ez8⟩ : ∃ z, z = sdivN a b := ⟨_, rfl⟩
  have hz8 : z8 < 2 ^ 256 := by rw [Ez8]; exact (sdivN_lt _ _)
  have C7 := Lib.hid (fun w => SDiv_all a b w ha hb)
  rw [← Ez8] at C7
  obtain ⟨z10, Ez10⟩ : ∃ z, z = smodN a b := ⟨_, rfl⟩
  have hz10 : z10 < 2 ^ 256 := by rw [Ez10]; exact (smodN_lt _ ha)
  have C9 := Lib.hid (fun w => SMod_all a b w ha hb)
  rw [← Ez10] at C9
  obtain ⟨z12, Ez12⟩ : ∃ z, z = z4 * b % 2 ^ 256 := ⟨_, rfl⟩
  have hz12 : z12 < 2 ^ 256 := by rw [Ez12]; exact (Nat.mod_lt _ (by decide))
  have C11 := Lib.hid (fun w => Mul_any z4 b w hz4 hb)
  rw [← Ez12] at C11
  obtain ⟨z14, Ez14⟩ : ∃ z, z = (z12 + z6) % 2 ^ 256 := ⟨_, rfl⟩
  have hz14 : z14 < 2 ^ 256 := by rw [Ez14]; exact (Nat.mod_lt _ (by decide))
  have C13 := Lib.hid (fun w => Add_any z12 z6 w hz12 hz6)
  rw [← Ez14] at C13
  have Q15 := Lib.hid (fun w => eq_word z14 a hz14 ha w)
  rw [decide_eq_true (by subst_vars; exact pBack a ha hb0)] at Q15
  have C16 := Lib.hid (fun w => Cmp_any z6 b w hz6 hb)
  rw [show cmpN z6 b = -1 from by subst_vars; exact pModLt a hb0] at C16
  obtain ⟨z18, Ez18⟩ : ∃ z, z = z8 * b % 2 ^ 256 := ⟨_, rfl⟩
  have hz18 : z18 < 2 ^ 256 := by rw [Ez18]; exact (Nat.mod_lt _ (by decide))
  have C17 := Lib.hid (fun w => Mul_any z8 b w hz8 hb)
  rw [← Ez18] at C17
  obtain ⟨z20, Ez20⟩ : ∃ z, z = (z18 + z10) % 2 ^ 256 := ⟨_, rfl⟩
  have hz20 : z20 < 2 ^ 256 := by rw [Ez20]; exact (Nat.mod_lt _ (by decide))
  have C19 := Lib.hid (fun w => Add_any z18 z10 w hz18 hz10)
  rw [← Ez20] at C19
  have Q21 := Lib.hid (fun w => eq_word z20 a hz20 ha w)
  rw [decide_eq_true (by subst_vars; exact pSBack ha hb hb0)] at Q21
  clear Ez4 Ez6 Ez8 Ez10 Ez12 Ez14 Ez18 Ez20 hz4 hz6 hz8 hz10 hz12 hz14 hz18 hz20 hb0
  go_enter Try.func8, Try.ntmps8
  have tk0_0 : True := trivial
  have tk0_1 : True := trivial
  have tk0_2 : True := trivial
  have tk0_3 : True := trivial
  have tk0_4 : True := trivial
  have tk0_5 : True := trivial
  have tk0_6 : True := trivial
  have tk0_7 : True := trivial
  have tk0_8 : True := trivial
  have tk0_9 : True := trivial
  have tk0_10 : True := trivial
  have tk0_11 : True := trivial
  have tk0_12 : True := trivial
  have tk0_13 : True := trivial
  have tk0_14 : True := trivial
  have tk0_15 : True := trivial
  have tk0_16 : True := trivial
  have tk0_17 : True := trivial
  have tk0_18 : True := trivial
  have tk0_19 : True := trivial
  have tk0_20 : True := trivial
  have tk0_21 : True := trivial
  have tk0_22 : True := trivial
  have tk0_23 : True := trivial
  have hqQ2 := Q2.out
  rw [← HZW.out] at hqQ2
  go_wp2_with (first
    | ((with_reducible refine gd_box ?_); have _t := tk0_0; refine wpList_box_agg rfl _ (.tmp 0) rfl rfl ?_; clear tk0_0; intro w1 hx1 hb1 hl1; have hz1 := hx1.lt; have hs1 := hb1.size)
    | ((with_reducible refine gd_box ?_); have _t := tk0_1; refine wpList_box_agg rfl _ (.tmp 1) rfl rfl ?_; clear tk0_1; intro w2 hx2 hb2 hl2; have hz2 := hx2.lt; have hs2 := hb2.size)
    | (go_at_call 10; have _t := tk0_2; refine (C1.out _).mono ?_; clear tk0_2; rintro e w3 ⟨rfl, hb3⟩; have hs3 := hb3.size)
    | ((with_reducible refine gd_load ?_); have _t := tk0_3; refine wpList_load_blk rfl 23 (.tmp 3) rfl (hx2.ext hb3) (by rw [HSW.out]; exact hW) rfl ?_; clear tk0_3)
    | ((with_reducible refine gd_load ?_); have _t := tk0_4; refine wpList_load_blk rfl 23 (.tmp 2) rfl ((hx1.ext hb2).ext hb3) (by rw [HSW.out]; exact hW) rfl ?_; clear tk0_4)
    | ((with_reducible refine gd_load ?_); have _t := tk0_5; refine wpList_load_blk rfl 23 (.tmp 3) rfl (hx2.ext hb3) (by rw [HSW.out]; exact hW) rfl ?_; clear tk0_5)
    | (go_at_call 40; have _t := tk0_6; refine (C3.out _).mono ?_; clear tk0_6; rintro e w4 ⟨rfl, hb4⟩; have hs4 := hb4.size)
    | ((with_reducible refine gd_alloc ?_); have _t := tk0_7; refine wpList_alloc_blk rfl 23 rfl zW ?_; clear tk0_7; intro w5 hx5 hb5 hl5; have hz5 := hx5.lt; have hs5 := hb5.size)
    | ((with_reducible refine gd_store ?_); have _t := tk0_8; refine wpList_store_all rfl 23 (.tmp 7) (.tmp 47) rfl (wcells z4) hx5 (by rw [HSW.out]; exact hW) (by rw [HSW.out]; exact HSW.out 0) (H1W.out _) (by rfl) (by rfl) ?_; clear tk0_8; intro w6 hx6 hg6; have hs6 := hg6.size)
    | ((with_reducible refine gd_load ?_); have _t := tk0_9; refine wpList_load_blk rfl 23 (.tmp 2) rfl (((((hx1.ext hb2).ext hb3).ext hb4).ext hb5).grown hg6 (by simp; omega)) (by rw [HSW.out]; exact hW) rfl ?_; clear tk0_9)
    | ((with_reducible refine gd_load ?_); have _t := tk0_10; refine wpList_load_blk rfl 23 (.tmp 3) rfl ((((hx2.ext hb3).ext hb4).ext hb5).grown hg6 (by simp; omega)) (by rw [HSW.out]; exact hW) rfl ?_; clear tk0_10)
    | (go_at_call 41; have _t := tk0_11; refine (C5.out _).mono ?_; clear tk0_11; rintro e w7 ⟨rfl, hb7⟩; have hs7 := hb7.size)
    | ((with_reducible refine gd_alloc ?_); have _t := tk0_12; refine wpList_alloc_blk rfl 23 rfl zW ?_; clear tk0_12; intro w8 hx8 hb8 hl8; have hz8 := hx8.lt; have hs8 := hb8.size)
    | ((with_reducible refine gd_store ?_); have _t := tk0_13; refine wpList_store_all rfl 23 (.tmp 8) (.tmp 50) rfl (wcells z6) hx8 (by rw [HSW.out]; exact hW) (by rw [HSW.out]; exact HSW.out 0) (H1W.out _) (by rfl) (by rfl) ?_; clear tk0_13; intro w9 hx9 hg9; have hs9 := hg9.size)
    | ((with_reducible refine gd_load ?_); have _t := tk0_14; refine wpList_load_blk rfl 23 (.tmp 2) rfl ((((((((hx1.ext hb2).ext hb3).ext hb4).ext hb5).grown hg6 (by simp; omega)).ext hb7).ext hb8).grown hg9 (by simp; omega)) (by rw [HSW.out]; exact hW) rfl ?_; clear tk0_14)
    | ((with_reducible refine gd_load ?_); have _t := tk0_15; refine wpList_load_blk rfl 23 (.tmp 3) rfl (((((((hx2.ext hb3).ext hb4).ext hb5).grown hg6 (by simp; omega)).ext hb7).ext hb8).grown hg9 (by simp; omega)) (by rw [HSW.out]; exact hW) rfl ?_; clear tk0_15)
    | (go_at_call 42; have _t := tk0_16; refine (C7.out _).mono ?_; clear tk0_16; rintro e w10 ⟨rfl, hb10⟩; have hs10 := hb10.size)
    | ((with_reducible refine gd_alloc ?_); have _t := tk0_17; refine wpList_alloc_blk rfl 23 rfl zW ?_; clear tk0_17; intro w11 hx11 hb11 hl11; have hz11 := hx11.lt; have hs11 := hb11.size)
    | ((with_reducible refine gd_store ?_); have _t := tk0_18; refine wpList_store_all rfl 23 (.tmp 9) (.tmp 53) rfl (wcells z8) hx11 (by rw [HSW.out]; exact hW) (by rw [HSW.out]; exact HSW.out 0) (H1W.out _) (by rfl) (by rfl) ?_; clear tk0_18; intro w12 hx12 hg12; have hs12 := hg12.size)
    | ((with_reducible refine gd_load ?_); have _t := tk0_19; refine wpList_load_blk rfl 23 (.tmp 2) rfl (((((((((((hx1.ext hb2).ext hb3).ext hb4).ext hb5).grown hg6 (by simp; omega)).ext hb7).ext hb8).grown hg9 (by simp; omega)).ext hb10).ext hb11).grown hg12 (by simp; omega)) (by rw [HSW.out]; exact hW) rfl ?_; clear tk0_19)
    | ((with_reducible refine gd_load ?_); have _t := tk0_20; refine wpList_load_blk rfl 23 (.tmp 3) rfl ((((((((((hx2.ext hb3).ext hb4).ext hb5).grown hg6 (by simp; omega)).ext hb7).ext hb8).grown hg9 (by simp; omega)).ext hb10).ext hb11).grown hg12 (by simp; omega)) (by rw [HSW.out]; exact hW) rfl ?_; clear tk0_20)
    | (go_at_call 43; have _t := tk0_21; refine (C9.out _).mono ?_; clear tk0_21; rintro e w13 ⟨rfl, hb13⟩; have hs13 := hb13.size)
    | ((with_reducible refine gd_alloc ?_); have _t := tk0_22; refine wpList_alloc_blk rfl 23 rfl zW ?_; clear tk0_22; intro w14 hx14 hb14 hl14; have hz14 := hx14.lt; have hs14 := hb14.size)
    | ((with_reducible refine gd_store ?_); have _t := tk0_23; refine wpList_store_all rfl 23 (.tmp 10) (.tmp 56) rfl (wcells z10) hx14 (by rw [HSW.out]; exact hW) (by rw [HSW.out]; exact HSW.out 0) (H1W.out _) (by rfl) (by rfl) ?_; clear tk0_23; intro w15 hx15 hg15; have hs15 := hg15.size)
    | fail)
  clear hqQ2
  have hy1_1 := ((((((((((((((hx1.ext hb2).ext hb3).ext hb4).ext hb5).grown hg6 (by simp; omega)).ext hb7).ext hb8).grown hg9 (by simp; omega)).ext hb10).ext hb11).grown hg12 (by simp; omega)).ext hb13).ext hb14).grown hg15 (by simp; omega))
  have hy1_2 := (((((((((((((hx2.ext hb3).ext hb4).ext hb5).grown hg6 (by simp; omega)).ext hb7).ext hb8).grown hg9 (by simp; omega)).ext hb10).ext hb11).grown hg12 (by simp; omega)).ext hb13).ext hb14).grown hg15 (by simp; omega))
  have hy1_3 := (((((((((hx6.ext hb7).ext hb8).grown hg9 (by simp; omega)).ext hb10).ext hb11).grown hg12 (by simp; omega)).ext hb13).ext hb14).grown hg15 (by simp; omega))
  have hy1_4 := ((((((hx9.ext hb10).ext hb11).grown hg12 (by simp; omega)).ext hb13).ext hb14).grown hg15 (by simp; omega))
  have hy1_5 := (((hx12.ext hb13).ext hb14).grown hg15 (by simp; omega))
  have hy1_6 := hx15
  have hB1_1 := hb1
  have hB1_2 := below_step hB1_1 hb2
  have hB1_3 := below_step hB1_2 hb3
  have hB1_4 := below_step hB1_3 hb4
  have hB1_5 := below_step hB1_4 hb5
  have hB1_6 := below_blk hB1_5 hB1_5.size hg6 (by omega)
  have hB1_7 := below_step hB1_6 hb7
  have hB1_8 := below_step hB1_7 hb8
  have hB1_9 := below_blk hB1_8 hB1_8.size hg9 (by omega)
  have hB1_10 := below_step hB1_9 hb10
  have hB1_11 := below_step hB1_10 hb11
  have hB1_12 := below_blk hB1_11 hB1_11.size hg12 (by omega)
  have hB1_13 := below_step hB1_12 hb13
  have hB1_14 := below_step hB1_13 hb14
  have hB1_15 := below_blk hB1_14 hB1_14.size hg15 (by omega)
  clear hb1 hl1 hz1 hs1 hb2 hl2 hz2 hs2 hb3 hs3 hb4 hs4 hx5 hb5 hl5 hz5 hs5 hg6 hs6 hb7 hs7 hx8 hb8 hl8 hz8 hs8 hg9 hs9 hb10 hs10 hx11 hb11 hl11 hz11 hs11 hg12 hs12 hb13 hs13 hx14 hb14 hl14 hz14 hs14 hg15 hs15 hx1 hx12 hx15 hx2 hx6 hx9 hB1_1 hB1_2 hB1_3 hB1_4 hB1_5 hB1_6 hB1_7 hB1_8 hB1_9 hB1_10 hB1_11 hB1_12 hB1_13 hB1_14
  refine wp_region_made (w := w15) (B := w.heap.size) (wB := w) [.val (.bool true), .val (.bool true), .val (.agg (wcells z4)), .val (.agg (wcells b)), .val (.agg (wcells z12)), .val (.agg (wcells z6)), .val (.agg (wcells z14)), .val (.agg (wcells a)), .val (.bool true), .val (.bool true), .val (.bool true), .val (.agg (wcells z6)), .val (.agg (wcells b)), .val (.int .i64 (-1)), .val (.bool true), .val (.bool true), .val (.bool true), .val (.agg (wcells z8)), .val (.agg (wcells b)), .val (.agg (wcells z18)), .val (.agg (wcells z10)), .val (.agg (wcells z20)), .val (.agg (wcells a)), .val (.bool true), .val (.bool true), .val (.bool true)] (by kernel_rfl) (by kernel_rfl) (by kernel_rfl) rfl (by kernel_rfl) rfl hB1_15.size hB1_15 List.nodup_nil (fun g hg => nomatch hg) trivial ?_ ?_
  · refine ⟨?_, ?_, ?_, ?_, ?_, ?_, ?_, ?_, ?_, ?_, ?_, ?_, ?_, ?_, ?_, ?_, ?_, ?_, ?_, ?_, ?_, ?_, ?_, ?_, ?_, ?_, trivial⟩
    · intro G wx fr hway _ hs hdef hsz
      have s5 : fr.tmps[5]? = some (.bool true) := hs.1
      clear hs
      refine ⟨?_⟩
      go_wp2
      exact kp_post hsz (Below.refl _ _)
    · intro G wx fr hway _ hs hdef hsz
      have s57 : fr.tmps[57]? = some (.bool true) := hs.1
      clear hs
      refine ⟨?_⟩
      go_wp2
      exact kp_post hsz (Below.refl _ _)
    · intro G wx fr hway _ hs hdef hsz
      have s7 : fr.tmps[7]? = some (.pointer (some ⟨w4.heap.size, 0, none⟩)) := hs.1
      have s58 : fr.tmps[58]? = some (.bool true) := hs.2.1
      clear hs
      refine ⟨?_⟩
      refine wpList_load_want (by simp [Region.wanted, yielded, *]) 23 (.tmp 7) rfl (way_blk hway hy1_3 (by first | exact hy1_3.lt | omega) (by simp [heldBy, Knd.blockOf])) (by rw [HSW.out]; exact hW) (by simp [Act.eval, s7]) ?_
      refine wpList_nil ?_
      exact kp_val hdef hsz (Below.refl _ _)
    · intro G wx fr hway _ hs hdef hsz
      have s3 : fr.tmps[3]? = some (.pointer (some ⟨w1.heap.size, 0, none⟩)) := hs.1
      have s58 : fr.tmps[58]? = some (.bool true) := hs.2.1
      clear hs
      refine ⟨?_⟩
      refine wpList_load_want (by simp [Region.wanted, yielded, *]) 23 (.tmp 3) rfl (way_blk hway hy1_2 (by first | exact hy1_2.lt | omega) (by simp [heldBy, Knd.blockOf])) (by rw [HSW.out]; exact hW) (by simp [Act.eval, s3]) ?_
      refine wpList_nil ?_
      exact kp_val hdef hsz (Below.refl _ _)
    · intro G wx fr hway _ hs hdef hsz
      have s59 : fr.tmps[59]? = some (.agg (wcells z4)) := hs.1
      have s60 : fr.tmps[60]? = some (.agg (wcells b)) := hs.2.1
      have s58 : fr.tmps[58]? = some (.bool true) := hs.2.2.1
      clear hs
      refine ⟨?_⟩
      go_wp2_with fail
      refine (C11.out wx).mono ?_
      rintro e w2 ⟨rfl, hb2⟩
      go_wp2
      exact kp_post hsz hb2
    · intro G wx fr hway _ hs hdef hsz
      have s8 : fr.tmps[8]? = some (.pointer (some ⟨w7.heap.size, 0, none⟩)) := hs.1
      have s58 : fr.tmps[58]? = some (.bool true) := hs.2.1
      clear hs
      refine ⟨?_⟩
      refine wpList_load_want (by simp [Region.wanted, yielded, *]) 23 (.tmp 8) rfl (way_blk hway hy1_4 (by first | exact hy1_4.lt | omega) (by simp [heldBy, Knd.blockOf])) (by rw [HSW.out]; exact hW) (by simp [Act.eval, s8]) ?_
      refine wpList_nil ?_
      exact kp_val hdef hsz (Below.refl _ _)
    · intro G wx fr hway _ hs hdef hsz
      have s61 : fr.tmps[61]? = some (.agg (wcells z12)) := hs.1
      have s62 : fr.tmps[62]? = some (.agg (wcells z6)) := hs.2.1
      have s58 : fr.tmps[58]? = some (.bool true) := hs.2.2.1
      clear hs
      refine ⟨?_⟩
      go_wp2_with fail
      refine (C13.out wx).mono ?_
      rintro e w2 ⟨rfl, hb2⟩
      go_wp2
      exact kp_post hsz hb2
    · intro G wx fr hway _ hs hdef hsz
      have s2 : fr.tmps[2]? = some (.pointer (some ⟨w.heap.size, 0, none⟩)) := hs.1
      have s58 : fr.tmps[58]? = some (.bool true) := hs.2.1
      clear hs
      refine ⟨?_⟩
      refine wpList_load_want (by simp [Region.wanted, yielded, *]) 23 (.tmp 2) rfl (way_blk hway hy1_1 (by first | exact hy1_1.lt | omega) (by simp [heldBy, Knd.blockOf])) (by rw [HSW.out]; exact hW) (by simp [Act.eval, s2]) ?_
      refine wpList_nil ?_
      exact kp_val hdef hsz (Below.refl _ _)
    · intro G wx fr hway _ hs hdef hsz
      have s63 : fr.tmps[63]? = some (.agg (wcells z14)) := hs.1
      have s64 : fr.tmps[64]? = some (.agg (wcells a)) := hs.2.1
      have s58 : fr.tmps[58]? = some (.bool true) := hs.2.2.1
      clear hs
      have hq := Q15.out
      refine ⟨?_⟩
      go_wp2
      exact kp_post hsz (Below.refl _ _)
    · intro G wx fr hway _ hs hdef hsz
      have s58 : fr.tmps[58]? = some (.bool true) := hs.1
      have s65 : fr.tmps[65]? = some (.bool true) := hs.2.1
      clear hs
      refine ⟨?_⟩
      go_wp2
      exact kp_post hsz (Below.refl _ _)
    · intro G wx fr hway _ hs hdef hsz
      have s66 : fr.tmps[66]? = some (.bool true) := hs.1
      clear hs
      refine ⟨?_⟩
      go_wp2
      exact kp_post hsz (Below.refl _ _)
    · intro G wx fr hway _ hs hdef hsz
      have s8 : fr.tmps[8]? = some (.pointer (some ⟨w7.heap.size, 0, none⟩)) := hs.1
      have s67 : fr.tmps[67]? = some (.bool true) := hs.2.1
      clear hs
      refine ⟨?_⟩
      refine wpList_load_want (by simp [Region.wanted, yielded, *]) 23 (.tmp 8) rfl (way_blk hway hy1_4 (by first | exact hy1_4.lt | omega) (by simp [heldBy, Knd.blockOf])) (by rw [HSW.out]; exact hW) (by simp [Act.eval, s8]) ?_
      refine wpList_nil ?_
      exact kp_val hdef hsz (Below.refl _ _)
    · intro G wx fr hway _ hs hdef hsz
      have s3 : fr.tmps[3]? = some (.pointer (some ⟨w1.heap.size, 0, none⟩)) := hs.1
      have s67 : fr.tmps[67]? = some (.bool true) := hs.2.1
      clear hs
      refine ⟨?_⟩
      refine wpList_load_want (by simp [Region.wanted, yielded, *]) 23 (.tmp 3) rfl (way_blk hway hy1_2 (by first | exact hy1_2.lt | omega) (by simp [heldBy, Knd.blockOf])) (by rw [HSW.out]; exact hW) (by simp [Act.eval, s3]) ?_
      refine wpList_nil ?_
      exact kp_val hdef hsz (Below.refl _ _)
    · intro G wx fr hway _ hs hdef hsz
      have s68 : fr.tmps[68]? = some (.agg (wcells z6)) := hs.1
      have s69 : fr.tmps[69]? = some (.agg (wcells b)) := hs.2.1
      have s67 : fr.tmps[67]? = some (.bool true) := hs.2.2.1
      clear hs
      refine ⟨?_⟩
      go_wp2_with fail
      refine (C16.out wx).mono ?_
      rintro e w2 ⟨rfl, hb2⟩
      go_wp2
      exact kp_post hsz hb2
    · intro G wx fr hway _ hs hdef hsz
      have s70 : fr.tmps[70]? = some (.int .i64 (-1)) := hs.1
      have s67 : fr.tmps[67]? = some (.bool true) := hs.2.1
      clear hs
      refine ⟨?_⟩
      go_wp2
      exact kp_post hsz (Below.refl _ _)
    · intro G wx fr hway _ hs hdef hsz
      have s67 : fr.tmps[67]? = some (.bool true) := hs.1
      have s71 : fr.tmps[71]? = some (.bool true) := hs.2.1
      clear hs
      refine ⟨?_⟩
      go_wp2
      exact kp_post hsz (Below.refl _ _)
    · intro G wx fr hway _ hs hdef hsz
      have s72 : fr.tmps[72]? = some (.bool true) := hs.1
      clear hs
      refine ⟨?_⟩
      go_wp2
      exact kp_post hsz (Below.refl _ _)
    · intro G wx fr hway _ hs hdef hsz
      have s9 : fr.tmps[9]? = some (.pointer (some ⟨w10.heap.size, 0, none⟩)) := hs.1
      have s73 : fr.tmps[73]? = some (.bool true) := hs.2.1
      clear hs
      refine ⟨?_⟩
      refine wpList_load_want (by simp [Region.wanted, yielded, *]) 23 (.tmp 9) rfl (way_blk hway hy1_5 (by first | exact hy1_5.lt | omega) (by simp [heldBy, Knd.blockOf])) (by rw [HSW.out]; exact hW) (by simp [Act.eval, s9]) ?_
      refine wpList_nil ?_
      exact kp_val hdef hsz (Below.refl _ _)
    · intro G wx fr hway _ hs hdef hsz
      have s3 : fr.tmps[3]? = some (.pointer (some ⟨w1.heap.size, 0, none⟩)) := hs.1
      have s73 : fr.tmps[73]? = some (.bool true) := hs.2.1
      clear hs
      refine ⟨?_⟩
      refine wpList_load_want (by simp [Region.wanted, yielded, *]) 23 (.tmp 3) rfl (way_blk hway hy1_2 (by first | exact hy1_2.lt | omega) (by simp [heldBy, Knd.blockOf])) (by rw [HSW.out]; exact hW) (by simp [Act.eval, s3]) ?_
      refine wpList_nil ?_
      exact kp_val hdef hsz (Below.refl _ _)
    · intro G wx fr hway _ hs hdef hsz
      have s74 : fr.tmps[74]? = some (.agg (wcells z8)) := hs.1
      have s75 : fr.tmps[75]? = some (.agg (wcells b)) := hs.2.1
      have s73 : fr.tmps[73]? = some (.bool true) := hs.2.2.1
      clear hs
      refine ⟨?_⟩
      go_wp2_with fail
      refine (C17.out wx).mono ?_
      rintro e w2 ⟨rfl, hb2⟩
      go_wp2
      exact kp_post hsz hb2
    · intro G wx fr hway _ hs hdef hsz
      have s10 : fr.tmps[10]? = some (.pointer (some ⟨w13.heap.size, 0, none⟩)) := hs.1
      have s73 : fr.tmps[73]? = some (.bool true) := hs.2.1
      clear hs
      refine ⟨?_⟩
      refine wpList_load_want (by simp [Region.wanted, yielded, *]) 23 (.tmp 10) rfl (way_blk hway hy1_6 (by first | exact hy1_6.lt | omega) (by simp [heldBy, Knd.blockOf])) (by rw [HSW.out]; exact hW) (by simp [Act.eval, s10]) ?_
      refine wpList_nil ?_
      exact kp_val hdef hsz (Below.refl _ _)
    · intro G wx fr hway _ hs hdef hsz
      have s76 : fr.tmps[76]? = some (.agg (wcells z18)) := hs.1
      have s77 : fr.tmps[77]? = some (.agg (wcells z10)) := hs.2.1
      have s73 : fr.tmps[73]? = some (.bool true) := hs.2.2.1
      clear hs
      refine ⟨?_⟩
      go_wp2_with fail
      refine (C19.out wx).mono ?_
      rintro e w2 ⟨rfl, hb2⟩
      go_wp2
      exact kp_post hsz hb2
    · intro G wx fr hway _ hs hdef hsz
      have s2 : fr.tmps[2]? = some (.pointer (some ⟨w.heap.size, 0, none⟩)) := hs.1
      have s73 : fr.tmps[73]? = some (.bool true) := hs.2.1
      clear hs
      refine ⟨?_⟩
      refine wpList_load_want (by simp [Region.wanted, yielded, *]) 23 (.tmp 2) rfl (way_blk hway hy1_1 (by first | exact hy1_1.lt | omega) (by simp [heldBy, Knd.blockOf])) (by rw [HSW.out]; exact hW) (by simp [Act.eval, s2]) ?_
      refine wpList_nil ?_
      exact kp_val hdef hsz (Below.refl _ _)
    · intro G wx fr hway _ hs hdef hsz
      have s78 : fr.tmps[78]? = some (.agg (wcells z20)) := hs.1
      have s79 : fr.tmps[79]? = some (.agg (wcells a)) := hs.2.1
      have s73 : fr.tmps[73]? = some (.bool true) := hs.2.2.1
      clear hs
      have hq := Q21.out
      refine ⟨?_⟩
      go_wp2
      exact kp_post hsz (Below.refl _ _)
    · intro G wx fr hway _ hs hdef hsz
      have s73 : fr.tmps[73]? = some (.bool true) := hs.1
      have s80 : fr.tmps[80]? = some (.bool true) := hs.2.1
      clear hs
      refine ⟨?_⟩
      go_wp2
      exact kp_post hsz (Below.refl _ _)
    · intro G wx fr hway _ hs hdef hsz
      have s81 : fr.tmps[81]? = some (.bool true) := hs.1
      clear hs
      refine ⟨?_⟩
      go_wp2
      exact kp_post hsz (Below.refl _ _)
  · intro G V wr3 hval hway hmade hap
    replace hval : V 0 = .bool true ∧ V 1 = .bool true ∧ V 2 = .agg (wcells z4) ∧ V 3 = .agg (wcells b) ∧ V 4 = .agg (wcells z12) ∧ V 5 = .agg (wcells z6) ∧ V 6 = .agg (wcells z14) ∧ V 7 = .agg (wcells a) ∧ V 8 = .bool true ∧ V 9 = .bool true ∧ V 10 = .bool true ∧ V 11 = .agg (wcells z6) ∧ V 12 = .agg (wcells b) ∧ V 13 = .int .i64 (-1) ∧ V 14 = .bool true ∧ V 15 = .bool true ∧ V 16 = .bool true ∧ V 17 = .agg (wcells z8) ∧ V 18 = .agg (wcells b) ∧ V 19 = .agg (wcells z18) ∧ V 20 = .agg (wcells z10) ∧ V 21 = .agg (wcells z20) ∧ V 22 = .agg (wcells a) ∧ V 23 = .bool true ∧ V 24 = .bool true ∧ V 25 = .bool true ∧ True := hval
    replace hmade : True := hmade
    obtain ⟨e3_0, e3_1, e3_2, e3_3, e3_4, e3_5, e3_6, e3_7, e3_8, e3_9, e3_10, e3_11, e3_12, e3_13, e3_14, e3_15, e3_16, e3_17, e3_18, e3_19, e3_20, e3_21, e3_22, e3_23, e3_24, e3_25, -⟩ := hval
    obtain ⟨-⟩ := hmade
    clear hap
    simp only [fill, Act.put, e3_0, e3_1, e3_2, e3_3, e3_4, e3_5, e3_6, e3_7, e3_8, e3_9, e3_10, e3_11, e3_12, e3_13, e3_14, e3_15, e3_16, e3_17, e3_18, e3_19, e3_20, e3_21, e3_22, e3_23, e3_24, e3_25]
    clear e3_0 e3_1 e3_2 e3_3 e3_4 e3_5 e3_6 e3_7 e3_8 e3_9 e3_10 e3_11 e3_12 e3_13 e3_14 e3_15 e3_16 e3_17 e3_18 e3_19 e3_20 e3_21 e3_22 e3_23 e3_24 e3_25
    simp only [Exit.then]
    go_simp
    clear G V
    replace hy1_1 := way_blk hway hy1_1 hy1_1.lt (by simp [heldBy, Knd.blockOf])
    replace hy1_2 := way_blk hway hy1_2 hy1_2.lt (by simp [heldBy, Knd.blockOf])
    replace hy1_3 := way_blk hway hy1_3 hy1_3.lt (by simp [heldBy, Knd.blockOf])
    replace hy1_4 := way_blk hway hy1_4 hy1_4.lt (by simp [heldBy, Knd.blockOf])
    replace hy1_5 := way_blk hway hy1_5 hy1_5.lt (by simp [heldBy, Knd.blockOf])
    replace hy1_6 := way_blk hway hy1_6 hy1_6.lt (by simp [heldBy, Knd.blockOf])
    replace hB1_15 := hway.2.2
    clear hway
    go_wp2
    go_ret
    exact ⟨rfl, hB1_15⟩
open Go.ChangeShapes Go.WideShapes Go.ChangeAt

set_option maxRecDepth 100000 in
theorem lifted (os : Os) (started : os.Started) (H : Type) (enc : TypeId × Value → H) :
    ReturnsInHanded {} Try.checked os 8 .any (Rows.wordBackSpec.pre6 enc Try.prog Try.f8 Rows.wordBackRow.domain false) (Rows.wordBackSpec.post enc Try.prog Try.f8 false true false false) := by
  refine law_lift (C := Try.checked) (ts := [23, 23]) (tb := 4) (by kernel_rfl) started (by kernel_rfl) Try.func8
    (ChangeSpec.witness6 (enc := enc) (C := Try.checked) false ⟨#[], #[.agg (Array.replicate 32 (.int .u8 0)), .agg (Array.replicate 32 (.int .u8 0))], []⟩ 8 (by kernel_rfl) (by kernel_rfl) (by kernel_rfl) (by kernel_rfl))
    (by kernel_rfl) (by kernel_rfl) (by kernel_rfl) (by kernel_rfl) Try.underlying4 rfl (fun ds h => by match ds, h with | [_, _], _ => rfl) ?_
  intro W vs hl h
  match vs, hl with
  | [v0, v1], _ =>
    have ha := h 0 _ v0 rfl rfl
    have hb := h 1 _ v1 rfl rfl
    obtain ⟨a, ha', rfl⟩ := arg_word ha
    obtain ⟨b, hb', rfl⟩ := arg_word hb
    by_cases c : b = 0
    · exact walk_zero a b W ha' hb' c
    · exact walk a b W ha' hb' c

theorem over : Rows.wordBackRow.holds Try.pinned (OpenSpec.ofChange Rows.wordBackSpec) :=
  OpenClaim.holds_of_wide 8 Try.f8 rfl rfl rfl rfl rfl rfl rfl ⟨rfl, rfl, rfl, rfl, rfl⟩ rfl rfl rfl rfl rfl (by kernel_rfl) Try.func8 (by kernel_rfl)
    (of_decide_eq_true (by kernel_rfl)) (by unfold Func.isWrapper; first | (rw [if_pos (by decide +kernel)]; kernel_rfl) | (rw [if_neg (by decide +kernel)]; exact ⟨rfl, rfl⟩))
    (fun os started H enc _ => lifted os started H enc)
end Go.Proofs.Ytcmhbolonhhhoaa.WordBack
namespace Go.Proofs.Ytcmhbolonhhhoaa
theorem wordBack_holds : Rows.WordBackSaid := WordBack.over
#print axioms wordBack_holds
end Go.Proofs.Ytcmhbolonhhhoaa
