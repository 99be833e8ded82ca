/- 'WordSigns' answers true at every input, and leaves what it was given. No condition. -/
import Derived.Test.YtcmhbolonhhhoaaLawWordSignsA
import Derived.Test.YtcmhbolonhhhoaaLaw
import Derived.Test.YtcmhbolonhhhoaaRows
namespace Go.Proofs.Ytcmhbolonhhhoaa.WordSigns
open Go Go.RowKit Go.Mun Go.Proofs

set_option maxRecDepth 100000 in
set_option maxHeartbeats 8000000 in
theorem walk_ftn (a b : Nat) (u v : Int) (w : World) (ha : a < 2 ^ 256) (hb : b < 2 ^ 256) (hl1 : Kept (a ≠ shlN (ofN 255) (ofN 1))) (hl2 : Kept (b = shlN (ofN 255) (ofN 1))) (hab : Kept (a ≠ b)) (hu : Kept (scmpN a b = -u)) (hu2 : Kept (scmpN b a = u)) (u1 : -1 ≤ u) (u2 : u ≤ 1) (hv : Kept (cmpN a b = -v)) (hv2 : Kept (cmpN b a = v)) (v1 : -1 ≤ v) (v2 : v ≤ 1) (v3 : (-v == 0) = false) : Calls Try.prog 7 #[.agg (wcells a), .agg (wcells b)] w fun e w' => e = .returned (.bool true) ∧ Below w.heap.size w w' := by
  have hW := wordTy
  have zW := zWordL
  have HSW := Lib.hid wcells_size
  have H1W := Lib.hid wcells_one
  have HZW := Lib.hid wcells_lit0
  have C1 := Lib.hid (fun w => alive1 w)
  obtain ⟨z3, Ez3⟩ : ∃ z, z = (0 + 2 ^ 256 - a) % 2 ^ 256 := ⟨_, rfl⟩
  have hz3 : z3 < 2 ^ 256 := by rw [Ez3]; exact (Nat.mod_lt _ (by decide))
  have C2 := Lib.hid (fun w => Sub_any 0 a w (by decide) ha)
  rw [← Ez3] at C2
  obtain ⟨z5, Ez5⟩ : ∃ z, z = (0 + 2 ^ 256 - b) % 2 ^ 256 := ⟨_, rfl⟩
  have hz5 : z5 < 2 ^ 256 := by rw [Ez5]; exact (Nat.mod_lt _ (by decide))
  have C4 := Lib.hid (fun w => Sub_any 0 b w (by decide) hb)
  rw [← Ez5] at C4
  obtain ⟨z7, Ez7⟩ : ∃ z, z = ofN 255 := ⟨_, rfl⟩
  have hz7 : z7 < 2 ^ 256 := by rw [Ez7]; exact (ofN_lt _)
  have C6 := Lib.hid (fun w => Of_any 255 w (by decide) (by decide))
  rw [← Ez7] at C6
  obtain ⟨z9, Ez9⟩ : ∃ z, z = ofN 1 := ⟨_, rfl⟩
  have hz9 : z9 < 2 ^ 256 := by rw [Ez9]; exact (ofN_lt _)
  have C8 := Lib.hid (fun w => Of_any 1 w (by decide) (by decide))
  rw [← Ez9] at C8
  obtain ⟨z11, Ez11⟩ : ∃ z, z = shlN z7 z9 := ⟨_, rfl⟩
  have hz11 : z11 < 2 ^ 256 := by rw [Ez11]; exact (shlN_lt _ _)
  have C10 := Lib.hid (fun w => Shl_all z7 z9 w hz7 hz9)
  rw [← Ez11] at C10
  have Q12 := Lib.hid (fun w => eq_word a z11 ha hz11 w)
  rw [decide_eq_false (by subst_vars; exact hl1.out)] at Q12
  have Q13 := Lib.hid (fun w => eq_word b z11 hb hz11 w)
  rw [decide_eq_true (by subst_vars; exact hl2.out)] at Q13
  obtain ⟨z15, Ez15⟩ : ∃ z, z = (a + z3) % 2 ^ 256 := ⟨_, rfl⟩
  have hz15 : z15 < 2 ^ 256 := by rw [Ez15]; exact (Nat.mod_lt _ (by decide))
  have C14 := Lib.hid (fun w => Add_any a z3 w ha hz3)
  rw [← Ez15] at C14
  have Q16 := Lib.hid (fun w => eq_word z15 0 hz15 (by decide) w)
  rw [decide_eq_true (by subst_vars; exact pNegAdd ha)] at Q16
  obtain ⟨z18, Ez18⟩ : ∃ z, z = ofN (-1) := ⟨_, rfl⟩
  have hz18 : z18 < 2 ^ 256 := by rw [Ez18]; exact (ofN_lt _)
  have C17 := Lib.hid (fun w => Of_any (-1) w (by decide) (by decide))
  rw [← Ez18] at C17
  obtain ⟨z20, Ez20⟩ : ∃ z, z = a * z18 % 2 ^ 256 := ⟨_, rfl⟩
  have hz20 : z20 < 2 ^ 256 := by rw [Ez20]; exact (Nat.mod_lt _ (by decide))
  have C19 := Lib.hid (fun w => Mul_any a z18 w ha hz18)
  rw [← Ez20] at C19
  have Q21 := Lib.hid (fun w => eq_word z20 z3 hz20 hz3 w)
  rw [decide_eq_true (by subst_vars; exact pNegMul ha)] at Q21
  have C22 := Lib.hid (fun w => SCmp_all a b w ha hb)
  rw [show scmpN a b = -u from hu.out] at C22
  have C23 := Lib.hid (fun w => SCmp_all b a w hb ha)
  rw [show scmpN b a = u from hu2.out] at C23
  have C24 := Lib.hid (fun w => Cmp_any a b w ha hb)
  rw [show cmpN a b = -v from hv.out] at C24
  have C25 := Lib.hid (fun w => Cmp_any b a w hb ha)
  rw [show cmpN b a = v from hv2.out] at C25
  have Q26 := Lib.hid (fun w => eq_word a b ha hb w)
  rw [decide_eq_false (by subst_vars; exact hab.out)] at Q26
  clear Ez3 Ez5 Ez7 Ez9 Ez11 Ez15 Ez18 Ez20 hz3 hz5 hz7 hz9 hz11 hz15 hz18 hz20
  go_enter Try.func7, Try.ntmps7
  have tk0_0 : True := trivial
  have tk0_1 : True := trivial
  have tk0_2 : True := trivial
  have tk0_3 : True := trivial
  have tk0_4 : True := trivial
  have tk0_5 : True := trivial
  have tk0_6 : True := trivial
  have tk0_7 : True := trivial
  have tk0_8 : True := trivial
  have tk0_9 : True := trivial
  have tk0_10 : True := trivial
  have tk0_11 : True := trivial
  have tk0_12 : True := trivial
  have tk0_13 : True := trivial
  have tk0_14 : True := trivial
  have tk0_15 : True := trivial
  have tk0_16 : True := trivial
  have tk0_17 : True := trivial
  have tk0_18 : True := trivial
  have tk0_19 : True := trivial
  go_wp2_with (first
    | ((with_reducible refine gd_box ?_); have _t := tk0_0; refine wpList_box_agg rfl _ (.tmp 0) rfl rfl ?_; clear tk0_0; intro w1 hx1 hb1 hl1; have hz1 := hx1.lt; have hs1 := hb1.size)
    | ((with_reducible refine gd_box ?_); have _t := tk0_1; refine wpList_box_agg rfl _ (.tmp 1) rfl rfl ?_; clear tk0_1; intro w2 hx2 hb2 hl2; have hz2 := hx2.lt; have hs2 := hb2.size)
    | (go_at_call 10; have _t := tk0_2; refine (C1.out _).mono ?_; clear tk0_2; rintro e w3 ⟨rfl, hb3⟩; have hs3 := hb3.size)
    | ((with_reducible refine gd_alloc ?_); have _t := tk0_3; refine wpList_alloc_blk rfl 23 rfl zW ?_; clear tk0_3; intro w4 hx4 hb4 hl4; have hz4 := hx4.lt; have hs4 := hb4.size)
    | ((with_reducible refine gd_store ?_); have _t := tk0_4; refine wpList_store_all rfl 23 (.tmp 6) (.tmp 12) rfl (wcells 0) hx4 (by rw [HSW.out]; exact hW) (by rw [HSW.out]; exact HSW.out 0) (H1W.out _) (by rfl) (congrArg Value.agg HZW.out) ?_; clear tk0_4; intro w5 hx5 hg5; have hs5 := hg5.size)
    | ((with_reducible refine gd_load ?_); have _t := tk0_5; refine wpList_load_blk rfl 23 (.tmp 6) rfl hx5 (by rw [HSW.out]; exact hW) rfl ?_; clear tk0_5)
    | ((with_reducible refine gd_load ?_); have _t := tk0_6; refine wpList_load_blk rfl 23 (.tmp 2) rfl ((((hx1.ext hb2).ext hb3).ext hb4).grown hg5 (by simp; omega)) (by rw [HSW.out]; exact hW) rfl ?_; clear tk0_6)
    | (go_at_call 35; have _t := tk0_7; refine (C2.out _).mono ?_; clear tk0_7; rintro e w6 ⟨rfl, hb6⟩; have hs6 := hb6.size)
    | ((with_reducible refine gd_alloc ?_); have _t := tk0_8; refine wpList_alloc_blk rfl 23 rfl zW ?_; clear tk0_8; intro w7 hx7 hb7 hl7; have hz7 := hx7.lt; have hs7 := hb7.size)
    | ((with_reducible refine gd_store ?_); have _t := tk0_9; refine wpList_store_all rfl 23 (.tmp 7) (.tmp 15) rfl (wcells z3) hx7 (by rw [HSW.out]; exact hW) (by rw [HSW.out]; exact HSW.out 0) (H1W.out _) (by rfl) (by rfl) ?_; clear tk0_9; intro w8 hx8 hg8; have hs8 := hg8.size)
    | ((with_reducible refine gd_load ?_); have _t := tk0_10; refine wpList_load_blk rfl 23 (.tmp 6) rfl (((hx5.ext hb6).ext hb7).grown hg8 (by simp; omega)) (by rw [HSW.out]; exact hW) rfl ?_; clear tk0_10)
    | ((with_reducible refine gd_load ?_); have _t := tk0_11; refine wpList_load_blk rfl 23 (.tmp 3) rfl ((((((hx2.ext hb3).ext hb4).grown hg5 (by simp; omega)).ext hb6).ext hb7).grown hg8 (by simp; omega)) (by rw [HSW.out]; exact hW) rfl ?_; clear tk0_11)
    | (go_at_call 35; have _t := tk0_12; refine (C4.out _).mono ?_; clear tk0_12; rintro e w9 ⟨rfl, hb9⟩; have hs9 := hb9.size)
    | ((with_reducible refine gd_alloc ?_); have _t := tk0_13; refine wpList_alloc_blk rfl 23 rfl zW ?_; clear tk0_13; intro w10 hx10 hb10 hl10; have hz10 := hx10.lt; have hs10 := hb10.size)
    | ((with_reducible refine gd_store ?_); have _t := tk0_14; refine wpList_store_all rfl 23 (.tmp 8) (.tmp 18) rfl (wcells z5) hx10 (by rw [HSW.out]; exact hW) (by rw [HSW.out]; exact HSW.out 0) (H1W.out _) (by rfl) (by rfl) ?_; clear tk0_14; intro w11 hx11 hg11; have hs11 := hg11.size)
    | (go_at_call 12; have _t := tk0_15; refine (C6.out _).mono ?_; clear tk0_15; rintro e w12 ⟨rfl, hb12⟩; have hs12 := hb12.size)
    | (go_at_call 12; have _t := tk0_16; refine (C8.out _).mono ?_; clear tk0_16; rintro e w13 ⟨rfl, hb13⟩; have hs13 := hb13.size)
    | (go_at_call 14; have _t := tk0_17; refine (C10.out _).mono ?_; clear tk0_17; rintro e w14 ⟨rfl, hb14⟩; have hs14 := hb14.size)
    | ((with_reducible refine gd_alloc ?_); have _t := tk0_18; refine wpList_alloc_blk rfl 23 rfl zW ?_; clear tk0_18; intro w15 hx15 hb15 hl15; have hz15 := hx15.lt; have hs15 := hb15.size)
    | ((with_reducible refine gd_store ?_); have _t := tk0_19; refine wpList_store_all rfl 23 (.tmp 9) (.tmp 21) rfl (wcells z11) hx15 (by rw [HSW.out]; exact hW) (by rw [HSW.out]; exact HSW.out 0) (H1W.out _) (by rfl) (by rfl) ?_; clear tk0_19; intro w16 hx16 hg16; have hs16 := hg16.size)
    | fail)
  have hy1_1 := (((((((((((((((hx1.ext hb2).ext hb3).ext hb4).grown hg5 (by simp; omega)).ext hb6).ext hb7).grown hg8 (by simp; omega)).ext hb9).ext hb10).grown hg11 (by simp; omega)).ext hb12).ext hb13).ext hb14).ext hb15).grown hg16 (by simp; omega))
  have hy1_2 := ((((((((((((((hx2.ext hb3).ext hb4).grown hg5 (by simp; omega)).ext hb6).ext hb7).grown hg8 (by simp; omega)).ext hb9).ext hb10).grown hg11 (by simp; omega)).ext hb12).ext hb13).ext hb14).ext hb15).grown hg16 (by simp; omega))
  have hy1_3 := (((((((((((hx5.ext hb6).ext hb7).grown hg8 (by simp; omega)).ext hb9).ext hb10).grown hg11 (by simp; omega)).ext hb12).ext hb13).ext hb14).ext hb15).grown hg16 (by simp; omega))
  have hy1_4 := ((((((((hx8.ext hb9).ext hb10).grown hg11 (by simp; omega)).ext hb12).ext hb13).ext hb14).ext hb15).grown hg16 (by simp; omega))
  have hy1_5 := (((((hx11.ext hb12).ext hb13).ext hb14).ext hb15).grown hg16 (by simp; omega))
  have hy1_6 := hx16
  have hB1_1 := hb1
  have hB1_2 := below_step hB1_1 hb2
  have hB1_3 := below_step hB1_2 hb3
  have hB1_4 := below_step hB1_3 hb4
  have hB1_5 := below_blk hB1_4 hB1_4.size hg5 (by omega)
  have hB1_6 := below_step hB1_5 hb6
  have hB1_7 := below_step hB1_6 hb7
  have hB1_8 := below_blk hB1_7 hB1_7.size hg8 (by omega)
  have hB1_9 := below_step hB1_8 hb9
  have hB1_10 := below_step hB1_9 hb10
  have hB1_11 := below_blk hB1_10 hB1_10.size hg11 (by omega)
  have hB1_12 := below_step hB1_11 hb12
  have hB1_13 := below_step hB1_12 hb13
  have hB1_14 := below_step hB1_13 hb14
  have hB1_15 := below_step hB1_14 hb15
  have hB1_16 := below_blk hB1_15 hB1_15.size hg16 (by omega)
  clear hb1 hl1 hz1 hs1 hb2 hl2 hz2 hs2 hb3 hs3 hx4 hb4 hl4 hz4 hs4 hg5 hs5 hb6 hs6 hx7 hb7 hl7 hz7 hs7 hg8 hs8 hb9 hs9 hx10 hb10 hl10 hz10 hs10 hg11 hs11 hb12 hs12 hb13 hs13 hb14 hs14 hx15 hb15 hl15 hz15 hs15 hg16 hs16 hx1 hx11 hx16 hx2 hx5 hx8 hB1_1 hB1_2 hB1_3 hB1_4 hB1_5 hB1_6 hB1_7 hB1_8 hB1_9 hB1_10 hB1_11 hB1_12 hB1_13 hB1_14 hB1_15
  refine wp_region_made (w := w16) (B := w.heap.size) (wB := w) [.val (.agg (wcells a)), .val (.agg (wcells z11)), .val (.bool false), .val (.bool false), .val (.agg (wcells b)), .val (.agg (wcells z11)), .val (.bool true), .val (.bool true), .val (.bool true), .val undef, .val undef, .val undef, .val undef, .val undef, .val undef, .val undef, .val (.bool true), .val (.bool true)] (by kernel_rfl) (by kernel_rfl) (by kernel_rfl) rfl (by kernel_rfl) rfl hB1_16.size hB1_16 (by exact List.nodup_nil) (by intro g hg; exact nomatch hg) trivial ?_ ?_
  · refine ⟨?_, ?_, ?_, ?_, ?_, ?_, ?_, ?_, ?_, ?_, ?_, ?_, ?_, ?_, ?_, ?_, ?_, ?_, trivial⟩
    · intro G wx fr hway _ hs hdef hsz
      have s2 : fr.tmps[2]? = some (.pointer (some ⟨w.heap.size, 0, none⟩)) := hs.1
      clear hs
      refine ⟨?_⟩
      refine wpList_load_blk rfl 23 (.tmp 2) rfl (way_blk hway hy1_1 (by first | exact hy1_1.lt | omega) (by simp [heldBy, Knd.blockOf])) (by rw [HSW.out]; exact hW) (by simp [Act.eval, s2]) ?_
      refine wpList_nil ?_
      exact kp_val hdef hsz (Below.refl _ _)
    · intro G wx fr hway _ hs hdef hsz
      have s9 : fr.tmps[9]? = some (.pointer (some ⟨w14.heap.size, 0, none⟩)) := hs.1
      clear hs
      refine ⟨?_⟩
      refine wpList_load_blk rfl 23 (.tmp 9) rfl (way_blk hway hy1_6 (by first | exact hy1_6.lt | omega) (by simp [heldBy, Knd.blockOf])) (by rw [HSW.out]; exact hW) (by simp [Act.eval, s9]) ?_
      refine wpList_nil ?_
      exact kp_val hdef hsz (Below.refl _ _)
    · intro G wx fr hway _ hs hdef hsz
      have s22 : fr.tmps[22]? = some (.agg (wcells a)) := hs.1
      have s23 : fr.tmps[23]? = some (.agg (wcells z11)) := hs.2.1
      clear hs
      have hq := Q12.out
      refine ⟨?_⟩
      go_wp2
      exact kp_post hsz (Below.refl _ _)
    · intro G wx fr hway _ hs hdef hsz
      have s24 : fr.tmps[24]? = some (.bool false) := hs.1
      clear hs
      refine ⟨?_⟩
      go_wp2
      exact kp_post hsz (Below.refl _ _)
    · intro G wx fr hway _ hs hdef hsz
      have s3 : fr.tmps[3]? = some (.pointer (some ⟨w1.heap.size, 0, none⟩)) := hs.1
      have s25 : fr.tmps[25]? = some (.bool false) := hs.2.1
      clear hs
      refine ⟨?_⟩
      refine wpList_load_want (by simp [Region.wanted, yielded, *]) 23 (.tmp 3) rfl (way_blk hway hy1_2 (by first | exact hy1_2.lt | omega) (by simp [heldBy, Knd.blockOf])) (by rw [HSW.out]; exact hW) (by simp [Act.eval, s3]) ?_
      refine wpList_nil ?_
      exact kp_val hdef hsz (Below.refl _ _)
    · intro G wx fr hway _ hs hdef hsz
      have s9 : fr.tmps[9]? = some (.pointer (some ⟨w14.heap.size, 0, none⟩)) := hs.1
      have s25 : fr.tmps[25]? = some (.bool false) := hs.2.1
      clear hs
      refine ⟨?_⟩
      refine wpList_load_want (by simp [Region.wanted, yielded, *]) 23 (.tmp 9) rfl (way_blk hway hy1_6 (by first | exact hy1_6.lt | omega) (by simp [heldBy, Knd.blockOf])) (by rw [HSW.out]; exact hW) (by simp [Act.eval, s9]) ?_
      refine wpList_nil ?_
      exact kp_val hdef hsz (Below.refl _ _)
    · intro G wx fr hway _ hs hdef hsz
      have s26 : fr.tmps[26]? = some (.agg (wcells b)) := hs.1
      have s27 : fr.tmps[27]? = some (.agg (wcells z11)) := hs.2.1
      have s25 : fr.tmps[25]? = some (.bool false) := hs.2.2.1
      clear hs
      have hq := Q13.out
      refine ⟨?_⟩
      go_wp2
      exact kp_post hsz (Below.refl _ _)
    · intro G wx fr hway _ hs hdef hsz
      have s25 : fr.tmps[25]? = some (.bool false) := hs.1
      have s28 : fr.tmps[28]? = some (.bool true) := hs.2.1
      clear hs
      refine ⟨?_⟩
      go_wp2
      exact kp_post hsz (Below.refl _ _)
    · intro G wx fr hway _ hs hdef hsz
      have s29 : fr.tmps[29]? = some (.bool true) := hs.1
      clear hs
      refine ⟨?_⟩
      go_wp2
      exact kp_post hsz (Below.refl _ _)
    · intro G wx fr hway _ hs hdef hsz
      have s30 : fr.tmps[30]? = some (.bool true) := hs.2.1
      clear hs
      refine ⟨?_⟩
      go_wp2
      exact kp_post hsz (Below.refl _ _)
    · intro G wx fr hway _ hs hdef hsz
      have s30 : fr.tmps[30]? = some (.bool true) := hs.2.1
      clear hs
      refine ⟨?_⟩
      go_wp2
      exact kp_post hsz (Below.refl _ _)
    · intro G wx fr hway _ hs hdef hsz
      have s30 : fr.tmps[30]? = some (.bool true) := hs.2.2.1
      clear hs
      refine ⟨?_⟩
      go_wp2
      exact kp_post hsz (Below.refl _ _)
    · intro G wx fr hway _ hs hdef hsz
      have s30 : fr.tmps[30]? = some (.bool true) := hs.2.1
      clear hs
      refine ⟨?_⟩
      go_wp2
      exact kp_post hsz (Below.refl _ _)
    · intro G wx fr hway _ hs hdef hsz
      have s30 : fr.tmps[30]? = some (.bool true) := hs.2.1
      clear hs
      refine ⟨?_⟩
      go_wp2
      exact kp_post hsz (Below.refl _ _)
    · intro G wx fr hway _ hs hdef hsz
      have s30 : fr.tmps[30]? = some (.bool true) := hs.2.2.1
      clear hs
      refine ⟨?_⟩
      go_wp2
      exact kp_post hsz (Below.refl _ _)
    · intro G wx fr hway _ hs hdef hsz
      have s30 : fr.tmps[30]? = some (.bool true) := hs.2.2.1
      clear hs
      refine ⟨?_⟩
      go_wp2
      exact kp_post hsz (Below.refl _ _)
    · intro G wx fr hway _ hs hdef hsz
      have s30 : fr.tmps[30]? = some (.bool true) := hs.1
      have s37 : fr.tmps[37]? = some (undef) := hs.2.1
      clear hs
      refine ⟨?_⟩
      go_wp2
      exact kp_post hsz (Below.refl _ _)
    · intro G wx fr hway _ hs hdef hsz
      have s38 : fr.tmps[38]? = some (.bool true) := hs.1
      clear hs
      refine ⟨?_⟩
      go_wp2
      exact kp_post hsz (Below.refl _ _)
  · intro G V wr3 hval hway hmade hap
    replace hval : V 0 = .agg (wcells a) ∧ V 1 = .agg (wcells z11) ∧ V 2 = .bool false ∧ V 3 = .bool false ∧ V 4 = .agg (wcells b) ∧ V 5 = .agg (wcells z11) ∧ V 6 = .bool true ∧ V 7 = .bool true ∧ V 8 = .bool true ∧ V 9 = undef ∧ V 10 = undef ∧ V 11 = undef ∧ V 12 = undef ∧ V 13 = undef ∧ V 14 = undef ∧ V 15 = undef ∧ V 16 = .bool true ∧ V 17 = .bool true ∧ True := hval
    replace hmade : True := hmade
    obtain ⟨e3_0, e3_1, e3_2, e3_3, e3_4, e3_5, e3_6, e3_7, e3_8, e3_9, e3_10, e3_11, e3_12, e3_13, e3_14, e3_15, e3_16, e3_17, -⟩ := hval
    obtain ⟨-⟩ := hmade
    clear hap
    simp only [fill, Act.put, e3_0, e3_1, e3_2, e3_3, e3_4, e3_5, e3_6, e3_7, e3_8, e3_9, e3_10, e3_11, e3_12, e3_13, e3_14, e3_15, e3_16, e3_17]
    clear e3_0 e3_1 e3_2 e3_3 e3_4 e3_5 e3_6 e3_7 e3_8 e3_9 e3_10 e3_11 e3_12 e3_13 e3_14 e3_15 e3_16 e3_17
    simp only [Exit.then]
    go_simp
    clear G V
    replace hy1_1 := way_blk hway hy1_1 hy1_1.lt (by simp [heldBy, Knd.blockOf])
    replace hy1_2 := way_blk hway hy1_2 hy1_2.lt (by simp [heldBy, Knd.blockOf])
    replace hy1_3 := way_blk hway hy1_3 hy1_3.lt (by simp [heldBy, Knd.blockOf])
    replace hy1_4 := way_blk hway hy1_4 hy1_4.lt (by simp [heldBy, Knd.blockOf])
    replace hy1_5 := way_blk hway hy1_5 hy1_5.lt (by simp [heldBy, Knd.blockOf])
    replace hy1_6 := way_blk hway hy1_6 hy1_6.lt (by simp [heldBy, Knd.blockOf])
    replace hB1_16 := hway.2.2
    clear hway
    go_wp2
    refine wp_region_made (w := wr3) (B := w.heap.size) (wB := w) ((.val (.bool true)) :: (.val (.bool true)) :: (.val (.agg (wcells a))) :: (.val (.agg (wcells z3))) :: (.val (.agg (wcells z15))) :: (.val (.agg (wcells 0))) :: (.val (.bool true)) :: (.val (.bool true)) :: (.val (.bool true)) :: (.val (.agg (wcells a))) :: (.val (.agg (wcells z18))) :: (.val (.agg (wcells z20))) :: (.val (.agg (wcells z3))) :: (.val (.bool true)) :: (.val (.bool true)) :: (.val (.bool true)) :: (.val (.bool true)) :: (.val (.bool true)) :: (.val (.bool true)) :: (.val (.agg (wcells a))) :: (.val (.agg (wcells b))) :: (.val (.int .i64 (-u))) :: (.val (.agg (wcells b))) :: (.val (.agg (wcells a))) :: (.val (.int .i64 u)) :: (.val (.int .i64 (-u))) :: (.val (.bool true)) :: (.val (.bool true)) :: (.val (.bool true)) :: (.val (.agg (wcells a))) :: (.val (.agg (wcells b))) :: (.val (.int .i64 (-v))) :: (.val (.agg (wcells b))) :: (.val (.agg (wcells a))) :: (.val (.int .i64 v)) :: (.val (.int .i64 (-v))) :: (.val (.bool true)) :: (.val (.bool true)) :: (.val (.bool true)) :: (.val (.agg (wcells a))) :: (.val (.agg (wcells b))) :: (.val (.int .i64 (-v))) :: (.val (.bool false)) :: (.val (.agg (wcells a))) :: (.val (.agg (wcells b))) :: (.val (.bool false)) :: (.val (.bool true)) :: (.val (.bool true)) :: (.val (.bool true)) :: []) (by kernel_rfl) (by kernel_rfl) (by kernel_rfl) rfl (by kernel_rfl) rfl hB1_16.size hB1_16 (by exact List.nodup_nil) (by intro g hg; exact nomatch hg) trivial ?_ ?_
    · refine ⟨?_, ?_, ?_, ?_, ?_, ?_, ?_, ?_, ?_, ?_, ?_, ?_, ?_, ?_, ?_, ?_, ?_, ?_, ?_, ?_, ?_, ?_, ?_, ?_, ?_, ?_, ?_, ?_, ?_, ?_, ?_, ?_, ?_, ?_, ?_, ?_, ?_, ?_, ?_, ?_, ?_, ?_, ?_, ?_, ?_, ?_, ?_, ?_, ?_, trivial⟩
      · intro G wx fr hway _ hs hdef hsz
        have s5 : fr.tmps[5]? = some (.bool true) := hs.1
        clear hs
        refine ⟨?_⟩
        go_wp2
        exact kp_post hsz (Below.refl _ _)
      · intro G wx fr hway _ hs hdef hsz
        have s39 : fr.tmps[39]? = some (.bool true) := hs.1
        clear hs
        refine ⟨?_⟩
        go_wp2
        exact kp_post hsz (Below.refl _ _)
      · intro G wx fr hway _ hs hdef hsz
        have s2 : fr.tmps[2]? = some (.pointer (some ⟨w.heap.size, 0, none⟩)) := hs.1
        have s40 : fr.tmps[40]? = some (.bool true) := hs.2.1
        clear hs
        refine ⟨?_⟩
        refine wpList_load_want (by simp [Region.wanted, yielded, *]) 23 (.tmp 2) rfl (way_blk hway hy1_1 (by first | exact hy1_1.lt | omega) (by simp [heldBy, Knd.blockOf])) (by rw [HSW.out]; exact hW) (by simp [Act.eval, s2]) ?_
        refine wpList_nil ?_
        exact kp_val hdef hsz (Below.refl _ _)
      · intro G wx fr hway _ hs hdef hsz
        have s7 : fr.tmps[7]? = some (.pointer (some ⟨w6.heap.size, 0, none⟩)) := hs.1
        have s40 : fr.tmps[40]? = some (.bool true) := hs.2.1
        clear hs
        refine ⟨?_⟩
        refine wpList_load_want (by simp [Region.wanted, yielded, *]) 23 (.tmp 7) rfl (way_blk hway hy1_4 (by first | exact hy1_4.lt | omega) (by simp [heldBy, Knd.blockOf])) (by rw [HSW.out]; exact hW) (by simp [Act.eval, s7]) ?_
        refine wpList_nil ?_
        exact kp_val hdef hsz (Below.refl _ _)
      · intro G wx fr hway _ hs hdef hsz
        have s41 : fr.tmps[41]? = some (.agg (wcells a)) := hs.1
        have s42 : fr.tmps[42]? = some (.agg (wcells z3)) := hs.2.1
        have s40 : fr.tmps[40]? = some (.bool true) := hs.2.2.1
        clear hs
        refine ⟨?_⟩
        go_wp2_with fail
        refine (C14.out wx).mono ?_
        rintro e w2 ⟨rfl, hb2⟩
        go_wp2
        exact kp_post hsz hb2
      · intro G wx fr hway _ hs hdef hsz
        have s6 : fr.tmps[6]? = some (.pointer (some ⟨w3.heap.size, 0, none⟩)) := hs.1
        have s40 : fr.tmps[40]? = some (.bool true) := hs.2.1
        clear hs
        refine ⟨?_⟩
        refine wpList_load_want (by simp [Region.wanted, yielded, *]) 23 (.tmp 6) rfl (way_blk hway hy1_3 (by first | exact hy1_3.lt | omega) (by simp [heldBy, Knd.blockOf])) (by rw [HSW.out]; exact hW) (by simp [Act.eval, s6]) ?_
        refine wpList_nil ?_
        exact kp_val hdef hsz (Below.refl _ _)
      · intro G wx fr hway _ hs hdef hsz
        have s43 : fr.tmps[43]? = some (.agg (wcells z15)) := hs.1
        have s44 : fr.tmps[44]? = some (.agg (wcells 0)) := hs.2.1
        have s40 : fr.tmps[40]? = some (.bool true) := hs.2.2.1
        clear hs
        have hq := Q16.out
        refine ⟨?_⟩
        go_wp2
        exact kp_post hsz (Below.refl _ _)
      · intro G wx fr hway _ hs hdef hsz
        have s40 : fr.tmps[40]? = some (.bool true) := hs.1
        have s45 : fr.tmps[45]? = some (.bool true) := hs.2.1
        clear hs
        refine ⟨?_⟩
        go_wp2
        exact kp_post hsz (Below.refl _ _)
      · intro G wx fr hway _ hs hdef hsz
        have s46 : fr.tmps[46]? = some (.bool true) := hs.1
        clear hs
        refine ⟨?_⟩
        go_wp2
        exact kp_post hsz (Below.refl _ _)
      · intro G wx fr hway _ hs hdef hsz
        have s2 : fr.tmps[2]? = some (.pointer (some ⟨w.heap.size, 0, none⟩)) := hs.1
        have s47 : fr.tmps[47]? = some (.bool true) := hs.2.1
        clear hs
        refine ⟨?_⟩
        refine wpList_load_want (by simp [Region.wanted, yielded, *]) 23 (.tmp 2) rfl (way_blk hway hy1_1 (by first | exact hy1_1.lt | omega) (by simp [heldBy, Knd.blockOf])) (by rw [HSW.out]; exact hW) (by simp [Act.eval, s2]) ?_
        refine wpList_nil ?_
        exact kp_val hdef hsz (Below.refl _ _)
      · intro G wx fr hway _ hs hdef hsz
        have s47 : fr.tmps[47]? = some (.bool true) := hs.1
        clear hs
        refine ⟨?_⟩
        go_wp2_with fail
        refine (C17.out wx).mono ?_
        rintro e w2 ⟨rfl, hb2⟩
        go_wp2
        exact kp_post hsz hb2
      · intro G wx fr hway _ hs hdef hsz
        have s48 : fr.tmps[48]? = some (.agg (wcells a)) := hs.1
        have s49 : fr.tmps[49]? = some (.agg (wcells z18)) := hs.2.1
        have s47 : fr.tmps[47]? = some (.bool true) := hs.2.2.1
        clear hs
        refine ⟨?_⟩
        go_wp2_with fail
        refine (C19.out wx).mono ?_
        rintro e w2 ⟨rfl, hb2⟩
        go_wp2
        exact kp_post hsz hb2
      · intro G wx fr hway _ hs hdef hsz
        have s7 : fr.tmps[7]? = some (.pointer (some ⟨w6.heap.size, 0, none⟩)) := hs.1
        have s47 : fr.tmps[47]? = some (.bool true) := hs.2.1
        clear hs
        refine ⟨?_⟩
        refine wpList_load_want (by simp [Region.wanted, yielded, *]) 23 (.tmp 7) rfl (way_blk hway hy1_4 (by first | exact hy1_4.lt | omega) (by simp [heldBy, Knd.blockOf])) (by rw [HSW.out]; exact hW) (by simp [Act.eval, s7]) ?_
        refine wpList_nil ?_
        exact kp_val hdef hsz (Below.refl _ _)
      · intro G wx fr hway _ hs hdef hsz
        have s50 : fr.tmps[50]? = some (.agg (wcells z20)) := hs.1
        have s51 : fr.tmps[51]? = some (.agg (wcells z3)) := hs.2.1
        have s47 : fr.tmps[47]? = some (.bool true) := hs.2.2.1
        clear hs
        have hq := Q21.out
        refine ⟨?_⟩
        go_wp2
        exact kp_post hsz (Below.refl _ _)
      · intro G wx fr hway _ hs hdef hsz
        have s47 : fr.tmps[47]? = some (.bool true) := hs.1
        have s52 : fr.tmps[52]? = some (.bool true) := hs.2.1
        clear hs
        refine ⟨?_⟩
        go_wp2
        exact kp_post hsz (Below.refl _ _)
      · intro G wx fr hway _ hs hdef hsz
        have s53 : fr.tmps[53]? = some (.bool true) := hs.1
        clear hs
        refine ⟨?_⟩
        go_wp2
        exact kp_post hsz (Below.refl _ _)
      · intro G wx fr hway _ hs hdef hsz
        have s10 : fr.tmps[10]? = some (.bool true) := hs.1
        have s54 : fr.tmps[54]? = some (.bool true) := hs.2.1
        clear hs
        refine ⟨?_⟩
        go_wp2
        exact kp_post hsz (Below.refl _ _)
      · intro G wx fr hway _ hs hdef hsz
        have s54 : fr.tmps[54]? = some (.bool true) := hs.1
        have s55 : fr.tmps[55]? = some (.bool true) := hs.2.1
        clear hs
        refine ⟨?_⟩
        go_wp2
        exact kp_post hsz (Below.refl _ _)
      · intro G wx fr hway _ hs hdef hsz
        have s56 : fr.tmps[56]? = some (.bool true) := hs.1
        clear hs
        refine ⟨?_⟩
        go_wp2
        exact kp_post hsz (Below.refl _ _)
      · intro G wx fr hway _ hs hdef hsz
        have s2 : fr.tmps[2]? = some (.pointer (some ⟨w.heap.size, 0, none⟩)) := hs.1
        have s57 : fr.tmps[57]? = some (.bool true) := hs.2.1
        clear hs
        refine ⟨?_⟩
        refine wpList_load_want (by simp [Region.wanted, yielded, *]) 23 (.tmp 2) rfl (way_blk hway hy1_1 (by first | exact hy1_1.lt | omega) (by simp [heldBy, Knd.blockOf])) (by rw [HSW.out]; exact hW) (by simp [Act.eval, s2]) ?_
        refine wpList_nil ?_
        exact kp_val hdef hsz (Below.refl _ _)
      · intro G wx fr hway _ hs hdef hsz
        have s3 : fr.tmps[3]? = some (.pointer (some ⟨w1.heap.size, 0, none⟩)) := hs.1
        have s57 : fr.tmps[57]? = some (.bool true) := hs.2.1
        clear hs
        refine ⟨?_⟩
        refine wpList_load_want (by simp [Region.wanted, yielded, *]) 23 (.tmp 3) rfl (way_blk hway hy1_2 (by first | exact hy1_2.lt | omega) (by simp [heldBy, Knd.blockOf])) (by rw [HSW.out]; exact hW) (by simp [Act.eval, s3]) ?_
        refine wpList_nil ?_
        exact kp_val hdef hsz (Below.refl _ _)
      · intro G wx fr hway _ hs hdef hsz
        have s58 : fr.tmps[58]? = some (.agg (wcells a)) := hs.1
        have s59 : fr.tmps[59]? = some (.agg (wcells b)) := hs.2.1
        have s57 : fr.tmps[57]? = some (.bool true) := hs.2.2.1
        clear hs
        refine ⟨?_⟩
        go_wp2_with fail
        refine (C22.out wx).mono ?_
        rintro e w2 ⟨rfl, hb2⟩
        go_wp2
        exact kp_post hsz hb2
      · intro G wx fr hway _ hs hdef hsz
        have s3 : fr.tmps[3]? = some (.pointer (some ⟨w1.heap.size, 0, none⟩)) := hs.1
        have s57 : fr.tmps[57]? = some (.bool true) := hs.2.1
        clear hs
        refine ⟨?_⟩
        refine wpList_load_want (by simp [Region.wanted, yielded, *]) 23 (.tmp 3) rfl (way_blk hway hy1_2 (by first | exact hy1_2.lt | omega) (by simp [heldBy, Knd.blockOf])) (by rw [HSW.out]; exact hW) (by simp [Act.eval, s3]) ?_
        refine wpList_nil ?_
        exact kp_val hdef hsz (Below.refl _ _)
      · intro G wx fr hway _ hs hdef hsz
        have s2 : fr.tmps[2]? = some (.pointer (some ⟨w.heap.size, 0, none⟩)) := hs.1
        have s57 : fr.tmps[57]? = some (.bool true) := hs.2.1
        clear hs
        refine ⟨?_⟩
        refine wpList_load_want (by simp [Region.wanted, yielded, *]) 23 (.tmp 2) rfl (way_blk hway hy1_1 (by first | exact hy1_1.lt | omega) (by simp [heldBy, Knd.blockOf])) (by rw [HSW.out]; exact hW) (by simp [Act.eval, s2]) ?_
        refine wpList_nil ?_
        exact kp_val hdef hsz (Below.refl _ _)
      · intro G wx fr hway _ hs hdef hsz
        have s61 : fr.tmps[61]? = some (.agg (wcells b)) := hs.1
        have s62 : fr.tmps[62]? = some (.agg (wcells a)) := hs.2.1
        have s57 : fr.tmps[57]? = some (.bool true) := hs.2.2.1
        clear hs
        refine ⟨?_⟩
        go_wp2_with fail
        refine (C23.out wx).mono ?_
        rintro e w2 ⟨rfl, hb2⟩
        go_wp2
        exact kp_post hsz hb2
      · intro G wx fr hway _ hs hdef hsz
        have s63 : fr.tmps[63]? = some (.int .i64 u) := hs.1
        have s57 : fr.tmps[57]? = some (.bool true) := hs.2.1
        clear hs
        refine ⟨?_⟩
        go_wp2
        exact kp_post hsz (Below.refl _ _)
      · intro G wx fr hway _ hs hdef hsz
        have s60 : fr.tmps[60]? = some (.int .i64 (-u)) := hs.1
        have s64 : fr.tmps[64]? = some (.int .i64 (-u)) := hs.2.1
        have s57 : fr.tmps[57]? = some (.bool true) := hs.2.2.1
        clear hs
        refine ⟨?_⟩
        go_wp2
        exact kp_post hsz (Below.refl _ _)
      · intro G wx fr hway _ hs hdef hsz
        have s57 : fr.tmps[57]? = some (.bool true) := hs.1
        have s65 : fr.tmps[65]? = some (.bool true) := hs.2.1
        clear hs
        refine ⟨?_⟩
        go_wp2
        exact kp_post hsz (Below.refl _ _)
      · intro G wx fr hway _ hs hdef hsz
        have s66 : fr.tmps[66]? = some (.bool true) := hs.1
        clear hs
        refine ⟨?_⟩
        go_wp2
        exact kp_post hsz (Below.refl _ _)
      · intro G wx fr hway _ hs hdef hsz
        have s2 : fr.tmps[2]? = some (.pointer (some ⟨w.heap.size, 0, none⟩)) := hs.1
        have s67 : fr.tmps[67]? = some (.bool true) := hs.2.1
        clear hs
        refine ⟨?_⟩
        refine wpList_load_want (by simp [Region.wanted, yielded, *]) 23 (.tmp 2) rfl (way_blk hway hy1_1 (by first | exact hy1_1.lt | omega) (by simp [heldBy, Knd.blockOf])) (by rw [HSW.out]; exact hW) (by simp [Act.eval, s2]) ?_
        refine wpList_nil ?_
        exact kp_val hdef hsz (Below.refl _ _)
      · intro G wx fr hway _ hs hdef hsz
        have s3 : fr.tmps[3]? = some (.pointer (some ⟨w1.heap.size, 0, none⟩)) := hs.1
        have s67 : fr.tmps[67]? = some (.bool true) := hs.2.1
        clear hs
        refine ⟨?_⟩
        refine wpList_load_want (by simp [Region.wanted, yielded, *]) 23 (.tmp 3) rfl (way_blk hway hy1_2 (by first | exact hy1_2.lt | omega) (by simp [heldBy, Knd.blockOf])) (by rw [HSW.out]; exact hW) (by simp [Act.eval, s3]) ?_
        refine wpList_nil ?_
        exact kp_val hdef hsz (Below.refl _ _)
      · intro G wx fr hway _ hs hdef hsz
        have s68 : fr.tmps[68]? = some (.agg (wcells a)) := hs.1
        have s69 : fr.tmps[69]? = some (.agg (wcells b)) := hs.2.1
        have s67 : fr.tmps[67]? = some (.bool true) := hs.2.2.1
        clear hs
        refine ⟨?_⟩
        go_wp2_with fail
        refine (C24.out wx).mono ?_
        rintro e w2 ⟨rfl, hb2⟩
        go_wp2
        exact kp_post hsz hb2
      · intro G wx fr hway _ hs hdef hsz
        have s3 : fr.tmps[3]? = some (.pointer (some ⟨w1.heap.size, 0, none⟩)) := hs.1
        have s67 : fr.tmps[67]? = some (.bool true) := hs.2.1
        clear hs
        refine ⟨?_⟩
        refine wpList_load_want (by simp [Region.wanted, yielded, *]) 23 (.tmp 3) rfl (way_blk hway hy1_2 (by first | exact hy1_2.lt | omega) (by simp [heldBy, Knd.blockOf])) (by rw [HSW.out]; exact hW) (by simp [Act.eval, s3]) ?_
        refine wpList_nil ?_
        exact kp_val hdef hsz (Below.refl _ _)
      · intro G wx fr hway _ hs hdef hsz
        have s2 : fr.tmps[2]? = some (.pointer (some ⟨w.heap.size, 0, none⟩)) := hs.1
        have s67 : fr.tmps[67]? = some (.bool true) := hs.2.1
        clear hs
        refine ⟨?_⟩
        refine wpList_load_want (by simp [Region.wanted, yielded, *]) 23 (.tmp 2) rfl (way_blk hway hy1_1 (by first | exact hy1_1.lt | omega) (by simp [heldBy, Knd.blockOf])) (by rw [HSW.out]; exact hW) (by simp [Act.eval, s2]) ?_
        refine wpList_nil ?_
        exact kp_val hdef hsz (Below.refl _ _)
      · intro G wx fr hway _ hs hdef hsz
        have s71 : fr.tmps[71]? = some (.agg (wcells b)) := hs.1
        have s72 : fr.tmps[72]? = some (.agg (wcells a)) := hs.2.1
        have s67 : fr.tmps[67]? = some (.bool true) := hs.2.2.1
        clear hs
        refine ⟨?_⟩
        go_wp2_with fail
        refine (C25.out wx).mono ?_
        rintro e w2 ⟨rfl, hb2⟩
        go_wp2
        exact kp_post hsz hb2
      · intro G wx fr hway _ hs hdef hsz
        have s73 : fr.tmps[73]? = some (.int .i64 v) := hs.1
        have s67 : fr.tmps[67]? = some (.bool true) := hs.2.1
        clear hs
        refine ⟨?_⟩
        go_wp2
        exact kp_post hsz (Below.refl _ _)
      · intro G wx fr hway _ hs hdef hsz
        have s70 : fr.tmps[70]? = some (.int .i64 (-v)) := hs.1
        have s74 : fr.tmps[74]? = some (.int .i64 (-v)) := hs.2.1
        have s67 : fr.tmps[67]? = some (.bool true) := hs.2.2.1
        clear hs
        refine ⟨?_⟩
        go_wp2
        exact kp_post hsz (Below.refl _ _)
      · intro G wx fr hway _ hs hdef hsz
        have s67 : fr.tmps[67]? = some (.bool true) := hs.1
        have s75 : fr.tmps[75]? = some (.bool true) := hs.2.1
        clear hs
        refine ⟨?_⟩
        go_wp2
        exact kp_post hsz (Below.refl _ _)
      · intro G wx fr hway _ hs hdef hsz
        have s76 : fr.tmps[76]? = some (.bool true) := hs.1
        clear hs
        refine ⟨?_⟩
        go_wp2
        exact kp_post hsz (Below.refl _ _)
      · intro G wx fr hway _ hs hdef hsz
        have s2 : fr.tmps[2]? = some (.pointer (some ⟨w.heap.size, 0, none⟩)) := hs.1
        have s77 : fr.tmps[77]? = some (.bool true) := hs.2.1
        clear hs
        refine ⟨?_⟩
        refine wpList_load_want (by simp [Region.wanted, yielded, *]) 23 (.tmp 2) rfl (way_blk hway hy1_1 (by first | exact hy1_1.lt | omega) (by simp [heldBy, Knd.blockOf])) (by rw [HSW.out]; exact hW) (by simp [Act.eval, s2]) ?_
        refine wpList_nil ?_
        exact kp_val hdef hsz (Below.refl _ _)
      · intro G wx fr hway _ hs hdef hsz
        have s3 : fr.tmps[3]? = some (.pointer (some ⟨w1.heap.size, 0, none⟩)) := hs.1
        have s77 : fr.tmps[77]? = some (.bool true) := hs.2.1
        clear hs
        refine ⟨?_⟩
        refine wpList_load_want (by simp [Region.wanted, yielded, *]) 23 (.tmp 3) rfl (way_blk hway hy1_2 (by first | exact hy1_2.lt | omega) (by simp [heldBy, Knd.blockOf])) (by rw [HSW.out]; exact hW) (by simp [Act.eval, s3]) ?_
        refine wpList_nil ?_
        exact kp_val hdef hsz (Below.refl _ _)
      · intro G wx fr hway _ hs hdef hsz
        have s78 : fr.tmps[78]? = some (.agg (wcells a)) := hs.1
        have s79 : fr.tmps[79]? = some (.agg (wcells b)) := hs.2.1
        have s77 : fr.tmps[77]? = some (.bool true) := hs.2.2.1
        clear hs
        refine ⟨?_⟩
        go_wp2_with fail
        refine (C24.out wx).mono ?_
        rintro e w2 ⟨rfl, hb2⟩
        go_wp2
        exact kp_post hsz hb2
      · intro G wx fr hway _ hs hdef hsz
        have s80 : fr.tmps[80]? = some (.int .i64 (-v)) := hs.1
        have s77 : fr.tmps[77]? = some (.bool true) := hs.2.1
        clear hs
        refine ⟨?_⟩
        go_wp2
        exact kp_post hsz (Below.refl _ _)
      · intro G wx fr hway _ hs hdef hsz
        have s2 : fr.tmps[2]? = some (.pointer (some ⟨w.heap.size, 0, none⟩)) := hs.1
        have s77 : fr.tmps[77]? = some (.bool true) := hs.2.1
        clear hs
        refine ⟨?_⟩
        refine wpList_load_want (by simp [Region.wanted, yielded, *]) 23 (.tmp 2) rfl (way_blk hway hy1_1 (by first | exact hy1_1.lt | omega) (by simp [heldBy, Knd.blockOf])) (by rw [HSW.out]; exact hW) (by simp [Act.eval, s2]) ?_
        refine wpList_nil ?_
        exact kp_val hdef hsz (Below.refl _ _)
      · intro G wx fr hway _ hs hdef hsz
        have s3 : fr.tmps[3]? = some (.pointer (some ⟨w1.heap.size, 0, none⟩)) := hs.1
        have s77 : fr.tmps[77]? = some (.bool true) := hs.2.1
        clear hs
        refine ⟨?_⟩
        refine wpList_load_want (by simp [Region.wanted, yielded, *]) 23 (.tmp 3) rfl (way_blk hway hy1_2 (by first | exact hy1_2.lt | omega) (by simp [heldBy, Knd.blockOf])) (by rw [HSW.out]; exact hW) (by simp [Act.eval, s3]) ?_
        refine wpList_nil ?_
        exact kp_val hdef hsz (Below.refl _ _)
      · intro G wx fr hway _ hs hdef hsz
        have s82 : fr.tmps[82]? = some (.agg (wcells a)) := hs.1
        have s83 : fr.tmps[83]? = some (.agg (wcells b)) := hs.2.1
        have s77 : fr.tmps[77]? = some (.bool true) := hs.2.2.1
        clear hs
        have hq := Q26.out
        refine ⟨?_⟩
        go_wp2
        exact kp_post hsz (Below.refl _ _)
      · intro G wx fr hway _ hs hdef hsz
        have s81 : fr.tmps[81]? = some (.bool false) := hs.1
        have s84 : fr.tmps[84]? = some (.bool false) := hs.2.1
        have s77 : fr.tmps[77]? = some (.bool true) := hs.2.2.1
        clear hs
        refine ⟨?_⟩
        go_wp2
        exact kp_post hsz (Below.refl _ _)
      · intro G wx fr hway _ hs hdef hsz
        have s77 : fr.tmps[77]? = some (.bool true) := hs.1
        have s85 : fr.tmps[85]? = some (.bool true) := hs.2.1
        clear hs
        refine ⟨?_⟩
        go_wp2
        exact kp_post hsz (Below.refl _ _)
      · intro G wx fr hway _ hs hdef hsz
        have s86 : fr.tmps[86]? = some (.bool true) := hs.1
        clear hs
        refine ⟨?_⟩
        go_wp2
        exact kp_post hsz (Below.refl _ _)
    · intro G V wr4 hval hway hmade hap
      replace hval : V 0 = .bool true ∧ V 1 = .bool true ∧ V 2 = .agg (wcells a) ∧ V 3 = .agg (wcells z3) ∧ V 4 = .agg (wcells z15) ∧ V 5 = .agg (wcells 0) ∧ V 6 = .bool true ∧ V 7 = .bool true ∧ V 8 = .bool true ∧ V 9 = .agg (wcells a) ∧ V 10 = .agg (wcells z18) ∧ V 11 = .agg (wcells z20) ∧ V 12 = .agg (wcells z3) ∧ V 13 = .bool true ∧ V 14 = .bool true ∧ V 15 = .bool true ∧ V 16 = .bool true ∧ V 17 = .bool true ∧ V 18 = .bool true ∧ V 19 = .agg (wcells a) ∧ V 20 = .agg (wcells b) ∧ V 21 = .int .i64 (-u) ∧ V 22 = .agg (wcells b) ∧ V 23 = .agg (wcells a) ∧ V 24 = .int .i64 u ∧ V 25 = .int .i64 (-u) ∧ V 26 = .bool true ∧ V 27 = .bool true ∧ V 28 = .bool true ∧ V 29 = .agg (wcells a) ∧ V 30 = .agg (wcells b) ∧ V 31 = .int .i64 (-v) ∧ V 32 = .agg (wcells b) ∧ V 33 = .agg (wcells a) ∧ V 34 = .int .i64 v ∧ V 35 = .int .i64 (-v) ∧ V 36 = .bool true ∧ V 37 = .bool true ∧ V 38 = .bool true ∧ V 39 = .agg (wcells a) ∧ V 40 = .agg (wcells b) ∧ V 41 = .int .i64 (-v) ∧ V 42 = .bool false ∧ V 43 = .agg (wcells a) ∧ V 44 = .agg (wcells b) ∧ V 45 = .bool false ∧ V 46 = .bool true ∧ V 47 = .bool true ∧ V 48 = .bool true ∧ True := hval
      replace hmade : True := hmade
      obtain ⟨e4_0, e4_1, e4_2, e4_3, e4_4, e4_5, e4_6, e4_7, e4_8, e4_9, e4_10, e4_11, e4_12, e4_13, e4_14, e4_15, e4_16, e4_17, e4_18, e4_19, e4_20, e4_21, e4_22, e4_23, e4_24, e4_25, e4_26, e4_27, e4_28, e4_29, e4_30, e4_31, e4_32, e4_33, e4_34, e4_35, e4_36, e4_37, e4_38, e4_39, e4_40, e4_41, e4_42, e4_43, e4_44, e4_45, e4_46, e4_47, e4_48, -⟩ := hval
      obtain ⟨-⟩ := hmade
      clear hap
      simp only [fill, Act.put, e4_0, e4_1, e4_2, e4_3, e4_4, e4_5, e4_6, e4_7, e4_8, e4_9, e4_10, e4_11, e4_12, e4_13, e4_14, e4_15, e4_16, e4_17, e4_18, e4_19, e4_20, e4_21, e4_22, e4_23, e4_24, e4_25, e4_26, e4_27, e4_28, e4_29, e4_30, e4_31, e4_32, e4_33, e4_34, e4_35, e4_36, e4_37, e4_38, e4_39, e4_40, e4_41, e4_42, e4_43, e4_44, e4_45, e4_46, e4_47, e4_48]
      clear e4_0 e4_1 e4_2 e4_3 e4_4 e4_5 e4_6 e4_7 e4_8 e4_9 e4_10 e4_11 e4_12 e4_13 e4_14 e4_15 e4_16 e4_17 e4_18 e4_19 e4_20 e4_21 e4_22 e4_23 e4_24 e4_25 e4_26 e4_27 e4_28 e4_29 e4_30 e4_31 e4_32 e4_33 e4_34 e4_35 e4_36 e4_37 e4_38 e4_39 e4_40 e4_41 e4_42 e4_43 e4_44 e4_45 e4_46 e4_47 e4_48
      simp only [Exit.then]
      go_simp
      clear G V
      replace hy1_1 := way_blk hway hy1_1 hy1_1.lt (by simp [heldBy, Knd.blockOf])
      replace hy1_2 := way_blk hway hy1_2 hy1_2.lt (by simp [heldBy, Knd.blockOf])
      replace hy1_3 := way_blk hway hy1_3 hy1_3.lt (by simp [heldBy, Knd.blockOf])
      replace hy1_4 := way_blk hway hy1_4 hy1_4.lt (by simp [heldBy, Knd.blockOf])
      replace hy1_5 := way_blk hway hy1_5 hy1_5.lt (by simp [heldBy, Knd.blockOf])
      replace hy1_6 := way_blk hway hy1_6 hy1_6.lt (by simp [heldBy, Knd.blockOf])
      replace hB1_16 := hway.2.2
      clear hway
      go_wp2
      go_ret
      exact ⟨rfl, hB1_16⟩
set_option maxRecDepth 100000 in
set_option maxHeartbeats 8000000 in
theorem walk_ffe (a b : Nat) (u : Int) (w : World) (ha : a < 2 ^ 256) (hb : b < 2 ^ 256) (hl1 : Kept (a ≠ shlN (ofN 255) (ofN 1))) (hl2 : Kept (b ≠ shlN (ofN 255) (ofN 1))) (hab : Kept (a = b)) (hu : Kept (scmpN a b = -u)) (hu2 : Kept (scmpN b a = u)) (u1 : -1 ≤ u) (u2 : u ≤ 1) (hv : Kept (cmpN a b = 0)) (hv2 : Kept (cmpN b a = 0)) : Calls Try.prog 7 #[.agg (wcells a), .agg (wcells b)] w fun e w' => e = .returned (.bool true) ∧ Below w.heap.size w w' := by
  have hW := wordTy
  have zW := zWordL
  have HSW := Lib.hid wcells_size
  have H1W := Lib.hid wcells_one
  have HZW := Lib.hid wcells_lit0
  have C1 := Lib.hid (fun w => alive1 w)
  obtain ⟨z3, Ez3⟩ : ∃ z, z = (0 + 2 ^ 256 - a) % 2 ^ 256 := ⟨_, rfl⟩
  have hz3 : z3 < 2 ^ 256 := by rw [Ez3]; exact (Nat.mod_lt _ (by decide))
  have C2 := Lib.hid (fun w => Sub_any 0 a w (by decide) ha)
  rw [← Ez3] at C2
  obtain ⟨z5, Ez5⟩ : ∃ z, z = (0 + 2 ^ 256 - b) % 2 ^ 256 := ⟨_, rfl⟩
  have hz5 : z5 < 2 ^ 256 := by rw [Ez5]; exact (Nat.mod_lt _ (by decide))
  have C4 := Lib.hid (fun w => Sub_any 0 b w (by decide) hb)
  rw [← Ez5] at C4
  obtain ⟨z7, Ez7⟩ : ∃ z, z = ofN 255 := ⟨_, rfl⟩
  have hz7 : z7 < 2 ^ 256 := by rw [Ez7]; exact (ofN_lt _)
  have C6 := Lib.hid (fun w => Of_any 255 w (by decide) (by decide))
  rw [← Ez7] at C6
  obtain ⟨z9, Ez9⟩ : ∃ z, z = ofN 1 := ⟨_, rfl⟩
  have hz9 : z9 < 2 ^ 256 := by rw [Ez9]; exact (ofN_lt _)
  have C8 := Lib.hid (fun w => Of_any 1 w (by decide) (by decide))
  rw [← Ez9] at C8
  obtain ⟨z11, Ez11⟩ : ∃ z, z = shlN z7 z9 := ⟨_, rfl⟩
  have hz11 : z11 < 2 ^ 256 := by rw [Ez11]; exact (shlN_lt _ _)
  have C10 := Lib.hid (fun w => Shl_all z7 z9 w hz7 hz9)
  rw [← Ez11] at C10
  have Q12 := Lib.hid (fun w => eq_word a z11 ha hz11 w)
  rw [decide_eq_false (by subst_vars; exact hl1.out)] at Q12
  have Q13 := Lib.hid (fun w => eq_word b z11 hb hz11 w)
  rw [decide_eq_false (by subst_vars; exact hl2.out)] at Q13
  have C14 := Lib.hid (fun w => SCmp_all a b w ha hb)
  rw [show scmpN a b = -u from hu.out] at C14
  have C15 := Lib.hid (fun w => SCmp_all z5 z3 w hz5 hz3)
  rw [show scmpN z5 z3 = -u from by subst_vars; exact (pTurn ha hb hl1.out hl2.out).trans hu.out] at C15
  obtain ⟨z17, Ez17⟩ : ∃ z, z = (a + z3) % 2 ^ 256 := ⟨_, rfl⟩
  have hz17 : z17 < 2 ^ 256 := by rw [Ez17]; exact (Nat.mod_lt _ (by decide))
  have C16 := Lib.hid (fun w => Add_any a z3 w ha hz3)
  rw [← Ez17] at C16
  have Q18 := Lib.hid (fun w => eq_word z17 0 hz17 (by decide) w)
  rw [decide_eq_true (by subst_vars; exact pNegAdd ha)] at Q18
  obtain ⟨z20, Ez20⟩ : ∃ z, z = ofN (-1) := ⟨_, rfl⟩
  have hz20 : z20 < 2 ^ 256 := by rw [Ez20]; exact (ofN_lt _)
  have C19 := Lib.hid (fun w => Of_any (-1) w (by decide) (by decide))
  rw [← Ez20] at C19
  obtain ⟨z22, Ez22⟩ : ∃ z, z = a * z20 % 2 ^ 256 := ⟨_, rfl⟩
  have hz22 : z22 < 2 ^ 256 := by rw [Ez22]; exact (Nat.mod_lt _ (by decide))
  have C21 := Lib.hid (fun w => Mul_any a z20 w ha hz20)
  rw [← Ez22] at C21
  have Q23 := Lib.hid (fun w => eq_word z22 z3 hz22 hz3 w)
  rw [decide_eq_true (by subst_vars; exact pNegMul ha)] at Q23
  have C24 := Lib.hid (fun w => SCmp_all b a w hb ha)
  rw [show scmpN b a = u from hu2.out] at C24
  have C25 := Lib.hid (fun w => Cmp_any a b w ha hb)
  rw [show cmpN a b = 0 from hv.out] at C25
  have C26 := Lib.hid (fun w => Cmp_any b a w hb ha)
  rw [show cmpN b a = 0 from hv2.out] at C26
  have Q27 := Lib.hid (fun w => eq_word a b ha hb w)
  rw [decide_eq_true (by subst_vars; exact hab.out)] at Q27
  clear Ez3 Ez5 Ez7 Ez9 Ez11 Ez17 Ez20 Ez22 hz3 hz5 hz7 hz9 hz11 hz17 hz20 hz22
  go_enter Try.func7, Try.ntmps7
  have tk0_0 : True := trivial
  have tk0_1 : True := trivial
  have tk0_2 : True := trivial
  have tk0_3 : True := trivial
  have tk0_4 : True := trivial
  have tk0_5 : True := trivial
  have tk0_6 : True := trivial
  have tk0_7 : True := trivial
  have tk0_8 : True := trivial
  have tk0_9 : True := trivial
  have tk0_10 : True := trivial
  have tk0_11 : True := trivial
  have tk0_12 : True := trivial
  have tk0_13 : True := trivial
  have tk0_14 : True := trivial
  have tk0_15 : True := trivial
  have tk0_16 : True := trivial
  have tk0_17 : True := trivial
  have tk0_18 : True := trivial
  have tk0_19 : True := trivial
  go_wp2_with (first
    | ((with_reducible refine gd_box ?_); have _t := tk0_0; refine wpList_box_agg rfl _ (.tmp 0) rfl rfl ?_; clear tk0_0; intro w1 hx1 hb1 hl1; have hz1 := hx1.lt; have hs1 := hb1.size)
    | ((with_reducible refine gd_box ?_); have _t := tk0_1; refine wpList_box_agg rfl _ (.tmp 1) rfl rfl ?_; clear tk0_1; intro w2 hx2 hb2 hl2; have hz2 := hx2.lt; have hs2 := hb2.size)
    | (go_at_call 10; have _t := tk0_2; refine (C1.out _).mono ?_; clear tk0_2; rintro e w3 ⟨rfl, hb3⟩; have hs3 := hb3.size)
    | ((with_reducible refine gd_alloc ?_); have _t := tk0_3; refine wpList_alloc_blk rfl 23 rfl zW ?_; clear tk0_3; intro w4 hx4 hb4 hl4; have hz4 := hx4.lt; have hs4 := hb4.size)
    | ((with_reducible refine gd_store ?_); have _t := tk0_4; refine wpList_store_all rfl 23 (.tmp 6) (.tmp 12) rfl (wcells 0) hx4 (by rw [HSW.out]; exact hW) (by rw [HSW.out]; exact HSW.out 0) (H1W.out _) (by rfl) (congrArg Value.agg HZW.out) ?_; clear tk0_4; intro w5 hx5 hg5; have hs5 := hg5.size)
    | ((with_reducible refine gd_load ?_); have _t := tk0_5; refine wpList_load_blk rfl 23 (.tmp 6) rfl hx5 (by rw [HSW.out]; exact hW) rfl ?_; clear tk0_5)
    | ((with_reducible refine gd_load ?_); have _t := tk0_6; refine wpList_load_blk rfl 23 (.tmp 2) rfl ((((hx1.ext hb2).ext hb3).ext hb4).grown hg5 (by simp; omega)) (by rw [HSW.out]; exact hW) rfl ?_; clear tk0_6)
    | (go_at_call 35; have _t := tk0_7; refine (C2.out _).mono ?_; clear tk0_7; rintro e w6 ⟨rfl, hb6⟩; have hs6 := hb6.size)
    | ((with_reducible refine gd_alloc ?_); have _t := tk0_8; refine wpList_alloc_blk rfl 23 rfl zW ?_; clear tk0_8; intro w7 hx7 hb7 hl7; have hz7 := hx7.lt; have hs7 := hb7.size)
    | ((with_reducible refine gd_store ?_); have _t := tk0_9; refine wpList_store_all rfl 23 (.tmp 7) (.tmp 15) rfl (wcells z3) hx7 (by rw [HSW.out]; exact hW) (by rw [HSW.out]; exact HSW.out 0) (H1W.out _) (by rfl) (by rfl) ?_; clear tk0_9; intro w8 hx8 hg8; have hs8 := hg8.size)
    | ((with_reducible refine gd_load ?_); have _t := tk0_10; refine wpList_load_blk rfl 23 (.tmp 6) rfl (((hx5.ext hb6).ext hb7).grown hg8 (by simp; omega)) (by rw [HSW.out]; exact hW) rfl ?_; clear tk0_10)
    | ((with_reducible refine gd_load ?_); have _t := tk0_11; refine wpList_load_blk rfl 23 (.tmp 3) rfl ((((((hx2.ext hb3).ext hb4).grown hg5 (by simp; omega)).ext hb6).ext hb7).grown hg8 (by simp; omega)) (by rw [HSW.out]; exact hW) rfl ?_; clear tk0_11)
    | (go_at_call 35; have _t := tk0_12; refine (C4.out _).mono ?_; clear tk0_12; rintro e w9 ⟨rfl, hb9⟩; have hs9 := hb9.size)
    | ((with_reducible refine gd_alloc ?_); have _t := tk0_13; refine wpList_alloc_blk rfl 23 rfl zW ?_; clear tk0_13; intro w10 hx10 hb10 hl10; have hz10 := hx10.lt; have hs10 := hb10.size)
    | ((with_reducible refine gd_store ?_); have _t := tk0_14; refine wpList_store_all rfl 23 (.tmp 8) (.tmp 18) rfl (wcells z5) hx10 (by rw [HSW.out]; exact hW) (by rw [HSW.out]; exact HSW.out 0) (H1W.out _) (by rfl) (by rfl) ?_; clear tk0_14; intro w11 hx11 hg11; have hs11 := hg11.size)
    | (go_at_call 12; have _t := tk0_15; refine (C6.out _).mono ?_; clear tk0_15; rintro e w12 ⟨rfl, hb12⟩; have hs12 := hb12.size)
    | (go_at_call 12; have _t := tk0_16; refine (C8.out _).mono ?_; clear tk0_16; rintro e w13 ⟨rfl, hb13⟩; have hs13 := hb13.size)
    | (go_at_call 14; have _t := tk0_17; refine (C10.out _).mono ?_; clear tk0_17; rintro e w14 ⟨rfl, hb14⟩; have hs14 := hb14.size)
    | ((with_reducible refine gd_alloc ?_); have _t := tk0_18; refine wpList_alloc_blk rfl 23 rfl zW ?_; clear tk0_18; intro w15 hx15 hb15 hl15; have hz15 := hx15.lt; have hs15 := hb15.size)
    | ((with_reducible refine gd_store ?_); have _t := tk0_19; refine wpList_store_all rfl 23 (.tmp 9) (.tmp 21) rfl (wcells z11) hx15 (by rw [HSW.out]; exact hW) (by rw [HSW.out]; exact HSW.out 0) (H1W.out _) (by rfl) (by rfl) ?_; clear tk0_19; intro w16 hx16 hg16; have hs16 := hg16.size)
    | fail)
  have hy1_1 := (((((((((((((((hx1.ext hb2).ext hb3).ext hb4).grown hg5 (by simp; omega)).ext hb6).ext hb7).grown hg8 (by simp; omega)).ext hb9).ext hb10).grown hg11 (by simp; omega)).ext hb12).ext hb13).ext hb14).ext hb15).grown hg16 (by simp; omega))
  have hy1_2 := ((((((((((((((hx2.ext hb3).ext hb4).grown hg5 (by simp; omega)).ext hb6).ext hb7).grown hg8 (by simp; omega)).ext hb9).ext hb10).grown hg11 (by simp; omega)).ext hb12).ext hb13).ext hb14).ext hb15).grown hg16 (by simp; omega))
  have hy1_3 := (((((((((((hx5.ext hb6).ext hb7).grown hg8 (by simp; omega)).ext hb9).ext hb10).grown hg11 (by simp; omega)).ext hb12).ext hb13).ext hb14).ext hb15).grown hg16 (by simp; omega))
  have hy1_4 := ((((((((hx8.ext hb9).ext hb10).grown hg11 (by simp; omega)).ext hb12).ext hb13).ext hb14).ext hb15).grown hg16 (by simp; omega))
  have hy1_5 := (((((hx11.ext hb12).ext hb13).ext hb14).ext hb15).grown hg16 (by simp; omega))
  have hy1_6 := hx16
  have hB1_1 := hb1
  have hB1_2 := below_step hB1_1 hb2
  have hB1_3 := below_step hB1_2 hb3
  have hB1_4 := below_step hB1_3 hb4
  have hB1_5 := below_blk hB1_4 hB1_4.size hg5 (by omega)
  have hB1_6 := below_step hB1_5 hb6
  have hB1_7 := below_step hB1_6 hb7
  have hB1_8 := below_blk hB1_7 hB1_7.size hg8 (by omega)
  have hB1_9 := below_step hB1_8 hb9
  have hB1_10 := below_step hB1_9 hb10
  have hB1_11 := below_blk hB1_10 hB1_10.size hg11 (by omega)
  have hB1_12 := below_step hB1_11 hb12
  have hB1_13 := below_step hB1_12 hb13
  have hB1_14 := below_step hB1_13 hb14
  have hB1_15 := below_step hB1_14 hb15
  have hB1_16 := below_blk hB1_15 hB1_15.size hg16 (by omega)
  clear hb1 hl1 hz1 hs1 hb2 hl2 hz2 hs2 hb3 hs3 hx4 hb4 hl4 hz4 hs4 hg5 hs5 hb6 hs6 hx7 hb7 hl7 hz7 hs7 hg8 hs8 hb9 hs9 hx10 hb10 hl10 hz10 hs10 hg11 hs11 hb12 hs12 hb13 hs13 hb14 hs14 hx15 hb15 hl15 hz15 hs15 hg16 hs16 hx1 hx11 hx16 hx2 hx5 hx8 hB1_1 hB1_2 hB1_3 hB1_4 hB1_5 hB1_6 hB1_7 hB1_8 hB1_9 hB1_10 hB1_11 hB1_12 hB1_13 hB1_14 hB1_15
  refine wp_region_made (w := w16) (B := w.heap.size) (wB := w) [.val (.agg (wcells a)), .val (.agg (wcells z11)), .val (.bool false), .val (.bool false), .val (.agg (wcells b)), .val (.agg (wcells z11)), .val (.bool false), .val (.bool false), .val (.bool false), .val (.agg (wcells a)), .val (.agg (wcells b)), .val (.int .i64 (-u)), .val (.agg (wcells z5)), .val (.agg (wcells z3)), .val (.int .i64 (-u)), .val (.bool true), .val (.bool true), .val (.bool true)] (by kernel_rfl) (by kernel_rfl) (by kernel_rfl) rfl (by kernel_rfl) rfl hB1_16.size hB1_16 (by exact List.nodup_nil) (by intro g hg; exact nomatch hg) trivial ?_ ?_
  · refine ⟨?_, ?_, ?_, ?_, ?_, ?_, ?_, ?_, ?_, ?_, ?_, ?_, ?_, ?_, ?_, ?_, ?_, ?_, trivial⟩
    · intro G wx fr hway _ hs hdef hsz
      have s2 : fr.tmps[2]? = some (.pointer (some ⟨w.heap.size, 0, none⟩)) := hs.1
      clear hs
      refine ⟨?_⟩
      refine wpList_load_blk rfl 23 (.tmp 2) rfl (way_blk hway hy1_1 (by first | exact hy1_1.lt | omega) (by simp [heldBy, Knd.blockOf])) (by rw [HSW.out]; exact hW) (by simp [Act.eval, s2]) ?_
      refine wpList_nil ?_
      exact kp_val hdef hsz (Below.refl _ _)
    · intro G wx fr hway _ hs hdef hsz
      have s9 : fr.tmps[9]? = some (.pointer (some ⟨w14.heap.size, 0, none⟩)) := hs.1
      clear hs
      refine ⟨?_⟩
      refine wpList_load_blk rfl 23 (.tmp 9) rfl (way_blk hway hy1_6 (by first | exact hy1_6.lt | omega) (by simp [heldBy, Knd.blockOf])) (by rw [HSW.out]; exact hW) (by simp [Act.eval, s9]) ?_
      refine wpList_nil ?_
      exact kp_val hdef hsz (Below.refl _ _)
    · intro G wx fr hway _ hs hdef hsz
      have s22 : fr.tmps[22]? = some (.agg (wcells a)) := hs.1
      have s23 : fr.tmps[23]? = some (.agg (wcells z11)) := hs.2.1
      clear hs
      have hq := Q12.out
      refine ⟨?_⟩
      go_wp2
      exact kp_post hsz (Below.refl _ _)
    · intro G wx fr hway _ hs hdef hsz
      have s24 : fr.tmps[24]? = some (.bool false) := hs.1
      clear hs
      refine ⟨?_⟩
      go_wp2
      exact kp_post hsz (Below.refl _ _)
    · intro G wx fr hway _ hs hdef hsz
      have s3 : fr.tmps[3]? = some (.pointer (some ⟨w1.heap.size, 0, none⟩)) := hs.1
      have s25 : fr.tmps[25]? = some (.bool false) := hs.2.1
      clear hs
      refine ⟨?_⟩
      refine wpList_load_want (by simp [Region.wanted, yielded, *]) 23 (.tmp 3) rfl (way_blk hway hy1_2 (by first | exact hy1_2.lt | omega) (by simp [heldBy, Knd.blockOf])) (by rw [HSW.out]; exact hW) (by simp [Act.eval, s3]) ?_
      refine wpList_nil ?_
      exact kp_val hdef hsz (Below.refl _ _)
    · intro G wx fr hway _ hs hdef hsz
      have s9 : fr.tmps[9]? = some (.pointer (some ⟨w14.heap.size, 0, none⟩)) := hs.1
      have s25 : fr.tmps[25]? = some (.bool false) := hs.2.1
      clear hs
      refine ⟨?_⟩
      refine wpList_load_want (by simp [Region.wanted, yielded, *]) 23 (.tmp 9) rfl (way_blk hway hy1_6 (by first | exact hy1_6.lt | omega) (by simp [heldBy, Knd.blockOf])) (by rw [HSW.out]; exact hW) (by simp [Act.eval, s9]) ?_
      refine wpList_nil ?_
      exact kp_val hdef hsz (Below.refl _ _)
    · intro G wx fr hway _ hs hdef hsz
      have s26 : fr.tmps[26]? = some (.agg (wcells b)) := hs.1
      have s27 : fr.tmps[27]? = some (.agg (wcells z11)) := hs.2.1
      have s25 : fr.tmps[25]? = some (.bool false) := hs.2.2.1
      clear hs
      have hq := Q13.out
      refine ⟨?_⟩
      go_wp2
      exact kp_post hsz (Below.refl _ _)
    · intro G wx fr hway _ hs hdef hsz
      have s25 : fr.tmps[25]? = some (.bool false) := hs.1
      have s28 : fr.tmps[28]? = some (.bool false) := hs.2.1
      clear hs
      refine ⟨?_⟩
      go_wp2
      exact kp_post hsz (Below.refl _ _)
    · intro G wx fr hway _ hs hdef hsz
      have s29 : fr.tmps[29]? = some (.bool false) := hs.1
      clear hs
      refine ⟨?_⟩
      go_wp2
      exact kp_post hsz (Below.refl _ _)
    · intro G wx fr hway _ hs hdef hsz
      have s2 : fr.tmps[2]? = some (.pointer (some ⟨w.heap.size, 0, none⟩)) := hs.1
      have s30 : fr.tmps[30]? = some (.bool false) := hs.2.1
      clear hs
      refine ⟨?_⟩
      refine wpList_load_want (by simp [Region.wanted, yielded, *]) 23 (.tmp 2) rfl (way_blk hway hy1_1 (by first | exact hy1_1.lt | omega) (by simp [heldBy, Knd.blockOf])) (by rw [HSW.out]; exact hW) (by simp [Act.eval, s2]) ?_
      refine wpList_nil ?_
      exact kp_val hdef hsz (Below.refl _ _)
    · intro G wx fr hway _ hs hdef hsz
      have s3 : fr.tmps[3]? = some (.pointer (some ⟨w1.heap.size, 0, none⟩)) := hs.1
      have s30 : fr.tmps[30]? = some (.bool false) := hs.2.1
      clear hs
      refine ⟨?_⟩
      refine wpList_load_want (by simp [Region.wanted, yielded, *]) 23 (.tmp 3) rfl (way_blk hway hy1_2 (by first | exact hy1_2.lt | omega) (by simp [heldBy, Knd.blockOf])) (by rw [HSW.out]; exact hW) (by simp [Act.eval, s3]) ?_
      refine wpList_nil ?_
      exact kp_val hdef hsz (Below.refl _ _)
    · intro G wx fr hway _ hs hdef hsz
      have s31 : fr.tmps[31]? = some (.agg (wcells a)) := hs.1
      have s32 : fr.tmps[32]? = some (.agg (wcells b)) := hs.2.1
      have s30 : fr.tmps[30]? = some (.bool false) := hs.2.2.1
      clear hs
      refine ⟨?_⟩
      go_wp2_with fail
      refine (C14.out wx).mono ?_
      rintro e w2 ⟨rfl, hb2⟩
      go_wp2
      exact kp_post hsz hb2
    · intro G wx fr hway _ hs hdef hsz
      have s8 : fr.tmps[8]? = some (.pointer (some ⟨w9.heap.size, 0, none⟩)) := hs.1
      have s30 : fr.tmps[30]? = some (.bool false) := hs.2.1
      clear hs
      refine ⟨?_⟩
      refine wpList_load_want (by simp [Region.wanted, yielded, *]) 23 (.tmp 8) rfl (way_blk hway hy1_5 (by first | exact hy1_5.lt | omega) (by simp [heldBy, Knd.blockOf])) (by rw [HSW.out]; exact hW) (by simp [Act.eval, s8]) ?_
      refine wpList_nil ?_
      exact kp_val hdef hsz (Below.refl _ _)
    · intro G wx fr hway _ hs hdef hsz
      have s7 : fr.tmps[7]? = some (.pointer (some ⟨w6.heap.size, 0, none⟩)) := hs.1
      have s30 : fr.tmps[30]? = some (.bool false) := hs.2.1
      clear hs
      refine ⟨?_⟩
      refine wpList_load_want (by simp [Region.wanted, yielded, *]) 23 (.tmp 7) rfl (way_blk hway hy1_4 (by first | exact hy1_4.lt | omega) (by simp [heldBy, Knd.blockOf])) (by rw [HSW.out]; exact hW) (by simp [Act.eval, s7]) ?_
      refine wpList_nil ?_
      exact kp_val hdef hsz (Below.refl _ _)
    · intro G wx fr hway _ hs hdef hsz
      have s34 : fr.tmps[34]? = some (.agg (wcells z5)) := hs.1
      have s35 : fr.tmps[35]? = some (.agg (wcells z3)) := hs.2.1
      have s30 : fr.tmps[30]? = some (.bool false) := hs.2.2.1
      clear hs
      refine ⟨?_⟩
      go_wp2_with fail
      refine (C15.out wx).mono ?_
      rintro e w2 ⟨rfl, hb2⟩
      go_wp2
      exact kp_post hsz hb2
    · intro G wx fr hway _ hs hdef hsz
      have s33 : fr.tmps[33]? = some (.int .i64 (-u)) := hs.1
      have s36 : fr.tmps[36]? = some (.int .i64 (-u)) := hs.2.1
      have s30 : fr.tmps[30]? = some (.bool false) := hs.2.2.1
      clear hs
      refine ⟨?_⟩
      go_wp2
      exact kp_post hsz (Below.refl _ _)
    · intro G wx fr hway _ hs hdef hsz
      have s30 : fr.tmps[30]? = some (.bool false) := hs.1
      have s37 : fr.tmps[37]? = some (.bool true) := hs.2.1
      clear hs
      refine ⟨?_⟩
      go_wp2
      exact kp_post hsz (Below.refl _ _)
    · intro G wx fr hway _ hs hdef hsz
      have s38 : fr.tmps[38]? = some (.bool true) := hs.1
      clear hs
      refine ⟨?_⟩
      go_wp2
      exact kp_post hsz (Below.refl _ _)
  · intro G V wr3 hval hway hmade hap
    replace hval : V 0 = .agg (wcells a) ∧ V 1 = .agg (wcells z11) ∧ V 2 = .bool false ∧ V 3 = .bool false ∧ V 4 = .agg (wcells b) ∧ V 5 = .agg (wcells z11) ∧ V 6 = .bool false ∧ V 7 = .bool false ∧ V 8 = .bool false ∧ V 9 = .agg (wcells a) ∧ V 10 = .agg (wcells b) ∧ V 11 = .int .i64 (-u) ∧ V 12 = .agg (wcells z5) ∧ V 13 = .agg (wcells z3) ∧ V 14 = .int .i64 (-u) ∧ V 15 = .bool true ∧ V 16 = .bool true ∧ V 17 = .bool true ∧ True := hval
    replace hmade : True := hmade
    obtain ⟨e3_0, e3_1, e3_2, e3_3, e3_4, e3_5, e3_6, e3_7, e3_8, e3_9, e3_10, e3_11, e3_12, e3_13, e3_14, e3_15, e3_16, e3_17, -⟩ := hval
    obtain ⟨-⟩ := hmade
    clear hap
    simp only [fill, Act.put, e3_0, e3_1, e3_2, e3_3, e3_4, e3_5, e3_6, e3_7, e3_8, e3_9, e3_10, e3_11, e3_12, e3_13, e3_14, e3_15, e3_16, e3_17]
    clear e3_0 e3_1 e3_2 e3_3 e3_4 e3_5 e3_6 e3_7 e3_8 e3_9 e3_10 e3_11 e3_12 e3_13 e3_14 e3_15 e3_16 e3_17
    simp only [Exit.then]
    go_simp
    clear G V
    replace hy1_1 := way_blk hway hy1_1 hy1_1.lt (by simp [heldBy, Knd.blockOf])
    replace hy1_2 := way_blk hway hy1_2 hy1_2.lt (by simp [heldBy, Knd.blockOf])
    replace hy1_3 := way_blk hway hy1_3 hy1_3.lt (by simp [heldBy, Knd.blockOf])
    replace hy1_4 := way_blk hway hy1_4 hy1_4.lt (by simp [heldBy, Knd.blockOf])
    replace hy1_5 := way_blk hway hy1_5 hy1_5.lt (by simp [heldBy, Knd.blockOf])
    replace hy1_6 := way_blk hway hy1_6 hy1_6.lt (by simp [heldBy, Knd.blockOf])
    replace hB1_16 := hway.2.2
    clear hway
    go_wp2
    refine wp_region_made (w := wr3) (B := w.heap.size) (wB := w) ((.val (.bool true)) :: (.val (.bool true)) :: (.val (.agg (wcells a))) :: (.val (.agg (wcells z3))) :: (.val (.agg (wcells z17))) :: (.val (.agg (wcells 0))) :: (.val (.bool true)) :: (.val (.bool true)) :: (.val (.bool true)) :: (.val (.agg (wcells a))) :: (.val (.agg (wcells z20))) :: (.val (.agg (wcells z22))) :: (.val (.agg (wcells z3))) :: (.val (.bool true)) :: (.val (.bool true)) :: (.val (.bool true)) :: (.val (.bool true)) :: (.val (.bool true)) :: (.val (.bool true)) :: (.val (.agg (wcells a))) :: (.val (.agg (wcells b))) :: (.val (.int .i64 (-u))) :: (.val (.agg (wcells b))) :: (.val (.agg (wcells a))) :: (.val (.int .i64 u)) :: (.val (.int .i64 (-u))) :: (.val (.bool true)) :: (.val (.bool true)) :: (.val (.bool true)) :: (.val (.agg (wcells a))) :: (.val (.agg (wcells b))) :: (.val (.int .i64 0)) :: (.val (.agg (wcells b))) :: (.val (.agg (wcells a))) :: (.val (.int .i64 0)) :: (.val (.int .i64 (-0))) :: (.val (.bool true)) :: (.val (.bool true)) :: (.val (.bool true)) :: (.val (.agg (wcells a))) :: (.val (.agg (wcells b))) :: (.val (.int .i64 0)) :: (.val (.bool true)) :: (.val (.agg (wcells a))) :: (.val (.agg (wcells b))) :: (.val (.bool true)) :: (.val (.bool true)) :: (.val (.bool true)) :: (.val (.bool true)) :: []) (by kernel_rfl) (by kernel_rfl) (by kernel_rfl) rfl (by kernel_rfl) rfl hB1_16.size hB1_16 (by exact List.nodup_nil) (by intro g hg; exact nomatch hg) trivial ?_ ?_
    · refine ⟨?_, ?_, ?_, ?_, ?_, ?_, ?_, ?_, ?_, ?_, ?_, ?_, ?_, ?_, ?_, ?_, ?_, ?_, ?_, ?_, ?_, ?_, ?_, ?_, ?_, ?_, ?_, ?_, ?_, ?_, ?_, ?_, ?_, ?_, ?_, ?_, ?_, ?_, ?_, ?_, ?_, ?_, ?_, ?_, ?_, ?_, ?_, ?_, ?_, trivial⟩
      · intro G wx fr hway _ hs hdef hsz
        have s5 : fr.tmps[5]? = some (.bool true) := hs.1
        clear hs
        refine ⟨?_⟩
        go_wp2
        exact kp_post hsz (Below.refl _ _)
      · intro G wx fr hway _ hs hdef hsz
        have s39 : fr.tmps[39]? = some (.bool true) := hs.1
        clear hs
        refine ⟨?_⟩
        go_wp2
        exact kp_post hsz (Below.refl _ _)
      · intro G wx fr hway _ hs hdef hsz
        have s2 : fr.tmps[2]? = some (.pointer (some ⟨w.heap.size, 0, none⟩)) := hs.1
        have s40 : fr.tmps[40]? = some (.bool true) := hs.2.1
        clear hs
        refine ⟨?_⟩
        refine wpList_load_want (by simp [Region.wanted, yielded, *]) 23 (.tmp 2) rfl (way_blk hway hy1_1 (by first | exact hy1_1.lt | omega) (by simp [heldBy, Knd.blockOf])) (by rw [HSW.out]; exact hW) (by simp [Act.eval, s2]) ?_
        refine wpList_nil ?_
        exact kp_val hdef hsz (Below.refl _ _)
      · intro G wx fr hway _ hs hdef hsz
        have s7 : fr.tmps[7]? = some (.pointer (some ⟨w6.heap.size, 0, none⟩)) := hs.1
        have s40 : fr.tmps[40]? = some (.bool true) := hs.2.1
        clear hs
        refine ⟨?_⟩
        refine wpList_load_want (by simp [Region.wanted, yielded, *]) 23 (.tmp 7) rfl (way_blk hway hy1_4 (by first | exact hy1_4.lt | omega) (by simp [heldBy, Knd.blockOf])) (by rw [HSW.out]; exact hW) (by simp [Act.eval, s7]) ?_
        refine wpList_nil ?_
        exact kp_val hdef hsz (Below.refl _ _)
      · intro G wx fr hway _ hs hdef hsz
        have s41 : fr.tmps[41]? = some (.agg (wcells a)) := hs.1
        have s42 : fr.tmps[42]? = some (.agg (wcells z3)) := hs.2.1
        have s40 : fr.tmps[40]? = some (.bool true) := hs.2.2.1
        clear hs
        refine ⟨?_⟩
        go_wp2_with fail
        refine (C16.out wx).mono ?_
        rintro e w2 ⟨rfl, hb2⟩
        go_wp2
        exact kp_post hsz hb2
      · intro G wx fr hway _ hs hdef hsz
        have s6 : fr.tmps[6]? = some (.pointer (some ⟨w3.heap.size, 0, none⟩)) := hs.1
        have s40 : fr.tmps[40]? = some (.bool true) := hs.2.1
        clear hs
        refine ⟨?_⟩
        refine wpList_load_want (by simp [Region.wanted, yielded, *]) 23 (.tmp 6) rfl (way_blk hway hy1_3 (by first | exact hy1_3.lt | omega) (by simp [heldBy, Knd.blockOf])) (by rw [HSW.out]; exact hW) (by simp [Act.eval, s6]) ?_
        refine wpList_nil ?_
        exact kp_val hdef hsz (Below.refl _ _)
      · intro G wx fr hway _ hs hdef hsz
        have s43 : fr.tmps[43]? = some (.agg (wcells z17)) := hs.1
        have s44 : fr.tmps[44]? = some (.agg (wcells 0)) := hs.2.1
        have s40 : fr.tmps[40]? = some (.bool true) := hs.2.2.1
        clear hs
        have hq := Q18.out
        refine ⟨?_⟩
        go_wp2
        exact kp_post hsz (Below.refl _ _)
      · intro G wx fr hway _ hs hdef hsz
        have s40 : fr.tmps[40]? = some (.bool true) := hs.1
        have s45 : fr.tmps[45]? = some (.bool true) := hs.2.1
        clear hs
        refine ⟨?_⟩
        go_wp2
        exact kp_post hsz (Below.refl _ _)
      · intro G wx fr hway _ hs hdef hsz
        have s46 : fr.tmps[46]? = some (.bool true) := hs.1
        clear hs
        refine ⟨?_⟩
        go_wp2
        exact kp_post hsz (Below.refl _ _)
      · intro G wx fr hway _ hs hdef hsz
        have s2 : fr.tmps[2]? = some (.pointer (some ⟨w.heap.size, 0, none⟩)) := hs.1
        have s47 : fr.tmps[47]? = some (.bool true) := hs.2.1
        clear hs
        refine ⟨?_⟩
        refine wpList_load_want (by simp [Region.wanted, yielded, *]) 23 (.tmp 2) rfl (way_blk hway hy1_1 (by first | exact hy1_1.lt | omega) (by simp [heldBy, Knd.blockOf])) (by rw [HSW.out]; exact hW) (by simp [Act.eval, s2]) ?_
        refine wpList_nil ?_
        exact kp_val hdef hsz (Below.refl _ _)
      · intro G wx fr hway _ hs hdef hsz
        have s47 : fr.tmps[47]? = some (.bool true) := hs.1
        clear hs
        refine ⟨?_⟩
        go_wp2_with fail
        refine (C19.out wx).mono ?_
        rintro e w2 ⟨rfl, hb2⟩
        go_wp2
        exact kp_post hsz hb2
      · intro G wx fr hway _ hs hdef hsz
        have s48 : fr.tmps[48]? = some (.agg (wcells a)) := hs.1
        have s49 : fr.tmps[49]? = some (.agg (wcells z20)) := hs.2.1
        have s47 : fr.tmps[47]? = some (.bool true) := hs.2.2.1
        clear hs
        refine ⟨?_⟩
        go_wp2_with fail
        refine (C21.out wx).mono ?_
        rintro e w2 ⟨rfl, hb2⟩
        go_wp2
        exact kp_post hsz hb2
      · intro G wx fr hway _ hs hdef hsz
        have s7 : fr.tmps[7]? = some (.pointer (some ⟨w6.heap.size, 0, none⟩)) := hs.1
        have s47 : fr.tmps[47]? = some (.bool true) := hs.2.1
        clear hs
        refine ⟨?_⟩
        refine wpList_load_want (by simp [Region.wanted, yielded, *]) 23 (.tmp 7) rfl (way_blk hway hy1_4 (by first | exact hy1_4.lt | omega) (by simp [heldBy, Knd.blockOf])) (by rw [HSW.out]; exact hW) (by simp [Act.eval, s7]) ?_
        refine wpList_nil ?_
        exact kp_val hdef hsz (Below.refl _ _)
      · intro G wx fr hway _ hs hdef hsz
        have s50 : fr.tmps[50]? = some (.agg (wcells z22)) := hs.1
        have s51 : fr.tmps[51]? = some (.agg (wcells z3)) := hs.2.1
        have s47 : fr.tmps[47]? = some (.bool true) := hs.2.2.1
        clear hs
        have hq := Q23.out
        refine ⟨?_⟩
        go_wp2
        exact kp_post hsz (Below.refl _ _)
      · intro G wx fr hway _ hs hdef hsz
        have s47 : fr.tmps[47]? = some (.bool true) := hs.1
        have s52 : fr.tmps[52]? = some (.bool true) := hs.2.1
        clear hs
        refine ⟨?_⟩
        go_wp2
        exact kp_post hsz (Below.refl _ _)
      · intro G wx fr hway _ hs hdef hsz
        have s53 : fr.tmps[53]? = some (.bool true) := hs.1
        clear hs
        refine ⟨?_⟩
        go_wp2
        exact kp_post hsz (Below.refl _ _)
      · intro G wx fr hway _ hs hdef hsz
        have s10 : fr.tmps[10]? = some (.bool true) := hs.1
        have s54 : fr.tmps[54]? = some (.bool true) := hs.2.1
        clear hs
        refine ⟨?_⟩
        go_wp2
        exact kp_post hsz (Below.refl _ _)
      · intro G wx fr hway _ hs hdef hsz
        have s54 : fr.tmps[54]? = some (.bool true) := hs.1
        have s55 : fr.tmps[55]? = some (.bool true) := hs.2.1
        clear hs
        refine ⟨?_⟩
        go_wp2
        exact kp_post hsz (Below.refl _ _)
      · intro G wx fr hway _ hs hdef hsz
        have s56 : fr.tmps[56]? = some (.bool true) := hs.1
        clear hs
        refine ⟨?_⟩
        go_wp2
        exact kp_post hsz (Below.refl _ _)
      · intro G wx fr hway _ hs hdef hsz
        have s2 : fr.tmps[2]? = some (.pointer (some ⟨w.heap.size, 0, none⟩)) := hs.1
        have s57 : fr.tmps[57]? = some (.bool true) := hs.2.1
        clear hs
        refine ⟨?_⟩
        refine wpList_load_want (by simp [Region.wanted, yielded, *]) 23 (.tmp 2) rfl (way_blk hway hy1_1 (by first | exact hy1_1.lt | omega) (by simp [heldBy, Knd.blockOf])) (by rw [HSW.out]; exact hW) (by simp [Act.eval, s2]) ?_
        refine wpList_nil ?_
        exact kp_val hdef hsz (Below.refl _ _)
      · intro G wx fr hway _ hs hdef hsz
        have s3 : fr.tmps[3]? = some (.pointer (some ⟨w1.heap.size, 0, none⟩)) := hs.1
        have s57 : fr.tmps[57]? = some (.bool true) := hs.2.1
        clear hs
        refine ⟨?_⟩
        refine wpList_load_want (by simp [Region.wanted, yielded, *]) 23 (.tmp 3) rfl (way_blk hway hy1_2 (by first | exact hy1_2.lt | omega) (by simp [heldBy, Knd.blockOf])) (by rw [HSW.out]; exact hW) (by simp [Act.eval, s3]) ?_
        refine wpList_nil ?_
        exact kp_val hdef hsz (Below.refl _ _)
      · intro G wx fr hway _ hs hdef hsz
        have s58 : fr.tmps[58]? = some (.agg (wcells a)) := hs.1
        have s59 : fr.tmps[59]? = some (.agg (wcells b)) := hs.2.1
        have s57 : fr.tmps[57]? = some (.bool true) := hs.2.2.1
        clear hs
        refine ⟨?_⟩
        go_wp2_with fail
        refine (C14.out wx).mono ?_
        rintro e w2 ⟨rfl, hb2⟩
        go_wp2
        exact kp_post hsz hb2
      · intro G wx fr hway _ hs hdef hsz
        have s3 : fr.tmps[3]? = some (.pointer (some ⟨w1.heap.size, 0, none⟩)) := hs.1
        have s57 : fr.tmps[57]? = some (.bool true) := hs.2.1
        clear hs
        refine ⟨?_⟩
        refine wpList_load_want (by simp [Region.wanted, yielded, *]) 23 (.tmp 3) rfl (way_blk hway hy1_2 (by first | exact hy1_2.lt | omega) (by simp [heldBy, Knd.blockOf])) (by rw [HSW.out]; exact hW) (by simp [Act.eval, s3]) ?_
        refine wpList_nil ?_
        exact kp_val hdef hsz (Below.refl _ _)
      · intro G wx fr hway _ hs hdef hsz
        have s2 : fr.tmps[2]? = some (.pointer (some ⟨w.heap.size, 0, none⟩)) := hs.1
        have s57 : fr.tmps[57]? = some (.bool true) := hs.2.1
        clear hs
        refine ⟨?_⟩
        refine wpList_load_want (by simp [Region.wanted, yielded, *]) 23 (.tmp 2) rfl (way_blk hway hy1_1 (by first | exact hy1_1.lt | omega) (by simp [heldBy, Knd.blockOf])) (by rw [HSW.out]; exact hW) (by simp [Act.eval, s2]) ?_
        refine wpList_nil ?_
        exact kp_val hdef hsz (Below.refl _ _)
      · intro G wx fr hway _ hs hdef hsz
        have s61 : fr.tmps[61]? = some (.agg (wcells b)) := hs.1
        have s62 : fr.tmps[62]? = some (.agg (wcells a)) := hs.2.1
        have s57 : fr.tmps[57]? = some (.bool true) := hs.2.2.1
        clear hs
        refine ⟨?_⟩
        go_wp2_with fail
        refine (C24.out wx).mono ?_
        rintro e w2 ⟨rfl, hb2⟩
        go_wp2
        exact kp_post hsz hb2
      · intro G wx fr hway _ hs hdef hsz
        have s63 : fr.tmps[63]? = some (.int .i64 u) := hs.1
        have s57 : fr.tmps[57]? = some (.bool true) := hs.2.1
        clear hs
        refine ⟨?_⟩
        go_wp2
        exact kp_post hsz (Below.refl _ _)
      · intro G wx fr hway _ hs hdef hsz
        have s60 : fr.tmps[60]? = some (.int .i64 (-u)) := hs.1
        have s64 : fr.tmps[64]? = some (.int .i64 (-u)) := hs.2.1
        have s57 : fr.tmps[57]? = some (.bool true) := hs.2.2.1
        clear hs
        refine ⟨?_⟩
        go_wp2
        exact kp_post hsz (Below.refl _ _)
      · intro G wx fr hway _ hs hdef hsz
        have s57 : fr.tmps[57]? = some (.bool true) := hs.1
        have s65 : fr.tmps[65]? = some (.bool true) := hs.2.1
        clear hs
        refine ⟨?_⟩
        go_wp2
        exact kp_post hsz (Below.refl _ _)
      · intro G wx fr hway _ hs hdef hsz
        have s66 : fr.tmps[66]? = some (.bool true) := hs.1
        clear hs
        refine ⟨?_⟩
        go_wp2
        exact kp_post hsz (Below.refl _ _)
      · intro G wx fr hway _ hs hdef hsz
        have s2 : fr.tmps[2]? = some (.pointer (some ⟨w.heap.size, 0, none⟩)) := hs.1
        have s67 : fr.tmps[67]? = some (.bool true) := hs.2.1
        clear hs
        refine ⟨?_⟩
        refine wpList_load_want (by simp [Region.wanted, yielded, *]) 23 (.tmp 2) rfl (way_blk hway hy1_1 (by first | exact hy1_1.lt | omega) (by simp [heldBy, Knd.blockOf])) (by rw [HSW.out]; exact hW) (by simp [Act.eval, s2]) ?_
        refine wpList_nil ?_
        exact kp_val hdef hsz (Below.refl _ _)
      · intro G wx fr hway _ hs hdef hsz
        have s3 : fr.tmps[3]? = some (.pointer (some ⟨w1.heap.size, 0, none⟩)) := hs.1
        have s67 : fr.tmps[67]? = some (.bool true) := hs.2.1
        clear hs
        refine ⟨?_⟩
        refine wpList_load_want (by simp [Region.wanted, yielded, *]) 23 (.tmp 3) rfl (way_blk hway hy1_2 (by first | exact hy1_2.lt | omega) (by simp [heldBy, Knd.blockOf])) (by rw [HSW.out]; exact hW) (by simp [Act.eval, s3]) ?_
        refine wpList_nil ?_
        exact kp_val hdef hsz (Below.refl _ _)
      · intro G wx fr hway _ hs hdef hsz
        have s68 : fr.tmps[68]? = some (.agg (wcells a)) := hs.1
        have s69 : fr.tmps[69]? = some (.agg (wcells b)) := hs.2.1
        have s67 : fr.tmps[67]? = some (.bool true) := hs.2.2.1
        clear hs
        refine ⟨?_⟩
        go_wp2_with fail
        refine (C25.out wx).mono ?_
        rintro e w2 ⟨rfl, hb2⟩
        go_wp2
        exact kp_post hsz hb2
      · intro G wx fr hway _ hs hdef hsz
        have s3 : fr.tmps[3]? = some (.pointer (some ⟨w1.heap.size, 0, none⟩)) := hs.1
        have s67 : fr.tmps[67]? = some (.bool true) := hs.2.1
        clear hs
        refine ⟨?_⟩
        refine wpList_load_want (by simp [Region.wanted, yielded, *]) 23 (.tmp 3) rfl (way_blk hway hy1_2 (by first | exact hy1_2.lt | omega) (by simp [heldBy, Knd.blockOf])) (by rw [HSW.out]; exact hW) (by simp [Act.eval, s3]) ?_
        refine wpList_nil ?_
        exact kp_val hdef hsz (Below.refl _ _)
      · intro G wx fr hway _ hs hdef hsz
        have s2 : fr.tmps[2]? = some (.pointer (some ⟨w.heap.size, 0, none⟩)) := hs.1
        have s67 : fr.tmps[67]? = some (.bool true) := hs.2.1
        clear hs
        refine ⟨?_⟩
        refine wpList_load_want (by simp [Region.wanted, yielded, *]) 23 (.tmp 2) rfl (way_blk hway hy1_1 (by first | exact hy1_1.lt | omega) (by simp [heldBy, Knd.blockOf])) (by rw [HSW.out]; exact hW) (by simp [Act.eval, s2]) ?_
        refine wpList_nil ?_
        exact kp_val hdef hsz (Below.refl _ _)
      · intro G wx fr hway _ hs hdef hsz
        have s71 : fr.tmps[71]? = some (.agg (wcells b)) := hs.1
        have s72 : fr.tmps[72]? = some (.agg (wcells a)) := hs.2.1
        have s67 : fr.tmps[67]? = some (.bool true) := hs.2.2.1
        clear hs
        refine ⟨?_⟩
        go_wp2_with fail
        refine (C26.out wx).mono ?_
        rintro e w2 ⟨rfl, hb2⟩
        go_wp2
        exact kp_post hsz hb2
      · intro G wx fr hway _ hs hdef hsz
        have s73 : fr.tmps[73]? = some (.int .i64 0) := hs.1
        have s67 : fr.tmps[67]? = some (.bool true) := hs.2.1
        clear hs
        refine ⟨?_⟩
        go_wp2
        exact kp_post hsz (Below.refl _ _)
      · intro G wx fr hway _ hs hdef hsz
        have s70 : fr.tmps[70]? = some (.int .i64 0) := hs.1
        have s74 : fr.tmps[74]? = some (.int .i64 (-0)) := hs.2.1
        have s67 : fr.tmps[67]? = some (.bool true) := hs.2.2.1
        clear hs
        refine ⟨?_⟩
        go_wp2
        exact kp_post hsz (Below.refl _ _)
      · intro G wx fr hway _ hs hdef hsz
        have s67 : fr.tmps[67]? = some (.bool true) := hs.1
        have s75 : fr.tmps[75]? = some (.bool true) := hs.2.1
        clear hs
        refine ⟨?_⟩
        go_wp2
        exact kp_post hsz (Below.refl _ _)
      · intro G wx fr hway _ hs hdef hsz
        have s76 : fr.tmps[76]? = some (.bool true) := hs.1
        clear hs
        refine ⟨?_⟩
        go_wp2
        exact kp_post hsz (Below.refl _ _)
      · intro G wx fr hway _ hs hdef hsz
        have s2 : fr.tmps[2]? = some (.pointer (some ⟨w.heap.size, 0, none⟩)) := hs.1
        have s77 : fr.tmps[77]? = some (.bool true) := hs.2.1
        clear hs
        refine ⟨?_⟩
        refine wpList_load_want (by simp [Region.wanted, yielded, *]) 23 (.tmp 2) rfl (way_blk hway hy1_1 (by first | exact hy1_1.lt | omega) (by simp [heldBy, Knd.blockOf])) (by rw [HSW.out]; exact hW) (by simp [Act.eval, s2]) ?_
        refine wpList_nil ?_
        exact kp_val hdef hsz (Below.refl _ _)
      · intro G wx fr hway _ hs hdef hsz
        have s3 : fr.tmps[3]? = some (.pointer (some ⟨w1.heap.size, 0, none⟩)) := hs.1
        have s77 : fr.tmps[77]? = some (.bool true) := hs.2.1
        clear hs
        refine ⟨?_⟩
        refine wpList_load_want (by simp [Region.wanted, yielded, *]) 23 (.tmp 3) rfl (way_blk hway hy1_2 (by first | exact hy1_2.lt | omega) (by simp [heldBy, Knd.blockOf])) (by rw [HSW.out]; exact hW) (by simp [Act.eval, s3]) ?_
        refine wpList_nil ?_
        exact kp_val hdef hsz (Below.refl _ _)
      · intro G wx fr hway _ hs hdef hsz
        have s78 : fr.tmps[78]? = some (.agg (wcells a)) := hs.1
        have s79 : fr.tmps[79]? = some (.agg (wcells b)) := hs.2.1
        have s77 : fr.tmps[77]? = some (.bool true) := hs.2.2.1
        clear hs
        refine ⟨?_⟩
        go_wp2_with fail
        refine (C25.out wx).mono ?_
        rintro e w2 ⟨rfl, hb2⟩
        go_wp2
        exact kp_post hsz hb2
      · intro G wx fr hway _ hs hdef hsz
        have s80 : fr.tmps[80]? = some (.int .i64 0) := hs.1
        have s77 : fr.tmps[77]? = some (.bool true) := hs.2.1
        clear hs
        refine ⟨?_⟩
        go_wp2
        exact kp_post hsz (Below.refl _ _)
      · intro G wx fr hway _ hs hdef hsz
        have s2 : fr.tmps[2]? = some (.pointer (some ⟨w.heap.size, 0, none⟩)) := hs.1
        have s77 : fr.tmps[77]? = some (.bool true) := hs.2.1
        clear hs
        refine ⟨?_⟩
        refine wpList_load_want (by simp [Region.wanted, yielded, *]) 23 (.tmp 2) rfl (way_blk hway hy1_1 (by first | exact hy1_1.lt | omega) (by simp [heldBy, Knd.blockOf])) (by rw [HSW.out]; exact hW) (by simp [Act.eval, s2]) ?_
        refine wpList_nil ?_
        exact kp_val hdef hsz (Below.refl _ _)
      · intro G wx fr hway _ hs hdef hsz
        have s3 : fr.tmps[3]? = some (.pointer (some ⟨w1.heap.size, 0, none⟩)) := hs.1
        have s77 : fr.tmps[77]? = some (.bool true) := hs.2.1
        clear hs
        refine ⟨?_⟩
        refine wpList_load_want (by simp [Region.wanted, yielded, *]) 23 (.tmp 3) rfl (way_blk hway hy1_2 (by first | exact hy1_2.lt | omega) (by simp [heldBy, Knd.blockOf])) (by rw [HSW.out]; exact hW) (by simp [Act.eval, s3]) ?_
        refine wpList_nil ?_
        exact kp_val hdef hsz (Below.refl _ _)
      · intro G wx fr hway _ hs hdef hsz
        have s82 : fr.tmps[82]? = some (.agg (wcells a)) := hs.1
        have s83 : fr.tmps[83]? = some (.agg (wcells b)) := hs.2.1
        have s77 : fr.tmps[77]? = some (.bool true) := hs.2.2.1
        clear hs
        have hq := Q27.out
        refine ⟨?_⟩
        go_wp2
        exact kp_post hsz (Below.refl _ _)
      · intro G wx fr hway _ hs hdef hsz
        have s81 : fr.tmps[81]? = some (.bool true) := hs.1
        have s84 : fr.tmps[84]? = some (.bool true) := hs.2.1
        have s77 : fr.tmps[77]? = some (.bool true) := hs.2.2.1
        clear hs
        refine ⟨?_⟩
        go_wp2
        exact kp_post hsz (Below.refl _ _)
      · intro G wx fr hway _ hs hdef hsz
        have s77 : fr.tmps[77]? = some (.bool true) := hs.1
        have s85 : fr.tmps[85]? = some (.bool true) := hs.2.1
        clear hs
        refine ⟨?_⟩
        go_wp2
        exact kp_post hsz (Below.refl _ _)
      · intro G wx fr hway _ hs hdef hsz
        have s86 : fr.tmps[86]? = some (.bool true) := hs.1
        clear hs
        refine ⟨?_⟩
        go_wp2
        exact kp_post hsz (Below.refl _ _)
    · intro G V wr4 hval hway hmade hap
      replace hval : V 0 = .bool true ∧ V 1 = .bool true ∧ V 2 = .agg (wcells a) ∧ V 3 = .agg (wcells z3) ∧ V 4 = .agg (wcells z17) ∧ V 5 = .agg (wcells 0) ∧ V 6 = .bool true ∧ V 7 = .bool true ∧ V 8 = .bool true ∧ V 9 = .agg (wcells a) ∧ V 10 = .agg (wcells z20) ∧ V 11 = .agg (wcells z22) ∧ V 12 = .agg (wcells z3) ∧ V 13 = .bool true ∧ V 14 = .bool true ∧ V 15 = .bool true ∧ V 16 = .bool true ∧ V 17 = .bool true ∧ V 18 = .bool true ∧ V 19 = .agg (wcells a) ∧ V 20 = .agg (wcells b) ∧ V 21 = .int .i64 (-u) ∧ V 22 = .agg (wcells b) ∧ V 23 = .agg (wcells a) ∧ V 24 = .int .i64 u ∧ V 25 = .int .i64 (-u) ∧ V 26 = .bool true ∧ V 27 = .bool true ∧ V 28 = .bool true ∧ V 29 = .agg (wcells a) ∧ V 30 = .agg (wcells b) ∧ V 31 = .int .i64 0 ∧ V 32 = .agg (wcells b) ∧ V 33 = .agg (wcells a) ∧ V 34 = .int .i64 0 ∧ V 35 = .int .i64 (-0) ∧ V 36 = .bool true ∧ V 37 = .bool true ∧ V 38 = .bool true ∧ V 39 = .agg (wcells a) ∧ V 40 = .agg (wcells b) ∧ V 41 = .int .i64 0 ∧ V 42 = .bool true ∧ V 43 = .agg (wcells a) ∧ V 44 = .agg (wcells b) ∧ V 45 = .bool true ∧ V 46 = .bool true ∧ V 47 = .bool true ∧ V 48 = .bool true ∧ True := hval
      replace hmade : True := hmade
      obtain ⟨e4_0, e4_1, e4_2, e4_3, e4_4, e4_5, e4_6, e4_7, e4_8, e4_9, e4_10, e4_11, e4_12, e4_13, e4_14, e4_15, e4_16, e4_17, e4_18, e4_19, e4_20, e4_21, e4_22, e4_23, e4_24, e4_25, e4_26, e4_27, e4_28, e4_29, e4_30, e4_31, e4_32, e4_33, e4_34, e4_35, e4_36, e4_37, e4_38, e4_39, e4_40, e4_41, e4_42, e4_43, e4_44, e4_45, e4_46, e4_47, e4_48, -⟩ := hval
      obtain ⟨-⟩ := hmade
      clear hap
      simp only [fill, Act.put, e4_0, e4_1, e4_2, e4_3, e4_4, e4_5, e4_6, e4_7, e4_8, e4_9, e4_10, e4_11, e4_12, e4_13, e4_14, e4_15, e4_16, e4_17, e4_18, e4_19, e4_20, e4_21, e4_22, e4_23, e4_24, e4_25, e4_26, e4_27, e4_28, e4_29, e4_30, e4_31, e4_32, e4_33, e4_34, e4_35, e4_36, e4_37, e4_38, e4_39, e4_40, e4_41, e4_42, e4_43, e4_44, e4_45, e4_46, e4_47, e4_48]
      clear e4_0 e4_1 e4_2 e4_3 e4_4 e4_5 e4_6 e4_7 e4_8 e4_9 e4_10 e4_11 e4_12 e4_13 e4_14 e4_15 e4_16 e4_17 e4_18 e4_19 e4_20 e4_21 e4_22 e4_23 e4_24 e4_25 e4_26 e4_27 e4_28 e4_29 e4_30 e4_31 e4_32 e4_33 e4_34 e4_35 e4_36 e4_37 e4_38 e4_39 e4_40 e4_41 e4_42 e4_43 e4_44 e4_45 e4_46 e4_47 e4_48
      simp only [Exit.then]
      go_simp
      clear G V
      replace hy1_1 := way_blk hway hy1_1 hy1_1.lt (by simp [heldBy, Knd.blockOf])
      replace hy1_2 := way_blk hway hy1_2 hy1_2.lt (by simp [heldBy, Knd.blockOf])
      replace hy1_3 := way_blk hway hy1_3 hy1_3.lt (by simp [heldBy, Knd.blockOf])
      replace hy1_4 := way_blk hway hy1_4 hy1_4.lt (by simp [heldBy, Knd.blockOf])
      replace hy1_5 := way_blk hway hy1_5 hy1_5.lt (by simp [heldBy, Knd.blockOf])
      replace hy1_6 := way_blk hway hy1_6 hy1_6.lt (by simp [heldBy, Knd.blockOf])
      replace hB1_16 := hway.2.2
      clear hway
      go_wp2
      go_ret
      exact ⟨rfl, hB1_16⟩
set_option maxRecDepth 100000 in
set_option maxHeartbeats 8000000 in
theorem walk_ffn (a b : Nat) (u v : Int) (w : World) (ha : a < 2 ^ 256) (hb : b < 2 ^ 256) (hl1 : Kept (a ≠ shlN (ofN 255) (ofN 1))) (hl2 : Kept (b ≠ shlN (ofN 255) (ofN 1))) (hab : Kept (a ≠ b)) (hu : Kept (scmpN a b = -u)) (hu2 : Kept (scmpN b a = u)) (u1 : -1 ≤ u) (u2 : u ≤ 1) (hv : Kept (cmpN a b = -v)) (hv2 : Kept (cmpN b a = v)) (v1 : -1 ≤ v) (v2 : v ≤ 1) (v3 : (-v == 0) = false) : Calls Try.prog 7 #[.agg (wcells a), .agg (wcells b)] w fun e w' => e = .returned (.bool true) ∧ Below w.heap.size w w' := by
  have hW := wordTy
  have zW := zWordL
  have HSW := Lib.hid wcells_size
  have H1W := Lib.hid wcells_one
  have HZW := Lib.hid wcells_lit0
  have C1 := Lib.hid (fun w => alive1 w)
  obtain ⟨z3, Ez3⟩ : ∃ z, z = (0 + 2 ^ 256 - a) % 2 ^ 256 := ⟨_, rfl⟩
  have hz3 : z3 < 2 ^ 256 := by rw [Ez3]; exact (Nat.mod_lt _ (by decide))
  have C2 := Lib.hid (fun w => Sub_any 0 a w (by decide) ha)
  rw [← Ez3] at C2
  obtain ⟨z5, Ez5⟩ : ∃ z, z = (0 + 2 ^ 256 - b) % 2 ^ 256 := ⟨_, rfl⟩
  have hz5 : z5 < 2 ^ 256 := by rw [Ez5]; exact (Nat.mod_lt _ (by decide))
  have C4 := Lib.hid (fun w => Sub_any 0 b w (by decide) hb)
  rw [← Ez5] at C4
  obtain ⟨z7, Ez7⟩ : ∃ z, z = ofN 255 := ⟨_, rfl⟩
  have hz7 : z7 < 2 ^ 256 := by rw [Ez7]; exact (ofN_lt _)
  have C6 := Lib.hid (fun w => Of_any 255 w (by decide) (by decide))
  rw [← Ez7] at C6
  obtain ⟨z9, Ez9⟩ : ∃ z, z = ofN 1 := ⟨_, rfl⟩
  have hz9 : z9 < 2 ^ 256 := by rw [Ez9]; exact (ofN_lt _)
  have C8 := Lib.hid (fun w => Of_any 1 w (by decide) (by decide))
  rw [← Ez9] at C8
  obtain ⟨z11, Ez11⟩ : ∃ z, z = shlN z7 z9 := ⟨_, rfl⟩
  have hz11 : z11 < 2 ^ 256 := by rw [Ez11]; exact (shlN_lt _ _)
  have C10 := Lib.hid (fun w => Shl_all z7 z9 w hz7 hz9)
  rw [← Ez11] at C10
  have Q12 := Lib.hid (fun w => eq_word a z11 ha hz11 w)
  rw [decide_eq_false (by subst_vars; exact hl1.out)] at Q12
  have Q13 := Lib.hid (fun w => eq_word b z11 hb hz11 w)
  rw [decide_eq_false (by subst_vars; exact hl2.out)] at Q13
  have C14 := Lib.hid (fun w => SCmp_all a b w ha hb)
  rw [show scmpN a b = -u from hu.out] at C14
  have C15 := Lib.hid (fun w => SCmp_all z5 z3 w hz5 hz3)
  rw [show scmpN z5 z3 = -u from by subst_vars; exact (pTurn ha hb hl1.out hl2.out).trans hu.out] at C15
  obtain ⟨z17, Ez17⟩ : ∃ z, z = (a + z3) % 2 ^ 256 := ⟨_, rfl⟩
  have hz17 : z17 < 2 ^ 256 := by rw [Ez17]; exact (Nat.mod_lt _ (by decide))
  have C16 := Lib.hid (fun w => Add_any a z3 w ha hz3)
  rw [← Ez17] at C16
  have Q18 := Lib.hid (fun w => eq_word z17 0 hz17 (by decide) w)
  rw [decide_eq_true (by subst_vars; exact pNegAdd ha)] at Q18
  obtain ⟨z20, Ez20⟩ : ∃ z, z = ofN (-1) := ⟨_, rfl⟩
  have hz20 : z20 < 2 ^ 256 := by rw [Ez20]; exact (ofN_lt _)
  have C19 := Lib.hid (fun w => Of_any (-1) w (by decide) (by decide))
  rw [← Ez20] at C19
  obtain ⟨z22, Ez22⟩ : ∃ z, z = a * z20 % 2 ^ 256 := ⟨_, rfl⟩
  have hz22 : z22 < 2 ^ 256 := by rw [Ez22]; exact (Nat.mod_lt _ (by decide))
  have C21 := Lib.hid (fun w => Mul_any a z20 w ha hz20)
  rw [← Ez22] at C21
  have Q23 := Lib.hid (fun w => eq_word z22 z3 hz22 hz3 w)
  rw [decide_eq_true (by subst_vars; exact pNegMul ha)] at Q23
  have C24 := Lib.hid (fun w => SCmp_all b a w hb ha)
  rw [show scmpN b a = u from hu2.out] at C24
  have C25 := Lib.hid (fun w => Cmp_any a b w ha hb)
  rw [show cmpN a b = -v from hv.out] at C25
  have C26 := Lib.hid (fun w => Cmp_any b a w hb ha)
  rw [show cmpN b a = v from hv2.out] at C26
  have Q27 := Lib.hid (fun w => eq_word a b ha hb w)
  rw [decide_eq_false (by subst_vars; exact hab.out)] at Q27
  clear Ez3 Ez5 Ez7 Ez9 Ez11 Ez17 Ez20 Ez22 hz3 hz5 hz7 hz9 hz11 hz17 hz20 hz22
  go_enter Try.func7, Try.ntmps7
  have tk0_0 : True := trivial
  have tk0_1 : True := trivial
  have tk0_2 : True := trivial
  have tk0_3 : True := trivial
  have tk0_4 : True := trivial
  have tk0_5 : True := trivial
  have tk0_6 : True := trivial
  have tk0_7 : True := trivial
  have tk0_8 : True := trivial
  have tk0_9 : True := trivial
  have tk0_10 : True := trivial
  have tk0_11 : True := trivial
  have tk0_12 : True := trivial
  have tk0_13 : True := trivial
  have tk0_14 : True := trivial
  have tk0_15 : True := trivial
  have tk0_16 : True := trivial
  have tk0_17 : True := trivial
  have tk0_18 : True := trivial
  have tk0_19 : True := trivial
  go_wp2_with (first
    | ((with_reducible refine gd_box ?_); have _t := tk0_0; refine wpList_box_agg rfl _ (.tmp 0) rfl rfl ?_; clear tk0_0; intro w1 hx1 hb1 hl1; have hz1 := hx1.lt; have hs1 := hb1.size)
    | ((with_reducible refine gd_box ?_); have _t := tk0_1; refine wpList_box_agg rfl _ (.tmp 1) rfl rfl ?_; clear tk0_1; intro w2 hx2 hb2 hl2; have hz2 := hx2.lt; have hs2 := hb2.size)
    | (go_at_call 10; have _t := tk0_2; refine (C1.out _).mono ?_; clear tk0_2; rintro e w3 ⟨rfl, hb3⟩; have hs3 := hb3.size)
    | ((with_reducible refine gd_alloc ?_); have _t := tk0_3; refine wpList_alloc_blk rfl 23 rfl zW ?_; clear tk0_3; intro w4 hx4 hb4 hl4; have hz4 := hx4.lt; have hs4 := hb4.size)
    | ((with_reducible refine gd_store ?_); have _t := tk0_4; refine wpList_store_all rfl 23 (.tmp 6) (.tmp 12) rfl (wcells 0) hx4 (by rw [HSW.out]; exact hW) (by rw [HSW.out]; exact HSW.out 0) (H1W.out _) (by rfl) (congrArg Value.agg HZW.out) ?_; clear tk0_4; intro w5 hx5 hg5; have hs5 := hg5.size)
    | ((with_reducible refine gd_load ?_); have _t := tk0_5; refine wpList_load_blk rfl 23 (.tmp 6) rfl hx5 (by rw [HSW.out]; exact hW) rfl ?_; clear tk0_5)
    | ((with_reducible refine gd_load ?_); have _t := tk0_6; refine wpList_load_blk rfl 23 (.tmp 2) rfl ((((hx1.ext hb2).ext hb3).ext hb4).grown hg5 (by simp; omega)) (by rw [HSW.out]; exact hW) rfl ?_; clear tk0_6)
    | (go_at_call 35; have _t := tk0_7; refine (C2.out _).mono ?_; clear tk0_7; rintro e w6 ⟨rfl, hb6⟩; have hs6 := hb6.size)
    | ((with_reducible refine gd_alloc ?_); have _t := tk0_8; refine wpList_alloc_blk rfl 23 rfl zW ?_; clear tk0_8; intro w7 hx7 hb7 hl7; have hz7 := hx7.lt; have hs7 := hb7.size)
    | ((with_reducible refine gd_store ?_); have _t := tk0_9; refine wpList_store_all rfl 23 (.tmp 7) (.tmp 15) rfl (wcells z3) hx7 (by rw [HSW.out]; exact hW) (by rw [HSW.out]; exact HSW.out 0) (H1W.out _) (by rfl) (by rfl) ?_; clear tk0_9; intro w8 hx8 hg8; have hs8 := hg8.size)
    | ((with_reducible refine gd_load ?_); have _t := tk0_10; refine wpList_load_blk rfl 23 (.tmp 6) rfl (((hx5.ext hb6).ext hb7).grown hg8 (by simp; omega)) (by rw [HSW.out]; exact hW) rfl ?_; clear tk0_10)
    | ((with_reducible refine gd_load ?_); have _t := tk0_11; refine wpList_load_blk rfl 23 (.tmp 3) rfl ((((((hx2.ext hb3).ext hb4).grown hg5 (by simp; omega)).ext hb6).ext hb7).grown hg8 (by simp; omega)) (by rw [HSW.out]; exact hW) rfl ?_; clear tk0_11)
    | (go_at_call 35; have _t := tk0_12; refine (C4.out _).mono ?_; clear tk0_12; rintro e w9 ⟨rfl, hb9⟩; have hs9 := hb9.size)
    | ((with_reducible refine gd_alloc ?_); have _t := tk0_13; refine wpList_alloc_blk rfl 23 rfl zW ?_; clear tk0_13; intro w10 hx10 hb10 hl10; have hz10 := hx10.lt; have hs10 := hb10.size)
    | ((with_reducible refine gd_store ?_); have _t := tk0_14; refine wpList_store_all rfl 23 (.tmp 8) (.tmp 18) rfl (wcells z5) hx10 (by rw [HSW.out]; exact hW) (by rw [HSW.out]; exact HSW.out 0) (H1W.out _) (by rfl) (by rfl) ?_; clear tk0_14; intro w11 hx11 hg11; have hs11 := hg11.size)
    | (go_at_call 12; have _t := tk0_15; refine (C6.out _).mono ?_; clear tk0_15; rintro e w12 ⟨rfl, hb12⟩; have hs12 := hb12.size)
    | (go_at_call 12; have _t := tk0_16; refine (C8.out _).mono ?_; clear tk0_16; rintro e w13 ⟨rfl, hb13⟩; have hs13 := hb13.size)
    | (go_at_call 14; have _t := tk0_17; refine (C10.out _).mono ?_; clear tk0_17; rintro e w14 ⟨rfl, hb14⟩; have hs14 := hb14.size)
    | ((with_reducible refine gd_alloc ?_); have _t := tk0_18; refine wpList_alloc_blk rfl 23 rfl zW ?_; clear tk0_18; intro w15 hx15 hb15 hl15; have hz15 := hx15.lt; have hs15 := hb15.size)
    | ((with_reducible refine gd_store ?_); have _t := tk0_19; refine wpList_store_all rfl 23 (.tmp 9) (.tmp 21) rfl (wcells z11) hx15 (by rw [HSW.out]; exact hW) (by rw [HSW.out]; exact HSW.out 0) (H1W.out _) (by rfl) (by rfl) ?_; clear tk0_19; intro w16 hx16 hg16; have hs16 := hg16.size)
    | fail)
  have hy1_1 := (((((((((((((((hx1.ext hb2).ext hb3).ext hb4).grown hg5 (by simp; omega)).ext hb6).ext hb7).grown hg8 (by simp; omega)).ext hb9).ext hb10).grown hg11 (by simp; omega)).ext hb12).ext hb13).ext hb14).ext hb15).grown hg16 (by simp; omega))
  have hy1_2 := ((((((((((((((hx2.ext hb3).ext hb4).grown hg5 (by simp; omega)).ext hb6).ext hb7).grown hg8 (by simp; omega)).ext hb9).ext hb10).grown hg11 (by simp; omega)).ext hb12).ext hb13).ext hb14).ext hb15).grown hg16 (by simp; omega))
  have hy1_3 := (((((((((((hx5.ext hb6).ext hb7).grown hg8 (by simp; omega)).ext hb9).ext hb10).grown hg11 (by simp; omega)).ext hb12).ext hb13).ext hb14).ext hb15).grown hg16 (by simp; omega))
  have hy1_4 := ((((((((hx8.ext hb9).ext hb10).grown hg11 (by simp; omega)).ext hb12).ext hb13).ext hb14).ext hb15).grown hg16 (by simp; omega))
  have hy1_5 := (((((hx11.ext hb12).ext hb13).ext hb14).ext hb15).grown hg16 (by simp; omega))
  have hy1_6 := hx16
  have hB1_1 := hb1
  have hB1_2 := below_step hB1_1 hb2
  have hB1_3 := below_step hB1_2 hb3
  have hB1_4 := below_step hB1_3 hb4
  have hB1_5 := below_blk hB1_4 hB1_4.size hg5 (by omega)
  have hB1_6 := below_step hB1_5 hb6
  have hB1_7 := below_step hB1_6 hb7
  have hB1_8 := below_blk hB1_7 hB1_7.size hg8 (by omega)
  have hB1_9 := below_step hB1_8 hb9
  have hB1_10 := below_step hB1_9 hb10
  have hB1_11 := below_blk hB1_10 hB1_10.size hg11 (by omega)
  have hB1_12 := below_step hB1_11 hb12
  have hB1_13 := below_step hB1_12 hb13
  have hB1_14 := below_step hB1_13 hb14
  have hB1_15 := below_step hB1_14 hb15
  have hB1_16 := below_blk hB1_15 hB1_15.size hg16 (by omega)
  clear hb1 hl1 hz1 hs1 hb2 hl2 hz2 hs2 hb3 hs3 hx4 hb4 hl4 hz4 hs4 hg5 hs5 hb6 hs6 hx7 hb7 hl7 hz7 hs7 hg8 hs8 hb9 hs9 hx10 hb10 hl10 hz10 hs10 hg11 hs11 hb12 hs12 hb13 hs13 hb14 hs14 hx15 hb15 hl15 hz15 hs15 hg16 hs16 hx1 hx11 hx16 hx2 hx5 hx8 hB1_1 hB1_2 hB1_3 hB1_4 hB1_5 hB1_6 hB1_7 hB1_8 hB1_9 hB1_10 hB1_11 hB1_12 hB1_13 hB1_14 hB1_15
  refine wp_region_made (w := w16) (B := w.heap.size) (wB := w) [.val (.agg (wcells a)), .val (.agg (wcells z11)), .val (.bool false), .val (.bool false), .val (.agg (wcells b)), .val (.agg (wcells z11)), .val (.bool false), .val (.bool false), .val (.bool false), .val (.agg (wcells a)), .val (.agg (wcells b)), .val (.int .i64 (-u)), .val (.agg (wcells z5)), .val (.agg (wcells z3)), .val (.int .i64 (-u)), .val (.bool true), .val (.bool true), .val (.bool true)] (by kernel_rfl) (by kernel_rfl) (by kernel_rfl) rfl (by kernel_rfl) rfl hB1_16.size hB1_16 (by exact List.nodup_nil) (by intro g hg; exact nomatch hg) trivial ?_ ?_
  · refine ⟨?_, ?_, ?_, ?_, ?_, ?_, ?_, ?_, ?_, ?_, ?_, ?_, ?_, ?_, ?_, ?_, ?_, ?_, trivial⟩
    · intro G wx fr hway _ hs hdef hsz
      have s2 : fr.tmps[2]? = some (.pointer (some ⟨w.heap.size, 0, none⟩)) := hs.1
      clear hs
      refine ⟨?_⟩
      refine wpList_load_blk rfl 23 (.tmp 2) rfl (way_blk hway hy1_1 (by first | exact hy1_1.lt | omega) (by simp [heldBy, Knd.blockOf])) (by rw [HSW.out]; exact hW) (by simp [Act.eval, s2]) ?_
      refine wpList_nil ?_
      exact kp_val hdef hsz (Below.refl _ _)
    · intro G wx fr hway _ hs hdef hsz
      have s9 : fr.tmps[9]? = some (.pointer (some ⟨w14.heap.size, 0, none⟩)) := hs.1
      clear hs
      refine ⟨?_⟩
      refine wpList_load_blk rfl 23 (.tmp 9) rfl (way_blk hway hy1_6 (by first | exact hy1_6.lt | omega) (by simp [heldBy, Knd.blockOf])) (by rw [HSW.out]; exact hW) (by simp [Act.eval, s9]) ?_
      refine wpList_nil ?_
      exact kp_val hdef hsz (Below.refl _ _)
    · intro G wx fr hway _ hs hdef hsz
      have s22 : fr.tmps[22]? = some (.agg (wcells a)) := hs.1
      have s23 : fr.tmps[23]? = some (.agg (wcells z11)) := hs.2.1
      clear hs
      have hq := Q12.out
      refine ⟨?_⟩
      go_wp2
      exact kp_post hsz (Below.refl _ _)
    · intro G wx fr hway _ hs hdef hsz
      have s24 : fr.tmps[24]? = some (.bool false) := hs.1
      clear hs
      refine ⟨?_⟩
      go_wp2
      exact kp_post hsz (Below.refl _ _)
    · intro G wx fr hway _ hs hdef hsz
      have s3 : fr.tmps[3]? = some (.pointer (some ⟨w1.heap.size, 0, none⟩)) := hs.1
      have s25 : fr.tmps[25]? = some (.bool false) := hs.2.1
      clear hs
      refine ⟨?_⟩
      refine wpList_load_want (by simp [Region.wanted, yielded, *]) 23 (.tmp 3) rfl (way_blk hway hy1_2 (by first | exact hy1_2.lt | omega) (by simp [heldBy, Knd.blockOf])) (by rw [HSW.out]; exact hW) (by simp [Act.eval, s3]) ?_
      refine wpList_nil ?_
      exact kp_val hdef hsz (Below.refl _ _)
    · intro G wx fr hway _ hs hdef hsz
      have s9 : fr.tmps[9]? = some (.pointer (some ⟨w14.heap.size, 0, none⟩)) := hs.1
      have s25 : fr.tmps[25]? = some (.bool false) := hs.2.1
      clear hs
      refine ⟨?_⟩
      refine wpList_load_want (by simp [Region.wanted, yielded, *]) 23 (.tmp 9) rfl (way_blk hway hy1_6 (by first | exact hy1_6.lt | omega) (by simp [heldBy, Knd.blockOf])) (by rw [HSW.out]; exact hW) (by simp [Act.eval, s9]) ?_
      refine wpList_nil ?_
      exact kp_val hdef hsz (Below.refl _ _)
    · intro G wx fr hway _ hs hdef hsz
      have s26 : fr.tmps[26]? = some (.agg (wcells b)) := hs.1
      have s27 : fr.tmps[27]? = some (.agg (wcells z11)) := hs.2.1
      have s25 : fr.tmps[25]? = some (.bool false) := hs.2.2.1
      clear hs
      have hq := Q13.out
      refine ⟨?_⟩
      go_wp2
      exact kp_post hsz (Below.refl _ _)
    · intro G wx fr hway _ hs hdef hsz
      have s25 : fr.tmps[25]? = some (.bool false) := hs.1
      have s28 : fr.tmps[28]? = some (.bool false) := hs.2.1
      clear hs
      refine ⟨?_⟩
      go_wp2
      exact kp_post hsz (Below.refl _ _)
    · intro G wx fr hway _ hs hdef hsz
      have s29 : fr.tmps[29]? = some (.bool false) := hs.1
      clear hs
      refine ⟨?_⟩
      go_wp2
      exact kp_post hsz (Below.refl _ _)
    · intro G wx fr hway _ hs hdef hsz
      have s2 : fr.tmps[2]? = some (.pointer (some ⟨w.heap.size, 0, none⟩)) := hs.1
      have s30 : fr.tmps[30]? = some (.bool false) := hs.2.1
      clear hs
      refine ⟨?_⟩
      refine wpList_load_want (by simp [Region.wanted, yielded, *]) 23 (.tmp 2) rfl (way_blk hway hy1_1 (by first | exact hy1_1.lt | omega) (by simp [heldBy, Knd.blockOf])) (by rw [HSW.out]; exact hW) (by simp [Act.eval, s2]) ?_
      refine wpList_nil ?_
      exact kp_val hdef hsz (Below.refl _ _)
    · intro G wx fr hway _ hs hdef hsz
      have s3 : fr.tmps[3]? = some (.pointer (some ⟨w1.heap.size, 0, none⟩)) := hs.1
      have s30 : fr.tmps[30]? = some (.bool false) := hs.2.1
      clear hs
      refine ⟨?_⟩
      refine wpList_load_want (by simp [Region.wanted, yielded, *]) 23 (.tmp 3) rfl (way_blk hway hy1_2 (by first | exact hy1_2.lt | omega) (by simp [heldBy, Knd.blockOf])) (by rw [HSW.out]; exact hW) (by simp [Act.eval, s3]) ?_
      refine wpList_nil ?_
      exact kp_val hdef hsz (Below.refl _ _)
    · intro G wx fr hway _ hs hdef hsz
      have s31 : fr.tmps[31]? = some (.agg (wcells a)) := hs.1
      have s32 : fr.tmps[32]? = some (.agg (wcells b)) := hs.2.1
      have s30 : fr.tmps[30]? = some (.bool false) := hs.2.2.1
      clear hs
      refine ⟨?_⟩
      go_wp2_with fail
      refine (C14.out wx).mono ?_
      rintro e w2 ⟨rfl, hb2⟩
      go_wp2
      exact kp_post hsz hb2
    · intro G wx fr hway _ hs hdef hsz
      have s8 : fr.tmps[8]? = some (.pointer (some ⟨w9.heap.size, 0, none⟩)) := hs.1
      have s30 : fr.tmps[30]? = some (.bool false) := hs.2.1
      clear hs
      refine ⟨?_⟩
      refine wpList_load_want (by simp [Region.wanted, yielded, *]) 23 (.tmp 8) rfl (way_blk hway hy1_5 (by first | exact hy1_5.lt | omega) (by simp [heldBy, Knd.blockOf])) (by rw [HSW.out]; exact hW) (by simp [Act.eval, s8]) ?_
      refine wpList_nil ?_
      exact kp_val hdef hsz (Below.refl _ _)
    · intro G wx fr hway _ hs hdef hsz
      have s7 : fr.tmps[7]? = some (.pointer (some ⟨w6.heap.size, 0, none⟩)) := hs.1
      have s30 : fr.tmps[30]? = some (.bool false) := hs.2.1
      clear hs
      refine ⟨?_⟩
      refine wpList_load_want (by simp [Region.wanted, yielded, *]) 23 (.tmp 7) rfl (way_blk hway hy1_4 (by first | exact hy1_4.lt | omega) (by simp [heldBy, Knd.blockOf])) (by rw [HSW.out]; exact hW) (by simp [Act.eval, s7]) ?_
      refine wpList_nil ?_
      exact kp_val hdef hsz (Below.refl _ _)
    · intro G wx fr hway _ hs hdef hsz
      have s34 : fr.tmps[34]? = some (.agg (wcells z5)) := hs.1
      have s35 : fr.tmps[35]? = some (.agg (wcells z3)) := hs.2.1
      have s30 : fr.tmps[30]? = some (.bool false) := hs.2.2.1
      clear hs
      refine ⟨?_⟩
      go_wp2_with fail
      refine (C15.out wx).mono ?_
      rintro e w2 ⟨rfl, hb2⟩
      go_wp2
      exact kp_post hsz hb2
    · intro G wx fr hway _ hs hdef hsz
      have s33 : fr.tmps[33]? = some (.int .i64 (-u)) := hs.1
      have s36 : fr.tmps[36]? = some (.int .i64 (-u)) := hs.2.1
      have s30 : fr.tmps[30]? = some (.bool false) := hs.2.2.1
      clear hs
      refine ⟨?_⟩
      go_wp2
      exact kp_post hsz (Below.refl _ _)
    · intro G wx fr hway _ hs hdef hsz
      have s30 : fr.tmps[30]? = some (.bool false) := hs.1
      have s37 : fr.tmps[37]? = some (.bool true) := hs.2.1
      clear hs
      refine ⟨?_⟩
      go_wp2
      exact kp_post hsz (Below.refl _ _)
    · intro G wx fr hway _ hs hdef hsz
      have s38 : fr.tmps[38]? = some (.bool true) := hs.1
      clear hs
      refine ⟨?_⟩
      go_wp2
      exact kp_post hsz (Below.refl _ _)
  · intro G V wr3 hval hway hmade hap
    replace hval : V 0 = .agg (wcells a) ∧ V 1 = .agg (wcells z11) ∧ V 2 = .bool false ∧ V 3 = .bool false ∧ V 4 = .agg (wcells b) ∧ V 5 = .agg (wcells z11) ∧ V 6 = .bool false ∧ V 7 = .bool false ∧ V 8 = .bool false ∧ V 9 = .agg (wcells a) ∧ V 10 = .agg (wcells b) ∧ V 11 = .int .i64 (-u) ∧ V 12 = .agg (wcells z5) ∧ V 13 = .agg (wcells z3) ∧ V 14 = .int .i64 (-u) ∧ V 15 = .bool true ∧ V 16 = .bool true ∧ V 17 = .bool true ∧ True := hval
    replace hmade : True := hmade
    obtain ⟨e3_0, e3_1, e3_2, e3_3, e3_4, e3_5, e3_6, e3_7, e3_8, e3_9, e3_10, e3_11, e3_12, e3_13, e3_14, e3_15, e3_16, e3_17, -⟩ := hval
    obtain ⟨-⟩ := hmade
    clear hap
    simp only [fill, Act.put, e3_0, e3_1, e3_2, e3_3, e3_4, e3_5, e3_6, e3_7, e3_8, e3_9, e3_10, e3_11, e3_12, e3_13, e3_14, e3_15, e3_16, e3_17]
    clear e3_0 e3_1 e3_2 e3_3 e3_4 e3_5 e3_6 e3_7 e3_8 e3_9 e3_10 e3_11 e3_12 e3_13 e3_14 e3_15 e3_16 e3_17
    simp only [Exit.then]
    go_simp
    clear G V
    replace hy1_1 := way_blk hway hy1_1 hy1_1.lt (by simp [heldBy, Knd.blockOf])
    replace hy1_2 := way_blk hway hy1_2 hy1_2.lt (by simp [heldBy, Knd.blockOf])
    replace hy1_3 := way_blk hway hy1_3 hy1_3.lt (by simp [heldBy, Knd.blockOf])
    replace hy1_4 := way_blk hway hy1_4 hy1_4.lt (by simp [heldBy, Knd.blockOf])
    replace hy1_5 := way_blk hway hy1_5 hy1_5.lt (by simp [heldBy, Knd.blockOf])
    replace hy1_6 := way_blk hway hy1_6 hy1_6.lt (by simp [heldBy, Knd.blockOf])
    replace hB1_16 := hway.2.2
    clear hway
    go_wp2
    refine wp_region_made (w := wr3) (B := w.heap.size) (wB := w) ((.val (.bool true)) :: (.val (.bool true)) :: (.val (.agg (wcells a))) :: (.val (.agg (wcells z3))) :: (.val (.agg (wcells z17))) :: (.val (.agg (wcells 0))) :: (.val (.bool true)) :: (.val (.bool true)) :: (.val (.bool true)) :: (.val (.agg (wcells a))) :: (.val (.agg (wcells z20))) :: (.val (.agg (wcells z22))) :: (.val (.agg (wcells z3))) :: (.val (.bool true)) :: (.val (.bool true)) :: (.val (.bool true)) :: (.val (.bool true)) :: (.val (.bool true)) :: (.val (.bool true)) :: (.val (.agg (wcells a))) :: (.val (.agg (wcells b))) :: (.val (.int .i64 (-u))) :: (.val (.agg (wcells b))) :: (.val (.agg (wcells a))) :: (.val (.int .i64 u)) :: (.val (.int .i64 (-u))) :: (.val (.bool true)) :: (.val (.bool true)) :: (.val (.bool true)) :: (.val (.agg (wcells a))) :: (.val (.agg (wcells b))) :: (.val (.int .i64 (-v))) :: (.val (.agg (wcells b))) :: (.val (.agg (wcells a))) :: (.val (.int .i64 v)) :: (.val (.int .i64 (-v))) :: (.val (.bool true)) :: (.val (.bool true)) :: (.val (.bool true)) :: (.val (.agg (wcells a))) :: (.val (.agg (wcells b))) :: (.val (.int .i64 (-v))) :: (.val (.bool false)) :: (.val (.agg (wcells a))) :: (.val (.agg (wcells b))) :: (.val (.bool false)) :: (.val (.bool true)) :: (.val (.bool true)) :: (.val (.bool true)) :: []) (by kernel_rfl) (by kernel_rfl) (by kernel_rfl) rfl (by kernel_rfl) rfl hB1_16.size hB1_16 (by exact List.nodup_nil) (by intro g hg; exact nomatch hg) trivial ?_ ?_
    · refine ⟨?_, ?_, ?_, ?_, ?_, ?_, ?_, ?_, ?_, ?_, ?_, ?_, ?_, ?_, ?_, ?_, ?_, ?_, ?_, ?_, ?_, ?_, ?_, ?_, ?_, ?_, ?_, ?_, ?_, ?_, ?_, ?_, ?_, ?_, ?_, ?_, ?_, ?_, ?_, ?_, ?_, ?_, ?_, ?_, ?_, ?_, ?_, ?_, ?_, trivial⟩
      · intro G wx fr hway _ hs hdef hsz
        have s5 : fr.tmps[5]? = some (.bool true) := hs.1
        clear hs
        refine ⟨?_⟩
        go_wp2
        exact kp_post hsz (Below.refl _ _)
      · intro G wx fr hway _ hs hdef hsz
        have s39 : fr.tmps[39]? = some (.bool true) := hs.1
        clear hs
        refine ⟨?_⟩
        go_wp2
        exact kp_post hsz (Below.refl _ _)
      · intro G wx fr hway _ hs hdef hsz
        have s2 : fr.tmps[2]? = some (.pointer (some ⟨w.heap.size, 0, none⟩)) := hs.1
        have s40 : fr.tmps[40]? = some (.bool true) := hs.2.1
        clear hs
        refine ⟨?_⟩
        refine wpList_load_want (by simp [Region.wanted, yielded, *]) 23 (.tmp 2) rfl (way_blk hway hy1_1 (by first | exact hy1_1.lt | omega) (by simp [heldBy, Knd.blockOf])) (by rw [HSW.out]; exact hW) (by simp [Act.eval, s2]) ?_
        refine wpList_nil ?_
        exact kp_val hdef hsz (Below.refl _ _)
      · intro G wx fr hway _ hs hdef hsz
        have s7 : fr.tmps[7]? = some (.pointer (some ⟨w6.heap.size, 0, none⟩)) := hs.1
        have s40 : fr.tmps[40]? = some (.bool true) := hs.2.1
        clear hs
        refine ⟨?_⟩
        refine wpList_load_want (by simp [Region.wanted, yielded, *]) 23 (.tmp 7) rfl (way_blk hway hy1_4 (by first | exact hy1_4.lt | omega) (by simp [heldBy, Knd.blockOf])) (by rw [HSW.out]; exact hW) (by simp [Act.eval, s7]) ?_
        refine wpList_nil ?_
        exact kp_val hdef hsz (Below.refl _ _)
      · intro G wx fr hway _ hs hdef hsz
        have s41 : fr.tmps[41]? = some (.agg (wcells a)) := hs.1
        have s42 : fr.tmps[42]? = some (.agg (wcells z3)) := hs.2.1
        have s40 : fr.tmps[40]? = some (.bool true) := hs.2.2.1
        clear hs
        refine ⟨?_⟩
        go_wp2_with fail
        refine (C16.out wx).mono ?_
        rintro e w2 ⟨rfl, hb2⟩
        go_wp2
        exact kp_post hsz hb2
      · intro G wx fr hway _ hs hdef hsz
        have s6 : fr.tmps[6]? = some (.pointer (some ⟨w3.heap.size, 0, none⟩)) := hs.1
        have s40 : fr.tmps[40]? = some (.bool true) := hs.2.1
        clear hs
        refine ⟨?_⟩
        refine wpList_load_want (by simp [Region.wanted, yielded, *]) 23 (.tmp 6) rfl (way_blk hway hy1_3 (by first | exact hy1_3.lt | omega) (by simp [heldBy, Knd.blockOf])) (by rw [HSW.out]; exact hW) (by simp [Act.eval, s6]) ?_
        refine wpList_nil ?_
        exact kp_val hdef hsz (Below.refl _ _)
      · intro G wx fr hway _ hs hdef hsz
        have s43 : fr.tmps[43]? = some (.agg (wcells z17)) := hs.1
        have s44 : fr.tmps[44]? = some (.agg (wcells 0)) := hs.2.1
        have s40 : fr.tmps[40]? = some (.bool true) := hs.2.2.1
        clear hs
        have hq := Q18.out
        refine ⟨?_⟩
        go_wp2
        exact kp_post hsz (Below.refl _ _)
      · intro G wx fr hway _ hs hdef hsz
        have s40 : fr.tmps[40]? = some (.bool true) := hs.1
        have s45 : fr.tmps[45]? = some (.bool true) := hs.2.1
        clear hs
        refine ⟨?_⟩
        go_wp2
        exact kp_post hsz (Below.refl _ _)
      · intro G wx fr hway _ hs hdef hsz
        have s46 : fr.tmps[46]? = some (.bool true) := hs.1
        clear hs
        refine ⟨?_⟩
        go_wp2
        exact kp_post hsz (Below.refl _ _)
      · intro G wx fr hway _ hs hdef hsz
        have s2 : fr.tmps[2]? = some (.pointer (some ⟨w.heap.size, 0, none⟩)) := hs.1
        have s47 : fr.tmps[47]? = some (.bool true) := hs.2.1
        clear hs
        refine ⟨?_⟩
        refine wpList_load_want (by simp [Region.wanted, yielded, *]) 23 (.tmp 2) rfl (way_blk hway hy1_1 (by first | exact hy1_1.lt | omega) (by simp [heldBy, Knd.blockOf])) (by rw [HSW.out]; exact hW) (by simp [Act.eval, s2]) ?_
        refine wpList_nil ?_
        exact kp_val hdef hsz (Below.refl _ _)
      · intro G wx fr hway _ hs hdef hsz
        have s47 : fr.tmps[47]? = some (.bool true) := hs.1
        clear hs
        refine ⟨?_⟩
        go_wp2_with fail
        refine (C19.out wx).mono ?_
        rintro e w2 ⟨rfl, hb2⟩
        go_wp2
        exact kp_post hsz hb2
      · intro G wx fr hway _ hs hdef hsz
        have s48 : fr.tmps[48]? = some (.agg (wcells a)) := hs.1
        have s49 : fr.tmps[49]? = some (.agg (wcells z20)) := hs.2.1
        have s47 : fr.tmps[47]? = some (.bool true) := hs.2.2.1
        clear hs
        refine ⟨?_⟩
        go_wp2_with fail
        refine (C21.out wx).mono ?_
        rintro e w2 ⟨rfl, hb2⟩
        go_wp2
        exact kp_post hsz hb2
      · intro G wx fr hway _ hs hdef hsz
        have s7 : fr.tmps[7]? = some (.pointer (some ⟨w6.heap.size, 0, none⟩)) := hs.1
        have s47 : fr.tmps[47]? = some (.bool true) := hs.2.1
        clear hs
        refine ⟨?_⟩
        refine wpList_load_want (by simp [Region.wanted, yielded, *]) 23 (.tmp 7) rfl (way_blk hway hy1_4 (by first | exact hy1_4.lt | omega) (by simp [heldBy, Knd.blockOf])) (by rw [HSW.out]; exact hW) (by simp [Act.eval, s7]) ?_
        refine wpList_nil ?_
        exact kp_val hdef hsz (Below.refl _ _)
      · intro G wx fr hway _ hs hdef hsz
        have s50 : fr.tmps[50]? = some (.agg (wcells z22)) := hs.1
        have s51 : fr.tmps[51]? = some (.agg (wcells z3)) := hs.2.1
        have s47 : fr.tmps[47]? = some (.bool true) := hs.2.2.1
        clear hs
        have hq := Q23.out
        refine ⟨?_⟩
        go_wp2
        exact kp_post hsz (Below.refl _ _)
      · intro G wx fr hway _ hs hdef hsz
        have s47 : fr.tmps[47]? = some (.bool true) := hs.1
        have s52 : fr.tmps[52]? = some (.bool true) := hs.2.1
        clear hs
        refine ⟨?_⟩
        go_wp2
        exact kp_post hsz (Below.refl _ _)
      · intro G wx fr hway _ hs hdef hsz
        have s53 : fr.tmps[53]? = some (.bool true) := hs.1
        clear hs
        refine ⟨?_⟩
        go_wp2
        exact kp_post hsz (Below.refl _ _)
      · intro G wx fr hway _ hs hdef hsz
        have s10 : fr.tmps[10]? = some (.bool true) := hs.1
        have s54 : fr.tmps[54]? = some (.bool true) := hs.2.1
        clear hs
        refine ⟨?_⟩
        go_wp2
        exact kp_post hsz (Below.refl _ _)
      · intro G wx fr hway _ hs hdef hsz
        have s54 : fr.tmps[54]? = some (.bool true) := hs.1
        have s55 : fr.tmps[55]? = some (.bool true) := hs.2.1
        clear hs
        refine ⟨?_⟩
        go_wp2
        exact kp_post hsz (Below.refl _ _)
      · intro G wx fr hway _ hs hdef hsz
        have s56 : fr.tmps[56]? = some (.bool true) := hs.1
        clear hs
        refine ⟨?_⟩
        go_wp2
        exact kp_post hsz (Below.refl _ _)
      · intro G wx fr hway _ hs hdef hsz
        have s2 : fr.tmps[2]? = some (.pointer (some ⟨w.heap.size, 0, none⟩)) := hs.1
        have s57 : fr.tmps[57]? = some (.bool true) := hs.2.1
        clear hs
        refine ⟨?_⟩
        refine wpList_load_want (by simp [Region.wanted, yielded, *]) 23 (.tmp 2) rfl (way_blk hway hy1_1 (by first | exact hy1_1.lt | omega) (by simp [heldBy, Knd.blockOf])) (by rw [HSW.out]; exact hW) (by simp [Act.eval, s2]) ?_
        refine wpList_nil ?_
        exact kp_val hdef hsz (Below.refl _ _)
      · intro G wx fr hway _ hs hdef hsz
        have s3 : fr.tmps[3]? = some (.pointer (some ⟨w1.heap.size, 0, none⟩)) := hs.1
        have s57 : fr.tmps[57]? = some (.bool true) := hs.2.1
        clear hs
        refine ⟨?_⟩
        refine wpList_load_want (by simp [Region.wanted, yielded, *]) 23 (.tmp 3) rfl (way_blk hway hy1_2 (by first | exact hy1_2.lt | omega) (by simp [heldBy, Knd.blockOf])) (by rw [HSW.out]; exact hW) (by simp [Act.eval, s3]) ?_
        refine wpList_nil ?_
        exact kp_val hdef hsz (Below.refl _ _)
      · intro G wx fr hway _ hs hdef hsz
        have s58 : fr.tmps[58]? = some (.agg (wcells a)) := hs.1
        have s59 : fr.tmps[59]? = some (.agg (wcells b)) := hs.2.1
        have s57 : fr.tmps[57]? = some (.bool true) := hs.2.2.1
        clear hs
        refine ⟨?_⟩
        go_wp2_with fail
        refine (C14.out wx).mono ?_
        rintro e w2 ⟨rfl, hb2⟩
        go_wp2
        exact kp_post hsz hb2
      · intro G wx fr hway _ hs hdef hsz
        have s3 : fr.tmps[3]? = some (.pointer (some ⟨w1.heap.size, 0, none⟩)) := hs.1
        have s57 : fr.tmps[57]? = some (.bool true) := hs.2.1
        clear hs
        refine ⟨?_⟩
        refine wpList_load_want (by simp [Region.wanted, yielded, *]) 23 (.tmp 3) rfl (way_blk hway hy1_2 (by first | exact hy1_2.lt | omega) (by simp [heldBy, Knd.blockOf])) (by rw [HSW.out]; exact hW) (by simp [Act.eval, s3]) ?_
        refine wpList_nil ?_
        exact kp_val hdef hsz (Below.refl _ _)
      · intro G wx fr hway _ hs hdef hsz
        have s2 : fr.tmps[2]? = some (.pointer (some ⟨w.heap.size, 0, none⟩)) := hs.1
        have s57 : fr.tmps[57]? = some (.bool true) := hs.2.1
        clear hs
        refine ⟨?_⟩
        refine wpList_load_want (by simp [Region.wanted, yielded, *]) 23 (.tmp 2) rfl (way_blk hway hy1_1 (by first | exact hy1_1.lt | omega) (by simp [heldBy, Knd.blockOf])) (by rw [HSW.out]; exact hW) (by simp [Act.eval, s2]) ?_
        refine wpList_nil ?_
        exact kp_val hdef hsz (Below.refl _ _)
      · intro G wx fr hway _ hs hdef hsz
        have s61 : fr.tmps[61]? = some (.agg (wcells b)) := hs.1
        have s62 : fr.tmps[62]? = some (.agg (wcells a)) := hs.2.1
        have s57 : fr.tmps[57]? = some (.bool true) := hs.2.2.1
        clear hs
        refine ⟨?_⟩
        go_wp2_with fail
        refine (C24.out wx).mono ?_
        rintro e w2 ⟨rfl, hb2⟩
        go_wp2
        exact kp_post hsz hb2
      · intro G wx fr hway _ hs hdef hsz
        have s63 : fr.tmps[63]? = some (.int .i64 u) := hs.1
        have s57 : fr.tmps[57]? = some (.bool true) := hs.2.1
        clear hs
        refine ⟨?_⟩
        go_wp2
        exact kp_post hsz (Below.refl _ _)
      · intro G wx fr hway _ hs hdef hsz
        have s60 : fr.tmps[60]? = some (.int .i64 (-u)) := hs.1
        have s64 : fr.tmps[64]? = some (.int .i64 (-u)) := hs.2.1
        have s57 : fr.tmps[57]? = some (.bool true) := hs.2.2.1
        clear hs
        refine ⟨?_⟩
        go_wp2
        exact kp_post hsz (Below.refl _ _)
      · intro G wx fr hway _ hs hdef hsz
        have s57 : fr.tmps[57]? = some (.bool true) := hs.1
        have s65 : fr.tmps[65]? = some (.bool true) := hs.2.1
        clear hs
        refine ⟨?_⟩
        go_wp2
        exact kp_post hsz (Below.refl _ _)
      · intro G wx fr hway _ hs hdef hsz
        have s66 : fr.tmps[66]? = some (.bool true) := hs.1
        clear hs
        refine ⟨?_⟩
        go_wp2
        exact kp_post hsz (Below.refl _ _)
      · intro G wx fr hway _ hs hdef hsz
        have s2 : fr.tmps[2]? = some (.pointer (some ⟨w.heap.size, 0, none⟩)) := hs.1
        have s67 : fr.tmps[67]? = some (.bool true) := hs.2.1
        clear hs
        refine ⟨?_⟩
        refine wpList_load_want (by simp [Region.wanted, yielded, *]) 23 (.tmp 2) rfl (way_blk hway hy1_1 (by first | exact hy1_1.lt | omega) (by simp [heldBy, Knd.blockOf])) (by rw [HSW.out]; exact hW) (by simp [Act.eval, s2]) ?_
        refine wpList_nil ?_
        exact kp_val hdef hsz (Below.refl _ _)
      · intro G wx fr hway _ hs hdef hsz
        have s3 : fr.tmps[3]? = some (.pointer (some ⟨w1.heap.size, 0, none⟩)) := hs.1
        have s67 : fr.tmps[67]? = some (.bool true) := hs.2.1
        clear hs
        refine ⟨?_⟩
        refine wpList_load_want (by simp [Region.wanted, yielded, *]) 23 (.tmp 3) rfl (way_blk hway hy1_2 (by first | exact hy1_2.lt | omega) (by simp [heldBy, Knd.blockOf])) (by rw [HSW.out]; exact hW) (by simp [Act.eval, s3]) ?_
        refine wpList_nil ?_
        exact kp_val hdef hsz (Below.refl _ _)
      · intro G wx fr hway _ hs hdef hsz
        have s68 : fr.tmps[68]? = some (.agg (wcells a)) := hs.1
        have s69 : fr.tmps[69]? = some (.agg (wcells b)) := hs.2.1
        have s67 : fr.tmps[67]? = some (.bool true) := hs.2.2.1
        clear hs
        refine ⟨?_⟩
        go_wp2_with fail
        refine (C25.out wx).mono ?_
        rintro e w2 ⟨rfl, hb2⟩
        go_wp2
        exact kp_post hsz hb2
      · intro G wx fr hway _ hs hdef hsz
        have s3 : fr.tmps[3]? = some (.pointer (some ⟨w1.heap.size, 0, none⟩)) := hs.1
        have s67 : fr.tmps[67]? = some (.bool true) := hs.2.1
        clear hs
        refine ⟨?_⟩
        refine wpList_load_want (by simp [Region.wanted, yielded, *]) 23 (.tmp 3) rfl (way_blk hway hy1_2 (by first | exact hy1_2.lt | omega) (by simp [heldBy, Knd.blockOf])) (by rw [HSW.out]; exact hW) (by simp [Act.eval, s3]) ?_
        refine wpList_nil ?_
        exact kp_val hdef hsz (Below.refl _ _)
      · intro G wx fr hway _ hs hdef hsz
        have s2 : fr.tmps[2]? = some (.pointer (some ⟨w.heap.size, 0, none⟩)) := hs.1
        have s67 : fr.tmps[67]? = some (.bool true) := hs.2.1
        clear hs
        refine ⟨?_⟩
        refine wpList_load_want (by simp [Region.wanted, yielded, *]) 23 (.tmp 2) rfl (way_blk hway hy1_1 (by first | exact hy1_1.lt | omega) (by simp [heldBy, Knd.blockOf])) (by rw [HSW.out]; exact hW) (by simp [Act.eval, s2]) ?_
        refine wpList_nil ?_
        exact kp_val hdef hsz (Below.refl _ _)
      · intro G wx fr hway _ hs hdef hsz
        have s71 : fr.tmps[71]? = some (.agg (wcells b)) := hs.1
        have s72 : fr.tmps[72]? = some (.agg (wcells a)) := hs.2.1
        have s67 : fr.tmps[67]? = some (.bool true) := hs.2.2.1
        clear hs
        refine ⟨?_⟩
        go_wp2_with fail
        refine (C26.out wx).mono ?_
        rintro e w2 ⟨rfl, hb2⟩
        go_wp2
        exact kp_post hsz hb2
      · intro G wx fr hway _ hs hdef hsz
        have s73 : fr.tmps[73]? = some (.int .i64 v) := hs.1
        have s67 : fr.tmps[67]? = some (.bool true) := hs.2.1
        clear hs
        refine ⟨?_⟩
        go_wp2
        exact kp_post hsz (Below.refl _ _)
      · intro G wx fr hway _ hs hdef hsz
        have s70 : fr.tmps[70]? = some (.int .i64 (-v)) := hs.1
        have s74 : fr.tmps[74]? = some (.int .i64 (-v)) := hs.2.1
        have s67 : fr.tmps[67]? = some (.bool true) := hs.2.2.1
        clear hs
        refine ⟨?_⟩
        go_wp2
        exact kp_post hsz (Below.refl _ _)
      · intro G wx fr hway _ hs hdef hsz
        have s67 : fr.tmps[67]? = some (.bool true) := hs.1
        have s75 : fr.tmps[75]? = some (.bool true) := hs.2.1
        clear hs
        refine ⟨?_⟩
        go_wp2
        exact kp_post hsz (Below.refl _ _)
      · intro G wx fr hway _ hs hdef hsz
        have s76 : fr.tmps[76]? = some (.bool true) := hs.1
        clear hs
        refine ⟨?_⟩
        go_wp2
        exact kp_post hsz (Below.refl _ _)
      · intro G wx fr hway _ hs hdef hsz
        have s2 : fr.tmps[2]? = some (.pointer (some ⟨w.heap.size, 0, none⟩)) := hs.1
        have s77 : fr.tmps[77]? = some (.bool true) := hs.2.1
        clear hs
        refine ⟨?_⟩
        refine wpList_load_want (by simp [Region.wanted, yielded, *]) 23 (.tmp 2) rfl (way_blk hway hy1_1 (by first | exact hy1_1.lt | omega) (by simp [heldBy, Knd.blockOf])) (by rw [HSW.out]; exact hW) (by simp [Act.eval, s2]) ?_
        refine wpList_nil ?_
        exact kp_val hdef hsz (Below.refl _ _)
      · intro G wx fr hway _ hs hdef hsz
        have s3 : fr.tmps[3]? = some (.pointer (some ⟨w1.heap.size, 0, none⟩)) := hs.1
        have s77 : fr.tmps[77]? = some (.bool true) := hs.2.1
        clear hs
        refine ⟨?_⟩
        refine wpList_load_want (by simp [Region.wanted, yielded, *]) 23 (.tmp 3) rfl (way_blk hway hy1_2 (by first | exact hy1_2.lt | omega) (by simp [heldBy, Knd.blockOf])) (by rw [HSW.out]; exact hW) (by simp [Act.eval, s3]) ?_
        refine wpList_nil ?_
        exact kp_val hdef hsz (Below.refl _ _)
      · intro G wx fr hway _ hs hdef hsz
        have s78 : fr.tmps[78]? = some (.agg (wcells a)) := hs.1
        have s79 : fr.tmps[79]? = some (.agg (wcells b)) := hs.2.1
        have s77 : fr.tmps[77]? = some (.bool true) := hs.2.2.1
        clear hs
        refine ⟨?_⟩
        go_wp2_with fail
        refine (C25.out wx).mono ?_
        rintro e w2 ⟨rfl, hb2⟩
        go_wp2
        exact kp_post hsz hb2
      · intro G wx fr hway _ hs hdef hsz
        have s80 : fr.tmps[80]? = some (.int .i64 (-v)) := hs.1
        have s77 : fr.tmps[77]? = some (.bool true) := hs.2.1
        clear hs
        refine ⟨?_⟩
        go_wp2
        exact kp_post hsz (Below.refl _ _)
      · intro G wx fr hway _ hs hdef hsz
        have s2 : fr.tmps[2]? = some (.pointer (some ⟨w.heap.size, 0, none⟩)) := hs.1
        have s77 : fr.tmps[77]? = some (.bool true) := hs.2.1
        clear hs
        refine ⟨?_⟩
        refine wpList_load_want (by simp [Region.wanted, yielded, *]) 23 (.tmp 2) rfl (way_blk hway hy1_1 (by first | exact hy1_1.lt | omega) (by simp [heldBy, Knd.blockOf])) (by rw [HSW.out]; exact hW) (by simp [Act.eval, s2]) ?_
        refine wpList_nil ?_
        exact kp_val hdef hsz (Below.refl _ _)
      · intro G wx fr hway _ hs hdef hsz
        have s3 : fr.tmps[3]? = some (.pointer (some ⟨w1.heap.size, 0, none⟩)) := hs.1
        have s77 : fr.tmps[77]? = some (.bool true) := hs.2.1
        clear hs
        refine ⟨?_⟩
        refine wpList_load_want (by simp [Region.wanted, yielded, *]) 23 (.tmp 3) rfl (way_blk hway hy1_2 (by first | exact hy1_2.lt | omega) (by simp [heldBy, Knd.blockOf])) (by rw [HSW.out]; exact hW) (by simp [Act.eval, s3]) ?_
        refine wpList_nil ?_
        exact kp_val hdef hsz (Below.refl _ _)
      · intro G wx fr hway _ hs hdef hsz
        have s82 : fr.tmps[82]? = some (.agg (wcells a)) := hs.1
        have s83 : fr.tmps[83]? = some (.agg (wcells b)) := hs.2.1
        have s77 : fr.tmps[77]? = some (.bool true) := hs.2.2.1
        clear hs
        have hq := Q27.out
        refine ⟨?_⟩
        go_wp2
        exact kp_post hsz (Below.refl _ _)
      · intro G wx fr hway _ hs hdef hsz
        have s81 : fr.tmps[81]? = some (.bool false) := hs.1
        have s84 : fr.tmps[84]? = some (.bool false) := hs.2.1
        have s77 : fr.tmps[77]? = some (.bool true) := hs.2.2.1
        clear hs
        refine ⟨?_⟩
        go_wp2
        exact kp_post hsz (Below.refl _ _)
      · intro G wx fr hway _ hs hdef hsz
        have s77 : fr.tmps[77]? = some (.bool true) := hs.1
        have s85 : fr.tmps[85]? = some (.bool true) := hs.2.1
        clear hs
        refine ⟨?_⟩
        go_wp2
        exact kp_post hsz (Below.refl _ _)
      · intro G wx fr hway _ hs hdef hsz
        have s86 : fr.tmps[86]? = some (.bool true) := hs.1
        clear hs
        refine ⟨?_⟩
        go_wp2
        exact kp_post hsz (Below.refl _ _)
    · intro G V wr4 hval hway hmade hap
      replace hval : V 0 = .bool true ∧ V 1 = .bool true ∧ V 2 = .agg (wcells a) ∧ V 3 = .agg (wcells z3) ∧ V 4 = .agg (wcells z17) ∧ V 5 = .agg (wcells 0) ∧ V 6 = .bool true ∧ V 7 = .bool true ∧ V 8 = .bool true ∧ V 9 = .agg (wcells a) ∧ V 10 = .agg (wcells z20) ∧ V 11 = .agg (wcells z22) ∧ V 12 = .agg (wcells z3) ∧ V 13 = .bool true ∧ V 14 = .bool true ∧ V 15 = .bool true ∧ V 16 = .bool true ∧ V 17 = .bool true ∧ V 18 = .bool true ∧ V 19 = .agg (wcells a) ∧ V 20 = .agg (wcells b) ∧ V 21 = .int .i64 (-u) ∧ V 22 = .agg (wcells b) ∧ V 23 = .agg (wcells a) ∧ V 24 = .int .i64 u ∧ V 25 = .int .i64 (-u) ∧ V 26 = .bool true ∧ V 27 = .bool true ∧ V 28 = .bool true ∧ V 29 = .agg (wcells a) ∧ V 30 = .agg (wcells b) ∧ V 31 = .int .i64 (-v) ∧ V 32 = .agg (wcells b) ∧ V 33 = .agg (wcells a) ∧ V 34 = .int .i64 v ∧ V 35 = .int .i64 (-v) ∧ V 36 = .bool true ∧ V 37 = .bool true ∧ V 38 = .bool true ∧ V 39 = .agg (wcells a) ∧ V 40 = .agg (wcells b) ∧ V 41 = .int .i64 (-v) ∧ V 42 = .bool false ∧ V 43 = .agg (wcells a) ∧ V 44 = .agg (wcells b) ∧ V 45 = .bool false ∧ V 46 = .bool true ∧ V 47 = .bool true ∧ V 48 = .bool true ∧ True := hval
      replace hmade : True := hmade
      obtain ⟨e4_0, e4_1, e4_2, e4_3, e4_4, e4_5, e4_6, e4_7, e4_8, e4_9, e4_10, e4_11, e4_12, e4_13, e4_14, e4_15, e4_16, e4_17, e4_18, e4_19, e4_20, e4_21, e4_22, e4_23, e4_24, e4_25, e4_26, e4_27, e4_28, e4_29, e4_30, e4_31, e4_32, e4_33, e4_34, e4_35, e4_36, e4_37, e4_38, e4_39, e4_40, e4_41, e4_42, e4_43, e4_44, e4_45, e4_46, e4_47, e4_48, -⟩ := hval
      obtain ⟨-⟩ := hmade
      clear hap
      simp only [fill, Act.put, e4_0, e4_1, e4_2, e4_3, e4_4, e4_5, e4_6, e4_7, e4_8, e4_9, e4_10, e4_11, e4_12, e4_13, e4_14, e4_15, e4_16, e4_17, e4_18, e4_19, e4_20, e4_21, e4_22, e4_23, e4_24, e4_25, e4_26, e4_27, e4_28, e4_29, e4_30, e4_31, e4_32, e4_33, e4_34, e4_35, e4_36, e4_37, e4_38, e4_39, e4_40, e4_41, e4_42, e4_43, e4_44, e4_45, e4_46, e4_47, e4_48]
      clear e4_0 e4_1 e4_2 e4_3 e4_4 e4_5 e4_6 e4_7 e4_8 e4_9 e4_10 e4_11 e4_12 e4_13 e4_14 e4_15 e4_16 e4_17 e4_18 e4_19 e4_20 e4_21 e4_22 e4_23 e4_24 e4_25 e4_26 e4_27 e4_28 e4_29 e4_30 e4_31 e4_32 e4_33 e4_34 e4_35 e4_36 e4_37 e4_38 e4_39 e4_40 e4_41 e4_42 e4_43 e4_44 e4_45 e4_46 e4_47 e4_48
      simp only [Exit.then]
      go_simp
      clear G V
      replace hy1_1 := way_blk hway hy1_1 hy1_1.lt (by simp [heldBy, Knd.blockOf])
      replace hy1_2 := way_blk hway hy1_2 hy1_2.lt (by simp [heldBy, Knd.blockOf])
      replace hy1_3 := way_blk hway hy1_3 hy1_3.lt (by simp [heldBy, Knd.blockOf])
      replace hy1_4 := way_blk hway hy1_4 hy1_4.lt (by simp [heldBy, Knd.blockOf])
      replace hy1_5 := way_blk hway hy1_5 hy1_5.lt (by simp [heldBy, Knd.blockOf])
      replace hy1_6 := way_blk hway hy1_6 hy1_6.lt (by simp [heldBy, Knd.blockOf])
      replace hB1_16 := hway.2.2
      clear hway
      go_wp2
      go_ret
      exact ⟨rfl, hB1_16⟩
open Go.ChangeShapes Go.WideShapes Go.ChangeAt

set_option maxRecDepth 100000 in
theorem lifted (os : Os) (started : os.Started) (H : Type) (enc : TypeId × Value → H) :
    ReturnsInHanded {} Try.checked os 7 .any (Rows.wordSignsSpec.pre6 enc Try.prog Try.f7 Rows.wordSignsRow.domain false) (Rows.wordSignsSpec.post enc Try.prog Try.f7 false true false false) := by
  refine law_lift (C := Try.checked) (ts := [23, 23]) (tb := 4) (by kernel_rfl) started (by kernel_rfl) Try.func7
    (ChangeSpec.witness6 (enc := enc) (C := Try.checked) false ⟨#[], #[.agg (Array.replicate 32 (.int .u8 0)), .agg (Array.replicate 32 (.int .u8 0))], []⟩ 8 (by kernel_rfl) (by kernel_rfl) (by kernel_rfl) (by kernel_rfl))
    (by kernel_rfl) (by kernel_rfl) (by kernel_rfl) (by kernel_rfl) Try.underlying4 rfl (fun ds h => by match ds, h with | [_, _], _ => rfl) ?_
  intro W vs hl h
  match vs, hl with
  | [v0, v1], _ =>
    have ha := h 0 _ v0 rfl rfl
    have hb := h 1 _ v1 rfl rfl
    obtain ⟨a, ha', rfl⟩ := arg_word ha
    obtain ⟨b, hb', rfl⟩ := arg_word hb
    have u0 := scmpN_anti a b
    have ub := scmpN_bd b a
    have v0 := cmpN_anti a b
    have vb := cmpN_bd b a
    by_cases p : a = shlN (ofN 255) (ofN 1)
    · by_cases e : a = b
      · exact walk_te a b _ W ha' hb' ⟨p⟩ ⟨e⟩ ⟨u0⟩ ⟨rfl⟩ ub.1 ub.2 ⟨by rw [e]; exact cmpN_self b⟩ ⟨by rw [e]; exact cmpN_self b⟩
      · exact walk_tn a b _ _ W ha' hb' ⟨p⟩ ⟨e⟩ ⟨u0⟩ ⟨rfl⟩ ub.1 ub.2 ⟨v0⟩ ⟨rfl⟩ vb.1 vb.2 (neg_beq (cmpN_ne (fun h => e h.symm)))
    · by_cases q : b = shlN (ofN 255) (ofN 1)
      · exact walk_ftn a b _ _ W ha' hb' ⟨p⟩ ⟨q⟩ ⟨fun e => p (e.trans q)⟩ ⟨u0⟩ ⟨rfl⟩ ub.1 ub.2 ⟨v0⟩ ⟨rfl⟩ vb.1 vb.2 (neg_beq (cmpN_ne (fun h => p (h.symm.trans q))))
      · by_cases e : a = b
        · exact walk_ffe a b _ W ha' hb' ⟨p⟩ ⟨q⟩ ⟨e⟩ ⟨u0⟩ ⟨rfl⟩ ub.1 ub.2 ⟨by rw [e]; exact cmpN_self b⟩ ⟨by rw [e]; exact cmpN_self b⟩
        · exact walk_ffn a b _ _ W ha' hb' ⟨p⟩ ⟨q⟩ ⟨e⟩ ⟨u0⟩ ⟨rfl⟩ ub.1 ub.2 ⟨v0⟩ ⟨rfl⟩ vb.1 vb.2 (neg_beq (cmpN_ne (fun h => e h.symm)))

theorem over : Rows.wordSignsRow.holds Try.pinned (OpenSpec.ofChange Rows.wordSignsSpec) :=
  OpenClaim.holds_of_wide 7 Try.f7 rfl rfl rfl rfl rfl rfl rfl ⟨rfl, rfl, rfl, rfl, rfl⟩ rfl rfl rfl rfl rfl (by kernel_rfl) Try.func7 (by kernel_rfl)
    (of_decide_eq_true (by kernel_rfl)) (by unfold Func.isWrapper; first | (rw [if_pos (by decide +kernel)]; kernel_rfl) | (rw [if_neg (by decide +kernel)]; exact ⟨rfl, rfl⟩))
    (fun os started H enc _ => lifted os started H enc)
end Go.Proofs.Ytcmhbolonhhhoaa.WordSigns
namespace Go.Proofs.Ytcmhbolonhhhoaa
theorem wordSigns_holds : Rows.WordSignsSaid := WordSigns.over
#print axioms wordSigns_holds
end Go.Proofs.Ytcmhbolonhhhoaa
