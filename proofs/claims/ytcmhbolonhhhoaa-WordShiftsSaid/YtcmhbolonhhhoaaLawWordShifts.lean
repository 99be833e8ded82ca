/- 'WordShifts' answers true at every input, and leaves what it was given. No condition. -/
import Derived.Test.YtcmhbolonhhhoaaWordAlive
import Derived.Test.YtcmhbolonhhhoaaWordArg
import Derived.Test.YtcmhbolonhhhoaaRefShifts
import Derived.Test.YtcmhbolonhhhoaaRefExt
import Derived.Test.YtcmhbolonhhhoaaLaw
import Derived.Test.YtcmhbolonhhhoaaRows
namespace Go.Proofs.Ytcmhbolonhhhoaa.WordShifts
open Go Go.RowKit Go.Mun Go.Proofs

set_option maxRecDepth 100000 in
set_option maxHeartbeats 8000000 in
theorem walk (k : Int) (a : Nat) (w : World) (ha : a < 2 ^ 256) (h1 : -9223372036854775808 ≤ k) (h2 : k ≤ 9223372036854775807) : Calls Try.prog 5 #[.int .i64 k, .agg (wcells a)] w fun e w' => e = .returned (.bool true) ∧ Below w.heap.size w w' := by
  have hW := wordTy
  have zW := zWordL
  have HSW := Lib.hid wcells_size
  have H1W := Lib.hid wcells_one
  have HZW := Lib.hid wcells_lit0
  have C1 := Lib.hid (fun w => alive1 w)
  obtain ⟨z3, Ez3⟩ : ∃ z, z = ofN k := ⟨_, rfl⟩
  have hz3 : z3 < 2 ^ 256 := by rw [Ez3]; exact (ofN_lt _)
  have C2 := Lib.hid (fun w => RefOf_any k w h1 h2)
  rw [← Ez3] at C2
  obtain ⟨z5, Ez5⟩ : ∃ z, z = shlN z3 a := ⟨_, rfl⟩
  have hz5 : z5 < 2 ^ 256 := by rw [Ez5]; exact (shlN_lt _ _)
  have C4 := Lib.hid (fun w => Shl_all z3 a w hz3 ha)
  rw [← Ez5] at C4
  have C6 := Lib.hid (fun w => RefShl_all z3 a w hz3 ha)
  rw [← Ez5] at C6
  have Q7 := Lib.hid (fun w => eq_word z5 z5 hz5 hz5 w)
  rw [decide_eq_true rfl] at Q7
  obtain ⟨z9, Ez9⟩ : ∃ z, z = shrN z3 a := ⟨_, rfl⟩
  have hz9 : z9 < 2 ^ 256 := by rw [Ez9]; exact (shrN_lt ha)
  have C8 := Lib.hid (fun w => Shr_all z3 a w hz3 ha)
  rw [← Ez9] at C8
  have C10 := Lib.hid (fun w => RefShr_all z3 a w hz3 ha)
  rw [← Ez9] at C10
  have Q11 := Lib.hid (fun w => eq_word z9 z9 hz9 hz9 w)
  rw [decide_eq_true rfl] at Q11
  obtain ⟨z13, Ez13⟩ : ∃ z, z = sarN z3 a := ⟨_, rfl⟩
  have hz13 : z13 < 2 ^ 256 := by rw [Ez13]; exact (sarN_lt ha)
  have C12 := Lib.hid (fun w => Sar_all z3 a w hz3 ha)
  rw [← Ez13] at C12
  have C14 := Lib.hid (fun w => RefSar_all z3 a w hz3 ha)
  rw [← Ez13] at C14
  have Q15 := Lib.hid (fun w => eq_word z13 z13 hz13 hz13 w)
  rw [decide_eq_true rfl] at Q15
  obtain ⟨z17, Ez17⟩ : ∃ z, z = byteN z3 a := ⟨_, rfl⟩
  have hz17 : z17 < 2 ^ 256 := by rw [Ez17]; exact (byteN_lt _ _)
  have C16 := Lib.hid (fun w => Byte_all z3 a w hz3)
  rw [← Ez17] at C16
  have C18 := Lib.hid (fun w => RefByte_all z3 a w hz3)
  rw [← Ez17] at C18
  have Q19 := Lib.hid (fun w => eq_word z17 z17 hz17 hz17 w)
  rw [decide_eq_true rfl] at Q19
  obtain ⟨z21, Ez21⟩ : ∃ z, z = extN z3 a := ⟨_, rfl⟩
  have hz21 : z21 < 2 ^ 256 := by rw [Ez21]; exact (extN_lt ha)
  have C20 := Lib.hid (fun w => Extend_all z3 a w hz3)
  rw [← Ez21] at C20
  have C22 := Lib.hid (fun w => RefExtend_all z3 a w hz3)
  rw [← Ez21] at C22
  have Q23 := Lib.hid (fun w => eq_word z21 z21 hz21 hz21 w)
  rw [decide_eq_true rfl] at Q23
  clear Ez3 Ez5 Ez9 Ez13 Ez17 Ez21 hz3 hz5 hz9 hz13 hz17 hz21
  go_enter Try.func5, Try.ntmps5
  have tk0_0 : True := trivial
  have tk0_1 : True := trivial
  have tk0_2 : True := trivial
  have tk0_3 : True := trivial
  have tk0_4 : True := trivial
  go_wp2_with (first
    | ((with_reducible refine gd_box ?_); have _t := tk0_0; refine wpList_box_agg rfl _ (.tmp 1) rfl rfl ?_; clear tk0_0; intro w1 hx1 hb1 hl1; have hz1 := hx1.lt; have hs1 := hb1.size)
    | (go_at_call 10; have _t := tk0_1; refine (C1.out _).mono ?_; clear tk0_1; rintro e w2 ⟨rfl, hb2⟩; have hs2 := hb2.size)
    | (go_at_call 19; have _t := tk0_2; refine (C2.out _).mono ?_; clear tk0_2; rintro e w3 ⟨rfl, hb3⟩; have hs3 := hb3.size)
    | ((with_reducible refine gd_alloc ?_); have _t := tk0_3; refine wpList_alloc_blk rfl 23 rfl zW ?_; clear tk0_3; intro w4 hx4 hb4 hl4; have hz4 := hx4.lt; have hs4 := hb4.size)
    | ((with_reducible refine gd_store ?_); have _t := tk0_4; refine wpList_store_all rfl 23 (.tmp 6) (.tmp 9) rfl (wcells z3) hx4 (by rw [HSW.out]; exact hW) (by rw [HSW.out]; exact HSW.out 0) (H1W.out _) (by rfl) (by rfl) ?_; clear tk0_4; intro w5 hx5 hg5; have hs5 := hg5.size)
    | fail)
  have hy1_1 := ((((hx1.ext hb2).ext hb3).ext hb4).grown hg5 (by simp; omega))
  have hy1_2 := hx5
  have hB1_1 := hb1
  have hB1_2 := below_step hB1_1 hb2
  have hB1_3 := below_step hB1_2 hb3
  have hB1_4 := below_step hB1_3 hb4
  have hB1_5 := below_blk hB1_4 hB1_4.size hg5 (by first | omega | (simp; omega))
  clear hb1 hl1 hz1 hs1 hb2 hs2 hb3 hs3 hx4 hb4 hl4 hz4 hs4 hg5 hs5 hx1 hx5 hB1_1 hB1_2 hB1_3 hB1_4
  refine wp_region_made (w := w5) (B := w.heap.size) (wB := w) ((.val (.bool true)) :: (.val (.bool true)) :: (.val (.agg (wcells z3))) :: (.val (.agg (wcells a))) :: (.val (.agg (wcells z5))) :: (.val (.agg (wcells z3))) :: (.val (.agg (wcells a))) :: (.val (.agg (wcells z5))) :: (.val (.bool true)) :: (.val (.bool true)) :: (.val (.bool true)) :: (.val (.agg (wcells z3))) :: (.val (.agg (wcells a))) :: (.val (.agg (wcells z9))) :: (.val (.agg (wcells z3))) :: (.val (.agg (wcells a))) :: (.val (.agg (wcells z9))) :: (.val (.bool true)) :: (.val (.bool true)) :: (.val (.bool true)) :: (.val (.agg (wcells z3))) :: (.val (.agg (wcells a))) :: (.val (.agg (wcells z13))) :: (.val (.agg (wcells z3))) :: (.val (.agg (wcells a))) :: (.val (.agg (wcells z13))) :: (.val (.bool true)) :: (.val (.bool true)) :: (.val (.bool true)) :: (.val (.agg (wcells z3))) :: (.val (.agg (wcells a))) :: (.val (.agg (wcells z17))) :: (.val (.agg (wcells z3))) :: (.val (.agg (wcells a))) :: (.val (.agg (wcells z17))) :: (.val (.bool true)) :: (.val (.bool true)) :: (.val (.bool true)) :: (.val (.agg (wcells z3))) :: (.val (.agg (wcells a))) :: (.val (.agg (wcells z21))) :: (.val (.agg (wcells z3))) :: (.val (.agg (wcells a))) :: (.val (.agg (wcells z21))) :: (.val (.bool true)) :: (.val (.bool true)) :: (.val (.bool true)) :: []) (by kernel_rfl) (by kernel_rfl) (by kernel_rfl) rfl (by kernel_rfl) rfl hB1_5.size hB1_5 (by exact List.nodup_nil) (by intro g hg; exact nomatch hg) trivial ?_ ?_
  · refine ⟨?_, ?_, ?_, ?_, ?_, ?_, ?_, ?_, ?_, ?_, ?_, ?_, ?_, ?_, ?_, ?_, ?_, ?_, ?_, ?_, ?_, ?_, ?_, ?_, ?_, ?_, ?_, ?_, ?_, ?_, ?_, ?_, ?_, ?_, ?_, ?_, ?_, ?_, ?_, ?_, ?_, ?_, ?_, ?_, ?_, ?_, ?_, trivial⟩
    · intro G wx fr hway _ hs hdef hsz
      have s5 : fr.tmps[5]? = some (.bool true) := hs.1
      clear hs
      refine ⟨?_⟩
      go_wp2
      exact kp_post hsz (Below.refl _ _)
    · intro G wx fr hway _ hs hdef hsz
      have s10 : fr.tmps[10]? = some (.bool true) := hs.1
      clear hs
      refine ⟨?_⟩
      go_wp2
      exact kp_post hsz (Below.refl _ _)
    · intro G wx fr hway _ hs hdef hsz
      have s6 : fr.tmps[6]? = some (.pointer (some ⟨w3.heap.size, 0, none⟩)) := hs.1
      have s11 : fr.tmps[11]? = some (.bool true) := hs.2.1
      clear hs
      refine ⟨?_⟩
      refine wpList_load_want (by simp [Region.wanted, yielded, *]) 23 (.tmp 6) rfl (way_blk hway hy1_2 (by first | exact hy1_2.lt | omega) (by simp [heldBy, Knd.blockOf])) (by rw [HSW.out]; exact hW) (by simp [Act.eval, s6]) ?_
      refine wpList_nil ?_
      exact kp_val hdef hsz (Below.refl _ _)
    · intro G wx fr hway _ hs hdef hsz
      have s3 : fr.tmps[3]? = some (.pointer (some ⟨w.heap.size, 0, none⟩)) := hs.1
      have s11 : fr.tmps[11]? = some (.bool true) := hs.2.1
      clear hs
      refine ⟨?_⟩
      refine wpList_load_want (by simp [Region.wanted, yielded, *]) 23 (.tmp 3) rfl (way_blk hway hy1_1 (by first | exact hy1_1.lt | omega) (by simp [heldBy, Knd.blockOf])) (by rw [HSW.out]; exact hW) (by simp [Act.eval, s3]) ?_
      refine wpList_nil ?_
      exact kp_val hdef hsz (Below.refl _ _)
    · intro G wx fr hway _ hs hdef hsz
      have s12 : fr.tmps[12]? = some (.agg (wcells z3)) := hs.1
      have s13 : fr.tmps[13]? = some (.agg (wcells a)) := hs.2.1
      have s11 : fr.tmps[11]? = some (.bool true) := hs.2.2.1
      clear hs
      refine ⟨?_⟩
      go_wp2_with fail
      refine (C4.out wx).mono ?_
      rintro e w2 ⟨rfl, hb2⟩
      go_wp2
      exact kp_post hsz hb2
    · intro G wx fr hway _ hs hdef hsz
      have s6 : fr.tmps[6]? = some (.pointer (some ⟨w3.heap.size, 0, none⟩)) := hs.1
      have s11 : fr.tmps[11]? = some (.bool true) := hs.2.1
      clear hs
      refine ⟨?_⟩
      refine wpList_load_want (by simp [Region.wanted, yielded, *]) 23 (.tmp 6) rfl (way_blk hway hy1_2 (by first | exact hy1_2.lt | omega) (by simp [heldBy, Knd.blockOf])) (by rw [HSW.out]; exact hW) (by simp [Act.eval, s6]) ?_
      refine wpList_nil ?_
      exact kp_val hdef hsz (Below.refl _ _)
    · intro G wx fr hway _ hs hdef hsz
      have s3 : fr.tmps[3]? = some (.pointer (some ⟨w.heap.size, 0, none⟩)) := hs.1
      have s11 : fr.tmps[11]? = some (.bool true) := hs.2.1
      clear hs
      refine ⟨?_⟩
      refine wpList_load_want (by simp [Region.wanted, yielded, *]) 23 (.tmp 3) rfl (way_blk hway hy1_1 (by first | exact hy1_1.lt | omega) (by simp [heldBy, Knd.blockOf])) (by rw [HSW.out]; exact hW) (by simp [Act.eval, s3]) ?_
      refine wpList_nil ?_
      exact kp_val hdef hsz (Below.refl _ _)
    · intro G wx fr hway _ hs hdef hsz
      have s15 : fr.tmps[15]? = some (.agg (wcells z3)) := hs.1
      have s16 : fr.tmps[16]? = some (.agg (wcells a)) := hs.2.1
      have s11 : fr.tmps[11]? = some (.bool true) := hs.2.2.1
      clear hs
      refine ⟨?_⟩
      go_wp2_with fail
      refine (C6.out wx).mono ?_
      rintro e w2 ⟨rfl, hb2⟩
      go_wp2
      exact kp_post hsz hb2
    · intro G wx fr hway _ hs hdef hsz
      have s14 : fr.tmps[14]? = some (.agg (wcells z5)) := hs.1
      have s17 : fr.tmps[17]? = some (.agg (wcells z5)) := hs.2.1
      have s11 : fr.tmps[11]? = some (.bool true) := hs.2.2.1
      clear hs
      have hq := Q7.out
      refine ⟨?_⟩
      go_wp2
      exact kp_post hsz (Below.refl _ _)
    · intro G wx fr hway _ hs hdef hsz
      have s11 : fr.tmps[11]? = some (.bool true) := hs.1
      have s18 : fr.tmps[18]? = some (.bool true) := hs.2.1
      clear hs
      refine ⟨?_⟩
      go_wp2
      exact kp_post hsz (Below.refl _ _)
    · intro G wx fr hway _ hs hdef hsz
      have s19 : fr.tmps[19]? = some (.bool true) := hs.1
      clear hs
      refine ⟨?_⟩
      go_wp2
      exact kp_post hsz (Below.refl _ _)
    · intro G wx fr hway _ hs hdef hsz
      have s6 : fr.tmps[6]? = some (.pointer (some ⟨w3.heap.size, 0, none⟩)) := hs.1
      have s20 : fr.tmps[20]? = some (.bool true) := hs.2.1
      clear hs
      refine ⟨?_⟩
      refine wpList_load_want (by simp [Region.wanted, yielded, *]) 23 (.tmp 6) rfl (way_blk hway hy1_2 (by first | exact hy1_2.lt | omega) (by simp [heldBy, Knd.blockOf])) (by rw [HSW.out]; exact hW) (by simp [Act.eval, s6]) ?_
      refine wpList_nil ?_
      exact kp_val hdef hsz (Below.refl _ _)
    · intro G wx fr hway _ hs hdef hsz
      have s3 : fr.tmps[3]? = some (.pointer (some ⟨w.heap.size, 0, none⟩)) := hs.1
      have s20 : fr.tmps[20]? = some (.bool true) := hs.2.1
      clear hs
      refine ⟨?_⟩
      refine wpList_load_want (by simp [Region.wanted, yielded, *]) 23 (.tmp 3) rfl (way_blk hway hy1_1 (by first | exact hy1_1.lt | omega) (by simp [heldBy, Knd.blockOf])) (by rw [HSW.out]; exact hW) (by simp [Act.eval, s3]) ?_
      refine wpList_nil ?_
      exact kp_val hdef hsz (Below.refl _ _)
    · intro G wx fr hway _ hs hdef hsz
      have s21 : fr.tmps[21]? = some (.agg (wcells z3)) := hs.1
      have s22 : fr.tmps[22]? = some (.agg (wcells a)) := hs.2.1
      have s20 : fr.tmps[20]? = some (.bool true) := hs.2.2.1
      clear hs
      refine ⟨?_⟩
      go_wp2_with fail
      refine (C8.out wx).mono ?_
      rintro e w2 ⟨rfl, hb2⟩
      go_wp2
      exact kp_post hsz hb2
    · intro G wx fr hway _ hs hdef hsz
      have s6 : fr.tmps[6]? = some (.pointer (some ⟨w3.heap.size, 0, none⟩)) := hs.1
      have s20 : fr.tmps[20]? = some (.bool true) := hs.2.1
      clear hs
      refine ⟨?_⟩
      refine wpList_load_want (by simp [Region.wanted, yielded, *]) 23 (.tmp 6) rfl (way_blk hway hy1_2 (by first | exact hy1_2.lt | omega) (by simp [heldBy, Knd.blockOf])) (by rw [HSW.out]; exact hW) (by simp [Act.eval, s6]) ?_
      refine wpList_nil ?_
      exact kp_val hdef hsz (Below.refl _ _)
    · intro G wx fr hway _ hs hdef hsz
      have s3 : fr.tmps[3]? = some (.pointer (some ⟨w.heap.size, 0, none⟩)) := hs.1
      have s20 : fr.tmps[20]? = some (.bool true) := hs.2.1
      clear hs
      refine ⟨?_⟩
      refine wpList_load_want (by simp [Region.wanted, yielded, *]) 23 (.tmp 3) rfl (way_blk hway hy1_1 (by first | exact hy1_1.lt | omega) (by simp [heldBy, Knd.blockOf])) (by rw [HSW.out]; exact hW) (by simp [Act.eval, s3]) ?_
      refine wpList_nil ?_
      exact kp_val hdef hsz (Below.refl _ _)
    · intro G wx fr hway _ hs hdef hsz
      have s24 : fr.tmps[24]? = some (.agg (wcells z3)) := hs.1
      have s25 : fr.tmps[25]? = some (.agg (wcells a)) := hs.2.1
      have s20 : fr.tmps[20]? = some (.bool true) := hs.2.2.1
      clear hs
      refine ⟨?_⟩
      go_wp2_with fail
      refine (C10.out wx).mono ?_
      rintro e w2 ⟨rfl, hb2⟩
      go_wp2
      exact kp_post hsz hb2
    · intro G wx fr hway _ hs hdef hsz
      have s23 : fr.tmps[23]? = some (.agg (wcells z9)) := hs.1
      have s26 : fr.tmps[26]? = some (.agg (wcells z9)) := hs.2.1
      have s20 : fr.tmps[20]? = some (.bool true) := hs.2.2.1
      clear hs
      have hq := Q11.out
      refine ⟨?_⟩
      go_wp2
      exact kp_post hsz (Below.refl _ _)
    · intro G wx fr hway _ hs hdef hsz
      have s20 : fr.tmps[20]? = some (.bool true) := hs.1
      have s27 : fr.tmps[27]? = some (.bool true) := hs.2.1
      clear hs
      refine ⟨?_⟩
      go_wp2
      exact kp_post hsz (Below.refl _ _)
    · intro G wx fr hway _ hs hdef hsz
      have s28 : fr.tmps[28]? = some (.bool true) := hs.1
      clear hs
      refine ⟨?_⟩
      go_wp2
      exact kp_post hsz (Below.refl _ _)
    · intro G wx fr hway _ hs hdef hsz
      have s6 : fr.tmps[6]? = some (.pointer (some ⟨w3.heap.size, 0, none⟩)) := hs.1
      have s29 : fr.tmps[29]? = some (.bool true) := hs.2.1
      clear hs
      refine ⟨?_⟩
      refine wpList_load_want (by simp [Region.wanted, yielded, *]) 23 (.tmp 6) rfl (way_blk hway hy1_2 (by first | exact hy1_2.lt | omega) (by simp [heldBy, Knd.blockOf])) (by rw [HSW.out]; exact hW) (by simp [Act.eval, s6]) ?_
      refine wpList_nil ?_
      exact kp_val hdef hsz (Below.refl _ _)
    · intro G wx fr hway _ hs hdef hsz
      have s3 : fr.tmps[3]? = some (.pointer (some ⟨w.heap.size, 0, none⟩)) := hs.1
      have s29 : fr.tmps[29]? = some (.bool true) := hs.2.1
      clear hs
      refine ⟨?_⟩
      refine wpList_load_want (by simp [Region.wanted, yielded, *]) 23 (.tmp 3) rfl (way_blk hway hy1_1 (by first | exact hy1_1.lt | omega) (by simp [heldBy, Knd.blockOf])) (by rw [HSW.out]; exact hW) (by simp [Act.eval, s3]) ?_
      refine wpList_nil ?_
      exact kp_val hdef hsz (Below.refl _ _)
    · intro G wx fr hway _ hs hdef hsz
      have s30 : fr.tmps[30]? = some (.agg (wcells z3)) := hs.1
      have s31 : fr.tmps[31]? = some (.agg (wcells a)) := hs.2.1
      have s29 : fr.tmps[29]? = some (.bool true) := hs.2.2.1
      clear hs
      refine ⟨?_⟩
      go_wp2_with fail
      refine (C12.out wx).mono ?_
      rintro e w2 ⟨rfl, hb2⟩
      go_wp2
      exact kp_post hsz hb2
    · intro G wx fr hway _ hs hdef hsz
      have s6 : fr.tmps[6]? = some (.pointer (some ⟨w3.heap.size, 0, none⟩)) := hs.1
      have s29 : fr.tmps[29]? = some (.bool true) := hs.2.1
      clear hs
      refine ⟨?_⟩
      refine wpList_load_want (by simp [Region.wanted, yielded, *]) 23 (.tmp 6) rfl (way_blk hway hy1_2 (by first | exact hy1_2.lt | omega) (by simp [heldBy, Knd.blockOf])) (by rw [HSW.out]; exact hW) (by simp [Act.eval, s6]) ?_
      refine wpList_nil ?_
      exact kp_val hdef hsz (Below.refl _ _)
    · intro G wx fr hway _ hs hdef hsz
      have s3 : fr.tmps[3]? = some (.pointer (some ⟨w.heap.size, 0, none⟩)) := hs.1
      have s29 : fr.tmps[29]? = some (.bool true) := hs.2.1
      clear hs
      refine ⟨?_⟩
      refine wpList_load_want (by simp [Region.wanted, yielded, *]) 23 (.tmp 3) rfl (way_blk hway hy1_1 (by first | exact hy1_1.lt | omega) (by simp [heldBy, Knd.blockOf])) (by rw [HSW.out]; exact hW) (by simp [Act.eval, s3]) ?_
      refine wpList_nil ?_
      exact kp_val hdef hsz (Below.refl _ _)
    · intro G wx fr hway _ hs hdef hsz
      have s33 : fr.tmps[33]? = some (.agg (wcells z3)) := hs.1
      have s34 : fr.tmps[34]? = some (.agg (wcells a)) := hs.2.1
      have s29 : fr.tmps[29]? = some (.bool true) := hs.2.2.1
      clear hs
      refine ⟨?_⟩
      go_wp2_with fail
      refine (C14.out wx).mono ?_
      rintro e w2 ⟨rfl, hb2⟩
      go_wp2
      exact kp_post hsz hb2
    · intro G wx fr hway _ hs hdef hsz
      have s32 : fr.tmps[32]? = some (.agg (wcells z13)) := hs.1
      have s35 : fr.tmps[35]? = some (.agg (wcells z13)) := hs.2.1
      have s29 : fr.tmps[29]? = some (.bool true) := hs.2.2.1
      clear hs
      have hq := Q15.out
      refine ⟨?_⟩
      go_wp2
      exact kp_post hsz (Below.refl _ _)
    · intro G wx fr hway _ hs hdef hsz
      have s29 : fr.tmps[29]? = some (.bool true) := hs.1
      have s36 : fr.tmps[36]? = some (.bool true) := hs.2.1
      clear hs
      refine ⟨?_⟩
      go_wp2
      exact kp_post hsz (Below.refl _ _)
    · intro G wx fr hway _ hs hdef hsz
      have s37 : fr.tmps[37]? = some (.bool true) := hs.1
      clear hs
      refine ⟨?_⟩
      go_wp2
      exact kp_post hsz (Below.refl _ _)
    · intro G wx fr hway _ hs hdef hsz
      have s6 : fr.tmps[6]? = some (.pointer (some ⟨w3.heap.size, 0, none⟩)) := hs.1
      have s38 : fr.tmps[38]? = some (.bool true) := hs.2.1
      clear hs
      refine ⟨?_⟩
      refine wpList_load_want (by simp [Region.wanted, yielded, *]) 23 (.tmp 6) rfl (way_blk hway hy1_2 (by first | exact hy1_2.lt | omega) (by simp [heldBy, Knd.blockOf])) (by rw [HSW.out]; exact hW) (by simp [Act.eval, s6]) ?_
      refine wpList_nil ?_
      exact kp_val hdef hsz (Below.refl _ _)
    · intro G wx fr hway _ hs hdef hsz
      have s3 : fr.tmps[3]? = some (.pointer (some ⟨w.heap.size, 0, none⟩)) := hs.1
      have s38 : fr.tmps[38]? = some (.bool true) := hs.2.1
      clear hs
      refine ⟨?_⟩
      refine wpList_load_want (by simp [Region.wanted, yielded, *]) 23 (.tmp 3) rfl (way_blk hway hy1_1 (by first | exact hy1_1.lt | omega) (by simp [heldBy, Knd.blockOf])) (by rw [HSW.out]; exact hW) (by simp [Act.eval, s3]) ?_
      refine wpList_nil ?_
      exact kp_val hdef hsz (Below.refl _ _)
    · intro G wx fr hway _ hs hdef hsz
      have s39 : fr.tmps[39]? = some (.agg (wcells z3)) := hs.1
      have s40 : fr.tmps[40]? = some (.agg (wcells a)) := hs.2.1
      have s38 : fr.tmps[38]? = some (.bool true) := hs.2.2.1
      clear hs
      refine ⟨?_⟩
      go_wp2_with fail
      refine (C16.out wx).mono ?_
      rintro e w2 ⟨rfl, hb2⟩
      go_wp2
      exact kp_post hsz hb2
    · intro G wx fr hway _ hs hdef hsz
      have s6 : fr.tmps[6]? = some (.pointer (some ⟨w3.heap.size, 0, none⟩)) := hs.1
      have s38 : fr.tmps[38]? = some (.bool true) := hs.2.1
      clear hs
      refine ⟨?_⟩
      refine wpList_load_want (by simp [Region.wanted, yielded, *]) 23 (.tmp 6) rfl (way_blk hway hy1_2 (by first | exact hy1_2.lt | omega) (by simp [heldBy, Knd.blockOf])) (by rw [HSW.out]; exact hW) (by simp [Act.eval, s6]) ?_
      refine wpList_nil ?_
      exact kp_val hdef hsz (Below.refl _ _)
    · intro G wx fr hway _ hs hdef hsz
      have s3 : fr.tmps[3]? = some (.pointer (some ⟨w.heap.size, 0, none⟩)) := hs.1
      have s38 : fr.tmps[38]? = some (.bool true) := hs.2.1
      clear hs
      refine ⟨?_⟩
      refine wpList_load_want (by simp [Region.wanted, yielded, *]) 23 (.tmp 3) rfl (way_blk hway hy1_1 (by first | exact hy1_1.lt | omega) (by simp [heldBy, Knd.blockOf])) (by rw [HSW.out]; exact hW) (by simp [Act.eval, s3]) ?_
      refine wpList_nil ?_
      exact kp_val hdef hsz (Below.refl _ _)
    · intro G wx fr hway _ hs hdef hsz
      have s42 : fr.tmps[42]? = some (.agg (wcells z3)) := hs.1
      have s43 : fr.tmps[43]? = some (.agg (wcells a)) := hs.2.1
      have s38 : fr.tmps[38]? = some (.bool true) := hs.2.2.1
      clear hs
      refine ⟨?_⟩
      go_wp2_with fail
      refine (C18.out wx).mono ?_
      rintro e w2 ⟨rfl, hb2⟩
      go_wp2
      exact kp_post hsz hb2
    · intro G wx fr hway _ hs hdef hsz
      have s41 : fr.tmps[41]? = some (.agg (wcells z17)) := hs.1
      have s44 : fr.tmps[44]? = some (.agg (wcells z17)) := hs.2.1
      have s38 : fr.tmps[38]? = some (.bool true) := hs.2.2.1
      clear hs
      have hq := Q19.out
      refine ⟨?_⟩
      go_wp2
      exact kp_post hsz (Below.refl _ _)
    · intro G wx fr hway _ hs hdef hsz
      have s38 : fr.tmps[38]? = some (.bool true) := hs.1
      have s45 : fr.tmps[45]? = some (.bool true) := hs.2.1
      clear hs
      refine ⟨?_⟩
      go_wp2
      exact kp_post hsz (Below.refl _ _)
    · intro G wx fr hway _ hs hdef hsz
      have s46 : fr.tmps[46]? = some (.bool true) := hs.1
      clear hs
      refine ⟨?_⟩
      go_wp2
      exact kp_post hsz (Below.refl _ _)
    · intro G wx fr hway _ hs hdef hsz
      have s6 : fr.tmps[6]? = some (.pointer (some ⟨w3.heap.size, 0, none⟩)) := hs.1
      have s47 : fr.tmps[47]? = some (.bool true) := hs.2.1
      clear hs
      refine ⟨?_⟩
      refine wpList_load_want (by simp [Region.wanted, yielded, *]) 23 (.tmp 6) rfl (way_blk hway hy1_2 (by first | exact hy1_2.lt | omega) (by simp [heldBy, Knd.blockOf])) (by rw [HSW.out]; exact hW) (by simp [Act.eval, s6]) ?_
      refine wpList_nil ?_
      exact kp_val hdef hsz (Below.refl _ _)
    · intro G wx fr hway _ hs hdef hsz
      have s3 : fr.tmps[3]? = some (.pointer (some ⟨w.heap.size, 0, none⟩)) := hs.1
      have s47 : fr.tmps[47]? = some (.bool true) := hs.2.1
      clear hs
      refine ⟨?_⟩
      refine wpList_load_want (by simp [Region.wanted, yielded, *]) 23 (.tmp 3) rfl (way_blk hway hy1_1 (by first | exact hy1_1.lt | omega) (by simp [heldBy, Knd.blockOf])) (by rw [HSW.out]; exact hW) (by simp [Act.eval, s3]) ?_
      refine wpList_nil ?_
      exact kp_val hdef hsz (Below.refl _ _)
    · intro G wx fr hway _ hs hdef hsz
      have s48 : fr.tmps[48]? = some (.agg (wcells z3)) := hs.1
      have s49 : fr.tmps[49]? = some (.agg (wcells a)) := hs.2.1
      have s47 : fr.tmps[47]? = some (.bool true) := hs.2.2.1
      clear hs
      refine ⟨?_⟩
      go_wp2_with fail
      refine (C20.out wx).mono ?_
      rintro e w2 ⟨rfl, hb2⟩
      go_wp2
      exact kp_post hsz hb2
    · intro G wx fr hway _ hs hdef hsz
      have s6 : fr.tmps[6]? = some (.pointer (some ⟨w3.heap.size, 0, none⟩)) := hs.1
      have s47 : fr.tmps[47]? = some (.bool true) := hs.2.1
      clear hs
      refine ⟨?_⟩
      refine wpList_load_want (by simp [Region.wanted, yielded, *]) 23 (.tmp 6) rfl (way_blk hway hy1_2 (by first | exact hy1_2.lt | omega) (by simp [heldBy, Knd.blockOf])) (by rw [HSW.out]; exact hW) (by simp [Act.eval, s6]) ?_
      refine wpList_nil ?_
      exact kp_val hdef hsz (Below.refl _ _)
    · intro G wx fr hway _ hs hdef hsz
      have s3 : fr.tmps[3]? = some (.pointer (some ⟨w.heap.size, 0, none⟩)) := hs.1
      have s47 : fr.tmps[47]? = some (.bool true) := hs.2.1
      clear hs
      refine ⟨?_⟩
      refine wpList_load_want (by simp [Region.wanted, yielded, *]) 23 (.tmp 3) rfl (way_blk hway hy1_1 (by first | exact hy1_1.lt | omega) (by simp [heldBy, Knd.blockOf])) (by rw [HSW.out]; exact hW) (by simp [Act.eval, s3]) ?_
      refine wpList_nil ?_
      exact kp_val hdef hsz (Below.refl _ _)
    · intro G wx fr hway _ hs hdef hsz
      have s51 : fr.tmps[51]? = some (.agg (wcells z3)) := hs.1
      have s52 : fr.tmps[52]? = some (.agg (wcells a)) := hs.2.1
      have s47 : fr.tmps[47]? = some (.bool true) := hs.2.2.1
      clear hs
      refine ⟨?_⟩
      go_wp2_with fail
      refine (C22.out wx).mono ?_
      rintro e w2 ⟨rfl, hb2⟩
      go_wp2
      exact kp_post hsz hb2
    · intro G wx fr hway _ hs hdef hsz
      have s50 : fr.tmps[50]? = some (.agg (wcells z21)) := hs.1
      have s53 : fr.tmps[53]? = some (.agg (wcells z21)) := hs.2.1
      have s47 : fr.tmps[47]? = some (.bool true) := hs.2.2.1
      clear hs
      have hq := Q23.out
      refine ⟨?_⟩
      go_wp2
      exact kp_post hsz (Below.refl _ _)
    · intro G wx fr hway _ hs hdef hsz
      have s47 : fr.tmps[47]? = some (.bool true) := hs.1
      have s54 : fr.tmps[54]? = some (.bool true) := hs.2.1
      clear hs
      refine ⟨?_⟩
      go_wp2
      exact kp_post hsz (Below.refl _ _)
    · intro G wx fr hway _ hs hdef hsz
      have s55 : fr.tmps[55]? = some (.bool true) := hs.1
      clear hs
      refine ⟨?_⟩
      go_wp2
      exact kp_post hsz (Below.refl _ _)
  · intro G V wr3 hval hway hmade hap
    replace hval : V 0 = .bool true ∧ V 1 = .bool true ∧ V 2 = .agg (wcells z3) ∧ V 3 = .agg (wcells a) ∧ V 4 = .agg (wcells z5) ∧ V 5 = .agg (wcells z3) ∧ V 6 = .agg (wcells a) ∧ V 7 = .agg (wcells z5) ∧ V 8 = .bool true ∧ V 9 = .bool true ∧ V 10 = .bool true ∧ V 11 = .agg (wcells z3) ∧ V 12 = .agg (wcells a) ∧ V 13 = .agg (wcells z9) ∧ V 14 = .agg (wcells z3) ∧ V 15 = .agg (wcells a) ∧ V 16 = .agg (wcells z9) ∧ V 17 = .bool true ∧ V 18 = .bool true ∧ V 19 = .bool true ∧ V 20 = .agg (wcells z3) ∧ V 21 = .agg (wcells a) ∧ V 22 = .agg (wcells z13) ∧ V 23 = .agg (wcells z3) ∧ V 24 = .agg (wcells a) ∧ V 25 = .agg (wcells z13) ∧ V 26 = .bool true ∧ V 27 = .bool true ∧ V 28 = .bool true ∧ V 29 = .agg (wcells z3) ∧ V 30 = .agg (wcells a) ∧ V 31 = .agg (wcells z17) ∧ V 32 = .agg (wcells z3) ∧ V 33 = .agg (wcells a) ∧ V 34 = .agg (wcells z17) ∧ V 35 = .bool true ∧ V 36 = .bool true ∧ V 37 = .bool true ∧ V 38 = .agg (wcells z3) ∧ V 39 = .agg (wcells a) ∧ V 40 = .agg (wcells z21) ∧ V 41 = .agg (wcells z3) ∧ V 42 = .agg (wcells a) ∧ V 43 = .agg (wcells z21) ∧ V 44 = .bool true ∧ V 45 = .bool true ∧ V 46 = .bool true ∧ True := hval
    replace hmade : True := hmade
    obtain ⟨e3_0, e3_1, e3_2, e3_3, e3_4, e3_5, e3_6, e3_7, e3_8, e3_9, e3_10, e3_11, e3_12, e3_13, e3_14, e3_15, e3_16, e3_17, e3_18, e3_19, e3_20, e3_21, e3_22, e3_23, e3_24, e3_25, e3_26, e3_27, e3_28, e3_29, e3_30, e3_31, e3_32, e3_33, e3_34, e3_35, e3_36, e3_37, e3_38, e3_39, e3_40, e3_41, e3_42, e3_43, e3_44, e3_45, e3_46, -⟩ := hval
    obtain ⟨-⟩ := hmade
    clear hap
    simp only [fill, Act.put, e3_0, e3_1, e3_2, e3_3, e3_4, e3_5, e3_6, e3_7, e3_8, e3_9, e3_10, e3_11, e3_12, e3_13, e3_14, e3_15, e3_16, e3_17, e3_18, e3_19, e3_20, e3_21, e3_22, e3_23, e3_24, e3_25, e3_26, e3_27, e3_28, e3_29, e3_30, e3_31, e3_32, e3_33, e3_34, e3_35, e3_36, e3_37, e3_38, e3_39, e3_40, e3_41, e3_42, e3_43, e3_44, e3_45, e3_46]
    clear e3_0 e3_1 e3_2 e3_3 e3_4 e3_5 e3_6 e3_7 e3_8 e3_9 e3_10 e3_11 e3_12 e3_13 e3_14 e3_15 e3_16 e3_17 e3_18 e3_19 e3_20 e3_21 e3_22 e3_23 e3_24 e3_25 e3_26 e3_27 e3_28 e3_29 e3_30 e3_31 e3_32 e3_33 e3_34 e3_35 e3_36 e3_37 e3_38 e3_39 e3_40 e3_41 e3_42 e3_43 e3_44 e3_45 e3_46
    simp only [Exit.then]
    go_simp
    clear G V
    replace hy1_1 := way_blk hway hy1_1 hy1_1.lt (by simp [heldBy, Knd.blockOf])
    replace hy1_2 := way_blk hway hy1_2 hy1_2.lt (by simp [heldBy, Knd.blockOf])
    replace hB1_5 := hway.2.2
    clear hway
    go_wp2
    go_ret
    exact ⟨rfl, hB1_5⟩
open Go.ChangeShapes Go.WideShapes Go.ChangeAt

set_option maxRecDepth 100000 in
theorem lifted (os : Os) (started : os.Started) (H : Type) (enc : TypeId × Value → H) :
    ReturnsInHanded {} Try.checked os 5 .any (Rows.wordShiftsSpec.pre6 enc Try.prog Try.f5 Rows.wordShiftsRow.domain false) (Rows.wordShiftsSpec.post enc Try.prog Try.f5 false true false false) := by
  refine law_lift (C := Try.checked) (ts := [3, 23]) (tb := 4) (by kernel_rfl) started (by kernel_rfl) Try.func5
    (ChangeSpec.witness6 (enc := enc) (C := Try.checked) false ⟨#[], #[.int .i64 0, .agg (Array.replicate 32 (.int .u8 0))], []⟩ 8 (by kernel_rfl) (by kernel_rfl) (by kernel_rfl) (by kernel_rfl))
    (by kernel_rfl) (by kernel_rfl) (by kernel_rfl) (by kernel_rfl) Try.underlying4 rfl (fun ds h => by match ds, h with | [_, _], _ => rfl) ?_
  intro W vs hl h
  match vs, hl with
  | [v0, v1], _ =>
    obtain ⟨k, rfl, hk⟩ := arg_int Try.underlying3 (h 0 _ v0 rfl rfl)
    have ha := h 1 _ v1 rfl rfl
    obtain ⟨a, ha', rfl⟩ := arg_word ha
    have hk := bounds_i64 hk
    exact walk k a W ha' hk.1 hk.2

theorem over : Rows.wordShiftsRow.holds Try.pinned (OpenSpec.ofChange Rows.wordShiftsSpec) :=
  OpenClaim.holds_of_wide 5 Try.f5 rfl rfl rfl rfl rfl rfl rfl ⟨rfl, rfl, rfl, rfl, rfl⟩ rfl rfl rfl rfl rfl (by kernel_rfl) Try.func5 (by kernel_rfl)
    (of_decide_eq_true (by kernel_rfl)) (by unfold Func.isWrapper; first | (rw [if_pos (by decide +kernel)]; kernel_rfl) | (rw [if_neg (by decide +kernel)]; exact ⟨rfl, rfl⟩))
    (fun os started H enc _ => lifted os started H enc)
end Go.Proofs.Ytcmhbolonhhhoaa.WordShifts
namespace Go.Proofs.Ytcmhbolonhhhoaa
theorem wordShifts_holds : Rows.WordShiftsSaid := WordShifts.over
#print axioms wordShifts_holds
end Go.Proofs.Ytcmhbolonhhhoaa
