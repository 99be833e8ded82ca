/- 'WordBits' answers true at every input, and leaves what it was given. No condition. -/
import Derived.Test.YtcmhbolonhhhoaaWordAlive
import Derived.Test.YtcmhbolonhhhoaaWordArg
import Derived.Test.YtcmhbolonhhhoaaRefShifts
import Derived.Test.YtcmhbolonhhhoaaRefBools
import Derived.Test.YtcmhbolonhhhoaaRefExt
import Derived.Test.YtcmhbolonhhhoaaLaw
import Derived.Test.YtcmhbolonhhhoaaRows
namespace Go.Proofs.Ytcmhbolonhhhoaa.WordBits
open Go Go.RowKit Go.Mun Go.Proofs

set_option maxRecDepth 100000 in
set_option maxHeartbeats 8000000 in
theorem walk (a b : Nat) (w : World) (ha : a < 2 ^ 256) (hb : b < 2 ^ 256) : Calls Try.prog 6 #[.agg (wcells a), .agg (wcells b)] w fun e w' => e = .returned (.bool true) ∧ Below w.heap.size w w' := by
  have hW := wordTy
  have zW := zWordL
  have HSW := Lib.hid wcells_size
  have H1W := Lib.hid wcells_one
  have HZW := Lib.hid wcells_lit0
  have C1 := Lib.hid (fun w => alive1 w)
  obtain ⟨z3, Ez3⟩ : ∃ z, z = a &&& b := ⟨_, rfl⟩
  have hz3 : z3 < 2 ^ 256 := by rw [Ez3]; exact (Nat.and_lt_two_pow _ hb)
  have C2 := Lib.hid (fun w => And_any a b w)
  rw [← Ez3] at C2
  have C4 := Lib.hid (fun w => RefAnd_any a b w)
  rw [← Ez3] at C4
  have Q5 := Lib.hid (fun w => eq_word z3 z3 hz3 hz3 w)
  rw [decide_eq_true rfl] at Q5
  obtain ⟨z7, Ez7⟩ : ∃ z, z = a ||| b := ⟨_, rfl⟩
  have hz7 : z7 < 2 ^ 256 := by rw [Ez7]; exact (Nat.or_lt_two_pow ha hb)
  have C6 := Lib.hid (fun w => Or_any a b w)
  rw [← Ez7] at C6
  have C8 := Lib.hid (fun w => RefOr_any a b w)
  rw [← Ez7] at C8
  have Q9 := Lib.hid (fun w => eq_word z7 z7 hz7 hz7 w)
  rw [decide_eq_true rfl] at Q9
  obtain ⟨z11, Ez11⟩ : ∃ z, z = a ^^^ b := ⟨_, rfl⟩
  have hz11 : z11 < 2 ^ 256 := by rw [Ez11]; exact (Nat.xor_lt_two_pow ha hb)
  have C10 := Lib.hid (fun w => Xor_any a b w)
  rw [← Ez11] at C10
  have C12 := Lib.hid (fun w => RefXor_any a b w)
  rw [← Ez11] at C12
  have Q13 := Lib.hid (fun w => eq_word z11 z11 hz11 hz11 w)
  rw [decide_eq_true rfl] at Q13
  obtain ⟨z15, Ez15⟩ : ∃ z, z = notN a := ⟨_, rfl⟩
  have hz15 : z15 < 2 ^ 256 := by rw [Ez15]; exact (notN_lt _)
  have C14 := Lib.hid (fun w => Not_any a w ha)
  rw [← Ez15] at C14
  have C16 := Lib.hid (fun w => RefNot_any a w ha)
  rw [← Ez15] at C16
  have Q17 := Lib.hid (fun w => eq_word z15 z15 hz15 hz15 w)
  rw [decide_eq_true rfl] at Q17
  obtain ⟨z19, Ez19⟩ : ∃ z, z = byteN a b := ⟨_, rfl⟩
  have hz19 : z19 < 2 ^ 256 := by rw [Ez19]; exact (byteN_lt _ _)
  have C18 := Lib.hid (fun w => Byte_all a b w ha)
  rw [← Ez19] at C18
  have C20 := Lib.hid (fun w => RefByte_all a b w ha)
  rw [← Ez19] at C20
  have Q21 := Lib.hid (fun w => eq_word z19 z19 hz19 hz19 w)
  rw [decide_eq_true rfl] at Q21
  obtain ⟨z23, Ez23⟩ : ∃ z, z = shlN a b := ⟨_, rfl⟩
  have hz23 : z23 < 2 ^ 256 := by rw [Ez23]; exact (shlN_lt _ _)
  have C22 := Lib.hid (fun w => Shl_all a b w ha hb)
  rw [← Ez23] at C22
  have C24 := Lib.hid (fun w => RefShl_all a b w ha hb)
  rw [← Ez23] at C24
  have Q25 := Lib.hid (fun w => eq_word z23 z23 hz23 hz23 w)
  rw [decide_eq_true rfl] at Q25
  obtain ⟨z27, Ez27⟩ : ∃ z, z = shrN a b := ⟨_, rfl⟩
  have hz27 : z27 < 2 ^ 256 := by rw [Ez27]; exact (shrN_lt hb)
  have C26 := Lib.hid (fun w => Shr_all a b w ha hb)
  rw [← Ez27] at C26
  have C28 := Lib.hid (fun w => RefShr_all a b w ha hb)
  rw [← Ez27] at C28
  have Q29 := Lib.hid (fun w => eq_word z27 z27 hz27 hz27 w)
  rw [decide_eq_true rfl] at Q29
  obtain ⟨z31, Ez31⟩ : ∃ z, z = sarN a b := ⟨_, rfl⟩
  have hz31 : z31 < 2 ^ 256 := by rw [Ez31]; exact (sarN_lt hb)
  have C30 := Lib.hid (fun w => Sar_all a b w ha hb)
  rw [← Ez31] at C30
  have C32 := Lib.hid (fun w => RefSar_all a b w ha hb)
  rw [← Ez31] at C32
  have Q33 := Lib.hid (fun w => eq_word z31 z31 hz31 hz31 w)
  rw [decide_eq_true rfl] at Q33
  obtain ⟨z35, Ez35⟩ : ∃ z, z = extN a b := ⟨_, rfl⟩
  have hz35 : z35 < 2 ^ 256 := by rw [Ez35]; exact (extN_lt hb)
  have C34 := Lib.hid (fun w => Extend_all a b w ha)
  rw [← Ez35] at C34
  have C36 := Lib.hid (fun w => RefExtend_all a b w ha)
  rw [← Ez35] at C36
  have Q37 := Lib.hid (fun w => eq_word z35 z35 hz35 hz35 w)
  rw [decide_eq_true rfl] at Q37
  clear Ez3 Ez7 Ez11 Ez15 Ez19 Ez23 Ez27 Ez31 Ez35 hz3 hz7 hz11 hz15 hz19 hz23 hz27 hz31 hz35
  go_enter Try.func6, Try.ntmps6
  have tk0_0 : True := trivial
  have tk0_1 : True := trivial
  have tk0_2 : True := trivial
  go_wp2_with (first
    | ((with_reducible refine gd_box ?_); have _t := tk0_0; refine wpList_box_agg rfl _ (.tmp 0) rfl rfl ?_; clear tk0_0; intro w1 hx1 hb1 hl1; have hz1 := hx1.lt; have hs1 := hb1.size)
    | ((with_reducible refine gd_box ?_); have _t := tk0_1; refine wpList_box_agg rfl _ (.tmp 1) rfl rfl ?_; clear tk0_1; intro w2 hx2 hb2 hl2; have hz2 := hx2.lt; have hs2 := hb2.size)
    | (go_at_call 10; have _t := tk0_2; refine (C1.out _).mono ?_; clear tk0_2; rintro e w3 ⟨rfl, hb3⟩; have hs3 := hb3.size)
    | fail)
  have hy1_1 := ((hx1.ext hb2).ext hb3)
  have hy1_2 := (hx2.ext hb3)
  have hB1_1 := hb1
  have hB1_2 := below_step hB1_1 hb2
  have hB1_3 := below_step hB1_2 hb3
  clear hb1 hl1 hz1 hs1 hb2 hl2 hz2 hs2 hb3 hs3 hx1 hx2 hB1_1 hB1_2
  refine wp_region_made (w := w3) (B := w.heap.size) (wB := w) ((.val (.agg (wcells a))) :: (.val (.agg (wcells b))) :: (.val (.agg (wcells z3))) :: (.val (.agg (wcells a))) :: (.val (.agg (wcells b))) :: (.val (.agg (wcells z3))) :: (.val (.bool true)) :: (.val (.bool true)) :: (.val (.agg (wcells a))) :: (.val (.agg (wcells b))) :: (.val (.agg (wcells z7))) :: (.val (.agg (wcells a))) :: (.val (.agg (wcells b))) :: (.val (.agg (wcells z7))) :: (.val (.bool true)) :: (.val (.bool true)) :: (.val (.bool true)) :: (.val (.agg (wcells a))) :: (.val (.agg (wcells b))) :: (.val (.agg (wcells z11))) :: (.val (.agg (wcells a))) :: (.val (.agg (wcells b))) :: (.val (.agg (wcells z11))) :: (.val (.bool true)) :: (.val (.bool true)) :: (.val (.bool true)) :: (.val (.agg (wcells a))) :: (.val (.agg (wcells z15))) :: (.val (.agg (wcells a))) :: (.val (.agg (wcells z15))) :: (.val (.bool true)) :: (.val (.bool true)) :: (.val (.bool true)) :: []) (by kernel_rfl) (by kernel_rfl) (by kernel_rfl) rfl (by kernel_rfl) rfl hB1_3.size hB1_3 (by exact List.nodup_nil) (by intro g hg; exact nomatch hg) trivial ?_ ?_
  · refine ⟨?_, ?_, ?_, ?_, ?_, ?_, ?_, ?_, ?_, ?_, ?_, ?_, ?_, ?_, ?_, ?_, ?_, ?_, ?_, ?_, ?_, ?_, ?_, ?_, ?_, ?_, ?_, ?_, ?_, ?_, ?_, ?_, ?_, trivial⟩
    · intro G wx fr hway _ hs hdef hsz
      have s2 : fr.tmps[2]? = some (.pointer (some ⟨w.heap.size, 0, none⟩)) := hs.1
      clear hs
      refine ⟨?_⟩
      refine wpList_load_blk rfl 23 (.tmp 2) rfl (way_blk hway hy1_1 (by first | exact hy1_1.lt | omega) (by simp [heldBy, Knd.blockOf])) (by rw [HSW.out]; exact hW) (by simp [Act.eval, s2]) ?_
      refine wpList_nil ?_
      exact kp_val hdef hsz (Below.refl _ _)
    · intro G wx fr hway _ hs hdef hsz
      have s3 : fr.tmps[3]? = some (.pointer (some ⟨w1.heap.size, 0, none⟩)) := hs.1
      clear hs
      refine ⟨?_⟩
      refine wpList_load_blk rfl 23 (.tmp 3) rfl (way_blk hway hy1_2 (by first | exact hy1_2.lt | omega) (by simp [heldBy, Knd.blockOf])) (by rw [HSW.out]; exact hW) (by simp [Act.eval, s3]) ?_
      refine wpList_nil ?_
      exact kp_val hdef hsz (Below.refl _ _)
    · intro G wx fr hway _ hs hdef hsz
      have s9 : fr.tmps[9]? = some (.agg (wcells a)) := hs.1
      have s10 : fr.tmps[10]? = some (.agg (wcells b)) := hs.2.1
      clear hs
      refine ⟨?_⟩
      go_wp2_with fail
      refine (C2.out wx).mono ?_
      rintro e w2 ⟨rfl, hb2⟩
      go_wp2
      exact kp_post hsz hb2
    · intro G wx fr hway _ hs hdef hsz
      have s2 : fr.tmps[2]? = some (.pointer (some ⟨w.heap.size, 0, none⟩)) := hs.1
      clear hs
      refine ⟨?_⟩
      refine wpList_load_blk rfl 23 (.tmp 2) rfl (way_blk hway hy1_1 (by first | exact hy1_1.lt | omega) (by simp [heldBy, Knd.blockOf])) (by rw [HSW.out]; exact hW) (by simp [Act.eval, s2]) ?_
      refine wpList_nil ?_
      exact kp_val hdef hsz (Below.refl _ _)
    · intro G wx fr hway _ hs hdef hsz
      have s3 : fr.tmps[3]? = some (.pointer (some ⟨w1.heap.size, 0, none⟩)) := hs.1
      clear hs
      refine ⟨?_⟩
      refine wpList_load_blk rfl 23 (.tmp 3) rfl (way_blk hway hy1_2 (by first | exact hy1_2.lt | omega) (by simp [heldBy, Knd.blockOf])) (by rw [HSW.out]; exact hW) (by simp [Act.eval, s3]) ?_
      refine wpList_nil ?_
      exact kp_val hdef hsz (Below.refl _ _)
    · intro G wx fr hway _ hs hdef hsz
      have s12 : fr.tmps[12]? = some (.agg (wcells a)) := hs.1
      have s13 : fr.tmps[13]? = some (.agg (wcells b)) := hs.2.1
      clear hs
      refine ⟨?_⟩
      go_wp2_with fail
      refine (C4.out wx).mono ?_
      rintro e w2 ⟨rfl, hb2⟩
      go_wp2
      exact kp_post hsz hb2
    · intro G wx fr hway _ hs hdef hsz
      have s11 : fr.tmps[11]? = some (.agg (wcells z3)) := hs.1
      have s14 : fr.tmps[14]? = some (.agg (wcells z3)) := hs.2.1
      clear hs
      have hq := Q5.out
      refine ⟨?_⟩
      go_wp2
      exact kp_post hsz (Below.refl _ _)
    · intro G wx fr hway _ hs hdef hsz
      have s15 : fr.tmps[15]? = some (.bool true) := hs.1
      clear hs
      refine ⟨?_⟩
      go_wp2
      exact kp_post hsz (Below.refl _ _)
    · intro G wx fr hway _ hs hdef hsz
      have s2 : fr.tmps[2]? = some (.pointer (some ⟨w.heap.size, 0, none⟩)) := hs.1
      have s16 : fr.tmps[16]? = some (.bool true) := hs.2.1
      clear hs
      refine ⟨?_⟩
      refine wpList_load_want (by simp [Region.wanted, yielded, *]) 23 (.tmp 2) rfl (way_blk hway hy1_1 (by first | exact hy1_1.lt | omega) (by simp [heldBy, Knd.blockOf])) (by rw [HSW.out]; exact hW) (by simp [Act.eval, s2]) ?_
      refine wpList_nil ?_
      exact kp_val hdef hsz (Below.refl _ _)
    · intro G wx fr hway _ hs hdef hsz
      have s3 : fr.tmps[3]? = some (.pointer (some ⟨w1.heap.size, 0, none⟩)) := hs.1
      have s16 : fr.tmps[16]? = some (.bool true) := hs.2.1
      clear hs
      refine ⟨?_⟩
      refine wpList_load_want (by simp [Region.wanted, yielded, *]) 23 (.tmp 3) rfl (way_blk hway hy1_2 (by first | exact hy1_2.lt | omega) (by simp [heldBy, Knd.blockOf])) (by rw [HSW.out]; exact hW) (by simp [Act.eval, s3]) ?_
      refine wpList_nil ?_
      exact kp_val hdef hsz (Below.refl _ _)
    · intro G wx fr hway _ hs hdef hsz
      have s17 : fr.tmps[17]? = some (.agg (wcells a)) := hs.1
      have s18 : fr.tmps[18]? = some (.agg (wcells b)) := hs.2.1
      have s16 : fr.tmps[16]? = some (.bool true) := hs.2.2.1
      clear hs
      refine ⟨?_⟩
      go_wp2_with fail
      refine (C6.out wx).mono ?_
      rintro e w2 ⟨rfl, hb2⟩
      go_wp2
      exact kp_post hsz hb2
    · intro G wx fr hway _ hs hdef hsz
      have s2 : fr.tmps[2]? = some (.pointer (some ⟨w.heap.size, 0, none⟩)) := hs.1
      have s16 : fr.tmps[16]? = some (.bool true) := hs.2.1
      clear hs
      refine ⟨?_⟩
      refine wpList_load_want (by simp [Region.wanted, yielded, *]) 23 (.tmp 2) rfl (way_blk hway hy1_1 (by first | exact hy1_1.lt | omega) (by simp [heldBy, Knd.blockOf])) (by rw [HSW.out]; exact hW) (by simp [Act.eval, s2]) ?_
      refine wpList_nil ?_
      exact kp_val hdef hsz (Below.refl _ _)
    · intro G wx fr hway _ hs hdef hsz
      have s3 : fr.tmps[3]? = some (.pointer (some ⟨w1.heap.size, 0, none⟩)) := hs.1
      have s16 : fr.tmps[16]? = some (.bool true) := hs.2.1
      clear hs
      refine ⟨?_⟩
      refine wpList_load_want (by simp [Region.wanted, yielded, *]) 23 (.tmp 3) rfl (way_blk hway hy1_2 (by first | exact hy1_2.lt | omega) (by simp [heldBy, Knd.blockOf])) (by rw [HSW.out]; exact hW) (by simp [Act.eval, s3]) ?_
      refine wpList_nil ?_
      exact kp_val hdef hsz (Below.refl _ _)
    · intro G wx fr hway _ hs hdef hsz
      have s20 : fr.tmps[20]? = some (.agg (wcells a)) := hs.1
      have s21 : fr.tmps[21]? = some (.agg (wcells b)) := hs.2.1
      have s16 : fr.tmps[16]? = some (.bool true) := hs.2.2.1
      clear hs
      refine ⟨?_⟩
      go_wp2_with fail
      refine (C8.out wx).mono ?_
      rintro e w2 ⟨rfl, hb2⟩
      go_wp2
      exact kp_post hsz hb2
    · intro G wx fr hway _ hs hdef hsz
      have s19 : fr.tmps[19]? = some (.agg (wcells z7)) := hs.1
      have s22 : fr.tmps[22]? = some (.agg (wcells z7)) := hs.2.1
      have s16 : fr.tmps[16]? = some (.bool true) := hs.2.2.1
      clear hs
      have hq := Q9.out
      refine ⟨?_⟩
      go_wp2
      exact kp_post hsz (Below.refl _ _)
    · intro G wx fr hway _ hs hdef hsz
      have s16 : fr.tmps[16]? = some (.bool true) := hs.1
      have s23 : fr.tmps[23]? = some (.bool true) := hs.2.1
      clear hs
      refine ⟨?_⟩
      go_wp2
      exact kp_post hsz (Below.refl _ _)
    · intro G wx fr hway _ hs hdef hsz
      have s24 : fr.tmps[24]? = some (.bool true) := hs.1
      clear hs
      refine ⟨?_⟩
      go_wp2
      exact kp_post hsz (Below.refl _ _)
    · intro G wx fr hway _ hs hdef hsz
      have s2 : fr.tmps[2]? = some (.pointer (some ⟨w.heap.size, 0, none⟩)) := hs.1
      have s25 : fr.tmps[25]? = some (.bool true) := hs.2.1
      clear hs
      refine ⟨?_⟩
      refine wpList_load_want (by simp [Region.wanted, yielded, *]) 23 (.tmp 2) rfl (way_blk hway hy1_1 (by first | exact hy1_1.lt | omega) (by simp [heldBy, Knd.blockOf])) (by rw [HSW.out]; exact hW) (by simp [Act.eval, s2]) ?_
      refine wpList_nil ?_
      exact kp_val hdef hsz (Below.refl _ _)
    · intro G wx fr hway _ hs hdef hsz
      have s3 : fr.tmps[3]? = some (.pointer (some ⟨w1.heap.size, 0, none⟩)) := hs.1
      have s25 : fr.tmps[25]? = some (.bool true) := hs.2.1
      clear hs
      refine ⟨?_⟩
      refine wpList_load_want (by simp [Region.wanted, yielded, *]) 23 (.tmp 3) rfl (way_blk hway hy1_2 (by first | exact hy1_2.lt | omega) (by simp [heldBy, Knd.blockOf])) (by rw [HSW.out]; exact hW) (by simp [Act.eval, s3]) ?_
      refine wpList_nil ?_
      exact kp_val hdef hsz (Below.refl _ _)
    · intro G wx fr hway _ hs hdef hsz
      have s26 : fr.tmps[26]? = some (.agg (wcells a)) := hs.1
      have s27 : fr.tmps[27]? = some (.agg (wcells b)) := hs.2.1
      have s25 : fr.tmps[25]? = some (.bool true) := hs.2.2.1
      clear hs
      refine ⟨?_⟩
      go_wp2_with fail
      refine (C10.out wx).mono ?_
      rintro e w2 ⟨rfl, hb2⟩
      go_wp2
      exact kp_post hsz hb2
    · intro G wx fr hway _ hs hdef hsz
      have s2 : fr.tmps[2]? = some (.pointer (some ⟨w.heap.size, 0, none⟩)) := hs.1
      have s25 : fr.tmps[25]? = some (.bool true) := hs.2.1
      clear hs
      refine ⟨?_⟩
      refine wpList_load_want (by simp [Region.wanted, yielded, *]) 23 (.tmp 2) rfl (way_blk hway hy1_1 (by first | exact hy1_1.lt | omega) (by simp [heldBy, Knd.blockOf])) (by rw [HSW.out]; exact hW) (by simp [Act.eval, s2]) ?_
      refine wpList_nil ?_
      exact kp_val hdef hsz (Below.refl _ _)
    · intro G wx fr hway _ hs hdef hsz
      have s3 : fr.tmps[3]? = some (.pointer (some ⟨w1.heap.size, 0, none⟩)) := hs.1
      have s25 : fr.tmps[25]? = some (.bool true) := hs.2.1
      clear hs
      refine ⟨?_⟩
      refine wpList_load_want (by simp [Region.wanted, yielded, *]) 23 (.tmp 3) rfl (way_blk hway hy1_2 (by first | exact hy1_2.lt | omega) (by simp [heldBy, Knd.blockOf])) (by rw [HSW.out]; exact hW) (by simp [Act.eval, s3]) ?_
      refine wpList_nil ?_
      exact kp_val hdef hsz (Below.refl _ _)
    · intro G wx fr hway _ hs hdef hsz
      have s29 : fr.tmps[29]? = some (.agg (wcells a)) := hs.1
      have s30 : fr.tmps[30]? = some (.agg (wcells b)) := hs.2.1
      have s25 : fr.tmps[25]? = some (.bool true) := hs.2.2.1
      clear hs
      refine ⟨?_⟩
      go_wp2_with fail
      refine (C12.out wx).mono ?_
      rintro e w2 ⟨rfl, hb2⟩
      go_wp2
      exact kp_post hsz hb2
    · intro G wx fr hway _ hs hdef hsz
      have s28 : fr.tmps[28]? = some (.agg (wcells z11)) := hs.1
      have s31 : fr.tmps[31]? = some (.agg (wcells z11)) := hs.2.1
      have s25 : fr.tmps[25]? = some (.bool true) := hs.2.2.1
      clear hs
      have hq := Q13.out
      refine ⟨?_⟩
      go_wp2
      exact kp_post hsz (Below.refl _ _)
    · intro G wx fr hway _ hs hdef hsz
      have s25 : fr.tmps[25]? = some (.bool true) := hs.1
      have s32 : fr.tmps[32]? = some (.bool true) := hs.2.1
      clear hs
      refine ⟨?_⟩
      go_wp2
      exact kp_post hsz (Below.refl _ _)
    · intro G wx fr hway _ hs hdef hsz
      have s33 : fr.tmps[33]? = some (.bool true) := hs.1
      clear hs
      refine ⟨?_⟩
      go_wp2
      exact kp_post hsz (Below.refl _ _)
    · intro G wx fr hway _ hs hdef hsz
      have s2 : fr.tmps[2]? = some (.pointer (some ⟨w.heap.size, 0, none⟩)) := hs.1
      have s34 : fr.tmps[34]? = some (.bool true) := hs.2.1
      clear hs
      refine ⟨?_⟩
      refine wpList_load_want (by simp [Region.wanted, yielded, *]) 23 (.tmp 2) rfl (way_blk hway hy1_1 (by first | exact hy1_1.lt | omega) (by simp [heldBy, Knd.blockOf])) (by rw [HSW.out]; exact hW) (by simp [Act.eval, s2]) ?_
      refine wpList_nil ?_
      exact kp_val hdef hsz (Below.refl _ _)
    · intro G wx fr hway _ hs hdef hsz
      have s35 : fr.tmps[35]? = some (.agg (wcells a)) := hs.1
      have s34 : fr.tmps[34]? = some (.bool true) := hs.2.1
      clear hs
      refine ⟨?_⟩
      go_wp2_with fail
      refine (C14.out wx).mono ?_
      rintro e w2 ⟨rfl, hb2⟩
      go_wp2
      exact kp_post hsz hb2
    · intro G wx fr hway _ hs hdef hsz
      have s2 : fr.tmps[2]? = some (.pointer (some ⟨w.heap.size, 0, none⟩)) := hs.1
      have s34 : fr.tmps[34]? = some (.bool true) := hs.2.1
      clear hs
      refine ⟨?_⟩
      refine wpList_load_want (by simp [Region.wanted, yielded, *]) 23 (.tmp 2) rfl (way_blk hway hy1_1 (by first | exact hy1_1.lt | omega) (by simp [heldBy, Knd.blockOf])) (by rw [HSW.out]; exact hW) (by simp [Act.eval, s2]) ?_
      refine wpList_nil ?_
      exact kp_val hdef hsz (Below.refl _ _)
    · intro G wx fr hway _ hs hdef hsz
      have s37 : fr.tmps[37]? = some (.agg (wcells a)) := hs.1
      have s34 : fr.tmps[34]? = some (.bool true) := hs.2.1
      clear hs
      refine ⟨?_⟩
      go_wp2_with fail
      refine (C16.out wx).mono ?_
      rintro e w2 ⟨rfl, hb2⟩
      go_wp2
      exact kp_post hsz hb2
    · intro G wx fr hway _ hs hdef hsz
      have s36 : fr.tmps[36]? = some (.agg (wcells z15)) := hs.1
      have s38 : fr.tmps[38]? = some (.agg (wcells z15)) := hs.2.1
      have s34 : fr.tmps[34]? = some (.bool true) := hs.2.2.1
      clear hs
      have hq := Q17.out
      refine ⟨?_⟩
      go_wp2
      exact kp_post hsz (Below.refl _ _)
    · intro G wx fr hway _ hs hdef hsz
      have s34 : fr.tmps[34]? = some (.bool true) := hs.1
      have s39 : fr.tmps[39]? = some (.bool true) := hs.2.1
      clear hs
      refine ⟨?_⟩
      go_wp2
      exact kp_post hsz (Below.refl _ _)
    · intro G wx fr hway _ hs hdef hsz
      have s40 : fr.tmps[40]? = some (.bool true) := hs.1
      clear hs
      refine ⟨?_⟩
      go_wp2
      exact kp_post hsz (Below.refl _ _)
  · intro G V wr3 hval hway hmade hap
    replace hval : V 0 = .agg (wcells a) ∧ V 1 = .agg (wcells b) ∧ V 2 = .agg (wcells z3) ∧ V 3 = .agg (wcells a) ∧ V 4 = .agg (wcells b) ∧ V 5 = .agg (wcells z3) ∧ V 6 = .bool true ∧ V 7 = .bool true ∧ V 8 = .agg (wcells a) ∧ V 9 = .agg (wcells b) ∧ V 10 = .agg (wcells z7) ∧ V 11 = .agg (wcells a) ∧ V 12 = .agg (wcells b) ∧ V 13 = .agg (wcells z7) ∧ V 14 = .bool true ∧ V 15 = .bool true ∧ V 16 = .bool true ∧ V 17 = .agg (wcells a) ∧ V 18 = .agg (wcells b) ∧ V 19 = .agg (wcells z11) ∧ V 20 = .agg (wcells a) ∧ V 21 = .agg (wcells b) ∧ V 22 = .agg (wcells z11) ∧ V 23 = .bool true ∧ V 24 = .bool true ∧ V 25 = .bool true ∧ V 26 = .agg (wcells a) ∧ V 27 = .agg (wcells z15) ∧ V 28 = .agg (wcells a) ∧ V 29 = .agg (wcells z15) ∧ V 30 = .bool true ∧ V 31 = .bool true ∧ V 32 = .bool true ∧ True := hval
    replace hmade : True := hmade
    obtain ⟨e3_0, e3_1, e3_2, e3_3, e3_4, e3_5, e3_6, e3_7, e3_8, e3_9, e3_10, e3_11, e3_12, e3_13, e3_14, e3_15, e3_16, e3_17, e3_18, e3_19, e3_20, e3_21, e3_22, e3_23, e3_24, e3_25, e3_26, e3_27, e3_28, e3_29, e3_30, e3_31, e3_32, -⟩ := hval
    obtain ⟨-⟩ := hmade
    clear hap
    simp only [fill, Act.put, e3_0, e3_1, e3_2, e3_3, e3_4, e3_5, e3_6, e3_7, e3_8, e3_9, e3_10, e3_11, e3_12, e3_13, e3_14, e3_15, e3_16, e3_17, e3_18, e3_19, e3_20, e3_21, e3_22, e3_23, e3_24, e3_25, e3_26, e3_27, e3_28, e3_29, e3_30, e3_31, e3_32]
    clear e3_0 e3_1 e3_2 e3_3 e3_4 e3_5 e3_6 e3_7 e3_8 e3_9 e3_10 e3_11 e3_12 e3_13 e3_14 e3_15 e3_16 e3_17 e3_18 e3_19 e3_20 e3_21 e3_22 e3_23 e3_24 e3_25 e3_26 e3_27 e3_28 e3_29 e3_30 e3_31 e3_32
    simp only [Exit.then]
    go_simp
    clear G V
    replace hy1_1 := way_blk hway hy1_1 hy1_1.lt (by simp [heldBy, Knd.blockOf])
    replace hy1_2 := way_blk hway hy1_2 hy1_2.lt (by simp [heldBy, Knd.blockOf])
    replace hB1_3 := hway.2.2
    clear hway
    go_wp2
    refine wp_region_made (w := wr3) (B := w.heap.size) (wB := w) [.val (.agg (wcells a)), .val (.agg (wcells b)), .val (.agg (wcells z19)), .val (.agg (wcells a)), .val (.agg (wcells b)), .val (.agg (wcells z19)), .val (.bool true), .val (.bool true), .val (.agg (wcells a)), .val (.agg (wcells b)), .val (.agg (wcells z23)), .val (.agg (wcells a)), .val (.agg (wcells b)), .val (.agg (wcells z23)), .val (.bool true), .val (.bool true), .val (.bool true), .val (.agg (wcells a)), .val (.agg (wcells b)), .val (.agg (wcells z27)), .val (.agg (wcells a)), .val (.agg (wcells b)), .val (.agg (wcells z27)), .val (.bool true), .val (.bool true), .val (.bool true)] (by kernel_rfl) (by kernel_rfl) (by kernel_rfl) rfl (by kernel_rfl) rfl hB1_3.size hB1_3 (by exact List.nodup_nil) (by intro g hg; exact nomatch hg) trivial ?_ ?_
    · refine ⟨?_, ?_, ?_, ?_, ?_, ?_, ?_, ?_, ?_, ?_, ?_, ?_, ?_, ?_, ?_, ?_, ?_, ?_, ?_, ?_, ?_, ?_, ?_, ?_, ?_, ?_, trivial⟩
      · intro G wx fr hway _ hs hdef hsz
        have s2 : fr.tmps[2]? = some (.pointer (some ⟨w.heap.size, 0, none⟩)) := hs.1
        clear hs
        refine ⟨?_⟩
        refine wpList_load_blk rfl 23 (.tmp 2) rfl (way_blk hway hy1_1 (by first | exact hy1_1.lt | omega) (by simp [heldBy, Knd.blockOf])) (by rw [HSW.out]; exact hW) (by simp [Act.eval, s2]) ?_
        refine wpList_nil ?_
        exact kp_val hdef hsz (Below.refl _ _)
      · intro G wx fr hway _ hs hdef hsz
        have s3 : fr.tmps[3]? = some (.pointer (some ⟨w1.heap.size, 0, none⟩)) := hs.1
        clear hs
        refine ⟨?_⟩
        refine wpList_load_blk rfl 23 (.tmp 3) rfl (way_blk hway hy1_2 (by first | exact hy1_2.lt | omega) (by simp [heldBy, Knd.blockOf])) (by rw [HSW.out]; exact hW) (by simp [Act.eval, s3]) ?_
        refine wpList_nil ?_
        exact kp_val hdef hsz (Below.refl _ _)
      · intro G wx fr hway _ hs hdef hsz
        have s41 : fr.tmps[41]? = some (.agg (wcells a)) := hs.1
        have s42 : fr.tmps[42]? = some (.agg (wcells b)) := hs.2.1
        clear hs
        refine ⟨?_⟩
        go_wp2_with fail
        refine (C18.out wx).mono ?_
        rintro e w2 ⟨rfl, hb2⟩
        go_wp2
        exact kp_post hsz hb2
      · intro G wx fr hway _ hs hdef hsz
        have s2 : fr.tmps[2]? = some (.pointer (some ⟨w.heap.size, 0, none⟩)) := hs.1
        clear hs
        refine ⟨?_⟩
        refine wpList_load_blk rfl 23 (.tmp 2) rfl (way_blk hway hy1_1 (by first | exact hy1_1.lt | omega) (by simp [heldBy, Knd.blockOf])) (by rw [HSW.out]; exact hW) (by simp [Act.eval, s2]) ?_
        refine wpList_nil ?_
        exact kp_val hdef hsz (Below.refl _ _)
      · intro G wx fr hway _ hs hdef hsz
        have s3 : fr.tmps[3]? = some (.pointer (some ⟨w1.heap.size, 0, none⟩)) := hs.1
        clear hs
        refine ⟨?_⟩
        refine wpList_load_blk rfl 23 (.tmp 3) rfl (way_blk hway hy1_2 (by first | exact hy1_2.lt | omega) (by simp [heldBy, Knd.blockOf])) (by rw [HSW.out]; exact hW) (by simp [Act.eval, s3]) ?_
        refine wpList_nil ?_
        exact kp_val hdef hsz (Below.refl _ _)
      · intro G wx fr hway _ hs hdef hsz
        have s44 : fr.tmps[44]? = some (.agg (wcells a)) := hs.1
        have s45 : fr.tmps[45]? = some (.agg (wcells b)) := hs.2.1
        clear hs
        refine ⟨?_⟩
        go_wp2_with fail
        refine (C20.out wx).mono ?_
        rintro e w2 ⟨rfl, hb2⟩
        go_wp2
        exact kp_post hsz hb2
      · intro G wx fr hway _ hs hdef hsz
        have s43 : fr.tmps[43]? = some (.agg (wcells z19)) := hs.1
        have s46 : fr.tmps[46]? = some (.agg (wcells z19)) := hs.2.1
        clear hs
        have hq := Q21.out
        refine ⟨?_⟩
        go_wp2
        exact kp_post hsz (Below.refl _ _)
      · intro G wx fr hway _ hs hdef hsz
        have s47 : fr.tmps[47]? = some (.bool true) := hs.1
        clear hs
        refine ⟨?_⟩
        go_wp2
        exact kp_post hsz (Below.refl _ _)
      · intro G wx fr hway _ hs hdef hsz
        have s2 : fr.tmps[2]? = some (.pointer (some ⟨w.heap.size, 0, none⟩)) := hs.1
        have s48 : fr.tmps[48]? = some (.bool true) := hs.2.1
        clear hs
        refine ⟨?_⟩
        refine wpList_load_want (by simp [Region.wanted, yielded, *]) 23 (.tmp 2) rfl (way_blk hway hy1_1 (by first | exact hy1_1.lt | omega) (by simp [heldBy, Knd.blockOf])) (by rw [HSW.out]; exact hW) (by simp [Act.eval, s2]) ?_
        refine wpList_nil ?_
        exact kp_val hdef hsz (Below.refl _ _)
      · intro G wx fr hway _ hs hdef hsz
        have s3 : fr.tmps[3]? = some (.pointer (some ⟨w1.heap.size, 0, none⟩)) := hs.1
        have s48 : fr.tmps[48]? = some (.bool true) := hs.2.1
        clear hs
        refine ⟨?_⟩
        refine wpList_load_want (by simp [Region.wanted, yielded, *]) 23 (.tmp 3) rfl (way_blk hway hy1_2 (by first | exact hy1_2.lt | omega) (by simp [heldBy, Knd.blockOf])) (by rw [HSW.out]; exact hW) (by simp [Act.eval, s3]) ?_
        refine wpList_nil ?_
        exact kp_val hdef hsz (Below.refl _ _)
      · intro G wx fr hway _ hs hdef hsz
        have s49 : fr.tmps[49]? = some (.agg (wcells a)) := hs.1
        have s50 : fr.tmps[50]? = some (.agg (wcells b)) := hs.2.1
        have s48 : fr.tmps[48]? = some (.bool true) := hs.2.2.1
        clear hs
        refine ⟨?_⟩
        go_wp2_with fail
        refine (C22.out wx).mono ?_
        rintro e w2 ⟨rfl, hb2⟩
        go_wp2
        exact kp_post hsz hb2
      · intro G wx fr hway _ hs hdef hsz
        have s2 : fr.tmps[2]? = some (.pointer (some ⟨w.heap.size, 0, none⟩)) := hs.1
        have s48 : fr.tmps[48]? = some (.bool true) := hs.2.1
        clear hs
        refine ⟨?_⟩
        refine wpList_load_want (by simp [Region.wanted, yielded, *]) 23 (.tmp 2) rfl (way_blk hway hy1_1 (by first | exact hy1_1.lt | omega) (by simp [heldBy, Knd.blockOf])) (by rw [HSW.out]; exact hW) (by simp [Act.eval, s2]) ?_
        refine wpList_nil ?_
        exact kp_val hdef hsz (Below.refl _ _)
      · intro G wx fr hway _ hs hdef hsz
        have s3 : fr.tmps[3]? = some (.pointer (some ⟨w1.heap.size, 0, none⟩)) := hs.1
        have s48 : fr.tmps[48]? = some (.bool true) := hs.2.1
        clear hs
        refine ⟨?_⟩
        refine wpList_load_want (by simp [Region.wanted, yielded, *]) 23 (.tmp 3) rfl (way_blk hway hy1_2 (by first | exact hy1_2.lt | omega) (by simp [heldBy, Knd.blockOf])) (by rw [HSW.out]; exact hW) (by simp [Act.eval, s3]) ?_
        refine wpList_nil ?_
        exact kp_val hdef hsz (Below.refl _ _)
      · intro G wx fr hway _ hs hdef hsz
        have s52 : fr.tmps[52]? = some (.agg (wcells a)) := hs.1
        have s53 : fr.tmps[53]? = some (.agg (wcells b)) := hs.2.1
        have s48 : fr.tmps[48]? = some (.bool true) := hs.2.2.1
        clear hs
        refine ⟨?_⟩
        go_wp2_with fail
        refine (C24.out wx).mono ?_
        rintro e w2 ⟨rfl, hb2⟩
        go_wp2
        exact kp_post hsz hb2
      · intro G wx fr hway _ hs hdef hsz
        have s51 : fr.tmps[51]? = some (.agg (wcells z23)) := hs.1
        have s54 : fr.tmps[54]? = some (.agg (wcells z23)) := hs.2.1
        have s48 : fr.tmps[48]? = some (.bool true) := hs.2.2.1
        clear hs
        have hq := Q25.out
        refine ⟨?_⟩
        go_wp2
        exact kp_post hsz (Below.refl _ _)
      · intro G wx fr hway _ hs hdef hsz
        have s48 : fr.tmps[48]? = some (.bool true) := hs.1
        have s55 : fr.tmps[55]? = some (.bool true) := hs.2.1
        clear hs
        refine ⟨?_⟩
        go_wp2
        exact kp_post hsz (Below.refl _ _)
      · intro G wx fr hway _ hs hdef hsz
        have s56 : fr.tmps[56]? = some (.bool true) := hs.1
        clear hs
        refine ⟨?_⟩
        go_wp2
        exact kp_post hsz (Below.refl _ _)
      · intro G wx fr hway _ hs hdef hsz
        have s2 : fr.tmps[2]? = some (.pointer (some ⟨w.heap.size, 0, none⟩)) := hs.1
        have s57 : fr.tmps[57]? = some (.bool true) := hs.2.1
        clear hs
        refine ⟨?_⟩
        refine wpList_load_want (by simp [Region.wanted, yielded, *]) 23 (.tmp 2) rfl (way_blk hway hy1_1 (by first | exact hy1_1.lt | omega) (by simp [heldBy, Knd.blockOf])) (by rw [HSW.out]; exact hW) (by simp [Act.eval, s2]) ?_
        refine wpList_nil ?_
        exact kp_val hdef hsz (Below.refl _ _)
      · intro G wx fr hway _ hs hdef hsz
        have s3 : fr.tmps[3]? = some (.pointer (some ⟨w1.heap.size, 0, none⟩)) := hs.1
        have s57 : fr.tmps[57]? = some (.bool true) := hs.2.1
        clear hs
        refine ⟨?_⟩
        refine wpList_load_want (by simp [Region.wanted, yielded, *]) 23 (.tmp 3) rfl (way_blk hway hy1_2 (by first | exact hy1_2.lt | omega) (by simp [heldBy, Knd.blockOf])) (by rw [HSW.out]; exact hW) (by simp [Act.eval, s3]) ?_
        refine wpList_nil ?_
        exact kp_val hdef hsz (Below.refl _ _)
      · intro G wx fr hway _ hs hdef hsz
        have s58 : fr.tmps[58]? = some (.agg (wcells a)) := hs.1
        have s59 : fr.tmps[59]? = some (.agg (wcells b)) := hs.2.1
        have s57 : fr.tmps[57]? = some (.bool true) := hs.2.2.1
        clear hs
        refine ⟨?_⟩
        go_wp2_with fail
        refine (C26.out wx).mono ?_
        rintro e w2 ⟨rfl, hb2⟩
        go_wp2
        exact kp_post hsz hb2
      · intro G wx fr hway _ hs hdef hsz
        have s2 : fr.tmps[2]? = some (.pointer (some ⟨w.heap.size, 0, none⟩)) := hs.1
        have s57 : fr.tmps[57]? = some (.bool true) := hs.2.1
        clear hs
        refine ⟨?_⟩
        refine wpList_load_want (by simp [Region.wanted, yielded, *]) 23 (.tmp 2) rfl (way_blk hway hy1_1 (by first | exact hy1_1.lt | omega) (by simp [heldBy, Knd.blockOf])) (by rw [HSW.out]; exact hW) (by simp [Act.eval, s2]) ?_
        refine wpList_nil ?_
        exact kp_val hdef hsz (Below.refl _ _)
      · intro G wx fr hway _ hs hdef hsz
        have s3 : fr.tmps[3]? = some (.pointer (some ⟨w1.heap.size, 0, none⟩)) := hs.1
        have s57 : fr.tmps[57]? = some (.bool true) := hs.2.1
        clear hs
        refine ⟨?_⟩
        refine wpList_load_want (by simp [Region.wanted, yielded, *]) 23 (.tmp 3) rfl (way_blk hway hy1_2 (by first | exact hy1_2.lt | omega) (by simp [heldBy, Knd.blockOf])) (by rw [HSW.out]; exact hW) (by simp [Act.eval, s3]) ?_
        refine wpList_nil ?_
        exact kp_val hdef hsz (Below.refl _ _)
      · intro G wx fr hway _ hs hdef hsz
        have s61 : fr.tmps[61]? = some (.agg (wcells a)) := hs.1
        have s62 : fr.tmps[62]? = some (.agg (wcells b)) := hs.2.1
        have s57 : fr.tmps[57]? = some (.bool true) := hs.2.2.1
        clear hs
        refine ⟨?_⟩
        go_wp2_with fail
        refine (C28.out wx).mono ?_
        rintro e w2 ⟨rfl, hb2⟩
        go_wp2
        exact kp_post hsz hb2
      · intro G wx fr hway _ hs hdef hsz
        have s60 : fr.tmps[60]? = some (.agg (wcells z27)) := hs.1
        have s63 : fr.tmps[63]? = some (.agg (wcells z27)) := hs.2.1
        have s57 : fr.tmps[57]? = some (.bool true) := hs.2.2.1
        clear hs
        have hq := Q29.out
        refine ⟨?_⟩
        go_wp2
        exact kp_post hsz (Below.refl _ _)
      · intro G wx fr hway _ hs hdef hsz
        have s57 : fr.tmps[57]? = some (.bool true) := hs.1
        have s64 : fr.tmps[64]? = some (.bool true) := hs.2.1
        clear hs
        refine ⟨?_⟩
        go_wp2
        exact kp_post hsz (Below.refl _ _)
      · intro G wx fr hway _ hs hdef hsz
        have s65 : fr.tmps[65]? = some (.bool true) := hs.1
        clear hs
        refine ⟨?_⟩
        go_wp2
        exact kp_post hsz (Below.refl _ _)
    · intro G V wr4 hval hway hmade hap
      replace hval : V 0 = .agg (wcells a) ∧ V 1 = .agg (wcells b) ∧ V 2 = .agg (wcells z19) ∧ V 3 = .agg (wcells a) ∧ V 4 = .agg (wcells b) ∧ V 5 = .agg (wcells z19) ∧ V 6 = .bool true ∧ V 7 = .bool true ∧ V 8 = .agg (wcells a) ∧ V 9 = .agg (wcells b) ∧ V 10 = .agg (wcells z23) ∧ V 11 = .agg (wcells a) ∧ V 12 = .agg (wcells b) ∧ V 13 = .agg (wcells z23) ∧ V 14 = .bool true ∧ V 15 = .bool true ∧ V 16 = .bool true ∧ V 17 = .agg (wcells a) ∧ V 18 = .agg (wcells b) ∧ V 19 = .agg (wcells z27) ∧ V 20 = .agg (wcells a) ∧ V 21 = .agg (wcells b) ∧ V 22 = .agg (wcells z27) ∧ V 23 = .bool true ∧ V 24 = .bool true ∧ V 25 = .bool true ∧ True := hval
      replace hmade : True := hmade
      obtain ⟨e4_0, e4_1, e4_2, e4_3, e4_4, e4_5, e4_6, e4_7, e4_8, e4_9, e4_10, e4_11, e4_12, e4_13, e4_14, e4_15, e4_16, e4_17, e4_18, e4_19, e4_20, e4_21, e4_22, e4_23, e4_24, e4_25, -⟩ := hval
      obtain ⟨-⟩ := hmade
      clear hap
      simp only [fill, Act.put, e4_0, e4_1, e4_2, e4_3, e4_4, e4_5, e4_6, e4_7, e4_8, e4_9, e4_10, e4_11, e4_12, e4_13, e4_14, e4_15, e4_16, e4_17, e4_18, e4_19, e4_20, e4_21, e4_22, e4_23, e4_24, e4_25]
      clear e4_0 e4_1 e4_2 e4_3 e4_4 e4_5 e4_6 e4_7 e4_8 e4_9 e4_10 e4_11 e4_12 e4_13 e4_14 e4_15 e4_16 e4_17 e4_18 e4_19 e4_20 e4_21 e4_22 e4_23 e4_24 e4_25
      simp only [Exit.then]
      go_simp
      clear G V
      replace hy1_1 := way_blk hway hy1_1 hy1_1.lt (by simp [heldBy, Knd.blockOf])
      replace hy1_2 := way_blk hway hy1_2 hy1_2.lt (by simp [heldBy, Knd.blockOf])
      replace hB1_3 := hway.2.2
      clear hway
      go_wp2
      refine wp_region_made (w := wr4) (B := w.heap.size) (wB := w) [.val (.bool true), .val (.bool true), .val (.bool true), .val (.bool true), .val (.bool true), .val (.bool true), .val (.bool true), .val (.bool true), .val (.agg (wcells a)), .val (.agg (wcells b)), .val (.agg (wcells z31)), .val (.agg (wcells a)), .val (.agg (wcells b)), .val (.agg (wcells z31)), .val (.bool true), .val (.bool true), .val (.bool true), .val (.agg (wcells a)), .val (.agg (wcells b)), .val (.agg (wcells z35)), .val (.agg (wcells a)), .val (.agg (wcells b)), .val (.agg (wcells z35)), .val (.bool true), .val (.bool true), .val (.bool true)] (by kernel_rfl) (by kernel_rfl) (by kernel_rfl) rfl (by kernel_rfl) rfl hB1_3.size hB1_3 (by exact List.nodup_nil) (by intro g hg; exact nomatch hg) trivial ?_ ?_
      · refine ⟨?_, ?_, ?_, ?_, ?_, ?_, ?_, ?_, ?_, ?_, ?_, ?_, ?_, ?_, ?_, ?_, ?_, ?_, ?_, ?_, ?_, ?_, ?_, ?_, ?_, ?_, trivial⟩
        · intro G wx fr hway _ hs hdef hsz
          have s5 : fr.tmps[5]? = some (.bool true) := hs.1
          clear hs
          refine ⟨?_⟩
          go_wp2
          exact kp_post hsz (Below.refl _ _)
        · intro G wx fr hway _ hs hdef hsz
          have s66 : fr.tmps[66]? = some (.bool true) := hs.1
          clear hs
          refine ⟨?_⟩
          go_wp2
          exact kp_post hsz (Below.refl _ _)
        · intro G wx fr hway _ hs hdef hsz
          have s6 : fr.tmps[6]? = some (.bool true) := hs.1
          have s67 : fr.tmps[67]? = some (.bool true) := hs.2.1
          clear hs
          refine ⟨?_⟩
          go_wp2
          exact kp_post hsz (Below.refl _ _)
        · intro G wx fr hway _ hs hdef hsz
          have s67 : fr.tmps[67]? = some (.bool true) := hs.1
          have s68 : fr.tmps[68]? = some (.bool true) := hs.2.1
          clear hs
          refine ⟨?_⟩
          go_wp2
          exact kp_post hsz (Below.refl _ _)
        · intro G wx fr hway _ hs hdef hsz
          have s69 : fr.tmps[69]? = some (.bool true) := hs.1
          clear hs
          refine ⟨?_⟩
          go_wp2
          exact kp_post hsz (Below.refl _ _)
        · intro G wx fr hway _ hs hdef hsz
          have s7 : fr.tmps[7]? = some (.bool true) := hs.1
          have s70 : fr.tmps[70]? = some (.bool true) := hs.2.1
          clear hs
          refine ⟨?_⟩
          go_wp2
          exact kp_post hsz (Below.refl _ _)
        · intro G wx fr hway _ hs hdef hsz
          have s70 : fr.tmps[70]? = some (.bool true) := hs.1
          have s71 : fr.tmps[71]? = some (.bool true) := hs.2.1
          clear hs
          refine ⟨?_⟩
          go_wp2
          exact kp_post hsz (Below.refl _ _)
        · intro G wx fr hway _ hs hdef hsz
          have s72 : fr.tmps[72]? = some (.bool true) := hs.1
          clear hs
          refine ⟨?_⟩
          go_wp2
          exact kp_post hsz (Below.refl _ _)
        · intro G wx fr hway _ hs hdef hsz
          have s2 : fr.tmps[2]? = some (.pointer (some ⟨w.heap.size, 0, none⟩)) := hs.1
          have s73 : fr.tmps[73]? = some (.bool true) := hs.2.1
          clear hs
          refine ⟨?_⟩
          refine wpList_load_want (by simp [Region.wanted, yielded, *]) 23 (.tmp 2) rfl (way_blk hway hy1_1 (by first | exact hy1_1.lt | omega) (by simp [heldBy, Knd.blockOf])) (by rw [HSW.out]; exact hW) (by simp [Act.eval, s2]) ?_
          refine wpList_nil ?_
          exact kp_val hdef hsz (Below.refl _ _)
        · intro G wx fr hway _ hs hdef hsz
          have s3 : fr.tmps[3]? = some (.pointer (some ⟨w1.heap.size, 0, none⟩)) := hs.1
          have s73 : fr.tmps[73]? = some (.bool true) := hs.2.1
          clear hs
          refine ⟨?_⟩
          refine wpList_load_want (by simp [Region.wanted, yielded, *]) 23 (.tmp 3) rfl (way_blk hway hy1_2 (by first | exact hy1_2.lt | omega) (by simp [heldBy, Knd.blockOf])) (by rw [HSW.out]; exact hW) (by simp [Act.eval, s3]) ?_
          refine wpList_nil ?_
          exact kp_val hdef hsz (Below.refl _ _)
        · intro G wx fr hway _ hs hdef hsz
          have s74 : fr.tmps[74]? = some (.agg (wcells a)) := hs.1
          have s75 : fr.tmps[75]? = some (.agg (wcells b)) := hs.2.1
          have s73 : fr.tmps[73]? = some (.bool true) := hs.2.2.1
          clear hs
          refine ⟨?_⟩
          go_wp2_with fail
          refine (C30.out wx).mono ?_
          rintro e w2 ⟨rfl, hb2⟩
          go_wp2
          exact kp_post hsz hb2
        · intro G wx fr hway _ hs hdef hsz
          have s2 : fr.tmps[2]? = some (.pointer (some ⟨w.heap.size, 0, none⟩)) := hs.1
          have s73 : fr.tmps[73]? = some (.bool true) := hs.2.1
          clear hs
          refine ⟨?_⟩
          refine wpList_load_want (by simp [Region.wanted, yielded, *]) 23 (.tmp 2) rfl (way_blk hway hy1_1 (by first | exact hy1_1.lt | omega) (by simp [heldBy, Knd.blockOf])) (by rw [HSW.out]; exact hW) (by simp [Act.eval, s2]) ?_
          refine wpList_nil ?_
          exact kp_val hdef hsz (Below.refl _ _)
        · intro G wx fr hway _ hs hdef hsz
          have s3 : fr.tmps[3]? = some (.pointer (some ⟨w1.heap.size, 0, none⟩)) := hs.1
          have s73 : fr.tmps[73]? = some (.bool true) := hs.2.1
          clear hs
          refine ⟨?_⟩
          refine wpList_load_want (by simp [Region.wanted, yielded, *]) 23 (.tmp 3) rfl (way_blk hway hy1_2 (by first | exact hy1_2.lt | omega) (by simp [heldBy, Knd.blockOf])) (by rw [HSW.out]; exact hW) (by simp [Act.eval, s3]) ?_
          refine wpList_nil ?_
          exact kp_val hdef hsz (Below.refl _ _)
        · intro G wx fr hway _ hs hdef hsz
          have s77 : fr.tmps[77]? = some (.agg (wcells a)) := hs.1
          have s78 : fr.tmps[78]? = some (.agg (wcells b)) := hs.2.1
          have s73 : fr.tmps[73]? = some (.bool true) := hs.2.2.1
          clear hs
          refine ⟨?_⟩
          go_wp2_with fail
          refine (C32.out wx).mono ?_
          rintro e w2 ⟨rfl, hb2⟩
          go_wp2
          exact kp_post hsz hb2
        · intro G wx fr hway _ hs hdef hsz
          have s76 : fr.tmps[76]? = some (.agg (wcells z31)) := hs.1
          have s79 : fr.tmps[79]? = some (.agg (wcells z31)) := hs.2.1
          have s73 : fr.tmps[73]? = some (.bool true) := hs.2.2.1
          clear hs
          have hq := Q33.out
          refine ⟨?_⟩
          go_wp2
          exact kp_post hsz (Below.refl _ _)
        · intro G wx fr hway _ hs hdef hsz
          have s73 : fr.tmps[73]? = some (.bool true) := hs.1
          have s80 : fr.tmps[80]? = some (.bool true) := hs.2.1
          clear hs
          refine ⟨?_⟩
          go_wp2
          exact kp_post hsz (Below.refl _ _)
        · intro G wx fr hway _ hs hdef hsz
          have s81 : fr.tmps[81]? = some (.bool true) := hs.1
          clear hs
          refine ⟨?_⟩
          go_wp2
          exact kp_post hsz (Below.refl _ _)
        · intro G wx fr hway _ hs hdef hsz
          have s2 : fr.tmps[2]? = some (.pointer (some ⟨w.heap.size, 0, none⟩)) := hs.1
          have s82 : fr.tmps[82]? = some (.bool true) := hs.2.1
          clear hs
          refine ⟨?_⟩
          refine wpList_load_want (by simp [Region.wanted, yielded, *]) 23 (.tmp 2) rfl (way_blk hway hy1_1 (by first | exact hy1_1.lt | omega) (by simp [heldBy, Knd.blockOf])) (by rw [HSW.out]; exact hW) (by simp [Act.eval, s2]) ?_
          refine wpList_nil ?_
          exact kp_val hdef hsz (Below.refl _ _)
        · intro G wx fr hway _ hs hdef hsz
          have s3 : fr.tmps[3]? = some (.pointer (some ⟨w1.heap.size, 0, none⟩)) := hs.1
          have s82 : fr.tmps[82]? = some (.bool true) := hs.2.1
          clear hs
          refine ⟨?_⟩
          refine wpList_load_want (by simp [Region.wanted, yielded, *]) 23 (.tmp 3) rfl (way_blk hway hy1_2 (by first | exact hy1_2.lt | omega) (by simp [heldBy, Knd.blockOf])) (by rw [HSW.out]; exact hW) (by simp [Act.eval, s3]) ?_
          refine wpList_nil ?_
          exact kp_val hdef hsz (Below.refl _ _)
        · intro G wx fr hway _ hs hdef hsz
          have s83 : fr.tmps[83]? = some (.agg (wcells a)) := hs.1
          have s84 : fr.tmps[84]? = some (.agg (wcells b)) := hs.2.1
          have s82 : fr.tmps[82]? = some (.bool true) := hs.2.2.1
          clear hs
          refine ⟨?_⟩
          go_wp2_with fail
          refine (C34.out wx).mono ?_
          rintro e w2 ⟨rfl, hb2⟩
          go_wp2
          exact kp_post hsz hb2
        · intro G wx fr hway _ hs hdef hsz
          have s2 : fr.tmps[2]? = some (.pointer (some ⟨w.heap.size, 0, none⟩)) := hs.1
          have s82 : fr.tmps[82]? = some (.bool true) := hs.2.1
          clear hs
          refine ⟨?_⟩
          refine wpList_load_want (by simp [Region.wanted, yielded, *]) 23 (.tmp 2) rfl (way_blk hway hy1_1 (by first | exact hy1_1.lt | omega) (by simp [heldBy, Knd.blockOf])) (by rw [HSW.out]; exact hW) (by simp [Act.eval, s2]) ?_
          refine wpList_nil ?_
          exact kp_val hdef hsz (Below.refl _ _)
        · intro G wx fr hway _ hs hdef hsz
          have s3 : fr.tmps[3]? = some (.pointer (some ⟨w1.heap.size, 0, none⟩)) := hs.1
          have s82 : fr.tmps[82]? = some (.bool true) := hs.2.1
          clear hs
          refine ⟨?_⟩
          refine wpList_load_want (by simp [Region.wanted, yielded, *]) 23 (.tmp 3) rfl (way_blk hway hy1_2 (by first | exact hy1_2.lt | omega) (by simp [heldBy, Knd.blockOf])) (by rw [HSW.out]; exact hW) (by simp [Act.eval, s3]) ?_
          refine wpList_nil ?_
          exact kp_val hdef hsz (Below.refl _ _)
        · intro G wx fr hway _ hs hdef hsz
          have s86 : fr.tmps[86]? = some (.agg (wcells a)) := hs.1
          have s87 : fr.tmps[87]? = some (.agg (wcells b)) := hs.2.1
          have s82 : fr.tmps[82]? = some (.bool true) := hs.2.2.1
          clear hs
          refine ⟨?_⟩
          go_wp2_with fail
          refine (C36.out wx).mono ?_
          rintro e w2 ⟨rfl, hb2⟩
          go_wp2
          exact kp_post hsz hb2
        · intro G wx fr hway _ hs hdef hsz
          have s85 : fr.tmps[85]? = some (.agg (wcells z35)) := hs.1
          have s88 : fr.tmps[88]? = some (.agg (wcells z35)) := hs.2.1
          have s82 : fr.tmps[82]? = some (.bool true) := hs.2.2.1
          clear hs
          have hq := Q37.out
          refine ⟨?_⟩
          go_wp2
          exact kp_post hsz (Below.refl _ _)
        · intro G wx fr hway _ hs hdef hsz
          have s82 : fr.tmps[82]? = some (.bool true) := hs.1
          have s89 : fr.tmps[89]? = some (.bool true) := hs.2.1
          clear hs
          refine ⟨?_⟩
          go_wp2
          exact kp_post hsz (Below.refl _ _)
        · intro G wx fr hway _ hs hdef hsz
          have s90 : fr.tmps[90]? = some (.bool true) := hs.1
          clear hs
          refine ⟨?_⟩
          go_wp2
          exact kp_post hsz (Below.refl _ _)
      · intro G V wr5 hval hway hmade hap
        replace hval : V 0 = .bool true ∧ V 1 = .bool true ∧ V 2 = .bool true ∧ V 3 = .bool true ∧ V 4 = .bool true ∧ V 5 = .bool true ∧ V 6 = .bool true ∧ V 7 = .bool true ∧ V 8 = .agg (wcells a) ∧ V 9 = .agg (wcells b) ∧ V 10 = .agg (wcells z31) ∧ V 11 = .agg (wcells a) ∧ V 12 = .agg (wcells b) ∧ V 13 = .agg (wcells z31) ∧ V 14 = .bool true ∧ V 15 = .bool true ∧ V 16 = .bool true ∧ V 17 = .agg (wcells a) ∧ V 18 = .agg (wcells b) ∧ V 19 = .agg (wcells z35) ∧ V 20 = .agg (wcells a) ∧ V 21 = .agg (wcells b) ∧ V 22 = .agg (wcells z35) ∧ V 23 = .bool true ∧ V 24 = .bool true ∧ V 25 = .bool true ∧ True := hval
        replace hmade : True := hmade
        obtain ⟨e5_0, e5_1, e5_2, e5_3, e5_4, e5_5, e5_6, e5_7, e5_8, e5_9, e5_10, e5_11, e5_12, e5_13, e5_14, e5_15, e5_16, e5_17, e5_18, e5_19, e5_20, e5_21, e5_22, e5_23, e5_24, e5_25, -⟩ := hval
        obtain ⟨-⟩ := hmade
        clear hap
        simp only [fill, Act.put, e5_0, e5_1, e5_2, e5_3, e5_4, e5_5, e5_6, e5_7, e5_8, e5_9, e5_10, e5_11, e5_12, e5_13, e5_14, e5_15, e5_16, e5_17, e5_18, e5_19, e5_20, e5_21, e5_22, e5_23, e5_24, e5_25]
        clear e5_0 e5_1 e5_2 e5_3 e5_4 e5_5 e5_6 e5_7 e5_8 e5_9 e5_10 e5_11 e5_12 e5_13 e5_14 e5_15 e5_16 e5_17 e5_18 e5_19 e5_20 e5_21 e5_22 e5_23 e5_24 e5_25
        simp only [Exit.then]
        go_simp
        clear G V
        replace hy1_1 := way_blk hway hy1_1 hy1_1.lt (by simp [heldBy, Knd.blockOf])
        replace hy1_2 := way_blk hway hy1_2 hy1_2.lt (by simp [heldBy, Knd.blockOf])
        replace hB1_3 := hway.2.2
        clear hway
        go_wp2
        go_ret
        exact ⟨rfl, hB1_3⟩
open Go.ChangeShapes Go.WideShapes Go.ChangeAt

set_option maxRecDepth 100000 in
theorem lifted (os : Os) (started : os.Started) (H : Type) (enc : TypeId × Value → H) :
    ReturnsInHanded {} Try.checked os 6 .any (Rows.wordBitsSpec.pre6 enc Try.prog Try.f6 Rows.wordBitsRow.domain false) (Rows.wordBitsSpec.post enc Try.prog Try.f6 false true false false) := by
  refine law_lift (C := Try.checked) (ts := [23, 23]) (tb := 4) (by kernel_rfl) started (by kernel_rfl) Try.func6
    (ChangeSpec.witness6 (enc := enc) (C := Try.checked) false ⟨#[], #[.agg (Array.replicate 32 (.int .u8 0)), .agg (Array.replicate 32 (.int .u8 0))], []⟩ 8 (by kernel_rfl) (by kernel_rfl) (by kernel_rfl) (by kernel_rfl))
    (by kernel_rfl) (by kernel_rfl) (by kernel_rfl) (by kernel_rfl) Try.underlying4 rfl (fun ds h => by match ds, h with | [_, _], _ => rfl) ?_
  intro W vs hl h
  match vs, hl with
  | [v0, v1], _ =>
    have ha := h 0 _ v0 rfl rfl
    have hb := h 1 _ v1 rfl rfl
    obtain ⟨a, ha', rfl⟩ := arg_word ha
    obtain ⟨b, hb', rfl⟩ := arg_word hb
    exact walk a b W ha' hb'

theorem over : Rows.wordBitsRow.holds Try.pinned (OpenSpec.ofChange Rows.wordBitsSpec) :=
  OpenClaim.holds_of_wide 6 Try.f6 rfl rfl rfl rfl rfl rfl rfl ⟨rfl, rfl, rfl, rfl, rfl⟩ rfl rfl rfl rfl rfl (by kernel_rfl) Try.func6 (by kernel_rfl)
    (of_decide_eq_true (by kernel_rfl)) (by unfold Func.isWrapper; first | (rw [if_pos (by decide +kernel)]; kernel_rfl) | (rw [if_neg (by decide +kernel)]; exact ⟨rfl, rfl⟩))
    (fun os started H enc _ => lifted os started H enc)
end Go.Proofs.Ytcmhbolonhhhoaa.WordBits
namespace Go.Proofs.Ytcmhbolonhhhoaa
theorem wordBits_holds : Rows.WordBitsSaid := WordBits.over
#print axioms wordBits_holds
end Go.Proofs.Ytcmhbolonhhhoaa
