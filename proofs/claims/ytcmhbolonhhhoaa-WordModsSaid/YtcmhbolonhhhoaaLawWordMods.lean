/- 'WordMods' answers true at every input, and leaves what it was given. No condition. -/
import Derived.Test.YtcmhbolonhhhoaaWordModsAll
import Derived.Test.YtcmhbolonhhhoaaLaw
import Derived.Test.YtcmhbolonhhhoaaRows
namespace Go.Proofs.Ytcmhbolonhhhoaa.WordMods
open Go Go.RowKit Go.Mun Go.Proofs

theorem modN_below (N : Nat) {n : Nat} (hn : n < 2 ^ 256) : modN N n < 2 ^ 256 := by
  unfold modN
  split
  · decide
  · exact Nat.lt_trans (Nat.mod_lt _ (by omega)) hn
theorem AddMod_all (a b n : Nat) (w : World) (ha : a < 2 ^ 256) (hb : b < 2 ^ 256) (hn : n < 2 ^ 256) : Calls Try.prog 15 #[.agg (wcells a), .agg (wcells b), .agg (wcells n)] w fun e w' => e = .returned (.agg (wcells (modN (a + b) n))) ∧ Below w.heap.size w w' := by
  unfold modN
  by_cases h : n = 0
  · rw [if_pos h]; exact AddMod_zero a b n w hn h
  · rw [if_neg h]; exact AddMod_pos a b n w ha hb hn h
theorem MulMod_all (a b n : Nat) (w : World) (ha : a < 2 ^ 256) (hb : b < 2 ^ 256) (hn : n < 2 ^ 256) : Calls Try.prog 17 #[.agg (wcells a), .agg (wcells b), .agg (wcells n)] w fun e w' => e = .returned (.agg (wcells (modN (a * b) n))) ∧ Below w.heap.size w w' := by
  unfold modN
  by_cases h : n = 0
  · rw [if_pos h]; exact MulMod_zero a b n w hn h
  · rw [if_neg h]; exact MulMod_pos a b n w ha hb hn h
set_option maxRecDepth 100000 in
set_option maxHeartbeats 8000000 in
theorem walk (a b n : Nat) (w : World) (ha : a < 2 ^ 256) (hb : b < 2 ^ 256) (hn : n < 2 ^ 256) : Calls Try.prog 4 #[.agg (wcells a), .agg (wcells b), .agg (wcells n)] w fun e w' => e = .returned (.bool true) ∧ Below w.heap.size w w' := by
  have hW := wordTy
  have zW := zWordL
  have HSW := Lib.hid wcells_size
  have H1W := Lib.hid wcells_one
  have HZW := Lib.hid wcells_lit0
  have C1 := Lib.hid (fun w => alive1 w)
  obtain ⟨z3, Ez3⟩ : ∃ z, z = modN (a + b) n := ⟨_, rfl⟩
  have hz3 : z3 < 2 ^ 256 := by rw [Ez3]; exact (modN_below _ hn)
  have C2 := Lib.hid (fun w => AddMod_all a b n w ha hb hn)
  rw [← Ez3] at C2
  have C4 := Lib.hid (fun w => RefAddMod_all a b n w ha hb hn)
  rw [← Ez3] at C4
  have Q5 := Lib.hid (fun w => eq_word z3 z3 hz3 hz3 w)
  rw [decide_eq_true rfl] at Q5
  obtain ⟨z7, Ez7⟩ : ∃ z, z = modN (a * b) n := ⟨_, rfl⟩
  have hz7 : z7 < 2 ^ 256 := by rw [Ez7]; exact (modN_below _ hn)
  have C6 := Lib.hid (fun w => MulMod_all a b n w ha hb hn)
  rw [← Ez7] at C6
  have C8 := Lib.hid (fun w => RefMulMod_all a b n w ha hb hn)
  rw [← Ez7] at C8
  have Q9 := Lib.hid (fun w => eq_word z7 z7 hz7 hz7 w)
  rw [decide_eq_true rfl] at Q9
  clear Ez3 Ez7 hz3 hz7
  go_enter Try.func4, Try.ntmps4
  have tk0_0 : True := trivial
  have tk0_1 : True := trivial
  have tk0_2 : True := trivial
  have tk0_3 : True := trivial
  go_wp2_with (first
    | ((with_reducible refine gd_box ?_); have _t := tk0_0; refine wpList_box_agg rfl _ (.tmp 0) rfl rfl ?_; clear tk0_0; intro w1 hx1 hb1 hl1; have hz1 := hx1.lt; have hs1 := hb1.size)
    | ((with_reducible refine gd_box ?_); have _t := tk0_1; refine wpList_box_agg rfl _ (.tmp 1) rfl rfl ?_; clear tk0_1; intro w2 hx2 hb2 hl2; have hz2 := hx2.lt; have hs2 := hb2.size)
    | ((with_reducible refine gd_box ?_); have _t := tk0_2; refine wpList_box_agg rfl _ (.tmp 2) rfl rfl ?_; clear tk0_2; intro w3 hx3 hb3 hl3; have hz3 := hx3.lt; have hs3 := hb3.size)
    | (go_at_call 10; have _t := tk0_3; refine (C1.out _).mono ?_; clear tk0_3; rintro e w4 ⟨rfl, hb4⟩; have hs4 := hb4.size)
    | fail)
  have hy1_1 := (((hx1.ext hb2).ext hb3).ext hb4)
  have hy1_2 := ((hx2.ext hb3).ext hb4)
  have hy1_3 := (hx3.ext hb4)
  have hB1_1 := hb1
  have hB1_2 := below_step hB1_1 hb2
  have hB1_3 := below_step hB1_2 hb3
  have hB1_4 := below_step hB1_3 hb4
  clear hb1 hl1 hz1 hs1 hb2 hl2 hz2 hs2 hb3 hl3 hz3 hs3 hb4 hs4 hx1 hx2 hx3 hB1_1 hB1_2 hB1_3
  refine wp_region_made (w := w4) (B := w.heap.size) (wB := w) [.val (.bool true), .val (.bool true), .val (.agg (wcells a)), .val (.agg (wcells b)), .val (.agg (wcells n)), .val (.agg (wcells z3)), .val (.agg (wcells a)), .val (.agg (wcells b)), .val (.agg (wcells n)), .val (.agg (wcells z3)), .val (.bool true), .val (.bool true), .val (.bool true), .val (.agg (wcells a)), .val (.agg (wcells b)), .val (.agg (wcells n)), .val (.agg (wcells z7)), .val (.agg (wcells a)), .val (.agg (wcells b)), .val (.agg (wcells n)), .val (.agg (wcells z7)), .val (.bool true), .val (.bool true), .val (.bool true)] (by kernel_rfl) (by kernel_rfl) (by kernel_rfl) rfl (by kernel_rfl) rfl hB1_4.size hB1_4 (by exact List.nodup_nil) (by intro g hg; exact nomatch hg) trivial ?_ ?_
  · refine ⟨?_, ?_, ?_, ?_, ?_, ?_, ?_, ?_, ?_, ?_, ?_, ?_, ?_, ?_, ?_, ?_, ?_, ?_, ?_, ?_, ?_, ?_, ?_, ?_, trivial⟩
    · intro G wx fr hway _ hs hdef hsz
      have s7 : fr.tmps[7]? = some (.bool true) := hs.1
      clear hs
      refine ⟨?_⟩
      go_wp2
      exact kp_post hsz (Below.refl _ _)
    · intro G wx fr hway _ hs hdef hsz
      have s9 : fr.tmps[9]? = some (.bool true) := hs.1
      clear hs
      refine ⟨?_⟩
      go_wp2
      exact kp_post hsz (Below.refl _ _)
    · intro G wx fr hway _ hs hdef hsz
      have s3 : fr.tmps[3]? = some (.pointer (some ⟨w.heap.size, 0, none⟩)) := hs.1
      have s10 : fr.tmps[10]? = some (.bool true) := hs.2.1
      clear hs
      refine ⟨?_⟩
      refine wpList_load_want (by simp [Region.wanted, yielded, *]) 23 (.tmp 3) rfl (way_blk hway hy1_1 (by first | exact hy1_1.lt | omega) (by simp [heldBy, Knd.blockOf])) (by rw [HSW.out]; exact hW) (by simp [Act.eval, s3]) ?_
      refine wpList_nil ?_
      exact kp_val hdef hsz (Below.refl _ _)
    · intro G wx fr hway _ hs hdef hsz
      have s4 : fr.tmps[4]? = some (.pointer (some ⟨w1.heap.size, 0, none⟩)) := hs.1
      have s10 : fr.tmps[10]? = some (.bool true) := hs.2.1
      clear hs
      refine ⟨?_⟩
      refine wpList_load_want (by simp [Region.wanted, yielded, *]) 23 (.tmp 4) rfl (way_blk hway hy1_2 (by first | exact hy1_2.lt | omega) (by simp [heldBy, Knd.blockOf])) (by rw [HSW.out]; exact hW) (by simp [Act.eval, s4]) ?_
      refine wpList_nil ?_
      exact kp_val hdef hsz (Below.refl _ _)
    · intro G wx fr hway _ hs hdef hsz
      have s5 : fr.tmps[5]? = some (.pointer (some ⟨w2.heap.size, 0, none⟩)) := hs.1
      have s10 : fr.tmps[10]? = some (.bool true) := hs.2.1
      clear hs
      refine ⟨?_⟩
      refine wpList_load_want (by simp [Region.wanted, yielded, *]) 23 (.tmp 5) rfl (way_blk hway hy1_3 (by first | exact hy1_3.lt | omega) (by simp [heldBy, Knd.blockOf])) (by rw [HSW.out]; exact hW) (by simp [Act.eval, s5]) ?_
      refine wpList_nil ?_
      exact kp_val hdef hsz (Below.refl _ _)
    · intro G wx fr hway _ hs hdef hsz
      have s11 : fr.tmps[11]? = some (.agg (wcells a)) := hs.1
      have s12 : fr.tmps[12]? = some (.agg (wcells b)) := hs.2.1
      have s13 : fr.tmps[13]? = some (.agg (wcells n)) := hs.2.2.1
      have s10 : fr.tmps[10]? = some (.bool true) := hs.2.2.2.1
      clear hs
      refine ⟨?_⟩
      go_wp2_with fail
      refine (C2.out wx).mono ?_
      rintro e w2 ⟨rfl, hb2⟩
      go_wp2
      exact kp_post hsz hb2
    · intro G wx fr hway _ hs hdef hsz
      have s3 : fr.tmps[3]? = some (.pointer (some ⟨w.heap.size, 0, none⟩)) := hs.1
      have s10 : fr.tmps[10]? = some (.bool true) := hs.2.1
      clear hs
      refine ⟨?_⟩
      refine wpList_load_want (by simp [Region.wanted, yielded, *]) 23 (.tmp 3) rfl (way_blk hway hy1_1 (by first | exact hy1_1.lt | omega) (by simp [heldBy, Knd.blockOf])) (by rw [HSW.out]; exact hW) (by simp [Act.eval, s3]) ?_
      refine wpList_nil ?_
      exact kp_val hdef hsz (Below.refl _ _)
    · intro G wx fr hway _ hs hdef hsz
      have s4 : fr.tmps[4]? = some (.pointer (some ⟨w1.heap.size, 0, none⟩)) := hs.1
      have s10 : fr.tmps[10]? = some (.bool true) := hs.2.1
      clear hs
      refine ⟨?_⟩
      refine wpList_load_want (by simp [Region.wanted, yielded, *]) 23 (.tmp 4) rfl (way_blk hway hy1_2 (by first | exact hy1_2.lt | omega) (by simp [heldBy, Knd.blockOf])) (by rw [HSW.out]; exact hW) (by simp [Act.eval, s4]) ?_
      refine wpList_nil ?_
      exact kp_val hdef hsz (Below.refl _ _)
    · intro G wx fr hway _ hs hdef hsz
      have s5 : fr.tmps[5]? = some (.pointer (some ⟨w2.heap.size, 0, none⟩)) := hs.1
      have s10 : fr.tmps[10]? = some (.bool true) := hs.2.1
      clear hs
      refine ⟨?_⟩
      refine wpList_load_want (by simp [Region.wanted, yielded, *]) 23 (.tmp 5) rfl (way_blk hway hy1_3 (by first | exact hy1_3.lt | omega) (by simp [heldBy, Knd.blockOf])) (by rw [HSW.out]; exact hW) (by simp [Act.eval, s5]) ?_
      refine wpList_nil ?_
      exact kp_val hdef hsz (Below.refl _ _)
    · intro G wx fr hway _ hs hdef hsz
      have s15 : fr.tmps[15]? = some (.agg (wcells a)) := hs.1
      have s16 : fr.tmps[16]? = some (.agg (wcells b)) := hs.2.1
      have s17 : fr.tmps[17]? = some (.agg (wcells n)) := hs.2.2.1
      have s10 : fr.tmps[10]? = some (.bool true) := hs.2.2.2.1
      clear hs
      refine ⟨?_⟩
      go_wp2_with fail
      refine (C4.out wx).mono ?_
      rintro e w2 ⟨rfl, hb2⟩
      go_wp2
      exact kp_post hsz hb2
    · intro G wx fr hway _ hs hdef hsz
      have s14 : fr.tmps[14]? = some (.agg (wcells z3)) := hs.1
      have s18 : fr.tmps[18]? = some (.agg (wcells z3)) := hs.2.1
      have s10 : fr.tmps[10]? = some (.bool true) := hs.2.2.1
      clear hs
      have hq := Q5.out
      refine ⟨?_⟩
      go_wp2
      exact kp_post hsz (Below.refl _ _)
    · intro G wx fr hway _ hs hdef hsz
      have s10 : fr.tmps[10]? = some (.bool true) := hs.1
      have s19 : fr.tmps[19]? = some (.bool true) := hs.2.1
      clear hs
      refine ⟨?_⟩
      go_wp2
      exact kp_post hsz (Below.refl _ _)
    · intro G wx fr hway _ hs hdef hsz
      have s20 : fr.tmps[20]? = some (.bool true) := hs.1
      clear hs
      refine ⟨?_⟩
      go_wp2
      exact kp_post hsz (Below.refl _ _)
    · intro G wx fr hway _ hs hdef hsz
      have s3 : fr.tmps[3]? = some (.pointer (some ⟨w.heap.size, 0, none⟩)) := hs.1
      have s21 : fr.tmps[21]? = some (.bool true) := hs.2.1
      clear hs
      refine ⟨?_⟩
      refine wpList_load_want (by simp [Region.wanted, yielded, *]) 23 (.tmp 3) rfl (way_blk hway hy1_1 (by first | exact hy1_1.lt | omega) (by simp [heldBy, Knd.blockOf])) (by rw [HSW.out]; exact hW) (by simp [Act.eval, s3]) ?_
      refine wpList_nil ?_
      exact kp_val hdef hsz (Below.refl _ _)
    · intro G wx fr hway _ hs hdef hsz
      have s4 : fr.tmps[4]? = some (.pointer (some ⟨w1.heap.size, 0, none⟩)) := hs.1
      have s21 : fr.tmps[21]? = some (.bool true) := hs.2.1
      clear hs
      refine ⟨?_⟩
      refine wpList_load_want (by simp [Region.wanted, yielded, *]) 23 (.tmp 4) rfl (way_blk hway hy1_2 (by first | exact hy1_2.lt | omega) (by simp [heldBy, Knd.blockOf])) (by rw [HSW.out]; exact hW) (by simp [Act.eval, s4]) ?_
      refine wpList_nil ?_
      exact kp_val hdef hsz (Below.refl _ _)
    · intro G wx fr hway _ hs hdef hsz
      have s5 : fr.tmps[5]? = some (.pointer (some ⟨w2.heap.size, 0, none⟩)) := hs.1
      have s21 : fr.tmps[21]? = some (.bool true) := hs.2.1
      clear hs
      refine ⟨?_⟩
      refine wpList_load_want (by simp [Region.wanted, yielded, *]) 23 (.tmp 5) rfl (way_blk hway hy1_3 (by first | exact hy1_3.lt | omega) (by simp [heldBy, Knd.blockOf])) (by rw [HSW.out]; exact hW) (by simp [Act.eval, s5]) ?_
      refine wpList_nil ?_
      exact kp_val hdef hsz (Below.refl _ _)
    · intro G wx fr hway _ hs hdef hsz
      have s22 : fr.tmps[22]? = some (.agg (wcells a)) := hs.1
      have s23 : fr.tmps[23]? = some (.agg (wcells b)) := hs.2.1
      have s24 : fr.tmps[24]? = some (.agg (wcells n)) := hs.2.2.1
      have s21 : fr.tmps[21]? = some (.bool true) := hs.2.2.2.1
      clear hs
      refine ⟨?_⟩
      go_wp2_with fail
      refine (C6.out wx).mono ?_
      rintro e w2 ⟨rfl, hb2⟩
      go_wp2
      exact kp_post hsz hb2
    · intro G wx fr hway _ hs hdef hsz
      have s3 : fr.tmps[3]? = some (.pointer (some ⟨w.heap.size, 0, none⟩)) := hs.1
      have s21 : fr.tmps[21]? = some (.bool true) := hs.2.1
      clear hs
      refine ⟨?_⟩
      refine wpList_load_want (by simp [Region.wanted, yielded, *]) 23 (.tmp 3) rfl (way_blk hway hy1_1 (by first | exact hy1_1.lt | omega) (by simp [heldBy, Knd.blockOf])) (by rw [HSW.out]; exact hW) (by simp [Act.eval, s3]) ?_
      refine wpList_nil ?_
      exact kp_val hdef hsz (Below.refl _ _)
    · intro G wx fr hway _ hs hdef hsz
      have s4 : fr.tmps[4]? = some (.pointer (some ⟨w1.heap.size, 0, none⟩)) := hs.1
      have s21 : fr.tmps[21]? = some (.bool true) := hs.2.1
      clear hs
      refine ⟨?_⟩
      refine wpList_load_want (by simp [Region.wanted, yielded, *]) 23 (.tmp 4) rfl (way_blk hway hy1_2 (by first | exact hy1_2.lt | omega) (by simp [heldBy, Knd.blockOf])) (by rw [HSW.out]; exact hW) (by simp [Act.eval, s4]) ?_
      refine wpList_nil ?_
      exact kp_val hdef hsz (Below.refl _ _)
    · intro G wx fr hway _ hs hdef hsz
      have s5 : fr.tmps[5]? = some (.pointer (some ⟨w2.heap.size, 0, none⟩)) := hs.1
      have s21 : fr.tmps[21]? = some (.bool true) := hs.2.1
      clear hs
      refine ⟨?_⟩
      refine wpList_load_want (by simp [Region.wanted, yielded, *]) 23 (.tmp 5) rfl (way_blk hway hy1_3 (by first | exact hy1_3.lt | omega) (by simp [heldBy, Knd.blockOf])) (by rw [HSW.out]; exact hW) (by simp [Act.eval, s5]) ?_
      refine wpList_nil ?_
      exact kp_val hdef hsz (Below.refl _ _)
    · intro G wx fr hway _ hs hdef hsz
      have s26 : fr.tmps[26]? = some (.agg (wcells a)) := hs.1
      have s27 : fr.tmps[27]? = some (.agg (wcells b)) := hs.2.1
      have s28 : fr.tmps[28]? = some (.agg (wcells n)) := hs.2.2.1
      have s21 : fr.tmps[21]? = some (.bool true) := hs.2.2.2.1
      clear hs
      refine ⟨?_⟩
      go_wp2_with fail
      refine (C8.out wx).mono ?_
      rintro e w2 ⟨rfl, hb2⟩
      go_wp2
      exact kp_post hsz hb2
    · intro G wx fr hway _ hs hdef hsz
      have s25 : fr.tmps[25]? = some (.agg (wcells z7)) := hs.1
      have s29 : fr.tmps[29]? = some (.agg (wcells z7)) := hs.2.1
      have s21 : fr.tmps[21]? = some (.bool true) := hs.2.2.1
      clear hs
      have hq := Q9.out
      refine ⟨?_⟩
      go_wp2
      exact kp_post hsz (Below.refl _ _)
    · intro G wx fr hway _ hs hdef hsz
      have s21 : fr.tmps[21]? = some (.bool true) := hs.1
      have s30 : fr.tmps[30]? = some (.bool true) := hs.2.1
      clear hs
      refine ⟨?_⟩
      go_wp2
      exact kp_post hsz (Below.refl _ _)
    · intro G wx fr hway _ hs hdef hsz
      have s31 : fr.tmps[31]? = some (.bool true) := hs.1
      clear hs
      refine ⟨?_⟩
      go_wp2
      exact kp_post hsz (Below.refl _ _)
  · intro G V wr3 hval hway hmade hap
    replace hval : V 0 = .bool true ∧ V 1 = .bool true ∧ V 2 = .agg (wcells a) ∧ V 3 = .agg (wcells b) ∧ V 4 = .agg (wcells n) ∧ V 5 = .agg (wcells z3) ∧ V 6 = .agg (wcells a) ∧ V 7 = .agg (wcells b) ∧ V 8 = .agg (wcells n) ∧ V 9 = .agg (wcells z3) ∧ V 10 = .bool true ∧ V 11 = .bool true ∧ V 12 = .bool true ∧ V 13 = .agg (wcells a) ∧ V 14 = .agg (wcells b) ∧ V 15 = .agg (wcells n) ∧ V 16 = .agg (wcells z7) ∧ V 17 = .agg (wcells a) ∧ V 18 = .agg (wcells b) ∧ V 19 = .agg (wcells n) ∧ V 20 = .agg (wcells z7) ∧ V 21 = .bool true ∧ V 22 = .bool true ∧ V 23 = .bool true ∧ True := hval
    replace hmade : True := hmade
    obtain ⟨e3_0, e3_1, e3_2, e3_3, e3_4, e3_5, e3_6, e3_7, e3_8, e3_9, e3_10, e3_11, e3_12, e3_13, e3_14, e3_15, e3_16, e3_17, e3_18, e3_19, e3_20, e3_21, e3_22, e3_23, -⟩ := hval
    obtain ⟨-⟩ := hmade
    clear hap
    simp only [fill, Act.put, e3_0, e3_1, e3_2, e3_3, e3_4, e3_5, e3_6, e3_7, e3_8, e3_9, e3_10, e3_11, e3_12, e3_13, e3_14, e3_15, e3_16, e3_17, e3_18, e3_19, e3_20, e3_21, e3_22, e3_23]
    clear e3_0 e3_1 e3_2 e3_3 e3_4 e3_5 e3_6 e3_7 e3_8 e3_9 e3_10 e3_11 e3_12 e3_13 e3_14 e3_15 e3_16 e3_17 e3_18 e3_19 e3_20 e3_21 e3_22 e3_23
    simp only [Exit.then]
    go_simp
    clear G V
    replace hy1_1 := way_blk hway hy1_1 hy1_1.lt (by simp [heldBy, Knd.blockOf])
    replace hy1_2 := way_blk hway hy1_2 hy1_2.lt (by simp [heldBy, Knd.blockOf])
    replace hy1_3 := way_blk hway hy1_3 hy1_3.lt (by simp [heldBy, Knd.blockOf])
    replace hB1_4 := hway.2.2
    clear hway
    go_wp2
    go_ret
    exact ⟨rfl, hB1_4⟩
open Go.ChangeShapes Go.WideShapes Go.ChangeAt

set_option maxRecDepth 100000 in
theorem lifted (os : Os) (started : os.Started) (H : Type) (enc : TypeId × Value → H) :
    ReturnsInHanded {} Try.checked os 4 .any (Rows.wordModsSpec.pre6 enc Try.prog Try.f4 Rows.wordModsRow.domain false) (Rows.wordModsSpec.post enc Try.prog Try.f4 false true false false) := by
  refine law_lift (C := Try.checked) (ts := [23, 23, 23]) (tb := 4) (by kernel_rfl) started (by kernel_rfl) Try.func4
    (ChangeSpec.witness6 (enc := enc) (C := Try.checked) false ⟨#[], #[.agg (Array.replicate 32 (.int .u8 0)), .agg (Array.replicate 32 (.int .u8 0)), .agg (Array.replicate 32 (.int .u8 0))], []⟩ 8 (by kernel_rfl) (by kernel_rfl) (by kernel_rfl) (by kernel_rfl))
    (by kernel_rfl) (by kernel_rfl) (by kernel_rfl) (by kernel_rfl) Try.underlying4 rfl (fun ds h => by match ds, h with | [_, _, _], _ => rfl) ?_
  intro W vs hl h
  match vs, hl with
  | [v0, v1, v2], _ =>
    have ha := h 0 _ v0 rfl rfl
    have hb := h 1 _ v1 rfl rfl
    have hn := h 2 _ v2 rfl rfl
    obtain ⟨a, ha', rfl⟩ := arg_word ha
    obtain ⟨b, hb', rfl⟩ := arg_word hb
    obtain ⟨n, hn', rfl⟩ := arg_word hn
    exact walk a b n W ha' hb' hn'

theorem over : Rows.wordModsRow.holds Try.pinned (OpenSpec.ofChange Rows.wordModsSpec) :=
  OpenClaim.holds_of_wide 4 Try.f4 rfl rfl rfl rfl rfl rfl rfl ⟨rfl, rfl, rfl, rfl, rfl⟩ rfl rfl rfl rfl rfl (by kernel_rfl) Try.func4 (by kernel_rfl)
    (of_decide_eq_true (by kernel_rfl)) (by unfold Func.isWrapper; first | (rw [if_pos (by decide +kernel)]; kernel_rfl) | (rw [if_neg (by decide +kernel)]; exact ⟨rfl, rfl⟩))
    (fun os started H enc _ => lifted os started H enc)
end Go.Proofs.Ytcmhbolonhhhoaa.WordMods
namespace Go.Proofs.Ytcmhbolonhhhoaa
theorem wordMods_holds : Rows.WordModsSaid := WordMods.over
#print axioms wordMods_holds
end Go.Proofs.Ytcmhbolonhhhoaa
