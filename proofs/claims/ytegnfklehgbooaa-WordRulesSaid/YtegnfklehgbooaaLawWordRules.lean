/- 'WordRules' answers true at every input, and leaves what it was given. No condition. -/
import Derived.Test.YtegnfklehgbooaaWordAlive
import Derived.Test.YtegnfklehgbooaaWordArg
import Derived.Test.YtegnfklehgbooaaLaw
import Derived.Test.YtegnfklehgbooaaRows
namespace Go.Proofs.Ytegnfklehgbooaa.WordRules
open Go Go.RowKit Go.Mun Go.Proofs

set_option maxRecDepth 100000 in
set_option maxHeartbeats 8000000 in
theorem walk (a b c : Nat) (w : World) (ha : a < 2 ^ 256) (hb : b < 2 ^ 256) (hc : c < 2 ^ 256) : Calls Try.prog 6 #[.agg (wcells a), .agg (wcells b), .agg (wcells c)] w fun e w' => e = .returned (.bool true) ∧ Below w.heap.size w w' := by
  have hW := wordTy
  have HSW := Lib.hid wcells_size
  have C1 := Lib.hid (fun w => alive1 w)
  obtain ⟨s3, Es3⟩ : ∃ z, z = a &&& b := ⟨_, rfl⟩
  have hs3 : s3 < 2 ^ 256 := by rw [Es3]; exact (Nat.and_lt_two_pow _ hb)
  have C2 := Lib.hid (fun w => And_any a b w)
  rw [← Es3] at C2
  obtain ⟨s5, Es5⟩ : ∃ z, z = a ||| b := ⟨_, rfl⟩
  have hs5 : s5 < 2 ^ 256 := by rw [Es5]; exact (Nat.or_lt_two_pow ha hb)
  have C4 := Lib.hid (fun w => Or_any a b w)
  rw [← Es5] at C4
  obtain ⟨s7, Es7⟩ : ∃ z, z = (s3 + s5) % 2 ^ 256 := ⟨_, rfl⟩
  have hs7 : s7 < 2 ^ 256 := by rw [Es7]; exact (Nat.mod_lt _ (by decide))
  have C6 := Lib.hid (fun w => Add_any s3 s5 w hs3 hs5)
  rw [← Es7] at C6
  obtain ⟨s9, Es9⟩ : ∃ z, z = (a + b) % 2 ^ 256 := ⟨_, rfl⟩
  have hs9 : s9 < 2 ^ 256 := by rw [Es9]; exact (Nat.mod_lt _ (by decide))
  have C8 := Lib.hid (fun w => Add_any a b w ha hb)
  rw [← Es9] at C8
  have Q10 := Lib.hid (fun w => eq_word s7 s9 hs7 hs9 w)
  rw [decide_eq_true (by subst_vars; exact pAndOr ha hb)] at Q10
  obtain ⟨s12, Es12⟩ : ∃ z, z = a ^^^ b := ⟨_, rfl⟩
  have hs12 : s12 < 2 ^ 256 := by rw [Es12]; exact (Nat.xor_lt_two_pow ha hb)
  have C11 := Lib.hid (fun w => Xor_any a b w)
  rw [← Es12] at C11
  obtain ⟨s14, Es14⟩ : ∃ z, z = s12 ^^^ b := ⟨_, rfl⟩
  have hs14 : s14 < 2 ^ 256 := by rw [Es14]; exact (Nat.xor_lt_two_pow hs12 hb)
  have C13 := Lib.hid (fun w => Xor_any s12 b w)
  rw [← Es14] at C13
  have Q15 := Lib.hid (fun w => eq_word s14 a hs14 ha w)
  rw [decide_eq_true (by subst_vars; exact pXor a b)] at Q15
  obtain ⟨s17, Es17⟩ : ∃ z, z = notN a := ⟨_, rfl⟩
  have hs17 : s17 < 2 ^ 256 := by rw [Es17]; exact (notN_lt _)
  have C16 := Lib.hid (fun w => Not_any a w ha)
  rw [← Es17] at C16
  obtain ⟨s19, Es19⟩ : ∃ z, z = (a + s17) % 2 ^ 256 := ⟨_, rfl⟩
  have hs19 : s19 < 2 ^ 256 := by rw [Es19]; exact (Nat.mod_lt _ (by decide))
  have C18 := Lib.hid (fun w => Add_any a s17 w ha hs17)
  rw [← Es19] at C18
  obtain ⟨s21, Es21⟩ : ∃ z, z = ofN (-1) := ⟨_, rfl⟩
  have hs21 : s21 < 2 ^ 256 := by rw [Es21]; exact (ofN_lt _)
  have C20 := Lib.hid (fun w => Of_any (-1) w (by decide) (by decide))
  rw [← Es21] at C20
  have Q22 := Lib.hid (fun w => eq_word s19 s21 hs19 hs21 w)
  rw [decide_eq_true (by subst_vars; exact pNot ha)] at Q22
  obtain ⟨s24, Es24⟩ : ∃ z, z = (s9 + 2 ^ 256 - b) % 2 ^ 256 := ⟨_, rfl⟩
  have hs24 : s24 < 2 ^ 256 := by rw [Es24]; exact (Nat.mod_lt _ (by decide))
  have C23 := Lib.hid (fun w => Sub_any s9 b w hs9 hb)
  rw [← Es24] at C23
  have Q25 := Lib.hid (fun w => eq_word s24 a hs24 ha w)
  rw [decide_eq_true (by subst_vars; exact pAddSub ha hb)] at Q25
  obtain ⟨s27, Es27⟩ : ∃ z, z = (b + a) % 2 ^ 256 := ⟨_, rfl⟩
  have hs27 : s27 < 2 ^ 256 := by rw [Es27]; exact (Nat.mod_lt _ (by decide))
  have C26 := Lib.hid (fun w => Add_any b a w hb ha)
  rw [← Es27] at C26
  have Q28 := Lib.hid (fun w => eq_word s9 s27 hs9 hs27 w)
  rw [decide_eq_true (by subst_vars; exact pAddComm a b)] at Q28
  obtain ⟨s30, Es30⟩ : ∃ z, z = a * b % 2 ^ 256 := ⟨_, rfl⟩
  have hs30 : s30 < 2 ^ 256 := by rw [Es30]; exact (Nat.mod_lt _ (by decide))
  have C29 := Lib.hid (fun w => Mul_any a b w ha hb)
  rw [← Es30] at C29
  obtain ⟨s32, Es32⟩ : ∃ z, z = b * a % 2 ^ 256 := ⟨_, rfl⟩
  have hs32 : s32 < 2 ^ 256 := by rw [Es32]; exact (Nat.mod_lt _ (by decide))
  have C31 := Lib.hid (fun w => Mul_any b a w hb ha)
  rw [← Es32] at C31
  have Q33 := Lib.hid (fun w => eq_word s30 s32 hs30 hs32 w)
  rw [decide_eq_true (by subst_vars; exact pMulComm a b)] at Q33
  obtain ⟨s35, Es35⟩ : ∃ z, z = (b + c) % 2 ^ 256 := ⟨_, rfl⟩
  have hs35 : s35 < 2 ^ 256 := by rw [Es35]; exact (Nat.mod_lt _ (by decide))
  have C34 := Lib.hid (fun w => Add_any b c w hb hc)
  rw [← Es35] at C34
  obtain ⟨s37, Es37⟩ : ∃ z, z = a * s35 % 2 ^ 256 := ⟨_, rfl⟩
  have hs37 : s37 < 2 ^ 256 := by rw [Es37]; exact (Nat.mod_lt _ (by decide))
  have C36 := Lib.hid (fun w => Mul_any a s35 w ha hs35)
  rw [← Es37] at C36
  obtain ⟨s39, Es39⟩ : ∃ z, z = a * c % 2 ^ 256 := ⟨_, rfl⟩
  have hs39 : s39 < 2 ^ 256 := by rw [Es39]; exact (Nat.mod_lt _ (by decide))
  have C38 := Lib.hid (fun w => Mul_any a c w ha hc)
  rw [← Es39] at C38
  obtain ⟨s41, Es41⟩ : ∃ z, z = (s30 + s39) % 2 ^ 256 := ⟨_, rfl⟩
  have hs41 : s41 < 2 ^ 256 := by rw [Es41]; exact (Nat.mod_lt _ (by decide))
  have C40 := Lib.hid (fun w => Add_any s30 s39 w hs30 hs39)
  rw [← Es41] at C40
  have Q42 := Lib.hid (fun w => eq_word s37 s41 hs37 hs41 w)
  rw [decide_eq_true (by subst_vars; exact pMulAdd a b c)] at Q42
  clear Es3 Es5 Es7 Es9 Es12 Es14 Es17 Es19 Es21 Es24 Es27 Es30 Es32 Es35 Es37 Es39 Es41 hs3 hs5 hs7 hs9 hs12 hs14 hs17 hs19 hs21 hs24 hs27 hs30 hs32 hs35 hs37 hs39 hs41
  have tokB1 : True := trivial
  have tokB2 : True := trivial
  go_enter Try.func6, Try.ntmps6
  go_wp2_with (first
    | ((with_reducible refine gd_box ?_); have _t := tokB1; refine wpList_box_agg rfl _ (.tmp 0) rfl rfl ?_; clear tokB1; intro w1 hx1 hb1 hl1)
    | ((with_reducible refine gd_box ?_); have _t := tokB2; refine wpList_box_agg rfl _ (.tmp 1) rfl rfl ?_; clear tokB2; intro w2 hx2 hb2 hl2)
    | ((with_reducible refine gd_box ?_); refine wpList_box_agg rfl _ (.tmp 2) rfl rfl ?_; intro w3 hx3 hb3 hl3)
    | (go_at_call 10; refine (C1.out _).mono ?_; rintro e w4 ⟨rfl, hb4⟩)
    | fail)
  replace hx1 := ((hx1.ext hb2).ext hb3).ext hb4
  replace hx2 := (hx2.ext hb3).ext hb4
  replace hx3 := hx3.ext hb4
  have hB := below_step (below_step (below_step hb1 hb2) hb3) hb4
  clear hb1 hb2 hb3 hb4
  refine wp_region_made (w := w4) (B := w.heap.size) (wB := w) [.val (.agg (wcells a)), .val (.agg (wcells b)), .val (.agg (wcells c)), .val (.agg (wcells s35)), .val (.agg (wcells s37)), .val (.agg (wcells a)), .val (.agg (wcells b)), .val (.agg (wcells s30)), .val (.agg (wcells a)), .val (.agg (wcells c)), .val (.agg (wcells s39)), .val (.agg (wcells s41)), .val (.bool true), .val (.bool true)] (by kernel_rfl) (by kernel_rfl) (by kernel_rfl) rfl (by kernel_rfl) rfl hB.size hB List.nodup_nil (fun g hg => nomatch hg) trivial ?_ ?_
  · refine ⟨?_, ?_, ?_, ?_, ?_, ?_, ?_, ?_, ?_, ?_, ?_, ?_, ?_, ?_, trivial⟩
    · intro G wx fr hway _ hs hdef hsz
      have s3 : fr.tmps[3]? = some (.pointer (some ⟨w.heap.size, 0, none⟩)) := hs.1
      clear hs
      refine ⟨?_⟩
      refine wpList_load_blk rfl 23 (.tmp 3) rfl (way_blk hway hx1 (by first | exact hx1.lt | omega) (by simp [heldBy, Knd.blockOf])) (by rw [HSW.out]; exact hW) (by simp [Act.eval, s3]) ?_
      refine wpList_nil ?_
      exact kp_val hdef hsz (Below.refl _ _)
    · intro G wx fr hway _ hs hdef hsz
      have s4 : fr.tmps[4]? = some (.pointer (some ⟨w1.heap.size, 0, none⟩)) := hs.1
      clear hs
      refine ⟨?_⟩
      refine wpList_load_blk rfl 23 (.tmp 4) rfl (way_blk hway hx2 (by first | exact hx2.lt | omega) (by simp [heldBy, Knd.blockOf])) (by rw [HSW.out]; exact hW) (by simp [Act.eval, s4]) ?_
      refine wpList_nil ?_
      exact kp_val hdef hsz (Below.refl _ _)
    · intro G wx fr hway _ hs hdef hsz
      have s5 : fr.tmps[5]? = some (.pointer (some ⟨w2.heap.size, 0, none⟩)) := hs.1
      clear hs
      refine ⟨?_⟩
      refine wpList_load_blk rfl 23 (.tmp 5) rfl (way_blk hway hx3 (by first | exact hx3.lt | omega) (by simp [heldBy, Knd.blockOf])) (by rw [HSW.out]; exact hW) (by simp [Act.eval, s5]) ?_
      refine wpList_nil ?_
      exact kp_val hdef hsz (Below.refl _ _)
    · intro G wx fr hway _ hs hdef hsz
      have s13 : fr.tmps[13]? = some (.agg (wcells b)) := hs.1
      have s14 : fr.tmps[14]? = some (.agg (wcells c)) := hs.2.1
      clear hs
      refine ⟨?_⟩
      go_wp2_with fail
      refine (C34.out wx).mono ?_
      rintro e w2 ⟨rfl, hb2⟩
      go_wp2
      exact kp_post hsz hb2
    · intro G wx fr hway _ hs hdef hsz
      have s12 : fr.tmps[12]? = some (.agg (wcells a)) := hs.1
      have s15 : fr.tmps[15]? = some (.agg (wcells s35)) := hs.2.1
      clear hs
      refine ⟨?_⟩
      go_wp2_with fail
      refine (C36.out wx).mono ?_
      rintro e w2 ⟨rfl, hb2⟩
      go_wp2
      exact kp_post hsz hb2
    · intro G wx fr hway _ hs hdef hsz
      have s3 : fr.tmps[3]? = some (.pointer (some ⟨w.heap.size, 0, none⟩)) := hs.1
      clear hs
      refine ⟨?_⟩
      refine wpList_load_blk rfl 23 (.tmp 3) rfl (way_blk hway hx1 (by first | exact hx1.lt | omega) (by simp [heldBy, Knd.blockOf])) (by rw [HSW.out]; exact hW) (by simp [Act.eval, s3]) ?_
      refine wpList_nil ?_
      exact kp_val hdef hsz (Below.refl _ _)
    · intro G wx fr hway _ hs hdef hsz
      have s4 : fr.tmps[4]? = some (.pointer (some ⟨w1.heap.size, 0, none⟩)) := hs.1
      clear hs
      refine ⟨?_⟩
      refine wpList_load_blk rfl 23 (.tmp 4) rfl (way_blk hway hx2 (by first | exact hx2.lt | omega) (by simp [heldBy, Knd.blockOf])) (by rw [HSW.out]; exact hW) (by simp [Act.eval, s4]) ?_
      refine wpList_nil ?_
      exact kp_val hdef hsz (Below.refl _ _)
    · intro G wx fr hway _ hs hdef hsz
      have s17 : fr.tmps[17]? = some (.agg (wcells a)) := hs.1
      have s18 : fr.tmps[18]? = some (.agg (wcells b)) := hs.2.1
      clear hs
      refine ⟨?_⟩
      go_wp2_with fail
      refine (C29.out wx).mono ?_
      rintro e w2 ⟨rfl, hb2⟩
      go_wp2
      exact kp_post hsz hb2
    · intro G wx fr hway _ hs hdef hsz
      have s3 : fr.tmps[3]? = some (.pointer (some ⟨w.heap.size, 0, none⟩)) := hs.1
      clear hs
      refine ⟨?_⟩
      refine wpList_load_blk rfl 23 (.tmp 3) rfl (way_blk hway hx1 (by first | exact hx1.lt | omega) (by simp [heldBy, Knd.blockOf])) (by rw [HSW.out]; exact hW) (by simp [Act.eval, s3]) ?_
      refine wpList_nil ?_
      exact kp_val hdef hsz (Below.refl _ _)
    · intro G wx fr hway _ hs hdef hsz
      have s5 : fr.tmps[5]? = some (.pointer (some ⟨w2.heap.size, 0, none⟩)) := hs.1
      clear hs
      refine ⟨?_⟩
      refine wpList_load_blk rfl 23 (.tmp 5) rfl (way_blk hway hx3 (by first | exact hx3.lt | omega) (by simp [heldBy, Knd.blockOf])) (by rw [HSW.out]; exact hW) (by simp [Act.eval, s5]) ?_
      refine wpList_nil ?_
      exact kp_val hdef hsz (Below.refl _ _)
    · intro G wx fr hway _ hs hdef hsz
      have s20 : fr.tmps[20]? = some (.agg (wcells a)) := hs.1
      have s21 : fr.tmps[21]? = some (.agg (wcells c)) := hs.2.1
      clear hs
      refine ⟨?_⟩
      go_wp2_with fail
      refine (C38.out wx).mono ?_
      rintro e w2 ⟨rfl, hb2⟩
      go_wp2
      exact kp_post hsz hb2
    · intro G wx fr hway _ hs hdef hsz
      have s19 : fr.tmps[19]? = some (.agg (wcells s30)) := hs.1
      have s22 : fr.tmps[22]? = some (.agg (wcells s39)) := hs.2.1
      clear hs
      refine ⟨?_⟩
      go_wp2_with fail
      refine (C40.out wx).mono ?_
      rintro e w2 ⟨rfl, hb2⟩
      go_wp2
      exact kp_post hsz hb2
    · intro G wx fr hway _ hs hdef hsz
      have s16 : fr.tmps[16]? = some (.agg (wcells s37)) := hs.1
      have s23 : fr.tmps[23]? = some (.agg (wcells s41)) := hs.2.1
      clear hs
      have hq := Q42.out
      refine ⟨?_⟩
      go_wp2
      exact kp_post hsz (Below.refl _ _)
    · intro G wx fr hway _ hs hdef hsz
      have s24 : fr.tmps[24]? = some (.bool true) := hs.1
      clear hs
      refine ⟨?_⟩
      go_wp2
      exact kp_post hsz (Below.refl _ _)
  · intro G V wa hval hway hmade hap
    replace hval : V 0 = .agg (wcells a) ∧ V 1 = .agg (wcells b) ∧ V 2 = .agg (wcells c) ∧ V 3 = .agg (wcells s35) ∧ V 4 = .agg (wcells s37) ∧ V 5 = .agg (wcells a) ∧ V 6 = .agg (wcells b) ∧ V 7 = .agg (wcells s30) ∧ V 8 = .agg (wcells a) ∧ V 9 = .agg (wcells c) ∧ V 10 = .agg (wcells s39) ∧ V 11 = .agg (wcells s41) ∧ V 12 = .bool true ∧ V 13 = .bool true ∧ True := hval
    replace hmade : True := hmade
    obtain ⟨e0, e1, e2, e3, e4, e5, e6, e7, e8, e9, e10, e11, e12, e13, -⟩ := hval
    obtain ⟨-⟩ := hmade
    clear hap
    simp only [fill, Act.put, e0, e1, e2, e3, e4, e5, e6, e7, e8, e9, e10, e11, e12, e13]
    clear e0 e1 e2 e3 e4 e5 e6 e7 e8 e9 e10 e11 e12 e13
    simp only [Exit.then]
    go_simp
    clear G V
    replace hx1 := way_blk hway hx1 hx1.lt (by simp [heldBy, Knd.blockOf])
    replace hx2 := way_blk hway hx2 hx2.lt (by simp [heldBy, Knd.blockOf])
    replace hx3 := way_blk hway hx3 hx3.lt (by simp [heldBy, Knd.blockOf])
    replace hB := hway.2.2
    clear hway
    go_wp2
    refine wp_region_made (w := wa) (B := w.heap.size) (wB := w) [.val (.agg (wcells a)), .val (.agg (wcells b)), .val (.agg (wcells s9)), .val (.agg (wcells b)), .val (.agg (wcells s24)), .val (.agg (wcells a)), .val (.bool true), .val (.bool true), .val (.agg (wcells a)), .val (.agg (wcells b)), .val (.agg (wcells s9)), .val (.agg (wcells b)), .val (.agg (wcells a)), .val (.agg (wcells s27)), .val (.bool true), .val (.bool true), .val (.bool true), .val (.agg (wcells a)), .val (.agg (wcells b)), .val (.agg (wcells s30)), .val (.agg (wcells b)), .val (.agg (wcells a)), .val (.agg (wcells s32)), .val (.bool true), .val (.bool true), .val (.bool true)] (by kernel_rfl) (by kernel_rfl) (by kernel_rfl) rfl (by kernel_rfl) rfl hB.size hB List.nodup_nil (fun g hg => nomatch hg) trivial ?_ ?_
    · refine ⟨?_, ?_, ?_, ?_, ?_, ?_, ?_, ?_, ?_, ?_, ?_, ?_, ?_, ?_, ?_, ?_, ?_, ?_, ?_, ?_, ?_, ?_, ?_, ?_, ?_, ?_, trivial⟩
      · intro G wx fr hway _ hs hdef hsz
        have s3 : fr.tmps[3]? = some (.pointer (some ⟨w.heap.size, 0, none⟩)) := hs.1
        clear hs
        refine ⟨?_⟩
        refine wpList_load_blk rfl 23 (.tmp 3) rfl (way_blk hway hx1 (by first | exact hx1.lt | omega) (by simp [heldBy, Knd.blockOf])) (by rw [HSW.out]; exact hW) (by simp [Act.eval, s3]) ?_
        refine wpList_nil ?_
        exact kp_val hdef hsz (Below.refl _ _)
      · intro G wx fr hway _ hs hdef hsz
        have s4 : fr.tmps[4]? = some (.pointer (some ⟨w1.heap.size, 0, none⟩)) := hs.1
        clear hs
        refine ⟨?_⟩
        refine wpList_load_blk rfl 23 (.tmp 4) rfl (way_blk hway hx2 (by first | exact hx2.lt | omega) (by simp [heldBy, Knd.blockOf])) (by rw [HSW.out]; exact hW) (by simp [Act.eval, s4]) ?_
        refine wpList_nil ?_
        exact kp_val hdef hsz (Below.refl _ _)
      · intro G wx fr hway _ hs hdef hsz
        have s25 : fr.tmps[25]? = some (.agg (wcells a)) := hs.1
        have s26 : fr.tmps[26]? = some (.agg (wcells b)) := hs.2.1
        clear hs
        refine ⟨?_⟩
        go_wp2_with fail
        refine (C8.out wx).mono ?_
        rintro e w2 ⟨rfl, hb2⟩
        go_wp2
        exact kp_post hsz hb2
      · intro G wx fr hway _ hs hdef hsz
        have s4 : fr.tmps[4]? = some (.pointer (some ⟨w1.heap.size, 0, none⟩)) := hs.1
        clear hs
        refine ⟨?_⟩
        refine wpList_load_blk rfl 23 (.tmp 4) rfl (way_blk hway hx2 (by first | exact hx2.lt | omega) (by simp [heldBy, Knd.blockOf])) (by rw [HSW.out]; exact hW) (by simp [Act.eval, s4]) ?_
        refine wpList_nil ?_
        exact kp_val hdef hsz (Below.refl _ _)
      · intro G wx fr hway _ hs hdef hsz
        have s27 : fr.tmps[27]? = some (.agg (wcells s9)) := hs.1
        have s28 : fr.tmps[28]? = some (.agg (wcells b)) := hs.2.1
        clear hs
        refine ⟨?_⟩
        go_wp2_with fail
        refine (C23.out wx).mono ?_
        rintro e w2 ⟨rfl, hb2⟩
        go_wp2
        exact kp_post hsz hb2
      · intro G wx fr hway _ hs hdef hsz
        have s3 : fr.tmps[3]? = some (.pointer (some ⟨w.heap.size, 0, none⟩)) := hs.1
        clear hs
        refine ⟨?_⟩
        refine wpList_load_blk rfl 23 (.tmp 3) rfl (way_blk hway hx1 (by first | exact hx1.lt | omega) (by simp [heldBy, Knd.blockOf])) (by rw [HSW.out]; exact hW) (by simp [Act.eval, s3]) ?_
        refine wpList_nil ?_
        exact kp_val hdef hsz (Below.refl _ _)
      · intro G wx fr hway _ hs hdef hsz
        have s29 : fr.tmps[29]? = some (.agg (wcells s24)) := hs.1
        have s30 : fr.tmps[30]? = some (.agg (wcells a)) := hs.2.1
        clear hs
        have hq := Q25.out
        refine ⟨?_⟩
        go_wp2
        exact kp_post hsz (Below.refl _ _)
      · intro G wx fr hway _ hs hdef hsz
        have s31 : fr.tmps[31]? = some (.bool true) := hs.1
        clear hs
        refine ⟨?_⟩
        go_wp2
        exact kp_post hsz (Below.refl _ _)
      · intro G wx fr hway _ hs hdef hsz
        have s3 : fr.tmps[3]? = some (.pointer (some ⟨w.heap.size, 0, none⟩)) := hs.1
        have s32 : fr.tmps[32]? = some (.bool true) := hs.2.1
        clear hs
        refine ⟨?_⟩
        refine wpList_load_want (by simp [Region.wanted, yielded, *]) 23 (.tmp 3) rfl (way_blk hway hx1 (by first | exact hx1.lt | omega) (by simp [heldBy, Knd.blockOf])) (by rw [HSW.out]; exact hW) (by simp [Act.eval, s3]) ?_
        refine wpList_nil ?_
        exact kp_val hdef hsz (Below.refl _ _)
      · intro G wx fr hway _ hs hdef hsz
        have s4 : fr.tmps[4]? = some (.pointer (some ⟨w1.heap.size, 0, none⟩)) := hs.1
        have s32 : fr.tmps[32]? = some (.bool true) := hs.2.1
        clear hs
        refine ⟨?_⟩
        refine wpList_load_want (by simp [Region.wanted, yielded, *]) 23 (.tmp 4) rfl (way_blk hway hx2 (by first | exact hx2.lt | omega) (by simp [heldBy, Knd.blockOf])) (by rw [HSW.out]; exact hW) (by simp [Act.eval, s4]) ?_
        refine wpList_nil ?_
        exact kp_val hdef hsz (Below.refl _ _)
      · intro G wx fr hway _ hs hdef hsz
        have s33 : fr.tmps[33]? = some (.agg (wcells a)) := hs.1
        have s34 : fr.tmps[34]? = some (.agg (wcells b)) := hs.2.1
        have s32 : fr.tmps[32]? = some (.bool true) := hs.2.2.1
        clear hs
        refine ⟨?_⟩
        go_wp2_with fail
        refine (C8.out wx).mono ?_
        rintro e w2 ⟨rfl, hb2⟩
        go_wp2
        exact kp_post hsz hb2
      · intro G wx fr hway _ hs hdef hsz
        have s4 : fr.tmps[4]? = some (.pointer (some ⟨w1.heap.size, 0, none⟩)) := hs.1
        have s32 : fr.tmps[32]? = some (.bool true) := hs.2.1
        clear hs
        refine ⟨?_⟩
        refine wpList_load_want (by simp [Region.wanted, yielded, *]) 23 (.tmp 4) rfl (way_blk hway hx2 (by first | exact hx2.lt | omega) (by simp [heldBy, Knd.blockOf])) (by rw [HSW.out]; exact hW) (by simp [Act.eval, s4]) ?_
        refine wpList_nil ?_
        exact kp_val hdef hsz (Below.refl _ _)
      · intro G wx fr hway _ hs hdef hsz
        have s3 : fr.tmps[3]? = some (.pointer (some ⟨w.heap.size, 0, none⟩)) := hs.1
        have s32 : fr.tmps[32]? = some (.bool true) := hs.2.1
        clear hs
        refine ⟨?_⟩
        refine wpList_load_want (by simp [Region.wanted, yielded, *]) 23 (.tmp 3) rfl (way_blk hway hx1 (by first | exact hx1.lt | omega) (by simp [heldBy, Knd.blockOf])) (by rw [HSW.out]; exact hW) (by simp [Act.eval, s3]) ?_
        refine wpList_nil ?_
        exact kp_val hdef hsz (Below.refl _ _)
      · intro G wx fr hway _ hs hdef hsz
        have s36 : fr.tmps[36]? = some (.agg (wcells b)) := hs.1
        have s37 : fr.tmps[37]? = some (.agg (wcells a)) := hs.2.1
        have s32 : fr.tmps[32]? = some (.bool true) := hs.2.2.1
        clear hs
        refine ⟨?_⟩
        go_wp2_with fail
        refine (C26.out wx).mono ?_
        rintro e w2 ⟨rfl, hb2⟩
        go_wp2
        exact kp_post hsz hb2
      · intro G wx fr hway _ hs hdef hsz
        have s35 : fr.tmps[35]? = some (.agg (wcells s9)) := hs.1
        have s38 : fr.tmps[38]? = some (.agg (wcells s27)) := hs.2.1
        have s32 : fr.tmps[32]? = some (.bool true) := hs.2.2.1
        clear hs
        have hq := Q28.out
        refine ⟨?_⟩
        go_wp2
        exact kp_post hsz (Below.refl _ _)
      · intro G wx fr hway _ hs hdef hsz
        have s32 : fr.tmps[32]? = some (.bool true) := hs.1
        have s39 : fr.tmps[39]? = some (.bool true) := hs.2.1
        clear hs
        refine ⟨?_⟩
        go_wp2
        exact kp_post hsz (Below.refl _ _)
      · intro G wx fr hway _ hs hdef hsz
        have s40 : fr.tmps[40]? = some (.bool true) := hs.1
        clear hs
        refine ⟨?_⟩
        go_wp2
        exact kp_post hsz (Below.refl _ _)
      · intro G wx fr hway _ hs hdef hsz
        have s3 : fr.tmps[3]? = some (.pointer (some ⟨w.heap.size, 0, none⟩)) := hs.1
        have s41 : fr.tmps[41]? = some (.bool true) := hs.2.1
        clear hs
        refine ⟨?_⟩
        refine wpList_load_want (by simp [Region.wanted, yielded, *]) 23 (.tmp 3) rfl (way_blk hway hx1 (by first | exact hx1.lt | omega) (by simp [heldBy, Knd.blockOf])) (by rw [HSW.out]; exact hW) (by simp [Act.eval, s3]) ?_
        refine wpList_nil ?_
        exact kp_val hdef hsz (Below.refl _ _)
      · intro G wx fr hway _ hs hdef hsz
        have s4 : fr.tmps[4]? = some (.pointer (some ⟨w1.heap.size, 0, none⟩)) := hs.1
        have s41 : fr.tmps[41]? = some (.bool true) := hs.2.1
        clear hs
        refine ⟨?_⟩
        refine wpList_load_want (by simp [Region.wanted, yielded, *]) 23 (.tmp 4) rfl (way_blk hway hx2 (by first | exact hx2.lt | omega) (by simp [heldBy, Knd.blockOf])) (by rw [HSW.out]; exact hW) (by simp [Act.eval, s4]) ?_
        refine wpList_nil ?_
        exact kp_val hdef hsz (Below.refl _ _)
      · intro G wx fr hway _ hs hdef hsz
        have s42 : fr.tmps[42]? = some (.agg (wcells a)) := hs.1
        have s43 : fr.tmps[43]? = some (.agg (wcells b)) := hs.2.1
        have s41 : fr.tmps[41]? = some (.bool true) := hs.2.2.1
        clear hs
        refine ⟨?_⟩
        go_wp2_with fail
        refine (C29.out wx).mono ?_
        rintro e w2 ⟨rfl, hb2⟩
        go_wp2
        exact kp_post hsz hb2
      · intro G wx fr hway _ hs hdef hsz
        have s4 : fr.tmps[4]? = some (.pointer (some ⟨w1.heap.size, 0, none⟩)) := hs.1
        have s41 : fr.tmps[41]? = some (.bool true) := hs.2.1
        clear hs
        refine ⟨?_⟩
        refine wpList_load_want (by simp [Region.wanted, yielded, *]) 23 (.tmp 4) rfl (way_blk hway hx2 (by first | exact hx2.lt | omega) (by simp [heldBy, Knd.blockOf])) (by rw [HSW.out]; exact hW) (by simp [Act.eval, s4]) ?_
        refine wpList_nil ?_
        exact kp_val hdef hsz (Below.refl _ _)
      · intro G wx fr hway _ hs hdef hsz
        have s3 : fr.tmps[3]? = some (.pointer (some ⟨w.heap.size, 0, none⟩)) := hs.1
        have s41 : fr.tmps[41]? = some (.bool true) := hs.2.1
        clear hs
        refine ⟨?_⟩
        refine wpList_load_want (by simp [Region.wanted, yielded, *]) 23 (.tmp 3) rfl (way_blk hway hx1 (by first | exact hx1.lt | omega) (by simp [heldBy, Knd.blockOf])) (by rw [HSW.out]; exact hW) (by simp [Act.eval, s3]) ?_
        refine wpList_nil ?_
        exact kp_val hdef hsz (Below.refl _ _)
      · intro G wx fr hway _ hs hdef hsz
        have s45 : fr.tmps[45]? = some (.agg (wcells b)) := hs.1
        have s46 : fr.tmps[46]? = some (.agg (wcells a)) := hs.2.1
        have s41 : fr.tmps[41]? = some (.bool true) := hs.2.2.1
        clear hs
        refine ⟨?_⟩
        go_wp2_with fail
        refine (C31.out wx).mono ?_
        rintro e w2 ⟨rfl, hb2⟩
        go_wp2
        exact kp_post hsz hb2
      · intro G wx fr hway _ hs hdef hsz
        have s44 : fr.tmps[44]? = some (.agg (wcells s30)) := hs.1
        have s47 : fr.tmps[47]? = some (.agg (wcells s32)) := hs.2.1
        have s41 : fr.tmps[41]? = some (.bool true) := hs.2.2.1
        clear hs
        have hq := Q33.out
        refine ⟨?_⟩
        go_wp2
        exact kp_post hsz (Below.refl _ _)
      · intro G wx fr hway _ hs hdef hsz
        have s41 : fr.tmps[41]? = some (.bool true) := hs.1
        have s48 : fr.tmps[48]? = some (.bool true) := hs.2.1
        clear hs
        refine ⟨?_⟩
        go_wp2
        exact kp_post hsz (Below.refl _ _)
      · intro G wx fr hway _ hs hdef hsz
        have s49 : fr.tmps[49]? = some (.bool true) := hs.1
        clear hs
        refine ⟨?_⟩
        go_wp2
        exact kp_post hsz (Below.refl _ _)
    · intro G V wb hval hway hmade hap
      replace hval : V 0 = .agg (wcells a) ∧ V 1 = .agg (wcells b) ∧ V 2 = .agg (wcells s9) ∧ V 3 = .agg (wcells b) ∧ V 4 = .agg (wcells s24) ∧ V 5 = .agg (wcells a) ∧ V 6 = .bool true ∧ V 7 = .bool true ∧ V 8 = .agg (wcells a) ∧ V 9 = .agg (wcells b) ∧ V 10 = .agg (wcells s9) ∧ V 11 = .agg (wcells b) ∧ V 12 = .agg (wcells a) ∧ V 13 = .agg (wcells s27) ∧ V 14 = .bool true ∧ V 15 = .bool true ∧ V 16 = .bool true ∧ V 17 = .agg (wcells a) ∧ V 18 = .agg (wcells b) ∧ V 19 = .agg (wcells s30) ∧ V 20 = .agg (wcells b) ∧ V 21 = .agg (wcells a) ∧ V 22 = .agg (wcells s32) ∧ V 23 = .bool true ∧ V 24 = .bool true ∧ V 25 = .bool true ∧ True := hval
      replace hmade : True := hmade
      obtain ⟨e0, e1, e2, e3, e4, e5, e6, e7, e8, e9, e10, e11, e12, e13, e14, e15, e16, e17, e18, e19, e20, e21, e22, e23, e24, e25, -⟩ := hval
      obtain ⟨-⟩ := hmade
      clear hap
      simp only [fill, Act.put, e0, e1, e2, e3, e4, e5, e6, e7, e8, e9, e10, e11, e12, e13, e14, e15, e16, e17, e18, e19, e20, e21, e22, e23, e24, e25]
      clear e0 e1 e2 e3 e4 e5 e6 e7 e8 e9 e10 e11 e12 e13 e14 e15 e16 e17 e18 e19 e20 e21 e22 e23 e24 e25
      simp only [Exit.then]
      go_simp
      clear G V
      replace hx1 := way_blk hway hx1 hx1.lt (by simp [heldBy, Knd.blockOf])
      replace hx2 := way_blk hway hx2 hx2.lt (by simp [heldBy, Knd.blockOf])
      replace hx3 := way_blk hway hx3 hx3.lt (by simp [heldBy, Knd.blockOf])
      replace hB := hway.2.2
      clear hway
      go_wp2
      refine wp_region_made (w := wb) (B := w.heap.size) (wB := w) [.val (.agg (wcells a)), .val (.agg (wcells b)), .val (.agg (wcells s3)), .val (.agg (wcells a)), .val (.agg (wcells b)), .val (.agg (wcells s5)), .val (.agg (wcells s7)), .val (.agg (wcells a)), .val (.agg (wcells b)), .val (.agg (wcells s9)), .val (.bool true), .val (.bool true), .val (.agg (wcells a)), .val (.agg (wcells b)), .val (.agg (wcells s12)), .val (.agg (wcells b)), .val (.agg (wcells s14)), .val (.agg (wcells a)), .val (.bool true), .val (.bool true), .val (.bool true), .val (.agg (wcells a)), .val (.agg (wcells a)), .val (.agg (wcells s17)), .val (.agg (wcells s19)), .val (.agg (wcells s21)), .val (.bool true), .val (.bool true), .val (.bool true)] (by kernel_rfl) (by kernel_rfl) (by kernel_rfl) rfl (by kernel_rfl) rfl hB.size hB List.nodup_nil (fun g hg => nomatch hg) trivial ?_ ?_
      · refine ⟨?_, ?_, ?_, ?_, ?_, ?_, ?_, ?_, ?_, ?_, ?_, ?_, ?_, ?_, ?_, ?_, ?_, ?_, ?_, ?_, ?_, ?_, ?_, ?_, ?_, ?_, ?_, ?_, ?_, trivial⟩
        · intro G wx fr hway _ hs hdef hsz
          have s3 : fr.tmps[3]? = some (.pointer (some ⟨w.heap.size, 0, none⟩)) := hs.1
          clear hs
          refine ⟨?_⟩
          refine wpList_load_blk rfl 23 (.tmp 3) rfl (way_blk hway hx1 (by first | exact hx1.lt | omega) (by simp [heldBy, Knd.blockOf])) (by rw [HSW.out]; exact hW) (by simp [Act.eval, s3]) ?_
          refine wpList_nil ?_
          exact kp_val hdef hsz (Below.refl _ _)
        · intro G wx fr hway _ hs hdef hsz
          have s4 : fr.tmps[4]? = some (.pointer (some ⟨w1.heap.size, 0, none⟩)) := hs.1
          clear hs
          refine ⟨?_⟩
          refine wpList_load_blk rfl 23 (.tmp 4) rfl (way_blk hway hx2 (by first | exact hx2.lt | omega) (by simp [heldBy, Knd.blockOf])) (by rw [HSW.out]; exact hW) (by simp [Act.eval, s4]) ?_
          refine wpList_nil ?_
          exact kp_val hdef hsz (Below.refl _ _)
        · intro G wx fr hway _ hs hdef hsz
          have s50 : fr.tmps[50]? = some (.agg (wcells a)) := hs.1
          have s51 : fr.tmps[51]? = some (.agg (wcells b)) := hs.2.1
          clear hs
          refine ⟨?_⟩
          go_wp2_with fail
          refine (C2.out wx).mono ?_
          rintro e w2 ⟨rfl, hb2⟩
          go_wp2
          exact kp_post hsz hb2
        · intro G wx fr hway _ hs hdef hsz
          have s3 : fr.tmps[3]? = some (.pointer (some ⟨w.heap.size, 0, none⟩)) := hs.1
          clear hs
          refine ⟨?_⟩
          refine wpList_load_blk rfl 23 (.tmp 3) rfl (way_blk hway hx1 (by first | exact hx1.lt | omega) (by simp [heldBy, Knd.blockOf])) (by rw [HSW.out]; exact hW) (by simp [Act.eval, s3]) ?_
          refine wpList_nil ?_
          exact kp_val hdef hsz (Below.refl _ _)
        · intro G wx fr hway _ hs hdef hsz
          have s4 : fr.tmps[4]? = some (.pointer (some ⟨w1.heap.size, 0, none⟩)) := hs.1
          clear hs
          refine ⟨?_⟩
          refine wpList_load_blk rfl 23 (.tmp 4) rfl (way_blk hway hx2 (by first | exact hx2.lt | omega) (by simp [heldBy, Knd.blockOf])) (by rw [HSW.out]; exact hW) (by simp [Act.eval, s4]) ?_
          refine wpList_nil ?_
          exact kp_val hdef hsz (Below.refl _ _)
        · intro G wx fr hway _ hs hdef hsz
          have s53 : fr.tmps[53]? = some (.agg (wcells a)) := hs.1
          have s54 : fr.tmps[54]? = some (.agg (wcells b)) := hs.2.1
          clear hs
          refine ⟨?_⟩
          go_wp2_with fail
          refine (C4.out wx).mono ?_
          rintro e w2 ⟨rfl, hb2⟩
          go_wp2
          exact kp_post hsz hb2
        · intro G wx fr hway _ hs hdef hsz
          have s52 : fr.tmps[52]? = some (.agg (wcells s3)) := hs.1
          have s55 : fr.tmps[55]? = some (.agg (wcells s5)) := hs.2.1
          clear hs
          refine ⟨?_⟩
          go_wp2_with fail
          refine (C6.out wx).mono ?_
          rintro e w2 ⟨rfl, hb2⟩
          go_wp2
          exact kp_post hsz hb2
        · intro G wx fr hway _ hs hdef hsz
          have s3 : fr.tmps[3]? = some (.pointer (some ⟨w.heap.size, 0, none⟩)) := hs.1
          clear hs
          refine ⟨?_⟩
          refine wpList_load_blk rfl 23 (.tmp 3) rfl (way_blk hway hx1 (by first | exact hx1.lt | omega) (by simp [heldBy, Knd.blockOf])) (by rw [HSW.out]; exact hW) (by simp [Act.eval, s3]) ?_
          refine wpList_nil ?_
          exact kp_val hdef hsz (Below.refl _ _)
        · intro G wx fr hway _ hs hdef hsz
          have s4 : fr.tmps[4]? = some (.pointer (some ⟨w1.heap.size, 0, none⟩)) := hs.1
          clear hs
          refine ⟨?_⟩
          refine wpList_load_blk rfl 23 (.tmp 4) rfl (way_blk hway hx2 (by first | exact hx2.lt | omega) (by simp [heldBy, Knd.blockOf])) (by rw [HSW.out]; exact hW) (by simp [Act.eval, s4]) ?_
          refine wpList_nil ?_
          exact kp_val hdef hsz (Below.refl _ _)
        · intro G wx fr hway _ hs hdef hsz
          have s57 : fr.tmps[57]? = some (.agg (wcells a)) := hs.1
          have s58 : fr.tmps[58]? = some (.agg (wcells b)) := hs.2.1
          clear hs
          refine ⟨?_⟩
          go_wp2_with fail
          refine (C8.out wx).mono ?_
          rintro e w2 ⟨rfl, hb2⟩
          go_wp2
          exact kp_post hsz hb2
        · intro G wx fr hway _ hs hdef hsz
          have s56 : fr.tmps[56]? = some (.agg (wcells s7)) := hs.1
          have s59 : fr.tmps[59]? = some (.agg (wcells s9)) := hs.2.1
          clear hs
          have hq := Q10.out
          refine ⟨?_⟩
          go_wp2
          exact kp_post hsz (Below.refl _ _)
        · intro G wx fr hway _ hs hdef hsz
          have s60 : fr.tmps[60]? = some (.bool true) := hs.1
          clear hs
          refine ⟨?_⟩
          go_wp2
          exact kp_post hsz (Below.refl _ _)
        · intro G wx fr hway _ hs hdef hsz
          have s3 : fr.tmps[3]? = some (.pointer (some ⟨w.heap.size, 0, none⟩)) := hs.1
          have s61 : fr.tmps[61]? = some (.bool true) := hs.2.1
          clear hs
          refine ⟨?_⟩
          refine wpList_load_want (by simp [Region.wanted, yielded, *]) 23 (.tmp 3) rfl (way_blk hway hx1 (by first | exact hx1.lt | omega) (by simp [heldBy, Knd.blockOf])) (by rw [HSW.out]; exact hW) (by simp [Act.eval, s3]) ?_
          refine wpList_nil ?_
          exact kp_val hdef hsz (Below.refl _ _)
        · intro G wx fr hway _ hs hdef hsz
          have s4 : fr.tmps[4]? = some (.pointer (some ⟨w1.heap.size, 0, none⟩)) := hs.1
          have s61 : fr.tmps[61]? = some (.bool true) := hs.2.1
          clear hs
          refine ⟨?_⟩
          refine wpList_load_want (by simp [Region.wanted, yielded, *]) 23 (.tmp 4) rfl (way_blk hway hx2 (by first | exact hx2.lt | omega) (by simp [heldBy, Knd.blockOf])) (by rw [HSW.out]; exact hW) (by simp [Act.eval, s4]) ?_
          refine wpList_nil ?_
          exact kp_val hdef hsz (Below.refl _ _)
        · intro G wx fr hway _ hs hdef hsz
          have s62 : fr.tmps[62]? = some (.agg (wcells a)) := hs.1
          have s63 : fr.tmps[63]? = some (.agg (wcells b)) := hs.2.1
          have s61 : fr.tmps[61]? = some (.bool true) := hs.2.2.1
          clear hs
          refine ⟨?_⟩
          go_wp2_with fail
          refine (C11.out wx).mono ?_
          rintro e w2 ⟨rfl, hb2⟩
          go_wp2
          exact kp_post hsz hb2
        · intro G wx fr hway _ hs hdef hsz
          have s4 : fr.tmps[4]? = some (.pointer (some ⟨w1.heap.size, 0, none⟩)) := hs.1
          have s61 : fr.tmps[61]? = some (.bool true) := hs.2.1
          clear hs
          refine ⟨?_⟩
          refine wpList_load_want (by simp [Region.wanted, yielded, *]) 23 (.tmp 4) rfl (way_blk hway hx2 (by first | exact hx2.lt | omega) (by simp [heldBy, Knd.blockOf])) (by rw [HSW.out]; exact hW) (by simp [Act.eval, s4]) ?_
          refine wpList_nil ?_
          exact kp_val hdef hsz (Below.refl _ _)
        · intro G wx fr hway _ hs hdef hsz
          have s64 : fr.tmps[64]? = some (.agg (wcells s12)) := hs.1
          have s65 : fr.tmps[65]? = some (.agg (wcells b)) := hs.2.1
          have s61 : fr.tmps[61]? = some (.bool true) := hs.2.2.1
          clear hs
          refine ⟨?_⟩
          go_wp2_with fail
          refine (C13.out wx).mono ?_
          rintro e w2 ⟨rfl, hb2⟩
          go_wp2
          exact kp_post hsz hb2
        · intro G wx fr hway _ hs hdef hsz
          have s3 : fr.tmps[3]? = some (.pointer (some ⟨w.heap.size, 0, none⟩)) := hs.1
          have s61 : fr.tmps[61]? = some (.bool true) := hs.2.1
          clear hs
          refine ⟨?_⟩
          refine wpList_load_want (by simp [Region.wanted, yielded, *]) 23 (.tmp 3) rfl (way_blk hway hx1 (by first | exact hx1.lt | omega) (by simp [heldBy, Knd.blockOf])) (by rw [HSW.out]; exact hW) (by simp [Act.eval, s3]) ?_
          refine wpList_nil ?_
          exact kp_val hdef hsz (Below.refl _ _)
        · intro G wx fr hway _ hs hdef hsz
          have s66 : fr.tmps[66]? = some (.agg (wcells s14)) := hs.1
          have s67 : fr.tmps[67]? = some (.agg (wcells a)) := hs.2.1
          have s61 : fr.tmps[61]? = some (.bool true) := hs.2.2.1
          clear hs
          have hq := Q15.out
          refine ⟨?_⟩
          go_wp2
          exact kp_post hsz (Below.refl _ _)
        · intro G wx fr hway _ hs hdef hsz
          have s61 : fr.tmps[61]? = some (.bool true) := hs.1
          have s68 : fr.tmps[68]? = some (.bool true) := hs.2.1
          clear hs
          refine ⟨?_⟩
          go_wp2
          exact kp_post hsz (Below.refl _ _)
        · intro G wx fr hway _ hs hdef hsz
          have s69 : fr.tmps[69]? = some (.bool true) := hs.1
          clear hs
          refine ⟨?_⟩
          go_wp2
          exact kp_post hsz (Below.refl _ _)
        · intro G wx fr hway _ hs hdef hsz
          have s3 : fr.tmps[3]? = some (.pointer (some ⟨w.heap.size, 0, none⟩)) := hs.1
          have s70 : fr.tmps[70]? = some (.bool true) := hs.2.1
          clear hs
          refine ⟨?_⟩
          refine wpList_load_want (by simp [Region.wanted, yielded, *]) 23 (.tmp 3) rfl (way_blk hway hx1 (by first | exact hx1.lt | omega) (by simp [heldBy, Knd.blockOf])) (by rw [HSW.out]; exact hW) (by simp [Act.eval, s3]) ?_
          refine wpList_nil ?_
          exact kp_val hdef hsz (Below.refl _ _)
        · intro G wx fr hway _ hs hdef hsz
          have s3 : fr.tmps[3]? = some (.pointer (some ⟨w.heap.size, 0, none⟩)) := hs.1
          have s70 : fr.tmps[70]? = some (.bool true) := hs.2.1
          clear hs
          refine ⟨?_⟩
          refine wpList_load_want (by simp [Region.wanted, yielded, *]) 23 (.tmp 3) rfl (way_blk hway hx1 (by first | exact hx1.lt | omega) (by simp [heldBy, Knd.blockOf])) (by rw [HSW.out]; exact hW) (by simp [Act.eval, s3]) ?_
          refine wpList_nil ?_
          exact kp_val hdef hsz (Below.refl _ _)
        · intro G wx fr hway _ hs hdef hsz
          have s72 : fr.tmps[72]? = some (.agg (wcells a)) := hs.1
          have s70 : fr.tmps[70]? = some (.bool true) := hs.2.1
          clear hs
          refine ⟨?_⟩
          go_wp2_with fail
          refine (C16.out wx).mono ?_
          rintro e w2 ⟨rfl, hb2⟩
          go_wp2
          exact kp_post hsz hb2
        · intro G wx fr hway _ hs hdef hsz
          have s71 : fr.tmps[71]? = some (.agg (wcells a)) := hs.1
          have s73 : fr.tmps[73]? = some (.agg (wcells s17)) := hs.2.1
          have s70 : fr.tmps[70]? = some (.bool true) := hs.2.2.1
          clear hs
          refine ⟨?_⟩
          go_wp2_with fail
          refine (C18.out wx).mono ?_
          rintro e w2 ⟨rfl, hb2⟩
          go_wp2
          exact kp_post hsz hb2
        · intro G wx fr hway _ hs hdef hsz
          have s70 : fr.tmps[70]? = some (.bool true) := hs.1
          clear hs
          refine ⟨?_⟩
          go_wp2_with fail
          refine (C20.out wx).mono ?_
          rintro e w2 ⟨rfl, hb2⟩
          go_wp2
          exact kp_post hsz hb2
        · intro G wx fr hway _ hs hdef hsz
          have s74 : fr.tmps[74]? = some (.agg (wcells s19)) := hs.1
          have s75 : fr.tmps[75]? = some (.agg (wcells s21)) := hs.2.1
          have s70 : fr.tmps[70]? = some (.bool true) := hs.2.2.1
          clear hs
          have hq := Q22.out
          refine ⟨?_⟩
          go_wp2
          exact kp_post hsz (Below.refl _ _)
        · intro G wx fr hway _ hs hdef hsz
          have s70 : fr.tmps[70]? = some (.bool true) := hs.1
          have s76 : fr.tmps[76]? = some (.bool true) := hs.2.1
          clear hs
          refine ⟨?_⟩
          go_wp2
          exact kp_post hsz (Below.refl _ _)
        · intro G wx fr hway _ hs hdef hsz
          have s77 : fr.tmps[77]? = some (.bool true) := hs.1
          clear hs
          refine ⟨?_⟩
          go_wp2
          exact kp_post hsz (Below.refl _ _)
      · intro G V wc hval hway hmade hap
        replace hval : V 0 = .agg (wcells a) ∧ V 1 = .agg (wcells b) ∧ V 2 = .agg (wcells s3) ∧ V 3 = .agg (wcells a) ∧ V 4 = .agg (wcells b) ∧ V 5 = .agg (wcells s5) ∧ V 6 = .agg (wcells s7) ∧ V 7 = .agg (wcells a) ∧ V 8 = .agg (wcells b) ∧ V 9 = .agg (wcells s9) ∧ V 10 = .bool true ∧ V 11 = .bool true ∧ V 12 = .agg (wcells a) ∧ V 13 = .agg (wcells b) ∧ V 14 = .agg (wcells s12) ∧ V 15 = .agg (wcells b) ∧ V 16 = .agg (wcells s14) ∧ V 17 = .agg (wcells a) ∧ V 18 = .bool true ∧ V 19 = .bool true ∧ V 20 = .bool true ∧ V 21 = .agg (wcells a) ∧ V 22 = .agg (wcells a) ∧ V 23 = .agg (wcells s17) ∧ V 24 = .agg (wcells s19) ∧ V 25 = .agg (wcells s21) ∧ V 26 = .bool true ∧ V 27 = .bool true ∧ V 28 = .bool true ∧ True := hval
        replace hmade : True := hmade
        obtain ⟨e0, e1, e2, e3, e4, e5, e6, e7, e8, e9, e10, e11, e12, e13, e14, e15, e16, e17, e18, e19, e20, e21, e22, e23, e24, e25, e26, e27, e28, -⟩ := hval
        obtain ⟨-⟩ := hmade
        clear hap
        simp only [fill, Act.put, e0, e1, e2, e3, e4, e5, e6, e7, e8, e9, e10, e11, e12, e13, e14, e15, e16, e17, e18, e19, e20, e21, e22, e23, e24, e25, e26, e27, e28]
        clear e0 e1 e2 e3 e4 e5 e6 e7 e8 e9 e10 e11 e12 e13 e14 e15 e16 e17 e18 e19 e20 e21 e22 e23 e24 e25 e26 e27 e28
        simp only [Exit.then]
        go_simp
        clear G V
        have hBz := hway.2.2
        clear hway
        go_wp2
        go_ret
        exact ⟨rfl, hBz⟩
      
    
open Go.ChangeShapes Go.WideShapes Go.ChangeAt

set_option maxRecDepth 100000 in
theorem lifted (os : Os) (started : os.Started) (H : Type) (enc : TypeId × Value → H) :
    ReturnsInHanded {} Try.checked os 6 .any (Rows.wordRulesSpec.pre6 enc Try.prog Try.f6 Rows.wordRulesRow.domain false) (Rows.wordRulesSpec.post enc Try.prog Try.f6 false true false false) := by
  refine law_lift (C := Try.checked) (ts := [23, 23, 23]) (tb := 4) (by kernel_rfl) started (by kernel_rfl) Try.func6
    (ChangeSpec.witness6 (enc := enc) (C := Try.checked) false ⟨#[], #[.agg (Array.replicate 32 (.int .u8 0)), .agg (Array.replicate 32 (.int .u8 0)), .agg (Array.replicate 32 (.int .u8 0))], []⟩ 8 (by kernel_rfl) (by kernel_rfl) (by kernel_rfl) (by kernel_rfl))
    (by kernel_rfl) (by kernel_rfl) (by kernel_rfl) (by kernel_rfl) Try.underlying4 rfl (fun ds h => by match ds, h with | [_, _, _], _ => rfl) ?_
  intro W vs hl h
  match vs, hl with
  | [v0, v1, v2], _ =>
    have ha := h 0 _ v0 rfl rfl
    have hb := h 1 _ v1 rfl rfl
    have hc := h 2 _ v2 rfl rfl
    obtain ⟨a, ha', rfl⟩ := arg_word ha
    obtain ⟨b, hb', rfl⟩ := arg_word hb
    obtain ⟨c, hc', rfl⟩ := arg_word hc
    exact walk a b c W ha' hb' hc'

theorem over : Rows.wordRulesRow.holds Try.pinned (OpenSpec.ofChange Rows.wordRulesSpec) :=
  OpenClaim.holds_of_wide 6 Try.f6 rfl rfl rfl rfl rfl rfl rfl ⟨rfl, rfl, rfl, rfl, rfl⟩ rfl rfl rfl rfl rfl (by kernel_rfl) Try.func6 (by kernel_rfl)
    (of_decide_eq_true (by kernel_rfl)) (by unfold Func.isWrapper; first | (rw [if_pos (by decide +kernel)]; kernel_rfl) | (rw [if_neg (by decide +kernel)]; exact ⟨rfl, rfl⟩))
    (fun os started H enc _ => lifted os started H enc)
end Go.Proofs.Ytegnfklehgbooaa.WordRules
namespace Go.Proofs.Ytegnfklehgbooaa
theorem wordRules_holds : Rows.WordRulesSaid := WordRules.over
#print axioms wordRules_holds
end Go.Proofs.Ytegnfklehgbooaa
