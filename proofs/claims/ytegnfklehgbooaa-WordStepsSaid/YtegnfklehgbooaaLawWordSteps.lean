/- 'WordSteps' answers true at every input, and leaves what it was given. No condition. -/
import Derived.Test.YtegnfklehgbooaaWordAlive
import Derived.Test.YtegnfklehgbooaaWordArg
import Derived.Test.YtegnfklehgbooaaLaw
import Derived.Test.YtegnfklehgbooaaRows
namespace Go.Proofs.Ytegnfklehgbooaa.WordSteps
open Go Go.RowKit Go.Mun Go.Proofs

theorem pSteps {a : Nat} {m n : Int} (h0 : 0 ≤ m) (h1 : m ≤ 1152921504606846976) (h2 : 0 ≤ n) (h3 : n ≤ 1152921504606846976) : powN a (ofN (m + n)) = powN a (ofN m) * powN a (ofN n) % 2 ^ 256 := by
  obtain ⟨i, rfl⟩ := Int.eq_ofNat_of_zero_le h0
  obtain ⟨j, rfl⟩ := Int.eq_ofNat_of_zero_le h2
  have e : ((i : Int) + (j : Int)) = ((i + j : Nat) : Int) := by omega
  rw [e, ofN_nat i (by omega), ofN_nat j (by omega), ofN_nat (i + j) (by omega)]
  unfold powN
  rw [← Nat.mul_mod, Nat.pow_add]

set_option maxRecDepth 100000 in
set_option maxHeartbeats 4000000 in
theorem walk_no (a : Nat) (m n : Int) (w : World) (hc : m < 0 ∨ (0 ≤ m ∧ n < 0) ∨ (0 ≤ m ∧ 0 ≤ n ∧ 1152921504606846976 < m) ∨ (0 ≤ m ∧ 0 ≤ n ∧ m ≤ 1152921504606846976 ∧ 1152921504606846976 < n)) : Calls Try.prog 8 #[.agg (wcells a), .int .i64 m, .int .i64 n] w fun e w' => e = .returned (.bool true) ∧ Below w.heap.size w w' := by
  have hW := wordTy
  have CA := Lib.hid (fun w => alive1 w)
  rcases hc with h | ⟨h0, h⟩ | ⟨h0, h1, h⟩ | ⟨h0, h1, h2, h⟩
  all_goals
    go_enter Try.func8, Try.ntmps8
    go_wp2_with (first
      | ((with_reducible refine gd_box ?_); refine wpList_box_agg rfl _ (.tmp 0) rfl rfl ?_; intro w1 hx1 hb1 hl1)
      | (go_at_call 10; refine (CA.out _).mono ?_; rintro e w4 ⟨rfl, hb4⟩)
      | fail)
    go_ret
    exact ⟨rfl, below_step hb1 hb4⟩

set_option maxRecDepth 100000 in
set_option maxHeartbeats 4000000 in
theorem walk (a : Nat) (m n : Int) (w : World) (ha : a < 2 ^ 256) (h0 : 0 ≤ m) (h1 : m ≤ 1152921504606846976) (h2 : 0 ≤ n) (h3 : n ≤ 1152921504606846976) : Calls Try.prog 8 #[.agg (wcells a), .int .i64 m, .int .i64 n] w fun e w' => e = .returned (.bool true) ∧ Below w.heap.size w w' := by
  have hW := wordTy
  have HSW := Lib.hid wcells_size
  have C1 := Lib.hid (fun w => alive1 w)
  obtain ⟨s3, Es3⟩ : ∃ z, z = ofN (m + n) := ⟨_, rfl⟩
  have hs3 : s3 < 2 ^ 256 := by rw [Es3]; exact (ofN_lt _)
  have C2 := Lib.hid (fun w => Of_any (m + n) w (by omega) (by omega))
  rw [← Es3] at C2
  obtain ⟨s5, Es5⟩ : ∃ z, z = powN a s3 := ⟨_, rfl⟩
  have hs5 : s5 < 2 ^ 256 := by rw [Es5]; exact (powN_lt _ _)
  have C4 := Lib.hid (fun w => Exp_any a s3 w ha hs3)
  rw [← Es5] at C4
  obtain ⟨s7, Es7⟩ : ∃ z, z = ofN m := ⟨_, rfl⟩
  have hs7 : s7 < 2 ^ 256 := by rw [Es7]; exact (ofN_lt _)
  have C6 := Lib.hid (fun w => Of_any m w (by omega) (by omega))
  rw [← Es7] at C6
  obtain ⟨s9, Es9⟩ : ∃ z, z = powN a s7 := ⟨_, rfl⟩
  have hs9 : s9 < 2 ^ 256 := by rw [Es9]; exact (powN_lt _ _)
  have C8 := Lib.hid (fun w => Exp_any a s7 w ha hs7)
  rw [← Es9] at C8
  obtain ⟨s11, Es11⟩ : ∃ z, z = ofN n := ⟨_, rfl⟩
  have hs11 : s11 < 2 ^ 256 := by rw [Es11]; exact (ofN_lt _)
  have C10 := Lib.hid (fun w => Of_any n w (by omega) (by omega))
  rw [← Es11] at C10
  obtain ⟨s13, Es13⟩ : ∃ z, z = powN a s11 := ⟨_, rfl⟩
  have hs13 : s13 < 2 ^ 256 := by rw [Es13]; exact (powN_lt _ _)
  have C12 := Lib.hid (fun w => Exp_any a s11 w ha hs11)
  rw [← Es13] at C12
  obtain ⟨s15, Es15⟩ : ∃ z, z = s9 * s13 % 2 ^ 256 := ⟨_, rfl⟩
  have hs15 : s15 < 2 ^ 256 := by rw [Es15]; exact (Nat.mod_lt _ (by decide))
  have C14 := Lib.hid (fun w => Mul_any s9 s13 w hs9 hs13)
  rw [← Es15] at C14
  have Q16 := Lib.hid (fun w => eq_word s5 s15 hs5 hs15 w)
  rw [decide_eq_true (by subst_vars; exact pSteps h0 h1 h2 h3)] at Q16
  clear Es3 Es5 Es7 Es9 Es11 Es13 Es15 hs3 hs5 hs7 hs9 hs11 hs13 hs15
  have CA := C1
  go_enter Try.func8, Try.ntmps8
  go_wp2_with (first
    | ((with_reducible refine gd_box ?_); refine wpList_box_agg rfl _ (.tmp 0) rfl rfl ?_; intro w1 hx1 hb1 hl1)
    | (go_at_call 10; refine (CA.out _).mono ?_; rintro e w4 ⟨rfl, hb4⟩)
    | fail)
  replace hx1 := hx1.ext hb4
  have hB := below_step hb1 hb4
  clear hb1 hb4
  refine wp_region_made (w := w4) (B := w.heap.size) (wB := w) [.val (.agg (wcells a)), .val (.int .i64 m), .val (.int .i64 n), .val (.int .i64 (m + n)), .val (.agg (wcells s3)), .val (.agg (wcells s5)), .val (.agg (wcells a)), .val (.int .i64 m), .val (.agg (wcells s7)), .val (.agg (wcells s9)), .val (.agg (wcells a)), .val (.int .i64 n), .val (.agg (wcells s11)), .val (.agg (wcells s13)), .val (.agg (wcells s15)), .val (.bool true), .val (.bool true)] (by kernel_rfl) (by kernel_rfl) (by kernel_rfl) rfl (by kernel_rfl) rfl hB.size hB List.nodup_nil (fun g hg => nomatch hg) trivial ?_ ?_
  · refine ⟨?_, ?_, ?_, ?_, ?_, ?_, ?_, ?_, ?_, ?_, ?_, ?_, ?_, ?_, ?_, ?_, ?_, trivial⟩
    · intro G wx fr hway _ hs hdef hsz
      have s3 : fr.tmps[3]? = some (.pointer (some ⟨w.heap.size, 0, none⟩)) := hs.1
      clear hs
      refine ⟨?_⟩
      refine wpList_load_blk rfl 23 (.tmp 3) rfl (way_blk hway hx1 (by first | exact hx1.lt | omega) (by simp [heldBy, Knd.blockOf])) (by rw [HSW.out]; exact hW) (by simp [Act.eval, s3]) ?_
      refine wpList_nil ?_
      exact kp_val hdef hsz (Below.refl _ _)
    · intro G wx fr hway _ hs hdef hsz
      have s1 : fr.tmps[1]? = some (.int .i64 m) := hs.1
      clear hs
      refine ⟨?_⟩
      go_wp2
      exact kp_post hsz (Below.refl _ _)
    · intro G wx fr hway _ hs hdef hsz
      have s2 : fr.tmps[2]? = some (.int .i64 n) := hs.1
      clear hs
      refine ⟨?_⟩
      go_wp2
      exact kp_post hsz (Below.refl _ _)
    · intro G wx fr hway _ hs hdef hsz
      have s29 : fr.tmps[29]? = some (.int .i64 m) := hs.1
      have s30 : fr.tmps[30]? = some (.int .i64 n) := hs.2.1
      clear hs
      refine ⟨?_⟩
      go_wp2
      exact kp_post hsz (Below.refl _ _)
    · intro G wx fr hway _ hs hdef hsz
      have s31 : fr.tmps[31]? = some (.int .i64 (m + n)) := hs.1
      clear hs
      refine ⟨?_⟩
      go_wp2_with fail
      refine (C2.out wx).mono ?_
      rintro e w2 ⟨rfl, hb2⟩
      go_wp2
      exact kp_post hsz hb2
    · intro G wx fr hway _ hs hdef hsz
      have s28 : fr.tmps[28]? = some (.agg (wcells a)) := hs.1
      have s32 : fr.tmps[32]? = some (.agg (wcells s3)) := hs.2.1
      clear hs
      refine ⟨?_⟩
      go_wp2_with fail
      refine (C4.out wx).mono ?_
      rintro e w2 ⟨rfl, hb2⟩
      go_wp2
      exact kp_post hsz hb2
    · intro G wx fr hway _ hs hdef hsz
      have s3 : fr.tmps[3]? = some (.pointer (some ⟨w.heap.size, 0, none⟩)) := hs.1
      clear hs
      refine ⟨?_⟩
      refine wpList_load_blk rfl 23 (.tmp 3) rfl (way_blk hway hx1 (by first | exact hx1.lt | omega) (by simp [heldBy, Knd.blockOf])) (by rw [HSW.out]; exact hW) (by simp [Act.eval, s3]) ?_
      refine wpList_nil ?_
      exact kp_val hdef hsz (Below.refl _ _)
    · intro G wx fr hway _ hs hdef hsz
      have s1 : fr.tmps[1]? = some (.int .i64 m) := hs.1
      clear hs
      refine ⟨?_⟩
      go_wp2
      exact kp_post hsz (Below.refl _ _)
    · intro G wx fr hway _ hs hdef hsz
      have s35 : fr.tmps[35]? = some (.int .i64 m) := hs.1
      clear hs
      refine ⟨?_⟩
      go_wp2_with fail
      refine (C6.out wx).mono ?_
      rintro e w2 ⟨rfl, hb2⟩
      go_wp2
      exact kp_post hsz hb2
    · intro G wx fr hway _ hs hdef hsz
      have s34 : fr.tmps[34]? = some (.agg (wcells a)) := hs.1
      have s36 : fr.tmps[36]? = some (.agg (wcells s7)) := hs.2.1
      clear hs
      refine ⟨?_⟩
      go_wp2_with fail
      refine (C8.out wx).mono ?_
      rintro e w2 ⟨rfl, hb2⟩
      go_wp2
      exact kp_post hsz hb2
    · intro G wx fr hway _ hs hdef hsz
      have s3 : fr.tmps[3]? = some (.pointer (some ⟨w.heap.size, 0, none⟩)) := hs.1
      clear hs
      refine ⟨?_⟩
      refine wpList_load_blk rfl 23 (.tmp 3) rfl (way_blk hway hx1 (by first | exact hx1.lt | omega) (by simp [heldBy, Knd.blockOf])) (by rw [HSW.out]; exact hW) (by simp [Act.eval, s3]) ?_
      refine wpList_nil ?_
      exact kp_val hdef hsz (Below.refl _ _)
    · intro G wx fr hway _ hs hdef hsz
      have s2 : fr.tmps[2]? = some (.int .i64 n) := hs.1
      clear hs
      refine ⟨?_⟩
      go_wp2
      exact kp_post hsz (Below.refl _ _)
    · intro G wx fr hway _ hs hdef hsz
      have s39 : fr.tmps[39]? = some (.int .i64 n) := hs.1
      clear hs
      refine ⟨?_⟩
      go_wp2_with fail
      refine (C10.out wx).mono ?_
      rintro e w2 ⟨rfl, hb2⟩
      go_wp2
      exact kp_post hsz hb2
    · intro G wx fr hway _ hs hdef hsz
      have s38 : fr.tmps[38]? = some (.agg (wcells a)) := hs.1
      have s40 : fr.tmps[40]? = some (.agg (wcells s11)) := hs.2.1
      clear hs
      refine ⟨?_⟩
      go_wp2_with fail
      refine (C12.out wx).mono ?_
      rintro e w2 ⟨rfl, hb2⟩
      go_wp2
      exact kp_post hsz hb2
    · intro G wx fr hway _ hs hdef hsz
      have s37 : fr.tmps[37]? = some (.agg (wcells s9)) := hs.1
      have s41 : fr.tmps[41]? = some (.agg (wcells s13)) := hs.2.1
      clear hs
      refine ⟨?_⟩
      go_wp2_with fail
      refine (C14.out wx).mono ?_
      rintro e w2 ⟨rfl, hb2⟩
      go_wp2
      exact kp_post hsz hb2
    · intro G wx fr hway _ hs hdef hsz
      have s33 : fr.tmps[33]? = some (.agg (wcells s5)) := hs.1
      have s42 : fr.tmps[42]? = some (.agg (wcells s15)) := hs.2.1
      clear hs
      have hq := Q16.out
      refine ⟨?_⟩
      go_wp2
      exact kp_post hsz (Below.refl _ _)
    · intro G wx fr hway _ hs hdef hsz
      have s43 : fr.tmps[43]? = some (.bool true) := hs.1
      clear hs
      refine ⟨?_⟩
      go_wp2
      exact kp_post hsz (Below.refl _ _)
  · intro G V wc hval hway hmade hap
    replace hval : V 0 = .agg (wcells a) ∧ V 1 = .int .i64 m ∧ V 2 = .int .i64 n ∧ V 3 = .int .i64 (m + n) ∧ V 4 = .agg (wcells s3) ∧ V 5 = .agg (wcells s5) ∧ V 6 = .agg (wcells a) ∧ V 7 = .int .i64 m ∧ V 8 = .agg (wcells s7) ∧ V 9 = .agg (wcells s9) ∧ V 10 = .agg (wcells a) ∧ V 11 = .int .i64 n ∧ V 12 = .agg (wcells s11) ∧ V 13 = .agg (wcells s13) ∧ V 14 = .agg (wcells s15) ∧ V 15 = .bool true ∧ V 16 = .bool true ∧ True := hval
    replace hmade : True := hmade
    obtain ⟨e0, e1, e2, e3, e4, e5, e6, e7, e8, e9, e10, e11, e12, e13, e14, e15, e16, -⟩ := hval
    obtain ⟨-⟩ := hmade
    clear hap
    simp only [fill, Act.put, e0, e1, e2, e3, e4, e5, e6, e7, e8, e9, e10, e11, e12, e13, e14, e15, e16]
    clear e0 e1 e2 e3 e4 e5 e6 e7 e8 e9 e10 e11 e12 e13 e14 e15 e16
    simp only [Exit.then]
    go_simp
    clear G V
    have hBz := hway.2.2
    clear hway
    go_wp2
    go_ret
    exact ⟨rfl, hBz⟩
open Go.ChangeShapes Go.WideShapes Go.ChangeAt

set_option maxRecDepth 100000 in
theorem lifted (os : Os) (started : os.Started) (H : Type) (enc : TypeId × Value → H) :
    ReturnsInHanded {} Try.checked os 8 .any (Rows.wordStepsSpec.pre6 enc Try.prog Try.f8 Rows.wordStepsRow.domain false) (Rows.wordStepsSpec.post enc Try.prog Try.f8 false true false false) := by
  refine law_lift (C := Try.checked) (ts := [23, 3, 3]) (tb := 4) (by kernel_rfl) started (by kernel_rfl) Try.func8
    (ChangeSpec.witness6 (enc := enc) (C := Try.checked) false ⟨#[], #[.agg (Array.replicate 32 (.int .u8 0)), .int .i64 0, .int .i64 0], []⟩ 8 (by kernel_rfl) (by kernel_rfl) (by kernel_rfl) (by kernel_rfl))
    (by kernel_rfl) (by kernel_rfl) (by kernel_rfl) (by kernel_rfl) Try.underlying4 rfl (fun ds h => by match ds, h with | [_, _, _], _ => rfl) ?_
  intro W vs hl h
  match vs, hl with
  | [v0, v1, v2], _ =>
    have ha := h 0 _ v0 rfl rfl
    obtain ⟨m, rfl, hm⟩ := arg_int Try.underlying3 (h 1 _ v1 rfl rfl)
    obtain ⟨n, rfl, hn⟩ := arg_int Try.underlying3 (h 2 _ v2 rfl rfl)
    obtain ⟨a, ha', rfl⟩ := arg_word ha
    by_cases c0 : m < 0
    · exact walk_no a m n W (.inl c0)
    by_cases c1 : n < 0
    · exact walk_no a m n W (.inr (.inl ⟨by omega, c1⟩))
    by_cases c2 : 1152921504606846976 < m
    · exact walk_no a m n W (.inr (.inr (.inl ⟨by omega, by omega, c2⟩)))
    by_cases c3 : 1152921504606846976 < n
    · exact walk_no a m n W (.inr (.inr (.inr ⟨by omega, by omega, by omega, c3⟩)))
    exact walk a m n W ha' (by omega) (by omega) (by omega) (by omega)

theorem over : Rows.wordStepsRow.holds Try.pinned (OpenSpec.ofChange Rows.wordStepsSpec) :=
  OpenClaim.holds_of_wide 8 Try.f8 rfl rfl rfl rfl rfl rfl rfl ⟨rfl, rfl, rfl, rfl, rfl⟩ rfl rfl rfl rfl rfl (by kernel_rfl) Try.func8 (by kernel_rfl)
    (of_decide_eq_true (by kernel_rfl)) (by unfold Func.isWrapper; first | (rw [if_pos (by decide +kernel)]; kernel_rfl) | (rw [if_neg (by decide +kernel)]; exact ⟨rfl, rfl⟩))
    (fun os started H enc _ => lifted os started H enc)
end Go.Proofs.Ytegnfklehgbooaa.WordSteps
namespace Go.Proofs.Ytegnfklehgbooaa
theorem wordSteps_holds : Rows.WordStepsSaid := WordSteps.over
#print axioms wordSteps_holds
end Go.Proofs.Ytegnfklehgbooaa
