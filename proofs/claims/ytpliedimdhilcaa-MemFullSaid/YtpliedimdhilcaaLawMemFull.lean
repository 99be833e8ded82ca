/- 'MemFull' answers true at every input. No condition. -/
import Derived.Test.YtpliedimdhilcaaDup
import Derived.Test.YtpliedimdhilcaaLaw
import Derived.Test.YtpliedimdhilcaaRows
namespace Go.Proofs.Ytpliedimdhilcaa.MemFull
open Go Go.RowKit Go.Mun Go.Proofs

/-- the words behind so many rounds -/
def upto (k : Nat) : List Nat := List.range (min k 1024)
theorem upto_length (k : Nat) : (upto k).length = min k 1024 := List.length_range
theorem pushed_upto (k : Nat) : pushed (upto k) k = upto (k + 1) := by
  unfold pushed upto
  rw [List.length_range]
  by_cases h : k < 1024
  · rw [if_pos (by omega), show min (k + 1) 1024 = min k 1024 + 1 from by omega, List.range_succ, show min k 1024 = k from by omega]
  · rw [if_neg (by omega), show min (k + 1) 1024 = min k 1024 from by omega]
theorem walk_early (n : Int) (w : World) (_h1 : -9223372036854775808 ≤ n) (_h2 : n ≤ 9223372036854775807) (h : n < 0 ∨ 1100 < n) :
    Calls Try.prog 5 #[.int .i64 n] w fun e w' => e = .returned (.bool true) ∧ Below w.heap.size w w' := by
  have CA := Lib.hid alive13
  by_cases h1 : n < 0
  · have d1 : decide (n < 0) = true := decide_eq_true h1
    clear h
    go_enter Try.func5, Try.ntmps5
    go_wp2_with (first
      | (go_at_call 14; refine (CA.out _).mono ?_; rintro e w1 ⟨rfl, hb1⟩)
      | fail)
    go_ret
    exact ⟨rfl, hb1⟩
  · have d1 : decide (n < 0) = false := decide_eq_false h1
    have d2 : decide (1100 < n) = true := decide_eq_true (by omega)
    clear h
    go_enter Try.func5, Try.ntmps5
    go_wp2_with (first
      | (go_at_call 14; refine (CA.out _).mono ?_; rintro e w1 ⟨rfl, hb1⟩)
      | fail)
    go_ret
    exact ⟨rfl, hb1⟩

set_option maxRecDepth 100000 in
set_option maxHeartbeats 4000000 in
theorem walk_zero (n : Nat) (w : World) (hn : n ≤ 1100) (h0 : n = 0) :
    Calls Try.prog 5 #[.int .i64 (n : Nat)] w fun e w' => e = .returned (.bool true) ∧ Below w.heap.size w w' := by
  have CA := Lib.hid alive13
  have zS := zStack
  have CN := Lib.hid Of_nat
  have HP := Lib.hid Push_any
  have HU := Lib.hid pushed_upto
  have HL := Lib.hid upto_length
  have d1 : decide ((1100 : Int) < n) = false := decide_eq_false (by omega)
  have HL0 := Lib.hid (show (upto n).length = 0 by rw [upto_length, h0]; rfl)
  have d0 : decide ((n : Int) = 0) = true := decide_eq_true (by omega)
  have d2 : decide ((1024 : Int) < n) = false := decide_eq_false (by omega)
  have h0' : (n : Int) = 0 := by omega
  clear h0
  go_enter Try.func5, Try.ntmps5
  go_wp2_with (first
    | (go_at_call 14; refine (CA.out _).mono ?_; rintro e w1 ⟨rfl, hb1⟩; have hs1 := hb1.size)
    | ((with_reducible refine gd_alloc ?_); refine wpList_alloc_blk rfl 43 rfl zS ?_; intro w2 hx2 hb2 hl2)
    | fail)
  have hB2 := below_step hb1 hb2
  have hst2 : St w2 w1.heap.size (w1.heap.size + 1) (upto 0) := St.new hx2
  obtain ⟨g, hg⟩ : ∃ g, g = w1.heap.size := ⟨_, rfl⟩
  rw [← hg] at hst2 hl2 hs1
  simp only [← hg]
  have hz2 : g + 1 ≤ w2.heap.size := hl2
  clear hg hx2 hb1 hb2 hl2
  go_loopw [5] (fun i wr => ∃ k : Nat, k ≤ n ∧ i = .int .i64 k ∧ Below w.heap.size w wr ∧ g + 1 ≤ wr.heap.size ∧ St wr g (g + 1) (upto k)) (fun i _ => n - (intOf i).toNat)
  case atStart => exact ⟨0, Nat.zero_le _, rfl, hB2, hz2, hst2⟩
  case round =>
    clear hst2 hB2 hz2
    obtain ⟨k, hk, rfl, hBr, hzr, hst⟩ := hrel
    by_cases hlt : k < n
    · omega
    · obtain rfl : k = n := by omega
      go_wp2_with (first
        | (go_at_call 21; obtain ⟨A6, c6, hy6, ho6⟩ := hst; rw [HL0.out] at hy6; refine (Dup_no 1 _ _ _ _ _ (by omega) (by omega) hy6 (.inr (by omega))).mono ?_; rintro e w6 ⟨rfl, rfl⟩)
        | (go_at_call 22; refine (Len_any _ _ _ _ _ hy6).mono ?_; rintro e w7 ⟨rfl, rfl⟩)
        | fail)
      go_ret
      exact ⟨rfl, hBr⟩

set_option maxRecDepth 100000 in
set_option maxHeartbeats 4000000 in
theorem walk_some (n : Nat) (w : World) (hn : n ≤ 1100) (h1 : 1 ≤ n) (h2 : n < 1024) :
    Calls Try.prog 5 #[.int .i64 (n : Nat)] w fun e w' => e = .returned (.bool true) ∧ Below w.heap.size w w' := by
  have CA := Lib.hid alive13
  have zS := zStack
  have CN := Lib.hid Of_nat
  have HP := Lib.hid Push_any
  have HU := Lib.hid pushed_upto
  have HL := Lib.hid upto_length
  have d1 : decide ((1100 : Int) < n) = false := decide_eq_false (by omega)
  have HK := Lib.hid (show n - 1 + 1 = (upto n).length by rw [upto_length]; omega)
  have HX := Lib.hid (show (upto n)[n - 1]? = some (n - 1) by unfold upto; rw [List.getElem?_range (by omega)])
  have HD := Lib.hid (show decide ((upto n).length < 1024) = true by simp [upto_length]; omega)
  have HN := Lib.hid (show (pushed (upto n) (n - 1)).length = n + 1 by unfold pushed; simp only [upto_length]; split <;> simp [upto_length] <;> omega)
  have d2 : decide ((1024 : Int) < n) = false := decide_eq_false (by omega)
  have d3 : decide ((0 : Int) < n) = true := decide_eq_true (by omega)
  have d4 : decide ((n : Int) < 1024) = true := decide_eq_true (by omega)
  go_enter Try.func5, Try.ntmps5
  go_wp2_with (first
    | (go_at_call 14; refine (CA.out _).mono ?_; rintro e w1 ⟨rfl, hb1⟩; have hs1 := hb1.size)
    | ((with_reducible refine gd_alloc ?_); refine wpList_alloc_blk rfl 43 rfl zS ?_; intro w2 hx2 hb2 hl2)
    | fail)
  have hB2 := below_step hb1 hb2
  have hst2 : St w2 w1.heap.size (w1.heap.size + 1) (upto 0) := St.new hx2
  obtain ⟨g, hg⟩ : ∃ g, g = w1.heap.size := ⟨_, rfl⟩
  rw [← hg] at hst2 hl2 hs1
  simp only [← hg]
  have hz2 : g + 1 ≤ w2.heap.size := hl2
  clear hg hx2 hb1 hb2 hl2
  go_loopw [5] (fun i wr => ∃ k : Nat, k ≤ n ∧ i = .int .i64 k ∧ Below w.heap.size w wr ∧ g + 1 ≤ wr.heap.size ∧ St wr g (g + 1) (upto k)) (fun i _ => n - (intOf i).toNat)
  case atStart => exact ⟨0, Nat.zero_le _, rfl, hB2, hz2, hst2⟩
  case round =>
    clear hst2 hB2 hz2
    obtain ⟨k, hk, rfl, hBr, hzr, hst⟩ := hrel
    by_cases hlt : k < n
    · have CK := Lib.hid (fun w => CN.out k (by omega) w)
      by_cases hk1 : k < 1024
      · have f1 : decide ((k : Int) < 1024) = true := decide_eq_true (by omega)
        have F2 := Lib.hid (show decide ((upto k).length < 1024) = true from decide_eq_true (by rw [HL.out]; omega))
        go_wp2_with (first
          | (go_at_call 16; refine (CK.out _).mono ?_; rintro e w4 ⟨rfl, hb4⟩; have hst4 := hst.ext hb4; have hz4 := hb4.size)
          | (go_at_call 20; refine (HP.out k _ g (g + 1) _ hst4 (Nat.lt_succ_self _) (by omega)).mono ?_; rintro e w5 ⟨he, hst5, hk5⟩; rw [F2.out] at he; subst he; rw [HU.out] at hst5; have hz5 := hk5.size)
          | fail)
        have hB5 := (below_step hBr hb4).trans (hk5.below (B := w.heap.size) (by omega) (by omega))
        go_roundw
        case rel => exact ⟨k + 1, by omega, by go_num, hB5, by omega, hst5⟩
        case measure => simp [intOf]; omega
      · have f1 : decide ((k : Int) < 1024) = false := decide_eq_false (by omega)
        have F2 := Lib.hid (show decide ((upto k).length < 1024) = false from decide_eq_false (by rw [HL.out]; omega))
        go_wp2_with (first
          | (go_at_call 16; refine (CK.out _).mono ?_; rintro e w4 ⟨rfl, hb4⟩; have hst4 := hst.ext hb4; have hz4 := hb4.size)
          | (go_at_call 20; refine (HP.out k _ g (g + 1) _ hst4 (Nat.lt_succ_self _) (by omega)).mono ?_; rintro e w5 ⟨he, hst5, hk5⟩; rw [F2.out] at he; subst he; rw [HU.out] at hst5; have hz5 := hk5.size)
          | fail)
        have hB5 := (below_step hBr hb4).trans (hk5.below (B := w.heap.size) (by omega) (by omega))
        go_roundw
        case rel => exact ⟨k + 1, by omega, by go_num, hB5, by omega, hst5⟩
        case measure => simp [intOf]; omega
    · obtain rfl : k = n := by omega
      go_wp2_with (first
        | (go_at_call 21; refine (Dup_go 1 (k - 1) (k - 1) _ g (g + 1) _ hst (Nat.lt_succ_self _) hzr (Nat.le_refl _) HK.out (by rw [HL.out]; omega) HX.out).mono ?_; rintro e w6 ⟨he, hst6, hk6⟩; rw [HD.out] at he; subst he; obtain ⟨A6, c6, hy6, ho6⟩ := hst6; rw [HN.out] at hy6)
        | (go_at_call 22; refine (Len_any _ _ _ _ _ hy6).mono ?_; rintro e w7 ⟨rfl, rfl⟩)
        | fail)
      go_ret
      exact ⟨rfl, hBr.trans (hk6.below (by omega) (by omega))⟩

set_option maxRecDepth 100000 in
set_option maxHeartbeats 4000000 in
theorem walk_full (n : Nat) (w : World) (hn : n ≤ 1100) (h1 : 1024 ≤ n) :
    Calls Try.prog 5 #[.int .i64 (n : Nat)] w fun e w' => e = .returned (.bool true) ∧ Below w.heap.size w w' := by
  have CA := Lib.hid alive13
  have zS := zStack
  have CN := Lib.hid Of_nat
  have HP := Lib.hid Push_any
  have HU := Lib.hid pushed_upto
  have HL := Lib.hid upto_length
  have d1 : decide ((1100 : Int) < n) = false := decide_eq_false (by omega)
  have HK := Lib.hid (show 1024 - 1 + 1 = (upto n).length by rw [upto_length]; omega)
  have HX := Lib.hid (show (upto n)[1024 - 1]? = some (1024 - 1) by unfold upto; rw [List.getElem?_range (by omega)])
  have HD := Lib.hid (show decide ((upto n).length < 1024) = false by simp [upto_length]; omega)
  have HN := Lib.hid (show (pushed (upto n) (1024 - 1)).length = 1024 by unfold pushed; simp only [upto_length]; split <;> simp [upto_length] <;> omega)
  have d2 : decide ((1024 : Int) < n) = decide (1024 < n) := by congr 1; exact propext (by omega)
  go_enter Try.func5, Try.ntmps5
  go_wp2_with (first
    | (go_at_call 14; refine (CA.out _).mono ?_; rintro e w1 ⟨rfl, hb1⟩; have hs1 := hb1.size)
    | ((with_reducible refine gd_alloc ?_); refine wpList_alloc_blk rfl 43 rfl zS ?_; intro w2 hx2 hb2 hl2)
    | fail)
  have hB2 := below_step hb1 hb2
  have hst2 : St w2 w1.heap.size (w1.heap.size + 1) (upto 0) := St.new hx2
  obtain ⟨g, hg⟩ : ∃ g, g = w1.heap.size := ⟨_, rfl⟩
  rw [← hg] at hst2 hl2 hs1
  simp only [← hg]
  have hz2 : g + 1 ≤ w2.heap.size := hl2
  clear hg hx2 hb1 hb2 hl2
  go_loopw [5] (fun i wr => ∃ k : Nat, k ≤ n ∧ i = .int .i64 k ∧ Below w.heap.size w wr ∧ g + 1 ≤ wr.heap.size ∧ St wr g (g + 1) (upto k)) (fun i _ => n - (intOf i).toNat)
  case atStart => exact ⟨0, Nat.zero_le _, rfl, hB2, hz2, hst2⟩
  case round =>
    clear hst2 hB2 hz2
    obtain ⟨k, hk, rfl, hBr, hzr, hst⟩ := hrel
    by_cases hlt : k < n
    · have CK := Lib.hid (fun w => CN.out k (by omega) w)
      by_cases hk1 : k < 1024
      · have f1 : decide ((k : Int) < 1024) = true := decide_eq_true (by omega)
        have F2 := Lib.hid (show decide ((upto k).length < 1024) = true from decide_eq_true (by rw [HL.out]; omega))
        go_wp2_with (first
          | (go_at_call 16; refine (CK.out _).mono ?_; rintro e w4 ⟨rfl, hb4⟩; have hst4 := hst.ext hb4; have hz4 := hb4.size)
          | (go_at_call 20; refine (HP.out k _ g (g + 1) _ hst4 (Nat.lt_succ_self _) (by omega)).mono ?_; rintro e w5 ⟨he, hst5, hk5⟩; rw [F2.out] at he; subst he; rw [HU.out] at hst5; have hz5 := hk5.size)
          | fail)
        have hB5 := (below_step hBr hb4).trans (hk5.below (B := w.heap.size) (by omega) (by omega))
        go_roundw
        case rel => exact ⟨k + 1, by omega, by go_num, hB5, by omega, hst5⟩
        case measure => simp [intOf]; omega
      · have f1 : decide ((k : Int) < 1024) = false := decide_eq_false (by omega)
        have F2 := Lib.hid (show decide ((upto k).length < 1024) = false from decide_eq_false (by rw [HL.out]; omega))
        go_wp2_with (first
          | (go_at_call 16; refine (CK.out _).mono ?_; rintro e w4 ⟨rfl, hb4⟩; have hst4 := hst.ext hb4; have hz4 := hb4.size)
          | (go_at_call 20; refine (HP.out k _ g (g + 1) _ hst4 (Nat.lt_succ_self _) (by omega)).mono ?_; rintro e w5 ⟨he, hst5, hk5⟩; rw [F2.out] at he; subst he; rw [HU.out] at hst5; have hz5 := hk5.size)
          | fail)
        have hB5 := (below_step hBr hb4).trans (hk5.below (B := w.heap.size) (by omega) (by omega))
        go_roundw
        case rel => exact ⟨k + 1, by omega, by go_num, hB5, by omega, hst5⟩
        case measure => simp [intOf]; omega
    · obtain rfl : k = n := by omega
      by_cases he : 1024 < k
      · have d3 : decide ((1024 : Int) < k) = true := decide_eq_true (by omega)
        clear d2
        go_wp2_with (first
          | (go_at_call 21; refine (Dup_go 1 (1024 - 1) (1024 - 1) _ g (g + 1) _ hst (Nat.lt_succ_self _) hzr (Nat.le_refl _) HK.out (by rw [HL.out]; omega) HX.out).mono ?_; rintro e w6 ⟨he, hst6, hk6⟩; rw [HD.out] at he; subst he; obtain ⟨A6, c6, hy6, ho6⟩ := hst6; rw [HN.out] at hy6)
          | (go_at_call 22; refine (Len_any _ _ _ _ _ hy6).mono ?_; rintro e w7 ⟨rfl, rfl⟩)
          | fail)
        go_ret
        exact ⟨rfl, hBr.trans (hk6.below (by omega) (by omega))⟩
      · have d3 : decide ((1024 : Int) < k) = false := decide_eq_false (by omega)
        have d4 : decide ((1024 : Int) = k) = true := decide_eq_true (by omega)
        obtain rfl : k = 1024 := by omega
        clear d2
        go_wp2_with (first
          | (go_at_call 21; refine (Dup_go 1 (1024 - 1) (1024 - 1) _ g (g + 1) _ hst (Nat.lt_succ_self _) hzr (Nat.le_refl _) HK.out (by rw [HL.out]; omega) HX.out).mono ?_; rintro e w6 ⟨he, hst6, hk6⟩; rw [HD.out] at he; subst he; obtain ⟨A6, c6, hy6, ho6⟩ := hst6; rw [HN.out] at hy6)
          | (go_at_call 22; refine (Len_any _ _ _ _ _ hy6).mono ?_; rintro e w7 ⟨rfl, rfl⟩)
          | fail)
        go_ret
        exact ⟨rfl, hBr.trans (hk6.below (by omega) (by omega))⟩
open Go.ChangeShapes Go.WideShapes Go.ChangeAt

set_option maxRecDepth 100000 in
theorem lifted (os : Os) (started : os.Started) (H : Type) (enc : TypeId × Value → H) :
    ReturnsInHanded {} Try.checked os 5 .any (Rows.memFullSpec.pre6 enc Try.prog Try.f5 Rows.memFullRow.domain false) (Rows.memFullSpec.post enc Try.prog Try.f5 false true false false) := by
  refine law_lift (C := Try.checked) (ts := [3]) (tb := 4) (by kernel_rfl) started (by kernel_rfl) Try.func5
    (ChangeSpec.witness6 (enc := enc) (C := Try.checked) false ⟨#[], #[.int .i64 0], []⟩ 8 (by kernel_rfl) (by kernel_rfl) (by kernel_rfl) (by kernel_rfl))
    (by kernel_rfl) (by kernel_rfl) (by kernel_rfl) (by kernel_rfl) Try.underlying4 rfl (fun ds h => by match ds, h with | [_], _ => rfl) ?_
  intro W vs hl h
  match vs, hl with
  | [v0], _ =>
    obtain ⟨n, rfl, hn⟩ := arg_int Try.underlying3 (h 0 _ v0 rfl rfl)
    have hnb := bounds_i64 hn
    by_cases he : n < 0 ∨ 1100 < n
    · exact walk_early n W hnb.1 hnb.2 he
    · obtain ⟨m, rfl⟩ : ∃ m : Nat, n = m := ⟨n.toNat, by omega⟩
      by_cases h0 : m = 0
      · exact walk_zero m W (by omega) h0
      · by_cases h1 : m < 1024
        · exact walk_some m W (by omega) (by omega) h1
        · exact walk_full m W (by omega) (by omega)

theorem over : Rows.memFullRow.holds Try.pinned (OpenSpec.ofChange Rows.memFullSpec) :=
  OpenClaim.holds_of_wide 5 Try.f5 rfl rfl rfl rfl rfl rfl rfl ⟨rfl, rfl, rfl, rfl, rfl⟩ rfl rfl rfl rfl rfl (by kernel_rfl) Try.func5 (by kernel_rfl)
    (of_decide_eq_true (by kernel_rfl)) (by unfold Func.isWrapper; first | (rw [if_pos (by decide +kernel)]; kernel_rfl) | (rw [if_neg (by decide +kernel)]; exact ⟨rfl, rfl⟩))
    (fun os started H enc _ => lifted os started H enc)
end Go.Proofs.Ytpliedimdhilcaa.MemFull
namespace Go.Proofs.Ytpliedimdhilcaa
theorem memFull_holds : Rows.MemFullSaid := MemFull.over
#print axioms memFull_holds
end Go.Proofs.Ytpliedimdhilcaa
