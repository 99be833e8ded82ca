/- 'FilesMany' answers true at every input. No condition. -/
import Derived.Test.YtdkccaiahgfjoaaFsMany
import Derived.Test.YtdkccaiahgfjoaaLaw
import Derived.Test.YtdkccaiahgfjoaaRows
namespace Go.Proofs.Ytdkccaiahgfjoaa.FilesMany
open Go Go.RowKit Go.Mun Go.Proofs Go.Maps

set_option maxRecDepth 100000 in
set_option maxHeartbeats 4000000 in
theorem walk (n long : Int) (w : World) :
    Calls Try.prog 3 #[.int .i64 n, .int .i64 long] w fun e w' => e = .returned (.bool true) ∧ Below w.heap.size w w' := by
  have CA := Lib.hid alive_any
  by_cases d1 : n < 0
  · have e1 : decide (n < (0 : Int)) = true := decide_eq_true (by omega)
    go_enter Try.func3, Try.ntmps3
    go_wp2_with (first
      | (go_at_call 9; (with_reducible refine (CA.out _).mono ?_); rintro e w1 ⟨rfl, hb1⟩)
      | fail)
    go_ret
    exact ⟨rfl, hb1⟩
  have e2 : decide (n < (0 : Int)) = false := decide_eq_false (by omega)
  by_cases d2 : 210 < n
  · have e1 : decide ((210 : Int) < n) = true := decide_eq_true (by omega)
    go_enter Try.func3, Try.ntmps3
    go_wp2_with (first
      | (go_at_call 9; (with_reducible refine (CA.out _).mono ?_); rintro e w1 ⟨rfl, hb1⟩)
      | fail)
    go_ret
    exact ⟨rfl, hb1⟩
  have e3 : decide ((210 : Int) < n) = false := decide_eq_false (by omega)
  by_cases d3 : long < 0
  · have e1 : decide (long < (0 : Int)) = true := decide_eq_true (by omega)
    go_enter Try.func3, Try.ntmps3
    go_wp2_with (first
      | (go_at_call 9; (with_reducible refine (CA.out _).mono ?_); rintro e w1 ⟨rfl, hb1⟩)
      | fail)
    go_ret
    exact ⟨rfl, hb1⟩
  have e4 : decide (long < (0 : Int)) = false := decide_eq_false (by omega)
  by_cases d4 : 150 < long
  · have e1 : decide ((150 : Int) < long) = true := decide_eq_true (by omega)
    go_enter Try.func3, Try.ntmps3
    go_wp2_with (first
      | (go_at_call 9; (with_reducible refine (CA.out _).mono ?_); rintro e w1 ⟨rfl, hb1⟩)
      | fail)
    go_ret
    exact ⟨rfl, hb1⟩
  have e5 : decide ((150 : Int) < long) = false := decide_eq_false (by omega)
  obtain ⟨N, rfl⟩ : ∃ N : Nat, n = (N : Int) := ⟨n.toNat, by omega⟩
  obtain ⟨Z, rfl⟩ : ∃ Z : Nat, long = (Z : Int) := ⟨long.toNat, by omega⟩
  have hbT := bytesTyC
  go_enter Try.func3, Try.ntmps3
  go_wp2_with (first
    | (go_at_call 9; (with_reducible refine (CA.out _).mono ?_); rintro e w1 ⟨rfl, hb1⟩; have N0 := Lib.hid (New_in (w0 := w) (w := w1) (o := fun _ => none) 0 (fun _ _ => rfl) hb1 (fun _ _ => rfl)))
    | (go_at_call 10; (with_reducible refine N0.out.mono ?_); rintro e w2 ⟨p, o2, rfl, h2, T2⟩; clear T2)
    | fail)
  go_loopw [7] (fun iv wr => ∃ (i : Nat) (M : FSs) (o : Own), i ≤ N ∧ iv = .int .i64 (i : Nat) ∧ ManyOk i M ∧ FsIn 0 p M o (2 * i) 0 w wr) (fun iv _ => N - (RowKit.intOf iv).toNat)
  case atStart => exact ⟨0, newM, o2, Nat.zero_le _, rfl, many0, h2⟩
  case round =>
    obtain ⟨i, M, o, hi, rfl, hM, hF⟩ := hrel
    by_cases hlt : i < N
    · have f0 : decide ((i : Int) < (N : Int)) = true := decide_eq_true (by omega)
      obtain ⟨q, hq⟩ : ∃ q, q = i / 26 := ⟨_, rfl⟩
      obtain ⟨r, hr⟩ : ∃ r, r = i % 26 := ⟨_, rfl⟩
      have b1 : q ≤ 8 := by omega
      have b2 : r < 26 := by omega
      have QD := Lib.hid (show (i : Int).tdiv 26 = (q : Int) by rw [Int.tdiv_eq_ediv_of_nonneg (by omega), hq]; rfl)
      have QM := Lib.hid (show (i : Int).tmod 26 = (r : Int) by rw [Int.tmod_eq_emod_of_nonneg (by omega), hr]; rfl)
      have qd := QD.out
      have qm := QM.out
      have G := Lib.hid (many_ok hM (by omega : i < 210))
      have NX := Lib.hid (many_next hM (by omega : i < 210))
      have HN := Lib.hid (show ∀ (w : World) (g : Nat), Blk w g 5 #[.int .u8 102, .int .u8 (97 + (q : Int)), .int .u8 (97 + (r : Int))] → Bytes w (.slice (some ⟨g, 0, none⟩) 3 3) (nmM i) from fun w g h => by rw [hq, hr] at h; exact nmM_bytes (by omega) h)
      have HL := Lib.hid (show (nmM i).length ≤ 1000000 from (by show 3 ≤ 1000000; decide))
      have HI := Lib.hid hlt
      have HI2 := Lib.hid (show i < 210 by omega)
      clear hM hq hr
      generalize nmM i = nm at *
      by_cases h200 : i < 200
      · have f1 : decide ((i : Int) < 200) = true := decide_eq_true (by omega)
        have G2 := Lib.hid (G.out.trans (decide_eq_true h200))
        go_wp2_with (first
          | ((with_reducible refine gd_rowC ?_); refine wpList_row_three rfl (.const (.int .u8 102)) (.tmp 41) (.tmp 45) rfl hbT (v := .int .u8 102) (u := .int .u8 (97 + (q : Int))) (s := .int .u8 (97 + (r : Int))) rfl rfl rfl rfl rfl rfl ?_; intro w3 hx3 hb3 hl3; have h3 := hF.ext hb3; have q3 := run_str (P := Try.prog) (src := 26) (dst := 9) (HN.out _ _ hx3) u8sTy u8Ty Try.underlying9)
          | (go_at_call 11; (with_reducible refine (App_in h3 nm HL.out (.slice none 0 0) [] (Bytes.nil _) Free.nil (by decide) (by omega) (by decide)).mono ?_); rintro e w4 ⟨he, o4, h4, T4⟩; rw [G2.out] at he; subst he; clear T4)
          | fail)
        go_roundw
        case rel => first | exact ⟨i + 1, _, o4, by omega, by go_num, NX.out, h4.more (by omega) (Nat.le_refl _)⟩ | ((repeat apply Exists.intro); exact ⟨⟨i + 1, _, o4, by omega, by go_num, NX.out, h4.more (by omega) (Nat.le_refl _)⟩, rfl⟩)
        case measure => simp [RowKit.intOf]; omega
      · have f1 : decide ((i : Int) < 200) = false := decide_eq_false (by omega)
        have G2 := Lib.hid (G.out.trans (decide_eq_false h200))
        go_wp2_with (first
          | ((with_reducible refine gd_rowC ?_); refine wpList_row_three rfl (.const (.int .u8 102)) (.tmp 41) (.tmp 45) rfl hbT (v := .int .u8 102) (u := .int .u8 (97 + (q : Int))) (s := .int .u8 (97 + (r : Int))) rfl rfl rfl rfl rfl rfl ?_; intro w3 hx3 hb3 hl3; have h3 := hF.ext hb3; have q3 := run_str (P := Try.prog) (src := 26) (dst := 9) (HN.out _ _ hx3) u8sTy u8Ty Try.underlying9)
          | (go_at_call 11; (with_reducible refine (App_in h3 nm HL.out (.slice none 0 0) [] (Bytes.nil _) Free.nil (by decide) (by omega) (by decide)).mono ?_); rintro e w4 ⟨he, o4, h4, T4⟩; rw [G2.out] at he; subst he; clear T4)
          | fail)
        go_roundw
        case rel => first | exact ⟨i + 1, _, o4, by omega, by go_num, NX.out, h4.more (by omega) (Nat.le_refl _)⟩ | ((repeat apply Exists.intro); exact ⟨⟨i + 1, _, o4, by omega, by go_num, NX.out, h4.more (by omega) (Nat.le_refl _)⟩, rfl⟩)
        case measure => simp [RowKit.intOf]; omega
    · obtain rfl : i = N := by omega
      have f0 : decide ((i : Int) < (i : Int)) = false := decide_eq_false (by omega)
      have C1 := Lib.hid (New_in (w0 := w) (w := wr) 1 hF.own hF.below hF.base)
      have G := Lib.hid (zeros_named Z)
      have HZL := Lib.hid (show (List.replicate Z (0 : UInt8)).length ≤ 1000000 by rw [List.length_replicate]; omega)
      obtain ⟨zs, hzs⟩ : ∃ zs, zs = List.replicate Z (0 : UInt8) := ⟨_, rfl⟩
      rw [← hzs] at G HZL
      have HZS := Lib.hid hzs
      clear hzs
      by_cases hz : 1 ≤ Z
      · have g1 : decide ((1 : Int) ≤ (Z : Int)) = true := decide_eq_true (by omega)
        by_cases hz2 : Z ≤ 100
        · have g2 : decide ((Z : Int) ≤ 100) = true := decide_eq_true (by omega)
          have G2 := Lib.hid (G.out.trans (decide_eq_true ⟨hz, hz2⟩))
          go_wp2_with (first
            | (go_at_call 10; (with_reducible refine C1.out.mono ?_); rintro e w3 ⟨p3, o3, rfl, h3, T3⟩; clear T3)
            | ((with_reducible refine gd_make ?_); refine wpList_make_bytes rfl (.tmp 55) (.tmp 55) _ rfl w3.heap.size hbT (n := Z) (by rfl) (by rfl) (by omega) (Nat.le_refl _) ?_; intro v4 w4 ho4 hb4; rw [← HZS.out] at ho4; have h4 := h3.ext hb4; obtain ⟨A4, c4, rfl⟩ := row_slC ho4; have q4 := run_str (P := Try.prog) (src := 26) (dst := 9) (Bytes.own ho4) u8sTy u8Ty Try.underlying9)
            | ((with_reducible refine gd_rowC ?_); refine wpList_row_val (v := .int .u8 120) rfl (.const (.int .u8 120)) rfl hbT (by decide) rfl rfl ?_; intro w5 hx5 hb5 hl5)
            | ((with_reducible refine gd_convert ?_); refine wpList_lit rfl (.tmp 58) rfl u8sTy u8Ty rfl hx5 (l := [120]) rfl rfl (Nat.le_refl _) (by decide) ?_; intro w6 hg6 hs6 B6; have hb6 := below_blk hb5 hb5.size hg6 (Nat.le_refl _); have h6 := h4.ext hb6; have F6 := Lib.hid (Free.lit (k := 1) (n := 1) (c := 1) h4.own))
            | (go_at_call 11; (with_reducible refine (App_in h6 zs HZL.out _ [120] B6 F6.out (by decide) (by decide) (by decide)).mono ?_); rintro e w7 ⟨he, o7, h7, T7⟩; rw [G2.out] at he; subst he; clear T7)
            | fail)
          go_ret
          exact ⟨rfl, h7.below⟩
        · have g2 : decide ((Z : Int) ≤ 100) = false := decide_eq_false (by omega)
          have G2 := Lib.hid (G.out.trans (decide_eq_false fun h => hz2 h.2))
          go_wp2_with (first
            | (go_at_call 10; (with_reducible refine C1.out.mono ?_); rintro e w3 ⟨p3, o3, rfl, h3, T3⟩; clear T3)
            | ((with_reducible refine gd_make ?_); refine wpList_make_bytes rfl (.tmp 55) (.tmp 55) _ rfl w3.heap.size hbT (n := Z) (by rfl) (by rfl) (by omega) (Nat.le_refl _) ?_; intro v4 w4 ho4 hb4; rw [← HZS.out] at ho4; have h4 := h3.ext hb4; obtain ⟨A4, c4, rfl⟩ := row_slC ho4; have q4 := run_str (P := Try.prog) (src := 26) (dst := 9) (Bytes.own ho4) u8sTy u8Ty Try.underlying9)
            | ((with_reducible refine gd_rowC ?_); refine wpList_row_val (v := .int .u8 120) rfl (.const (.int .u8 120)) rfl hbT (by decide) rfl rfl ?_; intro w5 hx5 hb5 hl5)
            | ((with_reducible refine gd_convert ?_); refine wpList_lit rfl (.tmp 58) rfl u8sTy u8Ty rfl hx5 (l := [120]) rfl rfl (Nat.le_refl _) (by decide) ?_; intro w6 hg6 hs6 B6; have hb6 := below_blk hb5 hb5.size hg6 (Nat.le_refl _); have h6 := h4.ext hb6; have F6 := Lib.hid (Free.lit (k := 1) (n := 1) (c := 1) h4.own))
            | (go_at_call 11; (with_reducible refine (App_in h6 zs HZL.out _ [120] B6 F6.out (by decide) (by decide) (by decide)).mono ?_); rintro e w7 ⟨he, o7, h7, T7⟩; rw [G2.out] at he; subst he; clear T7)
            | fail)
          go_ret
          exact ⟨rfl, h7.below⟩
      · have g1 : decide ((1 : Int) ≤ (Z : Int)) = false := decide_eq_false (by omega)
        have G2 := Lib.hid (G.out.trans (decide_eq_false fun h => hz h.1))
        go_wp2_with (first
          | (go_at_call 10; (with_reducible refine C1.out.mono ?_); rintro e w3 ⟨p3, o3, rfl, h3, T3⟩; clear T3)
          | ((with_reducible refine gd_make ?_); refine wpList_make_bytes rfl (.tmp 55) (.tmp 55) _ rfl w3.heap.size hbT (n := Z) (by rfl) (by rfl) (by omega) (Nat.le_refl _) ?_; intro v4 w4 ho4 hb4; rw [← HZS.out] at ho4; have h4 := h3.ext hb4; obtain ⟨A4, c4, rfl⟩ := row_slC ho4; have q4 := run_str (P := Try.prog) (src := 26) (dst := 9) (Bytes.own ho4) u8sTy u8Ty Try.underlying9)
          | ((with_reducible refine gd_rowC ?_); refine wpList_row_val (v := .int .u8 120) rfl (.const (.int .u8 120)) rfl hbT (by decide) rfl rfl ?_; intro w5 hx5 hb5 hl5)
          | ((with_reducible refine gd_convert ?_); refine wpList_lit rfl (.tmp 58) rfl u8sTy u8Ty rfl hx5 (l := [120]) rfl rfl (Nat.le_refl _) (by decide) ?_; intro w6 hg6 hs6 B6; have hb6 := below_blk hb5 hb5.size hg6 (Nat.le_refl _); have h6 := h4.ext hb6; have F6 := Lib.hid (Free.lit (k := 1) (n := 1) (c := 1) h4.own))
          | (go_at_call 11; (with_reducible refine (App_in h6 zs HZL.out _ [120] B6 F6.out (by decide) (by decide) (by decide)).mono ?_); rintro e w7 ⟨he, o7, h7, T7⟩; rw [G2.out] at he; subst he; clear T7)
          | fail)
        go_ret
        exact ⟨rfl, h7.below⟩
open Go.ChangeShapes Go.WideShapes Go.ChangeAt

set_option maxRecDepth 100000 in
theorem lifted (os : Os) (started : os.Started) (H : Type) (enc : TypeId × Value → H) :
    ReturnsInHanded {} Try.checked os 3 .any (Rows.filesManySpec.pre6 enc Try.prog Try.f3 Rows.filesManyRow.domain false) (Rows.filesManySpec.post enc Try.prog Try.f3 false true false false) := by
  refine law_lift (C := Try.checked) (ts := [3, 3]) (tb := 4) (by kernel_rfl) started (by kernel_rfl) Try.func3
    (ChangeSpec.witness6 (enc := enc) (C := Try.checked) false ⟨#[], #[.int .i64 0, .int .i64 0], []⟩ 8 (by kernel_rfl) (by kernel_rfl) (by kernel_rfl) (by kernel_rfl))
    (by kernel_rfl) (by kernel_rfl) (by kernel_rfl) (by kernel_rfl) Try.underlying4 rfl (fun ds h => by match ds, h with | [_, _], _ => rfl) ?_
  intro W vs hl h
  match vs, hl with
  | [v0, v1], _ =>
    obtain ⟨n, rfl, hn⟩ := arg_int Try.underlying3 (h 0 _ v0 rfl rfl)
    obtain ⟨long, rfl, hlong⟩ := arg_int Try.underlying3 (h 1 _ v1 rfl rfl)
    exact walk n long W

theorem over : Rows.filesManyRow.holds Try.pinned (OpenSpec.ofChange Rows.filesManySpec) :=
  OpenClaim.holds_of_wide 3 Try.f3 rfl rfl rfl rfl rfl rfl rfl ⟨rfl, rfl, rfl, rfl, rfl⟩ rfl rfl rfl rfl rfl (by kernel_rfl) Try.func3 (by kernel_rfl)
    (of_decide_eq_true (by kernel_rfl)) (by unfold Func.isWrapper; first | (rw [if_pos (by decide +kernel)]; kernel_rfl) | (rw [if_neg (by decide +kernel)]; exact ⟨rfl, rfl⟩))
    (fun os started H enc _ => lifted os started H enc)
end Go.Proofs.Ytdkccaiahgfjoaa.FilesMany
namespace Go.Proofs.Ytdkccaiahgfjoaa
theorem filesMany_holds : Rows.FilesManySaid := FilesMany.over
#print axioms filesMany_holds
end Go.Proofs.Ytdkccaiahgfjoaa
