/- 'FilesPlans' answers true at every input, and leaves what it was given. No condition. -/
import Derived.Test.YtdkccaiahgfjoaaFsPlans
import Derived.Test.YtdkccaiahgfjoaaInts
import Derived.Test.YtdkccaiahgfjoaaBits
import Derived.Test.YtdkccaiahgfjoaaLaw
import Derived.Test.YtdkccaiahgfjoaaRows
namespace Go.Proofs.Ytdkccaiahgfjoaa.FilesPlans
open Go Go.RowKit Go.Mun Go.Proofs Go.Maps

theorem i64_and3 (x : Int) : bits .and .i64 x 3 = x % 4 := i64_and_mask x 2 3 (by omega) rfl
set_option maxRecDepth 100000 in
set_option maxHeartbeats 8000000 in
theorem walk (op n : Int) (v : Value) (l : List Int) (w : World) (hv : Ints w v l) :
    Calls Try.prog 6 #[.int .i64 op, .int .i64 n, v] w fun e w' => e = .returned (.bool true) ∧ Below w.heap.size w w' := by
  have CA := Lib.hid alive_any
  obtain ⟨A, m, c, rfl⟩ : ∃ A m c, v = .slice A m c := by obtain ⟨A, n, c, e, _⟩ := hv; exact ⟨A, n, c, e⟩
  obtain ⟨m1, m2, m3⟩ := hv.len
  unfold maxLen at m3
  by_cases d1 : op < 0
  · have e1 : decide (op < (0 : Int)) = true := decide_eq_true (by omega)
    go_enter Try.func6, Try.ntmps6
    go_wp2_with (first
      | (go_at_call 9; (with_reducible refine (CA.out _).mono ?_); rintro e w1 ⟨rfl, hb1⟩)
      | fail)
    go_ret
    exact ⟨rfl, hb1⟩
  have e2 : decide (op < (0 : Int)) = false := decide_eq_false (by omega)
  by_cases d2 : 60 < op
  · have e1 : decide ((60 : Int) < op) = true := decide_eq_true (by omega)
    go_enter Try.func6, Try.ntmps6
    go_wp2_with (first
      | (go_at_call 9; (with_reducible refine (CA.out _).mono ?_); rintro e w1 ⟨rfl, hb1⟩)
      | fail)
    go_ret
    exact ⟨rfl, hb1⟩
  have e3 : decide ((60 : Int) < op) = false := decide_eq_false (by omega)
  by_cases d3 : n < 0
  · have e1 : decide (n < (0 : Int)) = true := decide_eq_true (by omega)
    go_enter Try.func6, Try.ntmps6
    go_wp2_with (first
      | (go_at_call 9; (with_reducible refine (CA.out _).mono ?_); rintro e w1 ⟨rfl, hb1⟩)
      | fail)
    go_ret
    exact ⟨rfl, hb1⟩
  have e4 : decide (n < (0 : Int)) = false := decide_eq_false (by omega)
  by_cases d4 : 60 < n
  · have e1 : decide ((60 : Int) < n) = true := decide_eq_true (by omega)
    go_enter Try.func6, Try.ntmps6
    go_wp2_with (first
      | (go_at_call 9; (with_reducible refine (CA.out _).mono ?_); rintro e w1 ⟨rfl, hb1⟩)
      | fail)
    go_ret
    exact ⟨rfl, hb1⟩
  have e5 : decide ((60 : Int) < n) = false := decide_eq_false (by omega)
  by_cases d5 : (m : Int) < n
  · have e1 : decide ((m : Int) < n) = true := decide_eq_true (by omega)
    go_enter Try.func6, Try.ntmps6
    go_wp2_with (first
      | (go_at_call 9; (with_reducible refine (CA.out _).mono ?_); rintro e w1 ⟨rfl, hb1⟩)
      | fail)
    go_ret
    exact ⟨rfl, hb1⟩
  have e6 : decide ((m : Int) < n) = false := decide_eq_false (by omega)
  obtain ⟨N, rfl⟩ : ∃ N : Nat, n = (N : Int) := ⟨n.toNat, by omega⟩
  obtain ⟨P, rfl⟩ : ∃ P : Nat, op = (P : Int) := ⟨op.toNat, by omega⟩
  have hbT := bytesTyC
  go_enter Try.func6, Try.ntmps6
  go_wp2_with (first
    | (go_at_call 9; (with_reducible refine (CA.out _).mono ?_); rintro e w1 ⟨rfl, hb1⟩; have N0 := Lib.hid (New_in (w0 := w) (w := w1) (o := fun _ => none) 0 (fun _ _ => rfl) hb1 (fun _ _ => rfl)))
    | (go_at_call 10; (with_reducible refine N0.out.mono ?_); rintro e w2 ⟨p, o2, rfl, h2, T2⟩; clear T2)
    | ((with_reducible refine gd_rowC ?_); refine wpList_row_val (v := .int .u8 120) rfl (.const (.int .u8 120)) rfl hbT (by decide) rfl rfl ?_; intro w3 hx3 hb3 hl3)
    | ((with_reducible refine gd_convert ?_); refine wpList_lit rfl (.tmp 42) rfl u8sTy u8Ty rfl hx3 (l := [120]) rfl rfl (Nat.le_refl _) (by decide) ?_; intro w4 hg4 hs4 B4; have hb4 := below_blk hb3 hb3.size hg4 (Nat.le_refl _); have h4 := h2.ext hb4; have F4 := Lib.hid (Free.lit (k := 0) (n := 1) (c := 1) h2.own))
    | (go_at_call 11; (with_reducible refine (App_in h4 cA (by decide) _ [120] B4 F4.out (by decide) (by decide) (by decide)).mono ?_); rintro e w5 ⟨rfl, o5, h5, T5⟩; clear T5)
    | (go_at_call 23; (with_reducible refine (Ops_in h5).mono ?_); rintro e w6 ⟨he, rfl⟩; have he2 : e = .returned (.int .i64 1) := he; clear he; subst he2)
    | (go_at_call 19; (with_reducible refine (Plan_in h5 (P : Int) 0 (.slice none 0 0) [] (by omega) (by decide) (Bools.nil _) Free.nil (by decide)).mono ?_); rintro e w7 ⟨rfl, o7, h7, T7⟩; clear T7)
    | fail)
  have HV := Lib.hid hv
  clear hv
  go_loopw [10] (fun iv wr => ∃ (i : Nat) (M : FSs) (o : Own), i ≤ N ∧ iv = .int .i64 (i : Nat) ∧ PlOk P i M ∧ FsIn 0 p M o (2 + 10 * i) (1 + i) w wr) (fun iv _ => N - (RowKit.intOf iv).toNat)
  case atStart => exact ⟨0, _, o7, Nat.zero_le _, rfl, pl0 P, h7.more (by decide) (by decide)⟩
  case round =>
    obtain ⟨i, M, o, hi, rfl, hM, hF⟩ := hrel
    by_cases hlt : i < N
    · have f0 : decide ((i : Int) < (N : Int)) = true := decide_eq_true (by omega)
      obtain ⟨ad, x, rfl, hx, hcell, x1, x2⟩ := (HV.out.ext hF.below).at_ (i := i) (by omega)
      have HX := Lib.hid hx
      clear hx
      have HM := Lib.hid hM
      obtain ⟨y, hy⟩ : ∃ y : Nat, x % 4 = y := ⟨(x % 4).toNat, by omega⟩
      have hyb : y < 4 := by omega
      have ex : bits .and .i64 x 3 = (y : Int) := by rw [i64_and3, hy]
      clear hy x1 x2
      have i1 : (0 : Int) ≤ i := by omega
      have i2 : (i : Int) < m := by omega
      have HC := Lib.hid (fun (o' : Own) (w' : World) (hF' : FsIn 0 p M o' (2 + 10 * i + 8) (1 + i) w w') => (HV.out.ext hF'.below).at_ (i := i) (by omega))
      have b0 : goesB M (isB M cNone) = false := goes_no hM.noneB
      have b1 : goesB M (isB M cNone && namedB cB) = false := goes_no (by rw [hM.noneB]; rfl)
      have b2 : goesB M (appOk M []) = false := goes_no (PlOk.empty M)
      have B0 := Lib.hid b0
      have B1 := Lib.hid b1
      have B2 := Lib.hid b2
      clear hM b0 b1 b2 hcell
      by_cases hp : i < P
      · have f1 : decide ((i : Int) < (P : Int)) = true := decide_eq_true (by omega)
        have D := Lib.hid (show decide (i < P) = true from decide_eq_true hp)
        rcases (show y = 0 ∨ y = 1 ∨ y = 2 ∨ y = 3 by omega) with rfl | rfl | rfl | rfl
        · go_wp2_with (first
            | (go_at_call 13; (with_reducible refine (Sync_in hF cNone (by decide) (by omega) (by omega)).mono ?_); rintro e wa ⟨he, oa, ha, Ta⟩; rw [B0.out] at he; subst he; rw [HM.out.sync0] at ha; clear Ta hF)
            | (go_at_call 24; (with_reducible refine (Del_in ha cNone (by decide) (by omega) (by omega)).mono ?_); rintro e wb ⟨he, ob, hb, Tb⟩; rw [B0.out] at he; subst he; rw [HM.out.del0] at hb; clear Tb ha)
            | (go_at_call 25; (with_reducible refine (Ren_in hb cNone cB (by decide) (by decide) (by omega) (by omega)).mono ?_); rintro e wc ⟨he, oc, hc, Tc⟩; rw [B1.out] at he; subst he; rw [HM.out.ren0] at hc; clear Tc hb)
            | (go_at_call 11; (with_reducible refine (App_in hc [] (by decide) (.slice none 0 0) [] (Bytes.nil _) Free.nil (by decide) (by omega) (by omega)).mono ?_); rintro e wd ⟨he, od, hd, Td⟩; rw [B2.out] at he; subst he; rw [HM.out.app0] at hd; replace hd : FsIn 0 p M od (2 + 10 * i + 8) (1 + i) w wd := hd; obtain ⟨ad', x', ea, el, hcell, _⟩ := HC.out _ _ hd; injection ea with ea; subst ea; rw [HX.out] at el; injection el with el; subst el; clear Td hc)
            | ((with_reducible refine gd_rowC ?_); refine wpList_row_val (v := .int .u8 121) rfl (.const (.int .u8 121)) rfl hbT (by decide) rfl rfl ?_; intro we hxe hbe hle)
            | ((with_reducible refine gd_convert ?_); refine wpList_lit rfl (.tmp 80) rfl u8sTy u8Ty rfl hxe (l := [121]) rfl rfl (Nat.le_refl _) (by decide) ?_; intro wf hgf hsf Bf; have hbf := below_blk hbe hbe.size hgf (Nat.le_refl _); have hf := hd.ext hbf; have Ff := Lib.hid (Free.lit (k := 0) (n := 1) (c := 1) hd.own); clear hd)
            | (go_at_call 11; (with_reducible refine (App_in hf cA (by decide) _ [121] Bf Ff.out (by decide) (by omega) (by omega)).mono ?_); rintro e wg ⟨he, og, hg, Tg⟩; rw [HM.out.goes HM.out.app, D.out] at he; subst he; have NX := Lib.hid (HM.out.appN [121]); have hN := hg.more (show _ ≤ 2 + 10 * (i + 1) by omega) (show _ ≤ 1 + (i + 1) by simp only [List.length_cons, List.length_nil]; omega); clear Tg hf hg)
            | fail)
          go_roundw
          case rel => first | exact ⟨i + 1, _, og, by omega, by go_num, NX.out, hN⟩ | ((repeat apply Exists.intro); exact ⟨⟨i + 1, _, og, by omega, by go_num, NX.out, hN⟩, rfl⟩)
          case measure => simp [RowKit.intOf]; omega
        · go_wp2_with (first
            | (go_at_call 13; (with_reducible refine (Sync_in hF cNone (by decide) (by omega) (by omega)).mono ?_); rintro e wa ⟨he, oa, ha, Ta⟩; rw [B0.out] at he; subst he; rw [HM.out.sync0] at ha; clear Ta hF)
            | (go_at_call 24; (with_reducible refine (Del_in ha cNone (by decide) (by omega) (by omega)).mono ?_); rintro e wb ⟨he, ob, hb, Tb⟩; rw [B0.out] at he; subst he; rw [HM.out.del0] at hb; clear Tb ha)
            | (go_at_call 25; (with_reducible refine (Ren_in hb cNone cB (by decide) (by decide) (by omega) (by omega)).mono ?_); rintro e wc ⟨he, oc, hc, Tc⟩; rw [B1.out] at he; subst he; rw [HM.out.ren0] at hc; clear Tc hb)
            | (go_at_call 11; (with_reducible refine (App_in hc [] (by decide) (.slice none 0 0) [] (Bytes.nil _) Free.nil (by decide) (by omega) (by omega)).mono ?_); rintro e wd ⟨he, od, hd, Td⟩; rw [B2.out] at he; subst he; rw [HM.out.app0] at hd; replace hd : FsIn 0 p M od (2 + 10 * i + 8) (1 + i) w wd := hd; obtain ⟨ad', x', ea, el, hcell, _⟩ := HC.out _ _ hd; injection ea with ea; subst ea; rw [HX.out] at el; injection el with el; subst el; clear Td hc)
            | (go_at_call 13; (with_reducible refine (Sync_in hd cA (by decide) (by omega) (by omega)).mono ?_); rintro e wg ⟨he, og, hg, Tg⟩; rw [HM.out.goes HM.out.isA, D.out] at he; subst he; have NX := Lib.hid HM.out.syncN; have hN := hg.more (show _ ≤ 2 + 10 * (i + 1) by omega) (show _ ≤ 1 + (i + 1) by omega); clear Tg hd hg)
            | fail)
          go_roundw
          case rel => first | exact ⟨i + 1, _, og, by omega, by go_num, NX.out, hN⟩ | ((repeat apply Exists.intro); exact ⟨⟨i + 1, _, og, by omega, by go_num, NX.out, hN⟩, rfl⟩)
          case measure => simp [RowKit.intOf]; omega
        · go_wp2_with (first
            | (go_at_call 13; (with_reducible refine (Sync_in hF cNone (by decide) (by omega) (by omega)).mono ?_); rintro e wa ⟨he, oa, ha, Ta⟩; rw [B0.out] at he; subst he; rw [HM.out.sync0] at ha; clear Ta hF)
            | (go_at_call 24; (with_reducible refine (Del_in ha cNone (by decide) (by omega) (by omega)).mono ?_); rintro e wb ⟨he, ob, hb, Tb⟩; rw [B0.out] at he; subst he; rw [HM.out.del0] at hb; clear Tb ha)
            | (go_at_call 25; (with_reducible refine (Ren_in hb cNone cB (by decide) (by decide) (by omega) (by omega)).mono ?_); rintro e wc ⟨he, oc, hc, Tc⟩; rw [B1.out] at he; subst he; rw [HM.out.ren0] at hc; clear Tc hb)
            | (go_at_call 11; (with_reducible refine (App_in hc [] (by decide) (.slice none 0 0) [] (Bytes.nil _) Free.nil (by decide) (by omega) (by omega)).mono ?_); rintro e wd ⟨he, od, hd, Td⟩; rw [B2.out] at he; subst he; rw [HM.out.app0] at hd; replace hd : FsIn 0 p M od (2 + 10 * i + 8) (1 + i) w wd := hd; obtain ⟨ad', x', ea, el, hcell, _⟩ := HC.out _ _ hd; injection ea with ea; subst ea; rw [HX.out] at el; injection el with el; subst el; clear Td hc)
            | (go_at_call 15; (with_reducible refine (Dir_in hd (by omega) (by omega)).mono ?_); rintro e wg ⟨he, og, hg, Tg⟩; rw [HM.out.goes rfl, D.out] at he; subst he; have NX := Lib.hid HM.out.dirN; have hN := hg.more (show _ ≤ 2 + 10 * (i + 1) by omega) (show _ ≤ 1 + (i + 1) by omega); clear Tg hd hg)
            | fail)
          go_roundw
          case rel => first | exact ⟨i + 1, _, og, by omega, by go_num, NX.out, hN⟩ | ((repeat apply Exists.intro); exact ⟨⟨i + 1, _, og, by omega, by go_num, NX.out, hN⟩, rfl⟩)
          case measure => simp [RowKit.intOf]; omega
        · go_wp2_with (first
            | (go_at_call 13; (with_reducible refine (Sync_in hF cNone (by decide) (by omega) (by omega)).mono ?_); rintro e wa ⟨he, oa, ha, Ta⟩; rw [B0.out] at he; subst he; rw [HM.out.sync0] at ha; clear Ta hF)
            | (go_at_call 24; (with_reducible refine (Del_in ha cNone (by decide) (by omega) (by omega)).mono ?_); rintro e wb ⟨he, ob, hb, Tb⟩; rw [B0.out] at he; subst he; rw [HM.out.del0] at hb; clear Tb ha)
            | (go_at_call 25; (with_reducible refine (Ren_in hb cNone cB (by decide) (by decide) (by omega) (by omega)).mono ?_); rintro e wc ⟨he, oc, hc, Tc⟩; rw [B1.out] at he; subst he; rw [HM.out.ren0] at hc; clear Tc hb)
            | (go_at_call 11; (with_reducible refine (App_in hc [] (by decide) (.slice none 0 0) [] (Bytes.nil _) Free.nil (by decide) (by omega) (by omega)).mono ?_); rintro e wd ⟨he, od, hd, Td⟩; rw [B2.out] at he; subst he; rw [HM.out.app0] at hd; replace hd : FsIn 0 p M od (2 + 10 * i + 8) (1 + i) w wd := hd; obtain ⟨ad', x', ea, el, hcell, _⟩ := HC.out _ _ hd; injection ea with ea; subst ea; rw [HX.out] at el; injection el with el; subst el; clear Td hc)
            | (go_at_call 25; (with_reducible refine (Ren_in hd cA cA (by decide) (by decide) (by omega) (by omega)).mono ?_); rintro e wg ⟨he, og, hg, Tg⟩; rw [HM.out.goes HM.out.ren, D.out] at he; subst he; have NX := Lib.hid HM.out.renN; have hN := hg.more (show _ ≤ 2 + 10 * (i + 1) by omega) (show _ ≤ 1 + (i + 1) by omega); clear Tg hd hg)
            | fail)
          go_roundw
          case rel => first | exact ⟨i + 1, _, og, by omega, by go_num, NX.out, hN⟩ | ((repeat apply Exists.intro); exact ⟨⟨i + 1, _, og, by omega, by go_num, NX.out, hN⟩, rfl⟩)
          case measure => simp [RowKit.intOf]; omega
      · have f1 : decide ((i : Int) < (P : Int)) = false := decide_eq_false (by omega)
        have D := Lib.hid (show decide (i < P) = false from decide_eq_false hp)
        rcases (show y = 0 ∨ y = 1 ∨ y = 2 ∨ y = 3 by omega) with rfl | rfl | rfl | rfl
        · go_wp2_with (first
            | (go_at_call 13; (with_reducible refine (Sync_in hF cNone (by decide) (by omega) (by omega)).mono ?_); rintro e wa ⟨he, oa, ha, Ta⟩; rw [B0.out] at he; subst he; rw [HM.out.sync0] at ha; clear Ta hF)
            | (go_at_call 24; (with_reducible refine (Del_in ha cNone (by decide) (by omega) (by omega)).mono ?_); rintro e wb ⟨he, ob, hb, Tb⟩; rw [B0.out] at he; subst he; rw [HM.out.del0] at hb; clear Tb ha)
            | (go_at_call 25; (with_reducible refine (Ren_in hb cNone cB (by decide) (by decide) (by omega) (by omega)).mono ?_); rintro e wc ⟨he, oc, hc, Tc⟩; rw [B1.out] at he; subst he; rw [HM.out.ren0] at hc; clear Tc hb)
            | (go_at_call 11; (with_reducible refine (App_in hc [] (by decide) (.slice none 0 0) [] (Bytes.nil _) Free.nil (by decide) (by omega) (by omega)).mono ?_); rintro e wd ⟨he, od, hd, Td⟩; rw [B2.out] at he; subst he; rw [HM.out.app0] at hd; replace hd : FsIn 0 p M od (2 + 10 * i + 8) (1 + i) w wd := hd; obtain ⟨ad', x', ea, el, hcell, _⟩ := HC.out _ _ hd; injection ea with ea; subst ea; rw [HX.out] at el; injection el with el; subst el; clear Td hc)
            | ((with_reducible refine gd_rowC ?_); refine wpList_row_val (v := .int .u8 121) rfl (.const (.int .u8 121)) rfl hbT (by decide) rfl rfl ?_; intro we hxe hbe hle)
            | ((with_reducible refine gd_convert ?_); refine wpList_lit rfl (.tmp 80) rfl u8sTy u8Ty rfl hxe (l := [121]) rfl rfl (Nat.le_refl _) (by decide) ?_; intro wf hgf hsf Bf; have hbf := below_blk hbe hbe.size hgf (Nat.le_refl _); have hf := hd.ext hbf; have Ff := Lib.hid (Free.lit (k := 0) (n := 1) (c := 1) hd.own); clear hd)
            | (go_at_call 11; (with_reducible refine (App_in hf cA (by decide) _ [121] Bf Ff.out (by decide) (by omega) (by omega)).mono ?_); rintro e wg ⟨he, og, hg, Tg⟩; rw [HM.out.goes HM.out.app, D.out] at he; subst he; have NX := Lib.hid (HM.out.appN [121]); have hN := hg.more (show _ ≤ 2 + 10 * (i + 1) by omega) (show _ ≤ 1 + (i + 1) by simp only [List.length_cons, List.length_nil]; omega); clear Tg hf hg)
            | fail)
          go_roundw
          case rel => first | exact ⟨i + 1, _, og, by omega, by go_num, NX.out, hN⟩ | ((repeat apply Exists.intro); exact ⟨⟨i + 1, _, og, by omega, by go_num, NX.out, hN⟩, rfl⟩)
          case measure => simp [RowKit.intOf]; omega
        · go_wp2_with (first
            | (go_at_call 13; (with_reducible refine (Sync_in hF cNone (by decide) (by omega) (by omega)).mono ?_); rintro e wa ⟨he, oa, ha, Ta⟩; rw [B0.out] at he; subst he; rw [HM.out.sync0] at ha; clear Ta hF)
            | (go_at_call 24; (with_reducible refine (Del_in ha cNone (by decide) (by omega) (by omega)).mono ?_); rintro e wb ⟨he, ob, hb, Tb⟩; rw [B0.out] at he; subst he; rw [HM.out.del0] at hb; clear Tb ha)
            | (go_at_call 25; (with_reducible refine (Ren_in hb cNone cB (by decide) (by decide) (by omega) (by omega)).mono ?_); rintro e wc ⟨he, oc, hc, Tc⟩; rw [B1.out] at he; subst he; rw [HM.out.ren0] at hc; clear Tc hb)
            | (go_at_call 11; (with_reducible refine (App_in hc [] (by decide) (.slice none 0 0) [] (Bytes.nil _) Free.nil (by decide) (by omega) (by omega)).mono ?_); rintro e wd ⟨he, od, hd, Td⟩; rw [B2.out] at he; subst he; rw [HM.out.app0] at hd; replace hd : FsIn 0 p M od (2 + 10 * i + 8) (1 + i) w wd := hd; obtain ⟨ad', x', ea, el, hcell, _⟩ := HC.out _ _ hd; injection ea with ea; subst ea; rw [HX.out] at el; injection el with el; subst el; clear Td hc)
            | (go_at_call 13; (with_reducible refine (Sync_in hd cA (by decide) (by omega) (by omega)).mono ?_); rintro e wg ⟨he, og, hg, Tg⟩; rw [HM.out.goes HM.out.isA, D.out] at he; subst he; have NX := Lib.hid HM.out.syncN; have hN := hg.more (show _ ≤ 2 + 10 * (i + 1) by omega) (show _ ≤ 1 + (i + 1) by omega); clear Tg hd hg)
            | fail)
          go_roundw
          case rel => first | exact ⟨i + 1, _, og, by omega, by go_num, NX.out, hN⟩ | ((repeat apply Exists.intro); exact ⟨⟨i + 1, _, og, by omega, by go_num, NX.out, hN⟩, rfl⟩)
          case measure => simp [RowKit.intOf]; omega
        · go_wp2_with (first
            | (go_at_call 13; (with_reducible refine (Sync_in hF cNone (by decide) (by omega) (by omega)).mono ?_); rintro e wa ⟨he, oa, ha, Ta⟩; rw [B0.out] at he; subst he; rw [HM.out.sync0] at ha; clear Ta hF)
            | (go_at_call 24; (with_reducible refine (Del_in ha cNone (by decide) (by omega) (by omega)).mono ?_); rintro e wb ⟨he, ob, hb, Tb⟩; rw [B0.out] at he; subst he; rw [HM.out.del0] at hb; clear Tb ha)
            | (go_at_call 25; (with_reducible refine (Ren_in hb cNone cB (by decide) (by decide) (by omega) (by omega)).mono ?_); rintro e wc ⟨he, oc, hc, Tc⟩; rw [B1.out] at he; subst he; rw [HM.out.ren0] at hc; clear Tc hb)
            | (go_at_call 11; (with_reducible refine (App_in hc [] (by decide) (.slice none 0 0) [] (Bytes.nil _) Free.nil (by decide) (by omega) (by omega)).mono ?_); rintro e wd ⟨he, od, hd, Td⟩; rw [B2.out] at he; subst he; rw [HM.out.app0] at hd; replace hd : FsIn 0 p M od (2 + 10 * i + 8) (1 + i) w wd := hd; obtain ⟨ad', x', ea, el, hcell, _⟩ := HC.out _ _ hd; injection ea with ea; subst ea; rw [HX.out] at el; injection el with el; subst el; clear Td hc)
            | (go_at_call 15; (with_reducible refine (Dir_in hd (by omega) (by omega)).mono ?_); rintro e wg ⟨he, og, hg, Tg⟩; rw [HM.out.goes rfl, D.out] at he; subst he; have NX := Lib.hid HM.out.dirN; have hN := hg.more (show _ ≤ 2 + 10 * (i + 1) by omega) (show _ ≤ 1 + (i + 1) by omega); clear Tg hd hg)
            | fail)
          go_roundw
          case rel => first | exact ⟨i + 1, _, og, by omega, by go_num, NX.out, hN⟩ | ((repeat apply Exists.intro); exact ⟨⟨i + 1, _, og, by omega, by go_num, NX.out, hN⟩, rfl⟩)
          case measure => simp [RowKit.intOf]; omega
        · go_wp2_with (first
            | (go_at_call 13; (with_reducible refine (Sync_in hF cNone (by decide) (by omega) (by omega)).mono ?_); rintro e wa ⟨he, oa, ha, Ta⟩; rw [B0.out] at he; subst he; rw [HM.out.sync0] at ha; clear Ta hF)
            | (go_at_call 24; (with_reducible refine (Del_in ha cNone (by decide) (by omega) (by omega)).mono ?_); rintro e wb ⟨he, ob, hb, Tb⟩; rw [B0.out] at he; subst he; rw [HM.out.del0] at hb; clear Tb ha)
            | (go_at_call 25; (with_reducible refine (Ren_in hb cNone cB (by decide) (by decide) (by omega) (by omega)).mono ?_); rintro e wc ⟨he, oc, hc, Tc⟩; rw [B1.out] at he; subst he; rw [HM.out.ren0] at hc; clear Tc hb)
            | (go_at_call 11; (with_reducible refine (App_in hc [] (by decide) (.slice none 0 0) [] (Bytes.nil _) Free.nil (by decide) (by omega) (by omega)).mono ?_); rintro e wd ⟨he, od, hd, Td⟩; rw [B2.out] at he; subst he; rw [HM.out.app0] at hd; replace hd : FsIn 0 p M od (2 + 10 * i + 8) (1 + i) w wd := hd; obtain ⟨ad', x', ea, el, hcell, _⟩ := HC.out _ _ hd; injection ea with ea; subst ea; rw [HX.out] at el; injection el with el; subst el; clear Td hc)
            | (go_at_call 25; (with_reducible refine (Ren_in hd cA cA (by decide) (by decide) (by omega) (by omega)).mono ?_); rintro e wg ⟨he, og, hg, Tg⟩; rw [HM.out.goes HM.out.ren, D.out] at he; subst he; have NX := Lib.hid HM.out.renN; have hN := hg.more (show _ ≤ 2 + 10 * (i + 1) by omega) (show _ ≤ 1 + (i + 1) by omega); clear Tg hd hg)
            | fail)
          go_roundw
          case rel => first | exact ⟨i + 1, _, og, by omega, by go_num, NX.out, hN⟩ | ((repeat apply Exists.intro); exact ⟨⟨i + 1, _, og, by omega, by go_num, NX.out, hN⟩, rfl⟩)
          case measure => simp [RowKit.intOf]; omega
    · obtain rfl : i = N := by omega
      have f0 : decide ((i : Int) < (i : Int)) = false := decide_eq_false (by omega)
      by_cases hp : P < i
      · have f1 : decide ((P : Int) < (i : Int)) = true := decide_eq_true (by omega)
        obtain ⟨g1, g2⟩ := hM.gone hp
        go_wp2_with (first
          | (go_at_call 23; (with_reducible refine (Ops_in hF).mono ?_); rintro e w8 ⟨he, rfl⟩; rw [g2] at he; subst he)
          | (go_at_call 26; (with_reducible refine (Dead_in hF).mono ?_); rintro e w9 ⟨he, rfl⟩; rw [g1] at he; subst he)
          | fail)
        go_ret
        exact ⟨by simp, hF.below⟩
      · have f1 : decide ((P : Int) < (i : Int)) = false := decide_eq_false (by omega)
        obtain ⟨g1, _, g2, _⟩ := hM.live (by omega)
        go_wp2_with (first
          | (go_at_call 23; (with_reducible refine (Ops_in hF).mono ?_); rintro e w8 ⟨he, rfl⟩; rw [g2] at he; subst he)
          | (go_at_call 26; (with_reducible refine (Dead_in hF).mono ?_); rintro e w9 ⟨he, rfl⟩; rw [g1] at he; subst he)
          | fail)
        go_ret
        exact ⟨by simp, hF.below⟩
open Go.ChangeShapes Go.WideShapes Go.ChangeAt

set_option maxRecDepth 100000 in
theorem lifted (os : Os) (started : os.Started) (H : Type) (enc : TypeId × Value → H) :
    ReturnsInHanded {} Try.checked os 6 .any (Rows.filesPlansSpec.pre6 enc Try.prog Try.f6 Rows.filesPlansRow.domain false) (Rows.filesPlansSpec.post enc Try.prog Try.f6 false true false false) := by
  refine law_lift (C := Try.checked) (ts := [3, 3, 29]) (tb := 4) (by kernel_rfl) started (by kernel_rfl) Try.func6
    (ChangeSpec.witness6 (enc := enc) (C := Try.checked) false ⟨#[], #[.int .i64 0, .int .i64 0, .slice none 0 0], []⟩ 8 (by kernel_rfl) (by kernel_rfl) (by kernel_rfl) (by kernel_rfl))
    (by kernel_rfl) (by kernel_rfl) (by kernel_rfl) (by kernel_rfl) Try.underlying4 rfl (fun ds h => by match ds, h with | [_, _, _], _ => rfl) ?_
  intro W vs hl h
  match vs, hl with
  | [v0, v1, v2], _ =>
    obtain ⟨op, rfl, hop⟩ := arg_int Try.underlying3 (h 0 _ v0 rfl rfl)
    obtain ⟨n, rfl, hn⟩ := arg_int Try.underlying3 (h 1 _ v1 rfl rfl)
    have hwh := h 2 _ v2 rfl rfl
    obtain ⟨l, hl'⟩ := arg_slice Try.underlying29 (by kernel_rfl) (opens_int enc 0 (fun _ => true) true Try.underlying3) hwh
    exact walk op n _ l W (Ints.of_slice hl')

theorem over : Rows.filesPlansRow.holds Try.pinned (OpenSpec.ofChange Rows.filesPlansSpec) :=
  OpenClaim.holds_of_wide 6 Try.f6 rfl rfl rfl rfl rfl rfl rfl ⟨rfl, rfl, rfl, rfl, rfl⟩ rfl rfl rfl rfl rfl (by kernel_rfl) Try.func6 (by kernel_rfl)
    (of_decide_eq_true (by kernel_rfl)) (by unfold Func.isWrapper; first | (rw [if_pos (by decide +kernel)]; kernel_rfl) | (rw [if_neg (by decide +kernel)]; exact ⟨rfl, rfl⟩))
    (fun os started H enc _ => lifted os started H enc)
end Go.Proofs.Ytdkccaiahgfjoaa.FilesPlans
namespace Go.Proofs.Ytdkccaiahgfjoaa
theorem filesPlans_holds : Rows.FilesPlansSaid := FilesPlans.over
#print axioms filesPlans_holds
end Go.Proofs.Ytdkccaiahgfjoaa
