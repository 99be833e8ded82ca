/- The walks of word's functions of two words: SDiv, SMod. -/
import Derived.Test.YtcmhbolonhhhoaaWordDivs
import Derived.Deep.Cut
namespace Go.Mun
open Go Go.RowKit Go.Proofs

set_option maxRecDepth 100000 in
set_option maxHeartbeats 1000000 in
theorem SDiv_zero (a b : Nat) (w : World) (ha : a < 2 ^ 256) (hb : b < 2 ^ 256) (hb0 : absN b = 0) : Calls Try.prog 42 #[.agg (wcells a), .agg (wcells b)] w fun e w' => e = .returned (.agg (wcells 0)) ∧ Below w.heap.size w w' := by
  have hW := wordTy
  have hN := numTy
  have zW := zWordL
  have zN := zNumL
  have HSN := Lib.hid limbsV_size
  have H1N := Lib.hid limbsV_one
  have HSW := Lib.hid wcells_size
  have H1W := Lib.hid wcells_one
  have HFr := Lib.hid from_any
  have HWd := Lib.hid word_any
  have CAbsA := Lib.hid (fun w => abs_any a w ha)
  have CAbsB := Lib.hid (fun w => abs_any b w hb)
  have hn := absN_lt ha
  have hm := absN_lt hb
  generalize absN a = n at *
  generalize absN b = m at *
  generalize hsa : decide (2 ^ 255 ≤ a) = sa at *
  generalize hsb : decide (2 ^ 255 ≤ b) = sb at *
  clear hsa hsb
  have hEq := fun w => eq_num0 m hm w
  rw [decide_eq_true hb0] at hEq
  clear hb0
  have tokE : True := trivial
  go_enter Try.func42, Try.ntmps42
  go_upto_region 1 with (first
    | ((with_reducible refine gd_box ?_); have _t := tokE; refine wpList_box_agg rfl _ (.tmp 0) rfl rfl ?_; clear tokE; intro w1 hx1 hb1 hl1)
    | ((with_reducible refine gd_box ?_); refine wpList_box_agg rfl _ (.tmp 1) rfl rfl ?_; intro w2 hx2 hb2 hl2)
    | ((with_reducible refine gd_alloc ?_); refine wpList_alloc_blk rfl 23 rfl zW ?_; intro w3 hx3 hb3 hl3)
    | fail)
  replace hx3 : Blk w3 w2.heap.size 23 (wcells 0) := hx3
  have hx1' := (hx1.ext hb2).ext hb3
  have hx2' := hx2.ext hb3
  have hB3 := below_step (below_step hb1 hb2) hb3
  have hg1 := hx1.lt
  have hg2 := hx2.lt
  have hg3 := hx3.lt
  have tok1 : True := trivial
  have tok2 : True := trivial
  have tok3 : True := trivial
  have tok4 : True := trivial
  have tok5 : True := trivial
  have tok6 : True := trivial
  have tok7 : True := trivial
  go_wp2_with (first
    | ((with_reducible refine gd_load ?_); have _t := tok1; refine wpList_load_blk rfl 23 (.tmp 2) rfl hx1' (by rw [HSW.out]; exact hW) rfl ?_; clear tok1)
    | (go_at_call 47; have _t := tok2; refine (HFr.out a _ ha).mono ?_; clear tok2; rintro e w4 ⟨rfl, hb4⟩)
    | (go_at_call 70; have _t := tok3; refine (CAbsA.out _).mono ?_; clear tok3; rintro e w5 ⟨rfl, hb5⟩)
    | ((with_reducible refine gd_alloc ?_); have _t := tok4; refine wpList_alloc_blk rfl 39 rfl zN ?_; clear tok4; intro w6 hx6 hb6 hl6)
    | ((with_reducible refine gd_store ?_); have _t := tok5; refine wpList_store_all rfl 39 (.tmp 5) (.tmp 15) rfl (limbsV n) hx6 (by rw [HSN.out]; exact hN) (by rw [HSN.out]; exact HSN.out 0) (H1N.out _) (by rfl) (by rfl) ?_; clear tok5; intro w7 hx7 hg7)
    | ((with_reducible refine gd_load ?_); have _t := tok6; refine wpList_load_blk rfl 23 (.tmp 3) rfl (((((hx2'.ext hb4).ext hb5).ext hb6).grown hg7 (by have := hb4.size; have := hb5.size; simp; omega))) (by rw [HSW.out]; exact hW) rfl ?_; clear tok6)
    | (go_at_call 47; refine (HFr.out b _ hb).mono ?_; rintro e w8 ⟨rfl, hb8⟩)
    | (go_at_call 70; refine (CAbsB.out _).mono ?_; rintro e w9 ⟨rfl, hb9⟩)
    | ((with_reducible refine gd_alloc ?_); refine wpList_alloc_blk rfl 39 rfl zN ?_; intro w10 hx10 hb10 hl10)
    | ((with_reducible refine gd_store ?_); have _t := tok7; refine wpList_store_all rfl 39 (.tmp 7) (.tmp 21) rfl (limbsV m) hx10 (by rw [HSN.out]; exact hN) (by rw [HSN.out]; exact HSN.out 0) (H1N.out _) (by rfl) (by rfl) ?_; clear tok7; intro w11 hx11 hg11)
    | ((with_reducible refine gd_load ?_); refine wpList_load_blk rfl 39 (.tmp 7) rfl hx11 (by rw [HSN.out]; exact hN) rfl ?_)
    | ((with_reducible refine gd_store ?_); refine wpList_store_all rfl 23 (.tmp 4) (.tmp 26) rfl (wcells 0) ((((((((hx3.ext hb4).ext hb5).ext hb6).grown hg7 (by have := hb4.size; have := hb5.size; simp; omega)).ext hb8).ext hb9).ext hb10).grown hg11 (by have := hb4.size; have := hb5.size; have := hb8.size; have := hb9.size; have := hg7.size; simp; omega)) (by rw [HSW.out]; exact hW) (by rw [HSW.out]) (H1W.out _) (by rfl) (by rfl) ?_; intro wf hxf hgf)
    | fail)
  have hs4 := hb4.size
  have hs5 := hb5.size
  have hs8 := hb8.size
  have hs9 := hb9.size
  have hs7 := hg7.size
  have hs11 := hg11.size
  have hl3' := hx3.lt
  have hB5 := below_step (below_step hB3 hb4) hb5
  have hB6 := below_step hB5 hb6
  have hB7 := below_blk hB6 hB6.size hg7 (by omega)
  have hB9 := below_step (below_step hB7 hb8) hb9
  have hB10 := below_step hB9 hb10
  have hBz := below_blk hB10 hB10.size hg11 (by omega)
  have hx3z := ((((((((hx3.ext hb4).ext hb5).ext hb6).grown hg7 (by simp; omega)).ext hb8).ext hb9).ext hb10).grown hg11 (by simp; omega))
  have hx5z := (((hx7.ext hb8).ext hb9).ext hb10).grown hg11 (by simp; omega)
  have hBf := below_blk hBz hBz.size hgf (by omega)
  exact bodyPost_ret (results_blk1 (cs := wcells 0) rfl (by rw [HSW.out]; exact hW) hxf rfl) rfl ⟨rfl, hBf⟩
set_option maxRecDepth 100000 in
set_option maxHeartbeats 2000000 in
theorem SDiv_pos (a b : Nat) (w : World) (ha : a < 2 ^ 256) (hb : b < 2 ^ 256) (hb0 : absN b ≠ 0) : Calls Try.prog 42 #[.agg (wcells a), .agg (wcells b)] w fun e w' => e = .returned (.agg (wcells (if (decide (2 ^ 255 ≤ a) != decide (2 ^ 255 ≤ b)) = true then negN (absN a / absN b % 2 ^ 256) else absN a / absN b % 2 ^ 256))) ∧ Below w.heap.size w w' := by
  have hW := wordTy
  have hN := numTy
  have zW := zWordL
  have zN := zNumL
  have HSN := Lib.hid limbsV_size
  have H1N := Lib.hid limbsV_one
  have HSW := Lib.hid wcells_size
  have H1W := Lib.hid wcells_one
  have HFr := Lib.hid from_any
  have HWd := Lib.hid word_any
  have CAbsA := Lib.hid (fun w => abs_any a w ha)
  have CAbsB := Lib.hid (fun w => abs_any b w hb)
  have hn := absN_lt ha
  have hm := absN_lt hb
  generalize absN a = n at *
  generalize absN b = m at *
  generalize hsa : decide (2 ^ 255 ≤ a) = sa at *
  generalize hsb : decide (2 ^ 255 ≤ b) = sb at *
  clear hsa hsb
  have hEq := fun w => eq_num0 m hm w
  rw [decide_eq_false hb0] at hEq
  have CDiv := Lib.hid (fun (w : World) (g : Nat) (hx : Blk w g 39 (limbsV n)) => divide_any n m 4 4 ⟨g, 0, none⟩ w (Nat.pos_of_ne_zero hb0) hm (by decide) (by decide) hn (by rw [limbsV_tab] at hx; exact hx.rd))
  have hq : n / m % 2 ^ 256 < 2 ^ 256 := Nat.mod_lt _ (by decide)
  have hr : n % m < 2 ^ 256 := Nat.lt_trans (Nat.mod_lt _ (Nat.pos_of_ne_zero hb0)) hm
  clear hb0
  generalize n / m % 2 ^ 256 = q at *
  generalize n % m = r at *
  have CSig := Lib.hid (fun w => signed_any q (sa != sb) w hq)
  have HLT := Lib.hid (show (if (sa != sb) = true then negN q else q) < 2 ^ 256 from by split; exact negN_lt _; exact hq)
  generalize (if (sa != sb) = true then negN q else q) = u at *
  have tokE : True := trivial
  go_enter Try.func42, Try.ntmps42
  go_upto_region 1 with (first
    | ((with_reducible refine gd_box ?_); have _t := tokE; refine wpList_box_agg rfl _ (.tmp 0) rfl rfl ?_; clear tokE; intro w1 hx1 hb1 hl1)
    | ((with_reducible refine gd_box ?_); refine wpList_box_agg rfl _ (.tmp 1) rfl rfl ?_; intro w2 hx2 hb2 hl2)
    | ((with_reducible refine gd_alloc ?_); refine wpList_alloc_blk rfl 23 rfl zW ?_; intro w3 hx3 hb3 hl3)
    | fail)
  replace hx3 : Blk w3 w2.heap.size 23 (wcells 0) := hx3
  have hx1' := (hx1.ext hb2).ext hb3
  have hx2' := hx2.ext hb3
  have hB3 := below_step (below_step hb1 hb2) hb3
  have hg1 := hx1.lt
  have hg2 := hx2.lt
  have hg3 := hx3.lt
  have tok1 : True := trivial
  have tok2 : True := trivial
  have tok3 : True := trivial
  have tok4 : True := trivial
  have tok5 : True := trivial
  have tok6 : True := trivial
  have tok7 : True := trivial
  go_wp2_with (first
    | ((with_reducible refine gd_load ?_); have _t := tok1; refine wpList_load_blk rfl 23 (.tmp 2) rfl hx1' (by rw [HSW.out]; exact hW) rfl ?_; clear tok1)
    | (go_at_call 47; have _t := tok2; refine (HFr.out a _ ha).mono ?_; clear tok2; rintro e w4 ⟨rfl, hb4⟩)
    | (go_at_call 70; have _t := tok3; refine (CAbsA.out _).mono ?_; clear tok3; rintro e w5 ⟨rfl, hb5⟩)
    | ((with_reducible refine gd_alloc ?_); have _t := tok4; refine wpList_alloc_blk rfl 39 rfl zN ?_; clear tok4; intro w6 hx6 hb6 hl6)
    | ((with_reducible refine gd_store ?_); have _t := tok5; refine wpList_store_all rfl 39 (.tmp 5) (.tmp 15) rfl (limbsV n) hx6 (by rw [HSN.out]; exact hN) (by rw [HSN.out]; exact HSN.out 0) (H1N.out _) (by rfl) (by rfl) ?_; clear tok5; intro w7 hx7 hg7)
    | ((with_reducible refine gd_load ?_); have _t := tok6; refine wpList_load_blk rfl 23 (.tmp 3) rfl (((((hx2'.ext hb4).ext hb5).ext hb6).grown hg7 (by have := hb4.size; have := hb5.size; simp; omega))) (by rw [HSW.out]; exact hW) rfl ?_; clear tok6)
    | (go_at_call 47; refine (HFr.out b _ hb).mono ?_; rintro e w8 ⟨rfl, hb8⟩)
    | (go_at_call 70; refine (CAbsB.out _).mono ?_; rintro e w9 ⟨rfl, hb9⟩)
    | ((with_reducible refine gd_alloc ?_); refine wpList_alloc_blk rfl 39 rfl zN ?_; intro w10 hx10 hb10 hl10)
    | ((with_reducible refine gd_store ?_); have _t := tok7; refine wpList_store_all rfl 39 (.tmp 7) (.tmp 21) rfl (limbsV m) hx10 (by rw [HSN.out]; exact hN) (by rw [HSN.out]; exact HSN.out 0) (H1N.out _) (by rfl) (by rfl) ?_; clear tok7; intro w11 hx11 hg11)
    | ((with_reducible refine gd_load ?_); refine wpList_load_blk rfl 39 (.tmp 7) rfl hx11 (by rw [HSN.out]; exact hN) rfl ?_)
    | fail)
  have hs4 := hb4.size
  have hs5 := hb5.size
  have hs8 := hb8.size
  have hs9 := hb9.size
  have hs7 := hg7.size
  have hs11 := hg11.size
  have hl3' := hx3.lt
  have hB5 := below_step (below_step hB3 hb4) hb5
  have hB6 := below_step hB5 hb6
  have hB7 := below_blk hB6 hB6.size hg7 (by omega)
  have hB9 := below_step (below_step hB7 hb8) hb9
  have hB10 := below_step hB9 hb10
  have hBz := below_blk hB10 hB10.size hg11 (by omega)
  have hx3z := ((((((((hx3.ext hb4).ext hb5).ext hb6).grown hg7 (by simp; omega)).ext hb8).ext hb9).ext hb10).grown hg11 (by simp; omega))
  have hx5z := (((hx7.ext hb8).ext hb9).ext hb10).grown hg11 (by simp; omega)
  refine wp_region_made (w := w11) (B := w.heap.size) (wB := w) [.val (.slice (some ⟨w5.heap.size, 0, none⟩) 4 4), .val (.agg (limbsV m)), .val (.tuple #[.agg (limbsV q), .agg (limbsV r)]), .val (.tuple #[.agg (limbsV q), .agg (limbsV r)]), .val (.agg (limbsV q)), .val (.agg (limbsV r)), .new 39 (limbsV 0) (limbsV q), .new 39 (limbsV 0) (limbsV r), .putN 6, .putN 7] (by kernel_rfl) (by kernel_rfl) (by kernel_rfl) rfl (by kernel_rfl) rfl hBz.size hBz List.nodup_nil (fun g hg => nomatch hg) trivial ?_ ?_
  · refine ⟨?_, ?_, ?_, ?_, ?_, ?_, ?_, ?_, ?_, ?_, trivial⟩
    · intro G wx fr hway _ hs hdef hsz
      have s5 : fr.tmps[5]? = some (.pointer (some ⟨w5.heap.size, 0, none⟩)) := hs.1
      clear hs
      refine ⟨?_⟩
      go_wp2
      exact kp_post hsz (Below.refl _ _)
    · intro G wx fr hway _ hs hdef hsz
      have s7 : fr.tmps[7]? = some (.pointer (some ⟨w9.heap.size, 0, none⟩)) := hs.1
      clear hs
      refine ⟨?_⟩
      refine wpList_load_blk rfl 39 (.tmp 7) rfl (way_blk hway hx11 (by first | exact hx11.lt | omega) (by simp [heldBy, Knd.blockOf])) (by rw [HSN.out]; exact hN) (by simp [Act.eval, s7]) ?_
      refine wpList_nil ?_
      exact kp_val hdef hsz (Below.refl _ _)
    · intro G wx fr hway _ hs hdef hsz
      have s28 : fr.tmps[28]? = some (.slice (some ⟨w5.heap.size, 0, none⟩) 4 4) := hs.1
      have s29 : fr.tmps[29]? = some (.agg (limbsV m)) := hs.2.1
      clear hs
      refine ⟨?_⟩
      go_wp2_with fail
      refine (CDiv.out wx w5.heap.size (way_blk hway hx5z hx5z.lt (by simp [heldBy, Knd.blockOf]))).mono ?_
      rintro e w2 ⟨rfl, hb2⟩
      go_wp2
      exact kp_post hsz hb2
    · intro G wx fr hway _ hs hdef hsz
      have s30 : fr.tmps[30]? = some (.tuple #[.agg (limbsV q), .agg (limbsV r)]) := hs.1
      clear hs
      refine ⟨?_⟩
      go_wp2
      exact kp_post hsz (Below.refl _ _)
    · intro G wx fr hway _ hs hdef hsz
      have s27 : fr.tmps[27]? = some (.tuple #[.agg (limbsV q), .agg (limbsV r)]) := hs.1
      clear hs
      refine ⟨?_⟩
      go_wp2
      exact kp_post hsz (Below.refl _ _)
    · intro G wx fr hway _ hs hdef hsz
      have s27 : fr.tmps[27]? = some (.tuple #[.agg (limbsV q), .agg (limbsV r)]) := hs.1
      clear hs
      refine ⟨?_⟩
      go_wp2
      exact kp_post hsz (Below.refl _ _)
    · intro G wx fr hway _ hs hdef hsz
      clear hs
      refine ⟨?_⟩
      refine wpList_alloc_blk rfl 39 rfl zN ?_
      intro wy hxy hby _
      refine wpList_nil ?_
      exact kp_new hdef hsz hby hxy
    · intro G wx fr hway _ hs hdef hsz
      clear hs
      refine ⟨?_⟩
      refine wpList_alloc_blk rfl 39 rfl zN ?_
      intro wy hxy hby _
      refine wpList_nil ?_
      exact kp_new hdef hsz hby hxy
    · intro G wx fr hway hpre hs hdef hsz
      have s9 : fr.tmps[9]? = some (.pointer (some ⟨G 6, 0, none⟩)) := hs.1
      have s31 : fr.tmps[31]? = some (.agg (limbsV q)) := hs.2.1
      clear hs
      have hpre' : Blk wx (G 6) 39 (limbsV 0) := hpre
      refine ⟨?_⟩
      refine wpList_store_all rfl 39 (.tmp 9) (.tmp 31) rfl (limbsV q) hpre' (by rw [HSN.out]; exact hN) (by rw [HSN.out, HSN.out]) (H1N.out _) (by simp [Act.eval, s9]) (by simp [Act.eval, s31]) ?_
      intro wy hxy hgy
      refine wpList_nil ?_
      exact ⟨rfl, hdef, rfl, hxy, hgy⟩
    · intro G wx fr hway hpre hs hdef hsz
      have s10 : fr.tmps[10]? = some (.pointer (some ⟨G 7, 0, none⟩)) := hs.1
      have s32 : fr.tmps[32]? = some (.agg (limbsV r)) := hs.2.1
      clear hs
      have hpre' : Blk wx (G 7) 39 (limbsV 0) := hpre
      refine ⟨?_⟩
      refine wpList_store_all rfl 39 (.tmp 10) (.tmp 32) rfl (limbsV r) hpre' (by rw [HSN.out]; exact hN) (by rw [HSN.out, HSN.out]) (H1N.out _) (by simp [Act.eval, s10]) (by simp [Act.eval, s32]) ?_
      intro wy hxy hgy
      refine wpList_nil ?_
      exact ⟨rfl, hdef, rfl, hxy, hgy⟩
  · intro G V wy hval hway hmade hap
    replace hval : V 0 = .slice (some ⟨w5.heap.size, 0, none⟩) 4 4 ∧ V 1 = .agg (limbsV m) ∧ V 2 = .tuple #[.agg (limbsV q), .agg (limbsV r)] ∧ V 3 = .tuple #[.agg (limbsV q), .agg (limbsV r)] ∧ V 4 = .agg (limbsV q) ∧ V 5 = .agg (limbsV r) ∧ V 6 = .pointer (some ⟨G 6, 0, none⟩) ∧ V 7 = .pointer (some ⟨G 7, 0, none⟩) ∧ V 8 = undef ∧ V 9 = undef ∧ True := hval
    replace hmade : (w11.heap.size ≤ G 6 ∧ G 6 < wy.heap.size ∧ Blk wy (G 6) 39 (limbsV q)) ∧ (w11.heap.size ≤ G 7 ∧ G 7 < wy.heap.size ∧ Blk wy (G 7) 39 (limbsV r)) ∧ True := hmade
    obtain ⟨e0, e1, e2, e3, e4, e5, e6, e7, e8, e9, -⟩ := hval
    obtain ⟨⟨hg6, hl6, hx_6⟩, ⟨hg7, hl7, hx_7⟩, -⟩ := hmade
    have ha6_7 : G 6 ≠ G 7 := hap 6 7 _ _ _ _ _ _ rfl rfl (by decide)
    clear hap
    simp only [fill, Act.put, e0, e1, e2, e3, e4, e5, e6, e7]
    clear e0 e1 e2 e3 e4 e5 e6 e7 e8 e9
    simp only [Exit.then]
    go_simp
    generalize G 6 = g6 at *
    generalize G 7 = g7 at *
    clear G V
    replace hx3z := way_blk hway hx3z (by omega) (by simp [heldBy, Knd.blockOf])
    have hBy := hway.2.2
    have hszy := hway.1
    clear hway
    go_wp2_with (first
      | ((with_reducible refine gd_load ?_); refine wpList_load_blk rfl 39 (.tmp 9) rfl hx_6 (by rw [HSN.out]; exact hN) rfl ?_)
      | (go_at_call 71; refine (CSig.out _).mono ?_; rintro e w12 ⟨rfl, hb12⟩)
      | (go_at_call 46; refine (HWd.out u _ HLT.out).mono ?_; rintro e w13 ⟨rfl, hb13⟩)
      | ((with_reducible refine gd_store ?_); refine wpList_store_all rfl 23 (.tmp 4) (.tmp 38) rfl (wcells u) ((hx3z.ext hb12).ext hb13) (by rw [HSW.out]; exact hW) (by rw [HSW.out]; exact HSW.out 0) (H1W.out _) (by rfl) (by rfl) ?_; intro wf hxf hgf)
      | fail)
    have hB13 := below_step (below_step hBy hb12) hb13
    have hBf := below_blk hB13 hB13.size hgf (by omega)
    exact bodyPost_ret (results_blk1 (cs := wcells u) rfl (by rw [HSW.out]; exact hW) hxf rfl) rfl ⟨rfl, hBf⟩
set_option maxRecDepth 100000 in
set_option maxHeartbeats 1000000 in
theorem SMod_zero (a b : Nat) (w : World) (ha : a < 2 ^ 256) (hb : b < 2 ^ 256) (hb0 : absN b = 0) : Calls Try.prog 43 #[.agg (wcells a), .agg (wcells b)] w fun e w' => e = .returned (.agg (wcells 0)) ∧ Below w.heap.size w w' := by
  have hW := wordTy
  have hN := numTy
  have zW := zWordL
  have zN := zNumL
  have HSN := Lib.hid limbsV_size
  have H1N := Lib.hid limbsV_one
  have HSW := Lib.hid wcells_size
  have H1W := Lib.hid wcells_one
  have HFr := Lib.hid from_any
  have HWd := Lib.hid word_any
  have CAbsA := Lib.hid (fun w => abs_any a w ha)
  have CAbsB := Lib.hid (fun w => abs_any b w hb)
  have hn := absN_lt ha
  have hm := absN_lt hb
  generalize absN a = n at *
  generalize absN b = m at *
  generalize hsa : decide (2 ^ 255 ≤ a) = sa at *
  generalize hsb : decide (2 ^ 255 ≤ b) = sb at *
  clear hsa hsb
  have hEq := fun w => eq_num0 m hm w
  rw [decide_eq_true hb0] at hEq
  clear hb0
  have tokE : True := trivial
  go_enter Try.func43, Try.ntmps43
  go_upto_region 1 with (first
    | ((with_reducible refine gd_box ?_); have _t := tokE; refine wpList_box_agg rfl _ (.tmp 0) rfl rfl ?_; clear tokE; intro w1 hx1 hb1 hl1)
    | ((with_reducible refine gd_box ?_); refine wpList_box_agg rfl _ (.tmp 1) rfl rfl ?_; intro w2 hx2 hb2 hl2)
    | ((with_reducible refine gd_alloc ?_); refine wpList_alloc_blk rfl 23 rfl zW ?_; intro w3 hx3 hb3 hl3)
    | fail)
  replace hx3 : Blk w3 w2.heap.size 23 (wcells 0) := hx3
  have hx1' := (hx1.ext hb2).ext hb3
  have hx2' := hx2.ext hb3
  have hB3 := below_step (below_step hb1 hb2) hb3
  have hg1 := hx1.lt
  have hg2 := hx2.lt
  have hg3 := hx3.lt
  have tok1 : True := trivial
  have tok2 : True := trivial
  have tok3 : True := trivial
  have tok4 : True := trivial
  have tok5 : True := trivial
  have tok6 : True := trivial
  have tok7 : True := trivial
  go_wp2_with (first
    | ((with_reducible refine gd_load ?_); have _t := tok1; refine wpList_load_blk rfl 23 (.tmp 2) rfl hx1' (by rw [HSW.out]; exact hW) rfl ?_; clear tok1)
    | (go_at_call 47; have _t := tok2; refine (HFr.out a _ ha).mono ?_; clear tok2; rintro e w4 ⟨rfl, hb4⟩)
    | (go_at_call 70; have _t := tok3; refine (CAbsA.out _).mono ?_; clear tok3; rintro e w5 ⟨rfl, hb5⟩)
    | ((with_reducible refine gd_alloc ?_); have _t := tok4; refine wpList_alloc_blk rfl 39 rfl zN ?_; clear tok4; intro w6 hx6 hb6 hl6)
    | ((with_reducible refine gd_store ?_); have _t := tok5; refine wpList_store_all rfl 39 (.tmp 5) (.tmp 15) rfl (limbsV n) hx6 (by rw [HSN.out]; exact hN) (by rw [HSN.out]; exact HSN.out 0) (H1N.out _) (by rfl) (by rfl) ?_; clear tok5; intro w7 hx7 hg7)
    | ((with_reducible refine gd_load ?_); have _t := tok6; refine wpList_load_blk rfl 23 (.tmp 3) rfl (((((hx2'.ext hb4).ext hb5).ext hb6).grown hg7 (by have := hb4.size; have := hb5.size; simp; omega))) (by rw [HSW.out]; exact hW) rfl ?_; clear tok6)
    | (go_at_call 47; refine (HFr.out b _ hb).mono ?_; rintro e w8 ⟨rfl, hb8⟩)
    | (go_at_call 70; refine (CAbsB.out _).mono ?_; rintro e w9 ⟨rfl, hb9⟩)
    | ((with_reducible refine gd_alloc ?_); refine wpList_alloc_blk rfl 39 rfl zN ?_; intro w10 hx10 hb10 hl10)
    | ((with_reducible refine gd_store ?_); have _t := tok7; refine wpList_store_all rfl 39 (.tmp 7) (.tmp 21) rfl (limbsV m) hx10 (by rw [HSN.out]; exact hN) (by rw [HSN.out]; exact HSN.out 0) (H1N.out _) (by rfl) (by rfl) ?_; clear tok7; intro w11 hx11 hg11)
    | ((with_reducible refine gd_load ?_); refine wpList_load_blk rfl 39 (.tmp 7) rfl hx11 (by rw [HSN.out]; exact hN) rfl ?_)
    | ((with_reducible refine gd_store ?_); refine wpList_store_all rfl 23 (.tmp 4) (.tmp 26) rfl (wcells 0) ((((((((hx3.ext hb4).ext hb5).ext hb6).grown hg7 (by have := hb4.size; have := hb5.size; simp; omega)).ext hb8).ext hb9).ext hb10).grown hg11 (by have := hb4.size; have := hb5.size; have := hb8.size; have := hb9.size; have := hg7.size; simp; omega)) (by rw [HSW.out]; exact hW) (by rw [HSW.out]) (H1W.out _) (by rfl) (by rfl) ?_; intro wf hxf hgf)
    | fail)
  have hs4 := hb4.size
  have hs5 := hb5.size
  have hs8 := hb8.size
  have hs9 := hb9.size
  have hs7 := hg7.size
  have hs11 := hg11.size
  have hl3' := hx3.lt
  have hB5 := below_step (below_step hB3 hb4) hb5
  have hB6 := below_step hB5 hb6
  have hB7 := below_blk hB6 hB6.size hg7 (by omega)
  have hB9 := below_step (below_step hB7 hb8) hb9
  have hB10 := below_step hB9 hb10
  have hBz := below_blk hB10 hB10.size hg11 (by omega)
  have hx3z := ((((((((hx3.ext hb4).ext hb5).ext hb6).grown hg7 (by simp; omega)).ext hb8).ext hb9).ext hb10).grown hg11 (by simp; omega))
  have hx5z := (((hx7.ext hb8).ext hb9).ext hb10).grown hg11 (by simp; omega)
  have hBf := below_blk hBz hBz.size hgf (by omega)
  exact bodyPost_ret (results_blk1 (cs := wcells 0) rfl (by rw [HSW.out]; exact hW) hxf rfl) rfl ⟨rfl, hBf⟩
set_option maxRecDepth 100000 in
set_option maxHeartbeats 2000000 in
theorem SMod_pos (a b : Nat) (w : World) (ha : a < 2 ^ 256) (hb : b < 2 ^ 256) (hb0 : absN b ≠ 0) : Calls Try.prog 43 #[.agg (wcells a), .agg (wcells b)] w fun e w' => e = .returned (.agg (wcells (if decide (2 ^ 255 ≤ a) = true then negN (absN a % absN b) else absN a % absN b))) ∧ Below w.heap.size w w' := by
  have hW := wordTy
  have hN := numTy
  have zW := zWordL
  have zN := zNumL
  have HSN := Lib.hid limbsV_size
  have H1N := Lib.hid limbsV_one
  have HSW := Lib.hid wcells_size
  have H1W := Lib.hid wcells_one
  have HFr := Lib.hid from_any
  have HWd := Lib.hid word_any
  have CAbsA := Lib.hid (fun w => abs_any a w ha)
  have CAbsB := Lib.hid (fun w => abs_any b w hb)
  have hn := absN_lt ha
  have hm := absN_lt hb
  generalize absN a = n at *
  generalize absN b = m at *
  generalize hsa : decide (2 ^ 255 ≤ a) = sa at *
  generalize hsb : decide (2 ^ 255 ≤ b) = sb at *
  clear hsa hsb
  have hEq := fun w => eq_num0 m hm w
  rw [decide_eq_false hb0] at hEq
  have CDiv := Lib.hid (fun (w : World) (g : Nat) (hx : Blk w g 39 (limbsV n)) => divide_any n m 4 4 ⟨g, 0, none⟩ w (Nat.pos_of_ne_zero hb0) hm (by decide) (by decide) hn (by rw [limbsV_tab] at hx; exact hx.rd))
  have hq : n / m % 2 ^ 256 < 2 ^ 256 := Nat.mod_lt _ (by decide)
  have hr : n % m < 2 ^ 256 := Nat.lt_trans (Nat.mod_lt _ (Nat.pos_of_ne_zero hb0)) hm
  clear hb0
  generalize n / m % 2 ^ 256 = q at *
  generalize n % m = r at *
  have CSig := Lib.hid (fun w => signed_any r (sa) w hr)
  have HLT := Lib.hid (show (if (sa) = true then negN r else r) < 2 ^ 256 from by split; exact negN_lt _; exact hr)
  generalize (if (sa) = true then negN r else r) = u at *
  have tokE : True := trivial
  go_enter Try.func43, Try.ntmps43
  go_upto_region 1 with (first
    | ((with_reducible refine gd_box ?_); have _t := tokE; refine wpList_box_agg rfl _ (.tmp 0) rfl rfl ?_; clear tokE; intro w1 hx1 hb1 hl1)
    | ((with_reducible refine gd_box ?_); refine wpList_box_agg rfl _ (.tmp 1) rfl rfl ?_; intro w2 hx2 hb2 hl2)
    | ((with_reducible refine gd_alloc ?_); refine wpList_alloc_blk rfl 23 rfl zW ?_; intro w3 hx3 hb3 hl3)
    | fail)
  replace hx3 : Blk w3 w2.heap.size 23 (wcells 0) := hx3
  have hx1' := (hx1.ext hb2).ext hb3
  have hx2' := hx2.ext hb3
  have hB3 := below_step (below_step hb1 hb2) hb3
  have hg1 := hx1.lt
  have hg2 := hx2.lt
  have hg3 := hx3.lt
  have tok1 : True := trivial
  have tok2 : True := trivial
  have tok3 : True := trivial
  have tok4 : True := trivial
  have tok5 : True := trivial
  have tok6 : True := trivial
  have tok7 : True := trivial
  go_wp2_with (first
    | ((with_reducible refine gd_load ?_); have _t := tok1; refine wpList_load_blk rfl 23 (.tmp 2) rfl hx1' (by rw [HSW.out]; exact hW) rfl ?_; clear tok1)
    | (go_at_call 47; have _t := tok2; refine (HFr.out a _ ha).mono ?_; clear tok2; rintro e w4 ⟨rfl, hb4⟩)
    | (go_at_call 70; have _t := tok3; refine (CAbsA.out _).mono ?_; clear tok3; rintro e w5 ⟨rfl, hb5⟩)
    | ((with_reducible refine gd_alloc ?_); have _t := tok4; refine wpList_alloc_blk rfl 39 rfl zN ?_; clear tok4; intro w6 hx6 hb6 hl6)
    | ((with_reducible refine gd_store ?_); have _t := tok5; refine wpList_store_all rfl 39 (.tmp 5) (.tmp 15) rfl (limbsV n) hx6 (by rw [HSN.out]; exact hN) (by rw [HSN.out]; exact HSN.out 0) (H1N.out _) (by rfl) (by rfl) ?_; clear tok5; intro w7 hx7 hg7)
    | ((with_reducible refine gd_load ?_); have _t := tok6; refine wpList_load_blk rfl 23 (.tmp 3) rfl (((((hx2'.ext hb4).ext hb5).ext hb6).grown hg7 (by have := hb4.size; have := hb5.size; simp; omega))) (by rw [HSW.out]; exact hW) rfl ?_; clear tok6)
    | (go_at_call 47; refine (HFr.out b _ hb).mono ?_; rintro e w8 ⟨rfl, hb8⟩)
    | (go_at_call 70; refine (CAbsB.out _).mono ?_; rintro e w9 ⟨rfl, hb9⟩)
    | ((with_reducible refine gd_alloc ?_); refine wpList_alloc_blk rfl 39 rfl zN ?_; intro w10 hx10 hb10 hl10)
    | ((with_reducible refine gd_store ?_); have _t := tok7; refine wpList_store_all rfl 39 (.tmp 7) (.tmp 21) rfl (limbsV m) hx10 (by rw [HSN.out]; exact hN) (by rw [HSN.out]; exact HSN.out 0) (H1N.out _) (by rfl) (by rfl) ?_; clear tok7; intro w11 hx11 hg11)
    | ((with_reducible refine gd_load ?_); refine wpList_load_blk rfl 39 (.tmp 7) rfl hx11 (by rw [HSN.out]; exact hN) rfl ?_)
    | fail)
  have hs4 := hb4.size
  have hs5 := hb5.size
  have hs8 := hb8.size
  have hs9 := hb9.size
  have hs7 := hg7.size
  have hs11 := hg11.size
  have hl3' := hx3.lt
  have hB5 := below_step (below_step hB3 hb4) hb5
  have hB6 := below_step hB5 hb6
  have hB7 := below_blk hB6 hB6.size hg7 (by omega)
  have hB9 := below_step (below_step hB7 hb8) hb9
  have hB10 := below_step hB9 hb10
  have hBz := below_blk hB10 hB10.size hg11 (by omega)
  have hx3z := ((((((((hx3.ext hb4).ext hb5).ext hb6).grown hg7 (by simp; omega)).ext hb8).ext hb9).ext hb10).grown hg11 (by simp; omega))
  have hx5z := (((hx7.ext hb8).ext hb9).ext hb10).grown hg11 (by simp; omega)
  refine wp_region_made (w := w11) (B := w.heap.size) (wB := w) [.val (.slice (some ⟨w5.heap.size, 0, none⟩) 4 4), .val (.agg (limbsV m)), .val (.tuple #[.agg (limbsV q), .agg (limbsV r)]), .val (.tuple #[.agg (limbsV q), .agg (limbsV r)]), .val (.agg (limbsV q)), .val (.agg (limbsV r)), .new 39 (limbsV 0) (limbsV q), .new 39 (limbsV 0) (limbsV r), .putN 6, .putN 7] (by kernel_rfl) (by kernel_rfl) (by kernel_rfl) rfl (by kernel_rfl) rfl hBz.size hBz List.nodup_nil (fun g hg => nomatch hg) trivial ?_ ?_
  · refine ⟨?_, ?_, ?_, ?_, ?_, ?_, ?_, ?_, ?_, ?_, trivial⟩
    · intro G wx fr hway _ hs hdef hsz
      have s5 : fr.tmps[5]? = some (.pointer (some ⟨w5.heap.size, 0, none⟩)) := hs.1
      clear hs
      refine ⟨?_⟩
      go_wp2
      exact kp_post hsz (Below.refl _ _)
    · intro G wx fr hway _ hs hdef hsz
      have s7 : fr.tmps[7]? = some (.pointer (some ⟨w9.heap.size, 0, none⟩)) := hs.1
      clear hs
      refine ⟨?_⟩
      refine wpList_load_blk rfl 39 (.tmp 7) rfl (way_blk hway hx11 (by first | exact hx11.lt | omega) (by simp [heldBy, Knd.blockOf])) (by rw [HSN.out]; exact hN) (by simp [Act.eval, s7]) ?_
      refine wpList_nil ?_
      exact kp_val hdef hsz (Below.refl _ _)
    · intro G wx fr hway _ hs hdef hsz
      have s28 : fr.tmps[28]? = some (.slice (some ⟨w5.heap.size, 0, none⟩) 4 4) := hs.1
      have s29 : fr.tmps[29]? = some (.agg (limbsV m)) := hs.2.1
      clear hs
      refine ⟨?_⟩
      go_wp2_with fail
      refine (CDiv.out wx w5.heap.size (way_blk hway hx5z hx5z.lt (by simp [heldBy, Knd.blockOf]))).mono ?_
      rintro e w2 ⟨rfl, hb2⟩
      go_wp2
      exact kp_post hsz hb2
    · intro G wx fr hway _ hs hdef hsz
      have s30 : fr.tmps[30]? = some (.tuple #[.agg (limbsV q), .agg (limbsV r)]) := hs.1
      clear hs
      refine ⟨?_⟩
      go_wp2
      exact kp_post hsz (Below.refl _ _)
    · intro G wx fr hway _ hs hdef hsz
      have s27 : fr.tmps[27]? = some (.tuple #[.agg (limbsV q), .agg (limbsV r)]) := hs.1
      clear hs
      refine ⟨?_⟩
      go_wp2
      exact kp_post hsz (Below.refl _ _)
    · intro G wx fr hway _ hs hdef hsz
      have s27 : fr.tmps[27]? = some (.tuple #[.agg (limbsV q), .agg (limbsV r)]) := hs.1
      clear hs
      refine ⟨?_⟩
      go_wp2
      exact kp_post hsz (Below.refl _ _)
    · intro G wx fr hway _ hs hdef hsz
      clear hs
      refine ⟨?_⟩
      refine wpList_alloc_blk rfl 39 rfl zN ?_
      intro wy hxy hby _
      refine wpList_nil ?_
      exact kp_new hdef hsz hby hxy
    · intro G wx fr hway _ hs hdef hsz
      clear hs
      refine ⟨?_⟩
      refine wpList_alloc_blk rfl 39 rfl zN ?_
      intro wy hxy hby _
      refine wpList_nil ?_
      exact kp_new hdef hsz hby hxy
    · intro G wx fr hway hpre hs hdef hsz
      have s9 : fr.tmps[9]? = some (.pointer (some ⟨G 6, 0, none⟩)) := hs.1
      have s31 : fr.tmps[31]? = some (.agg (limbsV q)) := hs.2.1
      clear hs
      have hpre' : Blk wx (G 6) 39 (limbsV 0) := hpre
      refine ⟨?_⟩
      refine wpList_store_all rfl 39 (.tmp 9) (.tmp 31) rfl (limbsV q) hpre' (by rw [HSN.out]; exact hN) (by rw [HSN.out, HSN.out]) (H1N.out _) (by simp [Act.eval, s9]) (by simp [Act.eval, s31]) ?_
      intro wy hxy hgy
      refine wpList_nil ?_
      exact ⟨rfl, hdef, rfl, hxy, hgy⟩
    · intro G wx fr hway hpre hs hdef hsz
      have s10 : fr.tmps[10]? = some (.pointer (some ⟨G 7, 0, none⟩)) := hs.1
      have s32 : fr.tmps[32]? = some (.agg (limbsV r)) := hs.2.1
      clear hs
      have hpre' : Blk wx (G 7) 39 (limbsV 0) := hpre
      refine ⟨?_⟩
      refine wpList_store_all rfl 39 (.tmp 10) (.tmp 32) rfl (limbsV r) hpre' (by rw [HSN.out]; exact hN) (by rw [HSN.out, HSN.out]) (H1N.out _) (by simp [Act.eval, s10]) (by simp [Act.eval, s32]) ?_
      intro wy hxy hgy
      refine wpList_nil ?_
      exact ⟨rfl, hdef, rfl, hxy, hgy⟩
  · intro G V wy hval hway hmade hap
    replace hval : V 0 = .slice (some ⟨w5.heap.size, 0, none⟩) 4 4 ∧ V 1 = .agg (limbsV m) ∧ V 2 = .tuple #[.agg (limbsV q), .agg (limbsV r)] ∧ V 3 = .tuple #[.agg (limbsV q), .agg (limbsV r)] ∧ V 4 = .agg (limbsV q) ∧ V 5 = .agg (limbsV r) ∧ V 6 = .pointer (some ⟨G 6, 0, none⟩) ∧ V 7 = .pointer (some ⟨G 7, 0, none⟩) ∧ V 8 = undef ∧ V 9 = undef ∧ True := hval
    replace hmade : (w11.heap.size ≤ G 6 ∧ G 6 < wy.heap.size ∧ Blk wy (G 6) 39 (limbsV q)) ∧ (w11.heap.size ≤ G 7 ∧ G 7 < wy.heap.size ∧ Blk wy (G 7) 39 (limbsV r)) ∧ True := hmade
    obtain ⟨e0, e1, e2, e3, e4, e5, e6, e7, e8, e9, -⟩ := hval
    obtain ⟨⟨hg6, hl6, hx_6⟩, ⟨hg7, hl7, hx_7⟩, -⟩ := hmade
    have ha6_7 : G 6 ≠ G 7 := hap 6 7 _ _ _ _ _ _ rfl rfl (by decide)
    clear hap
    simp only [fill, Act.put, e0, e1, e2, e3, e4, e5, e6, e7]
    clear e0 e1 e2 e3 e4 e5 e6 e7 e8 e9
    simp only [Exit.then]
    go_simp
    generalize G 6 = g6 at *
    generalize G 7 = g7 at *
    clear G V
    replace hx3z := way_blk hway hx3z (by omega) (by simp [heldBy, Knd.blockOf])
    have hBy := hway.2.2
    have hszy := hway.1
    clear hway
    go_wp2_with (first
      | ((with_reducible refine gd_load ?_); refine wpList_load_blk rfl 39 (.tmp 10) rfl hx_7 (by rw [HSN.out]; exact hN) rfl ?_)
      | (go_at_call 71; refine (CSig.out _).mono ?_; rintro e w12 ⟨rfl, hb12⟩)
      | (go_at_call 46; refine (HWd.out u _ HLT.out).mono ?_; rintro e w13 ⟨rfl, hb13⟩)
      | ((with_reducible refine gd_store ?_); refine wpList_store_all rfl 23 (.tmp 4) (.tmp 36) rfl (wcells u) ((hx3z.ext hb12).ext hb13) (by rw [HSW.out]; exact hW) (by rw [HSW.out]; exact HSW.out 0) (H1W.out _) (by rfl) (by rfl) ?_; intro wf hxf hgf)
      | fail)
    have hB13 := below_step (below_step hBy hb12) hb13
    have hBf := below_blk hB13 hB13.size hgf (by omega)
    exact bodyPost_ret (results_blk1 (cs := wcells u) rfl (by rw [HSW.out]; exact hW) hxf rfl) rfl ⟨rfl, hBf⟩
end Go.Mun
