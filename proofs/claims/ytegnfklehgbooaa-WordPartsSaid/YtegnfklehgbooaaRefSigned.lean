/- The walks of munimentsref1.abs, SDiv, SMod. -/
import Derived.Test.YtegnfklehgbooaaRefDivs
import Derived.Test.YtegnfklehgbooaaRefSums
namespace Go.Mun
open Go Go.RowKit Go.Proofs

set_option maxRecDepth 100000 in
set_option maxHeartbeats 4000000 in
theorem RefAbs_yes (a : Nat) (w : World) (ha : a < 2 ^ 256) (hs : Hid (2 ^ 255 ≤ a)) : Calls Try.prog 70 #[.agg (wcells a)] w fun e w' => e = .returned (.agg (wcells (negN a))) ∧ Below w.heap.size w w' := by
  have hW := wordTy
  have zW := zWordL
  have HSW := Lib.hid wcells_size
  have H1W := Lib.hid wcells_one
  have HZW := Lib.hid wcells_lit0
  have C1 := Lib.hid (fun w => RefNeg_any a w ha)
  rw [decide_eq_true hs.out] at C1
  obtain ⟨z3, Ez3⟩ : ∃ z, z = (0 + 2 ^ 256 - a) % 2 ^ 256 := ⟨_, rfl⟩
  have hz3 : z3 < 2 ^ 256 := by rw [Ez3]; exact (Nat.mod_lt _ (by decide))
  have C2 := Lib.hid (fun w => RefSub_any 0 a w (by decide) ha)
  rw [← Ez3] at C2
  have HE := Lib.hid (show z3 = negN a from by subst_vars; unfold negN; rw [Nat.zero_add])
  clear Ez3 hz3
  go_enter Try.func70, Try.ntmps70
  have tk0_0 : True := trivial
  have tk0_1 : True := trivial
  have tk0_2 : True := trivial
  have tk0_3 : True := trivial
  have tk0_4 : True := trivial
  have tk0_5 : True := trivial
  have tk0_6 : True := trivial
  go_wp2_with (first
    | ((with_reducible refine gd_box ?_); have _t := tk0_0; refine wpList_box_agg rfl _ (.tmp 0) rfl rfl ?_; clear tk0_0; intro w1 hx1 hb1 hl1; have hz1 := hx1.lt; have hs1 := hb1.size)
    | ((with_reducible refine gd_alloc ?_); have _t := tk0_1; refine wpList_alloc_blk rfl 23 rfl zW ?_; clear tk0_1; intro w2 hx2 hb2 hl2; have hz2 := hx2.lt; have hs2 := hb2.size)
    | ((with_reducible refine gd_load ?_); have _t := tk0_2; refine wpList_load_blk rfl 23 (.tmp 1) rfl (hx1.ext hb2) (by rw [HSW.out]; exact hW) rfl ?_; clear tk0_2)
    | (go_at_call 50; have _t := tk0_3; refine (C1.out _).mono ?_; clear tk0_3; rintro e w3 ⟨rfl, hb3⟩; have hs3 := hb3.size)
    | ((with_reducible refine gd_load ?_); have _t := tk0_4; refine wpList_load_blk rfl 23 (.tmp 1) rfl ((hx1.ext hb2).ext hb3) (by rw [HSW.out]; exact hW) rfl ?_; clear tk0_4)
    | (go_at_call 24; have _t := tk0_5; refine (C2.out _).mono ?_; clear tk0_5; rintro e w4 ⟨rfl, hb4⟩; have hs4 := hb4.size)
    | ((with_reducible refine gd_store ?_); have _t := tk0_6; refine wpList_store_all rfl 23 (.tmp 2) (.tmp 7) rfl (wcells z3) ((hx2.ext hb3).ext hb4) (by rw [HSW.out]; exact hW) (by rw [HSW.out]; exact HSW.out 0) (H1W.out _) (by rfl) (by rfl) ?_; clear tk0_6; intro w5 hx5 hg5; have hs5 := hg5.size)
    | fail)
  have hy1_1 := ((((hx1.ext hb2).ext hb3).ext hb4).grown hg5 (by simp; omega))
  have hy1_2 := hx5
  have hB1_1 := hb1
  have hB1_2 := below_step hB1_1 hb2
  have hB1_3 := below_step hB1_2 hb3
  have hB1_4 := below_step hB1_3 hb4
  have hB1_5 := below_blk hB1_4 hB1_4.size hg5 (by first | omega | (simp; omega))
  have hge_1 : w.heap.size ≤ w.heap.size := by omega
  have hge_2 : w.heap.size ≤ w1.heap.size := by omega
  have hlo_1_2 : w.heap.size < w1.heap.size := by omega
  clear hb1 hl1 hz1 hs1 hx2 hb2 hl2 hz2 hs2 hb3 hs3 hb4 hs4 hg5 hs5 hx1 hx5 hB1_1 hB1_2 hB1_3 hB1_4
  exact bodyPost_ret (results_blk1 (cs := wcells z3) rfl (by rw [HSW.out]; exact hW) hy1_2 rfl) rfl ⟨by rw [HE.out], hB1_5⟩
set_option maxRecDepth 100000 in
set_option maxHeartbeats 4000000 in
theorem RefAbs_no (a : Nat) (w : World) (ha : a < 2 ^ 256) (hs : Hid (¬ 2 ^ 255 ≤ a)) : Calls Try.prog 70 #[.agg (wcells a)] w fun e w' => e = .returned (.agg (wcells (a))) ∧ Below w.heap.size w w' := by
  have hW := wordTy
  have zW := zWordL
  have HSW := Lib.hid wcells_size
  have H1W := Lib.hid wcells_one
  have HZW := Lib.hid wcells_lit0
  have C1 := Lib.hid (fun w => RefNeg_any a w ha)
  rw [decide_eq_false hs.out] at C1
  go_enter Try.func70, Try.ntmps70
  have tk0_0 : True := trivial
  have tk0_1 : True := trivial
  have tk0_2 : True := trivial
  have tk0_3 : True := trivial
  have tk0_4 : True := trivial
  have tk0_5 : True := trivial
  go_wp2_with (first
    | ((with_reducible refine gd_box ?_); have _t := tk0_0; refine wpList_box_agg rfl _ (.tmp 0) rfl rfl ?_; clear tk0_0; intro w1 hx1 hb1 hl1; have hz1 := hx1.lt; have hs1 := hb1.size)
    | ((with_reducible refine gd_alloc ?_); have _t := tk0_1; refine wpList_alloc_blk rfl 23 rfl zW ?_; clear tk0_1; intro w2 hx2 hb2 hl2; have hz2 := hx2.lt; have hs2 := hb2.size)
    | ((with_reducible refine gd_load ?_); have _t := tk0_2; refine wpList_load_blk rfl 23 (.tmp 1) rfl (hx1.ext hb2) (by rw [HSW.out]; exact hW) rfl ?_; clear tk0_2)
    | (go_at_call 50; have _t := tk0_3; refine (C1.out _).mono ?_; clear tk0_3; rintro e w3 ⟨rfl, hb3⟩; have hs3 := hb3.size)
    | ((with_reducible refine gd_load ?_); have _t := tk0_4; refine wpList_load_blk rfl 23 (.tmp 1) rfl ((hx1.ext hb2).ext hb3) (by rw [HSW.out]; exact hW) rfl ?_; clear tk0_4)
    | ((with_reducible refine gd_store ?_); have _t := tk0_5; refine wpList_store_all rfl 23 (.tmp 2) (.tmp 8) rfl (wcells a) (hx2.ext hb3) (by rw [HSW.out]; exact hW) (by rw [HSW.out]; exact HSW.out 0) (H1W.out _) (by rfl) (by rfl) ?_; clear tk0_5; intro w4 hx4 hg4; have hs4 := hg4.size)
    | fail)
  have hy1_1 := (((hx1.ext hb2).ext hb3).grown hg4 (by simp; omega))
  have hy1_2 := hx4
  have hB1_1 := hb1
  have hB1_2 := below_step hB1_1 hb2
  have hB1_3 := below_step hB1_2 hb3
  have hB1_4 := below_blk hB1_3 hB1_3.size hg4 (by first | omega | (simp; omega))
  have hge_1 : w.heap.size ≤ w.heap.size := by omega
  have hge_2 : w.heap.size ≤ w1.heap.size := by omega
  have hlo_1_2 : w.heap.size < w1.heap.size := by omega
  clear hb1 hl1 hz1 hs1 hx2 hb2 hl2 hz2 hs2 hb3 hs3 hg4 hs4 hx1 hx4 hB1_1 hB1_2 hB1_3
  exact bodyPost_ret (results_blk1 (cs := wcells a) rfl (by rw [HSW.out]; exact hW) hy1_2 rfl) rfl ⟨rfl, hB1_4⟩
theorem RefAbs_all (a : Nat) (w : World) (ha : a < 2 ^ 256) : Calls Try.prog 70 #[.agg (wcells a)] w fun e w' => e = .returned (.agg (wcells (absN a))) ∧ Below w.heap.size w w' := by
  unfold absN
  by_cases c : 2 ^ 255 ≤ a
  · rw [if_pos c]; exact RefAbs_yes a w ha (Lib.hid c)
  · rw [if_neg c]; exact RefAbs_no a w ha (Lib.hid c)
theorem sdiv_pos {a b : Nat} (ha : a < 2 ^ 256) (h : (decide (2 ^ 255 ≤ a) != decide (2 ^ 255 ≤ b)) = true) : (0 + 2 ^ 256 - absN a / absN b) % 2 ^ 256 = sdivN a b := by
  unfold sdivN
  by_cases c : absN b = 0
  · rw [if_pos c, c, Nat.div_zero]
  · rw [if_neg c, if_pos h, Nat.mod_eq_of_lt (divN_lt _ (absN_lt' ha))]
    unfold negN
    rw [Nat.zero_add]
theorem sdiv_neg {a b : Nat} (ha : a < 2 ^ 256) (h : (decide (2 ^ 255 ≤ a) != decide (2 ^ 255 ≤ b)) = false) : absN a / absN b = sdivN a b := by
  unfold sdivN
  by_cases c : absN b = 0
  · rw [if_pos c, c, Nat.div_zero]
  · rw [if_neg c, if_neg (by rw [h]; decide), Nat.mod_eq_of_lt (divN_lt _ (absN_lt' ha))]
theorem smod_yes {a b : Nat} (h : 2 ^ 255 ≤ a) : (0 + 2 ^ 256 - modN (absN a) (absN b)) % 2 ^ 256 = smodN a b := by
  unfold smodN modN
  by_cases c : absN b = 0
  · rw [if_pos c, if_pos c]
  · rw [if_neg c, if_neg c, if_pos (decide_eq_true h)]
    unfold negN
    rw [Nat.zero_add]
theorem smod_no {a b : Nat} (h : ¬ 2 ^ 255 ≤ a) : modN (absN a) (absN b) = smodN a b := by
  unfold smodN modN
  by_cases c : absN b = 0
  · rw [if_pos c, if_pos c]
  · rw [if_neg c, if_neg c, if_neg (by rw [decide_eq_false h]; decide)]
set_option maxRecDepth 100000 in
set_option maxHeartbeats 4000000 in
theorem RefSDiv_mm (a b : Nat) (w : World) (ha : a < 2 ^ 256) (hb : b < 2 ^ 256) (hs : Hid (2 ^ 255 ≤ a)) (ht : Hid (2 ^ 255 ≤ b)) : Calls Try.prog 40 #[.agg (wcells a), .agg (wcells b)] w fun e w' => e = .returned (.agg (wcells (sdivN a b))) ∧ Below w.heap.size w w' := by
  have hW := wordTy
  have zW := zWordL
  have HSW := Lib.hid wcells_size
  have H1W := Lib.hid wcells_one
  have HZW := Lib.hid wcells_lit0
  obtain ⟨z2, Ez2⟩ : ∃ z, z = absN a := ⟨_, rfl⟩
  have hz2 : z2 < 2 ^ 256 := by rw [Ez2]; exact (absN_lt' ha)
  have C1 := Lib.hid (fun w => RefAbs_all a w ha)
  rw [← Ez2] at C1
  obtain ⟨z4, Ez4⟩ : ∃ z, z = absN b := ⟨_, rfl⟩
  have hz4 : z4 < 2 ^ 256 := by rw [Ez4]; exact (absN_lt' hb)
  have C3 := Lib.hid (fun w => RefAbs_all b w hb)
  rw [← Ez4] at C3
  obtain ⟨z6, Ez6⟩ : ∃ z, z = z2 / z4 := ⟨_, rfl⟩
  have hz6 : z6 < 2 ^ 256 := by rw [Ez6]; exact (divN_lt _ hz2)
  have C5 := Lib.hid (fun w => RefDiv_all z2 z4 w hz2 hz4)
  rw [← Ez6] at C5
  have C7 := Lib.hid (fun w => RefNeg_any a w ha)
  rw [decide_eq_true hs.out] at C7
  have C8 := Lib.hid (fun w => RefNeg_any b w hb)
  rw [decide_eq_true ht.out] at C8
  have HE := Lib.hid (show z6 = sdivN a b from by subst_vars; exact sdiv_neg ha (by rw [decide_eq_true hs.out, decide_eq_true ht.out]; rfl))
  clear Ez2 Ez4 Ez6 hz2 hz4 hz6
  go_enter Try.func40, Try.ntmps40
  have tk0_0 : True := trivial
  have tk0_1 : True := trivial
  have tk0_2 : True := trivial
  go_wp2_with (first
    | ((with_reducible refine gd_box ?_); have _t := tk0_0; refine wpList_box_agg rfl _ (.tmp 0) rfl rfl ?_; clear tk0_0; intro w1 hx1 hb1 hl1; have hz1 := hx1.lt; have hs1 := hb1.size)
    | ((with_reducible refine gd_box ?_); have _t := tk0_1; refine wpList_box_agg rfl _ (.tmp 1) rfl rfl ?_; clear tk0_1; intro w2 hx2 hb2 hl2; have hz2 := hx2.lt; have hs2 := hb2.size)
    | ((with_reducible refine gd_alloc ?_); have _t := tk0_2; refine wpList_alloc_blk rfl 23 rfl zW ?_; clear tk0_2; intro w3 hx3 hb3 hl3; have hz3 := hx3.lt; have hs3 := hb3.size)
    | fail)
  have hy1_1 := ((hx1.ext hb2).ext hb3)
  have hy1_2 := (hx2.ext hb3)
  have hy1_3 := hx3
  have hB1_1 := hb1
  have hB1_2 := below_step hB1_1 hb2
  have hB1_3 := below_step hB1_2 hb3
  have hge_1 : w.heap.size ≤ w.heap.size := by omega
  have hge_2 : w.heap.size ≤ w1.heap.size := by omega
  have hlo_1_2 : w.heap.size < w1.heap.size := by omega
  have hge_3 : w.heap.size ≤ w2.heap.size := by omega
  have hlo_1_3 : w.heap.size < w2.heap.size := by omega
  have hlo_2_3 : w1.heap.size < w2.heap.size := by omega
  clear hb1 hl1 hz1 hs1 hb2 hl2 hz2 hs2 hb3 hl3 hz3 hs3 hx1 hx2 hx3 hB1_1 hB1_2
  have hlw3_1 := hy1_1.lt
  have hlw3_2 := hy1_2.lt
  have hlw3_3 := hy1_3.lt
  refine wp_region_made (w := w3) (B := w.heap.size) (wB := w) [.val (.agg (wcells a)), .val (.agg (wcells z2)), .val (.agg (wcells b)), .val (.agg (wcells z4)), .val (.agg (wcells z6)), .new 23 (wcells 0) (wcells z6), .putN 5] (by kernel_rfl) (by kernel_rfl) (by kernel_rfl) rfl (by kernel_rfl) rfl hB1_3.size hB1_3 (by exact List.nodup_nil) (by intro g hg; exact nomatch hg) trivial ?_ ?_
  · refine ⟨?_, ?_, ?_, ?_, ?_, ?_, ?_, trivial⟩
    · intro G wx fr hway _ hs hdef hsz
      have s2 : fr.tmps[2]? = some (.pointer (some ⟨w.heap.size, 0, none⟩)) := hs.1
      clear hs
      refine ⟨?_⟩
      refine wpList_load_blk rfl 23 (.tmp 2) rfl (way_blk hway hy1_1 (by first | exact hy1_1.lt | omega) (by simp [heldBy, Knd.blockOf])) (by rw [HSW.out]; exact hW) (by simp [Act.eval, s2]) ?_
      refine wpList_nil ?_
      exact kp_val hdef hsz (Below.refl _ _)
    · intro G wx fr hway _ hs hdef hsz
      have s6 : fr.tmps[6]? = some (.agg (wcells a)) := hs.1
      clear hs
      refine ⟨?_⟩
      go_wp2_with fail
      refine (C1.out wx).mono ?_
      rintro e w2 ⟨rfl, hb2⟩
      go_wp2
      exact kp_post hsz hb2
    · intro G wx fr hway _ hs hdef hsz
      have s3 : fr.tmps[3]? = some (.pointer (some ⟨w1.heap.size, 0, none⟩)) := hs.1
      clear hs
      refine ⟨?_⟩
      refine wpList_load_blk rfl 23 (.tmp 3) rfl (way_blk hway hy1_2 (by first | exact hy1_2.lt | omega) (by simp [heldBy, Knd.blockOf])) (by rw [HSW.out]; exact hW) (by simp [Act.eval, s3]) ?_
      refine wpList_nil ?_
      exact kp_val hdef hsz (Below.refl _ _)
    · intro G wx fr hway _ hs hdef hsz
      have s8 : fr.tmps[8]? = some (.agg (wcells b)) := hs.1
      clear hs
      refine ⟨?_⟩
      go_wp2_with fail
      refine (C3.out wx).mono ?_
      rintro e w2 ⟨rfl, hb2⟩
      go_wp2
      exact kp_post hsz hb2
    · intro G wx fr hway _ hs hdef hsz
      have s7 : fr.tmps[7]? = some (.agg (wcells z2)) := hs.1
      have s9 : fr.tmps[9]? = some (.agg (wcells z4)) := hs.2.1
      clear hs
      refine ⟨?_⟩
      go_wp2_with fail
      refine (C5.out wx).mono ?_
      rintro e w2 ⟨rfl, hb2⟩
      go_wp2
      exact kp_post hsz hb2
    · intro G wx fr hway _ hs hdef hsz
      clear hs
      refine ⟨?_⟩
      refine wpList_alloc_blk rfl 23 rfl zW ?_
      intro wy hxy hby _
      refine wpList_nil ?_
      exact kp_new hdef hsz hby hxy
    · intro G wx fr hway hpre hs hdef hsz
      have s5 : fr.tmps[5]? = some (.pointer (some ⟨G 5, 0, none⟩)) := hs.1
      have s10 : fr.tmps[10]? = some (.agg (wcells z6)) := hs.2.1
      clear hs
      have hpre' : Blk wx (G 5) 23 (wcells 0) := hpre
      refine ⟨?_⟩
      refine wpList_store_all rfl 23 (.tmp 5) (.tmp 10) rfl (wcells z6) hpre' (by rw [HSW.out]; exact hW) (by rw [HSW.out, HSW.out]) (H1W.out _) (by simp [Act.eval, s5]) (by simp [Act.eval, s10]) ?_
      intro wy hxy hgy
      refine wpList_nil ?_
      exact ⟨rfl, hdef, rfl, hxy, hgy⟩
  · intro G V wr3 hval hway hmade hap
    replace hval : V 0 = .agg (wcells a) ∧ V 1 = .agg (wcells z2) ∧ V 2 = .agg (wcells b) ∧ V 3 = .agg (wcells z4) ∧ V 4 = .agg (wcells z6) ∧ V 5 = .pointer (some ⟨G 5, 0, none⟩) ∧ V 6 = undef ∧ True := hval
    replace hmade : (w3.heap.size ≤ G 5 ∧ G 5 < wr3.heap.size ∧ Blk wr3 (G 5) 23 (wcells z6)) ∧ True := hmade
    obtain ⟨e3_0, e3_1, e3_2, e3_3, e3_4, e3_5, e3_6, -⟩ := hval
    obtain ⟨⟨hg3_5, hl3_5, hx_3_5⟩, -⟩ := hmade
    clear hap
    simp only [fill, Act.put, e3_0, e3_1, e3_2, e3_3, e3_4, e3_5]
    clear e3_0 e3_1 e3_2 e3_3 e3_4 e3_5 e3_6
    simp only [Exit.then]
    go_simp
    generalize G 5 = g3_5 at *
    clear G V
    replace hy1_1 := way_blk hway hy1_1 hy1_1.lt (by simp [heldBy, Knd.blockOf])
    replace hy1_2 := way_blk hway hy1_2 hy1_2.lt (by simp [heldBy, Knd.blockOf])
    replace hy1_3 := way_blk hway hy1_3 hy1_3.lt (by simp [heldBy, Knd.blockOf])
    replace hB1_3 := hway.2.2
    clear hway
    go_wp2
    refine wp_region_made (w := wr3) (B := w.heap.size) (wB := w) [.val (.agg (wcells a)), .val (.bool true), .val (.agg (wcells b)), .val (.bool true), .val (.bool false)] (by kernel_rfl) (by kernel_rfl) (by kernel_rfl) rfl (by kernel_rfl) rfl hB1_3.size hB1_3 (by exact List.nodup_nil) (by intro g hg; exact nomatch hg) trivial ?_ ?_
    · refine ⟨?_, ?_, ?_, ?_, ?_, trivial⟩
      · intro G wx fr hway _ hs hdef hsz
        have s2 : fr.tmps[2]? = some (.pointer (some ⟨w.heap.size, 0, none⟩)) := hs.1
        clear hs
        refine ⟨?_⟩
        refine wpList_load_blk rfl 23 (.tmp 2) rfl (way_blk hway hy1_1 (by first | exact hy1_1.lt | omega) (by simp [heldBy, Knd.blockOf])) (by rw [HSW.out]; exact hW) (by simp [Act.eval, s2]) ?_
        refine wpList_nil ?_
        exact kp_val hdef hsz (Below.refl _ _)
      · intro G wx fr hway _ hs hdef hsz
        have s11 : fr.tmps[11]? = some (.agg (wcells a)) := hs.1
        clear hs
        refine ⟨?_⟩
        go_wp2_with fail
        refine (C7.out wx).mono ?_
        rintro e w2 ⟨rfl, hb2⟩
        go_wp2
        exact kp_post hsz hb2
      · intro G wx fr hway _ hs hdef hsz
        have s3 : fr.tmps[3]? = some (.pointer (some ⟨w1.heap.size, 0, none⟩)) := hs.1
        clear hs
        refine ⟨?_⟩
        refine wpList_load_blk rfl 23 (.tmp 3) rfl (way_blk hway hy1_2 (by first | exact hy1_2.lt | omega) (by simp [heldBy, Knd.blockOf])) (by rw [HSW.out]; exact hW) (by simp [Act.eval, s3]) ?_
        refine wpList_nil ?_
        exact kp_val hdef hsz (Below.refl _ _)
      · intro G wx fr hway _ hs hdef hsz
        have s13 : fr.tmps[13]? = some (.agg (wcells b)) := hs.1
        clear hs
        refine ⟨?_⟩
        go_wp2_with fail
        refine (C8.out wx).mono ?_
        rintro e w2 ⟨rfl, hb2⟩
        go_wp2
        exact kp_post hsz hb2
      · intro G wx fr hway _ hs hdef hsz
        have s12 : fr.tmps[12]? = some (.bool true) := hs.1
        have s14 : fr.tmps[14]? = some (.bool true) := hs.2.1
        clear hs
        refine ⟨?_⟩
        go_wp2
        exact kp_post hsz (Below.refl _ _)
    · intro G V wr4 hval hway hmade hap
      replace hval : V 0 = .agg (wcells a) ∧ V 1 = .bool true ∧ V 2 = .agg (wcells b) ∧ V 3 = .bool true ∧ V 4 = .bool false ∧ True := hval
      replace hmade : True := hmade
      obtain ⟨e4_0, e4_1, e4_2, e4_3, e4_4, -⟩ := hval
      obtain ⟨-⟩ := hmade
      clear hap
      simp only [fill, Act.put, e4_0, e4_1, e4_2, e4_3, e4_4]
      clear e4_0 e4_1 e4_2 e4_3 e4_4
      simp only [Exit.then]
      go_simp
      clear G V
      replace hy1_1 := way_blk hway hy1_1 hy1_1.lt (by simp [heldBy, Knd.blockOf])
      replace hy1_2 := way_blk hway hy1_2 hy1_2.lt (by simp [heldBy, Knd.blockOf])
      replace hy1_3 := way_blk hway hy1_3 hy1_3.lt (by simp [heldBy, Knd.blockOf])
      replace hx_3_5 := way_blk hway hx_3_5 hx_3_5.lt (by simp [heldBy, Knd.blockOf])
      replace hB1_3 := hway.2.2
      clear hway
      have tk4_0 : True := trivial
      have tk4_1 : True := trivial
      have hlt_4_1 := hy1_1.lt
      have hlt_4_2 := hy1_2.lt
      have hlt_4_3 := hy1_3.lt
      have hlt_4_4 := hx_3_5.lt
      have hBs_4 := hB1_3.size
      go_wp2_with (first
        | ((with_reducible refine gd_load ?_); have _t := tk4_0; refine wpList_load_blk rfl 23 (.tmp 5) rfl hx_3_5 (by rw [HSW.out]; exact hW) rfl ?_; clear tk4_0)
        | ((with_reducible refine gd_store ?_); have _t := tk4_1; refine wpList_store_all rfl 23 (.tmp 4) (.tmp 19) rfl (wcells z6) hy1_3 (by rw [HSW.out]; exact hW) (by rw [HSW.out]; exact HSW.out 0) (H1W.out _) (by rfl) (by rfl) ?_; clear tk4_1; intro w4 hx4 hg4; have hs4 := hg4.size)
        | fail)
      have hy5_1 := (hy1_1.grown hg4 (by simp; omega))
      have hy5_2 := (hy1_2.grown hg4 (by simp; omega))
      have hy5_3 := hx4
      have hy5_4 := (hx_3_5.grown hg4 (by simp; omega))
      have hB5_1 := below_blk hB1_3 hB1_3.size hg4 (by first | omega | (simp; omega))
      have hge_4 : w.heap.size ≤ g3_5 := by omega
      have hlo_1_4 : w.heap.size < g3_5 := by omega
      have hlo_2_4 : w1.heap.size < g3_5 := by omega
      have hlo_3_4 : w2.heap.size < g3_5 := by omega
      clear hlt_4_1 hlt_4_2 hlt_4_3 hlt_4_4 hBs_4 hg4 hs4 hx4 hx_3_5 hy1_1 hy1_2 hB1_3
      exact bodyPost_ret (results_blk1 (cs := wcells z6) rfl (by rw [HSW.out]; exact hW) hy5_3 rfl) rfl ⟨by rw [HE.out], hB5_1⟩
set_option maxRecDepth 100000 in
set_option maxHeartbeats 4000000 in
theorem RefSDiv_mp (a b : Nat) (w : World) (ha : a < 2 ^ 256) (hb : b < 2 ^ 256) (hs : Hid (2 ^ 255 ≤ a)) (ht : Hid (¬ 2 ^ 255 ≤ b)) : Calls Try.prog 40 #[.agg (wcells a), .agg (wcells b)] w fun e w' => e = .returned (.agg (wcells (sdivN a b))) ∧ Below w.heap.size w w' := by
  have hW := wordTy
  have zW := zWordL
  have HSW := Lib.hid wcells_size
  have H1W := Lib.hid wcells_one
  have HZW := Lib.hid wcells_lit0
  obtain ⟨z2, Ez2⟩ : ∃ z, z = absN a := ⟨_, rfl⟩
  have hz2 : z2 < 2 ^ 256 := by rw [Ez2]; exact (absN_lt' ha)
  have C1 := Lib.hid (fun w => RefAbs_all a w ha)
  rw [← Ez2] at C1
  obtain ⟨z4, Ez4⟩ : ∃ z, z = absN b := ⟨_, rfl⟩
  have hz4 : z4 < 2 ^ 256 := by rw [Ez4]; exact (absN_lt' hb)
  have C3 := Lib.hid (fun w => RefAbs_all b w hb)
  rw [← Ez4] at C3
  obtain ⟨z6, Ez6⟩ : ∃ z, z = z2 / z4 := ⟨_, rfl⟩
  have hz6 : z6 < 2 ^ 256 := by rw [Ez6]; exact (divN_lt _ hz2)
  have C5 := Lib.hid (fun w => RefDiv_all z2 z4 w hz2 hz4)
  rw [← Ez6] at C5
  have C7 := Lib.hid (fun w => RefNeg_any a w ha)
  rw [decide_eq_true hs.out] at C7
  have C8 := Lib.hid (fun w => RefNeg_any b w hb)
  rw [decide_eq_false ht.out] at C8
  obtain ⟨z10, Ez10⟩ : ∃ z, z = (0 + 2 ^ 256 - z6) % 2 ^ 256 := ⟨_, rfl⟩
  have hz10 : z10 < 2 ^ 256 := by rw [Ez10]; exact (Nat.mod_lt _ (by decide))
  have C9 := Lib.hid (fun w => RefSub_any 0 z6 w (by decide) hz6)
  rw [← Ez10] at C9
  have HE := Lib.hid (show z10 = sdivN a b from by subst_vars; exact sdiv_pos ha (by rw [decide_eq_true hs.out, decide_eq_false ht.out]; rfl))
  clear Ez2 Ez4 Ez6 Ez10 hz2 hz4 hz6 hz10
  go_enter Try.func40, Try.ntmps40
  have tk0_0 : True := trivial
  have tk0_1 : True := trivial
  have tk0_2 : True := trivial
  go_wp2_with (first
    | ((with_reducible refine gd_box ?_); have _t := tk0_0; refine wpList_box_agg rfl _ (.tmp 0) rfl rfl ?_; clear tk0_0; intro w1 hx1 hb1 hl1; have hz1 := hx1.lt; have hs1 := hb1.size)
    | ((with_reducible refine gd_box ?_); have _t := tk0_1; refine wpList_box_agg rfl _ (.tmp 1) rfl rfl ?_; clear tk0_1; intro w2 hx2 hb2 hl2; have hz2 := hx2.lt; have hs2 := hb2.size)
    | ((with_reducible refine gd_alloc ?_); have _t := tk0_2; refine wpList_alloc_blk rfl 23 rfl zW ?_; clear tk0_2; intro w3 hx3 hb3 hl3; have hz3 := hx3.lt; have hs3 := hb3.size)
    | fail)
  have hy1_1 := ((hx1.ext hb2).ext hb3)
  have hy1_2 := (hx2.ext hb3)
  have hy1_3 := hx3
  have hB1_1 := hb1
  have hB1_2 := below_step hB1_1 hb2
  have hB1_3 := below_step hB1_2 hb3
  have hge_1 : w.heap.size ≤ w.heap.size := by omega
  have hge_2 : w.heap.size ≤ w1.heap.size := by omega
  have hlo_1_2 : w.heap.size < w1.heap.size := by omega
  have hge_3 : w.heap.size ≤ w2.heap.size := by omega
  have hlo_1_3 : w.heap.size < w2.heap.size := by omega
  have hlo_2_3 : w1.heap.size < w2.heap.size := by omega
  clear hb1 hl1 hz1 hs1 hb2 hl2 hz2 hs2 hb3 hl3 hz3 hs3 hx1 hx2 hx3 hB1_1 hB1_2
  have hlw3_1 := hy1_1.lt
  have hlw3_2 := hy1_2.lt
  have hlw3_3 := hy1_3.lt
  refine wp_region_made (w := w3) (B := w.heap.size) (wB := w) [.val (.agg (wcells a)), .val (.agg (wcells z2)), .val (.agg (wcells b)), .val (.agg (wcells z4)), .val (.agg (wcells z6)), .new 23 (wcells 0) (wcells z6), .putN 5] (by kernel_rfl) (by kernel_rfl) (by kernel_rfl) rfl (by kernel_rfl) rfl hB1_3.size hB1_3 (by exact List.nodup_nil) (by intro g hg; exact nomatch hg) trivial ?_ ?_
  · refine ⟨?_, ?_, ?_, ?_, ?_, ?_, ?_, trivial⟩
    · intro G wx fr hway _ hs hdef hsz
      have s2 : fr.tmps[2]? = some (.pointer (some ⟨w.heap.size, 0, none⟩)) := hs.1
      clear hs
      refine ⟨?_⟩
      refine wpList_load_blk rfl 23 (.tmp 2) rfl (way_blk hway hy1_1 (by first | exact hy1_1.lt | omega) (by simp [heldBy, Knd.blockOf])) (by rw [HSW.out]; exact hW) (by simp [Act.eval, s2]) ?_
      refine wpList_nil ?_
      exact kp_val hdef hsz (Below.refl _ _)
    · intro G wx fr hway _ hs hdef hsz
      have s6 : fr.tmps[6]? = some (.agg (wcells a)) := hs.1
      clear hs
      refine ⟨?_⟩
      go_wp2_with fail
      refine (C1.out wx).mono ?_
      rintro e w2 ⟨rfl, hb2⟩
      go_wp2
      exact kp_post hsz hb2
    · intro G wx fr hway _ hs hdef hsz
      have s3 : fr.tmps[3]? = some (.pointer (some ⟨w1.heap.size, 0, none⟩)) := hs.1
      clear hs
      refine ⟨?_⟩
      refine wpList_load_blk rfl 23 (.tmp 3) rfl (way_blk hway hy1_2 (by first | exact hy1_2.lt | omega) (by simp [heldBy, Knd.blockOf])) (by rw [HSW.out]; exact hW) (by simp [Act.eval, s3]) ?_
      refine wpList_nil ?_
      exact kp_val hdef hsz (Below.refl _ _)
    · intro G wx fr hway _ hs hdef hsz
      have s8 : fr.tmps[8]? = some (.agg (wcells b)) := hs.1
      clear hs
      refine ⟨?_⟩
      go_wp2_with fail
      refine (C3.out wx).mono ?_
      rintro e w2 ⟨rfl, hb2⟩
      go_wp2
      exact kp_post hsz hb2
    · intro G wx fr hway _ hs hdef hsz
      have s7 : fr.tmps[7]? = some (.agg (wcells z2)) := hs.1
      have s9 : fr.tmps[9]? = some (.agg (wcells z4)) := hs.2.1
      clear hs
      refine ⟨?_⟩
      go_wp2_with fail
      refine (C5.out wx).mono ?_
      rintro e w2 ⟨rfl, hb2⟩
      go_wp2
      exact kp_post hsz hb2
    · intro G wx fr hway _ hs hdef hsz
      clear hs
      refine ⟨?_⟩
      refine wpList_alloc_blk rfl 23 rfl zW ?_
      intro wy hxy hby _
      refine wpList_nil ?_
      exact kp_new hdef hsz hby hxy
    · intro G wx fr hway hpre hs hdef hsz
      have s5 : fr.tmps[5]? = some (.pointer (some ⟨G 5, 0, none⟩)) := hs.1
      have s10 : fr.tmps[10]? = some (.agg (wcells z6)) := hs.2.1
      clear hs
      have hpre' : Blk wx (G 5) 23 (wcells 0) := hpre
      refine ⟨?_⟩
      refine wpList_store_all rfl 23 (.tmp 5) (.tmp 10) rfl (wcells z6) hpre' (by rw [HSW.out]; exact hW) (by rw [HSW.out, HSW.out]) (H1W.out _) (by simp [Act.eval, s5]) (by simp [Act.eval, s10]) ?_
      intro wy hxy hgy
      refine wpList_nil ?_
      exact ⟨rfl, hdef, rfl, hxy, hgy⟩
  · intro G V wr3 hval hway hmade hap
    replace hval : V 0 = .agg (wcells a) ∧ V 1 = .agg (wcells z2) ∧ V 2 = .agg (wcells b) ∧ V 3 = .agg (wcells z4) ∧ V 4 = .agg (wcells z6) ∧ V 5 = .pointer (some ⟨G 5, 0, none⟩) ∧ V 6 = undef ∧ True := hval
    replace hmade : (w3.heap.size ≤ G 5 ∧ G 5 < wr3.heap.size ∧ Blk wr3 (G 5) 23 (wcells z6)) ∧ True := hmade
    obtain ⟨e3_0, e3_1, e3_2, e3_3, e3_4, e3_5, e3_6, -⟩ := hval
    obtain ⟨⟨hg3_5, hl3_5, hx_3_5⟩, -⟩ := hmade
    clear hap
    simp only [fill, Act.put, e3_0, e3_1, e3_2, e3_3, e3_4, e3_5]
    clear e3_0 e3_1 e3_2 e3_3 e3_4 e3_5 e3_6
    simp only [Exit.then]
    go_simp
    generalize G 5 = g3_5 at *
    clear G V
    replace hy1_1 := way_blk hway hy1_1 hy1_1.lt (by simp [heldBy, Knd.blockOf])
    replace hy1_2 := way_blk hway hy1_2 hy1_2.lt (by simp [heldBy, Knd.blockOf])
    replace hy1_3 := way_blk hway hy1_3 hy1_3.lt (by simp [heldBy, Knd.blockOf])
    replace hB1_3 := hway.2.2
    clear hway
    go_wp2
    refine wp_region_made (w := wr3) (B := w.heap.size) (wB := w) [.val (.agg (wcells a)), .val (.bool true), .val (.agg (wcells b)), .val (.bool false), .val (.bool true)] (by kernel_rfl) (by kernel_rfl) (by kernel_rfl) rfl (by kernel_rfl) rfl hB1_3.size hB1_3 (by exact List.nodup_nil) (by intro g hg; exact nomatch hg) trivial ?_ ?_
    · refine ⟨?_, ?_, ?_, ?_, ?_, trivial⟩
      · intro G wx fr hway _ hs hdef hsz
        have s2 : fr.tmps[2]? = some (.pointer (some ⟨w.heap.size, 0, none⟩)) := hs.1
        clear hs
        refine ⟨?_⟩
        refine wpList_load_blk rfl 23 (.tmp 2) rfl (way_blk hway hy1_1 (by first | exact hy1_1.lt | omega) (by simp [heldBy, Knd.blockOf])) (by rw [HSW.out]; exact hW) (by simp [Act.eval, s2]) ?_
        refine wpList_nil ?_
        exact kp_val hdef hsz (Below.refl _ _)
      · intro G wx fr hway _ hs hdef hsz
        have s11 : fr.tmps[11]? = some (.agg (wcells a)) := hs.1
        clear hs
        refine ⟨?_⟩
        go_wp2_with fail
        refine (C7.out wx).mono ?_
        rintro e w2 ⟨rfl, hb2⟩
        go_wp2
        exact kp_post hsz hb2
      · intro G wx fr hway _ hs hdef hsz
        have s3 : fr.tmps[3]? = some (.pointer (some ⟨w1.heap.size, 0, none⟩)) := hs.1
        clear hs
        refine ⟨?_⟩
        refine wpList_load_blk rfl 23 (.tmp 3) rfl (way_blk hway hy1_2 (by first | exact hy1_2.lt | omega) (by simp [heldBy, Knd.blockOf])) (by rw [HSW.out]; exact hW) (by simp [Act.eval, s3]) ?_
        refine wpList_nil ?_
        exact kp_val hdef hsz (Below.refl _ _)
      · intro G wx fr hway _ hs hdef hsz
        have s13 : fr.tmps[13]? = some (.agg (wcells b)) := hs.1
        clear hs
        refine ⟨?_⟩
        go_wp2_with fail
        refine (C8.out wx).mono ?_
        rintro e w2 ⟨rfl, hb2⟩
        go_wp2
        exact kp_post hsz hb2
      · intro G wx fr hway _ hs hdef hsz
        have s12 : fr.tmps[12]? = some (.bool true) := hs.1
        have s14 : fr.tmps[14]? = some (.bool false) := hs.2.1
        clear hs
        refine ⟨?_⟩
        go_wp2
        exact kp_post hsz (Below.refl _ _)
    · intro G V wr4 hval hway hmade hap
      replace hval : V 0 = .agg (wcells a) ∧ V 1 = .bool true ∧ V 2 = .agg (wcells b) ∧ V 3 = .bool false ∧ V 4 = .bool true ∧ True := hval
      replace hmade : True := hmade
      obtain ⟨e4_0, e4_1, e4_2, e4_3, e4_4, -⟩ := hval
      obtain ⟨-⟩ := hmade
      clear hap
      simp only [fill, Act.put, e4_0, e4_1, e4_2, e4_3, e4_4]
      clear e4_0 e4_1 e4_2 e4_3 e4_4
      simp only [Exit.then]
      go_simp
      clear G V
      replace hy1_1 := way_blk hway hy1_1 hy1_1.lt (by simp [heldBy, Knd.blockOf])
      replace hy1_2 := way_blk hway hy1_2 hy1_2.lt (by simp [heldBy, Knd.blockOf])
      replace hy1_3 := way_blk hway hy1_3 hy1_3.lt (by simp [heldBy, Knd.blockOf])
      replace hx_3_5 := way_blk hway hx_3_5 hx_3_5.lt (by simp [heldBy, Knd.blockOf])
      replace hB1_3 := hway.2.2
      clear hway
      have tk4_0 : True := trivial
      have tk4_1 : True := trivial
      have tk4_2 : True := trivial
      have hlt_4_1 := hy1_1.lt
      have hlt_4_2 := hy1_2.lt
      have hlt_4_3 := hy1_3.lt
      have hlt_4_4 := hx_3_5.lt
      have hBs_4 := hB1_3.size
      go_wp2_with (first
        | ((with_reducible refine gd_load ?_); have _t := tk4_0; refine wpList_load_blk rfl 23 (.tmp 5) rfl hx_3_5 (by rw [HSW.out]; exact hW) rfl ?_; clear tk4_0)
        | (go_at_call 24; have _t := tk4_1; refine (C9.out _).mono ?_; clear tk4_1; rintro e w4 ⟨rfl, hb4⟩; have hs4 := hb4.size)
        | ((with_reducible refine gd_store ?_); have _t := tk4_2; refine wpList_store_all rfl 23 (.tmp 4) (.tmp 18) rfl (wcells z10) (hy1_3.ext hb4) (by rw [HSW.out]; exact hW) (by rw [HSW.out]; exact HSW.out 0) (H1W.out _) (by rfl) (by rfl) ?_; clear tk4_2; intro w5 hx5 hg5; have hs5 := hg5.size)
        | fail)
      have hy5_1 := ((hy1_1.ext hb4).grown hg5 (by simp; omega))
      have hy5_2 := ((hy1_2.ext hb4).grown hg5 (by simp; omega))
      have hy5_3 := hx5
      have hy5_4 := ((hx_3_5.ext hb4).grown hg5 (by simp; omega))
      have hB5_1 := below_step hB1_3 hb4
      have hB5_2 := below_blk hB5_1 hB5_1.size hg5 (by first | omega | (simp; omega))
      have hge_4 : w.heap.size ≤ g3_5 := by omega
      have hlo_1_4 : w.heap.size < g3_5 := by omega
      have hlo_2_4 : w1.heap.size < g3_5 := by omega
      have hlo_3_4 : w2.heap.size < g3_5 := by omega
      clear hlt_4_1 hlt_4_2 hlt_4_3 hlt_4_4 hBs_4 hb4 hs4 hg5 hs5 hx5 hx_3_5 hy1_1 hy1_2 hB5_1 hB1_3
      exact bodyPost_ret (results_blk1 (cs := wcells z10) rfl (by rw [HSW.out]; exact hW) hy5_3 rfl) rfl ⟨by rw [HE.out], hB5_2⟩
set_option maxRecDepth 100000 in
set_option maxHeartbeats 4000000 in
theorem RefSDiv_pm (a b : Nat) (w : World) (ha : a < 2 ^ 256) (hb : b < 2 ^ 256) (hs : Hid (¬ 2 ^ 255 ≤ a)) (ht : Hid (2 ^ 255 ≤ b)) : Calls Try.prog 40 #[.agg (wcells a), .agg (wcells b)] w fun e w' => e = .returned (.agg (wcells (sdivN a b))) ∧ Below w.heap.size w w' := by
  have hW := wordTy
  have zW := zWordL
  have HSW := Lib.hid wcells_size
  have H1W := Lib.hid wcells_one
  have HZW := Lib.hid wcells_lit0
  obtain ⟨z2, Ez2⟩ : ∃ z, z = absN a := ⟨_, rfl⟩
  have hz2 : z2 < 2 ^ 256 := by rw [Ez2]; exact (absN_lt' ha)
  have C1 := Lib.hid (fun w => RefAbs_all a w ha)
  rw [← Ez2] at C1
  obtain ⟨z4, Ez4⟩ : ∃ z, z = absN b := ⟨_, rfl⟩
  have hz4 : z4 < 2 ^ 256 := by rw [Ez4]; exact (absN_lt' hb)
  have C3 := Lib.hid (fun w => RefAbs_all b w hb)
  rw [← Ez4] at C3
  obtain ⟨z6, Ez6⟩ : ∃ z, z = z2 / z4 := ⟨_, rfl⟩
  have hz6 : z6 < 2 ^ 256 := by rw [Ez6]; exact (divN_lt _ hz2)
  have C5 := Lib.hid (fun w => RefDiv_all z2 z4 w hz2 hz4)
  rw [← Ez6] at C5
  have C7 := Lib.hid (fun w => RefNeg_any a w ha)
  rw [decide_eq_false hs.out] at C7
  have C8 := Lib.hid (fun w => RefNeg_any b w hb)
  rw [decide_eq_true ht.out] at C8
  obtain ⟨z10, Ez10⟩ : ∃ z, z = (0 + 2 ^ 256 - z6) % 2 ^ 256 := ⟨_, rfl⟩
  have hz10 : z10 < 2 ^ 256 := by rw [Ez10]; exact (Nat.mod_lt _ (by decide))
  have C9 := Lib.hid (fun w => RefSub_any 0 z6 w (by decide) hz6)
  rw [← Ez10] at C9
  have HE := Lib.hid (show z10 = sdivN a b from by subst_vars; exact sdiv_pos ha (by rw [decide_eq_false hs.out, decide_eq_true ht.out]; rfl))
  clear Ez2 Ez4 Ez6 Ez10 hz2 hz4 hz6 hz10
  go_enter Try.func40, Try.ntmps40
  have tk0_0 : True := trivial
  have tk0_1 : True := trivial
  have tk0_2 : True := trivial
  go_wp2_with (first
    | ((with_reducible refine gd_box ?_); have _t := tk0_0; refine wpList_box_agg rfl _ (.tmp 0) rfl rfl ?_; clear tk0_0; intro w1 hx1 hb1 hl1; have hz1 := hx1.lt; have hs1 := hb1.size)
    | ((with_reducible refine gd_box ?_); have _t := tk0_1; refine wpList_box_agg rfl _ (.tmp 1) rfl rfl ?_; clear tk0_1; intro w2 hx2 hb2 hl2; have hz2 := hx2.lt; have hs2 := hb2.size)
    | ((with_reducible refine gd_alloc ?_); have _t := tk0_2; refine wpList_alloc_blk rfl 23 rfl zW ?_; clear tk0_2; intro w3 hx3 hb3 hl3; have hz3 := hx3.lt; have hs3 := hb3.size)
    | fail)
  have hy1_1 := ((hx1.ext hb2).ext hb3)
  have hy1_2 := (hx2.ext hb3)
  have hy1_3 := hx3
  have hB1_1 := hb1
  have hB1_2 := below_step hB1_1 hb2
  have hB1_3 := below_step hB1_2 hb3
  have hge_1 : w.heap.size ≤ w.heap.size := by omega
  have hge_2 : w.heap.size ≤ w1.heap.size := by omega
  have hlo_1_2 : w.heap.size < w1.heap.size := by omega
  have hge_3 : w.heap.size ≤ w2.heap.size := by omega
  have hlo_1_3 : w.heap.size < w2.heap.size := by omega
  have hlo_2_3 : w1.heap.size < w2.heap.size := by omega
  clear hb1 hl1 hz1 hs1 hb2 hl2 hz2 hs2 hb3 hl3 hz3 hs3 hx1 hx2 hx3 hB1_1 hB1_2
  have hlw3_1 := hy1_1.lt
  have hlw3_2 := hy1_2.lt
  have hlw3_3 := hy1_3.lt
  refine wp_region_made (w := w3) (B := w.heap.size) (wB := w) [.val (.agg (wcells a)), .val (.agg (wcells z2)), .val (.agg (wcells b)), .val (.agg (wcells z4)), .val (.agg (wcells z6)), .new 23 (wcells 0) (wcells z6), .putN 5] (by kernel_rfl) (by kernel_rfl) (by kernel_rfl) rfl (by kernel_rfl) rfl hB1_3.size hB1_3 (by exact List.nodup_nil) (by intro g hg; exact nomatch hg) trivial ?_ ?_
  · refine ⟨?_, ?_, ?_, ?_, ?_, ?_, ?_, trivial⟩
    · intro G wx fr hway _ hs hdef hsz
      have s2 : fr.tmps[2]? = some (.pointer (some ⟨w.heap.size, 0, none⟩)) := hs.1
      clear hs
      refine ⟨?_⟩
      refine wpList_load_blk rfl 23 (.tmp 2) rfl (way_blk hway hy1_1 (by first | exact hy1_1.lt | omega) (by simp [heldBy, Knd.blockOf])) (by rw [HSW.out]; exact hW) (by simp [Act.eval, s2]) ?_
      refine wpList_nil ?_
      exact kp_val hdef hsz (Below.refl _ _)
    · intro G wx fr hway _ hs hdef hsz
      have s6 : fr.tmps[6]? = some (.agg (wcells a)) := hs.1
      clear hs
      refine ⟨?_⟩
      go_wp2_with fail
      refine (C1.out wx).mono ?_
      rintro e w2 ⟨rfl, hb2⟩
      go_wp2
      exact kp_post hsz hb2
    · intro G wx fr hway _ hs hdef hsz
      have s3 : fr.tmps[3]? = some (.pointer (some ⟨w1.heap.size, 0, none⟩)) := hs.1
      clear hs
      refine ⟨?_⟩
      refine wpList_load_blk rfl 23 (.tmp 3) rfl (way_blk hway hy1_2 (by first | exact hy1_2.lt | omega) (by simp [heldBy, Knd.blockOf])) (by rw [HSW.out]; exact hW) (by simp [Act.eval, s3]) ?_
      refine wpList_nil ?_
      exact kp_val hdef hsz (Below.refl _ _)
    · intro G wx fr hway _ hs hdef hsz
      have s8 : fr.tmps[8]? = some (.agg (wcells b)) := hs.1
      clear hs
      refine ⟨?_⟩
      go_wp2_with fail
      refine (C3.out wx).mono ?_
      rintro e w2 ⟨rfl, hb2⟩
      go_wp2
      exact kp_post hsz hb2
    · intro G wx fr hway _ hs hdef hsz
      have s7 : fr.tmps[7]? = some (.agg (wcells z2)) := hs.1
      have s9 : fr.tmps[9]? = some (.agg (wcells z4)) := hs.2.1
      clear hs
      refine ⟨?_⟩
      go_wp2_with fail
      refine (C5.out wx).mono ?_
      rintro e w2 ⟨rfl, hb2⟩
      go_wp2
      exact kp_post hsz hb2
    · intro G wx fr hway _ hs hdef hsz
      clear hs
      refine ⟨?_⟩
      refine wpList_alloc_blk rfl 23 rfl zW ?_
      intro wy hxy hby _
      refine wpList_nil ?_
      exact kp_new hdef hsz hby hxy
    · intro G wx fr hway hpre hs hdef hsz
      have s5 : fr.tmps[5]? = some (.pointer (some ⟨G 5, 0, none⟩)) := hs.1
      have s10 : fr.tmps[10]? = some (.agg (wcells z6)) := hs.2.1
      clear hs
      have hpre' : Blk wx (G 5) 23 (wcells 0) := hpre
      refine ⟨?_⟩
      refine wpList_store_all rfl 23 (.tmp 5) (.tmp 10) rfl (wcells z6) hpre' (by rw [HSW.out]; exact hW) (by rw [HSW.out, HSW.out]) (H1W.out _) (by simp [Act.eval, s5]) (by simp [Act.eval, s10]) ?_
      intro wy hxy hgy
      refine wpList_nil ?_
      exact ⟨rfl, hdef, rfl, hxy, hgy⟩
  · intro G V wr3 hval hway hmade hap
    replace hval : V 0 = .agg (wcells a) ∧ V 1 = .agg (wcells z2) ∧ V 2 = .agg (wcells b) ∧ V 3 = .agg (wcells z4) ∧ V 4 = .agg (wcells z6) ∧ V 5 = .pointer (some ⟨G 5, 0, none⟩) ∧ V 6 = undef ∧ True := hval
    replace hmade : (w3.heap.size ≤ G 5 ∧ G 5 < wr3.heap.size ∧ Blk wr3 (G 5) 23 (wcells z6)) ∧ True := hmade
    obtain ⟨e3_0, e3_1, e3_2, e3_3, e3_4, e3_5, e3_6, -⟩ := hval
    obtain ⟨⟨hg3_5, hl3_5, hx_3_5⟩, -⟩ := hmade
    clear hap
    simp only [fill, Act.put, e3_0, e3_1, e3_2, e3_3, e3_4, e3_5]
    clear e3_0 e3_1 e3_2 e3_3 e3_4 e3_5 e3_6
    simp only [Exit.then]
    go_simp
    generalize G 5 = g3_5 at *
    clear G V
    replace hy1_1 := way_blk hway hy1_1 hy1_1.lt (by simp [heldBy, Knd.blockOf])
    replace hy1_2 := way_blk hway hy1_2 hy1_2.lt (by simp [heldBy, Knd.blockOf])
    replace hy1_3 := way_blk hway hy1_3 hy1_3.lt (by simp [heldBy, Knd.blockOf])
    replace hB1_3 := hway.2.2
    clear hway
    go_wp2
    refine wp_region_made (w := wr3) (B := w.heap.size) (wB := w) [.val (.agg (wcells a)), .val (.bool false), .val (.agg (wcells b)), .val (.bool true), .val (.bool true)] (by kernel_rfl) (by kernel_rfl) (by kernel_rfl) rfl (by kernel_rfl) rfl hB1_3.size hB1_3 (by exact List.nodup_nil) (by intro g hg; exact nomatch hg) trivial ?_ ?_
    · refine ⟨?_, ?_, ?_, ?_, ?_, trivial⟩
      · intro G wx fr hway _ hs hdef hsz
        have s2 : fr.tmps[2]? = some (.pointer (some ⟨w.heap.size, 0, none⟩)) := hs.1
        clear hs
        refine ⟨?_⟩
        refine wpList_load_blk rfl 23 (.tmp 2) rfl (way_blk hway hy1_1 (by first | exact hy1_1.lt | omega) (by simp [heldBy, Knd.blockOf])) (by rw [HSW.out]; exact hW) (by simp [Act.eval, s2]) ?_
        refine wpList_nil ?_
        exact kp_val hdef hsz (Below.refl _ _)
      · intro G wx fr hway _ hs hdef hsz
        have s11 : fr.tmps[11]? = some (.agg (wcells a)) := hs.1
        clear hs
        refine ⟨?_⟩
        go_wp2_with fail
        refine (C7.out wx).mono ?_
        rintro e w2 ⟨rfl, hb2⟩
        go_wp2
        exact kp_post hsz hb2
      · intro G wx fr hway _ hs hdef hsz
        have s3 : fr.tmps[3]? = some (.pointer (some ⟨w1.heap.size, 0, none⟩)) := hs.1
        clear hs
        refine ⟨?_⟩
        refine wpList_load_blk rfl 23 (.tmp 3) rfl (way_blk hway hy1_2 (by first | exact hy1_2.lt | omega) (by simp [heldBy, Knd.blockOf])) (by rw [HSW.out]; exact hW) (by simp [Act.eval, s3]) ?_
        refine wpList_nil ?_
        exact kp_val hdef hsz (Below.refl _ _)
      · intro G wx fr hway _ hs hdef hsz
        have s13 : fr.tmps[13]? = some (.agg (wcells b)) := hs.1
        clear hs
        refine ⟨?_⟩
        go_wp2_with fail
        refine (C8.out wx).mono ?_
        rintro e w2 ⟨rfl, hb2⟩
        go_wp2
        exact kp_post hsz hb2
      · intro G wx fr hway _ hs hdef hsz
        have s12 : fr.tmps[12]? = some (.bool false) := hs.1
        have s14 : fr.tmps[14]? = some (.bool true) := hs.2.1
        clear hs
        refine ⟨?_⟩
        go_wp2
        exact kp_post hsz (Below.refl _ _)
    · intro G V wr4 hval hway hmade hap
      replace hval : V 0 = .agg (wcells a) ∧ V 1 = .bool false ∧ V 2 = .agg (wcells b) ∧ V 3 = .bool true ∧ V 4 = .bool true ∧ True := hval
      replace hmade : True := hmade
      obtain ⟨e4_0, e4_1, e4_2, e4_3, e4_4, -⟩ := hval
      obtain ⟨-⟩ := hmade
      clear hap
      simp only [fill, Act.put, e4_0, e4_1, e4_2, e4_3, e4_4]
      clear e4_0 e4_1 e4_2 e4_3 e4_4
      simp only [Exit.then]
      go_simp
      clear G V
      replace hy1_1 := way_blk hway hy1_1 hy1_1.lt (by simp [heldBy, Knd.blockOf])
      replace hy1_2 := way_blk hway hy1_2 hy1_2.lt (by simp [heldBy, Knd.blockOf])
      replace hy1_3 := way_blk hway hy1_3 hy1_3.lt (by simp [heldBy, Knd.blockOf])
      replace hx_3_5 := way_blk hway hx_3_5 hx_3_5.lt (by simp [heldBy, Knd.blockOf])
      replace hB1_3 := hway.2.2
      clear hway
      have tk4_0 : True := trivial
      have tk4_1 : True := trivial
      have tk4_2 : True := trivial
      have hlt_4_1 := hy1_1.lt
      have hlt_4_2 := hy1_2.lt
      have hlt_4_3 := hy1_3.lt
      have hlt_4_4 := hx_3_5.lt
      have hBs_4 := hB1_3.size
      go_wp2_with (first
        | ((with_reducible refine gd_load ?_); have _t := tk4_0; refine wpList_load_blk rfl 23 (.tmp 5) rfl hx_3_5 (by rw [HSW.out]; exact hW) rfl ?_; clear tk4_0)
        | (go_at_call 24; have _t := tk4_1; refine (C9.out _).mono ?_; clear tk4_1; rintro e w4 ⟨rfl, hb4⟩; have hs4 := hb4.size)
        | ((with_reducible refine gd_store ?_); have _t := tk4_2; refine wpList_store_all rfl 23 (.tmp 4) (.tmp 18) rfl (wcells z10) (hy1_3.ext hb4) (by rw [HSW.out]; exact hW) (by rw [HSW.out]; exact HSW.out 0) (H1W.out _) (by rfl) (by rfl) ?_; clear tk4_2; intro w5 hx5 hg5; have hs5 := hg5.size)
        | fail)
      have hy5_1 := ((hy1_1.ext hb4).grown hg5 (by simp; omega))
      have hy5_2 := ((hy1_2.ext hb4).grown hg5 (by simp; omega))
      have hy5_3 := hx5
      have hy5_4 := ((hx_3_5.ext hb4).grown hg5 (by simp; omega))
      have hB5_1 := below_step hB1_3 hb4
      have hB5_2 := below_blk hB5_1 hB5_1.size hg5 (by first | omega | (simp; omega))
      have hge_4 : w.heap.size ≤ g3_5 := by omega
      have hlo_1_4 : w.heap.size < g3_5 := by omega
      have hlo_2_4 : w1.heap.size < g3_5 := by omega
      have hlo_3_4 : w2.heap.size < g3_5 := by omega
      clear hlt_4_1 hlt_4_2 hlt_4_3 hlt_4_4 hBs_4 hb4 hs4 hg5 hs5 hx5 hx_3_5 hy1_1 hy1_2 hB5_1 hB1_3
      exact bodyPost_ret (results_blk1 (cs := wcells z10) rfl (by rw [HSW.out]; exact hW) hy5_3 rfl) rfl ⟨by rw [HE.out], hB5_2⟩
set_option maxRecDepth 100000 in
set_option maxHeartbeats 4000000 in
theorem RefSDiv_pp (a b : Nat) (w : World) (ha : a < 2 ^ 256) (hb : b < 2 ^ 256) (hs : Hid (¬ 2 ^ 255 ≤ a)) (ht : Hid (¬ 2 ^ 255 ≤ b)) : Calls Try.prog 40 #[.agg (wcells a), .agg (wcells b)] w fun e w' => e = .returned (.agg (wcells (sdivN a b))) ∧ Below w.heap.size w w' := by
  have hW := wordTy
  have zW := zWordL
  have HSW := Lib.hid wcells_size
  have H1W := Lib.hid wcells_one
  have HZW := Lib.hid wcells_lit0
  obtain ⟨z2, Ez2⟩ : ∃ z, z = absN a := ⟨_, rfl⟩
  have hz2 : z2 < 2 ^ 256 := by rw [Ez2]; exact (absN_lt' ha)
  have C1 := Lib.hid (fun w => RefAbs_all a w ha)
  rw [← Ez2] at C1
  obtain ⟨z4, Ez4⟩ : ∃ z, z = absN b := ⟨_, rfl⟩
  have hz4 : z4 < 2 ^ 256 := by rw [Ez4]; exact (absN_lt' hb)
  have C3 := Lib.hid (fun w => RefAbs_all b w hb)
  rw [← Ez4] at C3
  obtain ⟨z6, Ez6⟩ : ∃ z, z = z2 / z4 := ⟨_, rfl⟩
  have hz6 : z6 < 2 ^ 256 := by rw [Ez6]; exact (divN_lt _ hz2)
  have C5 := Lib.hid (fun w => RefDiv_all z2 z4 w hz2 hz4)
  rw [← Ez6] at C5
  have C7 := Lib.hid (fun w => RefNeg_any a w ha)
  rw [decide_eq_false hs.out] at C7
  have C8 := Lib.hid (fun w => RefNeg_any b w hb)
  rw [decide_eq_false ht.out] at C8
  have HE := Lib.hid (show z6 = sdivN a b from by subst_vars; exact sdiv_neg ha (by rw [decide_eq_false hs.out, decide_eq_false ht.out]; rfl))
  clear Ez2 Ez4 Ez6 hz2 hz4 hz6
  go_enter Try.func40, Try.ntmps40
  have tk0_0 : True := trivial
  have tk0_1 : True := trivial
  have tk0_2 : True := trivial
  go_wp2_with (first
    | ((with_reducible refine gd_box ?_); have _t := tk0_0; refine wpList_box_agg rfl _ (.tmp 0) rfl rfl ?_; clear tk0_0; intro w1 hx1 hb1 hl1; have hz1 := hx1.lt; have hs1 := hb1.size)
    | ((with_reducible refine gd_box ?_); have _t := tk0_1; refine wpList_box_agg rfl _ (.tmp 1) rfl rfl ?_; clear tk0_1; intro w2 hx2 hb2 hl2; have hz2 := hx2.lt; have hs2 := hb2.size)
    | ((with_reducible refine gd_alloc ?_); have _t := tk0_2; refine wpList_alloc_blk rfl 23 rfl zW ?_; clear tk0_2; intro w3 hx3 hb3 hl3; have hz3 := hx3.lt; have hs3 := hb3.size)
    | fail)
  have hy1_1 := ((hx1.ext hb2).ext hb3)
  have hy1_2 := (hx2.ext hb3)
  have hy1_3 := hx3
  have hB1_1 := hb1
  have hB1_2 := below_step hB1_1 hb2
  have hB1_3 := below_step hB1_2 hb3
  have hge_1 : w.heap.size ≤ w.heap.size := by omega
  have hge_2 : w.heap.size ≤ w1.heap.size := by omega
  have hlo_1_2 : w.heap.size < w1.heap.size := by omega
  have hge_3 : w.heap.size ≤ w2.heap.size := by omega
  have hlo_1_3 : w.heap.size < w2.heap.size := by omega
  have hlo_2_3 : w1.heap.size < w2.heap.size := by omega
  clear hb1 hl1 hz1 hs1 hb2 hl2 hz2 hs2 hb3 hl3 hz3 hs3 hx1 hx2 hx3 hB1_1 hB1_2
  have hlw3_1 := hy1_1.lt
  have hlw3_2 := hy1_2.lt
  have hlw3_3 := hy1_3.lt
  refine wp_region_made (w := w3) (B := w.heap.size) (wB := w) [.val (.agg (wcells a)), .val (.agg (wcells z2)), .val (.agg (wcells b)), .val (.agg (wcells z4)), .val (.agg (wcells z6)), .new 23 (wcells 0) (wcells z6), .putN 5] (by kernel_rfl) (by kernel_rfl) (by kernel_rfl) rfl (by kernel_rfl) rfl hB1_3.size hB1_3 (by exact List.nodup_nil) (by intro g hg; exact nomatch hg) trivial ?_ ?_
  · refine ⟨?_, ?_, ?_, ?_, ?_, ?_, ?_, trivial⟩
    · intro G wx fr hway _ hs hdef hsz
      have s2 : fr.tmps[2]? = some (.pointer (some ⟨w.heap.size, 0, none⟩)) := hs.1
      clear hs
      refine ⟨?_⟩
      refine wpList_load_blk rfl 23 (.tmp 2) rfl (way_blk hway hy1_1 (by first | exact hy1_1.lt | omega) (by simp [heldBy, Knd.blockOf])) (by rw [HSW.out]; exact hW) (by simp [Act.eval, s2]) ?_
      refine wpList_nil ?_
      exact kp_val hdef hsz (Below.refl _ _)
    · intro G wx fr hway _ hs hdef hsz
      have s6 : fr.tmps[6]? = some (.agg (wcells a)) := hs.1
      clear hs
      refine ⟨?_⟩
      go_wp2_with fail
      refine (C1.out wx).mono ?_
      rintro e w2 ⟨rfl, hb2⟩
      go_wp2
      exact kp_post hsz hb2
    · intro G wx fr hway _ hs hdef hsz
      have s3 : fr.tmps[3]? = some (.pointer (some ⟨w1.heap.size, 0, none⟩)) := hs.1
      clear hs
      refine ⟨?_⟩
      refine wpList_load_blk rfl 23 (.tmp 3) rfl (way_blk hway hy1_2 (by first | exact hy1_2.lt | omega) (by simp [heldBy, Knd.blockOf])) (by rw [HSW.out]; exact hW) (by simp [Act.eval, s3]) ?_
      refine wpList_nil ?_
      exact kp_val hdef hsz (Below.refl _ _)
    · intro G wx fr hway _ hs hdef hsz
      have s8 : fr.tmps[8]? = some (.agg (wcells b)) := hs.1
      clear hs
      refine ⟨?_⟩
      go_wp2_with fail
      refine (C3.out wx).mono ?_
      rintro e w2 ⟨rfl, hb2⟩
      go_wp2
      exact kp_post hsz hb2
    · intro G wx fr hway _ hs hdef hsz
      have s7 : fr.tmps[7]? = some (.agg (wcells z2)) := hs.1
      have s9 : fr.tmps[9]? = some (.agg (wcells z4)) := hs.2.1
      clear hs
      refine ⟨?_⟩
      go_wp2_with fail
      refine (C5.out wx).mono ?_
      rintro e w2 ⟨rfl, hb2⟩
      go_wp2
      exact kp_post hsz hb2
    · intro G wx fr hway _ hs hdef hsz
      clear hs
      refine ⟨?_⟩
      refine wpList_alloc_blk rfl 23 rfl zW ?_
      intro wy hxy hby _
      refine wpList_nil ?_
      exact kp_new hdef hsz hby hxy
    · intro G wx fr hway hpre hs hdef hsz
      have s5 : fr.tmps[5]? = some (.pointer (some ⟨G 5, 0, none⟩)) := hs.1
      have s10 : fr.tmps[10]? = some (.agg (wcells z6)) := hs.2.1
      clear hs
      have hpre' : Blk wx (G 5) 23 (wcells 0) := hpre
      refine ⟨?_⟩
      refine wpList_store_all rfl 23 (.tmp 5) (.tmp 10) rfl (wcells z6) hpre' (by rw [HSW.out]; exact hW) (by rw [HSW.out, HSW.out]) (H1W.out _) (by simp [Act.eval, s5]) (by simp [Act.eval, s10]) ?_
      intro wy hxy hgy
      refine wpList_nil ?_
      exact ⟨rfl, hdef, rfl, hxy, hgy⟩
  · intro G V wr3 hval hway hmade hap
    replace hval : V 0 = .agg (wcells a) ∧ V 1 = .agg (wcells z2) ∧ V 2 = .agg (wcells b) ∧ V 3 = .agg (wcells z4) ∧ V 4 = .agg (wcells z6) ∧ V 5 = .pointer (some ⟨G 5, 0, none⟩) ∧ V 6 = undef ∧ True := hval
    replace hmade : (w3.heap.size ≤ G 5 ∧ G 5 < wr3.heap.size ∧ Blk wr3 (G 5) 23 (wcells z6)) ∧ True := hmade
    obtain ⟨e3_0, e3_1, e3_2, e3_3, e3_4, e3_5, e3_6, -⟩ := hval
    obtain ⟨⟨hg3_5, hl3_5, hx_3_5⟩, -⟩ := hmade
    clear hap
    simp only [fill, Act.put, e3_0, e3_1, e3_2, e3_3, e3_4, e3_5]
    clear e3_0 e3_1 e3_2 e3_3 e3_4 e3_5 e3_6
    simp only [Exit.then]
    go_simp
    generalize G 5 = g3_5 at *
    clear G V
    replace hy1_1 := way_blk hway hy1_1 hy1_1.lt (by simp [heldBy, Knd.blockOf])
    replace hy1_2 := way_blk hway hy1_2 hy1_2.lt (by simp [heldBy, Knd.blockOf])
    replace hy1_3 := way_blk hway hy1_3 hy1_3.lt (by simp [heldBy, Knd.blockOf])
    replace hB1_3 := hway.2.2
    clear hway
    go_wp2
    refine wp_region_made (w := wr3) (B := w.heap.size) (wB := w) [.val (.agg (wcells a)), .val (.bool false), .val (.agg (wcells b)), .val (.bool false), .val (.bool false)] (by kernel_rfl) (by kernel_rfl) (by kernel_rfl) rfl (by kernel_rfl) rfl hB1_3.size hB1_3 (by exact List.nodup_nil) (by intro g hg; exact nomatch hg) trivial ?_ ?_
    · refine ⟨?_, ?_, ?_, ?_, ?_, trivial⟩
      · intro G wx fr hway _ hs hdef hsz
        have s2 : fr.tmps[2]? = some (.pointer (some ⟨w.heap.size, 0, none⟩)) := hs.1
        clear hs
        refine ⟨?_⟩
        refine wpList_load_blk rfl 23 (.tmp 2) rfl (way_blk hway hy1_1 (by first | exact hy1_1.lt | omega) (by simp [heldBy, Knd.blockOf])) (by rw [HSW.out]; exact hW) (by simp [Act.eval, s2]) ?_
        refine wpList_nil ?_
        exact kp_val hdef hsz (Below.refl _ _)
      · intro G wx fr hway _ hs hdef hsz
        have s11 : fr.tmps[11]? = some (.agg (wcells a)) := hs.1
        clear hs
        refine ⟨?_⟩
        go_wp2_with fail
        refine (C7.out wx).mono ?_
        rintro e w2 ⟨rfl, hb2⟩
        go_wp2
        exact kp_post hsz hb2
      · intro G wx fr hway _ hs hdef hsz
        have s3 : fr.tmps[3]? = some (.pointer (some ⟨w1.heap.size, 0, none⟩)) := hs.1
        clear hs
        refine ⟨?_⟩
        refine wpList_load_blk rfl 23 (.tmp 3) rfl (way_blk hway hy1_2 (by first | exact hy1_2.lt | omega) (by simp [heldBy, Knd.blockOf])) (by rw [HSW.out]; exact hW) (by simp [Act.eval, s3]) ?_
        refine wpList_nil ?_
        exact kp_val hdef hsz (Below.refl _ _)
      · intro G wx fr hway _ hs hdef hsz
        have s13 : fr.tmps[13]? = some (.agg (wcells b)) := hs.1
        clear hs
        refine ⟨?_⟩
        go_wp2_with fail
        refine (C8.out wx).mono ?_
        rintro e w2 ⟨rfl, hb2⟩
        go_wp2
        exact kp_post hsz hb2
      · intro G wx fr hway _ hs hdef hsz
        have s12 : fr.tmps[12]? = some (.bool false) := hs.1
        have s14 : fr.tmps[14]? = some (.bool false) := hs.2.1
        clear hs
        refine ⟨?_⟩
        go_wp2
        exact kp_post hsz (Below.refl _ _)
    · intro G V wr4 hval hway hmade hap
      replace hval : V 0 = .agg (wcells a) ∧ V 1 = .bool false ∧ V 2 = .agg (wcells b) ∧ V 3 = .bool false ∧ V 4 = .bool false ∧ True := hval
      replace hmade : True := hmade
      obtain ⟨e4_0, e4_1, e4_2, e4_3, e4_4, -⟩ := hval
      obtain ⟨-⟩ := hmade
      clear hap
      simp only [fill, Act.put, e4_0, e4_1, e4_2, e4_3, e4_4]
      clear e4_0 e4_1 e4_2 e4_3 e4_4
      simp only [Exit.then]
      go_simp
      clear G V
      replace hy1_1 := way_blk hway hy1_1 hy1_1.lt (by simp [heldBy, Knd.blockOf])
      replace hy1_2 := way_blk hway hy1_2 hy1_2.lt (by simp [heldBy, Knd.blockOf])
      replace hy1_3 := way_blk hway hy1_3 hy1_3.lt (by simp [heldBy, Knd.blockOf])
      replace hx_3_5 := way_blk hway hx_3_5 hx_3_5.lt (by simp [heldBy, Knd.blockOf])
      replace hB1_3 := hway.2.2
      clear hway
      have tk4_0 : True := trivial
      have tk4_1 : True := trivial
      have hlt_4_1 := hy1_1.lt
      have hlt_4_2 := hy1_2.lt
      have hlt_4_3 := hy1_3.lt
      have hlt_4_4 := hx_3_5.lt
      have hBs_4 := hB1_3.size
      go_wp2_with (first
        | ((with_reducible refine gd_load ?_); have _t := tk4_0; refine wpList_load_blk rfl 23 (.tmp 5) rfl hx_3_5 (by rw [HSW.out]; exact hW) rfl ?_; clear tk4_0)
        | ((with_reducible refine gd_store ?_); have _t := tk4_1; refine wpList_store_all rfl 23 (.tmp 4) (.tmp 19) rfl (wcells z6) hy1_3 (by rw [HSW.out]; exact hW) (by rw [HSW.out]; exact HSW.out 0) (H1W.out _) (by rfl) (by rfl) ?_; clear tk4_1; intro w4 hx4 hg4; have hs4 := hg4.size)
        | fail)
      have hy5_1 := (hy1_1.grown hg4 (by simp; omega))
      have hy5_2 := (hy1_2.grown hg4 (by simp; omega))
      have hy5_3 := hx4
      have hy5_4 := (hx_3_5.grown hg4 (by simp; omega))
      have hB5_1 := below_blk hB1_3 hB1_3.size hg4 (by first | omega | (simp; omega))
      have hge_4 : w.heap.size ≤ g3_5 := by omega
      have hlo_1_4 : w.heap.size < g3_5 := by omega
      have hlo_2_4 : w1.heap.size < g3_5 := by omega
      have hlo_3_4 : w2.heap.size < g3_5 := by omega
      clear hlt_4_1 hlt_4_2 hlt_4_3 hlt_4_4 hBs_4 hg4 hs4 hx4 hx_3_5 hy1_1 hy1_2 hB1_3
      exact bodyPost_ret (results_blk1 (cs := wcells z6) rfl (by rw [HSW.out]; exact hW) hy5_3 rfl) rfl ⟨by rw [HE.out], hB5_1⟩
theorem RefSDiv_all (a b : Nat) (w : World) (ha : a < 2 ^ 256) (hb : b < 2 ^ 256) : Calls Try.prog 40 #[.agg (wcells a), .agg (wcells b)] w fun e w' => e = .returned (.agg (wcells (sdivN a b))) ∧ Below w.heap.size w w' := by
  by_cases c : 2 ^ 255 ≤ a <;> by_cases d : 2 ^ 255 ≤ b
  · exact RefSDiv_mm a b w ha hb (Lib.hid c) (Lib.hid d)
  · exact RefSDiv_mp a b w ha hb (Lib.hid c) (Lib.hid d)
  · exact RefSDiv_pm a b w ha hb (Lib.hid c) (Lib.hid d)
  · exact RefSDiv_pp a b w ha hb (Lib.hid c) (Lib.hid d)
set_option maxRecDepth 100000 in
set_option maxHeartbeats 4000000 in
theorem RefSMod_m (a b : Nat) (w : World) (ha : a < 2 ^ 256) (hb : b < 2 ^ 256) (hs : Hid (2 ^ 255 ≤ a)) : Calls Try.prog 42 #[.agg (wcells a), .agg (wcells b)] w fun e w' => e = .returned (.agg (wcells (smodN a b))) ∧ Below w.heap.size w w' := by
  have hW := wordTy
  have zW := zWordL
  have HSW := Lib.hid wcells_size
  have H1W := Lib.hid wcells_one
  have HZW := Lib.hid wcells_lit0
  obtain ⟨z2, Ez2⟩ : ∃ z, z = absN a := ⟨_, rfl⟩
  have hz2 : z2 < 2 ^ 256 := by rw [Ez2]; exact (absN_lt' ha)
  have C1 := Lib.hid (fun w => RefAbs_all a w ha)
  rw [← Ez2] at C1
  obtain ⟨z4, Ez4⟩ : ∃ z, z = absN b := ⟨_, rfl⟩
  have hz4 : z4 < 2 ^ 256 := by rw [Ez4]; exact (absN_lt' hb)
  have C3 := Lib.hid (fun w => RefAbs_all b w hb)
  rw [← Ez4] at C3
  obtain ⟨z6, Ez6⟩ : ∃ z, z = modN z2 z4 := ⟨_, rfl⟩
  have hz6 : z6 < 2 ^ 256 := by rw [Ez6]; exact (modN_lt _ hz2)
  have C5 := Lib.hid (fun w => RefMod_all z2 z4 w hz2 hz4)
  rw [← Ez6] at C5
  have C7 := Lib.hid (fun w => RefNeg_any a w ha)
  rw [decide_eq_true hs.out] at C7
  obtain ⟨z9, Ez9⟩ : ∃ z, z = (0 + 2 ^ 256 - z6) % 2 ^ 256 := ⟨_, rfl⟩
  have hz9 : z9 < 2 ^ 256 := by rw [Ez9]; exact (Nat.mod_lt _ (by decide))
  have C8 := Lib.hid (fun w => RefSub_any 0 z6 w (by decide) hz6)
  rw [← Ez9] at C8
  have HE := Lib.hid (show z9 = smodN a b from by subst_vars; exact smod_yes hs.out)
  clear Ez2 Ez4 Ez6 Ez9 hz2 hz4 hz6 hz9
  go_enter Try.func42, Try.ntmps42
  have tk0_0 : True := trivial
  have tk0_1 : True := trivial
  have tk0_2 : True := trivial
  go_wp2_with (first
    | ((with_reducible refine gd_box ?_); have _t := tk0_0; refine wpList_box_agg rfl _ (.tmp 0) rfl rfl ?_; clear tk0_0; intro w1 hx1 hb1 hl1; have hz1 := hx1.lt; have hs1 := hb1.size)
    | ((with_reducible refine gd_box ?_); have _t := tk0_1; refine wpList_box_agg rfl _ (.tmp 1) rfl rfl ?_; clear tk0_1; intro w2 hx2 hb2 hl2; have hz2 := hx2.lt; have hs2 := hb2.size)
    | ((with_reducible refine gd_alloc ?_); have _t := tk0_2; refine wpList_alloc_blk rfl 23 rfl zW ?_; clear tk0_2; intro w3 hx3 hb3 hl3; have hz3 := hx3.lt; have hs3 := hb3.size)
    | fail)
  have hy1_1 := ((hx1.ext hb2).ext hb3)
  have hy1_2 := (hx2.ext hb3)
  have hy1_3 := hx3
  have hB1_1 := hb1
  have hB1_2 := below_step hB1_1 hb2
  have hB1_3 := below_step hB1_2 hb3
  have hge_1 : w.heap.size ≤ w.heap.size := by omega
  have hge_2 : w.heap.size ≤ w1.heap.size := by omega
  have hlo_1_2 : w.heap.size < w1.heap.size := by omega
  have hge_3 : w.heap.size ≤ w2.heap.size := by omega
  have hlo_1_3 : w.heap.size < w2.heap.size := by omega
  have hlo_2_3 : w1.heap.size < w2.heap.size := by omega
  clear hb1 hl1 hz1 hs1 hb2 hl2 hz2 hs2 hb3 hl3 hz3 hs3 hx1 hx2 hx3 hB1_1 hB1_2
  have hlw3_1 := hy1_1.lt
  have hlw3_2 := hy1_2.lt
  have hlw3_3 := hy1_3.lt
  refine wp_region_made (w := w3) (B := w.heap.size) (wB := w) [.val (.agg (wcells a)), .val (.agg (wcells z2)), .val (.agg (wcells b)), .val (.agg (wcells z4)), .val (.agg (wcells z6)), .new 23 (wcells 0) (wcells z6), .putN 5] (by kernel_rfl) (by kernel_rfl) (by kernel_rfl) rfl (by kernel_rfl) rfl hB1_3.size hB1_3 (by exact List.nodup_nil) (by intro g hg; exact nomatch hg) trivial ?_ ?_
  · refine ⟨?_, ?_, ?_, ?_, ?_, ?_, ?_, trivial⟩
    · intro G wx fr hway _ hs hdef hsz
      have s2 : fr.tmps[2]? = some (.pointer (some ⟨w.heap.size, 0, none⟩)) := hs.1
      clear hs
      refine ⟨?_⟩
      refine wpList_load_blk rfl 23 (.tmp 2) rfl (way_blk hway hy1_1 (by first | exact hy1_1.lt | omega) (by simp [heldBy, Knd.blockOf])) (by rw [HSW.out]; exact hW) (by simp [Act.eval, s2]) ?_
      refine wpList_nil ?_
      exact kp_val hdef hsz (Below.refl _ _)
    · intro G wx fr hway _ hs hdef hsz
      have s6 : fr.tmps[6]? = some (.agg (wcells a)) := hs.1
      clear hs
      refine ⟨?_⟩
      go_wp2_with fail
      refine (C1.out wx).mono ?_
      rintro e w2 ⟨rfl, hb2⟩
      go_wp2
      exact kp_post hsz hb2
    · intro G wx fr hway _ hs hdef hsz
      have s3 : fr.tmps[3]? = some (.pointer (some ⟨w1.heap.size, 0, none⟩)) := hs.1
      clear hs
      refine ⟨?_⟩
      refine wpList_load_blk rfl 23 (.tmp 3) rfl (way_blk hway hy1_2 (by first | exact hy1_2.lt | omega) (by simp [heldBy, Knd.blockOf])) (by rw [HSW.out]; exact hW) (by simp [Act.eval, s3]) ?_
      refine wpList_nil ?_
      exact kp_val hdef hsz (Below.refl _ _)
    · intro G wx fr hway _ hs hdef hsz
      have s8 : fr.tmps[8]? = some (.agg (wcells b)) := hs.1
      clear hs
      refine ⟨?_⟩
      go_wp2_with fail
      refine (C3.out wx).mono ?_
      rintro e w2 ⟨rfl, hb2⟩
      go_wp2
      exact kp_post hsz hb2
    · intro G wx fr hway _ hs hdef hsz
      have s7 : fr.tmps[7]? = some (.agg (wcells z2)) := hs.1
      have s9 : fr.tmps[9]? = some (.agg (wcells z4)) := hs.2.1
      clear hs
      refine ⟨?_⟩
      go_wp2_with fail
      refine (C5.out wx).mono ?_
      rintro e w2 ⟨rfl, hb2⟩
      go_wp2
      exact kp_post hsz hb2
    · intro G wx fr hway _ hs hdef hsz
      clear hs
      refine ⟨?_⟩
      refine wpList_alloc_blk rfl 23 rfl zW ?_
      intro wy hxy hby _
      refine wpList_nil ?_
      exact kp_new hdef hsz hby hxy
    · intro G wx fr hway hpre hs hdef hsz
      have s5 : fr.tmps[5]? = some (.pointer (some ⟨G 5, 0, none⟩)) := hs.1
      have s10 : fr.tmps[10]? = some (.agg (wcells z6)) := hs.2.1
      clear hs
      have hpre' : Blk wx (G 5) 23 (wcells 0) := hpre
      refine ⟨?_⟩
      refine wpList_store_all rfl 23 (.tmp 5) (.tmp 10) rfl (wcells z6) hpre' (by rw [HSW.out]; exact hW) (by rw [HSW.out, HSW.out]) (H1W.out _) (by simp [Act.eval, s5]) (by simp [Act.eval, s10]) ?_
      intro wy hxy hgy
      refine wpList_nil ?_
      exact ⟨rfl, hdef, rfl, hxy, hgy⟩
  · intro G V wr3 hval hway hmade hap
    replace hval : V 0 = .agg (wcells a) ∧ V 1 = .agg (wcells z2) ∧ V 2 = .agg (wcells b) ∧ V 3 = .agg (wcells z4) ∧ V 4 = .agg (wcells z6) ∧ V 5 = .pointer (some ⟨G 5, 0, none⟩) ∧ V 6 = undef ∧ True := hval
    replace hmade : (w3.heap.size ≤ G 5 ∧ G 5 < wr3.heap.size ∧ Blk wr3 (G 5) 23 (wcells z6)) ∧ True := hmade
    obtain ⟨e3_0, e3_1, e3_2, e3_3, e3_4, e3_5, e3_6, -⟩ := hval
    obtain ⟨⟨hg3_5, hl3_5, hx_3_5⟩, -⟩ := hmade
    clear hap
    simp only [fill, Act.put, e3_0, e3_1, e3_2, e3_3, e3_4, e3_5]
    clear e3_0 e3_1 e3_2 e3_3 e3_4 e3_5 e3_6
    simp only [Exit.then]
    go_simp
    generalize G 5 = g3_5 at *
    clear G V
    replace hy1_1 := way_blk hway hy1_1 hy1_1.lt (by simp [heldBy, Knd.blockOf])
    replace hy1_2 := way_blk hway hy1_2 hy1_2.lt (by simp [heldBy, Knd.blockOf])
    replace hy1_3 := way_blk hway hy1_3 hy1_3.lt (by simp [heldBy, Knd.blockOf])
    replace hB1_3 := hway.2.2
    clear hway
    have tk3_0 : True := trivial
    have tk3_1 : True := trivial
    have tk3_2 : True := trivial
    have tk3_3 : True := trivial
    have tk3_4 : True := trivial
    have hlt_3_1 := hy1_1.lt
    have hlt_3_2 := hy1_2.lt
    have hlt_3_3 := hy1_3.lt
    have hlt_3_4 := hx_3_5.lt
    have hBs_3 := hB1_3.size
    go_wp2_with (first
      | ((with_reducible refine gd_load ?_); have _t := tk3_0; refine wpList_load_blk rfl 23 (.tmp 2) rfl hy1_1 (by rw [HSW.out]; exact hW) rfl ?_; clear tk3_0)
      | (go_at_call 50; have _t := tk3_1; refine (C7.out _).mono ?_; clear tk3_1; rintro e w4 ⟨rfl, hb4⟩; have hs4 := hb4.size)
      | ((with_reducible refine gd_load ?_); have _t := tk3_2; refine wpList_load_blk rfl 23 (.tmp 5) rfl (hx_3_5.ext hb4) (by rw [HSW.out]; exact hW) rfl ?_; clear tk3_2)
      | (go_at_call 24; have _t := tk3_3; refine (C8.out _).mono ?_; clear tk3_3; rintro e w5 ⟨rfl, hb5⟩; have hs5 := hb5.size)
      | ((with_reducible refine gd_store ?_); have _t := tk3_4; refine wpList_store_all rfl 23 (.tmp 4) (.tmp 15) rfl (wcells z9) ((hy1_3.ext hb4).ext hb5) (by rw [HSW.out]; exact hW) (by rw [HSW.out]; exact HSW.out 0) (H1W.out _) (by rfl) (by rfl) ?_; clear tk3_4; intro w6 hx6 hg6; have hs6 := hg6.size)
      | fail)
    have hy4_1 := (((hy1_1.ext hb4).ext hb5).grown hg6 (by simp; omega))
    have hy4_2 := (((hy1_2.ext hb4).ext hb5).grown hg6 (by simp; omega))
    have hy4_3 := hx6
    have hy4_4 := (((hx_3_5.ext hb4).ext hb5).grown hg6 (by simp; omega))
    have hB4_1 := below_step hB1_3 hb4
    have hB4_2 := below_step hB4_1 hb5
    have hB4_3 := below_blk hB4_2 hB4_2.size hg6 (by first | omega | (simp; omega))
    have hge_4 : w.heap.size ≤ g3_5 := by omega
    have hlo_1_4 : w.heap.size < g3_5 := by omega
    have hlo_2_4 : w1.heap.size < g3_5 := by omega
    have hlo_3_4 : w2.heap.size < g3_5 := by omega
    clear hlt_3_1 hlt_3_2 hlt_3_3 hlt_3_4 hBs_3 hb4 hs4 hb5 hs5 hg6 hs6 hx6 hx_3_5 hy1_1 hy1_2 hB4_1 hB4_2 hB1_3
    exact bodyPost_ret (results_blk1 (cs := wcells z9) rfl (by rw [HSW.out]; exact hW) hy4_3 rfl) rfl ⟨by rw [HE.out], hB4_3⟩
set_option maxRecDepth 100000 in
set_option maxHeartbeats 4000000 in
theorem RefSMod_p (a b : Nat) (w : World) (ha : a < 2 ^ 256) (hb : b < 2 ^ 256) (hs : Hid (¬ 2 ^ 255 ≤ a)) : Calls Try.prog 42 #[.agg (wcells a), .agg (wcells b)] w fun e w' => e = .returned (.agg (wcells (smodN a b))) ∧ Below w.heap.size w w' := by
  have hW := wordTy
  have zW := zWordL
  have HSW := Lib.hid wcells_size
  have H1W := Lib.hid wcells_one
  have HZW := Lib.hid wcells_lit0
  obtain ⟨z2, Ez2⟩ : ∃ z, z = absN a := ⟨_, rfl⟩
  have hz2 : z2 < 2 ^ 256 := by rw [Ez2]; exact (absN_lt' ha)
  have C1 := Lib.hid (fun w => RefAbs_all a w ha)
  rw [← Ez2] at C1
  obtain ⟨z4, Ez4⟩ : ∃ z, z = absN b := ⟨_, rfl⟩
  have hz4 : z4 < 2 ^ 256 := by rw [Ez4]; exact (absN_lt' hb)
  have C3 := Lib.hid (fun w => RefAbs_all b w hb)
  rw [← Ez4] at C3
  obtain ⟨z6, Ez6⟩ : ∃ z, z = modN z2 z4 := ⟨_, rfl⟩
  have hz6 : z6 < 2 ^ 256 := by rw [Ez6]; exact (modN_lt _ hz2)
  have C5 := Lib.hid (fun w => RefMod_all z2 z4 w hz2 hz4)
  rw [← Ez6] at C5
  have C7 := Lib.hid (fun w => RefNeg_any a w ha)
  rw [decide_eq_false hs.out] at C7
  have HE := Lib.hid (show z6 = smodN a b from by subst_vars; exact smod_no hs.out)
  clear Ez2 Ez4 Ez6 hz2 hz4 hz6
  go_enter Try.func42, Try.ntmps42
  have tk0_0 : True := trivial
  have tk0_1 : True := trivial
  have tk0_2 : True := trivial
  go_wp2_with (first
    | ((with_reducible refine gd_box ?_); have _t := tk0_0; refine wpList_box_agg rfl _ (.tmp 0) rfl rfl ?_; clear tk0_0; intro w1 hx1 hb1 hl1; have hz1 := hx1.lt; have hs1 := hb1.size)
    | ((with_reducible refine gd_box ?_); have _t := tk0_1; refine wpList_box_agg rfl _ (.tmp 1) rfl rfl ?_; clear tk0_1; intro w2 hx2 hb2 hl2; have hz2 := hx2.lt; have hs2 := hb2.size)
    | ((with_reducible refine gd_alloc ?_); have _t := tk0_2; refine wpList_alloc_blk rfl 23 rfl zW ?_; clear tk0_2; intro w3 hx3 hb3 hl3; have hz3 := hx3.lt; have hs3 := hb3.size)
    | fail)
  have hy1_1 := ((hx1.ext hb2).ext hb3)
  have hy1_2 := (hx2.ext hb3)
  have hy1_3 := hx3
  have hB1_1 := hb1
  have hB1_2 := below_step hB1_1 hb2
  have hB1_3 := below_step hB1_2 hb3
  have hge_1 : w.heap.size ≤ w.heap.size := by omega
  have hge_2 : w.heap.size ≤ w1.heap.size := by omega
  have hlo_1_2 : w.heap.size < w1.heap.size := by omega
  have hge_3 : w.heap.size ≤ w2.heap.size := by omega
  have hlo_1_3 : w.heap.size < w2.heap.size := by omega
  have hlo_2_3 : w1.heap.size < w2.heap.size := by omega
  clear hb1 hl1 hz1 hs1 hb2 hl2 hz2 hs2 hb3 hl3 hz3 hs3 hx1 hx2 hx3 hB1_1 hB1_2
  have hlw3_1 := hy1_1.lt
  have hlw3_2 := hy1_2.lt
  have hlw3_3 := hy1_3.lt
  refine wp_region_made (w := w3) (B := w.heap.size) (wB := w) [.val (.agg (wcells a)), .val (.agg (wcells z2)), .val (.agg (wcells b)), .val (.agg (wcells z4)), .val (.agg (wcells z6)), .new 23 (wcells 0) (wcells z6), .putN 5] (by kernel_rfl) (by kernel_rfl) (by kernel_rfl) rfl (by kernel_rfl) rfl hB1_3.size hB1_3 (by exact List.nodup_nil) (by intro g hg; exact nomatch hg) trivial ?_ ?_
  · refine ⟨?_, ?_, ?_, ?_, ?_, ?_, ?_, trivial⟩
    · intro G wx fr hway _ hs hdef hsz
      have s2 : fr.tmps[2]? = some (.pointer (some ⟨w.heap.size, 0, none⟩)) := hs.1
      clear hs
      refine ⟨?_⟩
      refine wpList_load_blk rfl 23 (.tmp 2) rfl (way_blk hway hy1_1 (by first | exact hy1_1.lt | omega) (by simp [heldBy, Knd.blockOf])) (by rw [HSW.out]; exact hW) (by simp [Act.eval, s2]) ?_
      refine wpList_nil ?_
      exact kp_val hdef hsz (Below.refl _ _)
    · intro G wx fr hway _ hs hdef hsz
      have s6 : fr.tmps[6]? = some (.agg (wcells a)) := hs.1
      clear hs
      refine ⟨?_⟩
      go_wp2_with fail
      refine (C1.out wx).mono ?_
      rintro e w2 ⟨rfl, hb2⟩
      go_wp2
      exact kp_post hsz hb2
    · intro G wx fr hway _ hs hdef hsz
      have s3 : fr.tmps[3]? = some (.pointer (some ⟨w1.heap.size, 0, none⟩)) := hs.1
      clear hs
      refine ⟨?_⟩
      refine wpList_load_blk rfl 23 (.tmp 3) rfl (way_blk hway hy1_2 (by first | exact hy1_2.lt | omega) (by simp [heldBy, Knd.blockOf])) (by rw [HSW.out]; exact hW) (by simp [Act.eval, s3]) ?_
      refine wpList_nil ?_
      exact kp_val hdef hsz (Below.refl _ _)
    · intro G wx fr hway _ hs hdef hsz
      have s8 : fr.tmps[8]? = some (.agg (wcells b)) := hs.1
      clear hs
      refine ⟨?_⟩
      go_wp2_with fail
      refine (C3.out wx).mono ?_
      rintro e w2 ⟨rfl, hb2⟩
      go_wp2
      exact kp_post hsz hb2
    · intro G wx fr hway _ hs hdef hsz
      have s7 : fr.tmps[7]? = some (.agg (wcells z2)) := hs.1
      have s9 : fr.tmps[9]? = some (.agg (wcells z4)) := hs.2.1
      clear hs
      refine ⟨?_⟩
      go_wp2_with fail
      refine (C5.out wx).mono ?_
      rintro e w2 ⟨rfl, hb2⟩
      go_wp2
      exact kp_post hsz hb2
    · intro G wx fr hway _ hs hdef hsz
      clear hs
      refine ⟨?_⟩
      refine wpList_alloc_blk rfl 23 rfl zW ?_
      intro wy hxy hby _
      refine wpList_nil ?_
      exact kp_new hdef hsz hby hxy
    · intro G wx fr hway hpre hs hdef hsz
      have s5 : fr.tmps[5]? = some (.pointer (some ⟨G 5, 0, none⟩)) := hs.1
      have s10 : fr.tmps[10]? = some (.agg (wcells z6)) := hs.2.1
      clear hs
      have hpre' : Blk wx (G 5) 23 (wcells 0) := hpre
      refine ⟨?_⟩
      refine wpList_store_all rfl 23 (.tmp 5) (.tmp 10) rfl (wcells z6) hpre' (by rw [HSW.out]; exact hW) (by rw [HSW.out, HSW.out]) (H1W.out _) (by simp [Act.eval, s5]) (by simp [Act.eval, s10]) ?_
      intro wy hxy hgy
      refine wpList_nil ?_
      exact ⟨rfl, hdef, rfl, hxy, hgy⟩
  · intro G V wr3 hval hway hmade hap
    replace hval : V 0 = .agg (wcells a) ∧ V 1 = .agg (wcells z2) ∧ V 2 = .agg (wcells b) ∧ V 3 = .agg (wcells z4) ∧ V 4 = .agg (wcells z6) ∧ V 5 = .pointer (some ⟨G 5, 0, none⟩) ∧ V 6 = undef ∧ True := hval
    replace hmade : (w3.heap.size ≤ G 5 ∧ G 5 < wr3.heap.size ∧ Blk wr3 (G 5) 23 (wcells z6)) ∧ True := hmade
    obtain ⟨e3_0, e3_1, e3_2, e3_3, e3_4, e3_5, e3_6, -⟩ := hval
    obtain ⟨⟨hg3_5, hl3_5, hx_3_5⟩, -⟩ := hmade
    clear hap
    simp only [fill, Act.put, e3_0, e3_1, e3_2, e3_3, e3_4, e3_5]
    clear e3_0 e3_1 e3_2 e3_3 e3_4 e3_5 e3_6
    simp only [Exit.then]
    go_simp
    generalize G 5 = g3_5 at *
    clear G V
    replace hy1_1 := way_blk hway hy1_1 hy1_1.lt (by simp [heldBy, Knd.blockOf])
    replace hy1_2 := way_blk hway hy1_2 hy1_2.lt (by simp [heldBy, Knd.blockOf])
    replace hy1_3 := way_blk hway hy1_3 hy1_3.lt (by simp [heldBy, Knd.blockOf])
    replace hB1_3 := hway.2.2
    clear hway
    have tk3_0 : True := trivial
    have tk3_1 : True := trivial
    have tk3_2 : True := trivial
    have tk3_3 : True := trivial
    have hlt_3_1 := hy1_1.lt
    have hlt_3_2 := hy1_2.lt
    have hlt_3_3 := hy1_3.lt
    have hlt_3_4 := hx_3_5.lt
    have hBs_3 := hB1_3.size
    go_wp2_with (first
      | ((with_reducible refine gd_load ?_); have _t := tk3_0; refine wpList_load_blk rfl 23 (.tmp 2) rfl hy1_1 (by rw [HSW.out]; exact hW) rfl ?_; clear tk3_0)
      | (go_at_call 50; have _t := tk3_1; refine (C7.out _).mono ?_; clear tk3_1; rintro e w4 ⟨rfl, hb4⟩; have hs4 := hb4.size)
      | ((with_reducible refine gd_load ?_); have _t := tk3_2; refine wpList_load_blk rfl 23 (.tmp 5) rfl (hx_3_5.ext hb4) (by rw [HSW.out]; exact hW) rfl ?_; clear tk3_2)
      | ((with_reducible refine gd_store ?_); have _t := tk3_3; refine wpList_store_all rfl 23 (.tmp 4) (.tmp 16) rfl (wcells z6) (hy1_3.ext hb4) (by rw [HSW.out]; exact hW) (by rw [HSW.out]; exact HSW.out 0) (H1W.out _) (by rfl) (by rfl) ?_; clear tk3_3; intro w5 hx5 hg5; have hs5 := hg5.size)
      | fail)
    have hy4_1 := ((hy1_1.ext hb4).grown hg5 (by simp; omega))
    have hy4_2 := ((hy1_2.ext hb4).grown hg5 (by simp; omega))
    have hy4_3 := hx5
    have hy4_4 := ((hx_3_5.ext hb4).grown hg5 (by simp; omega))
    have hB4_1 := below_step hB1_3 hb4
    have hB4_2 := below_blk hB4_1 hB4_1.size hg5 (by first | omega | (simp; omega))
    have hge_4 : w.heap.size ≤ g3_5 := by omega
    have hlo_1_4 : w.heap.size < g3_5 := by omega
    have hlo_2_4 : w1.heap.size < g3_5 := by omega
    have hlo_3_4 : w2.heap.size < g3_5 := by omega
    clear hlt_3_1 hlt_3_2 hlt_3_3 hlt_3_4 hBs_3 hb4 hs4 hg5 hs5 hx5 hx_3_5 hy1_1 hy1_2 hB4_1 hB1_3
    exact bodyPost_ret (results_blk1 (cs := wcells z6) rfl (by rw [HSW.out]; exact hW) hy4_3 rfl) rfl ⟨by rw [HE.out], hB4_2⟩
theorem RefSMod_all (a b : Nat) (w : World) (ha : a < 2 ^ 256) (hb : b < 2 ^ 256) : Calls Try.prog 42 #[.agg (wcells a), .agg (wcells b)] w fun e w' => e = .returned (.agg (wcells (smodN a b))) ∧ Below w.heap.size w w' := by
  by_cases c : 2 ^ 255 ≤ a
  · exact RefSMod_m a b w ha hb (Lib.hid c)
  · exact RefSMod_p a b w ha hb (Lib.hid c)
end Go.Mun
