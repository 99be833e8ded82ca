/- The walks of word.Sar. -/
import Derived.Test.YtcmhbolonhhhoaaWordAll
import Derived.Test.YtcmhbolonhhhoaaWordAllV
namespace Go.Mun
open Go Go.RowKit Go.Proofs

set_option maxRecDepth 100000 in
set_option maxHeartbeats 4000000 in
theorem Sar_plus (k a : Nat) (w : World) (hk : k < 2 ^ 256) (ha : a < 2 ^ 256) (hm : Hid (¬ 2 ^ 255 ≤ a)) : Calls Try.prog 13 #[.agg (wcells k), .agg (wcells a)] w fun e w' => e = .returned (.agg (wcells (shrN k a))) ∧ Below w.heap.size w w' := by
  have hW := wordTy
  have zW := zWordL
  have HSW := Lib.hid wcells_size
  have H1W := Lib.hid wcells_one
  have HZW := Lib.hid wcells_lit0
  have hN := numTy
  have zN := zNumL
  have HSN := Lib.hid limbsV_size
  have H1N := Lib.hid limbsV_one
  have C1 := Lib.hid (fun w => from_any a w ha)
  have C2 := Lib.hid (fun w => minus_any a w ha)
  rw [decide_eq_false hm.out] at C2
  obtain ⟨z4, Ez4⟩ : ∃ z, z = shrN k a := ⟨_, rfl⟩
  have hz4 : z4 < 2 ^ 256 := by rw [Ez4]; exact (shrN_lt ha)
  have C3 := Lib.hid (fun w => Shr_all k a w hk ha)
  rw [← Ez4] at C3
  have HE := Lib.hid (show z4 = shrN k a from by subst_vars; rfl)
  clear Ez4 hz4
  go_enter Try.func13, Try.ntmps13
  have tk0_0 : True := trivial
  have tk0_1 : True := trivial
  have tk0_2 : True := trivial
  have tk0_3 : True := trivial
  have tk0_4 : True := trivial
  have tk0_5 : True := trivial
  have tk0_6 : True := trivial
  have tk0_7 : True := trivial
  have tk0_8 : True := trivial
  have tk0_9 : True := trivial
  go_wp2_with (first
    | ((with_reducible refine gd_box ?_); have _t := tk0_0; refine wpList_box_agg rfl _ (.tmp 0) rfl rfl ?_; clear tk0_0; intro w1 hx1 hb1 hl1; have hz1 := hx1.lt; have hs1 := hb1.size)
    | ((with_reducible refine gd_box ?_); have _t := tk0_1; refine wpList_box_agg rfl _ (.tmp 1) rfl rfl ?_; clear tk0_1; intro w2 hx2 hb2 hl2; have hz2 := hx2.lt; have hs2 := hb2.size)
    | ((with_reducible refine gd_alloc ?_); have _t := tk0_2; refine wpList_alloc_blk rfl 23 rfl zW ?_; clear tk0_2; intro w3 hx3 hb3 hl3; have hz3 := hx3.lt; have hs3 := hb3.size)
    | ((with_reducible refine gd_load ?_); have _t := tk0_3; refine wpList_load_blk rfl 23 (.tmp 3) rfl (hx2.ext hb3) (by rw [HSW.out]; exact hW) rfl ?_; clear tk0_3)
    | (go_at_call 47; have _t := tk0_4; refine (C1.out _).mono ?_; clear tk0_4; rintro e w4 ⟨rfl, hb4⟩; have hs4 := hb4.size)
    | (go_at_call 48; have _t := tk0_5; refine (C2.out _).mono ?_; clear tk0_5; rintro e w5 ⟨rfl, hb5⟩; have hs5 := hb5.size)
    | ((with_reducible refine gd_load ?_); have _t := tk0_6; refine wpList_load_blk rfl 23 (.tmp 2) rfl ((((hx1.ext hb2).ext hb3).ext hb4).ext hb5) (by rw [HSW.out]; exact hW) rfl ?_; clear tk0_6)
    | ((with_reducible refine gd_load ?_); have _t := tk0_7; refine wpList_load_blk rfl 23 (.tmp 3) rfl (((hx2.ext hb3).ext hb4).ext hb5) (by rw [HSW.out]; exact hW) rfl ?_; clear tk0_7)
    | (go_at_call 21; have _t := tk0_8; refine (C3.out _).mono ?_; clear tk0_8; rintro e w6 ⟨rfl, hb6⟩; have hs6 := hb6.size)
    | ((with_reducible refine gd_store ?_); have _t := tk0_9; refine wpList_store_all rfl 23 (.tmp 4) (.tmp 11) rfl (wcells z4) (((hx3.ext hb4).ext hb5).ext hb6) (by rw [HSW.out]; exact hW) (by rw [HSW.out]; exact HSW.out 0) (H1W.out _) (by rfl) (by rfl) ?_; clear tk0_9; intro w7 hx7 hg7; have hs7 := hg7.size)
    | fail)
  have hy1_1 := ((((((hx1.ext hb2).ext hb3).ext hb4).ext hb5).ext hb6).grown hg7 (by simp; omega))
  have hy1_2 := (((((hx2.ext hb3).ext hb4).ext hb5).ext hb6).grown hg7 (by simp; omega))
  have hy1_3 := hx7
  have hB1_1 := hb1
  have hB1_2 := below_step hB1_1 hb2
  have hB1_3 := below_step hB1_2 hb3
  have hB1_4 := below_step hB1_3 hb4
  have hB1_5 := below_step hB1_4 hb5
  have hB1_6 := below_step hB1_5 hb6
  have hB1_7 := below_blk hB1_6 hB1_6.size hg7 (by first | omega | (simp; omega))
  clear hb1 hl1 hz1 hs1 hb2 hl2 hz2 hs2 hx3 hb3 hl3 hz3 hs3 hb4 hs4 hb5 hs5 hb6 hs6 hg7 hs7 hx1 hx2 hx7 hB1_1 hB1_2 hB1_3 hB1_4 hB1_5 hB1_6
  exact bodyPost_ret (results_blk1 (cs := wcells z4) rfl (by rw [HSW.out]; exact hW) hy1_3 rfl) rfl ⟨by rw [HE.out], hB1_7⟩
set_option maxRecDepth 100000 in
set_option maxHeartbeats 4000000 in
theorem Sar_minus (k a : Nat) (w : World) (hk : k < 2 ^ 256) (ha : a < 2 ^ 256) (hm : Hid (2 ^ 255 ≤ a)) : Calls Try.prog 13 #[.agg (wcells k), .agg (wcells a)] w fun e w' => e = .returned (.agg (wcells (notN (shrN k (notN a))))) ∧ Below w.heap.size w w' := by
  have hW := wordTy
  have zW := zWordL
  have HSW := Lib.hid wcells_size
  have H1W := Lib.hid wcells_one
  have HZW := Lib.hid wcells_lit0
  have hN := numTy
  have zN := zNumL
  have HSN := Lib.hid limbsV_size
  have H1N := Lib.hid limbsV_one
  have C1 := Lib.hid (fun w => from_any a w ha)
  have C2 := Lib.hid (fun w => minus_any a w ha)
  rw [decide_eq_true hm.out] at C2
  obtain ⟨z4, Ez4⟩ : ∃ z, z = notN a := ⟨_, rfl⟩
  have hz4 : z4 < 2 ^ 256 := by rw [Ez4]; exact (notN_lt _)
  have C3 := Lib.hid (fun w => Not_any a w ha)
  rw [← Ez4] at C3
  obtain ⟨z6, Ez6⟩ : ∃ z, z = shrN k z4 := ⟨_, rfl⟩
  have hz6 : z6 < 2 ^ 256 := by rw [Ez6]; exact (shrN_lt hz4)
  have C5 := Lib.hid (fun w => Shr_all k z4 w hk hz4)
  rw [← Ez6] at C5
  obtain ⟨z8, Ez8⟩ : ∃ z, z = notN z6 := ⟨_, rfl⟩
  have hz8 : z8 < 2 ^ 256 := by rw [Ez8]; exact (notN_lt _)
  have C7 := Lib.hid (fun w => Not_any z6 w hz6)
  rw [← Ez8] at C7
  have HE := Lib.hid (show z8 = notN (shrN k (notN a)) from by subst_vars; rfl)
  clear Ez4 Ez6 Ez8 hz4 hz6 hz8
  go_enter Try.func13, Try.ntmps13
  have tk0_0 : True := trivial
  have tk0_1 : True := trivial
  have tk0_2 : True := trivial
  have tk0_3 : True := trivial
  have tk0_4 : True := trivial
  have tk0_5 : True := trivial
  go_wp2_with (first
    | ((with_reducible refine gd_box ?_); have _t := tk0_0; refine wpList_box_agg rfl _ (.tmp 0) rfl rfl ?_; clear tk0_0; intro w1 hx1 hb1 hl1; have hz1 := hx1.lt; have hs1 := hb1.size)
    | ((with_reducible refine gd_box ?_); have _t := tk0_1; refine wpList_box_agg rfl _ (.tmp 1) rfl rfl ?_; clear tk0_1; intro w2 hx2 hb2 hl2; have hz2 := hx2.lt; have hs2 := hb2.size)
    | ((with_reducible refine gd_alloc ?_); have _t := tk0_2; refine wpList_alloc_blk rfl 23 rfl zW ?_; clear tk0_2; intro w3 hx3 hb3 hl3; have hz3 := hx3.lt; have hs3 := hb3.size)
    | ((with_reducible refine gd_load ?_); have _t := tk0_3; refine wpList_load_blk rfl 23 (.tmp 3) rfl (hx2.ext hb3) (by rw [HSW.out]; exact hW) rfl ?_; clear tk0_3)
    | (go_at_call 47; have _t := tk0_4; refine (C1.out _).mono ?_; clear tk0_4; rintro e w4 ⟨rfl, hb4⟩; have hs4 := hb4.size)
    | (go_at_call 48; have _t := tk0_5; refine (C2.out _).mono ?_; clear tk0_5; rintro e w5 ⟨rfl, hb5⟩; have hs5 := hb5.size)
    | fail)
  have hy1_1 := ((((hx1.ext hb2).ext hb3).ext hb4).ext hb5)
  have hy1_2 := (((hx2.ext hb3).ext hb4).ext hb5)
  have hy1_3 := ((hx3.ext hb4).ext hb5)
  have hB1_1 := hb1
  have hB1_2 := below_step hB1_1 hb2
  have hB1_3 := below_step hB1_2 hb3
  have hB1_4 := below_step hB1_3 hb4
  have hB1_5 := below_step hB1_4 hb5
  have hge_1 : w.heap.size ≤ w.heap.size := by omega
  have hge_2 : w.heap.size ≤ w1.heap.size := by omega
  have hlo_1_2 : w.heap.size < w1.heap.size := by omega
  have hge_3 : w.heap.size ≤ w2.heap.size := by omega
  have hlo_1_3 : w.heap.size < w2.heap.size := by omega
  have hlo_2_3 : w1.heap.size < w2.heap.size := by omega
  clear hb1 hl1 hz1 hs1 hb2 hl2 hz2 hs2 hb3 hl3 hz3 hs3 hb4 hs4 hb5 hs5 hx1 hx2 hx3 hB1_1 hB1_2 hB1_3 hB1_4
  refine wp_region_made (w := w5) (B := w.heap.size) (wB := w) [.val (.agg (wcells k)), .val (.agg (wcells a)), .val (.agg (wcells z4)), .val (.agg (wcells z6)), .val (.agg (wcells z8)), .putG w2.heap.size 23 (wcells 0) (wcells z8)] (by kernel_rfl) (by kernel_rfl) (by kernel_rfl) rfl (by kernel_rfl) rfl hB1_5.size hB1_5 (List.nodup_cons.2 ⟨List.not_mem_nil, List.nodup_nil⟩) (by intro g hg; simp [heldBy, Knd.blockOf] at hg; subst hg; exact ⟨by omega, hy1_3.lt⟩) ⟨hy1_3, trivial⟩ ?_ ?_
  · refine ⟨?_, ?_, ?_, ?_, ?_, ?_, trivial⟩
    · intro G wx fr hway _ hs hdef hsz
      have s2 : fr.tmps[2]? = some (.pointer (some ⟨w.heap.size, 0, none⟩)) := hs.1
      clear hs
      refine ⟨?_⟩
      refine wpList_load_blk rfl 23 (.tmp 2) rfl (way_blk hway hy1_1 (by first | exact hy1_1.lt | omega) (by simp [heldBy, Knd.blockOf]; omega)) (by rw [HSW.out]; exact hW) (by simp [Act.eval, s2]) ?_
      refine wpList_nil ?_
      exact kp_val hdef hsz (Below.refl _ _)
    · intro G wx fr hway _ hs hdef hsz
      have s3 : fr.tmps[3]? = some (.pointer (some ⟨w1.heap.size, 0, none⟩)) := hs.1
      clear hs
      refine ⟨?_⟩
      refine wpList_load_blk rfl 23 (.tmp 3) rfl (way_blk hway hy1_2 (by first | exact hy1_2.lt | omega) (by simp [heldBy, Knd.blockOf]; omega)) (by rw [HSW.out]; exact hW) (by simp [Act.eval, s3]) ?_
      refine wpList_nil ?_
      exact kp_val hdef hsz (Below.refl _ _)
    · intro G wx fr hway _ hs hdef hsz
      have s13 : fr.tmps[13]? = some (.agg (wcells a)) := hs.1
      clear hs
      refine ⟨?_⟩
      go_wp2_with fail
      refine (C3.out wx).mono ?_
      rintro e w2 ⟨rfl, hb2⟩
      go_wp2
      exact kp_post hsz hb2
    · intro G wx fr hway _ hs hdef hsz
      have s12 : fr.tmps[12]? = some (.agg (wcells k)) := hs.1
      have s14 : fr.tmps[14]? = some (.agg (wcells z4)) := hs.2.1
      clear hs
      refine ⟨?_⟩
      go_wp2_with fail
      refine (C5.out wx).mono ?_
      rintro e w2 ⟨rfl, hb2⟩
      go_wp2
      exact kp_post hsz hb2
    · intro G wx fr hway _ hs hdef hsz
      have s15 : fr.tmps[15]? = some (.agg (wcells z6)) := hs.1
      clear hs
      refine ⟨?_⟩
      go_wp2_with fail
      refine (C7.out wx).mono ?_
      rintro e w2 ⟨rfl, hb2⟩
      go_wp2
      exact kp_post hsz hb2
    · intro G wx fr hway hpre hs hdef hsz
      have s4 : fr.tmps[4]? = some (.pointer (some ⟨w2.heap.size, 0, none⟩)) := hs.1
      have s16 : fr.tmps[16]? = some (.agg (wcells z8)) := hs.2.1
      clear hs
      have hpre' : Blk wx w2.heap.size 23 (wcells 0) := hpre
      refine ⟨?_⟩
      refine wpList_store_all rfl 23 (.tmp 4) (.tmp 16) rfl (wcells z8) hpre' (by rw [HSW.out]; exact hW) (by rw [HSW.out, HSW.out]) (H1W.out _) (by simp [Act.eval, s4]) (by simp [Act.eval, s16]) ?_
      intro wy hxy hgy
      refine wpList_nil ?_
      exact ⟨rfl, hdef, rfl, hxy, hgy⟩
  · intro G V wr3 hval hway hmade hap
    replace hval : V 0 = .agg (wcells k) ∧ V 1 = .agg (wcells a) ∧ V 2 = .agg (wcells z4) ∧ V 3 = .agg (wcells z6) ∧ V 4 = .agg (wcells z8) ∧ V 5 = undef ∧ True := hval
    replace hmade : Blk wr3 w2.heap.size 23 (wcells z8) ∧ True := hmade
    obtain ⟨e3_0, e3_1, e3_2, e3_3, e3_4, e3_5, -⟩ := hval
    obtain ⟨hx_3_5, -⟩ := hmade
    clear hap
    simp only [fill, Act.put, e3_0, e3_1, e3_2, e3_3, e3_4]
    clear e3_0 e3_1 e3_2 e3_3 e3_4 e3_5
    simp only [Exit.then]
    go_simp
    clear G V
    replace hy1_1 := way_blk hway hy1_1 hy1_1.lt (by simp [heldBy, Knd.blockOf]; omega)
    replace hy1_2 := way_blk hway hy1_2 hy1_2.lt (by simp [heldBy, Knd.blockOf]; omega)
    replace hB1_5 := hway.2.2
    clear hway
    go_wp2
    exact bodyPost_ret (results_blk1 (cs := wcells z8) rfl (by rw [HSW.out]; exact hW) hx_3_5 rfl) rfl ⟨by rw [HE.out], hB1_5⟩
def sarN (k a : Nat) : Nat := if 2 ^ 255 ≤ a then notN (shrN k (notN a)) else shrN k a
theorem sarN_lt {k a : Nat} (ha : a < 2 ^ 256) : sarN k a < 2 ^ 256 := by
  unfold sarN
  split
  · exact notN_lt _
  · exact shrN_lt ha
theorem Sar_all (k a : Nat) (w : World) (hk : k < 2 ^ 256) (ha : a < 2 ^ 256) : Calls Try.prog 13 #[.agg (wcells k), .agg (wcells a)] w fun e w' => e = .returned (.agg (wcells (sarN k a))) ∧ Below w.heap.size w w' := by
  unfold sarN
  by_cases c : 2 ^ 255 ≤ a
  · rw [if_pos c]; exact Sar_minus k a w hk ha (Lib.hid c)
  · rw [if_neg c]; exact Sar_plus k a w hk ha (Lib.hid c)
end Go.Mun
