/- The walks of word's functions of two words: Byte, SCmp. -/
import Derived.Test.YtcmhbolonhhhoaaWordBools
namespace Go.Mun
open Go Go.RowKit Go.Proofs

set_option maxRecDepth 100000 in
set_option maxHeartbeats 400000 in
theorem Byte_in (k a : Nat) (w : World) (hk : k < 32) : Calls Try.prog 24 #[.agg (wcells k), .agg (wcells a)] w fun e w' => e = .returned (.agg (wcells (lowB a (31 - k)))) ∧ Below w.heap.size w w' := by
  have hW := wordTy
  have zW := zWordL
  have HSW := Lib.hid wcells_size
  have H1W := Lib.hid wcells_one
  have CInt := Lib.hid (fun w => Int_yes k w (Nat.lt_trans hk (by decide)))
  have HG := Lib.hid (wcells_get a hk)
  have d0 : (0 : Int) ≤ (k : Int) := by omega
  have d1 : (k : Int) < 32 := by omega
  have hlb := lowB_lt a (31 - k)
  have COf := Lib.hid (fun w => Of_any ((lowB a (31 - k) : Nat) : Int) w (by omega) (by omega))
  rw [ofN_nat _ (by omega)] at COf
  clear hk
  generalize lowB a (31 - k) = s at *
  have d2 : (0 : Int) ≤ (s : Int) := by omega
  have d3 : (s : Int) < 256 := by omega
  clear hlb
  have tokE : True := trivial
  go_enter Try.func24, Try.ntmps24
  go_wp2_with (first
    | ((with_reducible refine gd_box ?_); have _t := tokE; refine wpList_box_agg rfl _ (.tmp 0) rfl rfl ?_; clear tokE; intro w1 hx1 hb1 hl1)
    | ((with_reducible refine gd_box ?_); refine wpList_box_agg rfl _ (.tmp 1) rfl rfl ?_; intro w2 hx2 hb2 hl2)
    | ((with_reducible refine gd_alloc ?_); refine wpList_alloc_blk rfl 23 rfl zW ?_; intro w3 hx3 hb3 hl3)
    | ((with_reducible refine gd_load ?_); refine wpList_load_blk rfl 23 (.tmp 2) rfl ((hx1.ext hb2).ext hb3) (by rw [HSW.out]; exact hW) rfl ?_)
    | (go_at_call 45; refine (CInt.out _).mono ?_; rintro e w4 ⟨rfl, hb4⟩; have hcell := ((hx2.ext hb3).ext hb4).cellv HG.out)
    | (go_at_call 12; refine (COf.out _).mono ?_; rintro e w5 ⟨rfl, hb5⟩)
    | ((with_reducible refine gd_store ?_); refine wpList_store_all rfl 23 (.tmp 4) (.tmp 23) rfl (wcells s) ((hx3.ext hb4).ext hb5) (by rw [HSW.out]; exact hW) (by rw [HSW.out]; exact HSW.out 0) (H1W.out _) (by rfl) (by rfl) ?_; intro w9 hx9 hg9)
    | fail)
  have hg1 := hx1.lt
  have hg2 := hx2.lt
  have hB4 := below_step (below_step (below_step (below_step hb1 hb2) hb3) hb4) hb5
  have hB9 := below_blk hB4 hB4.size hg9 (by omega)
  exact bodyPost_ret (results_blk1 (cs := wcells s) rfl (by rw [HSW.out]; exact hW) hx9 rfl) rfl ⟨rfl, hB9⟩
set_option maxRecDepth 100000 in
set_option maxHeartbeats 400000 in
theorem Byte_mid (k a : Nat) (w : World) (hk : ¬ k < 32) (hk2 : k < 2 ^ 63) : Calls Try.prog 24 #[.agg (wcells k), .agg (wcells a)] w fun e w' => e = .returned (.agg (wcells (0))) ∧ Below w.heap.size w w' := by
  have hW := wordTy
  have zW := zWordL
  have HSW := Lib.hid wcells_size
  have H1W := Lib.hid wcells_one
  have CInt := Lib.hid (fun w => Int_yes k w hk2)
  have hz0 := wcells_lit0
  have d1 : 32 ≤ (k : Int) := by omega
  clear hk hk2
  have tokE : True := trivial
  go_enter Try.func24, Try.ntmps24
  go_wp2_with (first
    | ((with_reducible refine gd_box ?_); have _t := tokE; refine wpList_box_agg rfl _ (.tmp 0) rfl rfl ?_; clear tokE; intro w1 hx1 hb1 hl1)
    | ((with_reducible refine gd_box ?_); refine wpList_box_agg rfl _ (.tmp 1) rfl rfl ?_; intro w2 hx2 hb2 hl2)
    | ((with_reducible refine gd_alloc ?_); refine wpList_alloc_blk rfl 23 rfl zW ?_; intro w3 hx3 hb3 hl3)
    | ((with_reducible refine gd_load ?_); refine wpList_load_blk rfl 23 (.tmp 2) rfl ((hx1.ext hb2).ext hb3) (by rw [HSW.out]; exact hW) rfl ?_)
    | (go_at_call 45; refine (CInt.out _).mono ?_; rintro e w4 ⟨rfl, hb4⟩)
    | ((with_reducible refine gd_store ?_); refine wpList_store_all rfl 23 (.tmp 4) (.tmp 18) rfl (wcells 0) (hx3.ext hb4) (by rw [HSW.out]; exact hW) (by rw [HSW.out]; exact HSW.out 0) (H1W.out _) (by rfl) (congrArg Value.agg hz0) ?_; intro w9 hx9 hg9)
    | fail)
  have hg1 := hx1.lt
  have hg2 := hx2.lt
  have hB4 := below_step (below_step (below_step hb1 hb2) hb3) hb4
  have hB9 := below_blk hB4 hB4.size hg9 (by omega)
  exact bodyPost_ret (results_blk1 (cs := wcells 0) rfl (by rw [HSW.out]; exact hW) hx9 rfl) rfl ⟨rfl, hB9⟩
set_option maxRecDepth 100000 in
set_option maxHeartbeats 400000 in
theorem Byte_big (k a : Nat) (w : World) (hk2 : k < 2 ^ 256) (hk : ¬ k < 2 ^ 63) : Calls Try.prog 24 #[.agg (wcells k), .agg (wcells a)] w fun e w' => e = .returned (.agg (wcells (0))) ∧ Below w.heap.size w w' := by
  have hW := wordTy
  have zW := zWordL
  have HSW := Lib.hid wcells_size
  have H1W := Lib.hid wcells_one
  have CInt := Lib.hid (fun w => Int_no k w hk2 hk)
  have hz0 := wcells_lit0
  clear hk hk2
  have tokE : True := trivial
  go_enter Try.func24, Try.ntmps24
  go_wp2_with (first
    | ((with_reducible refine gd_box ?_); have _t := tokE; refine wpList_box_agg rfl _ (.tmp 0) rfl rfl ?_; clear tokE; intro w1 hx1 hb1 hl1)
    | ((with_reducible refine gd_box ?_); refine wpList_box_agg rfl _ (.tmp 1) rfl rfl ?_; intro w2 hx2 hb2 hl2)
    | ((with_reducible refine gd_alloc ?_); refine wpList_alloc_blk rfl 23 rfl zW ?_; intro w3 hx3 hb3 hl3)
    | ((with_reducible refine gd_load ?_); refine wpList_load_blk rfl 23 (.tmp 2) rfl ((hx1.ext hb2).ext hb3) (by rw [HSW.out]; exact hW) rfl ?_)
    | (go_at_call 45; refine (CInt.out _).mono ?_; rintro e w4 ⟨rfl, hb4⟩)
    | ((with_reducible refine gd_store ?_); refine wpList_store_all rfl 23 (.tmp 4) (.tmp 18) rfl (wcells 0) (hx3.ext hb4) (by rw [HSW.out]; exact hW) (by rw [HSW.out]; exact HSW.out 0) (H1W.out _) (by rfl) (congrArg Value.agg hz0) ?_; intro w9 hx9 hg9)
    | fail)
  have hg1 := hx1.lt
  have hg2 := hx2.lt
  have hB4 := below_step (below_step (below_step hb1 hb2) hb3) hb4
  have hB9 := below_blk hB4 hB4.size hg9 (by omega)
  exact bodyPost_ret (results_blk1 (cs := wcells 0) rfl (by rw [HSW.out]; exact hW) hx9 rfl) rfl ⟨rfl, hB9⟩
set_option maxRecDepth 100000 in
set_option maxHeartbeats 1000000 in
theorem SCmp_mp (a b : Nat) (w : World) (ha : a < 2 ^ 256) (hb : b < 2 ^ 256) (hx : 2 ^ 255 ≤ a) (hy : ¬ 2 ^ 255 ≤ b) : Calls Try.prog 36 #[.agg (wcells a), .agg (wcells b)] w fun e w' => e = .returned (.int .i64 (-1)) ∧ Below w.heap.size w w' := by
  have hW := wordTy
  have hN := numTy
  have zW := zWordL
  have zN := zNumL
  have HSN := Lib.hid limbsV_size
  have H1N := Lib.hid limbsV_one
  have HSW := Lib.hid wcells_size
  have H1W := Lib.hid wcells_one
  have HFr := Lib.hid from_any
  have HWd := Lib.hid word_any
  have CMa := Lib.hid (fun w => minus_any a w ha)
  have CMb := Lib.hid (fun w => minus_any b w hb)
  rw [decide_eq_true hx] at CMa
  rw [decide_eq_false hy] at CMb
  have CCmp := Lib.hid (fun w => cmp_any a b w ha hb)
  generalize cmpN a b = z at *
  clear hx hy
  have tokE : True := trivial
  go_enter Try.func36, Try.ntmps36
  go_wp2_with (first
    | ((with_reducible refine gd_box ?_); have _t := tokE; refine wpList_box_agg rfl _ (.tmp 0) rfl rfl ?_; clear tokE; intro w1 hx1 hb1 hl1)
    | ((with_reducible refine gd_box ?_); refine wpList_box_agg rfl _ (.tmp 1) rfl rfl ?_; intro w2 hx2 hb2 hl2)
    | fail)
  have hx1' := hx1.ext hb2
  have hB2 := below_step hb1 hb2
  have hg1 := hx1.lt
  have hg2 := hx2.lt
  refine wp_region_made (w := w2) (B := w.heap.size) (wB := w) [.val (.agg (wcells a)), .val (.agg (limbsV a)), .val (.agg (wcells b)), .val (.agg (limbsV b)), .new 39 (limbsV 0) (limbsV a), .new 39 (limbsV 0) (limbsV b), .putN 4, .putN 5] (by kernel_rfl) (by kernel_rfl) (by kernel_rfl) rfl (by kernel_rfl) rfl hB2.size hB2 List.nodup_nil (fun g hg => nomatch hg) trivial ?_ ?_
  · refine ⟨?_, ?_, ?_, ?_, ?_, ?_, ?_, ?_, trivial⟩
    · intro G wx fr hway _ hs hdef hsz
      have s2 : fr.tmps[2]? = some (.pointer (some ⟨w.heap.size, 0, none⟩)) := hs.1
      clear hs
      refine ⟨?_⟩
      refine wpList_load_blk rfl 23 (.tmp 2) rfl (way_blk hway hx1' (by first | exact hx1'.lt | omega) (by simp [heldBy, Knd.blockOf])) (by rw [HSW.out]; exact hW) (by simp [Act.eval, s2]) ?_
      refine wpList_nil ?_
      exact kp_val hdef hsz (Below.refl _ _)
    · intro G wx fr hway _ hs hdef hsz
      have s7 : fr.tmps[7]? = some (.agg (wcells a)) := hs.1
      clear hs
      refine ⟨?_⟩
      go_wp2_with fail
      refine (HFr.out a wx ha).mono ?_
      rintro e w2 ⟨rfl, hb2⟩
      go_wp2
      exact kp_post hsz hb2
    · intro G wx fr hway _ hs hdef hsz
      have s3 : fr.tmps[3]? = some (.pointer (some ⟨w1.heap.size, 0, none⟩)) := hs.1
      clear hs
      refine ⟨?_⟩
      refine wpList_load_blk rfl 23 (.tmp 3) rfl (way_blk hway hx2 (by first | exact hx2.lt | omega) (by simp [heldBy, Knd.blockOf])) (by rw [HSW.out]; exact hW) (by simp [Act.eval, s3]) ?_
      refine wpList_nil ?_
      exact kp_val hdef hsz (Below.refl _ _)
    · intro G wx fr hway _ hs hdef hsz
      have s9 : fr.tmps[9]? = some (.agg (wcells b)) := hs.1
      clear hs
      refine ⟨?_⟩
      go_wp2_with fail
      refine (HFr.out b wx hb).mono ?_
      rintro e w2 ⟨rfl, hb2⟩
      go_wp2
      exact kp_post hsz hb2
    · intro G wx fr hway _ hs hdef hsz
      clear hs
      refine ⟨?_⟩
      refine wpList_alloc_blk rfl 39 rfl zN ?_
      intro wy hxy hby _
      refine wpList_nil ?_
      exact kp_new hdef hsz hby hxy
    · intro G wx fr hway _ hs hdef hsz
      clear hs
      refine ⟨?_⟩
      refine wpList_alloc_blk rfl 39 rfl zN ?_
      intro wy hxy hby _
      refine wpList_nil ?_
      exact kp_new hdef hsz hby hxy
    · intro G wx fr hway hpre hs hdef hsz
      have s5 : fr.tmps[5]? = some (.pointer (some ⟨G 4, 0, none⟩)) := hs.1
      have s8 : fr.tmps[8]? = some (.agg (limbsV a)) := hs.2.1
      clear hs
      have hpre' : Blk wx (G 4) 39 (limbsV 0) := hpre
      refine ⟨?_⟩
      refine wpList_store_all rfl 39 (.tmp 5) (.tmp 8) rfl (limbsV a) hpre' (by rw [HSN.out]; exact hN) (by rw [HSN.out, HSN.out]) (H1N.out _) (by simp [Act.eval, s5]) (by simp [Act.eval, s8]) ?_
      intro wy hxy hgy
      refine wpList_nil ?_
      exact ⟨rfl, hdef, rfl, hxy, hgy⟩
    · intro G wx fr hway hpre hs hdef hsz
      have s6 : fr.tmps[6]? = some (.pointer (some ⟨G 5, 0, none⟩)) := hs.1
      have s10 : fr.tmps[10]? = some (.agg (limbsV b)) := hs.2.1
      clear hs
      have hpre' : Blk wx (G 5) 39 (limbsV 0) := hpre
      refine ⟨?_⟩
      refine wpList_store_all rfl 39 (.tmp 6) (.tmp 10) rfl (limbsV b) hpre' (by rw [HSN.out]; exact hN) (by rw [HSN.out, HSN.out]) (H1N.out _) (by simp [Act.eval, s6]) (by simp [Act.eval, s10]) ?_
      intro wy hxy hgy
      refine wpList_nil ?_
      exact ⟨rfl, hdef, rfl, hxy, hgy⟩
  · intro G V wz hval hway hmade hap
    replace hval : V 0 = .agg (wcells a) ∧ V 1 = .agg (limbsV a) ∧ V 2 = .agg (wcells b) ∧ V 3 = .agg (limbsV b) ∧ V 4 = .pointer (some ⟨G 4, 0, none⟩) ∧ V 5 = .pointer (some ⟨G 5, 0, none⟩) ∧ V 6 = undef ∧ V 7 = undef ∧ True := hval
    replace hmade : (w2.heap.size ≤ G 4 ∧ G 4 < wz.heap.size ∧ Blk wz (G 4) 39 (limbsV a)) ∧ (w2.heap.size ≤ G 5 ∧ G 5 < wz.heap.size ∧ Blk wz (G 5) 39 (limbsV b)) ∧ True := hmade
    obtain ⟨e0, e1, e2, e3, e4, e5, e6, e7, -⟩ := hval
    obtain ⟨⟨hg4, hl4, hx_4⟩, ⟨hg5, hl5, hx_5⟩, -⟩ := hmade
    have ha4_5 : G 4 ≠ G 5 := hap 4 5 _ _ _ _ _ _ rfl rfl (by decide)
    clear hap
    simp only [fill, Act.put, e0, e1, e2, e3, e4, e5]
    clear e0 e1 e2 e3 e4 e5 e6 e7
    simp only [Exit.then]
    go_simp
    generalize G 4 = g4 at *
    generalize G 5 = g5 at *
    clear G V
    have hBz := hway.2.2
    clear hway
    have tok1 : True := trivial
    have tok2 : True := trivial
    have tok3 : True := trivial
    have tok4 : True := trivial
    have tok5 : True := trivial
    have tok6 : True := trivial
    have tok7 : True := trivial
    go_wp2_with (first
      | ((with_reducible refine gd_load ?_); have _t := tok1; refine wpList_load_blk rfl 39 (.tmp 5) rfl hx_4 (by rw [HSN.out]; exact hN) rfl ?_; clear tok1)
      | (go_at_call 48; have _t := tok2; refine (CMa.out _).mono ?_; clear tok2; rintro e w4 ⟨rfl, hb4⟩; replace hx_4 := hx_4.ext hb4; replace hx_5 := hx_5.ext hb4; replace hBz := below_step hBz hb4)
      | ((with_reducible refine gd_load ?_); have _t := tok3; refine wpList_load_want (by rfl) 39 (.tmp 6) rfl hx_5 (by rw [HSN.out]; exact hN) rfl ?_; clear tok3)
      | (go_at_call 48; have _t := tok4; refine (CMb.out _).mono ?_; clear tok4; rintro e w5 ⟨rfl, hb5⟩; replace hx_4 := hx_4.ext hb5; replace hx_5 := hx_5.ext hb5; replace hBz := below_step hBz hb5)
      | fail)
    go_ret
    exact ⟨rfl, hBz⟩
set_option maxRecDepth 100000 in
set_option maxHeartbeats 1000000 in
theorem SCmp_pm (a b : Nat) (w : World) (ha : a < 2 ^ 256) (hb : b < 2 ^ 256) (hx : ¬ 2 ^ 255 ≤ a) (hy : 2 ^ 255 ≤ b) : Calls Try.prog 36 #[.agg (wcells a), .agg (wcells b)] w fun e w' => e = .returned (.int .i64 (1)) ∧ Below w.heap.size w w' := by
  have hW := wordTy
  have hN := numTy
  have zW := zWordL
  have zN := zNumL
  have HSN := Lib.hid limbsV_size
  have H1N := Lib.hid limbsV_one
  have HSW := Lib.hid wcells_size
  have H1W := Lib.hid wcells_one
  have HFr := Lib.hid from_any
  have HWd := Lib.hid word_any
  have CMa := Lib.hid (fun w => minus_any a w ha)
  have CMb := Lib.hid (fun w => minus_any b w hb)
  rw [decide_eq_false hx] at CMa
  rw [decide_eq_true hy] at CMb
  have CCmp := Lib.hid (fun w => cmp_any a b w ha hb)
  generalize cmpN a b = z at *
  clear hx hy
  have tokE : True := trivial
  go_enter Try.func36, Try.ntmps36
  go_wp2_with (first
    | ((with_reducible refine gd_box ?_); have _t := tokE; refine wpList_box_agg rfl _ (.tmp 0) rfl rfl ?_; clear tokE; intro w1 hx1 hb1 hl1)
    | ((with_reducible refine gd_box ?_); refine wpList_box_agg rfl _ (.tmp 1) rfl rfl ?_; intro w2 hx2 hb2 hl2)
    | fail)
  have hx1' := hx1.ext hb2
  have hB2 := below_step hb1 hb2
  have hg1 := hx1.lt
  have hg2 := hx2.lt
  refine wp_region_made (w := w2) (B := w.heap.size) (wB := w) [.val (.agg (wcells a)), .val (.agg (limbsV a)), .val (.agg (wcells b)), .val (.agg (limbsV b)), .new 39 (limbsV 0) (limbsV a), .new 39 (limbsV 0) (limbsV b), .putN 4, .putN 5] (by kernel_rfl) (by kernel_rfl) (by kernel_rfl) rfl (by kernel_rfl) rfl hB2.size hB2 List.nodup_nil (fun g hg => nomatch hg) trivial ?_ ?_
  · refine ⟨?_, ?_, ?_, ?_, ?_, ?_, ?_, ?_, trivial⟩
    · intro G wx fr hway _ hs hdef hsz
      have s2 : fr.tmps[2]? = some (.pointer (some ⟨w.heap.size, 0, none⟩)) := hs.1
      clear hs
      refine ⟨?_⟩
      refine wpList_load_blk rfl 23 (.tmp 2) rfl (way_blk hway hx1' (by first | exact hx1'.lt | omega) (by simp [heldBy, Knd.blockOf])) (by rw [HSW.out]; exact hW) (by simp [Act.eval, s2]) ?_
      refine wpList_nil ?_
      exact kp_val hdef hsz (Below.refl _ _)
    · intro G wx fr hway _ hs hdef hsz
      have s7 : fr.tmps[7]? = some (.agg (wcells a)) := hs.1
      clear hs
      refine ⟨?_⟩
      go_wp2_with fail
      refine (HFr.out a wx ha).mono ?_
      rintro e w2 ⟨rfl, hb2⟩
      go_wp2
      exact kp_post hsz hb2
    · intro G wx fr hway _ hs hdef hsz
      have s3 : fr.tmps[3]? = some (.pointer (some ⟨w1.heap.size, 0, none⟩)) := hs.1
      clear hs
      refine ⟨?_⟩
      refine wpList_load_blk rfl 23 (.tmp 3) rfl (way_blk hway hx2 (by first | exact hx2.lt | omega) (by simp [heldBy, Knd.blockOf])) (by rw [HSW.out]; exact hW) (by simp [Act.eval, s3]) ?_
      refine wpList_nil ?_
      exact kp_val hdef hsz (Below.refl _ _)
    · intro G wx fr hway _ hs hdef hsz
      have s9 : fr.tmps[9]? = some (.agg (wcells b)) := hs.1
      clear hs
      refine ⟨?_⟩
      go_wp2_with fail
      refine (HFr.out b wx hb).mono ?_
      rintro e w2 ⟨rfl, hb2⟩
      go_wp2
      exact kp_post hsz hb2
    · intro G wx fr hway _ hs hdef hsz
      clear hs
      refine ⟨?_⟩
      refine wpList_alloc_blk rfl 39 rfl zN ?_
      intro wy hxy hby _
      refine wpList_nil ?_
      exact kp_new hdef hsz hby hxy
    · intro G wx fr hway _ hs hdef hsz
      clear hs
      refine ⟨?_⟩
      refine wpList_alloc_blk rfl 39 rfl zN ?_
      intro wy hxy hby _
      refine wpList_nil ?_
      exact kp_new hdef hsz hby hxy
    · intro G wx fr hway hpre hs hdef hsz
      have s5 : fr.tmps[5]? = some (.pointer (some ⟨G 4, 0, none⟩)) := hs.1
      have s8 : fr.tmps[8]? = some (.agg (limbsV a)) := hs.2.1
      clear hs
      have hpre' : Blk wx (G 4) 39 (limbsV 0) := hpre
      refine ⟨?_⟩
      refine wpList_store_all rfl 39 (.tmp 5) (.tmp 8) rfl (limbsV a) hpre' (by rw [HSN.out]; exact hN) (by rw [HSN.out, HSN.out]) (H1N.out _) (by simp [Act.eval, s5]) (by simp [Act.eval, s8]) ?_
      intro wy hxy hgy
      refine wpList_nil ?_
      exact ⟨rfl, hdef, rfl, hxy, hgy⟩
    · intro G wx fr hway hpre hs hdef hsz
      have s6 : fr.tmps[6]? = some (.pointer (some ⟨G 5, 0, none⟩)) := hs.1
      have s10 : fr.tmps[10]? = some (.agg (limbsV b)) := hs.2.1
      clear hs
      have hpre' : Blk wx (G 5) 39 (limbsV 0) := hpre
      refine ⟨?_⟩
      refine wpList_store_all rfl 39 (.tmp 6) (.tmp 10) rfl (limbsV b) hpre' (by rw [HSN.out]; exact hN) (by rw [HSN.out, HSN.out]) (H1N.out _) (by simp [Act.eval, s6]) (by simp [Act.eval, s10]) ?_
      intro wy hxy hgy
      refine wpList_nil ?_
      exact ⟨rfl, hdef, rfl, hxy, hgy⟩
  · intro G V wz hval hway hmade hap
    replace hval : V 0 = .agg (wcells a) ∧ V 1 = .agg (limbsV a) ∧ V 2 = .agg (wcells b) ∧ V 3 = .agg (limbsV b) ∧ V 4 = .pointer (some ⟨G 4, 0, none⟩) ∧ V 5 = .pointer (some ⟨G 5, 0, none⟩) ∧ V 6 = undef ∧ V 7 = undef ∧ True := hval
    replace hmade : (w2.heap.size ≤ G 4 ∧ G 4 < wz.heap.size ∧ Blk wz (G 4) 39 (limbsV a)) ∧ (w2.heap.size ≤ G 5 ∧ G 5 < wz.heap.size ∧ Blk wz (G 5) 39 (limbsV b)) ∧ True := hmade
    obtain ⟨e0, e1, e2, e3, e4, e5, e6, e7, -⟩ := hval
    obtain ⟨⟨hg4, hl4, hx_4⟩, ⟨hg5, hl5, hx_5⟩, -⟩ := hmade
    have ha4_5 : G 4 ≠ G 5 := hap 4 5 _ _ _ _ _ _ rfl rfl (by decide)
    clear hap
    simp only [fill, Act.put, e0, e1, e2, e3, e4, e5]
    clear e0 e1 e2 e3 e4 e5 e6 e7
    simp only [Exit.then]
    go_simp
    generalize G 4 = g4 at *
    generalize G 5 = g5 at *
    clear G V
    have hBz := hway.2.2
    clear hway
    have tok1 : True := trivial
    have tok2 : True := trivial
    have tok3 : True := trivial
    have tok4 : True := trivial
    have tok5 : True := trivial
    have tok6 : True := trivial
    have tok7 : True := trivial
    go_wp2_with (first
      | ((with_reducible refine gd_load ?_); have _t := tok1; refine wpList_load_blk rfl 39 (.tmp 5) rfl hx_4 (by rw [HSN.out]; exact hN) rfl ?_; clear tok1)
      | (go_at_call 48; have _t := tok2; refine (CMa.out _).mono ?_; clear tok2; rintro e w4 ⟨rfl, hb4⟩; replace hx_4 := hx_4.ext hb4; replace hx_5 := hx_5.ext hb4; replace hBz := below_step hBz hb4)
      | ((with_reducible refine gd_load ?_); have _t := tok5; refine wpList_load_blk rfl 39 (.tmp 5) rfl hx_4 (by rw [HSN.out]; exact hN) rfl ?_; clear tok5)
      | (go_at_call 48; have _t := tok6; refine (CMa.out _).mono ?_; clear tok6; rintro e w6 ⟨rfl, hb6⟩; replace hx_4 := hx_4.ext hb6; replace hx_5 := hx_5.ext hb6; replace hBz := below_step hBz hb6)
      | ((with_reducible refine gd_load ?_); have _t := tok3; refine wpList_load_want (by rfl) 39 (.tmp 6) rfl hx_5 (by rw [HSN.out]; exact hN) rfl ?_; clear tok3)
      | (go_at_call 48; have _t := tok4; refine (CMb.out _).mono ?_; clear tok4; rintro e w5 ⟨rfl, hb5⟩; replace hx_4 := hx_4.ext hb5; replace hx_5 := hx_5.ext hb5; replace hBz := below_step hBz hb5)
      | fail)
    go_ret
    exact ⟨rfl, hBz⟩
set_option maxRecDepth 100000 in
set_option maxHeartbeats 1000000 in
theorem SCmp_mm (a b : Nat) (w : World) (ha : a < 2 ^ 256) (hb : b < 2 ^ 256) (hx : 2 ^ 255 ≤ a) (hy : 2 ^ 255 ≤ b) : Calls Try.prog 36 #[.agg (wcells a), .agg (wcells b)] w fun e w' => e = .returned (.int .i64 (cmpN a b)) ∧ Below w.heap.size w w' := by
  have hW := wordTy
  have hN := numTy
  have zW := zWordL
  have zN := zNumL
  have HSN := Lib.hid limbsV_size
  have H1N := Lib.hid limbsV_one
  have HSW := Lib.hid wcells_size
  have H1W := Lib.hid wcells_one
  have HFr := Lib.hid from_any
  have HWd := Lib.hid word_any
  have CMa := Lib.hid (fun w => minus_any a w ha)
  have CMb := Lib.hid (fun w => minus_any b w hb)
  rw [decide_eq_true hx] at CMa
  rw [decide_eq_true hy] at CMb
  have CCmp := Lib.hid (fun w => cmp_any a b w ha hb)
  generalize cmpN a b = z at *
  clear hx hy
  have tokE : True := trivial
  go_enter Try.func36, Try.ntmps36
  go_wp2_with (first
    | ((with_reducible refine gd_box ?_); have _t := tokE; refine wpList_box_agg rfl _ (.tmp 0) rfl rfl ?_; clear tokE; intro w1 hx1 hb1 hl1)
    | ((with_reducible refine gd_box ?_); refine wpList_box_agg rfl _ (.tmp 1) rfl rfl ?_; intro w2 hx2 hb2 hl2)
    | fail)
  have hx1' := hx1.ext hb2
  have hB2 := below_step hb1 hb2
  have hg1 := hx1.lt
  have hg2 := hx2.lt
  refine wp_region_made (w := w2) (B := w.heap.size) (wB := w) [.val (.agg (wcells a)), .val (.agg (limbsV a)), .val (.agg (wcells b)), .val (.agg (limbsV b)), .new 39 (limbsV 0) (limbsV a), .new 39 (limbsV 0) (limbsV b), .putN 4, .putN 5] (by kernel_rfl) (by kernel_rfl) (by kernel_rfl) rfl (by kernel_rfl) rfl hB2.size hB2 List.nodup_nil (fun g hg => nomatch hg) trivial ?_ ?_
  · refine ⟨?_, ?_, ?_, ?_, ?_, ?_, ?_, ?_, trivial⟩
    · intro G wx fr hway _ hs hdef hsz
      have s2 : fr.tmps[2]? = some (.pointer (some ⟨w.heap.size, 0, none⟩)) := hs.1
      clear hs
      refine ⟨?_⟩
      refine wpList_load_blk rfl 23 (.tmp 2) rfl (way_blk hway hx1' (by first | exact hx1'.lt | omega) (by simp [heldBy, Knd.blockOf])) (by rw [HSW.out]; exact hW) (by simp [Act.eval, s2]) ?_
      refine wpList_nil ?_
      exact kp_val hdef hsz (Below.refl _ _)
    · intro G wx fr hway _ hs hdef hsz
      have s7 : fr.tmps[7]? = some (.agg (wcells a)) := hs.1
      clear hs
      refine ⟨?_⟩
      go_wp2_with fail
      refine (HFr.out a wx ha).mono ?_
      rintro e w2 ⟨rfl, hb2⟩
      go_wp2
      exact kp_post hsz hb2
    · intro G wx fr hway _ hs hdef hsz
      have s3 : fr.tmps[3]? = some (.pointer (some ⟨w1.heap.size, 0, none⟩)) := hs.1
      clear hs
      refine ⟨?_⟩
      refine wpList_load_blk rfl 23 (.tmp 3) rfl (way_blk hway hx2 (by first | exact hx2.lt | omega) (by simp [heldBy, Knd.blockOf])) (by rw [HSW.out]; exact hW) (by simp [Act.eval, s3]) ?_
      refine wpList_nil ?_
      exact kp_val hdef hsz (Below.refl _ _)
    · intro G wx fr hway _ hs hdef hsz
      have s9 : fr.tmps[9]? = some (.agg (wcells b)) := hs.1
      clear hs
      refine ⟨?_⟩
      go_wp2_with fail
      refine (HFr.out b wx hb).mono ?_
      rintro e w2 ⟨rfl, hb2⟩
      go_wp2
      exact kp_post hsz hb2
    · intro G wx fr hway _ hs hdef hsz
      clear hs
      refine ⟨?_⟩
      refine wpList_alloc_blk rfl 39 rfl zN ?_
      intro wy hxy hby _
      refine wpList_nil ?_
      exact kp_new hdef hsz hby hxy
    · intro G wx fr hway _ hs hdef hsz
      clear hs
      refine ⟨?_⟩
      refine wpList_alloc_blk rfl 39 rfl zN ?_
      intro wy hxy hby _
      refine wpList_nil ?_
      exact kp_new hdef hsz hby hxy
    · intro G wx fr hway hpre hs hdef hsz
      have s5 : fr.tmps[5]? = some (.pointer (some ⟨G 4, 0, none⟩)) := hs.1
      have s8 : fr.tmps[8]? = some (.agg (limbsV a)) := hs.2.1
      clear hs
      have hpre' : Blk wx (G 4) 39 (limbsV 0) := hpre
      refine ⟨?_⟩
      refine wpList_store_all rfl 39 (.tmp 5) (.tmp 8) rfl (limbsV a) hpre' (by rw [HSN.out]; exact hN) (by rw [HSN.out, HSN.out]) (H1N.out _) (by simp [Act.eval, s5]) (by simp [Act.eval, s8]) ?_
      intro wy hxy hgy
      refine wpList_nil ?_
      exact ⟨rfl, hdef, rfl, hxy, hgy⟩
    · intro G wx fr hway hpre hs hdef hsz
      have s6 : fr.tmps[6]? = some (.pointer (some ⟨G 5, 0, none⟩)) := hs.1
      have s10 : fr.tmps[10]? = some (.agg (limbsV b)) := hs.2.1
      clear hs
      have hpre' : Blk wx (G 5) 39 (limbsV 0) := hpre
      refine ⟨?_⟩
      refine wpList_store_all rfl 39 (.tmp 6) (.tmp 10) rfl (limbsV b) hpre' (by rw [HSN.out]; exact hN) (by rw [HSN.out, HSN.out]) (H1N.out _) (by simp [Act.eval, s6]) (by simp [Act.eval, s10]) ?_
      intro wy hxy hgy
      refine wpList_nil ?_
      exact ⟨rfl, hdef, rfl, hxy, hgy⟩
  · intro G V wz hval hway hmade hap
    replace hval : V 0 = .agg (wcells a) ∧ V 1 = .agg (limbsV a) ∧ V 2 = .agg (wcells b) ∧ V 3 = .agg (limbsV b) ∧ V 4 = .pointer (some ⟨G 4, 0, none⟩) ∧ V 5 = .pointer (some ⟨G 5, 0, none⟩) ∧ V 6 = undef ∧ V 7 = undef ∧ True := hval
    replace hmade : (w2.heap.size ≤ G 4 ∧ G 4 < wz.heap.size ∧ Blk wz (G 4) 39 (limbsV a)) ∧ (w2.heap.size ≤ G 5 ∧ G 5 < wz.heap.size ∧ Blk wz (G 5) 39 (limbsV b)) ∧ True := hmade
    obtain ⟨e0, e1, e2, e3, e4, e5, e6, e7, -⟩ := hval
    obtain ⟨⟨hg4, hl4, hx_4⟩, ⟨hg5, hl5, hx_5⟩, -⟩ := hmade
    have ha4_5 : G 4 ≠ G 5 := hap 4 5 _ _ _ _ _ _ rfl rfl (by decide)
    clear hap
    simp only [fill, Act.put, e0, e1, e2, e3, e4, e5]
    clear e0 e1 e2 e3 e4 e5 e6 e7
    simp only [Exit.then]
    go_simp
    generalize G 4 = g4 at *
    generalize G 5 = g5 at *
    clear G V
    have hBz := hway.2.2
    clear hway
    have tok1 : True := trivial
    have tok2 : True := trivial
    have tok3 : True := trivial
    have tok4 : True := trivial
    have tok5 : True := trivial
    have tok6 : True := trivial
    have tok7 : True := trivial
    go_wp2_with (first
      | ((with_reducible refine gd_load ?_); have _t := tok1; refine wpList_load_blk rfl 39 (.tmp 5) rfl hx_4 (by rw [HSN.out]; exact hN) rfl ?_; clear tok1)
      | (go_at_call 48; have _t := tok2; refine (CMa.out _).mono ?_; clear tok2; rintro e w4 ⟨rfl, hb4⟩; replace hx_4 := hx_4.ext hb4; replace hx_5 := hx_5.ext hb4; replace hBz := below_step hBz hb4)
      | ((with_reducible refine gd_load ?_); have _t := tok3; refine wpList_load_want (by rfl) 39 (.tmp 6) rfl hx_5 (by rw [HSN.out]; exact hN) rfl ?_; clear tok3)
      | (go_at_call 48; have _t := tok4; refine (CMb.out _).mono ?_; clear tok4; rintro e w5 ⟨rfl, hb5⟩; replace hx_4 := hx_4.ext hb5; replace hx_5 := hx_5.ext hb5; replace hBz := below_step hBz hb5)
      | ((with_reducible refine gd_load ?_); have _t := tok5; refine wpList_load_blk rfl 39 (.tmp 5) rfl hx_4 (by rw [HSN.out]; exact hN) rfl ?_; clear tok5)
      | (go_at_call 48; have _t := tok6; refine (CMa.out _).mono ?_; clear tok6; rintro e w6 ⟨rfl, hb6⟩; replace hx_4 := hx_4.ext hb6; replace hx_5 := hx_5.ext hb6; replace hBz := below_step hBz hb6)
      | ((with_reducible refine gd_load ?_); have _t := tok7; refine wpList_load_blk rfl 39 (.tmp 5) rfl hx_4 (by rw [HSN.out]; exact hN) rfl ?_; clear tok7)
      | ((with_reducible refine gd_load ?_); refine wpList_load_blk rfl 39 (.tmp 6) rfl hx_5 (by rw [HSN.out]; exact hN) rfl ?_)
      | (go_at_call 69; refine (CCmp.out _).mono ?_; rintro e w7 ⟨rfl, hb7⟩; replace hBz := below_step hBz hb7)
      | fail)
    go_ret
    exact ⟨rfl, hBz⟩
set_option maxRecDepth 100000 in
set_option maxHeartbeats 1000000 in
theorem SCmp_pp (a b : Nat) (w : World) (ha : a < 2 ^ 256) (hb : b < 2 ^ 256) (hx : ¬ 2 ^ 255 ≤ a) (hy : ¬ 2 ^ 255 ≤ b) : Calls Try.prog 36 #[.agg (wcells a), .agg (wcells b)] w fun e w' => e = .returned (.int .i64 (cmpN a b)) ∧ Below w.heap.size w w' := by
  have hW := wordTy
  have hN := numTy
  have zW := zWordL
  have zN := zNumL
  have HSN := Lib.hid limbsV_size
  have H1N := Lib.hid limbsV_one
  have HSW := Lib.hid wcells_size
  have H1W := Lib.hid wcells_one
  have HFr := Lib.hid from_any
  have HWd := Lib.hid word_any
  have CMa := Lib.hid (fun w => minus_any a w ha)
  have CMb := Lib.hid (fun w => minus_any b w hb)
  rw [decide_eq_false hx] at CMa
  rw [decide_eq_false hy] at CMb
  have CCmp := Lib.hid (fun w => cmp_any a b w ha hb)
  generalize cmpN a b = z at *
  clear hx hy
  have tokE : True := trivial
  go_enter Try.func36, Try.ntmps36
  go_wp2_with (first
    | ((with_reducible refine gd_box ?_); have _t := tokE; refine wpList_box_agg rfl _ (.tmp 0) rfl rfl ?_; clear tokE; intro w1 hx1 hb1 hl1)
    | ((with_reducible refine gd_box ?_); refine wpList_box_agg rfl _ (.tmp 1) rfl rfl ?_; intro w2 hx2 hb2 hl2)
    | fail)
  have hx1' := hx1.ext hb2
  have hB2 := below_step hb1 hb2
  have hg1 := hx1.lt
  have hg2 := hx2.lt
  refine wp_region_made (w := w2) (B := w.heap.size) (wB := w) [.val (.agg (wcells a)), .val (.agg (limbsV a)), .val (.agg (wcells b)), .val (.agg (limbsV b)), .new 39 (limbsV 0) (limbsV a), .new 39 (limbsV 0) (limbsV b), .putN 4, .putN 5] (by kernel_rfl) (by kernel_rfl) (by kernel_rfl) rfl (by kernel_rfl) rfl hB2.size hB2 List.nodup_nil (fun g hg => nomatch hg) trivial ?_ ?_
  · refine ⟨?_, ?_, ?_, ?_, ?_, ?_, ?_, ?_, trivial⟩
    · intro G wx fr hway _ hs hdef hsz
      have s2 : fr.tmps[2]? = some (.pointer (some ⟨w.heap.size, 0, none⟩)) := hs.1
      clear hs
      refine ⟨?_⟩
      refine wpList_load_blk rfl 23 (.tmp 2) rfl (way_blk hway hx1' (by first | exact hx1'.lt | omega) (by simp [heldBy, Knd.blockOf])) (by rw [HSW.out]; exact hW) (by simp [Act.eval, s2]) ?_
      refine wpList_nil ?_
      exact kp_val hdef hsz (Below.refl _ _)
    · intro G wx fr hway _ hs hdef hsz
      have s7 : fr.tmps[7]? = some (.agg (wcells a)) := hs.1
      clear hs
      refine ⟨?_⟩
      go_wp2_with fail
      refine (HFr.out a wx ha).mono ?_
      rintro e w2 ⟨rfl, hb2⟩
      go_wp2
      exact kp_post hsz hb2
    · intro G wx fr hway _ hs hdef hsz
      have s3 : fr.tmps[3]? = some (.pointer (some ⟨w1.heap.size, 0, none⟩)) := hs.1
      clear hs
      refine ⟨?_⟩
      refine wpList_load_blk rfl 23 (.tmp 3) rfl (way_blk hway hx2 (by first | exact hx2.lt | omega) (by simp [heldBy, Knd.blockOf])) (by rw [HSW.out]; exact hW) (by simp [Act.eval, s3]) ?_
      refine wpList_nil ?_
      exact kp_val hdef hsz (Below.refl _ _)
    · intro G wx fr hway _ hs hdef hsz
      have s9 : fr.tmps[9]? = some (.agg (wcells b)) := hs.1
      clear hs
      refine ⟨?_⟩
      go_wp2_with fail
      refine (HFr.out b wx hb).mono ?_
      rintro e w2 ⟨rfl, hb2⟩
      go_wp2
      exact kp_post hsz hb2
    · intro G wx fr hway _ hs hdef hsz
      clear hs
      refine ⟨?_⟩
      refine wpList_alloc_blk rfl 39 rfl zN ?_
      intro wy hxy hby _
      refine wpList_nil ?_
      exact kp_new hdef hsz hby hxy
    · intro G wx fr hway _ hs hdef hsz
      clear hs
      refine ⟨?_⟩
      refine wpList_alloc_blk rfl 39 rfl zN ?_
      intro wy hxy hby _
      refine wpList_nil ?_
      exact kp_new hdef hsz hby hxy
    · intro G wx fr hway hpre hs hdef hsz
      have s5 : fr.tmps[5]? = some (.pointer (some ⟨G 4, 0, none⟩)) := hs.1
      have s8 : fr.tmps[8]? = some (.agg (limbsV a)) := hs.2.1
      clear hs
      have hpre' : Blk wx (G 4) 39 (limbsV 0) := hpre
      refine ⟨?_⟩
      refine wpList_store_all rfl 39 (.tmp 5) (.tmp 8) rfl (limbsV a) hpre' (by rw [HSN.out]; exact hN) (by rw [HSN.out, HSN.out]) (H1N.out _) (by simp [Act.eval, s5]) (by simp [Act.eval, s8]) ?_
      intro wy hxy hgy
      refine wpList_nil ?_
      exact ⟨rfl, hdef, rfl, hxy, hgy⟩
    · intro G wx fr hway hpre hs hdef hsz
      have s6 : fr.tmps[6]? = some (.pointer (some ⟨G 5, 0, none⟩)) := hs.1
      have s10 : fr.tmps[10]? = some (.agg (limbsV b)) := hs.2.1
      clear hs
      have hpre' : Blk wx (G 5) 39 (limbsV 0) := hpre
      refine ⟨?_⟩
      refine wpList_store_all rfl 39 (.tmp 6) (.tmp 10) rfl (limbsV b) hpre' (by rw [HSN.out]; exact hN) (by rw [HSN.out, HSN.out]) (H1N.out _) (by simp [Act.eval, s6]) (by simp [Act.eval, s10]) ?_
      intro wy hxy hgy
      refine wpList_nil ?_
      exact ⟨rfl, hdef, rfl, hxy, hgy⟩
  · intro G V wz hval hway hmade hap
    replace hval : V 0 = .agg (wcells a) ∧ V 1 = .agg (limbsV a) ∧ V 2 = .agg (wcells b) ∧ V 3 = .agg (limbsV b) ∧ V 4 = .pointer (some ⟨G 4, 0, none⟩) ∧ V 5 = .pointer (some ⟨G 5, 0, none⟩) ∧ V 6 = undef ∧ V 7 = undef ∧ True := hval
    replace hmade : (w2.heap.size ≤ G 4 ∧ G 4 < wz.heap.size ∧ Blk wz (G 4) 39 (limbsV a)) ∧ (w2.heap.size ≤ G 5 ∧ G 5 < wz.heap.size ∧ Blk wz (G 5) 39 (limbsV b)) ∧ True := hmade
    obtain ⟨e0, e1, e2, e3, e4, e5, e6, e7, -⟩ := hval
    obtain ⟨⟨hg4, hl4, hx_4⟩, ⟨hg5, hl5, hx_5⟩, -⟩ := hmade
    have ha4_5 : G 4 ≠ G 5 := hap 4 5 _ _ _ _ _ _ rfl rfl (by decide)
    clear hap
    simp only [fill, Act.put, e0, e1, e2, e3, e4, e5]
    clear e0 e1 e2 e3 e4 e5 e6 e7
    simp only [Exit.then]
    go_simp
    generalize G 4 = g4 at *
    generalize G 5 = g5 at *
    clear G V
    have hBz := hway.2.2
    clear hway
    have tok1 : True := trivial
    have tok2 : True := trivial
    have tok3 : True := trivial
    have tok4 : True := trivial
    have tok5 : True := trivial
    have tok6 : True := trivial
    have tok7 : True := trivial
    go_wp2_with (first
      | ((with_reducible refine gd_load ?_); have _t := tok1; refine wpList_load_blk rfl 39 (.tmp 5) rfl hx_4 (by rw [HSN.out]; exact hN) rfl ?_; clear tok1)
      | (go_at_call 48; have _t := tok2; refine (CMa.out _).mono ?_; clear tok2; rintro e w4 ⟨rfl, hb4⟩; replace hx_4 := hx_4.ext hb4; replace hx_5 := hx_5.ext hb4; replace hBz := below_step hBz hb4)
      | ((with_reducible refine gd_load ?_); have _t := tok5; refine wpList_load_blk rfl 39 (.tmp 5) rfl hx_4 (by rw [HSN.out]; exact hN) rfl ?_; clear tok5)
      | (go_at_call 48; have _t := tok6; refine (CMa.out _).mono ?_; clear tok6; rintro e w6 ⟨rfl, hb6⟩; replace hx_4 := hx_4.ext hb6; replace hx_5 := hx_5.ext hb6; replace hBz := below_step hBz hb6)
      | ((with_reducible refine gd_load ?_); have _t := tok3; refine wpList_load_want (by rfl) 39 (.tmp 6) rfl hx_5 (by rw [HSN.out]; exact hN) rfl ?_; clear tok3)
      | (go_at_call 48; have _t := tok4; refine (CMb.out _).mono ?_; clear tok4; rintro e w5 ⟨rfl, hb5⟩; replace hx_4 := hx_4.ext hb5; replace hx_5 := hx_5.ext hb5; replace hBz := below_step hBz hb5)
      | ((with_reducible refine gd_load ?_); have _t := tok7; refine wpList_load_blk rfl 39 (.tmp 5) rfl hx_4 (by rw [HSN.out]; exact hN) rfl ?_; clear tok7)
      | ((with_reducible refine gd_load ?_); refine wpList_load_blk rfl 39 (.tmp 6) rfl hx_5 (by rw [HSN.out]; exact hN) rfl ?_)
      | (go_at_call 69; refine (CCmp.out _).mono ?_; rintro e w7 ⟨rfl, hb7⟩; replace hBz := below_step hBz hb7)
      | fail)
    go_ret
    exact ⟨rfl, hBz⟩
end Go.Mun
