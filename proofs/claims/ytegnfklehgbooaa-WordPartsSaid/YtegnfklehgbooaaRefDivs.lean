/- The walks of munimentsref1.Div, Mod. -/
import Derived.Test.YtegnfklehgbooaaRelW
import Derived.Test.YtegnfklehgbooaaRefDiv
import Derived.Test.YtegnfklehgbooaaWordMem
import Derived.Test.YtegnfklehgbooaaWordAll
namespace Go.Mun
open Go Go.RowKit Go.Proofs

set_option maxRecDepth 100000 in
set_option maxHeartbeats 2000000 in
theorem RefDiv_pos (a b : Nat) (w : World) (ha : a < 2 ^ 256) (hb : b < 2 ^ 256) (hb0 : 0 < b) : Calls Try.prog 36 #[.agg (wcells a), .agg (wcells b)] w fun e w' => e = .returned (.agg (wcells (a / b))) ∧ Below w.heap.size w w' := by
  have hW := wordTy
  have zW := zWordL
  have HSW := Lib.hid wcells_size
  have H1W := Lib.hid wcells_one
  obtain ⟨r, Er⟩ : ∃ r, r = a / b := ⟨_, rfl⟩
  have HR := Lib.hid Er
  have HLT := Lib.hid (show r % 2 ^ 256 = r from Nat.mod_eq_of_lt (by rw [Er]; exact Nat.lt_of_le_of_lt (Nat.div_le_self _ _) ha))
  rw [← Er]
  clear Er
  have hq0 := fun w => eq_word b 0 hb (by decide) w
  rw [decide_eq_false (by omega), ← wcells_lit0] at hq0
  have HB0 := Lib.hid hb0
  have HA := Lib.hid ha
  have HBB := Lib.hid hb
  have ho := hq0
  clear hb0 ha hb hq0
  have tkE0 : True := trivial
  go_enter Try.func36, Try.ntmps36
  go_wp2_with (first
    | ((with_reducible refine gd_box ?_); have _t := tkE0; refine wpList_box_agg rfl _ (.tmp 0) rfl rfl ?_; clear tkE0; intro w1 hx1 hb1 hl1)
    | ((with_reducible refine gd_box ?_); refine wpList_box_agg rfl _ (.tmp 1) rfl rfl ?_; intro w2 hx2 hb2 hl2)
    | ((with_reducible refine gd_alloc ?_); refine wpList_alloc_blk rfl 23 rfl zW ?_; intro w3 hx3 hb3 hl3)
    | ((with_reducible refine gd_load ?_); refine wpList_load_blk rfl 23 (.tmp 3) rfl (hx2.ext hb3) (by rw [HSW.out]; exact hW) rfl ?_)
    | fail)
  clear ho
  have hy1 := ((hx1.ext hb2).ext hb3)
  have hy2 := (hx2.ext hb3)
  have hy3 := hx3
  have hB := (below_step (below_step hb1 hb2) hb3)
  have o1 := hx1.lt
  have o2 := hx2.lt
  have o3 := hx3.lt
  have p1 := hb1.size
  have p2 := hb2.size
  have p3 := hb3.size
  clear hx1 hx2 hx3 hb1 hb2 hb3 hl1 hl2 hl3
  refine wp_region_loose (by kernel_rfl) (by kernel_rfl) (by kernel_rfl) rfl (RelW w none 23 32 (wcells 0)) relW_refl relW_trans (DKs [.val (.agg (wcells a)), .dig 16 a, .val (.agg (wcells b)), .dig 16 b, .pair 16 (a / b) 17 (a % b), .pair 16 (a / b) 17 (a % b), .dig 16 (a / b), .dig 17 (a % b), .dig 16 (a / b), .dig 17 (a % b)] w3.heap.size none 23 (wcells 0)) (DKs_stays (by intro g e; cases e)) ?_ ?_
  · refine ⟨?_, ?_, ?_, ?_, ?_, ?_, ?_, ?_, ?_, ?_, trivial⟩
    · intro V wx fr hw hd hs hdef hsz
      have s2 : fr.tmps[2]? = some (.pointer (some ⟨w.heap.size, 0, none⟩)) := hs.1
      clear hs
      refine ⟨?_⟩
      refine wpList_load_blk rfl 23 (.tmp 2) rfl (hy1.drew.row hw.gr (by simp)) (by rw [HSW.out]; exact hW) (by simp [Act.eval, s2]) ?_
      refine wpList_nil ?_
      exact op_put hdef hsz (relW_refl _) rfl
    · intro V wx fr hw hd hs hdef hsz
      simp only [DepFacts, Region.binds, forall_const, and_true] at hd
      have d0 := hd
      clear hd
      have s12 : fr.tmps[12]? = some (V 0) := hs.1
      clear hs
      have e0 : V 0 = (.agg (wcells a)) := d0
      rw [e0] at s12
      clear e0
      have hsx := hw.gr.size
      refine ⟨?_⟩
      go_wp2_with fail
      refine (limbs_any a wx HA.out).mono ?_
      rintro e w2 ⟨g, rfl, hg, hx, hb2⟩
      go_wp2
      exact op_post hsz (relW_below hb2) ⟨g, 16, rfl, Nat.le_trans (by simpa using hsx) hg, hx.rd⟩
    · intro V wx fr hw hd hs hdef hsz
      have s3 : fr.tmps[3]? = some (.pointer (some ⟨w1.heap.size, 0, none⟩)) := hs.1
      clear hs
      refine ⟨?_⟩
      refine wpList_load_blk rfl 23 (.tmp 3) rfl (hy2.drew.row hw.gr (by simp)) (by rw [HSW.out]; exact hW) (by simp [Act.eval, s3]) ?_
      refine wpList_nil ?_
      exact op_put hdef hsz (relW_refl _) rfl
    · intro V wx fr hw hd hs hdef hsz
      simp only [DepFacts, Region.binds, forall_const, and_true] at hd
      have d2 := hd.1
      clear hd
      have s14 : fr.tmps[14]? = some (V 2) := hs.1
      clear hs
      have e2 : V 2 = (.agg (wcells b)) := d2
      rw [e2] at s14
      clear e2
      have hsx := hw.gr.size
      refine ⟨?_⟩
      go_wp2_with fail
      refine (limbs_any b wx HBB.out).mono ?_
      rintro e w2 ⟨g, rfl, hg, hx, hb2⟩
      go_wp2
      exact op_post hsz (relW_below hb2) ⟨g, 16, rfl, Nat.le_trans (by simpa using hsx) hg, hx.rd⟩
    · intro V wx fr hw hd hs hdef hsz
      simp only [DepFacts, Region.binds, forall_const, and_true] at hd
      have d1 := hd.1
      have d3 := hd.2.1
      clear hd
      have s13 : fr.tmps[13]? = some (V 1) := hs.1
      have s15 : fr.tmps[15]? = some (V 3) := hs.2.1
      clear hs
      obtain ⟨g1, c1, e1, hg1, r1⟩ := d1
      rw [e1] at s13
      obtain ⟨g3, c3, e3, hg3, r3⟩ := d3
      rw [e3] at s15
      clear e1 e3
      have hsx := hw.gr.size
      refine ⟨?_⟩
      go_wp2_with fail
      refine (refdiv_any ⟨g1, 0, none⟩ ⟨g3, 0, none⟩ 16 c1 c3 a b wx (by decide) (by decide) HA.out HB0.out HBB.out r1 r3).mono ?_
      rintro e w2 ⟨g, h, rfl, hg, hh, hx, hy, hb2⟩
      go_wp2
      exact op_post hsz (relW_below hb2) ⟨g, h, 16, 17, rfl, Nat.le_trans (by simpa using hsx) hg, Nat.le_trans (by simpa using hsx) hh, hx.rd, hy.rd⟩
    · intro V wx fr hw hd hs hdef hsz
      simp only [DepFacts, Region.binds, forall_const, and_true] at hd
      have d4 := hd
      clear hd
      have s16 : fr.tmps[16]? = some (V 4) := hs.1
      clear hs
      obtain ⟨g4, h4, c4, k4, e4, hg4, hh4, r4, t4⟩ := d4
      rw [e4] at s16
      clear e4
      have hsx := hw.gr.size
      refine ⟨?_⟩
      go_wp2
      exact op_post hsz (relW_refl _) ⟨g4, h4, c4, k4, rfl, hg4, hh4, r4, t4⟩
    · intro V wx fr hw hd hs hdef hsz
      simp only [DepFacts, Region.binds, forall_const, and_true] at hd
      have d5 := hd
      clear hd
      have s11 : fr.tmps[11]? = some (V 5) := hs.1
      clear hs
      obtain ⟨g5, h5, c5, k5, e5, hg5, hh5, r5, t5⟩ := d5
      rw [e5] at s11
      clear e5
      have hsx := hw.gr.size
      refine ⟨?_⟩
      go_wp2
      exact op_post hsz (relW_refl _) ⟨g5, c5, rfl, hg5, r5⟩
    · intro V wx fr hw hd hs hdef hsz
      simp only [DepFacts, Region.binds, forall_const, and_true] at hd
      have d5 := hd.1
      clear hd
      have s11 : fr.tmps[11]? = some (V 5) := hs.1
      clear hs
      obtain ⟨g5, h5, c5, k5, e5, hg5, hh5, r5, t5⟩ := d5
      rw [e5] at s11
      clear e5
      have hsx := hw.gr.size
      refine ⟨?_⟩
      go_wp2
      exact op_post hsz (relW_refl _) ⟨h5, k5, rfl, hh5, t5⟩
    · intro V wx fr hw hd hs hdef hsz
      simp only [DepFacts, Region.binds, forall_const, and_true] at hd
      have d6 := hd.1
      clear hd
      have s17 : fr.tmps[17]? = some (V 6) := hs.1
      clear hs
      obtain ⟨g6, c6, e6, hg6, r6⟩ := d6
      rw [e6] at s17
      clear e6
      have hsx := hw.gr.size
      refine ⟨?_⟩
      go_wp2
      exact op_post hsz (relW_refl _) ⟨g6, c6, rfl, hg6, r6⟩
    · intro V wx fr hw hd hs hdef hsz
      simp only [DepFacts, Region.binds, forall_const, and_true] at hd
      have d7 := hd.1
      clear hd
      have s18 : fr.tmps[18]? = some (V 7) := hs.1
      clear hs
      obtain ⟨g7, c7, e7, hg7, r7⟩ := d7
      rw [e7] at s18
      clear e7
      have hsx := hw.gr.size
      refine ⟨?_⟩
      go_wp2
      exact op_post hsz (relW_refl _) ⟨g7, c7, rfl, hg7, r7⟩
  · intro V wz hr hS
    replace hS : DKs [.val (.agg (wcells a)), .dig 16 a, .val (.agg (wcells b)), .dig 16 b, .pair 16 (a / b) 17 (a % b), .pair 16 (a / b) 17 (a % b), .dig 16 (a / b), .dig 17 (a % b), .dig 16 (a / b), .dig 17 (a % b)] w3.heap.size none 23 (wcells 0) 0 (V 0) wz ∧ DKs [.val (.agg (wcells a)), .dig 16 a, .val (.agg (wcells b)), .dig 16 b, .pair 16 (a / b) 17 (a % b), .pair 16 (a / b) 17 (a % b), .dig 16 (a / b), .dig 17 (a % b), .dig 16 (a / b), .dig 17 (a % b)] w3.heap.size none 23 (wcells 0) 1 (V 1) wz ∧ DKs [.val (.agg (wcells a)), .dig 16 a, .val (.agg (wcells b)), .dig 16 b, .pair 16 (a / b) 17 (a % b), .pair 16 (a / b) 17 (a % b), .dig 16 (a / b), .dig 17 (a % b), .dig 16 (a / b), .dig 17 (a % b)] w3.heap.size none 23 (wcells 0) 2 (V 2) wz ∧ DKs [.val (.agg (wcells a)), .dig 16 a, .val (.agg (wcells b)), .dig 16 b, .pair 16 (a / b) 17 (a % b), .pair 16 (a / b) 17 (a % b), .dig 16 (a / b), .dig 17 (a % b), .dig 16 (a / b), .dig 17 (a % b)] w3.heap.size none 23 (wcells 0) 3 (V 3) wz ∧ DKs [.val (.agg (wcells a)), .dig 16 a, .val (.agg (wcells b)), .dig 16 b, .pair 16 (a / b) 17 (a % b), .pair 16 (a / b) 17 (a % b), .dig 16 (a / b), .dig 17 (a % b), .dig 16 (a / b), .dig 17 (a % b)] w3.heap.size none 23 (wcells 0) 4 (V 4) wz ∧ DKs [.val (.agg (wcells a)), .dig 16 a, .val (.agg (wcells b)), .dig 16 b, .pair 16 (a / b) 17 (a % b), .pair 16 (a / b) 17 (a % b), .dig 16 (a / b), .dig 17 (a % b), .dig 16 (a / b), .dig 17 (a % b)] w3.heap.size none 23 (wcells 0) 5 (V 5) wz ∧ DKs [.val (.agg (wcells a)), .dig 16 a, .val (.agg (wcells b)), .dig 16 b, .pair 16 (a / b) 17 (a % b), .pair 16 (a / b) 17 (a % b), .dig 16 (a / b), .dig 17 (a % b), .dig 16 (a / b), .dig 17 (a % b)] w3.heap.size none 23 (wcells 0) 6 (V 6) wz ∧ DKs [.val (.agg (wcells a)), .dig 16 a, .val (.agg (wcells b)), .dig 16 b, .pair 16 (a / b) 17 (a % b), .pair 16 (a / b) 17 (a % b), .dig 16 (a / b), .dig 17 (a % b), .dig 16 (a / b), .dig 17 (a % b)] w3.heap.size none 23 (wcells 0) 7 (V 7) wz ∧ DKs [.val (.agg (wcells a)), .dig 16 a, .val (.agg (wcells b)), .dig 16 b, .pair 16 (a / b) 17 (a % b), .pair 16 (a / b) 17 (a % b), .dig 16 (a / b), .dig 17 (a % b), .dig 16 (a / b), .dig 17 (a % b)] w3.heap.size none 23 (wcells 0) 8 (V 8) wz ∧ DKs [.val (.agg (wcells a)), .dig 16 a, .val (.agg (wcells b)), .dig 16 b, .pair 16 (a / b) 17 (a % b), .pair 16 (a / b) 17 (a % b), .dig 16 (a / b), .dig 17 (a % b), .dig 16 (a / b), .dig 17 (a % b)] w3.heap.size none 23 (wcells 0) 9 (V 9) wz ∧ True := hS
    have hBz := hr.bel hB.drew
    have hx4 := hy3.drew.row hr.gr (by simp)
    have hzs := hr.gr.size
    obtain ⟨g8, c8, e8, hg8, r8⟩ := hS.2.2.2.2.2.2.2.2.1
    clear hS hr
    simp only [fill, Act.put, e8]
    clear e8
    simp only [Exit.then]
    go_simp
    go_wp2_with (first
      | (go_at_call 52; refine (refword_any ⟨g8, 0, none⟩ 16 c8 (a / b) wz (by decide) (by decide) r8).mono ?_; rintro e w5 ⟨rfl, hb5⟩)
      | ((with_reducible refine gd_store ?_); refine wpList_store_all rfl 23 (.tmp 4) (.tmp 20) rfl (wcells r) (hx4.ext hb5) (by rw [HSW.out]; exact hW) (by rw [HSW.out]; exact HSW.out 0) (H1W.out _) (by rfl) (congrArg Value.agg (congrArg wcells (by rw [← HR.out]; exact HLT.out))) ?_; intro w6 hx6 hg6)
      | fail)
    have hB5 := below_step hBz hb5
    have hB6 := below_blk hB5 hB5.size hg6 (by omega)
    exact bodyPost_ret (results_blk1 (cs := wcells r) rfl (by rw [HSW.out]; exact hW) hx6 rfl) rfl ⟨by rw [HR.out], hB6⟩
set_option maxRecDepth 100000 in
set_option maxHeartbeats 2000000 in
theorem RefMod_pos (a b : Nat) (w : World) (ha : a < 2 ^ 256) (hb : b < 2 ^ 256) (hb0 : 0 < b) : Calls Try.prog 38 #[.agg (wcells a), .agg (wcells b)] w fun e w' => e = .returned (.agg (wcells (a % b))) ∧ Below w.heap.size w w' := by
  have hW := wordTy
  have zW := zWordL
  have HSW := Lib.hid wcells_size
  have H1W := Lib.hid wcells_one
  obtain ⟨r, Er⟩ : ∃ r, r = a % b := ⟨_, rfl⟩
  have HR := Lib.hid Er
  have HLT := Lib.hid (show r % 2 ^ 256 = r from Nat.mod_eq_of_lt (by rw [Er]; exact Nat.lt_of_le_of_lt (Nat.mod_le _ _) ha))
  rw [← Er]
  clear Er
  have hq0 := fun w => eq_word b 0 hb (by decide) w
  rw [decide_eq_false (by omega), ← wcells_lit0] at hq0
  have HB0 := Lib.hid hb0
  have HA := Lib.hid ha
  have HBB := Lib.hid hb
  have ho := hq0
  clear hb0 ha hb hq0
  have tkE0 : True := trivial
  go_enter Try.func38, Try.ntmps38
  go_wp2_with (first
    | ((with_reducible refine gd_box ?_); have _t := tkE0; refine wpList_box_agg rfl _ (.tmp 0) rfl rfl ?_; clear tkE0; intro w1 hx1 hb1 hl1)
    | ((with_reducible refine gd_box ?_); refine wpList_box_agg rfl _ (.tmp 1) rfl rfl ?_; intro w2 hx2 hb2 hl2)
    | ((with_reducible refine gd_alloc ?_); refine wpList_alloc_blk rfl 23 rfl zW ?_; intro w3 hx3 hb3 hl3)
    | ((with_reducible refine gd_load ?_); refine wpList_load_blk rfl 23 (.tmp 3) rfl (hx2.ext hb3) (by rw [HSW.out]; exact hW) rfl ?_)
    | fail)
  clear ho
  have hy1 := ((hx1.ext hb2).ext hb3)
  have hy2 := (hx2.ext hb3)
  have hy3 := hx3
  have hB := (below_step (below_step hb1 hb2) hb3)
  have o1 := hx1.lt
  have o2 := hx2.lt
  have o3 := hx3.lt
  have p1 := hb1.size
  have p2 := hb2.size
  have p3 := hb3.size
  clear hx1 hx2 hx3 hb1 hb2 hb3 hl1 hl2 hl3
  refine wp_region_loose (by kernel_rfl) (by kernel_rfl) (by kernel_rfl) rfl (RelW w none 23 32 (wcells 0)) relW_refl relW_trans (DKs [.val (.agg (wcells a)), .dig 16 a, .val (.agg (wcells b)), .dig 16 b, .pair 16 (a / b) 17 (a % b), .pair 16 (a / b) 17 (a % b), .dig 16 (a / b), .dig 17 (a % b), .dig 16 (a / b), .dig 17 (a % b)] w3.heap.size none 23 (wcells 0)) (DKs_stays (by intro g e; cases e)) ?_ ?_
  · refine ⟨?_, ?_, ?_, ?_, ?_, ?_, ?_, ?_, ?_, ?_, trivial⟩
    · intro V wx fr hw hd hs hdef hsz
      have s2 : fr.tmps[2]? = some (.pointer (some ⟨w.heap.size, 0, none⟩)) := hs.1
      clear hs
      refine ⟨?_⟩
      refine wpList_load_blk rfl 23 (.tmp 2) rfl (hy1.drew.row hw.gr (by simp)) (by rw [HSW.out]; exact hW) (by simp [Act.eval, s2]) ?_
      refine wpList_nil ?_
      exact op_put hdef hsz (relW_refl _) rfl
    · intro V wx fr hw hd hs hdef hsz
      simp only [DepFacts, Region.binds, forall_const, and_true] at hd
      have d0 := hd
      clear hd
      have s12 : fr.tmps[12]? = some (V 0) := hs.1
      clear hs
      have e0 : V 0 = (.agg (wcells a)) := d0
      rw [e0] at s12
      clear e0
      have hsx := hw.gr.size
      refine ⟨?_⟩
      go_wp2_with fail
      refine (limbs_any a wx HA.out).mono ?_
      rintro e w2 ⟨g, rfl, hg, hx, hb2⟩
      go_wp2
      exact op_post hsz (relW_below hb2) ⟨g, 16, rfl, Nat.le_trans (by simpa using hsx) hg, hx.rd⟩
    · intro V wx fr hw hd hs hdef hsz
      have s3 : fr.tmps[3]? = some (.pointer (some ⟨w1.heap.size, 0, none⟩)) := hs.1
      clear hs
      refine ⟨?_⟩
      refine wpList_load_blk rfl 23 (.tmp 3) rfl (hy2.drew.row hw.gr (by simp)) (by rw [HSW.out]; exact hW) (by simp [Act.eval, s3]) ?_
      refine wpList_nil ?_
      exact op_put hdef hsz (relW_refl _) rfl
    · intro V wx fr hw hd hs hdef hsz
      simp only [DepFacts, Region.binds, forall_const, and_true] at hd
      have d2 := hd.1
      clear hd
      have s14 : fr.tmps[14]? = some (V 2) := hs.1
      clear hs
      have e2 : V 2 = (.agg (wcells b)) := d2
      rw [e2] at s14
      clear e2
      have hsx := hw.gr.size
      refine ⟨?_⟩
      go_wp2_with fail
      refine (limbs_any b wx HBB.out).mono ?_
      rintro e w2 ⟨g, rfl, hg, hx, hb2⟩
      go_wp2
      exact op_post hsz (relW_below hb2) ⟨g, 16, rfl, Nat.le_trans (by simpa using hsx) hg, hx.rd⟩
    · intro V wx fr hw hd hs hdef hsz
      simp only [DepFacts, Region.binds, forall_const, and_true] at hd
      have d1 := hd.1
      have d3 := hd.2.1
      clear hd
      have s13 : fr.tmps[13]? = some (V 1) := hs.1
      have s15 : fr.tmps[15]? = some (V 3) := hs.2.1
      clear hs
      obtain ⟨g1, c1, e1, hg1, r1⟩ := d1
      rw [e1] at s13
      obtain ⟨g3, c3, e3, hg3, r3⟩ := d3
      rw [e3] at s15
      clear e1 e3
      have hsx := hw.gr.size
      refine ⟨?_⟩
      go_wp2_with fail
      refine (refdiv_any ⟨g1, 0, none⟩ ⟨g3, 0, none⟩ 16 c1 c3 a b wx (by decide) (by decide) HA.out HB0.out HBB.out r1 r3).mono ?_
      rintro e w2 ⟨g, h, rfl, hg, hh, hx, hy, hb2⟩
      go_wp2
      exact op_post hsz (relW_below hb2) ⟨g, h, 16, 17, rfl, Nat.le_trans (by simpa using hsx) hg, Nat.le_trans (by simpa using hsx) hh, hx.rd, hy.rd⟩
    · intro V wx fr hw hd hs hdef hsz
      simp only [DepFacts, Region.binds, forall_const, and_true] at hd
      have d4 := hd
      clear hd
      have s16 : fr.tmps[16]? = some (V 4) := hs.1
      clear hs
      obtain ⟨g4, h4, c4, k4, e4, hg4, hh4, r4, t4⟩ := d4
      rw [e4] at s16
      clear e4
      have hsx := hw.gr.size
      refine ⟨?_⟩
      go_wp2
      exact op_post hsz (relW_refl _) ⟨g4, h4, c4, k4, rfl, hg4, hh4, r4, t4⟩
    · intro V wx fr hw hd hs hdef hsz
      simp only [DepFacts, Region.binds, forall_const, and_true] at hd
      have d5 := hd
      clear hd
      have s11 : fr.tmps[11]? = some (V 5) := hs.1
      clear hs
      obtain ⟨g5, h5, c5, k5, e5, hg5, hh5, r5, t5⟩ := d5
      rw [e5] at s11
      clear e5
      have hsx := hw.gr.size
      refine ⟨?_⟩
      go_wp2
      exact op_post hsz (relW_refl _) ⟨g5, c5, rfl, hg5, r5⟩
    · intro V wx fr hw hd hs hdef hsz
      simp only [DepFacts, Region.binds, forall_const, and_true] at hd
      have d5 := hd.1
      clear hd
      have s11 : fr.tmps[11]? = some (V 5) := hs.1
      clear hs
      obtain ⟨g5, h5, c5, k5, e5, hg5, hh5, r5, t5⟩ := d5
      rw [e5] at s11
      clear e5
      have hsx := hw.gr.size
      refine ⟨?_⟩
      go_wp2
      exact op_post hsz (relW_refl _) ⟨h5, k5, rfl, hh5, t5⟩
    · intro V wx fr hw hd hs hdef hsz
      simp only [DepFacts, Region.binds, forall_const, and_true] at hd
      have d6 := hd.1
      clear hd
      have s17 : fr.tmps[17]? = some (V 6) := hs.1
      clear hs
      obtain ⟨g6, c6, e6, hg6, r6⟩ := d6
      rw [e6] at s17
      clear e6
      have hsx := hw.gr.size
      refine ⟨?_⟩
      go_wp2
      exact op_post hsz (relW_refl _) ⟨g6, c6, rfl, hg6, r6⟩
    · intro V wx fr hw hd hs hdef hsz
      simp only [DepFacts, Region.binds, forall_const, and_true] at hd
      have d7 := hd.1
      clear hd
      have s18 : fr.tmps[18]? = some (V 7) := hs.1
      clear hs
      obtain ⟨g7, c7, e7, hg7, r7⟩ := d7
      rw [e7] at s18
      clear e7
      have hsx := hw.gr.size
      refine ⟨?_⟩
      go_wp2
      exact op_post hsz (relW_refl _) ⟨g7, c7, rfl, hg7, r7⟩
  · intro V wz hr hS
    replace hS : DKs [.val (.agg (wcells a)), .dig 16 a, .val (.agg (wcells b)), .dig 16 b, .pair 16 (a / b) 17 (a % b), .pair 16 (a / b) 17 (a % b), .dig 16 (a / b), .dig 17 (a % b), .dig 16 (a / b), .dig 17 (a % b)] w3.heap.size none 23 (wcells 0) 0 (V 0) wz ∧ DKs [.val (.agg (wcells a)), .dig 16 a, .val (.agg (wcells b)), .dig 16 b, .pair 16 (a / b) 17 (a % b), .pair 16 (a / b) 17 (a % b), .dig 16 (a / b), .dig 17 (a % b), .dig 16 (a / b), .dig 17 (a % b)] w3.heap.size none 23 (wcells 0) 1 (V 1) wz ∧ DKs [.val (.agg (wcells a)), .dig 16 a, .val (.agg (wcells b)), .dig 16 b, .pair 16 (a / b) 17 (a % b), .pair 16 (a / b) 17 (a % b), .dig 16 (a / b), .dig 17 (a % b), .dig 16 (a / b), .dig 17 (a % b)] w3.heap.size none 23 (wcells 0) 2 (V 2) wz ∧ DKs [.val (.agg (wcells a)), .dig 16 a, .val (.agg (wcells b)), .dig 16 b, .pair 16 (a / b) 17 (a % b), .pair 16 (a / b) 17 (a % b), .dig 16 (a / b), .dig 17 (a % b), .dig 16 (a / b), .dig 17 (a % b)] w3.heap.size none 23 (wcells 0) 3 (V 3) wz ∧ DKs [.val (.agg (wcells a)), .dig 16 a, .val (.agg (wcells b)), .dig 16 b, .pair 16 (a / b) 17 (a % b), .pair 16 (a / b) 17 (a % b), .dig 16 (a / b), .dig 17 (a % b), .dig 16 (a / b), .dig 17 (a % b)] w3.heap.size none 23 (wcells 0) 4 (V 4) wz ∧ DKs [.val (.agg (wcells a)), .dig 16 a, .val (.agg (wcells b)), .dig 16 b, .pair 16 (a / b) 17 (a % b), .pair 16 (a / b) 17 (a % b), .dig 16 (a / b), .dig 17 (a % b), .dig 16 (a / b), .dig 17 (a % b)] w3.heap.size none 23 (wcells 0) 5 (V 5) wz ∧ DKs [.val (.agg (wcells a)), .dig 16 a, .val (.agg (wcells b)), .dig 16 b, .pair 16 (a / b) 17 (a % b), .pair 16 (a / b) 17 (a % b), .dig 16 (a / b), .dig 17 (a % b), .dig 16 (a / b), .dig 17 (a % b)] w3.heap.size none 23 (wcells 0) 6 (V 6) wz ∧ DKs [.val (.agg (wcells a)), .dig 16 a, .val (.agg (wcells b)), .dig 16 b, .pair 16 (a / b) 17 (a % b), .pair 16 (a / b) 17 (a % b), .dig 16 (a / b), .dig 17 (a % b), .dig 16 (a / b), .dig 17 (a % b)] w3.heap.size none 23 (wcells 0) 7 (V 7) wz ∧ DKs [.val (.agg (wcells a)), .dig 16 a, .val (.agg (wcells b)), .dig 16 b, .pair 16 (a / b) 17 (a % b), .pair 16 (a / b) 17 (a % b), .dig 16 (a / b), .dig 17 (a % b), .dig 16 (a / b), .dig 17 (a % b)] w3.heap.size none 23 (wcells 0) 8 (V 8) wz ∧ DKs [.val (.agg (wcells a)), .dig 16 a, .val (.agg (wcells b)), .dig 16 b, .pair 16 (a / b) 17 (a % b), .pair 16 (a / b) 17 (a % b), .dig 16 (a / b), .dig 17 (a % b), .dig 16 (a / b), .dig 17 (a % b)] w3.heap.size none 23 (wcells 0) 9 (V 9) wz ∧ True := hS
    have hBz := hr.bel hB.drew
    have hx4 := hy3.drew.row hr.gr (by simp)
    have hzs := hr.gr.size
    obtain ⟨g8, c8, e8, hg8, r8⟩ := hS.2.2.2.2.2.2.2.2.2.1
    clear hS hr
    simp only [fill, Act.put, e8]
    clear e8
    simp only [Exit.then]
    go_simp
    go_wp2_with (first
      | (go_at_call 52; refine (refword_any ⟨g8, 0, none⟩ 17 c8 (a % b) wz (by decide) (by decide) r8).mono ?_; rintro e w5 ⟨rfl, hb5⟩)
      | ((with_reducible refine gd_store ?_); refine wpList_store_all rfl 23 (.tmp 4) (.tmp 20) rfl (wcells r) (hx4.ext hb5) (by rw [HSW.out]; exact hW) (by rw [HSW.out]; exact HSW.out 0) (H1W.out _) (by rfl) (congrArg Value.agg (congrArg wcells (by rw [← HR.out]; exact HLT.out))) ?_; intro w6 hx6 hg6)
      | fail)
    have hB5 := below_step hBz hb5
    have hB6 := below_blk hB5 hB5.size hg6 (by omega)
    exact bodyPost_ret (results_blk1 (cs := wcells r) rfl (by rw [HSW.out]; exact hW) hx6 rfl) rfl ⟨by rw [HR.out], hB6⟩
set_option maxRecDepth 100000 in
set_option maxHeartbeats 4000000 in
theorem RefDiv_zero (a b : Nat) (w : World) (hb : b < 2 ^ 256) (hb0 : Hid (b = 0)) : Calls Try.prog 36 #[.agg (wcells a), .agg (wcells b)] w fun e w' => e = .returned (.agg (wcells (0))) ∧ Below w.heap.size w w' := by
  have hW := wordTy
  have zW := zWordL
  have HSW := Lib.hid wcells_size
  have H1W := Lib.hid wcells_one
  have HZW := Lib.hid wcells_lit0
  have Q1 := Lib.hid (fun w => eq_word b 0 hb (by decide) w)
  rw [decide_eq_true hb0.out] at Q1
  go_enter Try.func36, Try.ntmps36
  have tk0_0 : True := trivial
  have tk0_1 : True := trivial
  have tk0_2 : True := trivial
  have tk0_3 : True := trivial
  have tk0_4 : True := trivial
  have tk0_5 : True := trivial
  have hqQ1 := Q1.out
  rw [← HZW.out] at hqQ1
  go_wp2_with (first
    | ((with_reducible refine gd_box ?_); have _t := tk0_0; refine wpList_box_agg rfl _ (.tmp 0) rfl rfl ?_; clear tk0_0; intro w1 hx1 hb1 hl1; have hz1 := hx1.lt; have hs1 := hb1.size)
    | ((with_reducible refine gd_box ?_); have _t := tk0_1; refine wpList_box_agg rfl _ (.tmp 1) rfl rfl ?_; clear tk0_1; intro w2 hx2 hb2 hl2; have hz2 := hx2.lt; have hs2 := hb2.size)
    | ((with_reducible refine gd_alloc ?_); have _t := tk0_2; refine wpList_alloc_blk rfl 23 rfl zW ?_; clear tk0_2; intro w3 hx3 hb3 hl3; have hz3 := hx3.lt; have hs3 := hb3.size)
    | ((with_reducible refine gd_load ?_); have _t := tk0_3; refine wpList_load_blk rfl 23 (.tmp 3) rfl (hx2.ext hb3) (by rw [HSW.out]; exact hW) rfl ?_; clear tk0_3)
    | ((with_reducible refine gd_load ?_); have _t := tk0_4; refine wpList_load_blk rfl 23 (.tmp 3) rfl (hx2.ext hb3) (by rw [HSW.out]; exact hW) rfl ?_; clear tk0_4)
    | ((with_reducible refine gd_store ?_); have _t := tk0_5; refine wpList_store_all rfl 23 (.tmp 4) (.tmp 10) rfl (wcells b) hx3 (by rw [HSW.out]; exact hW) (by rw [HSW.out]; exact HSW.out 0) (H1W.out _) (by rfl) (by rfl) ?_; clear tk0_5; intro w4 hx4 hg4; have hs4 := hg4.size)
    | fail)
  clear hqQ1
  have hy1_1 := (((hx1.ext hb2).ext hb3).grown hg4 (by simp; omega))
  have hy1_2 := ((hx2.ext hb3).grown hg4 (by simp; omega))
  have hy1_3 := hx4
  have hB1_1 := hb1
  have hB1_2 := below_step hB1_1 hb2
  have hB1_3 := below_step hB1_2 hb3
  have hB1_4 := below_blk hB1_3 hB1_3.size hg4 (by first | omega | (simp; omega))
  clear hb1 hl1 hz1 hs1 hb2 hl2 hz2 hs2 hx3 hb3 hl3 hz3 hs3 hg4 hs4 hx1 hx2 hx4 hB1_1 hB1_2 hB1_3
  exact bodyPost_ret (results_blk1 (cs := wcells b) rfl (by rw [HSW.out]; exact hW) hy1_3 rfl) rfl ⟨by rw [hb0.out], hB1_4⟩
theorem RefDiv_all (a b : Nat) (w : World) (ha : a < 2 ^ 256) (hb : b < 2 ^ 256) : Calls Try.prog 36 #[.agg (wcells a), .agg (wcells b)] w fun e w' => e = .returned (.agg (wcells (a / b))) ∧ Below w.heap.size w w' := by
  rcases Nat.eq_zero_or_pos b with h | h
  · have := RefDiv_zero a b w hb (Lib.hid h)
    rw [h] at this ⊢
    rw [Nat.div_zero]
    exact this
  · exact RefDiv_pos a b w ha hb h
set_option maxRecDepth 100000 in
set_option maxHeartbeats 4000000 in
theorem RefMod_zero (a b : Nat) (w : World) (hb : b < 2 ^ 256) (hb0 : Hid (b = 0)) : Calls Try.prog 38 #[.agg (wcells a), .agg (wcells b)] w fun e w' => e = .returned (.agg (wcells (0))) ∧ Below w.heap.size w w' := by
  have hW := wordTy
  have zW := zWordL
  have HSW := Lib.hid wcells_size
  have H1W := Lib.hid wcells_one
  have HZW := Lib.hid wcells_lit0
  have Q1 := Lib.hid (fun w => eq_word b 0 hb (by decide) w)
  rw [decide_eq_true hb0.out] at Q1
  go_enter Try.func38, Try.ntmps38
  have tk0_0 : True := trivial
  have tk0_1 : True := trivial
  have tk0_2 : True := trivial
  have tk0_3 : True := trivial
  have tk0_4 : True := trivial
  have tk0_5 : True := trivial
  have hqQ1 := Q1.out
  rw [← HZW.out] at hqQ1
  go_wp2_with (first
    | ((with_reducible refine gd_box ?_); have _t := tk0_0; refine wpList_box_agg rfl _ (.tmp 0) rfl rfl ?_; clear tk0_0; intro w1 hx1 hb1 hl1; have hz1 := hx1.lt; have hs1 := hb1.size)
    | ((with_reducible refine gd_box ?_); have _t := tk0_1; refine wpList_box_agg rfl _ (.tmp 1) rfl rfl ?_; clear tk0_1; intro w2 hx2 hb2 hl2; have hz2 := hx2.lt; have hs2 := hb2.size)
    | ((with_reducible refine gd_alloc ?_); have _t := tk0_2; refine wpList_alloc_blk rfl 23 rfl zW ?_; clear tk0_2; intro w3 hx3 hb3 hl3; have hz3 := hx3.lt; have hs3 := hb3.size)
    | ((with_reducible refine gd_load ?_); have _t := tk0_3; refine wpList_load_blk rfl 23 (.tmp 3) rfl (hx2.ext hb3) (by rw [HSW.out]; exact hW) rfl ?_; clear tk0_3)
    | ((with_reducible refine gd_load ?_); have _t := tk0_4; refine wpList_load_blk rfl 23 (.tmp 3) rfl (hx2.ext hb3) (by rw [HSW.out]; exact hW) rfl ?_; clear tk0_4)
    | ((with_reducible refine gd_store ?_); have _t := tk0_5; refine wpList_store_all rfl 23 (.tmp 4) (.tmp 10) rfl (wcells b) hx3 (by rw [HSW.out]; exact hW) (by rw [HSW.out]; exact HSW.out 0) (H1W.out _) (by rfl) (by rfl) ?_; clear tk0_5; intro w4 hx4 hg4; have hs4 := hg4.size)
    | fail)
  clear hqQ1
  have hy1_1 := (((hx1.ext hb2).ext hb3).grown hg4 (by simp; omega))
  have hy1_2 := ((hx2.ext hb3).grown hg4 (by simp; omega))
  have hy1_3 := hx4
  have hB1_1 := hb1
  have hB1_2 := below_step hB1_1 hb2
  have hB1_3 := below_step hB1_2 hb3
  have hB1_4 := below_blk hB1_3 hB1_3.size hg4 (by first | omega | (simp; omega))
  clear hb1 hl1 hz1 hs1 hb2 hl2 hz2 hs2 hx3 hb3 hl3 hz3 hs3 hg4 hs4 hx1 hx2 hx4 hB1_1 hB1_2 hB1_3
  exact bodyPost_ret (results_blk1 (cs := wcells b) rfl (by rw [HSW.out]; exact hW) hy1_3 rfl) rfl ⟨by rw [hb0.out], hB1_4⟩
theorem RefMod_all (a b : Nat) (w : World) (ha : a < 2 ^ 256) (hb : b < 2 ^ 256) : Calls Try.prog 38 #[.agg (wcells a), .agg (wcells b)] w fun e w' => e = .returned (.agg (wcells (modN a b))) ∧ Below w.heap.size w w' := by
  unfold modN
  rcases Nat.eq_zero_or_pos b with h | h
  · rw [if_pos h]
    exact RefMod_zero a b w hb (Lib.hid h)
  · rw [if_neg (by omega)]
    exact RefMod_pos a b w ha hb h
end Go.Mun
