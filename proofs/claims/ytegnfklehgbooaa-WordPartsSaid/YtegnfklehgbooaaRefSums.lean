/- The walks of munimentsref1.Add, Sub, Mul. -/
import Derived.Test.YtegnfklehgbooaaRelW
import Derived.Test.YtegnfklehgbooaaRefDiv
import Derived.Test.YtegnfklehgbooaaWordMem
import Derived.Test.YtegnfklehgbooaaWordAll
namespace Go.Mun
open Go Go.RowKit Go.Proofs

set_option maxRecDepth 100000 in
set_option maxHeartbeats 2000000 in
theorem RefAdd_any (a b : Nat) (w : World) (ha : a < 2 ^ 256) (hb : b < 2 ^ 256) : Calls Try.prog 22 #[.agg (wcells a), .agg (wcells b)] w fun e w' => e = .returned (.agg (wcells ((a + b) % 2 ^ 256))) ∧ Below w.heap.size w w' := by
  have hW := wordTy
  have zW := zWordL
  have HSW := Lib.hid wcells_size
  have H1W := Lib.hid wcells_one
  obtain ⟨r, Er⟩ : ∃ r, r = (a + b) % 2 ^ 256 := ⟨_, rfl⟩
  have HR := Lib.hid Er
  rw [← Er]
  clear Er
  have tkE0 : True := trivial
  go_enter Try.func22, Try.ntmps22
  go_wp2_with (first
    | ((with_reducible refine gd_box ?_); have _t := tkE0; refine wpList_box_agg rfl _ (.tmp 0) rfl rfl ?_; clear tkE0; intro w1 hx1 hb1 hl1)
    | ((with_reducible refine gd_box ?_); refine wpList_box_agg rfl _ (.tmp 1) rfl rfl ?_; intro w2 hx2 hb2 hl2)
    | ((with_reducible refine gd_alloc ?_); refine wpList_alloc_blk rfl 23 rfl zW ?_; intro w3 hx3 hb3 hl3)
    | fail)
  have hy1 := ((hx1.ext hb2).ext hb3)
  have hy2 := (hx2.ext hb3)
  have hy3 := hx3
  have hB := (below_step (below_step hb1 hb2) hb3)
  have o1 := hx1.lt
  have o2 := hx2.lt
  have o3 := hx3.lt
  have p1 := hb1.size
  have p2 := hb2.size
  have p3 := hb3.size
  clear hx1 hx2 hx3 hb1 hb2 hb3 hl1 hl2 hl3
  refine wp_region_loose (by kernel_rfl) (by kernel_rfl) (by kernel_rfl) rfl (RelW w (some w2.heap.size) 23 32 (wcells r)) relW_refl relW_trans (DKs [.val (.agg (wcells a)), .dig 16 a, .val (.agg (wcells b)), .dig 16 b, .dig 17 (a + b), .val (.agg (wcells r)), .put] w3.heap.size (some w2.heap.size) 23 (wcells r)) (DKs_stays (by intro g e; cases e; omega)) ?_ ?_
  · refine ⟨?_, ?_, ?_, ?_, ?_, ?_, ?_, trivial⟩
    · intro V wx fr hw hd hs hdef hsz
      have s2 : fr.tmps[2]? = some (.pointer (some ⟨w.heap.size, 0, none⟩)) := hs.1
      clear hs
      refine ⟨?_⟩
      refine wpList_load_blk rfl 23 (.tmp 2) rfl (hy1.drew.row hw.gr (by simp; omega)) (by rw [HSW.out]; exact hW) (by simp [Act.eval, s2]) ?_
      refine wpList_nil ?_
      exact op_put hdef hsz (relW_refl _) rfl
    · intro V wx fr hw hd hs hdef hsz
      simp only [DepFacts, Region.binds, forall_const, and_true] at hd
      have d0 := hd
      clear hd
      have s5 : fr.tmps[5]? = some (V 0) := hs.1
      clear hs
      have e0 : V 0 = (.agg (wcells a)) := d0
      rw [e0] at s5
      clear e0
      have hsx := hw.gr.size
      refine ⟨?_⟩
      go_wp2_with fail
      refine (limbs_any a wx ha).mono ?_
      rintro e w2 ⟨g, rfl, hg, hx, hb2⟩
      go_wp2
      exact op_post hsz (relW_below hb2) ⟨g, 16, rfl, Nat.le_trans (by simpa using hsx) hg, hx.rd⟩
    · intro V wx fr hw hd hs hdef hsz
      have s3 : fr.tmps[3]? = some (.pointer (some ⟨w1.heap.size, 0, none⟩)) := hs.1
      clear hs
      refine ⟨?_⟩
      refine wpList_load_blk rfl 23 (.tmp 3) rfl (hy2.drew.row hw.gr (by simp; omega)) (by rw [HSW.out]; exact hW) (by simp [Act.eval, s3]) ?_
      refine wpList_nil ?_
      exact op_put hdef hsz (relW_refl _) rfl
    · intro V wx fr hw hd hs hdef hsz
      simp only [DepFacts, Region.binds, forall_const, and_true] at hd
      have d2 := hd.1
      clear hd
      have s7 : fr.tmps[7]? = some (V 2) := hs.1
      clear hs
      have e2 : V 2 = (.agg (wcells b)) := d2
      rw [e2] at s7
      clear e2
      have hsx := hw.gr.size
      refine ⟨?_⟩
      go_wp2_with fail
      refine (limbs_any b wx hb).mono ?_
      rintro e w2 ⟨g, rfl, hg, hx, hb2⟩
      go_wp2
      exact op_post hsz (relW_below hb2) ⟨g, 16, rfl, Nat.le_trans (by simpa using hsx) hg, hx.rd⟩
    · intro V wx fr hw hd hs hdef hsz
      simp only [DepFacts, Region.binds, forall_const, and_true] at hd
      have d1 := hd.1
      have d3 := hd.2.1
      clear hd
      have s6 : fr.tmps[6]? = some (V 1) := hs.1
      have s8 : fr.tmps[8]? = some (V 3) := hs.2.1
      clear hs
      obtain ⟨g1, c1, e1, hg1, r1⟩ := d1
      rw [e1] at s6
      obtain ⟨g3, c3, e3, hg3, r3⟩ := d3
      rw [e3] at s8
      clear e1 e3
      have hsx := hw.gr.size
      refine ⟨?_⟩
      go_wp2_with fail
      refine (refadd_any ⟨g1, 0, none⟩ ⟨g3, 0, none⟩ 16 c1 c3 a b wx ha hb (by decide) (by decide) r1 r3).mono ?_
      rintro e w2 ⟨g, c, rfl, hg, hx, hb2⟩
      go_wp2
      exact op_post hsz (relW_below hb2) ⟨g, c, rfl, Nat.le_trans (by simpa using hsx) hg, hx⟩
    · intro V wx fr hw hd hs hdef hsz
      simp only [DepFacts, Region.binds, forall_const, and_true] at hd
      have d4 := hd.1
      clear hd
      have s9 : fr.tmps[9]? = some (V 4) := hs.1
      clear hs
      obtain ⟨g4, c4, e4, hg4, r4⟩ := d4
      rw [e4] at s9
      clear e4
      have hsx := hw.gr.size
      refine ⟨?_⟩
      go_wp2_with fail
      refine (refword_any ⟨g4, 0, none⟩ 17 c4 (a + b) wx (by decide) (by decide) r4).mono ?_
      rintro e w2 ⟨rfl, hb2⟩
      go_wp2
      exact op_post hsz (relW_below hb2) (congrArg Value.agg (congrArg wcells HR.out.symm))
    · intro V wx fr hw hd hs hdef hsz
      simp only [DepFacts, Region.binds, forall_const, and_true] at hd
      have d5 := hd.1
      clear hd
      have s4 : fr.tmps[4]? = some (.pointer (some ⟨w2.heap.size, 0, none⟩)) := hs.1
      have s10 : fr.tmps[10]? = some (V 5) := hs.2.1
      clear hs
      have e5 : V 5 = (.agg (wcells r)) := d5
      rw [e5] at s10
      clear e5
      have hsx := hw.gr.size
      refine ⟨?_⟩
      obtain ⟨co, hco, hbo⟩ := hw.has _ rfl ⟨_, HSW.out 0, hy3.drew⟩
      refine wpList_store_all rfl 23 (.tmp 4) (.tmp 10) rfl (wcells r) hbo (by rw [HSW.out]; exact hW) (by rw [HSW.out]; exact hco) (H1W.out _) (by simp [Act.eval, s4]) (by simp [Act.eval, s10]) ?_
      intro wy hxy hgy
      refine wpList_nil ?_
      exact ⟨rfl, hdef, relW_store (HSW.out _) hxy hgy (by omega), fun _ e => by cases e; exact hxy⟩
  · intro V wz hr hS
    replace hS : DKs [.val (.agg (wcells a)), .dig 16 a, .val (.agg (wcells b)), .dig 16 b, .dig 17 (a + b), .val (.agg (wcells r)), .put] w3.heap.size (some w2.heap.size) 23 (wcells r) 0 (V 0) wz ∧ DKs [.val (.agg (wcells a)), .dig 16 a, .val (.agg (wcells b)), .dig 16 b, .dig 17 (a + b), .val (.agg (wcells r)), .put] w3.heap.size (some w2.heap.size) 23 (wcells r) 1 (V 1) wz ∧ DKs [.val (.agg (wcells a)), .dig 16 a, .val (.agg (wcells b)), .dig 16 b, .dig 17 (a + b), .val (.agg (wcells r)), .put] w3.heap.size (some w2.heap.size) 23 (wcells r) 2 (V 2) wz ∧ DKs [.val (.agg (wcells a)), .dig 16 a, .val (.agg (wcells b)), .dig 16 b, .dig 17 (a + b), .val (.agg (wcells r)), .put] w3.heap.size (some w2.heap.size) 23 (wcells r) 3 (V 3) wz ∧ DKs [.val (.agg (wcells a)), .dig 16 a, .val (.agg (wcells b)), .dig 16 b, .dig 17 (a + b), .val (.agg (wcells r)), .put] w3.heap.size (some w2.heap.size) 23 (wcells r) 4 (V 4) wz ∧ DKs [.val (.agg (wcells a)), .dig 16 a, .val (.agg (wcells b)), .dig 16 b, .dig 17 (a + b), .val (.agg (wcells r)), .put] w3.heap.size (some w2.heap.size) 23 (wcells r) 5 (V 5) wz ∧ DKs [.val (.agg (wcells a)), .dig 16 a, .val (.agg (wcells b)), .dig 16 b, .dig 17 (a + b), .val (.agg (wcells r)), .put] w3.heap.size (some w2.heap.size) 23 (wcells r) 6 (V 6) wz ∧ True := hS
    have hBz := hr.bel hB.drew
    have hx := hS.2.2.2.2.2.2.1 _ rfl
    clear hS
    simp only [fill, Act.put]
    simp only [Exit.then]
    go_simp
    go_wp2
    exact bodyPost_ret (results_blk1 (cs := wcells r) rfl (by rw [HSW.out]; exact hW) hx rfl) rfl ⟨by rw [HR.out], hBz⟩
set_option maxRecDepth 100000 in
set_option maxHeartbeats 2000000 in
theorem RefSub_any (a b : Nat) (w : World) (ha : a < 2 ^ 256) (hb : b < 2 ^ 256) : Calls Try.prog 24 #[.agg (wcells a), .agg (wcells b)] w fun e w' => e = .returned (.agg (wcells ((a + 2 ^ 256 - b) % 2 ^ 256))) ∧ Below w.heap.size w w' := by
  have hW := wordTy
  have zW := zWordL
  have HSW := Lib.hid wcells_size
  have H1W := Lib.hid wcells_one
  obtain ⟨r, Er⟩ : ∃ r, r = (a + 2 ^ 256 - b) % 2 ^ 256 := ⟨_, rfl⟩
  have HR := Lib.hid Er
  rw [← Er]
  clear Er
  obtain ⟨N, en⟩ : ∃ N, N = (a + 2 ^ (16 * 16) - b) % 2 ^ (16 * 16) := ⟨_, rfl⟩
  have EN := Lib.hid en
  have HN := Lib.hid (show N % 2 ^ 256 = r from by rw [en, HR.out]; exact Nat.mod_mod _ _)
  clear en
  have tkE0 : True := trivial
  go_enter Try.func24, Try.ntmps24
  go_wp2_with (first
    | ((with_reducible refine gd_box ?_); have _t := tkE0; refine wpList_box_agg rfl _ (.tmp 0) rfl rfl ?_; clear tkE0; intro w1 hx1 hb1 hl1)
    | ((with_reducible refine gd_box ?_); refine wpList_box_agg rfl _ (.tmp 1) rfl rfl ?_; intro w2 hx2 hb2 hl2)
    | ((with_reducible refine gd_alloc ?_); refine wpList_alloc_blk rfl 23 rfl zW ?_; intro w3 hx3 hb3 hl3)
    | fail)
  have hy1 := ((hx1.ext hb2).ext hb3)
  have hy2 := (hx2.ext hb3)
  have hy3 := hx3
  have hB := (below_step (below_step hb1 hb2) hb3)
  have o1 := hx1.lt
  have o2 := hx2.lt
  have o3 := hx3.lt
  have p1 := hb1.size
  have p2 := hb2.size
  have p3 := hb3.size
  clear hx1 hx2 hx3 hb1 hb2 hb3 hl1 hl2 hl3
  refine wp_region_loose (by kernel_rfl) (by kernel_rfl) (by kernel_rfl) rfl (RelW w (some w2.heap.size) 23 32 (wcells r)) relW_refl relW_trans (DKs [.val (.agg (wcells a)), .dig 16 a, .val (.agg (wcells b)), .dig 16 b, .dig 16 (N), .val (.agg (wcells r)), .put] w3.heap.size (some w2.heap.size) 23 (wcells r)) (DKs_stays (by intro g e; cases e; omega)) ?_ ?_
  · refine ⟨?_, ?_, ?_, ?_, ?_, ?_, ?_, trivial⟩
    · intro V wx fr hw hd hs hdef hsz
      have s2 : fr.tmps[2]? = some (.pointer (some ⟨w.heap.size, 0, none⟩)) := hs.1
      clear hs
      refine ⟨?_⟩
      refine wpList_load_blk rfl 23 (.tmp 2) rfl (hy1.drew.row hw.gr (by simp; omega)) (by rw [HSW.out]; exact hW) (by simp [Act.eval, s2]) ?_
      refine wpList_nil ?_
      exact op_put hdef hsz (relW_refl _) rfl
    · intro V wx fr hw hd hs hdef hsz
      simp only [DepFacts, Region.binds, forall_const, and_true] at hd
      have d0 := hd
      clear hd
      have s5 : fr.tmps[5]? = some (V 0) := hs.1
      clear hs
      have e0 : V 0 = (.agg (wcells a)) := d0
      rw [e0] at s5
      clear e0
      have hsx := hw.gr.size
      refine ⟨?_⟩
      go_wp2_with fail
      refine (limbs_any a wx ha).mono ?_
      rintro e w2 ⟨g, rfl, hg, hx, hb2⟩
      go_wp2
      exact op_post hsz (relW_below hb2) ⟨g, 16, rfl, Nat.le_trans (by simpa using hsx) hg, hx.rd⟩
    · intro V wx fr hw hd hs hdef hsz
      have s3 : fr.tmps[3]? = some (.pointer (some ⟨w1.heap.size, 0, none⟩)) := hs.1
      clear hs
      refine ⟨?_⟩
      refine wpList_load_blk rfl 23 (.tmp 3) rfl (hy2.drew.row hw.gr (by simp; omega)) (by rw [HSW.out]; exact hW) (by simp [Act.eval, s3]) ?_
      refine wpList_nil ?_
      exact op_put hdef hsz (relW_refl _) rfl
    · intro V wx fr hw hd hs hdef hsz
      simp only [DepFacts, Region.binds, forall_const, and_true] at hd
      have d2 := hd.1
      clear hd
      have s7 : fr.tmps[7]? = some (V 2) := hs.1
      clear hs
      have e2 : V 2 = (.agg (wcells b)) := d2
      rw [e2] at s7
      clear e2
      have hsx := hw.gr.size
      refine ⟨?_⟩
      go_wp2_with fail
      refine (limbs_any b wx hb).mono ?_
      rintro e w2 ⟨g, rfl, hg, hx, hb2⟩
      go_wp2
      exact op_post hsz (relW_below hb2) ⟨g, 16, rfl, Nat.le_trans (by simpa using hsx) hg, hx.rd⟩
    · intro V wx fr hw hd hs hdef hsz
      simp only [DepFacts, Region.binds, forall_const, and_true] at hd
      have d1 := hd.1
      have d3 := hd.2.1
      clear hd
      have s6 : fr.tmps[6]? = some (V 1) := hs.1
      have s8 : fr.tmps[8]? = some (V 3) := hs.2.1
      clear hs
      obtain ⟨g1, c1, e1, hg1, r1⟩ := d1
      rw [e1] at s6
      obtain ⟨g3, c3, e3, hg3, r3⟩ := d3
      rw [e3] at s8
      clear e1 e3
      have hsx := hw.gr.size
      refine ⟨?_⟩
      go_wp2_with fail
      refine (refsub_any ⟨g1, 0, none⟩ ⟨g3, 0, none⟩ 16 16 c1 c3 a b wx ha hb (by decide) (by decide) (by decide) r1 r3).mono ?_
      rintro e w2 ⟨g, rfl, hg, hx, hb2⟩
      go_wp2
      exact op_post hsz (relW_below hb2) ⟨g, 16, rfl, Nat.le_trans (by simpa using hsx) hg, by rw [EN.out]; exact hx.rd⟩
    · intro V wx fr hw hd hs hdef hsz
      simp only [DepFacts, Region.binds, forall_const, and_true] at hd
      have d4 := hd.1
      clear hd
      have s9 : fr.tmps[9]? = some (V 4) := hs.1
      clear hs
      obtain ⟨g4, c4, e4, hg4, r4⟩ := d4
      rw [e4] at s9
      clear e4
      have hsx := hw.gr.size
      refine ⟨?_⟩
      go_wp2_with fail
      refine (refword_any ⟨g4, 0, none⟩ 16 c4 (N) wx (by decide) (by decide) r4).mono ?_
      rintro e w2 ⟨rfl, hb2⟩
      go_wp2
      exact op_post hsz (relW_below hb2) (congrArg Value.agg (congrArg wcells HN.out))
    · intro V wx fr hw hd hs hdef hsz
      simp only [DepFacts, Region.binds, forall_const, and_true] at hd
      have d5 := hd.1
      clear hd
      have s4 : fr.tmps[4]? = some (.pointer (some ⟨w2.heap.size, 0, none⟩)) := hs.1
      have s10 : fr.tmps[10]? = some (V 5) := hs.2.1
      clear hs
      have e5 : V 5 = (.agg (wcells r)) := d5
      rw [e5] at s10
      clear e5
      have hsx := hw.gr.size
      refine ⟨?_⟩
      obtain ⟨co, hco, hbo⟩ := hw.has _ rfl ⟨_, HSW.out 0, hy3.drew⟩
      refine wpList_store_all rfl 23 (.tmp 4) (.tmp 10) rfl (wcells r) hbo (by rw [HSW.out]; exact hW) (by rw [HSW.out]; exact hco) (H1W.out _) (by simp [Act.eval, s4]) (by simp [Act.eval, s10]) ?_
      intro wy hxy hgy
      refine wpList_nil ?_
      exact ⟨rfl, hdef, relW_store (HSW.out _) hxy hgy (by omega), fun _ e => by cases e; exact hxy⟩
  · intro V wz hr hS
    replace hS : DKs [.val (.agg (wcells a)), .dig 16 a, .val (.agg (wcells b)), .dig 16 b, .dig 16 (N), .val (.agg (wcells r)), .put] w3.heap.size (some w2.heap.size) 23 (wcells r) 0 (V 0) wz ∧ DKs [.val (.agg (wcells a)), .dig 16 a, .val (.agg (wcells b)), .dig 16 b, .dig 16 (N), .val (.agg (wcells r)), .put] w3.heap.size (some w2.heap.size) 23 (wcells r) 1 (V 1) wz ∧ DKs [.val (.agg (wcells a)), .dig 16 a, .val (.agg (wcells b)), .dig 16 b, .dig 16 (N), .val (.agg (wcells r)), .put] w3.heap.size (some w2.heap.size) 23 (wcells r) 2 (V 2) wz ∧ DKs [.val (.agg (wcells a)), .dig 16 a, .val (.agg (wcells b)), .dig 16 b, .dig 16 (N), .val (.agg (wcells r)), .put] w3.heap.size (some w2.heap.size) 23 (wcells r) 3 (V 3) wz ∧ DKs [.val (.agg (wcells a)), .dig 16 a, .val (.agg (wcells b)), .dig 16 b, .dig 16 (N), .val (.agg (wcells r)), .put] w3.heap.size (some w2.heap.size) 23 (wcells r) 4 (V 4) wz ∧ DKs [.val (.agg (wcells a)), .dig 16 a, .val (.agg (wcells b)), .dig 16 b, .dig 16 (N), .val (.agg (wcells r)), .put] w3.heap.size (some w2.heap.size) 23 (wcells r) 5 (V 5) wz ∧ DKs [.val (.agg (wcells a)), .dig 16 a, .val (.agg (wcells b)), .dig 16 b, .dig 16 (N), .val (.agg (wcells r)), .put] w3.heap.size (some w2.heap.size) 23 (wcells r) 6 (V 6) wz ∧ True := hS
    have hBz := hr.bel hB.drew
    have hx := hS.2.2.2.2.2.2.1 _ rfl
    clear hS
    simp only [fill, Act.put]
    simp only [Exit.then]
    go_simp
    go_wp2
    exact bodyPost_ret (results_blk1 (cs := wcells r) rfl (by rw [HSW.out]; exact hW) hx rfl) rfl ⟨by rw [HR.out], hBz⟩
set_option maxRecDepth 100000 in
set_option maxHeartbeats 2000000 in
theorem RefMul_any (a b : Nat) (w : World) (ha : a < 2 ^ 256) (hb : b < 2 ^ 256) : Calls Try.prog 26 #[.agg (wcells a), .agg (wcells b)] w fun e w' => e = .returned (.agg (wcells (a * b % 2 ^ 256))) ∧ Below w.heap.size w w' := by
  have hW := wordTy
  have zW := zWordL
  have HSW := Lib.hid wcells_size
  have H1W := Lib.hid wcells_one
  obtain ⟨r, Er⟩ : ∃ r, r = a * b % 2 ^ 256 := ⟨_, rfl⟩
  have HR := Lib.hid Er
  rw [← Er]
  clear Er
  have tkE0 : True := trivial
  go_enter Try.func26, Try.ntmps26
  go_wp2_with (first
    | ((with_reducible refine gd_box ?_); have _t := tkE0; refine wpList_box_agg rfl _ (.tmp 0) rfl rfl ?_; clear tkE0; intro w1 hx1 hb1 hl1)
    | ((with_reducible refine gd_box ?_); refine wpList_box_agg rfl _ (.tmp 1) rfl rfl ?_; intro w2 hx2 hb2 hl2)
    | ((with_reducible refine gd_alloc ?_); refine wpList_alloc_blk rfl 23 rfl zW ?_; intro w3 hx3 hb3 hl3)
    | fail)
  have hy1 := ((hx1.ext hb2).ext hb3)
  have hy2 := (hx2.ext hb3)
  have hy3 := hx3
  have hB := (below_step (below_step hb1 hb2) hb3)
  have o1 := hx1.lt
  have o2 := hx2.lt
  have o3 := hx3.lt
  have p1 := hb1.size
  have p2 := hb2.size
  have p3 := hb3.size
  clear hx1 hx2 hx3 hb1 hb2 hb3 hl1 hl2 hl3
  refine wp_region_loose (by kernel_rfl) (by kernel_rfl) (by kernel_rfl) rfl (RelW w (some w2.heap.size) 23 32 (wcells r)) relW_refl relW_trans (DKs [.val (.agg (wcells a)), .dig 16 a, .val (.agg (wcells b)), .dig 16 b, .dig 32 (a * b), .val (.agg (wcells r)), .put] w3.heap.size (some w2.heap.size) 23 (wcells r)) (DKs_stays (by intro g e; cases e; omega)) ?_ ?_
  · refine ⟨?_, ?_, ?_, ?_, ?_, ?_, ?_, trivial⟩
    · intro V wx fr hw hd hs hdef hsz
      have s2 : fr.tmps[2]? = some (.pointer (some ⟨w.heap.size, 0, none⟩)) := hs.1
      clear hs
      refine ⟨?_⟩
      refine wpList_load_blk rfl 23 (.tmp 2) rfl (hy1.drew.row hw.gr (by simp; omega)) (by rw [HSW.out]; exact hW) (by simp [Act.eval, s2]) ?_
      refine wpList_nil ?_
      exact op_put hdef hsz (relW_refl _) rfl
    · intro V wx fr hw hd hs hdef hsz
      simp only [DepFacts, Region.binds, forall_const, and_true] at hd
      have d0 := hd
      clear hd
      have s5 : fr.tmps[5]? = some (V 0) := hs.1
      clear hs
      have e0 : V 0 = (.agg (wcells a)) := d0
      rw [e0] at s5
      clear e0
      have hsx := hw.gr.size
      refine ⟨?_⟩
      go_wp2_with fail
      refine (limbs_any a wx ha).mono ?_
      rintro e w2 ⟨g, rfl, hg, hx, hb2⟩
      go_wp2
      exact op_post hsz (relW_below hb2) ⟨g, 16, rfl, Nat.le_trans (by simpa using hsx) hg, hx.rd⟩
    · intro V wx fr hw hd hs hdef hsz
      have s3 : fr.tmps[3]? = some (.pointer (some ⟨w1.heap.size, 0, none⟩)) := hs.1
      clear hs
      refine ⟨?_⟩
      refine wpList_load_blk rfl 23 (.tmp 3) rfl (hy2.drew.row hw.gr (by simp; omega)) (by rw [HSW.out]; exact hW) (by simp [Act.eval, s3]) ?_
      refine wpList_nil ?_
      exact op_put hdef hsz (relW_refl _) rfl
    · intro V wx fr hw hd hs hdef hsz
      simp only [DepFacts, Region.binds, forall_const, and_true] at hd
      have d2 := hd.1
      clear hd
      have s7 : fr.tmps[7]? = some (V 2) := hs.1
      clear hs
      have e2 : V 2 = (.agg (wcells b)) := d2
      rw [e2] at s7
      clear e2
      have hsx := hw.gr.size
      refine ⟨?_⟩
      go_wp2_with fail
      refine (limbs_any b wx hb).mono ?_
      rintro e w2 ⟨g, rfl, hg, hx, hb2⟩
      go_wp2
      exact op_post hsz (relW_below hb2) ⟨g, 16, rfl, Nat.le_trans (by simpa using hsx) hg, hx.rd⟩
    · intro V wx fr hw hd hs hdef hsz
      simp only [DepFacts, Region.binds, forall_const, and_true] at hd
      have d1 := hd.1
      have d3 := hd.2.1
      clear hd
      have s6 : fr.tmps[6]? = some (V 1) := hs.1
      have s8 : fr.tmps[8]? = some (V 3) := hs.2.1
      clear hs
      obtain ⟨g1, c1, e1, hg1, r1⟩ := d1
      rw [e1] at s6
      obtain ⟨g3, c3, e3, hg3, r3⟩ := d3
      rw [e3] at s8
      clear e1 e3
      have hsx := hw.gr.size
      refine ⟨?_⟩
      go_wp2_with fail
      refine (refmul_any ⟨g1, 0, none⟩ ⟨g3, 0, none⟩ c1 c3 a b wx ha hb r1 r3).mono ?_
      rintro e w2 ⟨g, rfl, hg, hx, hb2⟩
      go_wp2
      exact op_post hsz (relW_below hb2) ⟨g, 32, rfl, Nat.le_trans (by simpa using hsx) hg, hx.rd⟩
    · intro V wx fr hw hd hs hdef hsz
      simp only [DepFacts, Region.binds, forall_const, and_true] at hd
      have d4 := hd.1
      clear hd
      have s9 : fr.tmps[9]? = some (V 4) := hs.1
      clear hs
      obtain ⟨g4, c4, e4, hg4, r4⟩ := d4
      rw [e4] at s9
      clear e4
      have hsx := hw.gr.size
      refine ⟨?_⟩
      go_wp2_with fail
      refine (refword_any ⟨g4, 0, none⟩ 32 c4 (a * b) wx (by decide) (by decide) r4).mono ?_
      rintro e w2 ⟨rfl, hb2⟩
      go_wp2
      exact op_post hsz (relW_below hb2) (congrArg Value.agg (congrArg wcells HR.out.symm))
    · intro V wx fr hw hd hs hdef hsz
      simp only [DepFacts, Region.binds, forall_const, and_true] at hd
      have d5 := hd.1
      clear hd
      have s4 : fr.tmps[4]? = some (.pointer (some ⟨w2.heap.size, 0, none⟩)) := hs.1
      have s10 : fr.tmps[10]? = some (V 5) := hs.2.1
      clear hs
      have e5 : V 5 = (.agg (wcells r)) := d5
      rw [e5] at s10
      clear e5
      have hsx := hw.gr.size
      refine ⟨?_⟩
      obtain ⟨co, hco, hbo⟩ := hw.has _ rfl ⟨_, HSW.out 0, hy3.drew⟩
      refine wpList_store_all rfl 23 (.tmp 4) (.tmp 10) rfl (wcells r) hbo (by rw [HSW.out]; exact hW) (by rw [HSW.out]; exact hco) (H1W.out _) (by simp [Act.eval, s4]) (by simp [Act.eval, s10]) ?_
      intro wy hxy hgy
      refine wpList_nil ?_
      exact ⟨rfl, hdef, relW_store (HSW.out _) hxy hgy (by omega), fun _ e => by cases e; exact hxy⟩
  · intro V wz hr hS
    replace hS : DKs [.val (.agg (wcells a)), .dig 16 a, .val (.agg (wcells b)), .dig 16 b, .dig 32 (a * b), .val (.agg (wcells r)), .put] w3.heap.size (some w2.heap.size) 23 (wcells r) 0 (V 0) wz ∧ DKs [.val (.agg (wcells a)), .dig 16 a, .val (.agg (wcells b)), .dig 16 b, .dig 32 (a * b), .val (.agg (wcells r)), .put] w3.heap.size (some w2.heap.size) 23 (wcells r) 1 (V 1) wz ∧ DKs [.val (.agg (wcells a)), .dig 16 a, .val (.agg (wcells b)), .dig 16 b, .dig 32 (a * b), .val (.agg (wcells r)), .put] w3.heap.size (some w2.heap.size) 23 (wcells r) 2 (V 2) wz ∧ DKs [.val (.agg (wcells a)), .dig 16 a, .val (.agg (wcells b)), .dig 16 b, .dig 32 (a * b), .val (.agg (wcells r)), .put] w3.heap.size (some w2.heap.size) 23 (wcells r) 3 (V 3) wz ∧ DKs [.val (.agg (wcells a)), .dig 16 a, .val (.agg (wcells b)), .dig 16 b, .dig 32 (a * b), .val (.agg (wcells r)), .put] w3.heap.size (some w2.heap.size) 23 (wcells r) 4 (V 4) wz ∧ DKs [.val (.agg (wcells a)), .dig 16 a, .val (.agg (wcells b)), .dig 16 b, .dig 32 (a * b), .val (.agg (wcells r)), .put] w3.heap.size (some w2.heap.size) 23 (wcells r) 5 (V 5) wz ∧ DKs [.val (.agg (wcells a)), .dig 16 a, .val (.agg (wcells b)), .dig 16 b, .dig 32 (a * b), .val (.agg (wcells r)), .put] w3.heap.size (some w2.heap.size) 23 (wcells r) 6 (V 6) wz ∧ True := hS
    have hBz := hr.bel hB.drew
    have hx := hS.2.2.2.2.2.2.1 _ rfl
    clear hS
    simp only [fill, Act.put]
    simp only [Exit.then]
    go_simp
    go_wp2
    exact bodyPost_ret (results_blk1 (cs := wcells r) rfl (by rw [HSW.out]; exact hW) hx rfl) rfl ⟨by rw [HR.out], hBz⟩
end Go.Mun
