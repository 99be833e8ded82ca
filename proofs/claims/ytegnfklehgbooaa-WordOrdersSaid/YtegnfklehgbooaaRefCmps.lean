/- The walk of munimentsref1.Cmp. -/
import Derived.Test.YtegnfklehgbooaaRelW
import Derived.Test.YtegnfklehgbooaaRefDiv
import Derived.Test.YtegnfklehgbooaaWordMem
import Derived.Test.YtegnfklehgbooaaWordAll
namespace Go.Mun
open Go Go.RowKit Go.Proofs

set_option maxRecDepth 100000 in
set_option maxHeartbeats 2000000 in
theorem RefCmp_any (a b : Nat) (w : World) (ha : a < 2 ^ 256) (hb : b < 2 ^ 256) : Calls Try.prog 15 #[.agg (wcells a), .agg (wcells b)] w fun e w' => e = .returned (.int .i64 (cmpN a b)) ∧ Below w.heap.size w w' := by
  have hW := wordTy
  have zW := zWordL
  have HSW := Lib.hid wcells_size
  have H1W := Lib.hid wcells_one
  obtain ⟨z, Ez⟩ : ∃ z, z = cmpN a b := ⟨_, rfl⟩
  have HZ := Lib.hid Ez
  rw [← Ez]
  clear Ez
  have tkE0 : True := trivial
  go_enter Try.func15, Try.ntmps15
  go_wp2_with (first
    | ((with_reducible refine gd_box ?_); have _t := tkE0; refine wpList_box_agg rfl _ (.tmp 0) rfl rfl ?_; clear tkE0; intro w1 hx1 hb1 hl1)
    | ((with_reducible refine gd_box ?_); refine wpList_box_agg rfl _ (.tmp 1) rfl rfl ?_; intro w2 hx2 hb2 hl2)
    | fail)
  have hy1 := (hx1.ext hb2)
  have hy2 := hx2
  have hB := (below_step hb1 hb2)
  have o1 := hx1.lt
  have o2 := hx2.lt
  have p1 := hb1.size
  have p2 := hb2.size
  clear hx1 hx2 hb1 hb2 hl1 hl2
  refine wp_region_loose (by kernel_rfl) (by kernel_rfl) (by kernel_rfl) rfl (RelW w none 23 32 (wcells 0)) relW_refl relW_trans (DKs [.val (.agg (wcells a)), .dig 16 a, .val (.agg (wcells b)), .dig 16 b, .val (.int .i64 z), .val (.int .i64 z)] w2.heap.size none 23 (wcells 0)) (DKs_stays (by intro g e; cases e)) ?_ ?_
  · refine ⟨?_, ?_, ?_, ?_, ?_, ?_, trivial⟩
    · intro V wx fr hw hd hs hdef hsz
      have s2 : fr.tmps[2]? = some (.pointer (some ⟨w.heap.size, 0, none⟩)) := hs.1
      clear hs
      refine ⟨?_⟩
      refine wpList_load_blk rfl 23 (.tmp 2) rfl (hy1.drew.row hw.gr (by simp)) (by rw [HSW.out]; exact hW) (by simp [Act.eval, s2]) ?_
      refine wpList_nil ?_
      exact op_put hdef hsz (relW_refl _) rfl
    · intro V wx fr hw hd hs hdef hsz
      simp only [DepFacts, Region.binds, forall_const, and_true] at hd
      have d0 := hd
      clear hd
      have s5 : fr.tmps[5]? = some (V 0) := hs.1
      clear hs
      have e0 : V 0 = (.agg (wcells a)) := d0
      rw [e0] at s5
      clear e0
      have hsx := hw.gr.size
      refine ⟨?_⟩
      go_wp2_with fail
      refine (limbs_any a wx ha).mono ?_
      rintro e w2 ⟨g, rfl, hg, hx, hb2⟩
      go_wp2
      exact op_post hsz (relW_below hb2) ⟨g, 16, rfl, Nat.le_trans (by simpa using hsx) hg, hx.rd⟩
    · intro V wx fr hw hd hs hdef hsz
      have s3 : fr.tmps[3]? = some (.pointer (some ⟨w1.heap.size, 0, none⟩)) := hs.1
      clear hs
      refine ⟨?_⟩
      refine wpList_load_blk rfl 23 (.tmp 3) rfl (hy2.drew.row hw.gr (by simp)) (by rw [HSW.out]; exact hW) (by simp [Act.eval, s3]) ?_
      refine wpList_nil ?_
      exact op_put hdef hsz (relW_refl _) rfl
    · intro V wx fr hw hd hs hdef hsz
      simp only [DepFacts, Region.binds, forall_const, and_true] at hd
      have d2 := hd.1
      clear hd
      have s7 : fr.tmps[7]? = some (V 2) := hs.1
      clear hs
      have e2 : V 2 = (.agg (wcells b)) := d2
      rw [e2] at s7
      clear e2
      have hsx := hw.gr.size
      refine ⟨?_⟩
      go_wp2_with fail
      refine (limbs_any b wx hb).mono ?_
      rintro e w2 ⟨g, rfl, hg, hx, hb2⟩
      go_wp2
      exact op_post hsz (relW_below hb2) ⟨g, 16, rfl, Nat.le_trans (by simpa using hsx) hg, hx.rd⟩
    · intro V wx fr hw hd hs hdef hsz
      simp only [DepFacts, Region.binds, forall_const, and_true] at hd
      have d1 := hd.1
      have d3 := hd.2.1
      clear hd
      have s6 : fr.tmps[6]? = some (V 1) := hs.1
      have s8 : fr.tmps[8]? = some (V 3) := hs.2.1
      clear hs
      obtain ⟨g1, c1, e1, hg1, r1⟩ := d1
      rw [e1] at s6
      obtain ⟨g3, c3, e3, hg3, r3⟩ := d3
      rw [e3] at s8
      clear e1 e3
      have hsx := hw.gr.size
      refine ⟨?_⟩
      go_wp2_with fail
      refine (refcmp_any ⟨g1, 0, none⟩ ⟨g3, 0, none⟩ 16 16 c1 c3 a b wx ha hb (by decide) (by decide) r1 r3).mono ?_
      rintro e w2 ⟨rfl, rfl⟩
      go_wp2
      exact op_post hsz (relW_refl _) (by rw [HZ.out]; rfl)
    · intro V wx fr hw hd hs hdef hsz
      simp only [DepFacts, Region.binds, forall_const, and_true] at hd
      have d4 := hd.1
      clear hd
      have s9 : fr.tmps[9]? = some (V 4) := hs.1
      clear hs
      have e4 : V 4 = (.int .i64 z) := d4
      rw [e4] at s9
      clear e4
      have hsx := hw.gr.size
      refine ⟨?_⟩
      go_wp2
      exact op_post hsz (relW_refl _) rfl
  · intro V wz hr hS
    replace hS : DKs [.val (.agg (wcells a)), .dig 16 a, .val (.agg (wcells b)), .dig 16 b, .val (.int .i64 z), .val (.int .i64 z)] w2.heap.size none 23 (wcells 0) 0 (V 0) wz ∧ DKs [.val (.agg (wcells a)), .dig 16 a, .val (.agg (wcells b)), .dig 16 b, .val (.int .i64 z), .val (.int .i64 z)] w2.heap.size none 23 (wcells 0) 1 (V 1) wz ∧ DKs [.val (.agg (wcells a)), .dig 16 a, .val (.agg (wcells b)), .dig 16 b, .val (.int .i64 z), .val (.int .i64 z)] w2.heap.size none 23 (wcells 0) 2 (V 2) wz ∧ DKs [.val (.agg (wcells a)), .dig 16 a, .val (.agg (wcells b)), .dig 16 b, .val (.int .i64 z), .val (.int .i64 z)] w2.heap.size none 23 (wcells 0) 3 (V 3) wz ∧ DKs [.val (.agg (wcells a)), .dig 16 a, .val (.agg (wcells b)), .dig 16 b, .val (.int .i64 z), .val (.int .i64 z)] w2.heap.size none 23 (wcells 0) 4 (V 4) wz ∧ DKs [.val (.agg (wcells a)), .dig 16 a, .val (.agg (wcells b)), .dig 16 b, .val (.int .i64 z), .val (.int .i64 z)] w2.heap.size none 23 (wcells 0) 5 (V 5) wz ∧ True := hS
    have hBz := hr.bel hB.drew
    have e5 : V 5 = .int .i64 z := hS.2.2.2.2.2.1
    clear hS
    simp only [fill, Act.put, e5]
    simp only [Exit.then]
    go_simp
    go_wp2
    go_ret
    exact ⟨rfl, hBz⟩
end Go.Mun
