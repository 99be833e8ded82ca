/- 'WordOrders' answers true at every input, and leaves what it was given. No condition. -/
import Derived.Test.YtegnfklehgbooaaWordAlive
import Derived.Test.YtegnfklehgbooaaWordArg
import Derived.Test.YtegnfklehgbooaaRefSCmp
import Derived.Test.YtegnfklehgbooaaWordFnB
import Derived.Test.YtegnfklehgbooaaWordAll
import Derived.Test.YtegnfklehgbooaaLaw
import Derived.Test.YtegnfklehgbooaaRows
namespace Go.Proofs.Ytegnfklehgbooaa.WordOrders
open Go Go.RowKit Go.Mun Go.Proofs

theorem ofN_small {n : Int} (h : 0 ≤ n) (h2 : n ≤ 9223372036854775807) : ofN n < 2 ^ 63 := by unfold ofN; omega
theorem ofN_back {n : Int} (h : 0 ≤ n) (h2 : n ≤ 9223372036854775807) : ((ofN n : Nat) : Int) = n := by unfold ofN; omega
theorem ofN_big {n : Int} (h : n < 0) (h2 : -9223372036854775808 ≤ n) : ¬ ofN n < 2 ^ 63 := by unfold ofN; omega

set_option maxRecDepth 100000 in
set_option maxHeartbeats 8000000 in
theorem walk_11 (a b : Nat) (n : Int) (w : World) (ha : a < 2 ^ 256) (hb : b < 2 ^ 256) (h1 : -9223372036854775808 ≤ n) (h2 : n ≤ 9223372036854775807) (hs : Hid (a < 2 ^ 63)) (hn : 0 ≤ n) : Calls Try.prog 3 #[.agg (wcells a), .agg (wcells b), .int .i64 n] w fun e w' => e = .returned (.bool true) ∧ Below w.heap.size w w' := by
  have hW := wordTy
  have zW := zWordL
  have HSW := Lib.hid wcells_size
  have H1W := Lib.hid wcells_one
  have HZW := Lib.hid wcells_lit0
  have C1 := Lib.hid (fun w => alive1 w)
  have C2 := Lib.hid (fun w => Int_yes a w hs.out)
  have C3 := Lib.hid (fun w => RefInt_yes a w hs.out)
  obtain ⟨z5, Ez5⟩ : ∃ z, z = ofN n := ⟨_, rfl⟩
  have hz5 : z5 < 2 ^ 256 := by rw [Ez5]; exact (ofN_lt _)
  have C4 := Lib.hid (fun w => Of_any n w h1 h2)
  rw [← Ez5] at C4
  have C6 := Lib.hid (fun w => Int_yes z5 w (by subst_vars; exact ofN_small hn h2))
  rw [show ((z5 : Nat) : Int) = n from by subst_vars; exact ofN_back hn h2] at C6
  have C7 := Lib.hid (fun w => Cmp_any a b w ha hb)
  have C8 := Lib.hid (fun w => RefCmp_any a b w ha hb)
  have C9 := Lib.hid (fun w => SCmp_all a b w ha hb)
  have C10 := Lib.hid (fun w => RefSCmp_all a b w ha hb)
  have C11 := Lib.hid (fun w => Bits_any a w ha)
  have C12 := Lib.hid (fun w => RefBits_any a w ha)
  have C13 := Lib.hid (fun w => RefOf_any n w h1 h2)
  rw [← Ez5] at C13
  have Q14 := Lib.hid (fun w => eq_word z5 z5 hz5 hz5 w)
  rw [decide_eq_true rfl] at Q14
  clear Ez5 hz5
  go_enter Try.func3, Try.ntmps3
  have tk0_0 : True := trivial
  have tk0_1 : True := trivial
  have tk0_2 : True := trivial
  have tk0_3 : True := trivial
  have tk0_4 : True := trivial
  have tk0_5 : True := trivial
  have tk0_6 : True := trivial
  have tk0_7 : True := trivial
  have tk0_8 : True := trivial
  go_wp2_with (first
    | ((with_reducible refine gd_box ?_); have _t := tk0_0; refine wpList_box_agg rfl _ (.tmp 0) rfl rfl ?_; clear tk0_0; intro w1 hx1 hb1 hl1; have hz1 := hx1.lt; have hs1 := hb1.size)
    | ((with_reducible refine gd_box ?_); have _t := tk0_1; refine wpList_box_agg rfl _ (.tmp 1) rfl rfl ?_; clear tk0_1; intro w2 hx2 hb2 hl2; have hz2 := hx2.lt; have hs2 := hb2.size)
    | (go_at_call 10; have _t := tk0_2; refine (C1.out _).mono ?_; clear tk0_2; rintro e w3 ⟨rfl, hb3⟩; have hs3 := hb3.size)
    | ((with_reducible refine gd_load ?_); have _t := tk0_3; refine wpList_load_blk rfl 23 (.tmp 3) rfl ((hx1.ext hb2).ext hb3) (by rw [HSW.out]; exact hW) rfl ?_; clear tk0_3)
    | (go_at_call 11; have _t := tk0_4; refine (C2.out _).mono ?_; clear tk0_4; rintro e w4 ⟨rfl, hb4⟩; have hs4 := hb4.size)
    | ((with_reducible refine gd_load ?_); have _t := tk0_5; refine wpList_load_blk rfl 23 (.tmp 3) rfl (((hx1.ext hb2).ext hb3).ext hb4) (by rw [HSW.out]; exact hW) rfl ?_; clear tk0_5)
    | (go_at_call 12; have _t := tk0_6; refine (C3.out _).mono ?_; clear tk0_6; rintro e w5 ⟨rfl, hb5⟩; have hs5 := hb5.size)
    | (go_at_call 13; have _t := tk0_7; refine (C4.out _).mono ?_; clear tk0_7; rintro e w6 ⟨rfl, hb6⟩; have hs6 := hb6.size)
    | (go_at_call 11; have _t := tk0_8; refine (C6.out _).mono ?_; clear tk0_8; rintro e w7 ⟨rfl, hb7⟩; have hs7 := hb7.size)
    | fail)
  have hy1_1 := ((((((hx1.ext hb2).ext hb3).ext hb4).ext hb5).ext hb6).ext hb7)
  have hy1_2 := (((((hx2.ext hb3).ext hb4).ext hb5).ext hb6).ext hb7)
  have hB1_1 := hb1
  have hB1_2 := below_step hB1_1 hb2
  have hB1_3 := below_step hB1_2 hb3
  have hB1_4 := below_step hB1_3 hb4
  have hB1_5 := below_step hB1_4 hb5
  have hB1_6 := below_step hB1_5 hb6
  have hB1_7 := below_step hB1_6 hb7
  clear hb1 hl1 hz1 hs1 hb2 hl2 hz2 hs2 hb3 hs3 hb4 hs4 hb5 hs5 hb6 hs6 hb7 hs7 hx1 hx2 hB1_1 hB1_2 hB1_3 hB1_4 hB1_5 hB1_6
  refine wp_region_made (w := w7) (B := w.heap.size) (wB := w) ((.val (.bool true)) :: (.val (.bool true)) :: (.val (.agg (wcells a))) :: (.val (.agg (wcells b))) :: (.val (.int .i64 (cmpN a b))) :: (.val (.agg (wcells a))) :: (.val (.agg (wcells b))) :: (.val (.int .i64 (cmpN a b))) :: (.val (.bool true)) :: (.val (.bool true)) :: (.val (.bool true)) :: (.val (.agg (wcells a))) :: (.val (.agg (wcells b))) :: (.val (.int .i64 (scmpN a b))) :: (.val (.agg (wcells a))) :: (.val (.agg (wcells b))) :: (.val (.int .i64 (scmpN a b))) :: (.val (.bool true)) :: (.val (.bool true)) :: (.val (.bool true)) :: (.val (.agg (wcells a))) :: (.val (.int .i64 ((blen a : Nat)))) :: (.val (.agg (wcells a))) :: (.val (.int .i64 ((blen a : Nat)))) :: (.val (.bool true)) :: (.val (.bool true)) :: (.val (.bool true)) :: (.val (.int .i64 ((a : Int)))) :: (.val (.int .i64 ((a : Int)))) :: (.val (.bool true)) :: (.val (.bool true)) :: (.val (.bool true)) :: (.val (.bool true)) :: (.val (.bool true)) :: (.val (.bool true)) :: (.val (.bool true)) :: (.val (.bool true)) :: (.val (.int .i64 n)) :: (.val (.agg (wcells z5))) :: (.val (.int .i64 n)) :: (.val (.agg (wcells z5))) :: (.val (.bool true)) :: (.val (.bool true)) :: (.val (.bool true)) :: (.val (.bool true)) :: (.val (.int .i64 n)) :: (.val (.bool true)) :: (.val (.bool true)) :: (.val (.bool true)) :: (.val (.bool true)) :: (.val (.bool true)) :: (.val (.bool false)) :: (.val (.bool false)) :: (.val (.int .i64 n)) :: (.val (.int .i64 n)) :: (.val (.bool true)) :: (.val (.bool true)) :: (.val (.bool true)) :: (.val (.bool true)) :: []) (by kernel_rfl) (by kernel_rfl) (by kernel_rfl) rfl (by kernel_rfl) rfl hB1_7.size hB1_7 (by exact List.nodup_nil) (by intro g hg; exact nomatch hg) trivial ?_ ?_
  · refine ⟨?_, ?_, ?_, ?_, ?_, ?_, ?_, ?_, ?_, ?_, ?_, ?_, ?_, ?_, ?_, ?_, ?_, ?_, ?_, ?_, ?_, ?_, ?_, ?_, ?_, ?_, ?_, ?_, ?_, ?_, ?_, ?_, ?_, ?_, ?_, ?_, ?_, ?_, ?_, ?_, ?_, ?_, ?_, ?_, ?_, ?_, ?_, ?_, ?_, ?_, ?_, ?_, ?_, ?_, ?_, ?_, ?_, ?_, ?_, trivial⟩
    · intro G wx fr hway _ hs hdef hsz
      have s7 : fr.tmps[7]? = some (.bool true) := hs.1
      clear hs
      refine ⟨?_⟩
      go_wp2
      exact kp_post hsz (Below.refl _ _)
    · intro G wx fr hway _ hs hdef hsz
      have s31 : fr.tmps[31]? = some (.bool true) := hs.1
      clear hs
      refine ⟨?_⟩
      go_wp2
      exact kp_post hsz (Below.refl _ _)
    · intro G wx fr hway _ hs hdef hsz
      have s3 : fr.tmps[3]? = some (.pointer (some ⟨w.heap.size, 0, none⟩)) := hs.1
      have s32 : fr.tmps[32]? = some (.bool true) := hs.2.1
      clear hs
      refine ⟨?_⟩
      refine wpList_load_want (by simp [Region.wanted, yielded, *]) 23 (.tmp 3) rfl (way_blk hway hy1_1 (by first | exact hy1_1.lt | omega) (by simp [heldBy, Knd.blockOf])) (by rw [HSW.out]; exact hW) (by simp [Act.eval, s3]) ?_
      refine wpList_nil ?_
      exact kp_val hdef hsz (Below.refl _ _)
    · intro G wx fr hway _ hs hdef hsz
      have s4 : fr.tmps[4]? = some (.pointer (some ⟨w1.heap.size, 0, none⟩)) := hs.1
      have s32 : fr.tmps[32]? = some (.bool true) := hs.2.1
      clear hs
      refine ⟨?_⟩
      refine wpList_load_want (by simp [Region.wanted, yielded, *]) 23 (.tmp 4) rfl (way_blk hway hy1_2 (by first | exact hy1_2.lt | omega) (by simp [heldBy, Knd.blockOf])) (by rw [HSW.out]; exact hW) (by simp [Act.eval, s4]) ?_
      refine wpList_nil ?_
      exact kp_val hdef hsz (Below.refl _ _)
    · intro G wx fr hway _ hs hdef hsz
      have s33 : fr.tmps[33]? = some (.agg (wcells a)) := hs.1
      have s34 : fr.tmps[34]? = some (.agg (wcells b)) := hs.2.1
      have s32 : fr.tmps[32]? = some (.bool true) := hs.2.2.1
      clear hs
      refine ⟨?_⟩
      go_wp2_with fail
      refine (C7.out wx).mono ?_
      rintro e w2 ⟨rfl, hb2⟩
      go_wp2
      exact kp_post hsz hb2
    · intro G wx fr hway _ hs hdef hsz
      have s3 : fr.tmps[3]? = some (.pointer (some ⟨w.heap.size, 0, none⟩)) := hs.1
      have s32 : fr.tmps[32]? = some (.bool true) := hs.2.1
      clear hs
      refine ⟨?_⟩
      refine wpList_load_want (by simp [Region.wanted, yielded, *]) 23 (.tmp 3) rfl (way_blk hway hy1_1 (by first | exact hy1_1.lt | omega) (by simp [heldBy, Knd.blockOf])) (by rw [HSW.out]; exact hW) (by simp [Act.eval, s3]) ?_
      refine wpList_nil ?_
      exact kp_val hdef hsz (Below.refl _ _)
    · intro G wx fr hway _ hs hdef hsz
      have s4 : fr.tmps[4]? = some (.pointer (some ⟨w1.heap.size, 0, none⟩)) := hs.1
      have s32 : fr.tmps[32]? = some (.bool true) := hs.2.1
      clear hs
      refine ⟨?_⟩
      refine wpList_load_want (by simp [Region.wanted, yielded, *]) 23 (.tmp 4) rfl (way_blk hway hy1_2 (by first | exact hy1_2.lt | omega) (by simp [heldBy, Knd.blockOf])) (by rw [HSW.out]; exact hW) (by simp [Act.eval, s4]) ?_
      refine wpList_nil ?_
      exact kp_val hdef hsz (Below.refl _ _)
    · intro G wx fr hway _ hs hdef hsz
      have s36 : fr.tmps[36]? = some (.agg (wcells a)) := hs.1
      have s37 : fr.tmps[37]? = some (.agg (wcells b)) := hs.2.1
      have s32 : fr.tmps[32]? = some (.bool true) := hs.2.2.1
      clear hs
      refine ⟨?_⟩
      go_wp2_with fail
      refine (C8.out wx).mono ?_
      rintro e w2 ⟨rfl, hb2⟩
      go_wp2
      exact kp_post hsz hb2
    · intro G wx fr hway _ hs hdef hsz
      have s35 : fr.tmps[35]? = some (.int .i64 (cmpN a b)) := hs.1
      have s38 : fr.tmps[38]? = some (.int .i64 (cmpN a b)) := hs.2.1
      have s32 : fr.tmps[32]? = some (.bool true) := hs.2.2.1
      clear hs
      refine ⟨?_⟩
      go_wp2
      exact kp_post hsz (Below.refl _ _)
    · intro G wx fr hway _ hs hdef hsz
      have s32 : fr.tmps[32]? = some (.bool true) := hs.1
      have s39 : fr.tmps[39]? = some (.bool true) := hs.2.1
      clear hs
      refine ⟨?_⟩
      go_wp2
      exact kp_post hsz (Below.refl _ _)
    · intro G wx fr hway _ hs hdef hsz
      have s40 : fr.tmps[40]? = some (.bool true) := hs.1
      clear hs
      refine ⟨?_⟩
      go_wp2
      exact kp_post hsz (Below.refl _ _)
    · intro G wx fr hway _ hs hdef hsz
      have s3 : fr.tmps[3]? = some (.pointer (some ⟨w.heap.size, 0, none⟩)) := hs.1
      have s41 : fr.tmps[41]? = some (.bool true) := hs.2.1
      clear hs
      refine ⟨?_⟩
      refine wpList_load_want (by simp [Region.wanted, yielded, *]) 23 (.tmp 3) rfl (way_blk hway hy1_1 (by first | exact hy1_1.lt | omega) (by simp [heldBy, Knd.blockOf])) (by rw [HSW.out]; exact hW) (by simp [Act.eval, s3]) ?_
      refine wpList_nil ?_
      exact kp_val hdef hsz (Below.refl _ _)
    · intro G wx fr hway _ hs hdef hsz
      have s4 : fr.tmps[4]? = some (.pointer (some ⟨w1.heap.size, 0, none⟩)) := hs.1
      have s41 : fr.tmps[41]? = some (.bool true) := hs.2.1
      clear hs
      refine ⟨?_⟩
      refine wpList_load_want (by simp [Region.wanted, yielded, *]) 23 (.tmp 4) rfl (way_blk hway hy1_2 (by first | exact hy1_2.lt | omega) (by simp [heldBy, Knd.blockOf])) (by rw [HSW.out]; exact hW) (by simp [Act.eval, s4]) ?_
      refine wpList_nil ?_
      exact kp_val hdef hsz (Below.refl _ _)
    · intro G wx fr hway _ hs hdef hsz
      have s42 : fr.tmps[42]? = some (.agg (wcells a)) := hs.1
      have s43 : fr.tmps[43]? = some (.agg (wcells b)) := hs.2.1
      have s41 : fr.tmps[41]? = some (.bool true) := hs.2.2.1
      clear hs
      refine ⟨?_⟩
      go_wp2_with fail
      refine (C9.out wx).mono ?_
      rintro e w2 ⟨rfl, hb2⟩
      go_wp2
      exact kp_post hsz hb2
    · intro G wx fr hway _ hs hdef hsz
      have s3 : fr.tmps[3]? = some (.pointer (some ⟨w.heap.size, 0, none⟩)) := hs.1
      have s41 : fr.tmps[41]? = some (.bool true) := hs.2.1
      clear hs
      refine ⟨?_⟩
      refine wpList_load_want (by simp [Region.wanted, yielded, *]) 23 (.tmp 3) rfl (way_blk hway hy1_1 (by first | exact hy1_1.lt | omega) (by simp [heldBy, Knd.blockOf])) (by rw [HSW.out]; exact hW) (by simp [Act.eval, s3]) ?_
      refine wpList_nil ?_
      exact kp_val hdef hsz (Below.refl _ _)
    · intro G wx fr hway _ hs hdef hsz
      have s4 : fr.tmps[4]? = some (.pointer (some ⟨w1.heap.size, 0, none⟩)) := hs.1
      have s41 : fr.tmps[41]? = some (.bool true) := hs.2.1
      clear hs
      refine ⟨?_⟩
      refine wpList_load_want (by simp [Region.wanted, yielded, *]) 23 (.tmp 4) rfl (way_blk hway hy1_2 (by first | exact hy1_2.lt | omega) (by simp [heldBy, Knd.blockOf])) (by rw [HSW.out]; exact hW) (by simp [Act.eval, s4]) ?_
      refine wpList_nil ?_
      exact kp_val hdef hsz (Below.refl _ _)
    · intro G wx fr hway _ hs hdef hsz
      have s45 : fr.tmps[45]? = some (.agg (wcells a)) := hs.1
      have s46 : fr.tmps[46]? = some (.agg (wcells b)) := hs.2.1
      have s41 : fr.tmps[41]? = some (.bool true) := hs.2.2.1
      clear hs
      refine ⟨?_⟩
      go_wp2_with fail
      refine (C10.out wx).mono ?_
      rintro e w2 ⟨rfl, hb2⟩
      go_wp2
      exact kp_post hsz hb2
    · intro G wx fr hway _ hs hdef hsz
      have s44 : fr.tmps[44]? = some (.int .i64 (scmpN a b)) := hs.1
      have s47 : fr.tmps[47]? = some (.int .i64 (scmpN a b)) := hs.2.1
      have s41 : fr.tmps[41]? = some (.bool true) := hs.2.2.1
      clear hs
      refine ⟨?_⟩
      go_wp2
      exact kp_post hsz (Below.refl _ _)
    · intro G wx fr hway _ hs hdef hsz
      have s41 : fr.tmps[41]? = some (.bool true) := hs.1
      have s48 : fr.tmps[48]? = some (.bool true) := hs.2.1
      clear hs
      refine ⟨?_⟩
      go_wp2
      exact kp_post hsz (Below.refl _ _)
    · intro G wx fr hway _ hs hdef hsz
      have s49 : fr.tmps[49]? = some (.bool true) := hs.1
      clear hs
      refine ⟨?_⟩
      go_wp2
      exact kp_post hsz (Below.refl _ _)
    · intro G wx fr hway _ hs hdef hsz
      have s3 : fr.tmps[3]? = some (.pointer (some ⟨w.heap.size, 0, none⟩)) := hs.1
      have s50 : fr.tmps[50]? = some (.bool true) := hs.2.1
      clear hs
      refine ⟨?_⟩
      refine wpList_load_want (by simp [Region.wanted, yielded, *]) 23 (.tmp 3) rfl (way_blk hway hy1_1 (by first | exact hy1_1.lt | omega) (by simp [heldBy, Knd.blockOf])) (by rw [HSW.out]; exact hW) (by simp [Act.eval, s3]) ?_
      refine wpList_nil ?_
      exact kp_val hdef hsz (Below.refl _ _)
    · intro G wx fr hway _ hs hdef hsz
      have s51 : fr.tmps[51]? = some (.agg (wcells a)) := hs.1
      have s50 : fr.tmps[50]? = some (.bool true) := hs.2.1
      clear hs
      refine ⟨?_⟩
      go_wp2_with fail
      refine (C11.out wx).mono ?_
      rintro e w2 ⟨rfl, hb2⟩
      go_wp2
      exact kp_post hsz hb2
    · intro G wx fr hway _ hs hdef hsz
      have s3 : fr.tmps[3]? = some (.pointer (some ⟨w.heap.size, 0, none⟩)) := hs.1
      have s50 : fr.tmps[50]? = some (.bool true) := hs.2.1
      clear hs
      refine ⟨?_⟩
      refine wpList_load_want (by simp [Region.wanted, yielded, *]) 23 (.tmp 3) rfl (way_blk hway hy1_1 (by first | exact hy1_1.lt | omega) (by simp [heldBy, Knd.blockOf])) (by rw [HSW.out]; exact hW) (by simp [Act.eval, s3]) ?_
      refine wpList_nil ?_
      exact kp_val hdef hsz (Below.refl _ _)
    · intro G wx fr hway _ hs hdef hsz
      have s53 : fr.tmps[53]? = some (.agg (wcells a)) := hs.1
      have s50 : fr.tmps[50]? = some (.bool true) := hs.2.1
      clear hs
      refine ⟨?_⟩
      go_wp2_with fail
      refine (C12.out wx).mono ?_
      rintro e w2 ⟨rfl, hb2⟩
      go_wp2
      exact kp_post hsz hb2
    · intro G wx fr hway _ hs hdef hsz
      have s52 : fr.tmps[52]? = some (.int .i64 ((blen a : Nat))) := hs.1
      have s54 : fr.tmps[54]? = some (.int .i64 ((blen a : Nat))) := hs.2.1
      have s50 : fr.tmps[50]? = some (.bool true) := hs.2.2.1
      clear hs
      refine ⟨?_⟩
      go_wp2
      exact kp_post hsz (Below.refl _ _)
    · intro G wx fr hway _ hs hdef hsz
      have s50 : fr.tmps[50]? = some (.bool true) := hs.1
      have s55 : fr.tmps[55]? = some (.bool true) := hs.2.1
      clear hs
      refine ⟨?_⟩
      go_wp2
      exact kp_post hsz (Below.refl _ _)
    · intro G wx fr hway _ hs hdef hsz
      have s56 : fr.tmps[56]? = some (.bool true) := hs.1
      clear hs
      refine ⟨?_⟩
      go_wp2
      exact kp_post hsz (Below.refl _ _)
    · intro G wx fr hway _ hs hdef hsz
      have s8 : fr.tmps[8]? = some (.int .i64 ((a : Int))) := hs.1
      have s57 : fr.tmps[57]? = some (.bool true) := hs.2.1
      clear hs
      refine ⟨?_⟩
      go_wp2
      exact kp_post hsz (Below.refl _ _)
    · intro G wx fr hway _ hs hdef hsz
      have s10 : fr.tmps[10]? = some (.int .i64 ((a : Int))) := hs.1
      have s57 : fr.tmps[57]? = some (.bool true) := hs.2.1
      clear hs
      refine ⟨?_⟩
      go_wp2
      exact kp_post hsz (Below.refl _ _)
    · intro G wx fr hway _ hs hdef hsz
      have s58 : fr.tmps[58]? = some (.int .i64 ((a : Int))) := hs.1
      have s59 : fr.tmps[59]? = some (.int .i64 ((a : Int))) := hs.2.1
      have s57 : fr.tmps[57]? = some (.bool true) := hs.2.2.1
      clear hs
      refine ⟨?_⟩
      go_wp2
      exact kp_post hsz (Below.refl _ _)
    · intro G wx fr hway _ hs hdef hsz
      have s57 : fr.tmps[57]? = some (.bool true) := hs.1
      have s60 : fr.tmps[60]? = some (.bool true) := hs.2.1
      clear hs
      refine ⟨?_⟩
      go_wp2
      exact kp_post hsz (Below.refl _ _)
    · intro G wx fr hway _ hs hdef hsz
      have s61 : fr.tmps[61]? = some (.bool true) := hs.1
      clear hs
      refine ⟨?_⟩
      go_wp2
      exact kp_post hsz (Below.refl _ _)
    · intro G wx fr hway _ hs hdef hsz
      have s9 : fr.tmps[9]? = some (.bool true) := hs.1
      have s62 : fr.tmps[62]? = some (.bool true) := hs.2.1
      clear hs
      refine ⟨?_⟩
      go_wp2
      exact kp_post hsz (Below.refl _ _)
    · intro G wx fr hway _ hs hdef hsz
      have s11 : fr.tmps[11]? = some (.bool true) := hs.1
      have s62 : fr.tmps[62]? = some (.bool true) := hs.2.1
      clear hs
      refine ⟨?_⟩
      go_wp2
      exact kp_post hsz (Below.refl _ _)
    · intro G wx fr hway _ hs hdef hsz
      have s63 : fr.tmps[63]? = some (.bool true) := hs.1
      have s64 : fr.tmps[64]? = some (.bool true) := hs.2.1
      have s62 : fr.tmps[62]? = some (.bool true) := hs.2.2.1
      clear hs
      refine ⟨?_⟩
      go_wp2
      exact kp_post hsz (Below.refl _ _)
    · intro G wx fr hway _ hs hdef hsz
      have s62 : fr.tmps[62]? = some (.bool true) := hs.1
      have s65 : fr.tmps[65]? = some (.bool true) := hs.2.1
      clear hs
      refine ⟨?_⟩
      go_wp2
      exact kp_post hsz (Below.refl _ _)
    · intro G wx fr hway _ hs hdef hsz
      have s66 : fr.tmps[66]? = some (.bool true) := hs.1
      clear hs
      refine ⟨?_⟩
      go_wp2
      exact kp_post hsz (Below.refl _ _)
    · intro G wx fr hway _ hs hdef hsz
      have s2 : fr.tmps[2]? = some (.int .i64 n) := hs.1
      have s67 : fr.tmps[67]? = some (.bool true) := hs.2.1
      clear hs
      refine ⟨?_⟩
      go_wp2
      exact kp_post hsz (Below.refl _ _)
    · intro G wx fr hway _ hs hdef hsz
      have s68 : fr.tmps[68]? = some (.int .i64 n) := hs.1
      have s67 : fr.tmps[67]? = some (.bool true) := hs.2.1
      clear hs
      refine ⟨?_⟩
      go_wp2_with fail
      refine (C4.out wx).mono ?_
      rintro e w2 ⟨rfl, hb2⟩
      go_wp2
      exact kp_post hsz hb2
    · intro G wx fr hway _ hs hdef hsz
      have s2 : fr.tmps[2]? = some (.int .i64 n) := hs.1
      have s67 : fr.tmps[67]? = some (.bool true) := hs.2.1
      clear hs
      refine ⟨?_⟩
      go_wp2
      exact kp_post hsz (Below.refl _ _)
    · intro G wx fr hway _ hs hdef hsz
      have s70 : fr.tmps[70]? = some (.int .i64 n) := hs.1
      have s67 : fr.tmps[67]? = some (.bool true) := hs.2.1
      clear hs
      refine ⟨?_⟩
      go_wp2_with fail
      refine (C13.out wx).mono ?_
      rintro e w2 ⟨rfl, hb2⟩
      go_wp2
      exact kp_post hsz hb2
    · intro G wx fr hway _ hs hdef hsz
      have s69 : fr.tmps[69]? = some (.agg (wcells z5)) := hs.1
      have s71 : fr.tmps[71]? = some (.agg (wcells z5)) := hs.2.1
      have s67 : fr.tmps[67]? = some (.bool true) := hs.2.2.1
      clear hs
      have hq := Q14.out
      refine ⟨?_⟩
      go_wp2
      exact kp_post hsz (Below.refl _ _)
    · intro G wx fr hway _ hs hdef hsz
      have s67 : fr.tmps[67]? = some (.bool true) := hs.1
      have s72 : fr.tmps[72]? = some (.bool true) := hs.2.1
      clear hs
      refine ⟨?_⟩
      go_wp2
      exact kp_post hsz (Below.refl _ _)
    · intro G wx fr hway _ hs hdef hsz
      have s73 : fr.tmps[73]? = some (.bool true) := hs.1
      clear hs
      refine ⟨?_⟩
      go_wp2
      exact kp_post hsz (Below.refl _ _)
    · intro G wx fr hway _ hs hdef hsz
      have s13 : fr.tmps[13]? = some (.bool true) := hs.1
      have s74 : fr.tmps[74]? = some (.bool true) := hs.2.1
      clear hs
      refine ⟨?_⟩
      go_wp2
      exact kp_post hsz (Below.refl _ _)
    · intro G wx fr hway _ hs hdef hsz
      have s2 : fr.tmps[2]? = some (.int .i64 n) := hs.1
      have s74 : fr.tmps[74]? = some (.bool true) := hs.2.1
      clear hs
      refine ⟨?_⟩
      go_wp2
      exact kp_post hsz (Below.refl _ _)
    · intro G wx fr hway _ hs hdef hsz
      have s76 : fr.tmps[76]? = some (.int .i64 n) := hs.1
      have s74 : fr.tmps[74]? = some (.bool true) := hs.2.1
      clear hs
      refine ⟨?_⟩
      go_wp2
      exact kp_post hsz (Below.refl _ _)
    · intro G wx fr hway _ hs hdef hsz
      have s75 : fr.tmps[75]? = some (.bool true) := hs.1
      have s77 : fr.tmps[77]? = some (.bool true) := hs.2.1
      have s74 : fr.tmps[74]? = some (.bool true) := hs.2.2.1
      clear hs
      refine ⟨?_⟩
      go_wp2
      exact kp_post hsz (Below.refl _ _)
    · intro G wx fr hway _ hs hdef hsz
      have s74 : fr.tmps[74]? = some (.bool true) := hs.1
      have s78 : fr.tmps[78]? = some (.bool true) := hs.2.1
      clear hs
      refine ⟨?_⟩
      go_wp2
      exact kp_post hsz (Below.refl _ _)
    · intro G wx fr hway _ hs hdef hsz
      have s79 : fr.tmps[79]? = some (.bool true) := hs.1
      clear hs
      refine ⟨?_⟩
      go_wp2
      exact kp_post hsz (Below.refl _ _)
    · intro G wx fr hway _ hs hdef hsz
      have s13 : fr.tmps[13]? = some (.bool true) := hs.1
      have s80 : fr.tmps[80]? = some (.bool true) := hs.2.1
      clear hs
      refine ⟨?_⟩
      go_wp2
      exact kp_post hsz (Below.refl _ _)
    · intro G wx fr hway _ hs hdef hsz
      have s81 : fr.tmps[81]? = some (.bool true) := hs.1
      have s80 : fr.tmps[80]? = some (.bool true) := hs.2.1
      clear hs
      refine ⟨?_⟩
      go_wp2
      exact kp_post hsz (Below.refl _ _)
    · intro G wx fr hway _ hs hdef hsz
      have s82 : fr.tmps[82]? = some (.bool false) := hs.1
      have s80 : fr.tmps[80]? = some (.bool true) := hs.2.1
      clear hs
      refine ⟨?_⟩
      go_wp2
      exact kp_post hsz (Below.refl _ _)
    · intro G wx fr hway _ hs hdef hsz
      have s12 : fr.tmps[12]? = some (.int .i64 n) := hs.1
      have s83 : fr.tmps[83]? = some (.bool false) := hs.2.1
      clear hs
      refine ⟨?_⟩
      go_wp2
      exact kp_post hsz (Below.refl _ _)
    · intro G wx fr hway _ hs hdef hsz
      have s2 : fr.tmps[2]? = some (.int .i64 n) := hs.1
      have s83 : fr.tmps[83]? = some (.bool false) := hs.2.1
      clear hs
      refine ⟨?_⟩
      go_wp2
      exact kp_post hsz (Below.refl _ _)
    · intro G wx fr hway _ hs hdef hsz
      have s84 : fr.tmps[84]? = some (.int .i64 n) := hs.1
      have s85 : fr.tmps[85]? = some (.int .i64 n) := hs.2.1
      have s83 : fr.tmps[83]? = some (.bool false) := hs.2.2.1
      clear hs
      refine ⟨?_⟩
      go_wp2
      exact kp_post hsz (Below.refl _ _)
    · intro G wx fr hway _ hs hdef hsz
      have s83 : fr.tmps[83]? = some (.bool false) := hs.1
      have s86 : fr.tmps[86]? = some (.bool true) := hs.2.1
      have s80 : fr.tmps[80]? = some (.bool true) := hs.2.2.1
      clear hs
      refine ⟨?_⟩
      go_wp2
      exact kp_post hsz (Below.refl _ _)
    · intro G wx fr hway _ hs hdef hsz
      have s80 : fr.tmps[80]? = some (.bool true) := hs.1
      have s87 : fr.tmps[87]? = some (.bool true) := hs.2.1
      clear hs
      refine ⟨?_⟩
      go_wp2
      exact kp_post hsz (Below.refl _ _)
    · intro G wx fr hway _ hs hdef hsz
      have s88 : fr.tmps[88]? = some (.bool true) := hs.1
      clear hs
      refine ⟨?_⟩
      go_wp2
      exact kp_post hsz (Below.refl _ _)
  · intro G V wr3 hval hway hmade hap
    replace hval : V 0 = .bool true ∧ V 1 = .bool true ∧ V 2 = .agg (wcells a) ∧ V 3 = .agg (wcells b) ∧ V 4 = .int .i64 (cmpN a b) ∧ V 5 = .agg (wcells a) ∧ V 6 = .agg (wcells b) ∧ V 7 = .int .i64 (cmpN a b) ∧ V 8 = .bool true ∧ V 9 = .bool true ∧ V 10 = .bool true ∧ V 11 = .agg (wcells a) ∧ V 12 = .agg (wcells b) ∧ V 13 = .int .i64 (scmpN a b) ∧ V 14 = .agg (wcells a) ∧ V 15 = .agg (wcells b) ∧ V 16 = .int .i64 (scmpN a b) ∧ V 17 = .bool true ∧ V 18 = .bool true ∧ V 19 = .bool true ∧ V 20 = .agg (wcells a) ∧ V 21 = .int .i64 ((blen a : Nat)) ∧ V 22 = .agg (wcells a) ∧ V 23 = .int .i64 ((blen a : Nat)) ∧ V 24 = .bool true ∧ V 25 = .bool true ∧ V 26 = .bool true ∧ V 27 = .int .i64 ((a : Int)) ∧ V 28 = .int .i64 ((a : Int)) ∧ V 29 = .bool true ∧ V 30 = .bool true ∧ V 31 = .bool true ∧ V 32 = .bool true ∧ V 33 = .bool true ∧ V 34 = .bool true ∧ V 35 = .bool true ∧ V 36 = .bool true ∧ V 37 = .int .i64 n ∧ V 38 = .agg (wcells z5) ∧ V 39 = .int .i64 n ∧ V 40 = .agg (wcells z5) ∧ V 41 = .bool true ∧ V 42 = .bool true ∧ V 43 = .bool true ∧ V 44 = .bool true ∧ V 45 = .int .i64 n ∧ V 46 = .bool true ∧ V 47 = .bool true ∧ V 48 = .bool true ∧ V 49 = .bool true ∧ V 50 = .bool true ∧ V 51 = .bool false ∧ V 52 = .bool false ∧ V 53 = .int .i64 n ∧ V 54 = .int .i64 n ∧ V 55 = .bool true ∧ V 56 = .bool true ∧ V 57 = .bool true ∧ V 58 = .bool true ∧ True := hval
    replace hmade : True := hmade
    obtain ⟨e3_0, e3_1, e3_2, e3_3, e3_4, e3_5, e3_6, e3_7, e3_8, e3_9, e3_10, e3_11, e3_12, e3_13, e3_14, e3_15, e3_16, e3_17, e3_18, e3_19, e3_20, e3_21, e3_22, e3_23, e3_24, e3_25, e3_26, e3_27, e3_28, e3_29, e3_30, e3_31, e3_32, e3_33, e3_34, e3_35, e3_36, e3_37, e3_38, e3_39, e3_40, e3_41, e3_42, e3_43, e3_44, e3_45, e3_46, e3_47, e3_48, e3_49, e3_50, e3_51, e3_52, e3_53, e3_54, e3_55, e3_56, e3_57, e3_58, -⟩ := hval
    obtain ⟨-⟩ := hmade
    clear hap
    simp only [fill, Act.put, e3_0, e3_1, e3_2, e3_3, e3_4, e3_5, e3_6, e3_7, e3_8, e3_9, e3_10, e3_11, e3_12, e3_13, e3_14, e3_15, e3_16, e3_17, e3_18, e3_19, e3_20, e3_21, e3_22, e3_23, e3_24, e3_25, e3_26, e3_27, e3_28, e3_29, e3_30, e3_31, e3_32, e3_33, e3_34, e3_35, e3_36, e3_37, e3_38, e3_39, e3_40, e3_41, e3_42, e3_43, e3_44, e3_45, e3_46, e3_47, e3_48, e3_49, e3_50, e3_51, e3_52, e3_53, e3_54, e3_55, e3_56, e3_57, e3_58]
    clear e3_0 e3_1 e3_2 e3_3 e3_4 e3_5 e3_6 e3_7 e3_8 e3_9 e3_10 e3_11 e3_12 e3_13 e3_14 e3_15 e3_16 e3_17 e3_18 e3_19 e3_20 e3_21 e3_22 e3_23 e3_24 e3_25 e3_26 e3_27 e3_28 e3_29 e3_30 e3_31 e3_32 e3_33 e3_34 e3_35 e3_36 e3_37 e3_38 e3_39 e3_40 e3_41 e3_42 e3_43 e3_44 e3_45 e3_46 e3_47 e3_48 e3_49 e3_50 e3_51 e3_52 e3_53 e3_54 e3_55 e3_56 e3_57 e3_58
    simp only [Exit.then]
    go_simp
    clear G V
    replace hy1_1 := way_blk hway hy1_1 hy1_1.lt (by simp [heldBy, Knd.blockOf])
    replace hy1_2 := way_blk hway hy1_2 hy1_2.lt (by simp [heldBy, Knd.blockOf])
    replace hB1_7 := hway.2.2
    clear hway
    go_wp2
    go_ret
    exact ⟨rfl, hB1_7⟩
set_option maxRecDepth 100000 in
set_option maxHeartbeats 8000000 in
theorem walk_10 (a b : Nat) (n : Int) (w : World) (ha : a < 2 ^ 256) (hb : b < 2 ^ 256) (h1 : -9223372036854775808 ≤ n) (h2 : n ≤ 9223372036854775807) (hs : Hid (a < 2 ^ 63)) (hn : n < 0) (hnd : decide ((0 : Int) ≤ n) = false) : Calls Try.prog 3 #[.agg (wcells a), .agg (wcells b), .int .i64 n] w fun e w' => e = .returned (.bool true) ∧ Below w.heap.size w w' := by
  have hW := wordTy
  have zW := zWordL
  have HSW := Lib.hid wcells_size
  have H1W := Lib.hid wcells_one
  have HZW := Lib.hid wcells_lit0
  have C1 := Lib.hid (fun w => alive1 w)
  have C2 := Lib.hid (fun w => Int_yes a w hs.out)
  have C3 := Lib.hid (fun w => RefInt_yes a w hs.out)
  obtain ⟨z5, Ez5⟩ : ∃ z, z = ofN n := ⟨_, rfl⟩
  have hz5 : z5 < 2 ^ 256 := by rw [Ez5]; exact (ofN_lt _)
  have C4 := Lib.hid (fun w => Of_any n w h1 h2)
  rw [← Ez5] at C4
  have C6 := Lib.hid (fun w => Int_no z5 w hz5 (by subst_vars; exact ofN_big hn h1))
  have C7 := Lib.hid (fun w => Cmp_any a b w ha hb)
  have C8 := Lib.hid (fun w => RefCmp_any a b w ha hb)
  have C9 := Lib.hid (fun w => SCmp_all a b w ha hb)
  have C10 := Lib.hid (fun w => RefSCmp_all a b w ha hb)
  have C11 := Lib.hid (fun w => Bits_any a w ha)
  have C12 := Lib.hid (fun w => RefBits_any a w ha)
  have C13 := Lib.hid (fun w => RefOf_any n w h1 h2)
  rw [← Ez5] at C13
  have Q14 := Lib.hid (fun w => eq_word z5 z5 hz5 hz5 w)
  rw [decide_eq_true rfl] at Q14
  clear Ez5 hz5
  go_enter Try.func3, Try.ntmps3
  have tk0_0 : True := trivial
  have tk0_1 : True := trivial
  have tk0_2 : True := trivial
  have tk0_3 : True := trivial
  have tk0_4 : True := trivial
  have tk0_5 : True := trivial
  have tk0_6 : True := trivial
  have tk0_7 : True := trivial
  have tk0_8 : True := trivial
  go_wp2_with (first
    | ((with_reducible refine gd_box ?_); have _t := tk0_0; refine wpList_box_agg rfl _ (.tmp 0) rfl rfl ?_; clear tk0_0; intro w1 hx1 hb1 hl1; have hz1 := hx1.lt; have hs1 := hb1.size)
    | ((with_reducible refine gd_box ?_); have _t := tk0_1; refine wpList_box_agg rfl _ (.tmp 1) rfl rfl ?_; clear tk0_1; intro w2 hx2 hb2 hl2; have hz2 := hx2.lt; have hs2 := hb2.size)
    | (go_at_call 10; have _t := tk0_2; refine (C1.out _).mono ?_; clear tk0_2; rintro e w3 ⟨rfl, hb3⟩; have hs3 := hb3.size)
    | ((with_reducible refine gd_load ?_); have _t := tk0_3; refine wpList_load_blk rfl 23 (.tmp 3) rfl ((hx1.ext hb2).ext hb3) (by rw [HSW.out]; exact hW) rfl ?_; clear tk0_3)
    | (go_at_call 11; have _t := tk0_4; refine (C2.out _).mono ?_; clear tk0_4; rintro e w4 ⟨rfl, hb4⟩; have hs4 := hb4.size)
    | ((with_reducible refine gd_load ?_); have _t := tk0_5; refine wpList_load_blk rfl 23 (.tmp 3) rfl (((hx1.ext hb2).ext hb3).ext hb4) (by rw [HSW.out]; exact hW) rfl ?_; clear tk0_5)
    | (go_at_call 12; have _t := tk0_6; refine (C3.out _).mono ?_; clear tk0_6; rintro e w5 ⟨rfl, hb5⟩; have hs5 := hb5.size)
    | (go_at_call 13; have _t := tk0_7; refine (C4.out _).mono ?_; clear tk0_7; rintro e w6 ⟨rfl, hb6⟩; have hs6 := hb6.size)
    | (go_at_call 11; have _t := tk0_8; refine (C6.out _).mono ?_; clear tk0_8; rintro e w7 ⟨rfl, hb7⟩; have hs7 := hb7.size)
    | fail)
  have hy1_1 := ((((((hx1.ext hb2).ext hb3).ext hb4).ext hb5).ext hb6).ext hb7)
  have hy1_2 := (((((hx2.ext hb3).ext hb4).ext hb5).ext hb6).ext hb7)
  have hB1_1 := hb1
  have hB1_2 := below_step hB1_1 hb2
  have hB1_3 := below_step hB1_2 hb3
  have hB1_4 := below_step hB1_3 hb4
  have hB1_5 := below_step hB1_4 hb5
  have hB1_6 := below_step hB1_5 hb6
  have hB1_7 := below_step hB1_6 hb7
  clear hb1 hl1 hz1 hs1 hb2 hl2 hz2 hs2 hb3 hs3 hb4 hs4 hb5 hs5 hb6 hs6 hb7 hs7 hx1 hx2 hB1_1 hB1_2 hB1_3 hB1_4 hB1_5 hB1_6
  refine wp_region_made (w := w7) (B := w.heap.size) (wB := w) ((.val (.bool true)) :: (.val (.bool true)) :: (.val (.agg (wcells a))) :: (.val (.agg (wcells b))) :: (.val (.int .i64 (cmpN a b))) :: (.val (.agg (wcells a))) :: (.val (.agg (wcells b))) :: (.val (.int .i64 (cmpN a b))) :: (.val (.bool true)) :: (.val (.bool true)) :: (.val (.bool true)) :: (.val (.agg (wcells a))) :: (.val (.agg (wcells b))) :: (.val (.int .i64 (scmpN a b))) :: (.val (.agg (wcells a))) :: (.val (.agg (wcells b))) :: (.val (.int .i64 (scmpN a b))) :: (.val (.bool true)) :: (.val (.bool true)) :: (.val (.bool true)) :: (.val (.agg (wcells a))) :: (.val (.int .i64 ((blen a : Nat)))) :: (.val (.agg (wcells a))) :: (.val (.int .i64 ((blen a : Nat)))) :: (.val (.bool true)) :: (.val (.bool true)) :: (.val (.bool true)) :: (.val (.int .i64 ((a : Int)))) :: (.val (.int .i64 ((a : Int)))) :: (.val (.bool true)) :: (.val (.bool true)) :: (.val (.bool true)) :: (.val (.bool true)) :: (.val (.bool true)) :: (.val (.bool true)) :: (.val (.bool true)) :: (.val (.bool true)) :: (.val (.int .i64 n)) :: (.val (.agg (wcells z5))) :: (.val (.int .i64 n)) :: (.val (.agg (wcells z5))) :: (.val (.bool true)) :: (.val (.bool true)) :: (.val (.bool true)) :: (.val (.bool false)) :: (.val (.int .i64 n)) :: (.val (.bool false)) :: (.val (.bool true)) :: (.val (.bool true)) :: (.val (.bool true)) :: (.val (.bool false)) :: (.val (.bool true)) :: (.val (.bool true)) :: (.val undef) :: (.val undef) :: (.val undef) :: (.val (.bool true)) :: (.val (.bool true)) :: (.val (.bool true)) :: []) (by kernel_rfl) (by kernel_rfl) (by kernel_rfl) rfl (by kernel_rfl) rfl hB1_7.size hB1_7 (by exact List.nodup_nil) (by intro g hg; exact nomatch hg) trivial ?_ ?_
  · refine ⟨?_, ?_, ?_, ?_, ?_, ?_, ?_, ?_, ?_, ?_, ?_, ?_, ?_, ?_, ?_, ?_, ?_, ?_, ?_, ?_, ?_, ?_, ?_, ?_, ?_, ?_, ?_, ?_, ?_, ?_, ?_, ?_, ?_, ?_, ?_, ?_, ?_, ?_, ?_, ?_, ?_, ?_, ?_, ?_, ?_, ?_, ?_, ?_, ?_, ?_, ?_, ?_, ?_, ?_, ?_, ?_, ?_, ?_, ?_, trivial⟩
    · intro G wx fr hway _ hs hdef hsz
      have s7 : fr.tmps[7]? = some (.bool true) := hs.1
      clear hs
      refine ⟨?_⟩
      go_wp2
      exact kp_post hsz (Below.refl _ _)
    · intro G wx fr hway _ hs hdef hsz
      have s31 : fr.tmps[31]? = some (.bool true) := hs.1
      clear hs
      refine ⟨?_⟩
      go_wp2
      exact kp_post hsz (Below.refl _ _)
    · intro G wx fr hway _ hs hdef hsz
      have s3 : fr.tmps[3]? = some (.pointer (some ⟨w.heap.size, 0, none⟩)) := hs.1
      have s32 : fr.tmps[32]? = some (.bool true) := hs.2.1
      clear hs
      refine ⟨?_⟩
      refine wpList_load_want (by simp [Region.wanted, yielded, *]) 23 (.tmp 3) rfl (way_blk hway hy1_1 (by first | exact hy1_1.lt | omega) (by simp [heldBy, Knd.blockOf])) (by rw [HSW.out]; exact hW) (by simp [Act.eval, s3]) ?_
      refine wpList_nil ?_
      exact kp_val hdef hsz (Below.refl _ _)
    · intro G wx fr hway _ hs hdef hsz
      have s4 : fr.tmps[4]? = some (.pointer (some ⟨w1.heap.size, 0, none⟩)) := hs.1
      have s32 : fr.tmps[32]? = some (.bool true) := hs.2.1
      clear hs
      refine ⟨?_⟩
      refine wpList_load_want (by simp [Region.wanted, yielded, *]) 23 (.tmp 4) rfl (way_blk hway hy1_2 (by first | exact hy1_2.lt | omega) (by simp [heldBy, Knd.blockOf])) (by rw [HSW.out]; exact hW) (by simp [Act.eval, s4]) ?_
      refine wpList_nil ?_
      exact kp_val hdef hsz (Below.refl _ _)
    · intro G wx fr hway _ hs hdef hsz
      have s33 : fr.tmps[33]? = some (.agg (wcells a)) := hs.1
      have s34 : fr.tmps[34]? = some (.agg (wcells b)) := hs.2.1
      have s32 : fr.tmps[32]? = some (.bool true) := hs.2.2.1
      clear hs
      refine ⟨?_⟩
      go_wp2_with fail
      refine (C7.out wx).mono ?_
      rintro e w2 ⟨rfl, hb2⟩
      go_wp2
      exact kp_post hsz hb2
    · intro G wx fr hway _ hs hdef hsz
      have s3 : fr.tmps[3]? = some (.pointer (some ⟨w.heap.size, 0, none⟩)) := hs.1
      have s32 : fr.tmps[32]? = some (.bool true) := hs.2.1
      clear hs
      refine ⟨?_⟩
      refine wpList_load_want (by simp [Region.wanted, yielded, *]) 23 (.tmp 3) rfl (way_blk hway hy1_1 (by first | exact hy1_1.lt | omega) (by simp [heldBy, Knd.blockOf])) (by rw [HSW.out]; exact hW) (by simp [Act.eval, s3]) ?_
      refine wpList_nil ?_
      exact kp_val hdef hsz (Below.refl _ _)
    · intro G wx fr hway _ hs hdef hsz
      have s4 : fr.tmps[4]? = some (.pointer (some ⟨w1.heap.size, 0, none⟩)) := hs.1
      have s32 : fr.tmps[32]? = some (.bool true) := hs.2.1
      clear hs
      refine ⟨?_⟩
      refine wpList_load_want (by simp [Region.wanted, yielded, *]) 23 (.tmp 4) rfl (way_blk hway hy1_2 (by first | exact hy1_2.lt | omega) (by simp [heldBy, Knd.blockOf])) (by rw [HSW.out]; exact hW) (by simp [Act.eval, s4]) ?_
      refine wpList_nil ?_
      exact kp_val hdef hsz (Below.refl _ _)
    · intro G wx fr hway _ hs hdef hsz
      have s36 : fr.tmps[36]? = some (.agg (wcells a)) := hs.1
      have s37 : fr.tmps[37]? = some (.agg (wcells b)) := hs.2.1
      have s32 : fr.tmps[32]? = some (.bool true) := hs.2.2.1
      clear hs
      refine ⟨?_⟩
      go_wp2_with fail
      refine (C8.out wx).mono ?_
      rintro e w2 ⟨rfl, hb2⟩
      go_wp2
      exact kp_post hsz hb2
    · intro G wx fr hway _ hs hdef hsz
      have s35 : fr.tmps[35]? = some (.int .i64 (cmpN a b)) := hs.1
      have s38 : fr.tmps[38]? = some (.int .i64 (cmpN a b)) := hs.2.1
      have s32 : fr.tmps[32]? = some (.bool true) := hs.2.2.1
      clear hs
      refine ⟨?_⟩
      go_wp2
      exact kp_post hsz (Below.refl _ _)
    · intro G wx fr hway _ hs hdef hsz
      have s32 : fr.tmps[32]? = some (.bool true) := hs.1
      have s39 : fr.tmps[39]? = some (.bool true) := hs.2.1
      clear hs
      refine ⟨?_⟩
      go_wp2
      exact kp_post hsz (Below.refl _ _)
    · intro G wx fr hway _ hs hdef hsz
      have s40 : fr.tmps[40]? = some (.bool true) := hs.1
      clear hs
      refine ⟨?_⟩
      go_wp2
      exact kp_post hsz (Below.refl _ _)
    · intro G wx fr hway _ hs hdef hsz
      have s3 : fr.tmps[3]? = some (.pointer (some ⟨w.heap.size, 0, none⟩)) := hs.1
      have s41 : fr.tmps[41]? = some (.bool true) := hs.2.1
      clear hs
      refine ⟨?_⟩
      refine wpList_load_want (by simp [Region.wanted, yielded, *]) 23 (.tmp 3) rfl (way_blk hway hy1_1 (by first | exact hy1_1.lt | omega) (by simp [heldBy, Knd.blockOf])) (by rw [HSW.out]; exact hW) (by simp [Act.eval, s3]) ?_
      refine wpList_nil ?_
      exact kp_val hdef hsz (Below.refl _ _)
    · intro G wx fr hway _ hs hdef hsz
      have s4 : fr.tmps[4]? = some (.pointer (some ⟨w1.heap.size, 0, none⟩)) := hs.1
      have s41 : fr.tmps[41]? = some (.bool true) := hs.2.1
      clear hs
      refine ⟨?_⟩
      refine wpList_load_want (by simp [Region.wanted, yielded, *]) 23 (.tmp 4) rfl (way_blk hway hy1_2 (by first | exact hy1_2.lt | omega) (by simp [heldBy, Knd.blockOf])) (by rw [HSW.out]; exact hW) (by simp [Act.eval, s4]) ?_
      refine wpList_nil ?_
      exact kp_val hdef hsz (Below.refl _ _)
    · intro G wx fr hway _ hs hdef hsz
      have s42 : fr.tmps[42]? = some (.agg (wcells a)) := hs.1
      have s43 : fr.tmps[43]? = some (.agg (wcells b)) := hs.2.1
      have s41 : fr.tmps[41]? = some (.bool true) := hs.2.2.1
      clear hs
      refine ⟨?_⟩
      go_wp2_with fail
      refine (C9.out wx).mono ?_
      rintro e w2 ⟨rfl, hb2⟩
      go_wp2
      exact kp_post hsz hb2
    · intro G wx fr hway _ hs hdef hsz
      have s3 : fr.tmps[3]? = some (.pointer (some ⟨w.heap.size, 0, none⟩)) := hs.1
      have s41 : fr.tmps[41]? = some (.bool true) := hs.2.1
      clear hs
      refine ⟨?_⟩
      refine wpList_load_want (by simp [Region.wanted, yielded, *]) 23 (.tmp 3) rfl (way_blk hway hy1_1 (by first | exact hy1_1.lt | omega) (by simp [heldBy, Knd.blockOf])) (by rw [HSW.out]; exact hW) (by simp [Act.eval, s3]) ?_
      refine wpList_nil ?_
      exact kp_val hdef hsz (Below.refl _ _)
    · intro G wx fr hway _ hs hdef hsz
      have s4 : fr.tmps[4]? = some (.pointer (some ⟨w1.heap.size, 0, none⟩)) := hs.1
      have s41 : fr.tmps[41]? = some (.bool true) := hs.2.1
      clear hs
      refine ⟨?_⟩
      refine wpList_load_want (by simp [Region.wanted, yielded, *]) 23 (.tmp 4) rfl (way_blk hway hy1_2 (by first | exact hy1_2.lt | omega) (by simp [heldBy, Knd.blockOf])) (by rw [HSW.out]; exact hW) (by simp [Act.eval, s4]) ?_
      refine wpList_nil ?_
      exact kp_val hdef hsz (Below.refl _ _)
    · intro G wx fr hway _ hs hdef hsz
      have s45 : fr.tmps[45]? = some (.agg (wcells a)) := hs.1
      have s46 : fr.tmps[46]? = some (.agg (wcells b)) := hs.2.1
      have s41 : fr.tmps[41]? = some (.bool true) := hs.2.2.1
      clear hs
      refine ⟨?_⟩
      go_wp2_with fail
      refine (C10.out wx).mono ?_
      rintro e w2 ⟨rfl, hb2⟩
      go_wp2
      exact kp_post hsz hb2
    · intro G wx fr hway _ hs hdef hsz
      have s44 : fr.tmps[44]? = some (.int .i64 (scmpN a b)) := hs.1
      have s47 : fr.tmps[47]? = some (.int .i64 (scmpN a b)) := hs.2.1
      have s41 : fr.tmps[41]? = some (.bool true) := hs.2.2.1
      clear hs
      refine ⟨?_⟩
      go_wp2
      exact kp_post hsz (Below.refl _ _)
    · intro G wx fr hway _ hs hdef hsz
      have s41 : fr.tmps[41]? = some (.bool true) := hs.1
      have s48 : fr.tmps[48]? = some (.bool true) := hs.2.1
      clear hs
      refine ⟨?_⟩
      go_wp2
      exact kp_post hsz (Below.refl _ _)
    · intro G wx fr hway _ hs hdef hsz
      have s49 : fr.tmps[49]? = some (.bool true) := hs.1
      clear hs
      refine ⟨?_⟩
      go_wp2
      exact kp_post hsz (Below.refl _ _)
    · intro G wx fr hway _ hs hdef hsz
      have s3 : fr.tmps[3]? = some (.pointer (some ⟨w.heap.size, 0, none⟩)) := hs.1
      have s50 : fr.tmps[50]? = some (.bool true) := hs.2.1
      clear hs
      refine ⟨?_⟩
      refine wpList_load_want (by simp [Region.wanted, yielded, *]) 23 (.tmp 3) rfl (way_blk hway hy1_1 (by first | exact hy1_1.lt | omega) (by simp [heldBy, Knd.blockOf])) (by rw [HSW.out]; exact hW) (by simp [Act.eval, s3]) ?_
      refine wpList_nil ?_
      exact kp_val hdef hsz (Below.refl _ _)
    · intro G wx fr hway _ hs hdef hsz
      have s51 : fr.tmps[51]? = some (.agg (wcells a)) := hs.1
      have s50 : fr.tmps[50]? = some (.bool true) := hs.2.1
      clear hs
      refine ⟨?_⟩
      go_wp2_with fail
      refine (C11.out wx).mono ?_
      rintro e w2 ⟨rfl, hb2⟩
      go_wp2
      exact kp_post hsz hb2
    · intro G wx fr hway _ hs hdef hsz
      have s3 : fr.tmps[3]? = some (.pointer (some ⟨w.heap.size, 0, none⟩)) := hs.1
      have s50 : fr.tmps[50]? = some (.bool true) := hs.2.1
      clear hs
      refine ⟨?_⟩
      refine wpList_load_want (by simp [Region.wanted, yielded, *]) 23 (.tmp 3) rfl (way_blk hway hy1_1 (by first | exact hy1_1.lt | omega) (by simp [heldBy, Knd.blockOf])) (by rw [HSW.out]; exact hW) (by simp [Act.eval, s3]) ?_
      refine wpList_nil ?_
      exact kp_val hdef hsz (Below.refl _ _)
    · intro G wx fr hway _ hs hdef hsz
      have s53 : fr.tmps[53]? = some (.agg (wcells a)) := hs.1
      have s50 : fr.tmps[50]? = some (.bool true) := hs.2.1
      clear hs
      refine ⟨?_⟩
      go_wp2_with fail
      refine (C12.out wx).mono ?_
      rintro e w2 ⟨rfl, hb2⟩
      go_wp2
      exact kp_post hsz hb2
    · intro G wx fr hway _ hs hdef hsz
      have s52 : fr.tmps[52]? = some (.int .i64 ((blen a : Nat))) := hs.1
      have s54 : fr.tmps[54]? = some (.int .i64 ((blen a : Nat))) := hs.2.1
      have s50 : fr.tmps[50]? = some (.bool true) := hs.2.2.1
      clear hs
      refine ⟨?_⟩
      go_wp2
      exact kp_post hsz (Below.refl _ _)
    · intro G wx fr hway _ hs hdef hsz
      have s50 : fr.tmps[50]? = some (.bool true) := hs.1
      have s55 : fr.tmps[55]? = some (.bool true) := hs.2.1
      clear hs
      refine ⟨?_⟩
      go_wp2
      exact kp_post hsz (Below.refl _ _)
    · intro G wx fr hway _ hs hdef hsz
      have s56 : fr.tmps[56]? = some (.bool true) := hs.1
      clear hs
      refine ⟨?_⟩
      go_wp2
      exact kp_post hsz (Below.refl _ _)
    · intro G wx fr hway _ hs hdef hsz
      have s8 : fr.tmps[8]? = some (.int .i64 ((a : Int))) := hs.1
      have s57 : fr.tmps[57]? = some (.bool true) := hs.2.1
      clear hs
      refine ⟨?_⟩
      go_wp2
      exact kp_post hsz (Below.refl _ _)
    · intro G wx fr hway _ hs hdef hsz
      have s10 : fr.tmps[10]? = some (.int .i64 ((a : Int))) := hs.1
      have s57 : fr.tmps[57]? = some (.bool true) := hs.2.1
      clear hs
      refine ⟨?_⟩
      go_wp2
      exact kp_post hsz (Below.refl _ _)
    · intro G wx fr hway _ hs hdef hsz
      have s58 : fr.tmps[58]? = some (.int .i64 ((a : Int))) := hs.1
      have s59 : fr.tmps[59]? = some (.int .i64 ((a : Int))) := hs.2.1
      have s57 : fr.tmps[57]? = some (.bool true) := hs.2.2.1
      clear hs
      refine ⟨?_⟩
      go_wp2
      exact kp_post hsz (Below.refl _ _)
    · intro G wx fr hway _ hs hdef hsz
      have s57 : fr.tmps[57]? = some (.bool true) := hs.1
      have s60 : fr.tmps[60]? = some (.bool true) := hs.2.1
      clear hs
      refine ⟨?_⟩
      go_wp2
      exact kp_post hsz (Below.refl _ _)
    · intro G wx fr hway _ hs hdef hsz
      have s61 : fr.tmps[61]? = some (.bool true) := hs.1
      clear hs
      refine ⟨?_⟩
      go_wp2
      exact kp_post hsz (Below.refl _ _)
    · intro G wx fr hway _ hs hdef hsz
      have s9 : fr.tmps[9]? = some (.bool true) := hs.1
      have s62 : fr.tmps[62]? = some (.bool true) := hs.2.1
      clear hs
      refine ⟨?_⟩
      go_wp2
      exact kp_post hsz (Below.refl _ _)
    · intro G wx fr hway _ hs hdef hsz
      have s11 : fr.tmps[11]? = some (.bool true) := hs.1
      have s62 : fr.tmps[62]? = some (.bool true) := hs.2.1
      clear hs
      refine ⟨?_⟩
      go_wp2
      exact kp_post hsz (Below.refl _ _)
    · intro G wx fr hway _ hs hdef hsz
      have s63 : fr.tmps[63]? = some (.bool true) := hs.1
      have s64 : fr.tmps[64]? = some (.bool true) := hs.2.1
      have s62 : fr.tmps[62]? = some (.bool true) := hs.2.2.1
      clear hs
      refine ⟨?_⟩
      go_wp2
      exact kp_post hsz (Below.refl _ _)
    · intro G wx fr hway _ hs hdef hsz
      have s62 : fr.tmps[62]? = some (.bool true) := hs.1
      have s65 : fr.tmps[65]? = some (.bool true) := hs.2.1
      clear hs
      refine ⟨?_⟩
      go_wp2
      exact kp_post hsz (Below.refl _ _)
    · intro G wx fr hway _ hs hdef hsz
      have s66 : fr.tmps[66]? = some (.bool true) := hs.1
      clear hs
      refine ⟨?_⟩
      go_wp2
      exact kp_post hsz (Below.refl _ _)
    · intro G wx fr hway _ hs hdef hsz
      have s2 : fr.tmps[2]? = some (.int .i64 n) := hs.1
      have s67 : fr.tmps[67]? = some (.bool true) := hs.2.1
      clear hs
      refine ⟨?_⟩
      go_wp2
      exact kp_post hsz (Below.refl _ _)
    · intro G wx fr hway _ hs hdef hsz
      have s68 : fr.tmps[68]? = some (.int .i64 n) := hs.1
      have s67 : fr.tmps[67]? = some (.bool true) := hs.2.1
      clear hs
      refine ⟨?_⟩
      go_wp2_with fail
      refine (C4.out wx).mono ?_
      rintro e w2 ⟨rfl, hb2⟩
      go_wp2
      exact kp_post hsz hb2
    · intro G wx fr hway _ hs hdef hsz
      have s2 : fr.tmps[2]? = some (.int .i64 n) := hs.1
      have s67 : fr.tmps[67]? = some (.bool true) := hs.2.1
      clear hs
      refine ⟨?_⟩
      go_wp2
      exact kp_post hsz (Below.refl _ _)
    · intro G wx fr hway _ hs hdef hsz
      have s70 : fr.tmps[70]? = some (.int .i64 n) := hs.1
      have s67 : fr.tmps[67]? = some (.bool true) := hs.2.1
      clear hs
      refine ⟨?_⟩
      go_wp2_with fail
      refine (C13.out wx).mono ?_
      rintro e w2 ⟨rfl, hb2⟩
      go_wp2
      exact kp_post hsz hb2
    · intro G wx fr hway _ hs hdef hsz
      have s69 : fr.tmps[69]? = some (.agg (wcells z5)) := hs.1
      have s71 : fr.tmps[71]? = some (.agg (wcells z5)) := hs.2.1
      have s67 : fr.tmps[67]? = some (.bool true) := hs.2.2.1
      clear hs
      have hq := Q14.out
      refine ⟨?_⟩
      go_wp2
      exact kp_post hsz (Below.refl _ _)
    · intro G wx fr hway _ hs hdef hsz
      have s67 : fr.tmps[67]? = some (.bool true) := hs.1
      have s72 : fr.tmps[72]? = some (.bool true) := hs.2.1
      clear hs
      refine ⟨?_⟩
      go_wp2
      exact kp_post hsz (Below.refl _ _)
    · intro G wx fr hway _ hs hdef hsz
      have s73 : fr.tmps[73]? = some (.bool true) := hs.1
      clear hs
      refine ⟨?_⟩
      go_wp2
      exact kp_post hsz (Below.refl _ _)
    · intro G wx fr hway _ hs hdef hsz
      have s13 : fr.tmps[13]? = some (.bool false) := hs.1
      have s74 : fr.tmps[74]? = some (.bool true) := hs.2.1
      clear hs
      refine ⟨?_⟩
      go_wp2
      exact kp_post hsz (Below.refl _ _)
    · intro G wx fr hway _ hs hdef hsz
      have s2 : fr.tmps[2]? = some (.int .i64 n) := hs.1
      have s74 : fr.tmps[74]? = some (.bool true) := hs.2.1
      clear hs
      refine ⟨?_⟩
      go_wp2
      exact kp_post hsz (Below.refl _ _)
    · intro G wx fr hway _ hs hdef hsz
      have s76 : fr.tmps[76]? = some (.int .i64 n) := hs.1
      have s74 : fr.tmps[74]? = some (.bool true) := hs.2.1
      clear hs
      refine ⟨?_⟩
      go_wp2
      exact kp_post hsz (Below.refl _ _)
    · intro G wx fr hway _ hs hdef hsz
      have s75 : fr.tmps[75]? = some (.bool false) := hs.1
      have s77 : fr.tmps[77]? = some (.bool false) := hs.2.1
      have s74 : fr.tmps[74]? = some (.bool true) := hs.2.2.1
      clear hs
      refine ⟨?_⟩
      go_wp2
      exact kp_post hsz (Below.refl _ _)
    · intro G wx fr hway _ hs hdef hsz
      have s74 : fr.tmps[74]? = some (.bool true) := hs.1
      have s78 : fr.tmps[78]? = some (.bool true) := hs.2.1
      clear hs
      refine ⟨?_⟩
      go_wp2
      exact kp_post hsz (Below.refl _ _)
    · intro G wx fr hway _ hs hdef hsz
      have s79 : fr.tmps[79]? = some (.bool true) := hs.1
      clear hs
      refine ⟨?_⟩
      go_wp2
      exact kp_post hsz (Below.refl _ _)
    · intro G wx fr hway _ hs hdef hsz
      have s13 : fr.tmps[13]? = some (.bool false) := hs.1
      have s80 : fr.tmps[80]? = some (.bool true) := hs.2.1
      clear hs
      refine ⟨?_⟩
      go_wp2
      exact kp_post hsz (Below.refl _ _)
    · intro G wx fr hway _ hs hdef hsz
      have s81 : fr.tmps[81]? = some (.bool false) := hs.1
      have s80 : fr.tmps[80]? = some (.bool true) := hs.2.1
      clear hs
      refine ⟨?_⟩
      go_wp2
      exact kp_post hsz (Below.refl _ _)
    · intro G wx fr hway _ hs hdef hsz
      have s82 : fr.tmps[82]? = some (.bool true) := hs.1
      have s80 : fr.tmps[80]? = some (.bool true) := hs.2.1
      clear hs
      refine ⟨?_⟩
      go_wp2
      exact kp_post hsz (Below.refl _ _)
    · intro G wx fr hway _ hs hdef hsz
      have s83 : fr.tmps[83]? = some (.bool true) := hs.2.1
      clear hs
      refine ⟨?_⟩
      go_wp2
      exact kp_post hsz (Below.refl _ _)
    · intro G wx fr hway _ hs hdef hsz
      have s83 : fr.tmps[83]? = some (.bool true) := hs.2.1
      clear hs
      refine ⟨?_⟩
      go_wp2
      exact kp_post hsz (Below.refl _ _)
    · intro G wx fr hway _ hs hdef hsz
      have s83 : fr.tmps[83]? = some (.bool true) := hs.2.2.1
      clear hs
      refine ⟨?_⟩
      go_wp2
      exact kp_post hsz (Below.refl _ _)
    · intro G wx fr hway _ hs hdef hsz
      have s83 : fr.tmps[83]? = some (.bool true) := hs.1
      have s86 : fr.tmps[86]? = some (undef) := hs.2.1
      have s80 : fr.tmps[80]? = some (.bool true) := hs.2.2.1
      clear hs
      refine ⟨?_⟩
      go_wp2
      exact kp_post hsz (Below.refl _ _)
    · intro G wx fr hway _ hs hdef hsz
      have s80 : fr.tmps[80]? = some (.bool true) := hs.1
      have s87 : fr.tmps[87]? = some (.bool true) := hs.2.1
      clear hs
      refine ⟨?_⟩
      go_wp2
      exact kp_post hsz (Below.refl _ _)
    · intro G wx fr hway _ hs hdef hsz
      have s88 : fr.tmps[88]? = some (.bool true) := hs.1
      clear hs
      refine ⟨?_⟩
      go_wp2
      exact kp_post hsz (Below.refl _ _)
  · intro G V wr3 hval hway hmade hap
    replace hval : V 0 = .bool true ∧ V 1 = .bool true ∧ V 2 = .agg (wcells a) ∧ V 3 = .agg (wcells b) ∧ V 4 = .int .i64 (cmpN a b) ∧ V 5 = .agg (wcells a) ∧ V 6 = .agg (wcells b) ∧ V 7 = .int .i64 (cmpN a b) ∧ V 8 = .bool true ∧ V 9 = .bool true ∧ V 10 = .bool true ∧ V 11 = .agg (wcells a) ∧ V 12 = .agg (wcells b) ∧ V 13 = .int .i64 (scmpN a b) ∧ V 14 = .agg (wcells a) ∧ V 15 = .agg (wcells b) ∧ V 16 = .int .i64 (scmpN a b) ∧ V 17 = .bool true ∧ V 18 = .bool true ∧ V 19 = .bool true ∧ V 20 = .agg (wcells a) ∧ V 21 = .int .i64 ((blen a : Nat)) ∧ V 22 = .agg (wcells a) ∧ V 23 = .int .i64 ((blen a : Nat)) ∧ V 24 = .bool true ∧ V 25 = .bool true ∧ V 26 = .bool true ∧ V 27 = .int .i64 ((a : Int)) ∧ V 28 = .int .i64 ((a : Int)) ∧ V 29 = .bool true ∧ V 30 = .bool true ∧ V 31 = .bool true ∧ V 32 = .bool true ∧ V 33 = .bool true ∧ V 34 = .bool true ∧ V 35 = .bool true ∧ V 36 = .bool true ∧ V 37 = .int .i64 n ∧ V 38 = .agg (wcells z5) ∧ V 39 = .int .i64 n ∧ V 40 = .agg (wcells z5) ∧ V 41 = .bool true ∧ V 42 = .bool true ∧ V 43 = .bool true ∧ V 44 = .bool false ∧ V 45 = .int .i64 n ∧ V 46 = .bool false ∧ V 47 = .bool true ∧ V 48 = .bool true ∧ V 49 = .bool true ∧ V 50 = .bool false ∧ V 51 = .bool true ∧ V 52 = .bool true ∧ V 53 = undef ∧ V 54 = undef ∧ V 55 = undef ∧ V 56 = .bool true ∧ V 57 = .bool true ∧ V 58 = .bool true ∧ True := hval
    replace hmade : True := hmade
    obtain ⟨e3_0, e3_1, e3_2, e3_3, e3_4, e3_5, e3_6, e3_7, e3_8, e3_9, e3_10, e3_11, e3_12, e3_13, e3_14, e3_15, e3_16, e3_17, e3_18, e3_19, e3_20, e3_21, e3_22, e3_23, e3_24, e3_25, e3_26, e3_27, e3_28, e3_29, e3_30, e3_31, e3_32, e3_33, e3_34, e3_35, e3_36, e3_37, e3_38, e3_39, e3_40, e3_41, e3_42, e3_43, e3_44, e3_45, e3_46, e3_47, e3_48, e3_49, e3_50, e3_51, e3_52, e3_53, e3_54, e3_55, e3_56, e3_57, e3_58, -⟩ := hval
    obtain ⟨-⟩ := hmade
    clear hap
    simp only [fill, Act.put, e3_0, e3_1, e3_2, e3_3, e3_4, e3_5, e3_6, e3_7, e3_8, e3_9, e3_10, e3_11, e3_12, e3_13, e3_14, e3_15, e3_16, e3_17, e3_18, e3_19, e3_20, e3_21, e3_22, e3_23, e3_24, e3_25, e3_26, e3_27, e3_28, e3_29, e3_30, e3_31, e3_32, e3_33, e3_34, e3_35, e3_36, e3_37, e3_38, e3_39, e3_40, e3_41, e3_42, e3_43, e3_44, e3_45, e3_46, e3_47, e3_48, e3_49, e3_50, e3_51, e3_52, e3_53, e3_54, e3_55, e3_56, e3_57, e3_58]
    clear e3_0 e3_1 e3_2 e3_3 e3_4 e3_5 e3_6 e3_7 e3_8 e3_9 e3_10 e3_11 e3_12 e3_13 e3_14 e3_15 e3_16 e3_17 e3_18 e3_19 e3_20 e3_21 e3_22 e3_23 e3_24 e3_25 e3_26 e3_27 e3_28 e3_29 e3_30 e3_31 e3_32 e3_33 e3_34 e3_35 e3_36 e3_37 e3_38 e3_39 e3_40 e3_41 e3_42 e3_43 e3_44 e3_45 e3_46 e3_47 e3_48 e3_49 e3_50 e3_51 e3_52 e3_53 e3_54 e3_55 e3_56 e3_57 e3_58
    simp only [Exit.then]
    go_simp
    clear G V
    replace hy1_1 := way_blk hway hy1_1 hy1_1.lt (by simp [heldBy, Knd.blockOf])
    replace hy1_2 := way_blk hway hy1_2 hy1_2.lt (by simp [heldBy, Knd.blockOf])
    replace hB1_7 := hway.2.2
    clear hway
    go_wp2
    go_ret
    exact ⟨rfl, hB1_7⟩
set_option maxRecDepth 100000 in
set_option maxHeartbeats 8000000 in
theorem walk_01 (a b : Nat) (n : Int) (w : World) (ha : a < 2 ^ 256) (hb : b < 2 ^ 256) (h1 : -9223372036854775808 ≤ n) (h2 : n ≤ 9223372036854775807) (hs : Hid (¬ a < 2 ^ 63)) (hn : 0 ≤ n) : Calls Try.prog 3 #[.agg (wcells a), .agg (wcells b), .int .i64 n] w fun e w' => e = .returned (.bool true) ∧ Below w.heap.size w w' := by
  have hW := wordTy
  have zW := zWordL
  have HSW := Lib.hid wcells_size
  have H1W := Lib.hid wcells_one
  have HZW := Lib.hid wcells_lit0
  have C1 := Lib.hid (fun w => alive1 w)
  have C2 := Lib.hid (fun w => Int_no a w ha hs.out)
  have C3 := Lib.hid (fun w => RefInt_no a w ha hs.out)
  obtain ⟨z5, Ez5⟩ : ∃ z, z = ofN n := ⟨_, rfl⟩
  have hz5 : z5 < 2 ^ 256 := by rw [Ez5]; exact (ofN_lt _)
  have C4 := Lib.hid (fun w => Of_any n w h1 h2)
  rw [← Ez5] at C4
  have C6 := Lib.hid (fun w => Int_yes z5 w (by subst_vars; exact ofN_small hn h2))
  rw [show ((z5 : Nat) : Int) = n from by subst_vars; exact ofN_back hn h2] at C6
  have C7 := Lib.hid (fun w => Cmp_any a b w ha hb)
  have C8 := Lib.hid (fun w => RefCmp_any a b w ha hb)
  have C9 := Lib.hid (fun w => SCmp_all a b w ha hb)
  have C10 := Lib.hid (fun w => RefSCmp_all a b w ha hb)
  have C11 := Lib.hid (fun w => Bits_any a w ha)
  have C12 := Lib.hid (fun w => RefBits_any a w ha)
  have C13 := Lib.hid (fun w => RefOf_any n w h1 h2)
  rw [← Ez5] at C13
  have Q14 := Lib.hid (fun w => eq_word z5 z5 hz5 hz5 w)
  rw [decide_eq_true rfl] at Q14
  clear Ez5 hz5
  go_enter Try.func3, Try.ntmps3
  have tk0_0 : True := trivial
  have tk0_1 : True := trivial
  have tk0_2 : True := trivial
  have tk0_3 : True := trivial
  have tk0_4 : True := trivial
  have tk0_5 : True := trivial
  have tk0_6 : True := trivial
  have tk0_7 : True := trivial
  have tk0_8 : True := trivial
  go_wp2_with (first
    | ((with_reducible refine gd_box ?_); have _t := tk0_0; refine wpList_box_agg rfl _ (.tmp 0) rfl rfl ?_; clear tk0_0; intro w1 hx1 hb1 hl1; have hz1 := hx1.lt; have hs1 := hb1.size)
    | ((with_reducible refine gd_box ?_); have _t := tk0_1; refine wpList_box_agg rfl _ (.tmp 1) rfl rfl ?_; clear tk0_1; intro w2 hx2 hb2 hl2; have hz2 := hx2.lt; have hs2 := hb2.size)
    | (go_at_call 10; have _t := tk0_2; refine (C1.out _).mono ?_; clear tk0_2; rintro e w3 ⟨rfl, hb3⟩; have hs3 := hb3.size)
    | ((with_reducible refine gd_load ?_); have _t := tk0_3; refine wpList_load_blk rfl 23 (.tmp 3) rfl ((hx1.ext hb2).ext hb3) (by rw [HSW.out]; exact hW) rfl ?_; clear tk0_3)
    | (go_at_call 11; have _t := tk0_4; refine (C2.out _).mono ?_; clear tk0_4; rintro e w4 ⟨rfl, hb4⟩; have hs4 := hb4.size)
    | ((with_reducible refine gd_load ?_); have _t := tk0_5; refine wpList_load_blk rfl 23 (.tmp 3) rfl (((hx1.ext hb2).ext hb3).ext hb4) (by rw [HSW.out]; exact hW) rfl ?_; clear tk0_5)
    | (go_at_call 12; have _t := tk0_6; refine (C3.out _).mono ?_; clear tk0_6; rintro e w5 ⟨rfl, hb5⟩; have hs5 := hb5.size)
    | (go_at_call 13; have _t := tk0_7; refine (C4.out _).mono ?_; clear tk0_7; rintro e w6 ⟨rfl, hb6⟩; have hs6 := hb6.size)
    | (go_at_call 11; have _t := tk0_8; refine (C6.out _).mono ?_; clear tk0_8; rintro e w7 ⟨rfl, hb7⟩; have hs7 := hb7.size)
    | fail)
  have hy1_1 := ((((((hx1.ext hb2).ext hb3).ext hb4).ext hb5).ext hb6).ext hb7)
  have hy1_2 := (((((hx2.ext hb3).ext hb4).ext hb5).ext hb6).ext hb7)
  have hB1_1 := hb1
  have hB1_2 := below_step hB1_1 hb2
  have hB1_3 := below_step hB1_2 hb3
  have hB1_4 := below_step hB1_3 hb4
  have hB1_5 := below_step hB1_4 hb5
  have hB1_6 := below_step hB1_5 hb6
  have hB1_7 := below_step hB1_6 hb7
  clear hb1 hl1 hz1 hs1 hb2 hl2 hz2 hs2 hb3 hs3 hb4 hs4 hb5 hs5 hb6 hs6 hb7 hs7 hx1 hx2 hB1_1 hB1_2 hB1_3 hB1_4 hB1_5 hB1_6
  refine wp_region_made (w := w7) (B := w.heap.size) (wB := w) ((.val (.bool true)) :: (.val (.bool true)) :: (.val (.agg (wcells a))) :: (.val (.agg (wcells b))) :: (.val (.int .i64 (cmpN a b))) :: (.val (.agg (wcells a))) :: (.val (.agg (wcells b))) :: (.val (.int .i64 (cmpN a b))) :: (.val (.bool true)) :: (.val (.bool true)) :: (.val (.bool true)) :: (.val (.agg (wcells a))) :: (.val (.agg (wcells b))) :: (.val (.int .i64 (scmpN a b))) :: (.val (.agg (wcells a))) :: (.val (.agg (wcells b))) :: (.val (.int .i64 (scmpN a b))) :: (.val (.bool true)) :: (.val (.bool true)) :: (.val (.bool true)) :: (.val (.agg (wcells a))) :: (.val (.int .i64 ((blen a : Nat)))) :: (.val (.agg (wcells a))) :: (.val (.int .i64 ((blen a : Nat)))) :: (.val (.bool true)) :: (.val (.bool true)) :: (.val (.bool true)) :: (.val (.int .i64 0)) :: (.val (.int .i64 0)) :: (.val (.bool true)) :: (.val (.bool true)) :: (.val (.bool true)) :: (.val (.bool false)) :: (.val (.bool false)) :: (.val (.bool true)) :: (.val (.bool true)) :: (.val (.bool true)) :: (.val (.int .i64 n)) :: (.val (.agg (wcells z5))) :: (.val (.int .i64 n)) :: (.val (.agg (wcells z5))) :: (.val (.bool true)) :: (.val (.bool true)) :: (.val (.bool true)) :: (.val (.bool true)) :: (.val (.int .i64 n)) :: (.val (.bool true)) :: (.val (.bool true)) :: (.val (.bool true)) :: (.val (.bool true)) :: (.val (.bool true)) :: (.val (.bool false)) :: (.val (.bool false)) :: (.val (.int .i64 n)) :: (.val (.int .i64 n)) :: (.val (.bool true)) :: (.val (.bool true)) :: (.val (.bool true)) :: (.val (.bool true)) :: []) (by kernel_rfl) (by kernel_rfl) (by kernel_rfl) rfl (by kernel_rfl) rfl hB1_7.size hB1_7 (by exact List.nodup_nil) (by intro g hg; exact nomatch hg) trivial ?_ ?_
  · refine ⟨?_, ?_, ?_, ?_, ?_, ?_, ?_, ?_, ?_, ?_, ?_, ?_, ?_, ?_, ?_, ?_, ?_, ?_, ?_, ?_, ?_, ?_, ?_, ?_, ?_, ?_, ?_, ?_, ?_, ?_, ?_, ?_, ?_, ?_, ?_, ?_, ?_, ?_, ?_, ?_, ?_, ?_, ?_, ?_, ?_, ?_, ?_, ?_, ?_, ?_, ?_, ?_, ?_, ?_, ?_, ?_, ?_, ?_, ?_, trivial⟩
    · intro G wx fr hway _ hs hdef hsz
      have s7 : fr.tmps[7]? = some (.bool true) := hs.1
      clear hs
      refine ⟨?_⟩
      go_wp2
      exact kp_post hsz (Below.refl _ _)
    · intro G wx fr hway _ hs hdef hsz
      have s31 : fr.tmps[31]? = some (.bool true) := hs.1
      clear hs
      refine ⟨?_⟩
      go_wp2
      exact kp_post hsz (Below.refl _ _)
    · intro G wx fr hway _ hs hdef hsz
      have s3 : fr.tmps[3]? = some (.pointer (some ⟨w.heap.size, 0, none⟩)) := hs.1
      have s32 : fr.tmps[32]? = some (.bool true) := hs.2.1
      clear hs
      refine ⟨?_⟩
      refine wpList_load_want (by simp [Region.wanted, yielded, *]) 23 (.tmp 3) rfl (way_blk hway hy1_1 (by first | exact hy1_1.lt | omega) (by simp [heldBy, Knd.blockOf])) (by rw [HSW.out]; exact hW) (by simp [Act.eval, s3]) ?_
      refine wpList_nil ?_
      exact kp_val hdef hsz (Below.refl _ _)
    · intro G wx fr hway _ hs hdef hsz
      have s4 : fr.tmps[4]? = some (.pointer (some ⟨w1.heap.size, 0, none⟩)) := hs.1
      have s32 : fr.tmps[32]? = some (.bool true) := hs.2.1
      clear hs
      refine ⟨?_⟩
      refine wpList_load_want (by simp [Region.wanted, yielded, *]) 23 (.tmp 4) rfl (way_blk hway hy1_2 (by first | exact hy1_2.lt | omega) (by simp [heldBy, Knd.blockOf])) (by rw [HSW.out]; exact hW) (by simp [Act.eval, s4]) ?_
      refine wpList_nil ?_
      exact kp_val hdef hsz (Below.refl _ _)
    · intro G wx fr hway _ hs hdef hsz
      have s33 : fr.tmps[33]? = some (.agg (wcells a)) := hs.1
      have s34 : fr.tmps[34]? = some (.agg (wcells b)) := hs.2.1
      have s32 : fr.tmps[32]? = some (.bool true) := hs.2.2.1
      clear hs
      refine ⟨?_⟩
      go_wp2_with fail
      refine (C7.out wx).mono ?_
      rintro e w2 ⟨rfl, hb2⟩
      go_wp2
      exact kp_post hsz hb2
    · intro G wx fr hway _ hs hdef hsz
      have s3 : fr.tmps[3]? = some (.pointer (some ⟨w.heap.size, 0, none⟩)) := hs.1
      have s32 : fr.tmps[32]? = some (.bool true) := hs.2.1
      clear hs
      refine ⟨?_⟩
      refine wpList_load_want (by simp [Region.wanted, yielded, *]) 23 (.tmp 3) rfl (way_blk hway hy1_1 (by first | exact hy1_1.lt | omega) (by simp [heldBy, Knd.blockOf])) (by rw [HSW.out]; exact hW) (by simp [Act.eval, s3]) ?_
      refine wpList_nil ?_
      exact kp_val hdef hsz (Below.refl _ _)
    · intro G wx fr hway _ hs hdef hsz
      have s4 : fr.tmps[4]? = some (.pointer (some ⟨w1.heap.size, 0, none⟩)) := hs.1
      have s32 : fr.tmps[32]? = some (.bool true) := hs.2.1
      clear hs
      refine ⟨?_⟩
      refine wpList_load_want (by simp [Region.wanted, yielded, *]) 23 (.tmp 4) rfl (way_blk hway hy1_2 (by first | exact hy1_2.lt | omega) (by simp [heldBy, Knd.blockOf])) (by rw [HSW.out]; exact hW) (by simp [Act.eval, s4]) ?_
      refine wpList_nil ?_
      exact kp_val hdef hsz (Below.refl _ _)
    · intro G wx fr hway _ hs hdef hsz
      have s36 : fr.tmps[36]? = some (.agg (wcells a)) := hs.1
      have s37 : fr.tmps[37]? = some (.agg (wcells b)) := hs.2.1
      have s32 : fr.tmps[32]? = some (.bool true) := hs.2.2.1
      clear hs
      refine ⟨?_⟩
      go_wp2_with fail
      refine (C8.out wx).mono ?_
      rintro e w2 ⟨rfl, hb2⟩
      go_wp2
      exact kp_post hsz hb2
    · intro G wx fr hway _ hs hdef hsz
      have s35 : fr.tmps[35]? = some (.int .i64 (cmpN a b)) := hs.1
      have s38 : fr.tmps[38]? = some (.int .i64 (cmpN a b)) := hs.2.1
      have s32 : fr.tmps[32]? = some (.bool true) := hs.2.2.1
      clear hs
      refine ⟨?_⟩
      go_wp2
      exact kp_post hsz (Below.refl _ _)
    · intro G wx fr hway _ hs hdef hsz
      have s32 : fr.tmps[32]? = some (.bool true) := hs.1
      have s39 : fr.tmps[39]? = some (.bool true) := hs.2.1
      clear hs
      refine ⟨?_⟩
      go_wp2
      exact kp_post hsz (Below.refl _ _)
    · intro G wx fr hway _ hs hdef hsz
      have s40 : fr.tmps[40]? = some (.bool true) := hs.1
      clear hs
      refine ⟨?_⟩
      go_wp2
      exact kp_post hsz (Below.refl _ _)
    · intro G wx fr hway _ hs hdef hsz
      have s3 : fr.tmps[3]? = some (.pointer (some ⟨w.heap.size, 0, none⟩)) := hs.1
      have s41 : fr.tmps[41]? = some (.bool true) := hs.2.1
      clear hs
      refine ⟨?_⟩
      refine wpList_load_want (by simp [Region.wanted, yielded, *]) 23 (.tmp 3) rfl (way_blk hway hy1_1 (by first | exact hy1_1.lt | omega) (by simp [heldBy, Knd.blockOf])) (by rw [HSW.out]; exact hW) (by simp [Act.eval, s3]) ?_
      refine wpList_nil ?_
      exact kp_val hdef hsz (Below.refl _ _)
    · intro G wx fr hway _ hs hdef hsz
      have s4 : fr.tmps[4]? = some (.pointer (some ⟨w1.heap.size, 0, none⟩)) := hs.1
      have s41 : fr.tmps[41]? = some (.bool true) := hs.2.1
      clear hs
      refine ⟨?_⟩
      refine wpList_load_want (by simp [Region.wanted, yielded, *]) 23 (.tmp 4) rfl (way_blk hway hy1_2 (by first | exact hy1_2.lt | omega) (by simp [heldBy, Knd.blockOf])) (by rw [HSW.out]; exact hW) (by simp [Act.eval, s4]) ?_
      refine wpList_nil ?_
      exact kp_val hdef hsz (Below.refl _ _)
    · intro G wx fr hway _ hs hdef hsz
      have s42 : fr.tmps[42]? = some (.agg (wcells a)) := hs.1
      have s43 : fr.tmps[43]? = some (.agg (wcells b)) := hs.2.1
      have s41 : fr.tmps[41]? = some (.bool true) := hs.2.2.1
      clear hs
      refine ⟨?_⟩
      go_wp2_with fail
      refine (C9.out wx).mono ?_
      rintro e w2 ⟨rfl, hb2⟩
      go_wp2
      exact kp_post hsz hb2
    · intro G wx fr hway _ hs hdef hsz
      have s3 : fr.tmps[3]? = some (.pointer (some ⟨w.heap.size, 0, none⟩)) := hs.1
      have s41 : fr.tmps[41]? = some (.bool true) := hs.2.1
      clear hs
      refine ⟨?_⟩
      refine wpList_load_want (by simp [Region.wanted, yielded, *]) 23 (.tmp 3) rfl (way_blk hway hy1_1 (by first | exact hy1_1.lt | omega) (by simp [heldBy, Knd.blockOf])) (by rw [HSW.out]; exact hW) (by simp [Act.eval, s3]) ?_
      refine wpList_nil ?_
      exact kp_val hdef hsz (Below.refl _ _)
    · intro G wx fr hway _ hs hdef hsz
      have s4 : fr.tmps[4]? = some (.pointer (some ⟨w1.heap.size, 0, none⟩)) := hs.1
      have s41 : fr.tmps[41]? = some (.bool true) := hs.2.1
      clear hs
      refine ⟨?_⟩
      refine wpList_load_want (by simp [Region.wanted, yielded, *]) 23 (.tmp 4) rfl (way_blk hway hy1_2 (by first | exact hy1_2.lt | omega) (by simp [heldBy, Knd.blockOf])) (by rw [HSW.out]; exact hW) (by simp [Act.eval, s4]) ?_
      refine wpList_nil ?_
      exact kp_val hdef hsz (Below.refl _ _)
    · intro G wx fr hway _ hs hdef hsz
      have s45 : fr.tmps[45]? = some (.agg (wcells a)) := hs.1
      have s46 : fr.tmps[46]? = some (.agg (wcells b)) := hs.2.1
      have s41 : fr.tmps[41]? = some (.bool true) := hs.2.2.1
      clear hs
      refine ⟨?_⟩
      go_wp2_with fail
      refine (C10.out wx).mono ?_
      rintro e w2 ⟨rfl, hb2⟩
      go_wp2
      exact kp_post hsz hb2
    · intro G wx fr hway _ hs hdef hsz
      have s44 : fr.tmps[44]? = some (.int .i64 (scmpN a b)) := hs.1
      have s47 : fr.tmps[47]? = some (.int .i64 (scmpN a b)) := hs.2.1
      have s41 : fr.tmps[41]? = some (.bool true) := hs.2.2.1
      clear hs
      refine ⟨?_⟩
      go_wp2
      exact kp_post hsz (Below.refl _ _)
    · intro G wx fr hway _ hs hdef hsz
      have s41 : fr.tmps[41]? = some (.bool true) := hs.1
      have s48 : fr.tmps[48]? = some (.bool true) := hs.2.1
      clear hs
      refine ⟨?_⟩
      go_wp2
      exact kp_post hsz (Below.refl _ _)
    · intro G wx fr hway _ hs hdef hsz
      have s49 : fr.tmps[49]? = some (.bool true) := hs.1
      clear hs
      refine ⟨?_⟩
      go_wp2
      exact kp_post hsz (Below.refl _ _)
    · intro G wx fr hway _ hs hdef hsz
      have s3 : fr.tmps[3]? = some (.pointer (some ⟨w.heap.size, 0, none⟩)) := hs.1
      have s50 : fr.tmps[50]? = some (.bool true) := hs.2.1
      clear hs
      refine ⟨?_⟩
      refine wpList_load_want (by simp [Region.wanted, yielded, *]) 23 (.tmp 3) rfl (way_blk hway hy1_1 (by first | exact hy1_1.lt | omega) (by simp [heldBy, Knd.blockOf])) (by rw [HSW.out]; exact hW) (by simp [Act.eval, s3]) ?_
      refine wpList_nil ?_
      exact kp_val hdef hsz (Below.refl _ _)
    · intro G wx fr hway _ hs hdef hsz
      have s51 : fr.tmps[51]? = some (.agg (wcells a)) := hs.1
      have s50 : fr.tmps[50]? = some (.bool true) := hs.2.1
      clear hs
      refine ⟨?_⟩
      go_wp2_with fail
      refine (C11.out wx).mono ?_
      rintro e w2 ⟨rfl, hb2⟩
      go_wp2
      exact kp_post hsz hb2
    · intro G wx fr hway _ hs hdef hsz
      have s3 : fr.tmps[3]? = some (.pointer (some ⟨w.heap.size, 0, none⟩)) := hs.1
      have s50 : fr.tmps[50]? = some (.bool true) := hs.2.1
      clear hs
      refine ⟨?_⟩
      refine wpList_load_want (by simp [Region.wanted, yielded, *]) 23 (.tmp 3) rfl (way_blk hway hy1_1 (by first | exact hy1_1.lt | omega) (by simp [heldBy, Knd.blockOf])) (by rw [HSW.out]; exact hW) (by simp [Act.eval, s3]) ?_
      refine wpList_nil ?_
      exact kp_val hdef hsz (Below.refl _ _)
    · intro G wx fr hway _ hs hdef hsz
      have s53 : fr.tmps[53]? = some (.agg (wcells a)) := hs.1
      have s50 : fr.tmps[50]? = some (.bool true) := hs.2.1
      clear hs
      refine ⟨?_⟩
      go_wp2_with fail
      refine (C12.out wx).mono ?_
      rintro e w2 ⟨rfl, hb2⟩
      go_wp2
      exact kp_post hsz hb2
    · intro G wx fr hway _ hs hdef hsz
      have s52 : fr.tmps[52]? = some (.int .i64 ((blen a : Nat))) := hs.1
      have s54 : fr.tmps[54]? = some (.int .i64 ((blen a : Nat))) := hs.2.1
      have s50 : fr.tmps[50]? = some (.bool true) := hs.2.2.1
      clear hs
      refine ⟨?_⟩
      go_wp2
      exact kp_post hsz (Below.refl _ _)
    · intro G wx fr hway _ hs hdef hsz
      have s50 : fr.tmps[50]? = some (.bool true) := hs.1
      have s55 : fr.tmps[55]? = some (.bool true) := hs.2.1
      clear hs
      refine ⟨?_⟩
      go_wp2
      exact kp_post hsz (Below.refl _ _)
    · intro G wx fr hway _ hs hdef hsz
      have s56 : fr.tmps[56]? = some (.bool true) := hs.1
      clear hs
      refine ⟨?_⟩
      go_wp2
      exact kp_post hsz (Below.refl _ _)
    · intro G wx fr hway _ hs hdef hsz
      have s8 : fr.tmps[8]? = some (.int .i64 0) := hs.1
      have s57 : fr.tmps[57]? = some (.bool true) := hs.2.1
      clear hs
      refine ⟨?_⟩
      go_wp2
      exact kp_post hsz (Below.refl _ _)
    · intro G wx fr hway _ hs hdef hsz
      have s10 : fr.tmps[10]? = some (.int .i64 0) := hs.1
      have s57 : fr.tmps[57]? = some (.bool true) := hs.2.1
      clear hs
      refine ⟨?_⟩
      go_wp2
      exact kp_post hsz (Below.refl _ _)
    · intro G wx fr hway _ hs hdef hsz
      have s58 : fr.tmps[58]? = some (.int .i64 0) := hs.1
      have s59 : fr.tmps[59]? = some (.int .i64 0) := hs.2.1
      have s57 : fr.tmps[57]? = some (.bool true) := hs.2.2.1
      clear hs
      refine ⟨?_⟩
      go_wp2
      exact kp_post hsz (Below.refl _ _)
    · intro G wx fr hway _ hs hdef hsz
      have s57 : fr.tmps[57]? = some (.bool true) := hs.1
      have s60 : fr.tmps[60]? = some (.bool true) := hs.2.1
      clear hs
      refine ⟨?_⟩
      go_wp2
      exact kp_post hsz (Below.refl _ _)
    · intro G wx fr hway _ hs hdef hsz
      have s61 : fr.tmps[61]? = some (.bool true) := hs.1
      clear hs
      refine ⟨?_⟩
      go_wp2
      exact kp_post hsz (Below.refl _ _)
    · intro G wx fr hway _ hs hdef hsz
      have s9 : fr.tmps[9]? = some (.bool false) := hs.1
      have s62 : fr.tmps[62]? = some (.bool true) := hs.2.1
      clear hs
      refine ⟨?_⟩
      go_wp2
      exact kp_post hsz (Below.refl _ _)
    · intro G wx fr hway _ hs hdef hsz
      have s11 : fr.tmps[11]? = some (.bool false) := hs.1
      have s62 : fr.tmps[62]? = some (.bool true) := hs.2.1
      clear hs
      refine ⟨?_⟩
      go_wp2
      exact kp_post hsz (Below.refl _ _)
    · intro G wx fr hway _ hs hdef hsz
      have s63 : fr.tmps[63]? = some (.bool false) := hs.1
      have s64 : fr.tmps[64]? = some (.bool false) := hs.2.1
      have s62 : fr.tmps[62]? = some (.bool true) := hs.2.2.1
      clear hs
      refine ⟨?_⟩
      go_wp2
      exact kp_post hsz (Below.refl _ _)
    · intro G wx fr hway _ hs hdef hsz
      have s62 : fr.tmps[62]? = some (.bool true) := hs.1
      have s65 : fr.tmps[65]? = some (.bool true) := hs.2.1
      clear hs
      refine ⟨?_⟩
      go_wp2
      exact kp_post hsz (Below.refl _ _)
    · intro G wx fr hway _ hs hdef hsz
      have s66 : fr.tmps[66]? = some (.bool true) := hs.1
      clear hs
      refine ⟨?_⟩
      go_wp2
      exact kp_post hsz (Below.refl _ _)
    · intro G wx fr hway _ hs hdef hsz
      have s2 : fr.tmps[2]? = some (.int .i64 n) := hs.1
      have s67 : fr.tmps[67]? = some (.bool true) := hs.2.1
      clear hs
      refine ⟨?_⟩
      go_wp2
      exact kp_post hsz (Below.refl _ _)
    · intro G wx fr hway _ hs hdef hsz
      have s68 : fr.tmps[68]? = some (.int .i64 n) := hs.1
      have s67 : fr.tmps[67]? = some (.bool true) := hs.2.1
      clear hs
      refine ⟨?_⟩
      go_wp2_with fail
      refine (C4.out wx).mono ?_
      rintro e w2 ⟨rfl, hb2⟩
      go_wp2
      exact kp_post hsz hb2
    · intro G wx fr hway _ hs hdef hsz
      have s2 : fr.tmps[2]? = some (.int .i64 n) := hs.1
      have s67 : fr.tmps[67]? = some (.bool true) := hs.2.1
      clear hs
      refine ⟨?_⟩
      go_wp2
      exact kp_post hsz (Below.refl _ _)
    · intro G wx fr hway _ hs hdef hsz
      have s70 : fr.tmps[70]? = some (.int .i64 n) := hs.1
      have s67 : fr.tmps[67]? = some (.bool true) := hs.2.1
      clear hs
      refine ⟨?_⟩
      go_wp2_with fail
      refine (C13.out wx).mono ?_
      rintro e w2 ⟨rfl, hb2⟩
      go_wp2
      exact kp_post hsz hb2
    · intro G wx fr hway _ hs hdef hsz
      have s69 : fr.tmps[69]? = some (.agg (wcells z5)) := hs.1
      have s71 : fr.tmps[71]? = some (.agg (wcells z5)) := hs.2.1
      have s67 : fr.tmps[67]? = some (.bool true) := hs.2.2.1
      clear hs
      have hq := Q14.out
      refine ⟨?_⟩
      go_wp2
      exact kp_post hsz (Below.refl _ _)
    · intro G wx fr hway _ hs hdef hsz
      have s67 : fr.tmps[67]? = some (.bool true) := hs.1
      have s72 : fr.tmps[72]? = some (.bool true) := hs.2.1
      clear hs
      refine ⟨?_⟩
      go_wp2
      exact kp_post hsz (Below.refl _ _)
    · intro G wx fr hway _ hs hdef hsz
      have s73 : fr.tmps[73]? = some (.bool true) := hs.1
      clear hs
      refine ⟨?_⟩
      go_wp2
      exact kp_post hsz (Below.refl _ _)
    · intro G wx fr hway _ hs hdef hsz
      have s13 : fr.tmps[13]? = some (.bool true) := hs.1
      have s74 : fr.tmps[74]? = some (.bool true) := hs.2.1
      clear hs
      refine ⟨?_⟩
      go_wp2
      exact kp_post hsz (Below.refl _ _)
    · intro G wx fr hway _ hs hdef hsz
      have s2 : fr.tmps[2]? = some (.int .i64 n) := hs.1
      have s74 : fr.tmps[74]? = some (.bool true) := hs.2.1
      clear hs
      refine ⟨?_⟩
      go_wp2
      exact kp_post hsz (Below.refl _ _)
    · intro G wx fr hway _ hs hdef hsz
      have s76 : fr.tmps[76]? = some (.int .i64 n) := hs.1
      have s74 : fr.tmps[74]? = some (.bool true) := hs.2.1
      clear hs
      refine ⟨?_⟩
      go_wp2
      exact kp_post hsz (Below.refl _ _)
    · intro G wx fr hway _ hs hdef hsz
      have s75 : fr.tmps[75]? = some (.bool true) := hs.1
      have s77 : fr.tmps[77]? = some (.bool true) := hs.2.1
      have s74 : fr.tmps[74]? = some (.bool true) := hs.2.2.1
      clear hs
      refine ⟨?_⟩
      go_wp2
      exact kp_post hsz (Below.refl _ _)
    · intro G wx fr hway _ hs hdef hsz
      have s74 : fr.tmps[74]? = some (.bool true) := hs.1
      have s78 : fr.tmps[78]? = some (.bool true) := hs.2.1
      clear hs
      refine ⟨?_⟩
      go_wp2
      exact kp_post hsz (Below.refl _ _)
    · intro G wx fr hway _ hs hdef hsz
      have s79 : fr.tmps[79]? = some (.bool true) := hs.1
      clear hs
      refine ⟨?_⟩
      go_wp2
      exact kp_post hsz (Below.refl _ _)
    · intro G wx fr hway _ hs hdef hsz
      have s13 : fr.tmps[13]? = some (.bool true) := hs.1
      have s80 : fr.tmps[80]? = some (.bool true) := hs.2.1
      clear hs
      refine ⟨?_⟩
      go_wp2
      exact kp_post hsz (Below.refl _ _)
    · intro G wx fr hway _ hs hdef hsz
      have s81 : fr.tmps[81]? = some (.bool true) := hs.1
      have s80 : fr.tmps[80]? = some (.bool true) := hs.2.1
      clear hs
      refine ⟨?_⟩
      go_wp2
      exact kp_post hsz (Below.refl _ _)
    · intro G wx fr hway _ hs hdef hsz
      have s82 : fr.tmps[82]? = some (.bool false) := hs.1
      have s80 : fr.tmps[80]? = some (.bool true) := hs.2.1
      clear hs
      refine ⟨?_⟩
      go_wp2
      exact kp_post hsz (Below.refl _ _)
    · intro G wx fr hway _ hs hdef hsz
      have s12 : fr.tmps[12]? = some (.int .i64 n) := hs.1
      have s83 : fr.tmps[83]? = some (.bool false) := hs.2.1
      clear hs
      refine ⟨?_⟩
      go_wp2
      exact kp_post hsz (Below.refl _ _)
    · intro G wx fr hway _ hs hdef hsz
      have s2 : fr.tmps[2]? = some (.int .i64 n) := hs.1
      have s83 : fr.tmps[83]? = some (.bool false) := hs.2.1
      clear hs
      refine ⟨?_⟩
      go_wp2
      exact kp_post hsz (Below.refl _ _)
    · intro G wx fr hway _ hs hdef hsz
      have s84 : fr.tmps[84]? = some (.int .i64 n) := hs.1
      have s85 : fr.tmps[85]? = some (.int .i64 n) := hs.2.1
      have s83 : fr.tmps[83]? = some (.bool false) := hs.2.2.1
      clear hs
      refine ⟨?_⟩
      go_wp2
      exact kp_post hsz (Below.refl _ _)
    · intro G wx fr hway _ hs hdef hsz
      have s83 : fr.tmps[83]? = some (.bool false) := hs.1
      have s86 : fr.tmps[86]? = some (.bool true) := hs.2.1
      have s80 : fr.tmps[80]? = some (.bool true) := hs.2.2.1
      clear hs
      refine ⟨?_⟩
      go_wp2
      exact kp_post hsz (Below.refl _ _)
    · intro G wx fr hway _ hs hdef hsz
      have s80 : fr.tmps[80]? = some (.bool true) := hs.1
      have s87 : fr.tmps[87]? = some (.bool true) := hs.2.1
      clear hs
      refine ⟨?_⟩
      go_wp2
      exact kp_post hsz (Below.refl _ _)
    · intro G wx fr hway _ hs hdef hsz
      have s88 : fr.tmps[88]? = some (.bool true) := hs.1
      clear hs
      refine ⟨?_⟩
      go_wp2
      exact kp_post hsz (Below.refl _ _)
  · intro G V wr3 hval hway hmade hap
    replace hval : V 0 = .bool true ∧ V 1 = .bool true ∧ V 2 = .agg (wcells a) ∧ V 3 = .agg (wcells b) ∧ V 4 = .int .i64 (cmpN a b) ∧ V 5 = .agg (wcells a) ∧ V 6 = .agg (wcells b) ∧ V 7 = .int .i64 (cmpN a b) ∧ V 8 = .bool true ∧ V 9 = .bool true ∧ V 10 = .bool true ∧ V 11 = .agg (wcells a) ∧ V 12 = .agg (wcells b) ∧ V 13 = .int .i64 (scmpN a b) ∧ V 14 = .agg (wcells a) ∧ V 15 = .agg (wcells b) ∧ V 16 = .int .i64 (scmpN a b) ∧ V 17 = .bool true ∧ V 18 = .bool true ∧ V 19 = .bool true ∧ V 20 = .agg (wcells a) ∧ V 21 = .int .i64 ((blen a : Nat)) ∧ V 22 = .agg (wcells a) ∧ V 23 = .int .i64 ((blen a : Nat)) ∧ V 24 = .bool true ∧ V 25 = .bool true ∧ V 26 = .bool true ∧ V 27 = .int .i64 0 ∧ V 28 = .int .i64 0 ∧ V 29 = .bool true ∧ V 30 = .bool true ∧ V 31 = .bool true ∧ V 32 = .bool false ∧ V 33 = .bool false ∧ V 34 = .bool true ∧ V 35 = .bool true ∧ V 36 = .bool true ∧ V 37 = .int .i64 n ∧ V 38 = .agg (wcells z5) ∧ V 39 = .int .i64 n ∧ V 40 = .agg (wcells z5) ∧ V 41 = .bool true ∧ V 42 = .bool true ∧ V 43 = .bool true ∧ V 44 = .bool true ∧ V 45 = .int .i64 n ∧ V 46 = .bool true ∧ V 47 = .bool true ∧ V 48 = .bool true ∧ V 49 = .bool true ∧ V 50 = .bool true ∧ V 51 = .bool false ∧ V 52 = .bool false ∧ V 53 = .int .i64 n ∧ V 54 = .int .i64 n ∧ V 55 = .bool true ∧ V 56 = .bool true ∧ V 57 = .bool true ∧ V 58 = .bool true ∧ True := hval
    replace hmade : True := hmade
    obtain ⟨e3_0, e3_1, e3_2, e3_3, e3_4, e3_5, e3_6, e3_7, e3_8, e3_9, e3_10, e3_11, e3_12, e3_13, e3_14, e3_15, e3_16, e3_17, e3_18, e3_19, e3_20, e3_21, e3_22, e3_23, e3_24, e3_25, e3_26, e3_27, e3_28, e3_29, e3_30, e3_31, e3_32, e3_33, e3_34, e3_35, e3_36, e3_37, e3_38, e3_39, e3_40, e3_41, e3_42, e3_43, e3_44, e3_45, e3_46, e3_47, e3_48, e3_49, e3_50, e3_51, e3_52, e3_53, e3_54, e3_55, e3_56, e3_57, e3_58, -⟩ := hval
    obtain ⟨-⟩ := hmade
    clear hap
    simp only [fill, Act.put, e3_0, e3_1, e3_2, e3_3, e3_4, e3_5, e3_6, e3_7, e3_8, e3_9, e3_10, e3_11, e3_12, e3_13, e3_14, e3_15, e3_16, e3_17, e3_18, e3_19, e3_20, e3_21, e3_22, e3_23, e3_24, e3_25, e3_26, e3_27, e3_28, e3_29, e3_30, e3_31, e3_32, e3_33, e3_34, e3_35, e3_36, e3_37, e3_38, e3_39, e3_40, e3_41, e3_42, e3_43, e3_44, e3_45, e3_46, e3_47, e3_48, e3_49, e3_50, e3_51, e3_52, e3_53, e3_54, e3_55, e3_56, e3_57, e3_58]
    clear e3_0 e3_1 e3_2 e3_3 e3_4 e3_5 e3_6 e3_7 e3_8 e3_9 e3_10 e3_11 e3_12 e3_13 e3_14 e3_15 e3_16 e3_17 e3_18 e3_19 e3_20 e3_21 e3_22 e3_23 e3_24 e3_25 e3_26 e3_27 e3_28 e3_29 e3_30 e3_31 e3_32 e3_33 e3_34 e3_35 e3_36 e3_37 e3_38 e3_39 e3_40 e3_41 e3_42 e3_43 e3_44 e3_45 e3_46 e3_47 e3_48 e3_49 e3_50 e3_51 e3_52 e3_53 e3_54 e3_55 e3_56 e3_57 e3_58
    simp only [Exit.then]
    go_simp
    clear G V
    replace hy1_1 := way_blk hway hy1_1 hy1_1.lt (by simp [heldBy, Knd.blockOf])
    replace hy1_2 := way_blk hway hy1_2 hy1_2.lt (by simp [heldBy, Knd.blockOf])
    replace hB1_7 := hway.2.2
    clear hway
    go_wp2
    go_ret
    exact ⟨rfl, hB1_7⟩
set_option maxRecDepth 100000 in
set_option maxHeartbeats 8000000 in
theorem walk_00 (a b : Nat) (n : Int) (w : World) (ha : a < 2 ^ 256) (hb : b < 2 ^ 256) (h1 : -9223372036854775808 ≤ n) (h2 : n ≤ 9223372036854775807) (hs : Hid (¬ a < 2 ^ 63)) (hn : n < 0) (hnd : decide ((0 : Int) ≤ n) = false) : Calls Try.prog 3 #[.agg (wcells a), .agg (wcells b), .int .i64 n] w fun e w' => e = .returned (.bool true) ∧ Below w.heap.size w w' := by
  have hW := wordTy
  have zW := zWordL
  have HSW := Lib.hid wcells_size
  have H1W := Lib.hid wcells_one
  have HZW := Lib.hid wcells_lit0
  have C1 := Lib.hid (fun w => alive1 w)
  have C2 := Lib.hid (fun w => Int_no a w ha hs.out)
  have C3 := Lib.hid (fun w => RefInt_no a w ha hs.out)
  obtain ⟨z5, Ez5⟩ : ∃ z, z = ofN n := ⟨_, rfl⟩
  have hz5 : z5 < 2 ^ 256 := by rw [Ez5]; exact (ofN_lt _)
  have C4 := Lib.hid (fun w => Of_any n w h1 h2)
  rw [← Ez5] at C4
  have C6 := Lib.hid (fun w => Int_no z5 w hz5 (by subst_vars; exact ofN_big hn h1))
  have C7 := Lib.hid (fun w => Cmp_any a b w ha hb)
  have C8 := Lib.hid (fun w => RefCmp_any a b w ha hb)
  have C9 := Lib.hid (fun w => SCmp_all a b w ha hb)
  have C10 := Lib.hid (fun w => RefSCmp_all a b w ha hb)
  have C11 := Lib.hid (fun w => Bits_any a w ha)
  have C12 := Lib.hid (fun w => RefBits_any a w ha)
  have C13 := Lib.hid (fun w => RefOf_any n w h1 h2)
  rw [← Ez5] at C13
  have Q14 := Lib.hid (fun w => eq_word z5 z5 hz5 hz5 w)
  rw [decide_eq_true rfl] at Q14
  clear Ez5 hz5
  go_enter Try.func3, Try.ntmps3
  have tk0_0 : True := trivial
  have tk0_1 : True := trivial
  have tk0_2 : True := trivial
  have tk0_3 : True := trivial
  have tk0_4 : True := trivial
  have tk0_5 : True := trivial
  have tk0_6 : True := trivial
  have tk0_7 : True := trivial
  have tk0_8 : True := trivial
  go_wp2_with (first
    | ((with_reducible refine gd_box ?_); have _t := tk0_0; refine wpList_box_agg rfl _ (.tmp 0) rfl rfl ?_; clear tk0_0; intro w1 hx1 hb1 hl1; have hz1 := hx1.lt; have hs1 := hb1.size)
    | ((with_reducible refine gd_box ?_); have _t := tk0_1; refine wpList_box_agg rfl _ (.tmp 1) rfl rfl ?_; clear tk0_1; intro w2 hx2 hb2 hl2; have hz2 := hx2.lt; have hs2 := hb2.size)
    | (go_at_call 10; have _t := tk0_2; refine (C1.out _).mono ?_; clear tk0_2; rintro e w3 ⟨rfl, hb3⟩; have hs3 := hb3.size)
    | ((with_reducible refine gd_load ?_); have _t := tk0_3; refine wpList_load_blk rfl 23 (.tmp 3) rfl ((hx1.ext hb2).ext hb3) (by rw [HSW.out]; exact hW) rfl ?_; clear tk0_3)
    | (go_at_call 11; have _t := tk0_4; refine (C2.out _).mono ?_; clear tk0_4; rintro e w4 ⟨rfl, hb4⟩; have hs4 := hb4.size)
    | ((with_reducible refine gd_load ?_); have _t := tk0_5; refine wpList_load_blk rfl 23 (.tmp 3) rfl (((hx1.ext hb2).ext hb3).ext hb4) (by rw [HSW.out]; exact hW) rfl ?_; clear tk0_5)
    | (go_at_call 12; have _t := tk0_6; refine (C3.out _).mono ?_; clear tk0_6; rintro e w5 ⟨rfl, hb5⟩; have hs5 := hb5.size)
    | (go_at_call 13; have _t := tk0_7; refine (C4.out _).mono ?_; clear tk0_7; rintro e w6 ⟨rfl, hb6⟩; have hs6 := hb6.size)
    | (go_at_call 11; have _t := tk0_8; refine (C6.out _).mono ?_; clear tk0_8; rintro e w7 ⟨rfl, hb7⟩; have hs7 := hb7.size)
    | fail)
  have hy1_1 := ((((((hx1.ext hb2).ext hb3).ext hb4).ext hb5).ext hb6).ext hb7)
  have hy1_2 := (((((hx2.ext hb3).ext hb4).ext hb5).ext hb6).ext hb7)
  have hB1_1 := hb1
  have hB1_2 := below_step hB1_1 hb2
  have hB1_3 := below_step hB1_2 hb3
  have hB1_4 := below_step hB1_3 hb4
  have hB1_5 := below_step hB1_4 hb5
  have hB1_6 := below_step hB1_5 hb6
  have hB1_7 := below_step hB1_6 hb7
  clear hb1 hl1 hz1 hs1 hb2 hl2 hz2 hs2 hb3 hs3 hb4 hs4 hb5 hs5 hb6 hs6 hb7 hs7 hx1 hx2 hB1_1 hB1_2 hB1_3 hB1_4 hB1_5 hB1_6
  refine wp_region_made (w := w7) (B := w.heap.size) (wB := w) ((.val (.bool true)) :: (.val (.bool true)) :: (.val (.agg (wcells a))) :: (.val (.agg (wcells b))) :: (.val (.int .i64 (cmpN a b))) :: (.val (.agg (wcells a))) :: (.val (.agg (wcells b))) :: (.val (.int .i64 (cmpN a b))) :: (.val (.bool true)) :: (.val (.bool true)) :: (.val (.bool true)) :: (.val (.agg (wcells a))) :: (.val (.agg (wcells b))) :: (.val (.int .i64 (scmpN a b))) :: (.val (.agg (wcells a))) :: (.val (.agg (wcells b))) :: (.val (.int .i64 (scmpN a b))) :: (.val (.bool true)) :: (.val (.bool true)) :: (.val (.bool true)) :: (.val (.agg (wcells a))) :: (.val (.int .i64 ((blen a : Nat)))) :: (.val (.agg (wcells a))) :: (.val (.int .i64 ((blen a : Nat)))) :: (.val (.bool true)) :: (.val (.bool true)) :: (.val (.bool true)) :: (.val (.int .i64 0)) :: (.val (.int .i64 0)) :: (.val (.bool true)) :: (.val (.bool true)) :: (.val (.bool true)) :: (.val (.bool false)) :: (.val (.bool false)) :: (.val (.bool true)) :: (.val (.bool true)) :: (.val (.bool true)) :: (.val (.int .i64 n)) :: (.val (.agg (wcells z5))) :: (.val (.int .i64 n)) :: (.val (.agg (wcells z5))) :: (.val (.bool true)) :: (.val (.bool true)) :: (.val (.bool true)) :: (.val (.bool false)) :: (.val (.int .i64 n)) :: (.val (.bool false)) :: (.val (.bool true)) :: (.val (.bool true)) :: (.val (.bool true)) :: (.val (.bool false)) :: (.val (.bool true)) :: (.val (.bool true)) :: (.val undef) :: (.val undef) :: (.val undef) :: (.val (.bool true)) :: (.val (.bool true)) :: (.val (.bool true)) :: []) (by kernel_rfl) (by kernel_rfl) (by kernel_rfl) rfl (by kernel_rfl) rfl hB1_7.size hB1_7 (by exact List.nodup_nil) (by intro g hg; exact nomatch hg) trivial ?_ ?_
  · refine ⟨?_, ?_, ?_, ?_, ?_, ?_, ?_, ?_, ?_, ?_, ?_, ?_, ?_, ?_, ?_, ?_, ?_, ?_, ?_, ?_, ?_, ?_, ?_, ?_, ?_, ?_, ?_, ?_, ?_, ?_, ?_, ?_, ?_, ?_, ?_, ?_, ?_, ?_, ?_, ?_, ?_, ?_, ?_, ?_, ?_, ?_, ?_, ?_, ?_, ?_, ?_, ?_, ?_, ?_, ?_, ?_, ?_, ?_, ?_, trivial⟩
    · intro G wx fr hway _ hs hdef hsz
      have s7 : fr.tmps[7]? = some (.bool true) := hs.1
      clear hs
      refine ⟨?_⟩
      go_wp2
      exact kp_post hsz (Below.refl _ _)
    · intro G wx fr hway _ hs hdef hsz
      have s31 : fr.tmps[31]? = some (.bool true) := hs.1
      clear hs
      refine ⟨?_⟩
      go_wp2
      exact kp_post hsz (Below.refl _ _)
    · intro G wx fr hway _ hs hdef hsz
      have s3 : fr.tmps[3]? = some (.pointer (some ⟨w.heap.size, 0, none⟩)) := hs.1
      have s32 : fr.tmps[32]? = some (.bool true) := hs.2.1
      clear hs
      refine ⟨?_⟩
      refine wpList_load_want (by simp [Region.wanted, yielded, *]) 23 (.tmp 3) rfl (way_blk hway hy1_1 (by first | exact hy1_1.lt | omega) (by simp [heldBy, Knd.blockOf])) (by rw [HSW.out]; exact hW) (by simp [Act.eval, s3]) ?_
      refine wpList_nil ?_
      exact kp_val hdef hsz (Below.refl _ _)
    · intro G wx fr hway _ hs hdef hsz
      have s4 : fr.tmps[4]? = some (.pointer (some ⟨w1.heap.size, 0, none⟩)) := hs.1
      have s32 : fr.tmps[32]? = some (.bool true) := hs.2.1
      clear hs
      refine ⟨?_⟩
      refine wpList_load_want (by simp [Region.wanted, yielded, *]) 23 (.tmp 4) rfl (way_blk hway hy1_2 (by first | exact hy1_2.lt | omega) (by simp [heldBy, Knd.blockOf])) (by rw [HSW.out]; exact hW) (by simp [Act.eval, s4]) ?_
      refine wpList_nil ?_
      exact kp_val hdef hsz (Below.refl _ _)
    · intro G wx fr hway _ hs hdef hsz
      have s33 : fr.tmps[33]? = some (.agg (wcells a)) := hs.1
      have s34 : fr.tmps[34]? = some (.agg (wcells b)) := hs.2.1
      have s32 : fr.tmps[32]? = some (.bool true) := hs.2.2.1
      clear hs
      refine ⟨?_⟩
      go_wp2_with fail
      refine (C7.out wx).mono ?_
      rintro e w2 ⟨rfl, hb2⟩
      go_wp2
      exact kp_post hsz hb2
    · intro G wx fr hway _ hs hdef hsz
      have s3 : fr.tmps[3]? = some (.pointer (some ⟨w.heap.size, 0, none⟩)) := hs.1
      have s32 : fr.tmps[32]? = some (.bool true) := hs.2.1
      clear hs
      refine ⟨?_⟩
      refine wpList_load_want (by simp [Region.wanted, yielded, *]) 23 (.tmp 3) rfl (way_blk hway hy1_1 (by first | exact hy1_1.lt | omega) (by simp [heldBy, Knd.blockOf])) (by rw [HSW.out]; exact hW) (by simp [Act.eval, s3]) ?_
      refine wpList_nil ?_
      exact kp_val hdef hsz (Below.refl _ _)
    · intro G wx fr hway _ hs hdef hsz
      have s4 : fr.tmps[4]? = some (.pointer (some ⟨w1.heap.size, 0, none⟩)) := hs.1
      have s32 : fr.tmps[32]? = some (.bool true) := hs.2.1
      clear hs
      refine ⟨?_⟩
      refine wpList_load_want (by simp [Region.wanted, yielded, *]) 23 (.tmp 4) rfl (way_blk hway hy1_2 (by first | exact hy1_2.lt | omega) (by simp [heldBy, Knd.blockOf])) (by rw [HSW.out]; exact hW) (by simp [Act.eval, s4]) ?_
      refine wpList_nil ?_
      exact kp_val hdef hsz (Below.refl _ _)
    · intro G wx fr hway _ hs hdef hsz
      have s36 : fr.tmps[36]? = some (.agg (wcells a)) := hs.1
      have s37 : fr.tmps[37]? = some (.agg (wcells b)) := hs.2.1
      have s32 : fr.tmps[32]? = some (.bool true) := hs.2.2.1
      clear hs
      refine ⟨?_⟩
      go_wp2_with fail
      refine (C8.out wx).mono ?_
      rintro e w2 ⟨rfl, hb2⟩
      go_wp2
      exact kp_post hsz hb2
    · intro G wx fr hway _ hs hdef hsz
      have s35 : fr.tmps[35]? = some (.int .i64 (cmpN a b)) := hs.1
      have s38 : fr.tmps[38]? = some (.int .i64 (cmpN a b)) := hs.2.1
      have s32 : fr.tmps[32]? = some (.bool true) := hs.2.2.1
      clear hs
      refine ⟨?_⟩
      go_wp2
      exact kp_post hsz (Below.refl _ _)
    · intro G wx fr hway _ hs hdef hsz
      have s32 : fr.tmps[32]? = some (.bool true) := hs.1
      have s39 : fr.tmps[39]? = some (.bool true) := hs.2.1
      clear hs
      refine ⟨?_⟩
      go_wp2
      exact kp_post hsz (Below.refl _ _)
    · intro G wx fr hway _ hs hdef hsz
      have s40 : fr.tmps[40]? = some (.bool true) := hs.1
      clear hs
      refine ⟨?_⟩
      go_wp2
      exact kp_post hsz (Below.refl _ _)
    · intro G wx fr hway _ hs hdef hsz
      have s3 : fr.tmps[3]? = some (.pointer (some ⟨w.heap.size, 0, none⟩)) := hs.1
      have s41 : fr.tmps[41]? = some (.bool true) := hs.2.1
      clear hs
      refine ⟨?_⟩
      refine wpList_load_want (by simp [Region.wanted, yielded, *]) 23 (.tmp 3) rfl (way_blk hway hy1_1 (by first | exact hy1_1.lt | omega) (by simp [heldBy, Knd.blockOf])) (by rw [HSW.out]; exact hW) (by simp [Act.eval, s3]) ?_
      refine wpList_nil ?_
      exact kp_val hdef hsz (Below.refl _ _)
    · intro G wx fr hway _ hs hdef hsz
      have s4 : fr.tmps[4]? = some (.pointer (some ⟨w1.heap.size, 0, none⟩)) := hs.1
      have s41 : fr.tmps[41]? = some (.bool true) := hs.2.1
      clear hs
      refine ⟨?_⟩
      refine wpList_load_want (by simp [Region.wanted, yielded, *]) 23 (.tmp 4) rfl (way_blk hway hy1_2 (by first | exact hy1_2.lt | omega) (by simp [heldBy, Knd.blockOf])) (by rw [HSW.out]; exact hW) (by simp [Act.eval, s4]) ?_
      refine wpList_nil ?_
      exact kp_val hdef hsz (Below.refl _ _)
    · intro G wx fr hway _ hs hdef hsz
      have s42 : fr.tmps[42]? = some (.agg (wcells a)) := hs.1
      have s43 : fr.tmps[43]? = some (.agg (wcells b)) := hs.2.1
      have s41 : fr.tmps[41]? = some (.bool true) := hs.2.2.1
      clear hs
      refine ⟨?_⟩
      go_wp2_with fail
      refine (C9.out wx).mono ?_
      rintro e w2 ⟨rfl, hb2⟩
      go_wp2
      exact kp_post hsz hb2
    · intro G wx fr hway _ hs hdef hsz
      have s3 : fr.tmps[3]? = some (.pointer (some ⟨w.heap.size, 0, none⟩)) := hs.1
      have s41 : fr.tmps[41]? = some (.bool true) := hs.2.1
      clear hs
      refine ⟨?_⟩
      refine wpList_load_want (by simp [Region.wanted, yielded, *]) 23 (.tmp 3) rfl (way_blk hway hy1_1 (by first | exact hy1_1.lt | omega) (by simp [heldBy, Knd.blockOf])) (by rw [HSW.out]; exact hW) (by simp [Act.eval, s3]) ?_
      refine wpList_nil ?_
      exact kp_val hdef hsz (Below.refl _ _)
    · intro G wx fr hway _ hs hdef hsz
      have s4 : fr.tmps[4]? = some (.pointer (some ⟨w1.heap.size, 0, none⟩)) := hs.1
      have s41 : fr.tmps[41]? = some (.bool true) := hs.2.1
      clear hs
      refine ⟨?_⟩
      refine wpList_load_want (by simp [Region.wanted, yielded, *]) 23 (.tmp 4) rfl (way_blk hway hy1_2 (by first | exact hy1_2.lt | omega) (by simp [heldBy, Knd.blockOf])) (by rw [HSW.out]; exact hW) (by simp [Act.eval, s4]) ?_
      refine wpList_nil ?_
      exact kp_val hdef hsz (Below.refl _ _)
    · intro G wx fr hway _ hs hdef hsz
      have s45 : fr.tmps[45]? = some (.agg (wcells a)) := hs.1
      have s46 : fr.tmps[46]? = some (.agg (wcells b)) := hs.2.1
      have s41 : fr.tmps[41]? = some (.bool true) := hs.2.2.1
      clear hs
      refine ⟨?_⟩
      go_wp2_with fail
      refine (C10.out wx).mono ?_
      rintro e w2 ⟨rfl, hb2⟩
      go_wp2
      exact kp_post hsz hb2
    · intro G wx fr hway _ hs hdef hsz
      have s44 : fr.tmps[44]? = some (.int .i64 (scmpN a b)) := hs.1
      have s47 : fr.tmps[47]? = some (.int .i64 (scmpN a b)) := hs.2.1
      have s41 : fr.tmps[41]? = some (.bool true) := hs.2.2.1
      clear hs
      refine ⟨?_⟩
      go_wp2
      exact kp_post hsz (Below.refl _ _)
    · intro G wx fr hway _ hs hdef hsz
      have s41 : fr.tmps[41]? = some (.bool true) := hs.1
      have s48 : fr.tmps[48]? = some (.bool true) := hs.2.1
      clear hs
      refine ⟨?_⟩
      go_wp2
      exact kp_post hsz (Below.refl _ _)
    · intro G wx fr hway _ hs hdef hsz
      have s49 : fr.tmps[49]? = some (.bool true) := hs.1
      clear hs
      refine ⟨?_⟩
      go_wp2
      exact kp_post hsz (Below.refl _ _)
    · intro G wx fr hway _ hs hdef hsz
      have s3 : fr.tmps[3]? = some (.pointer (some ⟨w.heap.size, 0, none⟩)) := hs.1
      have s50 : fr.tmps[50]? = some (.bool true) := hs.2.1
      clear hs
      refine ⟨?_⟩
      refine wpList_load_want (by simp [Region.wanted, yielded, *]) 23 (.tmp 3) rfl (way_blk hway hy1_1 (by first | exact hy1_1.lt | omega) (by simp [heldBy, Knd.blockOf])) (by rw [HSW.out]; exact hW) (by simp [Act.eval, s3]) ?_
      refine wpList_nil ?_
      exact kp_val hdef hsz (Below.refl _ _)
    · intro G wx fr hway _ hs hdef hsz
      have s51 : fr.tmps[51]? = some (.agg (wcells a)) := hs.1
      have s50 : fr.tmps[50]? = some (.bool true) := hs.2.1
      clear hs
      refine ⟨?_⟩
      go_wp2_with fail
      refine (C11.out wx).mono ?_
      rintro e w2 ⟨rfl, hb2⟩
      go_wp2
      exact kp_post hsz hb2
    · intro G wx fr hway _ hs hdef hsz
      have s3 : fr.tmps[3]? = some (.pointer (some ⟨w.heap.size, 0, none⟩)) := hs.1
      have s50 : fr.tmps[50]? = some (.bool true) := hs.2.1
      clear hs
      refine ⟨?_⟩
      refine wpList_load_want (by simp [Region.wanted, yielded, *]) 23 (.tmp 3) rfl (way_blk hway hy1_1 (by first | exact hy1_1.lt | omega) (by simp [heldBy, Knd.blockOf])) (by rw [HSW.out]; exact hW) (by simp [Act.eval, s3]) ?_
      refine wpList_nil ?_
      exact kp_val hdef hsz (Below.refl _ _)
    · intro G wx fr hway _ hs hdef hsz
      have s53 : fr.tmps[53]? = some (.agg (wcells a)) := hs.1
      have s50 : fr.tmps[50]? = some (.bool true) := hs.2.1
      clear hs
      refine ⟨?_⟩
      go_wp2_with fail
      refine (C12.out wx).mono ?_
      rintro e w2 ⟨rfl, hb2⟩
      go_wp2
      exact kp_post hsz hb2
    · intro G wx fr hway _ hs hdef hsz
      have s52 : fr.tmps[52]? = some (.int .i64 ((blen a : Nat))) := hs.1
      have s54 : fr.tmps[54]? = some (.int .i64 ((blen a : Nat))) := hs.2.1
      have s50 : fr.tmps[50]? = some (.bool true) := hs.2.2.1
      clear hs
      refine ⟨?_⟩
      go_wp2
      exact kp_post hsz (Below.refl _ _)
    · intro G wx fr hway _ hs hdef hsz
      have s50 : fr.tmps[50]? = some (.bool true) := hs.1
      have s55 : fr.tmps[55]? = some (.bool true) := hs.2.1
      clear hs
      refine ⟨?_⟩
      go_wp2
      exact kp_post hsz (Below.refl _ _)
    · intro G wx fr hway _ hs hdef hsz
      have s56 : fr.tmps[56]? = some (.bool true) := hs.1
      clear hs
      refine ⟨?_⟩
      go_wp2
      exact kp_post hsz (Below.refl _ _)
    · intro G wx fr hway _ hs hdef hsz
      have s8 : fr.tmps[8]? = some (.int .i64 0) := hs.1
      have s57 : fr.tmps[57]? = some (.bool true) := hs.2.1
      clear hs
      refine ⟨?_⟩
      go_wp2
      exact kp_post hsz (Below.refl _ _)
    · intro G wx fr hway _ hs hdef hsz
      have s10 : fr.tmps[10]? = some (.int .i64 0) := hs.1
      have s57 : fr.tmps[57]? = some (.bool true) := hs.2.1
      clear hs
      refine ⟨?_⟩
      go_wp2
      exact kp_post hsz (Below.refl _ _)
    · intro G wx fr hway _ hs hdef hsz
      have s58 : fr.tmps[58]? = some (.int .i64 0) := hs.1
      have s59 : fr.tmps[59]? = some (.int .i64 0) := hs.2.1
      have s57 : fr.tmps[57]? = some (.bool true) := hs.2.2.1
      clear hs
      refine ⟨?_⟩
      go_wp2
      exact kp_post hsz (Below.refl _ _)
    · intro G wx fr hway _ hs hdef hsz
      have s57 : fr.tmps[57]? = some (.bool true) := hs.1
      have s60 : fr.tmps[60]? = some (.bool true) := hs.2.1
      clear hs
      refine ⟨?_⟩
      go_wp2
      exact kp_post hsz (Below.refl _ _)
    · intro G wx fr hway _ hs hdef hsz
      have s61 : fr.tmps[61]? = some (.bool true) := hs.1
      clear hs
      refine ⟨?_⟩
      go_wp2
      exact kp_post hsz (Below.refl _ _)
    · intro G wx fr hway _ hs hdef hsz
      have s9 : fr.tmps[9]? = some (.bool false) := hs.1
      have s62 : fr.tmps[62]? = some (.bool true) := hs.2.1
      clear hs
      refine ⟨?_⟩
      go_wp2
      exact kp_post hsz (Below.refl _ _)
    · intro G wx fr hway _ hs hdef hsz
      have s11 : fr.tmps[11]? = some (.bool false) := hs.1
      have s62 : fr.tmps[62]? = some (.bool true) := hs.2.1
      clear hs
      refine ⟨?_⟩
      go_wp2
      exact kp_post hsz (Below.refl _ _)
    · intro G wx fr hway _ hs hdef hsz
      have s63 : fr.tmps[63]? = some (.bool false) := hs.1
      have s64 : fr.tmps[64]? = some (.bool false) := hs.2.1
      have s62 : fr.tmps[62]? = some (.bool true) := hs.2.2.1
      clear hs
      refine ⟨?_⟩
      go_wp2
      exact kp_post hsz (Below.refl _ _)
    · intro G wx fr hway _ hs hdef hsz
      have s62 : fr.tmps[62]? = some (.bool true) := hs.1
      have s65 : fr.tmps[65]? = some (.bool true) := hs.2.1
      clear hs
      refine ⟨?_⟩
      go_wp2
      exact kp_post hsz (Below.refl _ _)
    · intro G wx fr hway _ hs hdef hsz
      have s66 : fr.tmps[66]? = some (.bool true) := hs.1
      clear hs
      refine ⟨?_⟩
      go_wp2
      exact kp_post hsz (Below.refl _ _)
    · intro G wx fr hway _ hs hdef hsz
      have s2 : fr.tmps[2]? = some (.int .i64 n) := hs.1
      have s67 : fr.tmps[67]? = some (.bool true) := hs.2.1
      clear hs
      refine ⟨?_⟩
      go_wp2
      exact kp_post hsz (Below.refl _ _)
    · intro G wx fr hway _ hs hdef hsz
      have s68 : fr.tmps[68]? = some (.int .i64 n) := hs.1
      have s67 : fr.tmps[67]? = some (.bool true) := hs.2.1
      clear hs
      refine ⟨?_⟩
      go_wp2_with fail
      refine (C4.out wx).mono ?_
      rintro e w2 ⟨rfl, hb2⟩
      go_wp2
      exact kp_post hsz hb2
    · intro G wx fr hway _ hs hdef hsz
      have s2 : fr.tmps[2]? = some (.int .i64 n) := hs.1
      have s67 : fr.tmps[67]? = some (.bool true) := hs.2.1
      clear hs
      refine ⟨?_⟩
      go_wp2
      exact kp_post hsz (Below.refl _ _)
    · intro G wx fr hway _ hs hdef hsz
      have s70 : fr.tmps[70]? = some (.int .i64 n) := hs.1
      have s67 : fr.tmps[67]? = some (.bool true) := hs.2.1
      clear hs
      refine ⟨?_⟩
      go_wp2_with fail
      refine (C13.out wx).mono ?_
      rintro e w2 ⟨rfl, hb2⟩
      go_wp2
      exact kp_post hsz hb2
    · intro G wx fr hway _ hs hdef hsz
      have s69 : fr.tmps[69]? = some (.agg (wcells z5)) := hs.1
      have s71 : fr.tmps[71]? = some (.agg (wcells z5)) := hs.2.1
      have s67 : fr.tmps[67]? = some (.bool true) := hs.2.2.1
      clear hs
      have hq := Q14.out
      refine ⟨?_⟩
      go_wp2
      exact kp_post hsz (Below.refl _ _)
    · intro G wx fr hway _ hs hdef hsz
      have s67 : fr.tmps[67]? = some (.bool true) := hs.1
      have s72 : fr.tmps[72]? = some (.bool true) := hs.2.1
      clear hs
      refine ⟨?_⟩
      go_wp2
      exact kp_post hsz (Below.refl _ _)
    · intro G wx fr hway _ hs hdef hsz
      have s73 : fr.tmps[73]? = some (.bool true) := hs.1
      clear hs
      refine ⟨?_⟩
      go_wp2
      exact kp_post hsz (Below.refl _ _)
    · intro G wx fr hway _ hs hdef hsz
      have s13 : fr.tmps[13]? = some (.bool false) := hs.1
      have s74 : fr.tmps[74]? = some (.bool true) := hs.2.1
      clear hs
      refine ⟨?_⟩
      go_wp2
      exact kp_post hsz (Below.refl _ _)
    · intro G wx fr hway _ hs hdef hsz
      have s2 : fr.tmps[2]? = some (.int .i64 n) := hs.1
      have s74 : fr.tmps[74]? = some (.bool true) := hs.2.1
      clear hs
      refine ⟨?_⟩
      go_wp2
      exact kp_post hsz (Below.refl _ _)
    · intro G wx fr hway _ hs hdef hsz
      have s76 : fr.tmps[76]? = some (.int .i64 n) := hs.1
      have s74 : fr.tmps[74]? = some (.bool true) := hs.2.1
      clear hs
      refine ⟨?_⟩
      go_wp2
      exact kp_post hsz (Below.refl _ _)
    · intro G wx fr hway _ hs hdef hsz
      have s75 : fr.tmps[75]? = some (.bool false) := hs.1
      have s77 : fr.tmps[77]? = some (.bool false) := hs.2.1
      have s74 : fr.tmps[74]? = some (.bool true) := hs.2.2.1
      clear hs
      refine ⟨?_⟩
      go_wp2
      exact kp_post hsz (Below.refl _ _)
    · intro G wx fr hway _ hs hdef hsz
      have s74 : fr.tmps[74]? = some (.bool true) := hs.1
      have s78 : fr.tmps[78]? = some (.bool true) := hs.2.1
      clear hs
      refine ⟨?_⟩
      go_wp2
      exact kp_post hsz (Below.refl _ _)
    · intro G wx fr hway _ hs hdef hsz
      have s79 : fr.tmps[79]? = some (.bool true) := hs.1
      clear hs
      refine ⟨?_⟩
      go_wp2
      exact kp_post hsz (Below.refl _ _)
    · intro G wx fr hway _ hs hdef hsz
      have s13 : fr.tmps[13]? = some (.bool false) := hs.1
      have s80 : fr.tmps[80]? = some (.bool true) := hs.2.1
      clear hs
      refine ⟨?_⟩
      go_wp2
      exact kp_post hsz (Below.refl _ _)
    · intro G wx fr hway _ hs hdef hsz
      have s81 : fr.tmps[81]? = some (.bool false) := hs.1
      have s80 : fr.tmps[80]? = some (.bool true) := hs.2.1
      clear hs
      refine ⟨?_⟩
      go_wp2
      exact kp_post hsz (Below.refl _ _)
    · intro G wx fr hway _ hs hdef hsz
      have s82 : fr.tmps[82]? = some (.bool true) := hs.1
      have s80 : fr.tmps[80]? = some (.bool true) := hs.2.1
      clear hs
      refine ⟨?_⟩
      go_wp2
      exact kp_post hsz (Below.refl _ _)
    · intro G wx fr hway _ hs hdef hsz
      have s83 : fr.tmps[83]? = some (.bool true) := hs.2.1
      clear hs
      refine ⟨?_⟩
      go_wp2
      exact kp_post hsz (Below.refl _ _)
    · intro G wx fr hway _ hs hdef hsz
      have s83 : fr.tmps[83]? = some (.bool true) := hs.2.1
      clear hs
      refine ⟨?_⟩
      go_wp2
      exact kp_post hsz (Below.refl _ _)
    · intro G wx fr hway _ hs hdef hsz
      have s83 : fr.tmps[83]? = some (.bool true) := hs.2.2.1
      clear hs
      refine ⟨?_⟩
      go_wp2
      exact kp_post hsz (Below.refl _ _)
    · intro G wx fr hway _ hs hdef hsz
      have s83 : fr.tmps[83]? = some (.bool true) := hs.1
      have s86 : fr.tmps[86]? = some (undef) := hs.2.1
      have s80 : fr.tmps[80]? = some (.bool true) := hs.2.2.1
      clear hs
      refine ⟨?_⟩
      go_wp2
      exact kp_post hsz (Below.refl _ _)
    · intro G wx fr hway _ hs hdef hsz
      have s80 : fr.tmps[80]? = some (.bool true) := hs.1
      have s87 : fr.tmps[87]? = some (.bool true) := hs.2.1
      clear hs
      refine ⟨?_⟩
      go_wp2
      exact kp_post hsz (Below.refl _ _)
    · intro G wx fr hway _ hs hdef hsz
      have s88 : fr.tmps[88]? = some (.bool true) := hs.1
      clear hs
      refine ⟨?_⟩
      go_wp2
      exact kp_post hsz (Below.refl _ _)
  · intro G V wr3 hval hway hmade hap
    replace hval : V 0 = .bool true ∧ V 1 = .bool true ∧ V 2 = .agg (wcells a) ∧ V 3 = .agg (wcells b) ∧ V 4 = .int .i64 (cmpN a b) ∧ V 5 = .agg (wcells a) ∧ V 6 = .agg (wcells b) ∧ V 7 = .int .i64 (cmpN a b) ∧ V 8 = .bool true ∧ V 9 = .bool true ∧ V 10 = .bool true ∧ V 11 = .agg (wcells a) ∧ V 12 = .agg (wcells b) ∧ V 13 = .int .i64 (scmpN a b) ∧ V 14 = .agg (wcells a) ∧ V 15 = .agg (wcells b) ∧ V 16 = .int .i64 (scmpN a b) ∧ V 17 = .bool true ∧ V 18 = .bool true ∧ V 19 = .bool true ∧ V 20 = .agg (wcells a) ∧ V 21 = .int .i64 ((blen a : Nat)) ∧ V 22 = .agg (wcells a) ∧ V 23 = .int .i64 ((blen a : Nat)) ∧ V 24 = .bool true ∧ V 25 = .bool true ∧ V 26 = .bool true ∧ V 27 = .int .i64 0 ∧ V 28 = .int .i64 0 ∧ V 29 = .bool true ∧ V 30 = .bool true ∧ V 31 = .bool true ∧ V 32 = .bool false ∧ V 33 = .bool false ∧ V 34 = .bool true ∧ V 35 = .bool true ∧ V 36 = .bool true ∧ V 37 = .int .i64 n ∧ V 38 = .agg (wcells z5) ∧ V 39 = .int .i64 n ∧ V 40 = .agg (wcells z5) ∧ V 41 = .bool true ∧ V 42 = .bool true ∧ V 43 = .bool true ∧ V 44 = .bool false ∧ V 45 = .int .i64 n ∧ V 46 = .bool false ∧ V 47 = .bool true ∧ V 48 = .bool true ∧ V 49 = .bool true ∧ V 50 = .bool false ∧ V 51 = .bool true ∧ V 52 = .bool true ∧ V 53 = undef ∧ V 54 = undef ∧ V 55 = undef ∧ V 56 = .bool true ∧ V 57 = .bool true ∧ V 58 = .bool true ∧ True := hval
    replace hmade : True := hmade
    obtain ⟨e3_0, e3_1, e3_2, e3_3, e3_4, e3_5, e3_6, e3_7, e3_8, e3_9, e3_10, e3_11, e3_12, e3_13, e3_14, e3_15, e3_16, e3_17, e3_18, e3_19, e3_20, e3_21, e3_22, e3_23, e3_24, e3_25, e3_26, e3_27, e3_28, e3_29, e3_30, e3_31, e3_32, e3_33, e3_34, e3_35, e3_36, e3_37, e3_38, e3_39, e3_40, e3_41, e3_42, e3_43, e3_44, e3_45, e3_46, e3_47, e3_48, e3_49, e3_50, e3_51, e3_52, e3_53, e3_54, e3_55, e3_56, e3_57, e3_58, -⟩ := hval
    obtain ⟨-⟩ := hmade
    clear hap
    simp only [fill, Act.put, e3_0, e3_1, e3_2, e3_3, e3_4, e3_5, e3_6, e3_7, e3_8, e3_9, e3_10, e3_11, e3_12, e3_13, e3_14, e3_15, e3_16, e3_17, e3_18, e3_19, e3_20, e3_21, e3_22, e3_23, e3_24, e3_25, e3_26, e3_27, e3_28, e3_29, e3_30, e3_31, e3_32, e3_33, e3_34, e3_35, e3_36, e3_37, e3_38, e3_39, e3_40, e3_41, e3_42, e3_43, e3_44, e3_45, e3_46, e3_47, e3_48, e3_49, e3_50, e3_51, e3_52, e3_53, e3_54, e3_55, e3_56, e3_57, e3_58]
    clear e3_0 e3_1 e3_2 e3_3 e3_4 e3_5 e3_6 e3_7 e3_8 e3_9 e3_10 e3_11 e3_12 e3_13 e3_14 e3_15 e3_16 e3_17 e3_18 e3_19 e3_20 e3_21 e3_22 e3_23 e3_24 e3_25 e3_26 e3_27 e3_28 e3_29 e3_30 e3_31 e3_32 e3_33 e3_34 e3_35 e3_36 e3_37 e3_38 e3_39 e3_40 e3_41 e3_42 e3_43 e3_44 e3_45 e3_46 e3_47 e3_48 e3_49 e3_50 e3_51 e3_52 e3_53 e3_54 e3_55 e3_56 e3_57 e3_58
    simp only [Exit.then]
    go_simp
    clear G V
    replace hy1_1 := way_blk hway hy1_1 hy1_1.lt (by simp [heldBy, Knd.blockOf])
    replace hy1_2 := way_blk hway hy1_2 hy1_2.lt (by simp [heldBy, Knd.blockOf])
    replace hB1_7 := hway.2.2
    clear hway
    go_wp2
    go_ret
    exact ⟨rfl, hB1_7⟩
open Go.ChangeShapes Go.WideShapes Go.ChangeAt

set_option maxRecDepth 100000 in
theorem lifted (os : Os) (started : os.Started) (H : Type) (enc : TypeId × Value → H) :
    ReturnsInHanded {} Try.checked os 3 .any (Rows.wordOrdersSpec.pre6 enc Try.prog Try.f3 Rows.wordOrdersRow.domain false) (Rows.wordOrdersSpec.post enc Try.prog Try.f3 false true false false) := by
  refine law_lift (C := Try.checked) (ts := [23, 23, 3]) (tb := 4) (by kernel_rfl) started (by kernel_rfl) Try.func3
    (ChangeSpec.witness6 (enc := enc) (C := Try.checked) false ⟨#[], #[.agg (Array.replicate 32 (.int .u8 0)), .agg (Array.replicate 32 (.int .u8 0)), .int .i64 0], []⟩ 8 (by kernel_rfl) (by kernel_rfl) (by kernel_rfl) (by kernel_rfl))
    (by kernel_rfl) (by kernel_rfl) (by kernel_rfl) (by kernel_rfl) Try.underlying4 rfl (fun ds h => by match ds, h with | [_, _, _], _ => rfl) ?_
  intro W vs hl h
  match vs, hl with
  | [v0, v1, v2], _ =>
    have ha := h 0 _ v0 rfl rfl
    have hb := h 1 _ v1 rfl rfl
    obtain ⟨n, rfl, hn⟩ := arg_int Try.underlying3 (h 2 _ v2 rfl rfl)
    obtain ⟨a, ha', rfl⟩ := arg_word ha
    obtain ⟨b, hb', rfl⟩ := arg_word hb
    have hn := bounds_i64 hn
    by_cases c : a < 2 ^ 63 <;> by_cases d : 0 ≤ n
    · exact walk_11 a b n W ha' hb' hn.1 hn.2 (Lib.hid c) d
    · exact walk_10 a b n W ha' hb' hn.1 hn.2 (Lib.hid c) (by omega) (decide_eq_false d)
    · exact walk_01 a b n W ha' hb' hn.1 hn.2 (Lib.hid c) d
    · exact walk_00 a b n W ha' hb' hn.1 hn.2 (Lib.hid c) (by omega) (decide_eq_false d)

theorem over : Rows.wordOrdersRow.holds Try.pinned (OpenSpec.ofChange Rows.wordOrdersSpec) :=
  OpenClaim.holds_of_wide 3 Try.f3 rfl rfl rfl rfl rfl rfl rfl ⟨rfl, rfl, rfl, rfl, rfl⟩ rfl rfl rfl rfl rfl (by kernel_rfl) Try.func3 (by kernel_rfl)
    (of_decide_eq_true (by kernel_rfl)) (by unfold Func.isWrapper; first | (rw [if_pos (by decide +kernel)]; kernel_rfl) | (rw [if_neg (by decide +kernel)]; exact ⟨rfl, rfl⟩))
    (fun os started H enc _ => lifted os started H enc)
end Go.Proofs.Ytegnfklehgbooaa.WordOrders
namespace Go.Proofs.Ytegnfklehgbooaa
theorem wordOrders_holds : Rows.WordOrdersSaid := WordOrders.over
#print axioms wordOrders_holds
end Go.Proofs.Ytegnfklehgbooaa
