/- 'WordBytes' answers true at every input, and leaves what it was given. No condition. -/
import Derived.Test.YtegnfklehgbooaaWordAlive
import Derived.Test.YtegnfklehgbooaaWordArg
import Derived.Test.YtegnfklehgbooaaWordBytesP
import Derived.Test.YtegnfklehgbooaaLaw
import Derived.Test.YtegnfklehgbooaaRows
namespace Go.Proofs.Ytegnfklehgbooaa.WordBytes
open Go Go.RowKit Go.Mun Go.Proofs

set_option maxRecDepth 100000 in
set_option maxHeartbeats 8000000 in
theorem walk_z (a : Nat) (w : World) (ha : a < 2 ^ 256) (hz0 : Kept2 (a = 0)) (hbl : Kept2 (((blen a : Nat) : Int) = 0)) : Calls Try.prog 5 #[.agg (wcells a)] w fun e w' => e = .returned (.bool true) ∧ Below w.heap.size w w' := by
  have hW := wordTy
  have zW := zWordL
  have HSW := Lib.hid wcells_size
  have H1W := Lib.hid wcells_one
  have HZW := Lib.hid wcells_lit0
  have H0 := Lib.hid (show wcells 0 = (tab .u8 32 fun j => if j < 0 then lowB a (31 - j) else 0) from by rw [← wcells_zero]; exact tab_congr fun j _ => by simp)
  have H32 := Lib.hid (show (tab .u8 32 fun j => if j < 32 then lowB a (31 - j) else 0) = wcells a from by rw [wcells, bv_wbytes]; exact tab_congr fun j hj => by rw [if_pos hj])
  have HT := Lib.hid (fun k (hk : k < 32) => @tab_set .u8 32 (fun j => if j < k then lowB a (31 - j) else 0) k (lowB a (31 - k)) hk)
  have HE := Lib.hid (fun k => @tab_congr .u8 32 (fun j => if j = k then lowB a (31 - k) else if j < k then lowB a (31 - j) else 0) (fun j => if j < k + 1 then lowB a (31 - j) else 0) (fun j _ => by
    by_cases e : j = k
    · subst e; simp
    · by_cases e2 : j < k
      · rw [if_neg e, if_pos e2, if_pos (by omega)]
      · rw [if_neg e, if_neg e2, if_neg (by omega)]))
  have HS := Lib.hid (fun k => @tab_size .u8 32 (fun j => if j < k then lowB a (31 - j) else 0))
  have C1 := Lib.hid (fun w => alive1 w)
  have C6 := Lib.hid (fun w => Bits_any a w ha)
  rw [show ((blen a : Nat) : Int) = 0 from hbl.out] at C6
  have Q7 := Lib.hid (fun w => eq_word a a ha ha w)
  rw [decide_eq_true rfl] at Q7
  obtain ⟨z9, Ez9⟩ : ∃ z, z = ofN 32 := ⟨_, rfl⟩
  have hz9 : z9 < 2 ^ 256 := by rw [Ez9]; exact (ofN_lt _)
  have C8 := Lib.hid (fun w => Of_any 32 w (by decide) (by decide))
  rw [← Ez9] at C8
  obtain ⟨z11, Ez11⟩ : ∃ z, z = byteN z9 a := ⟨_, rfl⟩
  have hz11 : z11 < 2 ^ 256 := by rw [Ez11]; exact (byteN_lt _ _)
  have C10 := Lib.hid (fun w => Byte_all z9 a w hz9)
  rw [← Ez11] at C10
  have Q12 := Lib.hid (fun w => eq_word z11 0 hz11 (by decide) w)
  rw [decide_eq_true (by subst_vars; exact pByte32 a)] at Q12
  obtain ⟨z14, Ez14⟩ : ∃ z, z = ofN 0 := ⟨_, rfl⟩
  have hz14 : z14 < 2 ^ 256 := by rw [Ez14]; exact (ofN_lt _)
  have C13 := Lib.hid (fun w => Of_any 0 w (by decide) (by decide))
  rw [← Ez14] at C13
  obtain ⟨z16, Ez16⟩ : ∃ z, z = shrN z14 a := ⟨_, rfl⟩
  have hz16 : z16 < 2 ^ 256 := by rw [Ez16]; exact (shrN_lt ha)
  have C15 := Lib.hid (fun w => Shr_all z14 a w hz14 ha)
  rw [← Ez16] at C15
  have Q17 := Lib.hid (fun w => eq_word z16 0 hz16 (by decide) w)
  rw [decide_eq_true (by subst_vars; exact pShrTop hz0.out)] at Q17
  clear Ez9 Ez11 Ez14 Ez16 hz9 hz11 hz14 hz16
  go_enter Try.func5, Try.ntmps5
  have tk0_0 : True := trivial
  have tk0_1 : True := trivial
  have tk0_2 : True := trivial
  go_wp2_with (first
    | ((with_reducible refine gd_box ?_); have _t := tk0_0; refine wpList_box_agg rfl _ (.tmp 0) rfl rfl ?_; clear tk0_0; intro w1 hx1 hb1 hl1; have hz1 := hx1.lt; have hs1 := hb1.size)
    | (go_at_call 10; have _t := tk0_1; refine (C1.out _).mono ?_; clear tk0_1; rintro e w2 ⟨rfl, hb2⟩; have hs2 := hb2.size)
    | ((with_reducible refine gd_alloc ?_); have _t := tk0_2; refine wpList_alloc_blk rfl 23 rfl zW ?_; clear tk0_2; intro w3 hx3 hb3 hl3; have hz3 := hx3.lt; have hs3 := hb3.size)
    | fail)
  have hy1_1 := ((hx1.ext hb2).ext hb3)
  have hy1_2 := hx3
  have hB1_1 := hb1
  have hB1_2 := below_step hB1_1 hb2
  have hB1_3 := below_step hB1_2 hb3
  have hge_1 : w.heap.size ≤ w.heap.size := by omega
  have hge_2 : w.heap.size ≤ w2.heap.size := by omega
  have hlo_1_2 : w.heap.size < w2.heap.size := by omega
  clear hb1 hl1 hz1 hs1 hb2 hs2 hb3 hl3 hz3 hs3 hx1 hx3 hB1_1 hB1_2
  replace hy1_2 : Blk w3 w2.heap.size 23 (tab .u8 32 fun j => if j < 0 then lowB a (31 - j) else 0) := by rw [← H0.out]; exact hy1_2
  go_loopw [5] (fun i wr => ∃ k : Nat, k ≤ 32 ∧ i = .int .i64 k ∧ Blk wr w.heap.size 23 (wcells a) ∧ Blk wr w2.heap.size 23 (tab .u8 32 fun j => if j < k then lowB a (31 - j) else 0) ∧ Below w.heap.size w wr) (fun i _ => 32 - (intOf i).toNat)
  case atStart => exact ⟨0, by omega, rfl, hy1_1, hy1_2, hB1_3⟩
  case round =>
    clear hy1_1 hy1_2 hB1_3
    obtain ⟨k, hk, rfl, hy1, hy4, hBr⟩ := hrel
    by_cases hlt : k < 32
    · have k0 : (0 : Int) ≤ (k : Int) := by omega
      have k1 : (k : Int) < 32 := by omega
      obtain ⟨x, Ex⟩ : ∃ x, x = lowB a (31 - k) := ⟨_, rfl⟩
      have hx256 : x < 256 := by rw [Ex]; exact lowB_lt _ _
      have x0 : (0 : Int) ≤ (x : Int) := by omega
      have x1 : (x : Int) ≤ 255 := by omega
      have HSk := Lib.hid (HS.out k)
      have HTk := Lib.hid (((HT.out k hlt).trans (HE.out k)))
      rw [← Ex] at HTk
      obtain ⟨z3, Ez3⟩ : ∃ z, z = ofN ((k : Int)) := ⟨_, rfl⟩
      have hz3 : z3 < 2 ^ 256 := by rw [Ez3]; exact (ofN_lt _)
      have C2 := Lib.hid (fun w => Of_any ((k : Int)) w (by omega) (by omega))
      rw [← Ez3] at C2
      have C4 := Lib.hid (fun w => Byte_all z3 a w hz3)
      rw [show byteN z3 a = x from by subst_vars; exact pByte hlt] at C4
      have C5 := Lib.hid (fun w => Int_yes x w (Nat.lt_trans hx256 (by decide)))
      clear Ez3 hz3 Ex
      go_wp2
      have hlw3_1 := hy1.lt
      have hlw3_2 := hy4.lt
      refine wp_region_made (w := wr) (B := w.heap.size) (wB := w) [.val (.int .i64 ((k : Int))), .val (.agg (wcells z3)), .val (.agg (wcells a)), .val (.agg (wcells x)), .new 23 (wcells 0) (wcells x), .putN 4] (by kernel_rfl) (by kernel_rfl) (by kernel_rfl) rfl (by kernel_rfl) rfl hBr.size hBr (by exact List.nodup_nil) (by intro g hg; exact nomatch hg) trivial ?_ ?_
      · refine ⟨?_, ?_, ?_, ?_, ?_, ?_, trivial⟩
        · intro G wx fr hway _ hs hdef hsz
          have s5 : fr.tmps[5]? = some (.int .i64 ((k : Int))) := hs.1
          clear hs
          refine ⟨?_⟩
          go_wp2
          exact kp_post hsz (Below.refl _ _)
        · intro G wx fr hway _ hs hdef hsz
          have s15 : fr.tmps[15]? = some (.int .i64 ((k : Int))) := hs.1
          clear hs
          refine ⟨?_⟩
          go_wp2_with fail
          refine (C2.out wx).mono ?_
          rintro e w2 ⟨rfl, hb2⟩
          go_wp2
          exact kp_post hsz hb2
        · intro G wx fr hway _ hs hdef hsz
          have s1 : fr.tmps[1]? = some (.pointer (some ⟨w.heap.size, 0, none⟩)) := hs.1
          clear hs
          refine ⟨?_⟩
          refine wpList_load_blk rfl 23 (.tmp 1) rfl (way_blk hway hy1 (by first | exact hy1.lt | omega) (by simp [heldBy, Knd.blockOf])) (by rw [HSW.out]; exact hW) (by simp [Act.eval, s1]) ?_
          refine wpList_nil ?_
          exact kp_val hdef hsz (Below.refl _ _)
        · intro G wx fr hway _ hs hdef hsz
          have s16 : fr.tmps[16]? = some (.agg (wcells z3)) := hs.1
          have s17 : fr.tmps[17]? = some (.agg (wcells a)) := hs.2.1
          clear hs
          refine ⟨?_⟩
          go_wp2_with fail
          refine (C4.out wx).mono ?_
          rintro e w2 ⟨rfl, hb2⟩
          go_wp2
          exact kp_post hsz hb2
        · intro G wx fr hway _ hs hdef hsz
          clear hs
          refine ⟨?_⟩
          refine wpList_alloc_blk rfl 23 rfl zW ?_
          intro wy hxy hby _
          refine wpList_nil ?_
          exact kp_new hdef hsz hby hxy
        · intro G wx fr hway hpre hs hdef hsz
          have s6 : fr.tmps[6]? = some (.pointer (some ⟨G 4, 0, none⟩)) := hs.1
          have s18 : fr.tmps[18]? = some (.agg (wcells x)) := hs.2.1
          clear hs
          have hpre' : Blk wx (G 4) 23 (wcells 0) := hpre
          refine ⟨?_⟩
          refine wpList_store_all rfl 23 (.tmp 6) (.tmp 18) rfl (wcells x) hpre' (by rw [HSW.out]; exact hW) (by rw [HSW.out, HSW.out]) (H1W.out _) (by simp [Act.eval, s6]) (by simp [Act.eval, s18]) ?_
          intro wy hxy hgy
          refine wpList_nil ?_
          exact ⟨rfl, hdef, rfl, hxy, hgy⟩
      · intro G V wr3 hval hway hmade hap
        replace hval : V 0 = .int .i64 ((k : Int)) ∧ V 1 = .agg (wcells z3) ∧ V 2 = .agg (wcells a) ∧ V 3 = .agg (wcells x) ∧ V 4 = .pointer (some ⟨G 4, 0, none⟩) ∧ V 5 = undef ∧ True := hval
        replace hmade : (wr.heap.size ≤ G 4 ∧ G 4 < wr3.heap.size ∧ Blk wr3 (G 4) 23 (wcells x)) ∧ True := hmade
        obtain ⟨e3_0, e3_1, e3_2, e3_3, e3_4, e3_5, -⟩ := hval
        obtain ⟨⟨hg3_4, hl3_4, hx_3_4⟩, -⟩ := hmade
        clear hap
        simp only [fill, Act.put, e3_0, e3_1, e3_2, e3_3, e3_4]
        clear e3_0 e3_1 e3_2 e3_3 e3_4 e3_5
        simp only [Exit.then]
        go_simp
        generalize G 4 = g3_4 at *
        clear G V
        replace hy1 := way_blk hway hy1 hy1.lt (by simp [heldBy, Knd.blockOf])
        replace hy4 := way_blk hway hy4 hy4.lt (by simp [heldBy, Knd.blockOf])
        replace hBr := hway.2.2
        clear hway
        go_simp
        have tk3_0 : True := trivial
        have tk3_1 : True := trivial
        have tk3_2 : True := trivial
        have hlt_3_1 := hy1.lt
        have hlt_3_2 := hy4.lt
        have hlt_3_3 := hx_3_4.lt
        have hBs_3 := hBr.size
        go_wp2_with (first
          | ((with_reducible refine gd_load ?_); have _t := tk3_0; refine wpList_load_blk rfl 23 (.tmp 6) rfl hx_3_4 (by rw [HSW.out]; exact hW) rfl ?_; clear tk3_0)
          | (go_at_call 11; have _t := tk3_1; refine (C5.out _).mono ?_; clear tk3_1; rintro e w4 ⟨rfl, hb4⟩; have hs4 := hb4.size)
          | ((with_reducible refine gd_store ?_); have _t := tk3_2; refine wpList_store_cell rfl 5 (.tmp 33) (.tmp 32) rfl (hy4.ext hb4) (i := k) (v := .int .u8 (x : Nat)) (by rw [HSk.out]; exact hlt) (by kernel_rfl) rfl rfl (by rfl) ?_; clear tk3_2; intro w5 hx5 hg5; have hs5 := hg5.size)
          | fail)
        have hy4_1 := ((hy1.ext hb4).grown hg5 (by simp; omega))
        have hy4_2 := hx5
        have hy4_3 := ((hx_3_4.ext hb4).grown hg5 (by simp; omega))
        have hB4_1 := below_step hBr hb4
        have hB4_2 := below_blk hB4_1 hB4_1.size hg5 (by first | omega | (simp; omega))
        clear hlt_3_1 hlt_3_2 hlt_3_3 hBs_3 hb4 hs4 hg5 hs5 hx5 hx_3_4 hy1 hB4_1 hBr
        rw [HTk.out] at hy4_2
        go_roundw
        case rel => exact ⟨k + 1, by omega, by go_num, hy4_1, hy4_2, hB4_2⟩
        case measure => (simp [intOf]; try omega)
    · obtain rfl : k = 32 := by omega
      rw [H32.out] at hy4
      have tk5_0 : True := trivial
      have tk5_1 : True := trivial
      have hlt_5_1 := hy1.lt
      have hlt_5_2 := hy4.lt
      have hBs_5 := hBr.size
      go_wp2_with (first
        | ((with_reducible refine gd_load ?_); have _t := tk5_0; refine wpList_load_blk rfl 23 (.tmp 1) rfl hy1 (by rw [HSW.out]; exact hW) rfl ?_; clear tk5_0)
        | (go_at_call 18; have _t := tk5_1; refine (C6.out _).mono ?_; clear tk5_1; rintro e w6 ⟨rfl, hb6⟩; have hs6 := hb6.size)
        | fail)
      have hy6_1 := (hy1.ext hb6)
      have hy6_2 := (hy4.ext hb6)
      have hB6_1 := below_step hBr hb6
      clear hlt_5_1 hlt_5_2 hBs_5 hb6 hs6 hy1 hy4 hBr
      refine wp_region_made (w := w6) (B := w.heap.size) (wB := w) ((.val (.bool true)) :: (.val (.bool true)) :: (.val (.agg (wcells a))) :: (.val (.agg (wcells a))) :: (.val (.bool true)) :: (.val (.bool true)) :: (.val (.bool true)) :: (.val (.agg (wcells z9))) :: (.val (.agg (wcells a))) :: (.val (.agg (wcells z11))) :: (.val (.agg (wcells 0))) :: (.val (.bool true)) :: (.val (.bool true)) :: (.val (.bool true)) :: (.val (.int .i64 0)) :: (.val (.agg (wcells z14))) :: (.val (.agg (wcells a))) :: (.val (.agg (wcells z16))) :: (.val (.agg (wcells 0))) :: (.val (.bool true)) :: (.val (.bool true)) :: (.val (.bool true)) :: (.val (.int .i64 0)) :: (.val (.bool true)) :: (.val (.bool true)) :: (.val undef) :: (.val undef) :: (.val undef) :: (.val undef) :: (.val undef) :: (.val undef) :: (.val undef) :: (.val (.bool true)) :: (.val (.bool true)) :: (.val (.bool true)) :: []) (by kernel_rfl) (by kernel_rfl) (by kernel_rfl) rfl (by kernel_rfl) rfl hB6_1.size hB6_1 (by exact List.nodup_nil) (by intro g hg; exact nomatch hg) trivial ?_ ?_
      · refine ⟨?_, ?_, ?_, ?_, ?_, ?_, ?_, ?_, ?_, ?_, ?_, ?_, ?_, ?_, ?_, ?_, ?_, ?_, ?_, ?_, ?_, ?_, ?_, ?_, ?_, ?_, ?_, ?_, ?_, ?_, ?_, ?_, ?_, ?_, ?_, trivial⟩
        · intro G wx fr hway _ hs hdef hsz
          have s3 : fr.tmps[3]? = some (.bool true) := hs.1
          clear hs
          refine ⟨?_⟩
          go_wp2
          exact kp_post hsz (Below.refl _ _)
        · intro G wx fr hway _ hs hdef hsz
          have s36 : fr.tmps[36]? = some (.bool true) := hs.1
          clear hs
          refine ⟨?_⟩
          go_wp2
          exact kp_post hsz (Below.refl _ _)
        · intro G wx fr hway _ hs hdef hsz
          have s4 : fr.tmps[4]? = some (.pointer (some ⟨w2.heap.size, 0, none⟩)) := hs.1
          have s37 : fr.tmps[37]? = some (.bool true) := hs.2.1
          clear hs
          refine ⟨?_⟩
          refine wpList_load_want (by simp [Region.wanted, yielded, *]) 23 (.tmp 4) rfl (way_blk hway hy6_2 (by first | exact hy6_2.lt | omega) (by simp [heldBy, Knd.blockOf])) (by rw [HSW.out]; exact hW) (by simp [Act.eval, s4]) ?_
          refine wpList_nil ?_
          exact kp_val hdef hsz (Below.refl _ _)
        · intro G wx fr hway _ hs hdef hsz
          have s1 : fr.tmps[1]? = some (.pointer (some ⟨w.heap.size, 0, none⟩)) := hs.1
          have s37 : fr.tmps[37]? = some (.bool true) := hs.2.1
          clear hs
          refine ⟨?_⟩
          refine wpList_load_want (by simp [Region.wanted, yielded, *]) 23 (.tmp 1) rfl (way_blk hway hy6_1 (by first | exact hy6_1.lt | omega) (by simp [heldBy, Knd.blockOf])) (by rw [HSW.out]; exact hW) (by simp [Act.eval, s1]) ?_
          refine wpList_nil ?_
          exact kp_val hdef hsz (Below.refl _ _)
        · intro G wx fr hway _ hs hdef hsz
          have s38 : fr.tmps[38]? = some (.agg (wcells a)) := hs.1
          have s39 : fr.tmps[39]? = some (.agg (wcells a)) := hs.2.1
          have s37 : fr.tmps[37]? = some (.bool true) := hs.2.2.1
          clear hs
          have hq := Q7.out
          refine ⟨?_⟩
          go_wp2
          exact kp_post hsz (Below.refl _ _)
        · intro G wx fr hway _ hs hdef hsz
          have s37 : fr.tmps[37]? = some (.bool true) := hs.1
          have s40 : fr.tmps[40]? = some (.bool true) := hs.2.1
          clear hs
          refine ⟨?_⟩
          go_wp2
          exact kp_post hsz (Below.refl _ _)
        · intro G wx fr hway _ hs hdef hsz
          have s41 : fr.tmps[41]? = some (.bool true) := hs.1
          clear hs
          refine ⟨?_⟩
          go_wp2
          exact kp_post hsz (Below.refl _ _)
        · intro G wx fr hway _ hs hdef hsz
          have s42 : fr.tmps[42]? = some (.bool true) := hs.1
          clear hs
          refine ⟨?_⟩
          go_wp2_with fail
          refine (C8.out wx).mono ?_
          rintro e w2 ⟨rfl, hb2⟩
          go_wp2
          exact kp_post hsz hb2
        · intro G wx fr hway _ hs hdef hsz
          have s1 : fr.tmps[1]? = some (.pointer (some ⟨w.heap.size, 0, none⟩)) := hs.1
          have s42 : fr.tmps[42]? = some (.bool true) := hs.2.1
          clear hs
          refine ⟨?_⟩
          refine wpList_load_want (by simp [Region.wanted, yielded, *]) 23 (.tmp 1) rfl (way_blk hway hy6_1 (by first | exact hy6_1.lt | omega) (by simp [heldBy, Knd.blockOf])) (by rw [HSW.out]; exact hW) (by simp [Act.eval, s1]) ?_
          refine wpList_nil ?_
          exact kp_val hdef hsz (Below.refl _ _)
        · intro G wx fr hway _ hs hdef hsz
          have s43 : fr.tmps[43]? = some (.agg (wcells z9)) := hs.1
          have s44 : fr.tmps[44]? = some (.agg (wcells a)) := hs.2.1
          have s42 : fr.tmps[42]? = some (.bool true) := hs.2.2.1
          clear hs
          refine ⟨?_⟩
          go_wp2_with fail
          refine (C10.out wx).mono ?_
          rintro e w2 ⟨rfl, hb2⟩
          go_wp2
          exact kp_post hsz hb2
        · intro G wx fr hway _ hs hdef hsz
          have s42 : fr.tmps[42]? = some (.bool true) := hs.1
          clear hs
          have hz0 := HZW.out
          refine ⟨?_⟩
          go_wp2
          exact kp_post' hsz (Below.refl _ _) (congrArg Value.agg HZW.out)
        · intro G wx fr hway _ hs hdef hsz
          have s45 : fr.tmps[45]? = some (.agg (wcells z11)) := hs.1
          have s46 : fr.tmps[46]? = some (.agg (wcells 0)) := hs.2.1
          have s42 : fr.tmps[42]? = some (.bool true) := hs.2.2.1
          clear hs
          have hq := Q12.out
          refine ⟨?_⟩
          go_wp2
          exact kp_post hsz (Below.refl _ _)
        · intro G wx fr hway _ hs hdef hsz
          have s42 : fr.tmps[42]? = some (.bool true) := hs.1
          have s47 : fr.tmps[47]? = some (.bool true) := hs.2.1
          clear hs
          refine ⟨?_⟩
          go_wp2
          exact kp_post hsz (Below.refl _ _)
        · intro G wx fr hway _ hs hdef hsz
          have s48 : fr.tmps[48]? = some (.bool true) := hs.1
          clear hs
          refine ⟨?_⟩
          go_wp2
          exact kp_post hsz (Below.refl _ _)
        · intro G wx fr hway _ hs hdef hsz
          have s9 : fr.tmps[9]? = some (.int .i64 0) := hs.1
          have s49 : fr.tmps[49]? = some (.bool true) := hs.2.1
          clear hs
          refine ⟨?_⟩
          go_wp2
          exact kp_post hsz (Below.refl _ _)
        · intro G wx fr hway _ hs hdef hsz
          have s50 : fr.tmps[50]? = some (.int .i64 0) := hs.1
          have s49 : fr.tmps[49]? = some (.bool true) := hs.2.1
          clear hs
          refine ⟨?_⟩
          go_wp2_with fail
          refine (C13.out wx).mono ?_
          rintro e w2 ⟨rfl, hb2⟩
          go_wp2
          exact kp_post hsz hb2
        · intro G wx fr hway _ hs hdef hsz
          have s1 : fr.tmps[1]? = some (.pointer (some ⟨w.heap.size, 0, none⟩)) := hs.1
          have s49 : fr.tmps[49]? = some (.bool true) := hs.2.1
          clear hs
          refine ⟨?_⟩
          refine wpList_load_want (by simp [Region.wanted, yielded, *]) 23 (.tmp 1) rfl (way_blk hway hy6_1 (by first | exact hy6_1.lt | omega) (by simp [heldBy, Knd.blockOf])) (by rw [HSW.out]; exact hW) (by simp [Act.eval, s1]) ?_
          refine wpList_nil ?_
          exact kp_val hdef hsz (Below.refl _ _)
        · intro G wx fr hway _ hs hdef hsz
          have s51 : fr.tmps[51]? = some (.agg (wcells z14)) := hs.1
          have s52 : fr.tmps[52]? = some (.agg (wcells a)) := hs.2.1
          have s49 : fr.tmps[49]? = some (.bool true) := hs.2.2.1
          clear hs
          refine ⟨?_⟩
          go_wp2_with fail
          refine (C15.out wx).mono ?_
          rintro e w2 ⟨rfl, hb2⟩
          go_wp2
          exact kp_post hsz hb2
        · intro G wx fr hway _ hs hdef hsz
          have s49 : fr.tmps[49]? = some (.bool true) := hs.1
          clear hs
          have hz0 := HZW.out
          refine ⟨?_⟩
          go_wp2
          exact kp_post' hsz (Below.refl _ _) (congrArg Value.agg HZW.out)
        · intro G wx fr hway _ hs hdef hsz
          have s53 : fr.tmps[53]? = some (.agg (wcells z16)) := hs.1
          have s54 : fr.tmps[54]? = some (.agg (wcells 0)) := hs.2.1
          have s49 : fr.tmps[49]? = some (.bool true) := hs.2.2.1
          clear hs
          have hq := Q17.out
          refine ⟨?_⟩
          go_wp2
          exact kp_post hsz (Below.refl _ _)
        · intro G wx fr hway _ hs hdef hsz
          have s49 : fr.tmps[49]? = some (.bool true) := hs.1
          have s55 : fr.tmps[55]? = some (.bool true) := hs.2.1
          clear hs
          refine ⟨?_⟩
          go_wp2
          exact kp_post hsz (Below.refl _ _)
        · intro G wx fr hway _ hs hdef hsz
          have s56 : fr.tmps[56]? = some (.bool true) := hs.1
          clear hs
          refine ⟨?_⟩
          go_wp2
          exact kp_post hsz (Below.refl _ _)
        · intro G wx fr hway _ hs hdef hsz
          have s9 : fr.tmps[9]? = some (.int .i64 0) := hs.1
          have s57 : fr.tmps[57]? = some (.bool true) := hs.2.1
          clear hs
          refine ⟨?_⟩
          go_wp2
          exact kp_post hsz (Below.refl _ _)
        · intro G wx fr hway _ hs hdef hsz
          have s58 : fr.tmps[58]? = some (.int .i64 0) := hs.1
          have s57 : fr.tmps[57]? = some (.bool true) := hs.2.1
          clear hs
          refine ⟨?_⟩
          go_wp2
          exact kp_post hsz (Below.refl _ _)
        · intro G wx fr hway _ hs hdef hsz
          have s59 : fr.tmps[59]? = some (.bool true) := hs.1
          have s57 : fr.tmps[57]? = some (.bool true) := hs.2.1
          clear hs
          refine ⟨?_⟩
          go_wp2
          exact kp_post hsz (Below.refl _ _)
        · intro G wx fr hway _ hs hdef hsz
          have s60 : fr.tmps[60]? = some (.bool true) := hs.2.1
          clear hs
          refine ⟨?_⟩
          go_wp2
          exact kp_post hsz (Below.refl _ _)
        · intro G wx fr hway _ hs hdef hsz
          have s60 : fr.tmps[60]? = some (.bool true) := hs.2.1
          clear hs
          refine ⟨?_⟩
          go_wp2
          exact kp_post hsz (Below.refl _ _)
        · intro G wx fr hway _ hs hdef hsz
          have s60 : fr.tmps[60]? = some (.bool true) := hs.2.1
          clear hs
          refine ⟨?_⟩
          go_wp2
          exact kp_post hsz (Below.refl _ _)
        · intro G wx fr hway _ hs hdef hsz
          have s60 : fr.tmps[60]? = some (.bool true) := hs.2.1
          clear hs
          refine ⟨?_⟩
          go_wp2
          exact kp_post hsz (Below.refl _ _)
        · intro G wx fr hway _ hs hdef hsz
          have s60 : fr.tmps[60]? = some (.bool true) := hs.2.2.1
          clear hs
          refine ⟨?_⟩
          go_wp2
          exact kp_post hsz (Below.refl _ _)
        · intro G wx fr hway _ hs hdef hsz
          have s60 : fr.tmps[60]? = some (.bool true) := hs.1
          clear hs
          refine ⟨?_⟩
          go_wp2
          exact kp_post hsz (Below.refl _ _)
        · intro G wx fr hway _ hs hdef hsz
          have s60 : fr.tmps[60]? = some (.bool true) := hs.2.2.1
          clear hs
          refine ⟨?_⟩
          go_wp2
          exact kp_post hsz (Below.refl _ _)
        · intro G wx fr hway _ hs hdef hsz
          have s60 : fr.tmps[60]? = some (.bool true) := hs.1
          have s67 : fr.tmps[67]? = some (undef) := hs.2.1
          have s57 : fr.tmps[57]? = some (.bool true) := hs.2.2.1
          clear hs
          refine ⟨?_⟩
          go_wp2
          exact kp_post hsz (Below.refl _ _)
        · intro G wx fr hway _ hs hdef hsz
          have s57 : fr.tmps[57]? = some (.bool true) := hs.1
          have s68 : fr.tmps[68]? = some (.bool true) := hs.2.1
          clear hs
          refine ⟨?_⟩
          go_wp2
          exact kp_post hsz (Below.refl _ _)
        · intro G wx fr hway _ hs hdef hsz
          have s69 : fr.tmps[69]? = some (.bool true) := hs.1
          clear hs
          refine ⟨?_⟩
          go_wp2
          exact kp_post hsz (Below.refl _ _)
      · intro G V wr8 hval hway hmade hap
        replace hval : V 0 = .bool true ∧ V 1 = .bool true ∧ V 2 = .agg (wcells a) ∧ V 3 = .agg (wcells a) ∧ V 4 = .bool true ∧ V 5 = .bool true ∧ V 6 = .bool true ∧ V 7 = .agg (wcells z9) ∧ V 8 = .agg (wcells a) ∧ V 9 = .agg (wcells z11) ∧ V 10 = .agg (wcells 0) ∧ V 11 = .bool true ∧ V 12 = .bool true ∧ V 13 = .bool true ∧ V 14 = .int .i64 0 ∧ V 15 = .agg (wcells z14) ∧ V 16 = .agg (wcells a) ∧ V 17 = .agg (wcells z16) ∧ V 18 = .agg (wcells 0) ∧ V 19 = .bool true ∧ V 20 = .bool true ∧ V 21 = .bool true ∧ V 22 = .int .i64 0 ∧ V 23 = .bool true ∧ V 24 = .bool true ∧ V 25 = undef ∧ V 26 = undef ∧ V 27 = undef ∧ V 28 = undef ∧ V 29 = undef ∧ V 30 = undef ∧ V 31 = undef ∧ V 32 = .bool true ∧ V 33 = .bool true ∧ V 34 = .bool true ∧ True := hval
        replace hmade : True := hmade
        obtain ⟨e8_0, e8_1, e8_2, e8_3, e8_4, e8_5, e8_6, e8_7, e8_8, e8_9, e8_10, e8_11, e8_12, e8_13, e8_14, e8_15, e8_16, e8_17, e8_18, e8_19, e8_20, e8_21, e8_22, e8_23, e8_24, e8_25, e8_26, e8_27, e8_28, e8_29, e8_30, e8_31, e8_32, e8_33, e8_34, -⟩ := hval
        obtain ⟨-⟩ := hmade
        clear hap
        simp only [fill, Act.put, e8_0, e8_1, e8_2, e8_3, e8_4, e8_5, e8_6, e8_7, e8_8, e8_9, e8_10, e8_11, e8_12, e8_13, e8_14, e8_15, e8_16, e8_17, e8_18, e8_19, e8_20, e8_21, e8_22, e8_23, e8_24, e8_25, e8_26, e8_27, e8_28, e8_29, e8_30, e8_31, e8_32, e8_33, e8_34]
        clear e8_0 e8_1 e8_2 e8_3 e8_4 e8_5 e8_6 e8_7 e8_8 e8_9 e8_10 e8_11 e8_12 e8_13 e8_14 e8_15 e8_16 e8_17 e8_18 e8_19 e8_20 e8_21 e8_22 e8_23 e8_24 e8_25 e8_26 e8_27 e8_28 e8_29 e8_30 e8_31 e8_32 e8_33 e8_34
        simp only [Exit.then]
        go_simp
        clear G V
        replace hy6_1 := way_blk hway hy6_1 hy6_1.lt (by simp [heldBy, Knd.blockOf])
        replace hy6_2 := way_blk hway hy6_2 hy6_2.lt (by simp [heldBy, Knd.blockOf])
        replace hB6_1 := hway.2.2
        clear hway
        go_wp2
        go_ret
        exact ⟨rfl, hB6_1⟩
set_option maxRecDepth 100000 in
set_option maxHeartbeats 8000000 in
theorem walk_p (a bl : Nat) (w : World) (ha : a < 2 ^ 256) (hbl : Kept2 (((blen a : Nat) : Int) = (bl : Int))) (hb1 : 1 ≤ (bl : Int)) (hb2 : (bl : Int) ≤ 256) (hb3 : ((bl : Int) == 0) = false) : Calls Try.prog 5 #[.agg (wcells a)] w fun e w' => e = .returned (.bool true) ∧ Below w.heap.size w w' := by
  have hW := wordTy
  have zW := zWordL
  have HSW := Lib.hid wcells_size
  have H1W := Lib.hid wcells_one
  have HZW := Lib.hid wcells_lit0
  have H0 := Lib.hid (show wcells 0 = (tab .u8 32 fun j => if j < 0 then lowB a (31 - j) else 0) from by rw [← wcells_zero]; exact tab_congr fun j _ => by simp)
  have H32 := Lib.hid (show (tab .u8 32 fun j => if j < 32 then lowB a (31 - j) else 0) = wcells a from by rw [wcells, bv_wbytes]; exact tab_congr fun j hj => by rw [if_pos hj])
  have HT := Lib.hid (fun k (hk : k < 32) => @tab_set .u8 32 (fun j => if j < k then lowB a (31 - j) else 0) k (lowB a (31 - k)) hk)
  have HE := Lib.hid (fun k => @tab_congr .u8 32 (fun j => if j = k then lowB a (31 - k) else if j < k then lowB a (31 - j) else 0) (fun j => if j < k + 1 then lowB a (31 - j) else 0) (fun j _ => by
    by_cases e : j = k
    · subst e; simp
    · by_cases e2 : j < k
      · rw [if_neg e, if_pos e2, if_pos (by omega)]
      · rw [if_neg e, if_neg e2, if_neg (by omega)]))
  have HS := Lib.hid (fun k => @tab_size .u8 32 (fun j => if j < k then lowB a (31 - j) else 0))
  have C1 := Lib.hid (fun w => alive1 w)
  have C6 := Lib.hid (fun w => Bits_any a w ha)
  rw [show ((blen a : Nat) : Int) = (bl : Int) from hbl.out] at C6
  have Q7 := Lib.hid (fun w => eq_word a a ha ha w)
  rw [decide_eq_true rfl] at Q7
  obtain ⟨z9, Ez9⟩ : ∃ z, z = ofN 32 := ⟨_, rfl⟩
  have hz9 : z9 < 2 ^ 256 := by rw [Ez9]; exact (ofN_lt _)
  have C8 := Lib.hid (fun w => Of_any 32 w (by decide) (by decide))
  rw [← Ez9] at C8
  obtain ⟨z11, Ez11⟩ : ∃ z, z = byteN z9 a := ⟨_, rfl⟩
  have hz11 : z11 < 2 ^ 256 := by rw [Ez11]; exact (byteN_lt _ _)
  have C10 := Lib.hid (fun w => Byte_all z9 a w hz9)
  rw [← Ez11] at C10
  have Q12 := Lib.hid (fun w => eq_word z11 0 hz11 (by decide) w)
  rw [decide_eq_true (by subst_vars; exact pByte32 a)] at Q12
  obtain ⟨z14, Ez14⟩ : ∃ z, z = ofN ((bl : Int)) := ⟨_, rfl⟩
  have hz14 : z14 < 2 ^ 256 := by rw [Ez14]; exact (ofN_lt _)
  have C13 := Lib.hid (fun w => Of_any ((bl : Int)) w (by omega) (by omega))
  rw [← Ez14] at C13
  obtain ⟨z16, Ez16⟩ : ∃ z, z = shrN z14 a := ⟨_, rfl⟩
  have hz16 : z16 < 2 ^ 256 := by rw [Ez16]; exact (shrN_lt ha)
  have C15 := Lib.hid (fun w => Shr_all z14 a w hz14 ha)
  rw [← Ez16] at C15
  have Q17 := Lib.hid (fun w => eq_word z16 0 hz16 (by decide) w)
  rw [decide_eq_true (by subst_vars; exact pShrTop1 ha hbl.out)] at Q17
  obtain ⟨z19, Ez19⟩ : ∃ z, z = ofN (((bl : Int)) - 1) := ⟨_, rfl⟩
  have hz19 : z19 < 2 ^ 256 := by rw [Ez19]; exact (ofN_lt _)
  have C18 := Lib.hid (fun w => Of_any (((bl : Int)) - 1) w (by omega) (by omega))
  rw [← Ez19] at C18
  obtain ⟨z21, Ez21⟩ : ∃ z, z = shrN z19 a := ⟨_, rfl⟩
  have hz21 : z21 < 2 ^ 256 := by rw [Ez21]; exact (shrN_lt ha)
  have C20 := Lib.hid (fun w => Shr_all z19 a w hz19 ha)
  rw [← Ez21] at C20
  obtain ⟨z23, Ez23⟩ : ∃ z, z = ofN 1 := ⟨_, rfl⟩
  have hz23 : z23 < 2 ^ 256 := by rw [Ez23]; exact (ofN_lt _)
  have C22 := Lib.hid (fun w => Of_any 1 w (by decide) (by decide))
  rw [← Ez23] at C22
  have Q24 := Lib.hid (fun w => eq_word z21 z23 hz21 hz23 w)
  rw [decide_eq_true (by subst_vars; exact pShrOne hbl.out hb1 hb2)] at Q24
  clear Ez9 Ez11 Ez14 Ez16 Ez19 Ez21 Ez23 hz9 hz11 hz14 hz16 hz19 hz21 hz23
  go_enter Try.func5, Try.ntmps5
  have tk0_0 : True := trivial
  have tk0_1 : True := trivial
  have tk0_2 : True := trivial
  go_wp2_with (first
    | ((with_reducible refine gd_box ?_); have _t := tk0_0; refine wpList_box_agg rfl _ (.tmp 0) rfl rfl ?_; clear tk0_0; intro w1 hx1 hb1 hl1; have hz1 := hx1.lt; have hs1 := hb1.size)
    | (go_at_call 10; have _t := tk0_1; refine (C1.out _).mono ?_; clear tk0_1; rintro e w2 ⟨rfl, hb2⟩; have hs2 := hb2.size)
    | ((with_reducible refine gd_alloc ?_); have _t := tk0_2; refine wpList_alloc_blk rfl 23 rfl zW ?_; clear tk0_2; intro w3 hx3 hb3 hl3; have hz3 := hx3.lt; have hs3 := hb3.size)
    | fail)
  have hy1_1 := ((hx1.ext hb2).ext hb3)
  have hy1_2 := hx3
  have hB1_1 := hb1
  have hB1_2 := below_step hB1_1 hb2
  have hB1_3 := below_step hB1_2 hb3
  have hge_1 : w.heap.size ≤ w.heap.size := by omega
  have hge_2 : w.heap.size ≤ w2.heap.size := by omega
  have hlo_1_2 : w.heap.size < w2.heap.size := by omega
  clear hb1 hl1 hz1 hs1 hb2 hs2 hb3 hl3 hz3 hs3 hx1 hx3 hB1_1 hB1_2
  replace hy1_2 : Blk w3 w2.heap.size 23 (tab .u8 32 fun j => if j < 0 then lowB a (31 - j) else 0) := by rw [← H0.out]; exact hy1_2
  go_loopw [5] (fun i wr => ∃ k : Nat, k ≤ 32 ∧ i = .int .i64 k ∧ Blk wr w.heap.size 23 (wcells a) ∧ Blk wr w2.heap.size 23 (tab .u8 32 fun j => if j < k then lowB a (31 - j) else 0) ∧ Below w.heap.size w wr) (fun i _ => 32 - (intOf i).toNat)
  case atStart => exact ⟨0, by omega, rfl, hy1_1, hy1_2, hB1_3⟩
  case round =>
    clear hy1_1 hy1_2 hB1_3
    obtain ⟨k, hk, rfl, hy1, hy4, hBr⟩ := hrel
    by_cases hlt : k < 32
    · have k0 : (0 : Int) ≤ (k : Int) := by omega
      have k1 : (k : Int) < 32 := by omega
      obtain ⟨x, Ex⟩ : ∃ x, x = lowB a (31 - k) := ⟨_, rfl⟩
      have hx256 : x < 256 := by rw [Ex]; exact lowB_lt _ _
      have x0 : (0 : Int) ≤ (x : Int) := by omega
      have x1 : (x : Int) ≤ 255 := by omega
      have HSk := Lib.hid (HS.out k)
      have HTk := Lib.hid (((HT.out k hlt).trans (HE.out k)))
      rw [← Ex] at HTk
      obtain ⟨z3, Ez3⟩ : ∃ z, z = ofN ((k : Int)) := ⟨_, rfl⟩
      have hz3 : z3 < 2 ^ 256 := by rw [Ez3]; exact (ofN_lt _)
      have C2 := Lib.hid (fun w => Of_any ((k : Int)) w (by omega) (by omega))
      rw [← Ez3] at C2
      have C4 := Lib.hid (fun w => Byte_all z3 a w hz3)
      rw [show byteN z3 a = x from by subst_vars; exact pByte hlt] at C4
      have C5 := Lib.hid (fun w => Int_yes x w (Nat.lt_trans hx256 (by decide)))
      clear Ez3 hz3 Ex
      go_wp2
      have hlw3_1 := hy1.lt
      have hlw3_2 := hy4.lt
      refine wp_region_made (w := wr) (B := w.heap.size) (wB := w) [.val (.int .i64 ((k : Int))), .val (.agg (wcells z3)), .val (.agg (wcells a)), .val (.agg (wcells x)), .new 23 (wcells 0) (wcells x), .putN 4] (by kernel_rfl) (by kernel_rfl) (by kernel_rfl) rfl (by kernel_rfl) rfl hBr.size hBr (by exact List.nodup_nil) (by intro g hg; exact nomatch hg) trivial ?_ ?_
      · refine ⟨?_, ?_, ?_, ?_, ?_, ?_, trivial⟩
        · intro G wx fr hway _ hs hdef hsz
          have s5 : fr.tmps[5]? = some (.int .i64 ((k : Int))) := hs.1
          clear hs
          refine ⟨?_⟩
          go_wp2
          exact kp_post hsz (Below.refl _ _)
        · intro G wx fr hway _ hs hdef hsz
          have s15 : fr.tmps[15]? = some (.int .i64 ((k : Int))) := hs.1
          clear hs
          refine ⟨?_⟩
          go_wp2_with fail
          refine (C2.out wx).mono ?_
          rintro e w2 ⟨rfl, hb2⟩
          go_wp2
          exact kp_post hsz hb2
        · intro G wx fr hway _ hs hdef hsz
          have s1 : fr.tmps[1]? = some (.pointer (some ⟨w.heap.size, 0, none⟩)) := hs.1
          clear hs
          refine ⟨?_⟩
          refine wpList_load_blk rfl 23 (.tmp 1) rfl (way_blk hway hy1 (by first | exact hy1.lt | omega) (by simp [heldBy, Knd.blockOf])) (by rw [HSW.out]; exact hW) (by simp [Act.eval, s1]) ?_
          refine wpList_nil ?_
          exact kp_val hdef hsz (Below.refl _ _)
        · intro G wx fr hway _ hs hdef hsz
          have s16 : fr.tmps[16]? = some (.agg (wcells z3)) := hs.1
          have s17 : fr.tmps[17]? = some (.agg (wcells a)) := hs.2.1
          clear hs
          refine ⟨?_⟩
          go_wp2_with fail
          refine (C4.out wx).mono ?_
          rintro e w2 ⟨rfl, hb2⟩
          go_wp2
          exact kp_post hsz hb2
        · intro G wx fr hway _ hs hdef hsz
          clear hs
          refine ⟨?_⟩
          refine wpList_alloc_blk rfl 23 rfl zW ?_
          intro wy hxy hby _
          refine wpList_nil ?_
          exact kp_new hdef hsz hby hxy
        · intro G wx fr hway hpre hs hdef hsz
          have s6 : fr.tmps[6]? = some (.pointer (some ⟨G 4, 0, none⟩)) := hs.1
          have s18 : fr.tmps[18]? = some (.agg (wcells x)) := hs.2.1
          clear hs
          have hpre' : Blk wx (G 4) 23 (wcells 0) := hpre
          refine ⟨?_⟩
          refine wpList_store_all rfl 23 (.tmp 6) (.tmp 18) rfl (wcells x) hpre' (by rw [HSW.out]; exact hW) (by rw [HSW.out, HSW.out]) (H1W.out _) (by simp [Act.eval, s6]) (by simp [Act.eval, s18]) ?_
          intro wy hxy hgy
          refine wpList_nil ?_
          exact ⟨rfl, hdef, rfl, hxy, hgy⟩
      · intro G V wr3 hval hway hmade hap
        replace hval : V 0 = .int .i64 ((k : Int)) ∧ V 1 = .agg (wcells z3) ∧ V 2 = .agg (wcells a) ∧ V 3 = .agg (wcells x) ∧ V 4 = .pointer (some ⟨G 4, 0, none⟩) ∧ V 5 = undef ∧ True := hval
        replace hmade : (wr.heap.size ≤ G 4 ∧ G 4 < wr3.heap.size ∧ Blk wr3 (G 4) 23 (wcells x)) ∧ True := hmade
        obtain ⟨e3_0, e3_1, e3_2, e3_3, e3_4, e3_5, -⟩ := hval
        obtain ⟨⟨hg3_4, hl3_4, hx_3_4⟩, -⟩ := hmade
        clear hap
        simp only [fill, Act.put, e3_0, e3_1, e3_2, e3_3, e3_4]
        clear e3_0 e3_1 e3_2 e3_3 e3_4 e3_5
        simp only [Exit.then]
        go_simp
        generalize G 4 = g3_4 at *
        clear G V
        replace hy1 := way_blk hway hy1 hy1.lt (by simp [heldBy, Knd.blockOf])
        replace hy4 := way_blk hway hy4 hy4.lt (by simp [heldBy, Knd.blockOf])
        replace hBr := hway.2.2
        clear hway
        go_simp
        have tk3_0 : True := trivial
        have tk3_1 : True := trivial
        have tk3_2 : True := trivial
        have hlt_3_1 := hy1.lt
        have hlt_3_2 := hy4.lt
        have hlt_3_3 := hx_3_4.lt
        have hBs_3 := hBr.size
        go_wp2_with (first
          | ((with_reducible refine gd_load ?_); have _t := tk3_0; refine wpList_load_blk rfl 23 (.tmp 6) rfl hx_3_4 (by rw [HSW.out]; exact hW) rfl ?_; clear tk3_0)
          | (go_at_call 11; have _t := tk3_1; refine (C5.out _).mono ?_; clear tk3_1; rintro e w4 ⟨rfl, hb4⟩; have hs4 := hb4.size)
          | ((with_reducible refine gd_store ?_); have _t := tk3_2; refine wpList_store_cell rfl 5 (.tmp 33) (.tmp 32) rfl (hy4.ext hb4) (i := k) (v := .int .u8 (x : Nat)) (by rw [HSk.out]; exact hlt) (by kernel_rfl) rfl rfl (by rfl) ?_; clear tk3_2; intro w5 hx5 hg5; have hs5 := hg5.size)
          | fail)
        have hy4_1 := ((hy1.ext hb4).grown hg5 (by simp; omega))
        have hy4_2 := hx5
        have hy4_3 := ((hx_3_4.ext hb4).grown hg5 (by simp; omega))
        have hB4_1 := below_step hBr hb4
        have hB4_2 := below_blk hB4_1 hB4_1.size hg5 (by first | omega | (simp; omega))
        clear hlt_3_1 hlt_3_2 hlt_3_3 hBs_3 hb4 hs4 hg5 hs5 hx5 hx_3_4 hy1 hB4_1 hBr
        rw [HTk.out] at hy4_2
        go_roundw
        case rel => exact ⟨k + 1, by omega, by go_num, hy4_1, hy4_2, hB4_2⟩
        case measure => (simp [intOf]; try omega)
    · obtain rfl : k = 32 := by omega
      rw [H32.out] at hy4
      have tk5_0 : True := trivial
      have tk5_1 : True := trivial
      have hlt_5_1 := hy1.lt
      have hlt_5_2 := hy4.lt
      have hBs_5 := hBr.size
      go_wp2_with (first
        | ((with_reducible refine gd_load ?_); have _t := tk5_0; refine wpList_load_blk rfl 23 (.tmp 1) rfl hy1 (by rw [HSW.out]; exact hW) rfl ?_; clear tk5_0)
        | (go_at_call 18; have _t := tk5_1; refine (C6.out _).mono ?_; clear tk5_1; rintro e w6 ⟨rfl, hb6⟩; have hs6 := hb6.size)
        | fail)
      have hy6_1 := (hy1.ext hb6)
      have hy6_2 := (hy4.ext hb6)
      have hB6_1 := below_step hBr hb6
      clear hlt_5_1 hlt_5_2 hBs_5 hb6 hs6 hy1 hy4 hBr
      refine wp_region_made (w := w6) (B := w.heap.size) (wB := w) ((.val (.bool true)) :: (.val (.bool true)) :: (.val (.agg (wcells a))) :: (.val (.agg (wcells a))) :: (.val (.bool true)) :: (.val (.bool true)) :: (.val (.bool true)) :: (.val (.agg (wcells z9))) :: (.val (.agg (wcells a))) :: (.val (.agg (wcells z11))) :: (.val (.agg (wcells 0))) :: (.val (.bool true)) :: (.val (.bool true)) :: (.val (.bool true)) :: (.val (.int .i64 ((bl : Int)))) :: (.val (.agg (wcells z14))) :: (.val (.agg (wcells a))) :: (.val (.agg (wcells z16))) :: (.val (.agg (wcells 0))) :: (.val (.bool true)) :: (.val (.bool true)) :: (.val (.bool true)) :: (.val (.int .i64 ((bl : Int)))) :: (.val (.bool false)) :: (.val (.bool false)) :: (.val (.int .i64 ((bl : Int)))) :: (.val (.int .i64 (((bl : Int)) - 1))) :: (.val (.agg (wcells z19))) :: (.val (.agg (wcells a))) :: (.val (.agg (wcells z21))) :: (.val (.agg (wcells z23))) :: (.val (.bool true)) :: (.val (.bool true)) :: (.val (.bool true)) :: (.val (.bool true)) :: []) (by kernel_rfl) (by kernel_rfl) (by kernel_rfl) rfl (by kernel_rfl) rfl hB6_1.size hB6_1 (by exact List.nodup_nil) (by intro g hg; exact nomatch hg) trivial ?_ ?_
      · refine ⟨?_, ?_, ?_, ?_, ?_, ?_, ?_, ?_, ?_, ?_, ?_, ?_, ?_, ?_, ?_, ?_, ?_, ?_, ?_, ?_, ?_, ?_, ?_, ?_, ?_, ?_, ?_, ?_, ?_, ?_, ?_, ?_, ?_, ?_, ?_, trivial⟩
        · intro G wx fr hway _ hs hdef hsz
          have s3 : fr.tmps[3]? = some (.bool true) := hs.1
          clear hs
          refine ⟨?_⟩
          go_wp2
          exact kp_post hsz (Below.refl _ _)
        · intro G wx fr hway _ hs hdef hsz
          have s36 : fr.tmps[36]? = some (.bool true) := hs.1
          clear hs
          refine ⟨?_⟩
          go_wp2
          exact kp_post hsz (Below.refl _ _)
        · intro G wx fr hway _ hs hdef hsz
          have s4 : fr.tmps[4]? = some (.pointer (some ⟨w2.heap.size, 0, none⟩)) := hs.1
          have s37 : fr.tmps[37]? = some (.bool true) := hs.2.1
          clear hs
          refine ⟨?_⟩
          refine wpList_load_want (by simp [Region.wanted, yielded, *]) 23 (.tmp 4) rfl (way_blk hway hy6_2 (by first | exact hy6_2.lt | omega) (by simp [heldBy, Knd.blockOf])) (by rw [HSW.out]; exact hW) (by simp [Act.eval, s4]) ?_
          refine wpList_nil ?_
          exact kp_val hdef hsz (Below.refl _ _)
        · intro G wx fr hway _ hs hdef hsz
          have s1 : fr.tmps[1]? = some (.pointer (some ⟨w.heap.size, 0, none⟩)) := hs.1
          have s37 : fr.tmps[37]? = some (.bool true) := hs.2.1
          clear hs
          refine ⟨?_⟩
          refine wpList_load_want (by simp [Region.wanted, yielded, *]) 23 (.tmp 1) rfl (way_blk hway hy6_1 (by first | exact hy6_1.lt | omega) (by simp [heldBy, Knd.blockOf])) (by rw [HSW.out]; exact hW) (by simp [Act.eval, s1]) ?_
          refine wpList_nil ?_
          exact kp_val hdef hsz (Below.refl _ _)
        · intro G wx fr hway _ hs hdef hsz
          have s38 : fr.tmps[38]? = some (.agg (wcells a)) := hs.1
          have s39 : fr.tmps[39]? = some (.agg (wcells a)) := hs.2.1
          have s37 : fr.tmps[37]? = some (.bool true) := hs.2.2.1
          clear hs
          have hq := Q7.out
          refine ⟨?_⟩
          go_wp2
          exact kp_post hsz (Below.refl _ _)
        · intro G wx fr hway _ hs hdef hsz
          have s37 : fr.tmps[37]? = some (.bool true) := hs.1
          have s40 : fr.tmps[40]? = some (.bool true) := hs.2.1
          clear hs
          refine ⟨?_⟩
          go_wp2
          exact kp_post hsz (Below.refl _ _)
        · intro G wx fr hway _ hs hdef hsz
          have s41 : fr.tmps[41]? = some (.bool true) := hs.1
          clear hs
          refine ⟨?_⟩
          go_wp2
          exact kp_post hsz (Below.refl _ _)
        · intro G wx fr hway _ hs hdef hsz
          have s42 : fr.tmps[42]? = some (.bool true) := hs.1
          clear hs
          refine ⟨?_⟩
          go_wp2_with fail
          refine (C8.out wx).mono ?_
          rintro e w2 ⟨rfl, hb2⟩
          go_wp2
          exact kp_post hsz hb2
        · intro G wx fr hway _ hs hdef hsz
          have s1 : fr.tmps[1]? = some (.pointer (some ⟨w.heap.size, 0, none⟩)) := hs.1
          have s42 : fr.tmps[42]? = some (.bool true) := hs.2.1
          clear hs
          refine ⟨?_⟩
          refine wpList_load_want (by simp [Region.wanted, yielded, *]) 23 (.tmp 1) rfl (way_blk hway hy6_1 (by first | exact hy6_1.lt | omega) (by simp [heldBy, Knd.blockOf])) (by rw [HSW.out]; exact hW) (by simp [Act.eval, s1]) ?_
          refine wpList_nil ?_
          exact kp_val hdef hsz (Below.refl _ _)
        · intro G wx fr hway _ hs hdef hsz
          have s43 : fr.tmps[43]? = some (.agg (wcells z9)) := hs.1
          have s44 : fr.tmps[44]? = some (.agg (wcells a)) := hs.2.1
          have s42 : fr.tmps[42]? = some (.bool true) := hs.2.2.1
          clear hs
          refine ⟨?_⟩
          go_wp2_with fail
          refine (C10.out wx).mono ?_
          rintro e w2 ⟨rfl, hb2⟩
          go_wp2
          exact kp_post hsz hb2
        · intro G wx fr hway _ hs hdef hsz
          have s42 : fr.tmps[42]? = some (.bool true) := hs.1
          clear hs
          have hz0 := HZW.out
          refine ⟨?_⟩
          go_wp2
          exact kp_post' hsz (Below.refl _ _) (congrArg Value.agg HZW.out)
        · intro G wx fr hway _ hs hdef hsz
          have s45 : fr.tmps[45]? = some (.agg (wcells z11)) := hs.1
          have s46 : fr.tmps[46]? = some (.agg (wcells 0)) := hs.2.1
          have s42 : fr.tmps[42]? = some (.bool true) := hs.2.2.1
          clear hs
          have hq := Q12.out
          refine ⟨?_⟩
          go_wp2
          exact kp_post hsz (Below.refl _ _)
        · intro G wx fr hway _ hs hdef hsz
          have s42 : fr.tmps[42]? = some (.bool true) := hs.1
          have s47 : fr.tmps[47]? = some (.bool true) := hs.2.1
          clear hs
          refine ⟨?_⟩
          go_wp2
          exact kp_post hsz (Below.refl _ _)
        · intro G wx fr hway _ hs hdef hsz
          have s48 : fr.tmps[48]? = some (.bool true) := hs.1
          clear hs
          refine ⟨?_⟩
          go_wp2
          exact kp_post hsz (Below.refl _ _)
        · intro G wx fr hway _ hs hdef hsz
          have s9 : fr.tmps[9]? = some (.int .i64 ((bl : Int))) := hs.1
          have s49 : fr.tmps[49]? = some (.bool true) := hs.2.1
          clear hs
          refine ⟨?_⟩
          go_wp2
          exact kp_post hsz (Below.refl _ _)
        · intro G wx fr hway _ hs hdef hsz
          have s50 : fr.tmps[50]? = some (.int .i64 ((bl : Int))) := hs.1
          have s49 : fr.tmps[49]? = some (.bool true) := hs.2.1
          clear hs
          refine ⟨?_⟩
          go_wp2_with fail
          refine (C13.out wx).mono ?_
          rintro e w2 ⟨rfl, hb2⟩
          go_wp2
          exact kp_post hsz hb2
        · intro G wx fr hway _ hs hdef hsz
          have s1 : fr.tmps[1]? = some (.pointer (some ⟨w.heap.size, 0, none⟩)) := hs.1
          have s49 : fr.tmps[49]? = some (.bool true) := hs.2.1
          clear hs
          refine ⟨?_⟩
          refine wpList_load_want (by simp [Region.wanted, yielded, *]) 23 (.tmp 1) rfl (way_blk hway hy6_1 (by first | exact hy6_1.lt | omega) (by simp [heldBy, Knd.blockOf])) (by rw [HSW.out]; exact hW) (by simp [Act.eval, s1]) ?_
          refine wpList_nil ?_
          exact kp_val hdef hsz (Below.refl _ _)
        · intro G wx fr hway _ hs hdef hsz
          have s51 : fr.tmps[51]? = some (.agg (wcells z14)) := hs.1
          have s52 : fr.tmps[52]? = some (.agg (wcells a)) := hs.2.1
          have s49 : fr.tmps[49]? = some (.bool true) := hs.2.2.1
          clear hs
          refine ⟨?_⟩
          go_wp2_with fail
          refine (C15.out wx).mono ?_
          rintro e w2 ⟨rfl, hb2⟩
          go_wp2
          exact kp_post hsz hb2
        · intro G wx fr hway _ hs hdef hsz
          have s49 : fr.tmps[49]? = some (.bool true) := hs.1
          clear hs
          have hz0 := HZW.out
          refine ⟨?_⟩
          go_wp2
          exact kp_post' hsz (Below.refl _ _) (congrArg Value.agg HZW.out)
        · intro G wx fr hway _ hs hdef hsz
          have s53 : fr.tmps[53]? = some (.agg (wcells z16)) := hs.1
          have s54 : fr.tmps[54]? = some (.agg (wcells 0)) := hs.2.1
          have s49 : fr.tmps[49]? = some (.bool true) := hs.2.2.1
          clear hs
          have hq := Q17.out
          refine ⟨?_⟩
          go_wp2
          exact kp_post hsz (Below.refl _ _)
        · intro G wx fr hway _ hs hdef hsz
          have s49 : fr.tmps[49]? = some (.bool true) := hs.1
          have s55 : fr.tmps[55]? = some (.bool true) := hs.2.1
          clear hs
          refine ⟨?_⟩
          go_wp2
          exact kp_post hsz (Below.refl _ _)
        · intro G wx fr hway _ hs hdef hsz
          have s56 : fr.tmps[56]? = some (.bool true) := hs.1
          clear hs
          refine ⟨?_⟩
          go_wp2
          exact kp_post hsz (Below.refl _ _)
        · intro G wx fr hway _ hs hdef hsz
          have s9 : fr.tmps[9]? = some (.int .i64 ((bl : Int))) := hs.1
          have s57 : fr.tmps[57]? = some (.bool true) := hs.2.1
          clear hs
          refine ⟨?_⟩
          go_wp2
          exact kp_post hsz (Below.refl _ _)
        · intro G wx fr hway _ hs hdef hsz
          have s58 : fr.tmps[58]? = some (.int .i64 ((bl : Int))) := hs.1
          have s57 : fr.tmps[57]? = some (.bool true) := hs.2.1
          clear hs
          refine ⟨?_⟩
          go_wp2
          exact kp_post hsz (Below.refl _ _)
        · intro G wx fr hway _ hs hdef hsz
          have s59 : fr.tmps[59]? = some (.bool false) := hs.1
          have s57 : fr.tmps[57]? = some (.bool true) := hs.2.1
          clear hs
          refine ⟨?_⟩
          go_wp2
          exact kp_post hsz (Below.refl _ _)
        · intro G wx fr hway _ hs hdef hsz
          have s9 : fr.tmps[9]? = some (.int .i64 ((bl : Int))) := hs.1
          have s60 : fr.tmps[60]? = some (.bool false) := hs.2.1
          clear hs
          refine ⟨?_⟩
          go_wp2
          exact kp_post hsz (Below.refl _ _)
        · intro G wx fr hway _ hs hdef hsz
          have s61 : fr.tmps[61]? = some (.int .i64 ((bl : Int))) := hs.1
          have s60 : fr.tmps[60]? = some (.bool false) := hs.2.1
          clear hs
          refine ⟨?_⟩
          go_wp2
          exact kp_post hsz (Below.refl _ _)
        · intro G wx fr hway _ hs hdef hsz
          have s62 : fr.tmps[62]? = some (.int .i64 (((bl : Int)) - 1)) := hs.1
          have s60 : fr.tmps[60]? = some (.bool false) := hs.2.1
          clear hs
          refine ⟨?_⟩
          go_wp2_with fail
          refine (C18.out wx).mono ?_
          rintro e w2 ⟨rfl, hb2⟩
          go_wp2
          exact kp_post hsz hb2
        · intro G wx fr hway _ hs hdef hsz
          have s1 : fr.tmps[1]? = some (.pointer (some ⟨w.heap.size, 0, none⟩)) := hs.1
          have s60 : fr.tmps[60]? = some (.bool false) := hs.2.1
          clear hs
          refine ⟨?_⟩
          refine wpList_load_want (by simp [Region.wanted, yielded, *]) 23 (.tmp 1) rfl (way_blk hway hy6_1 (by first | exact hy6_1.lt | omega) (by simp [heldBy, Knd.blockOf])) (by rw [HSW.out]; exact hW) (by simp [Act.eval, s1]) ?_
          refine wpList_nil ?_
          exact kp_val hdef hsz (Below.refl _ _)
        · intro G wx fr hway _ hs hdef hsz
          have s63 : fr.tmps[63]? = some (.agg (wcells z19)) := hs.1
          have s64 : fr.tmps[64]? = some (.agg (wcells a)) := hs.2.1
          have s60 : fr.tmps[60]? = some (.bool false) := hs.2.2.1
          clear hs
          refine ⟨?_⟩
          go_wp2_with fail
          refine (C20.out wx).mono ?_
          rintro e w2 ⟨rfl, hb2⟩
          go_wp2
          exact kp_post hsz hb2
        · intro G wx fr hway _ hs hdef hsz
          have s60 : fr.tmps[60]? = some (.bool false) := hs.1
          clear hs
          refine ⟨?_⟩
          go_wp2_with fail
          refine (C22.out wx).mono ?_
          rintro e w2 ⟨rfl, hb2⟩
          go_wp2
          exact kp_post hsz hb2
        · intro G wx fr hway _ hs hdef hsz
          have s65 : fr.tmps[65]? = some (.agg (wcells z21)) := hs.1
          have s66 : fr.tmps[66]? = some (.agg (wcells z23)) := hs.2.1
          have s60 : fr.tmps[60]? = some (.bool false) := hs.2.2.1
          clear hs
          have hq := Q24.out
          refine ⟨?_⟩
          go_wp2
          exact kp_post hsz (Below.refl _ _)
        · intro G wx fr hway _ hs hdef hsz
          have s60 : fr.tmps[60]? = some (.bool false) := hs.1
          have s67 : fr.tmps[67]? = some (.bool true) := hs.2.1
          have s57 : fr.tmps[57]? = some (.bool true) := hs.2.2.1
          clear hs
          refine ⟨?_⟩
          go_wp2
          exact kp_post hsz (Below.refl _ _)
        · intro G wx fr hway _ hs hdef hsz
          have s57 : fr.tmps[57]? = some (.bool true) := hs.1
          have s68 : fr.tmps[68]? = some (.bool true) := hs.2.1
          clear hs
          refine ⟨?_⟩
          go_wp2
          exact kp_post hsz (Below.refl _ _)
        · intro G wx fr hway _ hs hdef hsz
          have s69 : fr.tmps[69]? = some (.bool true) := hs.1
          clear hs
          refine ⟨?_⟩
          go_wp2
          exact kp_post hsz (Below.refl _ _)
      · intro G V wr8 hval hway hmade hap
        replace hval : V 0 = .bool true ∧ V 1 = .bool true ∧ V 2 = .agg (wcells a) ∧ V 3 = .agg (wcells a) ∧ V 4 = .bool true ∧ V 5 = .bool true ∧ V 6 = .bool true ∧ V 7 = .agg (wcells z9) ∧ V 8 = .agg (wcells a) ∧ V 9 = .agg (wcells z11) ∧ V 10 = .agg (wcells 0) ∧ V 11 = .bool true ∧ V 12 = .bool true ∧ V 13 = .bool true ∧ V 14 = .int .i64 ((bl : Int)) ∧ V 15 = .agg (wcells z14) ∧ V 16 = .agg (wcells a) ∧ V 17 = .agg (wcells z16) ∧ V 18 = .agg (wcells 0) ∧ V 19 = .bool true ∧ V 20 = .bool true ∧ V 21 = .bool true ∧ V 22 = .int .i64 ((bl : Int)) ∧ V 23 = .bool false ∧ V 24 = .bool false ∧ V 25 = .int .i64 ((bl : Int)) ∧ V 26 = .int .i64 (((bl : Int)) - 1) ∧ V 27 = .agg (wcells z19) ∧ V 28 = .agg (wcells a) ∧ V 29 = .agg (wcells z21) ∧ V 30 = .agg (wcells z23) ∧ V 31 = .bool true ∧ V 32 = .bool true ∧ V 33 = .bool true ∧ V 34 = .bool true ∧ True := hval
        replace hmade : True := hmade
        obtain ⟨e8_0, e8_1, e8_2, e8_3, e8_4, e8_5, e8_6, e8_7, e8_8, e8_9, e8_10, e8_11, e8_12, e8_13, e8_14, e8_15, e8_16, e8_17, e8_18, e8_19, e8_20, e8_21, e8_22, e8_23, e8_24, e8_25, e8_26, e8_27, e8_28, e8_29, e8_30, e8_31, e8_32, e8_33, e8_34, -⟩ := hval
        obtain ⟨-⟩ := hmade
        clear hap
        simp only [fill, Act.put, e8_0, e8_1, e8_2, e8_3, e8_4, e8_5, e8_6, e8_7, e8_8, e8_9, e8_10, e8_11, e8_12, e8_13, e8_14, e8_15, e8_16, e8_17, e8_18, e8_19, e8_20, e8_21, e8_22, e8_23, e8_24, e8_25, e8_26, e8_27, e8_28, e8_29, e8_30, e8_31, e8_32, e8_33, e8_34]
        clear e8_0 e8_1 e8_2 e8_3 e8_4 e8_5 e8_6 e8_7 e8_8 e8_9 e8_10 e8_11 e8_12 e8_13 e8_14 e8_15 e8_16 e8_17 e8_18 e8_19 e8_20 e8_21 e8_22 e8_23 e8_24 e8_25 e8_26 e8_27 e8_28 e8_29 e8_30 e8_31 e8_32 e8_33 e8_34
        simp only [Exit.then]
        go_simp
        clear G V
        replace hy6_1 := way_blk hway hy6_1 hy6_1.lt (by simp [heldBy, Knd.blockOf])
        replace hy6_2 := way_blk hway hy6_2 hy6_2.lt (by simp [heldBy, Knd.blockOf])
        replace hB6_1 := hway.2.2
        clear hway
        go_wp2
        go_ret
        exact ⟨rfl, hB6_1⟩
open Go.ChangeShapes Go.WideShapes Go.ChangeAt

set_option maxRecDepth 100000 in
theorem lifted (os : Os) (started : os.Started) (H : Type) (enc : TypeId × Value → H) :
    ReturnsInHanded {} Try.checked os 5 .any (Rows.wordBytesSpec.pre6 enc Try.prog Try.f5 Rows.wordBytesRow.domain false) (Rows.wordBytesSpec.post enc Try.prog Try.f5 false true false false) := by
  refine law_lift (C := Try.checked) (ts := [23]) (tb := 4) (by kernel_rfl) started (by kernel_rfl) Try.func5
    (ChangeSpec.witness6 (enc := enc) (C := Try.checked) false ⟨#[], #[.agg (Array.replicate 32 (.int .u8 0))], []⟩ 8 (by kernel_rfl) (by kernel_rfl) (by kernel_rfl) (by kernel_rfl))
    (by kernel_rfl) (by kernel_rfl) (by kernel_rfl) (by kernel_rfl) Try.underlying4 rfl (fun ds h => by match ds, h with | [_], _ => rfl) ?_
  intro W vs hl h
  match vs, hl with
  | [v0], _ =>
    have ha := h 0 _ v0 rfl rfl
    obtain ⟨a, ha', rfl⟩ := arg_word ha
    by_cases c : a = 0
    · exact walk_z a W ha' ⟨c⟩ ⟨by rw [c]; decide⟩
    · have h1 := blen_pos c
      have h2 : blen a ≤ 256 := blen_le_iff.2 ha'
      exact walk_p a (blen a) W ha' ⟨rfl⟩ (by omega) (by omega) (by rw [beq_eq_false_iff_ne]; omega)

theorem over : Rows.wordBytesRow.holds Try.pinned (OpenSpec.ofChange Rows.wordBytesSpec) :=
  OpenClaim.holds_of_wide 5 Try.f5 rfl rfl rfl rfl rfl rfl rfl ⟨rfl, rfl, rfl, rfl, rfl⟩ rfl rfl rfl rfl rfl (by kernel_rfl) Try.func5 (by kernel_rfl)
    (of_decide_eq_true (by kernel_rfl)) (by unfold Func.isWrapper; first | (rw [if_pos (by decide +kernel)]; kernel_rfl) | (rw [if_neg (by decide +kernel)]; exact ⟨rfl, rfl⟩))
    (fun os started H enc _ => lifted os started H enc)
end Go.Proofs.Ytegnfklehgbooaa.WordBytes
namespace Go.Proofs.Ytegnfklehgbooaa
theorem wordBytes_holds : Rows.WordBytesSaid := WordBytes.over
#print axioms wordBytes_holds
end Go.Proofs.Ytegnfklehgbooaa
