/- 'WordParts' answers true at every input, and leaves what it was given. No condition. -/
import Derived.Test.YtegnfklehgbooaaWordAlive
import Derived.Test.YtegnfklehgbooaaWordArg
import Derived.Test.YtegnfklehgbooaaRefSigned
import Derived.Test.YtegnfklehgbooaaLaw
import Derived.Test.YtegnfklehgbooaaRows
namespace Go.Proofs.Ytegnfklehgbooaa.WordParts
open Go Go.RowKit Go.Mun Go.Proofs

set_option maxRecDepth 100000 in
set_option maxHeartbeats 8000000 in
theorem walk (a b : Nat) (w : World) (ha : a < 2 ^ 256) (hb : b < 2 ^ 256) : Calls Try.prog 9 #[.agg (wcells a), .agg (wcells b)] w fun e w' => e = .returned (.bool true) ∧ Below w.heap.size w w' := by
  have hW := wordTy
  have zW := zWordL
  have HSW := Lib.hid wcells_size
  have H1W := Lib.hid wcells_one
  have HZW := Lib.hid wcells_lit0
  have C1 := Lib.hid (fun w => alive1 w)
  obtain ⟨z3, Ez3⟩ : ∃ z, z = a / b := ⟨_, rfl⟩
  have hz3 : z3 < 2 ^ 256 := by rw [Ez3]; exact (divN_lt _ ha)
  have C2 := Lib.hid (fun w => Div_all a b w ha hb)
  rw [← Ez3] at C2
  have C4 := Lib.hid (fun w => RefDiv_all a b w ha hb)
  rw [← Ez3] at C4
  have Q5 := Lib.hid (fun w => eq_word z3 z3 hz3 hz3 w)
  rw [decide_eq_true rfl] at Q5
  obtain ⟨z7, Ez7⟩ : ∃ z, z = modN a b := ⟨_, rfl⟩
  have hz7 : z7 < 2 ^ 256 := by rw [Ez7]; exact (modN_lt _ ha)
  have C6 := Lib.hid (fun w => Mod_all a b w ha hb)
  rw [← Ez7] at C6
  have C8 := Lib.hid (fun w => RefMod_all a b w ha hb)
  rw [← Ez7] at C8
  have Q9 := Lib.hid (fun w => eq_word z7 z7 hz7 hz7 w)
  rw [decide_eq_true rfl] at Q9
  obtain ⟨z11, Ez11⟩ : ∃ z, z = sdivN a b := ⟨_, rfl⟩
  have hz11 : z11 < 2 ^ 256 := by rw [Ez11]; exact (sdivN_lt _ _)
  have C10 := Lib.hid (fun w => SDiv_all a b w ha hb)
  rw [← Ez11] at C10
  have C12 := Lib.hid (fun w => RefSDiv_all a b w ha hb)
  rw [← Ez11] at C12
  have Q13 := Lib.hid (fun w => eq_word z11 z11 hz11 hz11 w)
  rw [decide_eq_true rfl] at Q13
  obtain ⟨z15, Ez15⟩ : ∃ z, z = smodN a b := ⟨_, rfl⟩
  have hz15 : z15 < 2 ^ 256 := by rw [Ez15]; exact (smodN_lt _ ha)
  have C14 := Lib.hid (fun w => SMod_all a b w ha hb)
  rw [← Ez15] at C14
  have C16 := Lib.hid (fun w => RefSMod_all a b w ha hb)
  rw [← Ez15] at C16
  have Q17 := Lib.hid (fun w => eq_word z15 z15 hz15 hz15 w)
  rw [decide_eq_true rfl] at Q17
  clear Ez3 Ez7 Ez11 Ez15 hz3 hz7 hz11 hz15
  go_enter Try.func9, Try.ntmps9
  have tk0_0 : True := trivial
  have tk0_1 : True := trivial
  have tk0_2 : True := trivial
  go_wp2_with (first
    | ((with_reducible refine gd_box ?_); have _t := tk0_0; refine wpList_box_agg rfl _ (.tmp 0) rfl rfl ?_; clear tk0_0; intro w1 hx1 hb1 hl1; have hz1 := hx1.lt; have hs1 := hb1.size)
    | ((with_reducible refine gd_box ?_); have _t := tk0_1; refine wpList_box_agg rfl _ (.tmp 1) rfl rfl ?_; clear tk0_1; intro w2 hx2 hb2 hl2; have hz2 := hx2.lt; have hs2 := hb2.size)
    | (go_at_call 10; have _t := tk0_2; refine (C1.out _).mono ?_; clear tk0_2; rintro e w3 ⟨rfl, hb3⟩; have hs3 := hb3.size)
    | fail)
  have hy1_1 := ((hx1.ext hb2).ext hb3)
  have hy1_2 := (hx2.ext hb3)
  have hB1_1 := hb1
  have hB1_2 := below_step hB1_1 hb2
  have hB1_3 := below_step hB1_2 hb3
  clear hb1 hl1 hz1 hs1 hb2 hl2 hz2 hs2 hb3 hs3 hx1 hx2 hB1_1 hB1_2
  refine wp_region_made (w := w3) (B := w.heap.size) (wB := w) ((.val (.bool true)) :: (.val (.bool true)) :: (.val (.agg (wcells a))) :: (.val (.agg (wcells b))) :: (.val (.agg (wcells z3))) :: (.val (.agg (wcells a))) :: (.val (.agg (wcells b))) :: (.val (.agg (wcells z3))) :: (.val (.bool true)) :: (.val (.bool true)) :: (.val (.bool true)) :: (.val (.agg (wcells a))) :: (.val (.agg (wcells b))) :: (.val (.agg (wcells z7))) :: (.val (.agg (wcells a))) :: (.val (.agg (wcells b))) :: (.val (.agg (wcells z7))) :: (.val (.bool true)) :: (.val (.bool true)) :: (.val (.bool true)) :: (.val (.agg (wcells a))) :: (.val (.agg (wcells b))) :: (.val (.agg (wcells z11))) :: (.val (.agg (wcells a))) :: (.val (.agg (wcells b))) :: (.val (.agg (wcells z11))) :: (.val (.bool true)) :: (.val (.bool true)) :: (.val (.bool true)) :: (.val (.agg (wcells a))) :: (.val (.agg (wcells b))) :: (.val (.agg (wcells z15))) :: (.val (.agg (wcells a))) :: (.val (.agg (wcells b))) :: (.val (.agg (wcells z15))) :: (.val (.bool true)) :: (.val (.bool true)) :: (.val (.bool true)) :: []) (by kernel_rfl) (by kernel_rfl) (by kernel_rfl) rfl (by kernel_rfl) rfl hB1_3.size hB1_3 (by exact List.nodup_nil) (by intro g hg; exact nomatch hg) trivial ?_ ?_
  · refine ⟨?_, ?_, ?_, ?_, ?_, ?_, ?_, ?_, ?_, ?_, ?_, ?_, ?_, ?_, ?_, ?_, ?_, ?_, ?_, ?_, ?_, ?_, ?_, ?_, ?_, ?_, ?_, ?_, ?_, ?_, ?_, ?_, ?_, ?_, ?_, ?_, ?_, ?_, trivial⟩
    · intro G wx fr hway _ hs hdef hsz
      have s5 : fr.tmps[5]? = some (.bool true) := hs.1
      clear hs
      refine ⟨?_⟩
      go_wp2
      exact kp_post hsz (Below.refl _ _)
    · intro G wx fr hway _ hs hdef hsz
      have s7 : fr.tmps[7]? = some (.bool true) := hs.1
      clear hs
      refine ⟨?_⟩
      go_wp2
      exact kp_post hsz (Below.refl _ _)
    · intro G wx fr hway _ hs hdef hsz
      have s2 : fr.tmps[2]? = some (.pointer (some ⟨w.heap.size, 0, none⟩)) := hs.1
      have s8 : fr.tmps[8]? = some (.bool true) := hs.2.1
      clear hs
      refine ⟨?_⟩
      refine wpList_load_want (by simp [Region.wanted, yielded, *]) 23 (.tmp 2) rfl (way_blk hway hy1_1 (by first | exact hy1_1.lt | omega) (by simp [heldBy, Knd.blockOf])) (by rw [HSW.out]; exact hW) (by simp [Act.eval, s2]) ?_
      refine wpList_nil ?_
      exact kp_val hdef hsz (Below.refl _ _)
    · intro G wx fr hway _ hs hdef hsz
      have s3 : fr.tmps[3]? = some (.pointer (some ⟨w1.heap.size, 0, none⟩)) := hs.1
      have s8 : fr.tmps[8]? = some (.bool true) := hs.2.1
      clear hs
      refine ⟨?_⟩
      refine wpList_load_want (by simp [Region.wanted, yielded, *]) 23 (.tmp 3) rfl (way_blk hway hy1_2 (by first | exact hy1_2.lt | omega) (by simp [heldBy, Knd.blockOf])) (by rw [HSW.out]; exact hW) (by simp [Act.eval, s3]) ?_
      refine wpList_nil ?_
      exact kp_val hdef hsz (Below.refl _ _)
    · intro G wx fr hway _ hs hdef hsz
      have s9 : fr.tmps[9]? = some (.agg (wcells a)) := hs.1
      have s10 : fr.tmps[10]? = some (.agg (wcells b)) := hs.2.1
      have s8 : fr.tmps[8]? = some (.bool true) := hs.2.2.1
      clear hs
      refine ⟨?_⟩
      go_wp2_with fail
      refine (C2.out wx).mono ?_
      rintro e w2 ⟨rfl, hb2⟩
      go_wp2
      exact kp_post hsz hb2
    · intro G wx fr hway _ hs hdef hsz
      have s2 : fr.tmps[2]? = some (.pointer (some ⟨w.heap.size, 0, none⟩)) := hs.1
      have s8 : fr.tmps[8]? = some (.bool true) := hs.2.1
      clear hs
      refine ⟨?_⟩
      refine wpList_load_want (by simp [Region.wanted, yielded, *]) 23 (.tmp 2) rfl (way_blk hway hy1_1 (by first | exact hy1_1.lt | omega) (by simp [heldBy, Knd.blockOf])) (by rw [HSW.out]; exact hW) (by simp [Act.eval, s2]) ?_
      refine wpList_nil ?_
      exact kp_val hdef hsz (Below.refl _ _)
    · intro G wx fr hway _ hs hdef hsz
      have s3 : fr.tmps[3]? = some (.pointer (some ⟨w1.heap.size, 0, none⟩)) := hs.1
      have s8 : fr.tmps[8]? = some (.bool true) := hs.2.1
      clear hs
      refine ⟨?_⟩
      refine wpList_load_want (by simp [Region.wanted, yielded, *]) 23 (.tmp 3) rfl (way_blk hway hy1_2 (by first | exact hy1_2.lt | omega) (by simp [heldBy, Knd.blockOf])) (by rw [HSW.out]; exact hW) (by simp [Act.eval, s3]) ?_
      refine wpList_nil ?_
      exact kp_val hdef hsz (Below.refl _ _)
    · intro G wx fr hway _ hs hdef hsz
      have s12 : fr.tmps[12]? = some (.agg (wcells a)) := hs.1
      have s13 : fr.tmps[13]? = some (.agg (wcells b)) := hs.2.1
      have s8 : fr.tmps[8]? = some (.bool true) := hs.2.2.1
      clear hs
      refine ⟨?_⟩
      go_wp2_with fail
      refine (C4.out wx).mono ?_
      rintro e w2 ⟨rfl, hb2⟩
      go_wp2
      exact kp_post hsz hb2
    · intro G wx fr hway _ hs hdef hsz
      have s11 : fr.tmps[11]? = some (.agg (wcells z3)) := hs.1
      have s14 : fr.tmps[14]? = some (.agg (wcells z3)) := hs.2.1
      have s8 : fr.tmps[8]? = some (.bool true) := hs.2.2.1
      clear hs
      have hq := Q5.out
      refine ⟨?_⟩
      go_wp2
      exact kp_post hsz (Below.refl _ _)
    · intro G wx fr hway _ hs hdef hsz
      have s8 : fr.tmps[8]? = some (.bool true) := hs.1
      have s15 : fr.tmps[15]? = some (.bool true) := hs.2.1
      clear hs
      refine ⟨?_⟩
      go_wp2
      exact kp_post hsz (Below.refl _ _)
    · intro G wx fr hway _ hs hdef hsz
      have s16 : fr.tmps[16]? = some (.bool true) := hs.1
      clear hs
      refine ⟨?_⟩
      go_wp2
      exact kp_post hsz (Below.refl _ _)
    · intro G wx fr hway _ hs hdef hsz
      have s2 : fr.tmps[2]? = some (.pointer (some ⟨w.heap.size, 0, none⟩)) := hs.1
      have s17 : fr.tmps[17]? = some (.bool true) := hs.2.1
      clear hs
      refine ⟨?_⟩
      refine wpList_load_want (by simp [Region.wanted, yielded, *]) 23 (.tmp 2) rfl (way_blk hway hy1_1 (by first | exact hy1_1.lt | omega) (by simp [heldBy, Knd.blockOf])) (by rw [HSW.out]; exact hW) (by simp [Act.eval, s2]) ?_
      refine wpList_nil ?_
      exact kp_val hdef hsz (Below.refl _ _)
    · intro G wx fr hway _ hs hdef hsz
      have s3 : fr.tmps[3]? = some (.pointer (some ⟨w1.heap.size, 0, none⟩)) := hs.1
      have s17 : fr.tmps[17]? = some (.bool true) := hs.2.1
      clear hs
      refine ⟨?_⟩
      refine wpList_load_want (by simp [Region.wanted, yielded, *]) 23 (.tmp 3) rfl (way_blk hway hy1_2 (by first | exact hy1_2.lt | omega) (by simp [heldBy, Knd.blockOf])) (by rw [HSW.out]; exact hW) (by simp [Act.eval, s3]) ?_
      refine wpList_nil ?_
      exact kp_val hdef hsz (Below.refl _ _)
    · intro G wx fr hway _ hs hdef hsz
      have s18 : fr.tmps[18]? = some (.agg (wcells a)) := hs.1
      have s19 : fr.tmps[19]? = some (.agg (wcells b)) := hs.2.1
      have s17 : fr.tmps[17]? = some (.bool true) := hs.2.2.1
      clear hs
      refine ⟨?_⟩
      go_wp2_with fail
      refine (C6.out wx).mono ?_
      rintro e w2 ⟨rfl, hb2⟩
      go_wp2
      exact kp_post hsz hb2
    · intro G wx fr hway _ hs hdef hsz
      have s2 : fr.tmps[2]? = some (.pointer (some ⟨w.heap.size, 0, none⟩)) := hs.1
      have s17 : fr.tmps[17]? = some (.bool true) := hs.2.1
      clear hs
      refine ⟨?_⟩
      refine wpList_load_want (by simp [Region.wanted, yielded, *]) 23 (.tmp 2) rfl (way_blk hway hy1_1 (by first | exact hy1_1.lt | omega) (by simp [heldBy, Knd.blockOf])) (by rw [HSW.out]; exact hW) (by simp [Act.eval, s2]) ?_
      refine wpList_nil ?_
      exact kp_val hdef hsz (Below.refl _ _)
    · intro G wx fr hway _ hs hdef hsz
      have s3 : fr.tmps[3]? = some (.pointer (some ⟨w1.heap.size, 0, none⟩)) := hs.1
      have s17 : fr.tmps[17]? = some (.bool true) := hs.2.1
      clear hs
      refine ⟨?_⟩
      refine wpList_load_want (by simp [Region.wanted, yielded, *]) 23 (.tmp 3) rfl (way_blk hway hy1_2 (by first | exact hy1_2.lt | omega) (by simp [heldBy, Knd.blockOf])) (by rw [HSW.out]; exact hW) (by simp [Act.eval, s3]) ?_
      refine wpList_nil ?_
      exact kp_val hdef hsz (Below.refl _ _)
    · intro G wx fr hway _ hs hdef hsz
      have s21 : fr.tmps[21]? = some (.agg (wcells a)) := hs.1
      have s22 : fr.tmps[22]? = some (.agg (wcells b)) := hs.2.1
      have s17 : fr.tmps[17]? = some (.bool true) := hs.2.2.1
      clear hs
      refine ⟨?_⟩
      go_wp2_with fail
      refine (C8.out wx).mono ?_
      rintro e w2 ⟨rfl, hb2⟩
      go_wp2
      exact kp_post hsz hb2
    · intro G wx fr hway _ hs hdef hsz
      have s20 : fr.tmps[20]? = some (.agg (wcells z7)) := hs.1
      have s23 : fr.tmps[23]? = some (.agg (wcells z7)) := hs.2.1
      have s17 : fr.tmps[17]? = some (.bool true) := hs.2.2.1
      clear hs
      have hq := Q9.out
      refine ⟨?_⟩
      go_wp2
      exact kp_post hsz (Below.refl _ _)
    · intro G wx fr hway _ hs hdef hsz
      have s17 : fr.tmps[17]? = some (.bool true) := hs.1
      have s24 : fr.tmps[24]? = some (.bool true) := hs.2.1
      clear hs
      refine ⟨?_⟩
      go_wp2
      exact kp_post hsz (Below.refl _ _)
    · intro G wx fr hway _ hs hdef hsz
      have s25 : fr.tmps[25]? = some (.bool true) := hs.1
      clear hs
      refine ⟨?_⟩
      go_wp2
      exact kp_post hsz (Below.refl _ _)
    · intro G wx fr hway _ hs hdef hsz
      have s2 : fr.tmps[2]? = some (.pointer (some ⟨w.heap.size, 0, none⟩)) := hs.1
      have s26 : fr.tmps[26]? = some (.bool true) := hs.2.1
      clear hs
      refine ⟨?_⟩
      refine wpList_load_want (by simp [Region.wanted, yielded, *]) 23 (.tmp 2) rfl (way_blk hway hy1_1 (by first | exact hy1_1.lt | omega) (by simp [heldBy, Knd.blockOf])) (by rw [HSW.out]; exact hW) (by simp [Act.eval, s2]) ?_
      refine wpList_nil ?_
      exact kp_val hdef hsz (Below.refl _ _)
    · intro G wx fr hway _ hs hdef hsz
      have s3 : fr.tmps[3]? = some (.pointer (some ⟨w1.heap.size, 0, none⟩)) := hs.1
      have s26 : fr.tmps[26]? = some (.bool true) := hs.2.1
      clear hs
      refine ⟨?_⟩
      refine wpList_load_want (by simp [Region.wanted, yielded, *]) 23 (.tmp 3) rfl (way_blk hway hy1_2 (by first | exact hy1_2.lt | omega) (by simp [heldBy, Knd.blockOf])) (by rw [HSW.out]; exact hW) (by simp [Act.eval, s3]) ?_
      refine wpList_nil ?_
      exact kp_val hdef hsz (Below.refl _ _)
    · intro G wx fr hway _ hs hdef hsz
      have s27 : fr.tmps[27]? = some (.agg (wcells a)) := hs.1
      have s28 : fr.tmps[28]? = some (.agg (wcells b)) := hs.2.1
      have s26 : fr.tmps[26]? = some (.bool true) := hs.2.2.1
      clear hs
      refine ⟨?_⟩
      go_wp2_with fail
      refine (C10.out wx).mono ?_
      rintro e w2 ⟨rfl, hb2⟩
      go_wp2
      exact kp_post hsz hb2
    · intro G wx fr hway _ hs hdef hsz
      have s2 : fr.tmps[2]? = some (.pointer (some ⟨w.heap.size, 0, none⟩)) := hs.1
      have s26 : fr.tmps[26]? = some (.bool true) := hs.2.1
      clear hs
      refine ⟨?_⟩
      refine wpList_load_want (by simp [Region.wanted, yielded, *]) 23 (.tmp 2) rfl (way_blk hway hy1_1 (by first | exact hy1_1.lt | omega) (by simp [heldBy, Knd.blockOf])) (by rw [HSW.out]; exact hW) (by simp [Act.eval, s2]) ?_
      refine wpList_nil ?_
      exact kp_val hdef hsz (Below.refl _ _)
    · intro G wx fr hway _ hs hdef hsz
      have s3 : fr.tmps[3]? = some (.pointer (some ⟨w1.heap.size, 0, none⟩)) := hs.1
      have s26 : fr.tmps[26]? = some (.bool true) := hs.2.1
      clear hs
      refine ⟨?_⟩
      refine wpList_load_want (by simp [Region.wanted, yielded, *]) 23 (.tmp 3) rfl (way_blk hway hy1_2 (by first | exact hy1_2.lt | omega) (by simp [heldBy, Knd.blockOf])) (by rw [HSW.out]; exact hW) (by simp [Act.eval, s3]) ?_
      refine wpList_nil ?_
      exact kp_val hdef hsz (Below.refl _ _)
    · intro G wx fr hway _ hs hdef hsz
      have s30 : fr.tmps[30]? = some (.agg (wcells a)) := hs.1
      have s31 : fr.tmps[31]? = some (.agg (wcells b)) := hs.2.1
      have s26 : fr.tmps[26]? = some (.bool true) := hs.2.2.1
      clear hs
      refine ⟨?_⟩
      go_wp2_with fail
      refine (C12.out wx).mono ?_
      rintro e w2 ⟨rfl, hb2⟩
      go_wp2
      exact kp_post hsz hb2
    · intro G wx fr hway _ hs hdef hsz
      have s29 : fr.tmps[29]? = some (.agg (wcells z11)) := hs.1
      have s32 : fr.tmps[32]? = some (.agg (wcells z11)) := hs.2.1
      have s26 : fr.tmps[26]? = some (.bool true) := hs.2.2.1
      clear hs
      have hq := Q13.out
      refine ⟨?_⟩
      go_wp2
      exact kp_post hsz (Below.refl _ _)
    · intro G wx fr hway _ hs hdef hsz
      have s26 : fr.tmps[26]? = some (.bool true) := hs.1
      have s33 : fr.tmps[33]? = some (.bool true) := hs.2.1
      clear hs
      refine ⟨?_⟩
      go_wp2
      exact kp_post hsz (Below.refl _ _)
    · intro G wx fr hway _ hs hdef hsz
      have s34 : fr.tmps[34]? = some (.bool true) := hs.1
      clear hs
      refine ⟨?_⟩
      go_wp2
      exact kp_post hsz (Below.refl _ _)
    · intro G wx fr hway _ hs hdef hsz
      have s2 : fr.tmps[2]? = some (.pointer (some ⟨w.heap.size, 0, none⟩)) := hs.1
      have s35 : fr.tmps[35]? = some (.bool true) := hs.2.1
      clear hs
      refine ⟨?_⟩
      refine wpList_load_want (by simp [Region.wanted, yielded, *]) 23 (.tmp 2) rfl (way_blk hway hy1_1 (by first | exact hy1_1.lt | omega) (by simp [heldBy, Knd.blockOf])) (by rw [HSW.out]; exact hW) (by simp [Act.eval, s2]) ?_
      refine wpList_nil ?_
      exact kp_val hdef hsz (Below.refl _ _)
    · intro G wx fr hway _ hs hdef hsz
      have s3 : fr.tmps[3]? = some (.pointer (some ⟨w1.heap.size, 0, none⟩)) := hs.1
      have s35 : fr.tmps[35]? = some (.bool true) := hs.2.1
      clear hs
      refine ⟨?_⟩
      refine wpList_load_want (by simp [Region.wanted, yielded, *]) 23 (.tmp 3) rfl (way_blk hway hy1_2 (by first | exact hy1_2.lt | omega) (by simp [heldBy, Knd.blockOf])) (by rw [HSW.out]; exact hW) (by simp [Act.eval, s3]) ?_
      refine wpList_nil ?_
      exact kp_val hdef hsz (Below.refl _ _)
    · intro G wx fr hway _ hs hdef hsz
      have s36 : fr.tmps[36]? = some (.agg (wcells a)) := hs.1
      have s37 : fr.tmps[37]? = some (.agg (wcells b)) := hs.2.1
      have s35 : fr.tmps[35]? = some (.bool true) := hs.2.2.1
      clear hs
      refine ⟨?_⟩
      go_wp2_with fail
      refine (C14.out wx).mono ?_
      rintro e w2 ⟨rfl, hb2⟩
      go_wp2
      exact kp_post hsz hb2
    · intro G wx fr hway _ hs hdef hsz
      have s2 : fr.tmps[2]? = some (.pointer (some ⟨w.heap.size, 0, none⟩)) := hs.1
      have s35 : fr.tmps[35]? = some (.bool true) := hs.2.1
      clear hs
      refine ⟨?_⟩
      refine wpList_load_want (by simp [Region.wanted, yielded, *]) 23 (.tmp 2) rfl (way_blk hway hy1_1 (by first | exact hy1_1.lt | omega) (by simp [heldBy, Knd.blockOf])) (by rw [HSW.out]; exact hW) (by simp [Act.eval, s2]) ?_
      refine wpList_nil ?_
      exact kp_val hdef hsz (Below.refl _ _)
    · intro G wx fr hway _ hs hdef hsz
      have s3 : fr.tmps[3]? = some (.pointer (some ⟨w1.heap.size, 0, none⟩)) := hs.1
      have s35 : fr.tmps[35]? = some (.bool true) := hs.2.1
      clear hs
      refine ⟨?_⟩
      refine wpList_load_want (by simp [Region.wanted, yielded, *]) 23 (.tmp 3) rfl (way_blk hway hy1_2 (by first | exact hy1_2.lt | omega) (by simp [heldBy, Knd.blockOf])) (by rw [HSW.out]; exact hW) (by simp [Act.eval, s3]) ?_
      refine wpList_nil ?_
      exact kp_val hdef hsz (Below.refl _ _)
    · intro G wx fr hway _ hs hdef hsz
      have s39 : fr.tmps[39]? = some (.agg (wcells a)) := hs.1
      have s40 : fr.tmps[40]? = some (.agg (wcells b)) := hs.2.1
      have s35 : fr.tmps[35]? = some (.bool true) := hs.2.2.1
      clear hs
      refine ⟨?_⟩
      go_wp2_with fail
      refine (C16.out wx).mono ?_
      rintro e w2 ⟨rfl, hb2⟩
      go_wp2
      exact kp_post hsz hb2
    · intro G wx fr hway _ hs hdef hsz
      have s38 : fr.tmps[38]? = some (.agg (wcells z15)) := hs.1
      have s41 : fr.tmps[41]? = some (.agg (wcells z15)) := hs.2.1
      have s35 : fr.tmps[35]? = some (.bool true) := hs.2.2.1
      clear hs
      have hq := Q17.out
      refine ⟨?_⟩
      go_wp2
      exact kp_post hsz (Below.refl _ _)
    · intro G wx fr hway _ hs hdef hsz
      have s35 : fr.tmps[35]? = some (.bool true) := hs.1
      have s42 : fr.tmps[42]? = some (.bool true) := hs.2.1
      clear hs
      refine ⟨?_⟩
      go_wp2
      exact kp_post hsz (Below.refl _ _)
    · intro G wx fr hway _ hs hdef hsz
      have s43 : fr.tmps[43]? = some (.bool true) := hs.1
      clear hs
      refine ⟨?_⟩
      go_wp2
      exact kp_post hsz (Below.refl _ _)
  · intro G V wr3 hval hway hmade hap
    replace hval : V 0 = .bool true ∧ V 1 = .bool true ∧ V 2 = .agg (wcells a) ∧ V 3 = .agg (wcells b) ∧ V 4 = .agg (wcells z3) ∧ V 5 = .agg (wcells a) ∧ V 6 = .agg (wcells b) ∧ V 7 = .agg (wcells z3) ∧ V 8 = .bool true ∧ V 9 = .bool true ∧ V 10 = .bool true ∧ V 11 = .agg (wcells a) ∧ V 12 = .agg (wcells b) ∧ V 13 = .agg (wcells z7) ∧ V 14 = .agg (wcells a) ∧ V 15 = .agg (wcells b) ∧ V 16 = .agg (wcells z7) ∧ V 17 = .bool true ∧ V 18 = .bool true ∧ V 19 = .bool true ∧ V 20 = .agg (wcells a) ∧ V 21 = .agg (wcells b) ∧ V 22 = .agg (wcells z11) ∧ V 23 = .agg (wcells a) ∧ V 24 = .agg (wcells b) ∧ V 25 = .agg (wcells z11) ∧ V 26 = .bool true ∧ V 27 = .bool true ∧ V 28 = .bool true ∧ V 29 = .agg (wcells a) ∧ V 30 = .agg (wcells b) ∧ V 31 = .agg (wcells z15) ∧ V 32 = .agg (wcells a) ∧ V 33 = .agg (wcells b) ∧ V 34 = .agg (wcells z15) ∧ V 35 = .bool true ∧ V 36 = .bool true ∧ V 37 = .bool true ∧ True := hval
    replace hmade : True := hmade
    obtain ⟨e3_0, e3_1, e3_2, e3_3, e3_4, e3_5, e3_6, e3_7, e3_8, e3_9, e3_10, e3_11, e3_12, e3_13, e3_14, e3_15, e3_16, e3_17, e3_18, e3_19, e3_20, e3_21, e3_22, e3_23, e3_24, e3_25, e3_26, e3_27, e3_28, e3_29, e3_30, e3_31, e3_32, e3_33, e3_34, e3_35, e3_36, e3_37, -⟩ := hval
    obtain ⟨-⟩ := hmade
    clear hap
    simp only [fill, Act.put, e3_0, e3_1, e3_2, e3_3, e3_4, e3_5, e3_6, e3_7, e3_8, e3_9, e3_10, e3_11, e3_12, e3_13, e3_14, e3_15, e3_16, e3_17, e3_18, e3_19, e3_20, e3_21, e3_22, e3_23, e3_24, e3_25, e3_26, e3_27, e3_28, e3_29, e3_30, e3_31, e3_32, e3_33, e3_34, e3_35, e3_36, e3_37]
    clear e3_0 e3_1 e3_2 e3_3 e3_4 e3_5 e3_6 e3_7 e3_8 e3_9 e3_10 e3_11 e3_12 e3_13 e3_14 e3_15 e3_16 e3_17 e3_18 e3_19 e3_20 e3_21 e3_22 e3_23 e3_24 e3_25 e3_26 e3_27 e3_28 e3_29 e3_30 e3_31 e3_32 e3_33 e3_34 e3_35 e3_36 e3_37
    simp only [Exit.then]
    go_simp
    clear G V
    replace hy1_1 := way_blk hway hy1_1 hy1_1.lt (by simp [heldBy, Knd.blockOf])
    replace hy1_2 := way_blk hway hy1_2 hy1_2.lt (by simp [heldBy, Knd.blockOf])
    replace hB1_3 := hway.2.2
    clear hway
    go_wp2
    go_ret
    exact ⟨rfl, hB1_3⟩
open Go.ChangeShapes Go.WideShapes Go.ChangeAt

set_option maxRecDepth 100000 in
theorem lifted (os : Os) (started : os.Started) (H : Type) (enc : TypeId × Value → H) :
    ReturnsInHanded {} Try.checked os 9 .any (Rows.wordPartsSpec.pre6 enc Try.prog Try.f9 Rows.wordPartsRow.domain false) (Rows.wordPartsSpec.post enc Try.prog Try.f9 false true false false) := by
  refine law_lift (C := Try.checked) (ts := [23, 23]) (tb := 4) (by kernel_rfl) started (by kernel_rfl) Try.func9
    (ChangeSpec.witness6 (enc := enc) (C := Try.checked) false ⟨#[], #[.agg (Array.replicate 32 (.int .u8 0)), .agg (Array.replicate 32 (.int .u8 0))], []⟩ 8 (by kernel_rfl) (by kernel_rfl) (by kernel_rfl) (by kernel_rfl))
    (by kernel_rfl) (by kernel_rfl) (by kernel_rfl) (by kernel_rfl) Try.underlying4 rfl (fun ds h => by match ds, h with | [_, _], _ => rfl) ?_
  intro W vs hl h
  match vs, hl with
  | [v0, v1], _ =>
    have ha := h 0 _ v0 rfl rfl
    have hb := h 1 _ v1 rfl rfl
    obtain ⟨a, ha', rfl⟩ := arg_word ha
    obtain ⟨b, hb', rfl⟩ := arg_word hb
    exact walk a b W ha' hb'

theorem over : Rows.wordPartsRow.holds Try.pinned (OpenSpec.ofChange Rows.wordPartsSpec) :=
  OpenClaim.holds_of_wide 9 Try.f9 rfl rfl rfl rfl rfl rfl rfl ⟨rfl, rfl, rfl, rfl, rfl⟩ rfl rfl rfl rfl rfl (by kernel_rfl) Try.func9 (by kernel_rfl)
    (of_decide_eq_true (by kernel_rfl)) (by unfold Func.isWrapper; first | (rw [if_pos (by decide +kernel)]; kernel_rfl) | (rw [if_neg (by decide +kernel)]; exact ⟨rfl, rfl⟩))
    (fun os started H enc _ => lifted os started H enc)
end Go.Proofs.Ytegnfklehgbooaa.WordParts
namespace Go.Proofs.Ytegnfklehgbooaa
theorem wordParts_holds : Rows.WordPartsSaid := WordParts.over
#print axioms wordParts_holds
end Go.Proofs.Ytegnfklehgbooaa
