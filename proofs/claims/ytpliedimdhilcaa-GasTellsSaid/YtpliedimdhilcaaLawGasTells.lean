/- 'GasTells' answers true at every input, and leaves what it was given. No condition. -/
import Derived.Test.YtpliedimdhilcaaGasStores
import Derived.Test.YtpliedimdhilcaaGasTx
import Derived.Test.YtpliedimdhilcaaWordArg
import Derived.Test.YtpliedimdhilcaaLaw
import Derived.Test.YtpliedimdhilcaaRows
namespace Go.Proofs.Ytpliedimdhilcaa.GasTells
open Go Go.RowKit Go.Mun Go.Proofs

set_option maxRecDepth 100000 in
set_option maxHeartbeats 8000000 in
theorem walk_big (cs : Array Value) (mk : Bool) (data : List UInt8) (a b : Nat) (n tp : Int) (v t : Bool) (w : World) (hok : TxOk w cs mk data) (hd : 3000 < data.length) : Calls Try.prog 6 #[.agg cs, .agg (wcells a), .agg (wcells b), .int .i64 n, .int .i64 tp, .bool v, .bool t] w fun e w' => e = .returned (.bool true) ∧ Below w.heap.size w w' := by
  obtain ⟨_, _, A, m, c, hsl, A', m', c', hsv, hlen, hmc, hcm, _⟩ := id hok
  injection hsv with _ hsv _
  subst hsv
  have HSL := Lib.hid hsl
  clear hsl
  have d1 : (3000 : Int) < (m : Int) := by omega
  have hW := wordTy
  have zW := zWordL
  have HSW := Lib.hid wcells_size
  have H1W := Lib.hid wcells_one
  have HZW := Lib.hid wcells_lit0
  have hTx := txTy'
  have HSTx := Lib.hid hok.1
  have C1 := Lib.hid (fun w => alive14 w)
  go_enter Try.func6, Try.ntmps6
  have tk0_0 : True := trivial
  have tk0_1 : True := trivial
  have tk0_2 : True := trivial
  have tk0_3 : True := trivial
  go_wp2_with (first
    | ((with_reducible refine gd_box ?_); have _t := tk0_0; refine wpList_box_agg rfl _ (.tmp 0) rfl rfl ?_; clear tk0_0; intro w1 hx1 hb1 hl1; have hz1 := hx1.lt; have hs1 := hb1.size)
    | ((with_reducible refine gd_box ?_); have _t := tk0_1; refine wpList_box_agg rfl _ (.tmp 1) rfl rfl ?_; clear tk0_1; intro w2 hx2 hb2 hl2; have hz2 := hx2.lt; have hs2 := hb2.size)
    | ((with_reducible refine gd_box ?_); have _t := tk0_2; refine wpList_box_agg rfl _ (.tmp 2) rfl rfl ?_; clear tk0_2; intro w3 hx3 hb3 hl3; have hz3 := hx3.lt; have hs3 := hb3.size; have hc76 := ((hx1.ext hb2).ext hb3).cellv HSL.out)
    | (go_at_call 10; have _t := tk0_3; refine (C1.out _).mono ?_; clear tk0_3; rintro e w4 ⟨rfl, rfl⟩)
    | fail)
  have hy1_1 := ((hx1.ext hb2).ext hb3)
  have hy1_2 := (hx2.ext hb3)
  have hy1_3 := hx3
  have hB1_1 := hb1
  have hB1_2 := below_step hB1_1 hb2
  have hB1_3 := below_step hB1_2 hb3
  clear hb1 hl1 hz1 hs1 hb2 hl2 hz2 hs2 hb3 hl3 hz3 hs3 hx1 hx2 hx3 hB1_1 hB1_2
  go_ret
  exact ⟨rfl, hB1_3⟩
set_option maxRecDepth 100000 in
set_option maxHeartbeats 8000000 in
theorem walk_far (cs : Array Value) (mk : Bool) (data : List UInt8) (a b : Nat) (n tp : Int) (v t : Bool) (w : World) (hok : TxOk w cs mk data) (hd : ¬ 3000 < data.length) (hn : 1125899906842624 < n) : Calls Try.prog 6 #[.agg cs, .agg (wcells a), .agg (wcells b), .int .i64 n, .int .i64 tp, .bool v, .bool t] w fun e w' => e = .returned (.bool true) ∧ Below w.heap.size w w' := by
  obtain ⟨_, _, A, m, c, hsl, A', m', c', hsv, hlen, hmc, hcm, _⟩ := id hok
  injection hsv with _ hsv _
  subst hsv
  have HSL := Lib.hid hsl
  clear hsl
  have d1 : decide ((3000 : Int) < (m : Int)) = false := decide_eq_false (by omega)
  have hW := wordTy
  have zW := zWordL
  have HSW := Lib.hid wcells_size
  have H1W := Lib.hid wcells_one
  have HZW := Lib.hid wcells_lit0
  have hTx := txTy'
  have HSTx := Lib.hid hok.1
  have C1 := Lib.hid (fun w => alive14 w)
  go_enter Try.func6, Try.ntmps6
  have tk0_0 : True := trivial
  have tk0_1 : True := trivial
  have tk0_2 : True := trivial
  have tk0_3 : True := trivial
  go_wp2_with (first
    | ((with_reducible refine gd_box ?_); have _t := tk0_0; refine wpList_box_agg rfl _ (.tmp 0) rfl rfl ?_; clear tk0_0; intro w1 hx1 hb1 hl1; have hz1 := hx1.lt; have hs1 := hb1.size)
    | ((with_reducible refine gd_box ?_); have _t := tk0_1; refine wpList_box_agg rfl _ (.tmp 1) rfl rfl ?_; clear tk0_1; intro w2 hx2 hb2 hl2; have hz2 := hx2.lt; have hs2 := hb2.size)
    | ((with_reducible refine gd_box ?_); have _t := tk0_2; refine wpList_box_agg rfl _ (.tmp 2) rfl rfl ?_; clear tk0_2; intro w3 hx3 hb3 hl3; have hz3 := hx3.lt; have hs3 := hb3.size; have hc76 := ((hx1.ext hb2).ext hb3).cellv HSL.out)
    | (go_at_call 10; have _t := tk0_3; refine (C1.out _).mono ?_; clear tk0_3; rintro e w4 ⟨rfl, rfl⟩)
    | fail)
  have hy1_1 := ((hx1.ext hb2).ext hb3)
  have hy1_2 := (hx2.ext hb3)
  have hy1_3 := hx3
  have hB1_1 := hb1
  have hB1_2 := below_step hB1_1 hb2
  have hB1_3 := below_step hB1_2 hb3
  clear hb1 hl1 hz1 hs1 hb2 hl2 hz2 hs2 hb3 hl3 hz3 hs3 hx1 hx2 hx3 hB1_1 hB1_2
  go_ret
  exact ⟨rfl, hB1_3⟩
set_option maxRecDepth 100000 in
set_option maxHeartbeats 8000000 in
theorem walk_neg (cs : Array Value) (mk : Bool) (data : List UInt8) (a b : Nat) (n tp : Int) (v t : Bool) (w : World) (hok : TxOk w cs mk data) (ha : a < 2 ^ 256) (hb : b < 2 ^ 256) (h1 : -9223372036854775808 ≤ n) (h2 : n < 0) (hd0 : data.length ≤ 3000) : Calls Try.prog 6 #[.agg cs, .agg (wcells a), .agg (wcells b), .int .i64 n, .int .i64 tp, .bool v, .bool t] w fun e w' => e = .returned (.bool true) ∧ Below w.heap.size w w' := by
  obtain ⟨_, _, A, m, c, hsl, A', m', c', hsv, hlen, hmc, hcm, _⟩ := id hok
  injection hsv with _ hsv _
  subst hsv
  have HSL := Lib.hid hsl
  clear hsl
  have hd := Lib.hid (show data.length ≤ 100000 from by omega)
  have d1 : decide ((3000 : Int) < (m : Int)) = false := decide_eq_false (by omega)
  have hW := wordTy
  have zW := zWordL
  have HSW := Lib.hid wcells_size
  have H1W := Lib.hid wcells_one
  have HZW := Lib.hid wcells_lit0
  have hTx := txTy'
  have HSTx := Lib.hid hok.1
  have C1 := Lib.hid (fun w => alive14 w)
  have C2 := Lib.hid (fun w => Words_any n w h1 (by omega))
  have C3 := Lib.hid (fun w => RefWords_any n w h1 (by omega))
  have C4 := Lib.hid (fun (w1 : World) (hb1 : Below w.heap.size w w1) => Intrinsic_tx cs mk data w1 (hok.ext hb1) hd.out)
  have C5 := Lib.hid (fun (w1 : World) (hb1 : Below w.heap.size w w1) => RefIntrinsic_tx cs mk data w1 (hok.ext hb1) hd.out)
  have C6 := Lib.hid (fun w => GasStore_any a b w ha hb)
  have C7 := Lib.hid (fun w => GasRefStore_any a b w ha hb)
  have C8 := Lib.hid (fun w => GasExp_any a w ha)
  have C9 := Lib.hid (fun w => GasRefExp_any a w ha)
  have C10 := Lib.hid (fun w => Share_any n w h1 (by omega))
  have C11 := Lib.hid (fun w => RefShare_any n w h1 (by omega))
  have C12 := Lib.hid (fun w => Call_any v t w)
  have C13 := Lib.hid (fun w => RefCall_any v t w)
  have C14 := Lib.hid (fun w => Log_neg tp n w h2)
  go_enter Try.func6, Try.ntmps6
  have tk0_0 : True := trivial
  have tk0_1 : True := trivial
  have tk0_2 : True := trivial
  have tk0_3 : True := trivial
  go_wp2_with (first
    | ((with_reducible refine gd_box ?_); have _t := tk0_0; refine wpList_box_agg rfl _ (.tmp 0) rfl rfl ?_; clear tk0_0; intro w1 hx1 hb1 hl1; have hz1 := hx1.lt; have hs1 := hb1.size)
    | ((with_reducible refine gd_box ?_); have _t := tk0_1; refine wpList_box_agg rfl _ (.tmp 1) rfl rfl ?_; clear tk0_1; intro w2 hx2 hb2 hl2; have hz2 := hx2.lt; have hs2 := hb2.size)
    | ((with_reducible refine gd_box ?_); have _t := tk0_2; refine wpList_box_agg rfl _ (.tmp 2) rfl rfl ?_; clear tk0_2; intro w3 hx3 hb3 hl3; have hz3 := hx3.lt; have hs3 := hb3.size; have hc76 := ((hx1.ext hb2).ext hb3).cellv HSL.out)
    | (go_at_call 10; have _t := tk0_3; refine (C1.out _).mono ?_; clear tk0_3; rintro e w4 ⟨rfl, rfl⟩)
    | fail)
  have hy1_1 := ((hx1.ext hb2).ext hb3)
  have hy1_2 := (hx2.ext hb3)
  have hy1_3 := hx3
  have hB1_1 := hb1
  have hB1_2 := below_step hB1_1 hb2
  have hB1_3 := below_step hB1_2 hb3
  clear hb1 hl1 hz1 hs1 hb2 hl2 hz2 hs2 hb3 hl3 hz3 hs3 hx1 hx2 hx3 hB1_1 hB1_2
  refine wp_region_made (w := w3) (B := w.heap.size) (wB := w) ((.val (.int .i64 n)) :: (.val (.int .i64 (wordsOf n))) :: (.val (.int .i64 n)) :: (.val (.int .i64 (wordsOf n))) :: (.val (.bool true)) :: (.val (.bool true)) :: (.val (.agg cs)) :: (.val (.int .i64 (txGas mk data))) :: (.val (.agg cs)) :: (.val (.int .i64 (txGas mk data))) :: (.val (.bool true)) :: (.val (.bool true)) :: (.val (.bool true)) :: (.val (.agg (wcells a))) :: (.val (.agg (wcells b))) :: (.val (.int .i64 (storeOf a b))) :: (.val (.agg (wcells a))) :: (.val (.agg (wcells b))) :: (.val (.int .i64 (storeOf a b))) :: (.val (.bool true)) :: (.val (.bool true)) :: (.val (.bool true)) :: (.val (.agg (wcells a))) :: (.val (.int .i64 (expOf a))) :: (.val (.agg (wcells a))) :: (.val (.int .i64 (expOf a))) :: (.val (.bool true)) :: (.val (.bool true)) :: (.val (.bool true)) :: (.val (.int .i64 n)) :: (.val (.int .i64 (shareOf n))) :: (.val (.int .i64 n)) :: (.val (.int .i64 (shareOf n))) :: (.val (.bool true)) :: (.val (.bool true)) :: (.val (.bool true)) :: (.val (.bool v)) :: (.val (.bool t)) :: (.val (.int .i64 (callOf v t))) :: (.val (.bool v)) :: (.val (.bool t)) :: (.val (.int .i64 (callOf v t))) :: (.val (.bool true)) :: (.val (.bool true)) :: (.val (.bool true)) :: (.val (.int .i64 tp)) :: (.val (.int .i64 n)) :: (.val (.int .i64 0)) :: (.val (.int .i64 0)) :: (.val (.bool true)) :: (.val (.bool true)) :: (.val (.bool true)) :: []) (by kernel_rfl) (by kernel_rfl) (by kernel_rfl) rfl (by kernel_rfl) rfl hB1_3.size hB1_3 (by exact List.nodup_nil) (by intro g hg; exact nomatch hg) trivial ?_ ?_
  · refine ⟨?_, ?_, ?_, ?_, ?_, ?_, ?_, ?_, ?_, ?_, ?_, ?_, ?_, ?_, ?_, ?_, ?_, ?_, ?_, ?_, ?_, ?_, ?_, ?_, ?_, ?_, ?_, ?_, ?_, ?_, ?_, ?_, ?_, ?_, ?_, ?_, ?_, ?_, ?_, ?_, ?_, ?_, ?_, ?_, ?_, ?_, ?_, ?_, ?_, ?_, ?_, ?_, trivial⟩
    · intro G wx fr hway _ hs hdef hsz
      have s3 : fr.tmps[3]? = some (.int .i64 n) := hs.1
      clear hs
      refine ⟨?_⟩
      go_wp2
      exact kp_post hsz (Below.refl _ _)
    · intro G wx fr hway _ hs hdef hsz
      have s35 : fr.tmps[35]? = some (.int .i64 n) := hs.1
      clear hs
      refine ⟨?_⟩
      go_wp2_with fail
      refine (C2.out wx).mono ?_
      rintro e w2 ⟨rfl, hb2⟩
      go_wp2
      subst hb2
      exact kp_post hsz (Below.refl _ _)
    · intro G wx fr hway _ hs hdef hsz
      have s3 : fr.tmps[3]? = some (.int .i64 n) := hs.1
      clear hs
      refine ⟨?_⟩
      go_wp2
      exact kp_post hsz (Below.refl _ _)
    · intro G wx fr hway _ hs hdef hsz
      have s37 : fr.tmps[37]? = some (.int .i64 n) := hs.1
      clear hs
      refine ⟨?_⟩
      go_wp2_with fail
      refine (C3.out wx).mono ?_
      rintro e w2 ⟨rfl, hb2⟩
      go_wp2
      subst hb2
      exact kp_post hsz (Below.refl _ _)
    · intro G wx fr hway _ hs hdef hsz
      have s36 : fr.tmps[36]? = some (.int .i64 (wordsOf n)) := hs.1
      have s38 : fr.tmps[38]? = some (.int .i64 (wordsOf n)) := hs.2.1
      clear hs
      refine ⟨?_⟩
      go_wp2
      exact kp_post hsz (Below.refl _ _)
    · intro G wx fr hway _ hs hdef hsz
      have s39 : fr.tmps[39]? = some (.bool true) := hs.1
      clear hs
      refine ⟨?_⟩
      go_wp2
      exact kp_post hsz (Below.refl _ _)
    · intro G wx fr hway _ hs hdef hsz
      have s7 : fr.tmps[7]? = some (.pointer (some ⟨w.heap.size, 0, none⟩)) := hs.1
      have s40 : fr.tmps[40]? = some (.bool true) := hs.2.1
      clear hs
      refine ⟨?_⟩
      refine wpList_load_want (by simp [Region.wanted, yielded, *]) 28 (.tmp 7) rfl (way_blk hway hy1_1 (by first | exact hy1_1.lt | omega) (by simp [heldBy, Knd.blockOf])) (by rw [HSTx.out]; exact hTx) (by simp [Act.eval, s7]) ?_
      refine wpList_nil ?_
      exact kp_val hdef hsz (Below.refl _ _)
    · intro G wx fr hway _ hs hdef hsz
      have s41 : fr.tmps[41]? = some (.agg cs) := hs.1
      have s40 : fr.tmps[40]? = some (.bool true) := hs.2.1
      clear hs
      refine ⟨?_⟩
      go_wp2_with fail
      refine (C4.out wx hway.2.2).mono ?_
      rintro e w2 ⟨rfl, hb2⟩
      go_wp2
      exact kp_post hsz hb2
    · intro G wx fr hway _ hs hdef hsz
      have s7 : fr.tmps[7]? = some (.pointer (some ⟨w.heap.size, 0, none⟩)) := hs.1
      have s40 : fr.tmps[40]? = some (.bool true) := hs.2.1
      clear hs
      refine ⟨?_⟩
      refine wpList_load_want (by simp [Region.wanted, yielded, *]) 28 (.tmp 7) rfl (way_blk hway hy1_1 (by first | exact hy1_1.lt | omega) (by simp [heldBy, Knd.blockOf])) (by rw [HSTx.out]; exact hTx) (by simp [Act.eval, s7]) ?_
      refine wpList_nil ?_
      exact kp_val hdef hsz (Below.refl _ _)
    · intro G wx fr hway _ hs hdef hsz
      have s43 : fr.tmps[43]? = some (.agg cs) := hs.1
      have s40 : fr.tmps[40]? = some (.bool true) := hs.2.1
      clear hs
      refine ⟨?_⟩
      go_wp2_with fail
      refine (C5.out wx hway.2.2).mono ?_
      rintro e w2 ⟨rfl, hb2⟩
      go_wp2
      exact kp_post hsz hb2
    · intro G wx fr hway _ hs hdef hsz
      have s42 : fr.tmps[42]? = some (.int .i64 (txGas mk data)) := hs.1
      have s44 : fr.tmps[44]? = some (.int .i64 (txGas mk data)) := hs.2.1
      have s40 : fr.tmps[40]? = some (.bool true) := hs.2.2.1
      clear hs
      refine ⟨?_⟩
      go_wp2
      exact kp_post hsz (Below.refl _ _)
    · intro G wx fr hway _ hs hdef hsz
      have s40 : fr.tmps[40]? = some (.bool true) := hs.1
      have s45 : fr.tmps[45]? = some (.bool true) := hs.2.1
      clear hs
      refine ⟨?_⟩
      go_wp2
      exact kp_post hsz (Below.refl _ _)
    · intro G wx fr hway _ hs hdef hsz
      have s46 : fr.tmps[46]? = some (.bool true) := hs.1
      clear hs
      refine ⟨?_⟩
      go_wp2
      exact kp_post hsz (Below.refl _ _)
    · intro G wx fr hway _ hs hdef hsz
      have s8 : fr.tmps[8]? = some (.pointer (some ⟨w1.heap.size, 0, none⟩)) := hs.1
      have s47 : fr.tmps[47]? = some (.bool true) := hs.2.1
      clear hs
      refine ⟨?_⟩
      refine wpList_load_want (by simp [Region.wanted, yielded, *]) 25 (.tmp 8) rfl (way_blk hway hy1_2 (by first | exact hy1_2.lt | omega) (by simp [heldBy, Knd.blockOf])) (by rw [HSW.out]; exact hW) (by simp [Act.eval, s8]) ?_
      refine wpList_nil ?_
      exact kp_val hdef hsz (Below.refl _ _)
    · intro G wx fr hway _ hs hdef hsz
      have s9 : fr.tmps[9]? = some (.pointer (some ⟨w2.heap.size, 0, none⟩)) := hs.1
      have s47 : fr.tmps[47]? = some (.bool true) := hs.2.1
      clear hs
      refine ⟨?_⟩
      refine wpList_load_want (by simp [Region.wanted, yielded, *]) 25 (.tmp 9) rfl (way_blk hway hy1_3 (by first | exact hy1_3.lt | omega) (by simp [heldBy, Knd.blockOf])) (by rw [HSW.out]; exact hW) (by simp [Act.eval, s9]) ?_
      refine wpList_nil ?_
      exact kp_val hdef hsz (Below.refl _ _)
    · intro G wx fr hway _ hs hdef hsz
      have s48 : fr.tmps[48]? = some (.agg (wcells a)) := hs.1
      have s49 : fr.tmps[49]? = some (.agg (wcells b)) := hs.2.1
      have s47 : fr.tmps[47]? = some (.bool true) := hs.2.2.1
      clear hs
      refine ⟨?_⟩
      go_wp2_with fail
      refine (C6.out wx).mono ?_
      rintro e w2 ⟨rfl, hb2⟩
      go_wp2
      exact kp_post hsz hb2
    · intro G wx fr hway _ hs hdef hsz
      have s8 : fr.tmps[8]? = some (.pointer (some ⟨w1.heap.size, 0, none⟩)) := hs.1
      have s47 : fr.tmps[47]? = some (.bool true) := hs.2.1
      clear hs
      refine ⟨?_⟩
      refine wpList_load_want (by simp [Region.wanted, yielded, *]) 25 (.tmp 8) rfl (way_blk hway hy1_2 (by first | exact hy1_2.lt | omega) (by simp [heldBy, Knd.blockOf])) (by rw [HSW.out]; exact hW) (by simp [Act.eval, s8]) ?_
      refine wpList_nil ?_
      exact kp_val hdef hsz (Below.refl _ _)
    · intro G wx fr hway _ hs hdef hsz
      have s9 : fr.tmps[9]? = some (.pointer (some ⟨w2.heap.size, 0, none⟩)) := hs.1
      have s47 : fr.tmps[47]? = some (.bool true) := hs.2.1
      clear hs
      refine ⟨?_⟩
      refine wpList_load_want (by simp [Region.wanted, yielded, *]) 25 (.tmp 9) rfl (way_blk hway hy1_3 (by first | exact hy1_3.lt | omega) (by simp [heldBy, Knd.blockOf])) (by rw [HSW.out]; exact hW) (by simp [Act.eval, s9]) ?_
      refine wpList_nil ?_
      exact kp_val hdef hsz (Below.refl _ _)
    · intro G wx fr hway _ hs hdef hsz
      have s51 : fr.tmps[51]? = some (.agg (wcells a)) := hs.1
      have s52 : fr.tmps[52]? = some (.agg (wcells b)) := hs.2.1
      have s47 : fr.tmps[47]? = some (.bool true) := hs.2.2.1
      clear hs
      refine ⟨?_⟩
      go_wp2_with fail
      refine (C7.out wx).mono ?_
      rintro e w2 ⟨rfl, hb2⟩
      go_wp2
      exact kp_post hsz hb2
    · intro G wx fr hway _ hs hdef hsz
      have s50 : fr.tmps[50]? = some (.int .i64 (storeOf a b)) := hs.1
      have s53 : fr.tmps[53]? = some (.int .i64 (storeOf a b)) := hs.2.1
      have s47 : fr.tmps[47]? = some (.bool true) := hs.2.2.1
      clear hs
      refine ⟨?_⟩
      go_wp2
      exact kp_post hsz (Below.refl _ _)
    · intro G wx fr hway _ hs hdef hsz
      have s47 : fr.tmps[47]? = some (.bool true) := hs.1
      have s54 : fr.tmps[54]? = some (.bool true) := hs.2.1
      clear hs
      refine ⟨?_⟩
      go_wp2
      exact kp_post hsz (Below.refl _ _)
    · intro G wx fr hway _ hs hdef hsz
      have s55 : fr.tmps[55]? = some (.bool true) := hs.1
      clear hs
      refine ⟨?_⟩
      go_wp2
      exact kp_post hsz (Below.refl _ _)
    · intro G wx fr hway _ hs hdef hsz
      have s8 : fr.tmps[8]? = some (.pointer (some ⟨w1.heap.size, 0, none⟩)) := hs.1
      have s56 : fr.tmps[56]? = some (.bool true) := hs.2.1
      clear hs
      refine ⟨?_⟩
      refine wpList_load_want (by simp [Region.wanted, yielded, *]) 25 (.tmp 8) rfl (way_blk hway hy1_2 (by first | exact hy1_2.lt | omega) (by simp [heldBy, Knd.blockOf])) (by rw [HSW.out]; exact hW) (by simp [Act.eval, s8]) ?_
      refine wpList_nil ?_
      exact kp_val hdef hsz (Below.refl _ _)
    · intro G wx fr hway _ hs hdef hsz
      have s57 : fr.tmps[57]? = some (.agg (wcells a)) := hs.1
      have s56 : fr.tmps[56]? = some (.bool true) := hs.2.1
      clear hs
      refine ⟨?_⟩
      go_wp2_with fail
      refine (C8.out wx).mono ?_
      rintro e w2 ⟨rfl, hb2⟩
      go_wp2
      exact kp_post hsz hb2
    · intro G wx fr hway _ hs hdef hsz
      have s8 : fr.tmps[8]? = some (.pointer (some ⟨w1.heap.size, 0, none⟩)) := hs.1
      have s56 : fr.tmps[56]? = some (.bool true) := hs.2.1
      clear hs
      refine ⟨?_⟩
      refine wpList_load_want (by simp [Region.wanted, yielded, *]) 25 (.tmp 8) rfl (way_blk hway hy1_2 (by first | exact hy1_2.lt | omega) (by simp [heldBy, Knd.blockOf])) (by rw [HSW.out]; exact hW) (by simp [Act.eval, s8]) ?_
      refine wpList_nil ?_
      exact kp_val hdef hsz (Below.refl _ _)
    · intro G wx fr hway _ hs hdef hsz
      have s59 : fr.tmps[59]? = some (.agg (wcells a)) := hs.1
      have s56 : fr.tmps[56]? = some (.bool true) := hs.2.1
      clear hs
      refine ⟨?_⟩
      go_wp2_with fail
      refine (C9.out wx).mono ?_
      rintro e w2 ⟨rfl, hb2⟩
      go_wp2
      exact kp_post hsz hb2
    · intro G wx fr hway _ hs hdef hsz
      have s58 : fr.tmps[58]? = some (.int .i64 (expOf a)) := hs.1
      have s60 : fr.tmps[60]? = some (.int .i64 (expOf a)) := hs.2.1
      have s56 : fr.tmps[56]? = some (.bool true) := hs.2.2.1
      clear hs
      refine ⟨?_⟩
      go_wp2
      exact kp_post hsz (Below.refl _ _)
    · intro G wx fr hway _ hs hdef hsz
      have s56 : fr.tmps[56]? = some (.bool true) := hs.1
      have s61 : fr.tmps[61]? = some (.bool true) := hs.2.1
      clear hs
      refine ⟨?_⟩
      go_wp2
      exact kp_post hsz (Below.refl _ _)
    · intro G wx fr hway _ hs hdef hsz
      have s62 : fr.tmps[62]? = some (.bool true) := hs.1
      clear hs
      refine ⟨?_⟩
      go_wp2
      exact kp_post hsz (Below.refl _ _)
    · intro G wx fr hway _ hs hdef hsz
      have s3 : fr.tmps[3]? = some (.int .i64 n) := hs.1
      have s63 : fr.tmps[63]? = some (.bool true) := hs.2.1
      clear hs
      refine ⟨?_⟩
      go_wp2
      exact kp_post hsz (Below.refl _ _)
    · intro G wx fr hway _ hs hdef hsz
      have s64 : fr.tmps[64]? = some (.int .i64 n) := hs.1
      have s63 : fr.tmps[63]? = some (.bool true) := hs.2.1
      clear hs
      refine ⟨?_⟩
      go_wp2_with fail
      refine (C10.out wx).mono ?_
      rintro e w2 ⟨rfl, hb2⟩
      go_wp2
      subst hb2
      exact kp_post hsz (Below.refl _ _)
    · intro G wx fr hway _ hs hdef hsz
      have s3 : fr.tmps[3]? = some (.int .i64 n) := hs.1
      have s63 : fr.tmps[63]? = some (.bool true) := hs.2.1
      clear hs
      refine ⟨?_⟩
      go_wp2
      exact kp_post hsz (Below.refl _ _)
    · intro G wx fr hway _ hs hdef hsz
      have s66 : fr.tmps[66]? = some (.int .i64 n) := hs.1
      have s63 : fr.tmps[63]? = some (.bool true) := hs.2.1
      clear hs
      refine ⟨?_⟩
      go_wp2_with fail
      refine (C11.out wx).mono ?_
      rintro e w2 ⟨rfl, hb2⟩
      go_wp2
      subst hb2
      exact kp_post hsz (Below.refl _ _)
    · intro G wx fr hway _ hs hdef hsz
      have s65 : fr.tmps[65]? = some (.int .i64 (shareOf n)) := hs.1
      have s67 : fr.tmps[67]? = some (.int .i64 (shareOf n)) := hs.2.1
      have s63 : fr.tmps[63]? = some (.bool true) := hs.2.2.1
      clear hs
      refine ⟨?_⟩
      go_wp2
      exact kp_post hsz (Below.refl _ _)
    · intro G wx fr hway _ hs hdef hsz
      have s63 : fr.tmps[63]? = some (.bool true) := hs.1
      have s68 : fr.tmps[68]? = some (.bool true) := hs.2.1
      clear hs
      refine ⟨?_⟩
      go_wp2
      exact kp_post hsz (Below.refl _ _)
    · intro G wx fr hway _ hs hdef hsz
      have s69 : fr.tmps[69]? = some (.bool true) := hs.1
      clear hs
      refine ⟨?_⟩
      go_wp2
      exact kp_post hsz (Below.refl _ _)
    · intro G wx fr hway _ hs hdef hsz
      have s5 : fr.tmps[5]? = some (.bool v) := hs.1
      have s70 : fr.tmps[70]? = some (.bool true) := hs.2.1
      clear hs
      refine ⟨?_⟩
      go_wp2
      exact kp_post hsz (Below.refl _ _)
    · intro G wx fr hway _ hs hdef hsz
      have s6 : fr.tmps[6]? = some (.bool t) := hs.1
      have s70 : fr.tmps[70]? = some (.bool true) := hs.2.1
      clear hs
      refine ⟨?_⟩
      go_wp2
      exact kp_post hsz (Below.refl _ _)
    · intro G wx fr hway _ hs hdef hsz
      have s71 : fr.tmps[71]? = some (.bool v) := hs.1
      have s72 : fr.tmps[72]? = some (.bool t) := hs.2.1
      have s70 : fr.tmps[70]? = some (.bool true) := hs.2.2.1
      clear hs
      refine ⟨?_⟩
      go_wp2_with fail
      refine (C12.out wx).mono ?_
      rintro e w2 ⟨rfl, hb2⟩
      go_wp2
      subst hb2
      exact kp_post hsz (Below.refl _ _)
    · intro G wx fr hway _ hs hdef hsz
      have s5 : fr.tmps[5]? = some (.bool v) := hs.1
      have s70 : fr.tmps[70]? = some (.bool true) := hs.2.1
      clear hs
      refine ⟨?_⟩
      go_wp2
      exact kp_post hsz (Below.refl _ _)
    · intro G wx fr hway _ hs hdef hsz
      have s6 : fr.tmps[6]? = some (.bool t) := hs.1
      have s70 : fr.tmps[70]? = some (.bool true) := hs.2.1
      clear hs
      refine ⟨?_⟩
      go_wp2
      exact kp_post hsz (Below.refl _ _)
    · intro G wx fr hway _ hs hdef hsz
      have s74 : fr.tmps[74]? = some (.bool v) := hs.1
      have s75 : fr.tmps[75]? = some (.bool t) := hs.2.1
      have s70 : fr.tmps[70]? = some (.bool true) := hs.2.2.1
      clear hs
      refine ⟨?_⟩
      go_wp2_with fail
      refine (C13.out wx).mono ?_
      rintro e w2 ⟨rfl, hb2⟩
      go_wp2
      subst hb2
      exact kp_post hsz (Below.refl _ _)
    · intro G wx fr hway _ hs hdef hsz
      have s73 : fr.tmps[73]? = some (.int .i64 (callOf v t)) := hs.1
      have s76 : fr.tmps[76]? = some (.int .i64 (callOf v t)) := hs.2.1
      have s70 : fr.tmps[70]? = some (.bool true) := hs.2.2.1
      clear hs
      refine ⟨?_⟩
      go_wp2
      exact kp_post hsz (Below.refl _ _)
    · intro G wx fr hway _ hs hdef hsz
      have s70 : fr.tmps[70]? = some (.bool true) := hs.1
      have s77 : fr.tmps[77]? = some (.bool true) := hs.2.1
      clear hs
      refine ⟨?_⟩
      go_wp2
      exact kp_post hsz (Below.refl _ _)
    · intro G wx fr hway _ hs hdef hsz
      have s78 : fr.tmps[78]? = some (.bool true) := hs.1
      clear hs
      refine ⟨?_⟩
      go_wp2
      exact kp_post hsz (Below.refl _ _)
    · intro G wx fr hway _ hs hdef hsz
      have s4 : fr.tmps[4]? = some (.int .i64 tp) := hs.1
      have s79 : fr.tmps[79]? = some (.bool true) := hs.2.1
      clear hs
      refine ⟨?_⟩
      go_wp2
      exact kp_post hsz (Below.refl _ _)
    · intro G wx fr hway _ hs hdef hsz
      have s3 : fr.tmps[3]? = some (.int .i64 n) := hs.1
      have s79 : fr.tmps[79]? = some (.bool true) := hs.2.1
      clear hs
      refine ⟨?_⟩
      go_wp2
      exact kp_post hsz (Below.refl _ _)
    · intro G wx fr hway _ hs hdef hsz
      have s80 : fr.tmps[80]? = some (.int .i64 tp) := hs.1
      have s81 : fr.tmps[81]? = some (.int .i64 n) := hs.2.1
      have s79 : fr.tmps[79]? = some (.bool true) := hs.2.2.1
      clear hs
      refine ⟨?_⟩
      go_wp2_with fail
      refine (C14.out wx).mono ?_
      rintro e w2 ⟨rfl, hb2⟩
      go_wp2
      subst hb2
      exact kp_post hsz (Below.refl _ _)
    · intro G wx fr hway _ hs hdef hsz
      have s16 : fr.tmps[16]? = some (.int .i64 0) := hs.1
      have s79 : fr.tmps[79]? = some (.bool true) := hs.2.1
      clear hs
      refine ⟨?_⟩
      go_wp2
      exact kp_post hsz (Below.refl _ _)
    · intro G wx fr hway _ hs hdef hsz
      have s82 : fr.tmps[82]? = some (.int .i64 0) := hs.1
      have s83 : fr.tmps[83]? = some (.int .i64 0) := hs.2.1
      have s79 : fr.tmps[79]? = some (.bool true) := hs.2.2.1
      clear hs
      refine ⟨?_⟩
      go_wp2
      exact kp_post hsz (Below.refl _ _)
    · intro G wx fr hway _ hs hdef hsz
      have s79 : fr.tmps[79]? = some (.bool true) := hs.1
      have s84 : fr.tmps[84]? = some (.bool true) := hs.2.1
      clear hs
      refine ⟨?_⟩
      go_wp2
      exact kp_post hsz (Below.refl _ _)
    · intro G wx fr hway _ hs hdef hsz
      have s85 : fr.tmps[85]? = some (.bool true) := hs.1
      clear hs
      refine ⟨?_⟩
      go_wp2
      exact kp_post hsz (Below.refl _ _)
  · intro G V wr3 hval hway hmade hap
    replace hval : V 0 = .int .i64 n ∧ V 1 = .int .i64 (wordsOf n) ∧ V 2 = .int .i64 n ∧ V 3 = .int .i64 (wordsOf n) ∧ V 4 = .bool true ∧ V 5 = .bool true ∧ V 6 = .agg cs ∧ V 7 = .int .i64 (txGas mk data) ∧ V 8 = .agg cs ∧ V 9 = .int .i64 (txGas mk data) ∧ V 10 = .bool true ∧ V 11 = .bool true ∧ V 12 = .bool true ∧ V 13 = .agg (wcells a) ∧ V 14 = .agg (wcells b) ∧ V 15 = .int .i64 (storeOf a b) ∧ V 16 = .agg (wcells a) ∧ V 17 = .agg (wcells b) ∧ V 18 = .int .i64 (storeOf a b) ∧ V 19 = .bool true ∧ V 20 = .bool true ∧ V 21 = .bool true ∧ V 22 = .agg (wcells a) ∧ V 23 = .int .i64 (expOf a) ∧ V 24 = .agg (wcells a) ∧ V 25 = .int .i64 (expOf a) ∧ V 26 = .bool true ∧ V 27 = .bool true ∧ V 28 = .bool true ∧ V 29 = .int .i64 n ∧ V 30 = .int .i64 (shareOf n) ∧ V 31 = .int .i64 n ∧ V 32 = .int .i64 (shareOf n) ∧ V 33 = .bool true ∧ V 34 = .bool true ∧ V 35 = .bool true ∧ V 36 = .bool v ∧ V 37 = .bool t ∧ V 38 = .int .i64 (callOf v t) ∧ V 39 = .bool v ∧ V 40 = .bool t ∧ V 41 = .int .i64 (callOf v t) ∧ V 42 = .bool true ∧ V 43 = .bool true ∧ V 44 = .bool true ∧ V 45 = .int .i64 tp ∧ V 46 = .int .i64 n ∧ V 47 = .int .i64 0 ∧ V 48 = .int .i64 0 ∧ V 49 = .bool true ∧ V 50 = .bool true ∧ V 51 = .bool true ∧ True := hval
    replace hmade : True := hmade
    obtain ⟨e3_0, e3_1, e3_2, e3_3, e3_4, e3_5, e3_6, e3_7, e3_8, e3_9, e3_10, e3_11, e3_12, e3_13, e3_14, e3_15, e3_16, e3_17, e3_18, e3_19, e3_20, e3_21, e3_22, e3_23, e3_24, e3_25, e3_26, e3_27, e3_28, e3_29, e3_30, e3_31, e3_32, e3_33, e3_34, e3_35, e3_36, e3_37, e3_38, e3_39, e3_40, e3_41, e3_42, e3_43, e3_44, e3_45, e3_46, e3_47, e3_48, e3_49, e3_50, e3_51, -⟩ := hval
    obtain ⟨-⟩ := hmade
    clear hap
    simp only [fill, Act.put, e3_0, e3_1, e3_2, e3_3, e3_4, e3_5, e3_6, e3_7, e3_8, e3_9, e3_10, e3_11, e3_12, e3_13, e3_14, e3_15, e3_16, e3_17, e3_18, e3_19, e3_20, e3_21, e3_22, e3_23, e3_24, e3_25, e3_26, e3_27, e3_28, e3_29, e3_30, e3_31, e3_32, e3_33, e3_34, e3_35, e3_36, e3_37, e3_38, e3_39, e3_40, e3_41, e3_42, e3_43, e3_44, e3_45, e3_46, e3_47, e3_48, e3_49, e3_50, e3_51]
    clear e3_0 e3_1 e3_2 e3_3 e3_4 e3_5 e3_6 e3_7 e3_8 e3_9 e3_10 e3_11 e3_12 e3_13 e3_14 e3_15 e3_16 e3_17 e3_18 e3_19 e3_20 e3_21 e3_22 e3_23 e3_24 e3_25 e3_26 e3_27 e3_28 e3_29 e3_30 e3_31 e3_32 e3_33 e3_34 e3_35 e3_36 e3_37 e3_38 e3_39 e3_40 e3_41 e3_42 e3_43 e3_44 e3_45 e3_46 e3_47 e3_48 e3_49 e3_50 e3_51
    simp only [Exit.then]
    go_simp
    clear G V
    replace hy1_1 := way_blk hway hy1_1 hy1_1.lt (by simp [heldBy, Knd.blockOf])
    replace hy1_2 := way_blk hway hy1_2 hy1_2.lt (by simp [heldBy, Knd.blockOf])
    replace hy1_3 := way_blk hway hy1_3 hy1_3.lt (by simp [heldBy, Knd.blockOf])
    replace hB1_3 := hway.2.2
    clear hway
    go_wp2
    go_ret
    exact ⟨rfl, hB1_3⟩
set_option maxRecDepth 100000 in
set_option maxHeartbeats 8000000 in
theorem walk_pos (cs : Array Value) (mk : Bool) (data : List UInt8) (a b : Nat) (n tp : Int) (v t : Bool) (w : World) (hok : TxOk w cs mk data) (ha : a < 2 ^ 256) (hb : b < 2 ^ 256) (h1 : -9223372036854775808 ≤ n) (h2 : 0 ≤ n) (h3 : n ≤ 1125899906842624) (hd0 : data.length ≤ 3000) : Calls Try.prog 6 #[.agg cs, .agg (wcells a), .agg (wcells b), .int .i64 n, .int .i64 tp, .bool v, .bool t] w fun e w' => e = .returned (.bool true) ∧ Below w.heap.size w w' := by
  obtain ⟨_, _, A, m, c, hsl, A', m', c', hsv, hlen, hmc, hcm, _⟩ := id hok
  injection hsv with _ hsv _
  subst hsv
  have HSL := Lib.hid hsl
  clear hsl
  have hd := Lib.hid (show data.length ≤ 100000 from by omega)
  have d1 : decide ((3000 : Int) < (m : Int)) = false := decide_eq_false (by omega)
  have hW := wordTy
  have zW := zWordL
  have HSW := Lib.hid wcells_size
  have H1W := Lib.hid wcells_one
  have HZW := Lib.hid wcells_lit0
  have hTx := txTy'
  have HSTx := Lib.hid hok.1
  have C1 := Lib.hid (fun w => alive14 w)
  have C2 := Lib.hid (fun w => Words_any n w h1 (by omega))
  have C3 := Lib.hid (fun w => RefWords_any n w h1 (by omega))
  have C4 := Lib.hid (fun (w1 : World) (hb1 : Below w.heap.size w w1) => Intrinsic_tx cs mk data w1 (hok.ext hb1) hd.out)
  have C5 := Lib.hid (fun (w1 : World) (hb1 : Below w.heap.size w w1) => RefIntrinsic_tx cs mk data w1 (hok.ext hb1) hd.out)
  have C6 := Lib.hid (fun w => GasStore_any a b w ha hb)
  have C7 := Lib.hid (fun w => GasRefStore_any a b w ha hb)
  have C8 := Lib.hid (fun w => GasExp_any a w ha)
  have C9 := Lib.hid (fun w => GasRefExp_any a w ha)
  have C10 := Lib.hid (fun w => Share_any n w h1 (by omega))
  have C11 := Lib.hid (fun w => RefShare_any n w h1 (by omega))
  have C12 := Lib.hid (fun w => Call_any v t w)
  have C13 := Lib.hid (fun w => RefCall_any v t w)
  have C14 := Lib.hid (fun w => Log_pos tp n w h2 h3)
  go_enter Try.func6, Try.ntmps6
  have tk0_0 : True := trivial
  have tk0_1 : True := trivial
  have tk0_2 : True := trivial
  have tk0_3 : True := trivial
  go_wp2_with (first
    | ((with_reducible refine gd_box ?_); have _t := tk0_0; refine wpList_box_agg rfl _ (.tmp 0) rfl rfl ?_; clear tk0_0; intro w1 hx1 hb1 hl1; have hz1 := hx1.lt; have hs1 := hb1.size)
    | ((with_reducible refine gd_box ?_); have _t := tk0_1; refine wpList_box_agg rfl _ (.tmp 1) rfl rfl ?_; clear tk0_1; intro w2 hx2 hb2 hl2; have hz2 := hx2.lt; have hs2 := hb2.size)
    | ((with_reducible refine gd_box ?_); have _t := tk0_2; refine wpList_box_agg rfl _ (.tmp 2) rfl rfl ?_; clear tk0_2; intro w3 hx3 hb3 hl3; have hz3 := hx3.lt; have hs3 := hb3.size; have hc76 := ((hx1.ext hb2).ext hb3).cellv HSL.out)
    | (go_at_call 10; have _t := tk0_3; refine (C1.out _).mono ?_; clear tk0_3; rintro e w4 ⟨rfl, rfl⟩)
    | fail)
  have hy1_1 := ((hx1.ext hb2).ext hb3)
  have hy1_2 := (hx2.ext hb3)
  have hy1_3 := hx3
  have hB1_1 := hb1
  have hB1_2 := below_step hB1_1 hb2
  have hB1_3 := below_step hB1_2 hb3
  clear hb1 hl1 hz1 hs1 hb2 hl2 hz2 hs2 hb3 hl3 hz3 hs3 hx1 hx2 hx3 hB1_1 hB1_2
  refine wp_region_made (w := w3) (B := w.heap.size) (wB := w) ((.val (.int .i64 n)) :: (.val (.int .i64 (wordsOf n))) :: (.val (.int .i64 n)) :: (.val (.int .i64 (wordsOf n))) :: (.val (.bool true)) :: (.val (.bool true)) :: (.val (.agg cs)) :: (.val (.int .i64 (txGas mk data))) :: (.val (.agg cs)) :: (.val (.int .i64 (txGas mk data))) :: (.val (.bool true)) :: (.val (.bool true)) :: (.val (.bool true)) :: (.val (.agg (wcells a))) :: (.val (.agg (wcells b))) :: (.val (.int .i64 (storeOf a b))) :: (.val (.agg (wcells a))) :: (.val (.agg (wcells b))) :: (.val (.int .i64 (storeOf a b))) :: (.val (.bool true)) :: (.val (.bool true)) :: (.val (.bool true)) :: (.val (.agg (wcells a))) :: (.val (.int .i64 (expOf a))) :: (.val (.agg (wcells a))) :: (.val (.int .i64 (expOf a))) :: (.val (.bool true)) :: (.val (.bool true)) :: (.val (.bool true)) :: (.val (.int .i64 n)) :: (.val (.int .i64 (shareOf n))) :: (.val (.int .i64 n)) :: (.val (.int .i64 (shareOf n))) :: (.val (.bool true)) :: (.val (.bool true)) :: (.val (.bool true)) :: (.val (.bool v)) :: (.val (.bool t)) :: (.val (.int .i64 (callOf v t))) :: (.val (.bool v)) :: (.val (.bool t)) :: (.val (.int .i64 (callOf v t))) :: (.val (.bool true)) :: (.val (.bool true)) :: (.val (.bool true)) :: (.val (.int .i64 tp)) :: (.val (.int .i64 n)) :: (.val (.int .i64 (8 * n))) :: (.val (.int .i64 (8 * n))) :: (.val (.bool true)) :: (.val (.bool true)) :: (.val (.bool true)) :: []) (by kernel_rfl) (by kernel_rfl) (by kernel_rfl) rfl (by kernel_rfl) rfl hB1_3.size hB1_3 (by exact List.nodup_nil) (by intro g hg; exact nomatch hg) trivial ?_ ?_
  · refine ⟨?_, ?_, ?_, ?_, ?_, ?_, ?_, ?_, ?_, ?_, ?_, ?_, ?_, ?_, ?_, ?_, ?_, ?_, ?_, ?_, ?_, ?_, ?_, ?_, ?_, ?_, ?_, ?_, ?_, ?_, ?_, ?_, ?_, ?_, ?_, ?_, ?_, ?_, ?_, ?_, ?_, ?_, ?_, ?_, ?_, ?_, ?_, ?_, ?_, ?_, ?_, ?_, trivial⟩
    · intro G wx fr hway _ hs hdef hsz
      have s3 : fr.tmps[3]? = some (.int .i64 n) := hs.1
      clear hs
      refine ⟨?_⟩
      go_wp2
      exact kp_post hsz (Below.refl _ _)
    · intro G wx fr hway _ hs hdef hsz
      have s35 : fr.tmps[35]? = some (.int .i64 n) := hs.1
      clear hs
      refine ⟨?_⟩
      go_wp2_with fail
      refine (C2.out wx).mono ?_
      rintro e w2 ⟨rfl, hb2⟩
      go_wp2
      subst hb2
      exact kp_post hsz (Below.refl _ _)
    · intro G wx fr hway _ hs hdef hsz
      have s3 : fr.tmps[3]? = some (.int .i64 n) := hs.1
      clear hs
      refine ⟨?_⟩
      go_wp2
      exact kp_post hsz (Below.refl _ _)
    · intro G wx fr hway _ hs hdef hsz
      have s37 : fr.tmps[37]? = some (.int .i64 n) := hs.1
      clear hs
      refine ⟨?_⟩
      go_wp2_with fail
      refine (C3.out wx).mono ?_
      rintro e w2 ⟨rfl, hb2⟩
      go_wp2
      subst hb2
      exact kp_post hsz (Below.refl _ _)
    · intro G wx fr hway _ hs hdef hsz
      have s36 : fr.tmps[36]? = some (.int .i64 (wordsOf n)) := hs.1
      have s38 : fr.tmps[38]? = some (.int .i64 (wordsOf n)) := hs.2.1
      clear hs
      refine ⟨?_⟩
      go_wp2
      exact kp_post hsz (Below.refl _ _)
    · intro G wx fr hway _ hs hdef hsz
      have s39 : fr.tmps[39]? = some (.bool true) := hs.1
      clear hs
      refine ⟨?_⟩
      go_wp2
      exact kp_post hsz (Below.refl _ _)
    · intro G wx fr hway _ hs hdef hsz
      have s7 : fr.tmps[7]? = some (.pointer (some ⟨w.heap.size, 0, none⟩)) := hs.1
      have s40 : fr.tmps[40]? = some (.bool true) := hs.2.1
      clear hs
      refine ⟨?_⟩
      refine wpList_load_want (by simp [Region.wanted, yielded, *]) 28 (.tmp 7) rfl (way_blk hway hy1_1 (by first | exact hy1_1.lt | omega) (by simp [heldBy, Knd.blockOf])) (by rw [HSTx.out]; exact hTx) (by simp [Act.eval, s7]) ?_
      refine wpList_nil ?_
      exact kp_val hdef hsz (Below.refl _ _)
    · intro G wx fr hway _ hs hdef hsz
      have s41 : fr.tmps[41]? = some (.agg cs) := hs.1
      have s40 : fr.tmps[40]? = some (.bool true) := hs.2.1
      clear hs
      refine ⟨?_⟩
      go_wp2_with fail
      refine (C4.out wx hway.2.2).mono ?_
      rintro e w2 ⟨rfl, hb2⟩
      go_wp2
      exact kp_post hsz hb2
    · intro G wx fr hway _ hs hdef hsz
      have s7 : fr.tmps[7]? = some (.pointer (some ⟨w.heap.size, 0, none⟩)) := hs.1
      have s40 : fr.tmps[40]? = some (.bool true) := hs.2.1
      clear hs
      refine ⟨?_⟩
      refine wpList_load_want (by simp [Region.wanted, yielded, *]) 28 (.tmp 7) rfl (way_blk hway hy1_1 (by first | exact hy1_1.lt | omega) (by simp [heldBy, Knd.blockOf])) (by rw [HSTx.out]; exact hTx) (by simp [Act.eval, s7]) ?_
      refine wpList_nil ?_
      exact kp_val hdef hsz (Below.refl _ _)
    · intro G wx fr hway _ hs hdef hsz
      have s43 : fr.tmps[43]? = some (.agg cs) := hs.1
      have s40 : fr.tmps[40]? = some (.bool true) := hs.2.1
      clear hs
      refine ⟨?_⟩
      go_wp2_with fail
      refine (C5.out wx hway.2.2).mono ?_
      rintro e w2 ⟨rfl, hb2⟩
      go_wp2
      exact kp_post hsz hb2
    · intro G wx fr hway _ hs hdef hsz
      have s42 : fr.tmps[42]? = some (.int .i64 (txGas mk data)) := hs.1
      have s44 : fr.tmps[44]? = some (.int .i64 (txGas mk data)) := hs.2.1
      have s40 : fr.tmps[40]? = some (.bool true) := hs.2.2.1
      clear hs
      refine ⟨?_⟩
      go_wp2
      exact kp_post hsz (Below.refl _ _)
    · intro G wx fr hway _ hs hdef hsz
      have s40 : fr.tmps[40]? = some (.bool true) := hs.1
      have s45 : fr.tmps[45]? = some (.bool true) := hs.2.1
      clear hs
      refine ⟨?_⟩
      go_wp2
      exact kp_post hsz (Below.refl _ _)
    · intro G wx fr hway _ hs hdef hsz
      have s46 : fr.tmps[46]? = some (.bool true) := hs.1
      clear hs
      refine ⟨?_⟩
      go_wp2
      exact kp_post hsz (Below.refl _ _)
    · intro G wx fr hway _ hs hdef hsz
      have s8 : fr.tmps[8]? = some (.pointer (some ⟨w1.heap.size, 0, none⟩)) := hs.1
      have s47 : fr.tmps[47]? = some (.bool true) := hs.2.1
      clear hs
      refine ⟨?_⟩
      refine wpList_load_want (by simp [Region.wanted, yielded, *]) 25 (.tmp 8) rfl (way_blk hway hy1_2 (by first | exact hy1_2.lt | omega) (by simp [heldBy, Knd.blockOf])) (by rw [HSW.out]; exact hW) (by simp [Act.eval, s8]) ?_
      refine wpList_nil ?_
      exact kp_val hdef hsz (Below.refl _ _)
    · intro G wx fr hway _ hs hdef hsz
      have s9 : fr.tmps[9]? = some (.pointer (some ⟨w2.heap.size, 0, none⟩)) := hs.1
      have s47 : fr.tmps[47]? = some (.bool true) := hs.2.1
      clear hs
      refine ⟨?_⟩
      refine wpList_load_want (by simp [Region.wanted, yielded, *]) 25 (.tmp 9) rfl (way_blk hway hy1_3 (by first | exact hy1_3.lt | omega) (by simp [heldBy, Knd.blockOf])) (by rw [HSW.out]; exact hW) (by simp [Act.eval, s9]) ?_
      refine wpList_nil ?_
      exact kp_val hdef hsz (Below.refl _ _)
    · intro G wx fr hway _ hs hdef hsz
      have s48 : fr.tmps[48]? = some (.agg (wcells a)) := hs.1
      have s49 : fr.tmps[49]? = some (.agg (wcells b)) := hs.2.1
      have s47 : fr.tmps[47]? = some (.bool true) := hs.2.2.1
      clear hs
      refine ⟨?_⟩
      go_wp2_with fail
      refine (C6.out wx).mono ?_
      rintro e w2 ⟨rfl, hb2⟩
      go_wp2
      exact kp_post hsz hb2
    · intro G wx fr hway _ hs hdef hsz
      have s8 : fr.tmps[8]? = some (.pointer (some ⟨w1.heap.size, 0, none⟩)) := hs.1
      have s47 : fr.tmps[47]? = some (.bool true) := hs.2.1
      clear hs
      refine ⟨?_⟩
      refine wpList_load_want (by simp [Region.wanted, yielded, *]) 25 (.tmp 8) rfl (way_blk hway hy1_2 (by first | exact hy1_2.lt | omega) (by simp [heldBy, Knd.blockOf])) (by rw [HSW.out]; exact hW) (by simp [Act.eval, s8]) ?_
      refine wpList_nil ?_
      exact kp_val hdef hsz (Below.refl _ _)
    · intro G wx fr hway _ hs hdef hsz
      have s9 : fr.tmps[9]? = some (.pointer (some ⟨w2.heap.size, 0, none⟩)) := hs.1
      have s47 : fr.tmps[47]? = some (.bool true) := hs.2.1
      clear hs
      refine ⟨?_⟩
      refine wpList_load_want (by simp [Region.wanted, yielded, *]) 25 (.tmp 9) rfl (way_blk hway hy1_3 (by first | exact hy1_3.lt | omega) (by simp [heldBy, Knd.blockOf])) (by rw [HSW.out]; exact hW) (by simp [Act.eval, s9]) ?_
      refine wpList_nil ?_
      exact kp_val hdef hsz (Below.refl _ _)
    · intro G wx fr hway _ hs hdef hsz
      have s51 : fr.tmps[51]? = some (.agg (wcells a)) := hs.1
      have s52 : fr.tmps[52]? = some (.agg (wcells b)) := hs.2.1
      have s47 : fr.tmps[47]? = some (.bool true) := hs.2.2.1
      clear hs
      refine ⟨?_⟩
      go_wp2_with fail
      refine (C7.out wx).mono ?_
      rintro e w2 ⟨rfl, hb2⟩
      go_wp2
      exact kp_post hsz hb2
    · intro G wx fr hway _ hs hdef hsz
      have s50 : fr.tmps[50]? = some (.int .i64 (storeOf a b)) := hs.1
      have s53 : fr.tmps[53]? = some (.int .i64 (storeOf a b)) := hs.2.1
      have s47 : fr.tmps[47]? = some (.bool true) := hs.2.2.1
      clear hs
      refine ⟨?_⟩
      go_wp2
      exact kp_post hsz (Below.refl _ _)
    · intro G wx fr hway _ hs hdef hsz
      have s47 : fr.tmps[47]? = some (.bool true) := hs.1
      have s54 : fr.tmps[54]? = some (.bool true) := hs.2.1
      clear hs
      refine ⟨?_⟩
      go_wp2
      exact kp_post hsz (Below.refl _ _)
    · intro G wx fr hway _ hs hdef hsz
      have s55 : fr.tmps[55]? = some (.bool true) := hs.1
      clear hs
      refine ⟨?_⟩
      go_wp2
      exact kp_post hsz (Below.refl _ _)
    · intro G wx fr hway _ hs hdef hsz
      have s8 : fr.tmps[8]? = some (.pointer (some ⟨w1.heap.size, 0, none⟩)) := hs.1
      have s56 : fr.tmps[56]? = some (.bool true) := hs.2.1
      clear hs
      refine ⟨?_⟩
      refine wpList_load_want (by simp [Region.wanted, yielded, *]) 25 (.tmp 8) rfl (way_blk hway hy1_2 (by first | exact hy1_2.lt | omega) (by simp [heldBy, Knd.blockOf])) (by rw [HSW.out]; exact hW) (by simp [Act.eval, s8]) ?_
      refine wpList_nil ?_
      exact kp_val hdef hsz (Below.refl _ _)
    · intro G wx fr hway _ hs hdef hsz
      have s57 : fr.tmps[57]? = some (.agg (wcells a)) := hs.1
      have s56 : fr.tmps[56]? = some (.bool true) := hs.2.1
      clear hs
      refine ⟨?_⟩
      go_wp2_with fail
      refine (C8.out wx).mono ?_
      rintro e w2 ⟨rfl, hb2⟩
      go_wp2
      exact kp_post hsz hb2
    · intro G wx fr hway _ hs hdef hsz
      have s8 : fr.tmps[8]? = some (.pointer (some ⟨w1.heap.size, 0, none⟩)) := hs.1
      have s56 : fr.tmps[56]? = some (.bool true) := hs.2.1
      clear hs
      refine ⟨?_⟩
      refine wpList_load_want (by simp [Region.wanted, yielded, *]) 25 (.tmp 8) rfl (way_blk hway hy1_2 (by first | exact hy1_2.lt | omega) (by simp [heldBy, Knd.blockOf])) (by rw [HSW.out]; exact hW) (by simp [Act.eval, s8]) ?_
      refine wpList_nil ?_
      exact kp_val hdef hsz (Below.refl _ _)
    · intro G wx fr hway _ hs hdef hsz
      have s59 : fr.tmps[59]? = some (.agg (wcells a)) := hs.1
      have s56 : fr.tmps[56]? = some (.bool true) := hs.2.1
      clear hs
      refine ⟨?_⟩
      go_wp2_with fail
      refine (C9.out wx).mono ?_
      rintro e w2 ⟨rfl, hb2⟩
      go_wp2
      exact kp_post hsz hb2
    · intro G wx fr hway _ hs hdef hsz
      have s58 : fr.tmps[58]? = some (.int .i64 (expOf a)) := hs.1
      have s60 : fr.tmps[60]? = some (.int .i64 (expOf a)) := hs.2.1
      have s56 : fr.tmps[56]? = some (.bool true) := hs.2.2.1
      clear hs
      refine ⟨?_⟩
      go_wp2
      exact kp_post hsz (Below.refl _ _)
    · intro G wx fr hway _ hs hdef hsz
      have s56 : fr.tmps[56]? = some (.bool true) := hs.1
      have s61 : fr.tmps[61]? = some (.bool true) := hs.2.1
      clear hs
      refine ⟨?_⟩
      go_wp2
      exact kp_post hsz (Below.refl _ _)
    · intro G wx fr hway _ hs hdef hsz
      have s62 : fr.tmps[62]? = some (.bool true) := hs.1
      clear hs
      refine ⟨?_⟩
      go_wp2
      exact kp_post hsz (Below.refl _ _)
    · intro G wx fr hway _ hs hdef hsz
      have s3 : fr.tmps[3]? = some (.int .i64 n) := hs.1
      have s63 : fr.tmps[63]? = some (.bool true) := hs.2.1
      clear hs
      refine ⟨?_⟩
      go_wp2
      exact kp_post hsz (Below.refl _ _)
    · intro G wx fr hway _ hs hdef hsz
      have s64 : fr.tmps[64]? = some (.int .i64 n) := hs.1
      have s63 : fr.tmps[63]? = some (.bool true) := hs.2.1
      clear hs
      refine ⟨?_⟩
      go_wp2_with fail
      refine (C10.out wx).mono ?_
      rintro e w2 ⟨rfl, hb2⟩
      go_wp2
      subst hb2
      exact kp_post hsz (Below.refl _ _)
    · intro G wx fr hway _ hs hdef hsz
      have s3 : fr.tmps[3]? = some (.int .i64 n) := hs.1
      have s63 : fr.tmps[63]? = some (.bool true) := hs.2.1
      clear hs
      refine ⟨?_⟩
      go_wp2
      exact kp_post hsz (Below.refl _ _)
    · intro G wx fr hway _ hs hdef hsz
      have s66 : fr.tmps[66]? = some (.int .i64 n) := hs.1
      have s63 : fr.tmps[63]? = some (.bool true) := hs.2.1
      clear hs
      refine ⟨?_⟩
      go_wp2_with fail
      refine (C11.out wx).mono ?_
      rintro e w2 ⟨rfl, hb2⟩
      go_wp2
      subst hb2
      exact kp_post hsz (Below.refl _ _)
    · intro G wx fr hway _ hs hdef hsz
      have s65 : fr.tmps[65]? = some (.int .i64 (shareOf n)) := hs.1
      have s67 : fr.tmps[67]? = some (.int .i64 (shareOf n)) := hs.2.1
      have s63 : fr.tmps[63]? = some (.bool true) := hs.2.2.1
      clear hs
      refine ⟨?_⟩
      go_wp2
      exact kp_post hsz (Below.refl _ _)
    · intro G wx fr hway _ hs hdef hsz
      have s63 : fr.tmps[63]? = some (.bool true) := hs.1
      have s68 : fr.tmps[68]? = some (.bool true) := hs.2.1
      clear hs
      refine ⟨?_⟩
      go_wp2
      exact kp_post hsz (Below.refl _ _)
    · intro G wx fr hway _ hs hdef hsz
      have s69 : fr.tmps[69]? = some (.bool true) := hs.1
      clear hs
      refine ⟨?_⟩
      go_wp2
      exact kp_post hsz (Below.refl _ _)
    · intro G wx fr hway _ hs hdef hsz
      have s5 : fr.tmps[5]? = some (.bool v) := hs.1
      have s70 : fr.tmps[70]? = some (.bool true) := hs.2.1
      clear hs
      refine ⟨?_⟩
      go_wp2
      exact kp_post hsz (Below.refl _ _)
    · intro G wx fr hway _ hs hdef hsz
      have s6 : fr.tmps[6]? = some (.bool t) := hs.1
      have s70 : fr.tmps[70]? = some (.bool true) := hs.2.1
      clear hs
      refine ⟨?_⟩
      go_wp2
      exact kp_post hsz (Below.refl _ _)
    · intro G wx fr hway _ hs hdef hsz
      have s71 : fr.tmps[71]? = some (.bool v) := hs.1
      have s72 : fr.tmps[72]? = some (.bool t) := hs.2.1
      have s70 : fr.tmps[70]? = some (.bool true) := hs.2.2.1
      clear hs
      refine ⟨?_⟩
      go_wp2_with fail
      refine (C12.out wx).mono ?_
      rintro e w2 ⟨rfl, hb2⟩
      go_wp2
      subst hb2
      exact kp_post hsz (Below.refl _ _)
    · intro G wx fr hway _ hs hdef hsz
      have s5 : fr.tmps[5]? = some (.bool v) := hs.1
      have s70 : fr.tmps[70]? = some (.bool true) := hs.2.1
      clear hs
      refine ⟨?_⟩
      go_wp2
      exact kp_post hsz (Below.refl _ _)
    · intro G wx fr hway _ hs hdef hsz
      have s6 : fr.tmps[6]? = some (.bool t) := hs.1
      have s70 : fr.tmps[70]? = some (.bool true) := hs.2.1
      clear hs
      refine ⟨?_⟩
      go_wp2
      exact kp_post hsz (Below.refl _ _)
    · intro G wx fr hway _ hs hdef hsz
      have s74 : fr.tmps[74]? = some (.bool v) := hs.1
      have s75 : fr.tmps[75]? = some (.bool t) := hs.2.1
      have s70 : fr.tmps[70]? = some (.bool true) := hs.2.2.1
      clear hs
      refine ⟨?_⟩
      go_wp2_with fail
      refine (C13.out wx).mono ?_
      rintro e w2 ⟨rfl, hb2⟩
      go_wp2
      subst hb2
      exact kp_post hsz (Below.refl _ _)
    · intro G wx fr hway _ hs hdef hsz
      have s73 : fr.tmps[73]? = some (.int .i64 (callOf v t)) := hs.1
      have s76 : fr.tmps[76]? = some (.int .i64 (callOf v t)) := hs.2.1
      have s70 : fr.tmps[70]? = some (.bool true) := hs.2.2.1
      clear hs
      refine ⟨?_⟩
      go_wp2
      exact kp_post hsz (Below.refl _ _)
    · intro G wx fr hway _ hs hdef hsz
      have s70 : fr.tmps[70]? = some (.bool true) := hs.1
      have s77 : fr.tmps[77]? = some (.bool true) := hs.2.1
      clear hs
      refine ⟨?_⟩
      go_wp2
      exact kp_post hsz (Below.refl _ _)
    · intro G wx fr hway _ hs hdef hsz
      have s78 : fr.tmps[78]? = some (.bool true) := hs.1
      clear hs
      refine ⟨?_⟩
      go_wp2
      exact kp_post hsz (Below.refl _ _)
    · intro G wx fr hway _ hs hdef hsz
      have s4 : fr.tmps[4]? = some (.int .i64 tp) := hs.1
      have s79 : fr.tmps[79]? = some (.bool true) := hs.2.1
      clear hs
      refine ⟨?_⟩
      go_wp2
      exact kp_post hsz (Below.refl _ _)
    · intro G wx fr hway _ hs hdef hsz
      have s3 : fr.tmps[3]? = some (.int .i64 n) := hs.1
      have s79 : fr.tmps[79]? = some (.bool true) := hs.2.1
      clear hs
      refine ⟨?_⟩
      go_wp2
      exact kp_post hsz (Below.refl _ _)
    · intro G wx fr hway _ hs hdef hsz
      have s80 : fr.tmps[80]? = some (.int .i64 tp) := hs.1
      have s81 : fr.tmps[81]? = some (.int .i64 n) := hs.2.1
      have s79 : fr.tmps[79]? = some (.bool true) := hs.2.2.1
      clear hs
      refine ⟨?_⟩
      go_wp2_with fail
      refine (C14.out wx).mono ?_
      rintro e w2 ⟨rfl, hb2⟩
      go_wp2
      subst hb2
      exact kp_post hsz (Below.refl _ _)
    · intro G wx fr hway _ hs hdef hsz
      have s16 : fr.tmps[16]? = some (.int .i64 (8 * n)) := hs.1
      have s79 : fr.tmps[79]? = some (.bool true) := hs.2.1
      clear hs
      refine ⟨?_⟩
      go_wp2
      exact kp_post hsz (Below.refl _ _)
    · intro G wx fr hway _ hs hdef hsz
      have s82 : fr.tmps[82]? = some (.int .i64 (8 * n)) := hs.1
      have s83 : fr.tmps[83]? = some (.int .i64 (8 * n)) := hs.2.1
      have s79 : fr.tmps[79]? = some (.bool true) := hs.2.2.1
      clear hs
      refine ⟨?_⟩
      go_wp2
      exact kp_post hsz (Below.refl _ _)
    · intro G wx fr hway _ hs hdef hsz
      have s79 : fr.tmps[79]? = some (.bool true) := hs.1
      have s84 : fr.tmps[84]? = some (.bool true) := hs.2.1
      clear hs
      refine ⟨?_⟩
      go_wp2
      exact kp_post hsz (Below.refl _ _)
    · intro G wx fr hway _ hs hdef hsz
      have s85 : fr.tmps[85]? = some (.bool true) := hs.1
      clear hs
      refine ⟨?_⟩
      go_wp2
      exact kp_post hsz (Below.refl _ _)
  · intro G V wr3 hval hway hmade hap
    replace hval : V 0 = .int .i64 n ∧ V 1 = .int .i64 (wordsOf n) ∧ V 2 = .int .i64 n ∧ V 3 = .int .i64 (wordsOf n) ∧ V 4 = .bool true ∧ V 5 = .bool true ∧ V 6 = .agg cs ∧ V 7 = .int .i64 (txGas mk data) ∧ V 8 = .agg cs ∧ V 9 = .int .i64 (txGas mk data) ∧ V 10 = .bool true ∧ V 11 = .bool true ∧ V 12 = .bool true ∧ V 13 = .agg (wcells a) ∧ V 14 = .agg (wcells b) ∧ V 15 = .int .i64 (storeOf a b) ∧ V 16 = .agg (wcells a) ∧ V 17 = .agg (wcells b) ∧ V 18 = .int .i64 (storeOf a b) ∧ V 19 = .bool true ∧ V 20 = .bool true ∧ V 21 = .bool true ∧ V 22 = .agg (wcells a) ∧ V 23 = .int .i64 (expOf a) ∧ V 24 = .agg (wcells a) ∧ V 25 = .int .i64 (expOf a) ∧ V 26 = .bool true ∧ V 27 = .bool true ∧ V 28 = .bool true ∧ V 29 = .int .i64 n ∧ V 30 = .int .i64 (shareOf n) ∧ V 31 = .int .i64 n ∧ V 32 = .int .i64 (shareOf n) ∧ V 33 = .bool true ∧ V 34 = .bool true ∧ V 35 = .bool true ∧ V 36 = .bool v ∧ V 37 = .bool t ∧ V 38 = .int .i64 (callOf v t) ∧ V 39 = .bool v ∧ V 40 = .bool t ∧ V 41 = .int .i64 (callOf v t) ∧ V 42 = .bool true ∧ V 43 = .bool true ∧ V 44 = .bool true ∧ V 45 = .int .i64 tp ∧ V 46 = .int .i64 n ∧ V 47 = .int .i64 (8 * n) ∧ V 48 = .int .i64 (8 * n) ∧ V 49 = .bool true ∧ V 50 = .bool true ∧ V 51 = .bool true ∧ True := hval
    replace hmade : True := hmade
    obtain ⟨e3_0, e3_1, e3_2, e3_3, e3_4, e3_5, e3_6, e3_7, e3_8, e3_9, e3_10, e3_11, e3_12, e3_13, e3_14, e3_15, e3_16, e3_17, e3_18, e3_19, e3_20, e3_21, e3_22, e3_23, e3_24, e3_25, e3_26, e3_27, e3_28, e3_29, e3_30, e3_31, e3_32, e3_33, e3_34, e3_35, e3_36, e3_37, e3_38, e3_39, e3_40, e3_41, e3_42, e3_43, e3_44, e3_45, e3_46, e3_47, e3_48, e3_49, e3_50, e3_51, -⟩ := hval
    obtain ⟨-⟩ := hmade
    clear hap
    simp only [fill, Act.put, e3_0, e3_1, e3_2, e3_3, e3_4, e3_5, e3_6, e3_7, e3_8, e3_9, e3_10, e3_11, e3_12, e3_13, e3_14, e3_15, e3_16, e3_17, e3_18, e3_19, e3_20, e3_21, e3_22, e3_23, e3_24, e3_25, e3_26, e3_27, e3_28, e3_29, e3_30, e3_31, e3_32, e3_33, e3_34, e3_35, e3_36, e3_37, e3_38, e3_39, e3_40, e3_41, e3_42, e3_43, e3_44, e3_45, e3_46, e3_47, e3_48, e3_49, e3_50, e3_51]
    clear e3_0 e3_1 e3_2 e3_3 e3_4 e3_5 e3_6 e3_7 e3_8 e3_9 e3_10 e3_11 e3_12 e3_13 e3_14 e3_15 e3_16 e3_17 e3_18 e3_19 e3_20 e3_21 e3_22 e3_23 e3_24 e3_25 e3_26 e3_27 e3_28 e3_29 e3_30 e3_31 e3_32 e3_33 e3_34 e3_35 e3_36 e3_37 e3_38 e3_39 e3_40 e3_41 e3_42 e3_43 e3_44 e3_45 e3_46 e3_47 e3_48 e3_49 e3_50 e3_51
    simp only [Exit.then]
    go_simp
    clear G V
    replace hy1_1 := way_blk hway hy1_1 hy1_1.lt (by simp [heldBy, Knd.blockOf])
    replace hy1_2 := way_blk hway hy1_2 hy1_2.lt (by simp [heldBy, Knd.blockOf])
    replace hy1_3 := way_blk hway hy1_3 hy1_3.lt (by simp [heldBy, Knd.blockOf])
    replace hB1_3 := hway.2.2
    clear hway
    go_wp2
    go_ret
    exact ⟨rfl, hB1_3⟩
open Go.ChangeShapes Go.WideShapes Go.ChangeAt

set_option maxRecDepth 100000 in
theorem lifted (os : Os) (started : os.Started) (H : Type) (enc : TypeId × Value → H) :
    ReturnsInHanded {} Try.checked os 6 .any (Rows.gasTellsSpec.pre6 enc Try.prog Try.f6 Rows.gasTellsRow.domain false) (Rows.gasTellsSpec.post enc Try.prog Try.f6 false true false false) := by
  refine law_lift (C := Try.checked) (ts := [28, 25, 25, 3, 3, 4, 4]) (tb := 4) (by kernel_rfl) started (by kernel_rfl) Try.func6
    (ChangeSpec.witness6 (enc := enc) (C := Try.checked) false ⟨#[], #[zTx', .agg (Array.replicate 32 (.int .u8 0)), .agg (Array.replicate 32 (.int .u8 0)), .int .i64 0, .int .i64 0, .bool false, .bool false], []⟩ 8 (by kernel_rfl) (by kernel_rfl) (by kernel_rfl) (by kernel_rfl))
    (by kernel_rfl) (by kernel_rfl) (by kernel_rfl) (by kernel_rfl) Try.underlying4 rfl (fun ds h => by match ds, h with | [_, _, _, _, _, _, _], _ => rfl) ?_
  intro W vs hl h
  match vs, hl with
  | [v0, v1, v2, v3, v4, v5, v6], _ =>
    have ht := h 0 _ v0 rfl rfl
    have ha := h 1 _ v1 rfl rfl
    have hb := h 2 _ v2 rfl rfl
    obtain ⟨n, rfl, hn⟩ := arg_int Try.underlying3 (h 3 _ v3 rfl rfl)
    obtain ⟨tp, rfl, htp⟩ := arg_int Try.underlying3 (h 4 _ v4 rfl rfl)
    obtain ⟨v, rfl⟩ := arg_bool Try.underlying4 (h 5 _ v5 rfl rfl)
    obtain ⟨u, rfl⟩ := arg_bool Try.underlying4 (h 6 _ v6 rfl rfl)
    obtain ⟨cs, mk, data, rfl, _, htx⟩ := tx_of ht
    obtain ⟨a, ha', rfl⟩ := arg_word ha
    obtain ⟨b, hb', rfl⟩ := arg_word hb
    have hn := bounds_i64 hn
    by_cases c1 : 3000 < data.length
    · exact walk_big cs mk data a b n tp v u W htx c1
    by_cases c2 : 1125899906842624 < n
    · exact walk_far cs mk data a b n tp v u W htx c1 c2
    by_cases c3 : n < 0
    · exact walk_neg cs mk data a b n tp v u W htx ha' hb' hn.1 c3 (by omega)
    · exact walk_pos cs mk data a b n tp v u W htx ha' hb' hn.1 (by omega) (by omega) (by omega)

theorem over : Rows.gasTellsRow.holds Try.pinned (OpenSpec.ofChange Rows.gasTellsSpec) :=
  OpenClaim.holds_of_wide 6 Try.f6 rfl rfl rfl rfl rfl rfl rfl ⟨rfl, rfl, rfl, rfl, rfl⟩ rfl rfl rfl rfl rfl (by kernel_rfl) Try.func6 (by kernel_rfl)
    (of_decide_eq_true (by kernel_rfl)) (by unfold Func.isWrapper; first | (rw [if_pos (by decide +kernel)]; kernel_rfl) | (rw [if_neg (by decide +kernel)]; exact ⟨rfl, rfl⟩))
    (fun os started H enc _ => lifted os started H enc)
end Go.Proofs.Ytpliedimdhilcaa.GasTells
namespace Go.Proofs.Ytpliedimdhilcaa
theorem gasTells_holds : Rows.GasTellsSaid := GasTells.over
#print axioms gasTells_holds
end Go.Proofs.Ytpliedimdhilcaa
