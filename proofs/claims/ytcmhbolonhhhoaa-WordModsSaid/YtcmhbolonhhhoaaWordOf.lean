/- The walks of word.Of, word.Int. -/
import Derived.Test.YtcmhbolonhhhoaaWordMem
import Derived.Test.YtcmhbolonhhhoaaOfP
namespace Go.Mun
open Go Go.RowKit Go.Proofs

theorem ofN_limbs_nat (m : Nat) (h : m < 2 ^ 64) : limbsV (ofN (m : Int)) = #[.int .u64 (m : Nat), .int .u64 0, .int .u64 0, .int .u64 0] := by
  rw [ofN_nat m h]
  have e0 : limb m 0 = m := by unfold limb; rw [Nat.mul_zero, Nat.pow_zero, Nat.div_one]; exact Nat.mod_eq_of_lt h
  have e : ∀ k, 1 ≤ k → limb m k = 0 := fun k hk => limb_high (k := 1) h hk
  unfold limbsV
  rw [e0, e 1 (by decide), e 2 (by decide), e 3 (by decide)]
  rfl
theorem ofN_limbs_neg (n : Int) (h : n < 0) (h2 : -9223372036854775808 ≤ n) : limbsV (ofN n) = #[.int .u64 (IntKind.u64.wrap n), .int .u64 18446744073709551615, .int .u64 18446744073709551615, .int .u64 18446744073709551615] := by
  obtain ⟨m, hm⟩ : ∃ m : Nat, n = (m : Int) - 2 ^ 64 := ⟨(n + 2 ^ 64).toNat, by omega⟩
  have hm64 : m < 2 ^ 64 := by omega
  have e : ofN n = ((m + (2 ^ 64 - 1) * 2 ^ (64 * 1)) + (2 ^ 64 - 1) * 2 ^ (64 * 2)) + (2 ^ 64 - 1) * 2 ^ (64 * 3) := by
    subst hm
    unfold ofN
    omega
  have hw : IntKind.u64.wrap n = (m : Nat) := by
    show n % 18446744073709551616 = _
    omega
  have l1 : m < 2 ^ (64 * 1) := hm64
  have l2 : m + (2 ^ 64 - 1) * 2 ^ (64 * 1) < 2 ^ (64 * 2) := by omega
  have l3 : m + (2 ^ 64 - 1) * 2 ^ (64 * 1) + (2 ^ 64 - 1) * 2 ^ (64 * 2) < 2 ^ (64 * 3) := by omega
  have t3 := fun j => limb_top l3 (show 2 ^ 64 - 1 < 2 ^ 64 by decide) j
  have t2 := fun j => limb_top l2 (show 2 ^ 64 - 1 < 2 ^ 64 by decide) j
  have t1 := fun j => limb_top l1 (show 2 ^ 64 - 1 < 2 ^ 64 by decide) j
  have e0 : limb m 0 = m := by unfold limb; rw [Nat.mul_zero, Nat.pow_zero, Nat.div_one]; exact Nat.mod_eq_of_lt hm64
  rw [e, hw]
  unfold limbsV
  rw [t3 0, t3 1, t3 2, t3 3, if_neg (by decide), if_neg (by decide), if_neg (by decide), if_pos rfl, t2 0, t2 1, t2 2, if_neg (by decide), if_neg (by decide), if_pos rfl, t1 0, t1 1, if_neg (by decide), if_pos rfl, e0]
  rfl

set_option maxRecDepth 100000 in
set_option maxHeartbeats 1000000 in
theorem Of_any (n : Int) (w : World) (h1 : -9223372036854775808 ≤ n) (h2 : n ≤ 9223372036854775807) : Calls Try.prog 12 #[.int .i64 n] w fun e w' => e = .returned (.agg (wcells (ofN n))) ∧ Below w.heap.size w w' := by
  have hW := wordTy
  have hN := numTy
  have zW := zWordL
  have zN := zNumL
  have HSN := Lib.hid limbsV_size
  have H1N := Lib.hid limbsV_one
  have HSW := Lib.hid wcells_size
  have H1W := Lib.hid wcells_one
  have HWd := Lib.hid (fun w => word_any (ofN n) w (ofN_lt n))
  have tok1 : True := trivial
  have tok2 : True := trivial
  have tok3 : True := trivial
  by_cases c : n < 0
  · rw [ofN_limbs_neg n c h1] at HWd
    generalize ofN n = s at *
    generalize hc0 : (#[.int .u64 (IntKind.u64.wrap n), .int .u64 0, .int .u64 0, .int .u64 0] : Array Value) = c0
    generalize hcl : (#[.int .u64 (IntKind.u64.wrap n), .int .u64 18446744073709551615, .int .u64 18446744073709551615, .int .u64 18446744073709551615] : Array Value) = cl at *
    have HC0S := Lib.hid (show c0.size = 4 from by rw [← hc0]; rfl)
    have HC01 := Lib.hid (show oneAll c0.toList = true from by rw [← hc0]; rfl)
    have HCS := Lib.hid (show cl.size = 4 from by rw [← hcl]; rfl)
    have HC1 := Lib.hid (show oneAll cl.toList = true from by rw [← hcl]; rfl)
    have hcl2 : ((c0.setIfInBounds 1 (.int .u64 18446744073709551615)).setIfInBounds 2 (.int .u64 18446744073709551615)).setIfInBounds 3 (.int .u64 18446744073709551615) = cl := by rw [← hc0, ← hcl]; rfl
    clear hcl
    go_enter Try.func12, Try.ntmps12
    go_wp2_with (first
      | ((with_reducible refine gd_alloc ?_); have _t := tok1; refine wpList_alloc_blk rfl 23 rfl zW ?_; clear tok1; intro w2 hx2 hb2 hl2)
      | ((with_reducible refine gd_alloc ?_); refine wpList_alloc_blk rfl 39 rfl zN ?_; intro w3 hx3 hb3 hl3)
      | ((with_reducible refine gd_store ?_); have _t := tok2; refine wpList_store_all rfl 39 (.tmp 3) (.tmp 6) rfl c0 hx3 (by rw [HC0S.out]; exact hN) (by rw [HC0S.out]; rfl) HC01.out (by rfl) (by rfl) ?_; clear tok2; intro w4 hx4 hg4)
      | ((with_reducible refine gd_store ?_); have _t := tok3; refine wpList_store_all rfl 39 (.tmp 3) (.tmp 11) rfl cl hx4 (by rw [HCS.out]; exact hN) (by rw [HC0S.out, HCS.out]) HC1.out (by rfl) (by rfl) ?_; clear tok3; intro w5 hx5 hg5)
      | ((with_reducible refine gd_load ?_); refine wpList_load_blk rfl 39 (.tmp 3) rfl hx5 (by rw [HCS.out]; exact hN) rfl ?_)
      | (go_at_call 46; refine (HWd.out _).mono ?_; rintro e w6 ⟨rfl, hb6⟩)
      | ((with_reducible refine gd_store ?_); refine wpList_store_all rfl 23 (.tmp 2) (.tmp 13) rfl (wcells s) ((((hx2.ext hb3).grown hg4 (by simp; omega)).grown hg5 (by simp; omega)).ext hb6) (by rw [HSW.out]; exact hW) (by rw [HSW.out]; exact HSW.out 0) (H1W.out _) (by rfl) (by rfl) ?_; intro w9 hx9 hg9)
      | fail)
    have hB3 := below_step hb2 hb3
    have hB4 := below_blk hB3 hB3.size hg4 (by omega)
    have hB5 := below_blk hB4 hB4.size hg5 (by omega)
    have hB6 := below_step hB5 hb6
    have hB9 := below_blk hB6 hB6.size hg9 (by omega)
    exact bodyPost_ret (results_blk1 (cs := wcells s) rfl (by rw [HSW.out]; exact hW) hx9 rfl) rfl ⟨rfl, hB9⟩
  · obtain ⟨m, rfl⟩ : ∃ m : Nat, n = m := ⟨n.toNat, by omega⟩
    rw [ofN_limbs_nat m (by omega)] at HWd
    generalize ofN (m : Int) = s at *
    generalize hc0 : (#[.int .u64 (m : Nat), .int .u64 0, .int .u64 0, .int .u64 0] : Array Value) = c0 at *
    have HC0S := Lib.hid (show c0.size = 4 from by rw [← hc0]; rfl)
    have HC01 := Lib.hid (show oneAll c0.toList = true from by rw [← hc0]; rfl)
    go_enter Try.func12, Try.ntmps12
    go_wp2_with (first
      | ((with_reducible refine gd_alloc ?_); have _t := tok1; refine wpList_alloc_blk rfl 23 rfl zW ?_; clear tok1; intro w2 hx2 hb2 hl2)
      | ((with_reducible refine gd_alloc ?_); refine wpList_alloc_blk rfl 39 rfl zN ?_; intro w3 hx3 hb3 hl3)
      | ((with_reducible refine gd_store ?_); have _t := tok2; refine wpList_store_all rfl 39 (.tmp 3) (.tmp 6) rfl c0 hx3 (by rw [HC0S.out]; exact hN) (by rw [HC0S.out]; rfl) HC01.out (by rfl) (by rfl) ?_; clear tok2; intro w4 hx4 hg4)
      | ((with_reducible refine gd_load ?_); refine wpList_load_blk rfl 39 (.tmp 3) rfl hx4 (by rw [HC0S.out]; exact hN) rfl ?_)
      | (go_at_call 46; refine (HWd.out _).mono ?_; rintro e w6 ⟨rfl, hb6⟩)
      | ((with_reducible refine gd_store ?_); refine wpList_store_all rfl 23 (.tmp 2) (.tmp 13) rfl (wcells s) (((hx2.ext hb3).grown hg4 (by simp; omega)).ext hb6) (by rw [HSW.out]; exact hW) (by rw [HSW.out]; exact HSW.out 0) (H1W.out _) (by rfl) (by rfl) ?_; intro w9 hx9 hg9)
      | fail)
    have hB3 := below_step hb2 hb3
    have hB4 := below_blk hB3 hB3.size hg4 (by omega)
    have hB6 := below_step hB4 hb6
    have hB9 := below_blk hB6 hB6.size hg9 (by omega)
    exact bodyPost_ret (results_blk1 (cs := wcells s) rfl (by rw [HSW.out]; exact hW) hx9 rfl) rfl ⟨rfl, hB9⟩
end Go.Mun
